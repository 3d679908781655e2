import Derived.Outline
import Derived.Test.YtnaljgmcpagbbaaGreatDoorKE
import Derived.Test.YtnaljgmcpagbbaaGreatDoorJI

/- The reference of layer 34: names. JclNames. -/
-- SIMP: beq_self_eq_true, Bool.and_self, List.take_length, decide_true, Bool.not_true, Bool.not_false
namespace Go.Proofs.YtnaljgmcpagbbaaGreatDoor
open Go.RowKit
set_option linter.unusedVariables false
set_option linter.unusedSimpArgs false
set_option maxHeartbeats 8000000 in
set_option maxRecDepth 4000 in
theorem letter_spec (c : UInt8) : Spec Tryz.prog 85 [.int .u8 ((c.toNat : Nat) : Int)] (.bool (alphaJ c)) := by
  have e1 : decide ((65 : Int) ≤ ((c.toNat : Nat) : Int)) = decide ((65 : UInt8) ≤ c) := u8le 65 c
  have e2 : decide (((c.toNat : Nat) : Int) ≤ (90 : Int)) = decide (c ≤ (90 : UInt8)) := u8ge 90 c
  have e3 : decide (((c.toNat : Nat) : Int) = (64 : Int)) = (c == 64) := u8eq 64 c
  have e4 : decide (((c.toNat : Nat) : Int) = (35 : Int)) = (c == 35) := u8eq 35 c
  have e5 : decide (((c.toNat : Nat) : Int) = (36 : Int)) = (c == 36) := u8eq 36 c
  have hA : alphaJ c = ((decide ((65 : UInt8) ≤ c) && decide (c ≤ (90 : UInt8))) || c == 64 || c == 35 || c == 36) := rfl
  rw [hA]
  generalize decide ((65 : UInt8) ≤ c) = b1 at e1
  generalize decide (c ≤ (90 : UInt8)) = b2 at e2
  generalize (c == 64) = b3 at e3
  generalize (c == 35) = b4 at e4
  generalize (c == 36) = b5 at e5
  refine spec_of tt_ok Tryz.func85 rfl (by decide) Tryz.ntmps85 (congrArg Array.toList Tryz.results85) (by simp) (by decide) rfl rfl (fun F hF => ?_)
  refine vwp_seq_k fun Na hNa => vreg tt_ok hF rfl ?_; simp only [go_sem, Int.reduceEq, Int.reduceNe, Int.reduceLT, Int.reduceLE, Nat.reduceEqDiff, Nat.reduceAdd, Nat.reduceMul, Nat.reduceLT, Nat.reduceLeDiff, Nat.reduceSub, reduceCtorEq, reduceIte, Int.reduceToNat, beq_self_eq_true, Bool.and_self, List.take_length, decide_true, Bool.not_true, Bool.not_false]
  refine hNa _ (VWp.keep [0] [] ?_); simp only [go_sem, Int.reduceEq, Int.reduceNe, Int.reduceLT, Int.reduceLE, Nat.reduceEqDiff, Nat.reduceAdd, Nat.reduceMul, Nat.reduceLT, Nat.reduceLeDiff, Nat.reduceSub, reduceCtorEq, reduceIte, Int.reduceToNat, beq_self_eq_true, Bool.and_self, List.take_length, decide_true, Bool.not_true, Bool.not_false]
  cases b1 <;> cases b2 <;> cases b3 <;> cases b4 <;> cases b5
  all_goals
    refine vwp_seq_k fun Nb hNb => vreg tt_ok hF rfl ?_; simp only [go_sem, Int.reduceEq, Int.reduceNe, Int.reduceLT, Int.reduceLE, Nat.reduceEqDiff, Nat.reduceAdd, Nat.reduceMul, Nat.reduceLT, Nat.reduceLeDiff, Nat.reduceSub, reduceCtorEq, reduceIte, Int.reduceToNat, beq_self_eq_true, Bool.and_self, List.take_length, decide_true, Bool.not_true, Bool.not_false, e1, e2, e3, e4, e5]
    refine hNb _ (VWp.keep [2] [] ?_); simp only [go_sem, Int.reduceEq, Int.reduceNe, Int.reduceLT, Int.reduceLE, Nat.reduceEqDiff, Nat.reduceAdd, Nat.reduceMul, Nat.reduceLT, Nat.reduceLeDiff, Nat.reduceSub, reduceCtorEq, reduceIte, Int.reduceToNat, beq_self_eq_true, Bool.and_self, List.take_length, decide_true, Bool.not_true, Bool.not_false]
    refine vwp_ret ?_
    simp only [go_sem, Int.reduceEq, Int.reduceNe, Int.reduceLT, Int.reduceLE, Nat.reduceEqDiff, Nat.reduceAdd, Nat.reduceMul, Nat.reduceLT, Nat.reduceLeDiff, Nat.reduceSub, reduceCtorEq, reduceIte, Int.reduceToNat, beq_self_eq_true, Bool.and_self, List.take_length, decide_true, Bool.not_true, Bool.not_false]
    exact LeV.of_eq (by simp)
theorem nmJ_all (s : Jb) : nmJ s = true ↔ (1 ≤ s.length ∧ s.length ≤ 8 ∧ alphaJ (s.getD 0 0) = true ∧ ∀ j < s.length, (alphaJ (s.getD j 0) || digJ (s.getD j 0)) = true) := by
  unfold nmJ
  simp only [Bool.and_eq_true, decide_eq_true_eq, headD_getD, List.all_eq_true]
  constructor
  · rintro ⟨⟨⟨h1, h2⟩, h3⟩, h4⟩
    refine ⟨h1, h2, h3, fun j hj => ?_⟩
    have := h4 s[j] (List.getElem_mem hj)
    rw [List.getD_eq_getElem?_getD, List.getElem?_eq_getElem hj]; exact this
  · rintro ⟨h1, h2, h3, h4⟩
    refine ⟨⟨⟨h1, h2⟩, h3⟩, fun c hc => ?_⟩
    obtain ⟨j, hj, rfl⟩ := List.getElem_of_mem hc
    have := h4 j hj
    rw [List.getD_eq_getElem?_getD, List.getElem?_eq_getElem hj] at this; exact this
set_option maxHeartbeats 8000000 in
set_option maxRecDepth 4000 in
theorem rName_spec (s : Jb) (hs : s.length ≤ 1000000000) : Spec Tryz.prog 63 [.str s] (.bool (nmJ s)) := by
  have h0 := nmJ_all s
  obtain ⟨R, hR⟩ : ∃ R, nmJ s = R := ⟨_, rfl⟩
  rw [hR] at h0 ⊢
  have hl := letter_spec (s.getD 0 0)
  have e1 : decide ((s.length : Int) < 1) = decide (s.length < 1) := by apply decide_eq_decide.2; omega
  have e2 : decide ((8 : Int) < (s.length : Int)) = decide (8 < s.length) := by apply decide_eq_decide.2; omega
  refine spec_of tt_ok Tryz.func63 rfl (by decide) Tryz.ntmps63 (congrArg Array.toList Tryz.results63) (by simp) (by decide) rfl rfl (fun F hF => ?_)
  refine vwp_seq_k fun Na hNa => vreg tt_ok hF rfl ?_; simp only [go_sem, Int.reduceEq, Int.reduceNe, Int.reduceLT, Int.reduceLE, Nat.reduceEqDiff, Nat.reduceAdd, Nat.reduceMul, Nat.reduceLT, Nat.reduceLeDiff, Nat.reduceSub, reduceCtorEq, reduceIte, Int.reduceToNat, beq_self_eq_true, Bool.and_self, List.take_length, decide_true, Bool.not_true, Bool.not_false]
  refine hNa _ (VWp.keep [0] [] ?_); simp only [go_sem, Int.reduceEq, Int.reduceNe, Int.reduceLT, Int.reduceLE, Nat.reduceEqDiff, Nat.reduceAdd, Nat.reduceMul, Nat.reduceLT, Nat.reduceLeDiff, Nat.reduceSub, reduceCtorEq, reduceIte, Int.reduceToNat, beq_self_eq_true, Bool.and_self, List.take_length, decide_true, Bool.not_true, Bool.not_false]
  refine vwp_seq_k fun Nb hNb => ?_
  refine vmeet (fun z : Bool => [(0, .str s), (17, .bool z)]) (fun _ => []) (fun z => z = (decide (s.length < 1) || decide (8 < s.length) || !alphaJ (s.getD 0 0))) ?_ ?_
  · by_cases h1 : s.length < 1
    · rw [decide_eq_true h1] at e1
      refine vreg tt_ok hF rfl ?_; simp only [go_sem, Int.reduceEq, Int.reduceNe, Int.reduceLT, Int.reduceLE, Nat.reduceEqDiff, Nat.reduceAdd, Nat.reduceMul, Nat.reduceLT, Nat.reduceLeDiff, Nat.reduceSub, reduceCtorEq, reduceIte, Int.reduceToNat, beq_self_eq_true, Bool.and_self, List.take_length, decide_true, Bool.not_true, Bool.not_false, e1]
      exact ⟨true, by simp [h1], rfl⟩
    · rw [decide_eq_false h1] at e1
      have hp0 : (0 : Int) < (s.length : Int) := by omega
      by_cases h2 : 8 < s.length
      · rw [decide_eq_true h2] at e2
        refine vreg tt_ok hF rfl ?_; simp only [go_sem, Int.reduceEq, Int.reduceNe, Int.reduceLT, Int.reduceLE, Nat.reduceEqDiff, Nat.reduceAdd, Nat.reduceMul, Nat.reduceLT, Nat.reduceLeDiff, Nat.reduceSub, reduceCtorEq, reduceIte, Int.reduceToNat, beq_self_eq_true, Bool.and_self, List.take_length, decide_true, Bool.not_true, Bool.not_false, e1, e2]
        exact ⟨true, by simp [h2], rfl⟩
      · rw [decide_eq_false h2] at e2
        refine vreg tt_ok hF rfl ?_; simp only [go_sem, Int.reduceEq, Int.reduceNe, Int.reduceLT, Int.reduceLE, Nat.reduceEqDiff, Nat.reduceAdd, Nat.reduceMul, Nat.reduceLT, Nat.reduceLeDiff, Nat.reduceSub, reduceCtorEq, reduceIte, Int.reduceToNat, beq_self_eq_true, Bool.and_self, List.take_length, decide_true, Bool.not_true, Bool.not_false, e1, e2, hp0]
        refine .inl ⟨_, hl, ?_⟩; try simp only [go_sem, Int.reduceEq, Int.reduceNe, Int.reduceLT, Int.reduceLE, Nat.reduceEqDiff, Nat.reduceAdd, Nat.reduceMul, Nat.reduceLT, Nat.reduceLeDiff, Nat.reduceSub, reduceCtorEq, reduceIte, Int.reduceToNat, beq_self_eq_true, Bool.and_self, List.take_length, decide_true, Bool.not_true, Bool.not_false]
        exact ⟨!alphaJ (s.getD 0 0), by simp [h1, h2], rfl⟩
  intro z hz
  refine vif rfl ⟨fun ht => ?_, fun hf => ?_⟩
  · have hRf : R = false := by
      cases R with
      | false => rfl
      | true =>
        obtain ⟨g1, g2, g3, g4⟩ := h0.1 rfl
        rw [ht, g3, decide_eq_false (by omega), decide_eq_false (by omega)] at hz
        cases hz
    subst hRf
    refine vwp_seq_k fun Nd hNd => vreg tt_ok hF rfl ?_; simp only [go_sem, Int.reduceEq, Int.reduceNe, Int.reduceLT, Int.reduceLE, Nat.reduceEqDiff, Nat.reduceAdd, Nat.reduceMul, Nat.reduceLT, Nat.reduceLeDiff, Nat.reduceSub, reduceCtorEq, reduceIte, Int.reduceToNat, beq_self_eq_true, Bool.and_self, List.take_length, decide_true, Bool.not_true, Bool.not_false]
    refine hNd _ (VWp.keep [2] [] ?_); simp only [go_sem, Int.reduceEq, Int.reduceNe, Int.reduceLT, Int.reduceLE, Nat.reduceEqDiff, Nat.reduceAdd, Nat.reduceMul, Nat.reduceLT, Nat.reduceLeDiff, Nat.reduceSub, reduceCtorEq, reduceIte, Int.reduceToNat, beq_self_eq_true, Bool.and_self, List.take_length, decide_true, Bool.not_true, Bool.not_false]
    refine vwp_ret ?_
    simp only [go_sem, Int.reduceEq, Int.reduceNe, Int.reduceLT, Int.reduceLE, Nat.reduceEqDiff, Nat.reduceAdd, Nat.reduceMul, Nat.reduceLT, Nat.reduceLeDiff, Nat.reduceSub, reduceCtorEq, reduceIte, Int.reduceToNat, beq_self_eq_true, Bool.and_self, List.take_length, decide_true, Bool.not_true, Bool.not_false]
    exact LeV.refl _
  rw [hf] at hz
  have hz := hz.symm
  simp only [Bool.or_eq_false_iff, decide_eq_false_iff_not, Bool.not_eq_false'] at hz
  obtain ⟨⟨z1, z2⟩, z3⟩ := hz
  refine vwp_skip (hNb _ ?_)
  refine vwp_seq_k fun Ne hNe => ?_
  refine vwp_seq_k fun Nf hNf => vreg tt_ok hF rfl ?_; simp only [go_sem, Int.reduceEq, Int.reduceNe, Int.reduceLT, Int.reduceLE, Nat.reduceEqDiff, Nat.reduceAdd, Nat.reduceMul, Nat.reduceLT, Nat.reduceLeDiff, Nat.reduceSub, reduceCtorEq, reduceIte, Int.reduceToNat, beq_self_eq_true, Bool.and_self, List.take_length, decide_true, Bool.not_true, Bool.not_false]
  refine hNf _ (VWp.keep [0,3] [] ?_); simp only [go_sem, Int.reduceEq, Int.reduceNe, Int.reduceLT, Int.reduceLE, Nat.reduceEqDiff, Nat.reduceAdd, Nat.reduceMul, Nat.reduceLT, Nat.reduceLeDiff, Nat.reduceSub, reduceCtorEq, reduceIte, Int.reduceToNat, beq_self_eq_true, Bool.and_self, List.take_length, decide_true, Bool.not_true, Bool.not_false]
  refine vwp_block (vloop (fun m : Nat => [(0, .str s), (3, .int .i64 (m : Int))]) (fun _ => []) (fun m => m ≤ s.length ∧ ∀ j < m, (alphaJ (s.getD j 0) || digJ (s.getD j 0)) = true) (fun m => s.length - m) 0 ⟨Nat.zero_le _, fun j hj => by omega⟩ (by simp only [go_sem, Int.reduceEq, Int.reduceNe, Int.reduceLT, Int.reduceLE, Nat.reduceEqDiff, Nat.reduceAdd, Nat.reduceMul, Nat.reduceLT, Nat.reduceLeDiff, Nat.reduceSub, reduceCtorEq, reduceIte, Int.reduceToNat, beq_self_eq_true, Bool.and_self, List.take_length, decide_true, Bool.not_true, Bool.not_false]) ?_)
  rintro m ⟨m1, m2⟩
  refine vwp_seq_k fun Ng hNg => ?_
  refine vwp_seq_k fun Nh hNh => vreg tt_ok hF rfl ?_; simp only [go_sem, Int.reduceEq, Int.reduceNe, Int.reduceLT, Int.reduceLE, Nat.reduceEqDiff, Nat.reduceAdd, Nat.reduceMul, Nat.reduceLT, Nat.reduceLeDiff, Nat.reduceSub, reduceCtorEq, reduceIte, Int.reduceToNat, beq_self_eq_true, Bool.and_self, List.take_length, decide_true, Bool.not_true, Bool.not_false]
  refine hNh _ (VWp.keep [0,3,21] [] ?_); simp only [go_sem, Int.reduceEq, Int.reduceNe, Int.reduceLT, Int.reduceLE, Nat.reduceEqDiff, Nat.reduceAdd, Nat.reduceMul, Nat.reduceLT, Nat.reduceLeDiff, Nat.reduceSub, reduceCtorEq, reduceIte, Int.reduceToNat, beq_self_eq_true, Bool.and_self, List.take_length, decide_true, Bool.not_true, Bool.not_false]
  refine vif rfl ⟨fun ht => ?_, fun hf => ?_⟩
  · have hlt : m < s.length := by have := of_decide_eq_true ht; omega
    have hpm : (0 : Int) ≤ (m : Int) ∧ (m : Int) < (s.length : Int) := ⟨by omega, by omega⟩
    have hl2 := letter_spec (s.getD m 0)
    have e3 : decide ((((s.getD m 0).toNat : Nat) : Int) < (48 : Int)) = !decide ((48 : UInt8) ≤ s.getD m 0) := u8lt 48 _
    have e4 : decide ((57 : Int) < (((s.getD m 0).toNat : Nat) : Int)) = !decide (s.getD m 0 ≤ (57 : UInt8)) := u8gt 57 _
    have hD : digJ (s.getD m 0) = (decide ((48 : UInt8) ≤ s.getD m 0) && decide (s.getD m 0 ≤ (57 : UInt8))) := rfl
    refine vwp_skip (hNg _ ?_)
    refine vwp_seq_k fun Ni hNi => ?_
    refine vwp_block ?_
    refine vmeet (fun z : Bool => [(0, .str s), (3, .int .i64 (m : Int)), (40, .bool z)]) (fun _ => []) (fun z => z = !(alphaJ (s.getD m 0) || digJ (s.getD m 0))) ?_ ?_
    · rw [hD]
      generalize alphaJ (s.getD m 0) = b1 at hl2 ⊢
      generalize decide ((48 : UInt8) ≤ s.getD m 0) = b2 at e3 ⊢
      generalize decide (s.getD m 0 ≤ (57 : UInt8)) = b3 at e4 ⊢
      cases b1 <;> cases b2 <;> cases b3
      all_goals
        refine vreg tt_ok hF rfl ?_; simp only [go_sem, Int.reduceEq, Int.reduceNe, Int.reduceLT, Int.reduceLE, Nat.reduceEqDiff, Nat.reduceAdd, Nat.reduceMul, Nat.reduceLT, Nat.reduceLeDiff, Nat.reduceSub, reduceCtorEq, reduceIte, Int.reduceToNat, beq_self_eq_true, Bool.and_self, List.take_length, decide_true, Bool.not_true, Bool.not_false, hpm]
        refine .inl ⟨_, hl2, ?_⟩; try simp only [go_sem, Int.reduceEq, Int.reduceNe, Int.reduceLT, Int.reduceLE, Nat.reduceEqDiff, Nat.reduceAdd, Nat.reduceMul, Nat.reduceLT, Nat.reduceLeDiff, Nat.reduceSub, reduceCtorEq, reduceIte, Int.reduceToNat, beq_self_eq_true, Bool.and_self, List.take_length, decide_true, Bool.not_true, Bool.not_false, hpm, e3, e4]
        exact ⟨_, rfl, by simp⟩
    intro y hy
    refine vif rfl ⟨fun ht => ?_, fun hf => ?_⟩
    · have hRf : R = false := by
        cases R with
        | false => rfl
        | true =>
          have := (h0.1 rfl).2.2.2 m hlt
          rw [this, ht] at hy; cases hy
      subst hRf
      refine vwp_seq_k fun Nk hNk => vreg tt_ok hF rfl ?_; simp only [go_sem, Int.reduceEq, Int.reduceNe, Int.reduceLT, Int.reduceLE, Nat.reduceEqDiff, Nat.reduceAdd, Nat.reduceMul, Nat.reduceLT, Nat.reduceLeDiff, Nat.reduceSub, reduceCtorEq, reduceIte, Int.reduceToNat, beq_self_eq_true, Bool.and_self, List.take_length, decide_true, Bool.not_true, Bool.not_false]
      refine hNk _ (VWp.keep [2] [] ?_); simp only [go_sem, Int.reduceEq, Int.reduceNe, Int.reduceLT, Int.reduceLE, Nat.reduceEqDiff, Nat.reduceAdd, Nat.reduceMul, Nat.reduceLT, Nat.reduceLeDiff, Nat.reduceSub, reduceCtorEq, reduceIte, Int.reduceToNat, beq_self_eq_true, Bool.and_self, List.take_length, decide_true, Bool.not_true, Bool.not_false]
      refine vwp_ret ?_
      simp only [go_sem, Int.reduceEq, Int.reduceNe, Int.reduceLT, Int.reduceLE, Nat.reduceEqDiff, Nat.reduceAdd, Nat.reduceMul, Nat.reduceLT, Nat.reduceLeDiff, Nat.reduceSub, reduceCtorEq, reduceIte, Int.reduceToNat, beq_self_eq_true, Bool.and_self, List.take_length, decide_true, Bool.not_true, Bool.not_false]
      exact LeV.refl _
    · refine vwp_skip (hNi _ ?_)
      refine vreg tt_ok hF rfl ?_; simp only [go_sem, Int.reduceEq, Int.reduceNe, Int.reduceLT, Int.reduceLE, Nat.reduceEqDiff, Nat.reduceAdd, Nat.reduceMul, Nat.reduceLT, Nat.reduceLeDiff, Nat.reduceSub, reduceCtorEq, reduceIte, Int.reduceToNat, beq_self_eq_true, Bool.and_self, List.take_length, decide_true, Bool.not_true, Bool.not_false]
      rw [wrap_i64 (by omega) (by omega)]
      refine ⟨m + 1, ⟨by omega, fun j hj => ?_⟩, by omega, by simp⟩
      rcases Nat.lt_succ_iff_lt_or_eq.1 hj with h | h
      · exact m2 j h
      · subst h; rw [hf] at hy; have hy := hy.symm; rw [Bool.not_eq_false'] at hy; exact hy
  · have hm : m = s.length := by have := of_decide_eq_false hf; omega
    subst hm
    have hRt : R = true := h0.2 ⟨by omega, by omega, z3, m2⟩
    subst hRt
    refine vwp_exit ?_
    simp only [go_sem, Int.reduceEq, Int.reduceNe, Int.reduceLT, Int.reduceLE, Nat.reduceEqDiff, Nat.reduceAdd, Nat.reduceMul, Nat.reduceLT, Nat.reduceLeDiff, Nat.reduceSub, reduceCtorEq, reduceIte, Int.reduceToNat, beq_self_eq_true, Bool.and_self, List.take_length, decide_true, Bool.not_true, Bool.not_false]
    refine hNe _ (VWp.keepR [] [] tt_ok hF rfl fun Nl hNl => ?_); simp only [go_sem, Int.reduceEq, Int.reduceNe, Int.reduceLT, Int.reduceLE, Nat.reduceEqDiff, Nat.reduceAdd, Nat.reduceMul, Nat.reduceLT, Nat.reduceLeDiff, Nat.reduceSub, reduceCtorEq, reduceIte, Int.reduceToNat, beq_self_eq_true, Bool.and_self, List.take_length, decide_true, Bool.not_true, Bool.not_false]
    refine hNl _ (VWp.keep [2] [] ?_); simp only [go_sem, Int.reduceEq, Int.reduceNe, Int.reduceLT, Int.reduceLE, Nat.reduceEqDiff, Nat.reduceAdd, Nat.reduceMul, Nat.reduceLT, Nat.reduceLeDiff, Nat.reduceSub, reduceCtorEq, reduceIte, Int.reduceToNat, beq_self_eq_true, Bool.and_self, List.take_length, decide_true, Bool.not_true, Bool.not_false]
    refine vwp_ret ?_
    simp only [go_sem, Int.reduceEq, Int.reduceNe, Int.reduceLT, Int.reduceLE, Nat.reduceEqDiff, Nat.reduceAdd, Nat.reduceMul, Nat.reduceLT, Nat.reduceLeDiff, Nat.reduceSub, reduceCtorEq, reduceIte, Int.reduceToNat, beq_self_eq_true, Bool.and_self, List.take_length, decide_true, Bool.not_true, Bool.not_false]
    exact LeV.refl _
theorem words_cut (c : UInt8) (s : Jb) : ∀ (m fr : Nat), fr ≤ m → m ≤ s.length → (∀ j, fr ≤ j → j < m → s.getD j 0 ≠ c) →
    wordsJ c (s.drop fr) = match wordsJ c (s.drop m) with | w :: ws => ((s.take m).drop fr ++ w) :: ws | [] => [(s.take m).drop fr] := by
  intro m fr h1 h2 h3
  obtain ⟨k, rfl⟩ : ∃ k, m = fr + k := ⟨m - fr, by omega⟩
  clear h1
  induction k generalizing fr with
  | zero =>
    rw [Nat.add_zero]
    have : (s.take fr).drop fr = [] := by simp
    rw [this]
    cases hw : wordsJ c (s.drop fr) with
    | nil =>
      exfalso
      cases hd : s.drop fr with
      | nil => rw [hd] at hw; cases hw
      | cons x t =>
        rw [hd, wordsJ] at hw
        split at hw
        · cases hw
        · split at hw <;> cases hw
    | cons w ws => rfl
  | succ k ih =>
    have hlt : fr < s.length := by omega
    rw [drop_at s fr hlt, wordsJ]
    have hne : (s.getD fr 0 == c) = false := by simpa using h3 fr (Nat.le_refl _) (by omega)
    rw [hne]
    have ih2 := ih (fr + 1) (by omega) (fun j hj1 hj2 => h3 j (by omega) (by omega))
    rw [show fr + 1 + k = fr + (k + 1) by omega] at ih2
    rw [ih2]
    have ht : (s.take (fr + (k + 1))).drop fr = s.getD fr 0 :: (s.take (fr + (k + 1))).drop (fr + 1) := by
      have hl : fr < (s.take (fr + (k + 1))).length := by rw [List.length_take]; omega
      rw [drop_at _ fr hl]
      congr 1
      rw [List.getD_eq_getElem?_getD, List.getD_eq_getElem?_getD, List.getElem?_take, if_pos (by omega)]
    rw [ht]
    cases wordsJ c (s.drop (fr + (k + 1))) <;> rfl
theorem words_nil (c : UInt8) (s : Jb) (fr : Nat) (h1 : fr ≤ s.length) (h3 : ∀ j, fr ≤ j → j < s.length → s.getD j 0 ≠ c) : wordsJ c (s.drop fr) = [s.drop fr] := by
  have := words_cut c s s.length fr h1 (Nat.le_refl _) h3
  rw [List.drop_length, List.take_length] at this
  rw [this]; simp [wordsJ]
theorem words_hit (c : UInt8) (s : Jb) (m fr : Nat) (h1 : fr ≤ m) (h2 : m < s.length) (h3 : ∀ j, fr ≤ j → j < m → s.getD j 0 ≠ c) (h4 : s.getD m 0 = c) : wordsJ c (s.drop fr) = (s.take m).drop fr :: wordsJ c (s.drop (m + 1)) := by
  have := words_cut c s m fr h1 (by omega) h3
  rw [this, drop_at s m h2, wordsJ, h4]
  simp
set_option maxHeartbeats 8000000 in
set_option maxRecDepth 4000 in
theorem words_spec (s : Jb) (c : UInt8) (hs : s.length ≤ 100000000) : Spec Tryz.prog 50 [.str s, .int .u8 ((c.toNat : Nat) : Int)] (strsV (wordsJ c s)) := by
  obtain ⟨R, hR⟩ : ∃ R, wordsJ c s = R := ⟨_, rfl⟩
  rw [hR]
  refine spec_of tt_ok Tryz.func50 rfl (by decide) Tryz.ntmps50 (congrArg Array.toList Tryz.results50) (by simp) (by decide) rfl rfl (fun F hF => ?_)
  refine vwp_seq_k fun Na hNa => vreg tt_ok hF rfl ?_; simp only [go_sem, Int.reduceEq, Int.reduceNe, Int.reduceLT, Int.reduceLE, Nat.reduceEqDiff, Nat.reduceAdd, Nat.reduceMul, Nat.reduceLT, Nat.reduceLeDiff, Nat.reduceSub, reduceCtorEq, reduceIte, Int.reduceToNat, beq_self_eq_true, Bool.and_self, List.take_length, decide_true, Bool.not_true, Bool.not_false]
  refine hNa _ (VWp.keepR [0,1] [] tt_ok hF rfl fun Nb hNb => ?_); simp only [go_sem, Int.reduceEq, Int.reduceNe, Int.reduceLT, Int.reduceLE, Nat.reduceEqDiff, Nat.reduceAdd, Nat.reduceMul, Nat.reduceLT, Nat.reduceLeDiff, Nat.reduceSub, reduceCtorEq, reduceIte, Int.reduceToNat, beq_self_eq_true, Bool.and_self, List.take_length, decide_true, Bool.not_true, Bool.not_false]
  refine hNb _ (VWp.keepR [0,1,5] [] tt_ok hF rfl fun Nc hNc => ?_); simp only [go_sem, Int.reduceEq, Int.reduceNe, Int.reduceLT, Int.reduceLE, Nat.reduceEqDiff, Nat.reduceAdd, Nat.reduceMul, Nat.reduceLT, Nat.reduceLeDiff, Nat.reduceSub, reduceCtorEq, reduceIte, Int.reduceToNat, beq_self_eq_true, Bool.and_self, List.take_length, decide_true, Bool.not_true, Bool.not_false]
  refine hNc _ (VWp.keep [0,1,5,6] [] ?_); simp only [go_sem, Int.reduceEq, Int.reduceNe, Int.reduceLT, Int.reduceLE, Nat.reduceEqDiff, Nat.reduceAdd, Nat.reduceMul, Nat.reduceLT, Nat.reduceLeDiff, Nat.reduceSub, reduceCtorEq, reduceIte, Int.reduceToNat, beq_self_eq_true, Bool.and_self, List.take_length, decide_true, Bool.not_true, Bool.not_false]
  refine vwp_seq_k fun Nd hNd => ?_
  refine vwp_seq_k fun Ne hNe => vreg tt_ok hF rfl ?_; simp only [go_sem, Int.reduceEq, Int.reduceNe, Int.reduceLT, Int.reduceLE, Nat.reduceEqDiff, Nat.reduceAdd, Nat.reduceMul, Nat.reduceLT, Nat.reduceLeDiff, Nat.reduceSub, reduceCtorEq, reduceIte, Int.reduceToNat, beq_self_eq_true, Bool.and_self, List.take_length, decide_true, Bool.not_true, Bool.not_false]
  refine hNe _ (VWp.keep [0,1,5,6,7] [] ?_); simp only [go_sem, Int.reduceEq, Int.reduceNe, Int.reduceLT, Int.reduceLE, Nat.reduceEqDiff, Nat.reduceAdd, Nat.reduceMul, Nat.reduceLT, Nat.reduceLeDiff, Nat.reduceSub, reduceCtorEq, reduceIte, Int.reduceToNat, beq_self_eq_true, Bool.and_self, List.take_length, decide_true, Bool.not_true, Bool.not_false]
  refine VWp.adopt 500000 1 9 (x := 5) rfl rfl (by decide) ?_ (closed_of (by simp only [go_sem, Int.reduceEq, Int.reduceNe, Int.reduceLT, Int.reduceLE, Nat.reduceEqDiff, Nat.reduceAdd, Nat.reduceMul, Nat.reduceLT, Nat.reduceLeDiff, Nat.reduceSub, reduceCtorEq, reduceIte, Int.reduceToNat, beq_self_eq_true, Bool.and_self, List.take_length, decide_true, Bool.not_true, Bool.not_false]) (by simp only [go_sem, Int.reduceEq, Int.reduceNe, Int.reduceLT, Int.reduceLE, Nat.reduceEqDiff, Nat.reduceAdd, Nat.reduceMul, Nat.reduceLT, Nat.reduceLeDiff, Nat.reduceSub, reduceCtorEq, reduceIte, Int.reduceToNat, beq_self_eq_true, Bool.and_self, List.take_length, decide_true, Bool.not_true, Bool.not_false]))
  refine VWp.keep [0,1,5,6,7] [500000] ?_; simp only [go_sem, Int.reduceEq, Int.reduceNe, Int.reduceLT, Int.reduceLE, Nat.reduceEqDiff, Nat.reduceAdd, Nat.reduceMul, Nat.reduceLT, Nat.reduceLeDiff, Nat.reduceSub, reduceCtorEq, reduceIte, Int.reduceToNat, beq_self_eq_true, Bool.and_self, List.take_length, decide_true, Bool.not_true, Bool.not_false]
  refine vwp_block (vloop (fun z : Nat × Nat × List Jb => [(0, .str s), (1, .int .u8 ((c.toNat : Nat) : Int)), (5, .own 500000 z.2.2.length), (6, .int .i64 (z.2.1 : Int)), (7, .int .i64 (z.1 : Int))]) (fun z => [(500000, .arr 1 9 (z.2.2.map fun w => [V.str w]))])
    (fun z => z.1 ≤ s.length ∧ z.2.1 ≤ z.1 ∧ z.2.2.length ≤ z.1 ∧ (∀ j, z.2.1 ≤ j → j < z.1 → s.getD j 0 ≠ c) ∧ z.2.2 ++ wordsJ c (s.drop z.2.1) = R) (fun z => s.length - z.1) (0, 0, []) ⟨Nat.zero_le _, Nat.le_refl _, Nat.le_refl _, fun j h1 h2 => by simp only at h2; omega, by simpa using hR⟩ (by simp only [go_sem, Int.reduceEq, Int.reduceNe, Int.reduceLT, Int.reduceLE, Nat.reduceEqDiff, Nat.reduceAdd, Nat.reduceMul, Nat.reduceLT, Nat.reduceLeDiff, Nat.reduceSub, reduceCtorEq, reduceIte, Int.reduceToNat, beq_self_eq_true, Bool.and_self, List.take_length, decide_true, Bool.not_true, Bool.not_false]) ?_)
  rintro ⟨m, fr, out⟩ ⟨m1, m2, m3, m4, m5⟩
  have m1 : m ≤ s.length := m1
  have m2 : fr ≤ m := m2
  have m3 : out.length ≤ m := m3
  have m4 : ∀ j, fr ≤ j → j < m → s.getD j 0 ≠ c := m4
  have m5 : out ++ wordsJ c (s.drop fr) = R := m5
  try dsimp only
  refine vwp_seq_k fun Nf hNf => ?_
  refine vwp_seq_k fun Ng hNg => vreg tt_ok hF rfl ?_; simp only [go_sem, Int.reduceEq, Int.reduceNe, Int.reduceLT, Int.reduceLE, Nat.reduceEqDiff, Nat.reduceAdd, Nat.reduceMul, Nat.reduceLT, Nat.reduceLeDiff, Nat.reduceSub, reduceCtorEq, reduceIte, Int.reduceToNat, beq_self_eq_true, Bool.and_self, List.take_length, decide_true, Bool.not_true, Bool.not_false]
  refine hNg _ (VWp.keep [0,1,5,6,7,11] [500000] ?_); simp only [go_sem, Int.reduceEq, Int.reduceNe, Int.reduceLT, Int.reduceLE, Nat.reduceEqDiff, Nat.reduceAdd, Nat.reduceMul, Nat.reduceLT, Nat.reduceLeDiff, Nat.reduceSub, reduceCtorEq, reduceIte, Int.reduceToNat, beq_self_eq_true, Bool.and_self, List.take_length, decide_true, Bool.not_true, Bool.not_false]
  refine vif rfl ⟨fun ht => ?_, fun hf => ?_⟩
  · have hlt : m < s.length := by have := of_decide_eq_true ht; omega
    have hpm : (0 : Int) ≤ (m : Int) ∧ (m : Int) < (s.length : Int) := ⟨by omega, by omega⟩
    have e1 : decide ((((s.getD m 0).toNat : Nat) : Int) = ((c.toNat : Nat) : Int)) = (s.getD m 0 == c) := u8eq c _
    refine vwp_skip (hNf _ ?_)
    refine vwp_seq_k fun Nh hNh => ?_
    refine vwp_block ?_
    refine vwp_seq_k fun Ni hNi => vreg tt_ok hF rfl ?_; simp only [go_sem, Int.reduceEq, Int.reduceNe, Int.reduceLT, Int.reduceLE, Nat.reduceEqDiff, Nat.reduceAdd, Nat.reduceMul, Nat.reduceLT, Nat.reduceLeDiff, Nat.reduceSub, reduceCtorEq, reduceIte, Int.reduceToNat, beq_self_eq_true, Bool.and_self, List.take_length, decide_true, Bool.not_true, Bool.not_false, hpm, e1]
    refine hNi _ (VWp.keep [0,1,5,6,7,18] [500000] ?_); simp only [go_sem, Int.reduceEq, Int.reduceNe, Int.reduceLT, Int.reduceLE, Nat.reduceEqDiff, Nat.reduceAdd, Nat.reduceMul, Nat.reduceLT, Nat.reduceLeDiff, Nat.reduceSub, reduceCtorEq, reduceIte, Int.reduceToNat, beq_self_eq_true, Bool.and_self, List.take_length, decide_true, Bool.not_true, Bool.not_false]
    refine vif rfl ⟨fun ht => ?_, fun hf => ?_⟩
    · have hc : s.getD m 0 = c := by simpa using ht
      rw [words_hit c s m fr m2 hlt m4 hc] at m5
      refine vwp_seq_k fun Nj hNj => vreg tt_ok hF rfl ?_; simp only [go_sem, Int.reduceEq, Int.reduceNe, Int.reduceLT, Int.reduceLE, Nat.reduceEqDiff, Nat.reduceAdd, Nat.reduceMul, Nat.reduceLT, Nat.reduceLeDiff, Nat.reduceSub, reduceCtorEq, reduceIte, Int.reduceToNat, beq_self_eq_true, Bool.and_self, List.take_length, decide_true, Bool.not_true, Bool.not_false]
      refine ⟨⟨by omega, by omega, by omega⟩, by omega, ?_⟩
      refine hNj _ (VWp.keep [0,1,5,7] [500000] ?_); simp only [go_sem, Int.reduceEq, Int.reduceNe, Int.reduceLT, Int.reduceLE, Nat.reduceEqDiff, Nat.reduceAdd, Nat.reduceMul, Nat.reduceLT, Nat.reduceLeDiff, Nat.reduceSub, reduceCtorEq, reduceIte, Int.reduceToNat, beq_self_eq_true, Bool.and_self, List.take_length, decide_true, Bool.not_true, Bool.not_false]
      refine vreg tt_ok hF rfl ?_; simp only [go_sem, Int.reduceEq, Int.reduceNe, Int.reduceLT, Int.reduceLE, Nat.reduceEqDiff, Nat.reduceAdd, Nat.reduceMul, Nat.reduceLT, Nat.reduceLeDiff, Nat.reduceSub, reduceCtorEq, reduceIte, Int.reduceToNat, beq_self_eq_true, Bool.and_self, List.take_length, decide_true, Bool.not_true, Bool.not_false]
      rw [wrap_i64 (by omega) (by omega)]
      refine hNh _ (VWp.keep [0,1,5,6,7] [500000] ?_); simp only [go_sem, Int.reduceEq, Int.reduceNe, Int.reduceLT, Int.reduceLE, Nat.reduceEqDiff, Nat.reduceAdd, Nat.reduceMul, Nat.reduceLT, Nat.reduceLeDiff, Nat.reduceSub, reduceCtorEq, reduceIte, Int.reduceToNat, beq_self_eq_true, Bool.and_self, List.take_length, decide_true, Bool.not_true, Bool.not_false]
      refine vreg tt_ok hF rfl ?_; simp only [go_sem, Int.reduceEq, Int.reduceNe, Int.reduceLT, Int.reduceLE, Nat.reduceEqDiff, Nat.reduceAdd, Nat.reduceMul, Nat.reduceLT, Nat.reduceLeDiff, Nat.reduceSub, reduceCtorEq, reduceIte, Int.reduceToNat, beq_self_eq_true, Bool.and_self, List.take_length, decide_true, Bool.not_true, Bool.not_false]
      rw [wrap_i64 (by omega) (by omega)]
      exact ⟨(m + 1, m + 1, out ++ [(s.take m).drop fr]), ⟨by simp only; omega, Nat.le_refl _, by simp; omega, fun j h1 h2 => by simp only at h1 h2; omega, by simpa using m5⟩, by simp only; omega, by simp⟩
    · have hc : s.getD m 0 ≠ c := by simpa using hf
      refine vwp_skip (hNh _ ?_)
      refine vreg tt_ok hF rfl ?_; simp only [go_sem, Int.reduceEq, Int.reduceNe, Int.reduceLT, Int.reduceLE, Nat.reduceEqDiff, Nat.reduceAdd, Nat.reduceMul, Nat.reduceLT, Nat.reduceLeDiff, Nat.reduceSub, reduceCtorEq, reduceIte, Int.reduceToNat, beq_self_eq_true, Bool.and_self, List.take_length, decide_true, Bool.not_true, Bool.not_false]
      rw [wrap_i64 (by omega) (by omega)]
      refine ⟨(m + 1, fr, out), ⟨by simp only; omega, by simp only; omega, by simp only; omega, fun j h1 h2 => ?_, m5⟩, by simp only; omega, by simp⟩
      simp only at h1 h2
      rcases Nat.lt_succ_iff_lt_or_eq.1 h2 with h | h
      · exact m4 j h1 h
      · rw [h]; exact hc
  · have hm : m = s.length := by have := of_decide_eq_false hf; omega
    subst hm
    rw [words_nil c s fr m2 m4] at m5
    subst m5
    refine vwp_exit ?_
    simp only [go_sem, Int.reduceEq, Int.reduceNe, Int.reduceLT, Int.reduceLE, Nat.reduceEqDiff, Nat.reduceAdd, Nat.reduceMul, Nat.reduceLT, Nat.reduceLeDiff, Nat.reduceSub, reduceCtorEq, reduceIte, Int.reduceToNat, beq_self_eq_true, Bool.and_self, List.take_length, decide_true, Bool.not_true, Bool.not_false]
    refine hNd _ (VWp.keepR [0,5,6] [500000] tt_ok hF rfl fun Nk hNk => ?_); simp only [go_sem, Int.reduceEq, Int.reduceNe, Int.reduceLT, Int.reduceLE, Nat.reduceEqDiff, Nat.reduceAdd, Nat.reduceMul, Nat.reduceLT, Nat.reduceLeDiff, Nat.reduceSub, reduceCtorEq, reduceIte, Int.reduceToNat, beq_self_eq_true, Bool.and_self, List.take_length, decide_true, Bool.not_true, Bool.not_false]
    refine ⟨⟨by omega, by omega⟩, by omega, ?_⟩
    refine hNk _ (VWp.keep [4] [500000] ?_); simp only [go_sem, Int.reduceEq, Int.reduceNe, Int.reduceLT, Int.reduceLE, Nat.reduceEqDiff, Nat.reduceAdd, Nat.reduceMul, Nat.reduceLT, Nat.reduceLeDiff, Nat.reduceSub, reduceCtorEq, reduceIte, Int.reduceToNat, beq_self_eq_true, Bool.and_self, List.take_length, decide_true, Bool.not_true, Bool.not_false]
    refine vwp_ret ?_
    simp only [go_sem, Int.reduceEq, Int.reduceNe, Int.reduceLT, Int.reduceLE, Nat.reduceEqDiff, Nat.reduceAdd, Nat.reduceMul, Nat.reduceLT, Nat.reduceLeDiff, Nat.reduceSub, reduceCtorEq, reduceIte, Int.reduceToNat, beq_self_eq_true, Bool.and_self, List.take_length, decide_true, Bool.not_true, Bool.not_false]
    exact LeV.of_eq (by simp [strsV])
theorem words_len (c : UInt8) : ∀ s : Jb, (wordsJ c s).length ≤ s.length + 1 ∧ ∀ w ∈ wordsJ c s, w.length ≤ s.length
  | [] => ⟨by simp [wordsJ], fun w hw => by simp [wordsJ] at hw; subst hw; simp⟩
  | x :: t => by
    obtain ⟨h1, h2⟩ := words_len c t
    rw [wordsJ]
    split
    · refine ⟨by simp; omega, fun w hw => ?_⟩
      rcases List.mem_cons.1 hw with rfl | hw
      · simp
      · have := h2 w hw; simp only [List.length_cons]; omega
    · split
      · exact ⟨by simp, fun w hw => by rw [List.mem_singleton] at hw; subst hw; simp⟩
      · rename_i w0 ws hw0
        rw [hw0] at h1 h2
        refine ⟨by simp only [List.length_cons] at h1 ⊢; omega, fun w hw => ?_⟩
        rcases List.mem_cons.1 hw with rfl | hw
        · have := h2 w0 List.mem_cons_self; simp only [List.length_cons]; omega
        · have := h2 w (List.mem_cons_of_mem _ hw); simp only [List.length_cons]; omega
set_option maxHeartbeats 8000000 in
set_option maxRecDepth 4000 in
theorem key_spec (s : Jb) (hs : s.length ≤ 100000000) : Spec Tryz.prog 49 [.str s] (.bool (keyJ s)) := by
  have h1 := words_spec s 46 hs
  obtain ⟨hl1, hl2⟩ := words_len 46 s
  have hk : keyJ s = (wordsJ 46 s).all nmJ := rfl
  rw [hk]
  generalize wordsJ 46 s = l at h1 hl1 hl2
  obtain ⟨R, hR⟩ : ∃ R, l.all nmJ = R := ⟨_, rfl⟩
  rw [hR]
  have h1 : Spec Tryz.prog 50 [.str s, .int .u8 46] (strsV l) := h1
  refine spec_of tt_ok Tryz.func49 rfl (by decide) Tryz.ntmps49 (congrArg Array.toList Tryz.results49) (by simp) (by decide) rfl rfl (fun F hF => ?_)
  refine vwp_seq_k fun Na hNa => vreg tt_ok hF rfl ?_; simp only [go_sem, Int.reduceEq, Int.reduceNe, Int.reduceLT, Int.reduceLE, Nat.reduceEqDiff, Nat.reduceAdd, Nat.reduceMul, Nat.reduceLT, Nat.reduceLeDiff, Nat.reduceSub, reduceCtorEq, reduceIte, Int.reduceToNat, beq_self_eq_true, Bool.and_self, List.take_length, decide_true, Bool.not_true, Bool.not_false]
  refine hNa _ (VWp.keepR [0] [] tt_ok hF rfl fun Nb hNb => ?_); simp only [go_sem, Int.reduceEq, Int.reduceNe, Int.reduceLT, Int.reduceLE, Nat.reduceEqDiff, Nat.reduceAdd, Nat.reduceMul, Nat.reduceLT, Nat.reduceLeDiff, Nat.reduceSub, reduceCtorEq, reduceIte, Int.reduceToNat, beq_self_eq_true, Bool.and_self, List.take_length, decide_true, Bool.not_true, Bool.not_false]
  refine .inl ⟨_, h1, ?_⟩; try simp only [go_sem, Int.reduceEq, Int.reduceNe, Int.reduceLT, Int.reduceLE, Nat.reduceEqDiff, Nat.reduceAdd, Nat.reduceMul, Nat.reduceLT, Nat.reduceLeDiff, Nat.reduceSub, reduceCtorEq, reduceIte, Int.reduceToNat, beq_self_eq_true, Bool.and_self, List.take_length, decide_true, Bool.not_true, Bool.not_false]
  refine hNb _ (VWp.keep [3] [] ?_); simp only [go_sem, Int.reduceEq, Int.reduceNe, Int.reduceLT, Int.reduceLE, Nat.reduceEqDiff, Nat.reduceAdd, Nat.reduceMul, Nat.reduceLT, Nat.reduceLeDiff, Nat.reduceSub, reduceCtorEq, reduceIte, Int.reduceToNat, beq_self_eq_true, Bool.and_self, List.take_length, decide_true, Bool.not_true, Bool.not_false]
  refine vwp_seq_k fun Nc hNc => ?_
  refine vwp_seq_k fun Nd hNd => vreg tt_ok hF rfl ?_; simp only [go_sem, Int.reduceEq, Int.reduceNe, Int.reduceLT, Int.reduceLE, Nat.reduceEqDiff, Nat.reduceAdd, Nat.reduceMul, Nat.reduceLT, Nat.reduceLeDiff, Nat.reduceSub, reduceCtorEq, reduceIte, Int.reduceToNat, beq_self_eq_true, Bool.and_self, List.take_length, decide_true, Bool.not_true, Bool.not_false]
  refine hNd _ (VWp.keep [3,4] [] ?_); simp only [go_sem, Int.reduceEq, Int.reduceNe, Int.reduceLT, Int.reduceLE, Nat.reduceEqDiff, Nat.reduceAdd, Nat.reduceMul, Nat.reduceLT, Nat.reduceLeDiff, Nat.reduceSub, reduceCtorEq, reduceIte, Int.reduceToNat, beq_self_eq_true, Bool.and_self, List.take_length, decide_true, Bool.not_true, Bool.not_false]
  refine vwp_block (vloop (fun m : Nat => [(3, strsV l), (4, .int .i64 (m : Int))]) (fun _ => []) (fun m => m ≤ l.length ∧ ∀ x ∈ l.take m, nmJ x = true) (fun m => l.length - m) 0 ⟨Nat.zero_le _, by simp⟩ (by simp only [go_sem, Int.reduceEq, Int.reduceNe, Int.reduceLT, Int.reduceLE, Nat.reduceEqDiff, Nat.reduceAdd, Nat.reduceMul, Nat.reduceLT, Nat.reduceLeDiff, Nat.reduceSub, reduceCtorEq, reduceIte, Int.reduceToNat, beq_self_eq_true, Bool.and_self, List.take_length, decide_true, Bool.not_true, Bool.not_false]) ?_)
  rintro m ⟨m1, m2⟩
  refine vwp_seq_k fun Ne hNe => ?_
  refine vwp_seq_k fun Nf hNf => vreg tt_ok hF rfl ?_; simp only [go_sem, Int.reduceEq, Int.reduceNe, Int.reduceLT, Int.reduceLE, Nat.reduceEqDiff, Nat.reduceAdd, Nat.reduceMul, Nat.reduceLT, Nat.reduceLeDiff, Nat.reduceSub, reduceCtorEq, reduceIte, Int.reduceToNat, beq_self_eq_true, Bool.and_self, List.take_length, decide_true, Bool.not_true, Bool.not_false, List.length_map]
  refine hNf _ (VWp.keep [3,4,10] [] ?_); simp only [go_sem, Int.reduceEq, Int.reduceNe, Int.reduceLT, Int.reduceLE, Nat.reduceEqDiff, Nat.reduceAdd, Nat.reduceMul, Nat.reduceLT, Nat.reduceLeDiff, Nat.reduceSub, reduceCtorEq, reduceIte, Int.reduceToNat, beq_self_eq_true, Bool.and_self, List.take_length, decide_true, Bool.not_true, Bool.not_false]
  refine vif rfl ⟨fun ht => ?_, fun hf => ?_⟩
  · have hlt : m < l.length := by have := of_decide_eq_true ht; omega
    obtain ⟨x, hx⟩ : ∃ x, l[m]? = some x := ⟨_, List.getElem?_eq_getElem hlt⟩
    have hr1 : (l.map fun w => [V.str w]).getD m [] = [.str x] := by simp [hx]
    have hp1 : (0 : Int) ≤ (m : Int) ∧ (m : Int) < (l.length : Int) := ⟨by omega, by omega⟩
    have hxl := hl2 x (List.mem_of_getElem? hx)
    have h2 := rName_spec x (by omega)
    refine vwp_skip (hNe _ ?_)
    refine vwp_seq_k fun Ng hNg => ?_
    refine vwp_block ?_
    refine vwp_seq_k fun Nh hNh => vreg tt_ok hF rfl ?_; simp only [go_sem, Int.reduceEq, Int.reduceNe, Int.reduceLT, Int.reduceLE, Nat.reduceEqDiff, Nat.reduceAdd, Nat.reduceMul, Nat.reduceLT, Nat.reduceLeDiff, Nat.reduceSub, reduceCtorEq, reduceIte, Int.reduceToNat, beq_self_eq_true, Bool.and_self, List.take_length, decide_true, Bool.not_true, Bool.not_false, List.length_map, hp1, hr1]
    refine .inl ⟨_, h2, ?_⟩; try simp only [go_sem, Int.reduceEq, Int.reduceNe, Int.reduceLT, Int.reduceLE, Nat.reduceEqDiff, Nat.reduceAdd, Nat.reduceMul, Nat.reduceLT, Nat.reduceLeDiff, Nat.reduceSub, reduceCtorEq, reduceIte, Int.reduceToNat, beq_self_eq_true, Bool.and_self, List.take_length, decide_true, Bool.not_true, Bool.not_false]
    refine hNh _ (VWp.keep [3,4,18] [] ?_); simp only [go_sem, Int.reduceEq, Int.reduceNe, Int.reduceLT, Int.reduceLE, Nat.reduceEqDiff, Nat.reduceAdd, Nat.reduceMul, Nat.reduceLT, Nat.reduceLeDiff, Nat.reduceSub, reduceCtorEq, reduceIte, Int.reduceToNat, beq_self_eq_true, Bool.and_self, List.take_length, decide_true, Bool.not_true, Bool.not_false]
    cases hn : nmJ x
    · refine vif rfl ⟨fun ht => ?_, fun hf => (by cases hf)⟩
      have hRf : R = false := by
        rw [← hR, List.all_eq_false]
        exact ⟨x, List.mem_of_getElem? hx, by rw [hn]; decide⟩
      subst hRf
      refine vwp_seq_k fun Ni hNi => vreg tt_ok hF rfl ?_; simp only [go_sem, Int.reduceEq, Int.reduceNe, Int.reduceLT, Int.reduceLE, Nat.reduceEqDiff, Nat.reduceAdd, Nat.reduceMul, Nat.reduceLT, Nat.reduceLeDiff, Nat.reduceSub, reduceCtorEq, reduceIte, Int.reduceToNat, beq_self_eq_true, Bool.and_self, List.take_length, decide_true, Bool.not_true, Bool.not_false]
      refine hNi _ (VWp.keep [2] [] ?_); simp only [go_sem, Int.reduceEq, Int.reduceNe, Int.reduceLT, Int.reduceLE, Nat.reduceEqDiff, Nat.reduceAdd, Nat.reduceMul, Nat.reduceLT, Nat.reduceLeDiff, Nat.reduceSub, reduceCtorEq, reduceIte, Int.reduceToNat, beq_self_eq_true, Bool.and_self, List.take_length, decide_true, Bool.not_true, Bool.not_false]
      refine vwp_ret ?_
      simp only [go_sem, Int.reduceEq, Int.reduceNe, Int.reduceLT, Int.reduceLE, Nat.reduceEqDiff, Nat.reduceAdd, Nat.reduceMul, Nat.reduceLT, Nat.reduceLeDiff, Nat.reduceSub, reduceCtorEq, reduceIte, Int.reduceToNat, beq_self_eq_true, Bool.and_self, List.take_length, decide_true, Bool.not_true, Bool.not_false]
      exact LeV.refl _
    · refine vif rfl ⟨fun ht => (by cases ht), fun hf => ?_⟩
      refine vwp_skip (hNg _ ?_)
      refine vreg tt_ok hF rfl ?_; simp only [go_sem, Int.reduceEq, Int.reduceNe, Int.reduceLT, Int.reduceLE, Nat.reduceEqDiff, Nat.reduceAdd, Nat.reduceMul, Nat.reduceLT, Nat.reduceLeDiff, Nat.reduceSub, reduceCtorEq, reduceIte, Int.reduceToNat, beq_self_eq_true, Bool.and_self, List.take_length, decide_true, Bool.not_true, Bool.not_false]
      rw [wrap_i64 (by omega) (by omega)]
      refine ⟨m + 1, ⟨by omega, fun y hy => ?_⟩, by omega, by simp⟩
      rw [List.take_add_one, hx] at hy
      rcases List.mem_append.1 hy with h | h
      · exact m2 y h
      · simp at h; subst h; exact hn
  · have hm : m = l.length := by have := of_decide_eq_false hf; omega
    subst hm
    rw [List.take_length] at m2
    have hRt : R = true := by rw [← hR, List.all_eq_true]; exact m2
    subst hRt
    refine vwp_exit ?_
    simp only [go_sem, Int.reduceEq, Int.reduceNe, Int.reduceLT, Int.reduceLE, Nat.reduceEqDiff, Nat.reduceAdd, Nat.reduceMul, Nat.reduceLT, Nat.reduceLeDiff, Nat.reduceSub, reduceCtorEq, reduceIte, Int.reduceToNat, beq_self_eq_true, Bool.and_self, List.take_length, decide_true, Bool.not_true, Bool.not_false]
    refine hNc _ (VWp.keepR [] [] tt_ok hF rfl fun Nj hNj => ?_); simp only [go_sem, Int.reduceEq, Int.reduceNe, Int.reduceLT, Int.reduceLE, Nat.reduceEqDiff, Nat.reduceAdd, Nat.reduceMul, Nat.reduceLT, Nat.reduceLeDiff, Nat.reduceSub, reduceCtorEq, reduceIte, Int.reduceToNat, beq_self_eq_true, Bool.and_self, List.take_length, decide_true, Bool.not_true, Bool.not_false]
    refine hNj _ (VWp.keep [2] [] ?_); simp only [go_sem, Int.reduceEq, Int.reduceNe, Int.reduceLT, Int.reduceLE, Nat.reduceEqDiff, Nat.reduceAdd, Nat.reduceMul, Nat.reduceLT, Nat.reduceLeDiff, Nat.reduceSub, reduceCtorEq, reduceIte, Int.reduceToNat, beq_self_eq_true, Bool.and_self, List.take_length, decide_true, Bool.not_true, Bool.not_false]
    refine vwp_ret ?_
    simp only [go_sem, Int.reduceEq, Int.reduceNe, Int.reduceLT, Int.reduceLE, Nat.reduceEqDiff, Nat.reduceAdd, Nat.reduceMul, Nat.reduceLT, Nat.reduceLeDiff, Nat.reduceSub, reduceCtorEq, reduceIte, Int.reduceToNat, beq_self_eq_true, Bool.and_self, List.take_length, decide_true, Bool.not_true, Bool.not_false]
    exact LeV.refl _
end Go.Proofs.YtnaljgmcpagbbaaGreatDoor

/- The reference of layer 34: values, parts, texts. -/
-- SIMP: beq_self_eq_true, Bool.and_self, List.take_length, decide_true, Bool.not_true, Bool.not_false
namespace Go.Proofs.YtnaljgmcpagbbaaGreatDoor
open Go.RowKit
set_option linter.unusedVariables false
set_option linter.unusedSimpArgs false
def intsV (l : List Int) : V := .sl 1 (l.map fun x => [V.int .i64 x])
attribute [go_sem] intsV
def plcV (R : Option (List Int × Bool)) : V := match R with
  | some (l, ok) => .tup [intsV l, .bool ok]
  | none => .tup [intsV [], .bool false]
set_option maxHeartbeats 8000000 in
set_option maxRecDepth 4000 in
theorem places_spec (s : Jb) (hs : s.length ≤ 1000000000) : Spec Tryz.prog 86 [.str s] (plcV (plJ s 0 false)) := by
  obtain ⟨R, hR⟩ : ∃ R, plJ s 0 false = R := ⟨_, rfl⟩
  rw [hR]
  refine spec_of tt_ok Tryz.func86 rfl (by decide) Tryz.ntmps86 (congrArg Array.toList Tryz.results86) (by simp) (by decide) (by rcases R with _ | ⟨l, ok⟩ <;> rfl) rfl (fun F hF => ?_)
  refine vwp_seq_k fun Na hNa => vreg tt_ok hF rfl ?_; simp only [go_sem, Int.reduceEq, Int.reduceNe, Int.reduceLT, Int.reduceLE, Nat.reduceEqDiff, Nat.reduceAdd, Nat.reduceMul, Nat.reduceLT, Nat.reduceLeDiff, Nat.reduceSub, reduceCtorEq, reduceIte, Int.reduceToNat, beq_self_eq_true, Bool.and_self, List.take_length, decide_true, Bool.not_true, Bool.not_false]
  refine hNa _ (VWp.keepR [0] [] tt_ok hF rfl fun Nb hNb => ?_); simp only [go_sem, Int.reduceEq, Int.reduceNe, Int.reduceLT, Int.reduceLE, Nat.reduceEqDiff, Nat.reduceAdd, Nat.reduceMul, Nat.reduceLT, Nat.reduceLeDiff, Nat.reduceSub, reduceCtorEq, reduceIte, Int.reduceToNat, beq_self_eq_true, Bool.and_self, List.take_length, decide_true, Bool.not_true, Bool.not_false]
  refine hNb _ (VWp.keepR [0,4] [] tt_ok hF rfl fun Nc hNc => ?_); simp only [go_sem, Int.reduceEq, Int.reduceNe, Int.reduceLT, Int.reduceLE, Nat.reduceEqDiff, Nat.reduceAdd, Nat.reduceMul, Nat.reduceLT, Nat.reduceLeDiff, Nat.reduceSub, reduceCtorEq, reduceIte, Int.reduceToNat, beq_self_eq_true, Bool.and_self, List.take_length, decide_true, Bool.not_true, Bool.not_false]
  refine hNc _ (VWp.keepR [0,4,5] [] tt_ok hF rfl fun Nd hNd => ?_); simp only [go_sem, Int.reduceEq, Int.reduceNe, Int.reduceLT, Int.reduceLE, Nat.reduceEqDiff, Nat.reduceAdd, Nat.reduceMul, Nat.reduceLT, Nat.reduceLeDiff, Nat.reduceSub, reduceCtorEq, reduceIte, Int.reduceToNat, beq_self_eq_true, Bool.and_self, List.take_length, decide_true, Bool.not_true, Bool.not_false]
  refine hNd _ (VWp.keep [0,4,5,6] [] ?_); simp only [go_sem, Int.reduceEq, Int.reduceNe, Int.reduceLT, Int.reduceLE, Nat.reduceEqDiff, Nat.reduceAdd, Nat.reduceMul, Nat.reduceLT, Nat.reduceLeDiff, Nat.reduceSub, reduceCtorEq, reduceIte, Int.reduceToNat, beq_self_eq_true, Bool.and_self, List.take_length, decide_true, Bool.not_true, Bool.not_false]
  refine vwp_seq_k fun Ne hNe => ?_
  refine vwp_seq_k fun Nf hNf => vreg tt_ok hF rfl ?_; simp only [go_sem, Int.reduceEq, Int.reduceNe, Int.reduceLT, Int.reduceLE, Nat.reduceEqDiff, Nat.reduceAdd, Nat.reduceMul, Nat.reduceLT, Nat.reduceLeDiff, Nat.reduceSub, reduceCtorEq, reduceIte, Int.reduceToNat, beq_self_eq_true, Bool.and_self, List.take_length, decide_true, Bool.not_true, Bool.not_false]
  refine hNf _ (VWp.keep [0,4,5,6,7] [] ?_); simp only [go_sem, Int.reduceEq, Int.reduceNe, Int.reduceLT, Int.reduceLE, Nat.reduceEqDiff, Nat.reduceAdd, Nat.reduceMul, Nat.reduceLT, Nat.reduceLeDiff, Nat.reduceSub, reduceCtorEq, reduceIte, Int.reduceToNat, beq_self_eq_true, Bool.and_self, List.take_length, decide_true, Bool.not_true, Bool.not_false]
  refine VWp.adopt 500000 1 3 (x := 4) rfl rfl (by decide) ?_ (closed_of (by simp only [go_sem, Int.reduceEq, Int.reduceNe, Int.reduceLT, Int.reduceLE, Nat.reduceEqDiff, Nat.reduceAdd, Nat.reduceMul, Nat.reduceLT, Nat.reduceLeDiff, Nat.reduceSub, reduceCtorEq, reduceIte, Int.reduceToNat, beq_self_eq_true, Bool.and_self, List.take_length, decide_true, Bool.not_true, Bool.not_false]) (by simp only [go_sem, Int.reduceEq, Int.reduceNe, Int.reduceLT, Int.reduceLE, Nat.reduceEqDiff, Nat.reduceAdd, Nat.reduceMul, Nat.reduceLT, Nat.reduceLeDiff, Nat.reduceSub, reduceCtorEq, reduceIte, Int.reduceToNat, beq_self_eq_true, Bool.and_self, List.take_length, decide_true, Bool.not_true, Bool.not_false]))
  refine VWp.keep [0,4,5,6,7] [500000] ?_; simp only [go_sem, Int.reduceEq, Int.reduceNe, Int.reduceLT, Int.reduceLE, Nat.reduceEqDiff, Nat.reduceAdd, Nat.reduceMul, Nat.reduceLT, Nat.reduceLeDiff, Nat.reduceSub, reduceCtorEq, reduceIte, Int.reduceToNat, beq_self_eq_true, Bool.and_self, List.take_length, decide_true, Bool.not_true, Bool.not_false]
  refine vwp_block (vloop (fun z : Nat × Int × Bool × List Int => [(0, .str s), (4, .own 500000 z.2.2.2.length), (5, .int .i64 z.2.1), (6, .bool z.2.2.1), (7, .int .i64 (z.1 : Int))]) (fun z => [(500000, .arr 1 3 (z.2.2.2.map fun x => [V.int .i64 x]))])
    (fun z => z.1 ≤ s.length ∧ z.2.2.2.length ≤ z.1 ∧ 0 ≤ z.2.1 ∧ z.2.1 ≤ z.1 ∧ (plJ (s.drop z.1) z.2.1 z.2.2.1).map (fun r => (z.2.2.2 ++ r.1, r.2)) = R) (fun z => s.length - z.1) (0, 0, false, []) ⟨Nat.zero_le _, Nat.le_refl _, Int.le_refl _, Int.le_refl _, by show (plJ (s.drop 0) 0 false).map (fun r => ([] ++ r.1, r.2)) = R; rw [List.drop_zero, ← hR]; cases plJ s 0 false <;> rfl⟩ (by simp only [go_sem, Int.reduceEq, Int.reduceNe, Int.reduceLT, Int.reduceLE, Nat.reduceEqDiff, Nat.reduceAdd, Nat.reduceMul, Nat.reduceLT, Nat.reduceLeDiff, Nat.reduceSub, reduceCtorEq, reduceIte, Int.reduceToNat, beq_self_eq_true, Bool.and_self, List.take_length, decide_true, Bool.not_true, Bool.not_false]) ?_)
  rintro ⟨m, d, q, out⟩ ⟨m1, m2, m3, m4, m5⟩
  have m1 : m ≤ s.length := m1
  have m2 : out.length ≤ m := m2
  have m3 : 0 ≤ d := m3
  have m4 : d ≤ (m : Int) := m4
  have m5 : (plJ (s.drop m) d q).map (fun r => (out ++ r.1, r.2)) = R := m5
  try dsimp only
  refine vwp_seq_k fun Ng hNg => ?_
  refine vwp_seq_k fun Nh hNh => vreg tt_ok hF rfl ?_; simp only [go_sem, Int.reduceEq, Int.reduceNe, Int.reduceLT, Int.reduceLE, Nat.reduceEqDiff, Nat.reduceAdd, Nat.reduceMul, Nat.reduceLT, Nat.reduceLeDiff, Nat.reduceSub, reduceCtorEq, reduceIte, Int.reduceToNat, beq_self_eq_true, Bool.and_self, List.take_length, decide_true, Bool.not_true, Bool.not_false]
  refine hNh _ (VWp.keep [0,4,5,6,7,11] [500000] ?_); simp only [go_sem, Int.reduceEq, Int.reduceNe, Int.reduceLT, Int.reduceLE, Nat.reduceEqDiff, Nat.reduceAdd, Nat.reduceMul, Nat.reduceLT, Nat.reduceLeDiff, Nat.reduceSub, reduceCtorEq, reduceIte, Int.reduceToNat, beq_self_eq_true, Bool.and_self, List.take_length, decide_true, Bool.not_true, Bool.not_false]
  refine vif rfl ⟨fun ht => ?_, fun hf => ?_⟩
  · have hlt : m < s.length := by have := of_decide_eq_true ht; omega
    have hpm : (0 : Int) ≤ (m : Int) ∧ (m : Int) < (s.length : Int) := ⟨by omega, by omega⟩
    rw [drop_at s m hlt, plJ_cons] at m5
    have e1 : decide ((((s.getD m 0).toNat : Nat) : Int) = (39 : Int)) = (s.getD m 0 == 39) := u8eq 39 _
    have e2 : decide ((((s.getD m 0).toNat : Nat) : Int) = (41 : Int)) = (s.getD m 0 == 41) := u8eq 41 _
    have e3 : decide ((((s.getD m 0).toNat : Nat) : Int) = (40 : Int)) = (s.getD m 0 == 40) := u8eq 40 _
    refine vwp_skip (hNg _ ?_)
    refine vwp_seq_k fun Ni hNi => ?_
    refine vwp_block ?_
    refine vwp_seq_k fun Nj hNj => ?_
    refine vmeet (fun z : Bool => [(0, .str s), (4, .own 500000 out.length), (5, .int .i64 d), (6, .bool q), (7, .int .i64 (m : Int)), (20, .bool z)]) (fun _ => [(500000, .arr 1 3 (out.map fun x => [V.int .i64 x]))]) (fun z => z = (q || s.getD m 0 == 39)) ?_ ?_
    · cases q
      all_goals
        refine vreg tt_ok hF rfl ?_; simp only [go_sem, Int.reduceEq, Int.reduceNe, Int.reduceLT, Int.reduceLE, Nat.reduceEqDiff, Nat.reduceAdd, Nat.reduceMul, Nat.reduceLT, Nat.reduceLeDiff, Nat.reduceSub, reduceCtorEq, reduceIte, Int.reduceToNat, beq_self_eq_true, Bool.and_self, List.take_length, decide_true, Bool.not_true, Bool.not_false, hpm, e1]
        exact ⟨_, rfl, by simp⟩
    intro z hz
    rw [← hz] at m5
    refine vif rfl ⟨fun ht => ?_, fun hf => ?_⟩
    · rw [ht, if_pos rfl] at m5
      refine vwp_seq_k fun Nl hNl => vreg tt_ok hF rfl ?_; simp only [go_sem, Int.reduceEq, Int.reduceNe, Int.reduceLT, Int.reduceLE, Nat.reduceEqDiff, Nat.reduceAdd, Nat.reduceMul, Nat.reduceLT, Nat.reduceLeDiff, Nat.reduceSub, reduceCtorEq, reduceIte, Int.reduceToNat, beq_self_eq_true, Bool.and_self, List.take_length, decide_true, Bool.not_true, Bool.not_false]
      refine ⟨by omega, ?_⟩
      refine hNl _ (VWp.keep [0,4,5,6,7] [500000] ?_); simp only [go_sem, Int.reduceEq, Int.reduceNe, Int.reduceLT, Int.reduceLE, Nat.reduceEqDiff, Nat.reduceAdd, Nat.reduceMul, Nat.reduceLT, Nat.reduceLeDiff, Nat.reduceSub, reduceCtorEq, reduceIte, Int.reduceToNat, beq_self_eq_true, Bool.and_self, List.take_length, decide_true, Bool.not_true, Bool.not_false]
      refine vmeet (fun y : Bool => [(0, .str s), (4, .own 500000 (out ++ [-1]).length), (5, .int .i64 d), (6, .bool y), (7, .int .i64 (m : Int))]) (fun _ => [(500000, .arr 1 3 ((out ++ [-1]).map fun x => [V.int .i64 x]))]) (fun y => y = if s.getD m 0 == 39 then !q else q) ?_ ?_
      · refine vwp_seq_k fun Nn hNn => vreg tt_ok hF rfl ?_; simp only [go_sem, Int.reduceEq, Int.reduceNe, Int.reduceLT, Int.reduceLE, Nat.reduceEqDiff, Nat.reduceAdd, Nat.reduceMul, Nat.reduceLT, Nat.reduceLeDiff, Nat.reduceSub, reduceCtorEq, reduceIte, Int.reduceToNat, beq_self_eq_true, Bool.and_self, List.take_length, decide_true, Bool.not_true, Bool.not_false, hpm, e1]
        refine hNn _ (VWp.keep [0,4,5,6,7,27] [500000] ?_); simp only [go_sem, Int.reduceEq, Int.reduceNe, Int.reduceLT, Int.reduceLE, Nat.reduceEqDiff, Nat.reduceAdd, Nat.reduceMul, Nat.reduceLT, Nat.reduceLeDiff, Nat.reduceSub, reduceCtorEq, reduceIte, Int.reduceToNat, beq_self_eq_true, Bool.and_self, List.take_length, decide_true, Bool.not_true, Bool.not_false]
        cases hc39 : (s.getD m 0 == 39)
        · refine vif rfl ⟨fun ht => (by cases ht), fun hf => ?_⟩
          refine vwp_skip ?_
          simp only [go_sem, Int.reduceEq, Int.reduceNe, Int.reduceLT, Int.reduceLE, Nat.reduceEqDiff, Nat.reduceAdd, Nat.reduceMul, Nat.reduceLT, Nat.reduceLeDiff, Nat.reduceSub, reduceCtorEq, reduceIte, Int.reduceToNat, beq_self_eq_true, Bool.and_self, List.take_length, decide_true, Bool.not_true, Bool.not_false]
          exact ⟨q, by simp, by simp⟩
        · refine vif rfl ⟨fun ht => ?_, fun hf => (by cases hf)⟩
          refine vreg tt_ok hF rfl ?_; simp only [go_sem, Int.reduceEq, Int.reduceNe, Int.reduceLT, Int.reduceLE, Nat.reduceEqDiff, Nat.reduceAdd, Nat.reduceMul, Nat.reduceLT, Nat.reduceLeDiff, Nat.reduceSub, reduceCtorEq, reduceIte, Int.reduceToNat, beq_self_eq_true, Bool.and_self, List.take_length, decide_true, Bool.not_true, Bool.not_false]
          exact ⟨!q, by simp, by simp⟩
      intro y hy
      refine vwp_exit ?_
      simp only [go_sem, Int.reduceEq, Int.reduceNe, Int.reduceLT, Int.reduceLE, Nat.reduceEqDiff, Nat.reduceAdd, Nat.reduceMul, Nat.reduceLT, Nat.reduceLeDiff, Nat.reduceSub, reduceCtorEq, reduceIte, Int.reduceToNat, beq_self_eq_true, Bool.and_self, List.take_length, decide_true, Bool.not_true, Bool.not_false]
      refine hNi _ (VWp.keep [0,4,5,6,7] [500000] ?_); simp only [go_sem, Int.reduceEq, Int.reduceNe, Int.reduceLT, Int.reduceLE, Nat.reduceEqDiff, Nat.reduceAdd, Nat.reduceMul, Nat.reduceLT, Nat.reduceLeDiff, Nat.reduceSub, reduceCtorEq, reduceIte, Int.reduceToNat, beq_self_eq_true, Bool.and_self, List.take_length, decide_true, Bool.not_true, Bool.not_false]
      refine vreg tt_ok hF rfl ?_; simp only [go_sem, Int.reduceEq, Int.reduceNe, Int.reduceLT, Int.reduceLE, Nat.reduceEqDiff, Nat.reduceAdd, Nat.reduceMul, Nat.reduceLT, Nat.reduceLeDiff, Nat.reduceSub, reduceCtorEq, reduceIte, Int.reduceToNat, beq_self_eq_true, Bool.and_self, List.take_length, decide_true, Bool.not_true, Bool.not_false]
      rw [wrap_i64 (by omega) (by omega)]
      refine ⟨(m + 1, d, y, out ++ [-1]), ⟨by simp only; omega, by simp; omega, m3, by simp only; omega, ?_⟩, by simp only; omega, by simp⟩
      show (plJ (s.drop (m + 1)) d y).map (fun r => (out ++ [-1] ++ r.1, r.2)) = R
      rw [hy, ← m5, Option.map_map]
      cases plJ (s.drop (m + 1)) d (if s.getD m 0 == 39 then !q else q) <;> simp
    · rw [hf] at hz m5
      have hz2 := hz.symm
      rw [Bool.or_eq_false_iff] at hz2
      obtain ⟨hq, hc39⟩ := hz2
      subst hq
      simp only [Bool.false_eq_true, if_false] at m5
      obtain ⟨D, hD⟩ : ∃ D, dnJ (s.getD m 0) d = D := ⟨_, rfl⟩
      rw [hD] at m5
      have hDm : D ≤ d ∧ D = if s.getD m 0 == 41 then d - 1 else d := by rw [← hD]; unfold dnJ; split <;> exact ⟨by omega, rfl⟩
      obtain ⟨hD1, hD2⟩ := hDm
      refine vwp_skip (hNj _ ?_)
      refine vmeet (fun _ : Unit => [(0, .str s), (4, .own 500000 out.length), (5, .int .i64 D), (6, .bool false), (7, .int .i64 (m : Int))]) (fun _ => [(500000, .arr 1 3 (out.map fun x => [V.int .i64 x]))]) (fun _ => ¬ D < 0) ?_ ?_
      · refine vwp_seq_k fun Np hNp => vreg tt_ok hF rfl ?_; simp only [go_sem, Int.reduceEq, Int.reduceNe, Int.reduceLT, Int.reduceLE, Nat.reduceEqDiff, Nat.reduceAdd, Nat.reduceMul, Nat.reduceLT, Nat.reduceLeDiff, Nat.reduceSub, reduceCtorEq, reduceIte, Int.reduceToNat, beq_self_eq_true, Bool.and_self, List.take_length, decide_true, Bool.not_true, Bool.not_false, hpm, e2]
        refine hNp _ (VWp.keep [0,4,5,6,7,33] [500000] ?_); simp only [go_sem, Int.reduceEq, Int.reduceNe, Int.reduceLT, Int.reduceLE, Nat.reduceEqDiff, Nat.reduceAdd, Nat.reduceMul, Nat.reduceLT, Nat.reduceLeDiff, Nat.reduceSub, reduceCtorEq, reduceIte, Int.reduceToNat, beq_self_eq_true, Bool.and_self, List.take_length, decide_true, Bool.not_true, Bool.not_false]
        cases hc41 : (s.getD m 0 == 41)
        · rw [hc41] at hD2
          simp only [Bool.false_eq_true, if_false] at hD2
          subst hD2
          refine vif rfl ⟨fun ht => (by cases ht), fun hf => ?_⟩
          refine vwp_skip ?_
          simp only [go_sem, Int.reduceEq, Int.reduceNe, Int.reduceLT, Int.reduceLE, Nat.reduceEqDiff, Nat.reduceAdd, Nat.reduceMul, Nat.reduceLT, Nat.reduceLeDiff, Nat.reduceSub, reduceCtorEq, reduceIte, Int.reduceToNat, beq_self_eq_true, Bool.and_self, List.take_length, decide_true, Bool.not_true, Bool.not_false]
          first | exact ⟨(), by omega, by simp⟩ | exact ⟨(), by omega⟩
        · rw [hc41, if_pos rfl] at hD2
          have hw : IntKind.i64.wrap (d - 1) = D := by rw [wrap_i64 (by omega) (by omega)]; omega
          refine vif rfl ⟨fun ht => ?_, fun hf => (by cases hf)⟩
          refine vwp_seq_k fun Nq hNq => vreg tt_ok hF rfl ?_; simp only [go_sem, Int.reduceEq, Int.reduceNe, Int.reduceLT, Int.reduceLE, Nat.reduceEqDiff, Nat.reduceAdd, Nat.reduceMul, Nat.reduceLT, Nat.reduceLeDiff, Nat.reduceSub, reduceCtorEq, reduceIte, Int.reduceToNat, beq_self_eq_true, Bool.and_self, List.take_length, decide_true, Bool.not_true, Bool.not_false, hw]
          refine hNq _ (VWp.keepR [0,4,5,6,7] [500000] tt_ok hF rfl fun Nr hNr => ?_); simp only [go_sem, Int.reduceEq, Int.reduceNe, Int.reduceLT, Int.reduceLE, Nat.reduceEqDiff, Nat.reduceAdd, Nat.reduceMul, Nat.reduceLT, Nat.reduceLeDiff, Nat.reduceSub, reduceCtorEq, reduceIte, Int.reduceToNat, beq_self_eq_true, Bool.and_self, List.take_length, decide_true, Bool.not_true, Bool.not_false]
          refine hNr _ (VWp.keep [0,4,5,6,7,37] [500000] ?_); simp only [go_sem, Int.reduceEq, Int.reduceNe, Int.reduceLT, Int.reduceLE, Nat.reduceEqDiff, Nat.reduceAdd, Nat.reduceMul, Nat.reduceLT, Nat.reduceLeDiff, Nat.reduceSub, reduceCtorEq, reduceIte, Int.reduceToNat, beq_self_eq_true, Bool.and_self, List.take_length, decide_true, Bool.not_true, Bool.not_false]
          refine vif rfl ⟨fun ht => ?_, fun hf => ?_⟩
          · have hneg : D < 0 := of_decide_eq_true ht
            have hRn : R = none := by rw [← m5, if_pos hneg]; rfl
            subst hRn
            refine vwp_seq_k fun Ns hNs => vreg tt_ok hF rfl ?_; simp only [go_sem, Int.reduceEq, Int.reduceNe, Int.reduceLT, Int.reduceLE, Nat.reduceEqDiff, Nat.reduceAdd, Nat.reduceMul, Nat.reduceLT, Nat.reduceLeDiff, Nat.reduceSub, reduceCtorEq, reduceIte, Int.reduceToNat, beq_self_eq_true, Bool.and_self, List.take_length, decide_true, Bool.not_true, Bool.not_false]
            refine hNs _ (VWp.keep [2,3] [] ?_); simp only [go_sem, Int.reduceEq, Int.reduceNe, Int.reduceLT, Int.reduceLE, Nat.reduceEqDiff, Nat.reduceAdd, Nat.reduceMul, Nat.reduceLT, Nat.reduceLeDiff, Nat.reduceSub, reduceCtorEq, reduceIte, Int.reduceToNat, beq_self_eq_true, Bool.and_self, List.take_length, decide_true, Bool.not_true, Bool.not_false]
            refine vwp_ret ?_
            simp only [go_sem, Int.reduceEq, Int.reduceNe, Int.reduceLT, Int.reduceLE, Nat.reduceEqDiff, Nat.reduceAdd, Nat.reduceMul, Nat.reduceLT, Nat.reduceLeDiff, Nat.reduceSub, reduceCtorEq, reduceIte, Int.reduceToNat, beq_self_eq_true, Bool.and_self, List.take_length, decide_true, Bool.not_true, Bool.not_false]
            exact LeV.tup ⟨LeV.nil 1, LeV.refl _, trivial⟩
          · refine vwp_skip ?_
            simp only [go_sem, Int.reduceEq, Int.reduceNe, Int.reduceLT, Int.reduceLE, Nat.reduceEqDiff, Nat.reduceAdd, Nat.reduceMul, Nat.reduceLT, Nat.reduceLeDiff, Nat.reduceSub, reduceCtorEq, reduceIte, Int.reduceToNat, beq_self_eq_true, Bool.and_self, List.take_length, decide_true, Bool.not_true, Bool.not_false]
            first | exact ⟨(), of_decide_eq_false hf, by simp⟩ | exact ⟨(), of_decide_eq_false hf⟩
      intro _ hd0
      rw [if_neg hd0] at m5
      refine vwp_seq_k fun Nt hNt => vreg tt_ok hF rfl ?_; simp only [go_sem, Int.reduceEq, Int.reduceNe, Int.reduceLT, Int.reduceLE, Nat.reduceEqDiff, Nat.reduceAdd, Nat.reduceMul, Nat.reduceLT, Nat.reduceLeDiff, Nat.reduceSub, reduceCtorEq, reduceIte, Int.reduceToNat, beq_self_eq_true, Bool.and_self, List.take_length, decide_true, Bool.not_true, Bool.not_false]
      refine ⟨by omega, ?_⟩
      refine hNt _ (VWp.keep [0,4,5,6,7] [500000] ?_); simp only [go_sem, Int.reduceEq, Int.reduceNe, Int.reduceLT, Int.reduceLE, Nat.reduceEqDiff, Nat.reduceAdd, Nat.reduceMul, Nat.reduceLT, Nat.reduceLeDiff, Nat.reduceSub, reduceCtorEq, reduceIte, Int.reduceToNat, beq_self_eq_true, Bool.and_self, List.take_length, decide_true, Bool.not_true, Bool.not_false]
      refine vwp_seq_k fun Nu hNu => vreg tt_ok hF rfl ?_; simp only [go_sem, Int.reduceEq, Int.reduceNe, Int.reduceLT, Int.reduceLE, Nat.reduceEqDiff, Nat.reduceAdd, Nat.reduceMul, Nat.reduceLT, Nat.reduceLeDiff, Nat.reduceSub, reduceCtorEq, reduceIte, Int.reduceToNat, beq_self_eq_true, Bool.and_self, List.take_length, decide_true, Bool.not_true, Bool.not_false, hpm, e3]
      refine hNu _ (VWp.keep [0,4,5,6,7,45] [500000] ?_); simp only [go_sem, Int.reduceEq, Int.reduceNe, Int.reduceLT, Int.reduceLE, Nat.reduceEqDiff, Nat.reduceAdd, Nat.reduceMul, Nat.reduceLT, Nat.reduceLeDiff, Nat.reduceSub, reduceCtorEq, reduceIte, Int.reduceToNat, beq_self_eq_true, Bool.and_self, List.take_length, decide_true, Bool.not_true, Bool.not_false]
      cases hc40 : (s.getD m 0 == 40)
      · have hup : upJ (s.getD m 0) D = D := by unfold upJ; rw [hc40]; rfl
        rw [hup] at m5
        refine vif rfl ⟨fun ht => (by cases ht), fun hf => ?_⟩
        refine vwp_skip (hNi _ ?_)
        refine vreg tt_ok hF rfl ?_; simp only [go_sem, Int.reduceEq, Int.reduceNe, Int.reduceLT, Int.reduceLE, Nat.reduceEqDiff, Nat.reduceAdd, Nat.reduceMul, Nat.reduceLT, Nat.reduceLeDiff, Nat.reduceSub, reduceCtorEq, reduceIte, Int.reduceToNat, beq_self_eq_true, Bool.and_self, List.take_length, decide_true, Bool.not_true, Bool.not_false]
        rw [wrap_i64 (by omega) (by omega)]
        refine ⟨(m + 1, D, false, out ++ [D]), ⟨by simp only; omega, by simp; omega, by simp only; omega, by simp only; omega, ?_⟩, by simp only; omega, by simp⟩
        show (plJ (s.drop (m + 1)) D false).map (fun r => (out ++ [D] ++ r.1, r.2)) = R
        rw [← m5, Option.map_map]
        cases plJ (s.drop (m + 1)) D false <;> simp
      · have hup : upJ (s.getD m 0) D = D + 1 := by unfold upJ; rw [hc40]; rfl
        rw [hup] at m5
        refine vif rfl ⟨fun ht => ?_, fun hf => (by cases hf)⟩
        refine vreg tt_ok hF rfl ?_; simp only [go_sem, Int.reduceEq, Int.reduceNe, Int.reduceLT, Int.reduceLE, Nat.reduceEqDiff, Nat.reduceAdd, Nat.reduceMul, Nat.reduceLT, Nat.reduceLeDiff, Nat.reduceSub, reduceCtorEq, reduceIte, Int.reduceToNat, beq_self_eq_true, Bool.and_self, List.take_length, decide_true, Bool.not_true, Bool.not_false]
        rw [wrap_i64 (by omega) (by omega)]
        refine hNi _ (VWp.keep [0,4,5,6,7] [500000] ?_); simp only [go_sem, Int.reduceEq, Int.reduceNe, Int.reduceLT, Int.reduceLE, Nat.reduceEqDiff, Nat.reduceAdd, Nat.reduceMul, Nat.reduceLT, Nat.reduceLeDiff, Nat.reduceSub, reduceCtorEq, reduceIte, Int.reduceToNat, beq_self_eq_true, Bool.and_self, List.take_length, decide_true, Bool.not_true, Bool.not_false]
        refine vreg tt_ok hF rfl ?_; simp only [go_sem, Int.reduceEq, Int.reduceNe, Int.reduceLT, Int.reduceLE, Nat.reduceEqDiff, Nat.reduceAdd, Nat.reduceMul, Nat.reduceLT, Nat.reduceLeDiff, Nat.reduceSub, reduceCtorEq, reduceIte, Int.reduceToNat, beq_self_eq_true, Bool.and_self, List.take_length, decide_true, Bool.not_true, Bool.not_false]
        rw [wrap_i64 (by omega) (by omega)]
        refine ⟨(m + 1, D + 1, false, out ++ [D]), ⟨by simp only; omega, by simp; omega, by simp only; omega, by simp only; omega, ?_⟩, by simp only; omega, by simp⟩
        show (plJ (s.drop (m + 1)) (D + 1) false).map (fun r => (out ++ [D] ++ r.1, r.2)) = R
        rw [← m5, Option.map_map]
        cases plJ (s.drop (m + 1)) (D + 1) false <;> simp
  · have hm : m = s.length := by have := of_decide_eq_false hf; omega
    subst hm
    rw [List.drop_length] at m5
    have m5 : some (out ++ [], d == 0 && !q) = R := m5
    rw [List.append_nil] at m5
    subst m5
    have e4 : decide (d = 0) = (d == 0) := inteq d 0
    refine vwp_exit ?_
    simp only [go_sem, Int.reduceEq, Int.reduceNe, Int.reduceLT, Int.reduceLE, Nat.reduceEqDiff, Nat.reduceAdd, Nat.reduceMul, Nat.reduceLT, Nat.reduceLeDiff, Nat.reduceSub, reduceCtorEq, reduceIte, Int.reduceToNat, beq_self_eq_true, Bool.and_self, List.take_length, decide_true, Bool.not_true, Bool.not_false]
    refine hNe _ (VWp.keep [4,5,6] [500000] ?_); simp only [go_sem, Int.reduceEq, Int.reduceNe, Int.reduceLT, Int.reduceLE, Nat.reduceEqDiff, Nat.reduceAdd, Nat.reduceMul, Nat.reduceLT, Nat.reduceLeDiff, Nat.reduceSub, reduceCtorEq, reduceIte, Int.reduceToNat, beq_self_eq_true, Bool.and_self, List.take_length, decide_true, Bool.not_true, Bool.not_false]
    generalize (d == 0) = b at e4
    cases b
    all_goals
      refine vwp_seq_k fun Nv hNv => vreg tt_ok hF rfl ?_; simp only [go_sem, Int.reduceEq, Int.reduceNe, Int.reduceLT, Int.reduceLE, Nat.reduceEqDiff, Nat.reduceAdd, Nat.reduceMul, Nat.reduceLT, Nat.reduceLeDiff, Nat.reduceSub, reduceCtorEq, reduceIte, Int.reduceToNat, beq_self_eq_true, Bool.and_self, List.take_length, decide_true, Bool.not_true, Bool.not_false, e4]
      refine hNv _ (VWp.keep [2,3] [500000] ?_); simp only [go_sem, Int.reduceEq, Int.reduceNe, Int.reduceLT, Int.reduceLE, Nat.reduceEqDiff, Nat.reduceAdd, Nat.reduceMul, Nat.reduceLT, Nat.reduceLeDiff, Nat.reduceSub, reduceCtorEq, reduceIte, Int.reduceToNat, beq_self_eq_true, Bool.and_self, List.take_length, decide_true, Bool.not_true, Bool.not_false]
      refine vwp_ret ?_
      simp only [go_sem, Int.reduceEq, Int.reduceNe, Int.reduceLT, Int.reduceLE, Nat.reduceEqDiff, Nat.reduceAdd, Nat.reduceMul, Nat.reduceLT, Nat.reduceLeDiff, Nat.reduceSub, reduceCtorEq, reduceIte, Int.reduceToNat, beq_self_eq_true, Bool.and_self, List.take_length, decide_true, Bool.not_true, Bool.not_false]
      exact LeV.of_eq (by simp [plcV, intsV])
theorem plc_cases (s : Jb) : ∃ (l : List Int) (ok : Bool), plcV (plJ s 0 false) = .tup [intsV l, .bool ok] ∧ (ok = true → plJ s 0 false = some (l, true)) ∧ (ok = false → valueJ s = false ∧ splitJ s = none) ∧ l.length ≤ s.length := by
  cases h : plJ s 0 false with
  | none => exact ⟨[], false, rfl, (fun e => by cases e), (fun _ => ⟨value_no h, split_no h⟩), by simp⟩
  | some r =>
    obtain ⟨l, ok⟩ := r
    refine ⟨l, ok, rfl, (fun e => by rw [e]), (fun e => ?_), by rw [(pl_some h).1]; omega⟩
    subst e
    exact ⟨by rw [value_of h]; rfl, by rw [split_of h]; rfl⟩
theorem drop_consI (L : List Int) (j : Nat) (h : j < L.length) : L.drop j = L.getD j 0 :: L.drop (j + 1) := by
  rw [List.drop_eq_getElem_cons h, List.getD_eq_getElem?_getD, List.getElem?_eq_getElem h]; rfl
theorem int_row (l : List Int) (m : Nat) (h : m < l.length) : (l.map fun x => [V.int .i64 x]).getD m [] = [.int .i64 (l.getD m 0)] := by
  rw [List.getD_eq_getElem?_getD, List.getElem?_map, List.getElem?_eq_getElem h, List.getD_eq_getElem?_getD, List.getElem?_eq_getElem h]; rfl
end Go.Proofs.YtnaljgmcpagbbaaGreatDoor

/- The reference of layer 34: values, parts, texts, parameters found. -/
-- SIMP: beq_self_eq_true, Bool.and_self, List.take_length, decide_true, Bool.not_true, Bool.not_false
namespace Go.Proofs.YtnaljgmcpagbbaaGreatDoor
open Go.RowKit
set_option linter.unusedVariables false
set_option linter.unusedSimpArgs false
set_option maxHeartbeats 8000000 in
set_option maxRecDepth 4000 in
theorem plain_spec (s : Jb) (hs : s.length ≤ 1000000000) : Spec Tryz.prog 35 [.str s] (.bool (textJ s)) := by
  refine spec_of tt_ok Tryz.func35 rfl (by decide) Tryz.ntmps35 (congrArg Array.toList Tryz.results35) (by simp) (by decide) rfl rfl (fun F hF => ?_)
  refine vwp_seq_k fun Na hNa => vreg tt_ok hF rfl ?_; simp only [go_sem, Int.reduceEq, Int.reduceNe, Int.reduceLT, Int.reduceLE, Nat.reduceEqDiff, Nat.reduceAdd, Nat.reduceMul, Nat.reduceLT, Nat.reduceLeDiff, Nat.reduceSub, reduceCtorEq, reduceIte, Int.reduceToNat, beq_self_eq_true, Bool.and_self, List.take_length, decide_true, Bool.not_true, Bool.not_false]
  refine hNa _ (VWp.keep [0] [] ?_); simp only [go_sem, Int.reduceEq, Int.reduceNe, Int.reduceLT, Int.reduceLE, Nat.reduceEqDiff, Nat.reduceAdd, Nat.reduceMul, Nat.reduceLT, Nat.reduceLeDiff, Nat.reduceSub, reduceCtorEq, reduceIte, Int.reduceToNat, beq_self_eq_true, Bool.and_self, List.take_length, decide_true, Bool.not_true, Bool.not_false]
  refine vwp_seq_k fun Nb hNb => ?_
  refine vwp_seq_k fun Nc hNc => vreg tt_ok hF rfl ?_; simp only [go_sem, Int.reduceEq, Int.reduceNe, Int.reduceLT, Int.reduceLE, Nat.reduceEqDiff, Nat.reduceAdd, Nat.reduceMul, Nat.reduceLT, Nat.reduceLeDiff, Nat.reduceSub, reduceCtorEq, reduceIte, Int.reduceToNat, beq_self_eq_true, Bool.and_self, List.take_length, decide_true, Bool.not_true, Bool.not_false]
  refine hNc _ (VWp.keep [0,3] [] ?_); simp only [go_sem, Int.reduceEq, Int.reduceNe, Int.reduceLT, Int.reduceLE, Nat.reduceEqDiff, Nat.reduceAdd, Nat.reduceMul, Nat.reduceLT, Nat.reduceLeDiff, Nat.reduceSub, reduceCtorEq, reduceIte, Int.reduceToNat, beq_self_eq_true, Bool.and_self, List.take_length, decide_true, Bool.not_true, Bool.not_false]
  refine vwp_block (vloop (fun k : Nat => [(0, .str s), (3, .int .i64 (k : Int))]) (fun _ => []) (fun k => k ≤ s.length ∧ ∀ j < k, (decide (32 ≤ s.getD j 0) && decide (s.getD j 0 ≤ 126)) = true) (fun k => s.length - k) 0 ⟨by omega, fun j hj => by omega⟩ (by simp only [go_sem, Int.reduceEq, Int.reduceNe, Int.reduceLT, Int.reduceLE, Nat.reduceEqDiff, Nat.reduceAdd, Nat.reduceMul, Nat.reduceLT, Nat.reduceLeDiff, Nat.reduceSub, reduceCtorEq, reduceIte, Int.reduceToNat, beq_self_eq_true, Bool.and_self, List.take_length, decide_true, Bool.not_true, Bool.not_false]) ?_)
  rintro k ⟨hk, hall⟩
  refine vwp_seq_k fun Nd hNd => ?_
  refine vwp_seq_k fun Ne hNe => vreg tt_ok hF rfl ?_; simp only [go_sem, Int.reduceEq, Int.reduceNe, Int.reduceLT, Int.reduceLE, Nat.reduceEqDiff, Nat.reduceAdd, Nat.reduceMul, Nat.reduceLT, Nat.reduceLeDiff, Nat.reduceSub, reduceCtorEq, reduceIte, Int.reduceToNat, beq_self_eq_true, Bool.and_self, List.take_length, decide_true, Bool.not_true, Bool.not_false]
  refine hNe _ (VWp.keep [0,3,7] [] ?_); simp only [go_sem, Int.reduceEq, Int.reduceNe, Int.reduceLT, Int.reduceLE, Nat.reduceEqDiff, Nat.reduceAdd, Nat.reduceMul, Nat.reduceLT, Nat.reduceLeDiff, Nat.reduceSub, reduceCtorEq, reduceIte, Int.reduceToNat, beq_self_eq_true, Bool.and_self, List.take_length, decide_true, Bool.not_true, Bool.not_false]
  refine vif rfl ⟨fun ht => ?_, fun hf => ?_⟩
  · have hlt : k < s.length := by have := of_decide_eq_true ht; omega
    refine vwp_skip (hNd _ ?_)
    refine vwp_seq_k fun Nf hNf => ?_
    refine vwp_block ?_
    refine vmeet (fun y : Bool => [(0, .str s), (3, .int .i64 (k : Int)), (19, .bool y)]) (fun _ => []) (fun y => y = !(decide (32 ≤ s.getD k 0) && decide (s.getD k 0 ≤ 126))) ?_ ?_
    · have e1 : decide ((((s.getD k 0).toNat : Nat) : Int) < (32 : Int)) = !decide ((32 : UInt8) ≤ s.getD k 0) := u8lt 32 _
      have e2 : decide ((126 : Int) < (((s.getD k 0).toNat : Nat) : Int)) = !decide (s.getD k 0 ≤ (126 : UInt8)) := u8gt 126 _
      have hp : (0 : Int) ≤ (k : Int) ∧ (k : Int) < (s.length : Int) := ⟨by omega, by omega⟩
      generalize decide ((32 : UInt8) ≤ s.getD k 0) = b1 at e1
      generalize decide (s.getD k 0 ≤ (126 : UInt8)) = b2 at e2
      cases b1 <;> cases b2
      all_goals
        refine vreg tt_ok hF rfl ?_; simp only [go_sem, Int.reduceEq, Int.reduceNe, Int.reduceLT, Int.reduceLE, Nat.reduceEqDiff, Nat.reduceAdd, Nat.reduceMul, Nat.reduceLT, Nat.reduceLeDiff, Nat.reduceSub, reduceCtorEq, reduceIte, Int.reduceToNat, beq_self_eq_true, Bool.and_self, List.take_length, decide_true, Bool.not_true, Bool.not_false, hp, e1, e2]
        exact ⟨_, rfl, by simp⟩
    intro y hy
    refine vif rfl ⟨fun ht => ?_, fun hf => ?_⟩
    · refine vwp_seq_k fun Ni hNi => vreg tt_ok hF rfl ?_; simp only [go_sem, Int.reduceEq, Int.reduceNe, Int.reduceLT, Int.reduceLE, Nat.reduceEqDiff, Nat.reduceAdd, Nat.reduceMul, Nat.reduceLT, Nat.reduceLeDiff, Nat.reduceSub, reduceCtorEq, reduceIte, Int.reduceToNat, beq_self_eq_true, Bool.and_self, List.take_length, decide_true, Bool.not_true, Bool.not_false]
      refine hNi _ (VWp.keep [2] [] ?_); simp only [go_sem, Int.reduceEq, Int.reduceNe, Int.reduceLT, Int.reduceLE, Nat.reduceEqDiff, Nat.reduceAdd, Nat.reduceMul, Nat.reduceLT, Nat.reduceLeDiff, Nat.reduceSub, reduceCtorEq, reduceIte, Int.reduceToNat, beq_self_eq_true, Bool.and_self, List.take_length, decide_true, Bool.not_true, Bool.not_false]
      refine vwp_ret ?_
      simp only [go_sem, Int.reduceEq, Int.reduceNe, Int.reduceLT, Int.reduceLE, Nat.reduceEqDiff, Nat.reduceAdd, Nat.reduceMul, Nat.reduceLT, Nat.reduceLeDiff, Nat.reduceSub, reduceCtorEq, reduceIte, Int.reduceToNat, beq_self_eq_true, Bool.and_self, List.take_length, decide_true, Bool.not_true, Bool.not_false]
      refine LeV.of_eq (congrArg V.bool ?_)
      rw [ht] at hy
      cases hn : textJ s with
      | false => rfl
      | true =>
        have := (textJ_iff s).1 hn k hlt
        rw [this] at hy; cases hy
    · refine vwp_skip (hNf _ ?_)
      refine vreg tt_ok hF rfl ?_; simp only [go_sem, Int.reduceEq, Int.reduceNe, Int.reduceLT, Int.reduceLE, Nat.reduceEqDiff, Nat.reduceAdd, Nat.reduceMul, Nat.reduceLT, Nat.reduceLeDiff, Nat.reduceSub, reduceCtorEq, reduceIte, Int.reduceToNat, beq_self_eq_true, Bool.and_self, List.take_length, decide_true, Bool.not_true, Bool.not_false]
      rw [wrap_i64 (by omega) (by omega)]
      refine ⟨k + 1, ⟨by omega, fun j hj => ?_⟩, by omega, by simp⟩
      rcases Nat.lt_succ_iff_lt_or_eq.1 hj with h | h
      · exact hall j h
      · subst h; rw [hf] at hy; simpa using hy.symm
  · have hk2 : k = s.length := by have := of_decide_eq_false hf; omega
    refine vwp_exit ?_
    simp only [go_sem, Int.reduceEq, Int.reduceNe, Int.reduceLT, Int.reduceLE, Nat.reduceEqDiff, Nat.reduceAdd, Nat.reduceMul, Nat.reduceLT, Nat.reduceLeDiff, Nat.reduceSub, reduceCtorEq, reduceIte, Int.reduceToNat, beq_self_eq_true, Bool.and_self, List.take_length, decide_true, Bool.not_true, Bool.not_false]
    refine hNb _ (VWp.keepR [] [] tt_ok hF rfl fun Nj hNj => ?_); simp only [go_sem, Int.reduceEq, Int.reduceNe, Int.reduceLT, Int.reduceLE, Nat.reduceEqDiff, Nat.reduceAdd, Nat.reduceMul, Nat.reduceLT, Nat.reduceLeDiff, Nat.reduceSub, reduceCtorEq, reduceIte, Int.reduceToNat, beq_self_eq_true, Bool.and_self, List.take_length, decide_true, Bool.not_true, Bool.not_false]
    refine hNj _ (VWp.keep [2] [] ?_); simp only [go_sem, Int.reduceEq, Int.reduceNe, Int.reduceLT, Int.reduceLE, Nat.reduceEqDiff, Nat.reduceAdd, Nat.reduceMul, Nat.reduceLT, Nat.reduceLeDiff, Nat.reduceSub, reduceCtorEq, reduceIte, Int.reduceToNat, beq_self_eq_true, Bool.and_self, List.take_length, decide_true, Bool.not_true, Bool.not_false]
    refine vwp_ret ?_
    simp only [go_sem, Int.reduceEq, Int.reduceNe, Int.reduceLT, Int.reduceLE, Nat.reduceEqDiff, Nat.reduceAdd, Nat.reduceMul, Nat.reduceLT, Nat.reduceLeDiff, Nat.reduceSub, reduceCtorEq, reduceIte, Int.reduceToNat, beq_self_eq_true, Bool.and_self, List.take_length, decide_true, Bool.not_true, Bool.not_false]
    exact LeV.of_eq (congrArg V.bool ((textJ_iff s).2 (fun j hj => hall j (by omega))).symm)
set_option maxHeartbeats 8000000 in
set_option maxRecDepth 4000 in
theorem rValue_spec (s : Jb) (hs : s.length ≤ 1000000000) : Spec Tryz.prog 66 [.str s] (.bool (valueJ s)) := by
  have h1 := places_spec s hs
  have h2 := plain_spec s hs
  obtain ⟨l, ok, hv, hok, hno, hln⟩ := plc_cases s
  rw [hv] at h1
  obtain ⟨R, hR⟩ : ∃ R, valueJ s = R := ⟨_, rfl⟩
  rw [hR] at hno ⊢
  cases ok
  · obtain ⟨hRf, _⟩ := hno rfl
    subst hRf
    refine spec_of tt_ok Tryz.func66 rfl (by decide) Tryz.ntmps66 (congrArg Array.toList Tryz.results66) (by simp) (by decide) rfl rfl (fun F hF => ?_)
    refine vwp_seq_k fun Na hNa => vreg tt_ok hF rfl ?_; simp only [go_sem, Int.reduceEq, Int.reduceNe, Int.reduceLT, Int.reduceLE, Nat.reduceEqDiff, Nat.reduceAdd, Nat.reduceMul, Nat.reduceLT, Nat.reduceLeDiff, Nat.reduceSub, reduceCtorEq, reduceIte, Int.reduceToNat, beq_self_eq_true, Bool.and_self, List.take_length, decide_true, Bool.not_true, Bool.not_false]
    refine hNa _ (VWp.keepR [0] [] tt_ok hF rfl fun Nb hNb => ?_); simp only [go_sem, Int.reduceEq, Int.reduceNe, Int.reduceLT, Int.reduceLE, Nat.reduceEqDiff, Nat.reduceAdd, Nat.reduceMul, Nat.reduceLT, Nat.reduceLeDiff, Nat.reduceSub, reduceCtorEq, reduceIte, Int.reduceToNat, beq_self_eq_true, Bool.and_self, List.take_length, decide_true, Bool.not_true, Bool.not_false]
    refine .inl ⟨_, h1, ?_⟩; try simp only [go_sem, Int.reduceEq, Int.reduceNe, Int.reduceLT, Int.reduceLE, Nat.reduceEqDiff, Nat.reduceAdd, Nat.reduceMul, Nat.reduceLT, Nat.reduceLeDiff, Nat.reduceSub, reduceCtorEq, reduceIte, Int.reduceToNat, beq_self_eq_true, Bool.and_self, List.take_length, decide_true, Bool.not_true, Bool.not_false]
    refine hNb _ (VWp.keep [0,3,4] [] ?_); simp only [go_sem, Int.reduceEq, Int.reduceNe, Int.reduceLT, Int.reduceLE, Nat.reduceEqDiff, Nat.reduceAdd, Nat.reduceMul, Nat.reduceLT, Nat.reduceLeDiff, Nat.reduceSub, reduceCtorEq, reduceIte, Int.reduceToNat, beq_self_eq_true, Bool.and_self, List.take_length, decide_true, Bool.not_true, Bool.not_false]
    refine vwp_seq_k fun Nc hNc => ?_
    refine vwp_seq_k fun Nd hNd => vreg tt_ok hF rfl ?_; simp only [go_sem, Int.reduceEq, Int.reduceNe, Int.reduceLT, Int.reduceLE, Nat.reduceEqDiff, Nat.reduceAdd, Nat.reduceMul, Nat.reduceLT, Nat.reduceLeDiff, Nat.reduceSub, reduceCtorEq, reduceIte, Int.reduceToNat, beq_self_eq_true, Bool.and_self, List.take_length, decide_true, Bool.not_true, Bool.not_false]
    refine hNd _ (VWp.keep [0,3,4,5] [] ?_); simp only [go_sem, Int.reduceEq, Int.reduceNe, Int.reduceLT, Int.reduceLE, Nat.reduceEqDiff, Nat.reduceAdd, Nat.reduceMul, Nat.reduceLT, Nat.reduceLeDiff, Nat.reduceSub, reduceCtorEq, reduceIte, Int.reduceToNat, beq_self_eq_true, Bool.and_self, List.take_length, decide_true, Bool.not_true, Bool.not_false]
    refine vwp_block (vloop (fun _ : Unit => [(0, .str s), (3, intsV l), (4, .bool false), (5, .int .i64 0)]) (fun _ => []) (fun _ => True) (fun _ => 0) () trivial (by simp only [go_sem, Int.reduceEq, Int.reduceNe, Int.reduceLT, Int.reduceLE, Nat.reduceEqDiff, Nat.reduceAdd, Nat.reduceMul, Nat.reduceLT, Nat.reduceLeDiff, Nat.reduceSub, reduceCtorEq, reduceIte, Int.reduceToNat, beq_self_eq_true, Bool.and_self, List.take_length, decide_true, Bool.not_true, Bool.not_false]) ?_)
    rintro _ _
    refine vwp_seq_k fun Ne hNe => ?_
    refine vmeet (fun y : Bool => [(0, .str s), (3, intsV l), (4, .bool false), (5, .int .i64 0), (17, .bool y)]) (fun _ => []) (fun y => y = false) ?_ ?_
    · have e1 : decide ((0 : Int) < (l.length : Int)) = decide (0 < l.length) := by apply decide_eq_decide.2; omega
      generalize decide (0 < l.length) = b1 at e1
      cases b1
      all_goals
        refine vreg tt_ok hF rfl ?_; simp only [go_sem, Int.reduceEq, Int.reduceNe, Int.reduceLT, Int.reduceLE, Nat.reduceEqDiff, Nat.reduceAdd, Nat.reduceMul, Nat.reduceLT, Nat.reduceLeDiff, Nat.reduceSub, reduceCtorEq, reduceIte, Int.reduceToNat, beq_self_eq_true, Bool.and_self, List.take_length, decide_true, Bool.not_true, Bool.not_false, List.length_map, e1]
        exact ⟨false, rfl, by simp⟩
    intro y hy
    subst hy
    refine vif rfl ⟨fun ht => (by cases ht), fun hf => ?_⟩
    refine vwp_exit ?_
    simp only [go_sem, Int.reduceEq, Int.reduceNe, Int.reduceLT, Int.reduceLE, Nat.reduceEqDiff, Nat.reduceAdd, Nat.reduceMul, Nat.reduceLT, Nat.reduceLeDiff, Nat.reduceSub, reduceCtorEq, reduceIte, Int.reduceToNat, beq_self_eq_true, Bool.and_self, List.take_length, decide_true, Bool.not_true, Bool.not_false]
    refine hNc _ (VWp.keepR [0,4] [] tt_ok hF rfl fun Nj hNj => ?_); simp only [go_sem, Int.reduceEq, Int.reduceNe, Int.reduceLT, Int.reduceLE, Nat.reduceEqDiff, Nat.reduceAdd, Nat.reduceMul, Nat.reduceLT, Nat.reduceLeDiff, Nat.reduceSub, reduceCtorEq, reduceIte, Int.reduceToNat, beq_self_eq_true, Bool.and_self, List.take_length, decide_true, Bool.not_true, Bool.not_false]
    refine hNj _ (VWp.keep [2] [] ?_); simp only [go_sem, Int.reduceEq, Int.reduceNe, Int.reduceLT, Int.reduceLE, Nat.reduceEqDiff, Nat.reduceAdd, Nat.reduceMul, Nat.reduceLT, Nat.reduceLeDiff, Nat.reduceSub, reduceCtorEq, reduceIte, Int.reduceToNat, beq_self_eq_true, Bool.and_self, List.take_length, decide_true, Bool.not_true, Bool.not_false]
    refine vwp_ret ?_
    simp only [go_sem, Int.reduceEq, Int.reduceNe, Int.reduceLT, Int.reduceLE, Nat.reduceEqDiff, Nat.reduceAdd, Nat.reduceMul, Nat.reduceLT, Nat.reduceLeDiff, Nat.reduceSub, reduceCtorEq, reduceIte, Int.reduceToNat, beq_self_eq_true, Bool.and_self, List.take_length, decide_true, Bool.not_true, Bool.not_false]
    exact LeV.refl _
  · have hpl := hok rfl
    obtain ⟨hlen, _, _⟩ := pl_some hpl
    have hval := value_of hpl
    rw [hR] at hval
    have hz := zip_all s l hlen okV
    refine spec_of tt_ok Tryz.func66 rfl (by decide) Tryz.ntmps66 (congrArg Array.toList Tryz.results66) (by simp) (by decide) rfl rfl (fun F hF => ?_)
    refine vwp_seq_k fun Na hNa => vreg tt_ok hF rfl ?_; simp only [go_sem, Int.reduceEq, Int.reduceNe, Int.reduceLT, Int.reduceLE, Nat.reduceEqDiff, Nat.reduceAdd, Nat.reduceMul, Nat.reduceLT, Nat.reduceLeDiff, Nat.reduceSub, reduceCtorEq, reduceIte, Int.reduceToNat, beq_self_eq_true, Bool.and_self, List.take_length, decide_true, Bool.not_true, Bool.not_false]
    refine hNa _ (VWp.keepR [0] [] tt_ok hF rfl fun Nb hNb => ?_); simp only [go_sem, Int.reduceEq, Int.reduceNe, Int.reduceLT, Int.reduceLE, Nat.reduceEqDiff, Nat.reduceAdd, Nat.reduceMul, Nat.reduceLT, Nat.reduceLeDiff, Nat.reduceSub, reduceCtorEq, reduceIte, Int.reduceToNat, beq_self_eq_true, Bool.and_self, List.take_length, decide_true, Bool.not_true, Bool.not_false]
    refine .inl ⟨_, h1, ?_⟩; try simp only [go_sem, Int.reduceEq, Int.reduceNe, Int.reduceLT, Int.reduceLE, Nat.reduceEqDiff, Nat.reduceAdd, Nat.reduceMul, Nat.reduceLT, Nat.reduceLeDiff, Nat.reduceSub, reduceCtorEq, reduceIte, Int.reduceToNat, beq_self_eq_true, Bool.and_self, List.take_length, decide_true, Bool.not_true, Bool.not_false]
    refine hNb _ (VWp.keep [0,3,4] [] ?_); simp only [go_sem, Int.reduceEq, Int.reduceNe, Int.reduceLT, Int.reduceLE, Nat.reduceEqDiff, Nat.reduceAdd, Nat.reduceMul, Nat.reduceLT, Nat.reduceLeDiff, Nat.reduceSub, reduceCtorEq, reduceIte, Int.reduceToNat, beq_self_eq_true, Bool.and_self, List.take_length, decide_true, Bool.not_true, Bool.not_false]
    refine vwp_seq_k fun Nc hNc => ?_
    refine vwp_seq_k fun Nd hNd => vreg tt_ok hF rfl ?_; simp only [go_sem, Int.reduceEq, Int.reduceNe, Int.reduceLT, Int.reduceLE, Nat.reduceEqDiff, Nat.reduceAdd, Nat.reduceMul, Nat.reduceLT, Nat.reduceLeDiff, Nat.reduceSub, reduceCtorEq, reduceIte, Int.reduceToNat, beq_self_eq_true, Bool.and_self, List.take_length, decide_true, Bool.not_true, Bool.not_false]
    refine hNd _ (VWp.keep [0,3,4,5] [] ?_); simp only [go_sem, Int.reduceEq, Int.reduceNe, Int.reduceLT, Int.reduceLE, Nat.reduceEqDiff, Nat.reduceAdd, Nat.reduceMul, Nat.reduceLT, Nat.reduceLeDiff, Nat.reduceSub, reduceCtorEq, reduceIte, Int.reduceToNat, beq_self_eq_true, Bool.and_self, List.take_length, decide_true, Bool.not_true, Bool.not_false]
    refine vwp_block (vloop (fun m : Nat => [(0, .str s), (3, intsV l), (4, .bool true), (5, .int .i64 (m : Int))]) (fun _ => []) (fun m => m ≤ s.length ∧ ∀ j < m, okV (s.getD j 0) (l.getD j 0) = true) (fun m => s.length - m) 0 ⟨Nat.zero_le _, fun j hj => by omega⟩ (by simp only [go_sem, Int.reduceEq, Int.reduceNe, Int.reduceLT, Int.reduceLE, Nat.reduceEqDiff, Nat.reduceAdd, Nat.reduceMul, Nat.reduceLT, Nat.reduceLeDiff, Nat.reduceSub, reduceCtorEq, reduceIte, Int.reduceToNat, beq_self_eq_true, Bool.and_self, List.take_length, decide_true, Bool.not_true, Bool.not_false]) ?_)
    rintro m ⟨m1, m2⟩
    have e0 : decide ((m : Int) < (l.length : Int)) = decide (m < s.length) := by apply decide_eq_decide.2; omega
    refine vwp_seq_k fun Ne hNe => ?_
    refine vmeet (fun y : Bool => [(0, .str s), (3, intsV l), (4, .bool true), (5, .int .i64 (m : Int)), (17, .bool y)]) (fun _ => []) (fun y => y = decide (m < s.length)) ?_ ?_
    · generalize decide (m < s.length) = b1 at e0
      cases b1
      all_goals
        refine vreg tt_ok hF rfl ?_; simp only [go_sem, Int.reduceEq, Int.reduceNe, Int.reduceLT, Int.reduceLE, Nat.reduceEqDiff, Nat.reduceAdd, Nat.reduceMul, Nat.reduceLT, Nat.reduceLeDiff, Nat.reduceSub, reduceCtorEq, reduceIte, Int.reduceToNat, beq_self_eq_true, Bool.and_self, List.take_length, decide_true, Bool.not_true, Bool.not_false, List.length_map, e0]
        exact ⟨_, rfl, by simp⟩
    intro y hy
    subst hy
    refine vif rfl ⟨fun ht => ?_, fun hf => ?_⟩
    · have hlt : m < s.length := of_decide_eq_true ht
      have hpm : (0 : Int) ≤ (m : Int) ∧ (m : Int) < (s.length : Int) := ⟨by omega, by omega⟩
      have hpl2 : (0 : Int) ≤ (m : Int) ∧ (m : Int) < (l.length : Int) := ⟨by omega, by omega⟩
      have hrow := int_row l m (by omega)
      refine vwp_skip (hNe _ ?_)
      refine vwp_seq_k fun Ng hNg => ?_
      refine vwp_block ?_
      refine vmeet (fun y : Bool => [(0, .str s), (3, intsV l), (4, .bool true), (5, .int .i64 (m : Int)), (43, .bool y)]) (fun _ => []) (fun y => y = !okV (s.getD m 0) (l.getD m 0)) ?_ ?_
      · have e1 : decide ((((s.getD m 0).toNat : Nat) : Int) = (32 : Int)) = (s.getD m 0 == 32) := u8eq 32 _
        have e2 : decide ((((s.getD m 0).toNat : Nat) : Int) = (44 : Int)) = (s.getD m 0 == 44) := u8eq 44 _
        have e3 : decide (l.getD m 0 = 0) = (l.getD m 0 == 0) := inteq _ _
        unfold okV
        generalize (s.getD m 0 == 32) = b1 at e1 ⊢
        generalize (s.getD m 0 == 44) = b2 at e2 ⊢
        generalize (l.getD m 0 == 0) = b3 at e3 ⊢
        generalize hb4 : decide (0 ≤ l.getD m 0) = b4
        cases b1 <;> cases b2 <;> cases b4
        all_goals
          refine vreg tt_ok hF rfl ?_; simp only [go_sem, Int.reduceEq, Int.reduceNe, Int.reduceLT, Int.reduceLE, Nat.reduceEqDiff, Nat.reduceAdd, Nat.reduceMul, Nat.reduceLT, Nat.reduceLeDiff, Nat.reduceSub, reduceCtorEq, reduceIte, Int.reduceToNat, beq_self_eq_true, Bool.and_self, List.take_length, decide_true, Bool.not_true, Bool.not_false, hpm, hpl2, hrow, List.length_map, e1, e2, e3, hb4]
          exact ⟨_, rfl, by simp⟩
      intro y hy
      refine vif rfl ⟨fun ht => ?_, fun hf => ?_⟩
      · have hRf : R = false := by
          rw [ht] at hy
          cases R with
          | false => rfl
          | true =>
            have hval := hval.symm
            simp only [Bool.true_and, Bool.and_eq_true] at hval
            have := hz.1 hval.1 m hlt
            rw [this] at hy; cases hy
        subst hRf
        refine vwp_seq_k fun Ni hNi => vreg tt_ok hF rfl ?_; simp only [go_sem, Int.reduceEq, Int.reduceNe, Int.reduceLT, Int.reduceLE, Nat.reduceEqDiff, Nat.reduceAdd, Nat.reduceMul, Nat.reduceLT, Nat.reduceLeDiff, Nat.reduceSub, reduceCtorEq, reduceIte, Int.reduceToNat, beq_self_eq_true, Bool.and_self, List.take_length, decide_true, Bool.not_true, Bool.not_false]
        refine hNi _ (VWp.keep [2] [] ?_); simp only [go_sem, Int.reduceEq, Int.reduceNe, Int.reduceLT, Int.reduceLE, Nat.reduceEqDiff, Nat.reduceAdd, Nat.reduceMul, Nat.reduceLT, Nat.reduceLeDiff, Nat.reduceSub, reduceCtorEq, reduceIte, Int.reduceToNat, beq_self_eq_true, Bool.and_self, List.take_length, decide_true, Bool.not_true, Bool.not_false]
        refine vwp_ret ?_
        simp only [go_sem, Int.reduceEq, Int.reduceNe, Int.reduceLT, Int.reduceLE, Nat.reduceEqDiff, Nat.reduceAdd, Nat.reduceMul, Nat.reduceLT, Nat.reduceLeDiff, Nat.reduceSub, reduceCtorEq, reduceIte, Int.reduceToNat, beq_self_eq_true, Bool.and_self, List.take_length, decide_true, Bool.not_true, Bool.not_false]
        exact LeV.refl _
      · refine vwp_skip (hNg _ ?_)
        refine vreg tt_ok hF rfl ?_; simp only [go_sem, Int.reduceEq, Int.reduceNe, Int.reduceLT, Int.reduceLE, Nat.reduceEqDiff, Nat.reduceAdd, Nat.reduceMul, Nat.reduceLT, Nat.reduceLeDiff, Nat.reduceSub, reduceCtorEq, reduceIte, Int.reduceToNat, beq_self_eq_true, Bool.and_self, List.take_length, decide_true, Bool.not_true, Bool.not_false]
        rw [wrap_i64 (by omega) (by omega)]
        refine ⟨m + 1, ⟨by omega, fun j hj => ?_⟩, by omega, by simp⟩
        rcases Nat.lt_succ_iff_lt_or_eq.1 hj with h | h
        · exact m2 j h
        · subst h; rw [hf] at hy; simpa using hy.symm
    · have hm : m = s.length := by have := of_decide_eq_false hf; omega
      subst hm
      rw [hz.2 m2] at hval
      simp only [Bool.true_and] at hval
      subst hval
      refine vwp_exit ?_
      simp only [go_sem, Int.reduceEq, Int.reduceNe, Int.reduceLT, Int.reduceLE, Nat.reduceEqDiff, Nat.reduceAdd, Nat.reduceMul, Nat.reduceLT, Nat.reduceLeDiff, Nat.reduceSub, reduceCtorEq, reduceIte, Int.reduceToNat, beq_self_eq_true, Bool.and_self, List.take_length, decide_true, Bool.not_true, Bool.not_false]
      refine hNc _ (VWp.keepR [0,4] [] tt_ok hF rfl fun Nj hNj => ?_); simp only [go_sem, Int.reduceEq, Int.reduceNe, Int.reduceLT, Int.reduceLE, Nat.reduceEqDiff, Nat.reduceAdd, Nat.reduceMul, Nat.reduceLT, Nat.reduceLeDiff, Nat.reduceSub, reduceCtorEq, reduceIte, Int.reduceToNat, beq_self_eq_true, Bool.and_self, List.take_length, decide_true, Bool.not_true, Bool.not_false]
      refine .inl ⟨_, h2, ?_⟩; try simp only [go_sem, Int.reduceEq, Int.reduceNe, Int.reduceLT, Int.reduceLE, Nat.reduceEqDiff, Nat.reduceAdd, Nat.reduceMul, Nat.reduceLT, Nat.reduceLeDiff, Nat.reduceSub, reduceCtorEq, reduceIte, Int.reduceToNat, beq_self_eq_true, Bool.and_self, List.take_length, decide_true, Bool.not_true, Bool.not_false]
      refine hNj _ (VWp.keep [2] [] ?_); simp only [go_sem, Int.reduceEq, Int.reduceNe, Int.reduceLT, Int.reduceLE, Nat.reduceEqDiff, Nat.reduceAdd, Nat.reduceMul, Nat.reduceLT, Nat.reduceLeDiff, Nat.reduceSub, reduceCtorEq, reduceIte, Int.reduceToNat, beq_self_eq_true, Bool.and_self, List.take_length, decide_true, Bool.not_true, Bool.not_false]
      refine vwp_ret ?_
      simp only [go_sem, Int.reduceEq, Int.reduceNe, Int.reduceLT, Int.reduceLE, Nat.reduceEqDiff, Nat.reduceAdd, Nat.reduceMul, Nat.reduceLT, Nat.reduceLeDiff, Nat.reduceSub, reduceCtorEq, reduceIte, Int.reduceToNat, beq_self_eq_true, Bool.and_self, List.take_length, decide_true, Bool.not_true, Bool.not_false]
      exact LeV.refl _
set_option maxHeartbeats 8000000 in
set_option maxRecDepth 4000 in
theorem rsplit_spec (s : Jb) (hs : s.length ≤ 100000000) : Spec Tryz.prog 87 [.str s, .int .i64 0] (.tup [strsV ((splitJ s).getD []), .bool (splitJ s).isSome]) := by
  have h1 := places_spec s (by omega)
  obtain ⟨l, ok, hv, hok, hno, hln⟩ := plc_cases s
  rw [hv] at h1
  obtain ⟨R, hR⟩ : ∃ R, splitJ s = R := ⟨_, rfl⟩
  rw [hR] at hno ⊢
  cases ok
  · obtain ⟨_, hRn⟩ := hno rfl
    subst hRn
    refine spec_of tt_ok Tryz.func87 rfl (by decide) Tryz.ntmps87 (congrArg Array.toList Tryz.results87) (by simp) (by decide) rfl rfl (fun F hF => ?_)
    refine vwp_seq_k fun Na hNa => vreg tt_ok hF rfl ?_; simp only [go_sem, Int.reduceEq, Int.reduceNe, Int.reduceLT, Int.reduceLE, Nat.reduceEqDiff, Nat.reduceAdd, Nat.reduceMul, Nat.reduceLT, Nat.reduceLeDiff, Nat.reduceSub, reduceCtorEq, reduceIte, Int.reduceToNat, beq_self_eq_true, Bool.and_self, List.take_length, decide_true, Bool.not_true, Bool.not_false]
    refine hNa _ (VWp.keepR [0,1] [] tt_ok hF rfl fun Nb hNb => ?_); simp only [go_sem, Int.reduceEq, Int.reduceNe, Int.reduceLT, Int.reduceLE, Nat.reduceEqDiff, Nat.reduceAdd, Nat.reduceMul, Nat.reduceLT, Nat.reduceLeDiff, Nat.reduceSub, reduceCtorEq, reduceIte, Int.reduceToNat, beq_self_eq_true, Bool.and_self, List.take_length, decide_true, Bool.not_true, Bool.not_false]
    refine .inl ⟨_, h1, ?_⟩; try simp only [go_sem, Int.reduceEq, Int.reduceNe, Int.reduceLT, Int.reduceLE, Nat.reduceEqDiff, Nat.reduceAdd, Nat.reduceMul, Nat.reduceLT, Nat.reduceLeDiff, Nat.reduceSub, reduceCtorEq, reduceIte, Int.reduceToNat, beq_self_eq_true, Bool.and_self, List.take_length, decide_true, Bool.not_true, Bool.not_false]
    refine hNb _ (VWp.keep [0,1,6,7] [] ?_); simp only [go_sem, Int.reduceEq, Int.reduceNe, Int.reduceLT, Int.reduceLE, Nat.reduceEqDiff, Nat.reduceAdd, Nat.reduceMul, Nat.reduceLT, Nat.reduceLeDiff, Nat.reduceSub, reduceCtorEq, reduceIte, Int.reduceToNat, beq_self_eq_true, Bool.and_self, List.take_length, decide_true, Bool.not_true, Bool.not_false]
    refine vwp_seq_k fun Nc hNc => ?_
    refine vwp_seq_k fun Nd hNd => vreg tt_ok hF rfl ?_; simp only [go_sem, Int.reduceEq, Int.reduceNe, Int.reduceLT, Int.reduceLE, Nat.reduceEqDiff, Nat.reduceAdd, Nat.reduceMul, Nat.reduceLT, Nat.reduceLeDiff, Nat.reduceSub, reduceCtorEq, reduceIte, Int.reduceToNat, beq_self_eq_true, Bool.and_self, List.take_length, decide_true, Bool.not_true, Bool.not_false]
    refine hNd _ (VWp.keep [0,1,6,17] [] ?_); simp only [go_sem, Int.reduceEq, Int.reduceNe, Int.reduceLT, Int.reduceLE, Nat.reduceEqDiff, Nat.reduceAdd, Nat.reduceMul, Nat.reduceLT, Nat.reduceLeDiff, Nat.reduceSub, reduceCtorEq, reduceIte, Int.reduceToNat, beq_self_eq_true, Bool.and_self, List.take_length, decide_true, Bool.not_true, Bool.not_false]
    refine vif rfl ⟨fun ht => ?_, fun hf => (by cases hf)⟩
    refine vwp_seq_k fun Ne hNe => vreg tt_ok hF rfl ?_; simp only [go_sem, Int.reduceEq, Int.reduceNe, Int.reduceLT, Int.reduceLE, Nat.reduceEqDiff, Nat.reduceAdd, Nat.reduceMul, Nat.reduceLT, Nat.reduceLeDiff, Nat.reduceSub, reduceCtorEq, reduceIte, Int.reduceToNat, beq_self_eq_true, Bool.and_self, List.take_length, decide_true, Bool.not_true, Bool.not_false]
    refine hNe _ (VWp.keep [4,5] [] ?_); simp only [go_sem, Int.reduceEq, Int.reduceNe, Int.reduceLT, Int.reduceLE, Nat.reduceEqDiff, Nat.reduceAdd, Nat.reduceMul, Nat.reduceLT, Nat.reduceLeDiff, Nat.reduceSub, reduceCtorEq, reduceIte, Int.reduceToNat, beq_self_eq_true, Bool.and_self, List.take_length, decide_true, Bool.not_true, Bool.not_false]
    refine vwp_ret ?_
    simp only [go_sem, Int.reduceEq, Int.reduceNe, Int.reduceLT, Int.reduceLE, Nat.reduceEqDiff, Nat.reduceAdd, Nat.reduceMul, Nat.reduceLT, Nat.reduceLeDiff, Nat.reduceSub, reduceCtorEq, reduceIte, Int.reduceToNat, beq_self_eq_true, Bool.and_self, List.take_length, decide_true, Bool.not_true, Bool.not_false]
    exact LeV.tup ⟨LeV.nil 1, LeV.refl _, trivial⟩
  · have hpl := hok rfl
    obtain ⟨hlen, _, _⟩ := pl_some hpl
    have hspl := split_of hpl
    rw [hR, if_pos rfl] at hspl
    obtain ⟨C, hC⟩ : ∃ C, cutJ s 0 (comO s l 0) = C := ⟨_, rfl⟩
    rw [hC] at hspl
    subst hspl
    refine spec_of tt_ok Tryz.func87 rfl (by decide) Tryz.ntmps87 (congrArg Array.toList Tryz.results87) (by simp) (by decide) rfl rfl (fun F hF => ?_)
    refine vwp_seq_k fun Na hNa => vreg tt_ok hF rfl ?_; simp only [go_sem, Int.reduceEq, Int.reduceNe, Int.reduceLT, Int.reduceLE, Nat.reduceEqDiff, Nat.reduceAdd, Nat.reduceMul, Nat.reduceLT, Nat.reduceLeDiff, Nat.reduceSub, reduceCtorEq, reduceIte, Int.reduceToNat, beq_self_eq_true, Bool.and_self, List.take_length, decide_true, Bool.not_true, Bool.not_false]
    refine hNa _ (VWp.keepR [0,1] [] tt_ok hF rfl fun Nb hNb => ?_); simp only [go_sem, Int.reduceEq, Int.reduceNe, Int.reduceLT, Int.reduceLE, Nat.reduceEqDiff, Nat.reduceAdd, Nat.reduceMul, Nat.reduceLT, Nat.reduceLeDiff, Nat.reduceSub, reduceCtorEq, reduceIte, Int.reduceToNat, beq_self_eq_true, Bool.and_self, List.take_length, decide_true, Bool.not_true, Bool.not_false]
    refine .inl ⟨_, h1, ?_⟩; try simp only [go_sem, Int.reduceEq, Int.reduceNe, Int.reduceLT, Int.reduceLE, Nat.reduceEqDiff, Nat.reduceAdd, Nat.reduceMul, Nat.reduceLT, Nat.reduceLeDiff, Nat.reduceSub, reduceCtorEq, reduceIte, Int.reduceToNat, beq_self_eq_true, Bool.and_self, List.take_length, decide_true, Bool.not_true, Bool.not_false]
    refine hNb _ (VWp.keep [0,1,6,7] [] ?_); simp only [go_sem, Int.reduceEq, Int.reduceNe, Int.reduceLT, Int.reduceLE, Nat.reduceEqDiff, Nat.reduceAdd, Nat.reduceMul, Nat.reduceLT, Nat.reduceLeDiff, Nat.reduceSub, reduceCtorEq, reduceIte, Int.reduceToNat, beq_self_eq_true, Bool.and_self, List.take_length, decide_true, Bool.not_true, Bool.not_false]
    refine vwp_seq_k fun Nc hNc => ?_
    refine vwp_seq_k fun Nd hNd => vreg tt_ok hF rfl ?_; simp only [go_sem, Int.reduceEq, Int.reduceNe, Int.reduceLT, Int.reduceLE, Nat.reduceEqDiff, Nat.reduceAdd, Nat.reduceMul, Nat.reduceLT, Nat.reduceLeDiff, Nat.reduceSub, reduceCtorEq, reduceIte, Int.reduceToNat, beq_self_eq_true, Bool.and_self, List.take_length, decide_true, Bool.not_true, Bool.not_false]
    refine hNd _ (VWp.keep [0,1,6,17] [] ?_); simp only [go_sem, Int.reduceEq, Int.reduceNe, Int.reduceLT, Int.reduceLE, Nat.reduceEqDiff, Nat.reduceAdd, Nat.reduceMul, Nat.reduceLT, Nat.reduceLeDiff, Nat.reduceSub, reduceCtorEq, reduceIte, Int.reduceToNat, beq_self_eq_true, Bool.and_self, List.take_length, decide_true, Bool.not_true, Bool.not_false]
    refine vif rfl ⟨fun ht => (by cases ht), fun hf => ?_⟩
    refine vwp_skip (hNc _ ?_)
    refine vwp_seq_k fun Nf hNf => vreg tt_ok hF rfl ?_; simp only [go_sem, Int.reduceEq, Int.reduceNe, Int.reduceLT, Int.reduceLE, Nat.reduceEqDiff, Nat.reduceAdd, Nat.reduceMul, Nat.reduceLT, Nat.reduceLeDiff, Nat.reduceSub, reduceCtorEq, reduceIte, Int.reduceToNat, beq_self_eq_true, Bool.and_self, List.take_length, decide_true, Bool.not_true, Bool.not_false]
    refine hNf _ (VWp.keepR [0,1,6,8] [] tt_ok hF rfl fun Ng hNg => ?_); simp only [go_sem, Int.reduceEq, Int.reduceNe, Int.reduceLT, Int.reduceLE, Nat.reduceEqDiff, Nat.reduceAdd, Nat.reduceMul, Nat.reduceLT, Nat.reduceLeDiff, Nat.reduceSub, reduceCtorEq, reduceIte, Int.reduceToNat, beq_self_eq_true, Bool.and_self, List.take_length, decide_true, Bool.not_true, Bool.not_false]
    refine hNg _ (VWp.keep [0,1,6,8,9] [] ?_); simp only [go_sem, Int.reduceEq, Int.reduceNe, Int.reduceLT, Int.reduceLE, Nat.reduceEqDiff, Nat.reduceAdd, Nat.reduceMul, Nat.reduceLT, Nat.reduceLeDiff, Nat.reduceSub, reduceCtorEq, reduceIte, Int.reduceToNat, beq_self_eq_true, Bool.and_self, List.take_length, decide_true, Bool.not_true, Bool.not_false]
    refine vwp_seq_k fun Nh hNh => ?_
    refine vwp_seq_k fun Ni hNi => vreg tt_ok hF rfl ?_; simp only [go_sem, Int.reduceEq, Int.reduceNe, Int.reduceLT, Int.reduceLE, Nat.reduceEqDiff, Nat.reduceAdd, Nat.reduceMul, Nat.reduceLT, Nat.reduceLeDiff, Nat.reduceSub, reduceCtorEq, reduceIte, Int.reduceToNat, beq_self_eq_true, Bool.and_self, List.take_length, decide_true, Bool.not_true, Bool.not_false]
    refine hNi _ (VWp.keep [0,1,6,8,9,10] [] ?_); simp only [go_sem, Int.reduceEq, Int.reduceNe, Int.reduceLT, Int.reduceLE, Nat.reduceEqDiff, Nat.reduceAdd, Nat.reduceMul, Nat.reduceLT, Nat.reduceLeDiff, Nat.reduceSub, reduceCtorEq, reduceIte, Int.reduceToNat, beq_self_eq_true, Bool.and_self, List.take_length, decide_true, Bool.not_true, Bool.not_false]
    refine VWp.adopt 500000 1 9 (x := 8) rfl rfl (by decide) ?_ (closed_of (by simp only [go_sem, Int.reduceEq, Int.reduceNe, Int.reduceLT, Int.reduceLE, Nat.reduceEqDiff, Nat.reduceAdd, Nat.reduceMul, Nat.reduceLT, Nat.reduceLeDiff, Nat.reduceSub, reduceCtorEq, reduceIte, Int.reduceToNat, beq_self_eq_true, Bool.and_self, List.take_length, decide_true, Bool.not_true, Bool.not_false]) (by simp only [go_sem, Int.reduceEq, Int.reduceNe, Int.reduceLT, Int.reduceLE, Nat.reduceEqDiff, Nat.reduceAdd, Nat.reduceMul, Nat.reduceLT, Nat.reduceLeDiff, Nat.reduceSub, reduceCtorEq, reduceIte, Int.reduceToNat, beq_self_eq_true, Bool.and_self, List.take_length, decide_true, Bool.not_true, Bool.not_false]))
    refine VWp.keep [0,1,6,8,9,10] [500000] ?_; simp only [go_sem, Int.reduceEq, Int.reduceNe, Int.reduceLT, Int.reduceLE, Nat.reduceEqDiff, Nat.reduceAdd, Nat.reduceMul, Nat.reduceLT, Nat.reduceLeDiff, Nat.reduceSub, reduceCtorEq, reduceIte, Int.reduceToNat, beq_self_eq_true, Bool.and_self, List.take_length, decide_true, Bool.not_true, Bool.not_false]
    refine vwp_block (vloop (fun z : Nat × Nat × List Jb => [(0, .str s), (1, .int .i64 0), (6, intsV l), (8, .own 500000 z.2.2.length), (9, .int .i64 (z.2.1 : Int)), (10, .int .i64 (z.1 : Int))]) (fun z => [(500000, .arr 1 9 (z.2.2.map fun w => [V.str w]))])
      (fun z => z.1 ≤ s.length ∧ z.2.1 ≤ z.1 ∧ z.2.2.length ≤ z.1 ∧ z.2.2 ++ cutJ s z.2.1 (comO (s.drop z.1) (l.drop z.1) z.1) = C) (fun z => s.length - z.1) (0, 0, []) ⟨Nat.zero_le _, Nat.le_refl _, Nat.le_refl _, by simpa using hC⟩ (by simp only [go_sem, Int.reduceEq, Int.reduceNe, Int.reduceLT, Int.reduceLE, Nat.reduceEqDiff, Nat.reduceAdd, Nat.reduceMul, Nat.reduceLT, Nat.reduceLeDiff, Nat.reduceSub, reduceCtorEq, reduceIte, Int.reduceToNat, beq_self_eq_true, Bool.and_self, List.take_length, decide_true, Bool.not_true, Bool.not_false]) ?_)
    rintro ⟨m, fr, out⟩ ⟨m1, m2, m3, m4⟩
    have m1 : m ≤ s.length := m1
    have m2 : fr ≤ m := m2
    have m3 : out.length ≤ m := m3
    have m4 : out ++ cutJ s fr (comO (s.drop m) (l.drop m) m) = C := m4
    have e0 : decide ((m : Int) < (l.length : Int)) = decide (m < s.length) := by apply decide_eq_decide.2; omega
    try dsimp only
    refine vwp_seq_k fun Nj hNj => ?_
    refine vwp_seq_k fun Nk hNk => vreg tt_ok hF rfl ?_; simp only [go_sem, Int.reduceEq, Int.reduceNe, Int.reduceLT, Int.reduceLE, Nat.reduceEqDiff, Nat.reduceAdd, Nat.reduceMul, Nat.reduceLT, Nat.reduceLeDiff, Nat.reduceSub, reduceCtorEq, reduceIte, Int.reduceToNat, beq_self_eq_true, Bool.and_self, List.take_length, decide_true, Bool.not_true, Bool.not_false, List.length_map, e0]
    refine hNk _ (VWp.keep [0,1,6,8,9,10,21] [500000] ?_); simp only [go_sem, Int.reduceEq, Int.reduceNe, Int.reduceLT, Int.reduceLE, Nat.reduceEqDiff, Nat.reduceAdd, Nat.reduceMul, Nat.reduceLT, Nat.reduceLeDiff, Nat.reduceSub, reduceCtorEq, reduceIte, Int.reduceToNat, beq_self_eq_true, Bool.and_self, List.take_length, decide_true, Bool.not_true, Bool.not_false]
    refine vif rfl ⟨fun ht => ?_, fun hf => ?_⟩
    · have hlt : m < s.length := of_decide_eq_true ht
      have hpm : (0 : Int) ≤ (m : Int) ∧ (m : Int) < (s.length : Int) := ⟨by omega, by omega⟩
      have hpl2 : (0 : Int) ≤ (m : Int) ∧ (m : Int) < (l.length : Int) := ⟨by omega, by omega⟩
      have hrow := int_row l m (by omega)
      rw [drop_at s m hlt, drop_consI l m (by omega), comO_cons] at m4
      refine vwp_skip (hNj _ ?_)
      refine vwp_seq_k fun Nl hNl => ?_
      refine vwp_block ?_
      refine vmeet (fun y : Bool => [(0, .str s), (1, .int .i64 0), (6, intsV l), (8, .own 500000 out.length), (9, .int .i64 (fr : Int)), (10, .int .i64 (m : Int)), (35, .bool y)]) (fun _ => [(500000, .arr 1 9 (out.map fun w => [V.str w]))]) (fun y => y = (s.getD m 0 == 44 && l.getD m 0 == 0)) ?_ ?_
      · have e2 : decide ((((s.getD m 0).toNat : Nat) : Int) = (44 : Int)) = (s.getD m 0 == 44) := u8eq 44 _
        have e3 : decide (l.getD m 0 = 0) = (l.getD m 0 == 0) := inteq _ _
        generalize (s.getD m 0 == 44) = b2 at e2 ⊢
        generalize (l.getD m 0 == 0) = b3 at e3 ⊢
        cases b2
        all_goals
          refine vreg tt_ok hF rfl ?_; simp only [go_sem, Int.reduceEq, Int.reduceNe, Int.reduceLT, Int.reduceLE, Nat.reduceEqDiff, Nat.reduceAdd, Nat.reduceMul, Nat.reduceLT, Nat.reduceLeDiff, Nat.reduceSub, reduceCtorEq, reduceIte, Int.reduceToNat, beq_self_eq_true, Bool.and_self, List.take_length, decide_true, Bool.not_true, Bool.not_false, hpm, hpl2, hrow, List.length_map, e2, e3]
          exact ⟨_, rfl, by simp⟩
      intro y hy
      rw [← hy] at m4
      refine vif rfl ⟨fun ht => ?_, fun hf => ?_⟩
      · rw [ht, if_pos rfl, cutJ] at m4
        refine vwp_seq_k fun Nn hNn => vreg tt_ok hF rfl ?_; simp only [go_sem, Int.reduceEq, Int.reduceNe, Int.reduceLT, Int.reduceLE, Nat.reduceEqDiff, Nat.reduceAdd, Nat.reduceMul, Nat.reduceLT, Nat.reduceLeDiff, Nat.reduceSub, reduceCtorEq, reduceIte, Int.reduceToNat, beq_self_eq_true, Bool.and_self, List.take_length, decide_true, Bool.not_true, Bool.not_false]
        refine ⟨⟨by omega, by omega, by omega⟩, by omega, ?_⟩
        refine hNn _ (VWp.keep [0,1,6,8,10] [500000] ?_); simp only [go_sem, Int.reduceEq, Int.reduceNe, Int.reduceLT, Int.reduceLE, Nat.reduceEqDiff, Nat.reduceAdd, Nat.reduceMul, Nat.reduceLT, Nat.reduceLeDiff, Nat.reduceSub, reduceCtorEq, reduceIte, Int.reduceToNat, beq_self_eq_true, Bool.and_self, List.take_length, decide_true, Bool.not_true, Bool.not_false]
        refine vreg tt_ok hF rfl ?_; simp only [go_sem, Int.reduceEq, Int.reduceNe, Int.reduceLT, Int.reduceLE, Nat.reduceEqDiff, Nat.reduceAdd, Nat.reduceMul, Nat.reduceLT, Nat.reduceLeDiff, Nat.reduceSub, reduceCtorEq, reduceIte, Int.reduceToNat, beq_self_eq_true, Bool.and_self, List.take_length, decide_true, Bool.not_true, Bool.not_false]
        rw [wrap_i64 (by omega) (by omega)]
        refine hNl _ (VWp.keep [0,1,6,8,9,10] [500000] ?_); simp only [go_sem, Int.reduceEq, Int.reduceNe, Int.reduceLT, Int.reduceLE, Nat.reduceEqDiff, Nat.reduceAdd, Nat.reduceMul, Nat.reduceLT, Nat.reduceLeDiff, Nat.reduceSub, reduceCtorEq, reduceIte, Int.reduceToNat, beq_self_eq_true, Bool.and_self, List.take_length, decide_true, Bool.not_true, Bool.not_false]
        refine vreg tt_ok hF rfl ?_; simp only [go_sem, Int.reduceEq, Int.reduceNe, Int.reduceLT, Int.reduceLE, Nat.reduceEqDiff, Nat.reduceAdd, Nat.reduceMul, Nat.reduceLT, Nat.reduceLeDiff, Nat.reduceSub, reduceCtorEq, reduceIte, Int.reduceToNat, beq_self_eq_true, Bool.and_self, List.take_length, decide_true, Bool.not_true, Bool.not_false]
        rw [wrap_i64 (by omega) (by omega)]
        exact ⟨(m + 1, m + 1, out ++ [(s.take m).drop fr]), ⟨by simp only; omega, Nat.le_refl _, by simp; omega, by simpa using m4⟩, by simp only; omega, by simp [intsV]⟩
      · rw [hf, if_neg (by decide)] at m4
        refine vwp_skip (hNl _ ?_)
        refine vreg tt_ok hF rfl ?_; simp only [go_sem, Int.reduceEq, Int.reduceNe, Int.reduceLT, Int.reduceLE, Nat.reduceEqDiff, Nat.reduceAdd, Nat.reduceMul, Nat.reduceLT, Nat.reduceLeDiff, Nat.reduceSub, reduceCtorEq, reduceIte, Int.reduceToNat, beq_self_eq_true, Bool.and_self, List.take_length, decide_true, Bool.not_true, Bool.not_false]
        rw [wrap_i64 (by omega) (by omega)]
        exact ⟨(m + 1, fr, out), ⟨by simp only; omega, by simp only; omega, by simp only; omega, m4⟩, by simp only; omega, by simp [intsV]⟩
    · have hm : m = s.length := by have := of_decide_eq_false hf; omega
      subst hm
      rw [List.drop_length] at m4
      have m4 : out ++ [s.drop fr] = C := m4
      subst m4
      refine vwp_exit ?_
      simp only [go_sem, Int.reduceEq, Int.reduceNe, Int.reduceLT, Int.reduceLE, Nat.reduceEqDiff, Nat.reduceAdd, Nat.reduceMul, Nat.reduceLT, Nat.reduceLeDiff, Nat.reduceSub, reduceCtorEq, reduceIte, Int.reduceToNat, beq_self_eq_true, Bool.and_self, List.take_length, decide_true, Bool.not_true, Bool.not_false]
      refine hNh _ (VWp.keepR [0,8,9] [500000] tt_ok hF rfl fun No hNo => ?_); simp only [go_sem, Int.reduceEq, Int.reduceNe, Int.reduceLT, Int.reduceLE, Nat.reduceEqDiff, Nat.reduceAdd, Nat.reduceMul, Nat.reduceLT, Nat.reduceLeDiff, Nat.reduceSub, reduceCtorEq, reduceIte, Int.reduceToNat, beq_self_eq_true, Bool.and_self, List.take_length, decide_true, Bool.not_true, Bool.not_false]
      refine ⟨⟨by omega, by omega⟩, by omega, ?_⟩
      refine hNo _ (VWp.keep [4,5] [500000] ?_); simp only [go_sem, Int.reduceEq, Int.reduceNe, Int.reduceLT, Int.reduceLE, Nat.reduceEqDiff, Nat.reduceAdd, Nat.reduceMul, Nat.reduceLT, Nat.reduceLeDiff, Nat.reduceSub, reduceCtorEq, reduceIte, Int.reduceToNat, beq_self_eq_true, Bool.and_self, List.take_length, decide_true, Bool.not_true, Bool.not_false]
      refine vwp_ret ?_
      simp only [go_sem, Int.reduceEq, Int.reduceNe, Int.reduceLT, Int.reduceLE, Nat.reduceEqDiff, Nat.reduceAdd, Nat.reduceMul, Nat.reduceLT, Nat.reduceLeDiff, Nat.reduceSub, reduceCtorEq, reduceIte, Int.reduceToNat, beq_self_eq_true, Bool.and_self, List.take_length, decide_true, Bool.not_true, Bool.not_false]
      exact LeV.of_eq (by simp [strsV])
set_option maxHeartbeats 8000000 in
set_option maxRecDepth 4000 in
theorem rParts_spec (s : Jb) (hs : s.length ≤ 100000000) : Spec Tryz.prog 65 [.str s] (.tup [strsV ((partsJ s).getD []), .bool (partsJ s).isSome]) := by
  have h1 := rValue_spec s (by omega)
  have h2 := rsplit_spec ((s.take (s.length - 1)).drop 1) (by simp; omega)
  have h3 := places_spec s (by omega)
  have hp : partsJ s = if decide (2 ≤ s.length) && s.getD 0 0 == 40 && s.getD (s.length - 1) 0 == 41 && valueJ s then splitJ ((s.take (s.length - 1)).drop 1) else none := by
    rw [← headD_getD, ← lastD_getD]; rfl
  have e1 : decide ((s.length : Int) < 2) = !decide (2 ≤ s.length) := by
    by_cases h : 2 ≤ s.length
    · rw [decide_eq_false (by omega), decide_eq_true h]; rfl
    · rw [decide_eq_true (by omega), decide_eq_false h]; rfl
  rw [hp]
  by_cases hl : 2 ≤ s.length
  · rw [decide_eq_true hl] at e1 ⊢
    rw [Bool.true_and]
    have hw : IntKind.i64.wrap ((s.length : Int) - 1) = ((s.length - 1 : Nat) : Int) := by rw [wrap_i64 (by omega) (by omega)]; omega
    have e2 : decide ((((s.getD 0 0).toNat : Nat) : Int) = (40 : Int)) = (s.getD 0 0 == 40) := u8eq 40 _
    have e3 : decide ((((s.getD (s.length - 1) 0).toNat : Nat) : Int) = (41 : Int)) = (s.getD (s.length - 1) 0 == 41) := u8eq 41 _
    have hp0 : (0 : Int) < (s.length : Int) := by omega
    have hp1 : ((0 : Int) ≤ ((s.length - 1 : Nat) : Int) ∧ ((s.length - 1 : Nat) : Int) < (s.length : Int)) := by omega
    have hno := fun l ok h => parts_no (s := s) (l := l) (ok := ok) h hl
    have hv0 := value_no (s := s)
    have hv1 : valueJ s = true → ∃ l, plJ s 0 false = some (l, true) ∧ l.length = s.length := fun h => by
      obtain ⟨l, hl⟩ := pl_bal (val_parts h).2.1
      exact ⟨l, hl, (pl_some hl).1⟩
    have q2 : (s.getD 0 0 == 40) = true → s.getD 0 0 = 40 := fun h => by simpa using h
    have q3 : (s.getD (s.length - 1) 0 == 41) = true → s.getD (s.length - 1) 0 = 41 := fun h => by simpa using h
    generalize (s.getD 0 0 == 40) = b2 at e2 q2
    generalize (s.getD (s.length - 1) 0 == 41) = b3 at e3 q3
    generalize valueJ s = b4 at h1 hv1
    obtain ⟨R, hR⟩ : ∃ R, (if (b2 && b3 && b4) = true then splitJ ((s.take (s.length - 1)).drop 1) else none) = R := ⟨_, rfl⟩
    rw [hR]
    refine spec_of tt_ok Tryz.func65 rfl (by decide) Tryz.ntmps65 (congrArg Array.toList Tryz.results65) (by simp) (by decide) rfl rfl (fun F hF => ?_)
    refine vwp_seq_k fun Na hNa => vreg tt_ok hF rfl ?_; simp only [go_sem, Int.reduceEq, Int.reduceNe, Int.reduceLT, Int.reduceLE, Nat.reduceEqDiff, Nat.reduceAdd, Nat.reduceMul, Nat.reduceLT, Nat.reduceLeDiff, Nat.reduceSub, reduceCtorEq, reduceIte, Int.reduceToNat, beq_self_eq_true, Bool.and_self, List.take_length, decide_true, Bool.not_true, Bool.not_false]
    refine hNa _ (VWp.keep [0] [] ?_); simp only [go_sem, Int.reduceEq, Int.reduceNe, Int.reduceLT, Int.reduceLE, Nat.reduceEqDiff, Nat.reduceAdd, Nat.reduceMul, Nat.reduceLT, Nat.reduceLeDiff, Nat.reduceSub, reduceCtorEq, reduceIte, Int.reduceToNat, beq_self_eq_true, Bool.and_self, List.take_length, decide_true, Bool.not_true, Bool.not_false]
    refine vwp_seq_k fun Nb hNb => ?_
    refine vmeet (fun z : Bool => [(0, .str s), (27, .bool z)]) (fun _ => []) (fun z => z = !(b2 && b3 && b4)) ?_ ?_
    · cases b2 <;> cases b3
      all_goals
        refine vreg tt_ok hF rfl ?_; simp only [go_sem, Int.reduceEq, Int.reduceNe, Int.reduceLT, Int.reduceLE, Nat.reduceEqDiff, Nat.reduceAdd, Nat.reduceMul, Nat.reduceLT, Nat.reduceLeDiff, Nat.reduceSub, reduceCtorEq, reduceIte, Int.reduceToNat, beq_self_eq_true, Bool.and_self, List.take_length, decide_true, Bool.not_true, Bool.not_false, e1, e2, e3, hp0, hp1, hw]
        try (refine .inl ⟨_, h1, ?_⟩; try simp only [go_sem, Int.reduceEq, Int.reduceNe, Int.reduceLT, Int.reduceLE, Nat.reduceEqDiff, Nat.reduceAdd, Nat.reduceMul, Nat.reduceLT, Nat.reduceLeDiff, Nat.reduceSub, reduceCtorEq, reduceIte, Int.reduceToNat, beq_self_eq_true, Bool.and_self, List.take_length, decide_true, Bool.not_true, Bool.not_false])
        exact ⟨_, rfl, by simp⟩
    intro z hz
    refine vif rfl ⟨fun ht => ?_, fun hf => ?_⟩
    · have hcond : (b2 && b3 && b4) = false := by rw [ht] at hz; revert hz; cases b2 <;> cases b3 <;> cases b4 <;> simp
      rw [hcond] at hR
      simp only [Bool.false_eq_true, if_false] at hR
      subst hR
      refine vwp_seq_k fun Nd hNd => vreg tt_ok hF rfl ?_; simp only [go_sem, Int.reduceEq, Int.reduceNe, Int.reduceLT, Int.reduceLE, Nat.reduceEqDiff, Nat.reduceAdd, Nat.reduceMul, Nat.reduceLT, Nat.reduceLeDiff, Nat.reduceSub, reduceCtorEq, reduceIte, Int.reduceToNat, beq_self_eq_true, Bool.and_self, List.take_length, decide_true, Bool.not_true, Bool.not_false]
      refine hNd _ (VWp.keep [2,3] [] ?_); simp only [go_sem, Int.reduceEq, Int.reduceNe, Int.reduceLT, Int.reduceLE, Nat.reduceEqDiff, Nat.reduceAdd, Nat.reduceMul, Nat.reduceLT, Nat.reduceLeDiff, Nat.reduceSub, reduceCtorEq, reduceIte, Int.reduceToNat, beq_self_eq_true, Bool.and_self, List.take_length, decide_true, Bool.not_true, Bool.not_false]
      refine vwp_ret ?_
      simp only [go_sem, Int.reduceEq, Int.reduceNe, Int.reduceLT, Int.reduceLE, Nat.reduceEqDiff, Nat.reduceAdd, Nat.reduceMul, Nat.reduceLT, Nat.reduceLeDiff, Nat.reduceSub, reduceCtorEq, reduceIte, Int.reduceToNat, beq_self_eq_true, Bool.and_self, List.take_length, decide_true, Bool.not_true, Bool.not_false]
      exact LeV.tup ⟨LeV.nil 1, LeV.refl _, trivial⟩
    · have hcond : (b2 && b3 && b4) = true := by rw [hf] at hz; revert hz; cases b2 <;> cases b3 <;> cases b4 <;> simp
      rw [hcond, if_pos rfl] at hR
      simp only [Bool.and_eq_true] at hcond
      obtain ⟨⟨t2, t3⟩, t4⟩ := hcond
      obtain ⟨l, hl1, hl2⟩ := hv1 t4
      have hno := hno l true hl1 (q2 t2) (q3 t3)
      rw [hl1] at h3
      have h3 : Spec Tryz.prog 86 [.str s] (.tup [intsV l, .bool true]) := h3
      have hwl : IntKind.i64.wrap ((l.length : Int) - 1) = ((s.length - 1 : Nat) : Int) := by rw [wrap_i64 (by omega) (by omega)]; omega
      refine vwp_skip (hNb _ ?_)
      refine vwp_seq_k fun Ne hNe => vreg tt_ok hF rfl ?_; simp only [go_sem, Int.reduceEq, Int.reduceNe, Int.reduceLT, Int.reduceLE, Nat.reduceEqDiff, Nat.reduceAdd, Nat.reduceMul, Nat.reduceLT, Nat.reduceLeDiff, Nat.reduceSub, reduceCtorEq, reduceIte, Int.reduceToNat, beq_self_eq_true, Bool.and_self, List.take_length, decide_true, Bool.not_true, Bool.not_false]
      refine .inl ⟨_, h3, ?_⟩; try simp only [go_sem, Int.reduceEq, Int.reduceNe, Int.reduceLT, Int.reduceLE, Nat.reduceEqDiff, Nat.reduceAdd, Nat.reduceMul, Nat.reduceLT, Nat.reduceLeDiff, Nat.reduceSub, reduceCtorEq, reduceIte, Int.reduceToNat, beq_self_eq_true, Bool.and_self, List.take_length, decide_true, Bool.not_true, Bool.not_false]
      refine hNe _ (VWp.keep [0,4] [] ?_); simp only [go_sem, Int.reduceEq, Int.reduceNe, Int.reduceLT, Int.reduceLE, Nat.reduceEqDiff, Nat.reduceAdd, Nat.reduceMul, Nat.reduceLT, Nat.reduceLeDiff, Nat.reduceSub, reduceCtorEq, reduceIte, Int.reduceToNat, beq_self_eq_true, Bool.and_self, List.take_length, decide_true, Bool.not_true, Bool.not_false]
      refine vwp_seq_k fun Nf hNf => ?_
      refine vwp_seq_k fun Ng hNg => vreg tt_ok hF rfl ?_; simp only [go_sem, Int.reduceEq, Int.reduceNe, Int.reduceLT, Int.reduceLE, Nat.reduceEqDiff, Nat.reduceAdd, Nat.reduceMul, Nat.reduceLT, Nat.reduceLeDiff, Nat.reduceSub, reduceCtorEq, reduceIte, Int.reduceToNat, beq_self_eq_true, Bool.and_self, List.take_length, decide_true, Bool.not_true, Bool.not_false]
      refine hNg _ (VWp.keep [0,4,6] [] ?_); simp only [go_sem, Int.reduceEq, Int.reduceNe, Int.reduceLT, Int.reduceLE, Nat.reduceEqDiff, Nat.reduceAdd, Nat.reduceMul, Nat.reduceLT, Nat.reduceLeDiff, Nat.reduceSub, reduceCtorEq, reduceIte, Int.reduceToNat, beq_self_eq_true, Bool.and_self, List.take_length, decide_true, Bool.not_true, Bool.not_false]
      refine vwp_block (vloop (fun m : Nat => [(0, .str s), (4, intsV l), (6, .int .i64 (m : Int))]) (fun _ => []) (fun m => 1 ≤ m ∧ m ≤ s.length - 1) (fun m => s.length - m) 1 ⟨Nat.le_refl _, by omega⟩ (by simp only [go_sem, Int.reduceEq, Int.reduceNe, Int.reduceLT, Int.reduceLE, Nat.reduceEqDiff, Nat.reduceAdd, Nat.reduceMul, Nat.reduceLT, Nat.reduceLeDiff, Nat.reduceSub, reduceCtorEq, reduceIte, Int.reduceToNat, beq_self_eq_true, Bool.and_self, List.take_length, decide_true, Bool.not_true, Bool.not_false]) ?_)
      rintro m ⟨m1, m2⟩
      refine vwp_seq_k fun Nh hNh => ?_
      refine vwp_seq_k fun Ni hNi => vreg tt_ok hF rfl ?_; simp only [go_sem, Int.reduceEq, Int.reduceNe, Int.reduceLT, Int.reduceLE, Nat.reduceEqDiff, Nat.reduceAdd, Nat.reduceMul, Nat.reduceLT, Nat.reduceLeDiff, Nat.reduceSub, reduceCtorEq, reduceIte, Int.reduceToNat, beq_self_eq_true, Bool.and_self, List.take_length, decide_true, Bool.not_true, Bool.not_false, List.length_map, hwl]
      refine hNi _ (VWp.keep [0,4,6,37] [] ?_); simp only [go_sem, Int.reduceEq, Int.reduceNe, Int.reduceLT, Int.reduceLE, Nat.reduceEqDiff, Nat.reduceAdd, Nat.reduceMul, Nat.reduceLT, Nat.reduceLeDiff, Nat.reduceSub, reduceCtorEq, reduceIte, Int.reduceToNat, beq_self_eq_true, Bool.and_self, List.take_length, decide_true, Bool.not_true, Bool.not_false]
      refine vif rfl ⟨fun ht => ?_, fun hf => ?_⟩
      · have hlt : m < s.length - 1 := by have := of_decide_eq_true ht; omega
        have hpl2 : (0 : Int) ≤ (m : Int) ∧ (m : Int) < (l.length : Int) := ⟨by omega, by omega⟩
        have hrow := int_row l m (by omega)
        refine vwp_skip (hNh _ ?_)
        refine vwp_seq_k fun Nj hNj => ?_
        refine vwp_block ?_
        refine vwp_seq_k fun Nk hNk => vreg tt_ok hF rfl ?_; simp only [go_sem, Int.reduceEq, Int.reduceNe, Int.reduceLT, Int.reduceLE, Nat.reduceEqDiff, Nat.reduceAdd, Nat.reduceMul, Nat.reduceLT, Nat.reduceLeDiff, Nat.reduceSub, reduceCtorEq, reduceIte, Int.reduceToNat, beq_self_eq_true, Bool.and_self, List.take_length, decide_true, Bool.not_true, Bool.not_false, List.length_map, hpl2, hrow]
        refine hNk _ (VWp.keep [0,4,6,44] [] ?_); simp only [go_sem, Int.reduceEq, Int.reduceNe, Int.reduceLT, Int.reduceLE, Nat.reduceEqDiff, Nat.reduceAdd, Nat.reduceMul, Nat.reduceLT, Nat.reduceLeDiff, Nat.reduceSub, reduceCtorEq, reduceIte, Int.reduceToNat, beq_self_eq_true, Bool.and_self, List.take_length, decide_true, Bool.not_true, Bool.not_false]
        refine vif rfl ⟨fun ht => ?_, fun hf => ?_⟩
        · have hRn : R = none := by rw [← hR]; exact hno (.inl ⟨m, m1, by omega, of_decide_eq_true ht⟩)
          subst hRn
          refine vwp_seq_k fun Nl hNl => vreg tt_ok hF rfl ?_; simp only [go_sem, Int.reduceEq, Int.reduceNe, Int.reduceLT, Int.reduceLE, Nat.reduceEqDiff, Nat.reduceAdd, Nat.reduceMul, Nat.reduceLT, Nat.reduceLeDiff, Nat.reduceSub, reduceCtorEq, reduceIte, Int.reduceToNat, beq_self_eq_true, Bool.and_self, List.take_length, decide_true, Bool.not_true, Bool.not_false]
          refine hNl _ (VWp.keep [2,3] [] ?_); simp only [go_sem, Int.reduceEq, Int.reduceNe, Int.reduceLT, Int.reduceLE, Nat.reduceEqDiff, Nat.reduceAdd, Nat.reduceMul, Nat.reduceLT, Nat.reduceLeDiff, Nat.reduceSub, reduceCtorEq, reduceIte, Int.reduceToNat, beq_self_eq_true, Bool.and_self, List.take_length, decide_true, Bool.not_true, Bool.not_false]
          refine vwp_ret ?_
          simp only [go_sem, Int.reduceEq, Int.reduceNe, Int.reduceLT, Int.reduceLE, Nat.reduceEqDiff, Nat.reduceAdd, Nat.reduceMul, Nat.reduceLT, Nat.reduceLeDiff, Nat.reduceSub, reduceCtorEq, reduceIte, Int.reduceToNat, beq_self_eq_true, Bool.and_self, List.take_length, decide_true, Bool.not_true, Bool.not_false]
          exact LeV.tup ⟨LeV.nil 1, LeV.refl _, trivial⟩
        · refine vwp_skip (hNj _ ?_)
          refine vreg tt_ok hF rfl ?_; simp only [go_sem, Int.reduceEq, Int.reduceNe, Int.reduceLT, Int.reduceLE, Nat.reduceEqDiff, Nat.reduceAdd, Nat.reduceMul, Nat.reduceLT, Nat.reduceLeDiff, Nat.reduceSub, reduceCtorEq, reduceIte, Int.reduceToNat, beq_self_eq_true, Bool.and_self, List.take_length, decide_true, Bool.not_true, Bool.not_false]
          rw [wrap_i64 (by omega) (by omega)]
          exact ⟨m + 1, ⟨by omega, by omega⟩, by omega, by simp [intsV]⟩
      · have hpl2 : (0 : Int) ≤ ((s.length - 1 : Nat) : Int) ∧ ((s.length - 1 : Nat) : Int) < (l.length : Int) := ⟨by omega, by omega⟩
        have hrow := int_row l (s.length - 1) (by omega)
        refine vwp_exit ?_
        simp only [go_sem, Int.reduceEq, Int.reduceNe, Int.reduceLT, Int.reduceLE, Nat.reduceEqDiff, Nat.reduceAdd, Nat.reduceMul, Nat.reduceLT, Nat.reduceLeDiff, Nat.reduceSub, reduceCtorEq, reduceIte, Int.reduceToNat, beq_self_eq_true, Bool.and_self, List.take_length, decide_true, Bool.not_true, Bool.not_false]
        refine hNf _ (VWp.keep [0,4] [] ?_); simp only [go_sem, Int.reduceEq, Int.reduceNe, Int.reduceLT, Int.reduceLE, Nat.reduceEqDiff, Nat.reduceAdd, Nat.reduceMul, Nat.reduceLT, Nat.reduceLeDiff, Nat.reduceSub, reduceCtorEq, reduceIte, Int.reduceToNat, beq_self_eq_true, Bool.and_self, List.take_length, decide_true, Bool.not_true, Bool.not_false]
        refine vwp_seq_k fun Nm hNm => ?_
        refine vwp_seq_k fun Nn hNn => vreg tt_ok hF rfl ?_; simp only [go_sem, Int.reduceEq, Int.reduceNe, Int.reduceLT, Int.reduceLE, Nat.reduceEqDiff, Nat.reduceAdd, Nat.reduceMul, Nat.reduceLT, Nat.reduceLeDiff, Nat.reduceSub, reduceCtorEq, reduceIte, Int.reduceToNat, beq_self_eq_true, Bool.and_self, List.take_length, decide_true, Bool.not_true, Bool.not_false, List.length_map, hwl, hpl2, hrow]
        refine hNn _ (VWp.keep [0,51] [] ?_); simp only [go_sem, Int.reduceEq, Int.reduceNe, Int.reduceLT, Int.reduceLE, Nat.reduceEqDiff, Nat.reduceAdd, Nat.reduceMul, Nat.reduceLT, Nat.reduceLeDiff, Nat.reduceSub, reduceCtorEq, reduceIte, Int.reduceToNat, beq_self_eq_true, Bool.and_self, List.take_length, decide_true, Bool.not_true, Bool.not_false]
        refine vif rfl ⟨fun ht => ?_, fun hf => ?_⟩
        · have hRn : R = none := by
            rw [← hR]
            refine hno (.inr ?_)
            rw [hl2]
            simpa using ht
          subst hRn
          refine vwp_seq_k fun No hNo => vreg tt_ok hF rfl ?_; simp only [go_sem, Int.reduceEq, Int.reduceNe, Int.reduceLT, Int.reduceLE, Nat.reduceEqDiff, Nat.reduceAdd, Nat.reduceMul, Nat.reduceLT, Nat.reduceLeDiff, Nat.reduceSub, reduceCtorEq, reduceIte, Int.reduceToNat, beq_self_eq_true, Bool.and_self, List.take_length, decide_true, Bool.not_true, Bool.not_false]
          refine hNo _ (VWp.keep [2,3] [] ?_); simp only [go_sem, Int.reduceEq, Int.reduceNe, Int.reduceLT, Int.reduceLE, Nat.reduceEqDiff, Nat.reduceAdd, Nat.reduceMul, Nat.reduceLT, Nat.reduceLeDiff, Nat.reduceSub, reduceCtorEq, reduceIte, Int.reduceToNat, beq_self_eq_true, Bool.and_self, List.take_length, decide_true, Bool.not_true, Bool.not_false]
          refine vwp_ret ?_
          simp only [go_sem, Int.reduceEq, Int.reduceNe, Int.reduceLT, Int.reduceLE, Nat.reduceEqDiff, Nat.reduceAdd, Nat.reduceMul, Nat.reduceLT, Nat.reduceLeDiff, Nat.reduceSub, reduceCtorEq, reduceIte, Int.reduceToNat, beq_self_eq_true, Bool.and_self, List.take_length, decide_true, Bool.not_true, Bool.not_false]
          exact LeV.tup ⟨LeV.nil 1, LeV.refl _, trivial⟩
        · subst hR
          refine vwp_skip (hNm _ ?_)
          refine vwp_seq_k fun Np hNp => vreg tt_ok hF rfl ?_; simp only [go_sem, Int.reduceEq, Int.reduceNe, Int.reduceLT, Int.reduceLE, Nat.reduceEqDiff, Nat.reduceAdd, Nat.reduceMul, Nat.reduceLT, Nat.reduceLeDiff, Nat.reduceSub, reduceCtorEq, reduceIte, Int.reduceToNat, beq_self_eq_true, Bool.and_self, List.take_length, decide_true, Bool.not_true, Bool.not_false, hw]
          refine ⟨by omega, ?_⟩
          refine .inl ⟨_, h2, ?_⟩; try simp only [go_sem, Int.reduceEq, Int.reduceNe, Int.reduceLT, Int.reduceLE, Nat.reduceEqDiff, Nat.reduceAdd, Nat.reduceMul, Nat.reduceLT, Nat.reduceLeDiff, Nat.reduceSub, reduceCtorEq, reduceIte, Int.reduceToNat, beq_self_eq_true, Bool.and_self, List.take_length, decide_true, Bool.not_true, Bool.not_false]
          refine hNp _ (VWp.keep [2,3] [] ?_); simp only [go_sem, Int.reduceEq, Int.reduceNe, Int.reduceLT, Int.reduceLE, Nat.reduceEqDiff, Nat.reduceAdd, Nat.reduceMul, Nat.reduceLT, Nat.reduceLeDiff, Nat.reduceSub, reduceCtorEq, reduceIte, Int.reduceToNat, beq_self_eq_true, Bool.and_self, List.take_length, decide_true, Bool.not_true, Bool.not_false]
          refine vwp_ret ?_
          simp only [go_sem, Int.reduceEq, Int.reduceNe, Int.reduceLT, Int.reduceLE, Nat.reduceEqDiff, Nat.reduceAdd, Nat.reduceMul, Nat.reduceLT, Nat.reduceLeDiff, Nat.reduceSub, reduceCtorEq, reduceIte, Int.reduceToNat, beq_self_eq_true, Bool.and_self, List.take_length, decide_true, Bool.not_true, Bool.not_false]
          exact LeV.refl _
  · rw [decide_eq_false hl] at e1 ⊢
    refine spec_of tt_ok Tryz.func65 rfl (by decide) Tryz.ntmps65 (congrArg Array.toList Tryz.results65) (by simp) (by decide) rfl rfl (fun F hF => ?_)
    refine vwp_seq_k fun Na hNa => vreg tt_ok hF rfl ?_; simp only [go_sem, Int.reduceEq, Int.reduceNe, Int.reduceLT, Int.reduceLE, Nat.reduceEqDiff, Nat.reduceAdd, Nat.reduceMul, Nat.reduceLT, Nat.reduceLeDiff, Nat.reduceSub, reduceCtorEq, reduceIte, Int.reduceToNat, beq_self_eq_true, Bool.and_self, List.take_length, decide_true, Bool.not_true, Bool.not_false]
    refine hNa _ (VWp.keep [0] [] ?_); simp only [go_sem, Int.reduceEq, Int.reduceNe, Int.reduceLT, Int.reduceLE, Nat.reduceEqDiff, Nat.reduceAdd, Nat.reduceMul, Nat.reduceLT, Nat.reduceLeDiff, Nat.reduceSub, reduceCtorEq, reduceIte, Int.reduceToNat, beq_self_eq_true, Bool.and_self, List.take_length, decide_true, Bool.not_true, Bool.not_false]
    refine vwp_seq_k fun Nb hNb => ?_
    refine vwp_seq_k fun Nc hNc => vreg tt_ok hF rfl ?_; simp only [go_sem, Int.reduceEq, Int.reduceNe, Int.reduceLT, Int.reduceLE, Nat.reduceEqDiff, Nat.reduceAdd, Nat.reduceMul, Nat.reduceLT, Nat.reduceLeDiff, Nat.reduceSub, reduceCtorEq, reduceIte, Int.reduceToNat, beq_self_eq_true, Bool.and_self, List.take_length, decide_true, Bool.not_true, Bool.not_false, e1]
    refine hNc _ (VWp.keep [0,27] [] ?_); simp only [go_sem, Int.reduceEq, Int.reduceNe, Int.reduceLT, Int.reduceLE, Nat.reduceEqDiff, Nat.reduceAdd, Nat.reduceMul, Nat.reduceLT, Nat.reduceLeDiff, Nat.reduceSub, reduceCtorEq, reduceIte, Int.reduceToNat, beq_self_eq_true, Bool.and_self, List.take_length, decide_true, Bool.not_true, Bool.not_false]
    refine vif rfl ⟨fun ht => ?_, fun hf => (by cases hf)⟩
    refine vwp_seq_k fun Nd hNd => vreg tt_ok hF rfl ?_; simp only [go_sem, Int.reduceEq, Int.reduceNe, Int.reduceLT, Int.reduceLE, Nat.reduceEqDiff, Nat.reduceAdd, Nat.reduceMul, Nat.reduceLT, Nat.reduceLeDiff, Nat.reduceSub, reduceCtorEq, reduceIte, Int.reduceToNat, beq_self_eq_true, Bool.and_self, List.take_length, decide_true, Bool.not_true, Bool.not_false]
    refine hNd _ (VWp.keep [2,3] [] ?_); simp only [go_sem, Int.reduceEq, Int.reduceNe, Int.reduceLT, Int.reduceLE, Nat.reduceEqDiff, Nat.reduceAdd, Nat.reduceMul, Nat.reduceLT, Nat.reduceLeDiff, Nat.reduceSub, reduceCtorEq, reduceIte, Int.reduceToNat, beq_self_eq_true, Bool.and_self, List.take_length, decide_true, Bool.not_true, Bool.not_false]
    refine vwp_ret ?_
    simp only [go_sem, Int.reduceEq, Int.reduceNe, Int.reduceLT, Int.reduceLE, Nat.reduceEqDiff, Nat.reduceAdd, Nat.reduceMul, Nat.reduceLT, Nat.reduceLeDiff, Nat.reduceSub, reduceCtorEq, reduceIte, Int.reduceToNat, beq_self_eq_true, Bool.and_self, List.take_length, decide_true, Bool.not_true, Bool.not_false]
    exact LeV.tup ⟨LeV.nil 1, LeV.refl _, trivial⟩
end Go.Proofs.YtnaljgmcpagbbaaGreatDoor

/- The reference of layer 34: texts, parameters found. -/
-- SIMP: beq_self_eq_true, Bool.and_self, List.take_length, decide_true, Bool.not_true, Bool.not_false
namespace Go.Proofs.YtnaljgmcpagbbaaGreatDoor
open Go.RowKit
set_option linter.unusedVariables false
set_option linter.unusedSimpArgs false
end Go.Proofs.YtnaljgmcpagbbaaGreatDoor
