import Derived.Outline
import Derived.Test.YtnaljgmcpagbbaaDoorKE
/- The reference of layer 34: names. JclNames. -/
-- SIMP: beq_self_eq_true, Bool.and_self, List.take_length, decide_true, Bool.not_true, Bool.not_false
namespace Go.Proofs.YtnaljgmcpagbbaaDoor
open Go.RowKit
set_option linter.unusedVariables false
set_option linter.unusedSimpArgs false
set_option maxHeartbeats 8000000 in
set_option maxRecDepth 4000 in
theorem letter_spec (c : UInt8) : Spec Tryd.prog 29 [.int .u8 ((c.toNat : Nat) : Int)] (.bool (alphaJ c)) := by
  have e1 : decide ((65 : Int) ≤ ((c.toNat : Nat) : Int)) = decide ((65 : UInt8) ≤ c) := u8le 65 c
  have e2 : decide (((c.toNat : Nat) : Int) ≤ (90 : Int)) = decide (c ≤ (90 : UInt8)) := u8ge 90 c
  have e3 : decide (((c.toNat : Nat) : Int) = (64 : Int)) = (c == 64) := u8eq 64 c
  have e4 : decide (((c.toNat : Nat) : Int) = (35 : Int)) = (c == 35) := u8eq 35 c
  have e5 : decide (((c.toNat : Nat) : Int) = (36 : Int)) = (c == 36) := u8eq 36 c
  have hA : alphaJ c = ((decide ((65 : UInt8) ≤ c) && decide (c ≤ (90 : UInt8))) || c == 64 || c == 35 || c == 36) := rfl
  rw [hA]
  generalize decide ((65 : UInt8) ≤ c) = b1 at e1
  generalize decide (c ≤ (90 : UInt8)) = b2 at e2
  generalize (c == 64) = b3 at e3
  generalize (c == 35) = b4 at e4
  generalize (c == 36) = b5 at e5
  refine spec_of tt_ok Tryd.func29 rfl (by decide) Tryd.ntmps29 (congrArg Array.toList Tryd.results29) (by simp) (by decide) rfl rfl (fun F hF => ?_)
  refine vwp_seq_k fun Na hNa => vreg tt_ok hF rfl ?_; simp only [go_sem, Int.reduceEq, Int.reduceNe, Int.reduceLT, Int.reduceLE, Nat.reduceEqDiff, Nat.reduceAdd, Nat.reduceMul, Nat.reduceLT, Nat.reduceLeDiff, Nat.reduceSub, reduceCtorEq, reduceIte, Int.reduceToNat, beq_self_eq_true, Bool.and_self, List.take_length, decide_true, Bool.not_true, Bool.not_false]
  refine hNa _ (VWp.keep [0] [] ?_); simp only [go_sem, Int.reduceEq, Int.reduceNe, Int.reduceLT, Int.reduceLE, Nat.reduceEqDiff, Nat.reduceAdd, Nat.reduceMul, Nat.reduceLT, Nat.reduceLeDiff, Nat.reduceSub, reduceCtorEq, reduceIte, Int.reduceToNat, beq_self_eq_true, Bool.and_self, List.take_length, decide_true, Bool.not_true, Bool.not_false]
  cases b1 <;> cases b2 <;> cases b3 <;> cases b4 <;> cases b5
  all_goals
    refine vwp_seq_k fun Nb hNb => vreg tt_ok hF rfl ?_; simp only [go_sem, Int.reduceEq, Int.reduceNe, Int.reduceLT, Int.reduceLE, Nat.reduceEqDiff, Nat.reduceAdd, Nat.reduceMul, Nat.reduceLT, Nat.reduceLeDiff, Nat.reduceSub, reduceCtorEq, reduceIte, Int.reduceToNat, beq_self_eq_true, Bool.and_self, List.take_length, decide_true, Bool.not_true, Bool.not_false, e1, e2, e3, e4, e5]
    refine hNb _ (VWp.keep [2] [] ?_); simp only [go_sem, Int.reduceEq, Int.reduceNe, Int.reduceLT, Int.reduceLE, Nat.reduceEqDiff, Nat.reduceAdd, Nat.reduceMul, Nat.reduceLT, Nat.reduceLeDiff, Nat.reduceSub, reduceCtorEq, reduceIte, Int.reduceToNat, beq_self_eq_true, Bool.and_self, List.take_length, decide_true, Bool.not_true, Bool.not_false]
    refine vwp_ret ?_
    simp only [go_sem, Int.reduceEq, Int.reduceNe, Int.reduceLT, Int.reduceLE, Nat.reduceEqDiff, Nat.reduceAdd, Nat.reduceMul, Nat.reduceLT, Nat.reduceLeDiff, Nat.reduceSub, reduceCtorEq, reduceIte, Int.reduceToNat, beq_self_eq_true, Bool.and_self, List.take_length, decide_true, Bool.not_true, Bool.not_false]
    exact LeV.of_eq (by simp)
theorem nmJ_all (s : Jb) : nmJ s = true ↔ (1 ≤ s.length ∧ s.length ≤ 8 ∧ alphaJ (s.getD 0 0) = true ∧ ∀ j < s.length, (alphaJ (s.getD j 0) || digJ (s.getD j 0)) = true) := by
  unfold nmJ
  simp only [Bool.and_eq_true, decide_eq_true_eq, headD_getD, List.all_eq_true]
  constructor
  · rintro ⟨⟨⟨h1, h2⟩, h3⟩, h4⟩
    refine ⟨h1, h2, h3, fun j hj => ?_⟩
    have := h4 s[j] (List.getElem_mem hj)
    rw [List.getD_eq_getElem?_getD, List.getElem?_eq_getElem hj]; exact this
  · rintro ⟨h1, h2, h3, h4⟩
    refine ⟨⟨⟨h1, h2⟩, h3⟩, fun c hc => ?_⟩
    obtain ⟨j, hj, rfl⟩ := List.getElem_of_mem hc
    have := h4 j hj
    rw [List.getD_eq_getElem?_getD, List.getElem?_eq_getElem hj] at this; exact this
set_option maxHeartbeats 8000000 in
set_option maxRecDepth 4000 in
theorem rName_spec (s : Jb) (hs : s.length ≤ 1000000000) : Spec Tryd.prog 10 [.str s] (.bool (nmJ s)) := by
  have h0 := nmJ_all s
  obtain ⟨R, hR⟩ : ∃ R, nmJ s = R := ⟨_, rfl⟩
  rw [hR] at h0 ⊢
  have hl := letter_spec (s.getD 0 0)
  have e1 : decide ((s.length : Int) < 1) = decide (s.length < 1) := by apply decide_eq_decide.2; omega
  have e2 : decide ((8 : Int) < (s.length : Int)) = decide (8 < s.length) := by apply decide_eq_decide.2; omega
  refine spec_of tt_ok Tryd.func10 rfl (by decide) Tryd.ntmps10 (congrArg Array.toList Tryd.results10) (by simp) (by decide) rfl rfl (fun F hF => ?_)
  refine vwp_seq_k fun Na hNa => vreg tt_ok hF rfl ?_; simp only [go_sem, Int.reduceEq, Int.reduceNe, Int.reduceLT, Int.reduceLE, Nat.reduceEqDiff, Nat.reduceAdd, Nat.reduceMul, Nat.reduceLT, Nat.reduceLeDiff, Nat.reduceSub, reduceCtorEq, reduceIte, Int.reduceToNat, beq_self_eq_true, Bool.and_self, List.take_length, decide_true, Bool.not_true, Bool.not_false]
  refine hNa _ (VWp.keep [0] [] ?_); simp only [go_sem, Int.reduceEq, Int.reduceNe, Int.reduceLT, Int.reduceLE, Nat.reduceEqDiff, Nat.reduceAdd, Nat.reduceMul, Nat.reduceLT, Nat.reduceLeDiff, Nat.reduceSub, reduceCtorEq, reduceIte, Int.reduceToNat, beq_self_eq_true, Bool.and_self, List.take_length, decide_true, Bool.not_true, Bool.not_false]
  refine vwp_seq_k fun Nb hNb => ?_
  refine vmeet (fun z : Bool => [(0, .str s), (17, .bool z)]) (fun _ => []) (fun z => z = (decide (s.length < 1) || decide (8 < s.length) || !alphaJ (s.getD 0 0))) ?_ ?_
  · by_cases h1 : s.length < 1
    · rw [decide_eq_true h1] at e1
      refine vreg tt_ok hF rfl ?_; simp only [go_sem, Int.reduceEq, Int.reduceNe, Int.reduceLT, Int.reduceLE, Nat.reduceEqDiff, Nat.reduceAdd, Nat.reduceMul, Nat.reduceLT, Nat.reduceLeDiff, Nat.reduceSub, reduceCtorEq, reduceIte, Int.reduceToNat, beq_self_eq_true, Bool.and_self, List.take_length, decide_true, Bool.not_true, Bool.not_false, e1]
      exact ⟨true, by simp [h1], rfl⟩
    · rw [decide_eq_false h1] at e1
      have hp0 : (0 : Int) < (s.length : Int) := by omega
      by_cases h2 : 8 < s.length
      · rw [decide_eq_true h2] at e2
        refine vreg tt_ok hF rfl ?_; simp only [go_sem, Int.reduceEq, Int.reduceNe, Int.reduceLT, Int.reduceLE, Nat.reduceEqDiff, Nat.reduceAdd, Nat.reduceMul, Nat.reduceLT, Nat.reduceLeDiff, Nat.reduceSub, reduceCtorEq, reduceIte, Int.reduceToNat, beq_self_eq_true, Bool.and_self, List.take_length, decide_true, Bool.not_true, Bool.not_false, e1, e2]
        exact ⟨true, by simp [h2], rfl⟩
      · rw [decide_eq_false h2] at e2
        refine vreg tt_ok hF rfl ?_; simp only [go_sem, Int.reduceEq, Int.reduceNe, Int.reduceLT, Int.reduceLE, Nat.reduceEqDiff, Nat.reduceAdd, Nat.reduceMul, Nat.reduceLT, Nat.reduceLeDiff, Nat.reduceSub, reduceCtorEq, reduceIte, Int.reduceToNat, beq_self_eq_true, Bool.and_self, List.take_length, decide_true, Bool.not_true, Bool.not_false, e1, e2, hp0]
        refine .inl ⟨_, hl, ?_⟩; try simp only [go_sem, Int.reduceEq, Int.reduceNe, Int.reduceLT, Int.reduceLE, Nat.reduceEqDiff, Nat.reduceAdd, Nat.reduceMul, Nat.reduceLT, Nat.reduceLeDiff, Nat.reduceSub, reduceCtorEq, reduceIte, Int.reduceToNat, beq_self_eq_true, Bool.and_self, List.take_length, decide_true, Bool.not_true, Bool.not_false]
        exact ⟨!alphaJ (s.getD 0 0), by simp [h1, h2], rfl⟩
  intro z hz
  refine vif rfl ⟨fun ht => ?_, fun hf => ?_⟩
  · have hRf : R = false := by
      cases R with
      | false => rfl
      | true =>
        obtain ⟨g1, g2, g3, g4⟩ := h0.1 rfl
        rw [ht, g3, decide_eq_false (by omega), decide_eq_false (by omega)] at hz
        cases hz
    subst hRf
    refine vwp_seq_k fun Nd hNd => vreg tt_ok hF rfl ?_; simp only [go_sem, Int.reduceEq, Int.reduceNe, Int.reduceLT, Int.reduceLE, Nat.reduceEqDiff, Nat.reduceAdd, Nat.reduceMul, Nat.reduceLT, Nat.reduceLeDiff, Nat.reduceSub, reduceCtorEq, reduceIte, Int.reduceToNat, beq_self_eq_true, Bool.and_self, List.take_length, decide_true, Bool.not_true, Bool.not_false]
    refine hNd _ (VWp.keep [2] [] ?_); simp only [go_sem, Int.reduceEq, Int.reduceNe, Int.reduceLT, Int.reduceLE, Nat.reduceEqDiff, Nat.reduceAdd, Nat.reduceMul, Nat.reduceLT, Nat.reduceLeDiff, Nat.reduceSub, reduceCtorEq, reduceIte, Int.reduceToNat, beq_self_eq_true, Bool.and_self, List.take_length, decide_true, Bool.not_true, Bool.not_false]
    refine vwp_ret ?_
    simp only [go_sem, Int.reduceEq, Int.reduceNe, Int.reduceLT, Int.reduceLE, Nat.reduceEqDiff, Nat.reduceAdd, Nat.reduceMul, Nat.reduceLT, Nat.reduceLeDiff, Nat.reduceSub, reduceCtorEq, reduceIte, Int.reduceToNat, beq_self_eq_true, Bool.and_self, List.take_length, decide_true, Bool.not_true, Bool.not_false]
    exact LeV.refl _
  rw [hf] at hz
  have hz := hz.symm
  simp only [Bool.or_eq_false_iff, decide_eq_false_iff_not, Bool.not_eq_false'] at hz
  obtain ⟨⟨z1, z2⟩, z3⟩ := hz
  refine vwp_skip (hNb _ ?_)
  refine vwp_seq_k fun Ne hNe => ?_
  refine vwp_seq_k fun Nf hNf => vreg tt_ok hF rfl ?_; simp only [go_sem, Int.reduceEq, Int.reduceNe, Int.reduceLT, Int.reduceLE, Nat.reduceEqDiff, Nat.reduceAdd, Nat.reduceMul, Nat.reduceLT, Nat.reduceLeDiff, Nat.reduceSub, reduceCtorEq, reduceIte, Int.reduceToNat, beq_self_eq_true, Bool.and_self, List.take_length, decide_true, Bool.not_true, Bool.not_false]
  refine hNf _ (VWp.keep [0,3] [] ?_); simp only [go_sem, Int.reduceEq, Int.reduceNe, Int.reduceLT, Int.reduceLE, Nat.reduceEqDiff, Nat.reduceAdd, Nat.reduceMul, Nat.reduceLT, Nat.reduceLeDiff, Nat.reduceSub, reduceCtorEq, reduceIte, Int.reduceToNat, beq_self_eq_true, Bool.and_self, List.take_length, decide_true, Bool.not_true, Bool.not_false]
  refine vwp_block (vloop (fun m : Nat => [(0, .str s), (3, .int .i64 (m : Int))]) (fun _ => []) (fun m => m ≤ s.length ∧ ∀ j < m, (alphaJ (s.getD j 0) || digJ (s.getD j 0)) = true) (fun m => s.length - m) 0 ⟨Nat.zero_le _, fun j hj => by omega⟩ (by simp only [go_sem, Int.reduceEq, Int.reduceNe, Int.reduceLT, Int.reduceLE, Nat.reduceEqDiff, Nat.reduceAdd, Nat.reduceMul, Nat.reduceLT, Nat.reduceLeDiff, Nat.reduceSub, reduceCtorEq, reduceIte, Int.reduceToNat, beq_self_eq_true, Bool.and_self, List.take_length, decide_true, Bool.not_true, Bool.not_false]) ?_)
  rintro m ⟨m1, m2⟩
  refine vwp_seq_k fun Ng hNg => ?_
  refine vwp_seq_k fun Nh hNh => vreg tt_ok hF rfl ?_; simp only [go_sem, Int.reduceEq, Int.reduceNe, Int.reduceLT, Int.reduceLE, Nat.reduceEqDiff, Nat.reduceAdd, Nat.reduceMul, Nat.reduceLT, Nat.reduceLeDiff, Nat.reduceSub, reduceCtorEq, reduceIte, Int.reduceToNat, beq_self_eq_true, Bool.and_self, List.take_length, decide_true, Bool.not_true, Bool.not_false]
  refine hNh _ (VWp.keep [0,3,21] [] ?_); simp only [go_sem, Int.reduceEq, Int.reduceNe, Int.reduceLT, Int.reduceLE, Nat.reduceEqDiff, Nat.reduceAdd, Nat.reduceMul, Nat.reduceLT, Nat.reduceLeDiff, Nat.reduceSub, reduceCtorEq, reduceIte, Int.reduceToNat, beq_self_eq_true, Bool.and_self, List.take_length, decide_true, Bool.not_true, Bool.not_false]
  refine vif rfl ⟨fun ht => ?_, fun hf => ?_⟩
  · have hlt : m < s.length := by have := of_decide_eq_true ht; omega
    have hpm : (0 : Int) ≤ (m : Int) ∧ (m : Int) < (s.length : Int) := ⟨by omega, by omega⟩
    have hl2 := letter_spec (s.getD m 0)
    have e3 : decide ((((s.getD m 0).toNat : Nat) : Int) < (48 : Int)) = !decide ((48 : UInt8) ≤ s.getD m 0) := u8lt 48 _
    have e4 : decide ((57 : Int) < (((s.getD m 0).toNat : Nat) : Int)) = !decide (s.getD m 0 ≤ (57 : UInt8)) := u8gt 57 _
    have hD : digJ (s.getD m 0) = (decide ((48 : UInt8) ≤ s.getD m 0) && decide (s.getD m 0 ≤ (57 : UInt8))) := rfl
    refine vwp_skip (hNg _ ?_)
    refine vwp_seq_k fun Ni hNi => ?_
    refine vwp_block ?_
    refine vmeet (fun z : Bool => [(0, .str s), (3, .int .i64 (m : Int)), (40, .bool z)]) (fun _ => []) (fun z => z = !(alphaJ (s.getD m 0) || digJ (s.getD m 0))) ?_ ?_
    · rw [hD]
      generalize alphaJ (s.getD m 0) = b1 at hl2 ⊢
      generalize decide ((48 : UInt8) ≤ s.getD m 0) = b2 at e3 ⊢
      generalize decide (s.getD m 0 ≤ (57 : UInt8)) = b3 at e4 ⊢
      cases b1 <;> cases b2 <;> cases b3
      all_goals
        refine vreg tt_ok hF rfl ?_; simp only [go_sem, Int.reduceEq, Int.reduceNe, Int.reduceLT, Int.reduceLE, Nat.reduceEqDiff, Nat.reduceAdd, Nat.reduceMul, Nat.reduceLT, Nat.reduceLeDiff, Nat.reduceSub, reduceCtorEq, reduceIte, Int.reduceToNat, beq_self_eq_true, Bool.and_self, List.take_length, decide_true, Bool.not_true, Bool.not_false, hpm]
        refine .inl ⟨_, hl2, ?_⟩; try simp only [go_sem, Int.reduceEq, Int.reduceNe, Int.reduceLT, Int.reduceLE, Nat.reduceEqDiff, Nat.reduceAdd, Nat.reduceMul, Nat.reduceLT, Nat.reduceLeDiff, Nat.reduceSub, reduceCtorEq, reduceIte, Int.reduceToNat, beq_self_eq_true, Bool.and_self, List.take_length, decide_true, Bool.not_true, Bool.not_false, hpm, e3, e4]
        exact ⟨_, rfl, by simp⟩
    intro y hy
    refine vif rfl ⟨fun ht => ?_, fun hf => ?_⟩
    · have hRf : R = false := by
        cases R with
        | false => rfl
        | true =>
          have := (h0.1 rfl).2.2.2 m hlt
          rw [this, ht] at hy; cases hy
      subst hRf
      refine vwp_seq_k fun Nk hNk => vreg tt_ok hF rfl ?_; simp only [go_sem, Int.reduceEq, Int.reduceNe, Int.reduceLT, Int.reduceLE, Nat.reduceEqDiff, Nat.reduceAdd, Nat.reduceMul, Nat.reduceLT, Nat.reduceLeDiff, Nat.reduceSub, reduceCtorEq, reduceIte, Int.reduceToNat, beq_self_eq_true, Bool.and_self, List.take_length, decide_true, Bool.not_true, Bool.not_false]
      refine hNk _ (VWp.keep [2] [] ?_); simp only [go_sem, Int.reduceEq, Int.reduceNe, Int.reduceLT, Int.reduceLE, Nat.reduceEqDiff, Nat.reduceAdd, Nat.reduceMul, Nat.reduceLT, Nat.reduceLeDiff, Nat.reduceSub, reduceCtorEq, reduceIte, Int.reduceToNat, beq_self_eq_true, Bool.and_self, List.take_length, decide_true, Bool.not_true, Bool.not_false]
      refine vwp_ret ?_
      simp only [go_sem, Int.reduceEq, Int.reduceNe, Int.reduceLT, Int.reduceLE, Nat.reduceEqDiff, Nat.reduceAdd, Nat.reduceMul, Nat.reduceLT, Nat.reduceLeDiff, Nat.reduceSub, reduceCtorEq, reduceIte, Int.reduceToNat, beq_self_eq_true, Bool.and_self, List.take_length, decide_true, Bool.not_true, Bool.not_false]
      exact LeV.refl _
    · refine vwp_skip (hNi _ ?_)
      refine vreg tt_ok hF rfl ?_; simp only [go_sem, Int.reduceEq, Int.reduceNe, Int.reduceLT, Int.reduceLE, Nat.reduceEqDiff, Nat.reduceAdd, Nat.reduceMul, Nat.reduceLT, Nat.reduceLeDiff, Nat.reduceSub, reduceCtorEq, reduceIte, Int.reduceToNat, beq_self_eq_true, Bool.and_self, List.take_length, decide_true, Bool.not_true, Bool.not_false]
      rw [wrap_i64 (by omega) (by omega)]
      refine ⟨m + 1, ⟨by omega, fun j hj => ?_⟩, by omega, by simp⟩
      rcases Nat.lt_succ_iff_lt_or_eq.1 hj with h | h
      · exact m2 j h
      · subst h; rw [hf] at hy; have hy := hy.symm; rw [Bool.not_eq_false'] at hy; exact hy
  · have hm : m = s.length := by have := of_decide_eq_false hf; omega
    subst hm
    have hRt : R = true := h0.2 ⟨by omega, by omega, z3, m2⟩
    subst hRt
    refine vwp_exit ?_
    simp only [go_sem, Int.reduceEq, Int.reduceNe, Int.reduceLT, Int.reduceLE, Nat.reduceEqDiff, Nat.reduceAdd, Nat.reduceMul, Nat.reduceLT, Nat.reduceLeDiff, Nat.reduceSub, reduceCtorEq, reduceIte, Int.reduceToNat, beq_self_eq_true, Bool.and_self, List.take_length, decide_true, Bool.not_true, Bool.not_false]
    refine hNe _ (VWp.keepR [] [] tt_ok hF rfl fun Nl hNl => ?_); simp only [go_sem, Int.reduceEq, Int.reduceNe, Int.reduceLT, Int.reduceLE, Nat.reduceEqDiff, Nat.reduceAdd, Nat.reduceMul, Nat.reduceLT, Nat.reduceLeDiff, Nat.reduceSub, reduceCtorEq, reduceIte, Int.reduceToNat, beq_self_eq_true, Bool.and_self, List.take_length, decide_true, Bool.not_true, Bool.not_false]
    refine hNl _ (VWp.keep [2] [] ?_); simp only [go_sem, Int.reduceEq, Int.reduceNe, Int.reduceLT, Int.reduceLE, Nat.reduceEqDiff, Nat.reduceAdd, Nat.reduceMul, Nat.reduceLT, Nat.reduceLeDiff, Nat.reduceSub, reduceCtorEq, reduceIte, Int.reduceToNat, beq_self_eq_true, Bool.and_self, List.take_length, decide_true, Bool.not_true, Bool.not_false]
    refine vwp_ret ?_
    simp only [go_sem, Int.reduceEq, Int.reduceNe, Int.reduceLT, Int.reduceLE, Nat.reduceEqDiff, Nat.reduceAdd, Nat.reduceMul, Nat.reduceLT, Nat.reduceLeDiff, Nat.reduceSub, reduceCtorEq, reduceIte, Int.reduceToNat, beq_self_eq_true, Bool.and_self, List.take_length, decide_true, Bool.not_true, Bool.not_false]
    exact LeV.refl _
theorem words_cut (c : UInt8) (s : Jb) : ∀ (m fr : Nat), fr ≤ m → m ≤ s.length → (∀ j, fr ≤ j → j < m → s.getD j 0 ≠ c) →
    wordsJ c (s.drop fr) = match wordsJ c (s.drop m) with | w :: ws => ((s.take m).drop fr ++ w) :: ws | [] => [(s.take m).drop fr] := by
  intro m fr h1 h2 h3
  obtain ⟨k, rfl⟩ : ∃ k, m = fr + k := ⟨m - fr, by omega⟩
  clear h1
  induction k generalizing fr with
  | zero =>
    rw [Nat.add_zero]
    have : (s.take fr).drop fr = [] := by simp
    rw [this]
    cases hw : wordsJ c (s.drop fr) with
    | nil =>
      exfalso
      cases hd : s.drop fr with
      | nil => rw [hd] at hw; cases hw
      | cons x t =>
        rw [hd, wordsJ] at hw
        split at hw
        · cases hw
        · split at hw <;> cases hw
    | cons w ws => rfl
  | succ k ih =>
    have hlt : fr < s.length := by omega
    rw [drop_at s fr hlt, wordsJ]
    have hne : (s.getD fr 0 == c) = false := by simpa using h3 fr (Nat.le_refl _) (by omega)
    rw [hne]
    have ih2 := ih (fr + 1) (by omega) (fun j hj1 hj2 => h3 j (by omega) (by omega))
    rw [show fr + 1 + k = fr + (k + 1) by omega] at ih2
    rw [ih2]
    have ht : (s.take (fr + (k + 1))).drop fr = s.getD fr 0 :: (s.take (fr + (k + 1))).drop (fr + 1) := by
      have hl : fr < (s.take (fr + (k + 1))).length := by rw [List.length_take]; omega
      rw [drop_at _ fr hl]
      congr 1
      rw [List.getD_eq_getElem?_getD, List.getD_eq_getElem?_getD, List.getElem?_take, if_pos (by omega)]
    rw [ht]
    cases wordsJ c (s.drop (fr + (k + 1))) <;> rfl
theorem words_nil (c : UInt8) (s : Jb) (fr : Nat) (h1 : fr ≤ s.length) (h3 : ∀ j, fr ≤ j → j < s.length → s.getD j 0 ≠ c) : wordsJ c (s.drop fr) = [s.drop fr] := by
  have := words_cut c s s.length fr h1 (Nat.le_refl _) h3
  rw [List.drop_length, List.take_length] at this
  rw [this]; simp [wordsJ]
theorem words_hit (c : UInt8) (s : Jb) (m fr : Nat) (h1 : fr ≤ m) (h2 : m < s.length) (h3 : ∀ j, fr ≤ j → j < m → s.getD j 0 ≠ c) (h4 : s.getD m 0 = c) : wordsJ c (s.drop fr) = (s.take m).drop fr :: wordsJ c (s.drop (m + 1)) := by
  have := words_cut c s m fr h1 (by omega) h3
  rw [this, drop_at s m h2, wordsJ, h4]
  simp
set_option maxHeartbeats 8000000 in
set_option maxRecDepth 4000 in
theorem words_spec (s : Jb) (c : UInt8) (hs : s.length ≤ 100000000) : Spec Tryd.prog 49 [.str s, .int .u8 ((c.toNat : Nat) : Int)] (strsV (wordsJ c s)) := by
  obtain ⟨R, hR⟩ : ∃ R, wordsJ c s = R := ⟨_, rfl⟩
  rw [hR]
  refine spec_of tt_ok Tryd.func49 rfl (by decide) Tryd.ntmps49 (congrArg Array.toList Tryd.results49) (by simp) (by decide) rfl rfl (fun F hF => ?_)
  refine vwp_seq_k fun Na hNa => vreg tt_ok hF rfl ?_; simp only [go_sem, Int.reduceEq, Int.reduceNe, Int.reduceLT, Int.reduceLE, Nat.reduceEqDiff, Nat.reduceAdd, Nat.reduceMul, Nat.reduceLT, Nat.reduceLeDiff, Nat.reduceSub, reduceCtorEq, reduceIte, Int.reduceToNat, beq_self_eq_true, Bool.and_self, List.take_length, decide_true, Bool.not_true, Bool.not_false]
  refine hNa _ (VWp.keepR [0,1] [] tt_ok hF rfl fun Nb hNb => ?_); simp only [go_sem, Int.reduceEq, Int.reduceNe, Int.reduceLT, Int.reduceLE, Nat.reduceEqDiff, Nat.reduceAdd, Nat.reduceMul, Nat.reduceLT, Nat.reduceLeDiff, Nat.reduceSub, reduceCtorEq, reduceIte, Int.reduceToNat, beq_self_eq_true, Bool.and_self, List.take_length, decide_true, Bool.not_true, Bool.not_false]
  refine hNb _ (VWp.keepR [0,1,5] [] tt_ok hF rfl fun Nc hNc => ?_); simp only [go_sem, Int.reduceEq, Int.reduceNe, Int.reduceLT, Int.reduceLE, Nat.reduceEqDiff, Nat.reduceAdd, Nat.reduceMul, Nat.reduceLT, Nat.reduceLeDiff, Nat.reduceSub, reduceCtorEq, reduceIte, Int.reduceToNat, beq_self_eq_true, Bool.and_self, List.take_length, decide_true, Bool.not_true, Bool.not_false]
  refine hNc _ (VWp.keep [0,1,5,6] [] ?_); simp only [go_sem, Int.reduceEq, Int.reduceNe, Int.reduceLT, Int.reduceLE, Nat.reduceEqDiff, Nat.reduceAdd, Nat.reduceMul, Nat.reduceLT, Nat.reduceLeDiff, Nat.reduceSub, reduceCtorEq, reduceIte, Int.reduceToNat, beq_self_eq_true, Bool.and_self, List.take_length, decide_true, Bool.not_true, Bool.not_false]
  refine vwp_seq_k fun Nd hNd => ?_
  refine vwp_seq_k fun Ne hNe => vreg tt_ok hF rfl ?_; simp only [go_sem, Int.reduceEq, Int.reduceNe, Int.reduceLT, Int.reduceLE, Nat.reduceEqDiff, Nat.reduceAdd, Nat.reduceMul, Nat.reduceLT, Nat.reduceLeDiff, Nat.reduceSub, reduceCtorEq, reduceIte, Int.reduceToNat, beq_self_eq_true, Bool.and_self, List.take_length, decide_true, Bool.not_true, Bool.not_false]
  refine hNe _ (VWp.keep [0,1,5,6,7] [] ?_); simp only [go_sem, Int.reduceEq, Int.reduceNe, Int.reduceLT, Int.reduceLE, Nat.reduceEqDiff, Nat.reduceAdd, Nat.reduceMul, Nat.reduceLT, Nat.reduceLeDiff, Nat.reduceSub, reduceCtorEq, reduceIte, Int.reduceToNat, beq_self_eq_true, Bool.and_self, List.take_length, decide_true, Bool.not_true, Bool.not_false]
  refine VWp.adopt 500000 1 9 (x := 5) rfl rfl (by decide) ?_ (closed_of (by simp only [go_sem, Int.reduceEq, Int.reduceNe, Int.reduceLT, Int.reduceLE, Nat.reduceEqDiff, Nat.reduceAdd, Nat.reduceMul, Nat.reduceLT, Nat.reduceLeDiff, Nat.reduceSub, reduceCtorEq, reduceIte, Int.reduceToNat, beq_self_eq_true, Bool.and_self, List.take_length, decide_true, Bool.not_true, Bool.not_false]) (by simp only [go_sem, Int.reduceEq, Int.reduceNe, Int.reduceLT, Int.reduceLE, Nat.reduceEqDiff, Nat.reduceAdd, Nat.reduceMul, Nat.reduceLT, Nat.reduceLeDiff, Nat.reduceSub, reduceCtorEq, reduceIte, Int.reduceToNat, beq_self_eq_true, Bool.and_self, List.take_length, decide_true, Bool.not_true, Bool.not_false]))
  refine VWp.keep [0,1,5,6,7] [500000] ?_; simp only [go_sem, Int.reduceEq, Int.reduceNe, Int.reduceLT, Int.reduceLE, Nat.reduceEqDiff, Nat.reduceAdd, Nat.reduceMul, Nat.reduceLT, Nat.reduceLeDiff, Nat.reduceSub, reduceCtorEq, reduceIte, Int.reduceToNat, beq_self_eq_true, Bool.and_self, List.take_length, decide_true, Bool.not_true, Bool.not_false]
  refine vwp_block (vloop (fun z : Nat × Nat × List Jb => [(0, .str s), (1, .int .u8 ((c.toNat : Nat) : Int)), (5, .own 500000 z.2.2.length), (6, .int .i64 (z.2.1 : Int)), (7, .int .i64 (z.1 : Int))]) (fun z => [(500000, .arr 1 9 (z.2.2.map fun w => [V.str w]))])
    (fun z => z.1 ≤ s.length ∧ z.2.1 ≤ z.1 ∧ z.2.2.length ≤ z.1 ∧ (∀ j, z.2.1 ≤ j → j < z.1 → s.getD j 0 ≠ c) ∧ z.2.2 ++ wordsJ c (s.drop z.2.1) = R) (fun z => s.length - z.1) (0, 0, []) ⟨Nat.zero_le _, Nat.le_refl _, Nat.le_refl _, fun j h1 h2 => by simp only at h2; omega, by simpa using hR⟩ (by simp only [go_sem, Int.reduceEq, Int.reduceNe, Int.reduceLT, Int.reduceLE, Nat.reduceEqDiff, Nat.reduceAdd, Nat.reduceMul, Nat.reduceLT, Nat.reduceLeDiff, Nat.reduceSub, reduceCtorEq, reduceIte, Int.reduceToNat, beq_self_eq_true, Bool.and_self, List.take_length, decide_true, Bool.not_true, Bool.not_false]) ?_)
  rintro ⟨m, fr, out⟩ ⟨m1, m2, m3, m4, m5⟩
  have m1 : m ≤ s.length := m1
  have m2 : fr ≤ m := m2
  have m3 : out.length ≤ m := m3
  have m4 : ∀ j, fr ≤ j → j < m → s.getD j 0 ≠ c := m4
  have m5 : out ++ wordsJ c (s.drop fr) = R := m5
  try dsimp only
  refine vwp_seq_k fun Nf hNf => ?_
  refine vwp_seq_k fun Ng hNg => vreg tt_ok hF rfl ?_; simp only [go_sem, Int.reduceEq, Int.reduceNe, Int.reduceLT, Int.reduceLE, Nat.reduceEqDiff, Nat.reduceAdd, Nat.reduceMul, Nat.reduceLT, Nat.reduceLeDiff, Nat.reduceSub, reduceCtorEq, reduceIte, Int.reduceToNat, beq_self_eq_true, Bool.and_self, List.take_length, decide_true, Bool.not_true, Bool.not_false]
  refine hNg _ (VWp.keep [0,1,5,6,7,11] [500000] ?_); simp only [go_sem, Int.reduceEq, Int.reduceNe, Int.reduceLT, Int.reduceLE, Nat.reduceEqDiff, Nat.reduceAdd, Nat.reduceMul, Nat.reduceLT, Nat.reduceLeDiff, Nat.reduceSub, reduceCtorEq, reduceIte, Int.reduceToNat, beq_self_eq_true, Bool.and_self, List.take_length, decide_true, Bool.not_true, Bool.not_false]
  refine vif rfl ⟨fun ht => ?_, fun hf => ?_⟩
  · have hlt : m < s.length := by have := of_decide_eq_true ht; omega
    have hpm : (0 : Int) ≤ (m : Int) ∧ (m : Int) < (s.length : Int) := ⟨by omega, by omega⟩
    have e1 : decide ((((s.getD m 0).toNat : Nat) : Int) = ((c.toNat : Nat) : Int)) = (s.getD m 0 == c) := u8eq c _
    refine vwp_skip (hNf _ ?_)
    refine vwp_seq_k fun Nh hNh => ?_
    refine vwp_block ?_
    refine vwp_seq_k fun Ni hNi => vreg tt_ok hF rfl ?_; simp only [go_sem, Int.reduceEq, Int.reduceNe, Int.reduceLT, Int.reduceLE, Nat.reduceEqDiff, Nat.reduceAdd, Nat.reduceMul, Nat.reduceLT, Nat.reduceLeDiff, Nat.reduceSub, reduceCtorEq, reduceIte, Int.reduceToNat, beq_self_eq_true, Bool.and_self, List.take_length, decide_true, Bool.not_true, Bool.not_false, hpm, e1]
    refine hNi _ (VWp.keep [0,1,5,6,7,18] [500000] ?_); simp only [go_sem, Int.reduceEq, Int.reduceNe, Int.reduceLT, Int.reduceLE, Nat.reduceEqDiff, Nat.reduceAdd, Nat.reduceMul, Nat.reduceLT, Nat.reduceLeDiff, Nat.reduceSub, reduceCtorEq, reduceIte, Int.reduceToNat, beq_self_eq_true, Bool.and_self, List.take_length, decide_true, Bool.not_true, Bool.not_false]
    refine vif rfl ⟨fun ht => ?_, fun hf => ?_⟩
    · have hc : s.getD m 0 = c := by simpa using ht
      rw [words_hit c s m fr m2 hlt m4 hc] at m5
      refine vwp_seq_k fun Nj hNj => vreg tt_ok hF rfl ?_; simp only [go_sem, Int.reduceEq, Int.reduceNe, Int.reduceLT, Int.reduceLE, Nat.reduceEqDiff, Nat.reduceAdd, Nat.reduceMul, Nat.reduceLT, Nat.reduceLeDiff, Nat.reduceSub, reduceCtorEq, reduceIte, Int.reduceToNat, beq_self_eq_true, Bool.and_self, List.take_length, decide_true, Bool.not_true, Bool.not_false]
      refine ⟨⟨by omega, by omega, by omega⟩, by omega, ?_⟩
      refine hNj _ (VWp.keep [0,1,5,7] [500000] ?_); simp only [go_sem, Int.reduceEq, Int.reduceNe, Int.reduceLT, Int.reduceLE, Nat.reduceEqDiff, Nat.reduceAdd, Nat.reduceMul, Nat.reduceLT, Nat.reduceLeDiff, Nat.reduceSub, reduceCtorEq, reduceIte, Int.reduceToNat, beq_self_eq_true, Bool.and_self, List.take_length, decide_true, Bool.not_true, Bool.not_false]
      refine vreg tt_ok hF rfl ?_; simp only [go_sem, Int.reduceEq, Int.reduceNe, Int.reduceLT, Int.reduceLE, Nat.reduceEqDiff, Nat.reduceAdd, Nat.reduceMul, Nat.reduceLT, Nat.reduceLeDiff, Nat.reduceSub, reduceCtorEq, reduceIte, Int.reduceToNat, beq_self_eq_true, Bool.and_self, List.take_length, decide_true, Bool.not_true, Bool.not_false]
      rw [wrap_i64 (by omega) (by omega)]
      refine hNh _ (VWp.keep [0,1,5,6,7] [500000] ?_); simp only [go_sem, Int.reduceEq, Int.reduceNe, Int.reduceLT, Int.reduceLE, Nat.reduceEqDiff, Nat.reduceAdd, Nat.reduceMul, Nat.reduceLT, Nat.reduceLeDiff, Nat.reduceSub, reduceCtorEq, reduceIte, Int.reduceToNat, beq_self_eq_true, Bool.and_self, List.take_length, decide_true, Bool.not_true, Bool.not_false]
      refine vreg tt_ok hF rfl ?_; simp only [go_sem, Int.reduceEq, Int.reduceNe, Int.reduceLT, Int.reduceLE, Nat.reduceEqDiff, Nat.reduceAdd, Nat.reduceMul, Nat.reduceLT, Nat.reduceLeDiff, Nat.reduceSub, reduceCtorEq, reduceIte, Int.reduceToNat, beq_self_eq_true, Bool.and_self, List.take_length, decide_true, Bool.not_true, Bool.not_false]
      rw [wrap_i64 (by omega) (by omega)]
      exact ⟨(m + 1, m + 1, out ++ [(s.take m).drop fr]), ⟨by simp only; omega, Nat.le_refl _, by simp; omega, fun j h1 h2 => by simp only at h1 h2; omega, by simpa using m5⟩, by simp only; omega, by simp⟩
    · have hc : s.getD m 0 ≠ c := by simpa using hf
      refine vwp_skip (hNh _ ?_)
      refine vreg tt_ok hF rfl ?_; simp only [go_sem, Int.reduceEq, Int.reduceNe, Int.reduceLT, Int.reduceLE, Nat.reduceEqDiff, Nat.reduceAdd, Nat.reduceMul, Nat.reduceLT, Nat.reduceLeDiff, Nat.reduceSub, reduceCtorEq, reduceIte, Int.reduceToNat, beq_self_eq_true, Bool.and_self, List.take_length, decide_true, Bool.not_true, Bool.not_false]
      rw [wrap_i64 (by omega) (by omega)]
      refine ⟨(m + 1, fr, out), ⟨by simp only; omega, by simp only; omega, by simp only; omega, fun j h1 h2 => ?_, m5⟩, by simp only; omega, by simp⟩
      simp only at h1 h2
      rcases Nat.lt_succ_iff_lt_or_eq.1 h2 with h | h
      · exact m4 j h1 h
      · rw [h]; exact hc
  · have hm : m = s.length := by have := of_decide_eq_false hf; omega
    subst hm
    rw [words_nil c s fr m2 m4] at m5
    subst m5
    refine vwp_exit ?_
    simp only [go_sem, Int.reduceEq, Int.reduceNe, Int.reduceLT, Int.reduceLE, Nat.reduceEqDiff, Nat.reduceAdd, Nat.reduceMul, Nat.reduceLT, Nat.reduceLeDiff, Nat.reduceSub, reduceCtorEq, reduceIte, Int.reduceToNat, beq_self_eq_true, Bool.and_self, List.take_length, decide_true, Bool.not_true, Bool.not_false]
    refine hNd _ (VWp.keepR [0,5,6] [500000] tt_ok hF rfl fun Nk hNk => ?_); simp only [go_sem, Int.reduceEq, Int.reduceNe, Int.reduceLT, Int.reduceLE, Nat.reduceEqDiff, Nat.reduceAdd, Nat.reduceMul, Nat.reduceLT, Nat.reduceLeDiff, Nat.reduceSub, reduceCtorEq, reduceIte, Int.reduceToNat, beq_self_eq_true, Bool.and_self, List.take_length, decide_true, Bool.not_true, Bool.not_false]
    refine ⟨⟨by omega, by omega⟩, by omega, ?_⟩
    refine hNk _ (VWp.keep [4] [500000] ?_); simp only [go_sem, Int.reduceEq, Int.reduceNe, Int.reduceLT, Int.reduceLE, Nat.reduceEqDiff, Nat.reduceAdd, Nat.reduceMul, Nat.reduceLT, Nat.reduceLeDiff, Nat.reduceSub, reduceCtorEq, reduceIte, Int.reduceToNat, beq_self_eq_true, Bool.and_self, List.take_length, decide_true, Bool.not_true, Bool.not_false]
    refine vwp_ret ?_
    simp only [go_sem, Int.reduceEq, Int.reduceNe, Int.reduceLT, Int.reduceLE, Nat.reduceEqDiff, Nat.reduceAdd, Nat.reduceMul, Nat.reduceLT, Nat.reduceLeDiff, Nat.reduceSub, reduceCtorEq, reduceIte, Int.reduceToNat, beq_self_eq_true, Bool.and_self, List.take_length, decide_true, Bool.not_true, Bool.not_false]
    exact LeV.of_eq (by simp [strsV])
theorem words_len (c : UInt8) : ∀ s : Jb, (wordsJ c s).length ≤ s.length + 1 ∧ ∀ w ∈ wordsJ c s, w.length ≤ s.length
  | [] => ⟨by simp [wordsJ], fun w hw => by simp [wordsJ] at hw; subst hw; simp⟩
  | x :: t => by
    obtain ⟨h1, h2⟩ := words_len c t
    rw [wordsJ]
    split
    · refine ⟨by simp; omega, fun w hw => ?_⟩
      rcases List.mem_cons.1 hw with rfl | hw
      · simp
      · have := h2 w hw; simp only [List.length_cons]; omega
    · split
      · exact ⟨by simp, fun w hw => by rw [List.mem_singleton] at hw; subst hw; simp⟩
      · rename_i w0 ws hw0
        rw [hw0] at h1 h2
        refine ⟨by simp only [List.length_cons] at h1 ⊢; omega, fun w hw => ?_⟩
        rcases List.mem_cons.1 hw with rfl | hw
        · have := h2 w0 List.mem_cons_self; simp only [List.length_cons]; omega
        · have := h2 w (List.mem_cons_of_mem _ hw); simp only [List.length_cons]; omega
set_option maxHeartbeats 8000000 in
set_option maxRecDepth 4000 in
theorem key_spec (s : Jb) (hs : s.length ≤ 100000000) : Spec Tryd.prog 31 [.str s] (.bool (keyJ s)) := by
  have h1 := words_spec s 46 hs
  obtain ⟨hl1, hl2⟩ := words_len 46 s
  have hk : keyJ s = (wordsJ 46 s).all nmJ := rfl
  rw [hk]
  generalize wordsJ 46 s = l at h1 hl1 hl2
  obtain ⟨R, hR⟩ : ∃ R, l.all nmJ = R := ⟨_, rfl⟩
  rw [hR]
  have h1 : Spec Tryd.prog 49 [.str s, .int .u8 46] (strsV l) := h1
  refine spec_of tt_ok Tryd.func31 rfl (by decide) Tryd.ntmps31 (congrArg Array.toList Tryd.results31) (by simp) (by decide) rfl rfl (fun F hF => ?_)
  refine vwp_seq_k fun Na hNa => vreg tt_ok hF rfl ?_; simp only [go_sem, Int.reduceEq, Int.reduceNe, Int.reduceLT, Int.reduceLE, Nat.reduceEqDiff, Nat.reduceAdd, Nat.reduceMul, Nat.reduceLT, Nat.reduceLeDiff, Nat.reduceSub, reduceCtorEq, reduceIte, Int.reduceToNat, beq_self_eq_true, Bool.and_self, List.take_length, decide_true, Bool.not_true, Bool.not_false]
  refine hNa _ (VWp.keepR [0] [] tt_ok hF rfl fun Nb hNb => ?_); simp only [go_sem, Int.reduceEq, Int.reduceNe, Int.reduceLT, Int.reduceLE, Nat.reduceEqDiff, Nat.reduceAdd, Nat.reduceMul, Nat.reduceLT, Nat.reduceLeDiff, Nat.reduceSub, reduceCtorEq, reduceIte, Int.reduceToNat, beq_self_eq_true, Bool.and_self, List.take_length, decide_true, Bool.not_true, Bool.not_false]
  refine .inl ⟨_, h1, ?_⟩; try simp only [go_sem, Int.reduceEq, Int.reduceNe, Int.reduceLT, Int.reduceLE, Nat.reduceEqDiff, Nat.reduceAdd, Nat.reduceMul, Nat.reduceLT, Nat.reduceLeDiff, Nat.reduceSub, reduceCtorEq, reduceIte, Int.reduceToNat, beq_self_eq_true, Bool.and_self, List.take_length, decide_true, Bool.not_true, Bool.not_false]
  refine hNb _ (VWp.keep [3] [] ?_); simp only [go_sem, Int.reduceEq, Int.reduceNe, Int.reduceLT, Int.reduceLE, Nat.reduceEqDiff, Nat.reduceAdd, Nat.reduceMul, Nat.reduceLT, Nat.reduceLeDiff, Nat.reduceSub, reduceCtorEq, reduceIte, Int.reduceToNat, beq_self_eq_true, Bool.and_self, List.take_length, decide_true, Bool.not_true, Bool.not_false]
  refine vwp_seq_k fun Nc hNc => ?_
  refine vwp_seq_k fun Nd hNd => vreg tt_ok hF rfl ?_; simp only [go_sem, Int.reduceEq, Int.reduceNe, Int.reduceLT, Int.reduceLE, Nat.reduceEqDiff, Nat.reduceAdd, Nat.reduceMul, Nat.reduceLT, Nat.reduceLeDiff, Nat.reduceSub, reduceCtorEq, reduceIte, Int.reduceToNat, beq_self_eq_true, Bool.and_self, List.take_length, decide_true, Bool.not_true, Bool.not_false]
  refine hNd _ (VWp.keep [3,4] [] ?_); simp only [go_sem, Int.reduceEq, Int.reduceNe, Int.reduceLT, Int.reduceLE, Nat.reduceEqDiff, Nat.reduceAdd, Nat.reduceMul, Nat.reduceLT, Nat.reduceLeDiff, Nat.reduceSub, reduceCtorEq, reduceIte, Int.reduceToNat, beq_self_eq_true, Bool.and_self, List.take_length, decide_true, Bool.not_true, Bool.not_false]
  refine vwp_block (vloop (fun m : Nat => [(3, strsV l), (4, .int .i64 (m : Int))]) (fun _ => []) (fun m => m ≤ l.length ∧ ∀ x ∈ l.take m, nmJ x = true) (fun m => l.length - m) 0 ⟨Nat.zero_le _, by simp⟩ (by simp only [go_sem, Int.reduceEq, Int.reduceNe, Int.reduceLT, Int.reduceLE, Nat.reduceEqDiff, Nat.reduceAdd, Nat.reduceMul, Nat.reduceLT, Nat.reduceLeDiff, Nat.reduceSub, reduceCtorEq, reduceIte, Int.reduceToNat, beq_self_eq_true, Bool.and_self, List.take_length, decide_true, Bool.not_true, Bool.not_false]) ?_)
  rintro m ⟨m1, m2⟩
  refine vwp_seq_k fun Ne hNe => ?_
  refine vwp_seq_k fun Nf hNf => vreg tt_ok hF rfl ?_; simp only [go_sem, Int.reduceEq, Int.reduceNe, Int.reduceLT, Int.reduceLE, Nat.reduceEqDiff, Nat.reduceAdd, Nat.reduceMul, Nat.reduceLT, Nat.reduceLeDiff, Nat.reduceSub, reduceCtorEq, reduceIte, Int.reduceToNat, beq_self_eq_true, Bool.and_self, List.take_length, decide_true, Bool.not_true, Bool.not_false, List.length_map]
  refine hNf _ (VWp.keep [3,4,10] [] ?_); simp only [go_sem, Int.reduceEq, Int.reduceNe, Int.reduceLT, Int.reduceLE, Nat.reduceEqDiff, Nat.reduceAdd, Nat.reduceMul, Nat.reduceLT, Nat.reduceLeDiff, Nat.reduceSub, reduceCtorEq, reduceIte, Int.reduceToNat, beq_self_eq_true, Bool.and_self, List.take_length, decide_true, Bool.not_true, Bool.not_false]
  refine vif rfl ⟨fun ht => ?_, fun hf => ?_⟩
  · have hlt : m < l.length := by have := of_decide_eq_true ht; omega
    obtain ⟨x, hx⟩ : ∃ x, l[m]? = some x := ⟨_, List.getElem?_eq_getElem hlt⟩
    have hr1 : (l.map fun w => [V.str w]).getD m [] = [.str x] := by simp [hx]
    have hp1 : (0 : Int) ≤ (m : Int) ∧ (m : Int) < (l.length : Int) := ⟨by omega, by omega⟩
    have hxl := hl2 x (List.mem_of_getElem? hx)
    have h2 := rName_spec x (by omega)
    refine vwp_skip (hNe _ ?_)
    refine vwp_seq_k fun Ng hNg => ?_
    refine vwp_block ?_
    refine vwp_seq_k fun Nh hNh => vreg tt_ok hF rfl ?_; simp only [go_sem, Int.reduceEq, Int.reduceNe, Int.reduceLT, Int.reduceLE, Nat.reduceEqDiff, Nat.reduceAdd, Nat.reduceMul, Nat.reduceLT, Nat.reduceLeDiff, Nat.reduceSub, reduceCtorEq, reduceIte, Int.reduceToNat, beq_self_eq_true, Bool.and_self, List.take_length, decide_true, Bool.not_true, Bool.not_false, List.length_map, hp1, hr1]
    refine .inl ⟨_, h2, ?_⟩; try simp only [go_sem, Int.reduceEq, Int.reduceNe, Int.reduceLT, Int.reduceLE, Nat.reduceEqDiff, Nat.reduceAdd, Nat.reduceMul, Nat.reduceLT, Nat.reduceLeDiff, Nat.reduceSub, reduceCtorEq, reduceIte, Int.reduceToNat, beq_self_eq_true, Bool.and_self, List.take_length, decide_true, Bool.not_true, Bool.not_false]
    refine hNh _ (VWp.keep [3,4,18] [] ?_); simp only [go_sem, Int.reduceEq, Int.reduceNe, Int.reduceLT, Int.reduceLE, Nat.reduceEqDiff, Nat.reduceAdd, Nat.reduceMul, Nat.reduceLT, Nat.reduceLeDiff, Nat.reduceSub, reduceCtorEq, reduceIte, Int.reduceToNat, beq_self_eq_true, Bool.and_self, List.take_length, decide_true, Bool.not_true, Bool.not_false]
    cases hn : nmJ x
    · refine vif rfl ⟨fun ht => ?_, fun hf => (by cases hf)⟩
      have hRf : R = false := by
        rw [← hR, List.all_eq_false]
        exact ⟨x, List.mem_of_getElem? hx, by rw [hn]; decide⟩
      subst hRf
      refine vwp_seq_k fun Ni hNi => vreg tt_ok hF rfl ?_; simp only [go_sem, Int.reduceEq, Int.reduceNe, Int.reduceLT, Int.reduceLE, Nat.reduceEqDiff, Nat.reduceAdd, Nat.reduceMul, Nat.reduceLT, Nat.reduceLeDiff, Nat.reduceSub, reduceCtorEq, reduceIte, Int.reduceToNat, beq_self_eq_true, Bool.and_self, List.take_length, decide_true, Bool.not_true, Bool.not_false]
      refine hNi _ (VWp.keep [2] [] ?_); simp only [go_sem, Int.reduceEq, Int.reduceNe, Int.reduceLT, Int.reduceLE, Nat.reduceEqDiff, Nat.reduceAdd, Nat.reduceMul, Nat.reduceLT, Nat.reduceLeDiff, Nat.reduceSub, reduceCtorEq, reduceIte, Int.reduceToNat, beq_self_eq_true, Bool.and_self, List.take_length, decide_true, Bool.not_true, Bool.not_false]
      refine vwp_ret ?_
      simp only [go_sem, Int.reduceEq, Int.reduceNe, Int.reduceLT, Int.reduceLE, Nat.reduceEqDiff, Nat.reduceAdd, Nat.reduceMul, Nat.reduceLT, Nat.reduceLeDiff, Nat.reduceSub, reduceCtorEq, reduceIte, Int.reduceToNat, beq_self_eq_true, Bool.and_self, List.take_length, decide_true, Bool.not_true, Bool.not_false]
      exact LeV.refl _
    · refine vif rfl ⟨fun ht => (by cases ht), fun hf => ?_⟩
      refine vwp_skip (hNg _ ?_)
      refine vreg tt_ok hF rfl ?_; simp only [go_sem, Int.reduceEq, Int.reduceNe, Int.reduceLT, Int.reduceLE, Nat.reduceEqDiff, Nat.reduceAdd, Nat.reduceMul, Nat.reduceLT, Nat.reduceLeDiff, Nat.reduceSub, reduceCtorEq, reduceIte, Int.reduceToNat, beq_self_eq_true, Bool.and_self, List.take_length, decide_true, Bool.not_true, Bool.not_false]
      rw [wrap_i64 (by omega) (by omega)]
      refine ⟨m + 1, ⟨by omega, fun y hy => ?_⟩, by omega, by simp⟩
      rw [List.take_add_one, hx] at hy
      rcases List.mem_append.1 hy with h | h
      · exact m2 y h
      · simp at h; subst h; exact hn
  · have hm : m = l.length := by have := of_decide_eq_false hf; omega
    subst hm
    rw [List.take_length] at m2
    have hRt : R = true := by rw [← hR, List.all_eq_true]; exact m2
    subst hRt
    refine vwp_exit ?_
    simp only [go_sem, Int.reduceEq, Int.reduceNe, Int.reduceLT, Int.reduceLE, Nat.reduceEqDiff, Nat.reduceAdd, Nat.reduceMul, Nat.reduceLT, Nat.reduceLeDiff, Nat.reduceSub, reduceCtorEq, reduceIte, Int.reduceToNat, beq_self_eq_true, Bool.and_self, List.take_length, decide_true, Bool.not_true, Bool.not_false]
    refine hNc _ (VWp.keepR [] [] tt_ok hF rfl fun Nj hNj => ?_); simp only [go_sem, Int.reduceEq, Int.reduceNe, Int.reduceLT, Int.reduceLE, Nat.reduceEqDiff, Nat.reduceAdd, Nat.reduceMul, Nat.reduceLT, Nat.reduceLeDiff, Nat.reduceSub, reduceCtorEq, reduceIte, Int.reduceToNat, beq_self_eq_true, Bool.and_self, List.take_length, decide_true, Bool.not_true, Bool.not_false]
    refine hNj _ (VWp.keep [2] [] ?_); simp only [go_sem, Int.reduceEq, Int.reduceNe, Int.reduceLT, Int.reduceLE, Nat.reduceEqDiff, Nat.reduceAdd, Nat.reduceMul, Nat.reduceLT, Nat.reduceLeDiff, Nat.reduceSub, reduceCtorEq, reduceIte, Int.reduceToNat, beq_self_eq_true, Bool.and_self, List.take_length, decide_true, Bool.not_true, Bool.not_false]
    refine vwp_ret ?_
    simp only [go_sem, Int.reduceEq, Int.reduceNe, Int.reduceLT, Int.reduceLE, Nat.reduceEqDiff, Nat.reduceAdd, Nat.reduceMul, Nat.reduceLT, Nat.reduceLeDiff, Nat.reduceSub, reduceCtorEq, reduceIte, Int.reduceToNat, beq_self_eq_true, Bool.and_self, List.take_length, decide_true, Bool.not_true, Bool.not_false]
    exact LeV.refl _
set_option maxHeartbeats 8000000 in
set_option maxRecDepth 4000 in
theorem rDsn_spec (s : Jb) (hs : s.length ≤ 100000000) : Spec Tryd.prog 12 [.str s] (.bool (dsnJ s)) := by
  have h1 := key_spec s hs
  have e1 : decide ((s.length : Int) ≤ (44 : Int)) = decide (s.length ≤ 44) := by apply decide_eq_decide.2; omega
  have hl : dsnJ s = (decide (s.length ≤ 44) && keyJ s) := rfl
  rw [hl]
  generalize decide (s.length ≤ 44) = b1 at e1
  refine spec_of tt_ok Tryd.func12 rfl (by decide) Tryd.ntmps12 (congrArg Array.toList Tryd.results12) (by simp) (by decide) rfl rfl (fun F hF => ?_)
  refine vwp_seq_k fun Na hNa => vreg tt_ok hF rfl ?_; simp only [go_sem, Int.reduceEq, Int.reduceNe, Int.reduceLT, Int.reduceLE, Nat.reduceEqDiff, Nat.reduceAdd, Nat.reduceMul, Nat.reduceLT, Nat.reduceLeDiff, Nat.reduceSub, reduceCtorEq, reduceIte, Int.reduceToNat, beq_self_eq_true, Bool.and_self, List.take_length, decide_true, Bool.not_true, Bool.not_false]
  refine hNa _ (VWp.keep [0] [] ?_); simp only [go_sem, Int.reduceEq, Int.reduceNe, Int.reduceLT, Int.reduceLE, Nat.reduceEqDiff, Nat.reduceAdd, Nat.reduceMul, Nat.reduceLT, Nat.reduceLeDiff, Nat.reduceSub, reduceCtorEq, reduceIte, Int.reduceToNat, beq_self_eq_true, Bool.and_self, List.take_length, decide_true, Bool.not_true, Bool.not_false]
  cases b1
  · refine vwp_seq_k fun Nb hNb => vreg tt_ok hF rfl ?_; simp only [go_sem, Int.reduceEq, Int.reduceNe, Int.reduceLT, Int.reduceLE, Nat.reduceEqDiff, Nat.reduceAdd, Nat.reduceMul, Nat.reduceLT, Nat.reduceLeDiff, Nat.reduceSub, reduceCtorEq, reduceIte, Int.reduceToNat, beq_self_eq_true, Bool.and_self, List.take_length, decide_true, Bool.not_true, Bool.not_false, e1]
    refine hNb _ (VWp.keep [2] [] ?_); simp only [go_sem, Int.reduceEq, Int.reduceNe, Int.reduceLT, Int.reduceLE, Nat.reduceEqDiff, Nat.reduceAdd, Nat.reduceMul, Nat.reduceLT, Nat.reduceLeDiff, Nat.reduceSub, reduceCtorEq, reduceIte, Int.reduceToNat, beq_self_eq_true, Bool.and_self, List.take_length, decide_true, Bool.not_true, Bool.not_false]
    refine vwp_ret ?_
    simp only [go_sem, Int.reduceEq, Int.reduceNe, Int.reduceLT, Int.reduceLE, Nat.reduceEqDiff, Nat.reduceAdd, Nat.reduceMul, Nat.reduceLT, Nat.reduceLeDiff, Nat.reduceSub, reduceCtorEq, reduceIte, Int.reduceToNat, beq_self_eq_true, Bool.and_self, List.take_length, decide_true, Bool.not_true, Bool.not_false]
    exact LeV.refl _
  · refine vwp_seq_k fun Nb hNb => vreg tt_ok hF rfl ?_; simp only [go_sem, Int.reduceEq, Int.reduceNe, Int.reduceLT, Int.reduceLE, Nat.reduceEqDiff, Nat.reduceAdd, Nat.reduceMul, Nat.reduceLT, Nat.reduceLeDiff, Nat.reduceSub, reduceCtorEq, reduceIte, Int.reduceToNat, beq_self_eq_true, Bool.and_self, List.take_length, decide_true, Bool.not_true, Bool.not_false, e1]
    refine .inl ⟨_, h1, ?_⟩; try simp only [go_sem, Int.reduceEq, Int.reduceNe, Int.reduceLT, Int.reduceLE, Nat.reduceEqDiff, Nat.reduceAdd, Nat.reduceMul, Nat.reduceLT, Nat.reduceLeDiff, Nat.reduceSub, reduceCtorEq, reduceIte, Int.reduceToNat, beq_self_eq_true, Bool.and_self, List.take_length, decide_true, Bool.not_true, Bool.not_false]
    refine hNb _ (VWp.keep [2] [] ?_); simp only [go_sem, Int.reduceEq, Int.reduceNe, Int.reduceLT, Int.reduceLE, Nat.reduceEqDiff, Nat.reduceAdd, Nat.reduceMul, Nat.reduceLT, Nat.reduceLeDiff, Nat.reduceSub, reduceCtorEq, reduceIte, Int.reduceToNat, beq_self_eq_true, Bool.and_self, List.take_length, decide_true, Bool.not_true, Bool.not_false]
    refine vwp_ret ?_
    simp only [go_sem, Int.reduceEq, Int.reduceNe, Int.reduceLT, Int.reduceLE, Nat.reduceEqDiff, Nat.reduceAdd, Nat.reduceMul, Nat.reduceLT, Nat.reduceLeDiff, Nat.reduceSub, reduceCtorEq, reduceIte, Int.reduceToNat, beq_self_eq_true, Bool.and_self, List.take_length, decide_true, Bool.not_true, Bool.not_false]
    exact LeV.refl _
set_option maxHeartbeats 8000000 in
set_option maxRecDepth 4000 in
theorem JclNames_spec (s : Jb) : Spec Tryd.prog 3 [.str s] (.bool true) := by
  have hw := works_spec
  have e1 : decide ((1000 : Int) < (s.length : Int)) = decide (1000 < s.length) := by apply decide_eq_decide.2; omega
  refine spec_of tt_ok Tryd.func3 rfl (by decide) Tryd.ntmps3 (congrArg Array.toList Tryd.results3) (by simp) (by decide) rfl rfl (fun F hF => ?_)
  refine vwp_seq_k fun Na hNa => vreg tt_ok hF rfl ?_; simp only [go_sem, Int.reduceEq, Int.reduceNe, Int.reduceLT, Int.reduceLE, Nat.reduceEqDiff, Nat.reduceAdd, Nat.reduceMul, Nat.reduceLT, Nat.reduceLeDiff, Nat.reduceSub, reduceCtorEq, reduceIte, Int.reduceToNat, beq_self_eq_true, Bool.and_self, List.take_length, decide_true, Bool.not_true, Bool.not_false]
  refine hNa _ (VWp.keep [0] [] ?_); simp only [go_sem, Int.reduceEq, Int.reduceNe, Int.reduceLT, Int.reduceLE, Nat.reduceEqDiff, Nat.reduceAdd, Nat.reduceMul, Nat.reduceLT, Nat.reduceLeDiff, Nat.reduceSub, reduceCtorEq, reduceIte, Int.reduceToNat, beq_self_eq_true, Bool.and_self, List.take_length, decide_true, Bool.not_true, Bool.not_false]
  refine vwp_seq_k fun Nb hNb => ?_
  by_cases hl : 1000 < s.length
  · rw [decide_eq_true hl] at e1
    refine vwp_seq_k fun Nc hNc => vreg tt_ok hF rfl ?_; simp only [go_sem, Int.reduceEq, Int.reduceNe, Int.reduceLT, Int.reduceLE, Nat.reduceEqDiff, Nat.reduceAdd, Nat.reduceMul, Nat.reduceLT, Nat.reduceLeDiff, Nat.reduceSub, reduceCtorEq, reduceIte, Int.reduceToNat, beq_self_eq_true, Bool.and_self, List.take_length, decide_true, Bool.not_true, Bool.not_false, e1]
    refine hNc _ (VWp.keep [0,5] [] ?_); simp only [go_sem, Int.reduceEq, Int.reduceNe, Int.reduceLT, Int.reduceLE, Nat.reduceEqDiff, Nat.reduceAdd, Nat.reduceMul, Nat.reduceLT, Nat.reduceLeDiff, Nat.reduceSub, reduceCtorEq, reduceIte, Int.reduceToNat, beq_self_eq_true, Bool.and_self, List.take_length, decide_true, Bool.not_true, Bool.not_false]
    refine vif rfl ⟨fun ht => ?_, fun hf => (by cases hf)⟩
    refine vwp_seq_k fun Nd hNd => vreg tt_ok hF rfl ?_; simp only [go_sem, Int.reduceEq, Int.reduceNe, Int.reduceLT, Int.reduceLE, Nat.reduceEqDiff, Nat.reduceAdd, Nat.reduceMul, Nat.reduceLT, Nat.reduceLeDiff, Nat.reduceSub, reduceCtorEq, reduceIte, Int.reduceToNat, beq_self_eq_true, Bool.and_self, List.take_length, decide_true, Bool.not_true, Bool.not_false]
    refine hNd _ (VWp.keep [2] [] ?_); simp only [go_sem, Int.reduceEq, Int.reduceNe, Int.reduceLT, Int.reduceLE, Nat.reduceEqDiff, Nat.reduceAdd, Nat.reduceMul, Nat.reduceLT, Nat.reduceLeDiff, Nat.reduceSub, reduceCtorEq, reduceIte, Int.reduceToNat, beq_self_eq_true, Bool.and_self, List.take_length, decide_true, Bool.not_true, Bool.not_false]
    refine vwp_ret ?_
    simp only [go_sem, Int.reduceEq, Int.reduceNe, Int.reduceLT, Int.reduceLE, Nat.reduceEqDiff, Nat.reduceAdd, Nat.reduceMul, Nat.reduceLT, Nat.reduceLeDiff, Nat.reduceSub, reduceCtorEq, reduceIte, Int.reduceToNat, beq_self_eq_true, Bool.and_self, List.take_length, decide_true, Bool.not_true, Bool.not_false]
    exact LeV.refl _
  · rw [decide_eq_false hl] at e1
    have h1 := Name_spec s (by omega)
    have h2 := rName_spec s (by omega)
    have h3 := Dsn_spec s (by omega)
    have h4 := rDsn_spec s (by omega)
    refine vwp_seq_k fun Nc hNc => vreg tt_ok hF rfl ?_; simp only [go_sem, Int.reduceEq, Int.reduceNe, Int.reduceLT, Int.reduceLE, Nat.reduceEqDiff, Nat.reduceAdd, Nat.reduceMul, Nat.reduceLT, Nat.reduceLeDiff, Nat.reduceSub, reduceCtorEq, reduceIte, Int.reduceToNat, beq_self_eq_true, Bool.and_self, List.take_length, decide_true, Bool.not_true, Bool.not_false, e1]
    refine hNc _ (VWp.keep [0,5] [] ?_); simp only [go_sem, Int.reduceEq, Int.reduceNe, Int.reduceLT, Int.reduceLE, Nat.reduceEqDiff, Nat.reduceAdd, Nat.reduceMul, Nat.reduceLT, Nat.reduceLeDiff, Nat.reduceSub, reduceCtorEq, reduceIte, Int.reduceToNat, beq_self_eq_true, Bool.and_self, List.take_length, decide_true, Bool.not_true, Bool.not_false]
    refine vif rfl ⟨fun ht => (by cases ht), fun hf => ?_⟩
    refine vwp_skip (hNb _ ?_)
    refine vwp_seq_k fun Ne hNe => vreg tt_ok hF rfl ?_; simp only [go_sem, Int.reduceEq, Int.reduceNe, Int.reduceLT, Int.reduceLE, Nat.reduceEqDiff, Nat.reduceAdd, Nat.reduceMul, Nat.reduceLT, Nat.reduceLeDiff, Nat.reduceSub, reduceCtorEq, reduceIte, Int.reduceToNat, beq_self_eq_true, Bool.and_self, List.take_length, decide_true, Bool.not_true, Bool.not_false]
    refine .inl ⟨_, h1, ?_⟩; try simp only [go_sem, Int.reduceEq, Int.reduceNe, Int.reduceLT, Int.reduceLE, Nat.reduceEqDiff, Nat.reduceAdd, Nat.reduceMul, Nat.reduceLT, Nat.reduceLeDiff, Nat.reduceSub, reduceCtorEq, reduceIte, Int.reduceToNat, beq_self_eq_true, Bool.and_self, List.take_length, decide_true, Bool.not_true, Bool.not_false]
    refine .inl ⟨_, h2, ?_⟩; try simp only [go_sem, Int.reduceEq, Int.reduceNe, Int.reduceLT, Int.reduceLE, Nat.reduceEqDiff, Nat.reduceAdd, Nat.reduceMul, Nat.reduceLT, Nat.reduceLeDiff, Nat.reduceSub, reduceCtorEq, reduceIte, Int.reduceToNat, beq_self_eq_true, Bool.and_self, List.take_length, decide_true, Bool.not_true, Bool.not_false]
    refine .inl ⟨_, h3, ?_⟩; try simp only [go_sem, Int.reduceEq, Int.reduceNe, Int.reduceLT, Int.reduceLE, Nat.reduceEqDiff, Nat.reduceAdd, Nat.reduceMul, Nat.reduceLT, Nat.reduceLeDiff, Nat.reduceSub, reduceCtorEq, reduceIte, Int.reduceToNat, beq_self_eq_true, Bool.and_self, List.take_length, decide_true, Bool.not_true, Bool.not_false]
    refine .inl ⟨_, h4, ?_⟩; try simp only [go_sem, Int.reduceEq, Int.reduceNe, Int.reduceLT, Int.reduceLE, Nat.reduceEqDiff, Nat.reduceAdd, Nat.reduceMul, Nat.reduceLT, Nat.reduceLeDiff, Nat.reduceSub, reduceCtorEq, reduceIte, Int.reduceToNat, beq_self_eq_true, Bool.and_self, List.take_length, decide_true, Bool.not_true, Bool.not_false]
    refine .inl ⟨_, hw, ?_⟩; try simp only [go_sem, Int.reduceEq, Int.reduceNe, Int.reduceLT, Int.reduceLE, Nat.reduceEqDiff, Nat.reduceAdd, Nat.reduceMul, Nat.reduceLT, Nat.reduceLeDiff, Nat.reduceSub, reduceCtorEq, reduceIte, Int.reduceToNat, beq_self_eq_true, Bool.and_self, List.take_length, decide_true, Bool.not_true, Bool.not_false]
    refine hNe _ (VWp.keep [2] [] ?_); simp only [go_sem, Int.reduceEq, Int.reduceNe, Int.reduceLT, Int.reduceLE, Nat.reduceEqDiff, Nat.reduceAdd, Nat.reduceMul, Nat.reduceLT, Nat.reduceLeDiff, Nat.reduceSub, reduceCtorEq, reduceIte, Int.reduceToNat, beq_self_eq_true, Bool.and_self, List.take_length, decide_true, Bool.not_true, Bool.not_false]
    refine vwp_ret ?_
    simp only [go_sem, Int.reduceEq, Int.reduceNe, Int.reduceLT, Int.reduceLE, Nat.reduceEqDiff, Nat.reduceAdd, Nat.reduceMul, Nat.reduceLT, Nat.reduceLeDiff, Nat.reduceSub, reduceCtorEq, reduceIte, Int.reduceToNat, beq_self_eq_true, Bool.and_self, List.take_length, decide_true, Bool.not_true, Bool.not_false]
    exact LeV.refl _
end Go.Proofs.YtnaljgmcpagbbaaDoor
