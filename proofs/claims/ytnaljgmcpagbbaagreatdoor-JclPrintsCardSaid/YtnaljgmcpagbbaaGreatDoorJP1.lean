import Derived.Outline
import Derived.Test.YtnaljgmcpagbbaaGreatDoorJE
import Derived.Test.YtnaljgmcpagbbaaGreatDoorTT
import Derived.Test.YtnaljgmcpagbbaaGreatDoorVU
/- Layer 34: names, texts and cards. -/
-- SIMP: beq_self_eq_true, Bool.and_self
namespace Go.Proofs.YtnaljgmcpagbbaaGreatDoor
open Go.RowKit
set_option linter.unusedVariables false
set_option linter.unusedSimpArgs false
theorem mixed : Tryz.prog.follows .mixedOrders = true := by kernel_rfl
theorem u8le (k c : UInt8) : decide (((k.toNat : Nat) : Int) ≤ ((c.toNat : Nat) : Int)) = decide (k ≤ c) := by apply decide_eq_decide.2; rw [UInt8.le_iff_toNat_le]; omega
theorem u8ge (k c : UInt8) : decide (((c.toNat : Nat) : Int) ≤ ((k.toNat : Nat) : Int)) = decide (c ≤ k) := u8le c k
theorem u8eq (k c : UInt8) : decide (((c.toNat : Nat) : Int) = ((k.toNat : Nat) : Int)) = (c == k) := by
  by_cases h : c = k
  · subst h; simp
  · have h2 : ¬ ((c.toNat : Nat) : Int) = ((k.toNat : Nat) : Int) := fun e => h (UInt8.toNat_inj.1 (by omega))
    rw [decide_eq_false h2]; simp [h]
theorem u8lt (k c : UInt8) : decide (((c.toNat : Nat) : Int) < ((k.toNat : Nat) : Int)) = !decide (k ≤ c) := by
  rw [← u8le]
  by_cases h : ((k.toNat : Nat) : Int) ≤ ((c.toNat : Nat) : Int)
  · rw [decide_eq_true h, decide_eq_false (by omega)]; rfl
  · rw [decide_eq_false h, decide_eq_true (by omega)]; rfl
theorem u8gt (k c : UInt8) : decide (((k.toNat : Nat) : Int) < ((c.toNat : Nat) : Int)) = !decide (c ≤ k) := u8lt c k
def okN (s : Jb) (j : Nat) : Bool := alphaJ (s.getD j 0) || (decide (j ≠ 0) && digJ (s.getD j 0))
theorem nmJ_iff (s : Jb) : nmJ s = true ↔ (1 ≤ s.length ∧ s.length ≤ 8 ∧ ∀ j < s.length, okN s j = true) := by
  unfold nmJ
  simp only [Bool.and_eq_true, decide_eq_true_eq]
  constructor
  · rintro ⟨⟨⟨h1, h2⟩, h3⟩, h4⟩
    refine ⟨h1, h2, fun j hj => ?_⟩
    have := List.all_eq_true.1 h4 s[j] (List.getElem_mem hj)
    unfold okN
    rw [List.getD_eq_getElem?_getD, List.getElem?_eq_getElem hj]
    simp only [Option.getD_some]
    cases j with
    | zero =>
      cases s with
      | nil => simp at hj
      | cons c t => simp only [List.headD_cons] at h3; simp [h3]
    | succ j => simpa using this
  · rintro ⟨h1, h2, h3⟩
    refine ⟨⟨⟨h1, h2⟩, ?_⟩, List.all_eq_true.2 fun c hc => ?_⟩
    · have := h3 0 (by omega)
      cases s with
      | nil => simp at h1
      | cons c t => simpa [okN] using this
    · obtain ⟨j, hj, rfl⟩ := List.getElem_of_mem hc
      have := h3 j hj
      unfold okN at this
      rw [List.getD_eq_getElem?_getD, List.getElem?_eq_getElem hj] at this
      simp only [Option.getD_some, Bool.or_eq_true, Bool.and_eq_true] at this
      rcases this with h | ⟨_, h⟩
      · rw [h]; rfl
      · rw [h]; simp
set_option maxHeartbeats 8000000 in
set_option maxRecDepth 4000 in
theorem Name_spec (s : Jb) (hs : s.length ≤ 1000000000) : Spec Tryz.prog 22 [.str s] (.bool (nmJ s)) := by
  refine spec_of tt_ok Tryz.func22 rfl (by decide) Tryz.ntmps22 (congrArg Array.toList Tryz.results22) (by simp) (by decide) rfl rfl (fun F hF => ?_)
  refine vwp_seq_k fun Na hNa => vreg tt_ok hF rfl ?_; simp only [go_sem, Int.reduceEq, Int.reduceNe, Int.reduceLT, Int.reduceLE, Nat.reduceEqDiff, Nat.reduceAdd, Nat.reduceMul, Nat.reduceLT, Nat.reduceLeDiff, Nat.reduceSub, reduceCtorEq, reduceIte, Int.reduceToNat, beq_self_eq_true, Bool.and_self]
  refine hNa _ (VWp.keep [0] [] ?_); simp only [go_sem, Int.reduceEq, Int.reduceNe, Int.reduceLT, Int.reduceLE, Nat.reduceEqDiff, Nat.reduceAdd, Nat.reduceMul, Nat.reduceLT, Nat.reduceLeDiff, Nat.reduceSub, reduceCtorEq, reduceIte, Int.reduceToNat, beq_self_eq_true, Bool.and_self]
  refine vwp_seq_k fun Nb hNb => ?_
  refine vwp_seq_k fun Nc hNc => vreg tt_ok hF rfl ?_; simp only [go_sem, Int.reduceEq, Int.reduceNe, Int.reduceLT, Int.reduceLE, Nat.reduceEqDiff, Nat.reduceAdd, Nat.reduceMul, Nat.reduceLT, Nat.reduceLeDiff, Nat.reduceSub, reduceCtorEq, reduceIte, Int.reduceToNat, beq_self_eq_true, Bool.and_self]
  refine hNc _ (VWp.keep [0,7,8] [] ?_); simp only [go_sem, Int.reduceEq, Int.reduceNe, Int.reduceLT, Int.reduceLE, Nat.reduceEqDiff, Nat.reduceAdd, Nat.reduceMul, Nat.reduceLT, Nat.reduceLeDiff, Nat.reduceSub, reduceCtorEq, reduceIte, Int.reduceToNat, beq_self_eq_true, Bool.and_self]
  refine vwp_block (vloop (fun k : Nat => [(0, .str s), (7, .int .i64 (s.length : Int)), (8, .int .i64 (k : Int))]) (fun _ => []) (fun k => k ≤ s.length ∧ ∀ j < k, okN s j = true) (fun k => s.length - k) 0 ⟨by omega, fun j hj => by omega⟩ (by simp only [go_sem, Int.reduceEq, Int.reduceNe, Int.reduceLT, Int.reduceLE, Nat.reduceEqDiff, Nat.reduceAdd, Nat.reduceMul, Nat.reduceLT, Nat.reduceLeDiff, Nat.reduceSub, reduceCtorEq, reduceIte, Int.reduceToNat, beq_self_eq_true, Bool.and_self]) ?_)
  rintro k ⟨hk, hall⟩
  refine vwp_seq_k fun Nd hNd => vreg tt_ok hF rfl ?_; simp only [go_sem, Int.reduceEq, Int.reduceNe, Int.reduceLT, Int.reduceLE, Nat.reduceEqDiff, Nat.reduceAdd, Nat.reduceMul, Nat.reduceLT, Nat.reduceLeDiff, Nat.reduceSub, reduceCtorEq, reduceIte, Int.reduceToNat, beq_self_eq_true, Bool.and_self]
  refine hNd _ (VWp.keep [0,7,8,9] [] ?_); simp only [go_sem, Int.reduceEq, Int.reduceNe, Int.reduceLT, Int.reduceLE, Nat.reduceEqDiff, Nat.reduceAdd, Nat.reduceMul, Nat.reduceLT, Nat.reduceLeDiff, Nat.reduceSub, reduceCtorEq, reduceIte, Int.reduceToNat, beq_self_eq_true, Bool.and_self]
  refine vwp_seq_k fun Ne hNe => ?_
  refine vif rfl ⟨fun ht => ?_, fun hf => ?_⟩
  · have hlt : k < s.length := by have := of_decide_eq_true ht; omega
    refine vwp_skip (hNe _ ?_)
    refine vwp_seq_k fun Nf hNf => ?_
    refine vwp_block ?_
    refine vwp_seq_k fun Ng hNg => vreg tt_ok hF rfl ?_; simp only [go_sem, Int.reduceEq, Int.reduceNe, Int.reduceLT, Int.reduceLE, Nat.reduceEqDiff, Nat.reduceAdd, Nat.reduceMul, Nat.reduceLT, Nat.reduceLeDiff, Nat.reduceSub, reduceCtorEq, reduceIte, Int.reduceToNat, beq_self_eq_true, Bool.and_self]
    refine hNg _ (VWp.keepR [0,3,7,8] [] tt_ok hF rfl fun Nh hNh => ?_); simp only [go_sem, Int.reduceEq, Int.reduceNe, Int.reduceLT, Int.reduceLE, Nat.reduceEqDiff, Nat.reduceAdd, Nat.reduceMul, Nat.reduceLT, Nat.reduceLeDiff, Nat.reduceSub, reduceCtorEq, reduceIte, Int.reduceToNat, beq_self_eq_true, Bool.and_self]
    refine ⟨⟨by omega, by omega⟩, ?_⟩
    have hokn : okN s k = (alphaJ (s.getD k 0) || (decide (k ≠ 0) && digJ (s.getD k 0))) := rfl
    generalize s.getD k 0 = c at hokn
    refine hNh _ (VWp.keep [0,3,4,7,8] [] ?_); simp only [go_sem, Int.reduceEq, Int.reduceNe, Int.reduceLT, Int.reduceLE, Nat.reduceEqDiff, Nat.reduceAdd, Nat.reduceMul, Nat.reduceLT, Nat.reduceLeDiff, Nat.reduceSub, reduceCtorEq, reduceIte, Int.reduceToNat, beq_self_eq_true, Bool.and_self]
    refine vmeet (fun z : Bool => [(0, .str s), (3, .int .i64 (k : Int)), (4, .int .u8 ((c.toNat : Nat) : Int)), (5, .bool z), (7, .int .i64 (s.length : Int)), (8, .int .i64 (k : Int))]) (fun _ => []) (fun z => z = alphaJ c) ?_ ?_
    · have e1 : decide ((65 : Int) ≤ ((c.toNat : Nat) : Int)) = decide ((65 : UInt8) ≤ c) := u8le 65 c
      have e2 : decide (((c.toNat : Nat) : Int) ≤ (90 : Int)) = decide (c ≤ (90 : UInt8)) := u8ge 90 c
      have e3 : decide (((c.toNat : Nat) : Int) = (64 : Int)) = (c == 64) := u8eq 64 c
      have e4 : decide (((c.toNat : Nat) : Int) = (35 : Int)) = (c == 35) := u8eq 35 c
      have e5 : decide (((c.toNat : Nat) : Int) = (36 : Int)) = (c == 36) := u8eq 36 c
      have hA : alphaJ c = ((decide ((65 : UInt8) ≤ c) && decide (c ≤ (90 : UInt8))) || c == 64 || c == 35 || c == 36) := rfl
      generalize decide ((65 : UInt8) ≤ c) = b1 at e1 hA
      generalize decide (c ≤ (90 : UInt8)) = b2 at e2 hA
      generalize (c == 64) = b3 at e3 hA
      generalize (c == 35) = b4 at e4 hA
      generalize (c == 36) = b5 at e5 hA
      cases b1 <;> cases b2 <;> cases b3 <;> cases b4 <;> cases b5
      all_goals
        refine vreg tt_ok hF rfl ?_; simp only [go_sem, Int.reduceEq, Int.reduceNe, Int.reduceLT, Int.reduceLE, Nat.reduceEqDiff, Nat.reduceAdd, Nat.reduceMul, Nat.reduceLT, Nat.reduceLeDiff, Nat.reduceSub, reduceCtorEq, reduceIte, Int.reduceToNat, beq_self_eq_true, Bool.and_self, e1, e2, e3, e4, e5]
        exact ⟨_, rfl, by rw [hA]; rfl⟩
    intro z hz
    refine vmeet (fun y : Bool => [(0, .str s), (7, .int .i64 (s.length : Int)), (8, .int .i64 (k : Int)), (45, .bool y)]) (fun _ => []) (fun y => y = !okN s k) ?_ ?_
    · have e1 : decide (((c.toNat : Nat) : Int) < (48 : Int)) = !decide ((48 : UInt8) ≤ c) := u8lt 48 c
      have e2 : decide ((57 : Int) < ((c.toNat : Nat) : Int)) = !decide (c ≤ (57 : UInt8)) := u8gt 57 c
      have e3 : decide (((k : Nat) : Int) = 0) = !decide (k ≠ 0) := by by_cases h : k = 0 <;> simp [h]
      rw [hokn]
      have hD : digJ c = (decide ((48 : UInt8) ≤ c) && decide (c ≤ (57 : UInt8))) := rfl
      rw [hD, ← hz]
      generalize decide ((48 : UInt8) ≤ c) = b1 at e1
      generalize decide (c ≤ (57 : UInt8)) = b2 at e2
      generalize decide (k ≠ 0) = b3 at e3
      cases z <;> cases b3 <;> cases b1 <;> cases b2
      all_goals
        refine vreg tt_ok hF rfl ?_; simp only [go_sem, Int.reduceEq, Int.reduceNe, Int.reduceLT, Int.reduceLE, Nat.reduceEqDiff, Nat.reduceAdd, Nat.reduceMul, Nat.reduceLT, Nat.reduceLeDiff, Nat.reduceSub, reduceCtorEq, reduceIte, Int.reduceToNat, beq_self_eq_true, Bool.and_self, e1, e2, e3]
        exact ⟨_, rfl, by simp⟩
    intro y hy
    refine vif rfl ⟨fun ht => ?_, fun hf => ?_⟩
    · refine vwp_seq_k fun Nk hNk => vreg tt_ok hF rfl ?_; simp only [go_sem, Int.reduceEq, Int.reduceNe, Int.reduceLT, Int.reduceLE, Nat.reduceEqDiff, Nat.reduceAdd, Nat.reduceMul, Nat.reduceLT, Nat.reduceLeDiff, Nat.reduceSub, reduceCtorEq, reduceIte, Int.reduceToNat, beq_self_eq_true, Bool.and_self]
      refine hNk _ (VWp.keep [2] [] ?_); simp only [go_sem, Int.reduceEq, Int.reduceNe, Int.reduceLT, Int.reduceLE, Nat.reduceEqDiff, Nat.reduceAdd, Nat.reduceMul, Nat.reduceLT, Nat.reduceLeDiff, Nat.reduceSub, reduceCtorEq, reduceIte, Int.reduceToNat, beq_self_eq_true, Bool.and_self]
      refine vwp_ret ?_
      simp only [go_sem, Int.reduceEq, Int.reduceNe, Int.reduceLT, Int.reduceLE, Nat.reduceEqDiff, Nat.reduceAdd, Nat.reduceMul, Nat.reduceLT, Nat.reduceLeDiff, Nat.reduceSub, reduceCtorEq, reduceIte, Int.reduceToNat, beq_self_eq_true, Bool.and_self]
      refine LeV.of_eq (congrArg V.bool ?_)
      rw [ht] at hy
      cases hn : nmJ s with
      | false => rfl
      | true =>
        have := ((nmJ_iff s).1 hn).2.2 k hlt
        rw [this] at hy; cases hy
    · refine vwp_skip (hNf _ ?_)
      refine vreg tt_ok hF rfl ?_; simp only [go_sem, Int.reduceEq, Int.reduceNe, Int.reduceLT, Int.reduceLE, Nat.reduceEqDiff, Nat.reduceAdd, Nat.reduceMul, Nat.reduceLT, Nat.reduceLeDiff, Nat.reduceSub, reduceCtorEq, reduceIte, Int.reduceToNat, beq_self_eq_true, Bool.and_self]
      rw [wrap_i64 (by omega) (by omega)]
      refine ⟨k + 1, ⟨by omega, fun j hj => ?_⟩, by omega, by simp⟩
      rcases Nat.lt_succ_iff_lt_or_eq.1 hj with h | h
      · exact hall j h
      · subst h; rw [hf] at hy; simpa using hy.symm
  · have hk2 : k = s.length := by have := of_decide_eq_false hf; omega
    refine vwp_exit ?_
    simp only [go_sem, Int.reduceEq, Int.reduceNe, Int.reduceLT, Int.reduceLE, Nat.reduceEqDiff, Nat.reduceAdd, Nat.reduceMul, Nat.reduceLT, Nat.reduceLeDiff, Nat.reduceSub, reduceCtorEq, reduceIte, Int.reduceToNat, beq_self_eq_true, Bool.and_self]
    refine hNb _ (VWp.keep [0] [] ?_); simp only [go_sem, Int.reduceEq, Int.reduceNe, Int.reduceLT, Int.reduceLE, Nat.reduceEqDiff, Nat.reduceAdd, Nat.reduceMul, Nat.reduceLT, Nat.reduceLeDiff, Nat.reduceSub, reduceCtorEq, reduceIte, Int.reduceToNat, beq_self_eq_true, Bool.and_self]
    have hres : nmJ s = (decide (1 ≤ s.length) && decide (s.length ≤ 8)) := by
      rw [Bool.eq_iff_iff, nmJ_iff]
      simp only [Bool.and_eq_true, decide_eq_true_eq]
      exact ⟨fun h => ⟨h.1, h.2.1⟩, fun h => ⟨h.1, h.2, fun j hj => hall j (by omega)⟩⟩
    have e1 : decide ((1 : Int) ≤ (s.length : Int)) = decide (1 ≤ s.length) := by apply decide_eq_decide.2; omega
    have e2 : decide ((s.length : Int) ≤ (8 : Int)) = decide (s.length ≤ 8) := by apply decide_eq_decide.2; omega
    rw [hres]
    generalize decide (1 ≤ s.length) = b1 at e1
    generalize decide (s.length ≤ 8) = b2 at e2
    cases b1
    all_goals
      refine vwp_seq_k fun Nl hNl => vreg tt_ok hF rfl ?_; simp only [go_sem, Int.reduceEq, Int.reduceNe, Int.reduceLT, Int.reduceLE, Nat.reduceEqDiff, Nat.reduceAdd, Nat.reduceMul, Nat.reduceLT, Nat.reduceLeDiff, Nat.reduceSub, reduceCtorEq, reduceIte, Int.reduceToNat, beq_self_eq_true, Bool.and_self, e1, e2]
      refine hNl _ (VWp.keep [2] [] ?_); simp only [go_sem, Int.reduceEq, Int.reduceNe, Int.reduceLT, Int.reduceLE, Nat.reduceEqDiff, Nat.reduceAdd, Nat.reduceMul, Nat.reduceLT, Nat.reduceLeDiff, Nat.reduceSub, reduceCtorEq, reduceIte, Int.reduceToNat, beq_self_eq_true, Bool.and_self]
      refine vwp_ret ?_
      simp only [go_sem, Int.reduceEq, Int.reduceNe, Int.reduceLT, Int.reduceLE, Nat.reduceEqDiff, Nat.reduceAdd, Nat.reduceMul, Nat.reduceLT, Nat.reduceLeDiff, Nat.reduceSub, reduceCtorEq, reduceIte, Int.reduceToNat, beq_self_eq_true, Bool.and_self]
      exact LeV.refl _
theorem textJ_iff (s : Jb) : textJ s = true ↔ ∀ j < s.length, (decide (32 ≤ s.getD j 0) && decide (s.getD j 0 ≤ 126)) = true := by
  unfold textJ
  rw [List.all_eq_true]
  constructor
  · intro h j hj
    have := h s[j] (List.getElem_mem hj)
    rw [List.getD_eq_getElem?_getD, List.getElem?_eq_getElem hj]; exact this
  · intro h c hc
    obtain ⟨j, hj, rfl⟩ := List.getElem_of_mem hc
    have := h j hj
    rw [List.getD_eq_getElem?_getD, List.getElem?_eq_getElem hj] at this; exact this
set_option maxHeartbeats 8000000 in
set_option maxRecDepth 4000 in
theorem isText_spec (s : Jb) (hs : s.length ≤ 1000000000) : Spec Tryz.prog 47 [.str s] (.bool (textJ s)) := by
  refine spec_of tt_ok Tryz.func47 rfl (by decide) Tryz.ntmps47 (congrArg Array.toList Tryz.results47) (by simp) (by decide) rfl rfl (fun F hF => ?_)
  refine vwp_seq_k fun Na hNa => vreg tt_ok hF rfl ?_; simp only [go_sem, Int.reduceEq, Int.reduceNe, Int.reduceLT, Int.reduceLE, Nat.reduceEqDiff, Nat.reduceAdd, Nat.reduceMul, Nat.reduceLT, Nat.reduceLeDiff, Nat.reduceSub, reduceCtorEq, reduceIte, Int.reduceToNat, beq_self_eq_true, Bool.and_self]
  refine hNa _ (VWp.keep [0] [] ?_); simp only [go_sem, Int.reduceEq, Int.reduceNe, Int.reduceLT, Int.reduceLE, Nat.reduceEqDiff, Nat.reduceAdd, Nat.reduceMul, Nat.reduceLT, Nat.reduceLeDiff, Nat.reduceSub, reduceCtorEq, reduceIte, Int.reduceToNat, beq_self_eq_true, Bool.and_self]
  refine vwp_seq_k fun Nb hNb => ?_
  refine vwp_seq_k fun Nc hNc => vreg tt_ok hF rfl ?_; simp only [go_sem, Int.reduceEq, Int.reduceNe, Int.reduceLT, Int.reduceLE, Nat.reduceEqDiff, Nat.reduceAdd, Nat.reduceMul, Nat.reduceLT, Nat.reduceLeDiff, Nat.reduceSub, reduceCtorEq, reduceIte, Int.reduceToNat, beq_self_eq_true, Bool.and_self]
  refine hNc _ (VWp.keep [0,5,6] [] ?_); simp only [go_sem, Int.reduceEq, Int.reduceNe, Int.reduceLT, Int.reduceLE, Nat.reduceEqDiff, Nat.reduceAdd, Nat.reduceMul, Nat.reduceLT, Nat.reduceLeDiff, Nat.reduceSub, reduceCtorEq, reduceIte, Int.reduceToNat, beq_self_eq_true, Bool.and_self]
  refine vwp_block (vloop (fun k : Nat => [(0, .str s), (5, .int .i64 (s.length : Int)), (6, .int .i64 (k : Int))]) (fun _ => []) (fun k => k ≤ s.length ∧ ∀ j < k, (decide (32 ≤ s.getD j 0) && decide (s.getD j 0 ≤ 126)) = true) (fun k => s.length - k) 0 ⟨by omega, fun j hj => by omega⟩ (by simp only [go_sem, Int.reduceEq, Int.reduceNe, Int.reduceLT, Int.reduceLE, Nat.reduceEqDiff, Nat.reduceAdd, Nat.reduceMul, Nat.reduceLT, Nat.reduceLeDiff, Nat.reduceSub, reduceCtorEq, reduceIte, Int.reduceToNat, beq_self_eq_true, Bool.and_self]) ?_)
  rintro k ⟨hk, hall⟩
  refine vwp_seq_k fun Nd hNd => vreg tt_ok hF rfl ?_; simp only [go_sem, Int.reduceEq, Int.reduceNe, Int.reduceLT, Int.reduceLE, Nat.reduceEqDiff, Nat.reduceAdd, Nat.reduceMul, Nat.reduceLT, Nat.reduceLeDiff, Nat.reduceSub, reduceCtorEq, reduceIte, Int.reduceToNat, beq_self_eq_true, Bool.and_self]
  refine hNd _ (VWp.keep [0,5,6,7] [] ?_); simp only [go_sem, Int.reduceEq, Int.reduceNe, Int.reduceLT, Int.reduceLE, Nat.reduceEqDiff, Nat.reduceAdd, Nat.reduceMul, Nat.reduceLT, Nat.reduceLeDiff, Nat.reduceSub, reduceCtorEq, reduceIte, Int.reduceToNat, beq_self_eq_true, Bool.and_self]
  refine vwp_seq_k fun Ne hNe => ?_
  refine vif rfl ⟨fun ht => ?_, fun hf => ?_⟩
  · have hlt : k < s.length := by have := of_decide_eq_true ht; omega
    refine vwp_skip (hNe _ ?_)
    refine vwp_seq_k fun Nf hNf => ?_
    refine vwp_block ?_
    refine vwp_seq_k fun Ng hNg => vreg tt_ok hF rfl ?_; simp only [go_sem, Int.reduceEq, Int.reduceNe, Int.reduceLT, Int.reduceLE, Nat.reduceEqDiff, Nat.reduceAdd, Nat.reduceMul, Nat.reduceLT, Nat.reduceLeDiff, Nat.reduceSub, reduceCtorEq, reduceIte, Int.reduceToNat, beq_self_eq_true, Bool.and_self]
    refine hNg _ (VWp.keep [0,3,5,6] [] ?_); simp only [go_sem, Int.reduceEq, Int.reduceNe, Int.reduceLT, Int.reduceLE, Nat.reduceEqDiff, Nat.reduceAdd, Nat.reduceMul, Nat.reduceLT, Nat.reduceLeDiff, Nat.reduceSub, reduceCtorEq, reduceIte, Int.reduceToNat, beq_self_eq_true, Bool.and_self]
    refine vmeet (fun y : Bool => [(0, .str s), (5, .int .i64 (s.length : Int)), (6, .int .i64 (k : Int)), (18, .bool y)]) (fun _ => []) (fun y => y = !(decide (32 ≤ s.getD k 0) && decide (s.getD k 0 ≤ 126))) ?_ ?_
    · have e1 : decide ((((s.getD k 0).toNat : Nat) : Int) < (32 : Int)) = !decide ((32 : UInt8) ≤ s.getD k 0) := u8lt 32 _
      have e2 : decide ((126 : Int) < (((s.getD k 0).toNat : Nat) : Int)) = !decide (s.getD k 0 ≤ (126 : UInt8)) := u8gt 126 _
      have hp : (0 : Int) ≤ (k : Int) ∧ (k : Int) < (s.length : Int) := ⟨by omega, by omega⟩
      generalize decide ((32 : UInt8) ≤ s.getD k 0) = b1 at e1
      generalize decide (s.getD k 0 ≤ (126 : UInt8)) = b2 at e2
      cases b1 <;> cases b2
      all_goals
        refine vreg tt_ok hF rfl ?_; simp only [go_sem, Int.reduceEq, Int.reduceNe, Int.reduceLT, Int.reduceLE, Nat.reduceEqDiff, Nat.reduceAdd, Nat.reduceMul, Nat.reduceLT, Nat.reduceLeDiff, Nat.reduceSub, reduceCtorEq, reduceIte, Int.reduceToNat, beq_self_eq_true, Bool.and_self, hp, e1, e2]
        exact ⟨_, rfl, by simp⟩
    intro y hy
    refine vif rfl ⟨fun ht => ?_, fun hf => ?_⟩
    · refine vwp_seq_k fun Ni hNi => vreg tt_ok hF rfl ?_; simp only [go_sem, Int.reduceEq, Int.reduceNe, Int.reduceLT, Int.reduceLE, Nat.reduceEqDiff, Nat.reduceAdd, Nat.reduceMul, Nat.reduceLT, Nat.reduceLeDiff, Nat.reduceSub, reduceCtorEq, reduceIte, Int.reduceToNat, beq_self_eq_true, Bool.and_self]
      refine hNi _ (VWp.keep [2] [] ?_); simp only [go_sem, Int.reduceEq, Int.reduceNe, Int.reduceLT, Int.reduceLE, Nat.reduceEqDiff, Nat.reduceAdd, Nat.reduceMul, Nat.reduceLT, Nat.reduceLeDiff, Nat.reduceSub, reduceCtorEq, reduceIte, Int.reduceToNat, beq_self_eq_true, Bool.and_self]
      refine vwp_ret ?_
      simp only [go_sem, Int.reduceEq, Int.reduceNe, Int.reduceLT, Int.reduceLE, Nat.reduceEqDiff, Nat.reduceAdd, Nat.reduceMul, Nat.reduceLT, Nat.reduceLeDiff, Nat.reduceSub, reduceCtorEq, reduceIte, Int.reduceToNat, beq_self_eq_true, Bool.and_self]
      refine LeV.of_eq (congrArg V.bool ?_)
      rw [ht] at hy
      cases hn : textJ s with
      | false => rfl
      | true =>
        have := (textJ_iff s).1 hn k hlt
        rw [this] at hy; cases hy
    · refine vwp_skip (hNf _ ?_)
      refine vreg tt_ok hF rfl ?_; simp only [go_sem, Int.reduceEq, Int.reduceNe, Int.reduceLT, Int.reduceLE, Nat.reduceEqDiff, Nat.reduceAdd, Nat.reduceMul, Nat.reduceLT, Nat.reduceLeDiff, Nat.reduceSub, reduceCtorEq, reduceIte, Int.reduceToNat, beq_self_eq_true, Bool.and_self]
      rw [wrap_i64 (by omega) (by omega)]
      refine ⟨k + 1, ⟨by omega, fun j hj => ?_⟩, by omega, by simp⟩
      rcases Nat.lt_succ_iff_lt_or_eq.1 hj with h | h
      · exact hall j h
      · subst h; rw [hf] at hy; simpa using hy.symm
  · have hk2 : k = s.length := by have := of_decide_eq_false hf; omega
    refine vwp_exit ?_
    simp only [go_sem, Int.reduceEq, Int.reduceNe, Int.reduceLT, Int.reduceLE, Nat.reduceEqDiff, Nat.reduceAdd, Nat.reduceMul, Nat.reduceLT, Nat.reduceLeDiff, Nat.reduceSub, reduceCtorEq, reduceIte, Int.reduceToNat, beq_self_eq_true, Bool.and_self]
    refine hNb _ (VWp.keepR [] [] tt_ok hF rfl fun Nj hNj => ?_); simp only [go_sem, Int.reduceEq, Int.reduceNe, Int.reduceLT, Int.reduceLE, Nat.reduceEqDiff, Nat.reduceAdd, Nat.reduceMul, Nat.reduceLT, Nat.reduceLeDiff, Nat.reduceSub, reduceCtorEq, reduceIte, Int.reduceToNat, beq_self_eq_true, Bool.and_self]
    refine hNj _ (VWp.keep [2] [] ?_); simp only [go_sem, Int.reduceEq, Int.reduceNe, Int.reduceLT, Int.reduceLE, Nat.reduceEqDiff, Nat.reduceAdd, Nat.reduceMul, Nat.reduceLT, Nat.reduceLeDiff, Nat.reduceSub, reduceCtorEq, reduceIte, Int.reduceToNat, beq_self_eq_true, Bool.and_self]
    refine vwp_ret ?_
    simp only [go_sem, Int.reduceEq, Int.reduceNe, Int.reduceLT, Int.reduceLE, Nat.reduceEqDiff, Nat.reduceAdd, Nat.reduceMul, Nat.reduceLT, Nat.reduceLeDiff, Nat.reduceSub, reduceCtorEq, reduceIte, Int.reduceToNat, beq_self_eq_true, Bool.and_self]
    exact LeV.of_eq (congrArg V.bool ((textJ_iff s).2 (fun j hj => hall j (by omega))).symm)
set_option maxHeartbeats 8000000 in
set_option maxRecDepth 4000 in
theorem isCard_spec (s : Jb) (hs : s.length ≤ 1000000000) : Spec Tryz.prog 30 [.str s] (.bool (cardJ s)) := by
  have ht := isText_spec s hs
  have hc : cardJ s = (decide (s.length ≤ 80) && textJ s) := rfl
  have e1 : decide ((s.length : Int) ≤ (80 : Int)) = decide (s.length ≤ 80) := by apply decide_eq_decide.2; omega
  rw [hc]
  generalize decide (s.length ≤ 80) = b1 at e1
  refine spec_of tt_ok Tryz.func30 rfl (by decide) Tryz.ntmps30 (congrArg Array.toList Tryz.results30) (by simp) (by decide) rfl rfl (fun F hF => ?_)
  refine vwp_seq_k fun Na hNa => vreg tt_ok hF rfl ?_; simp only [go_sem, Int.reduceEq, Int.reduceNe, Int.reduceLT, Int.reduceLE, Nat.reduceEqDiff, Nat.reduceAdd, Nat.reduceMul, Nat.reduceLT, Nat.reduceLeDiff, Nat.reduceSub, reduceCtorEq, reduceIte, Int.reduceToNat, beq_self_eq_true, Bool.and_self]
  refine hNa _ (VWp.keep [0] [] ?_); simp only [go_sem, Int.reduceEq, Int.reduceNe, Int.reduceLT, Int.reduceLE, Nat.reduceEqDiff, Nat.reduceAdd, Nat.reduceMul, Nat.reduceLT, Nat.reduceLeDiff, Nat.reduceSub, reduceCtorEq, reduceIte, Int.reduceToNat, beq_self_eq_true, Bool.and_self]
  cases b1
  · refine vwp_seq_k fun Nb hNb => vreg tt_ok hF rfl ?_; simp only [go_sem, Int.reduceEq, Int.reduceNe, Int.reduceLT, Int.reduceLE, Nat.reduceEqDiff, Nat.reduceAdd, Nat.reduceMul, Nat.reduceLT, Nat.reduceLeDiff, Nat.reduceSub, reduceCtorEq, reduceIte, Int.reduceToNat, beq_self_eq_true, Bool.and_self, e1]
    refine hNb _ (VWp.keep [2] [] ?_); simp only [go_sem, Int.reduceEq, Int.reduceNe, Int.reduceLT, Int.reduceLE, Nat.reduceEqDiff, Nat.reduceAdd, Nat.reduceMul, Nat.reduceLT, Nat.reduceLeDiff, Nat.reduceSub, reduceCtorEq, reduceIte, Int.reduceToNat, beq_self_eq_true, Bool.and_self]
    refine vwp_ret ?_
    simp only [go_sem, Int.reduceEq, Int.reduceNe, Int.reduceLT, Int.reduceLE, Nat.reduceEqDiff, Nat.reduceAdd, Nat.reduceMul, Nat.reduceLT, Nat.reduceLeDiff, Nat.reduceSub, reduceCtorEq, reduceIte, Int.reduceToNat, beq_self_eq_true, Bool.and_self]
    exact LeV.refl _
  · refine vwp_seq_k fun Nb hNb => vreg tt_ok hF rfl ?_; simp only [go_sem, Int.reduceEq, Int.reduceNe, Int.reduceLT, Int.reduceLE, Nat.reduceEqDiff, Nat.reduceAdd, Nat.reduceMul, Nat.reduceLT, Nat.reduceLeDiff, Nat.reduceSub, reduceCtorEq, reduceIte, Int.reduceToNat, beq_self_eq_true, Bool.and_self, e1]
    refine .inl ⟨_, ht, ?_⟩; try simp only [go_sem, Int.reduceEq, Int.reduceNe, Int.reduceLT, Int.reduceLE, Nat.reduceEqDiff, Nat.reduceAdd, Nat.reduceMul, Nat.reduceLT, Nat.reduceLeDiff, Nat.reduceSub, reduceCtorEq, reduceIte, Int.reduceToNat, beq_self_eq_true, Bool.and_self]
    refine hNb _ (VWp.keep [2] [] ?_); simp only [go_sem, Int.reduceEq, Int.reduceNe, Int.reduceLT, Int.reduceLE, Nat.reduceEqDiff, Nat.reduceAdd, Nat.reduceMul, Nat.reduceLT, Nat.reduceLeDiff, Nat.reduceSub, reduceCtorEq, reduceIte, Int.reduceToNat, beq_self_eq_true, Bool.and_self]
    refine vwp_ret ?_
    simp only [go_sem, Int.reduceEq, Int.reduceNe, Int.reduceLT, Int.reduceLE, Nat.reduceEqDiff, Nat.reduceAdd, Nat.reduceMul, Nat.reduceLT, Nat.reduceLeDiff, Nat.reduceSub, reduceCtorEq, reduceIte, Int.reduceToNat, beq_self_eq_true, Bool.and_self]
    exact LeV.refl _
end Go.Proofs.YtnaljgmcpagbbaaGreatDoor
