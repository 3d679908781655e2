import Derived.Outline
import Derived.Test.YtnaljgmcpagbbaaGreatDoorJQ
/- Layer 34: parameters, lines. -/
-- SIMP: beq_self_eq_true, Bool.and_self, List.take_length
namespace Go.Proofs.YtnaljgmcpagbbaaGreatDoor
open Go.RowKit
set_option linter.unusedVariables false
set_option linter.unusedSimpArgs false
def eqF (σ : Int) (v : Nat × UInt8 × Int) : Int := if v.2.1 == 61 && v.2.2 == 0 && decide (σ < 0) then (v.1 : Int) else σ
theorem eqF_stay (σ : Int) (h : 0 ≤ σ) : ∀ l : List (Nat × UInt8 × Int), l.foldl eqF σ = σ
  | [] => rfl
  | v :: l => by
    have : eqF σ v = σ := by unfold eqF; rw [decide_eq_false (by omega)]; simp
    rw [List.foldl_cons, this, eqF_stay σ h l]
theorem eqF_fold : ∀ l : List (Nat × UInt8 × Int), l.foldl eqF (-1) = match (l.find? fun v => v.2.1 == 61 && v.2.2 == 0) with | some v => (v.1 : Int) | none => -1
  | [] => rfl
  | v :: l => by
    rw [List.foldl_cons, List.find?_cons]
    cases hv : (v.2.1 == 61 && v.2.2 == 0)
    · have : eqF (-1) v = -1 := by unfold eqF; rw [hv]; rfl
      rw [this, eqF_fold l]
    · have : eqF (-1) v = (v.1 : Int) := by unfold eqF; rw [hv]; rfl
      rw [this, eqF_stay _ (by omega)]
set_option maxHeartbeats 4000000 in
set_option maxRecDepth 4000 in
theorem parse1_B (σ : Int) (i : Nat) (c : UInt8) (d : Int) : SpecB Tryz.prog 61 [.int .i64 (i : Int), .int .u8 ((c.toNat : Nat) : Int), .int .i64 d, .ptr 1000000 0] [(1000000, .box 3 [.int .i64 σ])] (.tup []) [(1000000, .box 3 [.int .i64 (eqF σ (i, c, d))])] := by
  have e1 : decide (((c.toNat : Nat) : Int) = (61 : Int)) = (c == 61) := u8eq 61 c
  have e3 := inteq d 0
  have hf : eqF σ (i, c, d) = if (c == 61) && (d == 0) && decide (σ < 0) then (i : Int) else σ := rfl
  rw [hf]
  generalize (c == 61) = b1 at e1
  generalize (d == 0) = b2 at e3
  obtain ⟨b3, e4⟩ : ∃ b, decide (σ < 0) = b := ⟨_, rfl⟩
  rw [e4]
  refine specB_of tt_ok Tryz.func61 rfl (by decide) Tryz.ntmps61 (congrArg Array.toList Tryz.results61) (by simp) (by decide) rfl (by simp only [go_sem, Int.reduceEq, Int.reduceNe, Int.reduceLT, Int.reduceLE, Nat.reduceEqDiff, Nat.reduceAdd, Nat.reduceMul, Nat.reduceLT, Nat.reduceLeDiff, Nat.reduceSub, reduceCtorEq, reduceIte, Int.reduceToNat, beq_self_eq_true, Bool.and_self, List.take_length]) (fun F hF => ?_)
  refine vmeet (fun z : Bool => [(0, .int .i64 (i : Int)), (3, .ptr 1000000 0), (16, .bool z)]) (fun _ => [(1000000, .box 3 [.int .i64 σ])]) (fun z => z = (b1 && b2 && b3)) ?_ ?_
  · cases b1 <;> cases b2 <;> cases b3
    all_goals
      refine vreg tt_ok hF rfl ?_; simp only [go_sem, Int.reduceEq, Int.reduceNe, Int.reduceLT, Int.reduceLE, Nat.reduceEqDiff, Nat.reduceAdd, Nat.reduceMul, Nat.reduceLT, Nat.reduceLeDiff, Nat.reduceSub, reduceCtorEq, reduceIte, Int.reduceToNat, beq_self_eq_true, Bool.and_self, List.take_length, e1, e3, e4]
      exact ⟨_, rfl, by simp⟩
  intro z hz
  refine vif rfl ⟨fun ht => ?_, fun hf => ?_⟩
  · rw [ht] at hz
    rw [← hz, if_pos rfl]
    refine vreg tt_ok hF rfl ?_; simp only [go_sem, Int.reduceEq, Int.reduceNe, Int.reduceLT, Int.reduceLE, Nat.reduceEqDiff, Nat.reduceAdd, Nat.reduceMul, Nat.reduceLT, Nat.reduceLeDiff, Nat.reduceSub, reduceCtorEq, reduceIte, Int.reduceToNat, beq_self_eq_true, Bool.and_self, List.take_length]
    first | exact LeV.refl _ | exact ⟨LeV.refl _, by simp⟩
  · rw [hf] at hz
    rw [← hz, if_neg (by decide)]
    refine vwp_skip ?_
    simp only [go_sem, Int.reduceEq, Int.reduceNe, Int.reduceLT, Int.reduceLE, Nat.reduceEqDiff, Nat.reduceAdd, Nat.reduceMul, Nat.reduceLT, Nat.reduceLeDiff, Nat.reduceSub, reduceCtorEq, reduceIte, Int.reduceToNat, beq_self_eq_true, Bool.and_self, List.take_length]
    first | exact LeV.refl _ | exact ⟨LeV.refl _, by simp⟩
def eqI (s : Jb) : Int := match eqJ s with | some i => (i : Int) | none => -1
theorem eq_walk (s : Jb) (hs : s.length ≤ 1000000000) : SpecB Tryz.prog 39 [.str s, .fn (.func 61) [.ptr 1000000 0]] [(1000000, .box 3 [.int .i64 (-1)])] (.bool (balJ s)) [(1000000, .box 3 [.int .i64 (eqI s)])] := by
  have h := walk_i _ eqF (fun _ _ => True) s hs (-1) trivial (fun _ _ _ => trivial) (fun _ _ _ _ _ => trivial) (fun σ i c d _ _ _ _ => parse1_B σ i c d)
  rw [eqF_fold] at h
  have e : eqI s = match ((visJ s).find? fun v => v.2.1 == 61 && v.2.2 == 0) with | some v => (v.1 : Int) | none => -1 := by
    unfold eqI eqJ
    cases ((visJ s).find? fun v => v.2.1 == 61 && v.2.2 == 0) <;> rfl
  rw [e]; exact h
theorem eqJ_lt (s : Jb) (i : Nat) (h : eqJ s = some i) : i < s.length := by
  unfold eqJ at h
  cases hq : ((visJ s).find? fun v => v.2.1 == 61 && v.2.2 == 0) with
  | none => rw [hq] at h; cases h
  | some v =>
    rw [hq] at h
    injection h with h; subst h
    have := walkJ_lt s 0 0 false v (List.mem_of_find?_eq_some hq)
    simpa using this.2
def noPrm : PrmJ := ⟨[], [], []⟩
def parseR (s : Jb) : V := match eqJ s with
  | some i => if keyJ (s.take i) then .tup [prmV ⟨s.take i, s.drop (i + 1), (partsJ (s.drop (i + 1))).getD []⟩, .bool (valueJ (s.drop (i + 1)))] else .tup [prmV noPrm, .bool false]
  | none => .tup [prmV ⟨[], s, (partsJ s).getD []⟩, .bool (valueJ s)]
set_option maxHeartbeats 4000000 in
set_option maxRecDepth 4000 in
theorem parse_spec (s : Jb) (hs : s.length ≤ 1000000) : Spec Tryz.prog 44 [.str s] (parseR s) := by
  have h0 := eq_walk s (by omega)
  cases he : eqJ s with
  | none =>
    have hi : eqI s = -1 := by unfold eqI; rw [he]
    have hr : parseR s = .tup [prmV ⟨[], s, (partsJ s).getD []⟩, .bool (valueJ s)] := by unfold parseR; rw [he]
    rw [hi] at h0
    rw [hr]
    have h1 := Parts_spec s (by omega)
    have h2 := isValue_spec s (by omega)
    generalize (partsJ s).getD [] = P at h1 ⊢
    generalize (partsJ s).isSome = pb at h1
    generalize valueJ s = b at h2 ⊢
    generalize balJ s = bb at h0
    have hw : IntKind.i64.wrap ((-1 : Int) + 1) = 0 := by decide
    refine spec_of tt_ok Tryz.func44 rfl (by decide) Tryz.ntmps44 (congrArg Array.toList Tryz.results44) (by simp) (by decide) rfl rfl (fun F hF => ?_)
    refine vwp_seq_k fun Na hNa => vreg tt_ok hF rfl ?_; simp only [go_sem, Int.reduceEq, Int.reduceNe, Int.reduceLT, Int.reduceLE, Nat.reduceEqDiff, Nat.reduceAdd, Nat.reduceMul, Nat.reduceLT, Nat.reduceLeDiff, Nat.reduceSub, reduceCtorEq, reduceIte, Int.reduceToNat, beq_self_eq_true, Bool.and_self, List.take_length]
    refine hNa _ (VWp.keepR [0,2] [2] tt_ok hF rfl fun Nb hNb => ?_); simp only [go_sem, Int.reduceEq, Int.reduceNe, Int.reduceLT, Int.reduceLE, Nat.reduceEqDiff, Nat.reduceAdd, Nat.reduceMul, Nat.reduceLT, Nat.reduceLeDiff, Nat.reduceSub, reduceCtorEq, reduceIte, Int.reduceToNat, beq_self_eq_true, Bool.and_self, List.take_length]
    refine hNb _ (VWp.keepR [0,2,4] [2,4] tt_ok hF rfl fun Nc hNc => ?_); simp only [go_sem, Int.reduceEq, Int.reduceNe, Int.reduceLT, Int.reduceLE, Nat.reduceEqDiff, Nat.reduceAdd, Nat.reduceMul, Nat.reduceLT, Nat.reduceLeDiff, Nat.reduceSub, reduceCtorEq, reduceIte, Int.reduceToNat, beq_self_eq_true, Bool.and_self, List.take_length]
    refine .inr (bxo [(1000000, 4)] rfl ?_); simp only [go_sem, Int.reduceEq, Int.reduceNe, Int.reduceLT, Int.reduceLE, Nat.reduceEqDiff, Nat.reduceAdd, Nat.reduceMul, Nat.reduceLT, Nat.reduceLeDiff, Nat.reduceSub, reduceCtorEq, reduceIte, Int.reduceToNat, beq_self_eq_true, Bool.and_self, List.take_length]; refine ⟨_, _, h0, ?_⟩; try simp only [go_sem, Int.reduceEq, Int.reduceNe, Int.reduceLT, Int.reduceLE, Nat.reduceEqDiff, Nat.reduceAdd, Nat.reduceMul, Nat.reduceLT, Nat.reduceLeDiff, Nat.reduceSub, reduceCtorEq, reduceIte, Int.reduceToNat, beq_self_eq_true, Bool.and_self, List.take_length]
    refine hNc _ (VWp.keep [0,2,4] [2,4] ?_); simp only [go_sem, Int.reduceEq, Int.reduceNe, Int.reduceLT, Int.reduceLE, Nat.reduceEqDiff, Nat.reduceAdd, Nat.reduceMul, Nat.reduceLT, Nat.reduceLeDiff, Nat.reduceSub, reduceCtorEq, reduceIte, Int.reduceToNat, beq_self_eq_true, Bool.and_self, List.take_length]
    refine vwp_seq_k fun Nd hNd => vreg tt_ok hF rfl ?_; simp only [go_sem, Int.reduceEq, Int.reduceNe, Int.reduceLT, Int.reduceLE, Nat.reduceEqDiff, Nat.reduceAdd, Nat.reduceMul, Nat.reduceLT, Nat.reduceLeDiff, Nat.reduceSub, reduceCtorEq, reduceIte, Int.reduceToNat, beq_self_eq_true, Bool.and_self, List.take_length, hw]
    try refine ⟨by omega, ?_⟩
    refine hNd _ (VWp.keep [0,2,4,5] [2,4,5] ?_); simp only [go_sem, Int.reduceEq, Int.reduceNe, Int.reduceLT, Int.reduceLE, Nat.reduceEqDiff, Nat.reduceAdd, Nat.reduceMul, Nat.reduceLT, Nat.reduceLeDiff, Nat.reduceSub, reduceCtorEq, reduceIte, Int.reduceToNat, beq_self_eq_true, Bool.and_self, List.take_length]
    refine vwp_seq_k fun Ne hNe => ?_
    refine vwp_seq_k fun Nf hNf => vreg tt_ok hF rfl ?_; simp only [go_sem, Int.reduceEq, Int.reduceNe, Int.reduceLT, Int.reduceLE, Nat.reduceEqDiff, Nat.reduceAdd, Nat.reduceMul, Nat.reduceLT, Nat.reduceLeDiff, Nat.reduceSub, reduceCtorEq, reduceIte, Int.reduceToNat, beq_self_eq_true, Bool.and_self, List.take_length]
    refine hNf _ (VWp.keep [0,2,4,5,15] [2,4,5] ?_); simp only [go_sem, Int.reduceEq, Int.reduceNe, Int.reduceLT, Int.reduceLE, Nat.reduceEqDiff, Nat.reduceAdd, Nat.reduceMul, Nat.reduceLT, Nat.reduceLeDiff, Nat.reduceSub, reduceCtorEq, reduceIte, Int.reduceToNat, beq_self_eq_true, Bool.and_self, List.take_length]
    refine vif rfl ⟨fun ht => (by cases ht), fun hf => ?_⟩
    refine vwp_skip ?_
    refine hNe _ (VWp.keepR [2,5] [2,5] tt_ok hF rfl fun Nj hNj => ?_); simp only [go_sem, Int.reduceEq, Int.reduceNe, Int.reduceLT, Int.reduceLE, Nat.reduceEqDiff, Nat.reduceAdd, Nat.reduceMul, Nat.reduceLT, Nat.reduceLeDiff, Nat.reduceSub, reduceCtorEq, reduceIte, Int.reduceToNat, beq_self_eq_true, Bool.and_self, List.take_length]
    refine .inl ⟨_, h1, ?_⟩; try simp only [go_sem, Int.reduceEq, Int.reduceNe, Int.reduceLT, Int.reduceLE, Nat.reduceEqDiff, Nat.reduceAdd, Nat.reduceMul, Nat.reduceLT, Nat.reduceLeDiff, Nat.reduceSub, reduceCtorEq, reduceIte, Int.reduceToNat, beq_self_eq_true, Bool.and_self, List.take_length]
    refine hNj _ (VWp.keep [2,5] [2,5] ?_); simp only [go_sem, Int.reduceEq, Int.reduceNe, Int.reduceLT, Int.reduceLE, Nat.reduceEqDiff, Nat.reduceAdd, Nat.reduceMul, Nat.reduceLT, Nat.reduceLeDiff, Nat.reduceSub, reduceCtorEq, reduceIte, Int.reduceToNat, beq_self_eq_true, Bool.and_self, List.take_length]
    refine vwp_seq_k fun Nk hNk => vregd tt_ok mixed hF rfl (by kernel_rfl) (by kernel_rfl) ?_; simp only [go_sem, Int.reduceEq, Int.reduceNe, Int.reduceLT, Int.reduceLE, Nat.reduceEqDiff, Nat.reduceAdd, Nat.reduceMul, Nat.reduceLT, Nat.reduceLeDiff, Nat.reduceSub, reduceCtorEq, reduceIte, Int.reduceToNat, beq_self_eq_true, Bool.and_self, List.take_length]
    refine .inl ⟨_, h2, ?_⟩; try simp only [go_sem, Int.reduceEq, Int.reduceNe, Int.reduceLT, Int.reduceLE, Nat.reduceEqDiff, Nat.reduceAdd, Nat.reduceMul, Nat.reduceLT, Nat.reduceLeDiff, Nat.reduceSub, reduceCtorEq, reduceIte, Int.reduceToNat, beq_self_eq_true, Bool.and_self, List.take_length]
    refine hNk _ (VWp.keep [2,3] [2] ?_); simp only [go_sem, Int.reduceEq, Int.reduceNe, Int.reduceLT, Int.reduceLE, Nat.reduceEqDiff, Nat.reduceAdd, Nat.reduceMul, Nat.reduceLT, Nat.reduceLeDiff, Nat.reduceSub, reduceCtorEq, reduceIte, Int.reduceToNat, beq_self_eq_true, Bool.and_self, List.take_length]
    refine vwp_ret ?_
    simp only [go_sem, Int.reduceEq, Int.reduceNe, Int.reduceLT, Int.reduceLE, Nat.reduceEqDiff, Nat.reduceAdd, Nat.reduceMul, Nat.reduceLT, Nat.reduceLeDiff, Nat.reduceSub, reduceCtorEq, reduceIte, Int.reduceToNat, beq_self_eq_true, Bool.and_self, List.take_length]
    exact LeV.of_eq (by simp [prmV, prmC, strsV])
  | some i =>
    have hlt := eqJ_lt s i he
    have hi : eqI s = (i : Int) := by unfold eqI; rw [he]
    have hr : parseR s = if keyJ (s.take i) then .tup [prmV ⟨s.take i, s.drop (i + 1), (partsJ (s.drop (i + 1))).getD []⟩, .bool (valueJ (s.drop (i + 1)))] else .tup [prmV noPrm, .bool false] := by unfold parseR; rw [he]
    rw [hi] at h0
    rw [hr]
    have h1 := Parts_spec (s.drop (i + 1)) (by simp; omega)
    have h2 := isValue_spec (s.drop (i + 1)) (by simp; omega)
    have h3 := isKey_spec (s.take i) (s.length : Int) (by simp; omega)
    rw [keyM_all (s.take i) _ (by simp; omega)] at h3
    generalize (partsJ (s.drop (i + 1))).getD [] = P at h1 ⊢
    generalize (partsJ (s.drop (i + 1))).isSome = pb at h1
    generalize valueJ (s.drop (i + 1)) = b at h2 ⊢
    generalize keyJ (s.take i) = kb at h3 ⊢
    generalize balJ s = bb at h0
    cases kb
    all_goals simp only [Bool.false_eq_true, if_true, if_false]
    all_goals have hw : IntKind.i64.wrap ((i : Int) + 1) = ((i + 1 : Nat) : Int) := by rw [wrap_i64 (by omega) (by omega)]; rfl
    all_goals
      have e1 : decide ((0 : Int) ≤ (i : Int)) = true := decide_eq_true (by omega)
      refine spec_of tt_ok Tryz.func44 rfl (by decide) Tryz.ntmps44 (congrArg Array.toList Tryz.results44) (by simp) (by decide) rfl rfl (fun F hF => ?_)
      refine vwp_seq_k fun Na hNa => vreg tt_ok hF rfl ?_; simp only [go_sem, Int.reduceEq, Int.reduceNe, Int.reduceLT, Int.reduceLE, Nat.reduceEqDiff, Nat.reduceAdd, Nat.reduceMul, Nat.reduceLT, Nat.reduceLeDiff, Nat.reduceSub, reduceCtorEq, reduceIte, Int.reduceToNat, beq_self_eq_true, Bool.and_self, List.take_length]
      refine hNa _ (VWp.keepR [0,2] [2] tt_ok hF rfl fun Nb hNb => ?_); simp only [go_sem, Int.reduceEq, Int.reduceNe, Int.reduceLT, Int.reduceLE, Nat.reduceEqDiff, Nat.reduceAdd, Nat.reduceMul, Nat.reduceLT, Nat.reduceLeDiff, Nat.reduceSub, reduceCtorEq, reduceIte, Int.reduceToNat, beq_self_eq_true, Bool.and_self, List.take_length]
      refine hNb _ (VWp.keepR [0,2,4] [2,4] tt_ok hF rfl fun Nc hNc => ?_); simp only [go_sem, Int.reduceEq, Int.reduceNe, Int.reduceLT, Int.reduceLE, Nat.reduceEqDiff, Nat.reduceAdd, Nat.reduceMul, Nat.reduceLT, Nat.reduceLeDiff, Nat.reduceSub, reduceCtorEq, reduceIte, Int.reduceToNat, beq_self_eq_true, Bool.and_self, List.take_length]
      refine .inr (bxo [(1000000, 4)] rfl ?_); simp only [go_sem, Int.reduceEq, Int.reduceNe, Int.reduceLT, Int.reduceLE, Nat.reduceEqDiff, Nat.reduceAdd, Nat.reduceMul, Nat.reduceLT, Nat.reduceLeDiff, Nat.reduceSub, reduceCtorEq, reduceIte, Int.reduceToNat, beq_self_eq_true, Bool.and_self, List.take_length]; refine ⟨_, _, h0, ?_⟩; try simp only [go_sem, Int.reduceEq, Int.reduceNe, Int.reduceLT, Int.reduceLE, Nat.reduceEqDiff, Nat.reduceAdd, Nat.reduceMul, Nat.reduceLT, Nat.reduceLeDiff, Nat.reduceSub, reduceCtorEq, reduceIte, Int.reduceToNat, beq_self_eq_true, Bool.and_self, List.take_length]
      refine hNc _ (VWp.keep [0,2,4] [2,4] ?_); simp only [go_sem, Int.reduceEq, Int.reduceNe, Int.reduceLT, Int.reduceLE, Nat.reduceEqDiff, Nat.reduceAdd, Nat.reduceMul, Nat.reduceLT, Nat.reduceLeDiff, Nat.reduceSub, reduceCtorEq, reduceIte, Int.reduceToNat, beq_self_eq_true, Bool.and_self, List.take_length]
      refine vwp_seq_k fun Nd hNd => vreg tt_ok hF rfl ?_; simp only [go_sem, Int.reduceEq, Int.reduceNe, Int.reduceLT, Int.reduceLE, Nat.reduceEqDiff, Nat.reduceAdd, Nat.reduceMul, Nat.reduceLT, Nat.reduceLeDiff, Nat.reduceSub, reduceCtorEq, reduceIte, Int.reduceToNat, beq_self_eq_true, Bool.and_self, List.take_length, hw]
      refine ⟨by omega, ?_⟩
      refine hNd _ (VWp.keep [0,2,4,5] [2,4,5] ?_); simp only [go_sem, Int.reduceEq, Int.reduceNe, Int.reduceLT, Int.reduceLE, Nat.reduceEqDiff, Nat.reduceAdd, Nat.reduceMul, Nat.reduceLT, Nat.reduceLeDiff, Nat.reduceSub, reduceCtorEq, reduceIte, Int.reduceToNat, beq_self_eq_true, Bool.and_self, List.take_length]
      refine vwp_seq_k fun Ne hNe => ?_
      refine vwp_seq_k fun Nf hNf => vreg tt_ok hF rfl ?_; simp only [go_sem, Int.reduceEq, Int.reduceNe, Int.reduceLT, Int.reduceLE, Nat.reduceEqDiff, Nat.reduceAdd, Nat.reduceMul, Nat.reduceLT, Nat.reduceLeDiff, Nat.reduceSub, reduceCtorEq, reduceIte, Int.reduceToNat, beq_self_eq_true, Bool.and_self, List.take_length, e1]
      refine hNf _ (VWp.keep [0,2,4,5,15] [2,4,5] ?_); simp only [go_sem, Int.reduceEq, Int.reduceNe, Int.reduceLT, Int.reduceLE, Nat.reduceEqDiff, Nat.reduceAdd, Nat.reduceMul, Nat.reduceLT, Nat.reduceLeDiff, Nat.reduceSub, reduceCtorEq, reduceIte, Int.reduceToNat, beq_self_eq_true, Bool.and_self, List.take_length]
      refine vif rfl ⟨fun ht => ?_, fun hf => (by cases hf)⟩
      refine vwp_seq_k fun Ng hNg => vreg tt_ok hF rfl ?_; simp only [go_sem, Int.reduceEq, Int.reduceNe, Int.reduceLT, Int.reduceLE, Nat.reduceEqDiff, Nat.reduceAdd, Nat.reduceMul, Nat.reduceLT, Nat.reduceLeDiff, Nat.reduceSub, reduceCtorEq, reduceIte, Int.reduceToNat, beq_self_eq_true, Bool.and_self, List.take_length]
      refine ⟨by omega, ?_⟩
      refine hNg _ (VWp.keepR [0,2,5] [2,5] tt_ok hF rfl fun Nh hNh => ?_); simp only [go_sem, Int.reduceEq, Int.reduceNe, Int.reduceLT, Int.reduceLE, Nat.reduceEqDiff, Nat.reduceAdd, Nat.reduceMul, Nat.reduceLT, Nat.reduceLeDiff, Nat.reduceSub, reduceCtorEq, reduceIte, Int.reduceToNat, beq_self_eq_true, Bool.and_self, List.take_length]
      refine .inl ⟨_, h3, ?_⟩; try simp only [go_sem, Int.reduceEq, Int.reduceNe, Int.reduceLT, Int.reduceLE, Nat.reduceEqDiff, Nat.reduceAdd, Nat.reduceMul, Nat.reduceLT, Nat.reduceLeDiff, Nat.reduceSub, reduceCtorEq, reduceIte, Int.reduceToNat, beq_self_eq_true, Bool.and_self, List.take_length]
      refine hNh _ (VWp.keep [2,5,25] [2,5] ?_); simp only [go_sem, Int.reduceEq, Int.reduceNe, Int.reduceLT, Int.reduceLE, Nat.reduceEqDiff, Nat.reduceAdd, Nat.reduceMul, Nat.reduceLT, Nat.reduceLeDiff, Nat.reduceSub, reduceCtorEq, reduceIte, Int.reduceToNat, beq_self_eq_true, Bool.and_self, List.take_length]
    · refine vif rfl ⟨fun ht => ?_, fun hf => (by cases hf)⟩
      refine vwp_seq_k fun Ni hNi => vreg tt_ok hF rfl ?_; simp only [go_sem, Int.reduceEq, Int.reduceNe, Int.reduceLT, Int.reduceLE, Nat.reduceEqDiff, Nat.reduceAdd, Nat.reduceMul, Nat.reduceLT, Nat.reduceLeDiff, Nat.reduceSub, reduceCtorEq, reduceIte, Int.reduceToNat, beq_self_eq_true, Bool.and_self, List.take_length]
      refine hNi _ (VWp.keep [2,3] [2] ?_); simp only [go_sem, Int.reduceEq, Int.reduceNe, Int.reduceLT, Int.reduceLE, Nat.reduceEqDiff, Nat.reduceAdd, Nat.reduceMul, Nat.reduceLT, Nat.reduceLeDiff, Nat.reduceSub, reduceCtorEq, reduceIte, Int.reduceToNat, beq_self_eq_true, Bool.and_self, List.take_length]
      refine vwp_ret ?_
      simp only [go_sem, Int.reduceEq, Int.reduceNe, Int.reduceLT, Int.reduceLE, Nat.reduceEqDiff, Nat.reduceAdd, Nat.reduceMul, Nat.reduceLT, Nat.reduceLeDiff, Nat.reduceSub, reduceCtorEq, reduceIte, Int.reduceToNat, beq_self_eq_true, Bool.and_self, List.take_length]
      exact LeV.tup ⟨LeV.agg ⟨LeV.refl _, LeV.refl _, LeV.nil 1, trivial⟩, LeV.refl _, trivial⟩
    · refine vif rfl ⟨fun ht => (by cases ht), fun hf => ?_⟩
      refine vwp_skip ?_
      refine hNe _ (VWp.keepR [2,5] [2,5] tt_ok hF rfl fun Nj hNj => ?_); simp only [go_sem, Int.reduceEq, Int.reduceNe, Int.reduceLT, Int.reduceLE, Nat.reduceEqDiff, Nat.reduceAdd, Nat.reduceMul, Nat.reduceLT, Nat.reduceLeDiff, Nat.reduceSub, reduceCtorEq, reduceIte, Int.reduceToNat, beq_self_eq_true, Bool.and_self, List.take_length]
      refine .inl ⟨_, h1, ?_⟩; try simp only [go_sem, Int.reduceEq, Int.reduceNe, Int.reduceLT, Int.reduceLE, Nat.reduceEqDiff, Nat.reduceAdd, Nat.reduceMul, Nat.reduceLT, Nat.reduceLeDiff, Nat.reduceSub, reduceCtorEq, reduceIte, Int.reduceToNat, beq_self_eq_true, Bool.and_self, List.take_length]
      refine hNj _ (VWp.keep [2,5] [2,5] ?_); simp only [go_sem, Int.reduceEq, Int.reduceNe, Int.reduceLT, Int.reduceLE, Nat.reduceEqDiff, Nat.reduceAdd, Nat.reduceMul, Nat.reduceLT, Nat.reduceLeDiff, Nat.reduceSub, reduceCtorEq, reduceIte, Int.reduceToNat, beq_self_eq_true, Bool.and_self, List.take_length]
      refine vwp_seq_k fun Nk hNk => vregd tt_ok mixed hF rfl (by kernel_rfl) (by kernel_rfl) ?_; simp only [go_sem, Int.reduceEq, Int.reduceNe, Int.reduceLT, Int.reduceLE, Nat.reduceEqDiff, Nat.reduceAdd, Nat.reduceMul, Nat.reduceLT, Nat.reduceLeDiff, Nat.reduceSub, reduceCtorEq, reduceIte, Int.reduceToNat, beq_self_eq_true, Bool.and_self, List.take_length]
      refine .inl ⟨_, h2, ?_⟩; try simp only [go_sem, Int.reduceEq, Int.reduceNe, Int.reduceLT, Int.reduceLE, Nat.reduceEqDiff, Nat.reduceAdd, Nat.reduceMul, Nat.reduceLT, Nat.reduceLeDiff, Nat.reduceSub, reduceCtorEq, reduceIte, Int.reduceToNat, beq_self_eq_true, Bool.and_self, List.take_length]
      refine hNk _ (VWp.keep [2,3] [2] ?_); simp only [go_sem, Int.reduceEq, Int.reduceNe, Int.reduceLT, Int.reduceLE, Nat.reduceEqDiff, Nat.reduceAdd, Nat.reduceMul, Nat.reduceLT, Nat.reduceLeDiff, Nat.reduceSub, reduceCtorEq, reduceIte, Int.reduceToNat, beq_self_eq_true, Bool.and_self, List.take_length]
      refine vwp_ret ?_
      simp only [go_sem, Int.reduceEq, Int.reduceNe, Int.reduceLT, Int.reduceLE, Nat.reduceEqDiff, Nat.reduceAdd, Nat.reduceMul, Nat.reduceLT, Nat.reduceLeDiff, Nat.reduceSub, reduceCtorEq, reduceIte, Int.reduceToNat, beq_self_eq_true, Bool.and_self, List.take_length]
      exact LeV.of_eq (by simp [prmV, prmC, strsV])
theorem parse_ok (s : Jb) : (∃ p, parseJ s = some p ∧ parseR s = .tup [prmV p, .bool true]) ∨ (parseJ s = none ∧ ∃ p, parseR s = .tup [prmV p, .bool false]) := by
  unfold parseJ parseR
  cases eqJ s with
  | none =>
    simp only [Bool.true_and]
    cases hv : valueJ s
    · exact .inr ⟨by simp, _, rfl⟩
    · exact .inl ⟨_, by simp, rfl⟩
  | some i =>
    simp only
    cases hk : keyJ (s.take i)
    · exact .inr ⟨by simp, _, rfl⟩
    · cases hv : valueJ (s.drop (i + 1))
      · exact .inr ⟨by simp, _, rfl⟩
      · exact .inl ⟨⟨s.take i, s.drop (i + 1), (partsJ (s.drop (i + 1))).getD []⟩, by simp, rfl⟩
end Go.Proofs.YtnaljgmcpagbbaaGreatDoor
