import Derived.Outline
import Derived.Test.YtnaljgmcpagbbaaGreatDoorJP2
/- Layer 34: values, parts, operations. -/
-- SIMP: beq_self_eq_true, Bool.and_self
namespace Go.Proofs.YtnaljgmcpagbbaaGreatDoor
open Go.RowKit
set_option linter.unusedVariables false
set_option linter.unusedSimpArgs false
theorem inteq (d k : Int) : decide (d = k) = (d == k) := by by_cases h : d = k <;> simp [h]
def valF (σ : Bool) (v : Nat × UInt8 × Int) : Bool := σ && !(v.2.1 == 32 || (v.2.1 == 44 && v.2.2 == 0))
theorem valF_fold : ∀ (l : List (Nat × UInt8 × Int)) (b : Bool), l.foldl valF b = (b && l.all (fun v => !(v.2.1 == 32 || (v.2.1 == 44 && v.2.2 == 0))))
  | [], b => by simp
  | v :: l, b => by rw [List.foldl_cons, valF_fold l, List.all_cons]; unfold valF; rw [Bool.and_assoc]
set_option maxHeartbeats 8000000 in
set_option maxRecDepth 4000 in
theorem isValue1_B (σ : Bool) (i : Nat) (c : UInt8) (d : Int) : SpecB Tryz.prog 58 [.int .i64 (i : Int), .int .u8 ((c.toNat : Nat) : Int), .int .i64 d, .ptr 1000000 0] [(1000000, .box 4 [.bool σ])] (.tup []) [(1000000, .box 4 [.bool (valF σ (i, c, d))])] := by
  have e1 : decide (((c.toNat : Nat) : Int) = (32 : Int)) = (c == 32) := u8eq 32 c
  have e2 : decide (((c.toNat : Nat) : Int) = (44 : Int)) = (c == 44) := u8eq 44 c
  have e3 := inteq d 0
  have hf : valF σ (i, c, d) = (σ && !(c == 32 || (c == 44 && d == 0))) := rfl
  rw [hf]
  generalize (c == 32) = b1 at e1
  generalize (c == 44) = b2 at e2
  generalize (d == 0) = b3 at e3
  refine specB_of tt_ok Tryz.func58 rfl (by decide) Tryz.ntmps58 (congrArg Array.toList Tryz.results58) (by simp) (by decide) rfl (by simp only [go_sem, Int.reduceEq, Int.reduceNe, Int.reduceLT, Int.reduceLE, Nat.reduceEqDiff, Nat.reduceAdd, Nat.reduceMul, Nat.reduceLT, Nat.reduceLeDiff, Nat.reduceSub, reduceCtorEq, reduceIte, Int.reduceToNat, beq_self_eq_true, Bool.and_self]) (fun F hF => ?_)
  refine vmeet (fun z : Bool => [(3, .ptr 1000000 0), (16, .bool z)]) (fun _ => [(1000000, .box 4 [.bool σ])]) (fun z => z = (b1 || (b2 && b3))) ?_ ?_
  · cases b1 <;> cases b2 <;> cases b3
    all_goals
      refine vreg tt_ok hF rfl ?_; simp only [go_sem, Int.reduceEq, Int.reduceNe, Int.reduceLT, Int.reduceLE, Nat.reduceEqDiff, Nat.reduceAdd, Nat.reduceMul, Nat.reduceLT, Nat.reduceLeDiff, Nat.reduceSub, reduceCtorEq, reduceIte, Int.reduceToNat, beq_self_eq_true, Bool.and_self, e1, e2, e3]
      exact ⟨_, rfl, by simp⟩
  intro z hz
  refine vif rfl ⟨fun ht => ?_, fun hf => ?_⟩
  · rw [ht] at hz
    rw [← hz]
    refine vreg tt_ok hF rfl ?_; simp only [go_sem, Int.reduceEq, Int.reduceNe, Int.reduceLT, Int.reduceLE, Nat.reduceEqDiff, Nat.reduceAdd, Nat.reduceMul, Nat.reduceLT, Nat.reduceLeDiff, Nat.reduceSub, reduceCtorEq, reduceIte, Int.reduceToNat, beq_self_eq_true, Bool.and_self]
    first | exact LeV.refl _ | exact ⟨LeV.refl _, by simp⟩
  · rw [hf] at hz
    rw [← hz]
    refine vwp_skip ?_
    simp only [go_sem, Int.reduceEq, Int.reduceNe, Int.reduceLT, Int.reduceLE, Nat.reduceEqDiff, Nat.reduceAdd, Nat.reduceMul, Nat.reduceLT, Nat.reduceLeDiff, Nat.reduceSub, reduceCtorEq, reduceIte, Int.reduceToNat, beq_self_eq_true, Bool.and_self]
    first | exact LeV.refl _ | exact ⟨LeV.refl _, by simp⟩
theorem balJ_b (s : Jb) (hs : s.length ≤ 1000000000) (b : Bool) : SpecB Tryz.prog 39 [.str s, .fn (.func 58) [.ptr 1000000 0]] [(1000000, .box 4 [.bool b])] (.bool (balJ s)) [(1000000, .box 4 [.bool ((visJ s).foldl valF b)])] :=
  walk_b _ valF (fun _ _ => True) s hs b trivial (fun _ _ _ => trivial) (fun _ _ _ _ _ => trivial) (fun σ i c d _ _ _ _ => isValue1_B σ i c d)
set_option maxHeartbeats 8000000 in
set_option maxRecDepth 4000 in
theorem isValue_spec (s : Jb) (hs : s.length ≤ 1000000000) : Spec Tryz.prog 41 [.str s] (.bool (valueJ s)) := by
  have h1 := isText_spec s hs
  have h2 := balJ_b s hs (textJ s)
  have hv : valueJ s = ((visJ s).foldl valF (textJ s) && balJ s) := by rw [valF_fold]; rfl
  rw [hv]
  generalize (visJ s).foldl valF (textJ s) = g at h2
  generalize textJ s = t at h1 h2
  generalize balJ s = b at h2
  refine spec_of tt_ok Tryz.func41 rfl (by decide) Tryz.ntmps41 (congrArg Array.toList Tryz.results41) (by simp) (by decide) rfl rfl (fun F hF => ?_)
  refine vwp_seq_k fun Na hNa => vreg tt_ok hF rfl ?_; simp only [go_sem, Int.reduceEq, Int.reduceNe, Int.reduceLT, Int.reduceLE, Nat.reduceEqDiff, Nat.reduceAdd, Nat.reduceMul, Nat.reduceLT, Nat.reduceLeDiff, Nat.reduceSub, reduceCtorEq, reduceIte, Int.reduceToNat, beq_self_eq_true, Bool.and_self]
  refine hNa _ (VWp.keepR [0] [] tt_ok hF rfl fun Nb hNb => ?_); simp only [go_sem, Int.reduceEq, Int.reduceNe, Int.reduceLT, Int.reduceLE, Nat.reduceEqDiff, Nat.reduceAdd, Nat.reduceMul, Nat.reduceLT, Nat.reduceLeDiff, Nat.reduceSub, reduceCtorEq, reduceIte, Int.reduceToNat, beq_self_eq_true, Bool.and_self]
  refine .inl ⟨_, h1, ?_⟩; try simp only [go_sem, Int.reduceEq, Int.reduceNe, Int.reduceLT, Int.reduceLE, Nat.reduceEqDiff, Nat.reduceAdd, Nat.reduceMul, Nat.reduceLT, Nat.reduceLeDiff, Nat.reduceSub, reduceCtorEq, reduceIte, Int.reduceToNat, beq_self_eq_true, Bool.and_self]
  refine hNb _ (VWp.keepR [0,3] [3] tt_ok hF rfl fun Nc hNc => ?_); simp only [go_sem, Int.reduceEq, Int.reduceNe, Int.reduceLT, Int.reduceLE, Nat.reduceEqDiff, Nat.reduceAdd, Nat.reduceMul, Nat.reduceLT, Nat.reduceLeDiff, Nat.reduceSub, reduceCtorEq, reduceIte, Int.reduceToNat, beq_self_eq_true, Bool.and_self]
  refine .inr (bxo [(1000000, 3)] rfl ?_); simp only [go_sem, Int.reduceEq, Int.reduceNe, Int.reduceLT, Int.reduceLE, Nat.reduceEqDiff, Nat.reduceAdd, Nat.reduceMul, Nat.reduceLT, Nat.reduceLeDiff, Nat.reduceSub, reduceCtorEq, reduceIte, Int.reduceToNat, beq_self_eq_true, Bool.and_self]; refine ⟨_, _, h2, ?_⟩; try simp only [go_sem, Int.reduceEq, Int.reduceNe, Int.reduceLT, Int.reduceLE, Nat.reduceEqDiff, Nat.reduceAdd, Nat.reduceMul, Nat.reduceLT, Nat.reduceLeDiff, Nat.reduceSub, reduceCtorEq, reduceIte, Int.reduceToNat, beq_self_eq_true, Bool.and_self]
  refine hNc _ (VWp.keep [3,4] [3] ?_); simp only [go_sem, Int.reduceEq, Int.reduceNe, Int.reduceLT, Int.reduceLE, Nat.reduceEqDiff, Nat.reduceAdd, Nat.reduceMul, Nat.reduceLT, Nat.reduceLeDiff, Nat.reduceSub, reduceCtorEq, reduceIte, Int.reduceToNat, beq_self_eq_true, Bool.and_self]
  cases g
  all_goals
    refine vwp_seq_k fun Nd hNd => vreg tt_ok hF rfl ?_; simp only [go_sem, Int.reduceEq, Int.reduceNe, Int.reduceLT, Int.reduceLE, Nat.reduceEqDiff, Nat.reduceAdd, Nat.reduceMul, Nat.reduceLT, Nat.reduceLeDiff, Nat.reduceSub, reduceCtorEq, reduceIte, Int.reduceToNat, beq_self_eq_true, Bool.and_self]
    refine hNd _ (VWp.keep [2] [] ?_); simp only [go_sem, Int.reduceEq, Int.reduceNe, Int.reduceLT, Int.reduceLE, Nat.reduceEqDiff, Nat.reduceAdd, Nat.reduceMul, Nat.reduceLT, Nat.reduceLeDiff, Nat.reduceSub, reduceCtorEq, reduceIte, Int.reduceToNat, beq_self_eq_true, Bool.and_self]
    refine vwp_ret ?_
    simp only [go_sem, Int.reduceEq, Int.reduceNe, Int.reduceLT, Int.reduceLE, Nat.reduceEqDiff, Nat.reduceAdd, Nat.reduceMul, Nat.reduceLT, Nat.reduceLeDiff, Nat.reduceSub, reduceCtorEq, reduceIte, Int.reduceToNat, beq_self_eq_true, Bool.and_self]
    exact LeV.of_eq (by simp)
def splF (s : Jb) (σ : List Jb × Nat) (v : Nat × UInt8 × Int) : List Jb × Nat := if v.2.1 == 44 && v.2.2 == 0 then (σ.1 ++ [(s.take v.1).drop σ.2], v.1 + 1) else σ
theorem splF_fold (s : Jb) : ∀ (l : List (Nat × UInt8 × Int)) (σ : List Jb × Nat), (l.foldl (splF s) σ).1 ++ [s.drop (l.foldl (splF s) σ).2] = σ.1 ++ cutJ s σ.2 ((l.filter fun v => v.2.1 == 44 && v.2.2 == 0).map (·.1))
  | [], σ => rfl
  | v :: l, σ => by
    rw [List.foldl_cons, splF_fold s l]
    unfold splF
    split
    · rename_i h; simp only [List.filter_cons]; rw [if_pos h, List.map_cons, cutJ]; simp
    · rename_i h; simp only [List.filter_cons]; rw [if_neg h]
def spO (σ : List Jb × Nat) (S : Jb) : List (Nat × Ob) := [(1000000, .box 25 [.own 1000003 σ.1.length]), (1000001, .box 9 [.str S]), (1000002, .box 3 [.int .i64 (σ.2 : Int)]), (1000003, .arr 1 9 (σ.1.map fun w => [V.str w]))]
set_option maxHeartbeats 8000000 in
set_option maxRecDepth 4000 in
theorem split1_B (s : Jb) (hs : s.length ≤ 1000000000) (σ : List Jb × Nat) (i : Nat) (c : UInt8) (d : Int) (hi : i < s.length) (hσ : σ.2 ≤ i ∧ σ.1.length ≤ i) :
    SpecB Tryz.prog 77 [.int .i64 (i : Int), .int .u8 ((c.toNat : Nat) : Int), .int .i64 d, .ptr 1000000 0, .ptr 1000001 0, .ptr 1000002 0] (spO σ s) (.tup []) (spO (splF s σ (i, c, d)) s) := by
  have e2 : decide (((c.toNat : Nat) : Int) = (44 : Int)) = (c == 44) := u8eq 44 c
  have e3 := inteq d 0
  obtain ⟨out, fr⟩ := σ
  obtain ⟨q1, q2⟩ := hσ
  have q1 : fr ≤ i := q1
  have q2 : out.length ≤ i := q2
  have hf : splF s (out, fr) (i, c, d) = if (c == 44 && d == 0) then (out ++ [(s.take i).drop fr], i + 1) else (out, fr) := rfl
  rw [hf]
  generalize (c == 44) = b2 at e2
  generalize (d == 0) = b3 at e3
  simp only [spO]
  refine specB_of tt_ok Tryz.func77 rfl (by decide) Tryz.ntmps77 (congrArg Array.toList Tryz.results77) (by simp) (by decide) rfl (by simp only [go_sem, Int.reduceEq, Int.reduceNe, Int.reduceLT, Int.reduceLE, Nat.reduceEqDiff, Nat.reduceAdd, Nat.reduceMul, Nat.reduceLT, Nat.reduceLeDiff, Nat.reduceSub, reduceCtorEq, reduceIte, Int.reduceToNat, beq_self_eq_true, Bool.and_self]) (fun F hF => ?_)
  refine vmeet (fun z : Bool => [(0, .int .i64 (i : Int)), (3, .ptr 1000000 0), (4, .ptr 1000001 0), (5, .ptr 1000002 0), (14, .bool z)]) (fun _ => spO (out, fr) s) (fun z => z = (b2 && b3)) ?_ ?_
  · simp only [spO]
    cases b2 <;> cases b3
    all_goals
      refine vreg tt_ok hF rfl ?_; simp only [go_sem, Int.reduceEq, Int.reduceNe, Int.reduceLT, Int.reduceLE, Nat.reduceEqDiff, Nat.reduceAdd, Nat.reduceMul, Nat.reduceLT, Nat.reduceLeDiff, Nat.reduceSub, reduceCtorEq, reduceIte, Int.reduceToNat, beq_self_eq_true, Bool.and_self, e2, e3]
      exact ⟨_, rfl, by simp⟩
  intro z hz
  simp only [spO]
  refine vif rfl ⟨fun ht => ?_, fun hf => ?_⟩
  · rw [ht] at hz
    rw [← hz, if_pos rfl]
    refine vwp_seq_k fun Nb hNb => vregd tt_ok mixed hF rfl (by kernel_rfl) (by kernel_rfl) ?_; simp only [go_sem, Int.reduceEq, Int.reduceNe, Int.reduceLT, Int.reduceLE, Nat.reduceEqDiff, Nat.reduceAdd, Nat.reduceMul, Nat.reduceLT, Nat.reduceLeDiff, Nat.reduceSub, reduceCtorEq, reduceIte, Int.reduceToNat, beq_self_eq_true, Bool.and_self]
    refine ⟨⟨by omega, by omega, by omega⟩, by omega, ?_⟩
    refine hNb _ (VWp.keep [0,5] [1000000,1000001,1000002,1000003] ?_); simp only [go_sem, Int.reduceEq, Int.reduceNe, Int.reduceLT, Int.reduceLE, Nat.reduceEqDiff, Nat.reduceAdd, Nat.reduceMul, Nat.reduceLT, Nat.reduceLeDiff, Nat.reduceSub, reduceCtorEq, reduceIte, Int.reduceToNat, beq_self_eq_true, Bool.and_self]
    refine vreg tt_ok hF rfl ?_; simp only [go_sem, Int.reduceEq, Int.reduceNe, Int.reduceLT, Int.reduceLE, Nat.reduceEqDiff, Nat.reduceAdd, Nat.reduceMul, Nat.reduceLT, Nat.reduceLeDiff, Nat.reduceSub, reduceCtorEq, reduceIte, Int.reduceToNat, beq_self_eq_true, Bool.and_self]
    rw [wrap_i64 (by omega) (by omega)]
    first | exact LeV.refl _ | exact ⟨LeV.refl _, by simp⟩
  · rw [hf] at hz
    rw [← hz, if_neg (by decide)]
    refine vwp_skip ?_
    simp only [go_sem, Int.reduceEq, Int.reduceNe, Int.reduceLT, Int.reduceLE, Nat.reduceEqDiff, Nat.reduceAdd, Nat.reduceMul, Nat.reduceLT, Nat.reduceLeDiff, Nat.reduceSub, reduceCtorEq, reduceIte, Int.reduceToNat, beq_self_eq_true, Bool.and_self]
    first | exact LeV.refl _ | exact ⟨LeV.refl _, by simp⟩
set_option maxHeartbeats 8000000 in
set_option maxRecDepth 4000 in
theorem isOp_spec (s : Jb) : Spec Tryz.prog 25 [.str s] (.bool (opJ s)) := by
  have ee : ∀ w : Jb, decide (s = w) = (s == w) := fun w => by by_cases h : s = w <;> simp [h]
  have e1 := ee [74, 79, 66]
  have e2 := ee [69, 88, 69, 67]
  have e3 := ee [68, 68]
  have e4 := ee [80, 82, 79, 67]
  have e5 := ee [80, 69, 78, 68]
  have ho : opJ s = (s == [74, 79, 66] || s == [69, 88, 69, 67] || s == [68, 68] || s == [80, 82, 79, 67] || s == [80, 69, 78, 68]) := rfl
  rw [ho]
  generalize (s == [74, 79, 66]) = b1 at e1
  generalize (s == [69, 88, 69, 67]) = b2 at e2
  generalize (s == [68, 68]) = b3 at e3
  generalize (s == [80, 82, 79, 67]) = b4 at e4
  generalize (s == [80, 69, 78, 68]) = b5 at e5
  refine spec_of tt_ok Tryz.func25 rfl (by decide) Tryz.ntmps25 (congrArg Array.toList Tryz.results25) (by simp) (by decide) rfl rfl (fun F hF => ?_)
  refine vwp_seq_k fun Na hNa => vreg tt_ok hF rfl ?_; simp only [go_sem, Int.reduceEq, Int.reduceNe, Int.reduceLT, Int.reduceLE, Nat.reduceEqDiff, Nat.reduceAdd, Nat.reduceMul, Nat.reduceLT, Nat.reduceLeDiff, Nat.reduceSub, reduceCtorEq, reduceIte, Int.reduceToNat, beq_self_eq_true, Bool.and_self]
  refine hNa _ (VWp.keep [0] [] ?_); simp only [go_sem, Int.reduceEq, Int.reduceNe, Int.reduceLT, Int.reduceLE, Nat.reduceEqDiff, Nat.reduceAdd, Nat.reduceMul, Nat.reduceLT, Nat.reduceLeDiff, Nat.reduceSub, reduceCtorEq, reduceIte, Int.reduceToNat, beq_self_eq_true, Bool.and_self]
  refine vwp_seq_k fun Nb hNb => ?_
  refine vwp_seq_k fun Nc hNc => vreg tt_ok hF rfl ?_; simp only [go_sem, Int.reduceEq, Int.reduceNe, Int.reduceLT, Int.reduceLE, Nat.reduceEqDiff, Nat.reduceAdd, Nat.reduceMul, Nat.reduceLT, Nat.reduceLeDiff, Nat.reduceSub, reduceCtorEq, reduceIte, Int.reduceToNat, beq_self_eq_true, Bool.and_self]
  refine hNc _ (VWp.keep [3] [] ?_); simp only [go_sem, Int.reduceEq, Int.reduceNe, Int.reduceLT, Int.reduceLE, Nat.reduceEqDiff, Nat.reduceAdd, Nat.reduceMul, Nat.reduceLT, Nat.reduceLeDiff, Nat.reduceSub, reduceCtorEq, reduceIte, Int.reduceToNat, beq_self_eq_true, Bool.and_self]
  refine vwp_block ?_
  refine vmeet (fun z : Bool => [(4, .bool z)]) (fun _ => []) (fun z => z = (b1 || b2 || b3 || b4 || b5)) ?_ ?_
  · refine vwp_seq_k fun Ne hNe => vreg tt_ok hF rfl ?_; simp only [go_sem, Int.reduceEq, Int.reduceNe, Int.reduceLT, Int.reduceLE, Nat.reduceEqDiff, Nat.reduceAdd, Nat.reduceMul, Nat.reduceLT, Nat.reduceLeDiff, Nat.reduceSub, reduceCtorEq, reduceIte, Int.reduceToNat, beq_self_eq_true, Bool.and_self, e1]
    refine hNe _ (VWp.keep [3,4] [] ?_); simp only [go_sem, Int.reduceEq, Int.reduceNe, Int.reduceLT, Int.reduceLE, Nat.reduceEqDiff, Nat.reduceAdd, Nat.reduceMul, Nat.reduceLT, Nat.reduceLeDiff, Nat.reduceSub, reduceCtorEq, reduceIte, Int.reduceToNat, beq_self_eq_true, Bool.and_self]
    refine vif rfl ⟨fun ht => ?_, fun hf => ?_⟩
    · refine vwp_skip ?_
      simp only [go_sem, Int.reduceEq, Int.reduceNe, Int.reduceLT, Int.reduceLE, Nat.reduceEqDiff, Nat.reduceAdd, Nat.reduceMul, Nat.reduceLT, Nat.reduceLeDiff, Nat.reduceSub, reduceCtorEq, reduceIte, Int.reduceToNat, beq_self_eq_true, Bool.and_self]
      exact ⟨b1, by rw [ht]; rfl, rfl⟩
    · refine vwp_seq_k fun Nh hNh => vreg tt_ok hF rfl ?_; simp only [go_sem, Int.reduceEq, Int.reduceNe, Int.reduceLT, Int.reduceLE, Nat.reduceEqDiff, Nat.reduceAdd, Nat.reduceMul, Nat.reduceLT, Nat.reduceLeDiff, Nat.reduceSub, reduceCtorEq, reduceIte, Int.reduceToNat, beq_self_eq_true, Bool.and_self, e2]
      refine hNh _ (VWp.keep [3,4] [] ?_); simp only [go_sem, Int.reduceEq, Int.reduceNe, Int.reduceLT, Int.reduceLE, Nat.reduceEqDiff, Nat.reduceAdd, Nat.reduceMul, Nat.reduceLT, Nat.reduceLeDiff, Nat.reduceSub, reduceCtorEq, reduceIte, Int.reduceToNat, beq_self_eq_true, Bool.and_self]
      refine vif rfl ⟨fun ht => ?_, fun hf => ?_⟩
      · refine vwp_skip ?_
        simp only [go_sem, Int.reduceEq, Int.reduceNe, Int.reduceLT, Int.reduceLE, Nat.reduceEqDiff, Nat.reduceAdd, Nat.reduceMul, Nat.reduceLT, Nat.reduceLeDiff, Nat.reduceSub, reduceCtorEq, reduceIte, Int.reduceToNat, beq_self_eq_true, Bool.and_self]
        exact ⟨b2, by rw [ht]; simp, rfl⟩
      · refine vwp_seq_k fun Ni hNi => vreg tt_ok hF rfl ?_; simp only [go_sem, Int.reduceEq, Int.reduceNe, Int.reduceLT, Int.reduceLE, Nat.reduceEqDiff, Nat.reduceAdd, Nat.reduceMul, Nat.reduceLT, Nat.reduceLeDiff, Nat.reduceSub, reduceCtorEq, reduceIte, Int.reduceToNat, beq_self_eq_true, Bool.and_self, e3]
        refine hNi _ (VWp.keep [3,4] [] ?_); simp only [go_sem, Int.reduceEq, Int.reduceNe, Int.reduceLT, Int.reduceLE, Nat.reduceEqDiff, Nat.reduceAdd, Nat.reduceMul, Nat.reduceLT, Nat.reduceLeDiff, Nat.reduceSub, reduceCtorEq, reduceIte, Int.reduceToNat, beq_self_eq_true, Bool.and_self]
        refine vif rfl ⟨fun ht => ?_, fun hf => ?_⟩
        · refine vwp_skip ?_
          simp only [go_sem, Int.reduceEq, Int.reduceNe, Int.reduceLT, Int.reduceLE, Nat.reduceEqDiff, Nat.reduceAdd, Nat.reduceMul, Nat.reduceLT, Nat.reduceLeDiff, Nat.reduceSub, reduceCtorEq, reduceIte, Int.reduceToNat, beq_self_eq_true, Bool.and_self]
          exact ⟨b3, by rw [ht]; simp, rfl⟩
        · refine vwp_seq_k fun Nj hNj => vreg tt_ok hF rfl ?_; simp only [go_sem, Int.reduceEq, Int.reduceNe, Int.reduceLT, Int.reduceLE, Nat.reduceEqDiff, Nat.reduceAdd, Nat.reduceMul, Nat.reduceLT, Nat.reduceLeDiff, Nat.reduceSub, reduceCtorEq, reduceIte, Int.reduceToNat, beq_self_eq_true, Bool.and_self, e4]
          refine hNj _ (VWp.keep [3,4] [] ?_); simp only [go_sem, Int.reduceEq, Int.reduceNe, Int.reduceLT, Int.reduceLE, Nat.reduceEqDiff, Nat.reduceAdd, Nat.reduceMul, Nat.reduceLT, Nat.reduceLeDiff, Nat.reduceSub, reduceCtorEq, reduceIte, Int.reduceToNat, beq_self_eq_true, Bool.and_self]
          refine vif rfl ⟨fun ht => ?_, fun hf => ?_⟩
          · refine vwp_skip ?_
            simp only [go_sem, Int.reduceEq, Int.reduceNe, Int.reduceLT, Int.reduceLE, Nat.reduceEqDiff, Nat.reduceAdd, Nat.reduceMul, Nat.reduceLT, Nat.reduceLeDiff, Nat.reduceSub, reduceCtorEq, reduceIte, Int.reduceToNat, beq_self_eq_true, Bool.and_self]
            exact ⟨b4, by rw [ht]; simp, rfl⟩
          · refine vreg tt_ok hF rfl ?_; simp only [go_sem, Int.reduceEq, Int.reduceNe, Int.reduceLT, Int.reduceLE, Nat.reduceEqDiff, Nat.reduceAdd, Nat.reduceMul, Nat.reduceLT, Nat.reduceLeDiff, Nat.reduceSub, reduceCtorEq, reduceIte, Int.reduceToNat, beq_self_eq_true, Bool.and_self, e5]
            exact ⟨b5, by simp_all, rfl⟩
  intro z hz
  refine vif rfl ⟨fun ht => ?_, fun hf => ?_⟩
  · refine vwp_seq_k fun Nf hNf => vreg tt_ok hF rfl ?_; simp only [go_sem, Int.reduceEq, Int.reduceNe, Int.reduceLT, Int.reduceLE, Nat.reduceEqDiff, Nat.reduceAdd, Nat.reduceMul, Nat.reduceLT, Nat.reduceLeDiff, Nat.reduceSub, reduceCtorEq, reduceIte, Int.reduceToNat, beq_self_eq_true, Bool.and_self]
    refine hNf _ (VWp.keep [2] [] ?_); simp only [go_sem, Int.reduceEq, Int.reduceNe, Int.reduceLT, Int.reduceLE, Nat.reduceEqDiff, Nat.reduceAdd, Nat.reduceMul, Nat.reduceLT, Nat.reduceLeDiff, Nat.reduceSub, reduceCtorEq, reduceIte, Int.reduceToNat, beq_self_eq_true, Bool.and_self]
    refine vwp_ret ?_
    simp only [go_sem, Int.reduceEq, Int.reduceNe, Int.reduceLT, Int.reduceLE, Nat.reduceEqDiff, Nat.reduceAdd, Nat.reduceMul, Nat.reduceLT, Nat.reduceLeDiff, Nat.reduceSub, reduceCtorEq, reduceIte, Int.reduceToNat, beq_self_eq_true, Bool.and_self]
    rw [← hz, ht]
    exact LeV.refl _
  · refine vwp_skip ?_
    simp only [go_sem, Int.reduceEq, Int.reduceNe, Int.reduceLT, Int.reduceLE, Nat.reduceEqDiff, Nat.reduceAdd, Nat.reduceMul, Nat.reduceLT, Nat.reduceLeDiff, Nat.reduceSub, reduceCtorEq, reduceIte, Int.reduceToNat, beq_self_eq_true, Bool.and_self]
    refine hNb _ (VWp.keepR [] [] tt_ok hF rfl fun Ng hNg => ?_); simp only [go_sem, Int.reduceEq, Int.reduceNe, Int.reduceLT, Int.reduceLE, Nat.reduceEqDiff, Nat.reduceAdd, Nat.reduceMul, Nat.reduceLT, Nat.reduceLeDiff, Nat.reduceSub, reduceCtorEq, reduceIte, Int.reduceToNat, beq_self_eq_true, Bool.and_self]
    refine hNg _ (VWp.keep [2] [] ?_); simp only [go_sem, Int.reduceEq, Int.reduceNe, Int.reduceLT, Int.reduceLE, Nat.reduceEqDiff, Nat.reduceAdd, Nat.reduceMul, Nat.reduceLT, Nat.reduceLeDiff, Nat.reduceSub, reduceCtorEq, reduceIte, Int.reduceToNat, beq_self_eq_true, Bool.and_self]
    refine vwp_ret ?_
    simp only [go_sem, Int.reduceEq, Int.reduceNe, Int.reduceLT, Int.reduceLE, Nat.reduceEqDiff, Nat.reduceAdd, Nat.reduceMul, Nat.reduceLT, Nat.reduceLeDiff, Nat.reduceSub, reduceCtorEq, reduceIte, Int.reduceToNat, beq_self_eq_true, Bool.and_self]
    rw [← hz, hf]
    exact LeV.refl _
theorem splF_inv (s : Jb) : ∀ (σ : List Jb × Nat) (i : Nat) (c : UInt8) (d : Int), (σ.2 ≤ i ∧ σ.1.length ≤ i) → ((splF s σ (i, c, d)).2 ≤ i + 1 ∧ (splF s σ (i, c, d)).1.length ≤ i + 1) := fun σ i c d h => by
  unfold splF
  split
  · exact ⟨Nat.le_refl _, by simp; omega⟩
  · exact ⟨by omega, by omega⟩
theorem balJ_s (s : Jb) (hs : s.length ≤ 1000000000) : SpecB Tryz.prog 39 [.str s, .fn (.func 77) [.ptr 1000000 0, .ptr 1000001 0, .ptr 1000002 0]] (spO ([], 0) s) (.bool (balJ s)) (spO ((visJ s).foldl (splF s) ([], 0)) s) :=
  walk_s s _ (splF s) (fun σ i => σ.2 ≤ i ∧ σ.1.length ≤ i) s hs ([], 0) ⟨Nat.le_refl _, Nat.le_refl _⟩ (fun _ _ h => ⟨by omega, by omega⟩) (fun σ i c d h => splF_inv s σ i c d h) (fun σ i c d h1 _ _ h => split1_B s hs σ i c d h1 h)
theorem walkJ_lt : ∀ (t : Jb) (i : Nat) (d : Int) (q : Bool), ∀ v ∈ (walkJ t i d q).1, i ≤ v.1 ∧ v.1 < i + t.length
  | [], i, d, q, v, h => by cases h
  | c :: t, i, d, q, v, h => by
    rw [walkJ_step] at h
    rw [List.length_cons]
    split at h
    · have := walkJ_lt t _ _ _ v h; omega
    · split at h
      · have := walkJ_lt t _ _ _ v h; omega
      · split at h
        · cases h
        · rcases List.mem_cons.1 h with rfl | h
          · exact ⟨Nat.le_refl _, by simp only; omega⟩
          · have := walkJ_lt t _ _ _ v h; omega
theorem walkJ_cnt : ∀ (t : Jb) (i : Nat) (d : Int) (q : Bool), (walkJ t i d q).1.length ≤ t.length
  | [], i, d, q => Nat.le_refl _
  | c :: t, i, d, q => by
    rw [walkJ_step, List.length_cons]
    split
    · have := walkJ_cnt t (i + 1) d (!q); omega
    · split
      · have := walkJ_cnt t (i + 1) d q; omega
      · split
        · simp
        · have := walkJ_cnt t (i + 1) (upJ c (dnJ c d)) q; simp only [List.length_cons]; omega
theorem splF_end (s : Jb) : ∀ (l : List (Nat × UInt8 × Int)) (σ : List Jb × Nat), (∀ v ∈ l, v.1 < s.length) → σ.2 ≤ s.length → (l.foldl (splF s) σ).2 ≤ s.length ∧ (l.foldl (splF s) σ).1.length ≤ σ.1.length + l.length
  | [], σ, _, h => ⟨h, by simp⟩
  | v :: l, σ, hv, h => by
    have hv1 := hv v List.mem_cons_self
    have h1 : (splF s σ v).2 ≤ s.length ∧ (splF s σ v).1.length ≤ σ.1.length + 1 := by
      unfold splF
      split
      · exact ⟨by simp only; omega, by simp⟩
      · exact ⟨h, by omega⟩
    have := splF_end s l (splF s σ v) (fun x hx => hv x (List.mem_cons_of_mem _ hx)) h1.1
    rw [List.foldl_cons, List.length_cons]
    exact ⟨this.1, by omega⟩
def strsV (l : List Jb) : V := .sl 1 (l.map fun w => [V.str w])
set_option maxHeartbeats 8000000 in
set_option maxRecDepth 4000 in
theorem split_spec (s : Jb) (hs : s.length ≤ 999999990) : Spec Tryz.prog 57 [.str s] (.tup [strsV ((splitJ s).getD []), .bool (splitJ s).isSome]) := by
  have hb := balJ_s s (by omega)
  have hfold := splF_fold s (visJ s) ([], 0)
  have hend := splF_end s (visJ s) ([], 0) (fun v hv => by have := walkJ_lt s 0 0 false v hv; omega) (Nat.zero_le _)
  have hcnt := walkJ_cnt s 0 0 false
  have hvl : (visJ s).length ≤ s.length := hcnt
  generalize (visJ s).foldl (splF s) ([], 0) = σ at hb hfold hend
  obtain ⟨out, fr⟩ := σ
  obtain ⟨e1, e2⟩ := hend
  have e1 : fr ≤ s.length := e1
  have e2 : out.length ≤ (visJ s).length := by simpa using e2
  have hfold : out ++ [s.drop fr] = cutJ s 0 (commaJ s) := by simpa [commaJ] using hfold
  have hsp : splitJ s = if balJ s then some (out ++ [s.drop fr]) else none := by rw [hfold]; rfl
  rw [hsp]
  generalize balJ s = b at hb
  simp only [spO] at hb
  refine spec_of tt_ok Tryz.func57 rfl (by decide) Tryz.ntmps57 (congrArg Array.toList Tryz.results57) (by simp) (by decide) rfl rfl (fun F hF => ?_)
  refine vwp_seq_k fun Na hNa => vreg tt_ok hF rfl ?_; simp only [go_sem, Int.reduceEq, Int.reduceNe, Int.reduceLT, Int.reduceLE, Nat.reduceEqDiff, Nat.reduceAdd, Nat.reduceMul, Nat.reduceLT, Nat.reduceLeDiff, Nat.reduceSub, reduceCtorEq, reduceIte, Int.reduceToNat, beq_self_eq_true, Bool.and_self]
  refine hNa _ (VWp.keepR [1] [1] tt_ok hF rfl fun Nb hNb => ?_); simp only [go_sem, Int.reduceEq, Int.reduceNe, Int.reduceLT, Int.reduceLE, Nat.reduceEqDiff, Nat.reduceAdd, Nat.reduceMul, Nat.reduceLT, Nat.reduceLeDiff, Nat.reduceSub, reduceCtorEq, reduceIte, Int.reduceToNat, beq_self_eq_true, Bool.and_self]
  refine hNb _ (VWp.keepR [1,4] [1,4] tt_ok hF rfl fun Nc hNc => ?_); simp only [go_sem, Int.reduceEq, Int.reduceNe, Int.reduceLT, Int.reduceLE, Nat.reduceEqDiff, Nat.reduceAdd, Nat.reduceMul, Nat.reduceLT, Nat.reduceLeDiff, Nat.reduceSub, reduceCtorEq, reduceIte, Int.reduceToNat, beq_self_eq_true, Bool.and_self]
  refine hNc _ (VWp.keep [1,4,5] [1,4,5] ?_); simp only [go_sem, Int.reduceEq, Int.reduceNe, Int.reduceLT, Int.reduceLE, Nat.reduceEqDiff, Nat.reduceAdd, Nat.reduceMul, Nat.reduceLT, Nat.reduceLeDiff, Nat.reduceSub, reduceCtorEq, reduceIte, Int.reduceToNat, beq_self_eq_true, Bool.and_self]
  refine VWp.adoptB 17 1 9 (o := 4) (i := 0) rfl rfl rfl (by decide) ?_
  refine VWp.keep [1,4,5] [1,4,5,17] ?_; simp only [go_sem, Int.reduceEq, Int.reduceNe, Int.reduceLT, Int.reduceLE, Nat.reduceEqDiff, Nat.reduceAdd, Nat.reduceMul, Nat.reduceLT, Nat.reduceLeDiff, Nat.reduceSub, reduceCtorEq, reduceIte, Int.reduceToNat, beq_self_eq_true, Bool.and_self]
  refine vwp_seq_k fun Nd hNd => vreg tt_ok hF rfl ?_; simp only [go_sem, Int.reduceEq, Int.reduceNe, Int.reduceLT, Int.reduceLE, Nat.reduceEqDiff, Nat.reduceAdd, Nat.reduceMul, Nat.reduceLT, Nat.reduceLeDiff, Nat.reduceSub, reduceCtorEq, reduceIte, Int.reduceToNat, beq_self_eq_true, Bool.and_self]
  refine .inr (bxo [(1000000, 4), (1000001, 1), (1000002, 5), (1000003, 17)] rfl ?_); simp only [go_sem, Int.reduceEq, Int.reduceNe, Int.reduceLT, Int.reduceLE, Nat.reduceEqDiff, Nat.reduceAdd, Nat.reduceMul, Nat.reduceLT, Nat.reduceLeDiff, Nat.reduceSub, reduceCtorEq, reduceIte, Int.reduceToNat, beq_self_eq_true, Bool.and_self]; refine ⟨_, _, hb, ?_⟩; try simp only [go_sem, Int.reduceEq, Int.reduceNe, Int.reduceLT, Int.reduceLE, Nat.reduceEqDiff, Nat.reduceAdd, Nat.reduceMul, Nat.reduceLT, Nat.reduceLeDiff, Nat.reduceSub, reduceCtorEq, reduceIte, Int.reduceToNat, beq_self_eq_true, Bool.and_self]
  refine hNd _ (VWp.keep [1,4,5,6] [1,4,5,17] ?_); simp only [go_sem, Int.reduceEq, Int.reduceNe, Int.reduceLT, Int.reduceLE, Nat.reduceEqDiff, Nat.reduceAdd, Nat.reduceMul, Nat.reduceLT, Nat.reduceLeDiff, Nat.reduceSub, reduceCtorEq, reduceIte, Int.reduceToNat, beq_self_eq_true, Bool.and_self]
  refine vwp_seq_k fun Ne hNe => ?_
  refine vwp_seq_k fun Nf hNf => vreg tt_ok hF rfl ?_; simp only [go_sem, Int.reduceEq, Int.reduceNe, Int.reduceLT, Int.reduceLE, Nat.reduceEqDiff, Nat.reduceAdd, Nat.reduceMul, Nat.reduceLT, Nat.reduceLeDiff, Nat.reduceSub, reduceCtorEq, reduceIte, Int.reduceToNat, beq_self_eq_true, Bool.and_self]
  refine hNf _ (VWp.keep [1,4,5,11] [1,4,5,17] ?_); simp only [go_sem, Int.reduceEq, Int.reduceNe, Int.reduceLT, Int.reduceLE, Nat.reduceEqDiff, Nat.reduceAdd, Nat.reduceMul, Nat.reduceLT, Nat.reduceLeDiff, Nat.reduceSub, reduceCtorEq, reduceIte, Int.reduceToNat, beq_self_eq_true, Bool.and_self]
  cases b
  · refine vif rfl ⟨fun ht => ?_, fun hf => (by cases hf)⟩
    refine vwp_seq_k fun Ng hNg => vreg tt_ok hF rfl ?_; simp only [go_sem, Int.reduceEq, Int.reduceNe, Int.reduceLT, Int.reduceLE, Nat.reduceEqDiff, Nat.reduceAdd, Nat.reduceMul, Nat.reduceLT, Nat.reduceLeDiff, Nat.reduceSub, reduceCtorEq, reduceIte, Int.reduceToNat, beq_self_eq_true, Bool.and_self]
    refine hNg _ (VWp.keep [2,3] [] ?_); simp only [go_sem, Int.reduceEq, Int.reduceNe, Int.reduceLT, Int.reduceLE, Nat.reduceEqDiff, Nat.reduceAdd, Nat.reduceMul, Nat.reduceLT, Nat.reduceLeDiff, Nat.reduceSub, reduceCtorEq, reduceIte, Int.reduceToNat, beq_self_eq_true, Bool.and_self]
    refine vwp_ret ?_
    simp only [go_sem, Int.reduceEq, Int.reduceNe, Int.reduceLT, Int.reduceLE, Nat.reduceEqDiff, Nat.reduceAdd, Nat.reduceMul, Nat.reduceLT, Nat.reduceLeDiff, Nat.reduceSub, reduceCtorEq, reduceIte, Int.reduceToNat, beq_self_eq_true, Bool.and_self]
    exact LeV.tup ⟨LeV.nil 1, LeV.refl _, trivial⟩
  · refine vif rfl ⟨fun ht => (by cases ht), fun hf => ?_⟩
    refine vwp_skip (hNe _ ?_)
    refine vwp_seq_k fun Nh hNh => vregd tt_ok mixed hF rfl (by kernel_rfl) (by kernel_rfl) ?_; simp only [go_sem, Int.reduceEq, Int.reduceNe, Int.reduceLT, Int.reduceLE, Nat.reduceEqDiff, Nat.reduceAdd, Nat.reduceMul, Nat.reduceLT, Nat.reduceLeDiff, Nat.reduceSub, reduceCtorEq, reduceIte, Int.reduceToNat, beq_self_eq_true, Bool.and_self]
    refine ⟨⟨by omega, by omega⟩, by omega, ?_⟩
    refine hNh _ (VWp.keep [2,3] [17] ?_); simp only [go_sem, Int.reduceEq, Int.reduceNe, Int.reduceLT, Int.reduceLE, Nat.reduceEqDiff, Nat.reduceAdd, Nat.reduceMul, Nat.reduceLT, Nat.reduceLeDiff, Nat.reduceSub, reduceCtorEq, reduceIte, Int.reduceToNat, beq_self_eq_true, Bool.and_self]
    refine vwp_ret ?_
    simp only [go_sem, Int.reduceEq, Int.reduceNe, Int.reduceLT, Int.reduceLE, Nat.reduceEqDiff, Nat.reduceAdd, Nat.reduceMul, Nat.reduceLT, Nat.reduceLeDiff, Nat.reduceSub, reduceCtorEq, reduceIte, Int.reduceToNat, beq_self_eq_true, Bool.and_self]
    exact LeV.of_eq (by simp [strsV])
end Go.Proofs.YtnaljgmcpagbbaaGreatDoor
