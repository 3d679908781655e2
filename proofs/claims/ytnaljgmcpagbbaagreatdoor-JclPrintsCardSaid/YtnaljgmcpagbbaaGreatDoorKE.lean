import Derived.Outline
import Derived.Test.YtnaljgmcpagbbaaGreatDoorKD
/- The chapter's examples. -/
-- SIMP: beq_self_eq_true, Bool.and_self, decide_true, Bool.not_true, Bool.not_false
namespace Go.Proofs.YtnaljgmcpagbbaaGreatDoor
open Go.RowKit
set_option linter.unusedVariables false
set_option linter.unusedSimpArgs false
def wA : List Jb := [[47, 47, 74, 49, 32, 74, 79, 66, 32, 40, 49, 50, 41, 44, 39, 65, 32, 66, 39, 44, 67, 76, 65, 83, 83, 61, 65], [47, 47, 83, 49, 32, 69, 88, 69, 67, 32, 80, 71, 77, 61, 83, 79, 82, 84, 44], [47, 47, 32, 80, 65, 82, 77, 61, 88, 32, 32, 115, 111, 114, 116, 115]]
def wB : List Jb := [[47, 47, 65, 32, 68, 68, 32, 88, 44], [47, 47, 66, 32, 68, 68, 32, 89]]
def wS : StmJ := ⟨2, [83, 49], [69, 88, 69, 67], [⟨[80, 71, 77], [83, 79, 82, 84], []⟩, ⟨[80, 65, 82, 77], [88], []⟩], []⟩
def wP : StmJ := ⟨0, [88], [68, 68], [⟨[], [42], []⟩], [[49]]⟩
theorem wA_scan : scanV wA = .tup [.sl 5 [[.int .i64 1, .str [74, 49], .str [74, 79, 66], .sl 3 [[.str [], .str [40, 49, 50, 41], .sl 1 [[.str [49, 50]]]], [.str [], .str [39, 65, 32, 66, 39], .sl 1 []], [.str [67, 76, 65, 83, 83], .str [65], .sl 1 []]], .sl 1 []], [.int .i64 2, .str [83, 49], .str [69, 88, 69, 67], .sl 3 [[.str [80, 71, 77], .str [83, 79, 82, 84], .sl 1 []], [.str [80, 65, 82, 77], .str [88], .sl 1 []]], .sl 1 []]], .int .i64 0, .int .i64 0] := by kernel_rfl
theorem wB_scan : scanV wB = .tup [.sl 5 [], .int .i64 2, .int .i64 340] := by kernel_rfl
theorem wS_get : getV wS [80, 71, 77] = .tup [.agg [.str [80, 71, 77], .str [83, 79, 82, 84], .sl 1 []], .bool true] := by kernel_rfl
theorem w_text : (txtJ [39, 79, 39, 39, 78, 69, 73, 76, 39]) = some [79, 39, 78, 69, 73, 76] := by kernel_rfl
theorem w_print : prtV (printJ [wP]) = .tup [.sl 1 [[.str [47, 47, 88, 32, 68, 68, 32, 42]], [.str [49]], [.str [47, 42]]], .int .i64 0] := by kernel_rfl
theorem w_n1 : nmJ [36, 88] = true := by kernel_rfl
theorem w_n2 : nmJ [49, 65] = false := by kernel_rfl
theorem w_d1 : dsnJ [83, 89, 83, 49, 46, 76, 73, 78, 75, 76, 73, 66] = true := by kernel_rfl
theorem w_d2 : dsnJ [65, 46, 46, 66] = false := by kernel_rfl
set_option maxHeartbeats 16000000 in
set_option maxRecDepth 8000 in
theorem works_spec : Spec Tryz.prog 10 [] (.bool true) := by
  have h1 := Scan_spec wA (by decide) (by decide)
  have h2 := Scan_spec wB (by decide) (by decide)
  rw [wA_scan] at h1
  rw [wB_scan] at h2
  have h3 := Get_spec wS [80, 71, 77] (by decide) (by decide)
  rw [wS_get] at h3
  have h4 := Text_spec [39, 79, 39, 39, 78, 69, 73, 76, 39] (by decide)
  rw [w_text] at h4
  have h5 := Print_spec [wP] (by decide) (fun s hs => by rw [List.mem_singleton] at hs; subst hs; exact ⟨by decide, by decide, by decide, by decide, by decide, by decide⟩)
  rw [w_print] at h5
  have h5 := h5.le (args := [.sl 5 [[.int .i64 0, .str [88], .str [68, 68], .sl 3 [[.str [], .str [42], .nil]], .sl 1 [[.str [49]]]]]])
    ⟨LeV.sl ⟨⟨LeV.refl _, LeV.refl _, LeV.refl _, LeV.sl ⟨⟨LeV.refl _, LeV.refl _, LeV.nil 1, trivial⟩, trivial⟩ (fun r hr => by obtain ⟨p, _, rfl⟩ := List.mem_map.1 hr; rfl), LeV.refl _, trivial⟩, trivial⟩ (fun r hr => by obtain ⟨p, _, rfl⟩ := List.mem_map.1 hr; rfl), trivial⟩
  have h6 := SameTexts_spec [[49, 50]] (by decide)
  have h7 := SameTexts_spec [[47, 47, 88, 32, 68, 68, 32, 42], [49], [47, 42]] (by decide)
  have h8 := Name_spec [36, 88] (by decide)
  rw [w_n1] at h8
  have h9 := Name_spec [49, 65] (by decide)
  rw [w_n2] at h9
  have h10 := Dsn_spec [83, 89, 83, 49, 46, 76, 73, 78, 75, 76, 73, 66] (by decide)
  rw [w_d1] at h10
  have h11 := Dsn_spec [65, 46, 46, 66] (by decide)
  rw [w_d2] at h11
  refine spec_of tt_ok Tryz.func10 rfl (by decide) Tryz.ntmps10 (congrArg Array.toList Tryz.results10) (by simp) (by decide) rfl rfl (fun F hF => ?_)
  refine vwp_seq_k fun Na hNa => vreg tt_ok hF rfl ?_; simp only [go_sem, Int.reduceEq, Int.reduceNe, Int.reduceLT, Int.reduceLE, Nat.reduceEqDiff, Nat.reduceAdd, Nat.reduceMul, Nat.reduceLT, Nat.reduceLeDiff, Nat.reduceSub, reduceCtorEq, reduceIte, Int.reduceToNat, beq_self_eq_true, Bool.and_self, decide_true, Bool.not_true, Bool.not_false]
  refine hNa _ (VWp.keepR [] [] tt_ok hF rfl fun Nb hNb => ?_); simp only [go_sem, Int.reduceEq, Int.reduceNe, Int.reduceLT, Int.reduceLE, Nat.reduceEqDiff, Nat.reduceAdd, Nat.reduceMul, Nat.reduceLT, Nat.reduceLeDiff, Nat.reduceSub, reduceCtorEq, reduceIte, Int.reduceToNat, beq_self_eq_true, Bool.and_self, decide_true, Bool.not_true, Bool.not_false]
  refine .inl ⟨_, h1, ?_⟩; try simp only [go_sem, Int.reduceEq, Int.reduceNe, Int.reduceLT, Int.reduceLE, Nat.reduceEqDiff, Nat.reduceAdd, Nat.reduceMul, Nat.reduceLT, Nat.reduceLeDiff, Nat.reduceSub, reduceCtorEq, reduceIte, Int.reduceToNat, beq_self_eq_true, Bool.and_self, decide_true, Bool.not_true, Bool.not_false]
  refine hNb _ (VWp.keepR [1,2,3] [] tt_ok hF rfl fun Nc hNc => ?_); simp only [go_sem, Int.reduceEq, Int.reduceNe, Int.reduceLT, Int.reduceLE, Nat.reduceEqDiff, Nat.reduceAdd, Nat.reduceMul, Nat.reduceLT, Nat.reduceLeDiff, Nat.reduceSub, reduceCtorEq, reduceIte, Int.reduceToNat, beq_self_eq_true, Bool.and_self, decide_true, Bool.not_true, Bool.not_false]
  refine .inl ⟨_, h2, ?_⟩; try simp only [go_sem, Int.reduceEq, Int.reduceNe, Int.reduceLT, Int.reduceLE, Nat.reduceEqDiff, Nat.reduceAdd, Nat.reduceMul, Nat.reduceLT, Nat.reduceLeDiff, Nat.reduceSub, reduceCtorEq, reduceIte, Int.reduceToNat, beq_self_eq_true, Bool.and_self, decide_true, Bool.not_true, Bool.not_false]
  refine hNc _ (VWp.keep [1,2,3,5,6] [] ?_); simp only [go_sem, Int.reduceEq, Int.reduceNe, Int.reduceLT, Int.reduceLE, Nat.reduceEqDiff, Nat.reduceAdd, Nat.reduceMul, Nat.reduceLT, Nat.reduceLeDiff, Nat.reduceSub, reduceCtorEq, reduceIte, Int.reduceToNat, beq_self_eq_true, Bool.and_self, decide_true, Bool.not_true, Bool.not_false]
  refine vwp_seq_k fun Nd hNd => ?_
  refine vwp_seq_k fun Ne hNe => vreg tt_ok hF rfl ?_; simp only [go_sem, Int.reduceEq, Int.reduceNe, Int.reduceLT, Int.reduceLE, Nat.reduceEqDiff, Nat.reduceAdd, Nat.reduceMul, Nat.reduceLT, Nat.reduceLeDiff, Nat.reduceSub, reduceCtorEq, reduceIte, Int.reduceToNat, beq_self_eq_true, Bool.and_self, decide_true, Bool.not_true, Bool.not_false]
  refine hNe _ (VWp.keep [1,80] [] ?_); simp only [go_sem, Int.reduceEq, Int.reduceNe, Int.reduceLT, Int.reduceLE, Nat.reduceEqDiff, Nat.reduceAdd, Nat.reduceMul, Nat.reduceLT, Nat.reduceLeDiff, Nat.reduceSub, reduceCtorEq, reduceIte, Int.reduceToNat, beq_self_eq_true, Bool.and_self, decide_true, Bool.not_true, Bool.not_false]
  refine vif rfl ⟨fun ht => (by cases ht), fun hf => ?_⟩
  refine vwp_skip (hNd _ ?_)
  refine vwp_seq_k fun Ng hNg => vreg tt_ok hF rfl ?_; simp only [go_sem, Int.reduceEq, Int.reduceNe, Int.reduceLT, Int.reduceLE, Nat.reduceEqDiff, Nat.reduceAdd, Nat.reduceMul, Nat.reduceLT, Nat.reduceLeDiff, Nat.reduceSub, reduceCtorEq, reduceIte, Int.reduceToNat, beq_self_eq_true, Bool.and_self, decide_true, Bool.not_true, Bool.not_false]
  refine .inl ⟨_, h3, ?_⟩; try simp only [go_sem, Int.reduceEq, Int.reduceNe, Int.reduceLT, Int.reduceLE, Nat.reduceEqDiff, Nat.reduceAdd, Nat.reduceMul, Nat.reduceLT, Nat.reduceLeDiff, Nat.reduceSub, reduceCtorEq, reduceIte, Int.reduceToNat, beq_self_eq_true, Bool.and_self, decide_true, Bool.not_true, Bool.not_false]
  refine hNg _ (VWp.keepR [1,7,8] [7] tt_ok hF rfl fun Nh hNh => ?_); simp only [go_sem, Int.reduceEq, Int.reduceNe, Int.reduceLT, Int.reduceLE, Nat.reduceEqDiff, Nat.reduceAdd, Nat.reduceMul, Nat.reduceLT, Nat.reduceLeDiff, Nat.reduceSub, reduceCtorEq, reduceIte, Int.reduceToNat, beq_self_eq_true, Bool.and_self, decide_true, Bool.not_true, Bool.not_false]
  refine .inl ⟨_, h4, ?_⟩; try simp only [go_sem, Int.reduceEq, Int.reduceNe, Int.reduceLT, Int.reduceLE, Nat.reduceEqDiff, Nat.reduceAdd, Nat.reduceMul, Nat.reduceLT, Nat.reduceLeDiff, Nat.reduceSub, reduceCtorEq, reduceIte, Int.reduceToNat, beq_self_eq_true, Bool.and_self, decide_true, Bool.not_true, Bool.not_false, Option.getD_some, Option.isSome_some]
  refine hNh _ (VWp.keepR [1,7,8,9,10] [7] tt_ok hF rfl fun Ni hNi => ?_); simp only [go_sem, Int.reduceEq, Int.reduceNe, Int.reduceLT, Int.reduceLE, Nat.reduceEqDiff, Nat.reduceAdd, Nat.reduceMul, Nat.reduceLT, Nat.reduceLeDiff, Nat.reduceSub, reduceCtorEq, reduceIte, Int.reduceToNat, beq_self_eq_true, Bool.and_self, decide_true, Bool.not_true, Bool.not_false]
  refine .inl ⟨_, h5, ?_⟩; try simp only [go_sem, Int.reduceEq, Int.reduceNe, Int.reduceLT, Int.reduceLE, Nat.reduceEqDiff, Nat.reduceAdd, Nat.reduceMul, Nat.reduceLT, Nat.reduceLeDiff, Nat.reduceSub, reduceCtorEq, reduceIte, Int.reduceToNat, beq_self_eq_true, Bool.and_self, decide_true, Bool.not_true, Bool.not_false]
  refine hNi _ (VWp.keepR [1,7,8,9,10,11,12] [7] tt_ok hF rfl fun Nj hNj => ?_); simp only [go_sem, Int.reduceEq, Int.reduceNe, Int.reduceLT, Int.reduceLE, Nat.reduceEqDiff, Nat.reduceAdd, Nat.reduceMul, Nat.reduceLT, Nat.reduceLeDiff, Nat.reduceSub, reduceCtorEq, reduceIte, Int.reduceToNat, beq_self_eq_true, Bool.and_self, decide_true, Bool.not_true, Bool.not_false]
  refine .inl ⟨_, h6, ?_⟩; try simp only [go_sem, Int.reduceEq, Int.reduceNe, Int.reduceLT, Int.reduceLE, Nat.reduceEqDiff, Nat.reduceAdd, Nat.reduceMul, Nat.reduceLT, Nat.reduceLeDiff, Nat.reduceSub, reduceCtorEq, reduceIte, Int.reduceToNat, beq_self_eq_true, Bool.and_self, decide_true, Bool.not_true, Bool.not_false]
  refine .inl ⟨_, h7, ?_⟩; try simp only [go_sem, Int.reduceEq, Int.reduceNe, Int.reduceLT, Int.reduceLE, Nat.reduceEqDiff, Nat.reduceAdd, Nat.reduceMul, Nat.reduceLT, Nat.reduceLeDiff, Nat.reduceSub, reduceCtorEq, reduceIte, Int.reduceToNat, beq_self_eq_true, Bool.and_self, decide_true, Bool.not_true, Bool.not_false]
  refine .inl ⟨_, h8, ?_⟩; try simp only [go_sem, Int.reduceEq, Int.reduceNe, Int.reduceLT, Int.reduceLE, Nat.reduceEqDiff, Nat.reduceAdd, Nat.reduceMul, Nat.reduceLT, Nat.reduceLeDiff, Nat.reduceSub, reduceCtorEq, reduceIte, Int.reduceToNat, beq_self_eq_true, Bool.and_self, decide_true, Bool.not_true, Bool.not_false]
  refine .inl ⟨_, h9, ?_⟩; try simp only [go_sem, Int.reduceEq, Int.reduceNe, Int.reduceLT, Int.reduceLE, Nat.reduceEqDiff, Nat.reduceAdd, Nat.reduceMul, Nat.reduceLT, Nat.reduceLeDiff, Nat.reduceSub, reduceCtorEq, reduceIte, Int.reduceToNat, beq_self_eq_true, Bool.and_self, decide_true, Bool.not_true, Bool.not_false]
  refine .inl ⟨_, h10, ?_⟩; try simp only [go_sem, Int.reduceEq, Int.reduceNe, Int.reduceLT, Int.reduceLE, Nat.reduceEqDiff, Nat.reduceAdd, Nat.reduceMul, Nat.reduceLT, Nat.reduceLeDiff, Nat.reduceSub, reduceCtorEq, reduceIte, Int.reduceToNat, beq_self_eq_true, Bool.and_self, decide_true, Bool.not_true, Bool.not_false]
  refine .inl ⟨_, h11, ?_⟩; try simp only [go_sem, Int.reduceEq, Int.reduceNe, Int.reduceLT, Int.reduceLE, Nat.reduceEqDiff, Nat.reduceAdd, Nat.reduceMul, Nat.reduceLT, Nat.reduceLeDiff, Nat.reduceSub, reduceCtorEq, reduceIte, Int.reduceToNat, beq_self_eq_true, Bool.and_self, decide_true, Bool.not_true, Bool.not_false]
  refine hNj _ (VWp.keep [0] [] ?_); simp only [go_sem, Int.reduceEq, Int.reduceNe, Int.reduceLT, Int.reduceLE, Nat.reduceEqDiff, Nat.reduceAdd, Nat.reduceMul, Nat.reduceLT, Nat.reduceLeDiff, Nat.reduceSub, reduceCtorEq, reduceIte, Int.reduceToNat, beq_self_eq_true, Bool.and_self, decide_true, Bool.not_true, Bool.not_false]
  refine vwp_ret ?_
  simp only [go_sem, Int.reduceEq, Int.reduceNe, Int.reduceLT, Int.reduceLE, Nat.reduceEqDiff, Nat.reduceAdd, Nat.reduceMul, Nat.reduceLT, Nat.reduceLeDiff, Nat.reduceSub, reduceCtorEq, reduceIte, Int.reduceToNat, beq_self_eq_true, Bool.and_self, decide_true, Bool.not_true, Bool.not_false]
  exact LeV.refl _
end Go.Proofs.YtnaljgmcpagbbaaGreatDoor
