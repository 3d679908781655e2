import Derived.Outline
import Derived.Test.YtjedikaidbobdaaGreatDoorUS
/- Layer 26: the chapter's examples. -/
-- SIMP: beq_self_eq_true, Bool.and_self
namespace Go.Proofs.YtjedikaidbobdaaGreatDoor
open Go.RowKit
open Go.Lib (decDigits)
set_option linter.unusedVariables false
set_option linter.unusedSimpArgs false
def exF : FilT := ⟨[65, 46, 66], ⟨1, 1, true, false, 1, 2, 0, 0⟩, [[1], [2], [3]]⟩
def exV : Tb := [86, 79, 76, 48, 48, 49]
theorem ex_err : errB 0 [exF] = 0 := by decide +kernel
theorem ex_ser : serT exV = true := by decide +kernel
theorem ex_len : (tapT exV [exF]).length = 11 ∧ (allB 0 [exF]).length = 9 := by decide +kernel
theorem ex_10 : ((tapT exV [exF]).map tbC).getD 10 [] = [.bool true, .sl 1 [], .bool false] := by kernel_rfl
theorem ex_4 : ((tapT exV [exF]).map tbC).getD 4 [] = [.bool false, .sl 1 (([1, 2] : Bs).map u8c), .bool false] := by kernel_rfl
theorem ex_5 : ((tapT exV [exF]).map tbC).getD 5 [] = [.bool false, .sl 1 (([3] : Bs).map u8c), .bool false] := by kernel_rfl
theorem ex_pos : posT [exF] 1 = 10 := by decide +kernel
theorem ex_filB : ∀ f ∈ [exF], FilB f := by
  intro f hf
  rw [List.mem_singleton] at hf
  subst hf
  refine ⟨by show 3 ≤ _; omega, fun r hr => ?_⟩
  have : r = [1] ∨ r = [2] ∨ r = [3] := by simpa [exF] using hr
  rcases this with rfl | rfl | rfl <;> show 1 ≤ _ <;> omega
theorem ex_filS : ∀ f ∈ [exF], FilS f := by
  intro f hf
  rw [List.mem_singleton] at hf
  subst hf
  exact ⟨by show 3 ≤ _; omega, by show 3 ≤ _; omega⟩
theorem ex_rec : ∀ f ∈ [exF], f.recs.length ≤ 4096 := fun f hf => (ex_filS f hf).r
def exC : List V := [.str [65, 46, 66], .int .i64 1, .int .i64 1, .bool true, .bool false, .int .i64 1, .int .i64 2, .int .i64 0, .int .i64 0, .sl 1 [[.sl 1 [[.int .u8 1]]], [.sl 1 [[.int .u8 2]]], [.sl 1 [[.int .u8 3]]]]]
theorem ex_cells : [exF].map filC = [exC] := by kernel_rfl
set_option maxHeartbeats 16000000 in
set_option maxRecDepth 4000 in
theorem works_spec : Spec Tryz.prog 18 [] (.bool true) := by
  have hwr := Write_B exV [exF] (by show 1 < _; omega) ex_filS ex_ser ex_err (by rw [ex_len.2]; omega)
  have hrd := Read_spec exV [exF] ex_ser ex_err ex_rec (by rw [ex_len.1]; omega) (by show 1 < _; omega)
  have hs1 : Spec Tryz.prog 21 [.sl 3 ((tapT exV [exF]).map tbC), .int .i64 1] (.tup [.int .i64 (posT [exF] 1 : Int), .bool true]) := Start_spec exV [exF] ex_ser ex_err ex_rec (by rw [ex_len.1]; omega) (by show 1 < _; omega) 1 (Nat.le_refl _)
  have hs2 : Spec Tryz.prog 21 [.sl 3 ((tapT exV [exF]).map tbC), .int .i64 2] (.tup [.int .i64 0, .bool false]) := Start_no exV [exF] ex_ser ex_err ex_rec (by rw [ex_len.1]; omega) (by show 1 < _; omega) 2 (by show 1 < 2; omega) (by omega)
  rw [ex_pos] at hs1
  have hv1 := Serial_spec exV
  rw [ex_ser] at hv1
  have hv2 := Serial_spec [118, 49]
  rw [show serT [118, 49] = false by decide +kernel] at hv2
  have hfr := from_spec [exF] (by show 1 ≤ _; omega)
  have hsf := SameFiles_spec [exF] (by show 1 ≤ _; omega) ex_filB
  have h10 := ex_10
  have h4 := ex_4
  have h5 := ex_5
  have hlen : ((tapT exV [exF]).map tbC).length = 11 := by rw [List.length_map, ex_len.1]
  rw [ex_cells] at hwr hrd hfr hsf
  rw [ex_len.2] at hwr
  change SpecB _ _ _ _ _ [(17, .arr 3 48 ((tapT exV [exF]).map tbC))] at hwr
  have tb4 : toBytes? (([1, 2] : Bs).map u8c) = some [1, 2] := tob_u8 _
  have tb5 : toBytes? (([3] : Bs).map u8c) = some [3] := tob_u8 _
  generalize (tapT exV [exF]).map tbC = T at *
  generalize ([1, 2] : Bs).map u8c = D4 at *
  generalize ([3] : Bs).map u8c = D5 at *
  rw [show (9 + 2 : Nat) = T.length by omega] at hwr
  have e11 : decide ((T.length : Int) = 11) = true := decide_eq_true (by omega)
  unfold exC at hwr hrd hfr hsf
  unfold exV at hwr hrd hv1
  refine spec_of tt_ok Tryz.func18 rfl (by decide) Tryz.ntmps18 (congrArg Array.toList Tryz.results18) (by simp) (by decide) rfl rfl (fun F hF => ?_)
  refine vwp_seq_k fun Na hNa => vreg tt_ok hF rfl ?_; simp only [go_sem, Int.reduceEq, Int.reduceNe, Int.reduceLT, Int.reduceLE, Nat.reduceEqDiff, Nat.reduceAdd, Nat.reduceMul, Nat.reduceLT, Nat.reduceLeDiff, Nat.reduceSub, reduceCtorEq, reduceIte, Int.reduceToNat, beq_self_eq_true, Bool.and_self]
  refine hNa _ (VWp.keepR [] [] tt_ok hF rfl fun Nb hNb => ?_); simp only [go_sem, Int.reduceEq, Int.reduceNe, Int.reduceLT, Int.reduceLE, Nat.reduceEqDiff, Nat.reduceAdd, Nat.reduceMul, Nat.reduceLT, Nat.reduceLeDiff, Nat.reduceSub, reduceCtorEq, reduceIte, Int.reduceToNat, beq_self_eq_true, Bool.and_self]
  refine hNb _ (VWp.keep [1] [1,15] ?_); simp only [go_sem, Int.reduceEq, Int.reduceNe, Int.reduceLT, Int.reduceLE, Nat.reduceEqDiff, Nat.reduceAdd, Nat.reduceMul, Nat.reduceLT, Nat.reduceLeDiff, Nat.reduceSub, reduceCtorEq, reduceIte, Int.reduceToNat, beq_self_eq_true, Bool.and_self]
  refine VWp.lookB 1 9 (d := 15) rfl rfl rfl rfl (by first | rfl | simp [prvB] | decide) ?_
  simp only [go_sem, Int.reduceEq, Int.reduceNe, Int.reduceLT, Int.reduceLE, Nat.reduceEqDiff, Nat.reduceAdd, Nat.reduceMul, Nat.reduceLT, Nat.reduceLeDiff, Nat.reduceSub, reduceCtorEq, reduceIte, Int.reduceToNat, beq_self_eq_true, Bool.and_self]
  refine vwp_seq_k fun Nc hNc => vreg tt_ok hF rfl ?_; simp only [go_sem, Int.reduceEq, Int.reduceNe, Int.reduceLT, Int.reduceLE, Nat.reduceEqDiff, Nat.reduceAdd, Nat.reduceMul, Nat.reduceLT, Nat.reduceLeDiff, Nat.reduceSub, reduceCtorEq, reduceIte, Int.reduceToNat, beq_self_eq_true, Bool.and_self]
  refine .inr (bxo [(17, 20)] rfl ?_); simp only [go_sem, Int.reduceEq, Int.reduceNe, Int.reduceLT, Int.reduceLE, Nat.reduceEqDiff, Nat.reduceAdd, Nat.reduceMul, Nat.reduceLT, Nat.reduceLeDiff, Nat.reduceSub, reduceCtorEq, reduceIte, Int.reduceToNat, beq_self_eq_true, Bool.and_self]; refine ⟨_, _, hwr, ?_⟩; try simp only [go_sem, Int.reduceEq, Int.reduceNe, Int.reduceLT, Int.reduceLE, Nat.reduceEqDiff, Nat.reduceAdd, Nat.reduceMul, Nat.reduceLT, Nat.reduceLeDiff, Nat.reduceSub, reduceCtorEq, reduceIte, Int.reduceToNat, beq_self_eq_true, Bool.and_self]
  refine hNc _ (VWp.keep [1,2,3] [1,20] ?_); simp only [go_sem, Int.reduceEq, Int.reduceNe, Int.reduceLT, Int.reduceLE, Nat.reduceEqDiff, Nat.reduceAdd, Nat.reduceMul, Nat.reduceLT, Nat.reduceLeDiff, Nat.reduceSub, reduceCtorEq, reduceIte, Int.reduceToNat, beq_self_eq_true, Bool.and_self]
  refine vwp_seq_k fun Nd hNd => ?_
  refine vwp_seq_k fun Ne hNe => vreg tt_ok hF rfl ?_; simp only [go_sem, Int.reduceEq, Int.reduceNe, Int.reduceLT, Int.reduceLE, Nat.reduceEqDiff, Nat.reduceAdd, Nat.reduceMul, Nat.reduceLT, Nat.reduceLeDiff, Nat.reduceSub, reduceCtorEq, reduceIte, Int.reduceToNat, beq_self_eq_true, Bool.and_self]
  try simp only [e11, Bool.not_true, go_sem, Int.reduceEq, Int.reduceNe, Int.reduceLT, Int.reduceLE, Nat.reduceEqDiff, Nat.reduceAdd, Nat.reduceMul, Nat.reduceLT, Nat.reduceLeDiff, Nat.reduceSub, reduceCtorEq, reduceIte, Int.reduceToNat, beq_self_eq_true, Bool.and_self]
  refine ⟨by omega, ?_⟩
  simp only [h10, h4, h5, tb4, tb5, e11, Bool.not_true, go_sem, Int.reduceEq, Int.reduceNe, Int.reduceLT, Int.reduceLE, Nat.reduceEqDiff, Nat.reduceAdd, Nat.reduceMul, Nat.reduceLT, Nat.reduceLeDiff, Nat.reduceSub, reduceCtorEq, reduceIte, Int.reduceToNat, beq_self_eq_true, Bool.and_self]
  refine ⟨by omega, by omega, ?_⟩
  refine hNe _ (VWp.keep [1,2,52] [1,20] ?_); simp only [go_sem, Int.reduceEq, Int.reduceNe, Int.reduceLT, Int.reduceLE, Nat.reduceEqDiff, Nat.reduceAdd, Nat.reduceMul, Nat.reduceLT, Nat.reduceLeDiff, Nat.reduceSub, reduceCtorEq, reduceIte, Int.reduceToNat, beq_self_eq_true, Bool.and_self]
  refine vif rfl ⟨(fun ht => by cases ht), fun hf => ?_⟩
  refine vwp_skip (hNd _ ?_)
  refine vwp_seq_k fun Ng hNg => vreg tt_ok hF rfl ?_; simp only [go_sem, Int.reduceEq, Int.reduceNe, Int.reduceLT, Int.reduceLE, Nat.reduceEqDiff, Nat.reduceAdd, Nat.reduceMul, Nat.reduceLT, Nat.reduceLeDiff, Nat.reduceSub, reduceCtorEq, reduceIte, Int.reduceToNat, beq_self_eq_true, Bool.and_self]
  refine .inl ⟨_, hrd, ?_⟩; try simp only [go_sem, Int.reduceEq, Int.reduceNe, Int.reduceLT, Int.reduceLE, Nat.reduceEqDiff, Nat.reduceAdd, Nat.reduceMul, Nat.reduceLT, Nat.reduceLeDiff, Nat.reduceSub, reduceCtorEq, reduceIte, Int.reduceToNat, beq_self_eq_true, Bool.and_self]
  refine hNg _ (VWp.keepR [1,2,4,5,6] [1,20] tt_ok hF rfl fun Nh hNh => ?_); simp only [go_sem, Int.reduceEq, Int.reduceNe, Int.reduceLT, Int.reduceLE, Nat.reduceEqDiff, Nat.reduceAdd, Nat.reduceMul, Nat.reduceLT, Nat.reduceLeDiff, Nat.reduceSub, reduceCtorEq, reduceIte, Int.reduceToNat, beq_self_eq_true, Bool.and_self]
  refine .inl ⟨_, hs1, ?_⟩; try simp only [go_sem, Int.reduceEq, Int.reduceNe, Int.reduceLT, Int.reduceLE, Nat.reduceEqDiff, Nat.reduceAdd, Nat.reduceMul, Nat.reduceLT, Nat.reduceLeDiff, Nat.reduceSub, reduceCtorEq, reduceIte, Int.reduceToNat, beq_self_eq_true, Bool.and_self]
  refine hNh _ (VWp.keepR [1,2,4,5,6,7,8] [1,20] tt_ok hF rfl fun Ni hNi => ?_); simp only [go_sem, Int.reduceEq, Int.reduceNe, Int.reduceLT, Int.reduceLE, Nat.reduceEqDiff, Nat.reduceAdd, Nat.reduceMul, Nat.reduceLT, Nat.reduceLeDiff, Nat.reduceSub, reduceCtorEq, reduceIte, Int.reduceToNat, beq_self_eq_true, Bool.and_self]
  refine .inl ⟨_, hs2, ?_⟩; try simp only [go_sem, Int.reduceEq, Int.reduceNe, Int.reduceLT, Int.reduceLE, Nat.reduceEqDiff, Nat.reduceAdd, Nat.reduceMul, Nat.reduceLT, Nat.reduceLeDiff, Nat.reduceSub, reduceCtorEq, reduceIte, Int.reduceToNat, beq_self_eq_true, Bool.and_self]
  refine hNi _ (VWp.keep [1,4,5,6,7,8,10] [1] ?_); simp only [go_sem, Int.reduceEq, Int.reduceNe, Int.reduceLT, Int.reduceLE, Nat.reduceEqDiff, Nat.reduceAdd, Nat.reduceMul, Nat.reduceLT, Nat.reduceLeDiff, Nat.reduceSub, reduceCtorEq, reduceIte, Int.reduceToNat, beq_self_eq_true, Bool.and_self]
  refine vwp_seq_k fun Nj hNj => vregd tt_ok mixed hF rfl (by kernel_rfl) (by kernel_rfl) ?_; simp only [go_sem, Int.reduceEq, Int.reduceNe, Int.reduceLT, Int.reduceLE, Nat.reduceEqDiff, Nat.reduceAdd, Nat.reduceMul, Nat.reduceLT, Nat.reduceLeDiff, Nat.reduceSub, reduceCtorEq, reduceIte, Int.reduceToNat, beq_self_eq_true, Bool.and_self]
  refine .inl ⟨_, hv1, ?_⟩; try simp only [go_sem, Int.reduceEq, Int.reduceNe, Int.reduceLT, Int.reduceLE, Nat.reduceEqDiff, Nat.reduceAdd, Nat.reduceMul, Nat.reduceLT, Nat.reduceLeDiff, Nat.reduceSub, reduceCtorEq, reduceIte, Int.reduceToNat, beq_self_eq_true, Bool.and_self]
  refine .inl ⟨_, hv2, ?_⟩; try simp only [go_sem, Int.reduceEq, Int.reduceNe, Int.reduceLT, Int.reduceLE, Nat.reduceEqDiff, Nat.reduceAdd, Nat.reduceMul, Nat.reduceLT, Nat.reduceLeDiff, Nat.reduceSub, reduceCtorEq, reduceIte, Int.reduceToNat, beq_self_eq_true, Bool.and_self]
  refine .inl ⟨_, hfr, ?_⟩; try simp only [go_sem, Int.reduceEq, Int.reduceNe, Int.reduceLT, Int.reduceLE, Nat.reduceEqDiff, Nat.reduceAdd, Nat.reduceMul, Nat.reduceLT, Nat.reduceLeDiff, Nat.reduceSub, reduceCtorEq, reduceIte, Int.reduceToNat, beq_self_eq_true, Bool.and_self]
  refine .inl ⟨_, hfr, ?_⟩; try simp only [go_sem, Int.reduceEq, Int.reduceNe, Int.reduceLT, Int.reduceLE, Nat.reduceEqDiff, Nat.reduceAdd, Nat.reduceMul, Nat.reduceLT, Nat.reduceLeDiff, Nat.reduceSub, reduceCtorEq, reduceIte, Int.reduceToNat, beq_self_eq_true, Bool.and_self]
  refine .inl ⟨_, hsf, ?_⟩; try simp only [go_sem, Int.reduceEq, Int.reduceNe, Int.reduceLT, Int.reduceLE, Nat.reduceEqDiff, Nat.reduceAdd, Nat.reduceMul, Nat.reduceLT, Nat.reduceLeDiff, Nat.reduceSub, reduceCtorEq, reduceIte, Int.reduceToNat, beq_self_eq_true, Bool.and_self]
  refine hNj _ (VWp.keep [0] [] ?_); simp only [go_sem, Int.reduceEq, Int.reduceNe, Int.reduceLT, Int.reduceLE, Nat.reduceEqDiff, Nat.reduceAdd, Nat.reduceMul, Nat.reduceLT, Nat.reduceLeDiff, Nat.reduceSub, reduceCtorEq, reduceIte, Int.reduceToNat, beq_self_eq_true, Bool.and_self]
  refine vwp_ret ?_
  simp only [go_sem, Int.reduceEq, Int.reduceNe, Int.reduceLT, Int.reduceLE, Nat.reduceEqDiff, Nat.reduceAdd, Nat.reduceMul, Nat.reduceLT, Nat.reduceLeDiff, Nat.reduceSub, reduceCtorEq, reduceIte, Int.reduceToNat, beq_self_eq_true, Bool.and_self]
  exact LeV.refl _
end Go.Proofs.YtjedikaidbobdaaGreatDoor
