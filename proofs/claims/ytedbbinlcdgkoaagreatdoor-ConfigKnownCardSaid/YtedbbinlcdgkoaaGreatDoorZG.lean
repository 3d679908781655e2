import Derived.Outline
import Derived.Test.YtedbbinlcdgkoaaGreatDoorZF
/- Layer 19: ConfigKnown. -/
-- SIMP: beq_self_eq_true, Bool.and_self, ofVal_nilFn, cU_refs
namespace Go.Proofs.YtedbbinlcdgkoaaGreatDoor
open Go.RowKit Go.Lib
set_option linter.unusedVariables false
set_option linter.unusedSimpArgs false
set_option maxHeartbeats 16000000 in
set_option maxRecDepth 100000 in
theorem ConfigKnown_spec : Spec Tryz.prog 7 [] (.bool true) := by
  have hb0 := fails_spec _ _ _ (by decide) kn0
  have hb1 := fails_spec _ _ _ (by decide) kn1
  have hb2 := fails_spec _ _ _ (by decide) kn2
  have hb3 := fails_spec _ _ _ (by decide) kn3
  have hb4 := fails_spec _ _ _ (by decide) kn4
  have hb5 := fails_spec _ _ _ (by decide) kn5
  have hb6 := fails_spec _ _ _ (by decide) kn6
  have hb7 := fails_spec _ _ _ (by decide) kn7
  have hb8 := fails_spec _ _ _ (by decide) kn8
  have hb9 := fails_spec _ _ _ (by decide) kn9
  have hb10 := fails_spec _ _ _ (by decide) kn10
  have hb11 := fails_spec _ _ _ (by decide) kn11
  have hb12 := fails_spec _ _ _ (by decide) kn12
  have hb13 := fails_spec _ _ _ (by decide) kn13
  have hb14 := fails_spec _ _ _ (by decide) kn14
  have hb15 := fails_spec _ _ _ (by decide) kn15
  have hb16 := fails_spec _ _ _ (by decide) kn16
  have hb17 := fails_spec _ _ _ (by decide) kn17
  have hb18 := fails_spec _ _ _ (by decide) kn18
  have hb19 := fails_spec _ _ _ (by decide) kn19
  have hb20 := fails_spec _ _ _ (by decide) kn20
  have hb21 := fails_spec _ _ _ (by decide) kn21
  have hpm := Parse_spec (manyT 16) (by rw [many_len]; decide)
  rw [many_parse] at hpm
  have hbm := fails_spec _ _ _ (by rw [List.length_append, many_len]; decide) many_bad
  have hvo := Volume_spec manyC [] (by rw [many_us]; decide)
  rw [many_vol] at hvo
  obtain ⟨MC, hMC⟩ : ∃ c, manyC = c := ⟨_, rfl⟩
  have hus := many_us
  have h15 := many_15
  rw [hMC] at hpm hvo hus h15
  have d16 : decide ((MC.us.length : Int) = 16) = true := decide_eq_true (by omega)
  have hrow : (MC.us.map uniC).getD 15 [] = [.int .i64 271, .int .i64 2, .str [], .int .i64 0, .int .i64 0] := by
    rw [uni_row (by omega : 15 < MC.us.length)]
    rw [getD_us MC.us (by omega)] at h15
    rw [h15]
  unfold resC cfgC at hpm
  unfold findR cfgC zeroU at hvo
  simp only [agg_uni] at hvo
  refine spec_of tt_ok Tryz.func7 rfl (by decide) Tryz.ntmps7 (congrArg Array.toList Tryz.results7) (by simp) (by decide) rfl rfl (fun F hF => ?_)
  refine vwp_seq_k fun Na hNa => vreg tt_ok hF rfl ?_; simp only [go_sem, Int.reduceEq, Int.reduceNe, Int.reduceLT, Int.reduceLE, Nat.reduceEqDiff, Nat.reduceAdd, Nat.reduceMul, Nat.reduceLT, Nat.reduceLeDiff, Nat.reduceSub, reduceCtorEq, reduceIte, Int.reduceToNat, beq_self_eq_true, Bool.and_self, ofVal_nilFn, cU_refs]
  refine hNa _ (VWp.keepR [] [] tt_ok hF rfl fun Nb hNb => ?_); simp only [go_sem, Int.reduceEq, Int.reduceNe, Int.reduceLT, Int.reduceLE, Nat.reduceEqDiff, Nat.reduceAdd, Nat.reduceMul, Nat.reduceLT, Nat.reduceLeDiff, Nat.reduceSub, reduceCtorEq, reduceIte, Int.reduceToNat, beq_self_eq_true, Bool.and_self, ofVal_nilFn, cU_refs]
  rw [show ([83, 84, 79, 82, 69, 32, 54, 53, 53, 51, 54, 10, 80, 65, 82, 84, 32, 50, 48, 52, 56, 32, 65, 10] : Bs) = baseT from rfl]
  refine hNb _ (VWp.keepR [1] [] tt_ok hF rfl fun Nc hNc => ?_); simp only [go_sem, Int.reduceEq, Int.reduceNe, Int.reduceLT, Int.reduceLE, Nat.reduceEqDiff, Nat.reduceAdd, Nat.reduceMul, Nat.reduceLT, Nat.reduceLeDiff, Nat.reduceSub, reduceCtorEq, reduceIte, Int.reduceToNat, beq_self_eq_true, Bool.and_self, ofVal_nilFn, cU_refs]
  try simp only [go_sem, Int.reduceEq, Int.reduceNe, Int.reduceLT, Int.reduceLE, Nat.reduceEqDiff, Nat.reduceAdd, Nat.reduceMul, Nat.reduceLT, Nat.reduceLeDiff, Nat.reduceSub, reduceCtorEq, reduceIte, Int.reduceToNat, beq_self_eq_true, Bool.and_self, ofVal_nilFn, cU_refs]
  (repeat (refine ⟨by decide, ?_⟩; try simp only [go_sem, Int.reduceEq, Int.reduceNe, Int.reduceLT, Int.reduceLE, Nat.reduceEqDiff, Nat.reduceAdd, Nat.reduceMul, Nat.reduceLT, Nat.reduceLeDiff, Nat.reduceSub, reduceCtorEq, reduceIte, Int.reduceToNat, beq_self_eq_true, Bool.and_self, ofVal_nilFn, cU_refs]))
  refine .inl ⟨_, hb0, ?_⟩; try simp only [go_sem, Int.reduceEq, Int.reduceNe, Int.reduceLT, Int.reduceLE, Nat.reduceEqDiff, Nat.reduceAdd, Nat.reduceMul, Nat.reduceLT, Nat.reduceLeDiff, Nat.reduceSub, reduceCtorEq, reduceIte, Int.reduceToNat, beq_self_eq_true, Bool.and_self, ofVal_nilFn, cU_refs]
  try simp only [go_sem, Int.reduceEq, Int.reduceNe, Int.reduceLT, Int.reduceLE, Nat.reduceEqDiff, Nat.reduceAdd, Nat.reduceMul, Nat.reduceLT, Nat.reduceLeDiff, Nat.reduceSub, reduceCtorEq, reduceIte, Int.reduceToNat, beq_self_eq_true, Bool.and_self, ofVal_nilFn, cU_refs]
  (repeat (refine ⟨by decide, ?_⟩; try simp only [go_sem, Int.reduceEq, Int.reduceNe, Int.reduceLT, Int.reduceLE, Nat.reduceEqDiff, Nat.reduceAdd, Nat.reduceMul, Nat.reduceLT, Nat.reduceLeDiff, Nat.reduceSub, reduceCtorEq, reduceIte, Int.reduceToNat, beq_self_eq_true, Bool.and_self, ofVal_nilFn, cU_refs]))
  refine .inl ⟨_, hb1, ?_⟩; try simp only [go_sem, Int.reduceEq, Int.reduceNe, Int.reduceLT, Int.reduceLE, Nat.reduceEqDiff, Nat.reduceAdd, Nat.reduceMul, Nat.reduceLT, Nat.reduceLeDiff, Nat.reduceSub, reduceCtorEq, reduceIte, Int.reduceToNat, beq_self_eq_true, Bool.and_self, ofVal_nilFn, cU_refs]
  try simp only [go_sem, Int.reduceEq, Int.reduceNe, Int.reduceLT, Int.reduceLE, Nat.reduceEqDiff, Nat.reduceAdd, Nat.reduceMul, Nat.reduceLT, Nat.reduceLeDiff, Nat.reduceSub, reduceCtorEq, reduceIte, Int.reduceToNat, beq_self_eq_true, Bool.and_self, ofVal_nilFn, cU_refs]
  (repeat (refine ⟨by decide, ?_⟩; try simp only [go_sem, Int.reduceEq, Int.reduceNe, Int.reduceLT, Int.reduceLE, Nat.reduceEqDiff, Nat.reduceAdd, Nat.reduceMul, Nat.reduceLT, Nat.reduceLeDiff, Nat.reduceSub, reduceCtorEq, reduceIte, Int.reduceToNat, beq_self_eq_true, Bool.and_self, ofVal_nilFn, cU_refs]))
  refine .inl ⟨_, hb2, ?_⟩; try simp only [go_sem, Int.reduceEq, Int.reduceNe, Int.reduceLT, Int.reduceLE, Nat.reduceEqDiff, Nat.reduceAdd, Nat.reduceMul, Nat.reduceLT, Nat.reduceLeDiff, Nat.reduceSub, reduceCtorEq, reduceIte, Int.reduceToNat, beq_self_eq_true, Bool.and_self, ofVal_nilFn, cU_refs]
  try simp only [go_sem, Int.reduceEq, Int.reduceNe, Int.reduceLT, Int.reduceLE, Nat.reduceEqDiff, Nat.reduceAdd, Nat.reduceMul, Nat.reduceLT, Nat.reduceLeDiff, Nat.reduceSub, reduceCtorEq, reduceIte, Int.reduceToNat, beq_self_eq_true, Bool.and_self, ofVal_nilFn, cU_refs]
  (repeat (refine ⟨by decide, ?_⟩; try simp only [go_sem, Int.reduceEq, Int.reduceNe, Int.reduceLT, Int.reduceLE, Nat.reduceEqDiff, Nat.reduceAdd, Nat.reduceMul, Nat.reduceLT, Nat.reduceLeDiff, Nat.reduceSub, reduceCtorEq, reduceIte, Int.reduceToNat, beq_self_eq_true, Bool.and_self, ofVal_nilFn, cU_refs]))
  refine .inl ⟨_, hb3, ?_⟩; try simp only [go_sem, Int.reduceEq, Int.reduceNe, Int.reduceLT, Int.reduceLE, Nat.reduceEqDiff, Nat.reduceAdd, Nat.reduceMul, Nat.reduceLT, Nat.reduceLeDiff, Nat.reduceSub, reduceCtorEq, reduceIte, Int.reduceToNat, beq_self_eq_true, Bool.and_self, ofVal_nilFn, cU_refs]
  try simp only [go_sem, Int.reduceEq, Int.reduceNe, Int.reduceLT, Int.reduceLE, Nat.reduceEqDiff, Nat.reduceAdd, Nat.reduceMul, Nat.reduceLT, Nat.reduceLeDiff, Nat.reduceSub, reduceCtorEq, reduceIte, Int.reduceToNat, beq_self_eq_true, Bool.and_self, ofVal_nilFn, cU_refs]
  (repeat (refine ⟨by decide, ?_⟩; try simp only [go_sem, Int.reduceEq, Int.reduceNe, Int.reduceLT, Int.reduceLE, Nat.reduceEqDiff, Nat.reduceAdd, Nat.reduceMul, Nat.reduceLT, Nat.reduceLeDiff, Nat.reduceSub, reduceCtorEq, reduceIte, Int.reduceToNat, beq_self_eq_true, Bool.and_self, ofVal_nilFn, cU_refs]))
  refine .inl ⟨_, hb4, ?_⟩; try simp only [go_sem, Int.reduceEq, Int.reduceNe, Int.reduceLT, Int.reduceLE, Nat.reduceEqDiff, Nat.reduceAdd, Nat.reduceMul, Nat.reduceLT, Nat.reduceLeDiff, Nat.reduceSub, reduceCtorEq, reduceIte, Int.reduceToNat, beq_self_eq_true, Bool.and_self, ofVal_nilFn, cU_refs]
  try simp only [go_sem, Int.reduceEq, Int.reduceNe, Int.reduceLT, Int.reduceLE, Nat.reduceEqDiff, Nat.reduceAdd, Nat.reduceMul, Nat.reduceLT, Nat.reduceLeDiff, Nat.reduceSub, reduceCtorEq, reduceIte, Int.reduceToNat, beq_self_eq_true, Bool.and_self, ofVal_nilFn, cU_refs]
  (repeat (refine ⟨by decide, ?_⟩; try simp only [go_sem, Int.reduceEq, Int.reduceNe, Int.reduceLT, Int.reduceLE, Nat.reduceEqDiff, Nat.reduceAdd, Nat.reduceMul, Nat.reduceLT, Nat.reduceLeDiff, Nat.reduceSub, reduceCtorEq, reduceIte, Int.reduceToNat, beq_self_eq_true, Bool.and_self, ofVal_nilFn, cU_refs]))
  refine .inl ⟨_, hb5, ?_⟩; try simp only [go_sem, Int.reduceEq, Int.reduceNe, Int.reduceLT, Int.reduceLE, Nat.reduceEqDiff, Nat.reduceAdd, Nat.reduceMul, Nat.reduceLT, Nat.reduceLeDiff, Nat.reduceSub, reduceCtorEq, reduceIte, Int.reduceToNat, beq_self_eq_true, Bool.and_self, ofVal_nilFn, cU_refs]
  try simp only [go_sem, Int.reduceEq, Int.reduceNe, Int.reduceLT, Int.reduceLE, Nat.reduceEqDiff, Nat.reduceAdd, Nat.reduceMul, Nat.reduceLT, Nat.reduceLeDiff, Nat.reduceSub, reduceCtorEq, reduceIte, Int.reduceToNat, beq_self_eq_true, Bool.and_self, ofVal_nilFn, cU_refs]
  (repeat (refine ⟨by decide, ?_⟩; try simp only [go_sem, Int.reduceEq, Int.reduceNe, Int.reduceLT, Int.reduceLE, Nat.reduceEqDiff, Nat.reduceAdd, Nat.reduceMul, Nat.reduceLT, Nat.reduceLeDiff, Nat.reduceSub, reduceCtorEq, reduceIte, Int.reduceToNat, beq_self_eq_true, Bool.and_self, ofVal_nilFn, cU_refs]))
  refine .inl ⟨_, hb6, ?_⟩; try simp only [go_sem, Int.reduceEq, Int.reduceNe, Int.reduceLT, Int.reduceLE, Nat.reduceEqDiff, Nat.reduceAdd, Nat.reduceMul, Nat.reduceLT, Nat.reduceLeDiff, Nat.reduceSub, reduceCtorEq, reduceIte, Int.reduceToNat, beq_self_eq_true, Bool.and_self, ofVal_nilFn, cU_refs]
  try simp only [go_sem, Int.reduceEq, Int.reduceNe, Int.reduceLT, Int.reduceLE, Nat.reduceEqDiff, Nat.reduceAdd, Nat.reduceMul, Nat.reduceLT, Nat.reduceLeDiff, Nat.reduceSub, reduceCtorEq, reduceIte, Int.reduceToNat, beq_self_eq_true, Bool.and_self, ofVal_nilFn, cU_refs]
  (repeat (refine ⟨by decide, ?_⟩; try simp only [go_sem, Int.reduceEq, Int.reduceNe, Int.reduceLT, Int.reduceLE, Nat.reduceEqDiff, Nat.reduceAdd, Nat.reduceMul, Nat.reduceLT, Nat.reduceLeDiff, Nat.reduceSub, reduceCtorEq, reduceIte, Int.reduceToNat, beq_self_eq_true, Bool.and_self, ofVal_nilFn, cU_refs]))
  refine .inl ⟨_, hb7, ?_⟩; try simp only [go_sem, Int.reduceEq, Int.reduceNe, Int.reduceLT, Int.reduceLE, Nat.reduceEqDiff, Nat.reduceAdd, Nat.reduceMul, Nat.reduceLT, Nat.reduceLeDiff, Nat.reduceSub, reduceCtorEq, reduceIte, Int.reduceToNat, beq_self_eq_true, Bool.and_self, ofVal_nilFn, cU_refs]
  refine hNc _ (VWp.keepR [1,2] [] tt_ok hF rfl fun Nd hNd => ?_); simp only [go_sem, Int.reduceEq, Int.reduceNe, Int.reduceLT, Int.reduceLE, Nat.reduceEqDiff, Nat.reduceAdd, Nat.reduceMul, Nat.reduceLT, Nat.reduceLeDiff, Nat.reduceSub, reduceCtorEq, reduceIte, Int.reduceToNat, beq_self_eq_true, Bool.and_self, ofVal_nilFn, cU_refs]
  try simp only [go_sem, Int.reduceEq, Int.reduceNe, Int.reduceLT, Int.reduceLE, Nat.reduceEqDiff, Nat.reduceAdd, Nat.reduceMul, Nat.reduceLT, Nat.reduceLeDiff, Nat.reduceSub, reduceCtorEq, reduceIte, Int.reduceToNat, beq_self_eq_true, Bool.and_self, ofVal_nilFn, cU_refs]
  (repeat (refine ⟨by decide, ?_⟩; try simp only [go_sem, Int.reduceEq, Int.reduceNe, Int.reduceLT, Int.reduceLE, Nat.reduceEqDiff, Nat.reduceAdd, Nat.reduceMul, Nat.reduceLT, Nat.reduceLeDiff, Nat.reduceSub, reduceCtorEq, reduceIte, Int.reduceToNat, beq_self_eq_true, Bool.and_self, ofVal_nilFn, cU_refs]))
  refine .inl ⟨_, hb8, ?_⟩; try simp only [go_sem, Int.reduceEq, Int.reduceNe, Int.reduceLT, Int.reduceLE, Nat.reduceEqDiff, Nat.reduceAdd, Nat.reduceMul, Nat.reduceLT, Nat.reduceLeDiff, Nat.reduceSub, reduceCtorEq, reduceIte, Int.reduceToNat, beq_self_eq_true, Bool.and_self, ofVal_nilFn, cU_refs]
  refine hNd _ (VWp.keepR [1,2,3] [] tt_ok hF rfl fun Ne hNe => ?_); simp only [go_sem, Int.reduceEq, Int.reduceNe, Int.reduceLT, Int.reduceLE, Nat.reduceEqDiff, Nat.reduceAdd, Nat.reduceMul, Nat.reduceLT, Nat.reduceLeDiff, Nat.reduceSub, reduceCtorEq, reduceIte, Int.reduceToNat, beq_self_eq_true, Bool.and_self, ofVal_nilFn, cU_refs]
  try simp only [go_sem, Int.reduceEq, Int.reduceNe, Int.reduceLT, Int.reduceLE, Nat.reduceEqDiff, Nat.reduceAdd, Nat.reduceMul, Nat.reduceLT, Nat.reduceLeDiff, Nat.reduceSub, reduceCtorEq, reduceIte, Int.reduceToNat, beq_self_eq_true, Bool.and_self, ofVal_nilFn, cU_refs]
  (repeat (refine ⟨by decide, ?_⟩; try simp only [go_sem, Int.reduceEq, Int.reduceNe, Int.reduceLT, Int.reduceLE, Nat.reduceEqDiff, Nat.reduceAdd, Nat.reduceMul, Nat.reduceLT, Nat.reduceLeDiff, Nat.reduceSub, reduceCtorEq, reduceIte, Int.reduceToNat, beq_self_eq_true, Bool.and_self, ofVal_nilFn, cU_refs]))
  refine .inl ⟨_, hb9, ?_⟩; try simp only [go_sem, Int.reduceEq, Int.reduceNe, Int.reduceLT, Int.reduceLE, Nat.reduceEqDiff, Nat.reduceAdd, Nat.reduceMul, Nat.reduceLT, Nat.reduceLeDiff, Nat.reduceSub, reduceCtorEq, reduceIte, Int.reduceToNat, beq_self_eq_true, Bool.and_self, ofVal_nilFn, cU_refs]
  try simp only [go_sem, Int.reduceEq, Int.reduceNe, Int.reduceLT, Int.reduceLE, Nat.reduceEqDiff, Nat.reduceAdd, Nat.reduceMul, Nat.reduceLT, Nat.reduceLeDiff, Nat.reduceSub, reduceCtorEq, reduceIte, Int.reduceToNat, beq_self_eq_true, Bool.and_self, ofVal_nilFn, cU_refs]
  (repeat (refine ⟨by decide, ?_⟩; try simp only [go_sem, Int.reduceEq, Int.reduceNe, Int.reduceLT, Int.reduceLE, Nat.reduceEqDiff, Nat.reduceAdd, Nat.reduceMul, Nat.reduceLT, Nat.reduceLeDiff, Nat.reduceSub, reduceCtorEq, reduceIte, Int.reduceToNat, beq_self_eq_true, Bool.and_self, ofVal_nilFn, cU_refs]))
  refine .inl ⟨_, hb10, ?_⟩; try simp only [go_sem, Int.reduceEq, Int.reduceNe, Int.reduceLT, Int.reduceLE, Nat.reduceEqDiff, Nat.reduceAdd, Nat.reduceMul, Nat.reduceLT, Nat.reduceLeDiff, Nat.reduceSub, reduceCtorEq, reduceIte, Int.reduceToNat, beq_self_eq_true, Bool.and_self, ofVal_nilFn, cU_refs]
  try simp only [go_sem, Int.reduceEq, Int.reduceNe, Int.reduceLT, Int.reduceLE, Nat.reduceEqDiff, Nat.reduceAdd, Nat.reduceMul, Nat.reduceLT, Nat.reduceLeDiff, Nat.reduceSub, reduceCtorEq, reduceIte, Int.reduceToNat, beq_self_eq_true, Bool.and_self, ofVal_nilFn, cU_refs]
  (repeat (refine ⟨by decide, ?_⟩; try simp only [go_sem, Int.reduceEq, Int.reduceNe, Int.reduceLT, Int.reduceLE, Nat.reduceEqDiff, Nat.reduceAdd, Nat.reduceMul, Nat.reduceLT, Nat.reduceLeDiff, Nat.reduceSub, reduceCtorEq, reduceIte, Int.reduceToNat, beq_self_eq_true, Bool.and_self, ofVal_nilFn, cU_refs]))
  refine .inl ⟨_, hb11, ?_⟩; try simp only [go_sem, Int.reduceEq, Int.reduceNe, Int.reduceLT, Int.reduceLE, Nat.reduceEqDiff, Nat.reduceAdd, Nat.reduceMul, Nat.reduceLT, Nat.reduceLeDiff, Nat.reduceSub, reduceCtorEq, reduceIte, Int.reduceToNat, beq_self_eq_true, Bool.and_self, ofVal_nilFn, cU_refs]
  try simp only [go_sem, Int.reduceEq, Int.reduceNe, Int.reduceLT, Int.reduceLE, Nat.reduceEqDiff, Nat.reduceAdd, Nat.reduceMul, Nat.reduceLT, Nat.reduceLeDiff, Nat.reduceSub, reduceCtorEq, reduceIte, Int.reduceToNat, beq_self_eq_true, Bool.and_self, ofVal_nilFn, cU_refs]
  (repeat (refine ⟨by decide, ?_⟩; try simp only [go_sem, Int.reduceEq, Int.reduceNe, Int.reduceLT, Int.reduceLE, Nat.reduceEqDiff, Nat.reduceAdd, Nat.reduceMul, Nat.reduceLT, Nat.reduceLeDiff, Nat.reduceSub, reduceCtorEq, reduceIte, Int.reduceToNat, beq_self_eq_true, Bool.and_self, ofVal_nilFn, cU_refs]))
  refine .inl ⟨_, hb12, ?_⟩; try simp only [go_sem, Int.reduceEq, Int.reduceNe, Int.reduceLT, Int.reduceLE, Nat.reduceEqDiff, Nat.reduceAdd, Nat.reduceMul, Nat.reduceLT, Nat.reduceLeDiff, Nat.reduceSub, reduceCtorEq, reduceIte, Int.reduceToNat, beq_self_eq_true, Bool.and_self, ofVal_nilFn, cU_refs]
  try simp only [go_sem, Int.reduceEq, Int.reduceNe, Int.reduceLT, Int.reduceLE, Nat.reduceEqDiff, Nat.reduceAdd, Nat.reduceMul, Nat.reduceLT, Nat.reduceLeDiff, Nat.reduceSub, reduceCtorEq, reduceIte, Int.reduceToNat, beq_self_eq_true, Bool.and_self, ofVal_nilFn, cU_refs]
  (repeat (refine ⟨by decide, ?_⟩; try simp only [go_sem, Int.reduceEq, Int.reduceNe, Int.reduceLT, Int.reduceLE, Nat.reduceEqDiff, Nat.reduceAdd, Nat.reduceMul, Nat.reduceLT, Nat.reduceLeDiff, Nat.reduceSub, reduceCtorEq, reduceIte, Int.reduceToNat, beq_self_eq_true, Bool.and_self, ofVal_nilFn, cU_refs]))
  refine .inl ⟨_, hb13, ?_⟩; try simp only [go_sem, Int.reduceEq, Int.reduceNe, Int.reduceLT, Int.reduceLE, Nat.reduceEqDiff, Nat.reduceAdd, Nat.reduceMul, Nat.reduceLT, Nat.reduceLeDiff, Nat.reduceSub, reduceCtorEq, reduceIte, Int.reduceToNat, beq_self_eq_true, Bool.and_self, ofVal_nilFn, cU_refs]
  try simp only [go_sem, Int.reduceEq, Int.reduceNe, Int.reduceLT, Int.reduceLE, Nat.reduceEqDiff, Nat.reduceAdd, Nat.reduceMul, Nat.reduceLT, Nat.reduceLeDiff, Nat.reduceSub, reduceCtorEq, reduceIte, Int.reduceToNat, beq_self_eq_true, Bool.and_self, ofVal_nilFn, cU_refs]
  (repeat (refine ⟨by decide, ?_⟩; try simp only [go_sem, Int.reduceEq, Int.reduceNe, Int.reduceLT, Int.reduceLE, Nat.reduceEqDiff, Nat.reduceAdd, Nat.reduceMul, Nat.reduceLT, Nat.reduceLeDiff, Nat.reduceSub, reduceCtorEq, reduceIte, Int.reduceToNat, beq_self_eq_true, Bool.and_self, ofVal_nilFn, cU_refs]))
  refine .inl ⟨_, hb14, ?_⟩; try simp only [go_sem, Int.reduceEq, Int.reduceNe, Int.reduceLT, Int.reduceLE, Nat.reduceEqDiff, Nat.reduceAdd, Nat.reduceMul, Nat.reduceLT, Nat.reduceLeDiff, Nat.reduceSub, reduceCtorEq, reduceIte, Int.reduceToNat, beq_self_eq_true, Bool.and_self, ofVal_nilFn, cU_refs]
  try simp only [go_sem, Int.reduceEq, Int.reduceNe, Int.reduceLT, Int.reduceLE, Nat.reduceEqDiff, Nat.reduceAdd, Nat.reduceMul, Nat.reduceLT, Nat.reduceLeDiff, Nat.reduceSub, reduceCtorEq, reduceIte, Int.reduceToNat, beq_self_eq_true, Bool.and_self, ofVal_nilFn, cU_refs]
  (repeat (refine ⟨by decide, ?_⟩; try simp only [go_sem, Int.reduceEq, Int.reduceNe, Int.reduceLT, Int.reduceLE, Nat.reduceEqDiff, Nat.reduceAdd, Nat.reduceMul, Nat.reduceLT, Nat.reduceLeDiff, Nat.reduceSub, reduceCtorEq, reduceIte, Int.reduceToNat, beq_self_eq_true, Bool.and_self, ofVal_nilFn, cU_refs]))
  refine .inl ⟨_, hb15, ?_⟩; try simp only [go_sem, Int.reduceEq, Int.reduceNe, Int.reduceLT, Int.reduceLE, Nat.reduceEqDiff, Nat.reduceAdd, Nat.reduceMul, Nat.reduceLT, Nat.reduceLeDiff, Nat.reduceSub, reduceCtorEq, reduceIte, Int.reduceToNat, beq_self_eq_true, Bool.and_self, ofVal_nilFn, cU_refs]
  try simp only [go_sem, Int.reduceEq, Int.reduceNe, Int.reduceLT, Int.reduceLE, Nat.reduceEqDiff, Nat.reduceAdd, Nat.reduceMul, Nat.reduceLT, Nat.reduceLeDiff, Nat.reduceSub, reduceCtorEq, reduceIte, Int.reduceToNat, beq_self_eq_true, Bool.and_self, ofVal_nilFn, cU_refs]
  (repeat (refine ⟨by decide, ?_⟩; try simp only [go_sem, Int.reduceEq, Int.reduceNe, Int.reduceLT, Int.reduceLE, Nat.reduceEqDiff, Nat.reduceAdd, Nat.reduceMul, Nat.reduceLT, Nat.reduceLeDiff, Nat.reduceSub, reduceCtorEq, reduceIte, Int.reduceToNat, beq_self_eq_true, Bool.and_self, ofVal_nilFn, cU_refs]))
  refine .inl ⟨_, hb16, ?_⟩; try simp only [go_sem, Int.reduceEq, Int.reduceNe, Int.reduceLT, Int.reduceLE, Nat.reduceEqDiff, Nat.reduceAdd, Nat.reduceMul, Nat.reduceLT, Nat.reduceLeDiff, Nat.reduceSub, reduceCtorEq, reduceIte, Int.reduceToNat, beq_self_eq_true, Bool.and_self, ofVal_nilFn, cU_refs]
  try simp only [go_sem, Int.reduceEq, Int.reduceNe, Int.reduceLT, Int.reduceLE, Nat.reduceEqDiff, Nat.reduceAdd, Nat.reduceMul, Nat.reduceLT, Nat.reduceLeDiff, Nat.reduceSub, reduceCtorEq, reduceIte, Int.reduceToNat, beq_self_eq_true, Bool.and_self, ofVal_nilFn, cU_refs]
  (repeat (refine ⟨by decide, ?_⟩; try simp only [go_sem, Int.reduceEq, Int.reduceNe, Int.reduceLT, Int.reduceLE, Nat.reduceEqDiff, Nat.reduceAdd, Nat.reduceMul, Nat.reduceLT, Nat.reduceLeDiff, Nat.reduceSub, reduceCtorEq, reduceIte, Int.reduceToNat, beq_self_eq_true, Bool.and_self, ofVal_nilFn, cU_refs]))
  refine .inl ⟨_, hb17, ?_⟩; try simp only [go_sem, Int.reduceEq, Int.reduceNe, Int.reduceLT, Int.reduceLE, Nat.reduceEqDiff, Nat.reduceAdd, Nat.reduceMul, Nat.reduceLT, Nat.reduceLeDiff, Nat.reduceSub, reduceCtorEq, reduceIte, Int.reduceToNat, beq_self_eq_true, Bool.and_self, ofVal_nilFn, cU_refs]
  try simp only [go_sem, Int.reduceEq, Int.reduceNe, Int.reduceLT, Int.reduceLE, Nat.reduceEqDiff, Nat.reduceAdd, Nat.reduceMul, Nat.reduceLT, Nat.reduceLeDiff, Nat.reduceSub, reduceCtorEq, reduceIte, Int.reduceToNat, beq_self_eq_true, Bool.and_self, ofVal_nilFn, cU_refs]
  (repeat (refine ⟨by decide, ?_⟩; try simp only [go_sem, Int.reduceEq, Int.reduceNe, Int.reduceLT, Int.reduceLE, Nat.reduceEqDiff, Nat.reduceAdd, Nat.reduceMul, Nat.reduceLT, Nat.reduceLeDiff, Nat.reduceSub, reduceCtorEq, reduceIte, Int.reduceToNat, beq_self_eq_true, Bool.and_self, ofVal_nilFn, cU_refs]))
  refine .inl ⟨_, hb18, ?_⟩; try simp only [go_sem, Int.reduceEq, Int.reduceNe, Int.reduceLT, Int.reduceLE, Nat.reduceEqDiff, Nat.reduceAdd, Nat.reduceMul, Nat.reduceLT, Nat.reduceLeDiff, Nat.reduceSub, reduceCtorEq, reduceIte, Int.reduceToNat, beq_self_eq_true, Bool.and_self, ofVal_nilFn, cU_refs]
  try simp only [go_sem, Int.reduceEq, Int.reduceNe, Int.reduceLT, Int.reduceLE, Nat.reduceEqDiff, Nat.reduceAdd, Nat.reduceMul, Nat.reduceLT, Nat.reduceLeDiff, Nat.reduceSub, reduceCtorEq, reduceIte, Int.reduceToNat, beq_self_eq_true, Bool.and_self, ofVal_nilFn, cU_refs]
  (repeat (refine ⟨by decide, ?_⟩; try simp only [go_sem, Int.reduceEq, Int.reduceNe, Int.reduceLT, Int.reduceLE, Nat.reduceEqDiff, Nat.reduceAdd, Nat.reduceMul, Nat.reduceLT, Nat.reduceLeDiff, Nat.reduceSub, reduceCtorEq, reduceIte, Int.reduceToNat, beq_self_eq_true, Bool.and_self, ofVal_nilFn, cU_refs]))
  refine .inl ⟨_, hb19, ?_⟩; try simp only [go_sem, Int.reduceEq, Int.reduceNe, Int.reduceLT, Int.reduceLE, Nat.reduceEqDiff, Nat.reduceAdd, Nat.reduceMul, Nat.reduceLT, Nat.reduceLeDiff, Nat.reduceSub, reduceCtorEq, reduceIte, Int.reduceToNat, beq_self_eq_true, Bool.and_self, ofVal_nilFn, cU_refs]
  refine hNe _ (VWp.keepR [1,2,3,4] [] tt_ok hF rfl fun Nf hNf => ?_); simp only [go_sem, Int.reduceEq, Int.reduceNe, Int.reduceLT, Int.reduceLE, Nat.reduceEqDiff, Nat.reduceAdd, Nat.reduceMul, Nat.reduceLT, Nat.reduceLeDiff, Nat.reduceSub, reduceCtorEq, reduceIte, Int.reduceToNat, beq_self_eq_true, Bool.and_self, ofVal_nilFn, cU_refs]
  try simp only [go_sem, Int.reduceEq, Int.reduceNe, Int.reduceLT, Int.reduceLE, Nat.reduceEqDiff, Nat.reduceAdd, Nat.reduceMul, Nat.reduceLT, Nat.reduceLeDiff, Nat.reduceSub, reduceCtorEq, reduceIte, Int.reduceToNat, beq_self_eq_true, Bool.and_self, ofVal_nilFn, cU_refs]
  (repeat (refine ⟨by decide, ?_⟩; try simp only [go_sem, Int.reduceEq, Int.reduceNe, Int.reduceLT, Int.reduceLE, Nat.reduceEqDiff, Nat.reduceAdd, Nat.reduceMul, Nat.reduceLT, Nat.reduceLeDiff, Nat.reduceSub, reduceCtorEq, reduceIte, Int.reduceToNat, beq_self_eq_true, Bool.and_self, ofVal_nilFn, cU_refs]))
  refine .inl ⟨_, hb20, ?_⟩; try simp only [go_sem, Int.reduceEq, Int.reduceNe, Int.reduceLT, Int.reduceLE, Nat.reduceEqDiff, Nat.reduceAdd, Nat.reduceMul, Nat.reduceLT, Nat.reduceLeDiff, Nat.reduceSub, reduceCtorEq, reduceIte, Int.reduceToNat, beq_self_eq_true, Bool.and_self, ofVal_nilFn, cU_refs]
  try simp only [go_sem, Int.reduceEq, Int.reduceNe, Int.reduceLT, Int.reduceLE, Nat.reduceEqDiff, Nat.reduceAdd, Nat.reduceMul, Nat.reduceLT, Nat.reduceLeDiff, Nat.reduceSub, reduceCtorEq, reduceIte, Int.reduceToNat, beq_self_eq_true, Bool.and_self, ofVal_nilFn, cU_refs]
  (repeat (refine ⟨by decide, ?_⟩; try simp only [go_sem, Int.reduceEq, Int.reduceNe, Int.reduceLT, Int.reduceLE, Nat.reduceEqDiff, Nat.reduceAdd, Nat.reduceMul, Nat.reduceLT, Nat.reduceLeDiff, Nat.reduceSub, reduceCtorEq, reduceIte, Int.reduceToNat, beq_self_eq_true, Bool.and_self, ofVal_nilFn, cU_refs]))
  refine .inl ⟨_, hb21, ?_⟩; try simp only [go_sem, Int.reduceEq, Int.reduceNe, Int.reduceLT, Int.reduceLE, Nat.reduceEqDiff, Nat.reduceAdd, Nat.reduceMul, Nat.reduceLT, Nat.reduceLeDiff, Nat.reduceSub, reduceCtorEq, reduceIte, Int.reduceToNat, beq_self_eq_true, Bool.and_self, ofVal_nilFn, cU_refs]
  refine hNf _ (VWp.keepR [1,2,3,4,5] [] tt_ok hF rfl fun Ng hNg => ?_); simp only [go_sem, Int.reduceEq, Int.reduceNe, Int.reduceLT, Int.reduceLE, Nat.reduceEqDiff, Nat.reduceAdd, Nat.reduceMul, Nat.reduceLT, Nat.reduceLeDiff, Nat.reduceSub, reduceCtorEq, reduceIte, Int.reduceToNat, beq_self_eq_true, Bool.and_self, ofVal_nilFn, cU_refs]
  refine hNg _ (VWp.keep [1,2,3,4,5,6] [] ?_); simp only [go_sem, Int.reduceEq, Int.reduceNe, Int.reduceLT, Int.reduceLE, Nat.reduceEqDiff, Nat.reduceAdd, Nat.reduceMul, Nat.reduceLT, Nat.reduceLeDiff, Nat.reduceSub, reduceCtorEq, reduceIte, Int.reduceToNat, beq_self_eq_true, Bool.and_self, ofVal_nilFn, cU_refs]
  refine vwp_seq_k fun Nh hNh => ?_
  refine vwp_seq_k fun Ni hNi => vreg tt_ok hF rfl ?_; simp only [go_sem, Int.reduceEq, Int.reduceNe, Int.reduceLT, Int.reduceLE, Nat.reduceEqDiff, Nat.reduceAdd, Nat.reduceMul, Nat.reduceLT, Nat.reduceLeDiff, Nat.reduceSub, reduceCtorEq, reduceIte, Int.reduceToNat, beq_self_eq_true, Bool.and_self, ofVal_nilFn, cU_refs]
  refine hNi _ (VWp.keep [1,2,3,4,5,6,7] [] ?_); simp only [go_sem, Int.reduceEq, Int.reduceNe, Int.reduceLT, Int.reduceLE, Nat.reduceEqDiff, Nat.reduceAdd, Nat.reduceMul, Nat.reduceLT, Nat.reduceLeDiff, Nat.reduceSub, reduceCtorEq, reduceIte, Int.reduceToNat, beq_self_eq_true, Bool.and_self, ofVal_nilFn, cU_refs]
  refine vwp_block ?_
  refine vloop (fun k : Nat => [(1, .str baseT), (2, .bool true), (3, .bool true), (4, .bool true), (5, .bool true), (6, .str (manyT k)), (7, .int .i64 (k : Int))]) (fun k => []) (fun k => k ≤ 16) (fun k => 16 - k) 0 (by omega) (by simp only [go_sem, Int.reduceEq, Int.reduceNe, Int.reduceLT, Int.reduceLE, Nat.reduceEqDiff, Nat.reduceAdd, Nat.reduceMul, Nat.reduceLT, Nat.reduceLeDiff, Nat.reduceSub, reduceCtorEq, reduceIte, Int.reduceToNat, beq_self_eq_true, Bool.and_self, ofVal_nilFn, cU_refs]; try (simp [manyT])) ?_
  intro k hk
  refine vwp_seq_k fun Nj hNj => ?_
  refine vwp_seq_k fun Nk hNk => vreg tt_ok hF rfl ?_; simp only [go_sem, Int.reduceEq, Int.reduceNe, Int.reduceLT, Int.reduceLE, Nat.reduceEqDiff, Nat.reduceAdd, Nat.reduceMul, Nat.reduceLT, Nat.reduceLeDiff, Nat.reduceSub, reduceCtorEq, reduceIte, Int.reduceToNat, beq_self_eq_true, Bool.and_self, ofVal_nilFn, cU_refs]
  refine hNk _ (VWp.keep [1,2,3,4,5,6,7,117] [] ?_); simp only [go_sem, Int.reduceEq, Int.reduceNe, Int.reduceLT, Int.reduceLE, Nat.reduceEqDiff, Nat.reduceAdd, Nat.reduceMul, Nat.reduceLT, Nat.reduceLeDiff, Nat.reduceSub, reduceCtorEq, reduceIte, Int.reduceToNat, beq_self_eq_true, Bool.and_self, ofVal_nilFn, cU_refs]
  refine vif rfl ⟨fun ht => ?_, fun hf => ?_⟩
  · have hk16 : k < 16 := by have := of_decide_eq_true ht; omega
    have hx : ∀ n < 16, List.drop n (List.take (n + 1) hexs) = [hexs.getD n 0] := by decide
    have e1 : IntKind.i64.wrap ((k : Int) + 1) = ((k + 1 : Nat) : Int) := by rw [wrap_i64 (by omega) (by omega)]; omega
    have hml := many_le k (by omega)
    refine vwp_skip (hNj _ ?_)
    refine vwp_seq_k fun Nl hNl => ?_
    refine vwp_block ?_
    refine vreg tt_ok hF rfl ?_
    rw [show ([48, 49, 50, 51, 52, 53, 54, 55, 56, 57, 65, 66, 67, 68, 69, 70] : Bs) = hexs from rfl]
    simp only [e1, Int.toNat_natCast, hx k hk16, go_sem, Int.reduceEq, Int.reduceNe, Int.reduceLT, Int.reduceLE, Nat.reduceEqDiff, Nat.reduceAdd, Nat.reduceMul, Nat.reduceLT, Nat.reduceLeDiff, Nat.reduceSub, reduceCtorEq, reduceIte, Int.reduceToNat, beq_self_eq_true, Bool.and_self, ofVal_nilFn, cU_refs]
    have hhl : hexs.length = 16 := rfl
    (repeat (refine ⟨by first | omega | (simp only [List.length_append, List.length_cons, List.length_nil]; omega) | (refine ⟨by omega, by omega, by omega⟩), ?_⟩))
    refine hNl _ (VWp.keep [1,2,3,4,5,6,7] [] ?_); simp only [go_sem, Int.reduceEq, Int.reduceNe, Int.reduceLT, Int.reduceLE, Nat.reduceEqDiff, Nat.reduceAdd, Nat.reduceMul, Nat.reduceLT, Nat.reduceLeDiff, Nat.reduceSub, reduceCtorEq, reduceIte, Int.reduceToNat, beq_self_eq_true, Bool.and_self, ofVal_nilFn, cU_refs]
    refine vreg tt_ok hF rfl ?_; simp only [go_sem, Int.reduceEq, Int.reduceNe, Int.reduceLT, Int.reduceLE, Nat.reduceEqDiff, Nat.reduceAdd, Nat.reduceMul, Nat.reduceLT, Nat.reduceLeDiff, Nat.reduceSub, reduceCtorEq, reduceIte, Int.reduceToNat, beq_self_eq_true, Bool.and_self, ofVal_nilFn, cU_refs]
    rw [wrap_i64 (by omega) (by omega)]
    exact ⟨k + 1, by omega, by omega, by simp [manyT]⟩
  · have hk16 : k = 16 := by have := of_decide_eq_false hf; omega
    subst hk16
    refine vwp_exit ?_
    simp only [go_sem, Int.reduceEq, Int.reduceNe, Int.reduceLT, Int.reduceLE, Nat.reduceEqDiff, Nat.reduceAdd, Nat.reduceMul, Nat.reduceLT, Nat.reduceLeDiff, Nat.reduceSub, reduceCtorEq, reduceIte, Int.reduceToNat, beq_self_eq_true, Bool.and_self, ofVal_nilFn, cU_refs]
    refine hNh _ (VWp.keepR [1,2,3,4,5,6] [] tt_ok hF rfl fun Nm hNm => ?_); simp only [go_sem, Int.reduceEq, Int.reduceNe, Int.reduceLT, Int.reduceLE, Nat.reduceEqDiff, Nat.reduceAdd, Nat.reduceMul, Nat.reduceLT, Nat.reduceLeDiff, Nat.reduceSub, reduceCtorEq, reduceIte, Int.reduceToNat, beq_self_eq_true, Bool.and_self, ofVal_nilFn, cU_refs]
    refine .inl ⟨_, hpm, ?_⟩; try simp only [go_sem, Int.reduceEq, Int.reduceNe, Int.reduceLT, Int.reduceLE, Nat.reduceEqDiff, Nat.reduceAdd, Nat.reduceMul, Nat.reduceLT, Nat.reduceLeDiff, Nat.reduceSub, reduceCtorEq, reduceIte, Int.reduceToNat, beq_self_eq_true, Bool.and_self, ofVal_nilFn, cU_refs]
    refine hNm _ (VWp.keepR [1,2,3,4,5,6,8,9,10] [8] tt_ok hF rfl fun Nn hNn => ?_); simp only [go_sem, Int.reduceEq, Int.reduceNe, Int.reduceLT, Int.reduceLE, Nat.reduceEqDiff, Nat.reduceAdd, Nat.reduceMul, Nat.reduceLT, Nat.reduceLeDiff, Nat.reduceSub, reduceCtorEq, reduceIte, Int.reduceToNat, beq_self_eq_true, Bool.and_self, ofVal_nilFn, cU_refs]
    simp (maxSteps := 2000000) only [d16, hrow, decide_true, go_sem, Int.reduceEq, Int.reduceNe, Int.reduceLT, Int.reduceLE, Nat.reduceEqDiff, Nat.reduceAdd, Nat.reduceMul, Nat.reduceLT, Nat.reduceLeDiff, Nat.reduceSub, reduceCtorEq, reduceIte, Int.reduceToNat, beq_self_eq_true, Bool.and_self, ofVal_nilFn, cU_refs]
    (repeat (refine ⟨by first | omega | decide | (rw [List.length_append, many_len]; decide), ?_⟩; try simp (maxSteps := 2000000) only [d16, hrow, decide_true, go_sem, Int.reduceEq, Int.reduceNe, Int.reduceLT, Int.reduceLE, Nat.reduceEqDiff, Nat.reduceAdd, Nat.reduceMul, Nat.reduceLT, Nat.reduceLeDiff, Nat.reduceSub, reduceCtorEq, reduceIte, Int.reduceToNat, beq_self_eq_true, Bool.and_self, ofVal_nilFn, cU_refs]))
    refine .inl ⟨_, hbm, ?_⟩; try simp only [go_sem, Int.reduceEq, Int.reduceNe, Int.reduceLT, Int.reduceLE, Nat.reduceEqDiff, Nat.reduceAdd, Nat.reduceMul, Nat.reduceLT, Nat.reduceLeDiff, Nat.reduceSub, reduceCtorEq, reduceIte, Int.reduceToNat, beq_self_eq_true, Bool.and_self, ofVal_nilFn, cU_refs]
    refine hNn _ (VWp.keep [1,2,3,4,5,8,11] [8] ?_); simp only [go_sem, Int.reduceEq, Int.reduceNe, Int.reduceLT, Int.reduceLE, Nat.reduceEqDiff, Nat.reduceAdd, Nat.reduceMul, Nat.reduceLT, Nat.reduceLeDiff, Nat.reduceSub, reduceCtorEq, reduceIte, Int.reduceToNat, beq_self_eq_true, Bool.and_self, ofVal_nilFn, cU_refs]
    obtain ⟨m, hm⟩ : ∃ m : Nat, m = 65537 := ⟨_, rfl⟩
    have hbig : Int.toNat 65537 = m := by rw [hm]; rfl
    refine vwp_seq_k fun No hNo => vregH [159] tt_ok hF rfl ?_; simp only [↓hbig, go_sem, Int.reduceEq, Int.reduceNe, Int.reduceLT, Int.reduceLE, Nat.reduceEqDiff, Nat.reduceAdd, Nat.reduceMul, Nat.reduceLT, Nat.reduceLeDiff, Nat.reduceSub, reduceCtorEq, reduceIte, Int.reduceToNat, beq_self_eq_true, Bool.and_self, ofVal_nilFn, cU_refs]
    refine ⟨fun h => by have := congrArg List.length h; simp at this; omega, ?_⟩
    have hflat : (List.replicate m [V.int IntKind.u8 0]).flatten = (List.replicate 0 (42 : UInt8) ++ List.replicate (m - 0) 0).map cU := by
      have : List.replicate m [V.int IntKind.u8 0] = bytesR (List.replicate m (0 : UInt8)) := by unfold bytesR; rw [List.map_replicate]; rfl
      rw [this, cU_flat]; simp
    rw [hflat]
    refine hNo _ (VWp.keep [1,2,3,4,5,8,11,12] [8,159] ?_); simp only [go_sem, Int.reduceEq, Int.reduceNe, Int.reduceLT, Int.reduceLE, Nat.reduceEqDiff, Nat.reduceAdd, Nat.reduceMul, Nat.reduceLT, Nat.reduceLeDiff, Nat.reduceSub, reduceCtorEq, reduceIte, Int.reduceToNat, beq_self_eq_true, Bool.and_self, ofVal_nilFn, cU_refs]
    refine vwp_seq_k fun Np hNp => ?_
    refine vwp_seq_k fun Nq hNq => vreg tt_ok hF rfl ?_; simp only [go_sem, Int.reduceEq, Int.reduceNe, Int.reduceLT, Int.reduceLE, Nat.reduceEqDiff, Nat.reduceAdd, Nat.reduceMul, Nat.reduceLT, Nat.reduceLeDiff, Nat.reduceSub, reduceCtorEq, reduceIte, Int.reduceToNat, beq_self_eq_true, Bool.and_self, ofVal_nilFn, cU_refs]
    refine hNq _ (VWp.keep [1,2,3,4,5,8,11,12,161,162] [8,159] ?_); simp only [go_sem, Int.reduceEq, Int.reduceNe, Int.reduceLT, Int.reduceLE, Nat.reduceEqDiff, Nat.reduceAdd, Nat.reduceMul, Nat.reduceLT, Nat.reduceLeDiff, Nat.reduceSub, reduceCtorEq, reduceIte, Int.reduceToNat, beq_self_eq_true, Bool.and_self, ofVal_nilFn, cU_refs]
    refine vwp_block ?_
    refine vloop (fun j : Nat => [(1, .str baseT), (2, .bool true), (3, .bool true), (4, .bool true), (5, .bool true), (8, .ptr 8 0), (11, .bool true), (12, .hs 159 m), (161, .int .i64 (m : Int)), (162, .int .i64 (j : Int))])
      (fun j => [(8, .box 25 [.sl 5 (MC.us.map uniC), .int .i64 MC.store, .sl 2 (MC.ps.map parC)]), (159, .box 5 ((List.replicate j (42 : UInt8) ++ List.replicate (m - j) 0).map cU))]) (fun j => j ≤ m) (fun j => m - j) 0 (Nat.zero_le _) (by simp only [go_sem, Int.reduceEq, Int.reduceNe, Int.reduceLT, Int.reduceLE, Nat.reduceEqDiff, Nat.reduceAdd, Nat.reduceMul, Nat.reduceLT, Nat.reduceLeDiff, Nat.reduceSub, reduceCtorEq, reduceIte, Int.reduceToNat, beq_self_eq_true, Bool.and_self, ofVal_nilFn, cU_refs]; try trivial) ?_
    intro j hj
    refine vwp_seq_k fun Nr hNr => vreg tt_ok hF rfl ?_; simp only [go_sem, Int.reduceEq, Int.reduceNe, Int.reduceLT, Int.reduceLE, Nat.reduceEqDiff, Nat.reduceAdd, Nat.reduceMul, Nat.reduceLT, Nat.reduceLeDiff, Nat.reduceSub, reduceCtorEq, reduceIte, Int.reduceToNat, beq_self_eq_true, Bool.and_self, ofVal_nilFn, cU_refs]
    refine hNr _ (VWp.keep [1,2,3,4,5,8,11,12,161,162,163] [8,159] ?_); simp only [go_sem, Int.reduceEq, Int.reduceNe, Int.reduceLT, Int.reduceLE, Nat.reduceEqDiff, Nat.reduceAdd, Nat.reduceMul, Nat.reduceLT, Nat.reduceLeDiff, Nat.reduceSub, reduceCtorEq, reduceIte, Int.reduceToNat, beq_self_eq_true, Bool.and_self, ofVal_nilFn, cU_refs]
    refine vwp_seq_k fun Ns hNs => ?_
    refine vif rfl ⟨fun ht => ?_, fun hf => ?_⟩
    · have hjm : j < m := by have := of_decide_eq_true ht; omega
      have hpj : (0 : Int) ≤ (j : Int) ∧ (j : Int) < (m : Int) := ⟨by omega, by omega⟩
      refine vwp_skip (hNs _ ?_)
      refine vwp_seq_k fun Nt hNt => ?_
      refine vwp_block ?_
      refine vwp_seq_k fun Nu hNu => vreg tt_ok hF rfl ?_; simp only [go_sem, Int.reduceEq, Int.reduceNe, Int.reduceLT, Int.reduceLE, Nat.reduceEqDiff, Nat.reduceAdd, Nat.reduceMul, Nat.reduceLT, Nat.reduceLeDiff, Nat.reduceSub, reduceCtorEq, reduceIte, Int.reduceToNat, beq_self_eq_true, Bool.and_self, ofVal_nilFn, cU_refs]
      refine hNu _ (VWp.keep [1,2,3,4,5,8,11,12,13,161,162] [8,159] ?_); simp only [go_sem, Int.reduceEq, Int.reduceNe, Int.reduceLT, Int.reduceLE, Nat.reduceEqDiff, Nat.reduceAdd, Nat.reduceMul, Nat.reduceLT, Nat.reduceLeDiff, Nat.reduceSub, reduceCtorEq, reduceIte, Int.reduceToNat, beq_self_eq_true, Bool.and_self, ofVal_nilFn, cU_refs]
      refine vreg tt_ok hF rfl ?_; simp only [go_sem, Int.reduceEq, Int.reduceNe, Int.reduceLT, Int.reduceLE, Nat.reduceEqDiff, Nat.reduceAdd, Nat.reduceMul, Nat.reduceLT, Nat.reduceLeDiff, Nat.reduceSub, reduceCtorEq, reduceIte, Int.reduceToNat, beq_self_eq_true, Bool.and_self, ofVal_nilFn, cU_refs, hpj]
      refine ⟨by simp; omega, ?_⟩
      have hset : spl1 (j * 1) [V.int .u8 42] ((List.replicate j (42 : UInt8) ++ List.replicate (m - j) 0).map cU) = (List.replicate (j + 1) (42 : UInt8) ++ List.replicate (m - (j + 1)) 0).map cU := by
        rw [Nat.mul_one, ← cU_set j m hjm]
        exact spl1_setU _ _ _ (by simp; omega)
      obtain ⟨Z, hZ⟩ : ∃ Z, (List.replicate (j + 1) (42 : UInt8) ++ List.replicate (m - (j + 1)) 0) = Z := ⟨_, rfl⟩
      rw [hset, hZ]
      refine hNt _ (VWp.keep [1,2,3,4,5,8,11,12,161,162] [8,159] ?_); simp only [go_sem, Int.reduceEq, Int.reduceNe, Int.reduceLT, Int.reduceLE, Nat.reduceEqDiff, Nat.reduceAdd, Nat.reduceMul, Nat.reduceLT, Nat.reduceLeDiff, Nat.reduceSub, reduceCtorEq, reduceIte, Int.reduceToNat, beq_self_eq_true, Bool.and_self, ofVal_nilFn, cU_refs]
      refine vreg tt_ok hF rfl ?_; simp only [go_sem, Int.reduceEq, Int.reduceNe, Int.reduceLT, Int.reduceLE, Nat.reduceEqDiff, Nat.reduceAdd, Nat.reduceMul, Nat.reduceLT, Nat.reduceLeDiff, Nat.reduceSub, reduceCtorEq, reduceIte, Int.reduceToNat, beq_self_eq_true, Bool.and_self, ofVal_nilFn, cU_refs]
      rw [wrap_i64 (by omega) (by omega)]
      refine ⟨j + 1, by omega, by omega, ?_⟩
      rw [hZ]
      simp
    · have hjm : j = m := by have := of_decide_eq_false hf; omega
      subst hjm
      refine vwp_exit ?_
      simp only [go_sem, Int.reduceEq, Int.reduceNe, Int.reduceLT, Int.reduceLE, Nat.reduceEqDiff, Nat.reduceAdd, Nat.reduceMul, Nat.reduceLT, Nat.reduceLeDiff, Nat.reduceSub, reduceCtorEq, reduceIte, Int.reduceToNat, beq_self_eq_true, Bool.and_self, ofVal_nilFn, cU_refs]
      refine hNp _ (VWp.keep [1,2,3,4,5,8,11,12] [8,159] ?_); simp only [go_sem, Int.reduceEq, Int.reduceNe, Int.reduceLT, Int.reduceLE, Nat.reduceEqDiff, Nat.reduceAdd, Nat.reduceMul, Nat.reduceLT, Nat.reduceLeDiff, Nat.reduceSub, reduceCtorEq, reduceIte, Int.reduceToNat, beq_self_eq_true, Bool.and_self, ofVal_nilFn, cU_refs]
      have hrep : (List.replicate j (42 : UInt8) ++ List.replicate (j - j) 0).map cU = (bytesR (List.replicate j (42 : UInt8))).flatten := by rw [cU_flat]; simp
      refine VWp.cool 159 12 1 (E := 5) (rows := bytesR (List.replicate j (42 : UInt8))) [1, 2, 3, 4, 5, 8, 11, 12] [8] (by show V.hs 159 j = V.hs 159 (List.length _); rw [bytesR_len, List.length_replicate]) (by rw [← hrep]; rfl) (fun r hr => by obtain ⟨_, _, rfl⟩ := List.mem_map.1 hr; rfl) (fun r hr => by obtain ⟨_, _, rfl⟩ := List.mem_map.1 hr; rfl) ?_
      simp only [go_sem, Int.reduceEq, Int.reduceNe, Int.reduceLT, Int.reduceLE, Nat.reduceEqDiff, Nat.reduceAdd, Nat.reduceMul, Nat.reduceLT, Nat.reduceLeDiff, Nat.reduceSub, reduceCtorEq, reduceIte, Int.reduceToNat, beq_self_eq_true, Bool.and_self, ofVal_nilFn, cU_refs]
      have hbl : baseT.length = 24 := rfl
      have w1 : IntKind.i64.wrap (65536 - (baseT.length : Int)) = 65512 := by rw [hbl]; rfl
      have w2 : IntKind.i64.wrap (65512 - 1) = (65511 : Nat) := rfl
      obtain ⟨LL, hLL⟩ : ∃ L : Nat, L = 65511 := ⟨_, rfl⟩
      have htk : List.take 65511 (bytesR (List.replicate j (42 : UInt8))) = bytesR (List.replicate LL 42) := by
        unfold bytesR
        rw [← List.map_take, List.take_replicate, Nat.min_eq_left (by omega), hLL]
      have htb : toBytes? (bytesR (List.replicate LL (42 : UInt8))) = some (List.replicate LL 42) := toBytes_bytesR _
      have htb2 : toBytes? (bytesR (List.replicate j (42 : UInt8))) = some (List.replicate j 42) := toBytes_bytesR _
      have hlp := Parse_spec ((baseT ++ [10]) ++ List.replicate LL 42) (by rw [List.length_append, List.length_replicate]; show 25 + LL ≤ 1000000; omega)
      rw [long_parse LL (by omega) (by omega)] at hlp
      have hov := fails_spec (List.replicate j 42) 0 2 (by rw [List.length_replicate]; omega) (by rw [hm]; exact over_parse)
      unfold resC cfgC baseC at hlp
      refine vwp_seq_k fun Nv hNv => vreg tt_ok hF rfl ?_
      simp only [w1, w2, go_sem, Int.reduceEq, Int.reduceNe, Int.reduceLT, Int.reduceLE, Nat.reduceEqDiff, Nat.reduceAdd, Nat.reduceMul, Nat.reduceLT, Nat.reduceLeDiff, Nat.reduceSub, reduceCtorEq, reduceIte, Int.reduceToNat, beq_self_eq_true, Bool.and_self, ofVal_nilFn, cU_refs]
      refine ⟨by rw [hbl]; omega, by rw [bytesR_len, List.length_replicate]; omega, ?_⟩
      simp only [htk, htb, go_sem, Int.reduceEq, Int.reduceNe, Int.reduceLT, Int.reduceLE, Nat.reduceEqDiff, Nat.reduceAdd, Nat.reduceMul, Nat.reduceLT, Nat.reduceLeDiff, Nat.reduceSub, reduceCtorEq, reduceIte, Int.reduceToNat, beq_self_eq_true, Bool.and_self, ofVal_nilFn, cU_refs]
      refine ⟨by rw [List.length_append, List.length_replicate]; show 25 + LL ≤ _; omega, ?_⟩
      refine .inl ⟨_, hlp, ?_⟩; try simp only [go_sem, Int.reduceEq, Int.reduceNe, Int.reduceLT, Int.reduceLE, Nat.reduceEqDiff, Nat.reduceAdd, Nat.reduceMul, Nat.reduceLT, Nat.reduceLeDiff, Nat.reduceSub, reduceCtorEq, reduceIte, Int.reduceToNat, beq_self_eq_true, Bool.and_self, ofVal_nilFn, cU_refs]
      refine hNv _ (VWp.keepR [2,3,4,5,8,9,10,11,12] [8] tt_ok hF rfl fun Nw hNw => ?_); simp only [go_sem, Int.reduceEq, Int.reduceNe, Int.reduceLT, Int.reduceLE, Nat.reduceEqDiff, Nat.reduceAdd, Nat.reduceMul, Nat.reduceLT, Nat.reduceLeDiff, Nat.reduceSub, reduceCtorEq, reduceIte, Int.reduceToNat, beq_self_eq_true, Bool.and_self, ofVal_nilFn, cU_refs]
      try simp only [decide_true, htb2, go_sem, Int.reduceEq, Int.reduceNe, Int.reduceLT, Int.reduceLE, Nat.reduceEqDiff, Nat.reduceAdd, Nat.reduceMul, Nat.reduceLT, Nat.reduceLeDiff, Nat.reduceSub, reduceCtorEq, reduceIte, Int.reduceToNat, beq_self_eq_true, Bool.and_self, ofVal_nilFn, cU_refs]
      refine .inl ⟨_, hov, ?_⟩; try simp only [go_sem, Int.reduceEq, Int.reduceNe, Int.reduceLT, Int.reduceLE, Nat.reduceEqDiff, Nat.reduceAdd, Nat.reduceMul, Nat.reduceLT, Nat.reduceLeDiff, Nat.reduceSub, reduceCtorEq, reduceIte, Int.reduceToNat, beq_self_eq_true, Bool.and_self, ofVal_nilFn, cU_refs]
      refine hNw _ (VWp.keepR [2,3,4,5,8,11,14] [8] tt_ok hF rfl fun Nx hNx => ?_); simp only [go_sem, Int.reduceEq, Int.reduceNe, Int.reduceLT, Int.reduceLE, Nat.reduceEqDiff, Nat.reduceAdd, Nat.reduceMul, Nat.reduceLT, Nat.reduceLeDiff, Nat.reduceSub, reduceCtorEq, reduceIte, Int.reduceToNat, beq_self_eq_true, Bool.and_self, ofVal_nilFn, cU_refs]
      refine .inl ⟨_, hvo, ?_⟩; try simp only [go_sem, Int.reduceEq, Int.reduceNe, Int.reduceLT, Int.reduceLE, Nat.reduceEqDiff, Nat.reduceAdd, Nat.reduceMul, Nat.reduceLT, Nat.reduceLeDiff, Nat.reduceSub, reduceCtorEq, reduceIte, Int.reduceToNat, beq_self_eq_true, Bool.and_self, ofVal_nilFn, cU_refs]
      refine hNx _ (VWp.keepR [2,3,4,5,11,14,15,16] [15] tt_ok hF rfl fun Ny hNy => ?_); simp only [go_sem, Int.reduceEq, Int.reduceNe, Int.reduceLT, Int.reduceLE, Nat.reduceEqDiff, Nat.reduceAdd, Nat.reduceMul, Nat.reduceLT, Nat.reduceLeDiff, Nat.reduceSub, reduceCtorEq, reduceIte, Int.reduceToNat, beq_self_eq_true, Bool.and_self, ofVal_nilFn, cU_refs]
      try simp only [decide_true, go_sem, Int.reduceEq, Int.reduceNe, Int.reduceLT, Int.reduceLE, Nat.reduceEqDiff, Nat.reduceAdd, Nat.reduceMul, Nat.reduceLT, Nat.reduceLeDiff, Nat.reduceSub, reduceCtorEq, reduceIte, Int.reduceToNat, beq_self_eq_true, Bool.and_self, ofVal_nilFn, cU_refs]
      refine .inl ⟨_, works_spec, ?_⟩; try simp only [go_sem, Int.reduceEq, Int.reduceNe, Int.reduceLT, Int.reduceLE, Nat.reduceEqDiff, Nat.reduceAdd, Nat.reduceMul, Nat.reduceLT, Nat.reduceLeDiff, Nat.reduceSub, reduceCtorEq, reduceIte, Int.reduceToNat, beq_self_eq_true, Bool.and_self, ofVal_nilFn, cU_refs]
      refine hNy _ (VWp.keep [0] [] ?_); simp only [go_sem, Int.reduceEq, Int.reduceNe, Int.reduceLT, Int.reduceLE, Nat.reduceEqDiff, Nat.reduceAdd, Nat.reduceMul, Nat.reduceLT, Nat.reduceLeDiff, Nat.reduceSub, reduceCtorEq, reduceIte, Int.reduceToNat, beq_self_eq_true, Bool.and_self, ofVal_nilFn, cU_refs]
      (refine vwp_ret ?_; simp only [go_sem, Int.reduceEq, Int.reduceNe, Int.reduceLT, Int.reduceLE, Nat.reduceEqDiff, Nat.reduceAdd, Nat.reduceMul, Nat.reduceLT, Nat.reduceLeDiff, Nat.reduceSub, reduceCtorEq, reduceIte, Int.reduceToNat, beq_self_eq_true, Bool.and_self, ofVal_nilFn, cU_refs]; first | exact LeV.refl _ | exact LeV.of_eq (by simp))
end Go.Proofs.YtedbbinlcdgkoaaGreatDoor
