import Derived.Outline
import Derived.Test.YtedbbinlcdgkoaaGreatDoorQT
import Derived.Test.YtedbbinlcdgkoaaGreatDoorYC

/- Layer 19: Find, Volume; the law's fails and works. -/
namespace Go.Proofs.YtedbbinlcdgkoaaGreatDoor
open Go.RowKit Go.Lib
-- FUSE
-- LESS
set_option linter.unusedVariables false
set_option linter.unusedSimpArgs false
set_option maxHeartbeats 4000000 in
set_option maxRecDepth 4000 in
theorem fails_spec (t : Bs) (line e : Int) (ht : t.length ≤ 1000000) (h : parseT t = (zeroC, line, e)) : Spec Tryz.prog 25 [.str t, .int .i64 line, .int .i64 e] (.bool true) := by
  have hp := Parse_spec t ht
  rw [h] at hp
  unfold resC cfgC zeroC at hp
  simp only [List.map_nil] at hp
  refine spec_of tt_ok Tryz.func25 rfl (by decide) Tryz.ntmps25 (congrArg Array.toList Tryz.results25) (by simp) (by decide) rfl rfl (fun F hF => ?_)
  refine vwp_seq_k fun Na hNa => vreg tt_ok hF rfl ?_; simp only [go_sem, Int.reduceEq, Int.reduceLT, Nat.reduceEqDiff, Nat.reduceAdd, Nat.reduceMul, Nat.reduceLT, Nat.reduceLeDiff, Int.reduceToNat]
  refine hNa _ (VWp.keepR [0,1,2] [] tt_ok hF rfl fun Nb hNb => ?_); simp only [go_sem, Int.reduceEq, Int.reduceLT, Nat.reduceEqDiff, Nat.reduceAdd, Nat.reduceMul, Nat.reduceLT, Nat.reduceLeDiff, Int.reduceToNat]
  refine .inl ⟨_, hp, ?_⟩; try simp only [go_sem, Int.reduceEq, Int.reduceLT, Nat.reduceEqDiff, Nat.reduceAdd, Nat.reduceMul, Nat.reduceLT, Nat.reduceLeDiff, Int.reduceToNat]
  refine hNb _ (VWp.keepR [1,2,7,8,9] [7] tt_ok hF rfl fun Nc hNc => ?_); simp only [decide_true, List.length_nil, go_sem, Int.reduceEq, Int.reduceLT, Nat.reduceEqDiff, Nat.reduceAdd, Nat.reduceMul, Nat.reduceLT, Nat.reduceLeDiff, Int.reduceToNat]
  refine hNc _ (VWp.keep [6] [] ?_); simp only [go_sem, Int.reduceEq, Int.reduceLT, Nat.reduceEqDiff, Nat.reduceAdd, Nat.reduceMul, Nat.reduceLT, Nat.reduceLeDiff, Int.reduceToNat]
  refine vwp_ret ?_
  simp only [go_sem, Int.reduceEq, Int.reduceLT, Nat.reduceEqDiff, Nat.reduceAdd, Nat.reduceMul, Nat.reduceLT, Nat.reduceLeDiff, Int.reduceToNat]
  exact LeV.refl _
def txt1 : Bs := [83, 84, 79, 82, 69, 32, 49, 54, 51, 56, 52, 10, 80, 65, 82, 84, 32, 56, 49, 57, 50, 32, 65, 10, 85, 78, 73, 84, 32, 48, 48, 67, 32, 82, 69, 65, 68, 69, 82, 10]
def cfg1 : CfgT := ⟨[⟨12, 1, [], 0, 0⟩], 16384, [⟨8192, [65]⟩]⟩
theorem parse1 : parseT txt1 = (cfg1, 0, 0) := by kernel_rfl
theorem dec_16384 : decDigits 16384 = [49, 54, 51, 56, 52] := by
  rw [decDigits, dif_neg (by decide), decDigits, dif_neg (by decide), decDigits, dif_neg (by decide), decDigits, dif_neg (by decide), decDigits, dif_pos (by decide)]; rfl
theorem dec_8192 : decDigits 8192 = [56, 49, 57, 50] := by
  rw [decDigits, dif_neg (by decide), decDigits, dif_neg (by decide), decDigits, dif_neg (by decide), decDigits, dif_pos (by decide)]; rfl
theorem print1 : printT cfg1 = txt1 := by
  have h1 : decI 16384 = [49, 54, 51, 56, 52] := dec_16384
  have h2 : decI 8192 = [56, 49, 57, 50] := dec_8192
  unfold printT linesC cfg1 storeW
  simp only [List.map_cons, List.map_nil, partW, unitW, h1, h2]
  rfl
theorem chk1 : chkE cfg1 = 0 := by kernel_rfl
end Go.Proofs.YtedbbinlcdgkoaaGreatDoor

/- Layer 19: works. -/
namespace Go.Proofs.YtedbbinlcdgkoaaGreatDoor
open Go.RowKit Go.Lib
-- FUSE
-- LESS2
set_option linter.unusedVariables false
set_option linter.unusedSimpArgs false
def txt2 : Bs := [32, 32, 83, 84, 79, 82, 69, 32, 32, 32, 49, 54, 51, 56, 52, 10, 42, 32, 97, 32, 99, 111, 109, 109, 101, 110, 116, 10, 80, 65, 82, 84, 32, 50, 48, 52, 56, 32, 65, 66, 10, 85, 78, 73, 84, 32, 49, 57, 49, 32, 68, 73, 83, 75, 32, 86, 79, 76, 48, 48, 50, 32, 52, 32, 50, 10, 85, 78, 73, 84, 32, 49, 57, 48, 32, 84, 65, 80, 69, 32, 84, 49]
def cfg2 : CfgT := ⟨[⟨400, 4, [84, 49], 0, 0⟩, ⟨401, 5, [86, 79, 76, 48, 48, 50], 4, 2⟩], 16384, [⟨2048, [65, 66]⟩]⟩
theorem parse2 : parseT txt2 = (cfg2, 0, 0) := by kernel_rfl
theorem bad0 : parseT [83, 84, 79, 82, 69, 32, 49, 54, 51, 56, 52, 10, 83, 84, 79, 82, 69, 32, 49, 54, 51, 56, 52] = (zeroC, 2, 190) := by kernel_rfl
theorem bad1 : parseT [83, 84, 79, 82, 69, 32, 49, 54, 51, 56, 52, 10, 80, 65, 82, 84, 32, 56, 49, 57, 50, 32, 65, 65] = (zeroC, 2, 190) := by kernel_rfl
theorem bad2 : parseT [83, 84, 79, 82, 69, 32, 48, 49, 54, 51, 56, 52] = (zeroC, 1, 190) := by kernel_rfl
theorem bad3 : parseT [83, 84, 79, 82, 69, 32, 49, 54, 48, 48, 48] = (zeroC, 1, 190) := by kernel_rfl
theorem bad4 : parseT [85, 78, 73, 84, 32, 52, 48, 48, 32, 82, 69, 65, 68, 69, 82] = (zeroC, 1, 190) := by kernel_rfl
theorem bad5 : parseT [85, 78, 73, 84, 32, 48, 48, 99, 32, 82, 69, 65, 68, 69, 82] = (zeroC, 1, 190) := by kernel_rfl
theorem bad6 : parseT [83, 84, 79, 82, 69, 32, 49, 54, 51, 56, 52] = (zeroC, 0, 190) := by kernel_rfl
theorem bad7 : parseT [] = (zeroC, 0, 190) := by kernel_rfl
theorem bad8 : parseT [83, 84, 79, 82, 69, 32, 56, 49, 57, 50, 10, 80, 65, 82, 84, 32, 50, 48, 52, 56, 32, 65] = (zeroC, 0, 190) := by kernel_rfl
set_option maxHeartbeats 16000000 in
set_option maxRecDepth 100000 in
theorem works_spec : Spec Tryz.prog 13 [] (.bool true) := by
  have hp1 := Parse_spec txt1 (by decide)
  rw [parse1] at hp1
  have hp2 := Parse_spec txt2 (by decide)
  rw [parse2] at hp2
  unfold resC cfgC cfg1 txt1 uniC parC at hp1
  unfold resC cfgC cfg2 txt2 uniC parC at hp2
  simp only [List.map_cons, List.map_nil] at hp1 hp2
  have hpr := Print_spec cfg1
  unfold prtR at hpr
  rw [if_pos chk1, chk1, print1] at hpr
  have hck := Check_spec cfg1
  rw [chk1] at hck
  unfold cfgC cfg1 txt1 uniC parC at hpr
  unfold cfgC cfg1 uniC parC at hck
  simp only [List.map_cons, List.map_nil] at hpr hck
  have hb0 := fails_spec _ _ _ (by decide) bad0
  have hb1 := fails_spec _ _ _ (by decide) bad1
  have hb2 := fails_spec _ _ _ (by decide) bad2
  have hb3 := fails_spec _ _ _ (by decide) bad3
  have hb4 := fails_spec _ _ _ (by decide) bad4
  have hb5 := fails_spec _ _ _ (by decide) bad5
  have hb6 := fails_spec _ _ _ (by decide) bad6
  have hb7 := fails_spec _ _ _ (by decide) bad7
  have hb8 := fails_spec _ _ _ (by decide) bad8
  refine spec_of tt_ok Tryz.func13 rfl (by decide) Tryz.ntmps13 (congrArg Array.toList Tryz.results13) (by simp) (by decide) rfl rfl (fun F hF => ?_)
  refine vwp_seq_k fun Na hNa => vreg tt_ok hF rfl ?_; simp only [go_sem, Int.reduceEq, Int.reduceLT, Int.reduceLE, Nat.reduceEqDiff, Nat.reduceAdd, Nat.reduceMul, Nat.reduceLT, Nat.reduceLeDiff, reduceCtorEq, Int.reduceToNat]
  refine hNa _ (VWp.keepR [] [] tt_ok hF rfl fun Nb hNb => ?_); simp only [go_sem, Int.reduceEq, Int.reduceLT, Int.reduceLE, Nat.reduceEqDiff, Nat.reduceAdd, Nat.reduceMul, Nat.reduceLT, Nat.reduceLeDiff, reduceCtorEq, Int.reduceToNat]
  refine .inl ⟨_, hp1, ?_⟩; try simp only [go_sem, Int.reduceEq, Int.reduceLT, Int.reduceLE, Nat.reduceEqDiff, Nat.reduceAdd, Nat.reduceMul, Nat.reduceLT, Nat.reduceLeDiff, reduceCtorEq, Int.reduceToNat]
  refine hNb _ (VWp.keepR [1,2,3] [1] tt_ok hF rfl fun Nc hNc => ?_); simp only [List.length_cons, List.length_nil, List.getD_cons_zero, go_sem, Int.reduceEq, Int.reduceLT, Int.reduceLE, Nat.reduceEqDiff, Nat.reduceAdd, Nat.reduceMul, Nat.reduceLT, Nat.reduceLeDiff, reduceCtorEq, Int.reduceToNat]
  refine hNc _ (VWp.keepR [1,4] [1] tt_ok hF rfl fun Nd hNd => ?_); simp only [go_sem, Int.reduceEq, Int.reduceLT, Int.reduceLE, Nat.reduceEqDiff, Nat.reduceAdd, Nat.reduceMul, Nat.reduceLT, Nat.reduceLeDiff, reduceCtorEq, Int.reduceToNat]
  refine .inl ⟨_, hp2, ?_⟩; try simp only [go_sem, Int.reduceEq, Int.reduceLT, Int.reduceLE, Nat.reduceEqDiff, Nat.reduceAdd, Nat.reduceMul, Nat.reduceLT, Nat.reduceLeDiff, reduceCtorEq, Int.reduceToNat]
  refine hNd _ (VWp.keepR [1,2,3,4,5] [1,5] tt_ok hF rfl fun Ne hNe => ?_); simp only [List.length_cons, List.length_nil, List.getD_cons_zero, List.getD_cons_succ, go_sem, Int.reduceEq, Int.reduceLT, Int.reduceLE, Nat.reduceEqDiff, Nat.reduceAdd, Nat.reduceMul, Nat.reduceLT, Nat.reduceLeDiff, reduceCtorEq, Int.reduceToNat]
  refine hNe _ (VWp.keepR [1,4,6] [1] tt_ok hF rfl fun Nf hNf => ?_); simp only [go_sem, Int.reduceEq, Int.reduceLT, Int.reduceLE, Nat.reduceEqDiff, Nat.reduceAdd, Nat.reduceMul, Nat.reduceLT, Nat.reduceLeDiff, reduceCtorEq, Int.reduceToNat]
  refine .inl ⟨_, hb0, ?_⟩; try simp only [go_sem, Int.reduceEq, Int.reduceLT, Int.reduceLE, Nat.reduceEqDiff, Nat.reduceAdd, Nat.reduceMul, Nat.reduceLT, Nat.reduceLeDiff, reduceCtorEq, Int.reduceToNat]
  refine .inl ⟨_, hb1, ?_⟩; try simp only [go_sem, Int.reduceEq, Int.reduceLT, Int.reduceLE, Nat.reduceEqDiff, Nat.reduceAdd, Nat.reduceMul, Nat.reduceLT, Nat.reduceLeDiff, reduceCtorEq, Int.reduceToNat]
  refine .inl ⟨_, hb2, ?_⟩; try simp only [go_sem, Int.reduceEq, Int.reduceLT, Int.reduceLE, Nat.reduceEqDiff, Nat.reduceAdd, Nat.reduceMul, Nat.reduceLT, Nat.reduceLeDiff, reduceCtorEq, Int.reduceToNat]
  refine .inl ⟨_, hb3, ?_⟩; try simp only [go_sem, Int.reduceEq, Int.reduceLT, Int.reduceLE, Nat.reduceEqDiff, Nat.reduceAdd, Nat.reduceMul, Nat.reduceLT, Nat.reduceLeDiff, reduceCtorEq, Int.reduceToNat]
  refine .inl ⟨_, hb4, ?_⟩; try simp only [go_sem, Int.reduceEq, Int.reduceLT, Int.reduceLE, Nat.reduceEqDiff, Nat.reduceAdd, Nat.reduceMul, Nat.reduceLT, Nat.reduceLeDiff, reduceCtorEq, Int.reduceToNat]
  refine .inl ⟨_, hb5, ?_⟩; try simp only [go_sem, Int.reduceEq, Int.reduceLT, Int.reduceLE, Nat.reduceEqDiff, Nat.reduceAdd, Nat.reduceMul, Nat.reduceLT, Nat.reduceLeDiff, reduceCtorEq, Int.reduceToNat]
  refine hNf _ (VWp.keepR [1,4,6,7] [1] tt_ok hF rfl fun Ng hNg => ?_); simp only [go_sem, Int.reduceEq, Int.reduceLT, Int.reduceLE, Nat.reduceEqDiff, Nat.reduceAdd, Nat.reduceMul, Nat.reduceLT, Nat.reduceLeDiff, reduceCtorEq, Int.reduceToNat]
  refine .inl ⟨_, hb6, ?_⟩; try simp only [go_sem, Int.reduceEq, Int.reduceLT, Int.reduceLE, Nat.reduceEqDiff, Nat.reduceAdd, Nat.reduceMul, Nat.reduceLT, Nat.reduceLeDiff, reduceCtorEq, Int.reduceToNat]
  refine .inl ⟨_, hb7, ?_⟩; try simp only [go_sem, Int.reduceEq, Int.reduceLT, Int.reduceLE, Nat.reduceEqDiff, Nat.reduceAdd, Nat.reduceMul, Nat.reduceLT, Nat.reduceLeDiff, reduceCtorEq, Int.reduceToNat]
  refine .inl ⟨_, hb8, ?_⟩; try simp only [go_sem, Int.reduceEq, Int.reduceLT, Int.reduceLE, Nat.reduceEqDiff, Nat.reduceAdd, Nat.reduceMul, Nat.reduceLT, Nat.reduceLeDiff, reduceCtorEq, Int.reduceToNat]
  refine hNg _ (VWp.keepR [1,4,6,7,8] [1] tt_ok hF rfl fun Nh hNh => ?_); simp only [go_sem, Int.reduceEq, Int.reduceLT, Int.reduceLE, Nat.reduceEqDiff, Nat.reduceAdd, Nat.reduceMul, Nat.reduceLT, Nat.reduceLeDiff, reduceCtorEq, Int.reduceToNat]
  refine .inl ⟨_, hpr, ?_⟩; try simp only [go_sem, Int.reduceEq, Int.reduceLT, Int.reduceLE, Nat.reduceEqDiff, Nat.reduceAdd, Nat.reduceMul, Nat.reduceLT, Nat.reduceLeDiff, reduceCtorEq, Int.reduceToNat]
  refine hNh _ (VWp.keepR [1,4,6,7,8,9,10] [1] tt_ok hF rfl fun Ni hNi => ?_); simp only [go_sem, Int.reduceEq, Int.reduceLT, Int.reduceLE, Nat.reduceEqDiff, Nat.reduceAdd, Nat.reduceMul, Nat.reduceLT, Nat.reduceLeDiff, reduceCtorEq, Int.reduceToNat]
  refine .inl ⟨_, hck, ?_⟩; try simp only [go_sem, Int.reduceEq, Int.reduceLT, Int.reduceLE, Nat.reduceEqDiff, Nat.reduceAdd, Nat.reduceMul, Nat.reduceLT, Nat.reduceLeDiff, reduceCtorEq, Int.reduceToNat]
  refine hNi _ (VWp.keep [0] [] ?_); simp only [go_sem, Int.reduceEq, Int.reduceLT, Int.reduceLE, Nat.reduceEqDiff, Nat.reduceAdd, Nat.reduceMul, Nat.reduceLT, Nat.reduceLeDiff, reduceCtorEq, Int.reduceToNat]
  refine vwp_ret ?_
  simp only [go_sem, Int.reduceEq, Int.reduceLT, Int.reduceLE, Nat.reduceEqDiff, Nat.reduceAdd, Nat.reduceMul, Nat.reduceLT, Nat.reduceLeDiff, reduceCtorEq, Int.reduceToNat]
  first | exact LeV.refl _ | exact LeV.of_eq (by simp)
end Go.Proofs.YtedbbinlcdgkoaaGreatDoor
