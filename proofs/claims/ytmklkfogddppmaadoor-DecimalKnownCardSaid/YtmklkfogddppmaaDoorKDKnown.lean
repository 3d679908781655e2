/- DecimalKnown (printed by wip/tools/gen4k.py). -/
import Derived.Test.YtmklkfogddppmaaDoorKDWorks
import Derived.Test.YtmklkfogddppmaaDoorKDBin
import Derived.Test.YtmklkfogddppmaaDoorKDShiftR
namespace Go.Proofs.YtmklkfogddppmaaDoor
open Go.RowKit Go.Shelf
set_option linter.unusedVariables false
set_option linter.unusedSimpArgs false

theorem addk_ex : addF [153, 156] [28] false = ([0, 12], 3, 10) := by
  have h : sumN [153, 156] [28] false = (false, 1000) := by decide +kernel
  have hd : digs 1000 = [0, 0, 0, 1] := by rw [digs_pos (by decide), digs_pos (by decide), digs_pos (by decide), digs_small (by decide) (by decide)]
  unfold addF
  rw [if_pos (by decide +kernel), h]
  unfold finF finS finC finO fldN
  simp only
  rw [hd]
  decide +kernel
theorem zapk_ex : zapF 1 [1, 13] = ([13], 3, 10) := by
  have h : rv [1, 13] = 10 := by decide +kernel
  have hd : digs 10 = [0, 1] := by rw [digs_pos (by decide), digs_small (by decide) (by decide)]
  unfold zapF
  rw [if_pos (by decide +kernel), if_pos (by decide +kernel), h]
  unfold finF finS finC finO fldN
  simp only
  rw [hd]
  decide +kernel
theorem mulk_ex : mulF [0, 1, 44] [61] = ([0, 3, 109], 0) := by
  have h1 : rv [0, 1, 44] = 12 := by decide +kernel
  have h2 : rv [61] = 3 := by decide +kernel
  have hd : digs 36 = [6, 3] := by rw [digs_pos (by decide), digs_small (by decide) (by decide)]
  unfold mulF
  rw [if_pos (by decide +kernel), if_pos (by decide +kernel), h1, h2]
  unfold fldN
  rw [show 12 * 3 = 36 from rfl, hd]
  decide +kernel
theorem shiftk_ex : shiftF [18, 92] (-1) 5 = ([1, 60], 2, 0) := by
  have h1 : rv [18, 92] = 125 := by decide +kernel
  have hd : digs 13 = [3, 1] := by rw [digs_pos (by decide), digs_small (by decide) (by decide)]
  unfold shiftF
  rw [if_pos (by decide +kernel), if_pos (by decide +kernel), h1, show shv 125 (-1) 5 = 13 from by decide +kernel]
  unfold finF finS finC finO fldN
  simp only
  rw [hd]
  decide +kernel
theorem bink_ex : toF [0, 0, 0, 0, 0, 0, 18, 61] = (4294967173, 0) := by decide +kernel

theorem add_k (W : World) (v0 v1 : Value) (h0 : Reads W v0 [153, 156]) (h1 : Reads W v1 [28]) (h9 : Tab W) : Calls Tryd.prog 21 #[v0, v1] W fun e w' => ∃ u, e = .returned (.tuple #[u, .int .i64 3, .int .i64 10]) ∧ w'.ownsRow W.heap.size 5 1 u 2 (([0, 12] : Bs).map eb) ∧ Chg [] W w' := by
  have h := Add_any W v0 v1 [153, 156] [28] h0 h1 h9
  rw [addk_ex] at h
  exact h

theorem zap_k (W : World) (v0 : Value) (h0 : Reads W v0 [1, 13]) (h9 : Tab W) : Calls Tryd.prog 25 #[.int .i64 1, v0] W fun e w' => ∃ u, e = .returned (.tuple #[u, .int .i64 3, .int .i64 10]) ∧ w'.ownsRow W.heap.size 5 1 u 1 (([13] : Bs).map eb) ∧ Chg [] W w' := by
  have h := Zap_any W 1 v0 [1, 13] h0
  rw [zapk_ex] at h
  exact h

theorem mul_k (W : World) (v0 v1 : Value) (h0 : Reads W v0 [0, 1, 44]) (h1 : Reads W v1 [61]) (h9 : Tab W) : Calls Tryd.prog 17 #[v0, v1] W fun e w' => ∃ u, e = .returned (.tuple #[u, .int .i64 0]) ∧ w'.ownsRow W.heap.size 5 1 u 3 (([0, 3, 109] : Bs).map eb) ∧ Chg [] W w' := by
  have h := Multiply_any W v0 v1 [0, 1, 44] [61] h0 h1 h9
  rw [mulk_ex] at h
  exact h

theorem shift_k (W : World) (v0 : Value) (h0 : Reads W v0 [18, 92]) (h9 : Tab W) : Calls Tryd.prog 32 #[v0, .int .i64 (-1), .int .i64 5] W fun e w' => ∃ u, e = .returned (.tuple #[u, .int .i64 2, .int .i64 0]) ∧ w'.ownsRow W.heap.size 5 1 u 2 (([1, 60] : Bs).map eb) ∧ Chg [] W w' := by
  have h := Shift_any W v0 [18, 92] (-1) 5 h0 h9
  rw [shiftk_ex] at h
  exact h

theorem bin_k (W : World) (v0 : Value) (h0 : Reads W v0 [0, 0, 0, 0, 0, 0, 18, 61]) (h9 : Tab W) : Calls Tryd.prog 27 #[v0] W fun e w' => e = .returned (.tuple #[.int .u32 4294967173, .int .i64 0]) ∧ Chg [] W w' := by
  have h := ToBinary_any W v0 [0, 0, 0, 0, 0, 0, 18, 61] h0
  rw [bink_ex] at h
  exact h

set_option maxRecDepth 100000 in
set_option maxHeartbeats 1000000 in
theorem DecimalKnown_in (w : World) (ht : Tab w) : Calls Tryd.prog 12 #[] w fun e w' => e = .returned (.bool true) ∧ Chg [] w w' := by
  have HT := hid ht
  have HC := hid (Chg.refl [] w)
  clear ht
  go_enter Tryd.func12, Tryd.ntmps12
  go_wp2_with (fail)
  go_at_call 21
  refine Calls.mono (add_k _ _ _ ((Reads.litk [153, 156] (by first | rfl | simp) rfl rfl (by decide)).keep1 (Chg.alloc _ _ _)) (Reads.litk [28] (by first | rfl | simp) rfl rfl (by decide)) (((HT.out.keep HC.out).alloc _).alloc _)) ?_
  rintro e W1 ⟨u1, rfl, hO, hc⟩
  have hcx := ((Chg.alloc [] w (.cells #[.int .u8 153, .int .u8 156] 5)).trans (Chg.alloc [] _ (.cells #[.int .u8 28] 5))).trans hc
  have Hu1 := hid (Reads.of_own (xs := [0, 12]) hO)
  clear hO
  have HC2 := hid (HC.out.trans hcx)
  clear hc hcx HC
  have HC := HC2
  clear HC2
  go_wp2_with (fail)
  go_at_call 25
  refine Calls.mono (zap_k _ _ (Reads.litk [1, 13] (by first | rfl | simp) rfl rfl (by decide)) ((HT.out.keep HC.out).alloc _)) ?_
  rintro e W2 ⟨u2, rfl, hO, hc⟩
  have hcx := (Chg.alloc [] W1 (.cells #[.int .u8 1, .int .u8 13] 5)).trans hc
  have Nu1 := hid (Hu1.out.keep1 hcx)
  clear Hu1
  have Hu1 := Nu1
  clear Nu1
  have Hu2 := hid (Reads.of_own (xs := [13]) hO)
  clear hO
  have HC2 := hid (HC.out.trans hcx)
  clear hc hcx HC
  have HC := HC2
  clear HC2
  go_wp2_with (fail)
  go_at_call 17
  refine Calls.mono (mul_k _ _ _ ((Reads.litk [0, 1, 44] (by first | rfl | simp) rfl rfl (by decide)).keep1 (Chg.alloc _ _ _)) (Reads.litk [61] (by first | rfl | simp) rfl rfl (by decide)) (((HT.out.keep HC.out).alloc _).alloc _)) ?_
  rintro e W3 ⟨u3, rfl, hO, hc⟩
  have hcx := ((Chg.alloc [] W2 (.cells #[.int .u8 0, .int .u8 1, .int .u8 44] 5)).trans (Chg.alloc [] _ (.cells #[.int .u8 61] 5))).trans hc
  have Nu1 := hid (Hu1.out.keep1 hcx)
  have Nu2 := hid (Hu2.out.keep1 hcx)
  clear Hu1 Hu2
  have Hu1 := Nu1
  have Hu2 := Nu2
  clear Nu1 Nu2
  have Hu3 := hid (Reads.of_own (xs := [0, 3, 109]) hO)
  clear hO
  have HC2 := hid (HC.out.trans hcx)
  clear hc hcx HC
  have HC := HC2
  clear HC2
  go_wp2_with (fail)
  go_at_call 32
  refine Calls.mono (shift_k _ _ (Reads.litk [18, 92] (by first | rfl | simp) rfl rfl (by decide)) ((HT.out.keep HC.out).alloc _)) ?_
  rintro e W4 ⟨u4, rfl, hO, hc⟩
  have hcx := (Chg.alloc [] W3 (.cells #[.int .u8 18, .int .u8 92] 5)).trans hc
  have Nu1 := hid (Hu1.out.keep1 hcx)
  have Nu2 := hid (Hu2.out.keep1 hcx)
  have Nu3 := hid (Hu3.out.keep1 hcx)
  clear Hu1 Hu2 Hu3
  have Hu1 := Nu1
  have Hu2 := Nu2
  have Hu3 := Nu3
  clear Nu1 Nu2 Nu3
  have Hu4 := hid (Reads.of_own (xs := [1, 60]) hO)
  clear hO
  have HC2 := hid (HC.out.trans hcx)
  clear hc hcx HC
  have HC := HC2
  clear HC2
  go_wp2_with (fail)
  go_at_call 27
  refine Calls.mono (bin_k _ _ (Reads.litk [0, 0, 0, 0, 0, 0, 18, 61] (by first | rfl | simp) rfl rfl (by decide)) ((HT.out.keep HC.out).alloc _)) ?_
  rintro e W5 ⟨rfl, hc⟩
  have hcx := (Chg.alloc [] W4 (.cells #[.int .u8 0, .int .u8 0, .int .u8 0, .int .u8 0, .int .u8 0, .int .u8 0, .int .u8 18, .int .u8 61] 5)).trans hc
  have Nu1 := hid (Hu1.out.keep1 hcx)
  have Nu2 := hid (Hu2.out.keep1 hcx)
  have Nu3 := hid (Hu3.out.keep1 hcx)
  have Nu4 := hid (Hu4.out.keep1 hcx)
  clear Hu1 Hu2 Hu3 Hu4
  have Hu1 := Nu1
  have Hu2 := Nu2
  have Hu3 := Nu3
  have Hu4 := Nu4
  clear Nu1 Nu2 Nu3 Nu4
  have HC2 := hid (HC.out.trans hcx)
  clear hc hcx HC
  have HC := HC2
  clear HC2
  go_wp2_with (fail)
  go_at_call 15
  refine Calls.mono (same3 _ _ _ [0, 12] (Hu1.out.keep1 (Chg.alloc _ _ _)) (Reads.litk [0, 12] (by first | rfl | simp) rfl rfl (by decide))) ?_
  rintro e V0 ⟨rfl, rfl⟩
  go_wp2_with (fail)
  go_at_call 15
  refine Calls.mono (same3 _ _ _ [13] ((Hu2.out.keep1 (Chg.alloc _ _ _)).keep1 (Chg.alloc _ _ _)) (Reads.litk [13] (by first | rfl | simp) rfl rfl (by decide))) ?_
  rintro e V1 ⟨rfl, rfl⟩
  go_wp2_with (fail)
  go_at_call 15
  refine Calls.mono (same3 _ _ _ [0, 3, 109] (((Hu3.out.keep1 (Chg.alloc _ _ _)).keep1 (Chg.alloc _ _ _)).keep1 (Chg.alloc _ _ _)) (Reads.litk [0, 3, 109] (by first | rfl | simp) rfl rfl (by decide))) ?_
  rintro e V2 ⟨rfl, rfl⟩
  go_wp2_with (fail)
  go_at_call 15
  refine Calls.mono (same3 _ _ _ [1, 60] ((((Hu4.out.keep1 (Chg.alloc _ _ _)).keep1 (Chg.alloc _ _ _)).keep1 (Chg.alloc _ _ _)).keep1 (Chg.alloc _ _ _)) (Reads.litk [1, 60] (by first | rfl | simp) rfl rfl (by decide))) ?_
  rintro e V3 ⟨rfl, rfl⟩
  go_wp2_with (fail)
  go_at_call 16
  refine Calls.mono (works_yes _ (((((HT.out.keep HC.out).alloc _).alloc _).alloc _).alloc _)) ?_
  rintro e WE ⟨rfl, hc⟩
  go_wp2_with (fail)
  go_returns
  exact ⟨rfl, ((((HC.out.trans (Chg.alloc [] _ _)).trans (Chg.alloc [] _ _)).trans (Chg.alloc [] _ _)).trans (Chg.alloc [] _ _)).trans hc⟩

end Go.Proofs.YtmklkfogddppmaaDoor
