/- The laws of layer 4 that compare the program with its reference (printed by wip/tools/gen4.py). -/
import Derived.Test.YtmklkfogddppmaaDoorKDWorks
import Derived.Test.YtmklkfogddppmaaDoorKDRefF
import Derived.Test.YtmklkfogddppmaaDoorKDRefJ
import Derived.Test.YtmklkfogddppmaaDoorKDRefL
import Derived.Test.YtmklkfogddppmaaDoorKDBin
namespace Go.Proofs.YtmklkfogddppmaaDoor
open Go.RowKit Go.Shelf
set_option linter.unusedVariables false
set_option linter.unusedSimpArgs false

set_option maxRecDepth 100000 in
set_option maxHeartbeats 1000000 in
theorem DecimalAdds_in (w : World) (va vb : Value) (a b : Bs) (n : Int)  (hva : Reads w va a) (hvb : Reads w vb b) (ht : Tab w) :
    Calls Tryd.prog 6 #[va, vb, .int .i64 n] w fun e w' => e = .returned (.bool true) ∧ Chg [] w w' := by
  obtain ⟨x, hx⟩ : ∃ x, addF a b false = x := ⟨_, rfl⟩
  obtain ⟨xr, xc, xk⟩ := x
  obtain ⟨y, hy⟩ : ∃ x, addF a b true = x := ⟨_, rfl⟩
  obtain ⟨yr, yc, yk⟩ := y
  obtain ⟨z, hz⟩ : ∃ x, zapF n b = x := ⟨_, rfl⟩
  obtain ⟨zr, zc, zk⟩ := z
  have HA := hid hva
  have HB := hid hvb
  have HT := hid ht
  have HC := hid (Chg.refl [] w)
  have Ex := hid hx
  have Ey := hid hy
  have Ez := hid hz
  clear ht hva hvb hx hy hz
  go_enter Tryd.func6, Tryd.ntmps6
  have hq := Add_any w va vb a b (HA.out.keep1 HC.out) (HB.out.keep1 HC.out) (HT.out.keep HC.out)
  rw [Ex.out] at hq
  go_wp2_with (fail)
  go_at_call 21
  refine Calls.mono hq ?_
  rintro e W1 ⟨u1, rfl, hO, hc⟩
  have Hu1 := hid (Reads.of_own hO)
  clear hO
  have HC2 := hid (HC.out.trans hc)
  clear hq hc HC
  have HC := HC2
  clear HC2
  have hq := rAdd_any W1 va vb a b (HA.out.keep1 HC.out) (HB.out.keep1 HC.out)
  rw [Ex.out] at hq
  go_wp2_with (fail)
  go_at_call 22
  refine Calls.mono hq ?_
  rintro e W2 ⟨u2, rfl, hO, hc⟩
  have Nu1 := hid (Hu1.out.keep1 hc)
  clear Hu1
  have Hu1 := Nu1
  clear Nu1
  have Hu2 := hid (Reads.of_own hO)
  clear hO
  have HC2 := hid (HC.out.trans hc)
  clear hq hc HC
  have HC := HC2
  clear HC2
  have hq := Sub_any W2 va vb a b (HA.out.keep1 HC.out) (HB.out.keep1 HC.out) (HT.out.keep HC.out)
  rw [Ey.out] at hq
  go_wp2_with (fail)
  go_at_call 23
  refine Calls.mono hq ?_
  rintro e W3 ⟨u3, rfl, hO, hc⟩
  have Nu1 := hid (Hu1.out.keep1 hc)
  have Nu2 := hid (Hu2.out.keep1 hc)
  clear Hu1 Hu2
  have Hu1 := Nu1
  have Hu2 := Nu2
  clear Nu1 Nu2
  have Hu3 := hid (Reads.of_own hO)
  clear hO
  have HC2 := hid (HC.out.trans hc)
  clear hq hc HC
  have HC := HC2
  clear HC2
  have hq := rSub_any W3 va vb a b (HA.out.keep1 HC.out) (HB.out.keep1 HC.out)
  rw [Ey.out] at hq
  go_wp2_with (fail)
  go_at_call 24
  refine Calls.mono hq ?_
  rintro e W4 ⟨u4, rfl, hO, hc⟩
  have Nu1 := hid (Hu1.out.keep1 hc)
  have Nu2 := hid (Hu2.out.keep1 hc)
  have Nu3 := hid (Hu3.out.keep1 hc)
  clear Hu1 Hu2 Hu3
  have Hu1 := Nu1
  have Hu2 := Nu2
  have Hu3 := Nu3
  clear Nu1 Nu2 Nu3
  have Hu4 := hid (Reads.of_own hO)
  clear hO
  have HC2 := hid (HC.out.trans hc)
  clear hq hc HC
  have HC := HC2
  clear HC2
  have hq := Zap_any W4 n vb b (HB.out.keep1 HC.out)
  rw [Ez.out] at hq
  go_wp2_with (fail)
  go_at_call 25
  refine Calls.mono hq ?_
  rintro e W5 ⟨u5, rfl, hO, hc⟩
  have Nu1 := hid (Hu1.out.keep1 hc)
  have Nu2 := hid (Hu2.out.keep1 hc)
  have Nu3 := hid (Hu3.out.keep1 hc)
  have Nu4 := hid (Hu4.out.keep1 hc)
  clear Hu1 Hu2 Hu3 Hu4
  have Hu1 := Nu1
  have Hu2 := Nu2
  have Hu3 := Nu3
  have Hu4 := Nu4
  clear Nu1 Nu2 Nu3 Nu4
  have Hu5 := hid (Reads.of_own hO)
  clear hO
  have HC2 := hid (HC.out.trans hc)
  clear hq hc HC
  have HC := HC2
  clear HC2
  have hq := rZap_any W5 n vb b (HB.out.keep1 HC.out)
  rw [Ez.out] at hq
  go_wp2_with (fail)
  go_at_call 26
  refine Calls.mono hq ?_
  rintro e W6 ⟨u6, rfl, hO, hc⟩
  have Nu1 := hid (Hu1.out.keep1 hc)
  have Nu2 := hid (Hu2.out.keep1 hc)
  have Nu3 := hid (Hu3.out.keep1 hc)
  have Nu4 := hid (Hu4.out.keep1 hc)
  have Nu5 := hid (Hu5.out.keep1 hc)
  clear Hu1 Hu2 Hu3 Hu4 Hu5
  have Hu1 := Nu1
  have Hu2 := Nu2
  have Hu3 := Nu3
  have Hu4 := Nu4
  have Hu5 := Nu5
  clear Nu1 Nu2 Nu3 Nu4 Nu5
  have Hu6 := hid (Reads.of_own hO)
  clear hO
  have HC2 := hid (HC.out.trans hc)
  clear hq hc HC
  have HC := HC2
  clear HC2
  have hq := same3 W6 u1 u2 xr Hu1.out Hu2.out
  go_wp2_with (fail)
  go_at_call 15
  refine Calls.mono hq ?_
  rintro e V131 ⟨rfl, rfl⟩
  clear hq
  have hq := same3 W6 u3 u4 yr Hu3.out Hu4.out
  go_wp2_with (fail)
  go_at_call 15
  refine Calls.mono hq ?_
  rintro e V137 ⟨rfl, rfl⟩
  clear hq
  have hq := same3 W6 u5 u6 zr Hu5.out Hu6.out
  go_wp2_with (fail)
  go_at_call 15
  refine Calls.mono hq ?_
  rintro e V143 ⟨rfl, rfl⟩
  clear hq
  have hq := works_yes W6 (HT.out.keep HC.out)
  go_wp2_with (fail)
  go_at_call 16
  refine Calls.mono hq ?_
  rintro e WE ⟨rfl, hc⟩
  go_wp2_with (fail)
  go_returns
  exact ⟨rfl, HC.out.trans hc⟩

set_option maxRecDepth 100000 in
set_option maxHeartbeats 1000000 in
theorem DecimalCompares_in (w : World) (va vb : Value) (a b : Bs)  (hva : Reads w va a) (hvb : Reads w vb b) (ht : Tab w) :
    Calls Tryd.prog 5 #[va, vb] w fun e w' => e = .returned (.bool true) ∧ Chg [] w w' := by
  obtain ⟨x, hx⟩ : ∃ x, cmpF a b = x := ⟨_, rfl⟩
  obtain ⟨xr, xk⟩ := x
  have HA := hid hva
  have HB := hid hvb
  have HT := hid ht
  have HC := hid (Chg.refl [] w)
  have Ex := hid hx
  clear ht hva hvb hx
  go_enter Tryd.func5, Tryd.ntmps5
  have hq := Compare_any w va vb a b (HA.out.keep1 HC.out) (HB.out.keep1 HC.out)
  rw [Ex.out] at hq
  go_wp2_with (fail)
  go_at_call 19
  refine Calls.mono hq ?_
  rintro e W1 ⟨rfl, hc⟩
  have HC2 := hid (HC.out.trans hc)
  clear hq hc HC
  have HC := HC2
  clear HC2
  have hq := rCompare_any W1 va vb a b (HA.out.keep1 HC.out) (HB.out.keep1 HC.out)
  rw [Ex.out] at hq
  go_wp2_with (fail)
  go_at_call 20
  refine Calls.mono hq ?_
  rintro e W2 ⟨rfl, hc⟩
  have HC2 := hid (HC.out.trans hc)
  clear hq hc HC
  have HC := HC2
  clear HC2
  have hq := works_yes W2 (HT.out.keep HC.out)
  go_wp2_with (fail)
  go_at_call 16
  refine Calls.mono hq ?_
  rintro e WE ⟨rfl, hc⟩
  go_wp2_with (fail)
  go_returns
  exact ⟨rfl, HC.out.trans hc⟩

set_option maxRecDepth 100000 in
set_option maxHeartbeats 1000000 in
theorem DecimalMultiplies_in (w : World) (va vb : Value) (a b : Bs)  (hva : Reads w va a) (hvb : Reads w vb b) (ht : Tab w) :
    Calls Tryd.prog 4 #[va, vb] w fun e w' => e = .returned (.bool true) ∧ Chg [] w w' := by
  obtain ⟨x, hx⟩ : ∃ x, mulF a b = x := ⟨_, rfl⟩
  obtain ⟨xr, xk⟩ := x
  have HA := hid hva
  have HB := hid hvb
  have HT := hid ht
  have HC := hid (Chg.refl [] w)
  have Ex := hid hx
  clear ht hva hvb hx
  go_enter Tryd.func4, Tryd.ntmps4
  have hq := Multiply_any w va vb a b (HA.out.keep1 HC.out) (HB.out.keep1 HC.out) (HT.out.keep HC.out)
  rw [Ex.out] at hq
  go_wp2_with (fail)
  go_at_call 17
  refine Calls.mono hq ?_
  rintro e W1 ⟨u1, rfl, hO, hc⟩
  have Hu1 := hid (Reads.of_own hO)
  clear hO
  have HC2 := hid (HC.out.trans hc)
  clear hq hc HC
  have HC := HC2
  clear HC2
  have hq := rMultiply_any W1 va vb a b (HA.out.keep1 HC.out) (HB.out.keep1 HC.out)
  rw [Ex.out] at hq
  go_wp2_with (fail)
  go_at_call 18
  refine Calls.mono hq ?_
  rintro e W2 ⟨u2, rfl, hO, hc⟩
  have Nu1 := hid (Hu1.out.keep1 hc)
  clear Hu1
  have Hu1 := Nu1
  clear Nu1
  have Hu2 := hid (Reads.of_own hO)
  clear hO
  have HC2 := hid (HC.out.trans hc)
  clear hq hc HC
  have HC := HC2
  clear HC2
  have hq := same3 W2 u1 u2 xr Hu1.out Hu2.out
  go_wp2_with (fail)
  go_at_call 15
  refine Calls.mono hq ?_
  rintro e V41 ⟨rfl, rfl⟩
  clear hq
  have hq := works_yes W2 (HT.out.keep HC.out)
  go_wp2_with (fail)
  go_at_call 16
  refine Calls.mono hq ?_
  rintro e WE ⟨rfl, hc⟩
  go_wp2_with (fail)
  go_returns
  exact ⟨rfl, HC.out.trans hc⟩

set_option maxRecDepth 100000 in
set_option maxHeartbeats 1000000 in
theorem DecimalDivides_in (w : World) (va vb : Value) (a b : Bs)  (hva : Reads w va a) (hvb : Reads w vb b) (ht : Tab w) :
    Calls Tryd.prog 3 #[va, vb] w fun e w' => e = .returned (.bool true) ∧ Chg [] w w' := by
  obtain ⟨x, hx⟩ : ∃ x, divF a b = x := ⟨_, rfl⟩
  obtain ⟨xr, xk⟩ := x
  have HA := hid hva
  have HB := hid hvb
  have HT := hid ht
  have HC := hid (Chg.refl [] w)
  have Ex := hid hx
  clear ht hva hvb hx
  go_enter Tryd.func3, Tryd.ntmps3
  have hq := Divide_any w va vb a b (HA.out.keep1 HC.out) (HB.out.keep1 HC.out) (HT.out.keep HC.out)
  rw [Ex.out] at hq
  go_wp2_with (fail)
  go_at_call 13
  refine Calls.mono hq ?_
  rintro e W1 ⟨u1, rfl, hO, hc⟩
  have Hu1 := hid (Reads.of_own hO)
  clear hO
  have HC2 := hid (HC.out.trans hc)
  clear hq hc HC
  have HC := HC2
  clear HC2
  have hq := rDivide_any W1 va vb a b (HA.out.keep1 HC.out) (HB.out.keep1 HC.out)
  rw [Ex.out] at hq
  go_wp2_with (fail)
  go_at_call 14
  refine Calls.mono hq ?_
  rintro e W2 ⟨u2, rfl, hO, hc⟩
  have Nu1 := hid (Hu1.out.keep1 hc)
  clear Hu1
  have Hu1 := Nu1
  clear Nu1
  have Hu2 := hid (Reads.of_own hO)
  clear hO
  have HC2 := hid (HC.out.trans hc)
  clear hq hc HC
  have HC := HC2
  clear HC2
  have hq := same3 W2 u1 u2 xr Hu1.out Hu2.out
  go_wp2_with (fail)
  go_at_call 15
  refine Calls.mono hq ?_
  rintro e V41 ⟨rfl, rfl⟩
  clear hq
  have hq := works_yes W2 (HT.out.keep HC.out)
  go_wp2_with (fail)
  go_at_call 16
  refine Calls.mono hq ?_
  rintro e WE ⟨rfl, hc⟩
  go_wp2_with (fail)
  go_returns
  exact ⟨rfl, HC.out.trans hc⟩

set_option maxRecDepth 100000 in
set_option maxHeartbeats 1000000 in
theorem DecimalShifts_in (w : World) (va : Value) (a : Bs) (n round : Int)  (hva : Reads w va a) (ht : Tab w) :
    Calls Tryd.prog 10 #[va, .int .i64 n, .int .i64 round] w fun e w' => e = .returned (.bool true) ∧ Chg [] w w' := by
  obtain ⟨x, hx⟩ : ∃ x, shiftF a n round = x := ⟨_, rfl⟩
  obtain ⟨xr, xc, xk⟩ := x
  have HA := hid hva
  have HT := hid ht
  have HC := hid (Chg.refl [] w)
  have Ex := hid hx
  clear ht hva hx
  go_enter Tryd.func10, Tryd.ntmps10
  have hq := Shift_any w va a n round (HA.out.keep1 HC.out) (HT.out.keep HC.out)
  rw [Ex.out] at hq
  go_wp2_with (fail)
  go_at_call 32
  refine Calls.mono hq ?_
  rintro e W1 ⟨u1, rfl, hO, hc⟩
  have Hu1 := hid (Reads.of_own hO)
  clear hO
  have HC2 := hid (HC.out.trans hc)
  clear hq hc HC
  have HC := HC2
  clear HC2
  have hq := rShift_any W1 va a n round (HA.out.keep1 HC.out)
  rw [Ex.out] at hq
  go_wp2_with (fail)
  go_at_call 33
  refine Calls.mono hq ?_
  rintro e W2 ⟨u2, rfl, hO, hc⟩
  have Nu1 := hid (Hu1.out.keep1 hc)
  clear Hu1
  have Hu1 := Nu1
  clear Nu1
  have Hu2 := hid (Reads.of_own hO)
  clear hO
  have HC2 := hid (HC.out.trans hc)
  clear hq hc HC
  have HC := HC2
  clear HC2
  have hq := same3 W2 u1 u2 xr Hu1.out Hu2.out
  go_wp2_with (fail)
  go_at_call 15
  refine Calls.mono hq ?_
  rintro e V40 ⟨rfl, rfl⟩
  clear hq
  have hq := works_yes W2 (HT.out.keep HC.out)
  go_wp2_with (fail)
  go_at_call 16
  refine Calls.mono hq ?_
  rintro e WE ⟨rfl, hc⟩
  go_wp2_with (fail)
  go_returns
  exact ⟨rfl, HC.out.trans hc⟩

set_option maxRecDepth 100000 in
set_option maxHeartbeats 1000000 in
theorem DecimalConverts_in (w : World) (vb : Value) (b : Bs) (v : Nat) (hv : v < 4294967296)  (hvb : Reads w vb b) (ht : Tab w) :
    Calls Tryd.prog 7 #[vb, .int .u32 (v : Int)] w fun e w' => e = .returned (.bool true) ∧ Chg [] w w' := by
  obtain ⟨x, hx⟩ : ∃ x, toF b = x := ⟨_, rfl⟩
  obtain ⟨xr, xk⟩ := x
  obtain ⟨y, hy⟩ : ∃ x, fromF v = x := ⟨_, rfl⟩
  have HB := hid hvb
  have HT := hid ht
  have HC := hid (Chg.refl [] w)
  have Ex := hid hx
  have Ey := hid hy
  clear ht hvb hx hy
  go_enter Tryd.func7, Tryd.ntmps7
  have hq := ToBinary_any w vb b (HB.out.keep1 HC.out)
  rw [Ex.out] at hq
  go_wp2_with (fail)
  go_at_call 27
  refine Calls.mono hq ?_
  rintro e W1 ⟨rfl, hc⟩
  have HC2 := hid (HC.out.trans hc)
  clear hq hc HC
  have HC := HC2
  clear HC2
  have hq := rToBinary_any W1 vb b (HB.out.keep1 HC.out)
  rw [Ex.out] at hq
  go_wp2_with (fail)
  go_at_call 28
  refine Calls.mono hq ?_
  rintro e W2 ⟨rfl, hc⟩
  have HC2 := hid (HC.out.trans hc)
  clear hq hc HC
  have HC := HC2
  clear HC2
  have hy8 : (fromF v).length = 8 := by simp [fromF, fldN, fld_length]
  rw [Ey.out] at hy8
  have HY8 := hid hy8
  clear hy8
  have hq := FromBinary_any W2 v hv (HT.out.keep HC.out)
  rw [Ey.out, ← HY8.out] at hq
  go_wp2_with (fail)
  go_at_call 29
  refine Calls.mono hq ?_
  rintro e W3 ⟨u3, rfl, hO, hc⟩
  have Hu3 := hid (Reads.of_own hO)
  clear hO
  have HC2 := hid (HC.out.trans hc)
  clear hq hc HC
  have HC := HC2
  clear HC2
  have hq := rFromBinary_any W3 v hv
  rw [Ey.out, ← HY8.out] at hq
  go_wp2_with (fail)
  go_at_call 30
  refine Calls.mono hq ?_
  rintro e W4 ⟨u4, rfl, hO, hc⟩
  have Nu3 := hid (Hu3.out.keep1 hc)
  clear Hu3
  have Hu3 := Nu3
  clear Nu3
  have Hu4 := hid (Reads.of_own hO)
  clear hO
  have HC2 := hid (HC.out.trans hc)
  clear hq hc HC
  have HC := HC2
  clear HC2
  have hq := same3 W4 u3 u4 y Hu3.out Hu4.out
  go_wp2_with (fail)
  go_at_call 15
  refine Calls.mono hq ?_
  rintro e V4 ⟨rfl, rfl⟩
  clear hq
  have hq := works_yes W4 (HT.out.keep HC.out)
  go_wp2_with (fail)
  go_at_call 16
  refine Calls.mono hq ?_
  rintro e WE ⟨rfl, hc⟩
  go_wp2_with (fail)
  go_returns
  exact ⟨rfl, HC.out.trans hc⟩

end Go.Proofs.YtmklkfogddppmaaDoor
