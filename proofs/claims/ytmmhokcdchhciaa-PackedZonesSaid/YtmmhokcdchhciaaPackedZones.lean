/- PackedZones: a number in a zoned field is packed and decoded as it was. -/
import Derived.Test.YtmmhokcdchhciaaWorks
import Derived.Test.YtmmhokcdchhciaaNumber
import Derived.Test.YtmmhokcdchhciaaArg
import Derived.Test.YtmmhokcdchhciaaSpecH
namespace Go.Proofs.Ytmmhokcdchhciaa
open Go.RowKit Go.Shelf
set_option linter.unusedVariables false

theorem numS_bytes (d : Bs) (h : d.length ≤ 31) : (⟨d.toArray⟩ : ByteArray).size = d.length ∧ (⟨d.toArray⟩ : ByteArray).data.toList = d := ⟨rfl, rfl⟩

set_option maxRecDepth 100000 in
set_option maxHeartbeats 1000000 in
theorem zones_in (w : World) (s : ByteArray) (neg : Bool) (n m : Int) (hs : s.size ≤ maxLen) (hn : 0 ≤ n) (hn2 : n < 256) (hm : 0 ≤ m) (hm2 : m < 256) :
    Calls Try.prog 8 #[.string s, .bool neg, .int .u8 n, .int .u8 m] w fun e w' => e = .returned (.bool true) ∧ Chg [] w w' := by
  obtain ⟨d, hd⟩ : ∃ d, d = numS s.data.toList := ⟨_, rfl⟩
  have hv := numS_valid s.data.toList
  have hl := numS_len s.data.toList
  rw [← hd] at hv hl
  have HD := hid hd
  clear hd
  have HV := hid hv
  clear hv
  obtain ⟨hl1, hl2⟩ := hl
  obtain ⟨z, hz⟩ : ∃ z : Nat, 1 + n % 16 = (z : Int) := ⟨(1 + n % 16).toNat, by omega⟩
  have hz1 : 1 ≤ z := by omega
  have hz2 : z ≤ 16 := by omega
  obtain ⟨L, hL⟩ : ∃ L, d.length = L := ⟨_, rfl⟩
  have HL := hid hL
  rw [hL] at hl1 hl2
  have HZ := hid hz
  clear hz hL
  have HE := hid (show zonS neg d (z : Int) = (zonF neg z (valsR d), decide ((z : Int) < L)) from by unfold zonS; rw [HV.out, show okSize (z : Int) = true from by unfold okSize; simp; omega, HL.out]; rfl)
  have HX := hid (show (⟨d.toArray⟩ : ByteArray).size = L from HL.out)
  go_enter Try.func8, Try.ntmps8
  go_wp2_with (first
    | (go_at_call 15; refine (works_yes _).mono ?_; rintro e w1 ⟨rfl, hc1⟩)
    | (go_at_call 12; refine (Number_any _ _ _ hs).mono ?_; rintro e w2 ⟨rfl, hc2⟩; rw [← HD.out]))
  rw [HZ.out]
  refine Calls.mono (Zoned_any _ neg ⟨d.toArray⟩ (by rw [HX.out]; unfold maxLen; omega) z) ?_
  rw [show zonS neg (⟨d.toArray⟩ : ByteArray).data.toList z = _ from HE.out]
  rintro e w3 ⟨u, rfl, ho, hc3⟩
  have hu := Reads.of_own ho
  obtain ⟨ua, uc, rfl⟩ := hu.shape (show (zonF neg z (valsR d)).length = z by simp [zonF])
  have hb : w3.heap[w2.heap.size]? = some (.cells #[.bool neg, .string ⟨d.toArray⟩] 26 (0, 0)) := hc3.heap (al_new rfl) (by simp)
  have hc := ((hc1.trans hc2).trans (Chg.alloc _ _ _)).trans hc3
  obtain ⟨c0, c1⟩ := two_cells hb
  have HB := hid hb
  have HU := hid hu
  clear hb hu ho hc1 hc2 hc3
  by_cases hov : (z : Int) < L
  · have hx := HX.out
    rw [decide_eq_true hov]
    go_wp2_with (fail)
    go_returns
    exact ⟨rfl, hc⟩
  · have hx := HX.out
    rw [decide_eq_false hov]
    go_wp2_with (fail)
    have hm1 := Int.emod_nonneg m (b := 17 - ((z : Int) / 2 + 1)) (by omega)
    have hm2 := Int.emod_lt_of_pos m (b := 17 - ((z : Int) / 2 + 1)) (by omega)
    obtain ⟨k, hk⟩ : ∃ k : Nat, (z : Int) / 2 + 1 + m % (17 - ((z : Int) / 2 + 1)) = (k : Int) := ⟨((z : Int) / 2 + 1 + m % (17 - ((z : Int) / 2 + 1))).toNat, by omega⟩
    have hk1 : z / 2 + 1 ≤ k := by omega
    have hk2 : k ≤ 16 := by omega
    rw [show wrap64 ((z : Int) / 2 + 1 + m % (17 - ((z : Int) / 2 + 1))) = (k : Int) from by rw [hk]; unfold wrap64; omega]
    refine Calls.mono (Pack_any _ _ _ k HU.out) ?_
    rw [pack_zoned neg d z k HV.out (by rw [HL.out]; omega) hz1 hz2 (by omega) hk2]
    have HK := hid (decS_fld k neg d (by omega) hk2 HV.out (by rw [HL.out]; omega))
    rintro e w4 ⟨p, rfl, ho, hc4⟩
    have hp := Reads.of_own ho
    have HB4 := hid (hc4.heap HB.out (by simp))
    have hc := hc.trans hc4
    clear ho hc4 c0 c1 hm1 hm2 hk
    go_wp2_with (fail)
    go_at_call 25
    refine Calls.mono (Decode_any _ _ _ hp) ?_
    rw [HK.out]
    rintro e w5 ⟨rfl, hc5⟩
    obtain ⟨c0, c1⟩ := two_cells (al_old (o := .cells #[.bool neg, .string ⟨d.toArray⟩] 26) (hc5.heap HB4.out (by simp)))
    have hc := hc.trans hc5
    clear hc5 hp
    go_wp2_with (fail)
    go_returns
    exact ⟨rfl, hc.trans (Chg.alloc _ _ _)⟩

theorem PackedZones_walk (a0 : ByteArray) (a1 : Bool) (a2 : Int) (a3 : Int) (w0 : a0.size ≤ maxLen) (w2 : (Lit.int .u8 a2).wf = true) (w3 : (Lit.int .u8 a3).wf = true) (w : World) :
    Calls Try.prog 8 #[.string a0, .bool a1, .int .u8 a2, .int .u8 a3] w fun e w' => e = .returned (.bool true) ∧ Below w.heap.size w w' := by
  obtain ⟨h1, h2⟩ := u8_range w2
  obtain ⟨h3, h4⟩ := u8_range w3
  exact (zones_in w a0 a1 a2 a3 w0 h1 h2 h3 h4).mono fun e w' ⟨he, hc⟩ => ⟨he, hc.nil_below⟩

end Go.Proofs.Ytmmhokcdchhciaa
