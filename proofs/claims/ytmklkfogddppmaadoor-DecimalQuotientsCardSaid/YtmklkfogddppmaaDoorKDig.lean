/- The decimal numeral of a number of jobshop/decimal. -/
import Derived.Deep.LoopGhost
import Derived.Test.YtmklkfogddppmaaDoorKNum
import Derived.Test.YtmklkfogddppmaaDoorKFmt
import Derived.Test.YtmklkfogddppmaaDoorKDecB
namespace Go.Proofs.YtmklkfogddppmaaDoor
open Go.RowKit Go.Shelf
set_option linter.unusedVariables false
set_option linter.unusedSimpArgs false

theorem Tab.alloc {w : World} (h : Tab w) (o : Obj) : Tab (w.alloc o) := h.keep (Chg.alloc _ _ _)

theorem unit_len (r : Nat) (h : r < 1000000000000000000) : Lib.decDigits (r + 1000000000000000000) = 49 :: padK 18 r := dec_unit 18 r h
theorem split18 (v : Nat) (h : 1000000000000000000 ≤ v) : Lib.decDigits v = Lib.decDigits (v / 1000000000000000000) ++ padK 18 (v % 1000000000000000000) := dec_split 18 v h

theorem cut49 (pd t : Bs) (h : pd.length = 18) : (⟨(49 :: pd).toArray⟩ : ByteArray).extract 1 19 ++ ⟨t.toArray⟩ = ⟨(pd ++ t).toArray⟩ := by
  apply ByteArray.ext
  rw [ByteArray.data_append, ByteArray.data_extract]
  apply Array.toList_inj.1
  simp [h, List.take_of_length_le (Nat.le_of_eq h)]

set_option maxHeartbeats 1000000 in
set_option maxRecDepth 100000 in
theorem ddigits_in (neg : Bool) (V H L : Nat) (w : World) (hH : H < 18446744073709551616) (hL : L < 18446744073709551616) (hV : V = H * 18446744073709551616 + L) (ht : Tab w) :
    Calls Tryd.prog 39 #[.agg #[.bool neg, .int .u64 (H : Int), .int .u64 (L : Int)]] w fun e w' => e = .returned (.string ⟨(Lib.decDigits V).toArray⟩) ∧ Chg [] w w' := by
  have HT := hid ht
  have HVV := hid hV
  clear ht hV
  go_enter Tryd.func39, Tryd.ntmps39
  go_wp2_with (fail)
  go_loopg [3] (H * 18446744073709551616 + L) (fun g s wr => ∃ (hi lo : Nat) (t : Bs), g = hi * 18446744073709551616 + lo ∧ s = .string ⟨t.toArray⟩ ∧ hi < 18446744073709551616 ∧ lo < 18446744073709551616 ∧ (t.length ≤ 36 ∧ (1 ≤ hi → t.length ≤ 18) ∧ (19 ≤ hi → t.length = 0)) ∧ (t = [] ∨ 1 ≤ hi * 18446744073709551616 + lo) ∧ Hid (Lib.decDigits V = Lib.decDigits (hi * 18446744073709551616 + lo) ++ t) ∧ Hid (wr.heap[w.heap.size]? = some (.cells #[.bool neg, .int .u64 (hi : Int), .int .u64 (lo : Int)] 43 (0, 0))) ∧ Chg [] w wr)
  case atStart => exact ⟨H, L, [], rfl, rfl, hH, hL, by simp, .inl rfl, hid (by rw [HVV.out]; simp), heap_alloc_new _ _, Chg.alloc _ _ _⟩
  case round =>
    obtain ⟨hi, lo, t, rfl, rfl, h1, h2, h3, h4, HE, HB, hc⟩ := hrel
    obtain ⟨c0, c1, c2⟩ := three_cells HB.out
    by_cases h0 : hi = 0
    · have e0 : ((hi : Int) != 0) = false := by simp [h0]
      have hl20 := (dec_len lo 20 (by omega)).2 (by omega)
      have hF := fun W hW => FormatUint_any lo W h2 hW
      have hcat : (⟨(Lib.decDigits lo).toArray⟩ : ByteArray) ++ ⟨t.toArray⟩ = ⟨(Lib.decDigits V).toArray⟩ := by
        rw [HE.out, h0, Nat.zero_mul, Nat.zero_add]
        apply ByteArray.ext
        simp
      have hS : (⟨(Lib.decDigits V).toArray⟩ : ByteArray).size ≤ 1 ∨ bN (⟨(Lib.decDigits V).toArray⟩ : ByteArray).data.toList 0 ≠ 48 := by
        by_cases hz : V = 0
        · left; rw [hz]; decide +kernel
        · right
          have := dec_head V hz
          intro e
          apply this
          exact UInt8.toNat_inj.1 e
      have hsz : (⟨(Lib.decDigits lo).toArray⟩ : ByteArray).size + (⟨t.toArray⟩ : ByteArray).size ≤ 100 := by simp [ByteArray.size]; omega
      have hV1 : 1 ≤ (⟨(Lib.decDigits V).toArray⟩ : ByteArray).size := List.length_pos_iff.2 (dec_ne V)
      generalize (⟨(Lib.decDigits lo).toArray⟩ : ByteArray) = x at *
      obtain ⟨S, hSV⟩ : ∃ S, (⟨(Lib.decDigits V).toArray⟩ : ByteArray) = S := ⟨_, rfl⟩
      rw [hSV] at hcat hS hV1
      have HSV := hid hSV
      clear hSV
      generalize (⟨t.toArray⟩ : ByteArray) = T at *
      clear HE h3 h4
      go_wp2_with (go_at_call 40; refine (hF _ (HT.out.keep hc)).mono ?_; rintro e w2 ⟨rfl, hc2⟩)
      go_loopw [3] (fun s wr => s = .string S ∧ wr = w2) (fun _ _ => 0)
      case atStart => exact ⟨rfl, rfl⟩
      case round =>
        obtain ⟨rfl, rfl⟩ := hrel
        by_cases g : 1 < S.size
        · have hb := ba_bN S 0 (by omega)
          have hx : bN S.data.toList 0 ≠ 48 := by rcases hS with h | h; omega; exact h
          rw [hb] at hx
          clear hb hS
          go_wp2_with (fail)
          go_returns
          exact ⟨by rw [HSV.out]; rfl, hc.trans hc2⟩
        · go_wp2_with (fail)
          go_returns
          exact ⟨by rw [HSV.out]; rfl, hc.trans hc2⟩
    · have e0 : ((hi : Int) != 0) = true := by simp [h0]
      obtain ⟨v, hv⟩ : ∃ v, hi * 18446744073709551616 + lo = v := ⟨_, rfl⟩
      have ho := fun W => over_num neg v 1000000000000000000 W (by omega) (by omega) (by omega)
      obtain ⟨hi', lo', b1, b2, e3, e4⟩ := num_parts neg (v / 1000000000000000000) (by omega)
      rw [num_of neg hi lo v h2 hv.symm, e4] at ho
      have hr : v % 1000000000000000000 < 1000000000000000000 := by omega
      have hE2 := split18 v (by omega)
      have hE3 := unit_len _ hr
      rw [e3] at hE2
      obtain ⟨r, hrr⟩ : ∃ r, v % 1000000000000000000 = r := ⟨_, rfl⟩
      rw [hrr] at ho hr hE2 hE3
      have hF := fun W hW => FormatUint_any (r + 1000000000000000000) W (by omega) hW
      rw [hE3] at hF
      have hw : IntKind.u64.wrap ((r : Int) + 1000000000000000000) = ((r + 1000000000000000000 : Nat) : Int) := by rw [IntKind.wrap_u64]; omega
      have hpl := padK_length 18 r
      have HE2 := hid hE2
      clear hE2 hE3 hrr
      generalize padK 18 r = pd at *
      generalize r + 1000000000000000000 = ru at *
      go_upto_region 5 with (go_at_call 37; refine (ho _).mono ?_; rintro e w2 ⟨rfl, hc2⟩; obtain ⟨s0, s1, s2, s3, s4, s5, s6, s7⟩ := store3 (g := w.heap.size) (.bool neg) (.int .u64 (hi' : Int)) (.int .u64 (lo' : Int)) (hc2.heap HB.out (by simp)))
      have hc3 := (hc.trans hc2).then s7.out (by simp)
      clear s0 s1 s2 s3 s4 s5 s7 HB c0 c1 c2 hc hc2
      generalize (((w2.setCell ⟨w.heap.size, 0, none⟩ (.bool neg)).setCell ⟨w.heap.size, 1, none⟩ (.int .u64 (hi' : Int))).setCell ⟨w.heap.size, 2, none⟩ (.int .u64 (lo' : Int))) = W3 at *
      go_wp2_with (go_at_call 40; refine (hF _ (HT.out.keep hc3)).mono ?_; rintro e w3 ⟨rfl, hc4⟩)
      have hstr := cut49 pd t hpl
      go_roundg (hi' * 18446744073709551616 + lo')
      case measure => omega
      case rel => exact ⟨hi', lo', pd ++ t, rfl, by rw [hstr], b1, b2, by rw [List.length_append, hpl]; omega, .inr (by omega), hid (by rw [HE.out, hv, HE2.out, List.append_assoc]), hid (hc4.heap s6.out (by simp)), hc3.trans hc4⟩

theorem ddigits_num (neg : Bool) (v : Nat) (w : World) (hv : v < 340282366920938463463374607431768211456) (ht : Tab w) :
    Calls Tryd.prog 39 #[num neg v] w fun e w' => e = .returned (.string ⟨(Lib.decDigits v).toArray⟩) ∧ Chg [] w w' := by
  obtain ⟨hi, lo, h1, h2, h3, e⟩ := num_parts neg v hv
  rw [e]
  exact ddigits_in neg v hi lo w h1 h2 h3 ht

end Go.Proofs.YtmklkfogddppmaaDoor
