/- Zoned of layer 3. -/
import Derived.Test.YtmmhokcdchhciaaEncode
import Derived.Test.YtmmhokcdchhciaaSpecD
import Derived.StillTailTactics
namespace Go.Proofs.Ytmmhokcdchhciaa
open Go.RowKit
set_option linter.unusedVariables false

theorem Zoned_any (w : World) (neg : Bool) (s : ByteArray) (hs : s.size ≤ maxLen) (n : Int) :
    Calls Try.prog 27 #[.agg #[.bool neg, .string s], .int .i64 n] w fun e w' =>
      ∃ u, e = .returned (.tuple #[u, .bool (zonS neg s.data.toList n).2]) ∧ w'.ownsRow w.heap.size 5 1 u (zonS neg s.data.toList n).1.length ((zonS neg s.data.toList n).1.map eb) ∧ Chg [] w w' := by
  by_cases h1 : validS s.data.toList = true
  · by_cases h2 : okSize n = true
    · obtain ⟨m, rfl, hm1, hm2⟩ := ok_nat h2
      have HS := hid (zonS_eq neg s m h1 h2)
      obtain ⟨hL1, hL2, hdig⟩ := valid_digits h1
      have HD := hid hdig; clear hdig
      have hmk := mk_bytes (P := Try.prog) 22 5 Try.underlying22 info_u8 m (by omega)
      go_enter Try.func27, Try.ntmps27
      go_wp2_with fail
      refine (valid_any neg s hs _).mono ?_
      rintro e w1 ⟨rfl, hch1⟩
      have hb0 : (w.alloc (.cells #[.bool neg, .string s] 26)).heap[w.heap.size]? = some (.cells #[.bool neg, .string s] 26 (0, 0)) := al_new rfl
      have hcc := two_cells (hch1.heap hb0 (by simp))
      have hlt1 := lt_of_block (hch1.heap hb0 (by simp))
      have hch : Chg [] w w1 := (Chg.alloc _ _ _).trans hch1
      clear hch1 hb0
      obtain ⟨hcc0, hcc1⟩ := hcc
      go_wp2_with (first | (go_at_call 41; refine (inField_any _ _).mono ?_; rintro e w' ⟨rfl, rfl⟩))
      have hrow : (w1.alloc (.cells (zrow m) 5)).heap[w1.heap.size]? = some (.cells ((zonK m 0 (valsR s.data.toList)).map eb).toArray 5 (0, 0)) := by
        rw [zonK_zero, ← zrow_eq]; exact al_new rfl
      replace hch : Chg [] w (w1.alloc (.cells (zrow m) 5)) := hch.trans (Chg.alloc _ _ _)
      replace hcc0 := (Chg.alloc [] w1 (.cells (zrow m) 5)).cell hcc0 (by simp)
      replace hcc1 := (Chg.alloc [] w1 (.cells (zrow m) 5)).cell hcc1 (by simp)
      generalize hB : w1.heap.size = B at *
      clear hB hmk
      go_loopw [19] (fun i wr => ∃ k : Nat, k ≤ m ∧ i = .int .i64 k ∧ wr.heap[B]? = some (.cells ((zonK m k (valsR s.data.toList)).map eb).toArray 5 (0, 0)) ∧ Chg [] w wr ∧
          wr.cell? ⟨w.heap.size, 0, none⟩ = some (.bool neg) ∧ wr.cell? ⟨w.heap.size, 1, none⟩ = some (.string s)) (fun i _ => m - (intOf i).toNat)
      case atStart => exact ⟨0, by omega, rfl, hrow, hch, hcc0, hcc1⟩
      case round =>
        clear hrow hch hcc0 hcc1
        obtain ⟨k, hk, rfl, hrow, hc, hcc0, hcc1⟩ := hrel
        by_cases hlt : k < m
        · have cx : wr.cell? ⟨B, m - 1 - k, none⟩ = some (.int .u8 0) := by
            rw [cell_of_row wr B _ _ _ _ hrow]; simp [zonK_at m k _ hlt, eb]
          have fx : wr.frozen? ⟨B, m - 1 - k, none⟩ = false := frozen_of_row _ _ _ _ _ hrow
          have HR := hid hrow
          clear hrow
          by_cases hd : k < s.size
          · have hb := ba_bN s (s.size - 1 - k) (by omega)
            have hlt' : s.size - 1 - k < s.size := by omega
            have hx : 48 ≤ (s[s.size - 1 - k]'hlt').toNat ∧ (s[s.size - 1 - k]'hlt').toNat ≤ 57 := by rw [← hb]; exact HD.out _ (by omega)
            have HB := hid hb
            clear hb
            go_wp2_with fail
            have hrow := HR.out
            have hrow2 : (wr.setCell ⟨B, m - 1 - k, none⟩ (.int .u8 240)).heap[B]? = some (.cells (((zonK m k (valsR s.data.toList)).set (m - 1 - k) 240).map eb).toArray 5 (0, 0)) :=
              (heap_setCell_same wr B (m - 1 - k) _ _ (.int .u8 240) hrow).trans (by rw [← rows_set]; rfl)
            have hc2 : Chg [] w (wr.setCell ⟨B, m - 1 - k, none⟩ (.int .u8 240)) := hc.then (Chg.setCell (L := [B]) wr (.inl (by simp)) _) (by simp; omega)
            have hd0 := (Chg.setCell (L := [B]) wr (p := ⟨B, m - 1 - k, none⟩) (.inl (by simp)) (.int .u8 240)).cell hcc0 (by simp; omega)
            have hd1 := (Chg.setCell (L := [B]) wr (p := ⟨B, m - 1 - k, none⟩) (.inl (by simp)) (.int .u8 240)).cell hcc1 (by simp; omega)
            have dx : (wr.setCell ⟨B, m - 1 - k, none⟩ (.int .u8 240)).cell? ⟨B, m - 1 - k, none⟩ = some (.int .u8 240) := World.cell?_setCell_same' _ _ _ (by rw [cx]; rfl)
            have gx : (wr.setCell ⟨B, m - 1 - k, none⟩ (.int .u8 240)).frozen? ⟨B, m - 1 - k, none⟩ = false := frozen_of_row _ _ _ _ _ hrow2
            generalize wr.setCell ⟨B, m - 1 - k, none⟩ (.int .u8 240) = w2 at *
            clear HR hrow cx fx hc hcc0 hcc1
            have hbb : bits .or .u8 240 (((s[s.size - 1 - k]'hlt').toNat : Int) - 48) = ((UInt8.ofNat (240 + ((s[s.size - 1 - k]'hlt').toNat - 48))).toNat : Int) := by
              rw [show (((s[s.size - 1 - k]'hlt').toNat : Int) - 48) = (((s[s.size - 1 - k]'hlt').toNat - 48 : Nat) : Int) from by omega, show (240 : Int) = ((240 : Nat) : Int) from rfl,
                u8_or_nat _ _ (by omega) (by omega), zone_or _ (by omega), toNat_ofNat (by omega)]
            have HBB := hid hbb; clear hbb
            have e1 : IntKind.i64.wrap ((m : Int) - 1) = (m : Int) - 1 := IntWalk.i64_in _ (by omega)
            have e2 : IntKind.i64.wrap ((m : Int) - 1 - k) = (m : Int) - 1 - k := IntWalk.i64_in _ (by omega)
            have e3 : IntKind.i64.wrap ((s.size : Int) - 1) = (s.size : Int) - 1 := IntWalk.i64_in _ (by omega)
            have e4 : IntKind.i64.wrap ((s.size : Int) - 1 - k) = (s.size : Int) - 1 - k := IntWalk.i64_in _ (by omega)
            have e5 : ((m : Int) - 1 - k).toNat = m - 1 - k := by omega
            have e6 : ((s.size : Int) - 1 - k).toNat = s.size - 1 - k := by omega
            have e7 : (k : Int) ≤ (m : Int) - 1 := by omega
            have e8 : (k : Int) ≤ (s.size : Int) - 1 := by omega
            have e9 : (m : Int) - 1 - k < m := by omega
            have e10 : (s.size : Int) - 1 - k < s.size := by omega
            have e11 : IntKind.u8.wrap (((s[s.size - 1 - k]'hlt').toNat : Int) - 48) = ((s[s.size - 1 - k]'hlt').toNat : Int) - 48 := IntWalk.u8_in _ (by omega)
            go_still_tail 18, (by kernel_rfl)
            clear e1 e2 e3 e4 e5 e11
            change wpList _ _ _ _ _ w2.drew
            replace hrow2 : w2.drew.heap[B]? = _ := hrow2
            replace hc2 : Chg [] w w2.drew := hc2.trans (Chg.drew _ _)
            replace hd0 : w2.drew.cell? _ = _ := hd0
            replace hd1 : w2.drew.cell? _ = _ := hd1
            replace dx : w2.drew.cell? _ = _ := dx
            replace gx : w2.drew.frozen? _ = _ := gx
            generalize w2.drew = w3 at *
            have HR2 := hid hrow2; clear hrow2
            go_wp2_with fail
            go_roundw
            case rel =>
              refine ⟨k + 1, by omega, by go_num, ?_, hc2.then (Chg.setCell (L := [B]) w3 (.inl (by simp)) _) (by simp; omega), (Chg.setCell (L := [B]) w3 (.inl (by simp)) _).cell hd0 (by simp; omega), (Chg.setCell (L := [B]) w3 (.inl (by simp)) _).cell hd1 (by simp; omega)⟩
              have h3 := heap_setCell_same w3 B (m - 1 - k) _ _ (eb (UInt8.ofNat (240 + ((s[s.size - 1 - k]'(by omega)).toNat - 48)))) HR2.out
              rw [rows_set, List.set_set] at h3
              rw [zonK_succ m k _ hlt, valsR_getD _ _ (by rw [ba_len]; exact hd), ba_len, HB.out, ← h3]
              unfold eb
              rw [HBB.out]
            case measure => simp [intOf]; omega
          · go_wp2_with fail
            have hrow := HR.out
            have hrow2 : (wr.setCell ⟨B, m - 1 - k, none⟩ (.int .u8 240)).heap[B]? = some (.cells (((zonK m k (valsR s.data.toList)).set (m - 1 - k) 240).map eb).toArray 5 (0, 0)) :=
              (heap_setCell_same wr B (m - 1 - k) _ _ (.int .u8 240) hrow).trans (by rw [← rows_set]; rfl)
            have hc2 : Chg [] w (wr.setCell ⟨B, m - 1 - k, none⟩ (.int .u8 240)) := hc.then (Chg.setCell (L := [B]) wr (.inl (by simp)) _) (by simp; omega)
            have hd0 := (Chg.setCell (L := [B]) wr (p := ⟨B, m - 1 - k, none⟩) (.inl (by simp)) (.int .u8 240)).cell hcc0 (by simp; omega)
            have hd1 := (Chg.setCell (L := [B]) wr (p := ⟨B, m - 1 - k, none⟩) (.inl (by simp)) (.int .u8 240)).cell hcc1 (by simp; omega)
            have dx : (wr.setCell ⟨B, m - 1 - k, none⟩ (.int .u8 240)).cell? ⟨B, m - 1 - k, none⟩ = some (.int .u8 240) := World.cell?_setCell_same' _ _ _ (by rw [cx]; rfl)
            have gx : (wr.setCell ⟨B, m - 1 - k, none⟩ (.int .u8 240)).frozen? ⟨B, m - 1 - k, none⟩ = false := frozen_of_row _ _ _ _ _ hrow2
            go_roundw
            case rel =>
              refine ⟨k + 1, by omega, by go_num, ?_, hc2, hd0, hd1⟩
              rw [zonK_succ m k _ hlt, valsR_getD_ge _ _ (by rw [ba_len]; omega)]
              exact hrow2
            case measure => simp [intOf]; omega
        · obtain rfl : k = m := by omega
          have cx : wr.cell? ⟨B, k - 1, none⟩ = some (.int .u8 ((UInt8.ofNat (240 + (valsR s.data.toList).getD 0 0)).toNat : Int)) := by
            rw [cell_of_row wr B _ _ _ _ hrow]; simp [zonK_last k _ hm1, eb]
          have fx : wr.frozen? ⟨B, k - 1, none⟩ = false := frozen_of_row _ _ _ _ _ hrow
          have HR := hid hrow
          have hd0 : (valsR s.data.toList).getD 0 0 < 16 := by
            rw [valsR_getD _ _ (by rw [ba_len]; omega), ba_len, Nat.sub_zero]; have := HD.out (s.size - 1) (by omega); omega
          generalize hd00 : (valsR s.data.toList).getD 0 0 = d0 at *
          have HD0 := hid hd00; clear hd00
          rw [toNat_ofNat (by omega)] at cx
          clear hrow hlt
          go_wp2_with fail
          have e1 : IntKind.i64.wrap ((k : Int) - 1) = (k : Int) - 1 := IntWalk.i64_in _ (by omega)
          have e5 : ((k : Int) - 1).toNat = k - 1 := by omega
          have e7 : 1 ≤ (k : Int) := by omega
          have e9 : (k : Int) - 1 < k := by omega
          refine wp_region_still_tail 14 (by kernel_rfl) (by kernel_rfl) ?_
          simp only [List.take_succ_cons, List.take_zero, List.drop_succ_cons, List.drop_zero]
          repeat still_step
          still_call ((signOf_any neg _).mono fun e w' h => ⟨h.1, h.2.symm⟩)
          repeat still_step
          try refine wpStill_nil ?_
          clear e1 e5
          change wpList _ _ _ _ _ wr.drew
          replace hc : Chg [] w wr.drew := hc.trans (Chg.drew _ _)
          replace hcc0 : wr.drew.cell? _ = _ := hcc0
          replace hcc1 : wr.drew.cell? _ = _ := hcc1
          replace cx : wr.drew.cell? _ = _ := cx
          replace fx : wr.drew.frozen? _ = _ := fx
          have HR2 : Hid (wr.drew.heap[B]? = _) := HR
          generalize wr.drew = w3 at *
          clear HR
          have hval : (Value.int .u8 (bits .or .u8 ((240 + (d0 : Int)) % 16) ((sgn neg : Int) * 16 % 256))) = eb (UInt8.ofNat (16 * sgn neg + d0)) := by
            have hs1 := sgn_lt neg
            rw [show (240 + (d0 : Int)) % 16 = ((d0 : Nat) : Int) from by omega, show ((sgn neg : Nat) : Int) * 16 % 256 = ((sgn neg * 16 : Nat) : Int) from by omega, u8_or_nat _ _ (by omega) (by omega),
              or_shift _ _ hd0 hs1, eb, toNat_ofNat (by omega)]
          have HV := hid hval; clear hval
          go_wp2_with fail
          rw [HV.out]
          have h3 := (heap_setCell_same w3 B (k - 1) _ _ (eb (UInt8.ofNat (16 * sgn neg + d0))) HR2.out).trans (by rw [rows_set])
          have hc4 : Chg [] w (w3.setCell ⟨B, k - 1, none⟩ (eb (UInt8.ofNat (16 * sgn neg + d0)))) := hc.then (Chg.setCell (L := [B]) w3 (.inl (by simp)) _) (by simp; omega)
          have hd1 := (Chg.setCell (L := [B]) w3 (p := ⟨B, k - 1, none⟩) (.inl (by simp)) (eb (UInt8.ofNat (16 * sgn neg + d0)))).cell hcc1 (by simp; omega)
          generalize w3.setCell ⟨B, k - 1, none⟩ (eb (UInt8.ofNat (16 * sgn neg + d0))) = w4 at *
          clear hc hcc0 hcc1 cx fx HR2 HV
          have H3 := hid h3; clear h3
          go_quiet (fail)
          go_wp2_with fail
          go_returns
          refine ⟨_, ret_vb ((congrArg Prod.snd HS.out).trans (by simp)), ?_, hc4.drewN _⟩
          rw [HS.out, zonF_of _ _ _ hm1, HD0.out, List.length_set, zonK_length]
          exact ⟨by simp [zonK_length], .inr ⟨B, k, _, rfl, by omega, H3.out, Nat.le_refl _, by unfold maxLen; omega, by simp [zonK_length], by simpa using List.take_of_length_le (by simp [zonK_length])⟩⟩
    · have HS := hid (zonS_bad neg s.data.toList n (.inr h2))
      go_enter Try.func27, Try.ntmps27
      go_wp2_with (first | (go_at_call 29; refine (valid_any neg s hs _).mono ?_; rintro e w1 ⟨rfl, hch1⟩) | (go_at_call 41; refine (inField_any _ _).mono ?_; rintro e w' ⟨rfl, rfl⟩))
      go_returns
      exact ⟨_, ret_vb (congrArg Prod.snd HS.out), by rw [HS.out]; exact World.ownsRow_nil _ _ _ _, (Chg.alloc _ _ _).trans hch1⟩
  · have HS := hid (zonS_bad neg s.data.toList n (.inl h1))
    go_enter Try.func27, Try.ntmps27
    go_wp2_with (first | (go_at_call 29; refine (valid_any neg s hs _).mono ?_; rintro e w1 ⟨rfl, hch1⟩))
    go_returns
    exact ⟨_, ret_vb (congrArg Prod.snd HS.out), by rw [HS.out]; exact World.ownsRow_nil _ _ _ _, (Chg.alloc _ _ _).trans hch1⟩

end Go.Proofs.Ytmmhokcdchhciaa
