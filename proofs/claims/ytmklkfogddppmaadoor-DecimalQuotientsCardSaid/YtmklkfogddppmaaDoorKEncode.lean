/- Encode of layer 3. -/
import Derived.Deep.QuietTactic
import Derived.BigQuiet
import Derived.Test.YtmklkfogddppmaaDoorKPackH
import Derived.Test.YtmklkfogddppmaaDoorKSpecD
namespace Go.Proofs.YtmklkfogddppmaaDoor
open Go.RowKit
set_option linter.unusedVariables false

theorem Encode_any (w : World) (neg : Bool) (s : ByteArray) (hs : s.size ≤ maxLen) (n : Int) :
    Calls Tryd.prog 65 #[.agg #[.bool neg, .string s], .int .i64 n] w fun e w' =>
      ∃ u, e = .returned (.tuple #[u, .bool (encS neg s.data.toList n).2]) ∧ w'.ownsRow w.heap.size 5 1 u (encS neg s.data.toList n).1.length ((encS neg s.data.toList n).1.map eb) ∧ Chg [] w w' := by
  by_cases h1 : validS s.data.toList = true
  · by_cases h2 : okSize n = true
    · obtain ⟨m, rfl, hm1, hm2⟩ := ok_nat h2
      have HS := hid (encS_eq neg s m h1 h2)
      have HP := hid (encP_succ neg s.data.toList)
      have HZ := hid (encP_zero neg s.data.toList)
      obtain ⟨hL1, hL2, hdig⟩ := valid_digits h1
      have HD := hid hdig; clear hdig
      have HL := hid (encP_lt neg h1)
      rw [ba_len] at HP
      go_enter Tryd.func65, Tryd.ntmps65
      go_wp2_with fail
      refine (valid_any neg s hs _).mono ?_
      rintro e w1 ⟨rfl, hch1⟩
      have hb0 : (w.alloc (.cells #[.bool neg, .string s] 70)).heap[w.heap.size]? = some (.cells #[.bool neg, .string s] 70 (0, 0)) := al_new rfl
      have hcc := two_cells (hch1.heap hb0 (by simp))
      have hlt1 := lt_of_block (hch1.heap hb0 (by simp))
      have hch : Chg [] w w1 := (Chg.alloc _ _ _).trans hch1
      clear hch1 hb0
      obtain ⟨hcc0, hcc1⟩ := hcc
      go_wp2_with (first | (go_at_call 74; refine (inField_any _ _).mono ?_; rintro e w' ⟨rfl, rfl⟩))
      refine (writer_any m (by omega) w1).mono ?_
      rintro e w2 ⟨rfl, hWr, hch2, hsz⟩
      unfold wval
      replace hch : Chg [] w w2 := hch.trans hch2
      replace hcc0 := hch2.cell hcc0 (by simp)
      replace hcc1 := hch2.cell hcc1 (by simp)
      clear hch2
      generalize hB : w1.heap.size = B at *
      clear hB
      go_wp2_with (first | (go_at_call 82; refine (signOf_any _ _).mono ?_; rintro e w' ⟨rfl, rfl⟩))
      refine (put_int w2 _ _ _ m [] _ (by omega) (by have := sgn_lt neg; omega) (by simp) hWr).mono ?_
      rintro e w3 ⟨rfl, hWr2, hch2, hsz2⟩
      have HW2 : Wr w3 (B + 1 + 1) (B + 1) B m (encP neg s.data.toList 0) := by
        rw [HZ.out]; simpa using hWr2
      replace hch : Chg [] w w3 := hch.then hch2 (by simp; omega)
      replace hcc0 := hch2.cell hcc0 (by simp; omega)
      replace hcc1 := hch2.cell hcc1 (by simp; omega)
      have hs2 : w3.heap.size = B + 3 := by omega
      clear hWr hWr2 hch2 hsz hsz2
      go_wp2_with fail
      go_loopw [8] (fun i wr => ∃ k : Nat, k ≤ s.size ∧ i = .int .i64 (s.size - 1 - k) ∧ Wr wr (B + 1 + 1) (B + 1) B m (encP neg s.data.toList k) ∧ Chg [] w wr ∧ wr.heap.size = B + 3 ∧
          wr.cell? ⟨w.heap.size, 0, none⟩ = some (.bool neg) ∧ wr.cell? ⟨w.heap.size, 1, none⟩ = some (.string s)) (fun i _ => (intOf i + 1).toNat)
      case atStart => exact ⟨0, by omega, by go_num, HW2, hch, hs2, hcc0, hcc1⟩
      case round =>
        clear HW2 hch hs2 hcc0 hcc1
        obtain ⟨k, hk, rfl, hW, hc, hsz, hcc0, hcc1⟩ := hrel
        by_cases hlt : k < s.size
        · have hb := ba_bN s (s.size - 1 - k) (by omega)
          have hx : 48 ≤ (s[s.size - 1 - k]'(by omega)).toNat ∧ (s[s.size - 1 - k]'(by omega)).toNat ≤ 57 := by rw [← hb]; exact HD.out _ (by omega)
          have HB := hid hb
          clear hb
          go_wp2_with fail
          refine (put_int wr _ _ _ m _ _ (by omega) (by omega) (HL.out k) hW).mono ?_
          rintro e w2 ⟨rfl, hWr2, hch2, hsz2⟩
          have HW2 : Wr w2 (B + 1 + 1) (B + 1) B m (encP neg s.data.toList (k + 1)) := by
            rw [HP.out k hlt, HB.out]; simpa [show (((s[s.size - 1 - k]'(by omega)).toNat : Int) - 48).toNat = (s[s.size - 1 - k]'(by omega)).toNat - 48 from by omega] using hWr2
          have hc2 : Chg [] w w2 := hc.then hch2 (by simp; omega)
          have hs2 : w2.heap.size = B + 3 := by omega
          replace hcc0 := hch2.cell hcc0 (by simp; omega)
          replace hcc1 := hch2.cell hcc1 (by simp; omega)
          clear hWr2 hch2 hsz2 hsz hW hc hx HB
          go_wp2_with fail
          go_roundw
          case rel => exact ⟨k + 1, by omega, by go_num, HW2, hc2, hs2, hcc0, hcc1⟩
          case measure => simp [intOf]; omega
        · obtain rfl : k = s.size := by omega
          clear hlt
          go_wp2_with fail
          go_quiet (fail)
          go_wp2_with fail
          go_returns
          refine ⟨_, ret_vb (congrArg Prod.snd HS.out), ?_, hc.drewN _⟩
          rw [HS.out, fld_length]
          exact Wr.own hW (by omega) (by omega)
    · have HS := hid (encS_bad neg s.data.toList n (.inr h2))
      go_enter Tryd.func65, Tryd.ntmps65
      go_wp2_with (first | (go_at_call 80; refine (valid_any neg s hs _).mono ?_; rintro e w1 ⟨rfl, hch1⟩) | (go_at_call 74; refine (inField_any _ _).mono ?_; rintro e w' ⟨rfl, rfl⟩))
      go_returns
      exact ⟨_, ret_vb (congrArg Prod.snd HS.out), by rw [HS.out]; exact World.ownsRow_nil _ _ _ _, (Chg.alloc _ _ _).trans hch1⟩
  · have HS := hid (encS_bad neg s.data.toList n (.inl h1))
    go_enter Tryd.func65, Tryd.ntmps65
    go_wp2_with (first | (go_at_call 80; refine (valid_any neg s hs _).mono ?_; rintro e w1 ⟨rfl, hch1⟩))
    go_returns
    exact ⟨_, ret_vb (congrArg Prod.snd HS.out), by rw [HS.out]; exact World.ownsRow_nil _ _ _ _, (Chg.alloc _ _ _).trans hch1⟩

end Go.Proofs.YtmklkfogddppmaaDoor
