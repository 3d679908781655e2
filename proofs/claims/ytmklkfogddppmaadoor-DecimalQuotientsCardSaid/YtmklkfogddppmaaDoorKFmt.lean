/- strconv.FormatUint at base ten: the decimal numeral. -/
import Derived.Test.YtmklkfogddppmaaDoorShelf
import Derived.Lib.Walk
import Derived.Lib.ItoaMem
import Derived.WalkKit
import Derived.BigCall
import Derived.BigGuard
import Derived.Test.YtmklkfogddppmaaDoorKFrameB
namespace Go.Proofs.YtmklkfogddppmaaDoor
open Go.RowKit Go.Shelf Go.Sort
set_option linter.unusedVariables false

/-- The table of powers of ten lies as the text lays it. -/
def Tab (w : World) : Prop := Lib.TabIs Tryd.prog w "internal/strconv.uint64pow10" .u64 Lib.pow10Tab
theorem Tab.keep {w w' : World} (h : Tab w) (hc : Chg [] w w') : Tab w' := by
  unfold Tab Lib.TabIs World.var? at *
  cases hg : Program.globalNamed Tryd.prog "internal/strconv.uint64pow10" with
  | none => rw [hg] at h; simp at h
  | some g =>
    rw [hg] at h
    simp only [Option.bind_some] at h ⊢
    cases hb : w.heap[g]? with
    | none => rw [hb] at h; cases h
    | some o =>
      rw [hb] at h
      rw [hc.heap hb (by simp)]
      exact h
theorem Tab.keepL {w w' : World} (h : Tab w) {L : List Nat} {B : Nat} (hc : Chg L w w') (hL : ∀ k ∈ L, w.heap.size ≤ k) : Tab w' :=
  h.keep (hc.weaken fun k hk hkl => absurd (hL k hkl) (by omega))

theorem chg_putRow (w : World) (o : Obj) (off : Nat) (dk : Array UInt8) (k : Nat) : Chg [] w ((putRow (fun (b : UInt8) => Value.int .u8 (b.toNat : Int)) (w.alloc o) w.heap.size off dk).drewN k) := by
  refine Chg.drewN ?_ k
  unfold putRow mapBlock
  refine ⟨rfl, rfl, rfl, by simp, fun i hi _ => ?_⟩
  show ((w.alloc o).heap.modify w.heap.size _)[i]? = _
  rw [Array.getElem?_modify, if_neg (by omega)]
  exact Below.heap_alloc w o i hi

set_option maxHeartbeats 1600000 in
set_option maxRecDepth 100000 in
theorem iFormatUint_any (u : Nat) (w : World) (hu64 : u < 18446744073709551616) (htab : Tab w) :
    Calls Tryd.prog 66 #[.int .u64 (u : Int), .int .i64 10] w fun e w' => e = .returned (.string ⟨(Lib.decDigits u).toArray⟩) ∧ Chg [] w w' := by
  by_cases hs : u < 100
  · go_enter Tryd.func66, Tryd.ntmps66
    go_wp2_with (go_at_call 83; refine (Tryd.internal_strconv_small u hs _).mono ?_; rintro e w' ⟨rfl, rfl⟩)
    go_ret
    exact ⟨rfl, Chg.refl _ _⟩
  · have hu1 : 1 ≤ u := by omega
    have hnd20 : Lib.nDigits u ≤ 20 := by have := Lib.numDigits_eq u hu1 hu64; split at this <;> omega
    have hal : Tryd.prog.arrayLen 104 = 24 := by simp [Program.arrayLen, Tryd.underlying104]
    have hsl : ∀ W, (Instr.sliceAt 104 (.pointer (some ⟨w.heap.size, 0, none⟩)) none (some (.int .i64 (Lib.nDigits u : Int))) none).run Tryd.prog W = .ok (.slice (some ⟨w.heap.size, 0, none⟩) (Lib.nDigits u) 24) W := fun W => by
      rw [run_sliceAt_array_h W 104 ⟨w.heap.size, 0, none⟩ (by simp [Program.arrayLen, Program.elem, Tryd.underlying104]) .i64 (Lib.nDigits u : Int) (by omega) (by rw [hal]; omega)]
      go_simp
    have hH0 : Holds (fun (b : UInt8) => Value.int .u8 (b.toNat : Int)) (w.alloc (.cells Lib.zeros24 104)) w.heap.size 0 (Array.replicate (Lib.nDigits u) 0) := fun j hj => by
      rw [Array.size_replicate] at hj
      rw [World.cell?_alloc_new, Lib.zeros24_at _ (by omega), getElem!_pos _ j (by simpa using hj)]
      simp
    have hfmt := Tryd.internal_strconv_formatBase10 w.heap.size 0 24 u (Array.replicate (Lib.nDigits u) 0) (w.alloc (.cells Lib.zeros24 104)) hH0 (by rw [Array.size_replicate]; exact Lib.lt_pow_nDigits u) hu64 (by rw [Array.size_replicate]; omega)
    rw [Array.size_replicate] at hfmt
    have HH0 := hid hH0
    have HT := hid htab
    clear hH0 hal htab
    go_enter Tryd.func66, Tryd.ntmps66
    go_wp2_with (first
      | (go_at_call 84; refine (Tryd.internal_strconv_numDigits u hu1 hu64 _ (Lib.tabIs_alloc HT.out _)).mono ?_; rintro e w' ⟨rfl, rfl⟩))
    go_at_call 85
    refine hfmt.mono ?_
    rintro e w' ⟨rfl, k, v', dk, rfl, hF⟩
    have hcv : (convert 22 9 (.slice (some ⟨w.heap.size, 0, none⟩) (Lib.nDigits u) 24)).run Tryd.prog ((putRow (fun (b : UInt8) => Value.int .u8 (b.toNat : Int)) (w.alloc (.cells Lib.zeros24 104)) w.heap.size 0 dk).drewN k) = .ok (.string ⟨(Lib.decDigits u).toArray⟩) ((putRow (fun (b : UInt8) => Value.int .u8 (b.toNat : Int)) (w.alloc (.cells Lib.zeros24 104)) w.heap.size 0 dk).drewN k) := by
      have h := run_convert_bytes_back (P := Tryd.prog) ((putRow (fun (b : UInt8) => Value.int .u8 (b.toNat : Int)) (w.alloc (.cells Lib.zeros24 104)) w.heap.size 0 dk).drewN k) 22 9 5 ⟨w.heap.size, 0, none⟩ 24 (Lib.decDigits u) Tryd.underlying22 Tryd.underlying5 Tryd.underlying9 (fun j hj => by
        rw [Lib.row_is_numeral hF j hj, Lib.add_plain, World.cell?_drewN]
        exact cell?_putRow (fun (b : UInt8) => Value.int .u8 (b.toNat : Int)) _ w.heap.size 0 _ dk HH0.out (by rw [hF.size, Array.size_replicate]) j (by rw [hF.size]; rw [Lib.decDigits_length] at hj; exact hj))
      rw [Lib.decDigits_length] at h
      exact h
    go_wp2
    go_ret
    exact ⟨rfl, chg_putRow w _ 0 dk k⟩

theorem FormatUint_any (u : Nat) (w : World) (hu64 : u < 18446744073709551616) (htab : Tab w) :
    Calls Tryd.prog 40 #[.int .u64 (u : Int), .int .i64 10] w fun e w' => e = .returned (.string ⟨(Lib.decDigits u).toArray⟩) ∧ Chg [] w w' := by
  go_enter Tryd.func40, Tryd.ntmps40
  go_wp2_with (go_at_call 66; refine (iFormatUint_any u _ hu64 htab).mono ?_; rintro e w' ⟨rfl, hc⟩)
  go_returns
  exact ⟨rfl, hc⟩

end Go.Proofs.YtmklkfogddppmaaDoor
