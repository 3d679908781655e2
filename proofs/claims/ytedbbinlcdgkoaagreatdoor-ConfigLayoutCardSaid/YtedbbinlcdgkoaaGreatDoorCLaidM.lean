/- What the tied cards of layer 26 ask of the start: seven variables lie; the walks read the table of powers of ten. -/
import Derived.Test.YtedbbinlcdgkoaaGreatDoorRows
import Derived.Lib.LaidTab
import Derived.Lib.LaidU8T
import Derived.Test.YtedbbinlcdgkoaaGreatDoorArgM
import Derived.LaidMore
import Derived.ProofKit
import Derived.Stop.Joined
import Derived.Stop.LaidErr
import Derived.Lay
import Derived.OpenShut
namespace Go.Proofs.YtedbbinlcdgkoaaGreatDoor
open Go Go.ChangeShapes Go.WideShapes Go.ChangeAt Go.RowKit

def laid2 : List (String × DataW Unit) := [("math/bits.deBruijn32tab", Rows.laid_math_bits_deBruijn32tab), ("math/bits.deBruijn64tab", Rows.laid_math_bits_deBruijn64tab), ("internal/strconv.uint64pow10", Rows.laid_internal_strconv_uint64pow10), ("unicode/utf8.acceptRanges", Rows.laid_unicode_utf8_acceptRanges), ("strconv.ErrRange", Rows.laid_strconv_ErrRange), ("strconv.ErrSyntax", Rows.laid_strconv_ErrSyntax), ("unicode.CaseRanges", Rows.laid_unicode_CaseRanges), ("unicode/utf8.first", Rows.laid_unicode_utf8_first)]
theorem gPow : Tryz.prog.globalNamed "internal/strconv.uint64pow10" = some 1 := by kernel_rfl
theorem tPow : (Tryz.prog.globals[1]?).map (·.type) = some 152 := by kernel_rfl
theorem aPow : Tryz.prog.underlying 152 = some (.array 20 130) := by kernel_rfl
theorem cPow1 : Tryz.prog.cellsOf 130 = 1 := by kernel_rfl
theorem cPow20 : Tryz.prog.cellsOf 152 = 20 := by kernel_rfl
theorem dPow : (Rows.laid_internal_strconv_uint64pow10 : DataW Unit) = Lib.tabData .u64 Lib.pow10Tab := by
  unfold Rows.laid_internal_strconv_uint64pow10 Lib.tabData Lib.pow10Tab
  simp [List.range, List.range.loop]
theorem uPow : Tryz.prog.underlying 130 = some (.int .u64) := by kernel_rfl
def bru : List Int := [0, 1, 56, 2, 57, 49, 28, 3, 61, 58, 42, 50, 38, 29, 17, 4, 62, 47, 59, 36, 45, 43, 51, 22, 53, 39, 33, 30, 24, 18, 12, 5, 63, 55, 48, 27, 60, 41, 37, 16, 46, 35, 44, 21, 52, 32, 23, 11, 54, 26, 40, 15, 34, 20, 31, 10, 25, 14, 19, 9, 13, 8, 7, 6]
theorem gBru : Tryz.prog.globalNamed "math/bits.deBruijn64tab" = some dB := by kernel_rfl
theorem tBru : (Tryz.prog.globals[dB]?).map (·.type) = some 184 := by kernel_rfl
theorem aBru : Tryz.prog.underlying 184 = some (.array 64 5) := by kernel_rfl
theorem cBru1 : Tryz.prog.cellsOf 5 = 1 := by kernel_rfl
theorem cBru64 : Tryz.prog.cellsOf 184 = 64 := by kernel_rfl
theorem uBru : Tryz.prog.underlying 5 = some (.int .u8) := by kernel_rfl
theorem dBru : (Rows.laid_math_bits_deBruijn64tab : DataW Unit) = Lib.tabData .u8 bru := by kernel_rfl
def renU : Go.Shelf.Ren := ⟨fun x => x, fun n => if n = 119 then 162 else if n = 138 then 164 else if n = 139 then 165 else n, fun n => if n = 3 then fB else if n = 4 then rB else n⟩
theorem dFst : (Rows.laid_unicode_utf8_first : DataW Unit) = Lib.firstData := by kernel_rfl
theorem dAcc : (Rows.laid_unicode_utf8_acceptRanges : DataW Unit) = Lib.acceptData := by kernel_rfl
theorem tab_of_laid {W : World} (h : laidMetH Tryz.prog laid2 W) : GtW W ∧ W.cell? ⟨dB, 15, none⟩ = some (.int .u8 4) ∧ Lib.Utf8Tabs fB rB W := by
  rw [MakeChecks.laidMetH_plain _ _ _ (by kernel_rfl)] at h
  have hfs : Lib.VarReads Tryz.prog W "unicode/utf8.first" Lib.firstData := by
    rw [← dFst]; exact Lib.laidMet.reads h (by unfold laid2; simp)
  have hac : Lib.VarReads Tryz.prog W "unicode/utf8.acceptRanges" Lib.acceptData := by
    rw [← dAcc]; exact Lib.laidMet.reads h (by unfold laid2; simp)
  have hu : Lib.Utf8Tabs fB rB W := utf8Tabs_of_readsT (ρ := renU) ⟨by kernel_rfl, by kernel_rfl, by kernel_rfl, by kernel_rfl⟩ ⟨by kernel_rfl, by kernel_rfl, by kernel_rfl, by kernel_rfl, by kernel_rfl, by kernel_rfl, by kernel_rfl⟩ hfs hac
  unfold laid2 at h
  rw [dPow, dBru] at h
  have hb : Lib.TabIs Tryz.prog W "math/bits.deBruijn64tab" .u8 bru := Lib.tabIs_of_head gBru tBru aBru uBru cBru1 cBru64 h.tail
  have hb15 := hb.cell gBru 15 (by decide)
  have ht : Lib.TabIs Tryz.prog W "internal/strconv.uint64pow10" .u64 Lib.pow10Tab := Lib.tabIs_of_head gPow tPow aPow uPow cPow1 cPow20 h.tail.tail
  refine ⟨?_, hb15, hu⟩
  unfold Lib.TabIs World.var? at ht
  rw [gPow] at ht
  simp only [Option.bind_some] at ht
  unfold GtW
  split at ht
  · rename_i cs e z q
    injection ht with ht
    exact ⟨e, z, by rw [← ht]; exact q⟩
  · cases ht
theorem gc_shaped {w : World} (h : w.ShapedOpen Tryz.prog) (hl : laidMetH Tryz.prog laid2 w) : GcW w :=
  ⟨cell_of_shapedOpen_int (P := Tryz.prog) (g := gB) (t := 3) (zero := #[.int .i64 0]) h (of_decide_eq_true (by kernel_rfl)) (by kernel_rfl) rfl (by kernel_rfl) (by kernel_rfl) Tryz.underlying3, tab_of_laid hl⟩
theorem door_met (os : Os) (args : Array Value) : laidMetH Tryz.prog laid2 ((World.laidAll Tryz.prog os laid2).forCall (fun _ _ => 0) ⟨#[], args, []⟩).memory := by
  rw [MakeChecks.laidMetH_plain _ _ _ (by kernel_rfl)]; exact laidMet_laidAll _ (by kernel_rfl) (by kernel_rfl)
end Go.Proofs.YtedbbinlcdgkoaaGreatDoor
