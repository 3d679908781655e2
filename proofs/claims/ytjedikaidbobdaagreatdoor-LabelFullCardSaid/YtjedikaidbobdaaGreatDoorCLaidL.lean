/- What the tied cards of layer 26 ask of the start: seven variables lie; the walks read the table of powers of ten. -/
import Derived.Test.YtjedikaidbobdaaGreatDoorRows
import Derived.Test.YtjedikaidbobdaaGreatDoorArgL
import Derived.Lib.LaidTab
import Derived.LaidMore
import Derived.ProofKit
import Derived.Stop.Joined
import Derived.Stop.LaidErr
import Derived.Lay
import Derived.OpenShut
namespace Go.Proofs.YtjedikaidbobdaaGreatDoor
open Go Go.ChangeShapes Go.WideShapes Go.ChangeAt Go.RowKit

def laid2 : List (String × DataW Unit) := [("math/bits.deBruijn32tab", Rows.laid_math_bits_deBruijn32tab), ("math/bits.deBruijn64tab", Rows.laid_math_bits_deBruijn64tab), ("internal/strconv.uint64pow10", Rows.laid_internal_strconv_uint64pow10), ("unicode/utf8.acceptRanges", Rows.laid_unicode_utf8_acceptRanges), ("strconv.ErrRange", Rows.laid_strconv_ErrRange), ("strconv.ErrSyntax", Rows.laid_strconv_ErrSyntax), ("unicode/utf8.first", Rows.laid_unicode_utf8_first)]
theorem gPow : Tryz.prog.globalNamed "internal/strconv.uint64pow10" = some 5 := by kernel_rfl
theorem tPow : (Tryz.prog.globals[5]?).map (·.type) = some 181 := by kernel_rfl
theorem aPow : Tryz.prog.underlying 181 = some (.array 20 115) := by kernel_rfl
theorem cPow1 : Tryz.prog.cellsOf 115 = 1 := by kernel_rfl
theorem cPow20 : Tryz.prog.cellsOf 181 = 20 := by kernel_rfl
theorem dPow : (Rows.laid_internal_strconv_uint64pow10 : DataW Unit) = Lib.tabData .u64 Lib.pow10Tab := by
  unfold Rows.laid_internal_strconv_uint64pow10 Lib.tabData Lib.pow10Tab
  simp [List.range, List.range.loop]
theorem uPow : Tryz.prog.underlying 115 = some (.int .u64) := by kernel_rfl
theorem tab_of_laid {W : World} (h : laidMetH Tryz.prog laid2 W) : GtW W := by
  rw [MakeChecks.laidMetH_plain _ _ _ (by kernel_rfl)] at h
  unfold laid2 at h
  rw [dPow] at h
  have ht : Lib.TabIs Tryz.prog W "internal/strconv.uint64pow10" .u64 Lib.pow10Tab := Lib.tabIs_of_head gPow tPow aPow uPow cPow1 cPow20 h.tail.tail
  unfold Lib.TabIs World.var? at ht
  rw [gPow] at ht
  simp only [Option.bind_some] at ht
  unfold GtW
  split at ht
  · rename_i cs e z q
    injection ht with ht
    exact ⟨e, z, by rw [← ht]; exact q⟩
  · cases ht
theorem gc_shaped {w : World} (h : w.ShapedOpen Tryz.prog) (hl : laidMetH Tryz.prog laid2 w) : GcW w :=
  ⟨cell_of_shapedOpen_int (P := Tryz.prog) (g := gB) (t := 3) (zero := #[.int .i64 0]) h (of_decide_eq_true (by kernel_rfl)) (by kernel_rfl) rfl (by kernel_rfl) (by kernel_rfl) Tryz.underlying3, tab_of_laid hl⟩
theorem door_met (os : Os) (args : Array Value) : laidMetH Tryz.prog laid2 ((World.laidAll Tryz.prog os laid2).forCall (fun _ _ => 0) ⟨#[], args, []⟩).memory := by
  rw [MakeChecks.laidMetH_plain _ _ _ (by kernel_rfl)]; exact laidMet_laidAll _ (by kernel_rfl) (by kernel_rfl)
end Go.Proofs.YtjedikaidbobdaaGreatDoor
