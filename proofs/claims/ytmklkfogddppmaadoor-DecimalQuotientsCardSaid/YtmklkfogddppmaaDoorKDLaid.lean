/- The arguments of a law's statement as the walks want them. -/
import Derived.WideShapes
import Derived.Test.YtmklkfogddppmaaDoorRows
import Derived.Lib.LaidTab
import Derived.LaidMore
import Derived.ProofKit
import Derived.Stop.Joined
import Derived.Stop.LaidErr
import Derived.Test.YtmklkfogddppmaaDoorKFrameB
import Derived.Test.YtmklkfogddppmaaDoorKFmt
namespace Go.Proofs.YtmklkfogddppmaaDoor
open Go.RowKit Go.WideShapes

/-- What is told of a slice of integers that came in. -/
def IsRow (k : IntKind) (w : World) (a : Option Addr) (len cap : Nat) (zs : List Int) : Prop :=
  (a = none ∧ len = 0 ∧ cap = 0 ∧ zs = []) ∨
  ∃ x, a = some x ∧ len ≤ cap ∧ cap ≤ maxLen ∧ zs.length = cap ∧ (∀ i, i < zs.length → w.cell? (x.add i) = some (.int k (zs.getD i 0))) ∧ ∀ n ∈ zs, (Lit.int k n).wf = true

/-- A slice that came in begins at a cell. -/
theorem okWide_spot {P : Program} {w : World} {r : Reach} {base : Nat} {t e : TypeId} {a : Option Addr} {len cap : Nat} (ht : P.underlying t = some (.slice e)) (h : Value.okWide P w r base t (.slice a len cap)) : ∀ x, a = some x → x.spot = none := by
  rintro x rfl
  simp only [Value.okWide, ht, Cell.okWide, Cell.ok] at h
  exact h.2.2.2.1

theorem u8_range {n : Int} (h : (Lit.int .u8 n).wf = true) : 0 ≤ n ∧ n < 256 := by
  simp [Lit.wf, IntKind.min, IntKind.max, IntKind.signed, IntKind.bits] at h
  omega

theorem Reads.ofRow {w : World} {a : Option Addr} {len cap : Nat} {zs : List Int} (h : IsRow .u8 w a len cap zs) (hs : ∀ x, a = some x → x.spot = none) : ∃ b : List UInt8, Reads w (.slice a len cap) b := by
  rcases h with ⟨rfl, rfl, rfl, rfl⟩ | ⟨x, rfl, h1, h2, h3, h4, h5⟩
  · exact ⟨[], Reads.nil w⟩
  · refine ⟨(zs.take len).map fun n => UInt8.ofNat n.toNat, some x, cap, by simp [h3, Nat.min_eq_left h1], by simp [h3]; omega, h2, (fun h => by cases h), fun y hy => ?_⟩
    cases hy
    have hx := hs x rfl
    obtain ⟨b, off, spot⟩ := x
    simp only at hx
    subst hx
    refine ⟨rfl, fun i hi => ?_⟩
    have hi2 : i < len ∧ i < cap := by simp [h3] at hi; omega
    have h6 := h4 i (by omega)
    have hadd : (⟨b, off, none⟩ : Addr).add i = ⟨b, off + i, none⟩ := by unfold Addr.add; split <;> simp_all
    rw [hadd] at h6
    rw [h6]
    have hz : i < zs.length := by omega
    have h7 := u8_range (h5 _ (List.getElem_mem hz))
    have h8 : (zs.getD i 0) = zs[i] := by rw [List.getD_eq_getElem?_getD, List.getElem?_eq_getElem hz]; rfl
    rw [h8]
    have h9 : (UInt8.ofNat zs[i].toNat).toNat = zs[i].toNat := by
      simp only [UInt8.toNat_ofNat']
      omega
    simp only [List.getElem_map, List.getElem_take, eb]
    rw [h9]
    congr 2
    omega

end Go.Proofs.YtmklkfogddppmaaDoor

/- What the tied cards of layer 4 give a walk: the table of powers of ten. -/
namespace Go.Proofs.YtmklkfogddppmaaDoor
open Go Go.ChangeShapes Go.WideShapes Go.ChangeAt Go.RowKit

def laid3 : List (String × DataW Unit) := [("math/bits.deBruijn32tab", Rows.laid_math_bits_deBruijn32tab), ("math/bits.deBruijn64tab", Rows.laid_math_bits_deBruijn64tab), ("internal/strconv.uint64pow10", Rows.laid_internal_strconv_uint64pow10)]
theorem gPow : Tryd.prog.globalNamed "internal/strconv.uint64pow10" = some 2 := by kernel_rfl
theorem tPow : (Tryd.prog.globals[2]?).map (·.type) = some 111 := by kernel_rfl
theorem aPow : Tryd.prog.underlying 111 = some (.array 20 41) := by kernel_rfl
theorem cPow1 : Tryd.prog.cellsOf 41 = 1 := by kernel_rfl
theorem cPow20 : Tryd.prog.cellsOf 111 = 20 := by kernel_rfl
theorem dPow : (Rows.laid_internal_strconv_uint64pow10 : DataW Unit) = Lib.tabData .u64 Lib.pow10Tab := by
  unfold Rows.laid_internal_strconv_uint64pow10 Lib.tabData Lib.pow10Tab
  simp [List.range, List.range.loop]

/-- The start meets the condition. -/
theorem door_met (os : Os) (args : Array Value) : laidMetH Tryd.prog laid3 ((World.doorLaid Tryd.prog 24 os).forCall (fun _ _ => 0) ⟨#[], args, []⟩).memory :=
  laidMetH_of_parts3 (fuel := 8) (laidMet_of_run' 8 (by kernel_rfl) (by kernel_rfl)) (by kernel_rfl) (by kernel_rfl)

/-- What the condition gives the walks. -/
theorem tab_of_laid {W : World} (h : laidMetH Tryd.prog laid3 W) : Tab W := by
  rw [MakeChecks.laidMetH_plain _ _ _ (by kernel_rfl)] at h
  unfold laid3 at h
  rw [dPow] at h
  exact Lib.tabIs_of_head gPow tPow aPow Tryd.underlying41 cPow1 cPow20 h.tail.tail

end Go.Proofs.YtmklkfogddppmaaDoor
