/- Rows of bytes, more. -/
import Derived.Test.YtmmhokcdchhciaaFrame
import Derived.Deep.Draws
namespace Go.Proofs.Ytmmhokcdchhciaa
open Go.RowKit

/-- byte i as a number -/
def bN (b : List UInt8) (i : Nat) : Nat := (b.getD i 0).toNat
theorem bN_lt (b : List UInt8) (i : Nat) : bN b i < 256 := UInt8.toNat_lt _
theorem bN_get (b : List UInt8) (i : Nat) (h : i < b.length) : bN b i = (b[i]).toNat := by
  unfold bN; rw [List.getD_eq_getElem?_getD, List.getElem?_eq_getElem h]; rfl

/-- A slice that reads as bytes, taken apart: of length 0, or its cells one by one. -/
theorem Reads.parts {w : World} {v : Value} {xs : List UInt8} (h : Reads w v xs) {L : Nat} (hL : xs.length = L) :
    (xs = [] ∧ L = 0 ∧ ∃ a cap, v = .slice a 0 cap) ∨
    ∃ bb off cap, v = .slice (some ⟨bb, off, none⟩) L cap ∧ 1 ≤ L ∧ L ≤ cap ∧ cap ≤ 9223372036854775807 ∧ Hid (∀ i, i < L → w.cell? ⟨bb, off + i, none⟩ = some (.int .u8 (bN xs i : Nat))) := by
  subst hL
  obtain ⟨a, cap, rfl, h1, h2, h3, h4⟩ := h
  by_cases h0 : xs = []
  · subst h0; exact .inl ⟨rfl, rfl, a, cap, rfl⟩
  · cases a with
    | none => exact absurd (h3 rfl) h0
    | some x =>
      obtain ⟨hs, hc⟩ := h4 x rfl
      obtain ⟨bb, off, spot⟩ := x
      simp only at hs; subst hs
      refine .inr ⟨bb, off, cap, rfl, List.length_pos_iff.2 h0, h1, by unfold maxLen at h2; omega, fun i hi => ?_⟩
      rw [hc i hi, bN_get xs i hi]; rfl

theorem Reads.shape {w : World} {v : Value} {xs : List UInt8} (h : Reads w v xs) {L : Nat} (hL : xs.length = L) : ∃ a cap, v = .slice a L cap := by
  subst hL; obtain ⟨a, cap, hv, _⟩ := h; exact ⟨a, cap, hv⟩

theorem two_cells {w : World} {g : Nat} {a b : Value} {t : TypeId} {fr : Nat × Nat} (h : w.heap[g]? = some (.cells #[a, b] t fr)) : w.cell? ⟨g, 0, none⟩ = some a ∧ w.cell? ⟨g, 1, none⟩ = some b := by
  rw [cell_of_row w g 0 _ t fr h, cell_of_row w g 1 _ t fr h]; exact ⟨rfl, rfl⟩

theorem Chg.drewN {L : List Nat} {w w' : World} (h : Chg L w w') (n : Nat) : Chg L w (w'.drewN n) := ⟨h.os, h.tape, h.output, h.size, h.block⟩
theorem ret_vb {v : Value} {a b : Bool} (h : b = a) : Ending.returned (.tuple #[v, .bool a]) = Ending.returned (.tuple #[v, .bool b]) := by rw [h]

end Go.Proofs.Ytmmhokcdchhciaa
