/- A block of two cells that is written whole: the result of a function that hands back a struct of two fields. -/
import Derived.Test.YtmklkfogddppmaaDoorKFrameB
namespace Go.Proofs.YtmklkfogddppmaaDoor
open Go.RowKit

theorem store2 {W : World} {g : Nat} {a b : Value} {T : TypeId} (x y : Value) (h : W.heap[g]? = some (.cells #[a, b] T (0, 0))) :
    W.cell? ⟨g, 0, none⟩ = some a ∧ W.cell? ⟨g, 1, none⟩ = some b ∧ W.frozen? ⟨g, 0, none⟩ = false ∧ W.frozen? ⟨g, 1, none⟩ = false ∧
    Hid (((W.setCell ⟨g, 0, none⟩ x).setCell ⟨g, 1, none⟩ y).heap[g]? = some (.cells #[x, y] T (0, 0))) ∧ Hid (Chg [g] W ((W.setCell ⟨g, 0, none⟩ x).setCell ⟨g, 1, none⟩ y)) := by
  obtain ⟨h0, h1⟩ := two_cells h
  have x0 : (W.setCell ⟨g, 0, none⟩ x).heap[g]? = some (.cells #[x, b] T (0, 0)) := heap_setCell_same _ g 0 _ _ _ h
  have x1 : ((W.setCell ⟨g, 0, none⟩ x).setCell ⟨g, 1, none⟩ y).heap[g]? = some (.cells #[x, y] T (0, 0)) := heap_setCell_same _ g 1 _ _ _ x0
  exact ⟨h0, h1, frozen_of_row _ _ _ _ _ h, frozen_of_row _ _ _ _ _ h, x1, (Chg.setCell _ (.inl (by simp)) _).trans (Chg.setCell _ (.inl (by simp)) _)⟩

end Go.Proofs.YtmklkfogddppmaaDoor
