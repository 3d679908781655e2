import Derived.Lib.ItoaNum
import Derived.Test.YtjedikaidbobdaaGreatDoorFr
/- The cells of the library's variables that functions read, and what they hold: internal/bytealg.MaxLen, the powers of ten. -/
namespace Go.Proofs.YtjedikaidbobdaaGreatDoor
open Go.RowKit
set_option linter.unusedVariables false
def gB : Nat := 4
def tB : Nat := 5
def gZ (b p : Nat) : Prop := b = gB ∧ p = 0
def GtW (w : World) : Prop := ∃ t z, w.heap[tB]? = some (.cells (Lib.pow10Tab.map fun z => Value.int .u64 z).toArray t z)
def GcW (w : World) : Prop := (∃ m : Int, w.cell? ⟨gB, 0, none⟩ = some (.int .i64 m)) ∧ GtW w
theorem gc_cell {w : World} (h : GcW w) {b p : Nat} (hz : gZ b p) : ∃ c, w.cell? ⟨b, p, none⟩ = some c := by
  obtain ⟨⟨m, hm⟩, _⟩ := h
  obtain ⟨rfl, rfl⟩ := hz
  exact ⟨_, hm⟩
theorem gc_lt {w : World} (h : GcW w) : tB < w.heap.size := by
  obtain ⟨_, t, z, h⟩ := h
  exact (Array.getElem?_eq_some_iff.1 h).1
theorem gc_keep {w W : World} (h : GcW w) (hk : ∀ b p c, gZ b p → w.cell? ⟨b, p, none⟩ = some c → W.cell? ⟨b, p, none⟩ = some c) (ht : W.heap[tB]? = w.heap[tB]?) : GcW W := by
  obtain ⟨⟨m, hm⟩, t, z, h2⟩ := h
  exact ⟨⟨m, hk _ _ _ ⟨rfl, rfl⟩ hm⟩, t, z, ht.trans h2⟩
def prv (o : Nat) : Bool := if o = 54 then true else if o = 1000054 then true else false
end Go.Proofs.YtjedikaidbobdaaGreatDoor
