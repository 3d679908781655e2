import Derived.Lib.ItoaNum
import Derived.Shelf.Unicode.DecodeSlow
import Derived.Test.YtedbbinlcdgkoaaGreatDoorFr
/- The cells of the library's variables that functions read, and what they hold: internal/bytealg.MaxLen, the powers of ten, a cell of the table of trailing zeros, the tables of utf8. -/
namespace Go.Proofs.YtedbbinlcdgkoaaGreatDoor
open Go.RowKit
set_option linter.unusedVariables false
def gB : Nat := 2
def tB : Nat := 1
def dB : Nat := 6
def fB : Nat := 3
def rB : Nat := 4
def gZ (b p : Nat) : Prop := (b = gB ∧ p = 0) ∨ (b = dB ∧ p = 15) ∨ (b = fB ∧ p < 256) ∨ (b = rB ∧ p < 32)
def GtW (w : World) : Prop := ∃ t z, w.heap[tB]? = some (.cells (Lib.pow10Tab.map fun z => Value.int .u64 z).toArray t z)
def GcW (w : World) : Prop := (∃ m : Int, w.cell? ⟨gB, 0, none⟩ = some (.int .i64 m)) ∧ GtW w ∧ w.cell? ⟨dB, 15, none⟩ = some (.int .u8 4) ∧ Lib.Utf8Tabs fB rB w
theorem gc_cell {w : World} (h : GcW w) {b p : Nat} (hz : gZ b p) : ∃ c, w.cell? ⟨b, p, none⟩ = some c := by
  obtain ⟨⟨m, hm⟩, _, hd, hf, hr⟩ := h
  rcases hz with ⟨rfl, rfl⟩ | ⟨rfl, rfl⟩ | ⟨rfl, hp⟩ | ⟨rfl, hp⟩
  · exact ⟨_, hm⟩
  · exact ⟨_, hd⟩
  · exact ⟨_, hf p hp⟩
  · obtain ⟨h1, h2⟩ := hr (p / 2) (by omega)
    rcases Nat.mod_two_eq_zero_or_one p with q | q
    · rw [show 2 * (p / 2) = p from by omega] at h1; exact ⟨_, h1⟩
    · rw [show 2 * (p / 2) + 1 = p from by omega] at h2; exact ⟨_, h2⟩
theorem gc_lt {w : World} (h : GcW w) : tB < w.heap.size := by
  obtain ⟨_, ⟨_, z, h⟩, _⟩ := h
  exact (Array.getElem?_eq_some_iff.1 h).1
theorem gc_keep {w W : World} (h : GcW w) (hk : ∀ b p c, gZ b p → w.cell? ⟨b, p, none⟩ = some c → W.cell? ⟨b, p, none⟩ = some c) (ht : W.heap[tB]? = w.heap[tB]?) : GcW W := by
  obtain ⟨⟨m, hm⟩, ⟨t, z, h2⟩, hd, hf, hr⟩ := h
  exact ⟨⟨m, hk _ _ _ (.inl ⟨rfl, rfl⟩) hm⟩, ⟨t, z, ht.trans h2⟩, hk _ _ _ (.inr (.inl ⟨rfl, rfl⟩)) hd, fun c hc => hk _ _ _ (.inr (.inr (.inl ⟨rfl, hc⟩))) (hf c hc),
    fun i hi => ⟨hk _ _ _ (.inr (.inr (.inr ⟨rfl, by omega⟩))) (hr i hi).1, hk _ _ _ (.inr (.inr (.inr ⟨rfl, by omega⟩))) (hr i hi).2⟩⟩
def prv (o : Nat) : Bool := if o = 54 then true else if o = 1000054 then true else false
def wrt (o : Nat) : Bool := if o = 500011 then true else if o = 1000011 then true else false
end Go.Proofs.YtedbbinlcdgkoaaGreatDoor
