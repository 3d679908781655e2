/- The arguments of a law's statement as the walks want them. -/
import Derived.Test.YtedbbinlcdgkoaaGreatDoorFr
import Derived.WideShapes
namespace Go.Proofs.YtedbbinlcdgkoaaGreatDoor
open Go.RowKit Go.WideShapes

theorem okWide_spot {P : Program} {w : World} {r : Reach} {base : Nat} {t e : TypeId} {a : Option Addr} {len cap : Nat} (ht : P.underlying t = some (.slice e)) (h : Value.okWide P w r base t (.slice a len cap)) : ∀ x, a = some x → x.spot = none := by
  rintro x rfl
  simp only [Value.okWide, ht, Cell.okWide, Cell.ok] at h
  exact h.2.2.2.1

end Go.Proofs.YtedbbinlcdgkoaaGreatDoor
