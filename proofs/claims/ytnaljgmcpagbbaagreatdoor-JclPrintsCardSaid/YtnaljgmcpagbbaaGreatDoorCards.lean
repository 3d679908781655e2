/-
  DERIVED. GIVEN WITH THE SEED: THE CARDS: each row of YtnaljgmcpagbbaaGreatDoorRows.lean that lists a variable, with what it lists TIED to the program's text (the seventh form; the later family's looks); each row that meets fmt, with fmt's text TOLD by the authors' own Lean function (tested against real Go, not proved from fmt's source: count such statements apart). THE CARD IS WHAT COUNTS. Prove the row's statement (the work); the ties are given (YtnaljgmcpagbbaaGreatDoorTie.lean); close each card by the builder's one call (the guide's Derived/Test/ToyasCard.lean, 'card_holds'). Laid BY PROGRAM, IN A SANDBOX (cutbox-door.mjs). By AI agents, Wed Nov 11 2026. No macro, syntax, notation, axiom, sorry.
-/
import Derived.Test.YtnaljgmcpagbbaaGreatDoorRows
import GoSem.ClaimSeven
namespace Go.Proofs.YtnaljgmcpagbbaaGreatDoor
namespace Rows

/-- THE TIED CARD OF 'jobshoplaw34.JclPrints'. -/
def jclPrintsCard : Claim7 := { stood := { row := jclPrintsRow, standIns := [], harness := (true, "e9019b87283e4e45142912ce25329391db3e14a181277d60a6e2ec1367eb1de4"), looks := false }, kinds := [], alts := [], laidByText := true, laidKinds := [.data, .pinned], laidTests := true, laidLooks := .later }
def JclPrintsCardSaid : Prop := Claim7.holds Tryz.pinned (.plain (OpenSpec.ofChange jclPrintsSpec)) jclPrintsCard

/-- THE SECOND FORM's CARD OF 'jobshoplaw34.JclPrints'. -/
def jclPrintsUptoCard : Claim7 := { stood := { row := jclPrintsUptoRow, standIns := [], harness := (true, "e9019b87283e4e45142912ce25329391db3e14a181277d60a6e2ec1367eb1de4"), looks := false }, kinds := [], alts := [], laidByText := true, laidKinds := [.data, .pinned], laidTests := true, laidLooks := .later }
def JclPrintsUptoCardSaid : Prop := Claim7.holds Tryz.pinned (.plain (OpenSpec.upto jclPrintsSpec)) jclPrintsUptoCard
end Rows
end Go.Proofs.YtnaljgmcpagbbaaGreatDoor
