/-
  DERIVED. GIVEN WITH THE SEED: THE CARDS: each row of YtldkmclfhjcicaaGreatDoorRows.lean that lists a variable, with what it lists TIED to the program's text (the seventh form; the later family's looks); each row that meets fmt, with fmt's text TOLD by the authors' own Lean function (tested against real Go, not proved from fmt's source: count such statements apart). THE CARD IS WHAT COUNTS. Prove the row's statement (the work); the ties are given (YtldkmclfhjcicaaGreatDoorTie.lean); close each card by the builder's one call (the guide's Derived/Test/ToyasCard.lean, 'card_holds'). Laid BY PROGRAM, IN A SANDBOX (cutbox-door.mjs). By AI agents, Wed Nov 11 2026. No macro, syntax, notation, axiom, sorry.
-/
import Derived.Test.YtldkmclfhjcicaaGreatDoorRows
import GoSem.ClaimSeven
namespace Go.Proofs.YtldkmclfhjcicaaGreatDoor
namespace Rows

/-- THE TIED CARD OF 'jobshoplaw27.CatalogCodes'. -/
def catalogCodesCard : Claim7 := { stood := { row := catalogCodesRow, standIns := [], harness := (true, "6de443e3e1c982b75699d5fb59ee2378c581f1424fc8fdf67f8ef7e5741cae82"), looks := false }, kinds := [], alts := [], laidByText := true, laidKinds := [.data, .pinned], laidTests := true, laidLooks := .later }
def CatalogCodesCardSaid : Prop := Claim7.holds Tryz.pinned (.plain (OpenSpec.ofChange catalogCodesSpec)) catalogCodesCard

/-- THE SECOND FORM's CARD OF 'jobshoplaw27.CatalogCodes'. -/
def catalogCodesUptoCard : Claim7 := { stood := { row := catalogCodesUptoRow, standIns := [], harness := (true, "6de443e3e1c982b75699d5fb59ee2378c581f1424fc8fdf67f8ef7e5741cae82"), looks := false }, kinds := [], alts := [], laidByText := true, laidKinds := [.data, .pinned], laidTests := true, laidLooks := .later }
def CatalogCodesUptoCardSaid : Prop := Claim7.holds Tryz.pinned (.plain (OpenSpec.upto catalogCodesSpec)) catalogCodesUptoCard
end Rows
end Go.Proofs.YtldkmclfhjcicaaGreatDoor
