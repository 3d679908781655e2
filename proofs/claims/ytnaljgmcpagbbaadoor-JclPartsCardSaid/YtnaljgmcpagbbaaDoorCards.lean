/-
  DERIVED. GIVEN WITH THE SEED: THE CARDS: each row of YtnaljgmcpagbbaaDoorRows.lean that lists a variable, with what it lists TIED to the program's text (the seventh form; the later family's looks); each row that meets fmt, with fmt's text TOLD by the authors' own Lean function (tested against real Go, not proved from fmt's source: count such statements apart). THE CARD IS WHAT COUNTS. Prove the row's statement (the work); the ties are given (YtnaljgmcpagbbaaDoorTie.lean); close each card by the builder's one call (the guide's Derived/Test/ToyasCard.lean, 'card_holds'). Laid BY PROGRAM, IN A SANDBOX (cutbox-door.mjs). By AI agents, Wed Nov 11 2026. No macro, syntax, notation, axiom, sorry.
-/
import Derived.Test.YtnaljgmcpagbbaaDoorRows
import GoSem.ClaimSeven
namespace Go.Proofs.YtnaljgmcpagbbaaDoor
namespace Rows

/-- THE TIED CARD OF 'jobshoplaw34.JclNames'. -/
def jclNamesCard : Claim7 := { stood := { row := jclNamesRow, standIns := [], harness := (true, "29041957ed3e5d90b9910fdff96182748a9c11a73c05032b44c29190b443d8a7"), looks := false }, kinds := [], alts := [], laidByText := true, laidKinds := [.data, .pinned], laidTests := true, laidLooks := .later }
def JclNamesCardSaid : Prop := Claim7.holds Tryd.pinned (.plain (OpenSpec.ofChange jclNamesSpec)) jclNamesCard

/-- THE TIED CARD OF 'jobshoplaw34.JclLong'. -/
def jclLongCard : Claim7 := { stood := { row := jclLongRow, standIns := [], harness := (true, "29041957ed3e5d90b9910fdff96182748a9c11a73c05032b44c29190b443d8a7"), looks := false }, kinds := [], alts := [], laidByText := true, laidKinds := [.data, .pinned], laidTests := true, laidLooks := .later }
def JclLongCardSaid : Prop := Claim7.holds Tryd.pinned (.plain (OpenSpec.ofChange jclLongSpec)) jclLongCard

/-- THE TIED CARD OF 'jobshoplaw34.JclParts'. -/
def jclPartsCard : Claim7 := { stood := { row := jclPartsRow, standIns := [], harness := (true, "29041957ed3e5d90b9910fdff96182748a9c11a73c05032b44c29190b443d8a7"), looks := false }, kinds := [], alts := [], laidByText := true, laidKinds := [.data, .pinned], laidTests := true, laidLooks := .later }
def JclPartsCardSaid : Prop := Claim7.holds Tryd.pinned (.plain (OpenSpec.ofChange jclPartsSpec)) jclPartsCard

/-- THE TIED CARD OF 'jobshoplaw34.JclReturns'. -/
def jclReturnsCard : Claim7 := { stood := { row := jclReturnsRow, standIns := [], harness := (true, "29041957ed3e5d90b9910fdff96182748a9c11a73c05032b44c29190b443d8a7"), looks := false }, kinds := [], alts := [], laidByText := true, laidKinds := [.data, .pinned], laidTests := true, laidLooks := .later }
def JclReturnsCardSaid : Prop := Claim7.holds Tryd.pinned (.plain (OpenSpec.ofChange jclReturnsSpec)) jclReturnsCard

/-- THE TIED CARD OF 'jobshoplaw34.JclJoins'. -/
def jclJoinsCard : Claim7 := { stood := { row := jclJoinsRow, standIns := [], harness := (true, "29041957ed3e5d90b9910fdff96182748a9c11a73c05032b44c29190b443d8a7"), looks := false }, kinds := [], alts := [], laidByText := true, laidKinds := [.data, .pinned], laidTests := true, laidLooks := .later }
def JclJoinsCardSaid : Prop := Claim7.holds Tryd.pinned (.plain (OpenSpec.ofChange jclJoinsSpec)) jclJoinsCard

/-- THE TIED CARD OF 'jobshoplaw34.JclComments'. -/
def jclCommentsCard : Claim7 := { stood := { row := jclCommentsRow, standIns := [], harness := (true, "29041957ed3e5d90b9910fdff96182748a9c11a73c05032b44c29190b443d8a7"), looks := false }, kinds := [], alts := [], laidByText := true, laidKinds := [.data, .pinned], laidTests := true, laidLooks := .later }
def JclCommentsCardSaid : Prop := Claim7.holds Tryd.pinned (.plain (OpenSpec.ofChange jclCommentsSpec)) jclCommentsCard

/-- THE SECOND FORM's CARD OF 'jobshoplaw34.JclNames'. -/
def jclNamesUptoCard : Claim7 := { stood := { row := jclNamesUptoRow, standIns := [], harness := (true, "29041957ed3e5d90b9910fdff96182748a9c11a73c05032b44c29190b443d8a7"), looks := false }, kinds := [], alts := [], laidByText := true, laidKinds := [.data, .pinned], laidTests := true, laidLooks := .later }
def JclNamesUptoCardSaid : Prop := Claim7.holds Tryd.pinned (.plain (OpenSpec.upto jclNamesSpec)) jclNamesUptoCard

/-- THE SECOND FORM's CARD OF 'jobshoplaw34.JclLong'. -/
def jclLongUptoCard : Claim7 := { stood := { row := jclLongUptoRow, standIns := [], harness := (true, "29041957ed3e5d90b9910fdff96182748a9c11a73c05032b44c29190b443d8a7"), looks := false }, kinds := [], alts := [], laidByText := true, laidKinds := [.data, .pinned], laidTests := true, laidLooks := .later }
def JclLongUptoCardSaid : Prop := Claim7.holds Tryd.pinned (.plain (OpenSpec.upto jclLongSpec)) jclLongUptoCard

/-- THE SECOND FORM's CARD OF 'jobshoplaw34.JclParts'. -/
def jclPartsUptoCard : Claim7 := { stood := { row := jclPartsUptoRow, standIns := [], harness := (true, "29041957ed3e5d90b9910fdff96182748a9c11a73c05032b44c29190b443d8a7"), looks := false }, kinds := [], alts := [], laidByText := true, laidKinds := [.data, .pinned], laidTests := true, laidLooks := .later }
def JclPartsUptoCardSaid : Prop := Claim7.holds Tryd.pinned (.plain (OpenSpec.upto jclPartsSpec)) jclPartsUptoCard

/-- THE SECOND FORM's CARD OF 'jobshoplaw34.JclReturns'. -/
def jclReturnsUptoCard : Claim7 := { stood := { row := jclReturnsUptoRow, standIns := [], harness := (true, "29041957ed3e5d90b9910fdff96182748a9c11a73c05032b44c29190b443d8a7"), looks := false }, kinds := [], alts := [], laidByText := true, laidKinds := [.data, .pinned], laidTests := true, laidLooks := .later }
def JclReturnsUptoCardSaid : Prop := Claim7.holds Tryd.pinned (.plain (OpenSpec.upto jclReturnsSpec)) jclReturnsUptoCard

/-- THE SECOND FORM's CARD OF 'jobshoplaw34.JclJoins'. -/
def jclJoinsUptoCard : Claim7 := { stood := { row := jclJoinsUptoRow, standIns := [], harness := (true, "29041957ed3e5d90b9910fdff96182748a9c11a73c05032b44c29190b443d8a7"), looks := false }, kinds := [], alts := [], laidByText := true, laidKinds := [.data, .pinned], laidTests := true, laidLooks := .later }
def JclJoinsUptoCardSaid : Prop := Claim7.holds Tryd.pinned (.plain (OpenSpec.upto jclJoinsSpec)) jclJoinsUptoCard

/-- THE SECOND FORM's CARD OF 'jobshoplaw34.JclComments'. -/
def jclCommentsUptoCard : Claim7 := { stood := { row := jclCommentsUptoRow, standIns := [], harness := (true, "29041957ed3e5d90b9910fdff96182748a9c11a73c05032b44c29190b443d8a7"), looks := false }, kinds := [], alts := [], laidByText := true, laidKinds := [.data, .pinned], laidTests := true, laidLooks := .later }
def JclCommentsUptoCardSaid : Prop := Claim7.holds Tryd.pinned (.plain (OpenSpec.upto jclCommentsSpec)) jclCommentsUptoCard
end Rows
end Go.Proofs.YtnaljgmcpagbbaaDoor
