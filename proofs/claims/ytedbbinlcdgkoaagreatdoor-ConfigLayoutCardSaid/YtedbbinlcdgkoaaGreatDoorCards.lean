/-
  DERIVED. GIVEN WITH THE SEED: THE CARDS: each row of YtedbbinlcdgkoaaGreatDoorRows.lean that lists a variable, with what it lists TIED to the program's text (the seventh form; the later family's looks); each row that meets fmt, with fmt's text TOLD by the authors' own Lean function (tested against real Go, not proved from fmt's source: count such statements apart). THE CARD IS WHAT COUNTS. Prove the row's statement (the work); the ties are given (YtedbbinlcdgkoaaGreatDoorTie.lean); close each card by the builder's one call (the guide's Derived/Test/ToyasCard.lean, 'card_holds'). Laid BY PROGRAM, IN A SANDBOX (cutbox-door.mjs). By AI agents, Wed Nov 11 2026. No macro, syntax, notation, axiom, sorry.
-/
import Derived.Test.YtedbbinlcdgkoaaGreatDoorRows
import GoSem.ClaimSeven
namespace Go.Proofs.YtedbbinlcdgkoaaGreatDoor
namespace Rows

/-- THE TIED CARD OF 'jobshoplaw19.ConfigChecks'. -/
def configChecksCard : Claim7 := { stood := { row := configChecksRow, standIns := [], harness := (true, "ca034340a9b12273e46232bae17f6eeaac939d60fd2b70e1008db9953de02f52"), looks := true }, kinds := [], alts := [], laidByText := true, laidKinds := [.data, .data, .data, .data, .sentinel, .sentinel, .pinned, .pinned], laidTests := true, laidLooks := .later }
def ConfigChecksCardSaid : Prop := Claim7.holds Tryz.pinned (.plain (OpenSpec.ofChange configChecksSpec)) configChecksCard

/-- THE TIED CARD OF 'jobshoplaw19.ConfigParses'. -/
def configParsesCard : Claim7 := { stood := { row := configParsesRow, standIns := [], harness := (true, "ca034340a9b12273e46232bae17f6eeaac939d60fd2b70e1008db9953de02f52"), looks := true }, kinds := [], alts := [], laidByText := true, laidKinds := [.data, .data, .data, .data, .sentinel, .sentinel, .pinned, .pinned], laidTests := true, laidLooks := .later }
def ConfigParsesCardSaid : Prop := Claim7.holds Tryz.pinned (.plain (OpenSpec.ofChange configParsesSpec)) configParsesCard

/-- THE TIED CARD OF 'jobshoplaw19.ConfigBack'. -/
def configBackCard : Claim7 := { stood := { row := configBackRow, standIns := [], harness := (true, "ca034340a9b12273e46232bae17f6eeaac939d60fd2b70e1008db9953de02f52"), looks := true }, kinds := [], alts := [], laidByText := true, laidKinds := [.data, .data, .data, .data, .sentinel, .sentinel, .pinned, .pinned], laidTests := true, laidLooks := .later }
def ConfigBackCardSaid : Prop := Claim7.holds Tryz.pinned (.plain (OpenSpec.ofChange configBackSpec)) configBackCard

/-- THE TIED CARD OF 'jobshoplaw19.ConfigLayout'. -/
def configLayoutCard : Claim7 := { stood := { row := configLayoutRow, standIns := [], harness := (true, "ca034340a9b12273e46232bae17f6eeaac939d60fd2b70e1008db9953de02f52"), looks := true }, kinds := [], alts := [], laidByText := true, laidKinds := [.data, .data, .data, .data, .sentinel, .sentinel, .pinned, .pinned], laidTests := true, laidLooks := .later }
def ConfigLayoutCardSaid : Prop := Claim7.holds Tryz.pinned (.plain (OpenSpec.ofChange configLayoutSpec)) configLayoutCard

/-- THE TIED CARD OF 'jobshoplaw19.ConfigKnown'. -/
def configKnownCard : Claim7 := { stood := { row := configKnownRow, standIns := [], harness := (true, "ca034340a9b12273e46232bae17f6eeaac939d60fd2b70e1008db9953de02f52"), looks := true }, kinds := [], alts := [], laidByText := true, laidKinds := [.data, .data, .data, .data, .sentinel, .sentinel, .pinned, .pinned], laidTests := true, laidLooks := .later }
def ConfigKnownCardSaid : Prop := Claim7.holds Tryz.pinned (.plain (OpenSpec.ofChange configKnownSpec)) configKnownCard

/-- THE TIED CARD OF 'jobshoplaw19.ConfigFinds'. -/
def configFindsCard : Claim7 := { stood := { row := configFindsRow, standIns := [], harness := (true, "ca034340a9b12273e46232bae17f6eeaac939d60fd2b70e1008db9953de02f52"), looks := true }, kinds := [], alts := [], laidByText := true, laidKinds := [.data, .data, .data, .data, .sentinel, .sentinel, .pinned, .pinned], laidTests := true, laidLooks := .later }
def ConfigFindsCardSaid : Prop := Claim7.holds Tryz.pinned (.plain (OpenSpec.ofChange configFindsSpec)) configFindsCard

/-- THE SECOND FORM's CARD OF 'jobshoplaw19.ConfigChecks'. -/
def configChecksUptoCard : Claim7 := { stood := { row := configChecksUptoRow, standIns := [], harness := (true, "ca034340a9b12273e46232bae17f6eeaac939d60fd2b70e1008db9953de02f52"), looks := true }, kinds := [], alts := [], laidByText := true, laidKinds := [.data, .data, .data, .data, .sentinel, .sentinel, .pinned, .pinned], laidTests := true, laidLooks := .later }
def ConfigChecksUptoCardSaid : Prop := Claim7.holds Tryz.pinned (.plain (OpenSpec.upto configChecksSpec)) configChecksUptoCard

/-- THE SECOND FORM's CARD OF 'jobshoplaw19.ConfigParses'. -/
def configParsesUptoCard : Claim7 := { stood := { row := configParsesUptoRow, standIns := [], harness := (true, "ca034340a9b12273e46232bae17f6eeaac939d60fd2b70e1008db9953de02f52"), looks := true }, kinds := [], alts := [], laidByText := true, laidKinds := [.data, .data, .data, .data, .sentinel, .sentinel, .pinned, .pinned], laidTests := true, laidLooks := .later }
def ConfigParsesUptoCardSaid : Prop := Claim7.holds Tryz.pinned (.plain (OpenSpec.upto configParsesSpec)) configParsesUptoCard

/-- THE SECOND FORM's CARD OF 'jobshoplaw19.ConfigBack'. -/
def configBackUptoCard : Claim7 := { stood := { row := configBackUptoRow, standIns := [], harness := (true, "ca034340a9b12273e46232bae17f6eeaac939d60fd2b70e1008db9953de02f52"), looks := true }, kinds := [], alts := [], laidByText := true, laidKinds := [.data, .data, .data, .data, .sentinel, .sentinel, .pinned, .pinned], laidTests := true, laidLooks := .later }
def ConfigBackUptoCardSaid : Prop := Claim7.holds Tryz.pinned (.plain (OpenSpec.upto configBackSpec)) configBackUptoCard

/-- THE SECOND FORM's CARD OF 'jobshoplaw19.ConfigLayout'. -/
def configLayoutUptoCard : Claim7 := { stood := { row := configLayoutUptoRow, standIns := [], harness := (true, "ca034340a9b12273e46232bae17f6eeaac939d60fd2b70e1008db9953de02f52"), looks := true }, kinds := [], alts := [], laidByText := true, laidKinds := [.data, .data, .data, .data, .sentinel, .sentinel, .pinned, .pinned], laidTests := true, laidLooks := .later }
def ConfigLayoutUptoCardSaid : Prop := Claim7.holds Tryz.pinned (.plain (OpenSpec.upto configLayoutSpec)) configLayoutUptoCard

/-- THE SECOND FORM's CARD OF 'jobshoplaw19.ConfigKnown'. -/
def configKnownUptoCard : Claim7 := { stood := { row := configKnownUptoRow, standIns := [], harness := (true, "ca034340a9b12273e46232bae17f6eeaac939d60fd2b70e1008db9953de02f52"), looks := true }, kinds := [], alts := [], laidByText := true, laidKinds := [.data, .data, .data, .data, .sentinel, .sentinel, .pinned, .pinned], laidTests := true, laidLooks := .later }
def ConfigKnownUptoCardSaid : Prop := Claim7.holds Tryz.pinned (.plain (OpenSpec.upto configKnownSpec)) configKnownUptoCard

/-- THE SECOND FORM's CARD OF 'jobshoplaw19.ConfigFinds'. -/
def configFindsUptoCard : Claim7 := { stood := { row := configFindsUptoRow, standIns := [], harness := (true, "ca034340a9b12273e46232bae17f6eeaac939d60fd2b70e1008db9953de02f52"), looks := true }, kinds := [], alts := [], laidByText := true, laidKinds := [.data, .data, .data, .data, .sentinel, .sentinel, .pinned, .pinned], laidTests := true, laidLooks := .later }
def ConfigFindsUptoCardSaid : Prop := Claim7.holds Tryz.pinned (.plain (OpenSpec.upto configFindsSpec)) configFindsUptoCard
end Rows
end Go.Proofs.YtedbbinlcdgkoaaGreatDoor
