/-
  DERIVED. GIVEN WITH THE SEED: THE CARDS: each row of YtmklkfogddppmaaDoorRows.lean that lists a variable, with what it lists TIED to the program's text (the seventh form; the later family's looks); each row that meets fmt, with fmt's text TOLD by the authors' own Lean function (tested against real Go, not proved from fmt's source: count such statements apart). THE CARD IS WHAT COUNTS. Prove the row's statement (the work); the ties are given (YtmklkfogddppmaaDoorTie.lean); close each card by the builder's one call (the guide's Derived/Test/ToyasCard.lean, 'card_holds'). Laid BY PROGRAM, IN A SANDBOX (cutbox-door.mjs). By AI agents, Wed Nov 11 2026. No macro, syntax, notation, axiom, sorry.
-/
import Derived.Test.YtmklkfogddppmaaDoorRows
import GoSem.ClaimSeven
namespace Go.Proofs.YtmklkfogddppmaaDoor
namespace Rows

/-- THE TIED CARD OF 'jobshoplaw04.DecimalDivides'. -/
def decimalDividesCard : Claim7 := { stood := { row := decimalDividesRow, standIns := [], harness := (true, "1dfee46eea5376355df06ffd37cf4b8ffd5ca8f05d4e1b2b3a29d0e12b92fac2"), looks := false }, kinds := [], alts := [], laidByText := true, laidKinds := [.data, .data, .data], laidTests := true, laidLooks := .later }
def DecimalDividesCardSaid : Prop := Claim7.holds Tryd.pinned (.plain (OpenSpec.ofChange decimalDividesSpec)) decimalDividesCard

/-- THE TIED CARD OF 'jobshoplaw04.DecimalMultiplies'. -/
def decimalMultipliesCard : Claim7 := { stood := { row := decimalMultipliesRow, standIns := [], harness := (true, "1dfee46eea5376355df06ffd37cf4b8ffd5ca8f05d4e1b2b3a29d0e12b92fac2"), looks := false }, kinds := [], alts := [], laidByText := true, laidKinds := [.data, .data, .data], laidTests := true, laidLooks := .later }
def DecimalMultipliesCardSaid : Prop := Claim7.holds Tryd.pinned (.plain (OpenSpec.ofChange decimalMultipliesSpec)) decimalMultipliesCard

/-- THE TIED CARD OF 'jobshoplaw04.DecimalCompares'. -/
def decimalComparesCard : Claim7 := { stood := { row := decimalComparesRow, standIns := [], harness := (true, "1dfee46eea5376355df06ffd37cf4b8ffd5ca8f05d4e1b2b3a29d0e12b92fac2"), looks := false }, kinds := [], alts := [], laidByText := true, laidKinds := [.data, .data, .data], laidTests := true, laidLooks := .later }
def DecimalComparesCardSaid : Prop := Claim7.holds Tryd.pinned (.plain (OpenSpec.ofChange decimalComparesSpec)) decimalComparesCard

/-- THE TIED CARD OF 'jobshoplaw04.DecimalAdds'. -/
def decimalAddsCard : Claim7 := { stood := { row := decimalAddsRow, standIns := [], harness := (true, "1dfee46eea5376355df06ffd37cf4b8ffd5ca8f05d4e1b2b3a29d0e12b92fac2"), looks := false }, kinds := [], alts := [], laidByText := true, laidKinds := [.data, .data, .data], laidTests := true, laidLooks := .later }
def DecimalAddsCardSaid : Prop := Claim7.holds Tryd.pinned (.plain (OpenSpec.ofChange decimalAddsSpec)) decimalAddsCard

/-- THE TIED CARD OF 'jobshoplaw04.DecimalConverts'. -/
def decimalConvertsCard : Claim7 := { stood := { row := decimalConvertsRow, standIns := [], harness := (true, "1dfee46eea5376355df06ffd37cf4b8ffd5ca8f05d4e1b2b3a29d0e12b92fac2"), looks := false }, kinds := [], alts := [], laidByText := true, laidKinds := [.data, .data, .data], laidTests := true, laidLooks := .later }
def DecimalConvertsCardSaid : Prop := Claim7.holds Tryd.pinned (.plain (OpenSpec.ofChange decimalConvertsSpec)) decimalConvertsCard

/-- THE TIED CARD OF 'jobshoplaw04.DecimalBinary'. -/
def decimalBinaryCard : Claim7 := { stood := { row := decimalBinaryRow, standIns := [], harness := (true, "1dfee46eea5376355df06ffd37cf4b8ffd5ca8f05d4e1b2b3a29d0e12b92fac2"), looks := false }, kinds := [], alts := [], laidByText := true, laidKinds := [.data, .data, .data], laidTests := true, laidLooks := .later }
def DecimalBinaryCardSaid : Prop := Claim7.holds Tryd.pinned (.plain (OpenSpec.ofChange decimalBinarySpec)) decimalBinaryCard

/-- THE TIED CARD OF 'jobshoplaw04.DecimalUndoes'. -/
def decimalUndoesCard : Claim7 := { stood := { row := decimalUndoesRow, standIns := [], harness := (true, "1dfee46eea5376355df06ffd37cf4b8ffd5ca8f05d4e1b2b3a29d0e12b92fac2"), looks := false }, kinds := [], alts := [], laidByText := true, laidKinds := [.data, .data, .data], laidTests := true, laidLooks := .later }
def DecimalUndoesCardSaid : Prop := Claim7.holds Tryd.pinned (.plain (OpenSpec.ofChange decimalUndoesSpec)) decimalUndoesCard

/-- THE TIED CARD OF 'jobshoplaw04.DecimalShifts'. -/
def decimalShiftsCard : Claim7 := { stood := { row := decimalShiftsRow, standIns := [], harness := (true, "1dfee46eea5376355df06ffd37cf4b8ffd5ca8f05d4e1b2b3a29d0e12b92fac2"), looks := false }, kinds := [], alts := [], laidByText := true, laidKinds := [.data, .data, .data], laidTests := true, laidLooks := .later }
def DecimalShiftsCardSaid : Prop := Claim7.holds Tryd.pinned (.plain (OpenSpec.ofChange decimalShiftsSpec)) decimalShiftsCard

/-- THE TIED CARD OF 'jobshoplaw04.DecimalQuotients'. -/
def decimalQuotientsCard : Claim7 := { stood := { row := decimalQuotientsRow, standIns := [], harness := (true, "1dfee46eea5376355df06ffd37cf4b8ffd5ca8f05d4e1b2b3a29d0e12b92fac2"), looks := false }, kinds := [], alts := [], laidByText := true, laidKinds := [.data, .data, .data], laidTests := true, laidLooks := .later }
def DecimalQuotientsCardSaid : Prop := Claim7.holds Tryd.pinned (.plain (OpenSpec.ofChange decimalQuotientsSpec)) decimalQuotientsCard

/-- THE TIED CARD OF 'jobshoplaw04.DecimalKnown'. -/
def decimalKnownCard : Claim7 := { stood := { row := decimalKnownRow, standIns := [], harness := (true, "1dfee46eea5376355df06ffd37cf4b8ffd5ca8f05d4e1b2b3a29d0e12b92fac2"), looks := false }, kinds := [], alts := [], laidByText := true, laidKinds := [.data, .data, .data], laidTests := true, laidLooks := .later }
def DecimalKnownCardSaid : Prop := Claim7.holds Tryd.pinned (.plain (OpenSpec.ofChange decimalKnownSpec)) decimalKnownCard

/-- THE SECOND FORM's CARD OF 'jobshoplaw04.DecimalDivides'. -/
def decimalDividesUptoCard : Claim7 := { stood := { row := decimalDividesUptoRow, standIns := [], harness := (true, "1dfee46eea5376355df06ffd37cf4b8ffd5ca8f05d4e1b2b3a29d0e12b92fac2"), looks := false }, kinds := [], alts := [], laidByText := true, laidKinds := [.data, .data, .data], laidTests := true, laidLooks := .later }
def DecimalDividesUptoCardSaid : Prop := Claim7.holds Tryd.pinned (.plain (OpenSpec.upto decimalDividesSpec)) decimalDividesUptoCard

/-- THE SECOND FORM's CARD OF 'jobshoplaw04.DecimalMultiplies'. -/
def decimalMultipliesUptoCard : Claim7 := { stood := { row := decimalMultipliesUptoRow, standIns := [], harness := (true, "1dfee46eea5376355df06ffd37cf4b8ffd5ca8f05d4e1b2b3a29d0e12b92fac2"), looks := false }, kinds := [], alts := [], laidByText := true, laidKinds := [.data, .data, .data], laidTests := true, laidLooks := .later }
def DecimalMultipliesUptoCardSaid : Prop := Claim7.holds Tryd.pinned (.plain (OpenSpec.upto decimalMultipliesSpec)) decimalMultipliesUptoCard

/-- THE SECOND FORM's CARD OF 'jobshoplaw04.DecimalCompares'. -/
def decimalComparesUptoCard : Claim7 := { stood := { row := decimalComparesUptoRow, standIns := [], harness := (true, "1dfee46eea5376355df06ffd37cf4b8ffd5ca8f05d4e1b2b3a29d0e12b92fac2"), looks := false }, kinds := [], alts := [], laidByText := true, laidKinds := [.data, .data, .data], laidTests := true, laidLooks := .later }
def DecimalComparesUptoCardSaid : Prop := Claim7.holds Tryd.pinned (.plain (OpenSpec.upto decimalComparesSpec)) decimalComparesUptoCard

/-- THE SECOND FORM's CARD OF 'jobshoplaw04.DecimalAdds'. -/
def decimalAddsUptoCard : Claim7 := { stood := { row := decimalAddsUptoRow, standIns := [], harness := (true, "1dfee46eea5376355df06ffd37cf4b8ffd5ca8f05d4e1b2b3a29d0e12b92fac2"), looks := false }, kinds := [], alts := [], laidByText := true, laidKinds := [.data, .data, .data], laidTests := true, laidLooks := .later }
def DecimalAddsUptoCardSaid : Prop := Claim7.holds Tryd.pinned (.plain (OpenSpec.upto decimalAddsSpec)) decimalAddsUptoCard

/-- THE SECOND FORM's CARD OF 'jobshoplaw04.DecimalConverts'. -/
def decimalConvertsUptoCard : Claim7 := { stood := { row := decimalConvertsUptoRow, standIns := [], harness := (true, "1dfee46eea5376355df06ffd37cf4b8ffd5ca8f05d4e1b2b3a29d0e12b92fac2"), looks := false }, kinds := [], alts := [], laidByText := true, laidKinds := [.data, .data, .data], laidTests := true, laidLooks := .later }
def DecimalConvertsUptoCardSaid : Prop := Claim7.holds Tryd.pinned (.plain (OpenSpec.upto decimalConvertsSpec)) decimalConvertsUptoCard

/-- THE SECOND FORM's CARD OF 'jobshoplaw04.DecimalBinary'. -/
def decimalBinaryUptoCard : Claim7 := { stood := { row := decimalBinaryUptoRow, standIns := [], harness := (true, "1dfee46eea5376355df06ffd37cf4b8ffd5ca8f05d4e1b2b3a29d0e12b92fac2"), looks := false }, kinds := [], alts := [], laidByText := true, laidKinds := [.data, .data, .data], laidTests := true, laidLooks := .later }
def DecimalBinaryUptoCardSaid : Prop := Claim7.holds Tryd.pinned (.plain (OpenSpec.upto decimalBinarySpec)) decimalBinaryUptoCard

/-- THE SECOND FORM's CARD OF 'jobshoplaw04.DecimalUndoes'. -/
def decimalUndoesUptoCard : Claim7 := { stood := { row := decimalUndoesUptoRow, standIns := [], harness := (true, "1dfee46eea5376355df06ffd37cf4b8ffd5ca8f05d4e1b2b3a29d0e12b92fac2"), looks := false }, kinds := [], alts := [], laidByText := true, laidKinds := [.data, .data, .data], laidTests := true, laidLooks := .later }
def DecimalUndoesUptoCardSaid : Prop := Claim7.holds Tryd.pinned (.plain (OpenSpec.upto decimalUndoesSpec)) decimalUndoesUptoCard

/-- THE SECOND FORM's CARD OF 'jobshoplaw04.DecimalShifts'. -/
def decimalShiftsUptoCard : Claim7 := { stood := { row := decimalShiftsUptoRow, standIns := [], harness := (true, "1dfee46eea5376355df06ffd37cf4b8ffd5ca8f05d4e1b2b3a29d0e12b92fac2"), looks := false }, kinds := [], alts := [], laidByText := true, laidKinds := [.data, .data, .data], laidTests := true, laidLooks := .later }
def DecimalShiftsUptoCardSaid : Prop := Claim7.holds Tryd.pinned (.plain (OpenSpec.upto decimalShiftsSpec)) decimalShiftsUptoCard

/-- THE SECOND FORM's CARD OF 'jobshoplaw04.DecimalQuotients'. -/
def decimalQuotientsUptoCard : Claim7 := { stood := { row := decimalQuotientsUptoRow, standIns := [], harness := (true, "1dfee46eea5376355df06ffd37cf4b8ffd5ca8f05d4e1b2b3a29d0e12b92fac2"), looks := false }, kinds := [], alts := [], laidByText := true, laidKinds := [.data, .data, .data], laidTests := true, laidLooks := .later }
def DecimalQuotientsUptoCardSaid : Prop := Claim7.holds Tryd.pinned (.plain (OpenSpec.upto decimalQuotientsSpec)) decimalQuotientsUptoCard

/-- THE SECOND FORM's CARD OF 'jobshoplaw04.DecimalKnown'. -/
def decimalKnownUptoCard : Claim7 := { stood := { row := decimalKnownUptoRow, standIns := [], harness := (true, "1dfee46eea5376355df06ffd37cf4b8ffd5ca8f05d4e1b2b3a29d0e12b92fac2"), looks := false }, kinds := [], alts := [], laidByText := true, laidKinds := [.data, .data, .data], laidTests := true, laidLooks := .later }
def DecimalKnownUptoCardSaid : Prop := Claim7.holds Tryd.pinned (.plain (OpenSpec.upto decimalKnownSpec)) decimalKnownUptoCard
end Rows
end Go.Proofs.YtmklkfogddppmaaDoor
