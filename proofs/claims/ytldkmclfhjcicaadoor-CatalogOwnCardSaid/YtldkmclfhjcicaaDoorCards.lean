/-
  DERIVED. GIVEN WITH THE SEED: THE CARDS: each row of YtldkmclfhjcicaaDoorRows.lean that lists a variable, with what it lists TIED to the program's text (the seventh form; the later family's looks); each row that meets fmt, with fmt's text TOLD by the authors' own Lean function (tested against real Go, not proved from fmt's source: count such statements apart). THE CARD IS WHAT COUNTS. Prove the row's statement (the work); the ties are given (YtldkmclfhjcicaaDoorTie.lean); close each card by the builder's one call (the guide's Derived/Test/ToyasCard.lean, 'card_holds'). Laid BY PROGRAM, IN A SANDBOX (cutbox-door.mjs). By AI agents, Wed Nov 11 2026. No macro, syntax, notation, axiom, sorry.
-/
import Derived.Test.YtldkmclfhjcicaaDoorRows
import GoSem.ClaimSeven
namespace Go.Proofs.YtldkmclfhjcicaaDoor
namespace Rows

/-- THE TIED CARD OF 'jobshoplaw27.CatalogNames'. -/
def catalogNamesCard : Claim7 := { stood := { row := catalogNamesRow, standIns := [], harness := (true, "3a2fa1c8d7ab4ed3a587036fb3211f657854f2c1edd324b1ca77efd121062976"), looks := false }, kinds := [], alts := [], laidByText := true, laidKinds := [.data, .pinned], laidTests := true, laidLooks := .later }
def CatalogNamesCardSaid : Prop := Claim7.holds Tryd.pinned (.plain (OpenSpec.ofChange catalogNamesSpec)) catalogNamesCard

/-- THE TIED CARD OF 'jobshoplaw27.CatalogGenerations'. -/
def catalogGenerationsCard : Claim7 := { stood := { row := catalogGenerationsRow, standIns := [], harness := (true, "3a2fa1c8d7ab4ed3a587036fb3211f657854f2c1edd324b1ca77efd121062976"), looks := false }, kinds := [], alts := [], laidByText := true, laidKinds := [.data, .pinned], laidTests := true, laidLooks := .later }
def CatalogGenerationsCardSaid : Prop := Claim7.holds Tryd.pinned (.plain (OpenSpec.ofChange catalogGenerationsSpec)) catalogGenerationsCard

/-- THE TIED CARD OF 'jobshoplaw27.CatalogKnown'. -/
def catalogKnownCard : Claim7 := { stood := { row := catalogKnownRow, standIns := [], harness := (true, "3a2fa1c8d7ab4ed3a587036fb3211f657854f2c1edd324b1ca77efd121062976"), looks := false }, kinds := [], alts := [], laidByText := true, laidKinds := [.data, .pinned], laidTests := true, laidLooks := .later }
def CatalogKnownCardSaid : Prop := Claim7.holds Tryd.pinned (.plain (OpenSpec.ofChange catalogKnownSpec)) catalogKnownCard

/-- THE TIED CARD OF 'jobshoplaw27.CatalogOwn'. -/
def catalogOwnCard : Claim7 := { stood := { row := catalogOwnRow, standIns := [], harness := (true, "3a2fa1c8d7ab4ed3a587036fb3211f657854f2c1edd324b1ca77efd121062976"), looks := false }, kinds := [], alts := [], laidByText := true, laidKinds := [.data, .pinned], laidTests := true, laidLooks := .later }
def CatalogOwnCardSaid : Prop := Claim7.holds Tryd.pinned (.plain (OpenSpec.ofChange catalogOwnSpec)) catalogOwnCard

/-- THE TIED CARD OF 'jobshoplaw27.CatalogCalls'. -/
def catalogCallsCard : Claim7 := { stood := { row := catalogCallsRow, standIns := [], harness := (true, "3a2fa1c8d7ab4ed3a587036fb3211f657854f2c1edd324b1ca77efd121062976"), looks := false }, kinds := [], alts := [], laidByText := true, laidKinds := [.data, .pinned], laidTests := true, laidLooks := .later }
def CatalogCallsCardSaid : Prop := Claim7.holds Tryd.pinned (.plain (OpenSpec.ofChange catalogCallsSpec)) catalogCallsCard

/-- THE TIED CARD OF 'jobshoplaw27.CatalogPlays'. -/
def catalogPlaysCard : Claim7 := { stood := { row := catalogPlaysRow, standIns := [], harness := (true, "3a2fa1c8d7ab4ed3a587036fb3211f657854f2c1edd324b1ca77efd121062976"), looks := false }, kinds := [], alts := [], laidByText := true, laidKinds := [.data, .pinned], laidTests := true, laidLooks := .later }
def CatalogPlaysCardSaid : Prop := Claim7.holds Tryd.pinned (.plain (OpenSpec.ofChange catalogPlaysSpec)) catalogPlaysCard

/-- THE TIED CARD OF 'jobshoplaw27.CatalogKeeps'. -/
def catalogKeepsCard : Claim7 := { stood := { row := catalogKeepsRow, standIns := [], harness := (true, "3a2fa1c8d7ab4ed3a587036fb3211f657854f2c1edd324b1ca77efd121062976"), looks := false }, kinds := [], alts := [], laidByText := true, laidKinds := [.data, .pinned], laidTests := true, laidLooks := .later }
def CatalogKeepsCardSaid : Prop := Claim7.holds Tryd.pinned (.plain (OpenSpec.ofChange catalogKeepsSpec)) catalogKeepsCard

/-- THE TIED CARD OF 'jobshoplaw27.CatalogBack'. -/
def catalogBackCard : Claim7 := { stood := { row := catalogBackRow, standIns := [], harness := (true, "3a2fa1c8d7ab4ed3a587036fb3211f657854f2c1edd324b1ca77efd121062976"), looks := false }, kinds := [], alts := [], laidByText := true, laidKinds := [.data, .pinned], laidTests := true, laidLooks := .later }
def CatalogBackCardSaid : Prop := Claim7.holds Tryd.pinned (.plain (OpenSpec.ofChange catalogBackSpec)) catalogBackCard

/-- THE SECOND FORM's CARD OF 'jobshoplaw27.CatalogNames'. -/
def catalogNamesUptoCard : Claim7 := { stood := { row := catalogNamesUptoRow, standIns := [], harness := (true, "3a2fa1c8d7ab4ed3a587036fb3211f657854f2c1edd324b1ca77efd121062976"), looks := false }, kinds := [], alts := [], laidByText := true, laidKinds := [.data, .pinned], laidTests := true, laidLooks := .later }
def CatalogNamesUptoCardSaid : Prop := Claim7.holds Tryd.pinned (.plain (OpenSpec.upto catalogNamesSpec)) catalogNamesUptoCard

/-- THE SECOND FORM's CARD OF 'jobshoplaw27.CatalogGenerations'. -/
def catalogGenerationsUptoCard : Claim7 := { stood := { row := catalogGenerationsUptoRow, standIns := [], harness := (true, "3a2fa1c8d7ab4ed3a587036fb3211f657854f2c1edd324b1ca77efd121062976"), looks := false }, kinds := [], alts := [], laidByText := true, laidKinds := [.data, .pinned], laidTests := true, laidLooks := .later }
def CatalogGenerationsUptoCardSaid : Prop := Claim7.holds Tryd.pinned (.plain (OpenSpec.upto catalogGenerationsSpec)) catalogGenerationsUptoCard

/-- THE SECOND FORM's CARD OF 'jobshoplaw27.CatalogKnown'. -/
def catalogKnownUptoCard : Claim7 := { stood := { row := catalogKnownUptoRow, standIns := [], harness := (true, "3a2fa1c8d7ab4ed3a587036fb3211f657854f2c1edd324b1ca77efd121062976"), looks := false }, kinds := [], alts := [], laidByText := true, laidKinds := [.data, .pinned], laidTests := true, laidLooks := .later }
def CatalogKnownUptoCardSaid : Prop := Claim7.holds Tryd.pinned (.plain (OpenSpec.upto catalogKnownSpec)) catalogKnownUptoCard

/-- THE SECOND FORM's CARD OF 'jobshoplaw27.CatalogOwn'. -/
def catalogOwnUptoCard : Claim7 := { stood := { row := catalogOwnUptoRow, standIns := [], harness := (true, "3a2fa1c8d7ab4ed3a587036fb3211f657854f2c1edd324b1ca77efd121062976"), looks := false }, kinds := [], alts := [], laidByText := true, laidKinds := [.data, .pinned], laidTests := true, laidLooks := .later }
def CatalogOwnUptoCardSaid : Prop := Claim7.holds Tryd.pinned (.plain (OpenSpec.upto catalogOwnSpec)) catalogOwnUptoCard

/-- THE SECOND FORM's CARD OF 'jobshoplaw27.CatalogCalls'. -/
def catalogCallsUptoCard : Claim7 := { stood := { row := catalogCallsUptoRow, standIns := [], harness := (true, "3a2fa1c8d7ab4ed3a587036fb3211f657854f2c1edd324b1ca77efd121062976"), looks := false }, kinds := [], alts := [], laidByText := true, laidKinds := [.data, .pinned], laidTests := true, laidLooks := .later }
def CatalogCallsUptoCardSaid : Prop := Claim7.holds Tryd.pinned (.plain (OpenSpec.upto catalogCallsSpec)) catalogCallsUptoCard

/-- THE SECOND FORM's CARD OF 'jobshoplaw27.CatalogPlays'. -/
def catalogPlaysUptoCard : Claim7 := { stood := { row := catalogPlaysUptoRow, standIns := [], harness := (true, "3a2fa1c8d7ab4ed3a587036fb3211f657854f2c1edd324b1ca77efd121062976"), looks := false }, kinds := [], alts := [], laidByText := true, laidKinds := [.data, .pinned], laidTests := true, laidLooks := .later }
def CatalogPlaysUptoCardSaid : Prop := Claim7.holds Tryd.pinned (.plain (OpenSpec.upto catalogPlaysSpec)) catalogPlaysUptoCard

/-- THE SECOND FORM's CARD OF 'jobshoplaw27.CatalogKeeps'. -/
def catalogKeepsUptoCard : Claim7 := { stood := { row := catalogKeepsUptoRow, standIns := [], harness := (true, "3a2fa1c8d7ab4ed3a587036fb3211f657854f2c1edd324b1ca77efd121062976"), looks := false }, kinds := [], alts := [], laidByText := true, laidKinds := [.data, .pinned], laidTests := true, laidLooks := .later }
def CatalogKeepsUptoCardSaid : Prop := Claim7.holds Tryd.pinned (.plain (OpenSpec.upto catalogKeepsSpec)) catalogKeepsUptoCard

/-- THE SECOND FORM's CARD OF 'jobshoplaw27.CatalogBack'. -/
def catalogBackUptoCard : Claim7 := { stood := { row := catalogBackUptoRow, standIns := [], harness := (true, "3a2fa1c8d7ab4ed3a587036fb3211f657854f2c1edd324b1ca77efd121062976"), looks := false }, kinds := [], alts := [], laidByText := true, laidKinds := [.data, .pinned], laidTests := true, laidLooks := .later }
def CatalogBackUptoCardSaid : Prop := Claim7.holds Tryd.pinned (.plain (OpenSpec.upto catalogBackSpec)) catalogBackUptoCard
end Rows
end Go.Proofs.YtldkmclfhjcicaaDoor
