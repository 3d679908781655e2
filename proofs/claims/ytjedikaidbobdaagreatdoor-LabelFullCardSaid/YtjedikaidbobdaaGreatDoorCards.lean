/-
  DERIVED. GIVEN WITH THE SEED: THE CARDS: each row of YtjedikaidbobdaaGreatDoorRows.lean that lists a variable, with what it lists TIED to the program's text (the seventh form; the later family's looks); each row that meets fmt, with fmt's text TOLD by the authors' own Lean function (tested against real Go, not proved from fmt's source: count such statements apart). THE CARD IS WHAT COUNTS. Prove the row's statement (the work); the ties are given (YtjedikaidbobdaaGreatDoorTie.lean); close each card by the builder's one call (the guide's Derived/Test/ToyasCard.lean, 'card_holds'). Laid BY PROGRAM, IN A SANDBOX (cutbox-door.mjs). By AI agents, Wed Nov 11 2026. No macro, syntax, notation, axiom, sorry.
-/
import Derived.Test.YtjedikaidbobdaaGreatDoorRows
import GoSem.ClaimSeven
namespace Go.Proofs.YtjedikaidbobdaaGreatDoor
namespace Rows

/-- THE TIED CARD OF 'jobshoplaw26.LabelWrites'. -/
def labelWritesCard : Claim7 := { stood := { row := labelWritesRow, standIns := [], harness := (true, "6aaa7f6ec745488fba4064cbda948bc3a8c25beb4424b107b18426371fdbe46a"), looks := true }, kinds := [], alts := [], laidByText := true, laidKinds := [.data, .data, .data, .data, .sentinel, .sentinel, .pinned], laidTests := true, laidLooks := .later }
def LabelWritesCardSaid : Prop := Claim7.holds Tryz.pinned (.plain (OpenSpec.ofChange labelWritesSpec)) labelWritesCard

/-- THE TIED CARD OF 'jobshoplaw26.LabelReturns'. -/
def labelReturnsCard : Claim7 := { stood := { row := labelReturnsRow, standIns := [], harness := (true, "6aaa7f6ec745488fba4064cbda948bc3a8c25beb4424b107b18426371fdbe46a"), looks := true }, kinds := [], alts := [], laidByText := true, laidKinds := [.data, .data, .data, .data, .sentinel, .sentinel, .pinned], laidTests := true, laidLooks := .later }
def LabelReturnsCardSaid : Prop := Claim7.holds Tryz.pinned (.plain (OpenSpec.ofChange labelReturnsSpec)) labelReturnsCard

/-- THE TIED CARD OF 'jobshoplaw26.LabelFull'. -/
def labelFullCard : Claim7 := { stood := { row := labelFullRow, standIns := [], harness := (true, "6aaa7f6ec745488fba4064cbda948bc3a8c25beb4424b107b18426371fdbe46a"), looks := true }, kinds := [], alts := [], laidByText := true, laidKinds := [.data, .data, .data, .data, .sentinel, .sentinel, .pinned], laidTests := true, laidLooks := .later }
def LabelFullCardSaid : Prop := Claim7.holds Tryz.pinned (.plain (OpenSpec.ofChange labelFullSpec)) labelFullCard

/-- THE TIED CARD OF 'jobshoplaw26.LabelKeeps'. -/
def labelKeepsCard : Claim7 := { stood := { row := labelKeepsRow, standIns := [], harness := (true, "6aaa7f6ec745488fba4064cbda948bc3a8c25beb4424b107b18426371fdbe46a"), looks := true }, kinds := [], alts := [], laidByText := true, laidKinds := [.data, .data, .data, .data, .sentinel, .sentinel, .pinned], laidTests := true, laidLooks := .later }
def LabelKeepsCardSaid : Prop := Claim7.holds Tryz.pinned (.plain (OpenSpec.ofChange labelKeepsSpec)) labelKeepsCard

/-- THE TIED CARD OF 'jobshoplaw26.LabelTorn'. -/
def labelTornCard : Claim7 := { stood := { row := labelTornRow, standIns := [], harness := (true, "6aaa7f6ec745488fba4064cbda948bc3a8c25beb4424b107b18426371fdbe46a"), looks := true }, kinds := [], alts := [], laidByText := true, laidKinds := [.data, .data, .data, .data, .sentinel, .sentinel, .pinned], laidTests := true, laidLooks := .later }
def LabelTornCardSaid : Prop := Claim7.holds Tryz.pinned (.plain (OpenSpec.ofChange labelTornSpec)) labelTornCard

/-- THE SECOND FORM's CARD OF 'jobshoplaw26.LabelWrites'. -/
def labelWritesUptoCard : Claim7 := { stood := { row := labelWritesUptoRow, standIns := [], harness := (true, "6aaa7f6ec745488fba4064cbda948bc3a8c25beb4424b107b18426371fdbe46a"), looks := true }, kinds := [], alts := [], laidByText := true, laidKinds := [.data, .data, .data, .data, .sentinel, .sentinel, .pinned], laidTests := true, laidLooks := .later }
def LabelWritesUptoCardSaid : Prop := Claim7.holds Tryz.pinned (.plain (OpenSpec.upto labelWritesSpec)) labelWritesUptoCard

/-- THE SECOND FORM's CARD OF 'jobshoplaw26.LabelReturns'. -/
def labelReturnsUptoCard : Claim7 := { stood := { row := labelReturnsUptoRow, standIns := [], harness := (true, "6aaa7f6ec745488fba4064cbda948bc3a8c25beb4424b107b18426371fdbe46a"), looks := true }, kinds := [], alts := [], laidByText := true, laidKinds := [.data, .data, .data, .data, .sentinel, .sentinel, .pinned], laidTests := true, laidLooks := .later }
def LabelReturnsUptoCardSaid : Prop := Claim7.holds Tryz.pinned (.plain (OpenSpec.upto labelReturnsSpec)) labelReturnsUptoCard

/-- THE SECOND FORM's CARD OF 'jobshoplaw26.LabelFull'. -/
def labelFullUptoCard : Claim7 := { stood := { row := labelFullUptoRow, standIns := [], harness := (true, "6aaa7f6ec745488fba4064cbda948bc3a8c25beb4424b107b18426371fdbe46a"), looks := true }, kinds := [], alts := [], laidByText := true, laidKinds := [.data, .data, .data, .data, .sentinel, .sentinel, .pinned], laidTests := true, laidLooks := .later }
def LabelFullUptoCardSaid : Prop := Claim7.holds Tryz.pinned (.plain (OpenSpec.upto labelFullSpec)) labelFullUptoCard

/-- THE SECOND FORM's CARD OF 'jobshoplaw26.LabelKeeps'. -/
def labelKeepsUptoCard : Claim7 := { stood := { row := labelKeepsUptoRow, standIns := [], harness := (true, "6aaa7f6ec745488fba4064cbda948bc3a8c25beb4424b107b18426371fdbe46a"), looks := true }, kinds := [], alts := [], laidByText := true, laidKinds := [.data, .data, .data, .data, .sentinel, .sentinel, .pinned], laidTests := true, laidLooks := .later }
def LabelKeepsUptoCardSaid : Prop := Claim7.holds Tryz.pinned (.plain (OpenSpec.upto labelKeepsSpec)) labelKeepsUptoCard

/-- THE SECOND FORM's CARD OF 'jobshoplaw26.LabelTorn'. -/
def labelTornUptoCard : Claim7 := { stood := { row := labelTornUptoRow, standIns := [], harness := (true, "6aaa7f6ec745488fba4064cbda948bc3a8c25beb4424b107b18426371fdbe46a"), looks := true }, kinds := [], alts := [], laidByText := true, laidKinds := [.data, .data, .data, .data, .sentinel, .sentinel, .pinned], laidTests := true, laidLooks := .later }
def LabelTornUptoCardSaid : Prop := Claim7.holds Tryz.pinned (.plain (OpenSpec.upto labelTornSpec)) labelTornUptoCard
end Rows
end Go.Proofs.YtjedikaidbobdaaGreatDoor
