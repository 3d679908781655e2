/-
  NARROWER THAN 'FOR EVERY INPUT', by the rows' own cells (each row's printed sentence says how): JclNames: laid · JclLong: laid · JclParts: laid · JclReturns: laid · JclJoins: laid · JclComments: laid.
  DERIVED. THE GIVEN ROWS OF THIS SEAT. 6 by the template 'for every input the law returns true; each argument reads behind the call as it read before'; 0 by the template 'total and deterministic' (their statements: YtnaljgmcpagbbaaDoorTotals.lean).
  GIVEN WITH THE SEED: the statements are not yours to turn. If you find one false, say at which input.
  Laid BY PROGRAM, IN A SANDBOX (cutbox-rows.mjs): the forced cells as the released guide's own fill.sh prints them over the translation 2e71c60fd0f05d70… (all of the seat's roots in one cut). By AI agents, Wed Nov 11 2026. No macro, syntax, notation, axiom, sorry.
-/
import Derived.Test.YtnaljgmcpagbbaaDoorChecked
import GoSem.PinnedTables
import GoSem.Claim
import GoSem.ClaimJoined
import GoSem.ClaimMapViews
import Derived.JoinedTies
import Derived.KernelRfl
namespace Go.Proofs.YtnaljgmcpagbbaaDoor
/- THE CELL 'sum', in the pinned program and in every row, IS THE sha256 OF THE DUMP (.gsa) THAT YtnaljgmcpagbbaaDoorProg.lean LOADS. Nothing in Lean hashes anything: it is a label: what it is worth is what the hold of that sum in a sandbox is worth. -/
noncomputable def Tryd.pinned : Pinned := { name := "ytnaljgmcpagbbaadoor", sum := "2e71c60fd0f05d7061dec9a961800478acac8a4815cd0c39397b2861e4f48d44", checked := Tryd.checked }
namespace Rows
def none {H : Type} : Left H := { results := [], args := [] }

/- WHAT THE LISTED PACKAGE-LEVEL VARIABLES READ AS WHEN THE CALL BEGINS. Each datum BY PROGRAM (the guide's laid-datum.mjs) off the statement by which the dump's own 'gosem.cut.vars' lays the variable. In a bare row this is a premise. The card (YtnaljgmcpagbbaaDoorCards.lean) ties it to the program's text. -/
def laid_unicode_utf8_acceptRanges {H : Type} : DataW H := .agg [.agg [.lit (.int .u8 128), .lit (.int .u8 191)], .agg [.lit (.int .u8 160), .lit (.int .u8 191)], .agg [.lit (.int .u8 128), .lit (.int .u8 159)], .agg [.lit (.int .u8 144), .lit (.int .u8 191)], .agg [.lit (.int .u8 128), .lit (.int .u8 143)], .agg [.lit (.int .u8 0), .lit (.int .u8 0)], .agg [.lit (.int .u8 0), .lit (.int .u8 0)], .agg [.lit (.int .u8 0), .lit (.int .u8 0)], .agg [.lit (.int .u8 0), .lit (.int .u8 0)], .agg [.lit (.int .u8 0), .lit (.int .u8 0)], .agg [.lit (.int .u8 0), .lit (.int .u8 0)], .agg [.lit (.int .u8 0), .lit (.int .u8 0)], .agg [.lit (.int .u8 0), .lit (.int .u8 0)], .agg [.lit (.int .u8 0), .lit (.int .u8 0)], .agg [.lit (.int .u8 0), .lit (.int .u8 0)], .agg [.lit (.int .u8 0), .lit (.int .u8 0)]]
/-- One of Go's own tables, pinned by name: the form's constant. -/
def laid_unicode_utf8_first : DataW Unit := Go.Pinned.utf8First

/-- 'jobshoplaw34.JclNames': WHATEVER THE INPUT: true; the input reads as it did. -/
def jclNamesSpec : ChangeSpec := { name := "jclNames", fn := fun _ => fun
  | [d] => { results := [.lit (.bool true)], args := [d] }
  | _ => none }
def jclNamesRow : OpenClaim := { program := "ytnaljgmcpagbbaadoor", sum := "2e71c60fd0f05d7061dec9a961800478acac8a4815cd0c39397b2861e4f48d44", func := "jobshop/jobshoplaw34.JclNames", spec := "jclNames", inPlace := ["internal/bytealg.IndexByteString", "internal/bytealg.IndexString", "internal/bytealg.CountString", "internal/abi.NoEscape", "internal/bytealg.MakeNoZero"], unfollowed := true, recurses := true, named := ["unicode/utf8.first", "unicode/utf8.acceptRanges", "internal/bytealg.MaxLen"], apart := false, laid := [("unicode/utf8.acceptRanges", laid_unicode_utf8_acceptRanges), ("unicode/utf8.first", laid_unicode_utf8_first)] }
def JclNamesSaid : Prop := jclNamesRow.holds Tryd.pinned (OpenSpec.ofChange jclNamesSpec)

/-- ITS FALSE NEIGHBOUR: 'it returns false'. Refute it at one input. -/
def jclNamesWrong : ChangeSpec := { name := "jclNames", fn := fun _ => fun
  | [d] => { results := [.lit (.bool false)], args := [d] }
  | _ => none }
def JclNamesWrongFalsely : Prop := jclNamesRow.holds Tryd.pinned (OpenSpec.ofChange jclNamesWrong)

/-- 'jobshoplaw34.JclLong': WHATEVER THE INPUT: true; the input reads as it did. -/
def jclLongSpec : ChangeSpec := { name := "jclLong", fn := fun _ => fun
  | [d1, d2] => { results := [.lit (.bool true)], args := [d1, d2] }
  | _ => none }
def jclLongRow : OpenClaim := { program := "ytnaljgmcpagbbaadoor", sum := "2e71c60fd0f05d7061dec9a961800478acac8a4815cd0c39397b2861e4f48d44", func := "jobshop/jobshoplaw34.JclLong", spec := "jclLong", inPlace := ["internal/bytealg.IndexByteString", "internal/bytealg.IndexString", "internal/bytealg.CountString", "internal/abi.NoEscape", "internal/bytealg.MakeNoZero"], unfollowed := true, recurses := true, named := ["unicode/utf8.first", "unicode/utf8.acceptRanges", "internal/bytealg.MaxLen"], apart := false, laid := [("unicode/utf8.acceptRanges", laid_unicode_utf8_acceptRanges), ("unicode/utf8.first", laid_unicode_utf8_first)] }
def JclLongSaid : Prop := jclLongRow.holds Tryd.pinned (OpenSpec.ofChange jclLongSpec)

/-- ITS FALSE NEIGHBOUR: 'it returns false'. Refute it at one input. -/
def jclLongWrong : ChangeSpec := { name := "jclLong", fn := fun _ => fun
  | [d1, d2] => { results := [.lit (.bool false)], args := [d1, d2] }
  | _ => none }
def JclLongWrongFalsely : Prop := jclLongRow.holds Tryd.pinned (OpenSpec.ofChange jclLongWrong)

/-- 'jobshoplaw34.JclParts': WHATEVER THE INPUT: true; the input reads as it did. -/
def jclPartsSpec : ChangeSpec := { name := "jclParts", fn := fun _ => fun
  | [d1, d2, d3] => { results := [.lit (.bool true)], args := [d1, d2, d3] }
  | _ => none }
def jclPartsRow : OpenClaim := { program := "ytnaljgmcpagbbaadoor", sum := "2e71c60fd0f05d7061dec9a961800478acac8a4815cd0c39397b2861e4f48d44", func := "jobshop/jobshoplaw34.JclParts", spec := "jclParts", inPlace := ["internal/bytealg.CountString", "internal/bytealg.IndexByteString", "internal/bytealg.IndexString", "internal/abi.NoEscape", "internal/bytealg.MakeNoZero"], unfollowed := true, recurses := true, named := ["internal/bytealg.MaxLen", "unicode/utf8.first", "unicode/utf8.acceptRanges"], apart := false, laid := [("unicode/utf8.acceptRanges", laid_unicode_utf8_acceptRanges), ("unicode/utf8.first", laid_unicode_utf8_first)] }
def JclPartsSaid : Prop := jclPartsRow.holds Tryd.pinned (OpenSpec.ofChange jclPartsSpec)

/-- ITS FALSE NEIGHBOUR: 'it returns false'. Refute it at one input. -/
def jclPartsWrong : ChangeSpec := { name := "jclParts", fn := fun _ => fun
  | [d1, d2, d3] => { results := [.lit (.bool false)], args := [d1, d2, d3] }
  | _ => none }
def JclPartsWrongFalsely : Prop := jclPartsRow.holds Tryd.pinned (OpenSpec.ofChange jclPartsWrong)

/-- 'jobshoplaw34.JclReturns': WHATEVER THE INPUT: true; the input reads as it did. -/
def jclReturnsSpec : ChangeSpec := { name := "jclReturns", fn := fun _ => fun
  | [d] => { results := [.lit (.bool true)], args := [d] }
  | _ => none }
def jclReturnsRow : OpenClaim := { program := "ytnaljgmcpagbbaadoor", sum := "2e71c60fd0f05d7061dec9a961800478acac8a4815cd0c39397b2861e4f48d44", func := "jobshop/jobshoplaw34.JclReturns", spec := "jclReturns", inPlace := ["internal/bytealg.IndexByteString", "internal/bytealg.IndexString", "internal/bytealg.CountString", "internal/abi.NoEscape", "internal/bytealg.MakeNoZero"], unfollowed := true, recurses := true, named := ["unicode/utf8.first", "unicode/utf8.acceptRanges", "internal/bytealg.MaxLen"], apart := false, laid := [("unicode/utf8.acceptRanges", laid_unicode_utf8_acceptRanges), ("unicode/utf8.first", laid_unicode_utf8_first)] }
def JclReturnsSaid : Prop := jclReturnsRow.holds Tryd.pinned (OpenSpec.ofChange jclReturnsSpec)

/-- ITS FALSE NEIGHBOUR: 'it returns false'. Refute it at one input. -/
def jclReturnsWrong : ChangeSpec := { name := "jclReturns", fn := fun _ => fun
  | [d] => { results := [.lit (.bool false)], args := [d] }
  | _ => none }
def JclReturnsWrongFalsely : Prop := jclReturnsRow.holds Tryd.pinned (OpenSpec.ofChange jclReturnsWrong)

/-- 'jobshoplaw34.JclJoins': WHATEVER THE INPUT: true; the input reads as it did. -/
def jclJoinsSpec : ChangeSpec := { name := "jclJoins", fn := fun _ => fun
  | [d1, d2] => { results := [.lit (.bool true)], args := [d1, d2] }
  | _ => none }
def jclJoinsRow : OpenClaim := { program := "ytnaljgmcpagbbaadoor", sum := "2e71c60fd0f05d7061dec9a961800478acac8a4815cd0c39397b2861e4f48d44", func := "jobshop/jobshoplaw34.JclJoins", spec := "jclJoins", inPlace := ["internal/bytealg.IndexByteString", "internal/bytealg.IndexString", "internal/bytealg.CountString", "internal/abi.NoEscape", "internal/bytealg.MakeNoZero"], unfollowed := true, recurses := true, named := ["unicode/utf8.first", "unicode/utf8.acceptRanges", "internal/bytealg.MaxLen"], apart := false, laid := [("unicode/utf8.acceptRanges", laid_unicode_utf8_acceptRanges), ("unicode/utf8.first", laid_unicode_utf8_first)] }
def JclJoinsSaid : Prop := jclJoinsRow.holds Tryd.pinned (OpenSpec.ofChange jclJoinsSpec)

/-- ITS FALSE NEIGHBOUR: 'it returns false'. Refute it at one input. -/
def jclJoinsWrong : ChangeSpec := { name := "jclJoins", fn := fun _ => fun
  | [d1, d2] => { results := [.lit (.bool false)], args := [d1, d2] }
  | _ => none }
def JclJoinsWrongFalsely : Prop := jclJoinsRow.holds Tryd.pinned (OpenSpec.ofChange jclJoinsWrong)

/-- 'jobshoplaw34.JclComments': WHATEVER THE INPUT: true; the input reads as it did. -/
def jclCommentsSpec : ChangeSpec := { name := "jclComments", fn := fun _ => fun
  | [d1, d2, d3] => { results := [.lit (.bool true)], args := [d1, d2, d3] }
  | _ => none }
def jclCommentsRow : OpenClaim := { program := "ytnaljgmcpagbbaadoor", sum := "2e71c60fd0f05d7061dec9a961800478acac8a4815cd0c39397b2861e4f48d44", func := "jobshop/jobshoplaw34.JclComments", spec := "jclComments", inPlace := ["internal/bytealg.IndexByteString", "internal/bytealg.IndexString", "internal/bytealg.CountString", "internal/abi.NoEscape", "internal/bytealg.MakeNoZero"], unfollowed := true, recurses := true, named := ["unicode/utf8.first", "unicode/utf8.acceptRanges", "internal/bytealg.MaxLen"], apart := false, laid := [("unicode/utf8.acceptRanges", laid_unicode_utf8_acceptRanges), ("unicode/utf8.first", laid_unicode_utf8_first)] }
def JclCommentsSaid : Prop := jclCommentsRow.holds Tryd.pinned (OpenSpec.ofChange jclCommentsSpec)

/-- ITS FALSE NEIGHBOUR: 'it returns false'. Refute it at one input. -/
def jclCommentsWrong : ChangeSpec := { name := "jclComments", fn := fun _ => fun
  | [d1, d2, d3] => { results := [.lit (.bool false)], args := [d1, d2, d3] }
  | _ => none }
def JclCommentsWrongFalsely : Prop := jclCommentsRow.holds Tryd.pinned (OpenSpec.ofChange jclCommentsWrong)

/- THE SECOND FORM. 'bulk': how many values and letters a reading holds, each counted each time it is reached (what is shared counts as often as it is met; a slice's spare places count too). A statement '..UptoSaid' is the law's where the arguments, and the package variables that the reading takes, are together of bulk at most 1048576: NARROWER than '..Said'. Prove '..Said' where nothing that the law and all that it calls make is longer than what came in: it says more and counts as full. Else prove '..UptoSaid'. A law counts once. -/
mutual
def uptoBulk {H : Type} : DataW H → Nat
  | .lit (.string bytes) => bytes.length + 1
  | .lit _ => 1
  | .nil => 1
  | .ptr d => uptoBulk d + 1
  | .slice elems spare => uptoBulkAll elems + uptoBulkAll spare + 1
  | .agg parts => uptoBulkAll parts + 1
  | .iface _ d => uptoBulk d + 1
  | .map entries => uptoBulkEntries entries + 1
  | .held _ => 1
def uptoBulkAll {H : Type} : List (DataW H) → Nat
  | [] => 0
  | d :: r => uptoBulk d + uptoBulkAll r
def uptoBulkEntries {H : Type} : List (Lit × DataW H) → Nat
  | [] => 0
  | x :: r => uptoBulkEntry x + uptoBulkEntries r
def uptoBulkEntry {H : Type} : Lit × DataW H → Nat
  | (.string bytes, d) => bytes.length + uptoBulk d + 1
  | (_, d) => uptoBulk d + 1
 end
def uptoSmall : (H : Type) → List (DataW H) → Bool := fun _ ds => decide (uptoBulkAll ds ≤ 1048576)
def OpenSpec.upto (s : _root_.Go.ChangeSpec) : _root_.Go.OpenSpec := { _root_.Go.OpenSpec.ofChange s with cond := some uptoSmall }

/-- 'jobshoplaw34.JclNames', WHERE WHAT IT READS IS OF BULK AT MOST 1048576: true; the input reads as it did. -/
def jclNamesUptoRow : OpenClaim := { program := "ytnaljgmcpagbbaadoor", sum := "2e71c60fd0f05d7061dec9a961800478acac8a4815cd0c39397b2861e4f48d44", func := "jobshop/jobshoplaw34.JclNames", spec := "jclNames", inPlace := ["internal/bytealg.IndexByteString", "internal/bytealg.IndexString", "internal/bytealg.CountString", "internal/abi.NoEscape", "internal/bytealg.MakeNoZero"], unfollowed := true, recurses := true, named := ["unicode/utf8.first", "unicode/utf8.acceptRanges", "internal/bytealg.MaxLen"], apart := false, laid := [("unicode/utf8.acceptRanges", laid_unicode_utf8_acceptRanges), ("unicode/utf8.first", laid_unicode_utf8_first)], narrowed := true }
def JclNamesUptoSaid : Prop := jclNamesUptoRow.holds Tryd.pinned (OpenSpec.upto jclNamesSpec)

/-- 'jobshoplaw34.JclLong', WHERE WHAT IT READS IS OF BULK AT MOST 1048576: true; the input reads as it did. -/
def jclLongUptoRow : OpenClaim := { program := "ytnaljgmcpagbbaadoor", sum := "2e71c60fd0f05d7061dec9a961800478acac8a4815cd0c39397b2861e4f48d44", func := "jobshop/jobshoplaw34.JclLong", spec := "jclLong", inPlace := ["internal/bytealg.IndexByteString", "internal/bytealg.IndexString", "internal/bytealg.CountString", "internal/abi.NoEscape", "internal/bytealg.MakeNoZero"], unfollowed := true, recurses := true, named := ["unicode/utf8.first", "unicode/utf8.acceptRanges", "internal/bytealg.MaxLen"], apart := false, laid := [("unicode/utf8.acceptRanges", laid_unicode_utf8_acceptRanges), ("unicode/utf8.first", laid_unicode_utf8_first)], narrowed := true }
def JclLongUptoSaid : Prop := jclLongUptoRow.holds Tryd.pinned (OpenSpec.upto jclLongSpec)

/-- 'jobshoplaw34.JclParts', WHERE WHAT IT READS IS OF BULK AT MOST 1048576: true; the input reads as it did. -/
def jclPartsUptoRow : OpenClaim := { program := "ytnaljgmcpagbbaadoor", sum := "2e71c60fd0f05d7061dec9a961800478acac8a4815cd0c39397b2861e4f48d44", func := "jobshop/jobshoplaw34.JclParts", spec := "jclParts", inPlace := ["internal/bytealg.CountString", "internal/bytealg.IndexByteString", "internal/bytealg.IndexString", "internal/abi.NoEscape", "internal/bytealg.MakeNoZero"], unfollowed := true, recurses := true, named := ["internal/bytealg.MaxLen", "unicode/utf8.first", "unicode/utf8.acceptRanges"], apart := false, laid := [("unicode/utf8.acceptRanges", laid_unicode_utf8_acceptRanges), ("unicode/utf8.first", laid_unicode_utf8_first)], narrowed := true }
def JclPartsUptoSaid : Prop := jclPartsUptoRow.holds Tryd.pinned (OpenSpec.upto jclPartsSpec)

/-- 'jobshoplaw34.JclReturns', WHERE WHAT IT READS IS OF BULK AT MOST 1048576: true; the input reads as it did. -/
def jclReturnsUptoRow : OpenClaim := { program := "ytnaljgmcpagbbaadoor", sum := "2e71c60fd0f05d7061dec9a961800478acac8a4815cd0c39397b2861e4f48d44", func := "jobshop/jobshoplaw34.JclReturns", spec := "jclReturns", inPlace := ["internal/bytealg.IndexByteString", "internal/bytealg.IndexString", "internal/bytealg.CountString", "internal/abi.NoEscape", "internal/bytealg.MakeNoZero"], unfollowed := true, recurses := true, named := ["unicode/utf8.first", "unicode/utf8.acceptRanges", "internal/bytealg.MaxLen"], apart := false, laid := [("unicode/utf8.acceptRanges", laid_unicode_utf8_acceptRanges), ("unicode/utf8.first", laid_unicode_utf8_first)], narrowed := true }
def JclReturnsUptoSaid : Prop := jclReturnsUptoRow.holds Tryd.pinned (OpenSpec.upto jclReturnsSpec)

/-- 'jobshoplaw34.JclJoins', WHERE WHAT IT READS IS OF BULK AT MOST 1048576: true; the input reads as it did. -/
def jclJoinsUptoRow : OpenClaim := { program := "ytnaljgmcpagbbaadoor", sum := "2e71c60fd0f05d7061dec9a961800478acac8a4815cd0c39397b2861e4f48d44", func := "jobshop/jobshoplaw34.JclJoins", spec := "jclJoins", inPlace := ["internal/bytealg.IndexByteString", "internal/bytealg.IndexString", "internal/bytealg.CountString", "internal/abi.NoEscape", "internal/bytealg.MakeNoZero"], unfollowed := true, recurses := true, named := ["unicode/utf8.first", "unicode/utf8.acceptRanges", "internal/bytealg.MaxLen"], apart := false, laid := [("unicode/utf8.acceptRanges", laid_unicode_utf8_acceptRanges), ("unicode/utf8.first", laid_unicode_utf8_first)], narrowed := true }
def JclJoinsUptoSaid : Prop := jclJoinsUptoRow.holds Tryd.pinned (OpenSpec.upto jclJoinsSpec)

/-- 'jobshoplaw34.JclComments', WHERE WHAT IT READS IS OF BULK AT MOST 1048576: true; the input reads as it did. -/
def jclCommentsUptoRow : OpenClaim := { program := "ytnaljgmcpagbbaadoor", sum := "2e71c60fd0f05d7061dec9a961800478acac8a4815cd0c39397b2861e4f48d44", func := "jobshop/jobshoplaw34.JclComments", spec := "jclComments", inPlace := ["internal/bytealg.IndexByteString", "internal/bytealg.IndexString", "internal/bytealg.CountString", "internal/abi.NoEscape", "internal/bytealg.MakeNoZero"], unfollowed := true, recurses := true, named := ["unicode/utf8.first", "unicode/utf8.acceptRanges", "internal/bytealg.MaxLen"], apart := false, laid := [("unicode/utf8.acceptRanges", laid_unicode_utf8_acceptRanges), ("unicode/utf8.first", laid_unicode_utf8_first)], narrowed := true }
def JclCommentsUptoSaid : Prop := jclCommentsUptoRow.holds Tryd.pinned (OpenSpec.upto jclCommentsSpec)

end Rows
end Go.Proofs.YtnaljgmcpagbbaaDoor
