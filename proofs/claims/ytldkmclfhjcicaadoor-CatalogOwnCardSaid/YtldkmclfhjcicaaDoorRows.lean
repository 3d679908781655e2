/-
  NARROWER THAN 'FOR EVERY INPUT', by the rows' own cells (each row's printed sentence says how): CatalogNames: laid · CatalogGenerations: laid · CatalogKnown: laid · CatalogOwn: laid · CatalogCalls: laid · CatalogPlays: laid · CatalogKeeps: laid · CatalogBack: laid.
  DERIVED. THE GIVEN ROWS OF THIS SEAT. 8 by the template 'for every input the law returns true; each argument reads behind the call as it read before'; 0 by the template 'total and deterministic' (their statements: YtldkmclfhjcicaaDoorTotals.lean).
  GIVEN WITH THE SEED: the statements are not yours to turn. If you find one false, say at which input.
  Laid BY PROGRAM, IN A SANDBOX (cutbox-rows.mjs): the forced cells as the released guide's own fill.sh prints them over the translation 549729c022c9aaf4… (all of the seat's roots in one cut). By AI agents, Wed Nov 11 2026. No macro, syntax, notation, axiom, sorry.
-/
import Derived.Test.YtldkmclfhjcicaaDoorChecked
import GoSem.PinnedTables
import GoSem.Claim
import GoSem.ClaimJoined
import GoSem.ClaimMapViews
import Derived.JoinedTies
import Derived.KernelRfl
namespace Go.Proofs.YtldkmclfhjcicaaDoor
/- THE CELL 'sum', in the pinned program and in every row, IS THE sha256 OF THE DUMP (.gsa) THAT YtldkmclfhjcicaaDoorProg.lean LOADS. Nothing in Lean hashes anything: it is a label: what it is worth is what the hold of that sum in a sandbox is worth. -/
noncomputable def Tryd.pinned : Pinned := { name := "ytldkmclfhjcicaadoor", sum := "549729c022c9aaf46f43c2cfe3e593790c31e8eded483744d979a4bdcd0f0717", checked := Tryd.checked }
namespace Rows
def none {H : Type} : Left H := { results := [], args := [] }

/- WHAT THE LISTED PACKAGE-LEVEL VARIABLES READ AS WHEN THE CALL BEGINS. Each datum BY PROGRAM (the guide's laid-datum.mjs) off the statement by which the dump's own 'gosem.cut.vars' lays the variable. In a bare row this is a premise. The card (YtldkmclfhjcicaaDoorCards.lean) ties it to the program's text. -/
def laid_unicode_utf8_acceptRanges {H : Type} : DataW H := .agg [.agg [.lit (.int .u8 128), .lit (.int .u8 191)], .agg [.lit (.int .u8 160), .lit (.int .u8 191)], .agg [.lit (.int .u8 128), .lit (.int .u8 159)], .agg [.lit (.int .u8 144), .lit (.int .u8 191)], .agg [.lit (.int .u8 128), .lit (.int .u8 143)], .agg [.lit (.int .u8 0), .lit (.int .u8 0)], .agg [.lit (.int .u8 0), .lit (.int .u8 0)], .agg [.lit (.int .u8 0), .lit (.int .u8 0)], .agg [.lit (.int .u8 0), .lit (.int .u8 0)], .agg [.lit (.int .u8 0), .lit (.int .u8 0)], .agg [.lit (.int .u8 0), .lit (.int .u8 0)], .agg [.lit (.int .u8 0), .lit (.int .u8 0)], .agg [.lit (.int .u8 0), .lit (.int .u8 0)], .agg [.lit (.int .u8 0), .lit (.int .u8 0)], .agg [.lit (.int .u8 0), .lit (.int .u8 0)], .agg [.lit (.int .u8 0), .lit (.int .u8 0)]]
/-- One of Go's own tables, pinned by name: the form's constant. -/
def laid_unicode_utf8_first : DataW Unit := Go.Pinned.utf8First

/-- 'jobshoplaw27.CatalogNames': WHATEVER THE INPUT: true; the input reads as it did. -/
def catalogNamesSpec : ChangeSpec := { name := "catalogNames", fn := fun _ => fun
  | [d1, d2, d3, d4, d5] => { results := [.lit (.bool true)], args := [d1, d2, d3, d4, d5] }
  | _ => none }
def catalogNamesRow : OpenClaim := { program := "ytldkmclfhjcicaadoor", sum := "549729c022c9aaf46f43c2cfe3e593790c31e8eded483744d979a4bdcd0f0717", func := "jobshop/jobshoplaw27.CatalogNames", spec := "catalogNames", inPlace := ["internal/bytealg.IndexByteString", "internal/bytealg.IndexString", "slices.overlaps[jobshop/catalog.Group]", "slices.overlaps[jobshop/api.Entry]"], unfollowed := true, recurses := true, named := ["unicode/utf8.first", "unicode/utf8.acceptRanges", "internal/bytealg.MaxLen"], apart := false, laid := [("unicode/utf8.acceptRanges", laid_unicode_utf8_acceptRanges), ("unicode/utf8.first", laid_unicode_utf8_first)] }
def CatalogNamesSaid : Prop := catalogNamesRow.holds Tryd.pinned (OpenSpec.ofChange catalogNamesSpec)

/-- ITS FALSE NEIGHBOUR: 'it returns false'. Refute it at one input. -/
def catalogNamesWrong : ChangeSpec := { name := "catalogNames", fn := fun _ => fun
  | [d1, d2, d3, d4, d5] => { results := [.lit (.bool false)], args := [d1, d2, d3, d4, d5] }
  | _ => none }
def CatalogNamesWrongFalsely : Prop := catalogNamesRow.holds Tryd.pinned (OpenSpec.ofChange catalogNamesWrong)

/-- 'jobshoplaw27.CatalogGenerations': WHATEVER THE INPUT: true; the input reads as it did. -/
def catalogGenerationsSpec : ChangeSpec := { name := "catalogGenerations", fn := fun _ => fun
  | [d1, d2, d3, d4] => { results := [.lit (.bool true)], args := [d1, d2, d3, d4] }
  | _ => none }
def catalogGenerationsRow : OpenClaim := { program := "ytldkmclfhjcicaadoor", sum := "549729c022c9aaf46f43c2cfe3e593790c31e8eded483744d979a4bdcd0f0717", func := "jobshop/jobshoplaw27.CatalogGenerations", spec := "catalogGenerations", inPlace := ["internal/bytealg.IndexByteString", "internal/bytealg.IndexString", "slices.overlaps[jobshop/catalog.Group]", "slices.overlaps[jobshop/api.Entry]"], unfollowed := true, recurses := true, named := ["unicode/utf8.first", "unicode/utf8.acceptRanges", "internal/bytealg.MaxLen"], apart := false, laid := [("unicode/utf8.acceptRanges", laid_unicode_utf8_acceptRanges), ("unicode/utf8.first", laid_unicode_utf8_first)] }
def CatalogGenerationsSaid : Prop := catalogGenerationsRow.holds Tryd.pinned (OpenSpec.ofChange catalogGenerationsSpec)

/-- ITS FALSE NEIGHBOUR: 'it returns false'. Refute it at one input. -/
def catalogGenerationsWrong : ChangeSpec := { name := "catalogGenerations", fn := fun _ => fun
  | [d1, d2, d3, d4] => { results := [.lit (.bool false)], args := [d1, d2, d3, d4] }
  | _ => none }
def CatalogGenerationsWrongFalsely : Prop := catalogGenerationsRow.holds Tryd.pinned (OpenSpec.ofChange catalogGenerationsWrong)

/-- 'jobshoplaw27.CatalogKnown': WHATEVER THE INPUT: true; the input reads as it did. -/
def catalogKnownSpec : ChangeSpec := { name := "catalogKnown", fn := fun _ => fun
  | [] => { results := [.lit (.bool true)], args := [] }
  | _ => none }
def catalogKnownRow : OpenClaim := { program := "ytldkmclfhjcicaadoor", sum := "549729c022c9aaf46f43c2cfe3e593790c31e8eded483744d979a4bdcd0f0717", func := "jobshop/jobshoplaw27.CatalogKnown", spec := "catalogKnown", inPlace := ["internal/bytealg.IndexByteString", "internal/bytealg.IndexString", "slices.overlaps[jobshop/api.Entry]", "slices.overlaps[jobshop/catalog.Group]"], unfollowed := true, recurses := true, named := ["unicode/utf8.first", "unicode/utf8.acceptRanges", "internal/bytealg.MaxLen"], apart := false, laid := [("unicode/utf8.acceptRanges", laid_unicode_utf8_acceptRanges), ("unicode/utf8.first", laid_unicode_utf8_first)] }
def CatalogKnownSaid : Prop := catalogKnownRow.holds Tryd.pinned (OpenSpec.ofChange catalogKnownSpec)

/-- ITS FALSE NEIGHBOUR: 'it returns false'. Refute it at one input. -/
def catalogKnownWrong : ChangeSpec := { name := "catalogKnown", fn := fun _ => fun
  | [] => { results := [.lit (.bool false)], args := [] }
  | _ => none }
def CatalogKnownWrongFalsely : Prop := catalogKnownRow.holds Tryd.pinned (OpenSpec.ofChange catalogKnownWrong)

/-- 'jobshoplaw27.CatalogOwn': WHATEVER THE INPUT: true; the input reads as it did. -/
def catalogOwnSpec : ChangeSpec := { name := "catalogOwn", fn := fun _ => fun
  | [d1, d2] => { results := [.lit (.bool true)], args := [d1, d2] }
  | _ => none }
def catalogOwnRow : OpenClaim := { program := "ytldkmclfhjcicaadoor", sum := "549729c022c9aaf46f43c2cfe3e593790c31e8eded483744d979a4bdcd0f0717", func := "jobshop/jobshoplaw27.CatalogOwn", spec := "catalogOwn", inPlace := ["internal/bytealg.IndexByteString", "internal/bytealg.IndexString", "slices.overlaps[jobshop/catalog.Group]", "slices.overlaps[jobshop/api.Entry]"], unfollowed := true, recurses := true, named := ["unicode/utf8.first", "unicode/utf8.acceptRanges", "internal/bytealg.MaxLen"], apart := false, laid := [("unicode/utf8.acceptRanges", laid_unicode_utf8_acceptRanges), ("unicode/utf8.first", laid_unicode_utf8_first)] }
def CatalogOwnSaid : Prop := catalogOwnRow.holds Tryd.pinned (OpenSpec.ofChange catalogOwnSpec)

/-- ITS FALSE NEIGHBOUR: 'it returns false'. Refute it at one input. -/
def catalogOwnWrong : ChangeSpec := { name := "catalogOwn", fn := fun _ => fun
  | [d1, d2] => { results := [.lit (.bool false)], args := [d1, d2] }
  | _ => none }
def CatalogOwnWrongFalsely : Prop := catalogOwnRow.holds Tryd.pinned (OpenSpec.ofChange catalogOwnWrong)

/-- 'jobshoplaw27.CatalogCalls': WHATEVER THE INPUT: true; the input reads as it did. -/
def catalogCallsSpec : ChangeSpec := { name := "catalogCalls", fn := fun _ => fun
  | [d1, d2, d3, d4, d5, d6, d7] => { results := [.lit (.bool true)], args := [d1, d2, d3, d4, d5, d6, d7] }
  | _ => none }
def catalogCallsRow : OpenClaim := { program := "ytldkmclfhjcicaadoor", sum := "549729c022c9aaf46f43c2cfe3e593790c31e8eded483744d979a4bdcd0f0717", func := "jobshop/jobshoplaw27.CatalogCalls", spec := "catalogCalls", inPlace := ["internal/bytealg.IndexByteString", "internal/bytealg.IndexString", "slices.overlaps[jobshop/api.Entry]", "slices.overlaps[jobshop/catalog.Group]"], unfollowed := true, recurses := true, named := ["unicode/utf8.first", "unicode/utf8.acceptRanges", "internal/bytealg.MaxLen"], apart := false, laid := [("unicode/utf8.acceptRanges", laid_unicode_utf8_acceptRanges), ("unicode/utf8.first", laid_unicode_utf8_first)] }
def CatalogCallsSaid : Prop := catalogCallsRow.holds Tryd.pinned (OpenSpec.ofChange catalogCallsSpec)

/-- ITS FALSE NEIGHBOUR: 'it returns false'. Refute it at one input. -/
def catalogCallsWrong : ChangeSpec := { name := "catalogCalls", fn := fun _ => fun
  | [d1, d2, d3, d4, d5, d6, d7] => { results := [.lit (.bool false)], args := [d1, d2, d3, d4, d5, d6, d7] }
  | _ => none }
def CatalogCallsWrongFalsely : Prop := catalogCallsRow.holds Tryd.pinned (OpenSpec.ofChange catalogCallsWrong)

/-- 'jobshoplaw27.CatalogPlays': WHATEVER THE INPUT: true; the input reads as it did. -/
def catalogPlaysSpec : ChangeSpec := { name := "catalogPlays", fn := fun _ => fun
  | [d] => { results := [.lit (.bool true)], args := [d] }
  | _ => none }
def catalogPlaysRow : OpenClaim := { program := "ytldkmclfhjcicaadoor", sum := "549729c022c9aaf46f43c2cfe3e593790c31e8eded483744d979a4bdcd0f0717", func := "jobshop/jobshoplaw27.CatalogPlays", spec := "catalogPlays", inPlace := ["internal/bytealg.IndexByteString", "internal/bytealg.IndexString", "slices.overlaps[jobshop/api.Entry]", "slices.overlaps[jobshop/catalog.Group]"], unfollowed := true, recurses := true, named := ["unicode/utf8.first", "unicode/utf8.acceptRanges", "internal/bytealg.MaxLen"], apart := false, laid := [("unicode/utf8.acceptRanges", laid_unicode_utf8_acceptRanges), ("unicode/utf8.first", laid_unicode_utf8_first)] }
def CatalogPlaysSaid : Prop := catalogPlaysRow.holds Tryd.pinned (OpenSpec.ofChange catalogPlaysSpec)

/-- ITS FALSE NEIGHBOUR: 'it returns false'. Refute it at one input. -/
def catalogPlaysWrong : ChangeSpec := { name := "catalogPlays", fn := fun _ => fun
  | [d] => { results := [.lit (.bool false)], args := [d] }
  | _ => none }
def CatalogPlaysWrongFalsely : Prop := catalogPlaysRow.holds Tryd.pinned (OpenSpec.ofChange catalogPlaysWrong)

/-- 'jobshoplaw27.CatalogKeeps': WHATEVER THE INPUT: true; the input reads as it did. -/
def catalogKeepsSpec : ChangeSpec := { name := "catalogKeeps", fn := fun _ => fun
  | [d1, d2, d3] => { results := [.lit (.bool true)], args := [d1, d2, d3] }
  | _ => none }
def catalogKeepsRow : OpenClaim := { program := "ytldkmclfhjcicaadoor", sum := "549729c022c9aaf46f43c2cfe3e593790c31e8eded483744d979a4bdcd0f0717", func := "jobshop/jobshoplaw27.CatalogKeeps", spec := "catalogKeeps", inPlace := ["internal/bytealg.IndexByteString", "internal/bytealg.IndexString", "slices.overlaps[jobshop/catalog.Group]", "slices.overlaps[jobshop/api.Entry]"], unfollowed := true, recurses := true, named := ["unicode/utf8.first", "unicode/utf8.acceptRanges", "internal/bytealg.MaxLen"], apart := false, laid := [("unicode/utf8.acceptRanges", laid_unicode_utf8_acceptRanges), ("unicode/utf8.first", laid_unicode_utf8_first)] }
def CatalogKeepsSaid : Prop := catalogKeepsRow.holds Tryd.pinned (OpenSpec.ofChange catalogKeepsSpec)

/-- ITS FALSE NEIGHBOUR: 'it returns false'. Refute it at one input. -/
def catalogKeepsWrong : ChangeSpec := { name := "catalogKeeps", fn := fun _ => fun
  | [d1, d2, d3] => { results := [.lit (.bool false)], args := [d1, d2, d3] }
  | _ => none }
def CatalogKeepsWrongFalsely : Prop := catalogKeepsRow.holds Tryd.pinned (OpenSpec.ofChange catalogKeepsWrong)

/-- 'jobshoplaw27.CatalogBack': WHATEVER THE INPUT: true; the input reads as it did. -/
def catalogBackSpec : ChangeSpec := { name := "catalogBack", fn := fun _ => fun
  | [d1, d2] => { results := [.lit (.bool true)], args := [d1, d2] }
  | _ => none }
def catalogBackRow : OpenClaim := { program := "ytldkmclfhjcicaadoor", sum := "549729c022c9aaf46f43c2cfe3e593790c31e8eded483744d979a4bdcd0f0717", func := "jobshop/jobshoplaw27.CatalogBack", spec := "catalogBack", inPlace := ["internal/bytealg.IndexByteString", "internal/bytealg.IndexString", "slices.overlaps[jobshop/catalog.Group]", "slices.overlaps[jobshop/api.Entry]"], unfollowed := true, recurses := true, named := ["unicode/utf8.first", "unicode/utf8.acceptRanges", "internal/bytealg.MaxLen"], apart := false, laid := [("unicode/utf8.acceptRanges", laid_unicode_utf8_acceptRanges), ("unicode/utf8.first", laid_unicode_utf8_first)] }
def CatalogBackSaid : Prop := catalogBackRow.holds Tryd.pinned (OpenSpec.ofChange catalogBackSpec)

/-- ITS FALSE NEIGHBOUR: 'it returns false'. Refute it at one input. -/
def catalogBackWrong : ChangeSpec := { name := "catalogBack", fn := fun _ => fun
  | [d1, d2] => { results := [.lit (.bool false)], args := [d1, d2] }
  | _ => none }
def CatalogBackWrongFalsely : Prop := catalogBackRow.holds Tryd.pinned (OpenSpec.ofChange catalogBackWrong)

/- THE SECOND FORM. 'bulk': how many values and letters a reading holds, each counted each time it is reached (what is shared counts as often as it is met; a slice's spare places count too). A statement '..UptoSaid' is the law's where the arguments, and the package variables that the reading takes, are together of bulk at most 1048576: NARROWER than '..Said'. Prove '..Said' where nothing that the law and all that it calls make is longer than what came in: it says more and counts as full. Else prove '..UptoSaid'. A law counts once. -/
mutual
def uptoBulk {H : Type} : DataW H → Nat
  | .lit (.string bytes) => bytes.length + 1
  | .lit _ => 1
  | .nil => 1
  | .ptr d => uptoBulk d + 1
  | .slice elems spare => uptoBulkAll elems + uptoBulkAll spare + 1
  | .agg parts => uptoBulkAll parts + 1
  | .iface _ d => uptoBulk d + 1
  | .map entries => uptoBulkEntries entries + 1
  | .held _ => 1
def uptoBulkAll {H : Type} : List (DataW H) → Nat
  | [] => 0
  | d :: r => uptoBulk d + uptoBulkAll r
def uptoBulkEntries {H : Type} : List (Lit × DataW H) → Nat
  | [] => 0
  | x :: r => uptoBulkEntry x + uptoBulkEntries r
def uptoBulkEntry {H : Type} : Lit × DataW H → Nat
  | (.string bytes, d) => bytes.length + uptoBulk d + 1
  | (_, d) => uptoBulk d + 1
 end
def uptoSmall : (H : Type) → List (DataW H) → Bool := fun _ ds => decide (uptoBulkAll ds ≤ 1048576)
def OpenSpec.upto (s : _root_.Go.ChangeSpec) : _root_.Go.OpenSpec := { _root_.Go.OpenSpec.ofChange s with cond := some uptoSmall }

/-- 'jobshoplaw27.CatalogNames', WHERE WHAT IT READS IS OF BULK AT MOST 1048576: true; the input reads as it did. -/
def catalogNamesUptoRow : OpenClaim := { program := "ytldkmclfhjcicaadoor", sum := "549729c022c9aaf46f43c2cfe3e593790c31e8eded483744d979a4bdcd0f0717", func := "jobshop/jobshoplaw27.CatalogNames", spec := "catalogNames", inPlace := ["internal/bytealg.IndexByteString", "internal/bytealg.IndexString", "slices.overlaps[jobshop/catalog.Group]", "slices.overlaps[jobshop/api.Entry]"], unfollowed := true, recurses := true, named := ["unicode/utf8.first", "unicode/utf8.acceptRanges", "internal/bytealg.MaxLen"], apart := false, laid := [("unicode/utf8.acceptRanges", laid_unicode_utf8_acceptRanges), ("unicode/utf8.first", laid_unicode_utf8_first)], narrowed := true }
def CatalogNamesUptoSaid : Prop := catalogNamesUptoRow.holds Tryd.pinned (OpenSpec.upto catalogNamesSpec)

/-- 'jobshoplaw27.CatalogGenerations', WHERE WHAT IT READS IS OF BULK AT MOST 1048576: true; the input reads as it did. -/
def catalogGenerationsUptoRow : OpenClaim := { program := "ytldkmclfhjcicaadoor", sum := "549729c022c9aaf46f43c2cfe3e593790c31e8eded483744d979a4bdcd0f0717", func := "jobshop/jobshoplaw27.CatalogGenerations", spec := "catalogGenerations", inPlace := ["internal/bytealg.IndexByteString", "internal/bytealg.IndexString", "slices.overlaps[jobshop/catalog.Group]", "slices.overlaps[jobshop/api.Entry]"], unfollowed := true, recurses := true, named := ["unicode/utf8.first", "unicode/utf8.acceptRanges", "internal/bytealg.MaxLen"], apart := false, laid := [("unicode/utf8.acceptRanges", laid_unicode_utf8_acceptRanges), ("unicode/utf8.first", laid_unicode_utf8_first)], narrowed := true }
def CatalogGenerationsUptoSaid : Prop := catalogGenerationsUptoRow.holds Tryd.pinned (OpenSpec.upto catalogGenerationsSpec)

/-- 'jobshoplaw27.CatalogKnown', WHERE WHAT IT READS IS OF BULK AT MOST 1048576: true; the input reads as it did. -/
def catalogKnownUptoRow : OpenClaim := { program := "ytldkmclfhjcicaadoor", sum := "549729c022c9aaf46f43c2cfe3e593790c31e8eded483744d979a4bdcd0f0717", func := "jobshop/jobshoplaw27.CatalogKnown", spec := "catalogKnown", inPlace := ["internal/bytealg.IndexByteString", "internal/bytealg.IndexString", "slices.overlaps[jobshop/api.Entry]", "slices.overlaps[jobshop/catalog.Group]"], unfollowed := true, recurses := true, named := ["unicode/utf8.first", "unicode/utf8.acceptRanges", "internal/bytealg.MaxLen"], apart := false, laid := [("unicode/utf8.acceptRanges", laid_unicode_utf8_acceptRanges), ("unicode/utf8.first", laid_unicode_utf8_first)], narrowed := true }
def CatalogKnownUptoSaid : Prop := catalogKnownUptoRow.holds Tryd.pinned (OpenSpec.upto catalogKnownSpec)

/-- 'jobshoplaw27.CatalogOwn', WHERE WHAT IT READS IS OF BULK AT MOST 1048576: true; the input reads as it did. -/
def catalogOwnUptoRow : OpenClaim := { program := "ytldkmclfhjcicaadoor", sum := "549729c022c9aaf46f43c2cfe3e593790c31e8eded483744d979a4bdcd0f0717", func := "jobshop/jobshoplaw27.CatalogOwn", spec := "catalogOwn", inPlace := ["internal/bytealg.IndexByteString", "internal/bytealg.IndexString", "slices.overlaps[jobshop/catalog.Group]", "slices.overlaps[jobshop/api.Entry]"], unfollowed := true, recurses := true, named := ["unicode/utf8.first", "unicode/utf8.acceptRanges", "internal/bytealg.MaxLen"], apart := false, laid := [("unicode/utf8.acceptRanges", laid_unicode_utf8_acceptRanges), ("unicode/utf8.first", laid_unicode_utf8_first)], narrowed := true }
def CatalogOwnUptoSaid : Prop := catalogOwnUptoRow.holds Tryd.pinned (OpenSpec.upto catalogOwnSpec)

/-- 'jobshoplaw27.CatalogCalls', WHERE WHAT IT READS IS OF BULK AT MOST 1048576: true; the input reads as it did. -/
def catalogCallsUptoRow : OpenClaim := { program := "ytldkmclfhjcicaadoor", sum := "549729c022c9aaf46f43c2cfe3e593790c31e8eded483744d979a4bdcd0f0717", func := "jobshop/jobshoplaw27.CatalogCalls", spec := "catalogCalls", inPlace := ["internal/bytealg.IndexByteString", "internal/bytealg.IndexString", "slices.overlaps[jobshop/api.Entry]", "slices.overlaps[jobshop/catalog.Group]"], unfollowed := true, recurses := true, named := ["unicode/utf8.first", "unicode/utf8.acceptRanges", "internal/bytealg.MaxLen"], apart := false, laid := [("unicode/utf8.acceptRanges", laid_unicode_utf8_acceptRanges), ("unicode/utf8.first", laid_unicode_utf8_first)], narrowed := true }
def CatalogCallsUptoSaid : Prop := catalogCallsUptoRow.holds Tryd.pinned (OpenSpec.upto catalogCallsSpec)

/-- 'jobshoplaw27.CatalogPlays', WHERE WHAT IT READS IS OF BULK AT MOST 1048576: true; the input reads as it did. -/
def catalogPlaysUptoRow : OpenClaim := { program := "ytldkmclfhjcicaadoor", sum := "549729c022c9aaf46f43c2cfe3e593790c31e8eded483744d979a4bdcd0f0717", func := "jobshop/jobshoplaw27.CatalogPlays", spec := "catalogPlays", inPlace := ["internal/bytealg.IndexByteString", "internal/bytealg.IndexString", "slices.overlaps[jobshop/api.Entry]", "slices.overlaps[jobshop/catalog.Group]"], unfollowed := true, recurses := true, named := ["unicode/utf8.first", "unicode/utf8.acceptRanges", "internal/bytealg.MaxLen"], apart := false, laid := [("unicode/utf8.acceptRanges", laid_unicode_utf8_acceptRanges), ("unicode/utf8.first", laid_unicode_utf8_first)], narrowed := true }
def CatalogPlaysUptoSaid : Prop := catalogPlaysUptoRow.holds Tryd.pinned (OpenSpec.upto catalogPlaysSpec)

/-- 'jobshoplaw27.CatalogKeeps', WHERE WHAT IT READS IS OF BULK AT MOST 1048576: true; the input reads as it did. -/
def catalogKeepsUptoRow : OpenClaim := { program := "ytldkmclfhjcicaadoor", sum := "549729c022c9aaf46f43c2cfe3e593790c31e8eded483744d979a4bdcd0f0717", func := "jobshop/jobshoplaw27.CatalogKeeps", spec := "catalogKeeps", inPlace := ["internal/bytealg.IndexByteString", "internal/bytealg.IndexString", "slices.overlaps[jobshop/catalog.Group]", "slices.overlaps[jobshop/api.Entry]"], unfollowed := true, recurses := true, named := ["unicode/utf8.first", "unicode/utf8.acceptRanges", "internal/bytealg.MaxLen"], apart := false, laid := [("unicode/utf8.acceptRanges", laid_unicode_utf8_acceptRanges), ("unicode/utf8.first", laid_unicode_utf8_first)], narrowed := true }
def CatalogKeepsUptoSaid : Prop := catalogKeepsUptoRow.holds Tryd.pinned (OpenSpec.upto catalogKeepsSpec)

/-- 'jobshoplaw27.CatalogBack', WHERE WHAT IT READS IS OF BULK AT MOST 1048576: true; the input reads as it did. -/
def catalogBackUptoRow : OpenClaim := { program := "ytldkmclfhjcicaadoor", sum := "549729c022c9aaf46f43c2cfe3e593790c31e8eded483744d979a4bdcd0f0717", func := "jobshop/jobshoplaw27.CatalogBack", spec := "catalogBack", inPlace := ["internal/bytealg.IndexByteString", "internal/bytealg.IndexString", "slices.overlaps[jobshop/catalog.Group]", "slices.overlaps[jobshop/api.Entry]"], unfollowed := true, recurses := true, named := ["unicode/utf8.first", "unicode/utf8.acceptRanges", "internal/bytealg.MaxLen"], apart := false, laid := [("unicode/utf8.acceptRanges", laid_unicode_utf8_acceptRanges), ("unicode/utf8.first", laid_unicode_utf8_first)], narrowed := true }
def CatalogBackUptoSaid : Prop := catalogBackUptoRow.holds Tryd.pinned (OpenSpec.upto catalogBackSpec)

end Rows
end Go.Proofs.YtldkmclfhjcicaaDoor
