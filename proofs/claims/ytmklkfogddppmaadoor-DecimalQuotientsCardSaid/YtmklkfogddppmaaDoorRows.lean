/-
  NARROWER THAN 'FOR EVERY INPUT', by the rows' own cells (each row's printed sentence says how): DecimalDivides: laid · DecimalMultiplies: laid · DecimalCompares: laid · DecimalAdds: laid · DecimalConverts: laid · DecimalBinary: laid · DecimalUndoes: laid · DecimalShifts: laid · DecimalQuotients: laid · DecimalKnown: laid.
  DERIVED. THE GIVEN ROWS OF THIS SEAT. 10 by the template 'for every input the law returns true; each argument reads behind the call as it read before'; 0 by the template 'total and deterministic' (their statements: YtmklkfogddppmaaDoorTotals.lean).
  GIVEN WITH THE SEED: the statements are not yours to turn. If you find one false, say at which input.
  Laid BY PROGRAM, IN A SANDBOX (cutbox-rows.mjs): the forced cells as the released guide's own fill.sh prints them over the translation 74521f1d39a5eaf8… (all of the seat's roots in one cut). By AI agents, Wed Nov 11 2026. No macro, syntax, notation, axiom, sorry.
-/
import Derived.Test.YtmklkfogddppmaaDoorChecked
import GoSem.Claim
import GoSem.ClaimJoined
import GoSem.ClaimMapViews
import Derived.JoinedTies
import Derived.KernelRfl
namespace Go.Proofs.YtmklkfogddppmaaDoor
/- THE CELL 'sum', in the pinned program and in every row, IS THE sha256 OF THE DUMP (.gsa) THAT YtmklkfogddppmaaDoorProg.lean LOADS. Nothing in Lean hashes anything: it is a label: what it is worth is what the hold of that sum in a sandbox is worth. -/
noncomputable def Tryd.pinned : Pinned := { name := "ytmklkfogddppmaadoor", sum := "74521f1d39a5eaf8e61e8b7229b37209944eaf4b8cac09da912bb069c668fe9d", checked := Tryd.checked }
namespace Rows
def none {H : Type} : Left H := { results := [], args := [] }

/- WHAT THE LISTED PACKAGE-LEVEL VARIABLES READ AS WHEN THE CALL BEGINS. Each datum BY PROGRAM (the guide's laid-datum.mjs) off the statement by which the dump's own 'gosem.cut.vars' lays the variable. In a bare row this is a premise. The card (YtmklkfogddppmaaDoorCards.lean) ties it to the program's text. -/
def laid_math_bits_deBruijn32tab {H : Type} : DataW H := .agg [.lit (.int .u8 0), .lit (.int .u8 1), .lit (.int .u8 28), .lit (.int .u8 2), .lit (.int .u8 29), .lit (.int .u8 14), .lit (.int .u8 24), .lit (.int .u8 3), .lit (.int .u8 30), .lit (.int .u8 22), .lit (.int .u8 20), .lit (.int .u8 15), .lit (.int .u8 25), .lit (.int .u8 17), .lit (.int .u8 4), .lit (.int .u8 8), .lit (.int .u8 31), .lit (.int .u8 27), .lit (.int .u8 13), .lit (.int .u8 23), .lit (.int .u8 21), .lit (.int .u8 19), .lit (.int .u8 16), .lit (.int .u8 7), .lit (.int .u8 26), .lit (.int .u8 12), .lit (.int .u8 18), .lit (.int .u8 6), .lit (.int .u8 11), .lit (.int .u8 5), .lit (.int .u8 10), .lit (.int .u8 9)]
def laid_math_bits_deBruijn64tab {H : Type} : DataW H := .agg [.lit (.int .u8 0), .lit (.int .u8 1), .lit (.int .u8 56), .lit (.int .u8 2), .lit (.int .u8 57), .lit (.int .u8 49), .lit (.int .u8 28), .lit (.int .u8 3), .lit (.int .u8 61), .lit (.int .u8 58), .lit (.int .u8 42), .lit (.int .u8 50), .lit (.int .u8 38), .lit (.int .u8 29), .lit (.int .u8 17), .lit (.int .u8 4), .lit (.int .u8 62), .lit (.int .u8 47), .lit (.int .u8 59), .lit (.int .u8 36), .lit (.int .u8 45), .lit (.int .u8 43), .lit (.int .u8 51), .lit (.int .u8 22), .lit (.int .u8 53), .lit (.int .u8 39), .lit (.int .u8 33), .lit (.int .u8 30), .lit (.int .u8 24), .lit (.int .u8 18), .lit (.int .u8 12), .lit (.int .u8 5), .lit (.int .u8 63), .lit (.int .u8 55), .lit (.int .u8 48), .lit (.int .u8 27), .lit (.int .u8 60), .lit (.int .u8 41), .lit (.int .u8 37), .lit (.int .u8 16), .lit (.int .u8 46), .lit (.int .u8 35), .lit (.int .u8 44), .lit (.int .u8 21), .lit (.int .u8 52), .lit (.int .u8 32), .lit (.int .u8 23), .lit (.int .u8 11), .lit (.int .u8 54), .lit (.int .u8 26), .lit (.int .u8 40), .lit (.int .u8 15), .lit (.int .u8 34), .lit (.int .u8 20), .lit (.int .u8 31), .lit (.int .u8 10), .lit (.int .u8 25), .lit (.int .u8 14), .lit (.int .u8 19), .lit (.int .u8 9), .lit (.int .u8 13), .lit (.int .u8 8), .lit (.int .u8 7), .lit (.int .u8 6)]
def laid_internal_strconv_uint64pow10 {H : Type} : DataW H := .agg [.lit (.int .u64 1), .lit (.int .u64 10), .lit (.int .u64 100), .lit (.int .u64 1000), .lit (.int .u64 10000), .lit (.int .u64 100000), .lit (.int .u64 1000000), .lit (.int .u64 10000000), .lit (.int .u64 100000000), .lit (.int .u64 1000000000), .lit (.int .u64 10000000000), .lit (.int .u64 100000000000), .lit (.int .u64 1000000000000), .lit (.int .u64 10000000000000), .lit (.int .u64 100000000000000), .lit (.int .u64 1000000000000000), .lit (.int .u64 10000000000000000), .lit (.int .u64 100000000000000000), .lit (.int .u64 1000000000000000000), .lit (.int .u64 10000000000000000000)]

/-- 'jobshoplaw04.DecimalDivides': WHATEVER THE INPUT: true; the input reads as it did. -/
def decimalDividesSpec : ChangeSpec := { name := "decimalDivides", fn := fun _ => fun
  | [d1, d2] => { results := [.lit (.bool true)], args := [d1, d2] }
  | _ => none }
def decimalDividesRow : OpenClaim := { program := "ytmklkfogddppmaadoor", sum := "74521f1d39a5eaf8e61e8b7229b37209944eaf4b8cac09da912bb069c668fe9d", func := "jobshop/jobshoplaw04.DecimalDivides", spec := "decimalDivides", inPlace := ["math/bits.Add64", "math/bits.Sub64"], unfollowed := true, recurses := true, named := ["math/bits.divideError", "math/bits.overflowError", "internal/strconv.uint64pow10", "math/bits.deBruijn32tab", "math/bits.deBruijn64tab"], apart := false, laid := [("math/bits.deBruijn32tab", laid_math_bits_deBruijn32tab), ("math/bits.deBruijn64tab", laid_math_bits_deBruijn64tab), ("internal/strconv.uint64pow10", laid_internal_strconv_uint64pow10)] }
def DecimalDividesSaid : Prop := decimalDividesRow.holds Tryd.pinned (OpenSpec.ofChange decimalDividesSpec)

/-- ITS FALSE NEIGHBOUR: 'it returns false'. Refute it at one input. -/
def decimalDividesWrong : ChangeSpec := { name := "decimalDivides", fn := fun _ => fun
  | [d1, d2] => { results := [.lit (.bool false)], args := [d1, d2] }
  | _ => none }
def DecimalDividesWrongFalsely : Prop := decimalDividesRow.holds Tryd.pinned (OpenSpec.ofChange decimalDividesWrong)

/-- 'jobshoplaw04.DecimalMultiplies': WHATEVER THE INPUT: true; the input reads as it did. -/
def decimalMultipliesSpec : ChangeSpec := { name := "decimalMultiplies", fn := fun _ => fun
  | [d1, d2] => { results := [.lit (.bool true)], args := [d1, d2] }
  | _ => none }
def decimalMultipliesRow : OpenClaim := { program := "ytmklkfogddppmaadoor", sum := "74521f1d39a5eaf8e61e8b7229b37209944eaf4b8cac09da912bb069c668fe9d", func := "jobshop/jobshoplaw04.DecimalMultiplies", spec := "decimalMultiplies", inPlace := ["math/bits.Add64", "math/bits.Sub64"], unfollowed := true, recurses := true, named := ["math/bits.divideError", "math/bits.overflowError", "internal/strconv.uint64pow10", "math/bits.deBruijn32tab", "math/bits.deBruijn64tab"], apart := false, laid := [("math/bits.deBruijn32tab", laid_math_bits_deBruijn32tab), ("math/bits.deBruijn64tab", laid_math_bits_deBruijn64tab), ("internal/strconv.uint64pow10", laid_internal_strconv_uint64pow10)] }
def DecimalMultipliesSaid : Prop := decimalMultipliesRow.holds Tryd.pinned (OpenSpec.ofChange decimalMultipliesSpec)

/-- ITS FALSE NEIGHBOUR: 'it returns false'. Refute it at one input. -/
def decimalMultipliesWrong : ChangeSpec := { name := "decimalMultiplies", fn := fun _ => fun
  | [d1, d2] => { results := [.lit (.bool false)], args := [d1, d2] }
  | _ => none }
def DecimalMultipliesWrongFalsely : Prop := decimalMultipliesRow.holds Tryd.pinned (OpenSpec.ofChange decimalMultipliesWrong)

/-- 'jobshoplaw04.DecimalCompares': WHATEVER THE INPUT: true; the input reads as it did. -/
def decimalComparesSpec : ChangeSpec := { name := "decimalCompares", fn := fun _ => fun
  | [d1, d2] => { results := [.lit (.bool true)], args := [d1, d2] }
  | _ => none }
def decimalComparesRow : OpenClaim := { program := "ytmklkfogddppmaadoor", sum := "74521f1d39a5eaf8e61e8b7229b37209944eaf4b8cac09da912bb069c668fe9d", func := "jobshop/jobshoplaw04.DecimalCompares", spec := "decimalCompares", inPlace := ["math/bits.Add64", "math/bits.Sub64"], unfollowed := true, recurses := true, named := ["math/bits.divideError", "math/bits.overflowError", "internal/strconv.uint64pow10", "math/bits.deBruijn32tab", "math/bits.deBruijn64tab"], apart := false, laid := [("math/bits.deBruijn32tab", laid_math_bits_deBruijn32tab), ("math/bits.deBruijn64tab", laid_math_bits_deBruijn64tab), ("internal/strconv.uint64pow10", laid_internal_strconv_uint64pow10)] }
def DecimalComparesSaid : Prop := decimalComparesRow.holds Tryd.pinned (OpenSpec.ofChange decimalComparesSpec)

/-- ITS FALSE NEIGHBOUR: 'it returns false'. Refute it at one input. -/
def decimalComparesWrong : ChangeSpec := { name := "decimalCompares", fn := fun _ => fun
  | [d1, d2] => { results := [.lit (.bool false)], args := [d1, d2] }
  | _ => none }
def DecimalComparesWrongFalsely : Prop := decimalComparesRow.holds Tryd.pinned (OpenSpec.ofChange decimalComparesWrong)

/-- 'jobshoplaw04.DecimalAdds': WHATEVER THE INPUT: true; the input reads as it did. -/
def decimalAddsSpec : ChangeSpec := { name := "decimalAdds", fn := fun _ => fun
  | [d1, d2, d3] => { results := [.lit (.bool true)], args := [d1, d2, d3] }
  | _ => none }
def decimalAddsRow : OpenClaim := { program := "ytmklkfogddppmaadoor", sum := "74521f1d39a5eaf8e61e8b7229b37209944eaf4b8cac09da912bb069c668fe9d", func := "jobshop/jobshoplaw04.DecimalAdds", spec := "decimalAdds", inPlace := ["math/bits.Add64", "math/bits.Sub64"], unfollowed := true, recurses := true, named := ["math/bits.divideError", "math/bits.overflowError", "internal/strconv.uint64pow10", "math/bits.deBruijn32tab", "math/bits.deBruijn64tab"], apart := false, laid := [("math/bits.deBruijn32tab", laid_math_bits_deBruijn32tab), ("math/bits.deBruijn64tab", laid_math_bits_deBruijn64tab), ("internal/strconv.uint64pow10", laid_internal_strconv_uint64pow10)] }
def DecimalAddsSaid : Prop := decimalAddsRow.holds Tryd.pinned (OpenSpec.ofChange decimalAddsSpec)

/-- ITS FALSE NEIGHBOUR: 'it returns false'. Refute it at one input. -/
def decimalAddsWrong : ChangeSpec := { name := "decimalAdds", fn := fun _ => fun
  | [d1, d2, d3] => { results := [.lit (.bool false)], args := [d1, d2, d3] }
  | _ => none }
def DecimalAddsWrongFalsely : Prop := decimalAddsRow.holds Tryd.pinned (OpenSpec.ofChange decimalAddsWrong)

/-- 'jobshoplaw04.DecimalConverts': WHATEVER THE INPUT: true; the input reads as it did. -/
def decimalConvertsSpec : ChangeSpec := { name := "decimalConverts", fn := fun _ => fun
  | [d1, d2] => { results := [.lit (.bool true)], args := [d1, d2] }
  | _ => none }
def decimalConvertsRow : OpenClaim := { program := "ytmklkfogddppmaadoor", sum := "74521f1d39a5eaf8e61e8b7229b37209944eaf4b8cac09da912bb069c668fe9d", func := "jobshop/jobshoplaw04.DecimalConverts", spec := "decimalConverts", inPlace := ["math/bits.Add64", "math/bits.Sub64"], unfollowed := true, recurses := true, named := ["math/bits.divideError", "math/bits.overflowError", "internal/strconv.uint64pow10", "math/bits.deBruijn32tab", "math/bits.deBruijn64tab"], apart := false, laid := [("math/bits.deBruijn32tab", laid_math_bits_deBruijn32tab), ("math/bits.deBruijn64tab", laid_math_bits_deBruijn64tab), ("internal/strconv.uint64pow10", laid_internal_strconv_uint64pow10)] }
def DecimalConvertsSaid : Prop := decimalConvertsRow.holds Tryd.pinned (OpenSpec.ofChange decimalConvertsSpec)

/-- ITS FALSE NEIGHBOUR: 'it returns false'. Refute it at one input. -/
def decimalConvertsWrong : ChangeSpec := { name := "decimalConverts", fn := fun _ => fun
  | [d1, d2] => { results := [.lit (.bool false)], args := [d1, d2] }
  | _ => none }
def DecimalConvertsWrongFalsely : Prop := decimalConvertsRow.holds Tryd.pinned (OpenSpec.ofChange decimalConvertsWrong)

/-- 'jobshoplaw04.DecimalBinary': WHATEVER THE INPUT: true; the input reads as it did. -/
def decimalBinarySpec : ChangeSpec := { name := "decimalBinary", fn := fun _ => fun
  | [d] => { results := [.lit (.bool true)], args := [d] }
  | _ => none }
def decimalBinaryRow : OpenClaim := { program := "ytmklkfogddppmaadoor", sum := "74521f1d39a5eaf8e61e8b7229b37209944eaf4b8cac09da912bb069c668fe9d", func := "jobshop/jobshoplaw04.DecimalBinary", spec := "decimalBinary", inPlace := ["math/bits.Add64", "math/bits.Sub64"], unfollowed := true, recurses := true, named := ["math/bits.divideError", "math/bits.overflowError", "internal/strconv.uint64pow10", "math/bits.deBruijn32tab", "math/bits.deBruijn64tab"], apart := false, laid := [("math/bits.deBruijn32tab", laid_math_bits_deBruijn32tab), ("math/bits.deBruijn64tab", laid_math_bits_deBruijn64tab), ("internal/strconv.uint64pow10", laid_internal_strconv_uint64pow10)] }
def DecimalBinarySaid : Prop := decimalBinaryRow.holds Tryd.pinned (OpenSpec.ofChange decimalBinarySpec)

/-- ITS FALSE NEIGHBOUR: 'it returns false'. Refute it at one input. -/
def decimalBinaryWrong : ChangeSpec := { name := "decimalBinary", fn := fun _ => fun
  | [d] => { results := [.lit (.bool false)], args := [d] }
  | _ => none }
def DecimalBinaryWrongFalsely : Prop := decimalBinaryRow.holds Tryd.pinned (OpenSpec.ofChange decimalBinaryWrong)

/-- 'jobshoplaw04.DecimalUndoes': WHATEVER THE INPUT: true; the input reads as it did. -/
def decimalUndoesSpec : ChangeSpec := { name := "decimalUndoes", fn := fun _ => fun
  | [d1, d2] => { results := [.lit (.bool true)], args := [d1, d2] }
  | _ => none }
def decimalUndoesRow : OpenClaim := { program := "ytmklkfogddppmaadoor", sum := "74521f1d39a5eaf8e61e8b7229b37209944eaf4b8cac09da912bb069c668fe9d", func := "jobshop/jobshoplaw04.DecimalUndoes", spec := "decimalUndoes", inPlace := ["math/bits.Add64", "math/bits.Sub64"], unfollowed := true, recurses := true, named := ["math/bits.divideError", "math/bits.overflowError", "internal/strconv.uint64pow10", "math/bits.deBruijn32tab", "math/bits.deBruijn64tab"], apart := false, laid := [("math/bits.deBruijn32tab", laid_math_bits_deBruijn32tab), ("math/bits.deBruijn64tab", laid_math_bits_deBruijn64tab), ("internal/strconv.uint64pow10", laid_internal_strconv_uint64pow10)] }
def DecimalUndoesSaid : Prop := decimalUndoesRow.holds Tryd.pinned (OpenSpec.ofChange decimalUndoesSpec)

/-- ITS FALSE NEIGHBOUR: 'it returns false'. Refute it at one input. -/
def decimalUndoesWrong : ChangeSpec := { name := "decimalUndoes", fn := fun _ => fun
  | [d1, d2] => { results := [.lit (.bool false)], args := [d1, d2] }
  | _ => none }
def DecimalUndoesWrongFalsely : Prop := decimalUndoesRow.holds Tryd.pinned (OpenSpec.ofChange decimalUndoesWrong)

/-- 'jobshoplaw04.DecimalShifts': WHATEVER THE INPUT: true; the input reads as it did. -/
def decimalShiftsSpec : ChangeSpec := { name := "decimalShifts", fn := fun _ => fun
  | [d1, d2, d3] => { results := [.lit (.bool true)], args := [d1, d2, d3] }
  | _ => none }
def decimalShiftsRow : OpenClaim := { program := "ytmklkfogddppmaadoor", sum := "74521f1d39a5eaf8e61e8b7229b37209944eaf4b8cac09da912bb069c668fe9d", func := "jobshop/jobshoplaw04.DecimalShifts", spec := "decimalShifts", inPlace := ["math/bits.Add64", "math/bits.Sub64"], unfollowed := true, recurses := true, named := ["math/bits.divideError", "math/bits.overflowError", "internal/strconv.uint64pow10", "math/bits.deBruijn32tab", "math/bits.deBruijn64tab"], apart := false, laid := [("math/bits.deBruijn32tab", laid_math_bits_deBruijn32tab), ("math/bits.deBruijn64tab", laid_math_bits_deBruijn64tab), ("internal/strconv.uint64pow10", laid_internal_strconv_uint64pow10)] }
def DecimalShiftsSaid : Prop := decimalShiftsRow.holds Tryd.pinned (OpenSpec.ofChange decimalShiftsSpec)

/-- ITS FALSE NEIGHBOUR: 'it returns false'. Refute it at one input. -/
def decimalShiftsWrong : ChangeSpec := { name := "decimalShifts", fn := fun _ => fun
  | [d1, d2, d3] => { results := [.lit (.bool false)], args := [d1, d2, d3] }
  | _ => none }
def DecimalShiftsWrongFalsely : Prop := decimalShiftsRow.holds Tryd.pinned (OpenSpec.ofChange decimalShiftsWrong)

/-- 'jobshoplaw04.DecimalQuotients': WHATEVER THE INPUT: true; the input reads as it did. -/
def decimalQuotientsSpec : ChangeSpec := { name := "decimalQuotients", fn := fun _ => fun
  | [d1, d2] => { results := [.lit (.bool true)], args := [d1, d2] }
  | _ => none }
def decimalQuotientsRow : OpenClaim := { program := "ytmklkfogddppmaadoor", sum := "74521f1d39a5eaf8e61e8b7229b37209944eaf4b8cac09da912bb069c668fe9d", func := "jobshop/jobshoplaw04.DecimalQuotients", spec := "decimalQuotients", inPlace := ["math/bits.Add64", "math/bits.Sub64"], unfollowed := true, recurses := true, named := ["math/bits.divideError", "math/bits.overflowError", "internal/strconv.uint64pow10", "math/bits.deBruijn32tab", "math/bits.deBruijn64tab"], apart := false, laid := [("math/bits.deBruijn32tab", laid_math_bits_deBruijn32tab), ("math/bits.deBruijn64tab", laid_math_bits_deBruijn64tab), ("internal/strconv.uint64pow10", laid_internal_strconv_uint64pow10)] }
def DecimalQuotientsSaid : Prop := decimalQuotientsRow.holds Tryd.pinned (OpenSpec.ofChange decimalQuotientsSpec)

/-- ITS FALSE NEIGHBOUR: 'it returns false'. Refute it at one input. -/
def decimalQuotientsWrong : ChangeSpec := { name := "decimalQuotients", fn := fun _ => fun
  | [d1, d2] => { results := [.lit (.bool false)], args := [d1, d2] }
  | _ => none }
def DecimalQuotientsWrongFalsely : Prop := decimalQuotientsRow.holds Tryd.pinned (OpenSpec.ofChange decimalQuotientsWrong)

/-- 'jobshoplaw04.DecimalKnown': WHATEVER THE INPUT: true; the input reads as it did. -/
def decimalKnownSpec : ChangeSpec := { name := "decimalKnown", fn := fun _ => fun
  | [] => { results := [.lit (.bool true)], args := [] }
  | _ => none }
def decimalKnownRow : OpenClaim := { program := "ytmklkfogddppmaadoor", sum := "74521f1d39a5eaf8e61e8b7229b37209944eaf4b8cac09da912bb069c668fe9d", func := "jobshop/jobshoplaw04.DecimalKnown", spec := "decimalKnown", inPlace := ["math/bits.Add64", "math/bits.Sub64"], unfollowed := true, recurses := true, named := ["math/bits.divideError", "math/bits.overflowError", "internal/strconv.uint64pow10", "math/bits.deBruijn32tab", "math/bits.deBruijn64tab"], apart := false, laid := [("math/bits.deBruijn32tab", laid_math_bits_deBruijn32tab), ("math/bits.deBruijn64tab", laid_math_bits_deBruijn64tab), ("internal/strconv.uint64pow10", laid_internal_strconv_uint64pow10)] }
def DecimalKnownSaid : Prop := decimalKnownRow.holds Tryd.pinned (OpenSpec.ofChange decimalKnownSpec)

/-- ITS FALSE NEIGHBOUR: 'it returns false'. Refute it at one input. -/
def decimalKnownWrong : ChangeSpec := { name := "decimalKnown", fn := fun _ => fun
  | [] => { results := [.lit (.bool false)], args := [] }
  | _ => none }
def DecimalKnownWrongFalsely : Prop := decimalKnownRow.holds Tryd.pinned (OpenSpec.ofChange decimalKnownWrong)

/- THE SECOND FORM. 'bulk': how many values and letters a reading holds, each counted each time it is reached (what is shared counts as often as it is met; a slice's spare places count too). A statement '..UptoSaid' is the law's where the arguments, and the package variables that the reading takes, are together of bulk at most 1048576: NARROWER than '..Said'. Prove '..Said' where nothing that the law and all that it calls make is longer than what came in: it says more and counts as full. Else prove '..UptoSaid'. A law counts once. -/
mutual
def uptoBulk {H : Type} : DataW H → Nat
  | .lit (.string bytes) => bytes.length + 1
  | .lit _ => 1
  | .nil => 1
  | .ptr d => uptoBulk d + 1
  | .slice elems spare => uptoBulkAll elems + uptoBulkAll spare + 1
  | .agg parts => uptoBulkAll parts + 1
  | .iface _ d => uptoBulk d + 1
  | .map entries => uptoBulkEntries entries + 1
  | .held _ => 1
def uptoBulkAll {H : Type} : List (DataW H) → Nat
  | [] => 0
  | d :: r => uptoBulk d + uptoBulkAll r
def uptoBulkEntries {H : Type} : List (Lit × DataW H) → Nat
  | [] => 0
  | x :: r => uptoBulkEntry x + uptoBulkEntries r
def uptoBulkEntry {H : Type} : Lit × DataW H → Nat
  | (.string bytes, d) => bytes.length + uptoBulk d + 1
  | (_, d) => uptoBulk d + 1
 end
def uptoSmall : (H : Type) → List (DataW H) → Bool := fun _ ds => decide (uptoBulkAll ds ≤ 1048576)
def OpenSpec.upto (s : _root_.Go.ChangeSpec) : _root_.Go.OpenSpec := { _root_.Go.OpenSpec.ofChange s with cond := some uptoSmall }

/-- 'jobshoplaw04.DecimalDivides', WHERE WHAT IT READS IS OF BULK AT MOST 1048576: true; the input reads as it did. -/
def decimalDividesUptoRow : OpenClaim := { program := "ytmklkfogddppmaadoor", sum := "74521f1d39a5eaf8e61e8b7229b37209944eaf4b8cac09da912bb069c668fe9d", func := "jobshop/jobshoplaw04.DecimalDivides", spec := "decimalDivides", inPlace := ["math/bits.Add64", "math/bits.Sub64"], unfollowed := true, recurses := true, named := ["math/bits.divideError", "math/bits.overflowError", "internal/strconv.uint64pow10", "math/bits.deBruijn32tab", "math/bits.deBruijn64tab"], apart := false, laid := [("math/bits.deBruijn32tab", laid_math_bits_deBruijn32tab), ("math/bits.deBruijn64tab", laid_math_bits_deBruijn64tab), ("internal/strconv.uint64pow10", laid_internal_strconv_uint64pow10)], narrowed := true }
def DecimalDividesUptoSaid : Prop := decimalDividesUptoRow.holds Tryd.pinned (OpenSpec.upto decimalDividesSpec)

/-- 'jobshoplaw04.DecimalMultiplies', WHERE WHAT IT READS IS OF BULK AT MOST 1048576: true; the input reads as it did. -/
def decimalMultipliesUptoRow : OpenClaim := { program := "ytmklkfogddppmaadoor", sum := "74521f1d39a5eaf8e61e8b7229b37209944eaf4b8cac09da912bb069c668fe9d", func := "jobshop/jobshoplaw04.DecimalMultiplies", spec := "decimalMultiplies", inPlace := ["math/bits.Add64", "math/bits.Sub64"], unfollowed := true, recurses := true, named := ["math/bits.divideError", "math/bits.overflowError", "internal/strconv.uint64pow10", "math/bits.deBruijn32tab", "math/bits.deBruijn64tab"], apart := false, laid := [("math/bits.deBruijn32tab", laid_math_bits_deBruijn32tab), ("math/bits.deBruijn64tab", laid_math_bits_deBruijn64tab), ("internal/strconv.uint64pow10", laid_internal_strconv_uint64pow10)], narrowed := true }
def DecimalMultipliesUptoSaid : Prop := decimalMultipliesUptoRow.holds Tryd.pinned (OpenSpec.upto decimalMultipliesSpec)

/-- 'jobshoplaw04.DecimalCompares', WHERE WHAT IT READS IS OF BULK AT MOST 1048576: true; the input reads as it did. -/
def decimalComparesUptoRow : OpenClaim := { program := "ytmklkfogddppmaadoor", sum := "74521f1d39a5eaf8e61e8b7229b37209944eaf4b8cac09da912bb069c668fe9d", func := "jobshop/jobshoplaw04.DecimalCompares", spec := "decimalCompares", inPlace := ["math/bits.Add64", "math/bits.Sub64"], unfollowed := true, recurses := true, named := ["math/bits.divideError", "math/bits.overflowError", "internal/strconv.uint64pow10", "math/bits.deBruijn32tab", "math/bits.deBruijn64tab"], apart := false, laid := [("math/bits.deBruijn32tab", laid_math_bits_deBruijn32tab), ("math/bits.deBruijn64tab", laid_math_bits_deBruijn64tab), ("internal/strconv.uint64pow10", laid_internal_strconv_uint64pow10)], narrowed := true }
def DecimalComparesUptoSaid : Prop := decimalComparesUptoRow.holds Tryd.pinned (OpenSpec.upto decimalComparesSpec)

/-- 'jobshoplaw04.DecimalAdds', WHERE WHAT IT READS IS OF BULK AT MOST 1048576: true; the input reads as it did. -/
def decimalAddsUptoRow : OpenClaim := { program := "ytmklkfogddppmaadoor", sum := "74521f1d39a5eaf8e61e8b7229b37209944eaf4b8cac09da912bb069c668fe9d", func := "jobshop/jobshoplaw04.DecimalAdds", spec := "decimalAdds", inPlace := ["math/bits.Add64", "math/bits.Sub64"], unfollowed := true, recurses := true, named := ["math/bits.divideError", "math/bits.overflowError", "internal/strconv.uint64pow10", "math/bits.deBruijn32tab", "math/bits.deBruijn64tab"], apart := false, laid := [("math/bits.deBruijn32tab", laid_math_bits_deBruijn32tab), ("math/bits.deBruijn64tab", laid_math_bits_deBruijn64tab), ("internal/strconv.uint64pow10", laid_internal_strconv_uint64pow10)], narrowed := true }
def DecimalAddsUptoSaid : Prop := decimalAddsUptoRow.holds Tryd.pinned (OpenSpec.upto decimalAddsSpec)

/-- 'jobshoplaw04.DecimalConverts', WHERE WHAT IT READS IS OF BULK AT MOST 1048576: true; the input reads as it did. -/
def decimalConvertsUptoRow : OpenClaim := { program := "ytmklkfogddppmaadoor", sum := "74521f1d39a5eaf8e61e8b7229b37209944eaf4b8cac09da912bb069c668fe9d", func := "jobshop/jobshoplaw04.DecimalConverts", spec := "decimalConverts", inPlace := ["math/bits.Add64", "math/bits.Sub64"], unfollowed := true, recurses := true, named := ["math/bits.divideError", "math/bits.overflowError", "internal/strconv.uint64pow10", "math/bits.deBruijn32tab", "math/bits.deBruijn64tab"], apart := false, laid := [("math/bits.deBruijn32tab", laid_math_bits_deBruijn32tab), ("math/bits.deBruijn64tab", laid_math_bits_deBruijn64tab), ("internal/strconv.uint64pow10", laid_internal_strconv_uint64pow10)], narrowed := true }
def DecimalConvertsUptoSaid : Prop := decimalConvertsUptoRow.holds Tryd.pinned (OpenSpec.upto decimalConvertsSpec)

/-- 'jobshoplaw04.DecimalBinary', WHERE WHAT IT READS IS OF BULK AT MOST 1048576: true; the input reads as it did. -/
def decimalBinaryUptoRow : OpenClaim := { program := "ytmklkfogddppmaadoor", sum := "74521f1d39a5eaf8e61e8b7229b37209944eaf4b8cac09da912bb069c668fe9d", func := "jobshop/jobshoplaw04.DecimalBinary", spec := "decimalBinary", inPlace := ["math/bits.Add64", "math/bits.Sub64"], unfollowed := true, recurses := true, named := ["math/bits.divideError", "math/bits.overflowError", "internal/strconv.uint64pow10", "math/bits.deBruijn32tab", "math/bits.deBruijn64tab"], apart := false, laid := [("math/bits.deBruijn32tab", laid_math_bits_deBruijn32tab), ("math/bits.deBruijn64tab", laid_math_bits_deBruijn64tab), ("internal/strconv.uint64pow10", laid_internal_strconv_uint64pow10)], narrowed := true }
def DecimalBinaryUptoSaid : Prop := decimalBinaryUptoRow.holds Tryd.pinned (OpenSpec.upto decimalBinarySpec)

/-- 'jobshoplaw04.DecimalUndoes', WHERE WHAT IT READS IS OF BULK AT MOST 1048576: true; the input reads as it did. -/
def decimalUndoesUptoRow : OpenClaim := { program := "ytmklkfogddppmaadoor", sum := "74521f1d39a5eaf8e61e8b7229b37209944eaf4b8cac09da912bb069c668fe9d", func := "jobshop/jobshoplaw04.DecimalUndoes", spec := "decimalUndoes", inPlace := ["math/bits.Add64", "math/bits.Sub64"], unfollowed := true, recurses := true, named := ["math/bits.divideError", "math/bits.overflowError", "internal/strconv.uint64pow10", "math/bits.deBruijn32tab", "math/bits.deBruijn64tab"], apart := false, laid := [("math/bits.deBruijn32tab", laid_math_bits_deBruijn32tab), ("math/bits.deBruijn64tab", laid_math_bits_deBruijn64tab), ("internal/strconv.uint64pow10", laid_internal_strconv_uint64pow10)], narrowed := true }
def DecimalUndoesUptoSaid : Prop := decimalUndoesUptoRow.holds Tryd.pinned (OpenSpec.upto decimalUndoesSpec)

/-- 'jobshoplaw04.DecimalShifts', WHERE WHAT IT READS IS OF BULK AT MOST 1048576: true; the input reads as it did. -/
def decimalShiftsUptoRow : OpenClaim := { program := "ytmklkfogddppmaadoor", sum := "74521f1d39a5eaf8e61e8b7229b37209944eaf4b8cac09da912bb069c668fe9d", func := "jobshop/jobshoplaw04.DecimalShifts", spec := "decimalShifts", inPlace := ["math/bits.Add64", "math/bits.Sub64"], unfollowed := true, recurses := true, named := ["math/bits.divideError", "math/bits.overflowError", "internal/strconv.uint64pow10", "math/bits.deBruijn32tab", "math/bits.deBruijn64tab"], apart := false, laid := [("math/bits.deBruijn32tab", laid_math_bits_deBruijn32tab), ("math/bits.deBruijn64tab", laid_math_bits_deBruijn64tab), ("internal/strconv.uint64pow10", laid_internal_strconv_uint64pow10)], narrowed := true }
def DecimalShiftsUptoSaid : Prop := decimalShiftsUptoRow.holds Tryd.pinned (OpenSpec.upto decimalShiftsSpec)

/-- 'jobshoplaw04.DecimalQuotients', WHERE WHAT IT READS IS OF BULK AT MOST 1048576: true; the input reads as it did. -/
def decimalQuotientsUptoRow : OpenClaim := { program := "ytmklkfogddppmaadoor", sum := "74521f1d39a5eaf8e61e8b7229b37209944eaf4b8cac09da912bb069c668fe9d", func := "jobshop/jobshoplaw04.DecimalQuotients", spec := "decimalQuotients", inPlace := ["math/bits.Add64", "math/bits.Sub64"], unfollowed := true, recurses := true, named := ["math/bits.divideError", "math/bits.overflowError", "internal/strconv.uint64pow10", "math/bits.deBruijn32tab", "math/bits.deBruijn64tab"], apart := false, laid := [("math/bits.deBruijn32tab", laid_math_bits_deBruijn32tab), ("math/bits.deBruijn64tab", laid_math_bits_deBruijn64tab), ("internal/strconv.uint64pow10", laid_internal_strconv_uint64pow10)], narrowed := true }
def DecimalQuotientsUptoSaid : Prop := decimalQuotientsUptoRow.holds Tryd.pinned (OpenSpec.upto decimalQuotientsSpec)

/-- 'jobshoplaw04.DecimalKnown', WHERE WHAT IT READS IS OF BULK AT MOST 1048576: true; the input reads as it did. -/
def decimalKnownUptoRow : OpenClaim := { program := "ytmklkfogddppmaadoor", sum := "74521f1d39a5eaf8e61e8b7229b37209944eaf4b8cac09da912bb069c668fe9d", func := "jobshop/jobshoplaw04.DecimalKnown", spec := "decimalKnown", inPlace := ["math/bits.Add64", "math/bits.Sub64"], unfollowed := true, recurses := true, named := ["math/bits.divideError", "math/bits.overflowError", "internal/strconv.uint64pow10", "math/bits.deBruijn32tab", "math/bits.deBruijn64tab"], apart := false, laid := [("math/bits.deBruijn32tab", laid_math_bits_deBruijn32tab), ("math/bits.deBruijn64tab", laid_math_bits_deBruijn64tab), ("internal/strconv.uint64pow10", laid_internal_strconv_uint64pow10)], narrowed := true }
def DecimalKnownUptoSaid : Prop := decimalKnownUptoRow.holds Tryd.pinned (OpenSpec.upto decimalKnownSpec)

end Rows
end Go.Proofs.YtmklkfogddppmaaDoor
