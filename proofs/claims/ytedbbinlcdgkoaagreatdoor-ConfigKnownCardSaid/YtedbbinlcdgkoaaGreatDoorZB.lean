import Derived.Outline
import Derived.Test.YtedbbinlcdgkoaaGreatDoorYK
import Derived.Test.YtedbbinlcdgkoaaGreatDoorQX

/- Layer 19: the law's classes, serial and Make. -/
-- SIMP: beq_self_eq_true, Bool.and_self, ofVal_nilFn
namespace Go.Proofs.YtedbbinlcdgkoaaGreatDoor
open Go.RowKit Go.Lib
set_option linter.unusedVariables false
set_option linter.unusedSimpArgs false
end Go.Proofs.YtedbbinlcdgkoaaGreatDoor

/- Layer 19: the law's Make. -/
-- SIMP: beq_self_eq_true, Bool.and_self, ofVal_nilFn
namespace Go.Proofs.YtedbbinlcdgkoaaGreatDoor
open Go.RowKit Go.Lib
set_option linter.unusedVariables false
set_option linter.unusedSimpArgs false
def seedC (st : Nat) (ps : List UInt8) (us : List UniT) : List V := [.int .u8 st, .sl 1 (bytesR ps), .sl 5 (us.map uniC)]
end Go.Proofs.YtedbbinlcdgkoaaGreatDoor
