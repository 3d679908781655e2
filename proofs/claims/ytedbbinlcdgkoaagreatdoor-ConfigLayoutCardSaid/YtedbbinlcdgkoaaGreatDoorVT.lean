import Derived.Test.YtedbbinlcdgkoaaGreatDoorVN
/- The value machine: functions that give new slices, whose elements the caller may write. No program in sight. -/
namespace Go.Proofs.YtedbbinlcdgkoaaGreatDoor
open Go.RowKit
set_option linter.unusedVariables false
set_option linter.unusedSimpArgs false
end Go.Proofs.YtedbbinlcdgkoaaGreatDoor
