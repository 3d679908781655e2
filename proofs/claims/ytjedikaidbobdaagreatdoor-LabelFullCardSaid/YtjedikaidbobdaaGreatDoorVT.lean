import Derived.Test.YtjedikaidbobdaaGreatDoorVN
/- The value machine: functions that give new slices, whose elements the caller may write. No program in sight. -/
namespace Go.Proofs.YtjedikaidbobdaaGreatDoor
open Go.RowKit
set_option linter.unusedVariables false
set_option linter.unusedSimpArgs false
end Go.Proofs.YtjedikaidbobdaaGreatDoor
