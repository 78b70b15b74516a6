/- Products of greater numbers, divided by a billion. -/
import Derived.Test.YtcopmgnfakjdhaaGreatDoorWTrigOs
namespace Go.Proofs.YtcopmgnfakjdhaaGreatDoor
open Go.RowKit
set_option linter.unusedSimpArgs false
set_option linter.unusedVariables false
end Go.Proofs.YtcopmgnfakjdhaaGreatDoor
