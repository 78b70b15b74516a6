/- How wide the arc of a wider box is. Plain. -/
import Derived.Test.YtcopmgnfakjdhaaGreatDoorYDecs
namespace Go.Proofs.YtcopmgnfakjdhaaGreatDoor
set_option linter.unusedSimpArgs false
set_option linter.unusedVariables false
end Go.Proofs.YtcopmgnfakjdhaaGreatDoor
