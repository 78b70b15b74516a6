/- How wide the arc of a wider box is. Plain. -/
import Derived.Test.YtcopmgnfakjdhaaGreatDoorWDecs
namespace Go.Proofs.YtcopmgnfakjdhaaGreatDoor
set_option linter.unusedSimpArgs false
set_option linter.unusedVariables false
end Go.Proofs.YtcopmgnfakjdhaaGreatDoor
