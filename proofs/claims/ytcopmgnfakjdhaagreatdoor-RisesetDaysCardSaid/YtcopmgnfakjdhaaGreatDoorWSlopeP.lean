/- What series.slope reckons, in words, and how near it is. Plain. -/
import Derived.Test.YtcopmgnfakjdhaaGreatDoorWMoons
namespace Go.Proofs.YtcopmgnfakjdhaaGreatDoor
open Ieee
set_option linter.unusedSimpArgs false
set_option linter.unusedVariables false
end Go.Proofs.YtcopmgnfakjdhaaGreatDoor
