/- TopEclipse, plain: where the offsets of the shadow are small, path.Center finds the point. -/
import Derived.Test.YtcopmgnfakjdhaaGreatDoorWPaD
import Derived.Test.YtcopmgnfakjdhaaGreatDoorWArcB
namespace Go.Proofs.YtcopmgnfakjdhaaGreatDoor
set_option linter.unusedSimpArgs false
set_option linter.unusedVariables false
end Go.Proofs.YtcopmgnfakjdhaaGreatDoor
