/- Eclipses, plain: how far the latitude may move in a phase's interval; what Find hands back. -/
import Derived.Test.YtcopmgnfakjdhaaGreatDoorWSes
import Derived.Test.YtcopmgnfakjdhaaGreatDoorWSlopeP
namespace Go.Proofs.YtcopmgnfakjdhaaGreatDoor
open Ieee
set_option linter.unusedSimpArgs false
set_option linter.unusedVariables false
end Go.Proofs.YtcopmgnfakjdhaaGreatDoor
