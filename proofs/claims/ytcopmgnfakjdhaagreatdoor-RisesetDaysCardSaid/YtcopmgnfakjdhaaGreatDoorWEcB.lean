/- The latitude of the moon around a phase, plain: how fast it moves, what it is made of, what it says of eclipses. -/
import Derived.Test.YtcopmgnfakjdhaaGreatDoorWEcP
namespace Go.Proofs.YtcopmgnfakjdhaaGreatDoor
set_option linter.unusedSimpArgs false
set_option linter.unusedVariables false
end Go.Proofs.YtcopmgnfakjdhaaGreatDoor
