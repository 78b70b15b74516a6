/- PathDark, plain: where the shadow falls, the moon is new, and there is an eclipse. -/
import Derived.Test.YtcopmgnfakjdhaaGreatDoorWPaP
import Derived.Test.YtcopmgnfakjdhaaGreatDoorWEcB
import Derived.Test.YtcopmgnfakjdhaaGreatDoorWPhs
import Derived.Test.YtcopmgnfakjdhaaGreatDoorWReals
namespace Go.Proofs.YtcopmgnfakjdhaaGreatDoor
set_option linter.unusedSimpArgs false
set_option linter.unusedVariables false
end Go.Proofs.YtcopmgnfakjdhaaGreatDoor
