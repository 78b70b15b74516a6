/- Merged by wip/tools/pack.py out of XAppend, XAppendFlat, XAppendList. -/
import Derived.WalkKit
import Derived.Maps.AppendAt
import Derived.Deep.AppendLies
import Derived.Test.YtcopmgnfakjdhaaGreatDoorYBasic
/- append onto a slice that the call owns, at a step of a region that draws its order; nothing to append is let. -/
namespace Go.Proofs.YtcopmgnfakjdhaaGreatDoor
section
variable {P : Program} {w : World}

end
end Go.Proofs.YtcopmgnfakjdhaaGreatDoor
/- append of a slice of integers (nil or not) onto a slice that the call owns. -/
namespace Go.Proofs.YtcopmgnfakjdhaaGreatDoor
open Go.RowKit
set_option linter.unusedSimpArgs false
set_option linter.unusedVariables false
section
variable {P : Program} {w : World}
end
end Go.Proofs.YtcopmgnfakjdhaaGreatDoor
/- append of a slice of integers onto a slice that the call owns, in a region that does not draw its order. -/
namespace Go.Proofs.YtcopmgnfakjdhaaGreatDoor
open Go.RowKit
set_option linter.unusedVariables false
section
variable {P : Program} {w : World}
end
end Go.Proofs.YtcopmgnfakjdhaaGreatDoor
