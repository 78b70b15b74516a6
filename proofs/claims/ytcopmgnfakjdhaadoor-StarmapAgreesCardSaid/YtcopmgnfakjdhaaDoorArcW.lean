/- trig.direction, trig.Arc: the walk. Printed by wip/tools/gen-arc.py. -/
import Derived.Test.YtcopmgnfakjdhaaDoorArcP
import Derived.Test.YtcopmgnfakjdhaaDoorTrigW
import Derived.Test.YtcopmgnfakjdhaaDoorGrow
import Derived.Test.YtcopmgnfakjdhaaDoorIval
import Derived.Test.YtcopmgnfakjdhaaDoorBox
namespace Go.Proofs.YtcopmgnfakjdhaaDoor
open Go.RowKit
set_option linter.unusedSimpArgs false
set_option linter.unusedVariables false
/-- What Arc hands back, where the arc is not open. -/
structure ArcIn (a b c d : Int) : Prop where
  sa : Sml a
  sb : Sml b
  sc' : Sml c
  sd : Sml d
  ab : a ≤ b
  cd : c ≤ d
  no : ¬ (a ≤ 0 ∧ 0 ≤ b ∧ c ≤ 0 ∧ 0 ≤ d)
theorem ArcIn.ne {a b c d : Int} (h : ArcIn a b c d) : (a ≠ 0 ∨ c ≠ 0) ∧ (a ≠ 0 ∨ d ≠ 0) ∧ (b ≠ 0 ∨ c ≠ 0) ∧ (b ≠ 0 ∨ d ≠ 0) := by
  have := h.no; have := h.ab; have := h.cd
  omega
def arcOut (a b c d : Int) : Value := if 400000000 < arcHi a b c d - arcLo a b c d then .tuple #[.agg #[.int .i64 0, .int .i64 0], .int .i64 11] else .tuple #[.agg #[.int .i64 (arcLo a b c d % 1000000000), .int .i64 (arcLo a b c d % 1000000000 + arcHi a b c d - arcLo a b c d)], .int .i64 0]
end Go.Proofs.YtcopmgnfakjdhaaDoor
