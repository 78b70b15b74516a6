/- TopEclipse, plain: where the offsets of the shadow are small, path.Center finds the point. -/
import Derived.Test.YtcopmgnfakjdhaaGreatDoorVPaP
import Derived.Test.YtcopmgnfakjdhaaGreatDoorVEcB
import Derived.Test.YtcopmgnfakjdhaaGreatDoorVPhs
import Derived.Test.YtcopmgnfakjdhaaGreatDoorVReals
import Derived.Test.YtcopmgnfakjdhaaGreatDoorVDecs
namespace Go.Proofs.YtcopmgnfakjdhaaGreatDoor
set_option linter.unusedSimpArgs false
set_option linter.unusedVariables false
theorem te_abs (x : Rat) : ∃ a : Rat, 0 ≤ a ∧ -a ≤ x ∧ x ≤ a ∧ a * a = x * x := by
  by_cases h : 0 ≤ x
  · exact ⟨x, h, by grind, by grind, rfl⟩
  · exact ⟨-x, by grind, by grind, by grind, by grind⟩
end Go.Proofs.YtcopmgnfakjdhaaGreatDoor
