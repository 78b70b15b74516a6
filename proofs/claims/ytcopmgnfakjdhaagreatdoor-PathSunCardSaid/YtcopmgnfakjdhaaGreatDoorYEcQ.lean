/- Five new moons without eclipses, plain. -/
import Derived.Test.YtcopmgnfakjdhaaGreatDoorYEcB
namespace Go.Proofs.YtcopmgnfakjdhaaGreatDoor
set_option linter.unusedSimpArgs false
set_option linter.unusedVariables false
theorem ew_0 : (ecF 24719 0).e = 0 ∧ (ecF 24719 0).k = 2 ∧ (ecF 24719 0).l ≤ 1695151 ∧ 1695151 ≤ (ecF 24719 0).h ∧ (ecF 24719 0).h - (ecF 24719 0).l ≤ 91000 := by decide +kernel
end Go.Proofs.YtcopmgnfakjdhaaGreatDoor
