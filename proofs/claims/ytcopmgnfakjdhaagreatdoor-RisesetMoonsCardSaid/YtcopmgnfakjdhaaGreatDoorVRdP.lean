/- RisesetDays, plain: the sun's height as a function of its longitude and of the sidereal angle; how it moves. -/
import Derived.Test.YtcopmgnfakjdhaaGreatDoorVPsP
namespace Go.Proofs.YtcopmgnfakjdhaaGreatDoor
set_option linter.unusedSimpArgs false
set_option linter.unusedVariables false
def dE (th la : Rat) : Rat := CA th * qX la 0 + SA th * qY la 0
theorem sa_half' {u : Rat} (h0 : 0 ≤ u) (h1 : u ≤ 200000000) : ra u / 2 - 1 / 100000000000000000000000 ≤ SA u := by
  have n := SA_rad (x := u) (by grind) (by grind)
  have q := qq_b9
  have e : ka * u = ra u := by unfold ka ra; grind
  rw [e] at n
  have r := ra_bd h0 (by grind)
  have r2 : ra u ≤ 8 / 5 := by
    unfold ra at *
    have m := Rat.mul_le_mul_of_nonneg_right h1 (show 0 ≤ qq by grind)
    generalize qq = p at *
    grind
  have s := sn_half r.1 r2
  unfold Near at n
  grind
end Go.Proofs.YtcopmgnfakjdhaaGreatDoor
