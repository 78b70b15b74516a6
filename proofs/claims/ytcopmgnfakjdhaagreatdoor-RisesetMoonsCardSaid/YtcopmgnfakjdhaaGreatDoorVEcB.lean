/- The latitude of the moon around a phase, plain: how fast it moves, what it is made of, what it says of eclipses. -/
import Derived.Test.YtcopmgnfakjdhaaGreatDoorVEcP
namespace Go.Proofs.YtcopmgnfakjdhaaGreatDoor
set_option linter.unusedSimpArgs false
set_option linter.unusedVariables false
theorem sl_lat : slS moonBZ 3 = 580753136993535547795 := by unfold slS; decide +kernel
theorem be_move (t : Rat) {d : Rat} (hd : 0 ≤ d) : Near (beT (t + d)) (beT t) (42235 / 1000000 * d + 1 / 1000000) := by
  have m := sv_move (zs := moonBZ) moonB_in.tm t hd 3 (Nat.le_refl _)
  rw [sl_lat] at m
  have q := qq_b9
  unfold beT
  unfold Near ra at *
  rw [show ((3 : Nat) : Rat) = 3 from rfl] at m
  have q1 := Rat.mul_le_mul_of_nonneg_right q.2 (show 0 ≤ d / 86400000000000 by grind)
  have e1 : 8 * qq * (580753136993535547795 * (d / 86400000000000) / 1000000000) = 580753136993535547795 * 8 / 1000000000 * (qq * (d / 86400000000000)) := by grind
  rw [e1] at m
  generalize svT moonBZ 3 (t + d) = x1 at *
  generalize svT moonBZ 3 t = x2 at *
  generalize qq * (d / 86400000000000) = z at *
  clear e1 q
  constructor <;> grind
end Go.Proofs.YtcopmgnfakjdhaaGreatDoor
