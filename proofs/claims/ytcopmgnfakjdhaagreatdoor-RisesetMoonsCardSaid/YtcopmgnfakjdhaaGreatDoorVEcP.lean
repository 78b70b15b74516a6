/- Eclipses, plain: how far the latitude may move in a phase's interval; what Find hands back. -/
import Derived.Test.YtcopmgnfakjdhaaGreatDoorVSes
import Derived.Test.YtcopmgnfakjdhaaGreatDoorVMoons
namespace Go.Proofs.YtcopmgnfakjdhaaGreatDoor
open Ieee
set_option linter.unusedSimpArgs false
set_option linter.unusedVariables false
def beT (t : Rat) : Rat := svT moonBZ 3 t
theorem be_at (t : Int) : SumAt (mbLo t) (mbHi t) (beT (t : Rat)) 20000 := by
  have h := sum_at (mean := 0) (rest := 20000) (t := t) (n := 3) (zs := moonBZ) (by omega) moonB_in.tm
  rw [show ((0 : Int) : Rat) + svT moonBZ 3 (t : Rat) = beT (t : Rat) by unfold beT; rw [show ((0 : Int) : Rat) = 0 from rfl]; grind] at h
  exact h
end Go.Proofs.YtcopmgnfakjdhaaGreatDoor
