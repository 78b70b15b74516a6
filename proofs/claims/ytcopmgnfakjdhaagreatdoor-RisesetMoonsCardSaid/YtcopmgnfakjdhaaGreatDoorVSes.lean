/- Merged by wip/tools/pack.py out of XSeP, XSeW, XSeD, XSeQ, XSeN. -/
import Derived.Test.YtcopmgnfakjdhaaGreatDoorVPhs
import Derived.Test.YtcopmgnfakjdhaaGreatDoorVNars
import Derived.Test.YtcopmgnfakjdhaaGreatDoorVTrigA
import Derived.Test.YtcopmgnfakjdhaaGreatDoorVBasic
/- Seasons, plain: the wait, the passage, what Next hands back. -/
namespace Go.Proofs.YtcopmgnfakjdhaaGreatDoor
open Ieee
set_option linter.unusedSimpArgs false
set_option linter.unusedVariables false
def waW (b : Int) : Nat := fmul (fdiv (floatOfInt .f64 b) 4703134026798884454) 4725570615333879808
def waI (b : Int) : Int := ((double.read (waW b)).toInt .zero).getD 0
theorem su_move (t : Rat) {d : Rat} (hd : 0 ≤ d) : 2644000 * (d / 86400000) - 1 / 1000000000 ≤ sunT (t + d) - sunT t ∧ sunT (t + d) - sunT t ≤ 2832000 * (d / 86400000) + 1 / 1000000000 := by
  have s := anT_move (mean := 775342092) (rate := 2737909333333) sun_in.tm t hd
  rw [sl_sun] at s
  have q := qq_b9
  unfold sunT
  unfold Near ra at *
  rw [show ((2737909333333 : Int) : Rat) = 2737909333333 from rfl, show ((2 : Nat) : Rat) = 2 from rfl] at s
  have q1 := Rat.mul_le_mul_of_nonneg_right q.2 (show 0 ≤ d / 86400000000000 by grind)
  have e2 : 8 * qq * (14864525005099857516 * (d / 86400000000000) / 1000000000) = 14864525005099857516 * 8 / 1000000000 * (qq * (d / 86400000000000)) := by grind
  rw [e2] at s
  generalize anT 775342092 2737909333333 sunZ 2 (t + d) = x3 at *
  generalize anT 775342092 2737909333333 sunZ 2 t = x4 at *
  generalize qq * (d / 86400000000000) = z at *
  clear e2 q
  constructor <;> grind
def seSd (L : Int) (x : Int) : Int := sideF (slLo x) (slHi x) L
def seB (L x : Int) : Int := (L - slLo x) % 1000000000
def seLo (L x : Int) : Int := max x (x + waI (seB L x) - 691200000)
def seHi (L x : Int) : Int := x + waI (seB L x) + 691200000
def seF (L x : Int) : Int × Int := nrwF (seSd L) 600000 64 (seLo L x) (seHi L x)
structure SeIn (L x N c : Int) : Prop where
  x0 : sunT (x : Rat) + 1998 ≤ (L : Rat) + 1000000000 * (N : Rat)
  x1 : (L : Rat) + 1000000000 * (N : Rat) < sunT (x : Rat) + 1000000000
  b : sunT ((c - 1 : Int) : Rat) < (L : Rat) + 1000000000 * (N : Rat)
  a : (L : Rat) + 1000000000 * (N : Rat) ≤ sunT (c : Rat)
  cr : Cross (seSd L) (seLo L x) (seHi L x) c 66000
  l : seLo L x ≤ (seF L x).1
  i1 : (seF L x).1 < c
  i2 : c ≤ (seF L x).2
  u : (seF L x).2 ≤ seHi L x
  w : (seF L x).2 - (seF L x).1 ≤ 600000
end Go.Proofs.YtcopmgnfakjdhaaGreatDoor
/- season.Next. -/
namespace Go.Proofs.YtcopmgnfakjdhaaGreatDoor
open Go.RowKit
set_option linter.unusedSimpArgs false
set_option linter.unusedVariables false
end Go.Proofs.YtcopmgnfakjdhaaGreatDoor
/- How far the true longitude of the sun moves over some times (printed by wip/tools/gen-su.py). Plain. -/
namespace Go.Proofs.YtcopmgnfakjdhaaGreatDoor
set_option linter.unusedSimpArgs false
set_option linter.unusedVariables false
end Go.Proofs.YtcopmgnfakjdhaaGreatDoor
/- How far apart seasons are, plain. -/
namespace Go.Proofs.YtcopmgnfakjdhaaGreatDoor
set_option linter.unusedSimpArgs false
set_option linter.unusedVariables false
structure SeX (L N c : Int) : Prop where
  b : sunT ((c - 1 : Int) : Rat) < (L : Rat) + 1000000000 * (N : Rat)
  a : (L : Rat) + 1000000000 * (N : Rat) ≤ sunT (c : Rat)
theorem SeIn.x {L x N c : Int} (h : SeIn L x N c) : SeX L N c := ⟨h.b, h.a⟩
theorem SeX.at' {L N c : Int} (h : SeX L N c) : sunT (c : Rat) ≤ (L : Rat) + 1000000000 * (N : Rat) + 1 := by
  have b := h.b
  have m := (su_move ((c - 1 : Int) : Rat) (d := 1) (by grind)).2
  rw [show ((c - 1 : Int) : Rat) + 1 = (c : Rat) by rw [Rat.intCast_sub]; show (c : Rat) - 1 + 1 = _; grind] at m
  generalize sunT ((c - 1 : Int) : Rat) = u at *
  generalize sunT (c : Rat) = v at *
  grind
end Go.Proofs.YtcopmgnfakjdhaaGreatDoor
/- line.NewYear, season.Find, seasonWorks. -/
namespace Go.Proofs.YtcopmgnfakjdhaaGreatDoor
open Go.RowKit
set_option linter.unusedSimpArgs false
set_option linter.unusedVariables false
end Go.Proofs.YtcopmgnfakjdhaaGreatDoor
