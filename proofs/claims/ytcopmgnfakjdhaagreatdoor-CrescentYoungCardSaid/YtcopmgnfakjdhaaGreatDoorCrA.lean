/- riseset: the sunset of day 730125, by the kernel (printed by tools/gen-cr.py). -/
import Derived.Test.YtcopmgnfakjdhaaGreatDoorRsPs
namespace Go.Proofs.YtcopmgnfakjdhaaGreatDoor
theorem CrA_0 : rsGo exS 63082800000000 6 0 false 0 0 = some (false, 63082804500000, 1) := by decide +kernel
theorem CrA_6 : rsGo exS 63082800000000 6 6 false 63082804500000 1 = some (false, 63082809900000, 1) := by decide +kernel
theorem CrA_12 : rsGo exS 63082800000000 6 12 false 63082809900000 1 = some (false, 63082815300000, 1) := by decide +kernel
theorem CrA_18 : rsGo exS 63082800000000 6 18 false 63082815300000 1 = some (false, 63082820700000, 1) := by decide +kernel
theorem CrA_24 : rsGo exS 63082800000000 6 24 false 63082820700000 1 = some (false, 63082826100000, -1) := by decide +kernel
theorem CrA_30 : rsGo exS 63082800000000 6 30 false 63082826100000 (-1) = some (false, 63082831500000, -1) := by decide +kernel
theorem CrA_36 : rsGo exS 63082800000000 6 36 false 63082831500000 (-1) = some (false, 63082836900000, -1) := by decide +kernel
theorem CrA_42 : rsGo exS 63082800000000 6 42 false 63082836900000 (-1) = some (false, 63082842300000, -1) := by decide +kernel
theorem CrA_48 : rsGo exS 63082800000000 6 48 false 63082842300000 (-1) = some (false, 63082847700000, -1) := by decide +kernel
theorem CrA_54 : rsGo exS 63082800000000 6 54 false 63082847700000 (-1) = some (false, 63082853100000, -1) := by decide +kernel
theorem CrA_60 : rsGo exS 63082800000000 6 60 false 63082853100000 (-1) = some (false, 63082858500000, -1) := by decide +kernel
theorem CrA_66 : rsGo exS 63082800000000 3 66 false 63082858500000 (-1) = some (false, 63082861200000, -1) := by decide +kernel
theorem CrA_at : exS 63082862100000 = 1 := by decide +kernel
theorem CrA_nr : nrwF exS 120000 64 63082861200000 63082862100000 = (63082861200000, 63082861312500) := by decide +kernel
theorem CrA_set : rsF 0 100000000 0 730125 (-1) = (63082861200000, 63082861312500, 0) := by
  rw [ex_eq, show (730125 : Int) * 86400000 = 63082800000000 by omega]
  rw [show (97 : Nat) = 91 + 6 from rfl, rsGo_part 6 91 0 _ _ _ _ CrA_0]
  rw [show (0 : Int) + ((6 : Nat) : Int) = 6 by omega]
  dsimp only
  rw [show (91 : Nat) = 85 + 6 from rfl, rsGo_part 6 85 6 _ _ _ _ CrA_6]
  rw [show (6 : Int) + ((6 : Nat) : Int) = 12 by omega]
  dsimp only
  rw [show (85 : Nat) = 79 + 6 from rfl, rsGo_part 6 79 12 _ _ _ _ CrA_12]
  rw [show (12 : Int) + ((6 : Nat) : Int) = 18 by omega]
  dsimp only
  rw [show (79 : Nat) = 73 + 6 from rfl, rsGo_part 6 73 18 _ _ _ _ CrA_18]
  rw [show (18 : Int) + ((6 : Nat) : Int) = 24 by omega]
  dsimp only
  rw [show (73 : Nat) = 67 + 6 from rfl, rsGo_part 6 67 24 _ _ _ _ CrA_24]
  rw [show (24 : Int) + ((6 : Nat) : Int) = 30 by omega]
  dsimp only
  rw [show (67 : Nat) = 61 + 6 from rfl, rsGo_part 6 61 30 _ _ _ _ CrA_30]
  rw [show (30 : Int) + ((6 : Nat) : Int) = 36 by omega]
  dsimp only
  rw [show (61 : Nat) = 55 + 6 from rfl, rsGo_part 6 55 36 _ _ _ _ CrA_36]
  rw [show (36 : Int) + ((6 : Nat) : Int) = 42 by omega]
  dsimp only
  rw [show (55 : Nat) = 49 + 6 from rfl, rsGo_part 6 49 42 _ _ _ _ CrA_42]
  rw [show (42 : Int) + ((6 : Nat) : Int) = 48 by omega]
  dsimp only
  rw [show (49 : Nat) = 43 + 6 from rfl, rsGo_part 6 43 48 _ _ _ _ CrA_48]
  rw [show (48 : Int) + ((6 : Nat) : Int) = 54 by omega]
  dsimp only
  rw [show (43 : Nat) = 37 + 6 from rfl, rsGo_part 6 37 54 _ _ _ _ CrA_54]
  rw [show (54 : Int) + ((6 : Nat) : Int) = 60 by omega]
  dsimp only
  rw [show (37 : Nat) = 31 + 6 from rfl, rsGo_part 6 31 60 _ _ _ _ CrA_60]
  rw [show (60 : Int) + ((6 : Nat) : Int) = 66 by omega]
  dsimp only
  rw [show (31 : Nat) = 28 + 3 from rfl, rsGo_part 3 28 66 _ _ _ _ CrA_66]
  rw [show (66 : Int) + ((3 : Nat) : Int) = 69 by omega]
  dsimp only
  rw [show (28 : Nat) = 27 + 1 from rfl]
  unfold rfL
  rw [show (63082800000000 : Int) + 69 * 900000 = 63082862100000 by omega, CrA_at, if_neg (by decide), if_pos (by decide), CrA_nr]
  decide
end Go.Proofs.YtcopmgnfakjdhaaGreatDoor
