/- riseset: the sunset of day 730129, by the kernel (printed by tools/gen-cr.py). -/
import Derived.Test.YtcopmgnfakjdhaaGreatDoorRsPs
namespace Go.Proofs.YtcopmgnfakjdhaaGreatDoor
theorem CrB_0 : rsGo exS 63083145600000 6 0 false 0 0 = some (false, 63083150100000, 1) := by decide +kernel
theorem CrB_6 : rsGo exS 63083145600000 6 6 false 63083150100000 1 = some (false, 63083155500000, 1) := by decide +kernel
theorem CrB_12 : rsGo exS 63083145600000 6 12 false 63083155500000 1 = some (false, 63083160900000, 1) := by decide +kernel
theorem CrB_18 : rsGo exS 63083145600000 6 18 false 63083160900000 1 = some (false, 63083166300000, 1) := by decide +kernel
theorem CrB_24 : rsGo exS 63083145600000 6 24 false 63083166300000 1 = some (false, 63083171700000, -1) := by decide +kernel
theorem CrB_30 : rsGo exS 63083145600000 6 30 false 63083171700000 (-1) = some (false, 63083177100000, -1) := by decide +kernel
theorem CrB_36 : rsGo exS 63083145600000 6 36 false 63083177100000 (-1) = some (false, 63083182500000, -1) := by decide +kernel
theorem CrB_42 : rsGo exS 63083145600000 6 42 false 63083182500000 (-1) = some (false, 63083187900000, -1) := by decide +kernel
theorem CrB_48 : rsGo exS 63083145600000 6 48 false 63083187900000 (-1) = some (false, 63083193300000, -1) := by decide +kernel
theorem CrB_54 : rsGo exS 63083145600000 6 54 false 63083193300000 (-1) = some (false, 63083198700000, -1) := by decide +kernel
theorem CrB_60 : rsGo exS 63083145600000 6 60 false 63083198700000 (-1) = some (false, 63083204100000, -1) := by decide +kernel
theorem CrB_66 : rsGo exS 63083145600000 3 66 false 63083204100000 (-1) = some (false, 63083206800000, -1) := by decide +kernel
theorem CrB_at : exS 63083207700000 = 1 := by decide +kernel
theorem CrB_nr : nrwF exS 120000 64 63083206800000 63083207700000 = (63083207025000, 63083207137500) := by decide +kernel
theorem CrB_set : rsF 0 100000000 0 730129 (-1) = (63083207025000, 63083207137500, 0) := by
  rw [ex_eq, show (730129 : Int) * 86400000 = 63083145600000 by omega]
  rw [show (97 : Nat) = 91 + 6 from rfl, rsGo_part 6 91 0 _ _ _ _ CrB_0]
  rw [show (0 : Int) + ((6 : Nat) : Int) = 6 by omega]
  dsimp only
  rw [show (91 : Nat) = 85 + 6 from rfl, rsGo_part 6 85 6 _ _ _ _ CrB_6]
  rw [show (6 : Int) + ((6 : Nat) : Int) = 12 by omega]
  dsimp only
  rw [show (85 : Nat) = 79 + 6 from rfl, rsGo_part 6 79 12 _ _ _ _ CrB_12]
  rw [show (12 : Int) + ((6 : Nat) : Int) = 18 by omega]
  dsimp only
  rw [show (79 : Nat) = 73 + 6 from rfl, rsGo_part 6 73 18 _ _ _ _ CrB_18]
  rw [show (18 : Int) + ((6 : Nat) : Int) = 24 by omega]
  dsimp only
  rw [show (73 : Nat) = 67 + 6 from rfl, rsGo_part 6 67 24 _ _ _ _ CrB_24]
  rw [show (24 : Int) + ((6 : Nat) : Int) = 30 by omega]
  dsimp only
  rw [show (67 : Nat) = 61 + 6 from rfl, rsGo_part 6 61 30 _ _ _ _ CrB_30]
  rw [show (30 : Int) + ((6 : Nat) : Int) = 36 by omega]
  dsimp only
  rw [show (61 : Nat) = 55 + 6 from rfl, rsGo_part 6 55 36 _ _ _ _ CrB_36]
  rw [show (36 : Int) + ((6 : Nat) : Int) = 42 by omega]
  dsimp only
  rw [show (55 : Nat) = 49 + 6 from rfl, rsGo_part 6 49 42 _ _ _ _ CrB_42]
  rw [show (42 : Int) + ((6 : Nat) : Int) = 48 by omega]
  dsimp only
  rw [show (49 : Nat) = 43 + 6 from rfl, rsGo_part 6 43 48 _ _ _ _ CrB_48]
  rw [show (48 : Int) + ((6 : Nat) : Int) = 54 by omega]
  dsimp only
  rw [show (43 : Nat) = 37 + 6 from rfl, rsGo_part 6 37 54 _ _ _ _ CrB_54]
  rw [show (54 : Int) + ((6 : Nat) : Int) = 60 by omega]
  dsimp only
  rw [show (37 : Nat) = 31 + 6 from rfl, rsGo_part 6 31 60 _ _ _ _ CrB_60]
  rw [show (60 : Int) + ((6 : Nat) : Int) = 66 by omega]
  dsimp only
  rw [show (31 : Nat) = 28 + 3 from rfl, rsGo_part 3 28 66 _ _ _ _ CrB_66]
  rw [show (66 : Int) + ((3 : Nat) : Int) = 69 by omega]
  dsimp only
  rw [show (28 : Nat) = 27 + 1 from rfl]
  unfold rfL
  rw [show (63083145600000 : Int) + 69 * 900000 = 63083207700000 by omega, CrB_at, if_neg (by decide), if_pos (by decide), CrB_nr]
  decide
end Go.Proofs.YtcopmgnfakjdhaaGreatDoor
