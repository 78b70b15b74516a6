/- riseset: the sunrise of day 730120 at latitude 143000000, by the kernel (printed by tools/gen-rd.py). -/
import Derived.Test.YtcopmgnfakjdhaaGreatDoorVRsPs
namespace Go.Proofs.YtcopmgnfakjdhaaGreatDoor
def exR (t : Int) : Int := 1 * abF 0 143000000 0 t
theorem exR_eq (d : Int) : rsF 0 143000000 0 d 1 = rfL exR (d * 86400000) 97 0 false 0 0 := rfl
theorem rdN_0 : rsGo exR 63082368000000 6 0 false 0 0 = some (false, 63082372500000, -1) := by decide +kernel
theorem rdN_6 : rsGo exR 63082368000000 6 6 false 63082372500000 (-1) = some (false, 63082377900000, -1) := by decide +kernel
theorem rdN_12 : rsGo exR 63082368000000 6 12 false 63082377900000 (-1) = some (false, 63082383300000, -1) := by decide +kernel
theorem rdN_18 : rsGo exR 63082368000000 6 18 false 63082383300000 (-1) = some (false, 63082388700000, -1) := by decide +kernel
theorem rdN_24 : rsGo exR 63082368000000 6 24 false 63082388700000 (-1) = some (false, 63082394100000, -1) := by decide +kernel
theorem rdN_30 : rsGo exR 63082368000000 3 30 false 63082394100000 (-1) = some (false, 63082396800000, -1) := by decide +kernel
theorem rdN_at : exR 63082397700000 = 1 := by decide +kernel
theorem rdN_nr : nrwF exR 120000 64 63082396800000 63082397700000 = (63082397137500, 63082397250000) := by decide +kernel
theorem rdN_up : abF 0 143000000 0 63082411200000 = 1 := by decide +kernel
theorem rdN_set : rsF 0 143000000 0 730120 1 = (63082397137500, 63082397250000, 0) := by
  rw [exR_eq, show (730120 : Int) * 86400000 = 63082368000000 by omega]
  rw [show (97 : Nat) = 91 + 6 from rfl, rsGo_part 6 91 0 _ _ _ _ rdN_0]
  rw [show (0 : Int) + ((6 : Nat) : Int) = 6 by omega]
  dsimp only
  rw [show (91 : Nat) = 85 + 6 from rfl, rsGo_part 6 85 6 _ _ _ _ rdN_6]
  rw [show (6 : Int) + ((6 : Nat) : Int) = 12 by omega]
  dsimp only
  rw [show (85 : Nat) = 79 + 6 from rfl, rsGo_part 6 79 12 _ _ _ _ rdN_12]
  rw [show (12 : Int) + ((6 : Nat) : Int) = 18 by omega]
  dsimp only
  rw [show (79 : Nat) = 73 + 6 from rfl, rsGo_part 6 73 18 _ _ _ _ rdN_18]
  rw [show (18 : Int) + ((6 : Nat) : Int) = 24 by omega]
  dsimp only
  rw [show (73 : Nat) = 67 + 6 from rfl, rsGo_part 6 67 24 _ _ _ _ rdN_24]
  rw [show (24 : Int) + ((6 : Nat) : Int) = 30 by omega]
  dsimp only
  rw [show (67 : Nat) = 64 + 3 from rfl, rsGo_part 3 64 30 _ _ _ _ rdN_30]
  rw [show (30 : Int) + ((3 : Nat) : Int) = 33 by omega]
  dsimp only
  rw [show (64 : Nat) = 63 + 1 from rfl]
  unfold rfL
  rw [show (63082368000000 : Int) + 33 * 900000 = 63082397700000 by omega, rdN_at, if_neg (by decide), if_pos (by decide), rdN_nr]
  decide
end Go.Proofs.YtcopmgnfakjdhaaGreatDoor
