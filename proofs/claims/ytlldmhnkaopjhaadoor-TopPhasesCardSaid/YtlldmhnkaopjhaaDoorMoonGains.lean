/- MoonGains: the elongation grows by 8 to 17 degrees in a day. -/
import Derived.Test.YtlldmhnkaopjhaaDoorMoon
import Derived.Test.YtlldmhnkaopjhaaDoorAt
namespace Go.Proofs.YtlldmhnkaopjhaaDoor
open Go.RowKit
set_option linter.unusedSimpArgs false
set_option linter.unusedVariables false
theorem el_day (t : Rat) : 27000000 ≤ elT (t + 86400000) - elT t ∧ elT (t + 86400000) - elT t ≤ 41000000 := by
  have m := anT_move (mean := 392048814) (rate := 36601101305556) moonL_in.tm t (d := 86400000) (by grind)
  have s := anT_move (mean := 775342092) (rate := 2737909333333) sun_in.tm t (d := 86400000) (by grind)
  rw [sl_moon] at m
  rw [sl_sun] at s
  have q := qq_b9
  unfold elT moonT sunT
  unfold Near ra at *
  rw [show ((36601101305556 : Int) : Rat) = 36601101305556 from rfl, show ((6 : Nat) : Rat) = 6 from rfl] at m
  rw [show ((2737909333333 : Int) : Rat) = 2737909333333 from rfl, show ((2 : Nat) : Rat) = 2 from rfl] at s
  generalize anT 392048814 36601101305556 moonLZ 6 (t + 86400000) = x1 at *
  generalize anT 392048814 36601101305556 moonLZ 6 t = x2 at *
  generalize anT 775342092 2737909333333 sunZ 2 (t + 86400000) = x3 at *
  generalize anT 775342092 2737909333333 sunZ 2 t = x4 at *
  generalize qq = p at *
  constructor <;> grind
theorem gain_law (t : Int) : 22122222 < (elLo (t + 86400000) - elHi t) % 1000000000 ∧ (elLo (t + 86400000) - elHi t) % 1000000000 < 47222222 := by
  have e := el_day (t : Rat)
  obtain ⟨k, a1, a2, a3, a4⟩ := el_at t
  obtain ⟨j, b1, b2, b3, b4⟩ := el_at (t + 86400000)
  rw [Rat.intCast_add, show ((86400000 : Int) : Rat) = 86400000 from rfl] at b1 b2 b3 b4
  generalize elT ((t : Rat) + 86400000) = X at *
  generalize elT (t : Rat) = Y at *
  generalize elLo (t + 86400000) = lo at *
  generalize elHi t = hi at *
  have f : ((lo - hi + 1000000000 * (j - k) : Int) : Rat) = (lo : Rat) - (hi : Rat) + 1000000000 * ((j : Rat) - (k : Rat)) := by
    rw [Rat.intCast_add, Rat.intCast_sub, Rat.intCast_mul, Rat.intCast_sub, show ((1000000000 : Int) : Rat) = 1000000000 from rfl]
  have l : (22200000 : Int) ≤ lo - hi + 1000000000 * (j - k) := by
    apply int_le_of_rat
    rw [f, show ((22200000 : Int) : Rat) = 22200000 from rfl]
    grind
  have u : lo - hi + 1000000000 * (j - k) ≤ 47000000 := by
    apply int_le_of_rat
    rw [f, show ((47000000 : Int) : Rat) = 47000000 from rfl]
    grind
  clear a1 a2 a3 a4 b1 b2 b3 b4 e f
  omega
end Go.Proofs.YtlldmhnkaopjhaaDoor
