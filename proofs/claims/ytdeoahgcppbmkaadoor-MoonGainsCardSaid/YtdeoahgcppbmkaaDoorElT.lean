/- The true longitudes of the sun and the moon, and the elongation: how fast they grow. Plain. -/
import Derived.Test.YtdeoahgcppbmkaaDoorTrue
import Derived.Test.YtdeoahgcppbmkaaDoorElong
namespace Go.Proofs.YtdeoahgcppbmkaaDoor
set_option linter.unusedSimpArgs false
set_option linter.unusedVariables false
theorem anT_move {mean rate : Int} {zs : List Int} {n : Nat} (hz : ∀ i, i < n → TmOk zs i) (t : Rat) {d : Rat} (hd : 0 ≤ d) :
    Near (anT mean rate zs n (t + d)) (anT mean rate zs n t + (rate : Rat) * (d / 86400000000000)) (ra (slS zs n * (d / 86400000000000)) + (n : Rat) * (1 / 10000000000)) := by
  have h := sv_move hz t hd n (Nat.le_refl _)
  unfold anT
  have e : phT mean rate (t + d) = phT mean rate t + (rate : Rat) * (d / 86400000000000) := by unfold phT; grind
  rw [e]
  unfold Near at *
  generalize svT zs n (t + d) = x1 at *
  generalize svT zs n t = x2 at *
  generalize phT mean rate t = x3 at *
  generalize (rate : Rat) * (d / 86400000000000) = x4 at *
  generalize ra (slS zs n * (d / 86400000000000)) = x5 at *
  constructor <;> grind
/-- An interval of angles around a true one, with a slack. -/
def AngW (lo hi : Int) (X r s : Rat) : Prop := ∃ k : Int, (lo : Rat) + 1000000000 * (k : Rat) ≤ X - r ∧ X - r - s ≤ (lo : Rat) + 1000000000 * (k : Rat) ∧ X + r ≤ (hi : Rat) + 1000000000 * (k : Rat) ∧ (hi : Rat) + 1000000000 * (k : Rat) ≤ X + r + s
theorem angAt_W {lo hi : Int} {X r : Rat} (h : AngAt lo hi X r) : AngW lo hi X r (2003 / 1000) := h
theorem less_at {a b c d : Int} {X Y r s p q : Rat} (h : AngW a b X r p) (g : AngW c d Y s q) : AngW (lsLo a b c d) (lsHi a b c d) (X - Y) (r + s) (p + q) := by
  obtain ⟨k, h1, h2, h3, h4⟩ := h
  obtain ⟨j, g1, g2, g3, g4⟩ := g
  have e : lsLo a b c d = a - d + 1000000000 * -((a - d) / 1000000000) := by unfold lsLo; omega
  have e2 : lsHi a b c d = b - c + 1000000000 * -((a - d) / 1000000000) := by unfold lsHi; omega
  refine ⟨k - j + (a - d) / 1000000000, ?_⟩
  rw [e, e2]
  clear e e2
  generalize (a - d) / 1000000000 = z
  rw [Rat.intCast_add, Rat.intCast_add, Rat.intCast_add, Rat.intCast_mul, Rat.intCast_sub, Rat.intCast_sub, Rat.intCast_sub, Rat.intCast_neg, show ((1000000000 : Int) : Rat) = 1000000000 from rfl]
  refine ⟨?_, ?_, ?_, ?_⟩ <;> grind
/-- The true longitudes. -/
def sunT (t : Rat) : Rat := anT 775342092 2737909333333 sunZ 2 t
def moonT (t : Rat) : Rat := anT 392048814 36601101305556 moonLZ 6 t
def elT (t : Rat) : Rat := moonT t - sunT t
theorem sun_at (t : Int) : AngW (slLo t) (slHi t) (sunT (t : Rat)) 2000 (2003 / 1000) := ang_at (by omega) sun_in.tm
theorem moon_at (t : Int) : AngW (mlLo t) (mlHi t) (moonT (t : Rat)) 20000 (2003 / 1000) := ang_at (by omega) moonL_in.tm
theorem el_at (t : Int) : AngW (elLo t) (elHi t) (elT (t : Rat)) 22000 (4006 / 1000) := by
  have h := less_at (moon_at t) (sun_at t)
  rw [show (20000 : Rat) + 2000 = 22000 by grind, show (2003 / 1000 : Rat) + 2003 / 1000 = 4006 / 1000 by grind] at h
  exact h
theorem sl_sun : slS sunZ 2 = 14864525005099857516 := by unfold slS; decide +kernel
theorem sl_moon : slS moonLZ 6 = 936885529393895316817 := by unfold slS; decide +kernel
end Go.Proofs.YtdeoahgcppbmkaaDoor
