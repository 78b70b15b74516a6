/- From the rows' lists to the tables of sines and of the planets. -/
import Derived.Test.YtdeoahgcppbmkaaDoorLaidSky
import Derived.Test.YtdeoahgcppbmkaaDoorPlanA
namespace Go.Proofs.YtdeoahgcppbmkaaDoor
open Go.RowKit
set_option linter.unusedSimpArgs false
set_option linter.unusedVariables false
theorem gPlan : Tryd.prog.globalNamed "ephemeris/planet.table" = some 0 := by kernel_rfl
theorem tyPlan : (Tryd.prog.globals[0]?).map (·.type) = some 100 := by kernel_rfl
theorem okPlan : okTy Tryd.prog 4 100 = true := by kernel_rfl
theorem planT_of {W : World} (h1 : ∃ tt fr, W.heap[0]? = some (.cells (flatD (Rows.laid_ephemeris_planet_table : DataW Unit)).toArray tt fr)) : PlanT W := by
  obtain ⟨t1, f1, h1⟩ := h1
  exact ⟨t1, f1, h1⟩
theorem planT_of_laid {W : World} (h : laidMetH Tryd.prog [("math._sin", Rows.laid_math_sin), ("math._cos", Rows.laid_math_cos), ("math.mPi4", Rows.laid_math_mPi4), ("ephemeris/planet.table", Rows.laid_ephemeris_planet_table)] W) : SinT W ∧ PlanT W := by
  rw [MakeChecks.laidMetH_plain _ _ _ (by kernel_rfl)] at h
  obtain ⟨ps, ⟨g0, t0, cs0, f0, p0, q0, hg0, ht0, hv0, hd0, ⟨g1, t1, cs1, f1, p1, q1, hg1, ht1, hv1, hd1, ⟨g2, t2, cs2, f2, p2, q2, hg2, ht2, hv2, hd2, ⟨g3, t3, cs3, f3, p3, q3, hg3, ht3, hv3, hd3, _, _⟩, _⟩, _⟩, _⟩, _, _⟩ := h
  obtain rfl := Option.some.inj (gSin.symm.trans hg0)
  obtain rfl := Option.some.inj (tySin.symm.trans ht0)
  obtain rfl := Option.some.inj (gCos.symm.trans hg1)
  obtain rfl := Option.some.inj (tyCos.symm.trans ht1)
  obtain rfl := Option.some.inj (gPlan.symm.trans hg3)
  obtain rfl := Option.some.inj (tyPlan.symm.trans ht3)
  exact ⟨sinT_of (var_cells gSin hv0 hd0 3 ok6) (var_cells gCos hv1 hd1 3 ok6), planT_of (var_cells gPlan hv3 hd3 4 okPlan)⟩
end Go.Proofs.YtdeoahgcppbmkaaDoor
