/- From the rows' lists to the tables of sines and the limits of riseset. -/
import Derived.Test.YtcopmgnfakjdhaaGreatDoorVLaidSky
import Derived.Test.YtcopmgnfakjdhaaGreatDoorVRsWs
namespace Go.Proofs.YtcopmgnfakjdhaaGreatDoor
open Go.RowKit
set_option linter.unusedSimpArgs false
set_option linter.unusedVariables false
theorem gLim : Tryz.prog.globalNamed "ephemeris/riseset.limits" = some 0 := by kernel_rfl
theorem tyLim : (Tryz.prog.globals[0]?).map (·.type) = some 89 := by kernel_rfl
theorem okLim : okTy Tryz.prog 3 89 = true := by kernel_rfl
theorem limT_of {W : World} (h1 : ∃ tt fr, W.heap[0]? = some (.cells (flatD (Rows.laid_ephemeris_riseset_limits : DataW Unit)).toArray tt fr)) : LimT W := by
  obtain ⟨t1, f1, h1⟩ := h1
  exact ⟨t1, f1, h1⟩
theorem lim_of_laid {W : World} (h : laidMetH Tryz.prog [("math._sin", Rows.laid_math_sin), ("math._cos", Rows.laid_math_cos), ("math.mPi4", Rows.laid_math_mPi4), ("ephemeris/riseset.limits", Rows.laid_ephemeris_riseset_limits)] W) : SinT W ∧ LimT W := by
  rw [MakeChecks.laidMetH_plain _ _ _ (by kernel_rfl)] at h
  obtain ⟨ps, ⟨g0, t0, cs0, f0, p0, q0, hg0, ht0, hv0, hd0, ⟨g1, t1, cs1, f1, p1, q1, hg1, ht1, hv1, hd1, ⟨g2, t2, cs2, f2, p2, q2, hg2, ht2, hv2, hd2, ⟨g3, t3, cs3, f3, p3, q3, hg3, ht3, hv3, hd3, _, _⟩, _⟩, _⟩, _⟩, _, _⟩ := h
  obtain rfl := Option.some.inj (gSin.symm.trans hg0)
  obtain rfl := Option.some.inj (tySin.symm.trans ht0)
  obtain rfl := Option.some.inj (gCos.symm.trans hg1)
  obtain rfl := Option.some.inj (tyCos.symm.trans ht1)
  obtain rfl := Option.some.inj (gLim.symm.trans hg3)
  obtain rfl := Option.some.inj (tyLim.symm.trans ht3)
  exact ⟨sinT_of (var_cells gSin hv0 hd0 3 ok6) (var_cells gCos hv1 hd1 3 ok6), limT_of (var_cells gLim hv3 hd3 3 okLim)⟩
end Go.Proofs.YtcopmgnfakjdhaaGreatDoor
