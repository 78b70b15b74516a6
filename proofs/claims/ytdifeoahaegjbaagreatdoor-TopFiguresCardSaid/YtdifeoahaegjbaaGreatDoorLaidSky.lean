/- From the rows' lists to the tables of sines (and of stars). -/
import Derived.Test.YtdifeoahaegjbaaGreatDoorTabs
import Derived.Test.YtdifeoahaegjbaaGreatDoorMathW
namespace Go.Proofs.YtdifeoahaegjbaaGreatDoor
open Go.RowKit
set_option linter.unusedSimpArgs false
set_option linter.unusedVariables false

theorem gSin : Tryz.prog.globalNamed "math._sin" = some 12 := by kernel_rfl
theorem gCos : Tryz.prog.globalNamed "math._cos" = some 11 := by kernel_rfl
theorem tySin : (Tryz.prog.globals[12]?).map (·.type) = some 165 := by kernel_rfl
theorem tyCos : (Tryz.prog.globals[11]?).map (·.type) = some 165 := by kernel_rfl
theorem ok6 : okTy Tryz.prog 3 165 = true := by kernel_rfl
theorem cell_of {W : World} {g : Nat} {cs : Array Value} {tt : TypeId} {fr : Nat × Nat} (h : W.heap[g]? = some (.cells cs tt fr)) (i : Nat) {v : Value} (hi : cs[i]? = some v) : W.cell? ⟨g, i, none⟩ = some v := by
  simp [World.cell?, h, hi]
theorem sinT_of {W : World} (h1 : ∃ tt fr, W.heap[12]? = some (.cells (flatD (Rows.laid_math_sin : DataW Unit)).toArray tt fr)) (h2 : ∃ tt fr, W.heap[11]? = some (.cells (flatD (Rows.laid_math_cos : DataW Unit)).toArray tt fr)) : SinT W := by
  obtain ⟨t1, f1, h1⟩ := h1
  obtain ⟨t2, f2, h2⟩ := h2
  exact ⟨cell_of h1 0 rfl, cell_of h1 1 rfl, cell_of h1 2 rfl, cell_of h1 3 rfl, cell_of h1 4 rfl, cell_of h1 5 rfl, cell_of h2 0 rfl, cell_of h2 1 rfl, cell_of h2 2 rfl, cell_of h2 3 rfl, cell_of h2 4 rfl, cell_of h2 5 rfl⟩
theorem sinT_of_laid {W : World} (h : laidMetH Tryz.prog [("math._sin", Rows.laid_math_sin), ("math._cos", Rows.laid_math_cos), ("math.mPi4", Rows.laid_math_mPi4)] W) : SinT W := by
  rw [MakeChecks.laidMetH_plain _ _ _ (by kernel_rfl)] at h
  obtain ⟨ps, ⟨g0, t0, cs0, f0, p0, q0, hg0, ht0, hv0, hd0, ⟨g1, t1, cs1, f1, p1, q1, hg1, ht1, hv1, hd1, _, _⟩, _⟩, _, _⟩ := h
  obtain rfl := Option.some.inj (gSin.symm.trans hg0)
  obtain rfl := Option.some.inj (tySin.symm.trans ht0)
  obtain rfl := Option.some.inj (gCos.symm.trans hg1)
  obtain rfl := Option.some.inj (tyCos.symm.trans ht1)
  exact sinT_of (var_cells gSin hv0 hd0 3 ok6) (var_cells gCos hv1 hd1 3 ok6)
end Go.Proofs.YtdifeoahaegjbaaGreatDoor
