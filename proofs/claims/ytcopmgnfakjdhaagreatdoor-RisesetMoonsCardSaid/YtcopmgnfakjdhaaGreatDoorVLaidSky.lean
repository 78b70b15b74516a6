/- From the rows' lists to the tables of sines (and of stars). -/
import Derived.Test.YtcopmgnfakjdhaaGreatDoorVTabs
import Derived.Test.YtcopmgnfakjdhaaGreatDoorVMathW
namespace Go.Proofs.YtcopmgnfakjdhaaGreatDoor
open Go.RowKit
set_option linter.unusedSimpArgs false
set_option linter.unusedVariables false

theorem gSin : Tryz.prog.globalNamed "math._sin" = some 3 := by kernel_rfl
theorem gCos : Tryz.prog.globalNamed "math._cos" = some 2 := by kernel_rfl
theorem tySin : (Tryz.prog.globals[3]?).map (·.type) = some 125 := by kernel_rfl
theorem tyCos : (Tryz.prog.globals[2]?).map (·.type) = some 125 := by kernel_rfl
theorem ok6 : okTy Tryz.prog 3 125 = true := by kernel_rfl
theorem cell_of {W : World} {g : Nat} {cs : Array Value} {tt : TypeId} {fr : Nat × Nat} (h : W.heap[g]? = some (.cells cs tt fr)) (i : Nat) {v : Value} (hi : cs[i]? = some v) : W.cell? ⟨g, i, none⟩ = some v := by
  simp [World.cell?, h, hi]
theorem sinT_of {W : World} (h1 : ∃ tt fr, W.heap[3]? = some (.cells (flatD (Rows.laid_math_sin : DataW Unit)).toArray tt fr)) (h2 : ∃ tt fr, W.heap[2]? = some (.cells (flatD (Rows.laid_math_cos : DataW Unit)).toArray tt fr)) : SinT W := by
  obtain ⟨t1, f1, h1⟩ := h1
  obtain ⟨t2, f2, h2⟩ := h2
  exact ⟨cell_of h1 0 rfl, cell_of h1 1 rfl, cell_of h1 2 rfl, cell_of h1 3 rfl, cell_of h1 4 rfl, cell_of h1 5 rfl, cell_of h2 0 rfl, cell_of h2 1 rfl, cell_of h2 2 rfl, cell_of h2 3 rfl, cell_of h2 4 rfl, cell_of h2 5 rfl⟩
end Go.Proofs.YtcopmgnfakjdhaaGreatDoor
