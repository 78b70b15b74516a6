/- PhasesInOrder: phases follow each other behind 6 to 9 days, new moons behind 29 to 30. -/
import Derived.Test.YtdifeoahaegjbaaGreatDoorPhN
import Derived.Test.YtdifeoahaegjbaaGreatDoorPhs
namespace Go.Proofs.YtdifeoahaegjbaaGreatDoor
open Go.RowKit
set_option linter.unusedSimpArgs false
set_option linter.unusedVariables false
theorem rem_bd (a : Int) : -89999 ≤ a.tmod 90000 ∧ a.tmod 90000 ≤ 89999 := by
  have h1 := Int.lt_tmod_of_pos a (show (0 : Int) < 90000 by omega)
  have h2 := Int.tmod_lt_of_pos a (show (0 : Int) < 90000 by omega)
  omega
/-- Bounds of an interval. -/
theorem phF_bd {k q : Int} (k0 : -100000 ≤ k) (k1 : k ≤ 100000) (q0 : 0 ≤ q) (q1 : q ≤ 3) : -300000000000000 ≤ (phF k q).1 ∧ (phF k q).1 ≤ (phF k q).2 ∧ (phF k q).2 ≤ 300000000000000 := by
  obtain ⟨c, C⟩ := ph_in (k := k) (q := q) (by omega) (by omega) q0 q1
  have a := C.a; have b := C.b; have c' := C.c; have d := C.d
  unfold phM at a d
  omega
end Go.Proofs.YtdifeoahaegjbaaGreatDoor
