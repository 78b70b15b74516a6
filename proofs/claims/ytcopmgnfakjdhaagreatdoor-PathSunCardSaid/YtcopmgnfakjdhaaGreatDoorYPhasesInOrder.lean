/- PhasesInOrder: phases follow each other behind 6 to 9 days, new moons behind 29 to 30. -/
import Derived.Test.YtcopmgnfakjdhaaGreatDoorYPhN
import Derived.Test.YtcopmgnfakjdhaaGreatDoorYPhs
namespace Go.Proofs.YtcopmgnfakjdhaaGreatDoor
open Go.RowKit
set_option linter.unusedSimpArgs false
set_option linter.unusedVariables false
theorem phF_bd {k q : Int} (k0 : -100000 ≤ k) (k1 : k ≤ 100000) (q0 : 0 ≤ q) (q1 : q ≤ 3) : -300000000000000 ≤ (phF k q).1 ∧ (phF k q).1 ≤ (phF k q).2 ∧ (phF k q).2 ≤ 300000000000000 := by
  obtain ⟨c, C⟩ := ph_in (k := k) (q := q) (by omega) (by omega) q0 q1
  have a := C.a; have b := C.b; have c' := C.c; have d := C.d
  unfold phM at a d
  omega
end Go.Proofs.YtcopmgnfakjdhaaGreatDoor
