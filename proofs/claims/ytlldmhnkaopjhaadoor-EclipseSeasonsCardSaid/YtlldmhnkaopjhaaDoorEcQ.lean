/- Five new moons without eclipses, plain. -/
import Derived.Test.YtlldmhnkaopjhaaDoorEcB
namespace Go.Proofs.YtlldmhnkaopjhaaDoor
set_option linter.unusedSimpArgs false
set_option linter.unusedVariables false
theorem quiet_at {k x : Int} (k0 : -100002 ≤ k) (k1 : k ≤ 100002) (h0 : phM k 0 - 172800000 ≤ x) (h1 : x + 400000 ≤ phM k 0 + 172800000) (hs : (phSd 0 x = -1 ∧ phSd 0 (x + 400000) = 1) ∧ mbHi x ≤ -4300000) : Quiet k 0 := by
  obtain ⟨⟨s0, s1⟩, b⟩ := hs
  obtain ⟨c, C⟩ := ph_in (k := k) (q := 0) k0 k1 (by omega) (by omega)
  have c1 := C.x.cr.a x h0 (by omega) s0
  have c2 := C.x.cr.b (x + 400000) (by omega) h1 s1
  have i1 := C.b; have i2 := C.c; have w := C.w
  have p3 := (be_at x).h1
  have g := Rat.intCast_le_intCast.2 b
  rw [show ((-4300000 : Int) : Rat) = -4300000 from rfl] at g
  rw [show ((20000 : Int) : Rat) = 20000 from rfl] at p3
  have n1 := be_near (x := x) (y := (phF k 0).1) (W := 1000000) (by omega)
  have n2 := be_near (x := x) (y := (phF k 0).2) (W := 1000000) (by omega)
  rw [show ((1000000 : Int) : Rat) = 1000000 from rfl] at n1 n2
  refine quiet_of (by omega) w (.inr ?_)
  clear b
  unfold Near at n1 n2
  constructor <;> grind
theorem qa_0 : (phSd 0 63057378915562 = -1 ∧ phSd 0 (63057378915562 + 400000) = 1) ∧ mbHi 63057378915562 ≤ -4300000 := by decide +kernel
theorem qa_1 : (phSd 0 63059918645293 = -1 ∧ phSd 0 (63059918645293 + 400000) = 1) ∧ mbHi 63059918645293 ≤ -4300000 := by decide +kernel
theorem qa_2 : (phSd 0 63062452272877 = -1 ∧ phSd 0 (63062452272877 + 400000) = 1) ∧ mbHi 63062452272877 ≤ -4300000 := by decide +kernel
theorem qa_3 : (phSd 0 63064983511497 = -1 ∧ phSd 0 (63064983511497 + 400000) = 1) ∧ mbHi 63064983511497 ≤ -4300000 := by decide +kernel
theorem qa_4 : (phSd 0 63067516078795 = -1 ∧ phSd 0 (63067516078795 + 400000) = 1) ∧ mbHi 63067516078795 ≤ -4300000 := by decide +kernel
theorem ew_1 : Quiet 24714 0 ∧ Quiet 24715 0 ∧ Quiet 24716 0 ∧ Quiet 24717 0 ∧ Quiet 24718 0 :=
  ⟨quiet_at (by omega) (by omega) (by unfold phM; omega) (by unfold phM; omega) qa_0, quiet_at (by omega) (by omega) (by unfold phM; omega) (by unfold phM; omega) qa_1, quiet_at (by omega) (by omega) (by unfold phM; omega) (by unfold phM; omega) qa_2, quiet_at (by omega) (by omega) (by unfold phM; omega) (by unfold phM; omega) qa_3, quiet_at (by omega) (by omega) (by unfold phM; omega) (by unfold phM; omega) qa_4⟩
theorem ew_0 : (ecF 24719 0).e = 0 ∧ (ecF 24719 0).k = 2 ∧ (ecF 24719 0).l ≤ 1695151 ∧ 1695151 ≤ (ecF 24719 0).h ∧ (ecF 24719 0).h - (ecF 24719 0).l ≤ 91000 := by decide +kernel
end Go.Proofs.YtlldmhnkaopjhaaDoor
