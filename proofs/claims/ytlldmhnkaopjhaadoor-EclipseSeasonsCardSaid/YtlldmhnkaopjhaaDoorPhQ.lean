/- How far apart phases are, plain. -/
import Derived.Test.YtlldmhnkaopjhaaDoorPhD
namespace Go.Proofs.YtlldmhnkaopjhaaDoor
set_option linter.unusedSimpArgs false
set_option linter.unusedVariables false
theorem el_le {x y : Int} (h : x ≤ y) : elT (x : Rat) - 1 / 100000000 ≤ elT (y : Rat) := by
  rcases Int.lt_or_eq_of_le h with l | l
  · have g := el_lt l
    have d := int_sub1 l
    generalize elT (x : Rat) = a at *
    generalize elT (y : Rat) = b at *
    grind
  · rw [l]; grind
/-- The elongation at the passage. -/
theorem PhCross.at' {k q c : Int} (h : PhCross k q c) : elT (c : Rat) ≤ 250000000 * (q : Rat) + 1000000000 * (k : Rat) + 1 := by
  have b := h.b
  have m := (el_move ((c - 1 : Int) : Rat) (d := 1) (by grind)).2
  rw [show ((c - 1 : Int) : Rat) + 1 = (c : Rat) by rw [Rat.intCast_sub]; show (c : Rat) - 1 + 1 = _; grind] at m
  generalize elT ((c - 1 : Int) : Rat) = u at *
  generalize elT (c : Rat) = v at *
  grind
theorem cross_lo {k q k' q' c c' T g hi : Int} (P : PhCross k q c) (P' : PhCross k' q' c') (h : 250000000 * q' + 1000000000 * k' = 250000000 * q + 1000000000 * k + g) (hT : elT ((c : Rat) + (T : Rat)) - elT (c : Rat) ≤ (hi : Rat)) (hg : hi + 2 ≤ g) : c + T < c' := by
  apply Int.not_le.1
  intro l
  have e := el_le l
  rw [Rat.intCast_add] at e
  have a := P.at'
  have b := P'.a
  have hq := congrArg (fun x : Int => (x : Rat)) h
  simp only [Rat.intCast_add, Rat.intCast_mul] at hq
  rw [show ((250000000 : Int) : Rat) = 250000000 from rfl, show ((1000000000 : Int) : Rat) = 1000000000 from rfl] at hq
  have hg' := Rat.intCast_le_intCast.2 hg
  rw [Rat.intCast_add, show ((2 : Int) : Rat) = 2 from rfl] at hg'
  generalize elT ((c : Rat) + (T : Rat)) = x at *
  generalize elT (c : Rat) = y at *
  generalize elT (c' : Rat) = z at *
  grind
theorem cross_hi {k q k' q' c c' T g lo : Int} (P : PhCross k q c) (P' : PhCross k' q' c') (h : 250000000 * q' + 1000000000 * k' = 250000000 * q + 1000000000 * k + g) (hT : (lo : Rat) ≤ elT ((c : Rat) + (T : Rat)) - elT (c : Rat)) (hg : g + 1 ≤ lo) : c' ≤ c + T := by
  apply Int.not_lt.1
  intro l
  have e := el_le (show c + T ≤ c' - 1 by omega)
  rw [Rat.intCast_add] at e
  have a := P.a
  have b := P'.b
  have hq := congrArg (fun x : Int => (x : Rat)) h
  simp only [Rat.intCast_add, Rat.intCast_mul] at hq
  rw [show ((250000000 : Int) : Rat) = 250000000 from rfl, show ((1000000000 : Int) : Rat) = 1000000000 from rfl] at hq
  have hg' := Rat.intCast_le_intCast.2 hg
  rw [Rat.intCast_add, show ((1 : Int) : Rat) = 1 from rfl] at hg'
  generalize elT ((c : Rat) + (T : Rat)) = x at *
  generalize elT (c : Rat) = y at *
  generalize elT ((c' - 1 : Int) : Rat) = z at *
  grind
/-- From one phase to the next. -/
theorem ph_step {k q k' q' c c' : Int} (P : PhIn k q c) (P' : PhIn k' q' c') (h : 250000000 * q' + 1000000000 * k' = 250000000 * q + 1000000000 * k + 250000000) : 518400000 ≤ (phF k' q').1 - (phF k q).2 ∧ (phF k' q').2 - (phF k q).1 ≤ 777600000 := by
  have a := cross_lo (T := 519600001) (hi := 235638144) P.x P'.x h (el_a (c : Rat)).2 (by omega)
  have b := cross_hi (T := 776399999) (lo := 262982435) P.x P'.x h (el_b (c : Rat)).1 (by omega)
  obtain ⟨-, -, p1, p2, -, p3⟩ := P
  obtain ⟨-, -, r1, r2, -, r3⟩ := P'
  omega
/-- From one new moon to the next. -/
theorem ph_month {k c c' : Int} (P : PhIn k 0 c) (P' : PhIn (k + 1) 0 c') : 2505600000 < (phF (k + 1) 0).1 - (phF k 0).2 ∧ (phF (k + 1) 0).2 - (phF k 0).1 < 2592000000 := by
  have h : 250000000 * (0 : Int) + 1000000000 * (k + 1) = 250000000 * 0 + 1000000000 * k + 1000000000 := by omega
  have a := cross_lo (T := 2506800001) (hi := 994199840) P.x P'.x h (el_c (c : Rat)).2 (by omega)
  have b := cross_hi (T := 2590799999) (lo := 1000205526) P.x P'.x h (el_d (c : Rat)).1 (by omega)
  obtain ⟨-, -, p1, p2, -, p3⟩ := P
  obtain ⟨-, -, r1, r2, -, r3⟩ := P'
  omega
end Go.Proofs.YtlldmhnkaopjhaaDoor
