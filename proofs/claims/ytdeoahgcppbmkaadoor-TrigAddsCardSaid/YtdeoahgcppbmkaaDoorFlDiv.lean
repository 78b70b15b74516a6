/- A quotient of approximated numbers. -/
import Derived.Test.YtdeoahgcppbmkaaDoorFlSin
namespace Go.Proofs.YtdeoahgcppbmkaaDoor
open Ieee
set_option linter.unusedSimpArgs false
set_option linter.unusedVariables false
theorem quot_err {x y a b ea eb m B : Rat} (hx1 : a - ea ≤ x) (hx2 : x ≤ a + ea) (hy1 : b - eb ≤ y) (hy2 : y ≤ b + eb) (hm : 0 < m) (hb : m ≤ b) (he : eb ≤ m / 2) (hq1 : -B ≤ a / b) (hq2 : a / b ≤ B) :
    a / b - 2 / m * (ea + B * eb) ≤ x / y ∧ x / y ≤ a / b + 2 / m * (ea + B * eb) := by
  have e0 : 0 ≤ ea := by grind
  have e1 : 0 ≤ eb := by grind
  have y0 : m / 2 ≤ y := by grind
  have yp : 0 < y := by grind
  have bp : 0 < b := by grind
  obtain ⟨q, hq⟩ : ∃ q, q = a / b := ⟨_, rfl⟩
  obtain ⟨r, hr⟩ : ∃ r, r = x / y := ⟨_, rfl⟩
  have ha : a = q * b := by rw [hq]; grind
  have hxr : x = r * y := by rw [hr]; grind
  rw [← hq] at hq1 hq2 ⊢
  rw [← hr]
  have B0 : 0 ≤ B := by grind
  have m1 := prod_bd hq1 hq2 (show -eb ≤ b - y by grind) (show b - y ≤ eb by grind)
  have hd : (r - q) * y = (x - a) + q * (b - y) := by rw [ha, hxr]; grind
  have T0 : 0 ≤ ea + B * eb := by have := Rat.mul_nonneg B0 e1; grind
  have b1 : -(ea + B * eb) ≤ (r - q) * y := by rw [hd]; grind
  have b2 : (r - q) * y ≤ ea + B * eb := by rw [hd]; grind
  have em : 2 / m * (m / 2) = 1 := by grind
  have mp : 0 < 2 / m := by
    have : 2 / m = 2 * (1 / m) := by grind
    have h1 : 0 < 1 / m := by
      rcases (Rat.le_total : (0 : Rat) ≤ 1 / m ∨ 1 / m ≤ 0) with h | h
      · have : 1 / m ≠ 0 := by grind
        grind
      · have := Rat.mul_nonneg (show 0 ≤ -(1 / m) by grind) (Rat.le_of_lt hm)
        grind
    grind
  generalize ea + B * eb = T at *
  generalize hk : 2 / m = k at *
  clear hd m1 ha hxr hq hr hx1 hx2 hy1 hy2 hq1 hq2 hk
  have kT := Rat.mul_nonneg (Rat.le_of_lt mp) T0
  constructor
  · apply Rat.not_lt.1
    intro hl
    have h1 := Rat.mul_le_mul_of_nonneg_left y0 (show 0 ≤ q - r by grind)
    have h2 := Rat.mul_lt_mul_of_pos_right (show k * T < q - r by grind) (show 0 < m / 2 by grind)
    have h3 : k * T * (m / 2) = T := by rw [Rat.mul_comm k T, Rat.mul_assoc, em]; grind
    grind
  · apply Rat.not_lt.1
    intro hl
    have h1 := Rat.mul_le_mul_of_nonneg_left y0 (show 0 ≤ r - q by grind)
    have h2 := Rat.mul_lt_mul_of_pos_right (show k * T < r - q by grind) (show 0 < m / 2 by grind)
    have h3 : k * T * (m / 2) = T := by rw [Rat.mul_comm k T, Rat.mul_assoc, em]; grind
    grind
theorem Ap.div {a b : Nat} {va vb ea eb Ba Bb : Rat} (ha : Ap a va ea Ba) (hb : Ap b vb eb Bb) (m e' B' M : Rat) (hM : Mid (2 * M)) (hm : 0 < m) (hmb : m ≤ vb) (hbe : eb ≤ m / 2) (hq : -B' ≤ va / vb ∧ va / vb ≤ B')
    (h1 : B' + 2 / m * (ea + B' * eb) ≤ M) (he : 2 / m * (ea + B' * eb) + M / 2251799813685248 ≤ e') : floatBits .quo .f64 a b = some (fdiv a b) ∧ Ap (fdiv a b) (va / vb) e' B' := by
  have q := quot_err ha.lo ha.hi hb.lo hb.hi hm hmb hbe hq.1 hq.2
  have a1 := hb.lo; have a2 := hb.fin; have a3 := ha.fin
  obtain ⟨o1, o2, o3, o4⟩ := fdiv_ok a3 a2 (by grind) M hM (by grind) (by grind)
  exact ⟨o1, ⟨o2, by grind, by grind, hq.1, hq.2⟩⟩
end Go.Proofs.YtdeoahgcppbmkaaDoor
