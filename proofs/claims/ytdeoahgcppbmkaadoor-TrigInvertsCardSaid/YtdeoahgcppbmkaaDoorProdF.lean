/- Plain laws on products of intervals. No program in sight. -/
import Derived.Test.YtdeoahgcppbmkaaDoorIntOps
namespace Go.Proofs.YtdeoahgcppbmkaaDoor
open Go.RowKit

theorem upQ_one (x : Int) : upQ x 1 = x := by unfold upQ; omega

theorem mul_bound {a c A C : Int} (h1 : -A ≤ a) (h2 : a ≤ A) (h3 : -C ≤ c) (h4 : c ≤ C) : -(A * C) ≤ a * c ∧ a * c ≤ A * C := by
  have hA : 0 ≤ A := by omega
  have e1 : 0 ≤ (A - a) * (C + c) := Int.mul_nonneg (by omega) (by omega)
  have e2 : 0 ≤ (A + a) * (C - c) := Int.mul_nonneg (by omega) (by omega)
  have e3 : 0 ≤ (A - a) * (C - c) := Int.mul_nonneg (by omega) (by omega)
  have e4 : 0 ≤ (A + a) * (C + c) := Int.mul_nonneg (by omega) (by omega)
  simp only [Int.sub_mul, Int.add_mul, Int.mul_sub, Int.mul_add] at e1 e2 e3 e4
  omega

theorem natAbs_bound {a c A C : Int} (h1 : -A ≤ a) (h2 : a ≤ A) (h3 : -C ≤ c) (h4 : c ≤ C) : ((a.natAbs * c.natAbs : Nat) : Int) ≤ A * C := by
  have h := mul_bound h1 h2 h3 h4
  rw [← Int.natAbs_mul]
  omega

/-- The product of two intervals within bounds: permitted, and in order. -/
theorem mulOk_of {a b c d A C : Int} (h1 : -A ≤ a) (h2 : a ≤ b) (h3 : b ≤ A) (g1 : -C ≤ c) (g2 : c ≤ d) (g3 : d ≤ C) (hm : A * C ≤ 1000000000000000000) : MulOk a b c d := by
  have p0 := natAbs_bound h1 (show a ≤ A by omega) g1 (show c ≤ C by omega)
  have p1 := natAbs_bound h1 (show a ≤ A by omega) (show -C ≤ d by omega) g3
  have p2 := natAbs_bound (show -A ≤ b by omega) h3 g1 (show c ≤ C by omega)
  have p3 := natAbs_bound (show -A ≤ b by omega) h3 (show -C ≤ d by omega) g3
  exact ⟨by omega, by omega, by omega, by omega⟩

theorem pLo_one (a b c d : Int) : pLo a b c d 1 = min (min (min (a * c) (a * d)) (b * c)) (b * d) := by unfold pLo; simp only [Int.ediv_one]; omega
theorem pHi_one (a b c d : Int) : pHi a b c d 1 = max (max (max (a * c) (a * d)) (b * c)) (b * d) := by unfold pHi; simp only [upQ_one]; omega

/-- Bounds of the product. -/
theorem p_bounds {a b c d A C : Int} (h1 : -A ≤ a) (h2 : a ≤ b) (h3 : b ≤ A) (g1 : -C ≤ c) (g2 : c ≤ d) (g3 : d ≤ C) : -(A * C) ≤ pLo a b c d 1 ∧ pLo a b c d 1 ≤ pHi a b c d 1 ∧ pHi a b c d 1 ≤ A * C := by
  have p0 := mul_bound h1 (show a ≤ A by omega) g1 (show c ≤ C by omega)
  have p1 := mul_bound h1 (show a ≤ A by omega) (show -C ≤ d by omega) g3
  have p2 := mul_bound (show -A ≤ b by omega) h3 g1 (show c ≤ C by omega)
  have p3 := mul_bound (show -A ≤ b by omega) h3 (show -C ≤ d by omega) g3
  rw [pLo_one, pHi_one]
  omega

/-- Between two numbers, a linear function is nowhere below its ends' least and nowhere above their greatest. -/
theorem lin_between {x a b c : Int} (h1 : a ≤ x) (h2 : x ≤ b) : min (a * c) (b * c) ≤ x * c ∧ x * c ≤ max (a * c) (b * c) := by
  rcases Int.le_total 0 c with h | h
  · have e1 := Int.mul_le_mul_of_nonneg_right h1 h
    have e2 := Int.mul_le_mul_of_nonneg_right h2 h
    omega
  · have e1 := Int.mul_le_mul_of_nonpos_right h1 h
    have e2 := Int.mul_le_mul_of_nonpos_right h2 h
    omega

/-- A product of members is in the product. -/
theorem p_contains {a b c d x y : Int} (h1 : a ≤ x) (h2 : x ≤ b) (g1 : c ≤ y) (g2 : y ≤ d) : pLo a b c d 1 ≤ x * y ∧ x * y ≤ pHi a b c d 1 := by
  rw [pLo_one, pHi_one]
  have e1 := lin_between (c := y) h1 h2
  have e2 := lin_between (c := a) g1 g2
  have e3 := lin_between (c := b) g1 g2
  simp only [Int.mul_comm c, Int.mul_comm d, Int.mul_comm y] at e2 e3
  omega

/-- The same with fractions. -/
theorem rlin_between {x a b c : Rat} (h1 : a ≤ x) (h2 : x ≤ b) : (a * c ≤ x * c ∨ b * c ≤ x * c) ∧ (x * c ≤ a * c ∨ x * c ≤ b * c) := by
  rcases Rat.le_total (a := 0) (b := c) with h | h
  · exact ⟨.inl (Rat.mul_le_mul_of_nonneg_right h1 h), .inr (Rat.mul_le_mul_of_nonneg_right h2 h)⟩
  · have e1 := Rat.mul_le_mul_of_nonneg_right h1 (show 0 ≤ -c by grind)
    have e2 := Rat.mul_le_mul_of_nonneg_right h2 (show 0 ≤ -c by grind)
    exact ⟨.inr (by grind), .inl (by grind)⟩
theorem rp_contains {a b c d : Int} {x y : Rat} (h1 : (a : Rat) ≤ x) (h2 : x ≤ (b : Rat)) (g1 : (c : Rat) ≤ y) (g2 : y ≤ (d : Rat)) : (pLo a b c d 1 : Rat) ≤ x * y ∧ x * y ≤ (pHi a b c d 1 : Rat) := by
  have k1 : pLo a b c d 1 ≤ a * c := by rw [pLo_one]; omega
  have k2 : pLo a b c d 1 ≤ a * d := by rw [pLo_one]; omega
  have k3 : pLo a b c d 1 ≤ b * c := by rw [pLo_one]; omega
  have k4 : pLo a b c d 1 ≤ b * d := by rw [pLo_one]; omega
  have m1 : a * c ≤ pHi a b c d 1 := by rw [pHi_one]; omega
  have m2 : a * d ≤ pHi a b c d 1 := by rw [pHi_one]; omega
  have m3 : b * c ≤ pHi a b c d 1 := by rw [pHi_one]; omega
  have m4 : b * d ≤ pHi a b c d 1 := by rw [pHi_one]; omega
  generalize pLo a b c d 1 = l at *
  generalize pHi a b c d 1 = h at *
  replace k1 := Rat.intCast_le_intCast.2 k1
  replace k2 := Rat.intCast_le_intCast.2 k2
  replace k3 := Rat.intCast_le_intCast.2 k3
  replace k4 := Rat.intCast_le_intCast.2 k4
  replace m1 := Rat.intCast_le_intCast.2 m1
  replace m2 := Rat.intCast_le_intCast.2 m2
  replace m3 := Rat.intCast_le_intCast.2 m3
  replace m4 := Rat.intCast_le_intCast.2 m4
  rw [Rat.intCast_mul] at k1 k2 k3 k4 m1 m2 m3 m4
  generalize (a : Rat) = a at *
  generalize (b : Rat) = b at *
  generalize (c : Rat) = c at *
  generalize (d : Rat) = d at *
  have e1 := rlin_between (c := y) h1 h2
  have e2 := rlin_between (c := a) g1 g2
  have e3 := rlin_between (c := b) g1 g2
  clear h1 h2 g1 g2
  grind
/-- A quotient by a positive number, rounded down and up. -/
theorem div_rat (x : Int) (k : Nat) (hk : 1 ≤ k) : ((x / (k : Int) : Int) : Rat) * (k : Rat) ≤ (x : Rat) ∧ (x : Rat) ≤ (upQ x k : Rat) * (k : Rat) := by
  have e1 : x / (k : Int) * (k : Int) ≤ x := Int.ediv_mul_le x (by omega)
  have e2 : x ≤ upQ x k * (k : Int) := by
    unfold upQ
    have := Int.ediv_mul_le (-x) (show (k : Int) ≠ 0 by omega)
    grind
  replace e1 := Rat.intCast_le_intCast.2 e1
  replace e2 := Rat.intCast_le_intCast.2 e2
  rw [Rat.intCast_mul, Rat.intCast_natCast] at e1 e2
  exact ⟨e1, e2⟩
end Go.Proofs.YtdeoahgcppbmkaaDoor
