/- Plain laws on products of intervals. No program in sight. -/
import Derived.Test.YtocdboopmfgkpaaIntWorks
namespace Go.Proofs.Ytocdboopmfgkpaa
open Go.RowKit

theorem upQ_one (x : Int) : upQ x 1 = x := by unfold upQ; omega

theorem mul_bound {a c A C : Int} (h1 : -A ≤ a) (h2 : a ≤ A) (h3 : -C ≤ c) (h4 : c ≤ C) : -(A * C) ≤ a * c ∧ a * c ≤ A * C := by
  have hA : 0 ≤ A := by omega
  have e1 : 0 ≤ (A - a) * (C + c) := Int.mul_nonneg (by omega) (by omega)
  have e2 : 0 ≤ (A + a) * (C - c) := Int.mul_nonneg (by omega) (by omega)
  have e3 : 0 ≤ (A - a) * (C - c) := Int.mul_nonneg (by omega) (by omega)
  have e4 : 0 ≤ (A + a) * (C + c) := Int.mul_nonneg (by omega) (by omega)
  simp only [Int.sub_mul, Int.add_mul, Int.mul_sub, Int.mul_add] at e1 e2 e3 e4
  omega

theorem natAbs_bound {a c A C : Int} (h1 : -A ≤ a) (h2 : a ≤ A) (h3 : -C ≤ c) (h4 : c ≤ C) : ((a.natAbs * c.natAbs : Nat) : Int) ≤ A * C := by
  have h := mul_bound h1 h2 h3 h4
  rw [← Int.natAbs_mul]
  omega

/-- The product of two intervals within bounds: permitted, and in order. -/
theorem mulOk_of {a b c d A C : Int} (h1 : -A ≤ a) (h2 : a ≤ b) (h3 : b ≤ A) (g1 : -C ≤ c) (g2 : c ≤ d) (g3 : d ≤ C) (hm : A * C ≤ 1000000000000000000) : MulOk a b c d := by
  have p0 := natAbs_bound h1 (show a ≤ A by omega) g1 (show c ≤ C by omega)
  have p1 := natAbs_bound h1 (show a ≤ A by omega) (show -C ≤ d by omega) g3
  have p2 := natAbs_bound (show -A ≤ b by omega) h3 g1 (show c ≤ C by omega)
  have p3 := natAbs_bound (show -A ≤ b by omega) h3 (show -C ≤ d by omega) g3
  exact ⟨by omega, by omega, by omega, by omega⟩

theorem pLo_one (a b c d : Int) : pLo a b c d 1 = min (min (min (a * c) (a * d)) (b * c)) (b * d) := by unfold pLo; simp only [Int.ediv_one]; omega
theorem pHi_one (a b c d : Int) : pHi a b c d 1 = max (max (max (a * c) (a * d)) (b * c)) (b * d) := by unfold pHi; simp only [upQ_one]; omega

/-- Bounds of the product. -/
theorem p_bounds {a b c d A C : Int} (h1 : -A ≤ a) (h2 : a ≤ b) (h3 : b ≤ A) (g1 : -C ≤ c) (g2 : c ≤ d) (g3 : d ≤ C) : -(A * C) ≤ pLo a b c d 1 ∧ pLo a b c d 1 ≤ pHi a b c d 1 ∧ pHi a b c d 1 ≤ A * C := by
  have p0 := mul_bound h1 (show a ≤ A by omega) g1 (show c ≤ C by omega)
  have p1 := mul_bound h1 (show a ≤ A by omega) (show -C ≤ d by omega) g3
  have p2 := mul_bound (show -A ≤ b by omega) h3 g1 (show c ≤ C by omega)
  have p3 := mul_bound (show -A ≤ b by omega) h3 (show -C ≤ d by omega) g3
  rw [pLo_one, pHi_one]
  omega

/-- Between two numbers, a linear function is nowhere below its ends' least and nowhere above their greatest. -/
theorem lin_between {x a b c : Int} (h1 : a ≤ x) (h2 : x ≤ b) : min (a * c) (b * c) ≤ x * c ∧ x * c ≤ max (a * c) (b * c) := by
  rcases Int.le_total 0 c with h | h
  · have e1 := Int.mul_le_mul_of_nonneg_right h1 h
    have e2 := Int.mul_le_mul_of_nonneg_right h2 h
    omega
  · have e1 := Int.mul_le_mul_of_nonpos_right h1 h
    have e2 := Int.mul_le_mul_of_nonpos_right h2 h
    omega

/-- A product of members is in the product. -/
theorem p_contains {a b c d x y : Int} (h1 : a ≤ x) (h2 : x ≤ b) (g1 : c ≤ y) (g2 : y ≤ d) : pLo a b c d 1 ≤ x * y ∧ x * y ≤ pHi a b c d 1 := by
  rw [pLo_one, pHi_one]
  have e1 := lin_between (c := y) h1 h2
  have e2 := lin_between (c := a) g1 g2
  have e3 := lin_between (c := b) g1 g2
  simp only [Int.mul_comm c, Int.mul_comm d, Int.mul_comm y] at e2 e3
  omega

end Go.Proofs.Ytocdboopmfgkpaa
