/- Merged by wip/tools/pack.py out of XInterval, XRatio, XProduct, XIntOps, XProdF. -/
import Derived.Test.YtdifeoahaegjbaaGreatDoorBasic
import Derived.Lib.Mul64
import Derived.Laws.Bits64b
import Derived.Deep.QuietTactic
import Derived.BigQuiet
/- The contracts of package interval's arithmetic: Mul64, Div64 (with a high half of 0), size, Ratio. -/
namespace Go.Proofs.YtdifeoahaegjbaaGreatDoor
open Go.RowKit
set_option linter.unusedSimpArgs false
set_option linter.unusedVariables false

namespace M64
theorem maskN (a : Nat) (ha : a < 18446744073709551616) : bits .and .u64 (a : Int) 4294967295 = ((a % 4294967296 : Nat) : Int) := by
  have h := bits_and_u64_nat a 4294967295 ha (by omega)
  have e : a &&& 4294967295 = a % 4294967296 := Nat.and_two_pow_sub_one_eq_mod a 32
  rw [e] at h
  exact h
theorem divN (a : Nat) : (a : Int) / 4294967296 = ((a / 4294967296 : Nat) : Int) := by omega
theorem mulN (a b : Nat) : (a : Int) * (b : Int) = ((a * b : Nat) : Int) := (Int.natCast_mul a b).symm
theorem addN (a b : Nat) : (a : Int) + (b : Int) = ((a + b : Nat) : Int) := (Int.natCast_add a b).symm
theorem wrapN (a : Nat) (ha : a < 18446744073709551616) : IntKind.u64.wrap (a : Int) = (a : Int) := by rw [IntKind.wrap_u64]; omega
theorem wrapM (a : Nat) : IntKind.u64.wrap (a : Int) = ((a % 18446744073709551616 : Nat) : Int) := by rw [IntKind.wrap_u64]; omega
end M64

set_option maxHeartbeats 1000000 in
theorem mul64_any (x y : Nat) (hx : x < 18446744073709551616) (hy : y < 18446744073709551616) (w : World) :
    Calls Tryz.prog 93 #[.int .u64 x, .int .u64 y] w fun e w' => e = .returned (.tuple #[.int .u64 ((x * y / 18446744073709551616 : Nat) : Int), .int .u64 ((x * y % 18446744073709551616 : Nat) : Int)]) ∧ w = w' := by
  obtain ⟨bd, bt, bw, hhi⟩ := Lib.mul64_hi x y hx hy
  have ba := Lib.half_mul_le (a := x / 4294967296) (b := y / 4294967296) (by omega) (by omega)
  have bb := Lib.half_mul_le (a := x / 4294967296) (b := y % 4294967296) (by omega) (by omega)
  have bc := Lib.half_mul_le (a := x % 4294967296) (b := y / 4294967296) (by omega) (by omega)
  have ba' : x / 4294967296 * (y / 4294967296) < 18446744073709551616 := by omega
  have bb' : x / 4294967296 * (y % 4294967296) < 18446744073709551616 := by omega
  have bc' : x % 4294967296 * (y / 4294967296) < 18446744073709551616 := by omega
  have bh1 : x / 4294967296 * (y / 4294967296) + (x / 4294967296 * (y % 4294967296) + x % 4294967296 * (y % 4294967296) / 4294967296) / 4294967296 < 18446744073709551616 := by omega
  have bh : x / 4294967296 * (y / 4294967296) + (x / 4294967296 * (y % 4294967296) + x % 4294967296 * (y % 4294967296) / 4294967296) / 4294967296 + ((x / 4294967296 * (y % 4294967296) + x % 4294967296 * (y % 4294967296) / 4294967296) % 4294967296 + x % 4294967296 * (y / 4294967296)) / 4294967296 < 18446744073709551616 := by omega
  go_enter Tryz.func93, Tryz.ntmps93
  go_wp2
  simp only [M64.maskN x hx, M64.maskN y hy, M64.divN, M64.mulN, M64.addN, M64.wrapN _ bd, M64.wrapN _ bb', M64.wrapN _ bt, M64.maskN _ bt, M64.wrapN _ bc', M64.wrapN _ bw, M64.wrapN _ ba', M64.wrapN _ bh1, M64.wrapN _ bh, M64.wrapM (x * y)]
  rw [hhi]
  go_ret2
  exact ⟨rfl, rfl⟩

set_option maxHeartbeats 1000000 in
theorem div64_low (x y : Nat) (hx : x < 9223372036854775808) (hy : y < 9223372036854775808) (hy0 : 1 ≤ y) (w : World) :
    Calls Tryz.prog 95 #[.int .u64 0, .int .u64 x, .int .u64 y] w fun e w' => e = .returned (.tuple #[.int .u64 ((x / y : Nat) : Int), .int .u64 ((x % y : Nat) : Int)]) ∧ ∃ n, w' = w.drewN n := by
  have h1 : ((y : Int) == 0) = false := by simp; omega
  have h2 : decide ((y : Int) ≤ 0) = false := by simp; omega
  have q1 : x / y ≤ x := Nat.div_le_self _ _
  have q2 : x % y < y := Nat.mod_lt _ (by omega)
  have e1 : (x : Int).tdiv y = ((x / y : Nat) : Int) := by rw [Int.tdiv_eq_ediv_of_nonneg (Int.natCast_nonneg x), Int.natCast_ediv]
  have e2 : (x : Int).tmod y = ((x % y : Nat) : Int) := by rw [Int.tmod_eq_emod_of_nonneg (Int.natCast_nonneg x), Int.natCast_emod]
  obtain ⟨q, hq⟩ : ∃ q, q = x / y := ⟨_, rfl⟩
  obtain ⟨r, hr⟩ : ∃ r, r = x % y := ⟨_, rfl⟩
  rw [← hq] at q1 e1 ⊢
  rw [← hr] at q2 e2 ⊢
  have e3 : IntKind.u64.wrap (q : Int) = (q : Int) := IntWalk.u64_in _ (by omega)
  clear hq hr
  go_enter Tryz.func95, Tryz.ntmps95
  go_wp2
  go_quiet (fail)
  go_wp2
  go_returns
  exact ⟨rfl, _, rfl⟩

end Go.Proofs.YtdifeoahaegjbaaGreatDoor
/- The contract of interval.Ratio, where the product is within all bounds. -/
namespace Go.Proofs.YtdifeoahaegjbaaGreatDoor
open Go.RowKit
set_option linter.unusedSimpArgs false
set_option linter.unusedVariables false

theorem prod_sign (a b : Int) : (¬ ((a < 0) ↔ (b < 0)) → a * b = -((a.natAbs * b.natAbs : Nat) : Int)) ∧ (((a < 0) ↔ (b < 0)) → a * b = ((a.natAbs * b.natAbs : Nat) : Int)) := by
  have h := Int.natAbs_mul a b
  constructor
  · intro hs
    have hle : a * b ≤ 0 := by
      by_cases ha : a < 0
      · exact Int.mul_nonpos_of_nonpos_of_nonneg (by omega) (by omega)
      · exact Int.mul_nonpos_of_nonneg_of_nonpos (by omega) (by omega)
    omega
  · intro hs
    have hle : 0 ≤ a * b := by
      by_cases ha : a < 0
      · exact Int.mul_nonneg_of_nonpos_of_nonpos (by omega) (by omega)
      · exact Int.mul_nonneg (by omega) (by omega)
    omega

/-- The numbers that come out of the division of sizes. -/
theorem up_down (x k : Nat) (hk : 1 ≤ k) :
    ((x : Int) / k = ((x / k : Nat) : Int)) ∧ (-(x : Int) / k = -(((x / k : Nat) : Int) + if x % k = 0 then 0 else 1)) := by
  constructor
  · simp
  · have h1 := Nat.div_add_mod x k
    have h2 := Nat.mod_lt x (show 0 < k by omega)
    have e : (x : Int) = (k : Int) * ((x / k : Nat) : Int) + ((x % k : Nat) : Int) := by
      rw [← Int.natCast_mul, ← Int.natCast_add, h1]
    generalize x / k = q at *
    generalize x % k = r at *
    split
    · rename_i h0
      rw [e, h0]
      simp only [Int.natCast_zero, Int.add_zero, Int.ofNat_zero]
      rw [← Int.mul_neg, Int.mul_ediv_cancel_left _ (by omega)]
    · rename_i h0
      have : -(x : Int) = (k : Int) * (-((q : Int) + 1)) + ((k : Int) - r) := by
        rw [e, Int.mul_neg, Int.mul_add]; omega
      rw [this, Int.mul_add_ediv_left _ _ (by omega), Int.ediv_eq_zero_of_lt (by omega) (by omega)]; omega

theorem ratio_val (a b : Int) (k q r : Nat) (hk : 1 ≤ k) (hq : q = a.natAbs * b.natAbs / k) (hr : r = a.natAbs * b.natAbs % k) :
    (¬ ((a < 0) ↔ (b < 0)) → a * b / k = -((q : Int) + if r = 0 then 0 else 1) ∧ upQ (a * b) k = -(q : Int)) ∧
    (((a < 0) ↔ (b < 0)) → a * b / k = q ∧ upQ (a * b) k = (q : Int) + if r = 0 then 0 else 1) := by
  have h := prod_sign a b
  have hu := up_down (a.natAbs * b.natAbs) k hk
  rw [← hq, ← hr] at hu
  unfold upQ
  constructor
  · intro hs
    rw [h.1 hs, Int.neg_neg]
    exact ⟨hu.2, by rw [hu.1]⟩
  · intro hs
    rw [h.2 hs]
    exact ⟨hu.1, by rw [hu.2, Int.neg_neg]⟩

end Go.Proofs.YtdifeoahaegjbaaGreatDoor
/- The contract of interval.Product. -/
namespace Go.Proofs.YtdifeoahaegjbaaGreatDoor
open Go.RowKit
set_option linter.unusedSimpArgs false
set_option linter.unusedVariables false

/-- The least of the quotients so far, as the loop comes to it, and the greatest. -/
def loAt (a b c d k : Int) : Nat → Int
  | 0 => 0
  | 1 => min (a * c / k) (a * c / k)
  | 2 => min (min (a * c / k) (a * c / k)) (a * d / k)
  | 3 => min (min (min (a * c / k) (a * c / k)) (a * d / k)) (b * c / k)
  | _ => min (min (min (min (a * c / k) (a * c / k)) (a * d / k)) (b * c / k)) (b * d / k)
def hiAt (a b c d k : Int) : Nat → Int
  | 0 => 0
  | 1 => max (upQ (a * c) k) (upQ (a * c) k)
  | 2 => max (max (upQ (a * c) k) (upQ (a * c) k)) (upQ (a * d) k)
  | 3 => max (max (max (upQ (a * c) k) (upQ (a * c) k)) (upQ (a * d) k)) (upQ (b * c) k)
  | _ => max (max (max (max (upQ (a * c) k) (upQ (a * c) k)) (upQ (a * d) k)) (upQ (b * c) k)) (upQ (b * d) k)
def pLo (a b c d : Int) (k : Int) : Int := min (min (min (min (a * c / k) (a * c / k)) (a * d / k)) (b * c / k)) (b * d / k)
def pHi (a b c d : Int) (k : Int) : Int := max (max (max (max (upQ (a * c) k) (upQ (a * c) k)) (upQ (a * d) k)) (upQ (b * c) k)) (upQ (b * d) k)

end Go.Proofs.YtdifeoahaegjbaaGreatDoor
/- The contracts of interval's operations, where nothing is beyond the bounds. -/
namespace Go.Proofs.YtdifeoahaegjbaaGreatDoor
open Go.RowKit
set_option linter.unusedSimpArgs false
set_option linter.unusedVariables false

/-- A valid interval. -/
structure IvOk (lo hi : Int) : Prop where
  l : -1000000000000000000 ≤ lo
  m : lo ≤ hi
  h : hi ≤ 1000000000000000000

theorem IvOk.chk {lo hi : Int} (h : IvOk lo hi) : chk lo hi = 0 := by
  obtain ⟨h1, h2, h3⟩ := h
  unfold Proofs.YtdifeoahaegjbaaGreatDoor.chk
  rw [if_neg (by omega), if_neg (by omega)]

/-- Four products of bounds, all within the bounds. -/
structure MulOk (a b c d : Int) : Prop where
  p0 : a.natAbs * c.natAbs ≤ 1000000000000000000
  p1 : a.natAbs * d.natAbs ≤ 1000000000000000000
  p2 : b.natAbs * c.natAbs ≤ 1000000000000000000
  p3 : b.natAbs * d.natAbs ≤ 1000000000000000000

end Go.Proofs.YtdifeoahaegjbaaGreatDoor
/- Plain laws on products of intervals. No program in sight. -/
namespace Go.Proofs.YtdifeoahaegjbaaGreatDoor
open Go.RowKit

theorem upQ_one (x : Int) : upQ x 1 = x := by unfold upQ; omega

theorem mul_bound {a c A C : Int} (h1 : -A ≤ a) (h2 : a ≤ A) (h3 : -C ≤ c) (h4 : c ≤ C) : -(A * C) ≤ a * c ∧ a * c ≤ A * C := by
  have hA : 0 ≤ A := by omega
  have e1 : 0 ≤ (A - a) * (C + c) := Int.mul_nonneg (by omega) (by omega)
  have e2 : 0 ≤ (A + a) * (C - c) := Int.mul_nonneg (by omega) (by omega)
  have e3 : 0 ≤ (A - a) * (C - c) := Int.mul_nonneg (by omega) (by omega)
  have e4 : 0 ≤ (A + a) * (C + c) := Int.mul_nonneg (by omega) (by omega)
  simp only [Int.sub_mul, Int.add_mul, Int.mul_sub, Int.mul_add] at e1 e2 e3 e4
  omega

theorem natAbs_bound {a c A C : Int} (h1 : -A ≤ a) (h2 : a ≤ A) (h3 : -C ≤ c) (h4 : c ≤ C) : ((a.natAbs * c.natAbs : Nat) : Int) ≤ A * C := by
  have h := mul_bound h1 h2 h3 h4
  rw [← Int.natAbs_mul]
  omega

/-- The product of two intervals within bounds: permitted, and in order. -/
theorem mulOk_of {a b c d A C : Int} (h1 : -A ≤ a) (h2 : a ≤ b) (h3 : b ≤ A) (g1 : -C ≤ c) (g2 : c ≤ d) (g3 : d ≤ C) (hm : A * C ≤ 1000000000000000000) : MulOk a b c d := by
  have p0 := natAbs_bound h1 (show a ≤ A by omega) g1 (show c ≤ C by omega)
  have p1 := natAbs_bound h1 (show a ≤ A by omega) (show -C ≤ d by omega) g3
  have p2 := natAbs_bound (show -A ≤ b by omega) h3 g1 (show c ≤ C by omega)
  have p3 := natAbs_bound (show -A ≤ b by omega) h3 (show -C ≤ d by omega) g3
  exact ⟨by omega, by omega, by omega, by omega⟩

theorem pLo_one (a b c d : Int) : pLo a b c d 1 = min (min (min (a * c) (a * d)) (b * c)) (b * d) := by unfold pLo; simp only [Int.ediv_one]; omega
theorem pHi_one (a b c d : Int) : pHi a b c d 1 = max (max (max (a * c) (a * d)) (b * c)) (b * d) := by unfold pHi; simp only [upQ_one]; omega

/-- Bounds of the product. -/
theorem p_bounds {a b c d A C : Int} (h1 : -A ≤ a) (h2 : a ≤ b) (h3 : b ≤ A) (g1 : -C ≤ c) (g2 : c ≤ d) (g3 : d ≤ C) : -(A * C) ≤ pLo a b c d 1 ∧ pLo a b c d 1 ≤ pHi a b c d 1 ∧ pHi a b c d 1 ≤ A * C := by
  have p0 := mul_bound h1 (show a ≤ A by omega) g1 (show c ≤ C by omega)
  have p1 := mul_bound h1 (show a ≤ A by omega) (show -C ≤ d by omega) g3
  have p2 := mul_bound (show -A ≤ b by omega) h3 g1 (show c ≤ C by omega)
  have p3 := mul_bound (show -A ≤ b by omega) h3 (show -C ≤ d by omega) g3
  rw [pLo_one, pHi_one]
  omega

/-- Between two numbers, a linear function is nowhere below its ends' least and nowhere above their greatest. -/
theorem lin_between {x a b c : Int} (h1 : a ≤ x) (h2 : x ≤ b) : min (a * c) (b * c) ≤ x * c ∧ x * c ≤ max (a * c) (b * c) := by
  rcases Int.le_total 0 c with h | h
  · have e1 := Int.mul_le_mul_of_nonneg_right h1 h
    have e2 := Int.mul_le_mul_of_nonneg_right h2 h
    omega
  · have e1 := Int.mul_le_mul_of_nonpos_right h1 h
    have e2 := Int.mul_le_mul_of_nonpos_right h2 h
    omega

/-- A product of members is in the product. -/
theorem p_contains {a b c d x y : Int} (h1 : a ≤ x) (h2 : x ≤ b) (g1 : c ≤ y) (g2 : y ≤ d) : pLo a b c d 1 ≤ x * y ∧ x * y ≤ pHi a b c d 1 := by
  rw [pLo_one, pHi_one]
  have e1 := lin_between (c := y) h1 h2
  have e2 := lin_between (c := a) g1 g2
  have e3 := lin_between (c := b) g1 g2
  simp only [Int.mul_comm c, Int.mul_comm d, Int.mul_comm y] at e2 e3
  omega

/-- The same with fractions. -/
theorem rlin_between {x a b c : Rat} (h1 : a ≤ x) (h2 : x ≤ b) : (a * c ≤ x * c ∨ b * c ≤ x * c) ∧ (x * c ≤ a * c ∨ x * c ≤ b * c) := by
  rcases Rat.le_total (a := 0) (b := c) with h | h
  · exact ⟨.inl (Rat.mul_le_mul_of_nonneg_right h1 h), .inr (Rat.mul_le_mul_of_nonneg_right h2 h)⟩
  · have e1 := Rat.mul_le_mul_of_nonneg_right h1 (show 0 ≤ -c by grind)
    have e2 := Rat.mul_le_mul_of_nonneg_right h2 (show 0 ≤ -c by grind)
    exact ⟨.inr (by grind), .inl (by grind)⟩
theorem rp_contains {a b c d : Int} {x y : Rat} (h1 : (a : Rat) ≤ x) (h2 : x ≤ (b : Rat)) (g1 : (c : Rat) ≤ y) (g2 : y ≤ (d : Rat)) : (pLo a b c d 1 : Rat) ≤ x * y ∧ x * y ≤ (pHi a b c d 1 : Rat) := by
  have k1 : pLo a b c d 1 ≤ a * c := by rw [pLo_one]; omega
  have k2 : pLo a b c d 1 ≤ a * d := by rw [pLo_one]; omega
  have k3 : pLo a b c d 1 ≤ b * c := by rw [pLo_one]; omega
  have k4 : pLo a b c d 1 ≤ b * d := by rw [pLo_one]; omega
  have m1 : a * c ≤ pHi a b c d 1 := by rw [pHi_one]; omega
  have m2 : a * d ≤ pHi a b c d 1 := by rw [pHi_one]; omega
  have m3 : b * c ≤ pHi a b c d 1 := by rw [pHi_one]; omega
  have m4 : b * d ≤ pHi a b c d 1 := by rw [pHi_one]; omega
  generalize pLo a b c d 1 = l at *
  generalize pHi a b c d 1 = h at *
  replace k1 := Rat.intCast_le_intCast.2 k1
  replace k2 := Rat.intCast_le_intCast.2 k2
  replace k3 := Rat.intCast_le_intCast.2 k3
  replace k4 := Rat.intCast_le_intCast.2 k4
  replace m1 := Rat.intCast_le_intCast.2 m1
  replace m2 := Rat.intCast_le_intCast.2 m2
  replace m3 := Rat.intCast_le_intCast.2 m3
  replace m4 := Rat.intCast_le_intCast.2 m4
  rw [Rat.intCast_mul] at k1 k2 k3 k4 m1 m2 m3 m4
  generalize (a : Rat) = a at *
  generalize (b : Rat) = b at *
  generalize (c : Rat) = c at *
  generalize (d : Rat) = d at *
  have e1 := rlin_between (c := y) h1 h2
  have e2 := rlin_between (c := a) g1 g2
  have e3 := rlin_between (c := b) g1 g2
  clear h1 h2 g1 g2
  grind
/-- A quotient by a positive number, rounded down and up. -/
theorem div_rat (x : Int) (k : Nat) (hk : 1 ≤ k) : ((x / (k : Int) : Int) : Rat) * (k : Rat) ≤ (x : Rat) ∧ (x : Rat) ≤ (upQ x k : Rat) * (k : Rat) := by
  have e1 : x / (k : Int) * (k : Int) ≤ x := Int.ediv_mul_le x (by omega)
  have e2 : x ≤ upQ x k * (k : Int) := by
    unfold upQ
    have := Int.ediv_mul_le (-x) (show (k : Int) ≠ 0 by omega)
    grind
  replace e1 := Rat.intCast_le_intCast.2 e1
  replace e2 := Rat.intCast_le_intCast.2 e2
  rw [Rat.intCast_mul, Rat.intCast_natCast] at e1 e2
  exact ⟨e1, e2⟩
end Go.Proofs.YtdifeoahaegjbaaGreatDoor
