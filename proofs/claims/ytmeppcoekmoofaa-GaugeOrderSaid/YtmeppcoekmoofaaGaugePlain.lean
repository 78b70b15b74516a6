/- Least squares, plain: sums over rows, small determinants, Cramer's rule. No program in sight. -/
import Derived.Test.YtmeppcoekmoofaaPlain
namespace Go.Proofs.Ytmeppcoekmoofaa
set_option linter.unusedVariables false

/-- A matrix: row k, column i. -/
abbrev Gm := Nat → Nat → Int
/-- The sum of f over the first m rows. -/
def sumTo (f : Nat → Int) : Nat → Int
  | 0 => 0
  | k + 1 => sumTo f k + f k
theorem sumTo_congr {f g : Nat → Int} (m : Nat) (h : ∀ k, k < m → f k = g k) : sumTo f m = sumTo g m := by
  induction m with
  | zero => rfl
  | succ m ih => unfold sumTo; rw [ih (fun k hk => h k (by omega)), h m (by omega)]
theorem sumTo_add (f g : Nat → Int) (m : Nat) : sumTo (fun k => f k + g k) m = sumTo f m + sumTo g m := by
  induction m with
  | zero => rfl
  | succ m ih => unfold sumTo; rw [ih]; omega
theorem sumTo_mul (c : Int) (f : Nat → Int) (m : Nat) : sumTo (fun k => c * f k) m = c * sumTo f m := by
  induction m with
  | zero => simp [sumTo]
  | succ m ih => unfold sumTo; rw [ih, Int.mul_add]
theorem sumTo_nonneg {f : Nat → Int} (m : Nat) (h : ∀ k, k < m → 0 ≤ f k) : 0 ≤ sumTo f m := by
  induction m with
  | zero => exact Int.le_refl 0
  | succ m ih => have := ih (fun k hk => h k (by omega)); have := h m (by omega); unfold sumTo; omega
theorem sumTo_bound {f : Nat → Int} {B : Int} (m : Nat) (h : ∀ k, k < m → -B ≤ f k ∧ f k ≤ B) : -(m * B) ≤ sumTo f m ∧ sumTo f m ≤ m * B := by
  induction m with
  | zero => simp [sumTo]
  | succ m ih =>
    have h1 := ih (fun k hk => h k (by omega))
    have h2 := h m (by omega)
    unfold sumTo
    have : ((m + 1 : Nat) : Int) * B = m * B + B := by rw [Int.natCast_add, Int.add_mul]; simp
    omega
theorem sumTo_zero_of_sq {f : Nat → Int} (m : Nat) (h : sumTo (fun k => f k * f k) m = 0) : ∀ k, k < m → f k = 0 := by
  induction m with
  | zero => intro k hk; omega
  | succ m ih =>
    have h1 : 0 ≤ sumTo (fun k => f k * f k) m := sumTo_nonneg m (fun k _ => by
      rcases Int.le_total 0 (f k) with h | h
      · exact Int.mul_nonneg h h
      · exact Int.mul_nonneg_of_nonpos_of_nonpos h h)
    have h2 : 0 ≤ f m * f m := by
      rcases Int.le_total 0 (f m) with h | h
      · exact Int.mul_nonneg h h
      · exact Int.mul_nonneg_of_nonpos_of_nonpos h h
    unfold sumTo at h
    intro k hk
    rcases Nat.lt_or_eq_of_le (Nat.le_of_lt_succ hk) with h3 | rfl
    · exact ih (by omega) k h3
    · have : f k * f k = 0 := by omega
      rcases Int.mul_eq_zero.1 this with h | h <;> exact h

/-- A cyclic turn of the rows makes no difference to a sum. -/
def turnI (m t k : Nat) : Nat := if k < m - t then t + k else k - (m - t)
theorem sumTo_split (f : Nat → Int) (a b : Nat) : sumTo f (a + b) = sumTo f a + sumTo (fun k => f (a + k)) b := by
  induction b with
  | zero => simp [sumTo]
  | succ b ih =>
    have e1 : sumTo f (a + (b + 1)) = sumTo f (a + b) + f (a + b) := rfl
    have e2 : sumTo (fun k => f (a + k)) (b + 1) = sumTo (fun k => f (a + k)) b + f (a + b) := rfl
    rw [e1, e2, ih]; omega
theorem sumTo_turn (f : Nat → Int) (m t : Nat) (ht : t ≤ m) : sumTo (fun k => f (turnI m t k)) m = sumTo f m := by
  have e : m = (m - t) + t := by omega
  have e2 : m = t + (m - t) := by omega
  have h1 : sumTo (fun k => f (turnI m t k)) ((m - t) + t) = sumTo (fun k => f (t + k)) (m - t) + sumTo f t := by
    rw [sumTo_split]
    congr 1
    · exact sumTo_congr _ (fun k hk => by unfold turnI; rw [if_pos hk])
    · exact sumTo_congr _ (fun k hk => by unfold turnI; rw [if_neg (by omega)]; congr 1; omega)
  have h2 : sumTo f (t + (m - t)) = sumTo f t + sumTo (fun k => f (t + k)) (m - t) := sumTo_split f t (m - t)
  rw [← e] at h1
  rw [← e2] at h2
  omega

/-- What the factors of least squares satisfy: the matrix, the right side. -/
def gm (R : Gm) (m : Nat) (i j : Nat) : Int := sumTo (fun k => R k i * R k j) m
def gr (R : Gm) (H : Nat → Int) (m : Nat) (i : Nat) : Int := sumTo (fun k => R k i * H k) m

def det2 (M : Gm) : Int := M 0 0 * M 1 1 - M 0 1 * M 1 0
/-- The matrix with column k turned to c. -/
def colSet (M : Gm) (k : Nat) (c : Nat → Int) : Gm := fun i j => if j = k then c i else M i j

/-- det of the sums of two columns is never below 0. -/
theorem gram2_nonneg (R : Gm) (m : Nat) : 0 ≤ det2 (gm R m) := by
  obtain ⟨A, hA⟩ : ∃ x, x = gm R m 0 0 := ⟨_, rfl⟩
  obtain ⟨B, hB⟩ : ∃ x, x = gm R m 1 1 := ⟨_, rfl⟩
  obtain ⟨C, hC⟩ : ∃ x, x = gm R m 0 1 := ⟨_, rfl⟩
  have hC2 : gm R m 1 0 = C := by rw [hC]; exact sumTo_congr m (fun k _ => Int.mul_comm _ _)
  have hB0 : 0 ≤ B := by
    rw [hB]
    exact sumTo_nonneg m (fun k _ => by
      rcases Int.le_total 0 (R k 1) with h | h
      · exact Int.mul_nonneg h h
      · exact Int.mul_nonneg_of_nonpos_of_nonpos h h)
  have key : sumTo (fun k => (B * R k 0 - C * R k 1) * (B * R k 0 - C * R k 1)) m = B * (A * B - C * C) := by
    have e : ∀ k, (B * R k 0 - C * R k 1) * (B * R k 0 - C * R k 1) = (B * B) * (R k 0 * R k 0) + ((-2 * B * C) * (R k 0 * R k 1) + (C * C) * (R k 1 * R k 1)) := by
      intro k; grind
    rw [sumTo_congr m (fun k _ => e k), sumTo_add, sumTo_add, sumTo_mul, sumTo_mul, sumTo_mul]
    show B * B * gm R m 0 0 + (-2 * B * C * gm R m 0 1 + C * C * gm R m 1 1) = _
    rw [← hA, ← hB, ← hC]; grind
  have hk : 0 ≤ B * (A * B - C * C) := by
    rw [← key]
    exact sumTo_nonneg m (fun k _ => by
      rcases Int.le_total 0 (B * R k 0 - C * R k 1) with h | h
      · exact Int.mul_nonneg h h
      · exact Int.mul_nonneg_of_nonpos_of_nonpos h h)
  have hd : det2 (gm R m) = A * B - C * C := by unfold det2; rw [hC2, ← hA, ← hB, ← hC]
  rw [hd]
  rcases Int.lt_or_eq_of_le hB0 with h | h
  · exact Int.le_of_mul_le_mul_left (a := B) (by rw [Int.mul_zero]; exact hk) h
  · have hg0 : gm R m 1 1 = 0 := by omega
    have hz : ∀ k, k < m → R k 1 = 0 := sumTo_zero_of_sq m hg0
    have hc0 : C = 0 := by
      rw [hC]
      unfold gm
      rw [sumTo_congr (g := fun _ => 0 * 0) m (fun k hk => by rw [hz k hk]; simp), sumTo_mul]; simp
    rw [hc0, ← h]; simp

/-- The divisor by which all is divided. -/
def fitG (D : Int) (N : Nat → Int) : Nat → Int
  | 0 => D
  | k + 1 => (Int.gcd (fitG D N k) (N k) : Int)
theorem fitG_dvd (D : Int) (N : Nat → Int) (k : Nat) : fitG D N k ∣ D ∧ ∀ j, j < k → fitG D N k ∣ N j := by
  induction k with
  | zero => exact ⟨Int.dvd_refl _, fun j hj => by omega⟩
  | succ k ih =>
    have h1 : fitG D N (k + 1) ∣ fitG D N k := Int.gcd_dvd_left ..
    refine ⟨Int.dvd_trans h1 ih.1, fun j hj => ?_⟩
    rcases Nat.lt_or_eq_of_le (Nat.le_of_lt_succ hj) with h | rfl
    · exact Int.dvd_trans h1 (ih.2 j h)
    · exact Int.gcd_dvd_right ..
theorem fitG_pos {D : Int} {N : Nat → Int} (hD : 0 < D) (k : Nat) : 0 < fitG D N k := by
  have h := (fitG_dvd D N k).1
  have h0 : fitG D N k ≠ 0 := fun e => by rw [e] at h; have := Int.zero_dvd.1 h; omega
  cases k with
  | zero => exact hD
  | succ k =>
    have : (0 : Int) ≤ fitG D N (k + 1) := Int.natCast_nonneg _
    omega
theorem fitG_ne {D : Int} {N : Nat → Int} (hD : D ≠ 0) (k : Nat) : fitG D N k ≠ 0 := by
  have h := (fitG_dvd D N k).1
  intro e
  rw [e] at h
  exact hD (Int.zero_dvd.1 h)

theorem sq_nonneg' (x : Int) : 0 ≤ x * x := by
  rcases Int.le_total 0 x with h | h
  · exact Int.mul_nonneg h h
  · exact Int.mul_nonneg_of_nonpos_of_nonpos h h

theorem gm_sym (R : Gm) (m i j : Nat) : gm R m i j = gm R m j i := sumTo_congr m (fun k _ => Int.mul_comm _ _)

/-- Cramer's rule, two columns. -/
theorem cramer2 (M : Gm) (r : Nat → Int) (i : Nat) (hi : i < 2) : M i 0 * det2 (colSet M 0 r) + M i 1 * det2 (colSet M 1 r) = det2 M * r i := by
  have e0 : det2 (colSet M 0 r) = r 0 * M 1 1 - M 0 1 * r 1 := rfl
  have e1 : det2 (colSet M 1 r) = M 0 0 * r 1 - r 0 * M 1 0 := rfl
  rw [e0, e1]
  unfold det2
  match i, hi with
  | 0, _ => grind
  | 1, _ => grind

/-- Heights that the factors F0, F1 make. -/
theorem exact2 (R : Gm) (m : Nat) (F0 F1 : Int) (H : Nat → Int) (hH : ∀ k, k < m → H k = R k 0 * F0 + R k 1 * F1) :
    det2 (colSet (gm R m) 0 (gr R H m)) = F0 * det2 (gm R m) ∧ det2 (colSet (gm R m) 1 (gr R H m)) = F1 * det2 (gm R m) ∧ sumTo (fun k => H k * H k) m = F0 * gr R H m 0 + F1 * gr R H m 1 := by
  have hr : ∀ i, gr R H m i = F0 * gm R m i 0 + F1 * gm R m i 1 := fun i => by
    unfold gr gm
    rw [sumTo_congr (g := fun k => F0 * (R k i * R k 0) + F1 * (R k i * R k 1)) m (fun k hk => by rw [hH k hk]; grind), sumTo_add, sumTo_mul, sumTo_mul]
  have e0 : det2 (colSet (gm R m) 0 (gr R H m)) = gr R H m 0 * gm R m 1 1 - gm R m 0 1 * gr R H m 1 := rfl
  have e1 : det2 (colSet (gm R m) 1 (gr R H m)) = gm R m 0 0 * gr R H m 1 - gr R H m 0 * gm R m 1 0 := rfl
  refine ⟨?_, ?_, ?_⟩
  · rw [e0, hr 0, hr 1]; unfold det2; have := gm_sym R m 0 1; grind
  · rw [e1, hr 0, hr 1]; unfold det2; have := gm_sym R m 0 1; grind
  · unfold gr
    rw [sumTo_congr (g := fun k => F0 * (R k 0 * H k) + F1 * (R k 1 * H k)) m (fun k hk => by rw [show H k * H k = (R k 0 * F0 + R k 1 * F1) * H k by rw [← hH k hk]]; grind), sumTo_add, sumTo_mul, sumTo_mul]

/-- The sum of squares at other factors. -/
theorem quad2 (R : Gm) (m : Nat) (H : Nat → Int) (c x y : Int) : sumTo (fun k => (c * H k - R k 0 * x - R k 1 * y) * (c * H k - R k 0 * x - R k 1 * y)) m
    = c * c * sumTo (fun k => H k * H k) m - 2 * c * x * gr R H m 0 - 2 * c * y * gr R H m 1 + x * x * gm R m 0 0 + 2 * x * y * gm R m 0 1 + y * y * gm R m 1 1 := by
  have e : ∀ k, (c * H k - R k 0 * x - R k 1 * y) * (c * H k - R k 0 * x - R k 1 * y)
      = (c * c) * (H k * H k) + ((-(2 * c * x)) * (R k 0 * H k) + ((-(2 * c * y)) * (R k 1 * H k) + ((x * x) * (R k 0 * R k 0) + ((2 * x * y) * (R k 0 * R k 1) + (y * y) * (R k 1 * R k 1))))) := by
    intro k; grind
  rw [sumTo_congr m (fun k _ => e k), sumTo_add, sumTo_add, sumTo_add, sumTo_add, sumTo_add, sumTo_mul, sumTo_mul, sumTo_mul, sumTo_mul, sumTo_mul, sumTo_mul]
  unfold gr gm
  grind

/-- GaugeLeast, plain: d is the denominator, x, y the factors; n the residual. -/
theorem least2 (R : Gm) (m : Nat) (H : Nat → Int) (d x y F0 F1 n : Int) (hd : 0 < d) (h0 : gm R m 0 0 * x + gm R m 0 1 * y = d * gr R H m 0) (h1 : gm R m 1 0 * x + gm R m 1 1 * y = d * gr R H m 1)
    (hn : n = d * sumTo (fun k => H k * H k) m - x * gr R H m 0 - y * gr R H m 1) :
    0 ≤ n ∧ n ≤ d * sumTo (fun k => (H k - R k 0 * F0 - R k 1 * F1) * (H k - R k 0 * F0 - R k 1 * F1)) m := by
  obtain ⟨S, hS⟩ : ∃ S, S = sumTo (fun k => H k * H k) m := ⟨_, rfl⟩
  have hs := gm_sym R m 1 0
  have q1 := quad2 R m H d x y
  have q2 := quad2 R m H 1 F0 F1
  have q3 := quad2 R m H 0 (d * F0 - x) (d * F1 - y)
  have p1 : 0 ≤ sumTo (fun k => (d * H k - R k 0 * x - R k 1 * y) * (d * H k - R k 0 * x - R k 1 * y)) m := sumTo_nonneg m (fun k _ => sq_nonneg' _)
  have p3 : 0 ≤ sumTo (fun k => (0 * H k - R k 0 * (d * F0 - x) - R k 1 * (d * F1 - y)) * (0 * H k - R k 0 * (d * F0 - x) - R k 1 * (d * F1 - y))) m := sumTo_nonneg m (fun k _ => sq_nonneg' _)
  have e2 : sumTo (fun k => (1 * H k - R k 0 * F0 - R k 1 * F1) * (1 * H k - R k 0 * F0 - R k 1 * F1)) m = sumTo (fun k => (H k - R k 0 * F0 - R k 1 * F1) * (H k - R k 0 * F0 - R k 1 * F1)) m :=
    sumTo_congr m (fun k _ => by rw [Int.one_mul])
  rw [e2] at q2
  rw [q1] at p1
  rw [q3] at p3
  rw [q2]
  rw [← hS] at p1 p3 hn ⊢
  rw [hs] at h1
  generalize gm R m 0 0 = a at *
  generalize gm R m 0 1 = b at *
  generalize gm R m 1 1 = c at *
  generalize gr R H m 0 = r0 at *
  generalize gr R H m 1 = r1 at *
  have k1 : d * n = d * d * S - 2 * d * x * r0 - 2 * d * y * r1 + x * x * a + 2 * x * y * b + y * y * c := by
    have : x * x * a + 2 * x * y * b + y * y * c = x * (a * x + b * y) + y * (b * x + c * y) := by grind
    have e := this
    rw [h0, h1] at e
    rw [hn]
    grind
  have k2 : d * (d * (1 * 1 * S - 2 * 1 * F0 * r0 - 2 * 1 * F1 * r1 + F0 * F0 * a + 2 * F0 * F1 * b + F1 * F1 * c) - n) = 0 * 0 * S - 2 * 0 * (d * F0 - x) * r0 - 2 * 0 * (d * F1 - y) * r1 + (d * F0 - x) * (d * F0 - x) * a + 2 * (d * F0 - x) * (d * F1 - y) * b + (d * F1 - y) * (d * F1 - y) * c := by
    have e1 : (d * F0 - x) * (d * F0 - x) * a + 2 * (d * F0 - x) * (d * F1 - y) * b + (d * F1 - y) * (d * F1 - y) * c = d * d * (F0 * F0 * a + 2 * F0 * F1 * b + F1 * F1 * c) - 2 * d * (F0 * (a * x + b * y) + F1 * (b * x + c * y)) + (x * (a * x + b * y) + y * (b * x + c * y)) := by grind
    rw [Int.mul_sub d, k1]
    have e2 : x * x * a + 2 * x * y * b + y * y * c = x * (a * x + b * y) + y * (b * x + c * y) := by grind
    rw [h0, h1] at e1 e2
    grind
  constructor
  · exact Int.le_of_mul_le_mul_left (a := d) (by rw [Int.mul_zero, k1]; exact p1) hd
  · have : 0 ≤ d * (1 * 1 * S - 2 * 1 * F0 * r0 - 2 * 1 * F1 * r1 + F0 * F0 * a + 2 * F0 * F1 * b + F1 * F1 * c) - n :=
      Int.le_of_mul_le_mul_left (a := d) (by rw [Int.mul_zero, k2]; exact p3) hd
    omega

/-- The determinant as the program takes it: along the first row. -/
def minorM (M : Gm) (k : Nat) : Gm := fun i j => M (i + 1) (if j < k then j else j + 1)
def sgn (k : Nat) : Int := if k % 2 = 0 then 1 else -1
def detS (f : Gm → Int) (M : Gm) : Nat → Int
  | 0 => 0
  | k + 1 => detS f M k + sgn k * M 0 k * f (minorM M k)
def detF : Nat → Gm → Int
  | 0 => fun _ => 0
  | 1 => fun M => M 0 0
  | n + 2 => fun M => detS (detF (n + 1)) M (n + 2)
theorem detF_two (M : Gm) : detF 2 M = det2 M := by
  have e : detF 2 M = 0 + sgn 0 * M 0 0 * M (0 + 1) 1 + sgn 1 * M 0 1 * M (0 + 1) 0 := rfl
  rw [e]
  unfold det2
  have s0 : sgn 0 = 1 := rfl
  have s1 : sgn 1 = -1 := rfl
  rw [s0, s1]
  grind
theorem sgn_succ (k : Nat) : sgn (k + 1) = -sgn k := by unfold sgn; split <;> split <;> omega
theorem sgn_cases (k : Nat) : sgn k = 1 ∨ sgn k = -1 := by unfold sgn; split <;> simp

theorem mul_abs {a b A B : Int} (ha : -A ≤ a ∧ a ≤ A) (hb : -B ≤ b ∧ b ≤ B) : -(A * B) ≤ a * b ∧ a * b ≤ A * B := by
  have hA : 0 ≤ A := by omega
  have hB : 0 ≤ B := by omega
  have h : (a * b).natAbs ≤ A.natAbs * B.natAbs := by
    rw [Int.natAbs_mul]
    exact Nat.mul_le_mul (by omega) (by omega)
  have h2 : ((A.natAbs * B.natAbs : Nat) : Int) = A * B := by rw [Int.natCast_mul, Int.natAbs_of_nonneg hA, Int.natAbs_of_nonneg hB]
  omega
/-- All entries are small. -/
def Small (n : Nat) (M : Gm) : Prop := ∀ i j, i < n → j < n → -100000 ≤ M i j ∧ M i j ≤ 100000
theorem Small.minor {n k : Nat} {M : Gm} (h : Small (n + 1) M) : Small n (minorM M k) := fun i j hi hj => by
  unfold minorM
  exact h (i + 1) _ (by omega) (by split <;> omega)
/-- How great a determinant of small entries can be. -/
def dB (n : Nat) : Int := if n = 1 then 100000 else if n = 2 then 20000000000 else 6000000000000000
theorem detS_bound {f : Gm → Int} {M : Gm} {n : Nat} {B : Int} (hM : Small n M) (hf : ∀ k, k < n → -B ≤ f (minorM M k) ∧ f (minorM M k) ≤ B) (k : Nat) (hk : k ≤ n) : -(k * (100000 * B)) ≤ detS f M k ∧ detS f M k ≤ k * (100000 * B) := by
  induction k with
  | zero => simp [detS]
  | succ k ih =>
    have h1 := ih (by omega)
    have h2 := hM 0 k (by omega) (by omega)
    have h3 : -100000 ≤ sgn k * M 0 k ∧ sgn k * M 0 k ≤ 100000 := by rcases sgn_cases k with e | e <;> rw [e] <;> omega
    have h4 := mul_abs h3 (hf k (by omega))
    have e : ((k + 1 : Nat) : Int) * (100000 * B) = k * (100000 * B) + 100000 * B := by rw [Int.natCast_add, Int.add_mul]; simp
    have e2 : detS f M (k + 1) = detS f M k + sgn k * M 0 k * f (minorM M k) := rfl
    rw [e, e2]
    omega
theorem detF_bound {n : Nat} {M : Gm} (h1 : 1 ≤ n) (h3 : n ≤ 3) (h : Small n M) : -dB n ≤ detF n M ∧ detF n M ≤ dB n := by
  match n, h1, h3 with
  | 1, _, _ => exact h 0 0 (by omega) (by omega)
  | 2, _, _ =>
    have := detS_bound (f := detF 1) (M := M) (n := 2) (B := 100000) h (fun k _ => h.minor (k := k) 0 0 (by omega) (by omega)) 2 (by omega)
    have e : detF 2 M = detS (detF 1) M 2 := rfl
    rw [e]; unfold dB; simp; omega
  | 3, _, _ =>
    have h2 : ∀ N : Gm, Small 2 N → -20000000000 ≤ detF 2 N ∧ detF 2 N ≤ 20000000000 := fun N hN => by
      have := detS_bound (f := detF 1) (M := N) (n := 2) (B := 100000) hN (fun k _ => hN.minor (k := k) 0 0 (by omega) (by omega)) 2 (by omega)
      have e : detF 2 N = detS (detF 1) N 2 := rfl
      rw [e]; omega
    have := detS_bound (f := detF 2) (M := M) (n := 3) (B := 20000000000) h (fun k _ => h2 _ (h.minor (k := k))) 3 (by omega)
    have e : detF 3 M = detS (detF 2) M 3 := rfl
    rw [e]; unfold dB; simp; omega

end Go.Proofs.Ytmeppcoekmoofaa
