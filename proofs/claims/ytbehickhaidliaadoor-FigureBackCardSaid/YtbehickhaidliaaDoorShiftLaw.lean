/- Plain: figures with whole coordinates: bounds, corners of a shifted figure, a map and its inverse. -/
import Derived.Test.YtbehickhaidliaaDoorMap
import Derived.Test.YtbehickhaidliaaDoorBoxF
import Derived.Test.YtbehickhaidliaaDoorText
namespace Go.Proofs.YtbehickhaidliaaDoor
set_option linter.unusedVariables false

theorem ptNums_congr {X Y X' Y' : Nat → Int} : ∀ n, (∀ i, i < n → X i = X' i ∧ Y i = Y' i) → ptNums X Y n = ptNums X' Y' n
  | 0, _ => rfl
  | n + 1, h => by
    unfold ptNums
    rw [ptNums_congr n (fun i hi => h i (by omega)), (h n (by omega)).1, (h n (by omega)).2]
/-- The least, the greatest of the first k whole numbers, and of the first one. -/
def mnF (X : Nat → Int) : Nat → Int
  | 0 => X 0
  | k + 1 => if X k < mnF X k then X k else mnF X k
def mgF (X : Nat → Int) : Nat → Int
  | 0 => X 0
  | k + 1 => if mgF X k < X k then X k else mgF X k
theorem mnF_succ (X : Nat → Int) (k : Nat) : mnF X (k + 1) = if X k < mnF X k then X k else mnF X k := rfl
theorem mgF_succ (X : Nat → Int) (k : Nat) : mgF X (k + 1) = if mgF X k < X k then X k else mgF X k := rfl
theorem mnF_shift (X : Nat → Int) (c : Int) : ∀ k, mnF (fun i => X i + c) k = mnF X k + c
  | 0 => rfl
  | k + 1 => by
    unfold mnF
    rw [mnF_shift X c k]
    split <;> split <;> omega
theorem mgF_shift (X : Nat → Int) (c : Int) : ∀ k, mgF (fun i => X i + c) k = mgF X k + c
  | 0 => rfl
  | k + 1 => by
    unfold mgF
    rw [mgF_shift X c k]
    split <;> split <;> omega
theorem mnF_bnd (X : Nat → Int) (n : Nat) (M : Int) (h0 : 0 < n) (h : ∀ i, i < n → -M ≤ X i ∧ X i ≤ M) : ∀ k, k ≤ n → -M ≤ mnF X k ∧ mnF X k ≤ M
  | 0, _ => h 0 h0
  | k + 1, hk => by
    have h1 := mnF_bnd X n M h0 h k (by omega)
    have h2 := h k (by omega)
    unfold mnF
    split <;> omega
theorem mgF_bnd (X : Nat → Int) (n : Nat) (M : Int) (h0 : 0 < n) (h : ∀ i, i < n → -M ≤ X i ∧ X i ≤ M) : ∀ k, k ≤ n → -M ≤ mgF X k ∧ mgF X k ≤ M
  | 0, _ => h 0 h0
  | k + 1, hk => by
    have h1 := mgF_bnd X n M h0 h k (by omega)
    have h2 := h k (by omega)
    unfold mgF
    split <;> omega
theorem lowF_whole (zs : List Int) (n : Nat) (X Y : Nat → Int) (h0 : 0 < n) (h : WholeN zs n X Y) : ∀ k, k ≤ n → lowF zs 0 k = (mnF X k, 1) ∧ lowF zs 2 k = (mnF Y k, 1)
  | 0, _ => by
    obtain ⟨a, b, c, d⟩ := h 0 h0
    exact ⟨by unfold lowF ptOf mnF; simp only [Nat.zero_mul, Nat.zero_add] at *; rw [a, b], by unfold lowF ptOf mnF; simp only [Nat.zero_mul, Nat.zero_add] at *; rw [c, d]⟩
  | k + 1, hk => by
    obtain ⟨e1, e2⟩ := lowF_whole zs n X Y h0 h k (by omega)
    obtain ⟨a, b, c, d⟩ := h k (by omega)
    have p0 : ptOf zs 0 k = (X k, 1) := by unfold ptOf; rw [Nat.add_zero, a, b]
    have p2 : ptOf zs 2 k = (Y k, 1) := by unfold ptOf; rw [c, d]
    refine ⟨?_, ?_⟩
    · rw [lowF_succ, e1, p0]; rw [mnF_succ]; simp only [Int.mul_one]; split <;> rfl
    · rw [lowF_succ, e2, p2]; rw [mnF_succ]; simp only [Int.mul_one]; split <;> rfl
theorem highF_whole (zs : List Int) (n : Nat) (X Y : Nat → Int) (h0 : 0 < n) (h : WholeN zs n X Y) : ∀ k, k ≤ n → highF zs 0 k = (mgF X k, 1) ∧ highF zs 2 k = (mgF Y k, 1)
  | 0, _ => by
    obtain ⟨a, b, c, d⟩ := h 0 h0
    exact ⟨by unfold highF ptOf mgF; simp only [Nat.zero_mul, Nat.zero_add] at *; rw [a, b], by unfold highF ptOf mgF; simp only [Nat.zero_mul, Nat.zero_add] at *; rw [c, d]⟩
  | k + 1, hk => by
    obtain ⟨e1, e2⟩ := highF_whole zs n X Y h0 h k (by omega)
    obtain ⟨a, b, c, d⟩ := h k (by omega)
    have p0 : ptOf zs 0 k = (X k, 1) := by unfold ptOf; rw [Nat.add_zero, a, b]
    have p2 : ptOf zs 2 k = (Y k, 1) := by unfold ptOf; rw [c, d]
    refine ⟨?_, ?_⟩
    · rw [highF_succ, e1, p0]; rw [mgF_succ]; simp only [Int.mul_one]; split <;> rfl
    · rw [highF_succ, e2, p2]; rw [mgF_succ]; simp only [Int.mul_one]; split <;> rfl
theorem shX_bnd (xs : List Int) (i : Nat) : -999 ≤ shX xs i ∧ shX xs i ≤ 999 := by
  have := tmod_lim (ix xs i)
  unfold shX; omega
theorem frOk_b {n : Int} (h : -2147483647 ≤ n ∧ n ≤ 2147483647) : FrOk n 1 := frOk_one h.1 h.2
/-- The numbers that a map comes by, from bounds. -/
theorem mapOk_of {a b c px py A B P Q : Int} (ha : -A ≤ a ∧ a ≤ A) (hb : -B ≤ b ∧ b ≤ B) (hc : -1000000 ≤ c ∧ c ≤ 1000000) (hp : -P ≤ px ∧ px ≤ P) (hq : -Q ≤ py ∧ py ≤ Q)
    (h1 : A * P ≤ 100000000) (h2 : B * Q ≤ 100000000) (hP : P ≤ 1000000) (hQ : Q ≤ 1000000) : MapOk a b c px py := by
  have u := int_abs_mul ha.1 ha.2 hp.1 hp.2
  have v := int_abs_mul hb.1 hb.2 hq.1 hq.2
  obtain ⟨x, hx⟩ : ∃ x, x = a * px := ⟨_, rfl⟩
  obtain ⟨y, hy⟩ : ∃ y, y = b * py := ⟨_, rfl⟩
  rw [← hx] at u; rw [← hy] at v
  refine ⟨frOk_one (by omega) (by omega), frOk_one (by omega) (by omega), ?_, ?_, ?_, ?_⟩
  · rw [← hx]; exact frOk_one (by omega) (by omega)
  · rw [← hy]; exact frOk_one (by omega) (by omega)
  · rw [← hx, ← hy]; exact frOk_one (by omega) (by omega)
  · rw [← hx, ← hy]; exact frOk_one (by omega) (by omega)
/-- A map of determinant 1 and its inverse. -/
theorem map_back (a b c d x y : Int) : (a * b + 1) * (1 * x + a * y + c) + (-a) * (b * x + (a * b + 1) * y + d) + (a * d - (a * b + 1) * c) = x ∧
    (-b) * (1 * x + a * y + c) + 1 * (b * x + (a * b + 1) * y + d) + (b * c - d) = y := by
  constructor
  · grind
  · grind
end Go.Proofs.YtbehickhaidliaaDoor
