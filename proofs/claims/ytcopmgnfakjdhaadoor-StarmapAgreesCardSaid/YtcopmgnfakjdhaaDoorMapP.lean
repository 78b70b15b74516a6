/- starmap, plain: the dots of a map. -/
import Derived.Test.YtcopmgnfakjdhaaDoorHeight
import Derived.Test.YtcopmgnfakjdhaaDoorStar
import Derived.Test.YtcopmgnfakjdhaaDoorParts
namespace Go.Proofs.YtcopmgnfakjdhaaDoor
open Go.RowKit
set_option linter.unusedSimpArgs false
set_option linter.unusedVariables false
def smRL (t : Int) (i : Nat) : Int := a0Lo (stRa i) 97300000 100 t
def smRH (t : Int) (i : Nat) : Int := a0Hi (stRa i) 97300000 100 t
theorem sm_lk {lon lat t : Int} (pl : PlOk lon lat) (ti : instOk t = true) {i : Nat} (hi : i < 8) : LkOk lon lat (smRL t i) (smRH t i) (stDec i - 100) (stDec i + 100) t := by
  have h : 0 ≤ smRL t i ∧ smRL t i < 1000000000 := by unfold smRL a0Lo; exact ⟨Int.emod_nonneg _ (by decide), Int.emod_lt_of_pos _ (by decide)⟩
  have g : ∀ (p : Prop) [Decidable p], 0 ≤ (if p then (1 : Int) else 0) ∧ (if p then (1 : Int) else 0) ≤ 1 := fun p _ => by split <;> omega
  have e : smRH t i = smRL t i + (2 * 100 + (if 0 < 97300000 * t % 86400000000000 then 1 else 0)) := rfl
  have q := g (0 < 97300000 * t % 86400000000000)
  have d : -249000000 ≤ stDec i ∧ stDec i ≤ 249000000 := by
    rcases (by omega : i = 0 ∨ i = 1 ∨ i = 2 ∨ i = 3 ∨ i = 4 ∨ i = 5 ∨ i = 6 ∨ i = 7) with rfl | rfl | rfl | rfl | rfl | rfl | rfl | rfl <;> decide
  generalize (if 0 < 97300000 * t % 86400000000000 then (1 : Int) else 0) = z at e q
  exact ⟨pl, by omega, by omega, by omega, by omega, by omega, by omega, ti⟩
def smHL (lon lat t : Int) (i : Nat) : Int := upLo lat (hhLo lon t (smRH t i)) (hhHi lon t (smRL t i)) (stDec i - 100) (stDec i + 100)
def smHH (lon lat t : Int) (i : Nat) : Int := upHi lat (hhLo lon t (smRH t i)) (hhHi lon t (smRL t i)) (stDec i - 100) (stDec i + 100)
def smXL (lon lat t : Int) (i : Nat) : Int := eaLo (hhLo lon t (smRH t i)) (hhHi lon t (smRL t i)) (stDec i - 100) (stDec i + 100)
def smXH (lon lat t : Int) (i : Nat) : Int := eaHi (hhLo lon t (smRH t i)) (hhHi lon t (smRL t i)) (stDec i - 100) (stDec i + 100)
def smYL (lon lat t : Int) (i : Nat) : Int := noLo lat (hhLo lon t (smRH t i)) (hhHi lon t (smRL t i)) (stDec i - 100) (stDec i + 100)
def smYH (lon lat t : Int) (i : Nat) : Int := noHi lat (hhLo lon t (smRH t i)) (hhHi lon t (smRL t i)) (stDec i - 100) (stDec i + 100)
def dotRow (lon lat t : Int) (i : Nat) : List Value := [.string (stN i), .int .i64 (smXL lon lat t i), .int .i64 (smXH lon lat t i), .int .i64 (smYL lon lat t i), .int .i64 (smYH lon lat t i), .bool (decide (0 < smHL lon lat t i))]
def dotN (lon lat t : Int) : Nat → Nat
  | 0 => 0
  | k + 1 => if smHH lon lat t k < 0 then dotN lon lat t k else dotN lon lat t k + 1
def dots (lon lat t : Int) : Nat → List Value
  | 0 => []
  | k + 1 => if smHH lon lat t k < 0 then dots lon lat t k else dots lon lat t k ++ dotRow lon lat t k
theorem dots_len (lon lat t : Int) : ∀ k, (dots lon lat t k).length = dotN lon lat t k * 6
  | 0 => rfl
  | k + 1 => by
    unfold dots dotN
    by_cases c : smHH lon lat t k < 0
    · rw [if_pos c, if_pos c, dots_len lon lat t k]
    · rw [if_neg c, if_neg c, List.length_append, dots_len lon lat t k, show (dotRow lon lat t k).length = 6 from rfl]; omega
theorem dotN_le (lon lat t : Int) : ∀ k, dotN lon lat t k ≤ k
  | 0 => Nat.le_refl _
  | k + 1 => by
    have := dotN_le lon lat t k
    unfold dotN; split <;> omega
theorem dotN_mono (lon lat t : Int) {j : Nat} : ∀ {k : Nat}, j ≤ k → dotN lon lat t j ≤ dotN lon lat t k
  | 0, h => by rw [show j = 0 by omega]; exact Nat.le_refl _
  | k + 1, h => by
    rcases Nat.lt_or_eq_of_le h with l | rfl
    · have := dotN_mono lon lat t (j := j) (k := k) (by omega)
      have e : dotN lon lat t k ≤ dotN lon lat t (k + 1) := by
        show dotN lon lat t k ≤ if smHH lon lat t k < 0 then dotN lon lat t k else dotN lon lat t k + 1
        split <;> omega
      omega
    · exact Nat.le_refl _
/-- The rows behind keep what stood. -/
theorem dots_keep (lon lat t : Int) {j : Nat} : ∀ {k : Nat}, j ≤ k → ∀ p, p < dotN lon lat t j * 6 → (dots lon lat t k)[p]? = (dots lon lat t j)[p]?
  | 0, h, p, hp => by rw [show j = 0 by omega]
  | k + 1, h, p, hp => by
    rcases Nat.lt_or_eq_of_le h with l | rfl
    · have ih := dots_keep lon lat t (k := k) (by omega) p hp
      have m := dotN_mono lon lat t (j := j) (k := k) (by omega)
      show (if smHH lon lat t k < 0 then dots lon lat t k else dots lon lat t k ++ dotRow lon lat t k)[p]? = _
      split
      · exact ih
      · rw [List.getElem?_append_left (by rw [dots_len]; omega)]; exact ih
    · rfl
/-- The row of a star that is not surely below. -/
theorem dots_at (lon lat t : Int) {i k : Nat} (hi : i < k) (h : ¬ smHH lon lat t i < 0) (c : Nat) (hc : c < 6) : (dots lon lat t k)[dotN lon lat t i * 6 + c]? = (dotRow lon lat t i)[c]? := by
  have e : dotN lon lat t (i + 1) = dotN lon lat t i + 1 := by
    show (if smHH lon lat t i < 0 then _ else _) = _
    rw [if_neg h]
  rw [dots_keep lon lat t (j := i + 1) (show i + 1 ≤ k by omega) _ (by rw [e]; omega)]
  show (if smHH lon lat t i < 0 then dots lon lat t i else dots lon lat t i ++ dotRow lon lat t i)[dotN lon lat t i * 6 + c]? = _
  rw [if_neg h, List.getElem?_append_right (by rw [dots_len]; omega), dots_len]
  congr 1; omega
/-- Each row is that of a star. -/
theorem dots_row (lon lat t : Int) : ∀ (k j : Nat), j < dotN lon lat t k → ∃ i, i < k ∧ ¬ smHH lon lat t i < 0 ∧ dotN lon lat t i = j
  | 0, j, h => by exact absurd h (Nat.not_lt_zero _)
  | k + 1, j, h => by
    by_cases c : smHH lon lat t k < 0
    · have e : dotN lon lat t (k + 1) = dotN lon lat t k := by show (if _ then _ else _) = _; rw [if_pos c]
      rw [e] at h
      obtain ⟨i, hi, g, q⟩ := dots_row lon lat t k j h
      exact ⟨i, by omega, g, q⟩
    · have e : dotN lon lat t (k + 1) = dotN lon lat t k + 1 := by show (if _ then _ else _) = _; rw [if_neg c]
      rw [e] at h
      rcases Nat.lt_or_eq_of_le (Nat.le_of_lt_succ h) with l | rfl
      · obtain ⟨i, hi, g, q⟩ := dots_row lon lat t k j l
        exact ⟨i, by omega, g, q⟩
      · exact ⟨k, by omega, c, rfl⟩
/-- How far an interval is from nothing. -/
theorem far_sq {l u : Int} (h : l ≤ u) : max (max 0 l) (-u) * max (max 0 l) (-u) ≤ sqL l u := by
  unfold sqL
  by_cases c : 0 < l
  · rw [if_pos (.inl c)]
    have e : max (max 0 l) (-u) = l := by omega
    rw [e]
    have : l * l ≤ u * u := Int.mul_le_mul h h (by omega) (by omega)
    omega
  · by_cases d : u < 0
    · rw [if_pos (.inr d)]
      have e : max (max 0 l) (-u) = -u := by omega
      rw [e]
      have : -u * -u ≤ -l * -l := Int.mul_le_mul (by omega) (by omega) (by omega) (by omega)
      have e1 : -u * -u = u * u := Int.neg_mul_neg _ _
      have e2 : -l * -l = l * l := Int.neg_mul_neg _ _
      omega
    · rw [if_neg (by omega)]
      have e : max (max 0 l) (-u) = 0 := by omega
      rw [e]
      decide
theorem sqL_nn (l u : Int) : 0 ≤ sqL l u := by
  unfold sqL
  split
  · have a : 0 ≤ l * l := by
      rcases Int.le_total 0 l with h | h
      · exact Int.mul_nonneg h h
      · have := Int.mul_nonneg (show 0 ≤ -l by omega) (show 0 ≤ -l by omega); rw [Int.neg_mul_neg] at this; exact this
    have b : 0 ≤ u * u := by
      rcases Int.le_total 0 u with h | h
      · exact Int.mul_nonneg h h
      · have := Int.mul_nonneg (show 0 ≤ -u by omega) (show 0 ≤ -u by omega); rw [Int.neg_mul_neg] at this; exact this
    omega
  · omega
end Go.Proofs.YtcopmgnfakjdhaaDoor
