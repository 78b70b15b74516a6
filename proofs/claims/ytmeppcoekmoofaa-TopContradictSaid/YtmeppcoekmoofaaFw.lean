/- Chronologies, plain: the matrix of the farthest days (Floyd and Warshall's steps, in place), its laws. No program in sight. -/
import Derived.WalkKit
namespace Go.Proofs.Ytmeppcoekmoofaa
set_option linter.unusedVariables false

abbrev Mx := Nat → Nat → Int
/-- 'Far': no bound. -/
def far : Int := 1000000000
def updM (M : Mx) (i j : Nat) (v : Int) : Mx := fun a b => if a = i ∧ b = j then v else M a b
def relax (k i j : Nat) (M : Mx) : Mx := if M i k < far ∧ M k j < far then updM M i j (min (M i j) (M i k + M k j)) else M
def rowS (k i : Nat) (M : Mx) : Nat → Mx
  | 0 => M
  | j + 1 => relax k i j (rowS k i M j)
def sweep (n k : Nat) (M : Mx) : Nat → Mx
  | 0 => M
  | i + 1 => rowS k i (sweep n k M i) n
def fw (n : Nat) (M : Mx) : Nat → Mx
  | 0 => M
  | k + 1 => sweep n k (fw n M k) n

def Leq (n : Nat) (M N : Mx) : Prop := ∀ i j, i < n → j < n → M i j ≤ N i j
/-- A closed matrix. -/
def Cl (n : Nat) (C : Mx) : Prop := ∀ i k j, i < n → k < n → j < n → C i k < far → C k j < far → C i j ≤ C i k + C k j

theorem Leq.refl (n : Nat) (M : Mx) : Leq n M M := fun _ _ _ _ => Int.le_refl _
theorem Leq.trans {n : Nat} {A B C : Mx} (h : Leq n A B) (k : Leq n B C) : Leq n A C := fun i j hi hj => Int.le_trans (h i j hi hj) (k i j hi hj)

theorem relax_at (k i j : Nat) (M : Mx) (a b : Nat) : relax k i j M a b = if M i k < far ∧ M k j < far ∧ a = i ∧ b = j then min (M i j) (M i k + M k j) else M a b := by
  unfold relax updM
  by_cases h : M i k < far ∧ M k j < far
  · rw [if_pos h]
    by_cases h2 : a = i ∧ b = j
    · rw [if_pos h2, if_pos ⟨h.1, h.2, h2⟩]
    · rw [if_neg h2, if_neg (fun h3 => h2 h3.2.2)]
  · rw [if_neg h, if_neg (fun h3 => h ⟨h3.1, h3.2.1⟩)]

theorem relax_le (n k i j : Nat) (M : Mx) : Leq n (relax k i j M) M := by
  intro a b _ _
  rw [relax_at]
  split
  · rename_i h; rw [h.2.2.1, h.2.2.2]; omega
  · omega
theorem rowS_le (n k i : Nat) (M : Mx) (m : Nat) : Leq n (rowS k i M m) M := by
  induction m with
  | zero => exact Leq.refl _ _
  | succ m ih => exact (relax_le n k i m _).trans ih
theorem sweep_le (n k : Nat) (M : Mx) (m : Nat) : Leq n (sweep n k M m) M := by
  induction m with
  | zero => exact Leq.refl _ _
  | succ m ih => exact (rowS_le n k m _ n).trans ih
theorem fw_le (n : Nat) (M : Mx) (m : Nat) : Leq n (fw n M m) M := by
  induction m with
  | zero => exact Leq.refl _ _
  | succ m ih => exact (sweep_le n m _ n).trans ih

theorem relax_mono {n k i j : Nat} {M N : Mx} (hk : k < n) (hi : i < n) (hj : j < n) (h : Leq n M N) : Leq n (relax k i j M) (relax k i j N) := by
  intro a b ha hb
  have h1 := h i k hi hk
  have h2 := h k j hk hj
  have h3 := h i j hi hj
  have h4 := h a b ha hb
  rw [relax_at, relax_at]
  split
  · rename_i c
    split
    · omega
    · rw [c.2.2.1, c.2.2.2] at h4 ⊢; omega
  · rename_i c
    split
    · rename_i d
      exact absurd ⟨by omega, by omega, d.2.2⟩ c
    · exact h4
theorem rowS_mono {n k i m : Nat} {M N : Mx} (hk : k < n) (hi : i < n) (hm : m ≤ n) (h : Leq n M N) : Leq n (rowS k i M m) (rowS k i N m) := by
  induction m with
  | zero => exact h
  | succ m ih => exact relax_mono hk hi (by omega) (ih (by omega))
theorem sweep_mono {n k m : Nat} {M N : Mx} (hk : k < n) (hm : m ≤ n) (h : Leq n M N) : Leq n (sweep n k M m) (sweep n k N m) := by
  induction m with
  | zero => exact h
  | succ m ih => exact rowS_mono hk (by omega) (Nat.le_refl _) (ih (by omega))
theorem fw_mono {n m : Nat} {M N : Mx} (hm : m ≤ n) (h : Leq n M N) : Leq n (fw n M m) (fw n N m) := by
  induction m with
  | zero => exact h
  | succ m ih => exact sweep_mono (by omega) (Nat.le_refl _) (ih (by omega))

theorem relax_above {n k i j : Nat} {C M : Mx} (hk : k < n) (hi : i < n) (hj : j < n) (hC : Cl n C) (h : Leq n C M) : Leq n C (relax k i j M) := by
  intro a b ha hb
  have h1 := h i k hi hk
  have h2 := h k j hk hj
  have h3 := h i j hi hj
  rw [relax_at]
  split
  · rename_i c
    rw [c.2.2.1, c.2.2.2]
    have := hC i k j hi hk hj (by omega) (by omega)
    omega
  · exact h a b ha hb
theorem rowS_above {n k i m : Nat} {C M : Mx} (hk : k < n) (hi : i < n) (hm : m ≤ n) (hC : Cl n C) (h : Leq n C M) : Leq n C (rowS k i M m) := by
  induction m with
  | zero => exact h
  | succ m ih => exact relax_above hk hi (by omega) hC (ih (by omega))
theorem sweep_above {n k m : Nat} {C M : Mx} (hk : k < n) (hm : m ≤ n) (hC : Cl n C) (h : Leq n C M) : Leq n C (sweep n k M m) := by
  induction m with
  | zero => exact h
  | succ m ih => exact rowS_above hk (by omega) (Nat.le_refl _) hC (ih (by omega))
theorem fw_above {n m : Nat} {C M : Mx} (hm : m ≤ n) (hC : Cl n C) (h : Leq n C M) : Leq n C (fw n M m) := by
  induction m with
  | zero => exact h
  | succ m ih => exact sweep_above (by omega) (Nat.le_refl _) hC (ih (by omega))

/-- All at once. -/
def sim (k : Nat) (M : Mx) : Mx := fun i j => if M i k < far ∧ M k j < far then min (M i j) (M i k + M k j) else M i j

theorem sim_col {k : Nat} {M : Mx} (hd : 0 ≤ M k k) (i : Nat) : sim k M i k = M i k := by
  unfold sim; split <;> omega
theorem sim_row {k : Nat} {M : Mx} (hd : 0 ≤ M k k) (j : Nat) : sim k M k j = M k j := by
  unfold sim; split <;> omega

/-- A sweep as far as row i, column j. -/
def Part (k n : Nat) (M : Mx) (i j : Nat) (S : Mx) : Prop := ∀ a b, S a b = if (a < i ∧ b < n) ∨ (a = i ∧ b < j) then sim k M a b else M a b

theorem part_row {k n : Nat} {M S : Mx} {i : Nat} (hd : 0 ≤ M k k) (hp : Part k n M i 0 S) (m : Nat) (hm : m ≤ n) : Part k n M i m (rowS k i S m) := by
  induction m with
  | zero => exact hp
  | succ m ih =>
    have ih := ih (by omega)
    intro a b
    have e1 : rowS k i S m i k = M i k := by rw [ih i k]; split; exact sim_col hd i; rfl
    have e2 : rowS k i S m k m = M k m := by rw [ih k m]; split; exact sim_row hd m; rfl
    have e3 : rowS k i S m i m = M i m := by rw [ih i m, if_neg (by omega)]
    show relax k i m (rowS k i S m) a b = _
    rw [relax_at, e1, e2, e3]
    by_cases hab : a = i ∧ b = m
    · obtain ⟨rfl, rfl⟩ := hab
      rw [if_pos (show (a < a ∧ b < n) ∨ (a = a ∧ b < b + 1) from Or.inr ⟨rfl, by omega⟩)]
      unfold sim
      by_cases hf : M a k < far ∧ M k b < far
      · rw [if_pos hf, if_pos ⟨hf.1, hf.2, rfl, rfl⟩]
      · rw [if_neg hf, if_neg (fun h => hf ⟨h.1, h.2.1⟩), e3]
    · rw [if_neg (fun h => hab h.2.2), ih a b]
      by_cases hc : (a < i ∧ b < n) ∨ (a = i ∧ b < m)
      · rw [if_pos hc, if_pos (by omega)]
      · rw [if_neg hc, if_neg (by omega)]

theorem part_sweep {k n : Nat} {M : Mx} (hd : 0 ≤ M k k) (m : Nat) : Part k n M m 0 (sweep n k M m) := by
  induction m with
  | zero =>
    intro a b
    rw [if_neg (by omega)]
    rfl
  | succ m ih =>
    have := part_row hd ih n (Nat.le_refl _)
    intro a b
    show rowS k m (sweep n k M m) n a b = _
    rw [this a b]
    by_cases hc : (a < m ∧ b < n) ∨ (a = m ∧ b < n)
    · rw [if_pos hc, if_pos (by omega)]
    · rw [if_neg hc, if_neg (by omega)]

theorem sweep_sim {k n : Nat} {M : Mx} (hd : 0 ≤ M k k) {i j : Nat} (hi : i < n) (hj : j < n) : sweep n k M n i j = sim k M i j := by
  rw [part_sweep hd n i j, if_pos (Or.inl ⟨hi, hj⟩)]

/-- No contradiction was met in the first k rounds. -/
def Ok (n : Nat) (M : Mx) (k : Nat) : Prop := ∀ k', k' < k → ∀ i, i < n → 0 ≤ fw n M (k' + 1) i i

theorem Ok.mono {n m : Nat} {M N : Mx} (hm : m ≤ n) (h : Leq n M N) (ho : Ok n M m) : Ok n N m :=
  fun k' hk i hi => Int.le_trans (ho k' hk i hi) (fw_mono (by omega) h i i hi hi)

theorem Ok.diag {n m : Nat} {M : Mx} (h0 : ∀ i, i < n → 0 ≤ M i i) (ho : Ok n M m) (k : Nat) (hk : k ≤ m) (i : Nat) (hi : i < n) : 0 ≤ fw n M k i i := by
  cases k with
  | zero => exact h0 i hi
  | succ k => exact ho k (by omega) i hi

theorem Ok.of_above {n m : Nat} {C M : Mx} (hm : m ≤ n) (hC : Cl n C) (hd : ∀ i, i < n → 0 ≤ C i i) (h : Leq n C M) : Ok n M m :=
  fun k' hk i hi => Int.le_trans (hd i hi) (fw_above (by omega) hC h i i hi hi)

/-- How far below 0 the numbers can come. -/
theorem fw_low {n m : Nat} {M : Mx} {W : Int} (hW : 0 ≤ W) (hm : m ≤ n) (h0 : ∀ i, i < n → 0 ≤ M i i) (hl : ∀ i j, i < n → j < n → -W ≤ M i j) (ho : Ok n M m) (i j : Nat) (hi : i < n) (hj : j < n) : -(2 ^ m * W) ≤ fw n M m i j := by
  induction m generalizing i j with
  | zero => simpa [fw] using hl i j hi hj
  | succ m ih =>
    have ho' : Ok n M m := fun k' hk => ho k' (by omega)
    have hd := ho'.diag h0 m (Nat.le_refl _) m (by omega)
    have e : fw n M (m + 1) i j = sim m (fw n M m) i j := sweep_sim hd hi hj
    rw [e]
    have h1 := ih (by omega) ho' i j hi hj
    have h2 := ih (by omega) ho' i m hi (by omega)
    have h3 := ih (by omega) ho' m j (by omega) hj
    have hp : (0 : Int) ≤ 2 ^ m * W := Int.mul_nonneg (Int.le_of_lt (Int.pow_pos (by omega))) hW
    rw [show (2 : Int) ^ (m + 1) * W = 2 * (2 ^ m * W) by rw [Int.pow_succ, Int.mul_comm (2 ^ m) 2, Int.mul_assoc]]
    unfold sim
    split <;> omega

/-- How far the finite numbers can come. -/
theorem fw_high {n m : Nat} {M : Mx} {W : Int} (hW : 0 ≤ W) (hm : m ≤ n) (h0 : ∀ i, i < n → 0 ≤ M i i) (hl : ∀ i j, i < n → j < n → M i j < far → M i j ≤ W) (ho : Ok n M m) (i j : Nat) (hi : i < n) (hj : j < n) (hf : fw n M m i j < far) : fw n M m i j ≤ 2 ^ m * W := by
  induction m generalizing i j with
  | zero => simpa [fw] using hl i j hi hj hf
  | succ m ih =>
    have ho' : Ok n M m := fun k' hk => ho k' (by omega)
    have hd := ho'.diag h0 m (Nat.le_refl _) m (by omega)
    have e : fw n M (m + 1) i j = sim m (fw n M m) i j := sweep_sim hd hi hj
    rw [e] at hf ⊢
    have h1 := ih (by omega) ho' i j hi hj
    have h2 := ih (by omega) ho' i m hi (by omega)
    have h3 := ih (by omega) ho' m j (by omega) hj
    have hp : (0 : Int) ≤ 2 ^ m * W := Int.mul_nonneg (Int.le_of_lt (Int.pow_pos (by omega))) hW
    rw [show (2 : Int) ^ (m + 1) * W = 2 * (2 ^ m * W) by rw [Int.pow_succ, Int.mul_comm (2 ^ m) 2, Int.mul_assoc]]
    unfold sim at hf ⊢
    split
    · rename_i c
      have := h2 c.1
      have := h3 c.2
      omega
    · rename_i c
      rw [if_neg c] at hf
      have := h1 hf
      omega

theorem sim_le (k : Nat) (M : Mx) (i j : Nat) : sim k M i j ≤ M i j := by unfold sim; split <;> omega
theorem sim_le_sum {k : Nat} {M : Mx} {i j : Nat} (h1 : M i k < far) (h2 : M k j < far) : sim k M i j ≤ M i k + M k j := by unfold sim; rw [if_pos ⟨h1, h2⟩]; omega
theorem sim_cases (k : Nat) (M : Mx) (i j : Nat) : sim k M i j = M i j ∨ (M i k < far ∧ M k j < far ∧ sim k M i j = M i k + M k j) := by
  unfold sim
  split
  · rename_i c
    rcases Int.le_total (M i j) (M i k + M k j) with h | h
    · exact Or.inl (by omega)
    · exact Or.inr ⟨c.1, c.2, by omega⟩
  · exact Or.inl rfl

/-- Closed as to the events that have been gone through. -/
def ClTo (n m : Nat) (C : Mx) : Prop := ∀ i k j, i < n → k < m → j < n → C i k < far → C k j < far → C i j ≤ C i k + C k j

theorem sim_closed {n m : Nat} {D : Mx} {B : Int} (hm : m < n) (hB : 0 ≤ B) (hB2 : 2 * B < far) (hd : ∀ i, i < n → 0 ≤ D i i) (hu : ∀ i j, i < n → j < n → D i j < far → D i j ≤ B) (hc : ClTo n m D) : ClTo n (m + 1) (sim m D) := by
  intro i k j hi hk hj h1 h2
  rcases Nat.lt_or_eq_of_le (Nat.le_of_lt_succ hk) with hkm | rfl
  · have hkn : k < n := by omega
    rcases sim_cases m D i k with e1 | ⟨f1, f2, e1⟩ <;> rcases sim_cases m D k j with e2 | ⟨f3, f4, e2⟩
    · have := hc i k j hi hkm hj (by omega) (by omega)
      have := sim_le m D i j
      omega
    · have b1 := hu i k hi hkn (by omega)
      have b2 := hu k m hkn hm f3
      have := hc i k m hi hkm hm (by omega) f3
      have := sim_le_sum (k := m) (M := D) (i := i) (j := j) (by omega) f4
      omega
    · have b1 := hu m k hm hkn f2
      have b2 := hu k j hkn hj (by omega)
      have := hc m k j hm hkm hj f2 (by omega)
      have := sim_le_sum (k := m) (M := D) (i := i) (j := j) f1 (by omega)
      omega
    · have := hc m k m hm hkm hm f2 f3
      have := hd m hm
      have := sim_le_sum (k := m) (M := D) (i := i) (j := j) f1 f4
      omega
  · have hdk := hd k hm
    rw [sim_col hdk] at h1 ⊢
    rw [sim_row hdk] at h2 ⊢
    exact sim_le_sum h1 h2

theorem fw_closed {n m : Nat} {M : Mx} {W : Int} (hW : 0 ≤ W) (hm : m ≤ n) (hb : 2 ^ (m + 1) * W < far) (h0 : ∀ i, i < n → 0 ≤ M i i) (hl : ∀ i j, i < n → j < n → M i j < far → M i j ≤ W) (ho : Ok n M m) : ClTo n m (fw n M m) := by
  induction m with
  | zero => intro i k j _ hk; omega
  | succ m ih =>
    have ho' : Ok n M m := fun k' hk => ho k' (by omega)
    have hp : (0 : Int) ≤ 2 ^ m * W := Int.mul_nonneg (Int.le_of_lt (Int.pow_pos (by omega))) hW
    have e1 : (2 : Int) ^ (m + 1) * W = 2 * (2 ^ m * W) := by rw [Int.pow_succ, Int.mul_comm (2 ^ m) 2, Int.mul_assoc]
    have e2 : (2 : Int) ^ (m + 1 + 1) * W = 2 * (2 * (2 ^ m * W)) := by rw [Int.pow_succ, Int.mul_comm (2 ^ (m + 1)) 2, Int.mul_assoc, e1]
    rw [e2] at hb
    have hcl := ih (by omega) (by omega) ho'
    have hd := ho'.diag h0 m (Nat.le_refl _)
    have := sim_closed (by omega) hp (by omega) hd (fun i j hi hj => fw_high hW (by omega) h0 hl ho' i j hi hj) hcl
    intro i k j hi hk hj
    have s : ∀ a b, a < n → b < n → fw n M (m + 1) a b = sim m (fw n M m) a b := fun a b ha hb => sweep_sim (hd m (by omega)) ha hb
    rw [s i k hi (by omega), s k j (by omega) hj, s i j hi hj]
    exact this i k j hi hk hj

end Go.Proofs.Ytmeppcoekmoofaa
