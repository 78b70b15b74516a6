/- Tables of leaps, the plain law: Instant inverts Count; instants grow with the count. -/
import Derived.Test.YtmeppcoekmoofaaLeapIn
namespace Go.Proofs.Ytmeppcoekmoofaa
set_option linter.unusedVariables false

theorem leap_far {zs : List Int} {n : Nat} (hL : LeapOk zs n) (j m : Nat) (h : j + m < n) : ix zs (j * 2) + 2 * m ≤ ix zs ((j + m) * 2) := by
  induction m with
  | zero => simp
  | succ m ih =>
    have h1 := ih (by omega)
    have h2 := hL.up (j + m) (by omega)
    rw [show j + (m + 1) = j + m + 1 by omega]
    omega
theorem nsum_far {zs : List Int} {n : Nat} (hL : LeapOk zs n) (j m : Nat) (h : j + m ≤ n) : -(m : Int) ≤ nsum zs (j + m) - nsum zs j ∧ nsum zs (j + m) - nsum zs j ≤ m := by
  induction m with
  | zero => simp
  | succ m ih =>
    have h1 := ih (by omega)
    rw [show j + (m + 1) = j + m + 1 by omega]
    simp only [nsum]
    rcases hL.sh (j + m) (by omega) with h | h <;> rw [h] <;> omega

/-- The leaps before a day are the first ones. -/
theorem lsum_split {zs : List Int} {n : Nat} (hL : LeapOk zs n) (day : Int) (k : Nat) (hk : k ≤ n) :
    ∃ m, m ≤ k ∧ (∀ j, j < m → ix zs (j * 2) < day) ∧ (∀ j, m ≤ j → j < k → day ≤ ix zs (j * 2)) ∧ lsum zs day k = nsum zs m := by
  induction k with
  | zero => exact ⟨0, by omega, fun j h => absurd h (by omega), fun j h h' => absurd h' (by omega), rfl⟩
  | succ k ih =>
    obtain ⟨m, hm, h1, h2, h3⟩ := ih (by omega)
    by_cases hd : ix zs (k * 2) < day
    · have hmk : m = k := by
        apply Nat.le_antisymm hm
        apply Nat.le_of_not_lt
        intro hlt
        have := h2 m (Nat.le_refl _) hlt
        have h5 := leap_far hL m (k - m) (by omega)
        rw [show m + (k - m) = k by omega] at h5
        omega
      subst hmk
      refine ⟨m + 1, by omega, fun j hj => ?_, fun j h h' => absurd h' (by omega), ?_⟩
      · rcases Nat.lt_or_eq_of_le (Nat.le_of_lt_succ hj) with h | rfl
        · exact h1 j h
        · exact hd
      · simp only [lsum, nsum]; rw [if_pos hd, h3]
    · refine ⟨m, by omega, h1, fun j h h' => ?_, ?_⟩
      · rcases Nat.lt_or_eq_of_le (Nat.le_of_lt_succ h') with h4 | rfl
        · exact h2 j h h4
        · omega
      · simp only [lsum]; rw [if_neg hd, h3]; omega

theorem inst_back {zs : List Int} {n : Nat} (hL : LeapOk zs n) {t out : Int} {is : Bool} (hg : NoGap zs (t / 86400000) (t % 86400000) n)
    (h : Inst zs n (t + 1000 * lsum zs (t / 86400000) n) out is) : is = false ∧ out = t := by
  obtain ⟨m, hm, b1, b2, hs⟩ := lsum_split hL (t / 86400000) n (Nat.le_refl _)
  rw [hs] at h
  obtain ⟨k, hk, hp, h⟩ := h
  -- what holds at the first leap that has not been passed
  have key : m < n → t < (ix zs (m * 2) + 1) * 86400000 + min 0 (1000 * ix zs (m * 2 + 1)) := by
    intro hmn
    have h1 := b2 m (Nat.le_refl _) hmn
    have h2 := hg m hmn
    rcases hL.sh m hmn with h3 | h3 <;> rw [h3] at h2 ⊢ <;> omega
  rcases Nat.lt_trichotomy k m with hlt | rfl | hgt
  · exfalso
    have f1 := leap_far hL k (m - 1 - k) (by omega)
    have f2 := nsum_far hL (k + 1) (m - 1 - k) (by omega)
    have f3 := b1 (m - 1) (by omega)
    rw [show k + (m - 1 - k) = m - 1 by omega] at f1
    rw [show k + 1 + (m - 1 - k) = m by omega] at f2
    simp only [nsum] at f2
    have f4 := hL.sh k (by omega)
    rcases h with ⟨_, _, h⟩ | ⟨_, _, _, h, _⟩
    · have := h (by omega)
      unfold lE at this
      omega
    · unfold lE at h
      omega
  · rcases h with ⟨h1, h2, _⟩ | ⟨_, h0, h1, h2, _⟩
    · exact ⟨h1, by omega⟩
    · exfalso
      have := key h0
      have f4 := hL.sh k h0
      unfold lE at h1 h2
      omega
  · exfalso
    have := key (by omega)
    have h1 := (hp m hgt).1
    unfold lE at h1
    omega

theorem inst_grows {zs : List Int} {n : Nat} (hL : LeapOk zs n) {a b s t : Int} {x y : Bool} (hb0 : 0 ≤ b) (hb : b < 200000) (h1 : Inst zs n a s x) (h2 : Inst zs n (a + b) t y) :
    s ≤ t ∧ (x = true ∨ y = true ∨ b - 1000 ≤ t - s) := by
  obtain ⟨k, hk, hp, h1⟩ := h1
  obtain ⟨m, hm, hq, h2⟩ := h2
  have hkm : k ≤ m := by
    apply Nat.le_of_not_lt
    intro hlt
    have h3 := hp m hlt
    rcases h2 with ⟨_, _, h2⟩ | ⟨_, h2, _, h4, _⟩
    · have := h2 (by omega); omega
    · omega
  have hmk : m ≤ k + 1 := by
    apply Nat.le_of_not_lt
    intro hlt
    have h3 := hq (k + 1) hlt
    have h4 := hL.up k (by omega)
    have s1 := hL.sh k (by omega)
    have s2 := hL.sh (k + 1) (by omega)
    unfold lE at h3
    simp only [nsum] at h3
    unfold lE at h1
    rcases h1 with ⟨_, _, h1⟩ | ⟨_, _, _, h1, _⟩
    · have := h1 (by omega); omega
    · omega
  rcases Nat.lt_or_eq_of_le hkm with hlt | rfl
  · obtain rfl : m = k + 1 := by omega
    have h3 := hq k hlt
    have s1 := hL.sh k (by omega)
    have hup : k + 1 < n → (ix zs (k * 2) + 2 ≤ ix zs ((k + 1) * 2) ∧ (ix zs ((k + 1) * 2 + 1) = 1 ∨ ix zs ((k + 1) * 2 + 1) = -1)) := fun h => ⟨hL.up k h, hL.sh _ h⟩
    unfold lE at h1 h2 h3
    simp only [nsum] at h1 h2 h3
    rcases h1 with ⟨_, e1, h1⟩ | ⟨x1, _, h1, h1', e1⟩
    · have g1 := h1 (by omega)
      rcases h2 with ⟨_, e2, h2⟩ | ⟨y1, g0, h2, h2', e2⟩
      · exact ⟨by omega, Or.inr (Or.inr (by omega))⟩
      · have := hup g0
        exact ⟨by omega, Or.inr (Or.inl y1)⟩
    · rcases h2 with ⟨_, e2, h2⟩ | ⟨y1, g0, h2, h2', e2⟩
      · exact ⟨by omega, Or.inl x1⟩
      · have := hup g0
        exact ⟨by omega, Or.inl x1⟩
  · unfold lE at h1 h2
    rcases h1 with ⟨_, e1, h1⟩ | ⟨x1, g1, h1, h1', e1⟩
    · rcases h2 with ⟨_, e2, h2⟩ | ⟨y1, g0, h2, h2', e2⟩
      · exact ⟨by omega, Or.inr (Or.inr (by omega))⟩
      · have := h1 g0
        have s1 := hL.sh k g0
        exact ⟨by omega, Or.inr (Or.inl y1)⟩
    · rcases h2 with ⟨_, e2, h2⟩ | ⟨y1, g0, h2, h2', e2⟩
      · have := h2 g1
        exact ⟨by omega, Or.inl x1⟩
      · exact ⟨by omega, Or.inl x1⟩

theorem inst_bounds {zs : List Int} {n : Nat} (hL : LeapOk zs n) {a s : Int} {x : Bool} (h : Inst zs n a s x) (hf : n ≤ 20) : -1000000000000000 ≤ s - a ∧ s - a ≤ 1000000000000000 := by
  obtain ⟨k, hk, hp, h⟩ := h
  have hb := nsum_bounds hL k hk
  rcases h with ⟨_, e1, _⟩ | ⟨_, h0, h1, h2, e1⟩
  · omega
  · have := hL.sh k h0
    unfold lE at h1 h2
    omega

/-- The table that the laws make is permitted. -/
theorem ix_leapNums (zs : List Int) (m j : Nat) (h : j < m) : ix (leapNums zs m) (j * 2) = dayAt zs (j + 1) ∧ ix (leapNums zs m) (j * 2 + 1) = shiftAt zs j := by
  induction m with
  | zero => omega
  | succ m ih =>
    have hl := leapNums_len zs m
    simp only [leapNums, ix, List.getD_eq_getElem?_getD] at ih ⊢
    rcases Nat.lt_or_eq_of_le (Nat.le_of_lt_succ h) with h1 | rfl
    · rw [List.getElem?_append_left (by omega), List.getElem?_append_left (by omega)]
      exact ih h1
    · rw [List.getElem?_append_right (by omega), List.getElem?_append_right (by omega), hl]
      simp

theorem leapNums_ok (zs : List Int) (m : Nat) (h : m ≤ 20) : LeapOk (leapNums zs m) m := by
  refine ⟨by omega, fun j hj => ?_, fun j hj => ?_, fun j hj => ?_, fun j hj => ?_⟩
  · rw [(ix_leapNums zs m j hj).1]; have := dayAt_bounds zs (j + 1); omega
  · rw [(ix_leapNums zs m j hj).1]; have := dayAt_bounds zs (j + 1); omega
  · rw [(ix_leapNums zs m j hj).2]; unfold shiftAt; omega
  · rw [(ix_leapNums zs m j (by omega)).1, (ix_leapNums zs m (j + 1) hj).1]; simp only [dayAt]; omega

end Go.Proofs.Ytmeppcoekmoofaa
