/- Smeared leaps, plain: what Smear tells, and its laws. -/
import Derived.Test.YtmeppcoekmoofaaLeapLaw
namespace Go.Proofs.Ytmeppcoekmoofaa
set_option linter.unusedVariables false

/-- Where the k-th smear begins (in counts), and how long it is. -/
def sB (zs : List Int) (half : Int) (k : Nat) : Int := (ix zs (k * 2) + 1) * 86400000 - half + 1000 * nsum zs k
def sW (zs : List Int) (half : Int) (k : Nat) : Int := 2 * half + 1000 * ix zs (k * 2 + 1)

/-- What the first i rounds have told. -/
def SmIn (zs : List Int) (half c : Int) (i : Nat) (out : Int) : Prop :=
  ∃ k, k ≤ i ∧ (∀ j, j < k → sB zs half j + sW zs half j ≤ c) ∧ ((out = c - 1000 * nsum zs k ∧ (k < i → c < sB zs half k)) ∨
    (k < i ∧ sB zs half k ≤ c ∧ c < sB zs half k + sW zs half k ∧ out = (ix zs (k * 2) + 1) * 86400000 - half + ((c - sB zs half k) * 2 * half).tdiv (sW zs half k)))

theorem smIn_zero (zs : List Int) (half c : Int) : SmIn zs half c 0 c := ⟨0, by omega, fun j h => absurd h (by omega), Or.inl ⟨by simp [nsum], fun h => absurd h (by omega)⟩⟩

theorem sB_far {zs : List Int} {n : Nat} {half : Int} (hL : LeapOk zs n) (h0 : 1000 ≤ half) (h1 : half ≤ 43200000) (j k : Nat) (h : j < k) (hk : k < n) : sB zs half j + sW zs half j + 86000000 ≤ sB zs half k := by
  have f1 := leap_far hL j (k - j) (by omega)
  have f2 := nsum_far hL j (k - j) (by omega)
  rw [show j + (k - j) = k by omega] at f1 f2
  have f3 := hL.sh j (by omega)
  unfold sB sW
  omega

theorem smIn_wait {zs : List Int} {n : Nat} {half c out : Int} {i : Nat} (h : SmIn zs half c i out) (hc : c < sB zs half i) : SmIn zs half c (i + 1) out := by
  obtain ⟨k, hk, hp, h⟩ := h
  refine ⟨k, by omega, hp, ?_⟩
  rcases h with ⟨h1, h2⟩ | ⟨h0, h1, h2, h3⟩
  · refine Or.inl ⟨h1, fun h => ?_⟩
    rcases Nat.lt_or_eq_of_le hk with h4 | rfl
    · exact h2 h4
    · exact hc
  · exact Or.inr ⟨by omega, h1, h2, h3⟩

theorem smIn_all {zs : List Int} {n : Nat} {half c out : Int} {i : Nat} (hL : LeapOk zs n) (h0 : 1000 ≤ half) (h1 : half ≤ 43200000) (hi : i < n) (h : SmIn zs half c i out) (hc : sB zs half i ≤ c) : ∀ j, j < i → sB zs half j + sW zs half j ≤ c := by
  obtain ⟨k, hk, hp, h⟩ := h
  rcases Nat.lt_or_eq_of_le hk with h4 | rfl
  · have := sB_far hL h0 h1 k i h4 hi
    exfalso
    rcases h with ⟨h1, h2⟩ | ⟨h0, h1, h2, h3⟩
    · have := h2 h4
      have := hL.sh k (by omega)
      unfold sW at *
      omega
    · omega
  · exact hp

theorem smIn_in {zs : List Int} {n : Nat} {half c out : Int} {i : Nat} (hL : LeapOk zs n) (h0 : 1000 ≤ half) (h1 : half ≤ 43200000) (hi : i < n) (h : SmIn zs half c i out) (hc : sB zs half i ≤ c) (hc' : c < sB zs half i + sW zs half i) :
    SmIn zs half c (i + 1) ((ix zs (i * 2) + 1) * 86400000 - half + ((c - sB zs half i) * 2 * half).tdiv (sW zs half i)) :=
  ⟨i, by omega, smIn_all hL h0 h1 hi h hc, Or.inr ⟨by omega, hc, hc', rfl⟩⟩

theorem smIn_past {zs : List Int} {n : Nat} {half c out : Int} {i : Nat} (hL : LeapOk zs n) (h0 : 1000 ≤ half) (h1 : half ≤ 43200000) (hi : i < n) (h : SmIn zs half c i out) (hc : sB zs half i + sW zs half i ≤ c) :
    SmIn zs half c (i + 1) (c - 1000 * nsum zs (i + 1)) := by
  have hs := hL.sh i hi
  have ha := smIn_all hL h0 h1 hi h (by unfold sW at *; omega)
  refine ⟨i + 1, by omega, fun j hj => ?_, Or.inl ⟨rfl, fun h => absurd h (by omega)⟩⟩
  rcases Nat.lt_or_eq_of_le (Nat.le_of_lt_succ hj) with h1 | rfl
  · exact ha j h1
  · exact hc

/-- The smeared part: a quotient between 0 and 2 half, monotone. -/
theorem sm_quot {half x W : Int} (h0 : 1000 ≤ half) (h1 : half ≤ 43200000) (hx : 0 ≤ x) (hW : x < W) (hw : W ≤ 2 * half + 1000) :
    0 ≤ x * 2 * half ∧ x * 2 * half ≤ 8000000000000000 ∧ (x * 2 * half).tdiv W = x * 2 * half / W ∧ 0 ≤ x * 2 * half / W ∧ x * 2 * half / W ≤ 2 * half := by
  have a1 : 0 ≤ x * 2 * half := Int.mul_nonneg (by omega) (by omega)
  have a2 : x * 2 * half ≤ 87000000 * 2 * half := Int.mul_le_mul_of_nonneg_right (by omega) (by omega)
  refine ⟨a1, by omega, Int.tdiv_eq_ediv_of_nonneg a1, Int.ediv_nonneg a1 (by omega), ?_⟩
  apply Int.ediv_le_of_le_mul (by omega)
  have : x * (2 * half) ≤ W * (2 * half) := Int.mul_le_mul_of_nonneg_right (by omega) (by omega)
  rw [Int.mul_assoc, Int.mul_comm (2 * half) W]
  exact this

theorem smIn_bounds {zs : List Int} {n : Nat} {half c out : Int} {i : Nat} (hL : LeapOk zs n) (h0 : 1000 ≤ half) (h1 : half ≤ 43200000) (hi : i ≤ n) (h : SmIn zs half c i out) : c - 1000000000 ≤ out ∧ out ≤ c + 1000000000 := by
  obtain ⟨k, hk, hp, h⟩ := h
  have hb := nsum_bounds hL k (by omega)
  have hf := hL.few
  rcases h with ⟨h1, h2⟩ | ⟨h3, h4, h5, h6⟩
  · omega
  · have hs := hL.sh k (by omega)
    have q := sm_quot (half := half) (x := c - sB zs half k) (W := sW zs half k) h0 h1 (by omega) (by omega) (by unfold sW; omega)
    rw [h6, q.2.2.1]
    have q4 := q.2.2.2
    generalize (c - sB zs half k) * 2 * half / sW zs half k = z at *
    unfold sB at h4 h5
    unfold sW at h5
    omega

/-- The quotient times the divisor. -/
theorem sm_mul {a W : Int} (hW : 0 < W) (ha : 0 ≤ a) : a / W * W ≤ a ∧ a < a / W * W + W := by
  have := Int.emod_add_mul_ediv a W
  have h1 := Int.emod_nonneg a (show W ≠ 0 by omega)
  have h2 := Int.emod_lt_of_pos a hW
  rw [Int.mul_comm] at this
  omega

/-- The smeared instant never goes back. -/
theorem smear_grows {zs : List Int} {n : Nat} {half a b s t : Int} (hL : LeapOk zs n) (h0 : 1000 ≤ half) (h1 : half ≤ 43200000) (hb : 0 ≤ b) (hs : SmIn zs half a n s) (ht : SmIn zs half (a + b) n t) : s ≤ t := by
  obtain ⟨k, hk, hp, hs⟩ := hs
  obtain ⟨m, hm, hq, ht⟩ := ht
  have hkm : k ≤ m := by
    apply Nat.le_of_not_lt
    intro hlt
    have h3 := hp m hlt
    have h4 := hL.sh m (by omega)
    rcases ht with ⟨_, ht⟩ | ⟨_, _, ht, _⟩
    · have := ht (by omega); unfold sW at *; omega
    · omega
  rcases Nat.lt_or_eq_of_le hkm with hlt | rfl
  · -- a lies before the end of the k-th smear, a + b behind it
    have hkn : k < n := by omega
    have e1 := hq k hlt
    have f2 := nsum_far hL (k + 1) (m - (k + 1)) (by omega)
    rw [show k + 1 + (m - (k + 1)) = m by omega] at f2
    have hn1 : nsum zs (k + 1) = nsum zs k + ix zs (k * 2 + 1) := rfl
    have hsh := hL.sh k hkn
    -- s is at most the end of the smeared part
    have g1 : s ≤ (ix zs (k * 2) + 1) * 86400000 + half := by
      rcases hs with ⟨e, hc⟩ | ⟨_, c1, c2, e⟩
      · have := hc hkn
        unfold sB at this
        omega
      · have q := sm_quot (half := half) (x := a - sB zs half k) (W := sW zs half k) h0 h1 (by omega) (by omega) (by unfold sW; omega)
        rw [e, q.2.2.1]
        have := q.2.2.2.2
        omega
    -- t is at least that
    have g2 : (ix zs (k * 2) + 1) * 86400000 + half ≤ t := by
      rcases Nat.lt_or_eq_of_le (show k + 1 ≤ m by omega) with h5 | h5
      · have f1 := leap_far hL k (m - 1 - k) (by omega)
        rw [show k + (m - 1 - k) = m - 1 by omega] at f1
        have e2 := hq (m - 1) (by omega)
        have hsh2 := hL.sh (m - 1) (by omega)
        have hn2 : nsum zs m = nsum zs (m - 1) + ix zs ((m - 1) * 2 + 1) := by
          have : nsum zs (m - 1 + 1) = nsum zs (m - 1) + ix zs ((m - 1) * 2 + 1) := rfl
          rwa [show m - 1 + 1 = m by omega] at this
        rcases ht with ⟨e, _⟩ | ⟨hmn, c1, c2, e⟩
        · unfold sB sW at e2
          omega
        · have q := sm_quot (half := half) (x := a + b - sB zs half m) (W := sW zs half m) h0 h1 (by omega) (by omega) (by have := hL.sh m hmn; unfold sW; omega)
          rw [e, q.2.2.1]
          have q4 := q.2.2.2.1
          have f4 := leap_far hL k (m - k) (by omega)
          rw [show k + (m - k) = m by omega] at f4
          omega
      · subst h5
        rcases ht with ⟨e, _⟩ | ⟨hmn, c1, c2, e⟩
        · unfold sB sW at e1
          omega
        · have q := sm_quot (half := half) (x := a + b - sB zs half (k + 1)) (W := sW zs half (k + 1)) h0 h1 (by omega) (by omega) (by have := hL.sh (k + 1) hmn; unfold sW; omega)
          rw [e, q.2.2.1]
          have q4 := q.2.2.2.1
          have f4 := hL.up k (by omega)
          omega
    omega
  · rcases hs with ⟨e1, c1⟩ | ⟨hkn, c1, c2, e1⟩
    · rcases ht with ⟨e2, c3⟩ | ⟨hkn, c3, c4, e2⟩
      · omega
      · have := c1 hkn
        have hsh := hL.sh k hkn
        have q := sm_quot (half := half) (x := a + b - sB zs half k) (W := sW zs half k) h0 h1 (by omega) (by omega) (by unfold sW; omega)
        rw [e1, e2, q.2.2.1]
        have q4 := q.2.2.2.1
        unfold sB at this
        omega
    · rcases ht with ⟨e2, c3⟩ | ⟨_, c3, c4, e2⟩
      · have := c3 hkn; omega
      · have hsh := hL.sh k hkn
        have q1 := sm_quot (half := half) (x := a - sB zs half k) (W := sW zs half k) h0 h1 (by omega) (by omega) (by unfold sW; omega)
        have q2 := sm_quot (half := half) (x := a + b - sB zs half k) (W := sW zs half k) h0 h1 (by omega) (by omega) (by unfold sW; omega)
        rw [e1, e2, q1.2.2.1, q2.2.2.1]
        have hmono : (a - sB zs half k) * 2 * half / sW zs half k ≤ (a + b - sB zs half k) * 2 * half / sW zs half k := by
          apply Int.ediv_le_ediv (by unfold sW; omega)
          apply Int.mul_le_mul_of_nonneg_right _ (by omega)
          omega
        omega

/-- How far the smeared part is from the count. -/
theorem sm_delta {half y W S : Int} (h0 : 1000 ≤ half) (h1 : half ≤ 43200000) (hy : 0 ≤ y) (hW : y < W) (hS : S = 1 ∨ S = -1) (hw : W = 2 * half + 1000 * S) :
    (S = 1 → -1000 ≤ y * 2 * half / W - y ∧ y * 2 * half / W - y ≤ 0) ∧ (S = -1 → 0 ≤ y * 2 * half / W - y ∧ y * 2 * half / W - y ≤ 1000) := by
  have q := sm_quot (half := half) (x := y) (W := W) h0 h1 hy hW (by omega)
  have m := sm_mul (a := y * 2 * half) (W := W) (by omega) q.1
  generalize y * 2 * half / W = z at *
  have hp : y * 2 * half = y * W - 1000 * (S * y) := by
    rw [hw, Int.mul_add, Int.mul_assoc y 2 half]
    rw [show y * (1000 * S) = 1000 * (S * y) by rw [Int.mul_left_comm, Int.mul_comm y S]]
    omega
  rw [hp] at m
  constructor
  · intro hS1
    rw [hS1, Int.one_mul] at m
    constructor
    · apply Int.le_of_lt_add_one
      apply Int.lt_of_mul_lt_mul_right (a := W) _ (by omega)
      rw [show (-1000 : Int) = -1001 + 1 by rfl, Int.add_mul, Int.add_mul, Int.sub_mul]
      omega
    · apply Int.le_of_lt_add_one
      apply Int.lt_of_mul_lt_mul_right (a := W) _ (by omega)
      rw [Int.sub_mul, Int.add_mul]
      omega
  · intro hS1
    rw [hS1, Int.neg_mul, Int.one_mul] at m
    constructor
    · apply Int.le_of_lt_add_one
      apply Int.lt_of_mul_lt_mul_right (a := W) _ (by omega)
      rw [Int.add_mul, Int.sub_mul]
      omega
    · apply Int.le_of_lt_add_one
      apply Int.lt_of_mul_lt_mul_right (a := W) _ (by omega)
      rw [Int.sub_mul, Int.add_mul]
      omega

/-- The smeared instant beside the instant: as far as the smear reaches; elsewhere they are one. -/
theorem smear_near {zs : List Int} {n : Nat} {half c u s : Int} {x : Bool} (hL : LeapOk zs n) (h0 : 1000 ≤ half) (h1 : half ≤ 43200000) (hu : Inst zs n c u x) (hs : SmIn zs half c n s) :
    s - u ≤ 1001 ∧ u - s ≤ 1001 ∧ ((∀ j, j < n → ¬ (u - (ix zs (j * 2) + 1) * 86400000 < half + 2000 ∧ -half - 2000 < u - (ix zs (j * 2) + 1) * 86400000)) → s = u) := by
  obtain ⟨k, hk, hp, hu⟩ := hu
  obtain ⟨m, hm, hq, hs⟩ := hs
  rcases Nat.lt_trichotomy m k with hlt | rfl | hgt
  · have hmn : m < n := by omega
    have p1 := hp m hlt
    have sh := hL.sh m hmn
    rcases hs with ⟨e, hc⟩ | ⟨_, c1, c2, e⟩
    · exfalso
      have := hc hmn
      unfold sB at this
      unfold lE at p1
      omega
    · have hkm : k = m + 1 := by
        apply Nat.le_antisymm _ hlt
        apply Nat.le_of_not_lt
        intro hlt2
        have p2 := hp (m + 1) hlt2
        have f := hL.up m (by omega)
        have sh2 := hL.sh (m + 1) (by omega)
        unfold lE at p2
        simp only [nsum] at p2
        unfold sB sW at c2
        omega
      subst hkm
      have hw : sW zs half m = 2 * half + 1000 * ix zs (m * 2 + 1) := rfl
      have q := sm_quot (half := half) (x := c - sB zs half m) (W := sW zs half m) h0 h1 (by omega) (by omega) (by omega)
      have dl := sm_delta (half := half) (y := c - sB zs half m) (W := sW zs half m) h0 h1 (by omega) (by omega) sh hw
      rw [q.2.2.1] at e
      clear q
      generalize (c - sB zs half m) * 2 * half / sW zs half m = z at *
      have hu1 : u = c - 1000 * (nsum zs m + ix zs (m * 2 + 1)) := by
        rcases hu with ⟨_, e2, _⟩ | ⟨_, hkn, h3, h4, _⟩
        · simpa only [nsum] using e2
        · exfalso
          have f := hL.up m hkn
          have sh2 := hL.sh (m + 1) hkn
          unfold lE at h3
          simp only [nsum] at h3
          unfold sB sW at c2
          omega
      clear hu
      have hB : sB zs half m = (ix zs (m * 2) + 1) * 86400000 - half + 1000 * nsum zs m := rfl
      refine ⟨?_, ?_, fun hall => ?_⟩
      · rcases sh with sh | sh
        · have := dl.1 sh; omega
        · have := dl.2 sh; omega
      · rcases sh with sh | sh
        · have := dl.1 sh; omega
        · have := dl.2 sh; omega
      · exfalso
        apply hall m hmn
        rcases sh with sh | sh <;> omega
  · rcases hs with ⟨e, hc⟩ | ⟨hmn, c1, c2, e⟩
    · rcases hu with ⟨_, e2, _⟩ | ⟨_, hkn, h3, h4, _⟩
      · exact ⟨by omega, by omega, fun _ => by omega⟩
      · exfalso
        have := hc hkn
        have sh := hL.sh m hkn
        unfold sB at this
        unfold lE at h3
        omega
    · have sh := hL.sh m hmn
      have hw : sW zs half m = 2 * half + 1000 * ix zs (m * 2 + 1) := rfl
      have q := sm_quot (half := half) (x := c - sB zs half m) (W := sW zs half m) h0 h1 (by omega) (by omega) (by omega)
      have dl := sm_delta (half := half) (y := c - sB zs half m) (W := sW zs half m) h0 h1 (by omega) (by omega) sh hw
      rw [q.2.2.1] at e
      clear q
      generalize (c - sB zs half m) * 2 * half / sW zs half m = z at *
      have hB : sB zs half m = (ix zs (m * 2) + 1) * 86400000 - half + 1000 * nsum zs m := rfl
      have hE : lE zs m = (ix zs (m * 2) + 1) * 86400000 + 1000 * nsum zs m := rfl
      rcases hu with ⟨_, e2, h2⟩ | ⟨_, hkn, h3, h4, e2⟩
      · have h2 := h2 hmn
        refine ⟨?_, ?_, fun hall => ?_⟩
        · rcases sh with sh | sh
          · have := dl.1 sh; omega
          · have := dl.2 sh; omega
        · rcases sh with sh | sh
          · have := dl.1 sh; omega
          · have := dl.2 sh; omega
        · exfalso
          apply hall m hmn
          rcases sh with sh | sh <;> omega
      · have sh1 : ix zs (m * 2 + 1) = 1 := by omega
        have := dl.1 sh1
        refine ⟨by omega, by omega, fun hall => ?_⟩
        exfalso
        apply hall m hmn
        omega
  · exfalso
    have q1 := hq k hgt
    have hkn : k < n := by omega
    have sh := hL.sh k hkn
    have hB : sB zs half k = (ix zs (k * 2) + 1) * 86400000 - half + 1000 * nsum zs k := rfl
    have hw : sW zs half k = 2 * half + 1000 * ix zs (k * 2 + 1) := rfl
    have hE : lE zs k = (ix zs (k * 2) + 1) * 86400000 + 1000 * nsum zs k := rfl
    rcases hu with ⟨_, e2, h2⟩ | ⟨_, hkn, h3, h4, e2⟩
    · have := h2 hkn; omega
    · omega

end Go.Proofs.Ytmeppcoekmoofaa
