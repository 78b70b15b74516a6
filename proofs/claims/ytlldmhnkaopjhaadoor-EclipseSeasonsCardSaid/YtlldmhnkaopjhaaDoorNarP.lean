/- series.Narrow in plain words: what it computes, and where the result lies. Nothing of the program. -/
import Derived.ProofKit
namespace Go.Proofs.YtlldmhnkaopjhaaDoor
set_option linter.unusedSimpArgs false
set_option linter.unusedVariables false
/-- The last number at which a condition holds, by halving. -/
def lastF (h : Int → Bool) : Nat → Int → Int → Int
  | 0, lo, _ => lo
  | k + 1, lo, hi => if 1 < hi - lo then (if h (lo + (hi - lo).tdiv 2) then lastF h k (lo + (hi - lo).tdiv 2) hi else lastF h k lo (lo + (hi - lo).tdiv 2)) else lo
/-- Narrow: both ends. -/
def nrwF (sd : Int → Int) (width : Int) : Nat → Int → Int → Int × Int
  | 0, lo, hi => (lo, hi)
  | k + 1, lo, hi => if width < hi - lo then
      (if sd (lo + (hi - lo).tdiv 2) = -1 then nrwF sd width k (lo + (hi - lo).tdiv 2) hi
       else if sd (lo + (hi - lo).tdiv 2) = 1 then nrwF sd width k lo (lo + (hi - lo).tdiv 2)
       else (lastF (fun x => decide (sd x = -1)) 64 lo (lo + (hi - lo).tdiv 2), -lastF (fun x => decide (sd (-x) = 1)) 64 (-hi) (-(lo + (hi - lo).tdiv 2))))
      else (lo, hi)
theorem half_of {a : Int} (h : 0 ≤ a) : a.tdiv 2 = a / 2 := Int.tdiv_eq_ediv_of_nonneg h
theorem lastF_step (h : Int → Bool) (k : Nat) (lo hi : Int) : lastF h (k + 1) lo hi = if 1 < hi - lo then (if h (lo + (hi - lo).tdiv 2) then lastF h k (lo + (hi - lo).tdiv 2) hi else lastF h k lo (lo + (hi - lo).tdiv 2)) else lo := rfl
theorem lastF_end (h : Int → Bool) : ∀ (k : Nat) (lo hi : Int), hi - lo ≤ 1 → lastF h k lo hi = lo
  | 0, _, _, _ => rfl
  | k + 1, lo, hi, e => by unfold lastF; rw [if_neg (by omega)]
/-- Enough rounds are enough. -/
theorem lastF_more (h : Int → Bool) : ∀ (k : Nat) (lo hi : Int), hi - lo ≤ ((2 ^ k : Nat) : Int) → lastF h (k + 1) lo hi = lastF h k lo hi
  | 0, lo, hi, e => by
    have : hi - lo ≤ 1 := by simpa using e
    rw [lastF_end h 1 lo hi this]; rfl
  | k + 1, lo, hi, e => by
    rw [lastF_step h (k + 1) lo hi, lastF_step h k lo hi]
    have e2 : ((2 ^ (k + 1) : Nat) : Int) = 2 * ((2 ^ k : Nat) : Int) := by rw [Nat.pow_succ]; omega
    rw [e2] at e
    by_cases c : 1 < hi - lo
    · rw [if_pos c, if_pos c]
      have m := half_of (a := hi - lo) (by omega)
      rw [m]
      rw [lastF_more h k _ hi (by omega), lastF_more h k lo _ (by omega)]
    · rw [if_neg c, if_neg c]
structure LastIn (h : Int → Bool) (lo hi r : Int) : Prop where
  a : lo ≤ r
  b : r < hi
  c : r = lo ∨ h r = true
  d : r + 1 = hi ∨ h (r + 1) = false
theorem lastF_in (h : Int → Bool) : ∀ (k : Nat) (lo hi : Int), lo < hi → hi - lo ≤ ((2 ^ k : Nat) : Int) → LastIn h lo hi (lastF h k lo hi) := by
  suffices H : ∀ (k : Nat) (l0 h0 lo hi : Int), l0 ≤ lo → hi ≤ h0 → lo < hi → hi - lo ≤ ((2 ^ k : Nat) : Int) → (lo = l0 ∨ h lo = true) → (hi = h0 ∨ h hi = false) → LastIn h l0 h0 (lastF h k lo hi) from
    fun k lo hi l e => H k lo hi lo hi (Int.le_refl _) (Int.le_refl _) l e (.inl rfl) (.inl rfl)
  intro k
  induction k with
  | zero =>
    intro l0 h0 lo hi a b l e c d
    have e' : hi - lo ≤ 1 := by simpa using e
    have : hi = lo + 1 := by omega
    exact ⟨a, by show lo < h0; omega, c, by show lo + 1 = h0 ∨ h (lo + 1) = false; rw [← this]; exact d⟩
  | succ k ih =>
    intro l0 h0 lo hi a b l e c d
    have e2 : ((2 ^ (k + 1) : Nat) : Int) = 2 * ((2 ^ k : Nat) : Int) := by rw [Nat.pow_succ]; omega
    rw [e2] at e
    rw [lastF_step]
    by_cases g : 1 < hi - lo
    · rw [if_pos g]
      have m := half_of (a := hi - lo) (by omega)
      rw [m]
      by_cases q : h (lo + (hi - lo) / 2) = true
      · rw [if_pos q]
        exact ih l0 h0 _ hi (by omega) b (by omega) (by omega) (.inr q) d
      · rw [if_neg q]
        exact ih l0 h0 lo _ a (by omega) (by omega) (by omega) c (.inr (by simpa using q))
    · rw [if_neg g]
      have : hi = lo + 1 := by omega
      exact ⟨a, by omega, c, by rw [← this]; exact d⟩
/-- A passage: c is the first number behind it; D is how far the sides may be undecided. -/
structure Cross (sd : Int → Int) (lo hi c D : Int) : Prop where
  a : ∀ x, lo ≤ x → x ≤ hi → sd x = -1 → x < c
  b : ∀ x, lo ≤ x → x ≤ hi → sd x = 1 → c ≤ x
  a' : ∀ x, lo ≤ x → x ≤ hi → x ≤ c - D → sd x = -1
  b' : ∀ x, lo ≤ x → x ≤ hi → c + D ≤ x → sd x = 1
structure NrwIn (sd : Int → Int) (lo hi c D width : Int) (r : Int × Int) : Prop where
  a : lo ≤ r.1
  b : r.1 < c
  c : c ≤ r.2
  d : r.2 ≤ hi
  w : r.2 - r.1 ≤ width ∨ r.2 - r.1 ≤ 2 * D
  l : r.1 = lo ∨ sd r.1 = -1
  h : r.2 = hi ∨ sd r.2 = 1
theorem nrwF_step (sd : Int → Int) (width : Int) (k : Nat) (lo hi : Int) : nrwF sd width (k + 1) lo hi = if width < hi - lo then
      (if sd (lo + (hi - lo).tdiv 2) = -1 then nrwF sd width k (lo + (hi - lo).tdiv 2) hi
       else if sd (lo + (hi - lo).tdiv 2) = 1 then nrwF sd width k lo (lo + (hi - lo).tdiv 2)
       else (lastF (fun x => decide (sd x = -1)) 64 lo (lo + (hi - lo).tdiv 2), -lastF (fun x => decide (sd (-x) = 1)) 64 (-hi) (-(lo + (hi - lo).tdiv 2))))
      else (lo, hi) := rfl
theorem nrwF_in {sd : Int → Int} {lo hi c D width : Int} (C : Cross sd lo hi c D) (hD : 0 ≤ D) (hw : 1 ≤ width) (hl : lo < c) (hh : c ≤ hi) (hb : hi - lo ≤ 1000000000000000000) : ∀ (k : Nat), hi - lo ≤ ((2 ^ k : Nat) : Int) → NrwIn sd lo hi c D width (nrwF sd width k lo hi) := by
  suffices H : ∀ (k : Nat) (l h : Int), lo ≤ l → h ≤ hi → l < c → c ≤ h → h - l ≤ ((2 ^ k : Nat) : Int) → (l = lo ∨ sd l = -1) → (h = hi ∨ sd h = 1) → NrwIn sd lo hi c D width (nrwF sd width k l h) from
    fun k e => H k lo hi (Int.le_refl _) (Int.le_refl _) hl hh e (.inl rfl) (.inl rfl)
  intro k
  induction k with
  | zero =>
    intro l h a b l1 h1 e c1 d1
    have e' : h - l ≤ 1 := by simpa using e
    exact ⟨a, l1, h1, b, .inl (by show h - l ≤ width; omega), c1, d1⟩
  | succ k ih =>
    intro l h a b l1 h1 e c1 d1
    have e2 : ((2 ^ (k + 1) : Nat) : Int) = 2 * ((2 ^ k : Nat) : Int) := by rw [Nat.pow_succ]; omega
    rw [e2] at e
    rw [nrwF_step]
    by_cases g : width < h - l
    · rw [if_pos g]
      have m := half_of (a := h - l) (by omega)
      rw [m]
      obtain ⟨mid, hm⟩ : ∃ mid, mid = l + (h - l) / 2 := ⟨_, rfl⟩
      rw [← hm]
      have m1 : l < mid := by omega
      have m2 : mid < h := by omega
      by_cases q : sd mid = -1
      · rw [if_pos q]
        exact ih mid h (by omega) b (C.a mid (by omega) (by omega) q) h1 (by omega) (.inr q) d1
      · rw [if_neg q]
        by_cases r : sd mid = 1
        · rw [if_pos r]
          exact ih l mid a (by omega) l1 (C.b mid (by omega) (by omega) r) (by omega) c1 (.inr r)
        · rw [if_neg r]
          have p64 : (1000000000000000000 : Int) ≤ ((2 ^ 64 : Nat) : Int) := by decide
          obtain ⟨a1, a2, a3, a4⟩ := lastF_in (fun x => decide (sd x = -1)) 64 l mid m1 (by omega)
          obtain ⟨b1, b2, b3, b4⟩ := lastF_in (fun x => decide (sd (-x) = 1)) 64 (-h) (-mid) (by omega) (by omega)
          generalize lastF (fun x => decide (sd x = -1)) 64 l mid = u at *
          generalize lastF (fun x => decide (sd (-x) = 1)) 64 (-h) (-mid) = v at *
          have u3 : u = lo ∨ sd u = -1 := by
            rcases a3 with a3 | a3
            · rw [a3]; exact c1
            · right; exact of_decide_eq_true a3
          have u4 : sd (u + 1) ≠ -1 := by
            rcases a4 with a4 | a4
            · rw [a4]; exact q
            · exact of_decide_eq_false a4
          have v3 : -v = hi ∨ sd (-v) = 1 := by
            rcases b3 with b3 | b3
            · rw [b3, Int.neg_neg]; exact d1
            · right; exact of_decide_eq_true b3
          have v4 : sd (-v - 1) ≠ 1 := by
            rcases b4 with b4 | b4
            · rw [show -v - 1 = mid by omega]; exact r
            · have := of_decide_eq_false b4
              rwa [show -(v + 1) = -v - 1 by omega] at this
          have uc : u < c := by
            rcases u3 with e | e
            · omega
            · exact C.a u (by omega) (by omega) e
          have vc : c ≤ -v := by
            rcases v3 with e | e
            · omega
            · exact C.b (-v) (by omega) (by omega) e
          have ud : c - D < u + 1 := Int.not_le.1 fun x => u4 (C.a' _ (by omega) (by omega) x)
          have vd : -v - 1 < c + D := Int.not_le.1 fun x => v4 (C.b' _ (by omega) (by omega) x)
          exact ⟨by show lo ≤ u; omega, uc, vc, by show -v ≤ hi; omega, .inr (by show -v - u ≤ 2 * D; omega), u3, v3⟩
    · rw [if_neg g]
      exact ⟨a, l1, h1, b, .inl (by show h - l ≤ width; omega), c1, d1⟩
theorem nrwF_end (sd : Int → Int) (width : Int) : ∀ (k : Nat) (lo hi : Int), ¬ width < hi - lo → nrwF sd width k lo hi = (lo, hi)
  | 0, _, _, _ => rfl
  | k + 1, lo, hi, e => by rw [nrwF_step, if_neg e]
/-- series.Side, of an interval of angles. -/
def sideF (lo hi target : Int) : Int := if (lo - target) % 1000000000 = 0 ∨ 1000000000 ≤ (lo - target) % 1000000000 + (hi - lo) then 0
  else if (lo - target) % 1000000000 ≤ 500000000 ∧ 500000000 ≤ (lo - target) % 1000000000 + (hi - lo) then 2
  else if (lo - target) % 1000000000 < 500000000 then 1 else -1
end Go.Proofs.YtlldmhnkaopjhaaDoor
