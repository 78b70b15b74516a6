/- What intervals agree on, plain: the laws. -/
import Derived.Test.YtocdboopmfgkpaaDoorAgreeWithin
namespace Go.Proofs.YtocdboopmfgkpaaDoor
set_option linter.unusedVariables false

/-- The j-th interval contains t. -/
def Cont (zs : List Int) (j : Nat) (t : Int) : Prop := ix zs (j * 2) ≤ t ∧ t ≤ ix zs (j * 2 + 1)

theorem dep_step (zs : List Int) (t : Int) (k : Nat) : (Cont zs k t → dep zs t (k + 1) = dep zs t k + 1) ∧ (¬ Cont zs k t → dep zs t (k + 1) = dep zs t k) := by
  unfold Cont
  exact ⟨fun h => by simp only [dep]; rw [if_pos h], fun h => by simp only [dep]; rw [if_neg h]; rfl⟩

theorem dep_mono {zs : List Int} {t u : Int} (n : Nat) (h : ∀ i, i < n → Cont zs i t → Cont zs i u) : dep zs t n ≤ dep zs u n := by
  induction n with
  | zero => simp [dep]
  | succ n ih =>
    have h1 := ih (fun i hi => h i (by omega))
    by_cases hc : Cont zs n t
    · rw [(dep_step zs t n).1 hc, (dep_step zs u n).1 (h n (by omega) hc)]; omega
    · rw [(dep_step zs t n).2 hc]
      by_cases hd : Cont zs n u
      · rw [(dep_step zs u n).1 hd]; omega
      · rw [(dep_step zs u n).2 hd]; exact h1

theorem dep_some {zs : List Int} {t : Int} {n : Nat} (h : 1 ≤ dep zs t n) : ∃ j, j < n ∧ Cont zs j t := by
  induction n with
  | zero => simp [dep] at h
  | succ n ih =>
    by_cases hc : Cont zs n t
    · exact ⟨n, by omega, hc⟩
    · rw [(dep_step zs t n).2 hc] at h
      obtain ⟨j, hj, hc⟩ := ih h
      exact ⟨j, by omega, hc⟩

/-- The greatest beginning, the least end of the intervals that contain t. -/
theorem last_lo {zs : List Int} {t : Int} (n : Nat) : (∀ j, j < n → ¬ Cont zs j t) ∨ ∃ j, j < n ∧ Cont zs j t ∧ ∀ i, i < n → Cont zs i t → ix zs (i * 2) ≤ ix zs (j * 2) := by
  induction n with
  | zero => exact Or.inl (fun j hj => absurd hj (by omega))
  | succ n ih =>
    by_cases hc : Cont zs n t
    · right
      rcases ih with ih | ⟨j, hj, hcj, hm⟩
      · refine ⟨n, by omega, hc, fun i hi hci => ?_⟩
        rcases Nat.lt_or_eq_of_le (Nat.le_of_lt_succ hi) with h | rfl
        · exact absurd hci (ih i h)
        · omega
      · by_cases hle : ix zs (n * 2) ≤ ix zs (j * 2)
        · refine ⟨j, by omega, hcj, fun i hi hci => ?_⟩
          rcases Nat.lt_or_eq_of_le (Nat.le_of_lt_succ hi) with h | rfl
          · exact hm i h hci
          · exact hle
        · refine ⟨n, by omega, hc, fun i hi hci => ?_⟩
          rcases Nat.lt_or_eq_of_le (Nat.le_of_lt_succ hi) with h | rfl
          · have := hm i h hci; omega
          · omega
    · rcases ih with ih | ⟨j, hj, hcj, hm⟩
      · refine Or.inl (fun j hj => ?_)
        rcases Nat.lt_or_eq_of_le (Nat.le_of_lt_succ hj) with h | rfl
        · exact ih j h
        · exact hc
      · refine Or.inr ⟨j, by omega, hcj, fun i hi hci => ?_⟩
        rcases Nat.lt_or_eq_of_le (Nat.le_of_lt_succ hi) with h | rfl
        · exact hm i h hci
        · exact absurd hci hc
theorem first_hi {zs : List Int} {t : Int} (n : Nat) : (∀ j, j < n → ¬ Cont zs j t) ∨ ∃ j, j < n ∧ Cont zs j t ∧ ∀ i, i < n → Cont zs i t → ix zs (j * 2 + 1) ≤ ix zs (i * 2 + 1) := by
  induction n with
  | zero => exact Or.inl (fun j hj => absurd hj (by omega))
  | succ n ih =>
    by_cases hc : Cont zs n t
    · right
      rcases ih with ih | ⟨j, hj, hcj, hm⟩
      · refine ⟨n, by omega, hc, fun i hi hci => ?_⟩
        rcases Nat.lt_or_eq_of_le (Nat.le_of_lt_succ hi) with h | rfl
        · exact absurd hci (ih i h)
        · omega
      · by_cases hle : ix zs (j * 2 + 1) ≤ ix zs (n * 2 + 1)
        · refine ⟨j, by omega, hcj, fun i hi hci => ?_⟩
          rcases Nat.lt_or_eq_of_le (Nat.le_of_lt_succ hi) with h | rfl
          · exact hm i h hci
          · exact hle
        · refine ⟨n, by omega, hc, fun i hi hci => ?_⟩
          rcases Nat.lt_or_eq_of_le (Nat.le_of_lt_succ hi) with h | rfl
          · have := hm i h hci; omega
          · omega
    · rcases ih with ih | ⟨j, hj, hcj, hm⟩
      · refine Or.inl (fun j hj => ?_)
        rcases Nat.lt_or_eq_of_le (Nat.le_of_lt_succ hj) with h | rfl
        · exact ih j h
        · exact hc
      · refine Or.inr ⟨j, by omega, hcj, fun i hi hci => ?_⟩
        rcases Nat.lt_or_eq_of_le (Nat.le_of_lt_succ hi) with h | rfl
        · exact hm i h hci
        · exact absurd hci hc

/-- A hull of the numbers with P. -/
def HullP (P : Int → Prop) (s : Hull) : Prop := (s.is = false ∧ ∀ t, ¬ P t) ∨ (s.is = true ∧ P s.lo ∧ P s.hi ∧ ∀ t, P t → s.lo ≤ t ∧ t ≤ s.hi)

theorem hullP_step {P : Int → Prop} {zs : List Int} {n : Nat} {need : Int} {s : Hull} (t : Int) (h : HullP P s) : HullP (fun u => P u ∨ (u = t ∧ need ≤ dep zs t n)) (hStep zs n need s t) := by
  unfold hStep
  by_cases hd : (dep zs t n : Int) < need
  · rw [if_pos hd]
    rcases h with ⟨h1, h2⟩ | ⟨h1, h2, h3, h4⟩
    · exact Or.inl ⟨h1, fun u hu => hu.elim (h2 u) (fun h => by omega)⟩
    · exact Or.inr ⟨h1, Or.inl h2, Or.inl h3, fun u hu => hu.elim (h4 u) (fun h => by omega)⟩
  · rw [if_neg hd]
    have hd' : need ≤ dep zs t n := by omega
    rcases h with ⟨h1, h2⟩ | ⟨h1, h2, h3, h4⟩
    · rw [h1]
      exact Or.inr ⟨rfl, Or.inr ⟨rfl, hd'⟩, Or.inr ⟨rfl, hd'⟩, fun u hu => hu.elim (fun h => absurd h (h2 u)) (fun h => by rw [h.1]; exact ⟨Int.le_refl _, Int.le_refl _⟩)⟩
    · rw [h1]
      refine Or.inr ⟨rfl, ?_, ?_, fun u hu => ?_⟩
      · show P (min s.lo t) ∨ _
        rcases Int.le_total s.lo t with h | h
        · left; rw [Int.min_eq_left h]; exact h2
        · right; exact ⟨Int.min_eq_right h, hd'⟩
      · show P (max s.hi t) ∨ _
        rcases Int.le_total t s.hi with h | h
        · left; rw [Int.max_eq_left h]; exact h3
        · right; exact ⟨Int.max_eq_right h, hd'⟩
      · show min s.lo t ≤ u ∧ u ≤ max s.hi t
        rcases hu with hu | hu
        · have := h4 u hu; omega
        · omega

/-- The ends of intervals that are in enough of them. -/
def EndP (zs : List Int) (n : Nat) (need : Int) (k : Nat) (u : Int) : Prop := (∃ j, j < k ∧ (u = ix zs (j * 2) ∨ u = ix zs (j * 2 + 1))) ∧ need ≤ dep zs u n

theorem HullP.congr {P Q : Int → Prop} {s : Hull} (h : HullP P s) (hpq : ∀ t, P t ↔ Q t) : HullP Q s := by
  rcases h with ⟨h1, h2⟩ | ⟨h1, h2, h3, h4⟩
  · exact Or.inl ⟨h1, fun t ht => h2 t ((hpq t).2 ht)⟩
  · exact Or.inr ⟨h1, (hpq _).1 h2, (hpq _).1 h3, fun t ht => h4 t ((hpq t).2 ht)⟩

theorem wH_hull (zs : List Int) (n : Nat) (need : Int) (k : Nat) : HullP (EndP zs n need k) (wH zs n need k) := by
  induction k with
  | zero => exact Or.inl ⟨rfl, fun t ⟨⟨j, hj, _⟩, _⟩ => absurd hj (by omega)⟩
  | succ k ih =>
    refine (hullP_step (zs := zs) (n := n) (need := need) (ix zs (k * 2 + 1)) (hullP_step (zs := zs) (n := n) (need := need) (ix zs (k * 2)) ih)).congr (fun u => ?_)
    unfold EndP
    constructor
    · rintro ((⟨⟨j, hj, h⟩, hd⟩ | ⟨rfl, hd⟩) | ⟨rfl, hd⟩)
      · exact ⟨⟨j, by omega, h⟩, hd⟩
      · exact ⟨⟨k, by omega, Or.inl rfl⟩, hd⟩
      · exact ⟨⟨k, by omega, Or.inr rfl⟩, hd⟩
    · rintro ⟨⟨j, hj, h⟩, hd⟩
      rcases Nat.lt_or_eq_of_le (Nat.le_of_lt_succ hj) with h1 | rfl
      · exact Or.inl (Or.inl ⟨⟨j, h1, h⟩, hd⟩)
      · rcases h with rfl | rfl
        · exact Or.inl (Or.inr ⟨rfl, hd⟩)
        · exact Or.inr ⟨rfl, hd⟩

/-- The least beginning of the greatest depth. -/
structure BestP (zs : List Int) (n k : Nat) (b : Best) : Prop where
  is : ∃ j, j < k ∧ b.lo = ix zs (j * 2) ∧ b.hi = ix zs (j * 2 + 1)
  deep : b.k = dep zs b.lo n
  all : ∀ j, j < k → dep zs (ix zs (j * 2)) n < b.k ∨ (dep zs (ix zs (j * 2)) n = b.k ∧ b.lo ≤ ix zs (j * 2))

theorem mB_best {zs : List Int} {n : Nat} (hS : SpOk zs n) (k : Nat) (hk : k < n) : BestP zs n (k + 1) (mB zs n (k + 1)) := by
  induction k with
  | zero =>
    have h1 : 1 ≤ dep zs (ix zs (0 * 2)) n := dep_pos (j := 0) hk ⟨Int.le_refl _, (hS.each 0 hk).2.1⟩
    have e : mB zs n 1 = ⟨ix zs (0 * 2), ix zs (0 * 2 + 1), dep zs (ix zs (0 * 2)) n⟩ := by
      show (if _ then _ else _) = _
      rw [if_pos (Or.inl (show (mB zs n 0).k < dep zs (ix zs (0 * 2)) n from h1))]
    rw [e]
    refine ⟨⟨0, by omega, rfl, rfl⟩, rfl, fun j hj => ?_⟩
    obtain rfl : j = 0 := by omega
    exact Or.inr ⟨rfl, Int.le_refl _⟩
  | succ k ih =>
    obtain ⟨⟨j0, hj0, e1, e2⟩, hd, hall⟩ := ih (by omega)
    have e : mB zs n (k + 1 + 1) = if (mB zs n (k + 1)).k < dep zs (ix zs ((k + 1) * 2)) n ∨ (dep zs (ix zs ((k + 1) * 2)) n = (mB zs n (k + 1)).k ∧ ix zs ((k + 1) * 2) < (mB zs n (k + 1)).lo) then ⟨ix zs ((k + 1) * 2), ix zs ((k + 1) * 2 + 1), dep zs (ix zs ((k + 1) * 2)) n⟩ else mB zs n (k + 1) := rfl
    rw [e]
    split
    · rename_i hc
      refine ⟨⟨k + 1, by omega, rfl, rfl⟩, rfl, fun j hj => ?_⟩
      show dep zs (ix zs (j * 2)) n < dep zs (ix zs ((k + 1) * 2)) n ∨ (dep zs (ix zs (j * 2)) n = dep zs (ix zs ((k + 1) * 2)) n ∧ ix zs ((k + 1) * 2) ≤ ix zs (j * 2))
      rcases Nat.lt_or_eq_of_le (Nat.le_of_lt_succ hj) with h1 | rfl
      · have := hall j h1
        omega
      · exact Or.inr ⟨rfl, Int.le_refl _⟩
    · rename_i hc
      refine ⟨⟨j0, by omega, e1, e2⟩, hd, fun j hj => ?_⟩
      rcases Nat.lt_or_eq_of_le (Nat.le_of_lt_succ hj) with h1 | rfl
      · exact hall j h1
      · omega

theorem mH_least (zs : List Int) (b h0 : Int) (k : Nat) : mH zs b h0 k ≤ h0 ∧ (∀ j, j < k → Cont zs j b → mH zs b h0 k ≤ ix zs (j * 2 + 1)) ∧ (mH zs b h0 k = h0 ∨ ∃ j, j < k ∧ Cont zs j b ∧ mH zs b h0 k = ix zs (j * 2 + 1)) := by
  induction k with
  | zero => exact ⟨Int.le_refl _, fun j hj => absurd hj (by omega), Or.inl rfl⟩
  | succ k ih =>
    obtain ⟨h1, h2, h3⟩ := ih
    have e : mH zs b h0 (k + 1) = if ix zs (k * 2) ≤ b ∧ b ≤ ix zs (k * 2 + 1) then min (mH zs b h0 k) (ix zs (k * 2 + 1)) else mH zs b h0 k := rfl
    by_cases hc : Cont zs k b
    · rw [if_pos (show ix zs (k * 2) ≤ b ∧ b ≤ ix zs (k * 2 + 1) from hc)] at e
      rw [e]
      refine ⟨by omega, fun j hj hcj => ?_, ?_⟩
      · rcases Nat.lt_or_eq_of_le (Nat.le_of_lt_succ hj) with h | rfl
        · have := h2 j h hcj; omega
        · omega
      · rcases Int.le_total (mH zs b h0 k) (ix zs (k * 2 + 1)) with h | h
        · rw [Int.min_eq_left h]
          rcases h3 with h3 | ⟨j, hj, hcj, h3⟩
          · exact Or.inl h3
          · exact Or.inr ⟨j, by omega, hcj, h3⟩
        · rw [Int.min_eq_right h]
          exact Or.inr ⟨k, by omega, hc, rfl⟩
    · rw [if_neg (show ¬ (ix zs (k * 2) ≤ b ∧ b ≤ ix zs (k * 2 + 1)) from hc)] at e
      rw [e]
      refine ⟨h1, fun j hj hcj => ?_, ?_⟩
      · rcases Nat.lt_or_eq_of_le (Nat.le_of_lt_succ hj) with h | rfl
        · exact h2 j h hcj
        · exact absurd hcj hc
      · rcases h3 with h3 | ⟨j, hj, hcj, h3⟩
        · exact Or.inl h3
        · exact Or.inr ⟨j, by omega, hcj, h3⟩

/-- What Most tells, said without its steps. -/
structure MostP (zs : List Int) (n : Nat) (lo hi : Int) (k : Nat) : Prop where
  is : ∃ j, j < n ∧ lo = ix zs (j * 2)
  deep : k = dep zs lo n
  all : ∀ j, j < n → dep zs (ix zs (j * 2)) n < k ∨ (dep zs (ix zs (j * 2)) n = k ∧ lo ≤ ix zs (j * 2))
  isHi : ∃ j, j < n ∧ Cont zs j lo ∧ hi = ix zs (j * 2 + 1)
  least : ∀ j, j < n → Cont zs j lo → hi ≤ ix zs (j * 2 + 1)

theorem most_law {zs : List Int} {n : Nat} (hS : SpOk zs n) : MostP zs n (mB zs n n).lo (mH zs (mB zs n n).lo (mB zs n n).hi n) (mB zs n n).k := by
  obtain ⟨m, rfl⟩ : ∃ m, n = m + 1 := ⟨n - 1, by have := hS.some; omega⟩
  obtain ⟨⟨j, hj, e1, e2⟩, hd, hall⟩ := mB_best hS m (by omega)
  have hl := mH_least zs (mB zs (m + 1) (m + 1)).lo (mB zs (m + 1) (m + 1)).hi (m + 1)
  have hcj : Cont zs j (mB zs (m + 1) (m + 1)).lo := by rw [e1]; exact ⟨Int.le_refl _, (hS.each j hj).2.1⟩
  refine ⟨⟨j, hj, e1⟩, hd, hall, ?_, hl.2.1⟩
  rcases hl.2.2 with h | ⟨i, hi, hci, h⟩
  · exact ⟨j, hj, hcj, by rw [h, e2]⟩
  · exact ⟨i, hi, hci, h⟩

/-- AgreeMajority, plain. -/
theorem majority {zs : List Int} {n : Nat} (hS : SpOk zs n) {t : Int} {N : Nat} (hN : N = dep zs t n) (h1 : 1 ≤ N) {lo hi : Int} {k : Nat} (hm : MostP zs n lo hi k) :
    (wH zs n N n).is = true ∧ (wH zs n N n).lo ≤ t ∧ t ≤ (wH zs n N n).hi ∧ N ≤ k ∧ (N < k ∨ ((wH zs n N n).lo ≤ lo ∧ hi ≤ (wH zs n N n).hi)) := by
  obtain ⟨j0, hj0, hc0⟩ := dep_some (zs := zs) (t := t) (n := n) (by omega)
  have hlo : ∃ j, j < n ∧ Cont zs j t ∧ ∀ i, i < n → Cont zs i t → ix zs (i * 2) ≤ ix zs (j * 2) := (last_lo (zs := zs) (t := t) n).resolve_left (fun h => h j0 hj0 hc0)
  have hhi : ∃ j, j < n ∧ Cont zs j t ∧ ∀ i, i < n → Cont zs i t → ix zs (j * 2 + 1) ≤ ix zs (i * 2 + 1) := (first_hi (zs := zs) (t := t) n).resolve_left (fun h => h j0 hj0 hc0)
  obtain ⟨a, ha, hca, hma⟩ := hlo
  obtain ⟨b, hb, hcb, hmb⟩ := hhi
  have da : N ≤ dep zs (ix zs (a * 2)) n := by
    rw [hN]
    exact dep_mono n (fun i hi hci => ⟨hma i hi hci, by have := hca.1; have := hci.2; omega⟩)
  have db : N ≤ dep zs (ix zs (b * 2 + 1)) n := by
    rw [hN]
    exact dep_mono n (fun i hi hci => ⟨by have := hcb.2; have := hci.1; omega, hmb i hi hci⟩)
  have Ea : EndP zs n N n (ix zs (a * 2)) := ⟨⟨a, ha, Or.inl rfl⟩, by omega⟩
  have Eb : EndP zs n N n (ix zs (b * 2 + 1)) := ⟨⟨b, hb, Or.inr rfl⟩, by omega⟩
  have hk : N ≤ k := by
    have := hm.all a ha
    omega
  rcases wH_hull zs n N n with ⟨_, h2⟩ | ⟨h1, h2, h3, h4⟩
  · exact absurd Ea (h2 _)
  · refine ⟨h1, by have := h4 _ Ea; have := hca.1; omega, by have := h4 _ Eb; have := hcb.2; omega, hk, ?_⟩
    rcases Nat.lt_or_eq_of_le hk with h | h
    · exact Or.inl h
    · right
      obtain ⟨i, hin, e1⟩ := hm.is
      obtain ⟨p, hp, hcp, e2⟩ := hm.isHi
      have E1 : EndP zs n N n lo := ⟨⟨i, hin, Or.inl e1⟩, by rw [← hm.deep]; omega⟩
      have E2 : EndP zs n N n hi := by
        refine ⟨⟨p, hp, Or.inr e2⟩, ?_⟩
        have : dep zs lo n ≤ dep zs hi n := dep_mono n (fun i hi2 hci => ⟨by have := hci.1; have := hcp.2; omega, hm.least i hi2 hci⟩)
        rw [← hm.deep] at this
        omega
      exact ⟨(h4 _ E1).1, (h4 _ E2).2⟩

/-- AgreeNested, plain. -/
theorem nested {zs : List Int} {n : Nat} {need : Int} (h : (wH zs n (need + 1) n).is = true) :
    (wH zs n need n).is = true ∧ (wH zs n need n).lo ≤ (wH zs n (need + 1) n).lo ∧ (wH zs n (need + 1) n).hi ≤ (wH zs n need n).hi := by
  rcases wH_hull zs n (need + 1) n with ⟨h1, _⟩ | ⟨_, h2, h3, _⟩
  · rw [h1] at h; cases h
  · have E1 : EndP zs n need n (wH zs n (need + 1) n).lo := ⟨h2.1, by have := h2.2; omega⟩
    have E2 : EndP zs n need n (wH zs n (need + 1) n).hi := ⟨h3.1, by have := h3.2; omega⟩
    rcases wH_hull zs n need n with ⟨_, g⟩ | ⟨g1, _, _, g4⟩
    · exact absurd E1 (g _)
    · exact ⟨g1, (g4 _ E1).1, (g4 _ E2).2⟩

/-- Two lists of the same intervals. -/
structure SameSp (zs ys : List Int) (n : Nat) : Prop where
  dep : ∀ t, Go.Proofs.YtocdboopmfgkpaaDoor.dep zs t n = Go.Proofs.YtocdboopmfgkpaaDoor.dep ys t n
  to : ∀ j, j < n → ∃ i, i < n ∧ ix zs (j * 2) = ix ys (i * 2) ∧ ix zs (j * 2 + 1) = ix ys (i * 2 + 1)
  back : ∀ j, j < n → ∃ i, i < n ∧ ix ys (j * 2) = ix zs (i * 2) ∧ ix ys (j * 2 + 1) = ix zs (i * 2 + 1)

theorem SameSp.symm {zs ys : List Int} {n : Nat} (h : SameSp zs ys n) : SameSp ys zs n := ⟨fun t => (h.dep t).symm, h.back, h.to⟩

theorem same_endP {zs ys : List Int} {n : Nat} {need u : Int} (h : SameSp zs ys n) (hE : EndP zs n need n u) : EndP ys n need n u := by
  obtain ⟨⟨j, hj, hu⟩, hd⟩ := hE
  obtain ⟨i, hi, e1, e2⟩ := h.to j hj
  exact ⟨⟨i, hi, by rw [← e1, ← e2]; exact hu⟩, by rw [← h.dep]; exact hd⟩

theorem same_hull {zs ys : List Int} {n : Nat} {need : Int} (h : SameSp zs ys n) : wH zs n need n = wH ys n need n := by
  have n1 := wH_none zs n need n
  have n2 := wH_none ys n need n
  have h1 := wH_hull zs n need n
  have h2 := wH_hull ys n need n
  generalize wH zs n need n = s at *
  generalize wH ys n need n = u at *
  obtain ⟨a, b, c⟩ := s
  obtain ⟨d, e, f⟩ := u
  rcases h1 with ⟨g1, g2⟩ | ⟨g1, g2, g3, g4⟩ <;> rcases h2 with ⟨k1, k2⟩ | ⟨k1, k2, k3, k4⟩
  · have := n1 g1; have := n2 k1
    simp_all
  · exact absurd (same_endP h.symm k2) (g2 _)
  · exact absurd (same_endP h g2) (k2 _)
  · have a1 := k4 _ (same_endP h g2)
    have a2 := k4 _ (same_endP h g3)
    have a3 := g4 _ (same_endP h.symm k2)
    have a4 := g4 _ (same_endP h.symm k3)
    simp only at g1 k1 a1 a2 a3 a4
    rw [g1, k1, show b = e by omega, show c = f by omega]

theorem same_most {zs ys : List Int} {n : Nat} {lo hi lo' hi' : Int} {k k' : Nat} (h : SameSp zs ys n) (h1 : MostP zs n lo hi k) (h2 : MostP ys n lo' hi' k') : lo = lo' ∧ hi = hi' ∧ k = k' := by
  obtain ⟨j, hj, e1⟩ := h1.is
  obtain ⟨i, hi1, e2⟩ := h2.is
  obtain ⟨j', hj', f1, f2⟩ := h.to j hj
  obtain ⟨i', hi2, f3, f4⟩ := h.back i hi1
  have d1 := h1.deep
  have d2 := h2.deep
  have a1 := h2.all j' hj'
  have a2 := h1.all i' hi2
  rw [← f1, ← e1, ← h.dep] at a1
  rw [← f3, ← e2, h.dep] at a2
  have hk : k = k' := by omega
  have hlo : lo = lo' := by omega
  subst hlo
  refine ⟨rfl, ?_, hk⟩
  obtain ⟨p, hp, hcp, g1⟩ := h1.isHi
  obtain ⟨q, hq, hcq, g2⟩ := h2.isHi
  obtain ⟨p', hp', f5, f6⟩ := h.to p hp
  obtain ⟨q', hq', f7, f8⟩ := h.back q hq
  have b1 := h2.least p' hp' (by unfold Cont at hcp ⊢; rw [← f5, ← f6]; exact hcp)
  have b2 := h1.least q' hq' (by unfold Cont at hcq ⊢; rw [← f7, ← f8]; exact hcq)
  rw [← f6] at b1
  rw [← f8] at b2
  omega

end Go.Proofs.YtocdboopmfgkpaaDoor
