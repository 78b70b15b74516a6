/- A network comes to rest: behind as many rounds as reach from each node to each other one, all hold the greatest number of each author. -/
import Derived.Test.YtocdboopmfgkpaaDoorSettle
import Derived.Test.YtocdboopmfgkpaaDoorPut
import Derived.Test.YtocdboopmfgkpaaDoorNew
namespace Go.Proofs.YtocdboopmfgkpaaDoor
open Go.RowKit
set_option linter.unusedSimpArgs false
set_option linter.unusedVariables false

section
variable {D : NetD}
theorem bestN_own (H : Nat → Nat → Int) (i a j : Nat) : H i a ≤ bestN D H i a j := by
  induction j with
  | zero => exact Int.le_refl _
  | succ j ih => unfold bestN; split <;> omega
theorem bestN_nbr (H : Nat → Nat → Int) (i a : Nat) : ∀ j x, x < j → H (D.nbr i x) a ≤ bestN D H i a j := by
  intro j
  induction j with
  | zero => intro x hx; omega
  | succ j ih =>
    intro x hx
    unfold bestN
    by_cases e : x = j
    · subst e; split <;> omega
    · have := ih x (by omega); split <;> omega
theorem bestN_le (H : Nat → Nat → Int) (i a : Nat) (M : Int) (h0 : H i a ≤ M) : ∀ j, (∀ x, x < j → H (D.nbr i x) a ≤ M) → bestN D H i a j ≤ M := by
  intro j
  induction j with
  | zero => intro _; exact h0
  | succ j ih =>
    intro h
    have h1 := ih (fun x hx => h x (by omega))
    have h2 := h j (by omega)
    unfold bestN; split <;> omega
theorem bestN_congr (H G : Nat → Nat → Int) (i a : Nat) (h0 : H i a = G i a) : ∀ j, (∀ x, x < j → H (D.nbr i x) a = G (D.nbr i x) a) → bestN D H i a j = bestN D G i a j := by
  intro j
  induction j with
  | zero => intro _; exact h0
  | succ j ih =>
    intro h
    have h1 := ih (fun x hx => h x (by omega))
    have h2 := h j (by omega)
    unfold bestN; rw [h1, h2]
theorem stepN_congr (hD : NetOk D) (H G : Nat → Nat → Int) (a : Nat) (h : ∀ i, i < D.n → H i a = G i a) (i : Nat) (hi : i < D.n) : stepN D H i a = stepN D G i a :=
  bestN_congr H G i a (h i hi) _ (fun x hx => h _ (hD.nb i hi x hx))
theorem iterN_le (hD : NetOk D) (H : Nat → Nat → Int) (a : Nat) (M : Int) (h : ∀ i, i < D.n → H i a ≤ M) : ∀ k i, i < D.n → iterN D H k i a ≤ M := by
  intro k
  induction k with
  | zero => exact h
  | succ k ih => intro i hi; exact bestN_le _ _ _ _ (ih i hi) _ (fun x hx => ih _ (hD.nb i hi x hx))
/-- Node i hears within k rounds what node j holds. -/
def reachN (D : NetD) : Nat → Nat → Nat → Bool
  | 0, i, j => i == j
  | k + 1, i, j => reachN D k i j || (List.range (D.deg i)).any (fun x => reachN D k (D.nbr i x) j)
theorem reach_le (H : Nat → Nat → Int) (a : Nat) : ∀ k i j, reachN D k i j = true → H j a ≤ iterN D H k i a := by
  intro k
  induction k with
  | zero =>
    intro i j h
    have e : i = j := by simpa [reachN] using h
    subst e; exact Int.le_refl _
  | succ k ih =>
    intro i j h
    unfold reachN at h
    rw [Bool.or_eq_true] at h
    rcases h with h | h
    · exact Int.le_trans (ih i j h) (bestN_own _ i a _)
    · rw [List.any_eq_true] at h
      obtain ⟨x, hx, hr⟩ := h
      exact Int.le_trans (ih _ j hr) (bestN_nbr _ i a _ x (List.mem_range.1 hx))
theorem iter_max (hD : NetOk D) (H : Nat → Nat → Int) (a m : Nat) (M : Int) (hr : ∀ i, i < D.n → ∀ j, j < D.n → reachN D m i j = true) (h : ∀ i, i < D.n → H i a ≤ M) (he : ∃ j, j < D.n ∧ H j a = M) (i : Nat) (hi : i < D.n) : iterN D H m i a = M := by
  obtain ⟨j, hj, e⟩ := he
  have h1 := reach_le H a m i j (hr i hi j hj)
  have h2 := iterN_le hD H a M h m i hi
  omega
theorem fix_of_max (hD : NetOk D) (H : Nat → Nat → Int) (m : Nat) (M : Nat → Int) (h : ∀ i, i < D.n → ∀ a, a < D.K → iterN D H m i a = M a) : ∀ i, i < D.n → ∀ a, a < D.K → stepN D (iterN D H m) i a = iterN D H m i a := by
  intro i hi a ha
  have h1 : M a ≤ stepN D (iterN D H m) i a := by
    have := bestN_own (D := D) (iterN D H m) i a (D.deg i)
    rw [h i hi a ha] at this; exact this
  have h2 : stepN D (iterN D H m) i a ≤ M a := bestN_le _ _ _ _ (Int.le_of_eq (h i hi a ha)) _ (fun x hx => Int.le_of_eq (h _ (hD.nb i hi x hx) a ha))
  rw [h i hi a ha]; omega
theorem rest_max (hD : NetOk D) (H : Nat → Nat → Int) (k m : Nat) (hk : k ≤ m) (hf : ∀ i, i < D.n → ∀ a, a < D.K → stepN D (iterN D H k) i a = iterN D H k i a) (a : Nat) (ha : a < D.K) :
    ∀ i, i < D.n → iterN D H k i a = iterN D H m i a := by
  obtain ⟨d, rfl⟩ : ∃ d, m = k + d := ⟨m - k, by omega⟩
  clear hk
  induction d with
  | zero => intro i hi; rfl
  | succ d ih =>
    intro i hi
    rw [show iterN D H (k + (d + 1)) = stepN D (iterN D H (k + d)) from rfl, stepN_congr hD (iterN D H (k + d)) (iterN D H k) a (fun i hi => (ih i hi).symm) i hi]
    exact (hf i hi a ha).symm
end
/-- The greatest number of author a that one of the first n nodes holds. -/
def mxN (H : Nat → Nat → Int) (a : Nat) : Nat → Int
  | 0 => 0
  | i + 1 => if mxN H a i < H i a then H i a else mxN H a i
theorem mxN_ge (H : Nat → Nat → Int) (a : Nat) : ∀ n, 0 ≤ mxN H a n ∧ ∀ i, i < n → H i a ≤ mxN H a n := by
  intro n
  induction n with
  | zero => exact ⟨Int.le_refl _, fun i hi => by omega⟩
  | succ n ih =>
    unfold mxN
    refine ⟨by have := ih.1; split <;> omega, fun i hi => ?_⟩
    by_cases e : i = n
    · subst e; split <;> omega
    · have := ih.2 i (by omega); split <;> omega
theorem mxN_is (H : Nat → Nat → Int) (a : Nat) : ∀ n, 0 < n → (∀ i, i < n → 0 ≤ H i a) → ∃ j, j < n ∧ H j a = mxN H a n := by
  intro n
  induction n with
  | zero => intro h; omega
  | succ n ih =>
    intro _ h
    by_cases e : n = 0
    · subst e
      refine ⟨0, by omega, ?_⟩
      have h0 := h 0 (by omega)
      show H 0 a = if (0 : Int) < H 0 a then H 0 a else 0
      split <;> omega
    · obtain ⟨j, hj, ej⟩ := ih (by omega) (fun i hi => h i (by omega))
      unfold mxN
      by_cases e2 : mxN H a n < H n a
      · rw [if_pos e2]; exact ⟨n, by omega, rfl⟩
      · rw [if_neg e2]; exact ⟨j, by omega, ej⟩
theorem mxN_zero (a : Nat) : ∀ n, mxN (fun _ _ => 0) a n = 0 := by
  intro n
  induction n with
  | zero => rfl
  | succ n ih => unfold mxN; rw [ih]; rfl
theorem mxN_put (H : Nat → Nat → Int) (i a : Nat) (m : Int) (h0 : 0 ≤ m) (b : Nat) : ∀ n, mxN (putH H i a m) b n = if b = a ∧ i < n then (if mxN H b n < m then m else mxN H b n) else mxN H b n := by
  intro n
  induction n with
  | zero => rw [if_neg (fun h => absurd h.2 (Nat.not_lt_zero _))]; rfl
  | succ n ih =>
    obtain ⟨g0, g1⟩ := mxN_ge H b n
    obtain ⟨x, hx⟩ : ∃ x, x = mxN H b n := ⟨_, rfl⟩
    obtain ⟨y, hy⟩ : ∃ y, y = H n b := ⟨_, rfl⟩
    have eM : mxN H b (n + 1) = if x < y then y else x := by rw [hx, hy]; rfl
    have eP : mxN (putH H i a m) b (n + 1) = if mxN (putH H i a m) b n < putH H i a m n b then putH H i a m n b else mxN (putH H i a m) b n := rfl
    rw [eP, eM, ih, ← hx]
    by_cases e : b = a
    · subst e
      by_cases e2 : n = i
      · subst e2
        have c1 : ¬ (b = b ∧ n < n) := fun h => Nat.lt_irrefl _ h.2
        have c2 : b = b ∧ n < n + 1 := ⟨rfl, Nat.lt_succ_self n⟩
        rw [if_neg c1, if_pos c2]
        by_cases e3 : H n b < m
        · have e4 : putH H n b m n b = m := by unfold putH; exact if_pos ⟨rfl, rfl, e3⟩
          rw [e4]
          rw [← hy] at e3
          split <;> split <;> (try split at *) <;> omega
        · have e4 : putH H n b m n b = y := by rw [hy]; unfold putH; exact if_neg (fun h => e3 h.2.2)
          rw [e4]
          rw [← hy] at e3
          split <;> (try split) <;> omega
      · have e4 : putH H i b m n b = y := by rw [hy]; unfold putH; exact if_neg (fun h => e2 h.1)
        rw [e4]
        by_cases e5 : i < n
        · have c1 : b = b ∧ i < n := ⟨rfl, e5⟩
          have c2 : b = b ∧ i < n + 1 := ⟨rfl, by omega⟩
          rw [if_pos c1, if_pos c2]
          by_cases q1 : x < m <;> by_cases q2 : x < y <;> simp only [q1, q2, if_true, if_false] <;> (repeat' split) <;> omega
        · have c1 : ¬ (b = b ∧ i < n) := fun h => e5 h.2
          have c2 : ¬ (b = b ∧ i < n + 1) := fun h => by have := h.2; omega
          rw [if_neg c1, if_neg c2]
    · have e4 : putH H i a m n b = y := by rw [hy]; unfold putH; exact if_neg (fun h => e h.2.1)
      have c1 : ¬ (b = a ∧ i < n) := fun h => e h.1
      have c2 : ¬ (b = a ∧ i < n + 1) := fun h => e h.1
      rw [e4, if_neg c1, if_neg c2]
theorem putH_nonneg (H : Nat → Nat → Int) (i a : Nat) (m : Int) (h0 : 0 ≤ m) (h : ∀ x y, 0 ≤ H x y) (x y : Nat) : 0 ≤ putH H i a m x y := by
  unfold putH; split
  · exact h0
  · exact h x y
end Go.Proofs.YtocdboopmfgkpaaDoor
