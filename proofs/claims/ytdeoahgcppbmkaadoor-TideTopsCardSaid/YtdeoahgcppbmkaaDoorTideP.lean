/- The laws of tides, plain. -/
import Derived.Test.YtdeoahgcppbmkaaDoorTideW
namespace Go.Proofs.YtdeoahgcppbmkaaDoor
open Go.RowKit
set_option linter.unusedSimpArgs false
set_option linter.unusedVariables false
theorem ixP_lt {xs ys : List Int} {j : Nat} (h : j < xs.length) : ix (xs ++ ys) j = ix xs j := by
  unfold ix; simp [List.getD, List.getElem?_append_left h]
theorem ixP_at {xs ys : List Int} (j : Nat) : ix (xs ++ ys) (xs.length + j) = ix ys j := by
  unfold ix
  rw [List.getD_eq_getElem?_getD, List.getD_eq_getElem?_getD, List.getElem?_append_right (by omega)]
  congr 2; omega
theorem td_left {ys us : List Int} {n : Nat} (hl : ys.length = n * 3) (t : Int) {i : Nat} (hi : i < n) : tdW (ys ++ us) t i = tdW ys t i := by
  unfold tdW
  rw [ixP_lt (by omega), ixP_lt (by omega), ixP_lt (by omega)]
theorem ixP_right {ys us : List Int} {n : Nat} (hl : ys.length = n * 3) (j k : Nat) : ix (ys ++ us) ((n + j) * 3 + k) = ix us (j * 3 + k) := by
  have := ixP_at (xs := ys) (ys := us) (j * 3 + k)
  rw [hl] at this
  rw [← this]; congr 1; omega
theorem td_right {ys us : List Int} {n : Nat} (hl : ys.length = n * 3) (t : Int) (j : Nat) : tdW (ys ++ us) t (n + j) = tdW us t j := by
  unfold tdW
  have e0 := ixP_right (us := us) hl j 0
  have e1 := ixP_right (us := us) hl j 1
  have e2 := ixP_right (us := us) hl j 2
  rw [Nat.add_zero, Nat.add_zero] at e0
  rw [e0, e1, e2]
theorem both_td {ys us : List Int} {n m : Nat} (hl : ys.length = n * 3) (h1 : ∀ i, i < n → TdOk ys i) (h2 : ∀ i, i < m → TdOk us i) : ∀ i, i < n + m → TdOk (ys ++ us) i := by
  intro i hi
  by_cases c : i < n
  · obtain ⟨a1, a2, p1, p2, r1, r2⟩ := h1 i c
    refine ⟨?_, ?_, ?_, ?_, ?_, ?_⟩
    all_goals rw [ixP_lt (by omega)]
    all_goals assumption
  · obtain ⟨j, rfl⟩ : ∃ j, i = n + j := ⟨i - n, by omega⟩
    obtain ⟨a1, a2, p1, p2, r1, r2⟩ := h2 j (by omega)
    have e0 := ixP_right (us := us) hl j 0
    have e1 := ixP_right (us := us) hl j 1
    have e2 := ixP_right (us := us) hl j 2
    rw [Nat.add_zero, Nat.add_zero] at e0
    exact ⟨by rw [e0]; exact a1, by rw [e0]; exact a2, by rw [e1]; exact p1, by rw [e1]; exact p2, by rw [e2]; exact r1, by rw [e2]; exact r2⟩
theorem hLo_pos {zs : List Int} {n : Nat} {t : Int} (h : 0 < n) : hLo zs n t = aLo (fsum (tdW zs t) n) := by unfold hLo; rw [if_neg (by omega)]
theorem hHi_pos {zs : List Int} {n : Nat} {t : Int} (h : 0 < n) : hHi zs n t = aHi (fsum (tdW zs t) n) := by unfold hHi; rw [if_neg (by omega)]
theorem hLo_zero {zs : List Int} {t : Int} : hLo zs 0 t = 0 := rfl
theorem hHi_zero {zs : List Int} {t : Int} : hHi zs 0 t = 0 := rfl
/-- What is known of a height. -/
theorem heights {zs : List Int} {n : Nat} (hn : n ≤ 12) (h1 : ∀ i, i < n → TdOk zs i) (t : Int) : hLo zs n t ≤ hHi zs n t ∧ -60000000002 ≤ hLo zs n t ∧ hHi zs n t ≤ 60000000002 := by
  rcases Nat.eq_zero_or_pos n with rfl | pn
  · rw [hLo_zero, hHi_zero]; omega
  · have hmod : ∀ i, i < n → Mod' (tdW zs t i) := fun i hi => td_mod (h1 i hi) t
    have AR := sum_around (n := n) (by omega) hmod
    have AB := around_bd AR (by grind) (by have := (sum_ok (by omega) hmod n (Nat.le_refl _)).bl; have := nat_le40 (k := n) (by omega); grind) (by have := (sum_ok (by omega) hmod n (Nat.le_refl _)).bh; have := nat_le40 (k := n) (by omega); grind)
    have AO := around_order AR (by grind)
    rw [hLo_pos pn, hHi_pos pn]; omega
/-- The heights of two tides add up. -/
theorem tides_meet {ys us : List Int} {n m : Nat} (hl : ys.length = n * 3) (hn : n ≤ 6) (hm : m ≤ 6) (h1 : ∀ i, i < n → TdOk ys i) (h2 : ∀ i, i < m → TdOk us i) (t : Int) :
    hLo (ys ++ us) (n + m) t ≤ hHi ys n t + hHi us m t ∧ hLo ys n t + hLo us m t ≤ hHi (ys ++ us) (n + m) t := by
  have hmod1 : ∀ i, i < n → Mod' (tdW ys t i) := fun i hi => td_mod (h1 i hi) t
  have hmod2 : ∀ i, i < m → Mod' (tdW us t i) := fun i hi => td_mod (h2 i hi) t
  have hmod3 : ∀ i, i < n + m → Mod' (tdW (ys ++ us) t i) := fun i hi => td_mod (both_td hl h1 h2 i hi) t
  have A1 := sum_around (n := n) (by omega) hmod1
  have A2 := sum_around (n := m) (by omega) hmod2
  have A3 := sum_around (n := n + m) (by omega) hmod3
  have O1 := around_order A1 (by grind)
  have O2 := around_order A2 (by grind)
  rcases Nat.eq_zero_or_pos n with rfl | pn
  · have e : fsum (tdW (ys ++ us) t) (0 + m) = fsum (tdW us t) m := by
      rw [Nat.zero_add]
      exact fsum_congr m (fun i hi => by have := td_right (us := us) hl t i; rwa [Nat.zero_add] at this)
    rcases Nat.eq_zero_or_pos m with rfl | pm
    · rw [hLo_zero, hHi_zero, hLo_zero, hHi_zero, show 0 + 0 = 0 from rfl, hLo_zero, hHi_zero]; omega
    · rw [hLo_zero, hHi_zero, hLo_pos (n := 0 + m) (by omega), hHi_pos (n := 0 + m) (by omega), hLo_pos pm, hHi_pos pm, e]; omega
  · rcases Nat.eq_zero_or_pos m with rfl | pm
    · have e : fsum (tdW (ys ++ us) t) (n + 0) = fsum (tdW ys t) n := by
        rw [Nat.add_zero]
        exact fsum_congr n (fun i hi => td_left hl t hi)
      rw [hLo_zero, hHi_zero, hLo_pos (n := n + 0) (by omega), hHi_pos (n := n + 0) (by omega), hLo_pos pn, hHi_pos pn, e]; omega
    · have er : rsum (tdW (ys ++ us) t) (n + m) = rsum (tdW ys t) n + rsum (tdW us t) m := rsum_app n (fun i hi => td_left hl t hi) m (fun j hj => td_right hl t j)
      rw [er] at A3
      have M := around_adds A1 A2 A3 (by grind)
      rw [hLo_pos (n := n + m) (by omega), hHi_pos (n := n + m) (by omega), hLo_pos pn, hHi_pos pn, hLo_pos pm, hHi_pos pm]; omega
/-- With whole turns in a day, a part repeats each day. -/
theorem part_repeats (a p k t d : Int) : partW a p (k * 1000000000000000) (t + d * 86400000) = partW a p (k * 1000000000000000) t := by
  unfold partW partA
  have e : k * 1000000000000000 * (t + d * 86400000) = k * 1000000000000000 * t + k * d * 1000000000 * 86400000000000 := by
    rw [Int.mul_add, show k * 1000000000000000 * (d * 86400000) = k * d * 1000000000 * 86400000000000 by grind]
  rw [e, Int.add_mul_emod_self_right, Int.add_mul_ediv_right _ _ (by omega), ← Int.add_assoc, Int.add_mul_emod_self_right]
end Go.Proofs.YtdeoahgcppbmkaaDoor
