/- The law of sums that are put together, plain. -/
import Derived.Test.YtloaliddcaobeaaDoorSeriesRests
namespace Go.Proofs.YtloaliddcaobeaaDoor
open Go.RowKit
set_option linter.unusedSimpArgs false
set_option linter.unusedVariables false
theorem tm_left {ys us : List Int} {n : Nat} (hl : ys.length = n * 3) (t : Int) {i : Nat} (hi : i < n) : tmW (ys ++ us) t i = tmW ys t i := by
  unfold tmW
  rw [ix_app_lt (by omega), ix_app_lt (by omega), ix_app_lt (by omega)]
theorem ix_right {ys us : List Int} {n : Nat} (hl : ys.length = n * 3) (j k : Nat) : ix (ys ++ us) ((n + j) * 3 + k) = ix us (j * 3 + k) := by
  have := ix_app_at (xs := ys) (ys := us) (j * 3 + k)
  rw [hl] at this
  rw [← this]; congr 1; omega
theorem tm_right {ys us : List Int} {n : Nat} (hl : ys.length = n * 3) (t : Int) (j : Nat) : tmW (ys ++ us) t (n + j) = tmW us t j := by
  unfold tmW
  have e0 := ix_right (us := us) hl j 0
  have e1 := ix_right (us := us) hl j 1
  have e2 := ix_right (us := us) hl j 2
  rw [Nat.add_zero, Nat.add_zero] at e0
  rw [e0, e1, e2]
theorem both_tm {ys us : List Int} {n m : Nat} (hl : ys.length = n * 3) (h1 : ∀ i, i < n → TmOk ys i) (h2 : ∀ i, i < m → TmOk us i) : ∀ i, i < n + m → TmOk (ys ++ us) i := by
  intro i hi
  by_cases c : i < n
  · obtain ⟨a1, a2, p1, p2, r1, r2⟩ := h1 i c
    refine ⟨?_, ?_, ?_, ?_, ?_, ?_⟩
    all_goals rw [ix_app_lt (by omega)]
    all_goals assumption
  · obtain ⟨j, rfl⟩ : ∃ j, i = n + j := ⟨i - n, by omega⟩
    obtain ⟨a1, a2, p1, p2, r1, r2⟩ := h2 j (by omega)
    have e0 := ix_right (us := us) hl j 0
    have e1 := ix_right (us := us) hl j 1
    have e2 := ix_right (us := us) hl j 2
    rw [Nat.add_zero, Nat.add_zero] at e0
    exact ⟨by rw [e0]; exact a1, by rw [e0]; exact a2, by rw [e1]; exact p1, by rw [e1]; exact p2, by rw [e2]; exact r1, by rw [e2]; exact r2⟩
theorem fsum_app0 {f g h : Nat → Nat} (h2 : ∀ j, h (0 + j) = g j) (m : Nat) : fsum h m = fsum g m := fsum_congr m (fun i hi => by have := h2 i; rwa [Nat.zero_add] at this)
theorem vLo_pos {mean rest : Int} {zs : List Int} {n : Nat} {t : Int} (h : 0 < n) : vLo mean rest zs n t = mean + aLo (fsum (tmW zs t) n) - rest := by unfold vLo; rw [if_neg (by omega)]
theorem vHi_pos {mean rest : Int} {zs : List Int} {n : Nat} {t : Int} (h : 0 < n) : vHi mean rest zs n t = mean + aHi (fsum (tmW zs t) n) + rest := by unfold vHi; rw [if_neg (by omega)]
theorem vLo_zero {mean rest : Int} {zs : List Int} {t : Int} : vLo mean rest zs 0 t = mean - rest := rfl
theorem vHi_zero {mean rest : Int} {zs : List Int} {t : Int} : vHi mean rest zs 0 t = mean + rest := rfl
/-- A sum of sums meets the sum of them. -/
theorem both_meet {ys us : List Int} {n m : Nat} (hl : ys.length = n * 3) (hn : n ≤ 20) (hm : m ≤ 20) (h1 : ∀ i, i < n → TmOk ys i) (h2 : ∀ i, i < m → TmOk us i) (m1 m2 q1 q2 t : Int) (hq1 : 0 ≤ q1) (hq2 : 0 ≤ q2) :
    vLo (m1 + m2) (q1 + q2) (ys ++ us) (n + m) t ≤ vHi m1 q1 ys n t + vHi m2 q2 us m t ∧ vLo m1 q1 ys n t + vLo m2 q2 us m t ≤ vHi (m1 + m2) (q1 + q2) (ys ++ us) (n + m) t := by
  have hmod1 : ∀ i, i < n → Mod' (tmW ys t i) := fun i hi => tm_mod (h1 i hi) t
  have hmod2 : ∀ i, i < m → Mod' (tmW us t i) := fun i hi => tm_mod (h2 i hi) t
  have hmod3 : ∀ i, i < n + m → Mod' (tmW (ys ++ us) t i) := fun i hi => tm_mod (both_tm hl h1 h2 i hi) t
  have A1 := sum_around (n := n) (by omega) hmod1
  have A2 := sum_around (n := m) (by omega) hmod2
  have A3 := sum_around (n := n + m) (by omega) hmod3
  have O1 := around_order A1 (by grind)
  have O2 := around_order A2 (by grind)
  rcases Nat.eq_zero_or_pos n with rfl | pn
  · have e : fsum (tmW (ys ++ us) t) (0 + m) = fsum (tmW us t) m := by
      rw [Nat.zero_add]
      exact fsum_congr m (fun i hi => by have := tm_right (us := us) hl t i; rwa [Nat.zero_add] at this)
    rcases Nat.eq_zero_or_pos m with rfl | pm
    · rw [vLo_zero, vHi_zero, vLo_zero, vHi_zero, show 0 + 0 = 0 from rfl, vLo_zero, vHi_zero]; omega
    · rw [vLo_zero, vHi_zero, vLo_pos (n := 0 + m) (by omega), vHi_pos (n := 0 + m) (by omega), vLo_pos pm, vHi_pos pm, e]; omega
  · rcases Nat.eq_zero_or_pos m with rfl | pm
    · have e : fsum (tmW (ys ++ us) t) (n + 0) = fsum (tmW ys t) n := by
        rw [Nat.add_zero]
        exact fsum_congr n (fun i hi => tm_left hl t hi)
      rw [vLo_zero, vHi_zero, vLo_pos (n := n + 0) (by omega), vHi_pos (n := n + 0) (by omega), vLo_pos pn, vHi_pos pn, e]; omega
    · have er : rsum (tmW (ys ++ us) t) (n + m) = rsum (tmW ys t) n + rsum (tmW us t) m := rsum_app n (fun i hi => tm_left hl t hi) m (fun j hj => tm_right hl t j)
      rw [er] at A3
      have M := around_adds A1 A2 A3 (by grind)
      rw [vLo_pos (n := n + m) (by omega), vHi_pos (n := n + m) (by omega), vLo_pos pn, vHi_pos pn, vLo_pos pm, vHi_pos pm]; omega
theorem SmBox.other {w : World} {b : Nat} {x y z u : Value} (h : SmBox w b x y z u) {a : Addr} (ha : b ≠ a.block) (v : Value) : SmBox (w.setCell a v) b x y z u := World.rowIs.setOther h ha v
theorem SmBox.put0 {w : World} {b : Nat} {x y z u : Value} (h : SmBox w b x y z u) (x' : Value) : SmBox (w.setCell ⟨b, 0, none⟩ x') b x' y z u :=
  (World.rowIs.set h 0 x').congr (fun i hi => by
    match i, hi with
    | 0, _ => rfl
    | 1, _ => rfl
    | 2, _ => rfl
    | 3, _ => rfl)
end Go.Proofs.YtloaliddcaobeaaDoor
