/- The plain laws of gauge: what Fit and Residual tell is exact, and least. -/
import Derived.Test.YtmeppcoekmoofaaResid
namespace Go.Proofs.Ytmeppcoekmoofaa
set_option linter.unusedVariables false

/-- What Fit tells of two columns. -/
theorem fit_two {R : Gm} {H : Nat → Int} {m : Nat} (h : detF 2 (gm R m) ≠ 0) :
    ∃ g d x y : Int, 0 < g ∧ 0 < d ∧ detF 2 (gm R m) = g * d ∧ fitD 2 (gm R m) (gr R H m) = d ∧ fitF 2 (gm R m) (gr R H m) 0 = x ∧ fitF 2 (gm R m) (gr R H m) 1 = y ∧ det2 (colSet (gm R m) 0 (gr R H m)) = g * x ∧ det2 (colSet (gm R m) 1 (gr R H m)) = g * y ∧
      gm R m 0 0 * x + gm R m 0 1 * y = d * gr R H m 0 ∧ gm R m 1 0 * x + gm R m 1 1 * y = d * gr R H m 1 := by
  have hD : 0 < detF 2 (gm R m) := by
    have := gram2_nonneg R m
    rw [← detF_two] at this
    omega
  obtain ⟨g, hg⟩ : ∃ g, g = fitG (detF 2 (gm R m)) (detN 2 (gm R m) (gr R H m)) 2 := ⟨_, rfl⟩
  have hg0 : 0 < g := by rw [hg]; exact fitG_pos hD 2
  obtain ⟨hd1, hd2⟩ := fitG_dvd (detF 2 (gm R m)) (detN 2 (gm R m) (gr R H m)) 2
  rw [← hg] at hd1 hd2
  obtain ⟨d, hd⟩ := hd1
  obtain ⟨x, hx⟩ := hd2 0 (by omega)
  obtain ⟨y, hy⟩ := hd2 1 (by omega)
  have e0 : fitD 2 (gm R m) (gr R H m) = d := by
    unfold fitD
    rw [← hg, hd]
    exact Int.mul_tdiv_cancel_left d (by omega)
  have e1 : fitF 2 (gm R m) (gr R H m) 0 = x := by
    unfold fitF
    rw [← hg, hx]
    exact Int.mul_tdiv_cancel_left x (by omega)
  have e2 : fitF 2 (gm R m) (gr R H m) 1 = y := by
    unfold fitF
    rw [← hg, hy]
    exact Int.mul_tdiv_cancel_left y (by omega)
  have n0 : detN 2 (gm R m) (gr R H m) 0 = det2 (colSet (gm R m) 0 (gr R H m)) := detF_two _
  have n1 : detN 2 (gm R m) (gr R H m) 1 = det2 (colSet (gm R m) 1 (gr R H m)) := detF_two _
  rw [n0] at hx
  rw [n1] at hy
  have c0 := cramer2 (gm R m) (gr R H m) 0 (by omega)
  have c1 := cramer2 (gm R m) (gr R H m) 1 (by omega)
  rw [← detF_two (gm R m), hd, hx, hy] at c0 c1
  have hdp : 0 < d := by
    rw [hd] at hD
    exact Int.pos_of_mul_pos_right hD (by omega)
  refine ⟨g, d, x, y, hg0, hdp, hd, e0, e1, e2, hx, hy, ?_, ?_⟩
  · apply Int.eq_of_mul_eq_mul_left (a := g) (by omega)
    grind
  · apply Int.eq_of_mul_eq_mul_left (a := g) (by omega)
    grind

/-- GaugeLeast, plain. -/
theorem least_law {R : Gm} {H : Nat → Int} {m : Nat} (h : detF 2 (gm R m) ≠ 0) (F0 F1 : Int) {N d q S : Int} (hN : N = resN 2 (gm R m) (gr R H m) H m) (hd : d = fitD 2 (gm R m) (gr R H m)) (hq : q = Int.gcd N d)
    (hS : S = sumTo (fun k => (H k - R k 0 * F0 - R k 1 * F1) * (H k - R k 0 * F0 - R k 1 * F1)) m) :
    0 ≤ N.tdiv q ∧ 0 < d.tdiv q ∧ (N.tdiv q).tdiv (d.tdiv q) ≤ S ∧ ((N.tdiv q).tmod (d.tdiv q) = 0 ∨ (N.tdiv q).tdiv (d.tdiv q) < S) := by
  obtain ⟨g, d', x, y, hg, hdp, -, e0, e1, e2, -, -, k0, k1⟩ := fit_two (H := H) h
  rw [e0] at hd
  subst hd
  have hres : N = d * sumTo (fun k => H k * H k) m - x * gr R H m 0 - y * gr R H m 1 := by
    rw [hN]
    unfold resN
    rw [e0]
    have s2 : sumTo (fun k => fitF 2 (gm R m) (gr R H m) k * gr R H m k) 2 = x * gr R H m 0 + y * gr R H m 1 := by
      show 0 + fitF 2 (gm R m) (gr R H m) 0 * gr R H m 0 + fitF 2 (gm R m) (gr R H m) 1 * gr R H m 1 = _
      rw [e1, e2]; omega
    have s1 : sumTo (fun k => H k * H k * d) m = d * sumTo (fun k => H k * H k) m := by
      rw [← sumTo_mul]
      exact sumTo_congr m (fun k _ => Int.mul_comm _ _)
    rw [s1, s2]; omega
  obtain ⟨l1, l2⟩ := least2 R m H d x y F0 F1 N hdp k0 k1 hres
  rw [← hS] at l2
  have hq0 : 0 < q := by
    rw [hq]
    have : Int.gcd N d ≠ 0 := fun e => by have := (Int.gcd_eq_zero_iff.1 e).2; omega
    omega
  obtain ⟨a, ha⟩ : q ∣ N := by rw [hq]; exact Int.gcd_dvd_left ..
  obtain ⟨b, hb⟩ : q ∣ d := by rw [hq]; exact Int.gcd_dvd_right ..
  have t1 : N.tdiv q = a := by rw [ha]; exact Int.mul_tdiv_cancel_left a (by omega)
  have t2 : d.tdiv q = b := by rw [hb]; exact Int.mul_tdiv_cancel_left b (by omega)
  rw [t1, t2]
  have ha0 : 0 ≤ a := Int.le_of_mul_le_mul_left (a := q) (by rw [Int.mul_zero, ← ha]; exact l1) hq0
  have hb0 : 0 < b := Int.pos_of_mul_pos_right (by rw [← hb]; exact hdp) (by omega)
  have hab : a ≤ b * S := Int.le_of_mul_le_mul_left (a := q) (by rw [← Int.mul_assoc, ← ha, ← hb]; exact l2) hq0
  rw [Int.tdiv_eq_ediv_of_nonneg ha0, Int.tmod_eq_emod_of_nonneg ha0]
  have hle : a / b ≤ S := by
    have := Int.ediv_le_ediv hb0 hab
    rwa [Int.mul_ediv_cancel_left S (by omega)] at this
  refine ⟨ha0, hb0, hle, ?_⟩
  by_cases hr : a % b = 0
  · exact Or.inl hr
  · right
    have e := Int.mul_ediv_add_emod a b
    have r0 := Int.emod_nonneg a (show b ≠ 0 by omega)
    rcases Int.lt_or_eq_of_le hle with h1 | h1
    · exact h1
    · rw [h1] at e; omega

end Go.Proofs.Ytmeppcoekmoofaa
