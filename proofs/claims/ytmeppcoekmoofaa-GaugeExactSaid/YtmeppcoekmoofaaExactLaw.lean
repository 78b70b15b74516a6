/- The plain law of GaugeExact: factors that make the heights are found again, with nothing left over. -/
import Derived.Test.YtmeppcoekmoofaaGaugeLaw
namespace Go.Proofs.Ytmeppcoekmoofaa
set_option linter.unusedSimpArgs false
set_option linter.unusedVariables false
theorem gcd_self_mul {D : Int} (h : 0 < D) (F : Int) : (Int.gcd D (F * D) : Int) = D := by
  rw [Int.gcd_eq_left (by omega) (Int.dvd_mul_left F D)]
theorem exact_law {R : Gm} {H : Nat → Int} {m : Nat} {F0 F1 : Int} (h : detF 2 (gm R m) ≠ 0) (hH : ∀ k, k < m → H k = R k 0 * F0 + R k 1 * F1) :
    fitD 2 (gm R m) (gr R H m) = 1 ∧ fitF 2 (gm R m) (gr R H m) 0 = F0 ∧ fitF 2 (gm R m) (gr R H m) 1 = F1 ∧ resN 2 (gm R m) (gr R H m) H m = 0 := by
  have hD : 0 < detF 2 (gm R m) := by
    have := gram2_nonneg R m
    rw [detF_two] at h ⊢
    omega
  obtain ⟨x0, x1, x2⟩ := exact2 R m F0 F1 H hH
  have n0 : detN 2 (gm R m) (gr R H m) 0 = F0 * detF 2 (gm R m) := by unfold detN; rw [detF_two, detF_two]; exact x0
  have n1 : detN 2 (gm R m) (gr R H m) 1 = F1 * detF 2 (gm R m) := by unfold detN; rw [detF_two, detF_two]; exact x1
  have hg : fitG (detF 2 (gm R m)) (detN 2 (gm R m) (gr R H m)) 2 = detF 2 (gm R m) := by
    show (Int.gcd ((Int.gcd (detF 2 (gm R m)) (detN 2 (gm R m) (gr R H m) 0) : Int)) (detN 2 (gm R m) (gr R H m) 1) : Int) = _
    rw [n0, n1, gcd_self_mul hD, gcd_self_mul hD]
  have d1 : fitD 2 (gm R m) (gr R H m) = 1 := by unfold fitD; rw [hg]; exact Int.tdiv_self h
  have f0 : fitF 2 (gm R m) (gr R H m) 0 = F0 := by unfold fitF; rw [hg, n0]; exact Int.mul_tdiv_cancel _ h
  have f1 : fitF 2 (gm R m) (gr R H m) 1 = F1 := by unfold fitF; rw [hg, n1]; exact Int.mul_tdiv_cancel _ h
  refine ⟨d1, f0, f1, ?_⟩
  unfold resN
  rw [d1]
  have e1 : sumTo (fun k => H k * H k * 1) m = sumTo (fun k => H k * H k) m := sumTo_congr m (fun k _ => Int.mul_one _)
  have e2 : sumTo (fun k => fitF 2 (gm R m) (gr R H m) k * gr R H m k) 2 = 0 + fitF 2 (gm R m) (gr R H m) 0 * gr R H m 0 + fitF 2 (gm R m) (gr R H m) 1 * gr R H m 1 := rfl
  rw [e1, e2, x2, f0, f1]
  omega
/-- The heights that the factors make. -/
def exH (R : Gm) (F0 F1 : Int) (k : Nat) : Int := R k 0 * F0 + R k 1 * F1
theorem exH_bound {R : Gm} {F0 F1 : Int} (hR : ∀ i c, -10 ≤ R i c ∧ R i c ≤ 10) (h0 : -49 ≤ F0 ∧ F0 ≤ 49) (h1 : -49 ≤ F1 ∧ F1 ≤ 49) (k : Nat) : -1000 ≤ exH R F0 F1 k ∧ exH R F0 F1 k ≤ 1000 := by
  have m0 := mul_abs (hR k 0) h0
  have m1 := mul_abs (hR k 1) h1
  unfold exH
  omega
end Go.Proofs.Ytmeppcoekmoofaa
