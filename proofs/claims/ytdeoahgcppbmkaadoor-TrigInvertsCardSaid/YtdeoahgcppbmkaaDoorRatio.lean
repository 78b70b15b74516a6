/- The contract of interval.Ratio, where the product is within all bounds. -/
import Derived.Test.YtdeoahgcppbmkaaDoorInterval
namespace Go.Proofs.YtdeoahgcppbmkaaDoor
open Go.RowKit
set_option linter.unusedSimpArgs false
set_option linter.unusedVariables false

theorem prod_sign (a b : Int) : (¬ ((a < 0) ↔ (b < 0)) → a * b = -((a.natAbs * b.natAbs : Nat) : Int)) ∧ (((a < 0) ↔ (b < 0)) → a * b = ((a.natAbs * b.natAbs : Nat) : Int)) := by
  have h := Int.natAbs_mul a b
  constructor
  · intro hs
    have hle : a * b ≤ 0 := by
      by_cases ha : a < 0
      · exact Int.mul_nonpos_of_nonpos_of_nonneg (by omega) (by omega)
      · exact Int.mul_nonpos_of_nonneg_of_nonpos (by omega) (by omega)
    omega
  · intro hs
    have hle : 0 ≤ a * b := by
      by_cases ha : a < 0
      · exact Int.mul_nonneg_of_nonpos_of_nonpos (by omega) (by omega)
      · exact Int.mul_nonneg (by omega) (by omega)
    omega

/-- The numbers that come out of the division of sizes. -/
theorem up_down (x k : Nat) (hk : 1 ≤ k) :
    ((x : Int) / k = ((x / k : Nat) : Int)) ∧ (-(x : Int) / k = -(((x / k : Nat) : Int) + if x % k = 0 then 0 else 1)) := by
  constructor
  · simp
  · have h1 := Nat.div_add_mod x k
    have h2 := Nat.mod_lt x (show 0 < k by omega)
    have e : (x : Int) = (k : Int) * ((x / k : Nat) : Int) + ((x % k : Nat) : Int) := by
      rw [← Int.natCast_mul, ← Int.natCast_add, h1]
    generalize x / k = q at *
    generalize x % k = r at *
    split
    · rename_i h0
      rw [e, h0]
      simp only [Int.natCast_zero, Int.add_zero, Int.ofNat_zero]
      rw [← Int.mul_neg, Int.mul_ediv_cancel_left _ (by omega)]
    · rename_i h0
      have : -(x : Int) = (k : Int) * (-((q : Int) + 1)) + ((k : Int) - r) := by
        rw [e, Int.mul_neg, Int.mul_add]; omega
      rw [this, Int.mul_add_ediv_left _ _ (by omega), Int.ediv_eq_zero_of_lt (by omega) (by omega)]; omega

theorem ratio_val (a b : Int) (k q r : Nat) (hk : 1 ≤ k) (hq : q = a.natAbs * b.natAbs / k) (hr : r = a.natAbs * b.natAbs % k) :
    (¬ ((a < 0) ↔ (b < 0)) → a * b / k = -((q : Int) + if r = 0 then 0 else 1) ∧ upQ (a * b) k = -(q : Int)) ∧
    (((a < 0) ↔ (b < 0)) → a * b / k = q ∧ upQ (a * b) k = (q : Int) + if r = 0 then 0 else 1) := by
  have h := prod_sign a b
  have hu := up_down (a.natAbs * b.natAbs) k hk
  rw [← hq, ← hr] at hu
  unfold upQ
  constructor
  · intro hs
    rw [h.1 hs, Int.neg_neg]
    exact ⟨hu.2, by rw [hu.1]⟩
  · intro hs
    rw [h.2 hs]
    exact ⟨hu.1, by rw [hu.2, Int.neg_neg]⟩

set_option maxHeartbeats 2000000 in
theorem ratio_ok (a b : Int) (k : Nat) (w : World) (hk : 1 ≤ k) (hk' : k ≤ 1000000000000000000) (ha : -4000000000000000000 ≤ a ∧ a ≤ 4000000000000000000) (hb : -4000000000000000000 ≤ b ∧ b ≤ 4000000000000000000) (hP : a.natAbs * b.natAbs ≤ 1000000000000000000) :
    Calls Tryd.prog 121 #[.int .i64 a, .int .i64 b, .int .i64 k] w fun e w' => e = .returned (.tuple #[.int .i64 (a * b / k), .int .i64 (upQ (a * b) k)]) ∧ ∃ n, w' = w.drewN n := by
  obtain ⟨P, hPP⟩ : ∃ P, P = a.natAbs * b.natAbs := ⟨_, rfl⟩
  rw [← hPP] at hP
  obtain ⟨q, hq⟩ : ∃ q, q = P / k := ⟨_, rfl⟩
  obtain ⟨r, hr⟩ : ∃ r, r = P % k := ⟨_, rfl⟩
  have hv := ratio_val a b k q r hk (by rw [hq, hPP]) (by rw [hr, hPP])
  have q1 : q ≤ 1000000000000000000 := by rw [hq]; exact Nat.le_trans (Nat.div_le_self _ _) hP
  have r1 : r < 1000000000000000001 := by rw [hr]; have := Nat.mod_lt P (show 0 < k by omega); omega
  have u1 : IntKind.u64.wrap (k : Int) = k := IntWalk.u64_in _ (by omega)
  have t1 : decide ((0 : Int) < (k : Int)) = true := by simp; omega
  have t2 : decide ((1000000000000000001 : Int) ≤ (q : Int)) = false := by simp; omega
  have p1 : P / 18446744073709551616 = 0 := Nat.div_eq_of_lt (by omega)
  have p2 : P % 18446744073709551616 = P := Nat.mod_eq_of_lt (by omega)
  have HV := Lib.hid hv; have HQ := Lib.hid hq; have HR := Lib.hid hr; have HP := Lib.hid hPP; have P1 := Lib.hid p1; have P2 := Lib.hid p2
  clear hv hq hr hPP p1 p2
  have na : a.natAbs < 18446744073709551616 := by omega
  have nb : b.natAbs < 18446744073709551616 := by omega
  by_cases hs : (a < 0 ↔ b < 0)
  · have hv2 := (HV.out).2 hs
    have HV2 := Lib.hid hv2; clear hv2
    have s1 : (decide (a < 0) == decide (b < 0)) = true := by simp [hs]
    have s2 : (!(decide (a < 0) == decide (b < 0))) = false := by simp [hs]
    clear hs
    by_cases hr0 : r = 0
    · subst hr0
      go_enter Tryd.func121, Tryd.ntmps121
      go_wp2_with fail
      refine Calls.mono (size_any _ _ ha.1 ha.2) ?_
      rintro e _ ⟨rfl, rfl⟩
      go_wp2_with fail
      refine Calls.mono (size_any _ _ hb.1 hb.2) ?_
      rintro e _ ⟨rfl, rfl⟩
      go_wp2_with fail
      refine Calls.mono (mul64_any _ _ na nb _) ?_
      rintro e _ ⟨rfl, rfl⟩
      rw [← HP.out, P1.out, P2.out]
      go_wp2_with fail
      refine Calls.mono (div64_low _ _ (by omega) (by omega) hk _) ?_
      rintro e _ ⟨rfl, n1, rfl⟩
      rw [← HQ.out, ← HR.out]
      go_wp2_with fail
      go_returns
      exact ⟨by rw [(HV2.out).1, (HV2.out).2]; simp, _, rfl⟩
    · have t3 : 0 < r := by omega
      have HR0 := Lib.hid hr0; clear hr0
      go_enter Tryd.func121, Tryd.ntmps121
      go_wp2_with fail
      refine Calls.mono (size_any _ _ ha.1 ha.2) ?_
      rintro e _ ⟨rfl, rfl⟩
      go_wp2_with fail
      refine Calls.mono (size_any _ _ hb.1 hb.2) ?_
      rintro e _ ⟨rfl, rfl⟩
      go_wp2_with fail
      refine Calls.mono (mul64_any _ _ na nb _) ?_
      rintro e _ ⟨rfl, rfl⟩
      rw [← HP.out, P1.out, P2.out]
      go_wp2_with fail
      refine Calls.mono (div64_low _ _ (by omega) (by omega) hk _) ?_
      rintro e _ ⟨rfl, n1, rfl⟩
      rw [← HQ.out, ← HR.out]
      go_wp2_with fail
      go_returns
      exact ⟨by rw [(HV2.out).1, (HV2.out).2, if_neg HR0.out]; rfl, _, rfl⟩
  · have hv2 := (HV.out).1 hs
    have HV2 := Lib.hid hv2; clear hv2
    have s1 : (decide (a < 0) == decide (b < 0)) = false := by rw [beq_eq_false_iff_ne]; intro h; exact hs (by simpa using h)
    have s2 : (!(decide (a < 0) == decide (b < 0))) = true := by rw [s1]; rfl
    clear hs
    by_cases hr0 : r = 0
    · subst hr0
      go_enter Tryd.func121, Tryd.ntmps121
      go_wp2_with fail
      refine Calls.mono (size_any _ _ ha.1 ha.2) ?_
      rintro e _ ⟨rfl, rfl⟩
      go_wp2_with fail
      refine Calls.mono (size_any _ _ hb.1 hb.2) ?_
      rintro e _ ⟨rfl, rfl⟩
      go_wp2_with fail
      refine Calls.mono (mul64_any _ _ na nb _) ?_
      rintro e _ ⟨rfl, rfl⟩
      rw [← HP.out, P1.out, P2.out]
      go_wp2_with fail
      refine Calls.mono (div64_low _ _ (by omega) (by omega) hk _) ?_
      rintro e _ ⟨rfl, n1, rfl⟩
      rw [← HQ.out, ← HR.out]
      go_wp2_with fail
      go_returns
      exact ⟨by rw [(HV2.out).1, (HV2.out).2]; simp, _, rfl⟩
    · have t3 : 0 < r := by omega
      have HR0 := Lib.hid hr0; clear hr0
      go_enter Tryd.func121, Tryd.ntmps121
      go_wp2_with fail
      refine Calls.mono (size_any _ _ ha.1 ha.2) ?_
      rintro e _ ⟨rfl, rfl⟩
      go_wp2_with fail
      refine Calls.mono (size_any _ _ hb.1 hb.2) ?_
      rintro e _ ⟨rfl, rfl⟩
      go_wp2_with fail
      refine Calls.mono (mul64_any _ _ na nb _) ?_
      rintro e _ ⟨rfl, rfl⟩
      rw [← HP.out, P1.out, P2.out]
      go_wp2_with fail
      refine Calls.mono (div64_low _ _ (by omega) (by omega) hk _) ?_
      rintro e _ ⟨rfl, n1, rfl⟩
      rw [← HQ.out, ← HR.out]
      go_wp2_with fail
      go_returns
      exact ⟨by rw [(HV2.out).1, (HV2.out).2, if_neg HR0.out]; rfl, _, rfl⟩

end Go.Proofs.YtdeoahgcppbmkaaDoor
