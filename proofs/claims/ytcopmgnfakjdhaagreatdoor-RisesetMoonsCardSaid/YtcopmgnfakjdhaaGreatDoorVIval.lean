/- Merged by wip/tools/pack.py out of XInterval, XRatio, XProduct, XIntOps, XProdF. -/
import Derived.Test.YtcopmgnfakjdhaaGreatDoorVBasic
import Derived.Lib.Mul64
import Derived.Laws.Bits64b
import Derived.Deep.QuietTactic
import Derived.BigQuiet
/- The contracts of package interval's arithmetic: Mul64, Div64 (with a high half of 0), size, Ratio. -/
namespace Go.Proofs.YtcopmgnfakjdhaaGreatDoor
open Go.RowKit
set_option linter.unusedSimpArgs false
set_option linter.unusedVariables false

namespace M64
theorem maskN (a : Nat) (ha : a < 18446744073709551616) : bits .and .u64 (a : Int) 4294967295 = ((a % 4294967296 : Nat) : Int) := by
  have h := bits_and_u64_nat a 4294967295 ha (by omega)
  have e : a &&& 4294967295 = a % 4294967296 := Nat.and_two_pow_sub_one_eq_mod a 32
  rw [e] at h
  exact h
theorem divN (a : Nat) : (a : Int) / 4294967296 = ((a / 4294967296 : Nat) : Int) := by omega
theorem mulN (a b : Nat) : (a : Int) * (b : Int) = ((a * b : Nat) : Int) := (Int.natCast_mul a b).symm
theorem addN (a b : Nat) : (a : Int) + (b : Int) = ((a + b : Nat) : Int) := (Int.natCast_add a b).symm
theorem wrapN (a : Nat) (ha : a < 18446744073709551616) : IntKind.u64.wrap (a : Int) = (a : Int) := by rw [IntKind.wrap_u64]; omega
theorem wrapM (a : Nat) : IntKind.u64.wrap (a : Int) = ((a % 18446744073709551616 : Nat) : Int) := by rw [IntKind.wrap_u64]; omega
end M64

set_option maxHeartbeats 1000000 in
theorem mul64_any (x y : Nat) (hx : x < 18446744073709551616) (hy : y < 18446744073709551616) (w : World) :
    Calls Tryz.prog 121 #[.int .u64 x, .int .u64 y] w fun e w' => e = .returned (.tuple #[.int .u64 ((x * y / 18446744073709551616 : Nat) : Int), .int .u64 ((x * y % 18446744073709551616 : Nat) : Int)]) ∧ w = w' := by
  obtain ⟨bd, bt, bw, hhi⟩ := Lib.mul64_hi x y hx hy
  have ba := Lib.half_mul_le (a := x / 4294967296) (b := y / 4294967296) (by omega) (by omega)
  have bb := Lib.half_mul_le (a := x / 4294967296) (b := y % 4294967296) (by omega) (by omega)
  have bc := Lib.half_mul_le (a := x % 4294967296) (b := y / 4294967296) (by omega) (by omega)
  have ba' : x / 4294967296 * (y / 4294967296) < 18446744073709551616 := by omega
  have bb' : x / 4294967296 * (y % 4294967296) < 18446744073709551616 := by omega
  have bc' : x % 4294967296 * (y / 4294967296) < 18446744073709551616 := by omega
  have bh1 : x / 4294967296 * (y / 4294967296) + (x / 4294967296 * (y % 4294967296) + x % 4294967296 * (y % 4294967296) / 4294967296) / 4294967296 < 18446744073709551616 := by omega
  have bh : x / 4294967296 * (y / 4294967296) + (x / 4294967296 * (y % 4294967296) + x % 4294967296 * (y % 4294967296) / 4294967296) / 4294967296 + ((x / 4294967296 * (y % 4294967296) + x % 4294967296 * (y % 4294967296) / 4294967296) % 4294967296 + x % 4294967296 * (y / 4294967296)) / 4294967296 < 18446744073709551616 := by omega
  go_enter Tryz.func121, Tryz.ntmps121
  go_wp2
  simp only [M64.maskN x hx, M64.maskN y hy, M64.divN, M64.mulN, M64.addN, M64.wrapN _ bd, M64.wrapN _ bb', M64.wrapN _ bt, M64.maskN _ bt, M64.wrapN _ bc', M64.wrapN _ bw, M64.wrapN _ ba', M64.wrapN _ bh1, M64.wrapN _ bh, M64.wrapM (x * y)]
  rw [hhi]
  go_ret2
  exact ⟨rfl, rfl⟩

set_option maxHeartbeats 1000000 in
theorem div64_low (x y : Nat) (hx : x < 9223372036854775808) (hy : y < 9223372036854775808) (hy0 : 1 ≤ y) (w : World) :
    Calls Tryz.prog 123 #[.int .u64 0, .int .u64 x, .int .u64 y] w fun e w' => e = .returned (.tuple #[.int .u64 ((x / y : Nat) : Int), .int .u64 ((x % y : Nat) : Int)]) ∧ ∃ n, w' = w.drewN n := by
  have h1 : ((y : Int) == 0) = false := by simp; omega
  have h2 : decide ((y : Int) ≤ 0) = false := by simp; omega
  have q1 : x / y ≤ x := Nat.div_le_self _ _
  have q2 : x % y < y := Nat.mod_lt _ (by omega)
  have e1 : (x : Int).tdiv y = ((x / y : Nat) : Int) := by rw [Int.tdiv_eq_ediv_of_nonneg (Int.natCast_nonneg x), Int.natCast_ediv]
  have e2 : (x : Int).tmod y = ((x % y : Nat) : Int) := by rw [Int.tmod_eq_emod_of_nonneg (Int.natCast_nonneg x), Int.natCast_emod]
  obtain ⟨q, hq⟩ : ∃ q, q = x / y := ⟨_, rfl⟩
  obtain ⟨r, hr⟩ : ∃ r, r = x % y := ⟨_, rfl⟩
  rw [← hq] at q1 e1 ⊢
  rw [← hr] at q2 e2 ⊢
  have e3 : IntKind.u64.wrap (q : Int) = (q : Int) := IntWalk.u64_in _ (by omega)
  clear hq hr
  go_enter Tryz.func123, Tryz.ntmps123
  go_wp2
  go_quiet (fail)
  go_wp2
  go_returns
  exact ⟨rfl, _, rfl⟩

set_option maxHeartbeats 1000000 in
theorem size_any (n : Int) (w : World) (h : -4000000000000000000 ≤ n) (h' : n ≤ 4000000000000000000) :
    Calls Tryz.prog 122 #[.int .i64 n] w fun e w' => e = .returned (.int .u64 (n.natAbs : Int)) ∧ w = w' := by
  go_enter Tryz.func122, Tryz.ntmps122
  go_wp2
  all_goals go_returns
  all_goals exact ⟨ret_int (by (try rw [IntWalk.u64_in _ (by omega)]); omega), rfl⟩

end Go.Proofs.YtcopmgnfakjdhaaGreatDoor
/- The contract of interval.Ratio, where the product is within all bounds. -/
namespace Go.Proofs.YtcopmgnfakjdhaaGreatDoor
open Go.RowKit
set_option linter.unusedSimpArgs false
set_option linter.unusedVariables false

theorem prod_sign (a b : Int) : (¬ ((a < 0) ↔ (b < 0)) → a * b = -((a.natAbs * b.natAbs : Nat) : Int)) ∧ (((a < 0) ↔ (b < 0)) → a * b = ((a.natAbs * b.natAbs : Nat) : Int)) := by
  have h := Int.natAbs_mul a b
  constructor
  · intro hs
    have hle : a * b ≤ 0 := by
      by_cases ha : a < 0
      · exact Int.mul_nonpos_of_nonpos_of_nonneg (by omega) (by omega)
      · exact Int.mul_nonpos_of_nonneg_of_nonpos (by omega) (by omega)
    omega
  · intro hs
    have hle : 0 ≤ a * b := by
      by_cases ha : a < 0
      · exact Int.mul_nonneg_of_nonpos_of_nonpos (by omega) (by omega)
      · exact Int.mul_nonneg (by omega) (by omega)
    omega

theorem up_down (x k : Nat) (hk : 1 ≤ k) :
    ((x : Int) / k = ((x / k : Nat) : Int)) ∧ (-(x : Int) / k = -(((x / k : Nat) : Int) + if x % k = 0 then 0 else 1)) := by
  constructor
  · simp
  · have h1 := Nat.div_add_mod x k
    have h2 := Nat.mod_lt x (show 0 < k by omega)
    have e : (x : Int) = (k : Int) * ((x / k : Nat) : Int) + ((x % k : Nat) : Int) := by
      rw [← Int.natCast_mul, ← Int.natCast_add, h1]
    generalize x / k = q at *
    generalize x % k = r at *
    split
    · rename_i h0
      rw [e, h0]
      simp only [Int.natCast_zero, Int.add_zero, Int.ofNat_zero]
      rw [← Int.mul_neg, Int.mul_ediv_cancel_left _ (by omega)]
    · rename_i h0
      have : -(x : Int) = (k : Int) * (-((q : Int) + 1)) + ((k : Int) - r) := by
        rw [e, Int.mul_neg, Int.mul_add]; omega
      rw [this, Int.mul_add_ediv_left _ _ (by omega), Int.ediv_eq_zero_of_lt (by omega) (by omega)]; omega

theorem ratio_val (a b : Int) (k q r : Nat) (hk : 1 ≤ k) (hq : q = a.natAbs * b.natAbs / k) (hr : r = a.natAbs * b.natAbs % k) :
    (¬ ((a < 0) ↔ (b < 0)) → a * b / k = -((q : Int) + if r = 0 then 0 else 1) ∧ upQ (a * b) k = -(q : Int)) ∧
    (((a < 0) ↔ (b < 0)) → a * b / k = q ∧ upQ (a * b) k = (q : Int) + if r = 0 then 0 else 1) := by
  have h := prod_sign a b
  have hu := up_down (a.natAbs * b.natAbs) k hk
  rw [← hq, ← hr] at hu
  unfold upQ
  constructor
  · intro hs
    rw [h.1 hs, Int.neg_neg]
    exact ⟨hu.2, by rw [hu.1]⟩
  · intro hs
    rw [h.2 hs]
    exact ⟨hu.1, by rw [hu.2, Int.neg_neg]⟩

set_option maxHeartbeats 2000000 in
theorem ratio_ok (a b : Int) (k : Nat) (w : World) (hk : 1 ≤ k) (hk' : k ≤ 1000000000000000000) (ha : -4000000000000000000 ≤ a ∧ a ≤ 4000000000000000000) (hb : -4000000000000000000 ≤ b ∧ b ≤ 4000000000000000000) (hP : a.natAbs * b.natAbs ≤ 1000000000000000000) :
    Calls Tryz.prog 109 #[.int .i64 a, .int .i64 b, .int .i64 k] w fun e w' => e = .returned (.tuple #[.int .i64 (a * b / k), .int .i64 (upQ (a * b) k)]) ∧ ∃ n, w' = w.drewN n := by
  obtain ⟨P, hPP⟩ : ∃ P, P = a.natAbs * b.natAbs := ⟨_, rfl⟩
  rw [← hPP] at hP
  obtain ⟨q, hq⟩ : ∃ q, q = P / k := ⟨_, rfl⟩
  obtain ⟨r, hr⟩ : ∃ r, r = P % k := ⟨_, rfl⟩
  have hv := ratio_val a b k q r hk (by rw [hq, hPP]) (by rw [hr, hPP])
  have q1 : q ≤ 1000000000000000000 := by rw [hq]; exact Nat.le_trans (Nat.div_le_self _ _) hP
  have r1 : r < 1000000000000000001 := by rw [hr]; have := Nat.mod_lt P (show 0 < k by omega); omega
  have u1 : IntKind.u64.wrap (k : Int) = k := IntWalk.u64_in _ (by omega)
  have t1 : decide ((0 : Int) < (k : Int)) = true := by simp; omega
  have t2 : decide ((1000000000000000001 : Int) ≤ (q : Int)) = false := by simp; omega
  have p1 : P / 18446744073709551616 = 0 := Nat.div_eq_of_lt (by omega)
  have p2 : P % 18446744073709551616 = P := Nat.mod_eq_of_lt (by omega)
  have HV := Lib.hid hv; have HQ := Lib.hid hq; have HR := Lib.hid hr; have HP := Lib.hid hPP; have P1 := Lib.hid p1; have P2 := Lib.hid p2
  clear hv hq hr hPP p1 p2
  have na : a.natAbs < 18446744073709551616 := by omega
  have nb : b.natAbs < 18446744073709551616 := by omega
  by_cases hs : (a < 0 ↔ b < 0)
  · have hv2 := (HV.out).2 hs
    have HV2 := Lib.hid hv2; clear hv2
    have s1 : (decide (a < 0) == decide (b < 0)) = true := by simp [hs]
    have s2 : (!(decide (a < 0) == decide (b < 0))) = false := by simp [hs]
    clear hs
    by_cases hr0 : r = 0
    · subst hr0
      go_enter Tryz.func109, Tryz.ntmps109
      go_wp2_with fail
      refine Calls.mono (size_any _ _ ha.1 ha.2) ?_
      rintro e _ ⟨rfl, rfl⟩
      go_wp2_with fail
      refine Calls.mono (size_any _ _ hb.1 hb.2) ?_
      rintro e _ ⟨rfl, rfl⟩
      go_wp2_with fail
      refine Calls.mono (mul64_any _ _ na nb _) ?_
      rintro e _ ⟨rfl, rfl⟩
      rw [← HP.out, P1.out, P2.out]
      go_wp2_with fail
      refine Calls.mono (div64_low _ _ (by omega) (by omega) hk _) ?_
      rintro e _ ⟨rfl, n1, rfl⟩
      rw [← HQ.out, ← HR.out]
      go_wp2_with fail
      go_returns
      exact ⟨by rw [(HV2.out).1, (HV2.out).2]; simp, _, rfl⟩
    · have t3 : 0 < r := by omega
      have HR0 := Lib.hid hr0; clear hr0
      go_enter Tryz.func109, Tryz.ntmps109
      go_wp2_with fail
      refine Calls.mono (size_any _ _ ha.1 ha.2) ?_
      rintro e _ ⟨rfl, rfl⟩
      go_wp2_with fail
      refine Calls.mono (size_any _ _ hb.1 hb.2) ?_
      rintro e _ ⟨rfl, rfl⟩
      go_wp2_with fail
      refine Calls.mono (mul64_any _ _ na nb _) ?_
      rintro e _ ⟨rfl, rfl⟩
      rw [← HP.out, P1.out, P2.out]
      go_wp2_with fail
      refine Calls.mono (div64_low _ _ (by omega) (by omega) hk _) ?_
      rintro e _ ⟨rfl, n1, rfl⟩
      rw [← HQ.out, ← HR.out]
      go_wp2_with fail
      go_returns
      exact ⟨by rw [(HV2.out).1, (HV2.out).2, if_neg HR0.out]; rfl, _, rfl⟩
  · have hv2 := (HV.out).1 hs
    have HV2 := Lib.hid hv2; clear hv2
    have s1 : (decide (a < 0) == decide (b < 0)) = false := by rw [beq_eq_false_iff_ne]; intro h; exact hs (by simpa using h)
    have s2 : (!(decide (a < 0) == decide (b < 0))) = true := by rw [s1]; rfl
    clear hs
    by_cases hr0 : r = 0
    · subst hr0
      go_enter Tryz.func109, Tryz.ntmps109
      go_wp2_with fail
      refine Calls.mono (size_any _ _ ha.1 ha.2) ?_
      rintro e _ ⟨rfl, rfl⟩
      go_wp2_with fail
      refine Calls.mono (size_any _ _ hb.1 hb.2) ?_
      rintro e _ ⟨rfl, rfl⟩
      go_wp2_with fail
      refine Calls.mono (mul64_any _ _ na nb _) ?_
      rintro e _ ⟨rfl, rfl⟩
      rw [← HP.out, P1.out, P2.out]
      go_wp2_with fail
      refine Calls.mono (div64_low _ _ (by omega) (by omega) hk _) ?_
      rintro e _ ⟨rfl, n1, rfl⟩
      rw [← HQ.out, ← HR.out]
      go_wp2_with fail
      go_returns
      exact ⟨by rw [(HV2.out).1, (HV2.out).2]; simp, _, rfl⟩
    · have t3 : 0 < r := by omega
      have HR0 := Lib.hid hr0; clear hr0
      go_enter Tryz.func109, Tryz.ntmps109
      go_wp2_with fail
      refine Calls.mono (size_any _ _ ha.1 ha.2) ?_
      rintro e _ ⟨rfl, rfl⟩
      go_wp2_with fail
      refine Calls.mono (size_any _ _ hb.1 hb.2) ?_
      rintro e _ ⟨rfl, rfl⟩
      go_wp2_with fail
      refine Calls.mono (mul64_any _ _ na nb _) ?_
      rintro e _ ⟨rfl, rfl⟩
      rw [← HP.out, P1.out, P2.out]
      go_wp2_with fail
      refine Calls.mono (div64_low _ _ (by omega) (by omega) hk _) ?_
      rintro e _ ⟨rfl, n1, rfl⟩
      rw [← HQ.out, ← HR.out]
      go_wp2_with fail
      go_returns
      exact ⟨by rw [(HV2.out).1, (HV2.out).2, if_neg HR0.out]; rfl, _, rfl⟩

end Go.Proofs.YtcopmgnfakjdhaaGreatDoor
/- The contract of interval.Product. -/
namespace Go.Proofs.YtcopmgnfakjdhaaGreatDoor
open Go.RowKit
set_option linter.unusedSimpArgs false
set_option linter.unusedVariables false

def loAt (a b c d k : Int) : Nat → Int
  | 0 => 0
  | 1 => min (a * c / k) (a * c / k)
  | 2 => min (min (a * c / k) (a * c / k)) (a * d / k)
  | 3 => min (min (min (a * c / k) (a * c / k)) (a * d / k)) (b * c / k)
  | _ => min (min (min (min (a * c / k) (a * c / k)) (a * d / k)) (b * c / k)) (b * d / k)
def hiAt (a b c d k : Int) : Nat → Int
  | 0 => 0
  | 1 => max (upQ (a * c) k) (upQ (a * c) k)
  | 2 => max (max (upQ (a * c) k) (upQ (a * c) k)) (upQ (a * d) k)
  | 3 => max (max (max (upQ (a * c) k) (upQ (a * c) k)) (upQ (a * d) k)) (upQ (b * c) k)
  | _ => max (max (max (max (upQ (a * c) k) (upQ (a * c) k)) (upQ (a * d) k)) (upQ (b * c) k)) (upQ (b * d) k)
def pLo (a b c d : Int) (k : Int) : Int := min (min (min (min (a * c / k) (a * c / k)) (a * d / k)) (b * c / k)) (b * d / k)
def pHi (a b c d : Int) (k : Int) : Int := max (max (max (max (upQ (a * c) k) (upQ (a * c) k)) (upQ (a * d) k)) (upQ (b * c) k)) (upQ (b * d) k)

set_option maxRecDepth 100000 in
set_option maxHeartbeats 8000000 in
theorem product_ok (a b c d : Int) (k : Nat) (w : World) (hk : 1 ≤ k) (hk' : k ≤ 1000000000000000000) (ha : -4000000000000000000 ≤ a ∧ a ≤ 4000000000000000000) (hb : -4000000000000000000 ≤ b ∧ b ≤ 4000000000000000000) (hc : -4000000000000000000 ≤ c ∧ c ≤ 4000000000000000000) (hd : -4000000000000000000 ≤ d ∧ d ≤ 4000000000000000000)
    (h0 : a.natAbs * c.natAbs ≤ 1000000000000000000) (h1 : a.natAbs * d.natAbs ≤ 1000000000000000000) (h2 : b.natAbs * c.natAbs ≤ 1000000000000000000) (h3 : b.natAbs * d.natAbs ≤ 1000000000000000000) :
    Calls Tryz.prog 91 #[.agg #[.int .i64 a, .int .i64 b], .agg #[.int .i64 c, .int .i64 d], .int .i64 k] w fun e w' => e = .returned (.agg #[.int .i64 (pLo a b c d k), .int .i64 (pHi a b c d k)]) ∧ Below w.heap.size w w' := by
  have i0 : ∀ w, (Instr.index 108 (.agg #[.int .i64 a, .int .i64 c, .int .i64 a, .int .i64 d, .int .i64 b, .int .i64 c, .int .i64 b, .int .i64 d]) (.int .i64 0)).run Tryz.prog w = .ok (.agg #[.int .i64 a, .int .i64 c]) w := fun _ => by kernel_rfl
  have i1 : ∀ w, (Instr.index 108 (.agg #[.int .i64 a, .int .i64 c, .int .i64 a, .int .i64 d, .int .i64 b, .int .i64 c, .int .i64 b, .int .i64 d]) (.int .i64 1)).run Tryz.prog w = .ok (.agg #[.int .i64 a, .int .i64 d]) w := fun _ => by kernel_rfl
  have i2 : ∀ w, (Instr.index 108 (.agg #[.int .i64 a, .int .i64 c, .int .i64 a, .int .i64 d, .int .i64 b, .int .i64 c, .int .i64 b, .int .i64 d]) (.int .i64 2)).run Tryz.prog w = .ok (.agg #[.int .i64 b, .int .i64 c]) w := fun _ => by kernel_rfl
  have i3 : ∀ w, (Instr.index 108 (.agg #[.int .i64 a, .int .i64 c, .int .i64 a, .int .i64 d, .int .i64 b, .int .i64 c, .int .i64 b, .int .i64 d]) (.int .i64 3)).run Tryz.prog w = .ok (.agg #[.int .i64 b, .int .i64 d]) w := fun _ => by kernel_rfl
  have v0 := fun w => ratio_ok a c k w hk hk' ha hc h0
  have v1 := fun w => ratio_ok a d k w hk hk' ha hd h1
  have v2 := fun w => ratio_ok b c k w hk hk' hb hc h2
  have v3 := fun w => ratio_ok b d k w hk hk' hb hd h3
  have V0 := Lib.hid v0; have V1 := Lib.hid v1; have V2 := Lib.hid v2; have V3 := Lib.hid v3
  clear v0 v1 v2 v3
  go_enter Tryz.func91, Tryz.ntmps91
  go_wp2_with fail
  go_loopw [33] (fun i wr => ∃ j : Nat, j ≤ 4 ∧ i = .int .i64 j ∧ wr.cell? ⟨w.heap.size + 1 + 1 + 1, 0, none⟩ = some (.int .i64 (loAt a b c d k j)) ∧ wr.cell? ⟨w.heap.size + 1 + 1 + 1, 1, none⟩ = some (.int .i64 (hiAt a b c d k j)) ∧
      wr.frozen? ⟨w.heap.size + 1 + 1 + 1, 0, none⟩ = false ∧ wr.frozen? ⟨w.heap.size + 1 + 1 + 1, 1, none⟩ = false ∧ wr.cell? ⟨w.heap.size + 1 + 1, 0, none⟩ = some (.int .i64 0) ∧ wr.cell? ⟨w.heap.size + 1 + 1, 1, none⟩ = some (.int .i64 0) ∧
      wr.frozen? ⟨w.heap.size + 1 + 1, 0, none⟩ = false ∧ wr.frozen? ⟨w.heap.size + 1 + 1, 1, none⟩ = false ∧ w.heap.size + 1 + 1 + 1 < wr.heap.size ∧ Below w.heap.size w wr)
    (fun i _ => 4 - (intOf i).toNat)
  case atStart => exact ⟨0, by omega, rfl, by simp [go_sem, loAt], by simp [go_sem, hiAt], by simp [go_sem], by simp [go_sem], by simp [go_sem], by simp [go_sem], by simp [go_sem], by simp [go_sem], by simp, (by repeat' (first | (with_reducible refine below_drewN ?_ _) | go_grown))⟩
  case round =>
    obtain ⟨j, hj, rfl, c0, c1, f0, f1, r0, r1, g0, g1, hz, hbw⟩ := hrel
    have hz2 : w.heap.size + 1 + 1 < wr.heap.size := by omega
    obtain rfl | rfl | rfl | rfl | rfl : j = 0 ∨ j = 1 ∨ j = 2 ∨ j = 3 ∨ j = 4 := by omega
    · go_wp2_with fail
      refine Calls.mono (V0.out _) ?_
      rintro e _ ⟨rfl, n0, rfl⟩
      go_wp2_with fail
      have E0 : ((wr.alloc (.cells #[.int .i64 a, .int .i64 c] 89)).drewN n0).cell? ⟨w.heap.size + 1 + 1 + 1, 0, none⟩ = some (.int .i64 (loAt a b c d k 0)) := by simp [go_sem, *]
      have E1 : ((wr.alloc (.cells #[.int .i64 a, .int .i64 c] 89)).drewN n0).cell? ⟨w.heap.size + 1 + 1 + 1, 1, none⟩ = some (.int .i64 (hiAt a b c d k 0)) := by simp [go_sem, *]
      exact ⟨⟨1, by omega, rfl, by first | (simp [go_sem, *, loAt]; done) | (simp only [loAt, Int.min_self]; exact (pair_cells (pair_cells E0 E1).1 (pair_cells E0 E1).2).1), by first | (simp [go_sem, *, hiAt]; done) | (simp only [hiAt, Int.max_self]; exact (pair_cells (pair_cells E0 E1).1 (pair_cells E0 E1).2).2), by simp [go_sem, *], by simp [go_sem, *], by simp [go_sem, *], by simp [go_sem, *], by simp [go_sem, *], by simp [go_sem, *], by simp; omega, (by repeat' (first | (with_reducible refine below_drewN ?_ _) | go_grown))⟩, by simp [intOf]⟩
    · go_wp2_with fail
      refine Calls.mono (V1.out _) ?_
      rintro e _ ⟨rfl, n0, rfl⟩
      go_wp2_with fail
      exact ⟨⟨2, by omega, rfl, by first | (simp [go_sem, *, loAt]; done) | (simp only [loAt, Int.min_self]; exact (pair_cells (pair_cells E0 E1).1 (pair_cells E0 E1).2).1), by first | (simp [go_sem, *, hiAt]; done) | (simp only [hiAt, Int.max_self]; exact (pair_cells (pair_cells E0 E1).1 (pair_cells E0 E1).2).2), by simp [go_sem, *], by simp [go_sem, *], by simp [go_sem, *], by simp [go_sem, *], by simp [go_sem, *], by simp [go_sem, *], by simp; omega, (by repeat' (first | (with_reducible refine below_drewN ?_ _) | go_grown))⟩, by simp [intOf]⟩
    · go_wp2_with fail
      refine Calls.mono (V2.out _) ?_
      rintro e _ ⟨rfl, n0, rfl⟩
      go_wp2_with fail
      exact ⟨⟨3, by omega, rfl, by first | (simp [go_sem, *, loAt]; done) | (simp only [loAt, Int.min_self]; exact (pair_cells (pair_cells E0 E1).1 (pair_cells E0 E1).2).1), by first | (simp [go_sem, *, hiAt]; done) | (simp only [hiAt, Int.max_self]; exact (pair_cells (pair_cells E0 E1).1 (pair_cells E0 E1).2).2), by simp [go_sem, *], by simp [go_sem, *], by simp [go_sem, *], by simp [go_sem, *], by simp [go_sem, *], by simp [go_sem, *], by simp; omega, (by repeat' (first | (with_reducible refine below_drewN ?_ _) | go_grown))⟩, by simp [intOf]⟩
    · go_wp2_with fail
      refine Calls.mono (V3.out _) ?_
      rintro e _ ⟨rfl, n0, rfl⟩
      go_wp2_with fail
      exact ⟨⟨4, by omega, rfl, by first | (simp [go_sem, *, loAt]; done) | (simp only [loAt, Int.min_self]; exact (pair_cells (pair_cells E0 E1).1 (pair_cells E0 E1).2).1), by first | (simp [go_sem, *, hiAt]; done) | (simp only [hiAt, Int.max_self]; exact (pair_cells (pair_cells E0 E1).1 (pair_cells E0 E1).2).2), by simp [go_sem, *], by simp [go_sem, *], by simp [go_sem, *], by simp [go_sem, *], by simp [go_sem, *], by simp [go_sem, *], by simp; omega, (by repeat' (first | (with_reducible refine below_drewN ?_ _) | go_grown))⟩, by simp [intOf]⟩
    · go_wp2_with fail
      refine bodyPost_ret (v := .agg #[.int .i64 (pLo a b c d k), .int .i64 (pHi a b c d k)]) ?_ rfl ⟨rfl, (by repeat' (first | (with_reducible refine below_drewN ?_ _) | go_grown))⟩
      simp [results, Tryz.results91, go_sem, r0, r1, loAt, hiAt, pLo, pHi]

end Go.Proofs.YtcopmgnfakjdhaaGreatDoor
/- The contracts of interval's operations, where nothing is beyond the bounds. -/
namespace Go.Proofs.YtcopmgnfakjdhaaGreatDoor
open Go.RowKit
set_option linter.unusedSimpArgs false
set_option linter.unusedVariables false

structure IvOk (lo hi : Int) : Prop where
  l : -1000000000000000000 ≤ lo
  m : lo ≤ hi
  h : hi ≤ 1000000000000000000

theorem IvOk.chk {lo hi : Int} (h : IvOk lo hi) : chk lo hi = 0 := by
  obtain ⟨h1, h2, h3⟩ := h
  unfold Proofs.YtcopmgnfakjdhaaGreatDoor.chk
  rw [if_neg (by omega), if_neg (by omega)]

theorem check_ok (lo hi : Int) (w : World) (h : IvOk lo hi) :
    Calls Tryz.prog 73 #[.agg #[.int .i64 lo, .int .i64 hi]] w fun e w' => e = .returned (.int .i64 0) ∧ Below w.heap.size w w' :=
  (check_any lo hi w).mono fun e w' q => ⟨by rw [q.1, h.chk], q.2⟩

structure MulOk (a b c d : Int) : Prop where
  p0 : a.natAbs * c.natAbs ≤ 1000000000000000000
  p1 : a.natAbs * d.natAbs ≤ 1000000000000000000
  p2 : b.natAbs * c.natAbs ≤ 1000000000000000000
  p3 : b.natAbs * d.natAbs ≤ 1000000000000000000

end Go.Proofs.YtcopmgnfakjdhaaGreatDoor
/- Plain laws on products of intervals. No program in sight. -/
namespace Go.Proofs.YtcopmgnfakjdhaaGreatDoor
open Go.RowKit

theorem upQ_one (x : Int) : upQ x 1 = x := by unfold upQ; omega

theorem mul_bound {a c A C : Int} (h1 : -A ≤ a) (h2 : a ≤ A) (h3 : -C ≤ c) (h4 : c ≤ C) : -(A * C) ≤ a * c ∧ a * c ≤ A * C := by
  have hA : 0 ≤ A := by omega
  have e1 : 0 ≤ (A - a) * (C + c) := Int.mul_nonneg (by omega) (by omega)
  have e2 : 0 ≤ (A + a) * (C - c) := Int.mul_nonneg (by omega) (by omega)
  have e3 : 0 ≤ (A - a) * (C - c) := Int.mul_nonneg (by omega) (by omega)
  have e4 : 0 ≤ (A + a) * (C + c) := Int.mul_nonneg (by omega) (by omega)
  simp only [Int.sub_mul, Int.add_mul, Int.mul_sub, Int.mul_add] at e1 e2 e3 e4
  omega

theorem natAbs_bound {a c A C : Int} (h1 : -A ≤ a) (h2 : a ≤ A) (h3 : -C ≤ c) (h4 : c ≤ C) : ((a.natAbs * c.natAbs : Nat) : Int) ≤ A * C := by
  have h := mul_bound h1 h2 h3 h4
  rw [← Int.natAbs_mul]
  omega

theorem mulOk_of {a b c d A C : Int} (h1 : -A ≤ a) (h2 : a ≤ b) (h3 : b ≤ A) (g1 : -C ≤ c) (g2 : c ≤ d) (g3 : d ≤ C) (hm : A * C ≤ 1000000000000000000) : MulOk a b c d := by
  have p0 := natAbs_bound h1 (show a ≤ A by omega) g1 (show c ≤ C by omega)
  have p1 := natAbs_bound h1 (show a ≤ A by omega) (show -C ≤ d by omega) g3
  have p2 := natAbs_bound (show -A ≤ b by omega) h3 g1 (show c ≤ C by omega)
  have p3 := natAbs_bound (show -A ≤ b by omega) h3 (show -C ≤ d by omega) g3
  exact ⟨by omega, by omega, by omega, by omega⟩

theorem pLo_one (a b c d : Int) : pLo a b c d 1 = min (min (min (a * c) (a * d)) (b * c)) (b * d) := by unfold pLo; simp only [Int.ediv_one]; omega
theorem pHi_one (a b c d : Int) : pHi a b c d 1 = max (max (max (a * c) (a * d)) (b * c)) (b * d) := by unfold pHi; simp only [upQ_one]; omega

theorem rlin_between {x a b c : Rat} (h1 : a ≤ x) (h2 : x ≤ b) : (a * c ≤ x * c ∨ b * c ≤ x * c) ∧ (x * c ≤ a * c ∨ x * c ≤ b * c) := by
  rcases Rat.le_total (a := 0) (b := c) with h | h
  · exact ⟨.inl (Rat.mul_le_mul_of_nonneg_right h1 h), .inr (Rat.mul_le_mul_of_nonneg_right h2 h)⟩
  · have e1 := Rat.mul_le_mul_of_nonneg_right h1 (show 0 ≤ -c by grind)
    have e2 := Rat.mul_le_mul_of_nonneg_right h2 (show 0 ≤ -c by grind)
    exact ⟨.inr (by grind), .inl (by grind)⟩
theorem rp_contains {a b c d : Int} {x y : Rat} (h1 : (a : Rat) ≤ x) (h2 : x ≤ (b : Rat)) (g1 : (c : Rat) ≤ y) (g2 : y ≤ (d : Rat)) : (pLo a b c d 1 : Rat) ≤ x * y ∧ x * y ≤ (pHi a b c d 1 : Rat) := by
  have k1 : pLo a b c d 1 ≤ a * c := by rw [pLo_one]; omega
  have k2 : pLo a b c d 1 ≤ a * d := by rw [pLo_one]; omega
  have k3 : pLo a b c d 1 ≤ b * c := by rw [pLo_one]; omega
  have k4 : pLo a b c d 1 ≤ b * d := by rw [pLo_one]; omega
  have m1 : a * c ≤ pHi a b c d 1 := by rw [pHi_one]; omega
  have m2 : a * d ≤ pHi a b c d 1 := by rw [pHi_one]; omega
  have m3 : b * c ≤ pHi a b c d 1 := by rw [pHi_one]; omega
  have m4 : b * d ≤ pHi a b c d 1 := by rw [pHi_one]; omega
  generalize pLo a b c d 1 = l at *
  generalize pHi a b c d 1 = h at *
  replace k1 := Rat.intCast_le_intCast.2 k1
  replace k2 := Rat.intCast_le_intCast.2 k2
  replace k3 := Rat.intCast_le_intCast.2 k3
  replace k4 := Rat.intCast_le_intCast.2 k4
  replace m1 := Rat.intCast_le_intCast.2 m1
  replace m2 := Rat.intCast_le_intCast.2 m2
  replace m3 := Rat.intCast_le_intCast.2 m3
  replace m4 := Rat.intCast_le_intCast.2 m4
  rw [Rat.intCast_mul] at k1 k2 k3 k4 m1 m2 m3 m4
  generalize (a : Rat) = a at *
  generalize (b : Rat) = b at *
  generalize (c : Rat) = c at *
  generalize (d : Rat) = d at *
  have e1 := rlin_between (c := y) h1 h2
  have e2 := rlin_between (c := a) g1 g2
  have e3 := rlin_between (c := b) g1 g2
  clear h1 h2 g1 g2
  grind
theorem div_rat (x : Int) (k : Nat) (hk : 1 ≤ k) : ((x / (k : Int) : Int) : Rat) * (k : Rat) ≤ (x : Rat) ∧ (x : Rat) ≤ (upQ x k : Rat) * (k : Rat) := by
  have e1 : x / (k : Int) * (k : Int) ≤ x := Int.ediv_mul_le x (by omega)
  have e2 : x ≤ upQ x k * (k : Int) := by
    unfold upQ
    have := Int.ediv_mul_le (-x) (show (k : Int) ≠ 0 by omega)
    grind
  replace e1 := Rat.intCast_le_intCast.2 e1
  replace e2 := Rat.intCast_le_intCast.2 e2
  rw [Rat.intCast_mul, Rat.intCast_natCast] at e1 e2
  exact ⟨e1, e2⟩
end Go.Proofs.YtcopmgnfakjdhaaGreatDoor
