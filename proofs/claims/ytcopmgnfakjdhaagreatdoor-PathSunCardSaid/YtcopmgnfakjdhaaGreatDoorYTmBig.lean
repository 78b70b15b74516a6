/- Products of greater numbers, divided by a billion. -/
import Derived.Test.YtcopmgnfakjdhaaGreatDoorYTrigOs
namespace Go.Proofs.YtcopmgnfakjdhaaGreatDoor
open Go.RowKit
set_option linter.unusedSimpArgs false
set_option linter.unusedVariables false
structure MulBig (a b c d : Int) : Prop where
  p0 : a.natAbs * c.natAbs ≤ 9000000000000000000
  p1 : a.natAbs * d.natAbs ≤ 9000000000000000000
  p2 : b.natAbs * c.natAbs ≤ 9000000000000000000
  p3 : b.natAbs * d.natAbs ≤ 9000000000000000000
set_option maxHeartbeats 2000000 in
theorem ratio_big (a b : Int) (k : Nat) (w : World) (hk10 : 10 ≤ k) (hk' : k ≤ 1000000000000000000) (ha : -4000000000000000000 ≤ a ∧ a ≤ 4000000000000000000) (hb : -4000000000000000000 ≤ b ∧ b ≤ 4000000000000000000) (hP : a.natAbs * b.natAbs ≤ 9000000000000000000) :
    Calls Tryz.prog 109 #[.int .i64 a, .int .i64 b, .int .i64 k] w fun e w' => e = .returned (.tuple #[.int .i64 (a * b / k), .int .i64 (upQ (a * b) k)]) ∧ ∃ n, w' = w.drewN n := by
  have hk : 1 ≤ k := by omega
  obtain ⟨P, hPP⟩ : ∃ P, P = a.natAbs * b.natAbs := ⟨_, rfl⟩
  rw [← hPP] at hP
  obtain ⟨q, hq⟩ : ∃ q, q = P / k := ⟨_, rfl⟩
  obtain ⟨r, hr⟩ : ∃ r, r = P % k := ⟨_, rfl⟩
  have hv := ratio_val a b k q r hk (by rw [hq, hPP]) (by rw [hr, hPP])
  have q1 : q ≤ 1000000000000000000 := by
    rw [hq]
    have h1 : P / k ≤ P / 10 := Nat.div_le_div_left hk10 (by omega)
    omega
  have r1 : r < 1000000000000000001 := by rw [hr]; have := Nat.mod_lt P (show 0 < k by omega); omega
  have u1 : IntKind.u64.wrap (k : Int) = k := IntWalk.u64_in _ (by omega)
  have t1 : decide ((0 : Int) < (k : Int)) = true := by simp; omega
  have t2 : decide ((1000000000000000001 : Int) ≤ (q : Int)) = false := by simp; omega
  have p1 : P / 18446744073709551616 = 0 := Nat.div_eq_of_lt (by omega)
  have p2 : P % 18446744073709551616 = P := Nat.mod_eq_of_lt (by omega)
  have HV := Lib.hid hv; have HQ := Lib.hid hq; have HR := Lib.hid hr; have HP := Lib.hid hPP; have P1 := Lib.hid p1; have P2 := Lib.hid p2
  clear hv hq hr hPP p1 p2
  have na : a.natAbs < 18446744073709551616 := by omega
  have nb : b.natAbs < 18446744073709551616 := by omega
  by_cases hs : (a < 0 ↔ b < 0)
  · have hv2 := (HV.out).2 hs
    have HV2 := Lib.hid hv2; clear hv2
    have s1 : (decide (a < 0) == decide (b < 0)) = true := by simp [hs]
    have s2 : (!(decide (a < 0) == decide (b < 0))) = false := by simp [hs]
    clear hs
    by_cases hr0 : r = 0
    · subst hr0
      go_enter Tryz.func109, Tryz.ntmps109
      go_wp2_with fail
      refine Calls.mono (size_any _ _ ha.1 ha.2) ?_
      rintro e _ ⟨rfl, rfl⟩
      go_wp2_with fail
      refine Calls.mono (size_any _ _ hb.1 hb.2) ?_
      rintro e _ ⟨rfl, rfl⟩
      go_wp2_with fail
      refine Calls.mono (mul64_any _ _ na nb _) ?_
      rintro e _ ⟨rfl, rfl⟩
      rw [← HP.out, P1.out, P2.out]
      go_wp2_with fail
      refine Calls.mono (div64_low _ _ (by omega) (by omega) hk _) ?_
      rintro e _ ⟨rfl, n1, rfl⟩
      rw [← HQ.out, ← HR.out]
      go_wp2_with fail
      go_returns
      exact ⟨by rw [(HV2.out).1, (HV2.out).2]; simp, _, rfl⟩
    · have t3 : 0 < r := by omega
      have HR0 := Lib.hid hr0; clear hr0
      go_enter Tryz.func109, Tryz.ntmps109
      go_wp2_with fail
      refine Calls.mono (size_any _ _ ha.1 ha.2) ?_
      rintro e _ ⟨rfl, rfl⟩
      go_wp2_with fail
      refine Calls.mono (size_any _ _ hb.1 hb.2) ?_
      rintro e _ ⟨rfl, rfl⟩
      go_wp2_with fail
      refine Calls.mono (mul64_any _ _ na nb _) ?_
      rintro e _ ⟨rfl, rfl⟩
      rw [← HP.out, P1.out, P2.out]
      go_wp2_with fail
      refine Calls.mono (div64_low _ _ (by omega) (by omega) hk _) ?_
      rintro e _ ⟨rfl, n1, rfl⟩
      rw [← HQ.out, ← HR.out]
      go_wp2_with fail
      go_returns
      exact ⟨by rw [(HV2.out).1, (HV2.out).2, if_neg HR0.out]; rfl, _, rfl⟩
  · have hv2 := (HV.out).1 hs
    have HV2 := Lib.hid hv2; clear hv2
    have s1 : (decide (a < 0) == decide (b < 0)) = false := by rw [beq_eq_false_iff_ne]; intro h; exact hs (by simpa using h)
    have s2 : (!(decide (a < 0) == decide (b < 0))) = true := by rw [s1]; rfl
    clear hs
    by_cases hr0 : r = 0
    · subst hr0
      go_enter Tryz.func109, Tryz.ntmps109
      go_wp2_with fail
      refine Calls.mono (size_any _ _ ha.1 ha.2) ?_
      rintro e _ ⟨rfl, rfl⟩
      go_wp2_with fail
      refine Calls.mono (size_any _ _ hb.1 hb.2) ?_
      rintro e _ ⟨rfl, rfl⟩
      go_wp2_with fail
      refine Calls.mono (mul64_any _ _ na nb _) ?_
      rintro e _ ⟨rfl, rfl⟩
      rw [← HP.out, P1.out, P2.out]
      go_wp2_with fail
      refine Calls.mono (div64_low _ _ (by omega) (by omega) hk _) ?_
      rintro e _ ⟨rfl, n1, rfl⟩
      rw [← HQ.out, ← HR.out]
      go_wp2_with fail
      go_returns
      exact ⟨by rw [(HV2.out).1, (HV2.out).2]; simp, _, rfl⟩
    · have t3 : 0 < r := by omega
      have HR0 := Lib.hid hr0; clear hr0
      go_enter Tryz.func109, Tryz.ntmps109
      go_wp2_with fail
      refine Calls.mono (size_any _ _ ha.1 ha.2) ?_
      rintro e _ ⟨rfl, rfl⟩
      go_wp2_with fail
      refine Calls.mono (size_any _ _ hb.1 hb.2) ?_
      rintro e _ ⟨rfl, rfl⟩
      go_wp2_with fail
      refine Calls.mono (mul64_any _ _ na nb _) ?_
      rintro e _ ⟨rfl, rfl⟩
      rw [← HP.out, P1.out, P2.out]
      go_wp2_with fail
      refine Calls.mono (div64_low _ _ (by omega) (by omega) hk _) ?_
      rintro e _ ⟨rfl, n1, rfl⟩
      rw [← HQ.out, ← HR.out]
      go_wp2_with fail
      go_returns
      exact ⟨by rw [(HV2.out).1, (HV2.out).2, if_neg HR0.out]; rfl, _, rfl⟩

set_option maxRecDepth 100000 in
set_option maxHeartbeats 8000000 in
theorem product_big (a b c d : Int) (k : Nat) (w : World) (hk : 10 ≤ k) (hk' : k ≤ 1000000000000000000) (ha : -4000000000000000000 ≤ a ∧ a ≤ 4000000000000000000) (hb : -4000000000000000000 ≤ b ∧ b ≤ 4000000000000000000) (hc : -4000000000000000000 ≤ c ∧ c ≤ 4000000000000000000) (hd : -4000000000000000000 ≤ d ∧ d ≤ 4000000000000000000)
    (h0 : a.natAbs * c.natAbs ≤ 9000000000000000000) (h1 : a.natAbs * d.natAbs ≤ 9000000000000000000) (h2 : b.natAbs * c.natAbs ≤ 9000000000000000000) (h3 : b.natAbs * d.natAbs ≤ 9000000000000000000) :
    Calls Tryz.prog 91 #[.agg #[.int .i64 a, .int .i64 b], .agg #[.int .i64 c, .int .i64 d], .int .i64 k] w fun e w' => e = .returned (.agg #[.int .i64 (pLo a b c d k), .int .i64 (pHi a b c d k)]) ∧ Below w.heap.size w w' := by
  have i0 : ∀ w, (Instr.index 108 (.agg #[.int .i64 a, .int .i64 c, .int .i64 a, .int .i64 d, .int .i64 b, .int .i64 c, .int .i64 b, .int .i64 d]) (.int .i64 0)).run Tryz.prog w = .ok (.agg #[.int .i64 a, .int .i64 c]) w := fun _ => by kernel_rfl
  have i1 : ∀ w, (Instr.index 108 (.agg #[.int .i64 a, .int .i64 c, .int .i64 a, .int .i64 d, .int .i64 b, .int .i64 c, .int .i64 b, .int .i64 d]) (.int .i64 1)).run Tryz.prog w = .ok (.agg #[.int .i64 a, .int .i64 d]) w := fun _ => by kernel_rfl
  have i2 : ∀ w, (Instr.index 108 (.agg #[.int .i64 a, .int .i64 c, .int .i64 a, .int .i64 d, .int .i64 b, .int .i64 c, .int .i64 b, .int .i64 d]) (.int .i64 2)).run Tryz.prog w = .ok (.agg #[.int .i64 b, .int .i64 c]) w := fun _ => by kernel_rfl
  have i3 : ∀ w, (Instr.index 108 (.agg #[.int .i64 a, .int .i64 c, .int .i64 a, .int .i64 d, .int .i64 b, .int .i64 c, .int .i64 b, .int .i64 d]) (.int .i64 3)).run Tryz.prog w = .ok (.agg #[.int .i64 b, .int .i64 d]) w := fun _ => by kernel_rfl
  have v0 := fun w => ratio_big a c k w hk hk' ha hc h0
  have v1 := fun w => ratio_big a d k w hk hk' ha hd h1
  have v2 := fun w => ratio_big b c k w hk hk' hb hc h2
  have v3 := fun w => ratio_big b d k w hk hk' hb hd h3
  have V0 := Lib.hid v0; have V1 := Lib.hid v1; have V2 := Lib.hid v2; have V3 := Lib.hid v3
  clear v0 v1 v2 v3
  go_enter Tryz.func91, Tryz.ntmps91
  go_wp2_with fail
  go_loopw [33] (fun i wr => ∃ j : Nat, j ≤ 4 ∧ i = .int .i64 j ∧ wr.cell? ⟨w.heap.size + 1 + 1 + 1, 0, none⟩ = some (.int .i64 (loAt a b c d k j)) ∧ wr.cell? ⟨w.heap.size + 1 + 1 + 1, 1, none⟩ = some (.int .i64 (hiAt a b c d k j)) ∧
      wr.frozen? ⟨w.heap.size + 1 + 1 + 1, 0, none⟩ = false ∧ wr.frozen? ⟨w.heap.size + 1 + 1 + 1, 1, none⟩ = false ∧ wr.cell? ⟨w.heap.size + 1 + 1, 0, none⟩ = some (.int .i64 0) ∧ wr.cell? ⟨w.heap.size + 1 + 1, 1, none⟩ = some (.int .i64 0) ∧
      wr.frozen? ⟨w.heap.size + 1 + 1, 0, none⟩ = false ∧ wr.frozen? ⟨w.heap.size + 1 + 1, 1, none⟩ = false ∧ w.heap.size + 1 + 1 + 1 < wr.heap.size ∧ Below w.heap.size w wr)
    (fun i _ => 4 - (intOf i).toNat)
  case atStart => exact ⟨0, by omega, rfl, by simp [go_sem, loAt], by simp [go_sem, hiAt], by simp [go_sem], by simp [go_sem], by simp [go_sem], by simp [go_sem], by simp [go_sem], by simp [go_sem], by simp, (by repeat' (first | (with_reducible refine below_drewN ?_ _) | go_grown))⟩
  case round =>
    obtain ⟨j, hj, rfl, c0, c1, f0, f1, r0, r1, g0, g1, hz, hbw⟩ := hrel
    have hz2 : w.heap.size + 1 + 1 < wr.heap.size := by omega
    obtain rfl | rfl | rfl | rfl | rfl : j = 0 ∨ j = 1 ∨ j = 2 ∨ j = 3 ∨ j = 4 := by omega
    · go_wp2_with fail
      refine Calls.mono (V0.out _) ?_
      rintro e _ ⟨rfl, n0, rfl⟩
      go_wp2_with fail
      have E0 : ((wr.alloc (.cells #[.int .i64 a, .int .i64 c] 89)).drewN n0).cell? ⟨w.heap.size + 1 + 1 + 1, 0, none⟩ = some (.int .i64 (loAt a b c d k 0)) := by simp [go_sem, *]
      have E1 : ((wr.alloc (.cells #[.int .i64 a, .int .i64 c] 89)).drewN n0).cell? ⟨w.heap.size + 1 + 1 + 1, 1, none⟩ = some (.int .i64 (hiAt a b c d k 0)) := by simp [go_sem, *]
      exact ⟨⟨1, by omega, rfl, by first | (simp [go_sem, *, loAt]; done) | (simp only [loAt, Int.min_self]; exact (pair_cells (pair_cells E0 E1).1 (pair_cells E0 E1).2).1), by first | (simp [go_sem, *, hiAt]; done) | (simp only [hiAt, Int.max_self]; exact (pair_cells (pair_cells E0 E1).1 (pair_cells E0 E1).2).2), by simp [go_sem, *], by simp [go_sem, *], by simp [go_sem, *], by simp [go_sem, *], by simp [go_sem, *], by simp [go_sem, *], by simp; omega, (by repeat' (first | (with_reducible refine below_drewN ?_ _) | go_grown))⟩, by simp [intOf]⟩
    · go_wp2_with fail
      refine Calls.mono (V1.out _) ?_
      rintro e _ ⟨rfl, n0, rfl⟩
      go_wp2_with fail
      exact ⟨⟨2, by omega, rfl, by first | (simp [go_sem, *, loAt]; done) | (simp only [loAt, Int.min_self]; exact (pair_cells (pair_cells E0 E1).1 (pair_cells E0 E1).2).1), by first | (simp [go_sem, *, hiAt]; done) | (simp only [hiAt, Int.max_self]; exact (pair_cells (pair_cells E0 E1).1 (pair_cells E0 E1).2).2), by simp [go_sem, *], by simp [go_sem, *], by simp [go_sem, *], by simp [go_sem, *], by simp [go_sem, *], by simp [go_sem, *], by simp; omega, (by repeat' (first | (with_reducible refine below_drewN ?_ _) | go_grown))⟩, by simp [intOf]⟩
    · go_wp2_with fail
      refine Calls.mono (V2.out _) ?_
      rintro e _ ⟨rfl, n0, rfl⟩
      go_wp2_with fail
      exact ⟨⟨3, by omega, rfl, by first | (simp [go_sem, *, loAt]; done) | (simp only [loAt, Int.min_self]; exact (pair_cells (pair_cells E0 E1).1 (pair_cells E0 E1).2).1), by first | (simp [go_sem, *, hiAt]; done) | (simp only [hiAt, Int.max_self]; exact (pair_cells (pair_cells E0 E1).1 (pair_cells E0 E1).2).2), by simp [go_sem, *], by simp [go_sem, *], by simp [go_sem, *], by simp [go_sem, *], by simp [go_sem, *], by simp [go_sem, *], by simp; omega, (by repeat' (first | (with_reducible refine below_drewN ?_ _) | go_grown))⟩, by simp [intOf]⟩
    · go_wp2_with fail
      refine Calls.mono (V3.out _) ?_
      rintro e _ ⟨rfl, n0, rfl⟩
      go_wp2_with fail
      exact ⟨⟨4, by omega, rfl, by first | (simp [go_sem, *, loAt]; done) | (simp only [loAt, Int.min_self]; exact (pair_cells (pair_cells E0 E1).1 (pair_cells E0 E1).2).1), by first | (simp [go_sem, *, hiAt]; done) | (simp only [hiAt, Int.max_self]; exact (pair_cells (pair_cells E0 E1).1 (pair_cells E0 E1).2).2), by simp [go_sem, *], by simp [go_sem, *], by simp [go_sem, *], by simp [go_sem, *], by simp [go_sem, *], by simp [go_sem, *], by simp; omega, (by repeat' (first | (with_reducible refine below_drewN ?_ _) | go_grown))⟩, by simp [intOf]⟩
    · go_wp2_with fail
      refine bodyPost_ret (v := .agg #[.int .i64 (pLo a b c d k), .int .i64 (pHi a b c d k)]) ?_ rfl ⟨rfl, (by repeat' (first | (with_reducible refine below_drewN ?_ _) | go_grown))⟩
      simp [results, Tryz.results91, go_sem, r0, r1, loAt, hiAt, pLo, pHi]

set_option maxHeartbeats 1000000 in
theorem Times_big (a b c d : Int) (w : World) (h : MulBig a b c d) (h1 : -4000000000000000000 ≤ a ∧ a ≤ 4000000000000000000) (h2 : -4000000000000000000 ≤ b ∧ b ≤ 4000000000000000000) (h3 : -4000000000000000000 ≤ c ∧ c ≤ 4000000000000000000) (h4 : -4000000000000000000 ≤ d ∧ d ≤ 4000000000000000000) :
    Calls Tryz.prog 57 #[.agg #[.int .i64 a, .int .i64 b], .agg #[.int .i64 c, .int .i64 d]] w fun e w' => e = .returned (.agg #[.int .i64 (tmLo a b c d), .int .i64 (tmHi a b c d)]) ∧ Below w.heap.size w w' := by
  have P := Lib.hid (fun w => product_big a b c d 1000000000 w (by omega) (by omega) h1 h2 h3 h4 h.p0 h.p1 h.p2 h.p3)
  have e1 : pLo a b c d ((1000000000 : Nat) : Int) = tmLo a b c d := rfl
  have e2 : pHi a b c d ((1000000000 : Nat) : Int) = tmHi a b c d := rfl
  rw [e1, e2] at P
  clear e1 e2
  generalize tmLo a b c d = lo at *
  generalize tmHi a b c d = hi at *
  have P' : Hid (∀ w, Calls Tryz.prog 91 #[.agg #[.int .i64 a, .int .i64 b], .agg #[.int .i64 c, .int .i64 d], .int .i64 1000000000] w fun e w' => e = .returned (.agg #[.int .i64 lo, .int .i64 hi]) ∧ Below w.heap.size w w') := P
  clear P h h1 h2 h3 h4
  go_enter Tryz.func57, Tryz.ntmps57
  go_wp2_with fail
  refine Calls.mono (P'.out _) ?_
  rintro e w1 ⟨rfl, hb⟩
  obtain ⟨hb1, hz1, hc1, hf1⟩ := took (w := w) (by repeat' (first | (with_reducible refine below_drewN ?_ _) | go_grown)) (by first | (simp only [vA, vB, vC, vD]; done) | (simp only [vA, vB, vC, vD]; rfl) | rfl) hb; clear hb
  have z1 : w.heap.size < w1.heap.size := by omega
  have z2 : w.heap.size + 1 < w1.heap.size := by omega
  have z3 : w.heap.size + 1 + 1 < w1.heap.size := by omega
  go_wp2_with fail
  refine bodyPost_ret (v := .agg #[.int .i64 lo, .int .i64 hi]) ?_ rfl ⟨rfl, (by repeat' (first | (with_reducible refine below_drewN ?_ _) | go_grown))⟩
  simp [results, Tryz.results57, go_sem, *]
end Go.Proofs.YtcopmgnfakjdhaaGreatDoor
