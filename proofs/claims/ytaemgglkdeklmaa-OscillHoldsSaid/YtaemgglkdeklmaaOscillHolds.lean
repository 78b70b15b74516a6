/- OscillHolds, the walk: a clock whose rate errs by no more than its drift tells the true time. -/
import Derived.Test.YtaemgglkdeklmaaOscillSet
namespace Go.Proofs.Ytaemgglkdeklmaa
open Go.RowKit
set_option linter.unusedSimpArgs false
set_option linter.unusedVariables false

theorem rate_bounds {d r b n : Int} (h0 : 0 ≤ d) (h1 : d ≤ 10000) (h2 : -d ≤ r) (h3 : r ≤ d) (hb : 0 ≤ b) (hn : n = b * (1000000 + r) / 1000000) :
    0 ≤ n ∧ n ≤ 2 * b ∧ elLo d n ≤ b ∧ b - 2 ≤ elHi d n := by
  have m1 : b * r ≤ b * d := Int.mul_le_mul_of_nonneg_left h3 hb
  have m2 : b * (-d) ≤ b * r := Int.mul_le_mul_of_nonneg_left h2 hb
  have m3 : b * d ≤ b * 10000 := Int.mul_le_mul_of_nonneg_left h1 hb
  have m4 : 0 ≤ b * d := Int.mul_nonneg hb h0
  rw [Int.mul_neg] at m2
  rw [Int.mul_add] at hn
  have q1 : 1000000 * n ≤ b * 1000000 + b * r := by omega
  have q2 : b * 1000000 + b * r - 999999 ≤ 1000000 * n := by omega
  refine ⟨by omega, by omega, ?_, ?_⟩
  · unfold elLo
    apply Int.ediv_le_of_le_mul (by omega)
    rw [Int.mul_add]; omega
  · unfold elHi upQ
    have : -(n * 1000000) / (1000000 - d) ≤ -(b - 2) := by
      apply Int.ediv_le_of_le_mul (by omega)
      have e : -(b - 2) * (1000000 - d) = -(b * 1000000) + b * d + 2000000 - 2 * d := by
        rw [Int.mul_sub, Int.neg_mul, Int.neg_mul, Int.sub_mul, Int.sub_mul]; omega
      rw [e]; omega
    omega

set_option maxHeartbeats 1000000 in
theorem oscillHolds_walk (a0 a1 a2 a3 a4 : Int) (w : World) (_ : (Lit.int .i64 a0).wf = true) (_ : (Lit.int .i64 a1).wf = true) (_ : (Lit.int .i64 a2).wf = true) (_ : (Lit.int .i64 a3).wf = true) (_ : (Lit.int .i64 a4).wf = true) :
    Calls Try.prog 7 #[.int .i64 a0, .int .i64 a1, .int .i64 a2, .int .i64 a3, .int .i64 a4] w fun e w' => e = .returned (.bool true) ∧ Below w.heap.size w w' := by
  obtain ⟨d, hd⟩ : ∃ d, d = a0 % 10001 := ⟨_, rfl⟩
  have h0 : 0 ≤ d := by omega
  have h0' : d ≤ 10000 := by omega
  obtain ⟨T, hT⟩ : ∃ d, d = a2.tmod 1000000000000 := ⟨_, rfl⟩
  have hT1 : -1000000000000 < T := by rw [hT]; exact Int.lt_tmod_of_pos a2 (by omega)
  have hT2 : T < 1000000000000 := by rw [hT]; exact Int.tmod_lt_of_pos a2 (by omega)
  obtain ⟨a, ha⟩ : ∃ d, d = a3 % 1000000000 := ⟨_, rfl⟩
  have h1 : 0 ≤ a := by omega
  have h1' : a ≤ 999999999 := by omega
  obtain ⟨b, hb⟩ : ∃ d, d = a4 % 1000000000 := ⟨_, rfl⟩
  have h2 : 0 ≤ b := by omega
  have h2' : b ≤ 999999999 := by omega
  obtain ⟨r, hr⟩ : ∃ r, r = a1 % (2 * d + 1) - d := ⟨_, rfl⟩
  have hq1 : 0 ≤ a1 % (2 * d + 1) := Int.emod_nonneg a1 (show 2 * d + 1 ≠ 0 by omega)
  have hq2 : a1 % (2 * d + 1) ≤ 2 * d := by have := Int.emod_lt_of_pos a1 (show 0 < 2 * d + 1 by omega); omega
  have hr1 : -d ≤ r := by have := Int.emod_nonneg a1 (show 2 * d + 1 ≠ 0 by omega); omega
  have hr2 : r ≤ d := by have := Int.emod_lt_of_pos a1 (show 0 < 2 * d + 1 by omega); omega
  obtain ⟨n, hn⟩ : ∃ n, n = b * (1000000 + r) / 1000000 := ⟨_, rfl⟩
  obtain ⟨n1, n2, n3, n4⟩ := rate_bounds h0 h0' hr1 hr2 h2 hn
  have n5 := el_bounds d n h0 (by omega) n1 (by omega)
  have HD := Lib.hid hd; have HT := Lib.hid hT; have HA := Lib.hid ha; have HB := Lib.hid hb; have HR := Lib.hid hr; have HN := Lib.hid hn
  clear hd hT ha hb hr hn
  have p1 : 0 ≤ b * (1000000 + r) := Int.mul_nonneg h2 (by omega)
  have p2 : b * (1000000 + r) ≤ 999999999 * 1010000 := by
    have := Int.mul_le_mul h2' (show 1000000 + r ≤ 1010000 by omega) (by omega) (by omega)
    exact this
  have e1 : a + n - a = n := by omega
  have E1 := Lib.hid e1; clear e1
  go_enter Try.func7, Try.ntmps7
  go_wp2_with fail
  refine Calls.mono (oscillWorks_ok _) ?_
  rintro e w1 ⟨rfl, hb⟩
  obtain ⟨hb1, hz1, hc1, hf1⟩ := took (w := w) (by repeat' (first | (with_reducible refine below_drewN ?_ _) | go_grown)) (by first | (simp only [World.size_alloc, World.size_setCell, World.size_drew, size_drewN]; done) | (simp only [World.size_alloc, World.size_setCell, World.size_drew, size_drewN]; rfl) | rfl) hb; clear hb
  go_wp2_with fail
  refine Calls.mono (at_any _ _ _ (by omega) (by omega)) ?_
  rintro e _ ⟨rfl, rfl⟩
  rw [← HD.out]
  go_wp2_with fail
  refine Calls.mono (at_any _ _ _ (by omega) (by omega)) ?_
  rintro e _ ⟨rfl, rfl⟩
  rw [← HA.out]
  go_wp2_with fail
  refine Calls.mono (at_any _ _ _ (by omega) (by omega)) ?_
  rintro e _ ⟨rfl, rfl⟩
  rw [← HB.out]
  go_wp2_with fail
  rw [← HT.out]
  go_wp2_with fail
  refine Calls.mono (at_any _ _ _ (by omega) (by omega)) ?_
  rintro e _ ⟨rfl, rfl⟩
  go_wp2_with fail
  rw [← HR.out]
  refine Calls.mono (clockNew_ok _ _ (by omega) (by omega)) ?_
  rintro e w2 ⟨rfl, hck, hb⟩
  obtain ⟨hb2, hz2, hc2, hf2⟩ := took (w := w) (by repeat' (first | (with_reducible refine below_drewN ?_ _) | go_grown)) (by first | (simp only [World.size_alloc, World.size_setCell, World.size_drew, size_drewN]; done) | (simp only [World.size_alloc, World.size_setCell, World.size_drew, size_drewN]; rfl) | rfl) hb; clear hb
  clear hc2 hf2
  go_wp2_with fail
  rw [← HN.out]
  refine Calls.mono (clockSet_ok _ _ _ _ _ _ _ _ w _ hck hb2 (by omega) (by omega) (by omega) (by omega) (by omega) (by omega)) ?_
  rintro e w3 ⟨rfl, hck3, hb3, hz3⟩
  have HC3 := Lib.hid hck3
  clear hck3 hck
  go_wp2_with fail
  refine Calls.mono (clockAt_ok _ _ _ _ _ _ _ HC3.out (by omega) (by omega) (by omega) (by omega) (by omega) (by omega) (by omega) (by omega)) ?_
  rintro e w4 ⟨rfl, hb⟩
  rw [E1.out]
  obtain ⟨hb4, hz4, hc4, hf4⟩ := took (w := w) (by repeat' (first | (with_reducible refine below_drewN ?_ _) | go_grown)) (by first | (simp only [World.size_alloc, World.size_setCell, World.size_drew, size_drewN]; done) | (simp only [World.size_alloc, World.size_setCell, World.size_drew, size_drewN]; rfl) | rfl) hb; clear hb
  go_wp2_with fail
  go_returns
  exact ⟨ret_bool (by simp; omega), (by repeat' (first | (with_reducible refine below_drewN ?_ _) | go_grown))⟩

end Go.Proofs.Ytaemgglkdeklmaa
