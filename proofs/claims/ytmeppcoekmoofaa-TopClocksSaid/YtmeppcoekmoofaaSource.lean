/- The contracts of package source. -/
import Derived.Test.YtmeppcoekmoofaaBase
import Derived.Test.YtmeppcoekmoofaaSpan
namespace Go.Proofs.Ytmeppcoekmoofaa
open Go.RowKit
set_option linter.unusedSimpArgs false

theorem times_small {lo hi : Int} (h1 : -100000000000000000 ≤ lo) (h2 : hi ≤ 100000000000000000) (h3 : lo ≤ hi) : timesF lo hi = 0 := by
  unfold timesF chk; rw [if_neg (by omega), if_neg (by omega), if_neg (by omega)]

set_option maxHeartbeats 400000 in
theorem sourceCheck_ok (t lo hi : Int) (w : World) (h0 : 0 ≤ t ∧ t ≤ 1000000000000) (h1 : -100000000000000000 ≤ lo) (h2 : hi ≤ 100000000000000000) (h3 : lo ≤ hi) :
    Calls Try.prog 61 #[.agg #[.int .i64 t, .int .i64 lo, .int .i64 hi]] w fun e w' => e = .returned (.int .i64 0) ∧ Below w.heap.size w w' := by
  go_enter Try.func61, Try.ntmps61
  go_wp2_with fail
  refine Calls.mono (isTick_any _ _) ?_
  rintro e _ ⟨rfl, rfl⟩
  go_wp2_with fail
  refine Calls.mono (times_any _ _ _) ?_
  rintro e w1 ⟨rfl, hb⟩
  obtain ⟨hb1, hz1, hc1, hf1⟩ := took (w := w) (by repeat' (first | (with_reducible refine below_drewN ?_ _) | go_grown)) (by first | (simp only [World.size_alloc, World.size_setCell, World.size_drew, size_drewN]; done) | (simp only [World.size_alloc, World.size_setCell, World.size_drew, size_drewN]; rfl) | rfl) hb; clear hb
  rw [times_small h1 h2 h3]
  go_wp2_with fail
  go_returns
  exact ⟨rfl, by repeat' (first | (with_reducible refine below_drewN ?_ _) | go_grown)⟩

theorem el_bounds (d t : Int) (h0 : 0 ≤ d) (h1 : d ≤ 100000) (h2 : 0 ≤ t) (h3 : t ≤ 1000000000000) : 0 ≤ elLo d t ∧ elLo d t ≤ t ∧ t ≤ elHi d t ∧ elHi d t ≤ 2 * t := by
  unfold elLo elHi upQ
  refine ⟨Int.ediv_nonneg (by omega) (by omega), ?_, ?_, ?_⟩
  · apply Int.ediv_le_of_le_mul (by omega)
    rw [Int.mul_add]
    have := Int.mul_nonneg h2 h0
    omega
  · have : -(t * 1000000) / (1000000 - d) ≤ -t := by
      apply Int.ediv_le_of_le_mul (by omega)
      have := Int.mul_nonneg h2 h0
      rw [Int.mul_sub, Int.neg_mul t d]
      omega
    omega
  · have : -(2 * t) ≤ -(t * 1000000) / (1000000 - d) := by
      rw [Int.le_ediv_iff_mul_le (by omega)]
      have h5 : t * d ≤ t * 100000 := Int.mul_le_mul_of_nonneg_left h1 h2
      rw [Int.mul_sub, Int.neg_mul, Int.neg_mul, Int.mul_assoc 2 t d]
      omega
    omega

theorem elLo_adds (d a b : Int) (h0 : 0 ≤ d) : elLo d a + elLo d b ≤ elLo d (a + b) := by
  unfold elLo
  rw [Int.le_ediv_iff_mul_le (by omega), Int.add_mul, Int.add_mul]
  have := Int.ediv_mul_le (a * 1000000) (show 1000000 + d ≠ 0 by omega)
  have := Int.ediv_mul_le (b * 1000000) (show 1000000 + d ≠ 0 by omega)
  omega

theorem elHi_adds (d a b : Int) (h1 : d ≤ 100000) : elHi d (a + b) ≤ elHi d a + elHi d b := by
  unfold elHi upQ
  have : -(a * 1000000) / (1000000 - d) + -(b * 1000000) / (1000000 - d) ≤ -((a + b) * 1000000) / (1000000 - d) := by
    rw [Int.le_ediv_iff_mul_le (by omega), Int.add_mul, Int.add_mul]
    have := Int.ediv_mul_le (-(a * 1000000)) (show 1000000 - d ≠ 0 by omega)
    have := Int.ediv_mul_le (-(b * 1000000)) (show 1000000 - d ≠ 0 by omega)
    omega
  omega

set_option maxHeartbeats 400000 in
theorem moved_ok (d t lo hi k : Int) (w : World) (h0 : 0 ≤ t ∧ t ≤ 1000000000000) (h1 : -100000000000000000 ≤ lo) (h2 : hi ≤ 100000000000000000) (h3 : lo ≤ hi) (hd : 0 ≤ d ∧ d ≤ 100000) (hk : t ≤ k ∧ k ≤ 1000000000000) :
    Calls Try.prog 75 #[.int .i64 d, .agg #[.int .i64 t, .int .i64 lo, .int .i64 hi], .int .i64 k] w fun e w' => e = .returned (.tuple #[.agg #[.int .i64 (lo + elLo d (k - t)), .int .i64 (hi + elHi d (k - t))], .int .i64 0]) ∧ Below w.heap.size w w' := by
  have be := el_bounds d (k - t) hd.1 hd.2 (by omega) (by omega)
  obtain ⟨hk1, hk2⟩ := hk
  have hk0 : 0 ≤ k := by omega
  go_enter Try.func75, Try.ntmps75
  go_wp2_with fail
  refine Calls.mono (sourceCheck_ok _ _ _ _ h0 h1 h2 h3) ?_
  rintro e w1 ⟨rfl, hb⟩
  obtain ⟨hb1, hz1, hc1, hf1⟩ := took (w := w) (by repeat' (first | (with_reducible refine below_drewN ?_ _) | go_grown)) (by first | (simp only [World.size_alloc, World.size_setCell, World.size_drew, size_drewN]; done) | (simp only [World.size_alloc, World.size_setCell, World.size_drew, size_drewN]; rfl) | rfl) hb; clear hb
  have z0 : w.heap.size < w1.heap.size := by omega
  have z1 : w.heap.size + 1 < w1.heap.size := by omega
  go_wp2_with fail
  refine Calls.mono (isDrift_any _ _) ?_
  rintro e _ ⟨rfl, rfl⟩
  go_wp2_with fail
  refine Calls.mono (isTick_any _ _) ?_
  rintro e _ ⟨rfl, rfl⟩
  go_wp2_with fail
  refine Calls.mono (elapsed_any d (k - t) _ hd.1 hd.2 (by omega) (by omega)) ?_
  rintro e w2 ⟨rfl, hb⟩
  obtain ⟨hb2, hz2, hc2, hf2⟩ := took (w := w) (by repeat' (first | (with_reducible refine below_drewN ?_ _) | go_grown)) (by first | (simp only [World.size_alloc, World.size_setCell, World.size_drew, size_drewN]; done) | (simp only [World.size_alloc, World.size_setCell, World.size_drew, size_drewN]; rfl) | rfl) hb; clear hb
  have z2 : w.heap.size < w2.heap.size := by omega
  have z3 : w.heap.size + 1 < w2.heap.size := by omega
  go_wp2_with fail
  refine bodyPost_ret (v := .tuple #[.agg #[.int .i64 (lo + elLo d (k - t)), .int .i64 (hi + elHi d (k - t))], .int .i64 0]) ?_ rfl ⟨rfl, (by repeat' (first | (with_reducible refine below_drewN ?_ _) | go_grown))⟩
  simp [results, Try.results75, go_sem, hc1, hc2, z1, z2, z3]


end Go.Proofs.Ytmeppcoekmoofaa
