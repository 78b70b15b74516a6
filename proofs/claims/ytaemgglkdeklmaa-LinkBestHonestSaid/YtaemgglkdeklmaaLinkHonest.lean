/- LinkHonest, the walk: whatever the delays, the offset is in the interval. -/
import Derived.Test.YtaemgglkdeklmaaLink
namespace Go.Proofs.Ytaemgglkdeklmaa
open Go.RowKit
set_option linter.unusedSimpArgs false

theorem exOk_of {s o a b c : Int} (hs : -1000000000 < s ∧ s < 1000000000) (ho : -1000000000 < o ∧ o < 1000000000) (ha : 0 ≤ a ∧ a < 100000) (hb : 0 ≤ b ∧ b < 100000) (hc : 0 ≤ c ∧ c < 100000) :
    ExOk s (s + a + b + c) (s + a + o) (s + a + b + o) := by
  refine ⟨?_, ?_, by omega, by omega, by omega, by omega, by omega⟩
  · unfold timesF chk; rw [if_neg (by omega), if_neg (by omega), if_neg (by omega)]
  · unfold timesF chk; rw [if_neg (by omega), if_neg (by omega), if_neg (by omega)]

set_option maxHeartbeats 400000 in
theorem linkHonest_walk (a0 a1 a2 a3 a4 : Int) (w : World) (_ : (Lit.int .i64 a0).wf = true) (_ : (Lit.int .i64 a1).wf = true) (_ : (Lit.int .i64 a2).wf = true) (_ : (Lit.int .i64 a3).wf = true) (_ : (Lit.int .i64 a4).wf = true) :
    Calls Try.prog 3 #[.int .i64 a0, .int .i64 a1, .int .i64 a2, .int .i64 a3, .int .i64 a4] w fun e w' => e = .returned (.bool true) ∧ Below w.heap.size w w' := by
  have hs : -1000000000 < a0.tmod 1000000000 ∧ a0.tmod 1000000000 < 1000000000 := ⟨Int.lt_tmod_of_pos a0 (by omega), Int.tmod_lt_of_pos a0 (by omega)⟩
  have ho : -1000000000 < a1.tmod 1000000000 ∧ a1.tmod 1000000000 < 1000000000 := ⟨Int.lt_tmod_of_pos a1 (by omega), Int.tmod_lt_of_pos a1 (by omega)⟩
  have h2 : 0 ≤ a2 % 100000 ∧ a2 % 100000 < 100000 := by omega
  have h3 : 0 ≤ a3 % 100000 ∧ a3 % 100000 < 100000 := by omega
  have h4 : 0 ≤ a4 % 100000 ∧ a4 % 100000 < 100000 := by omega
  have hx := exOk_of hs ho h2 h3 h4
  go_enter Try.func3, Try.ntmps3
  go_wp2_with fail
  refine Calls.mono (linkWorks_ok _) ?_
  rintro e w1 ⟨rfl, hb⟩
  obtain ⟨hb1, hz1, hc1, hf1⟩ := took (w := w) (by repeat' (first | (with_reducible refine below_drewN ?_ _) | go_grown)) (by first | (simp only [World.size_alloc, World.size_setCell, World.size_drew, size_drewN]; done) | (simp only [World.size_alloc, World.size_setCell, World.size_drew, size_drewN]; rfl) | rfl) hb; clear hb
  go_wp2_with fail
  refine Calls.mono (at_any _ _ _ (by omega) (by omega)) ?_
  rintro e _ ⟨rfl, rfl⟩
  go_wp2_with fail
  refine Calls.mono (at_any _ _ _ (by omega) (by omega)) ?_
  rintro e _ ⟨rfl, rfl⟩
  go_wp2_with fail
  refine Calls.mono (at_any _ _ _ (by omega) (by omega)) ?_
  rintro e _ ⟨rfl, rfl⟩
  go_wp2_with fail
  refine Calls.mono (linkOffset_ok _ _ _ _ _ hx) ?_
  rintro e w2 ⟨rfl, hb⟩
  obtain ⟨hb2, hz2, hc2, hf2⟩ := took (w := w) (by repeat' (first | (with_reducible refine below_drewN ?_ _) | go_grown)) (by first | (simp only [World.size_alloc, World.size_setCell, World.size_drew, size_drewN]; done) | (simp only [World.size_alloc, World.size_setCell, World.size_drew, size_drewN]; rfl) | rfl) hb; clear hb
  have z1 : w1.heap.size < w2.heap.size := by omega
  go_wp2_with fail
  refine Calls.mono (linkDelay_ok _ _ _ _ _ hx) ?_
  rintro e w3 ⟨rfl, hb⟩
  obtain ⟨hb3, hz3, hc3, hf3⟩ := took (w := w) (by repeat' (first | (with_reducible refine below_drewN ?_ _) | go_grown)) (by first | (simp only [World.size_alloc, World.size_setCell, World.size_drew, size_drewN]; done) | (simp only [World.size_alloc, World.size_setCell, World.size_drew, size_drewN]; rfl) | rfl) hb; clear hb
  have z2 : w2.heap.size < w3.heap.size := by omega
  go_wp2_with fail
  go_returns
  exact ⟨ret_bool (by simp; omega), by go_grown⟩

end Go.Proofs.Ytaemgglkdeklmaa
