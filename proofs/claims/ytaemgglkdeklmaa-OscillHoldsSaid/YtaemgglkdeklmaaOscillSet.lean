/- oscill.Clock.Set, and the check of the package's example. -/
import Derived.Test.YtaemgglkdeklmaaOscill
namespace Go.Proofs.Ytaemgglkdeklmaa
open Go.RowKit
set_option linter.unusedSimpArgs false
set_option linter.unusedVariables false

set_option maxRecDepth 100000 in
set_option maxHeartbeats 2000000 in
theorem clockSet_ok (b : Nat) (d t0 lo0 hi0 t lo hi : Int) (w0 w : World) (h : ClockAt w b d t0 lo0 hi0 false) (hw : Below w0.heap.size w0 w) (hb : w0.heap.size ≤ b) (ht : 0 ≤ t) (ht' : t ≤ 1000000000000) (hl : -100000000000000000 ≤ lo) (hh : hi ≤ 100000000000000000) (hlh : lo ≤ hi) :
    Calls Try.prog 28 #[.pointer (some ⟨b, 0, none⟩), .int .i64 t, .agg #[.int .i64 lo, .int .i64 hi]] w fun e w' => e = .returned (.int .i64 0) ∧ ClockAt w' b d t lo hi true ∧ Below w0.heap.size w0 w' ∧ w.heap.size ≤ w'.heap.size := by
  go_enter Try.func28, Try.ntmps28
  go_wp2_with fail
  refine Calls.mono (isTick_any _ _) ?_
  rintro e _ ⟨rfl, rfl⟩
  go_wp2_with fail
  refine Calls.mono (times_any _ _ _) ?_
  rintro e w1 ⟨rfl, hb⟩
  obtain ⟨hb1, hz1, hc1, hf1⟩ := took (w := w) (by repeat' (first | (with_reducible refine below_drewN ?_ _) | go_grown)) (by first | (simp only [World.size_alloc, World.size_setCell, World.size_drew, size_drewN]; done) | (simp only [World.size_alloc, World.size_setCell, World.size_drew, size_drewN]; rfl) | rfl) hb; clear hb
  rw [times_small hl hh hlh]
  have hk := h.keep hb1
  obtain ⟨m0, m1, m2, m3, m4, mf, ml⟩ := hk
  have n1 : b ≠ w.heap.size := by have := h.lt; omega
  have n2 : w.heap.size ≠ b := by have := h.lt; omega
  have f0 := mf 0
  have f1 := mf 1
  have f2 := mf 2
  have f3 := mf 3
  have f4 := mf 4
  have z1 : w.heap.size < w1.heap.size := by omega
  have c0 := hc1 w.heap.size 0 (by omega)
  have c1 := hc1 w.heap.size 1 (by omega)
  simp [go_sem] at c0 c1
  have hbw : Below w0.heap.size w0 w1 := hw.trans (hb1.mono hw.size)
  have HF := Lib.hid mf
  clear hc1 hf1 mf
  go_wp2_with fail
  go_region
  go_wp2_with fail
  go_returns
  refine ⟨rfl, ⟨by simp [go_sem, *], by simp [go_sem, *], by simp [go_sem, *], by simp [go_sem, *], by simp [go_sem, *], fun o => by simp [go_sem, HF.out], by simp; omega⟩, ?_, by simp; omega⟩
  refine below_drewN (n := 1) ?_ 
  repeat (refine Below.setCell ?_ hb _)
  exact hbw


theorem oscillWorks_ok (w : World) :
    Calls Try.prog 24 #[] w fun e w' => e = .returned (.bool true) ∧ Below w.heap.size w w' := by
  have h1 : elLo 100 1000000 = 999900 := by decide
  have h2 : elHi 100 1000000 = 1000101 := by decide
  have h3 : 1 + elLo 0 (7 - 5) = 3 := by decide
  have h4 : 2 + elHi 0 (7 - 5) = 4 := by decide
  have H1 := Lib.hid h1; have H2 := Lib.hid h2; have H3 := Lib.hid h3; have H4 := Lib.hid h4
  clear h1 h2 h3 h4
  go_enter Try.func24, Try.ntmps24
  go_wp2_with fail
  refine Calls.mono (elapsed_any _ _ _ (by omega) (by omega) (by omega) (by omega)) ?_
  rintro e w1 ⟨rfl, hb⟩
  obtain ⟨hb1, hz1, hc1, hf1⟩ := took (w := w) (by repeat' (first | (with_reducible refine below_drewN ?_ _) | go_grown)) (by first | (simp only [World.size_alloc, World.size_setCell, World.size_drew, size_drewN]; done) | (simp only [World.size_alloc, World.size_setCell, World.size_drew, size_drewN]; rfl) | rfl) hb; clear hb
  rw [H1.out, H2.out]
  go_wp2_with fail
  refine Calls.mono (clockNew_ok _ _ (by omega) (by omega)) ?_
  rintro e w2 ⟨rfl, hck, hb⟩
  obtain ⟨hb2, hz2, hc2, hf2⟩ := took (w := w) (by repeat' (first | (with_reducible refine below_drewN ?_ _) | go_grown)) (by first | (simp only [World.size_alloc, World.size_setCell, World.size_drew, size_drewN]; done) | (simp only [World.size_alloc, World.size_setCell, World.size_drew, size_drewN]; rfl) | rfl) hb; clear hb
  simp only [World.size_alloc] at hck
  have c0 := hc2 w1.heap.size 0 (by omega)
  have c1 := hc2 w1.heap.size 1 (by omega)
  simp [go_sem] at c0 c1
  clear hc2 hf2
  go_wp2_with fail
  refine Calls.mono (clockSet_ok _ _ _ _ _ _ _ _ w _ hck hb2 (by omega) (by omega) (by omega) (by omega) (by omega) (by omega)) ?_
  rintro e w3 ⟨rfl, hck3, hb3, hz3⟩
  have HC3 := Lib.hid hck3
  clear hck3 hck
  go_wp2_with fail
  refine Calls.mono (clockAt_ok _ _ _ _ _ _ _ HC3.out (by omega) (by omega) (by omega) (by omega) (by omega) (by omega) (by omega) (by omega)) ?_
  rintro e w4 ⟨rfl, hb⟩
  rw [H3.out, H4.out]
  obtain ⟨hb4, hz4, hc4, hf4⟩ := took (w := w) (by repeat' (first | (with_reducible refine below_drewN ?_ _) | go_grown)) (by first | (simp only [World.size_alloc, World.size_setCell, World.size_drew, size_drewN]; done) | (simp only [World.size_alloc, World.size_setCell, World.size_drew, size_drewN]; rfl) | rfl) hb; clear hb
  go_wp2_with fail
  go_returns
  exact ⟨rfl, by repeat' (first | (with_reducible refine below_drewN ?_ _) | go_grown)⟩

end Go.Proofs.Ytaemgglkdeklmaa
