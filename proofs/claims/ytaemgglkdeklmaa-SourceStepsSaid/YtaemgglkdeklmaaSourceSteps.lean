/- SourceSteps, the walk: a reading that is moved in two steps contains the one that is moved at once. -/
import Derived.Test.YtaemgglkdeklmaaSource
import Derived.Deep.RegionHeld3
import Derived.Deep.DeepCutAuto
namespace Go.Proofs.Ytaemgglkdeklmaa
open Go.RowKit
set_option linter.unusedSimpArgs false
set_option linter.unusedVariables false

set_option maxRecDepth 100000 in
set_option maxHeartbeats 40000000 in
theorem sourceSteps_walk (d0 t0 lo0 hi0 a0 b0 : Int) (w : World) :
    Calls Try.prog 5 #[.int .i64 d0, .agg #[.int .i64 t0, .int .i64 lo0, .int .i64 hi0], .int .i64 a0, .int .i64 b0] w fun e w' => e = .returned (.bool true) ∧ Below w.heap.size w w' := by
  obtain ⟨d, hd⟩ : ∃ d, d = d0 % 100001 := ⟨_, rfl⟩
  have d1 : 0 ≤ d := by omega
  have d2 : d ≤ 100000 := by omega
  obtain ⟨t, ht⟩ : ∃ d, d = t0 % 1000000000 := ⟨_, rfl⟩
  have t1 : 0 ≤ t := by omega
  have t2 : t ≤ 999999999 := by omega
  obtain ⟨a, ha⟩ : ∃ d, d = a0 % 1000000000 := ⟨_, rfl⟩
  have a1 : 0 ≤ a := by omega
  have a2 : a ≤ 999999999 := by omega
  obtain ⟨b, hb⟩ : ∃ d, d = b0 % 1000000000 := ⟨_, rfl⟩
  have b1 : 0 ≤ b := by omega
  have b2 : b ≤ 999999999 := by omega
  obtain ⟨lo, hlo⟩ : ∃ d, d = min (lo0.tmod (1000000000 + 1)) (hi0.tmod (1000000000 + 1)) := ⟨_, rfl⟩
  obtain ⟨hi, hhi⟩ : ∃ d, d = max (lo0.tmod (1000000000 + 1)) (hi0.tmod (1000000000 + 1)) := ⟨_, rfl⟩
  have q1 := Int.lt_tmod_of_pos lo0 (show 0 < 1000000001 by omega)
  have q2 := Int.tmod_lt_of_pos lo0 (show 0 < 1000000001 by omega)
  have q3 := Int.lt_tmod_of_pos hi0 (show 0 < 1000000001 by omega)
  have q4 := Int.tmod_lt_of_pos hi0 (show 0 < 1000000001 by omega)
  have l1 : -1000000000 ≤ lo := by rw [hlo]; simp only [show (1000000000 : Int) + 1 = 1000000001 from rfl]; omega
  have l2 : hi ≤ 1000000000 := by rw [hhi]; simp only [show (1000000000 : Int) + 1 = 1000000001 from rfl]; omega
  have l3 : lo ≤ hi := by rw [hlo, hhi]; omega
  have HD := Lib.hid hd; have HT := Lib.hid ht; have HA := Lib.hid ha; have HB := Lib.hid hb; have HL := Lib.hid hlo; have HH := Lib.hid hhi
  clear hd ht ha hb hlo hhi q1 q2 q3 q4
  have ea := el_bounds d a d1 d2 a1 (by omega)
  have eb := el_bounds d b d1 d2 b1 (by omega)
  have eab := el_bounds d (a + b) d1 d2 (by omega) (by omega)
  have s1 := elLo_adds d a b d1
  have s2 := elHi_adds d a b d2
  have k1 : t + a - t = a := by omega
  have k2 : t + a + b - (t + a) = b := by omega
  have k3 : t + a + b - t = a + b := by omega
  have K1 := Lib.hid k1; have K2 := Lib.hid k2; have K3 := Lib.hid k3
  clear k1 k2 k3
  go_enter Try.func5, Try.ntmps5
  go_upto_region 3 with (go_at_call 21; refine Calls.mono (sourceWorks_ok _) ?_; rintro e w1 ⟨rfl, hb⟩; obtain ⟨hb1, hz1, hc1, hf1⟩ := took (w := w) (by repeat' (first | (with_reducible refine below_drewN ?_ _) | go_grown)) (by first | (simp only [World.size_alloc, World.size_setCell, World.size_drew, size_drewN]; done) | (simp only [World.size_alloc, World.size_setCell, World.size_drew, size_drewN]; rfl) | rfl) hb; clear hb)
  have z1 : w.heap.size < w1.heap.size := by omega
  have c0 := hc1 w.heap.size 0 (by omega)
  have c1 := hc1 w.heap.size 1 (by omega)
  have c2 := hc1 w.heap.size 2 (by omega)
  have f0 := hf1 w.heap.size 0 (by omega)
  have f1 := hf1 w.heap.size 1 (by omega)
  have f2 := hf1 w.heap.size 2 (by omega)
  simp [go_sem] at c0 c1 c2 f0 f1 f2
  clear hc1 hf1 hz1
  go_cut [0, 2, 3] (fun s0 s2 s3 wx => s0 = .int .i64 d ∧ s2 = .int .i64 a ∧ s3 = .int .i64 b ∧ wx.cell? ⟨w.heap.size, 0, none⟩ = some (.int .i64 t) ∧ wx.cell? ⟨w.heap.size, 1, none⟩ = some (.int .i64 lo) ∧ wx.cell? ⟨w.heap.size, 2, none⟩ = some (.int .i64 hi) ∧ w.heap.size < wx.heap.size ∧ Below w.heap.size w wx)
  case first =>
    have hb1d : Below w.heap.size w w1.drew := hb1.drew
    have c0d : w1.drew.cell? ⟨w.heap.size, 0, none⟩ = some (.int .i64 t0) := c0
    have c1d : w1.drew.cell? ⟨w.heap.size, 1, none⟩ = some (.int .i64 lo0) := c1
    have c2d : w1.drew.cell? ⟨w.heap.size, 2, none⟩ = some (.int .i64 hi0) := c2
    have f0d : w1.drew.frozen? ⟨w.heap.size, 0, none⟩ = false := f0
    have f1d : w1.drew.frozen? ⟨w.heap.size, 1, none⟩ = false := f1
    have f2d : w1.drew.frozen? ⟨w.heap.size, 2, none⟩ = false := f2
    have z1d : w.heap.size < w1.drew.heap.size := z1
    go_region_with (first
      | (go_at_call 16; refine Calls.mono (at_any _ _ _ (by omega) (by omega)) ?_; rintro e _ ⟨rfl, rfl⟩)
      | (go_at_call 22; refine Calls.mono (cut_any _ _ _ _ (by omega) (by omega)) ?_; rintro e w2 ⟨rfl, hb⟩; obtain ⟨g1, g2, g3⟩ := keepB (b := w.heap.size) hb z1d; have k0 := g1 0 _ c0d; have k1 := g1 1 _ c1d; have k2 := g1 2 _ c2d; have l0 := g2 0 f0d; have l1 := g2 1 f1d; have l2 := g2 2 f2d; have hb2 : Below w.heap.size w w2 := hb1d.trans (hb.mono (Nat.le_of_lt z1d)); rw [← HL.out, ← HH.out]; clear hb g1 g2))
    all_goals (go_wp2_with fail; go_meet; refine ⟨by rw [HD.out], by rw [HA.out], by rw [HB.out], by simp [go_sem, *, HT.out], by simp [go_sem, *], by simp [go_sem, *], by simp; omega, ?_⟩; go_grown)
  case rest =>
    obtain ⟨rfl, rfl, rfl, c0, c1, c2, z0, hbw⟩ := hcut
    clear hb1
    go_wp2_with fail
    refine Calls.mono (moved_ok _ _ _ _ _ _ (by omega) (by omega) (by omega) (by omega) (by omega) (by omega)) ?_
    rintro e w2 ⟨rfl, hb⟩
    rw [K1.out]
    obtain ⟨hb2, hz2, hc2, hf2⟩ := took (w := w) (by repeat' (first | (with_reducible refine below_drewN ?_ _) | go_grown)) (by first | (simp only [World.size_alloc, World.size_setCell, World.size_drew, size_drewN]; done) | (simp only [World.size_alloc, World.size_setCell, World.size_drew, size_drewN]; rfl) | rfl) hb; clear hb
    have z2 : w.heap.size < w2.heap.size := by omega
    have c20 := hc2 w.heap.size 0 z0
    have c21 := hc2 w.heap.size 1 z0
    have c22 := hc2 w.heap.size 2 z0
    go_wp2_with fail
    refine Calls.mono (moved_ok _ _ _ _ _ _ (by omega) (by omega) (by omega) (by omega) (by omega) (by omega)) ?_
    rintro e w3 ⟨rfl, hb⟩
    rw [K2.out]
    obtain ⟨hb3, hz3, hc3, hf3⟩ := took (w := w) (by repeat' (first | (with_reducible refine below_drewN ?_ _) | go_grown)) (by first | (simp only [World.size_alloc, World.size_setCell, World.size_drew, size_drewN]; done) | (simp only [World.size_alloc, World.size_setCell, World.size_drew, size_drewN]; rfl) | rfl) hb; clear hb
    have z3 : w2.heap.size < w3.heap.size := by omega
    have z4 : w.heap.size < w3.heap.size := by omega
    go_wp2_with fail
    refine Calls.mono (moved_ok _ _ _ _ _ _ (by omega) (by omega) (by omega) (by omega) (by omega) (by omega)) ?_
    rintro e w4 ⟨rfl, hb⟩
    rw [K3.out]
    obtain ⟨hb4, hz4, hc4, hf4⟩ := took (w := w) (by repeat' (first | (with_reducible refine below_drewN ?_ _) | go_grown)) (by first | (simp only [World.size_alloc, World.size_setCell, World.size_drew, size_drewN]; done) | (simp only [World.size_alloc, World.size_setCell, World.size_drew, size_drewN]; rfl) | rfl) hb; clear hb
    have z5 : w3.heap.size < w4.heap.size := by omega
    go_wp2_with fail
    refine Calls.mono (holds_true _ _ _ _ _ (by omega) (by omega)) ?_
    rintro e w5 ⟨rfl, hb⟩
    obtain ⟨hb5, hz5, hc5, hf5⟩ := took (w := w) (by repeat' (first | (with_reducible refine below_drewN ?_ _) | go_grown)) (by first | (simp only [World.size_alloc, World.size_setCell, World.size_drew, size_drewN]; done) | (simp only [World.size_alloc, World.size_setCell, World.size_drew, size_drewN]; rfl) | rfl) hb; clear hb
    go_wp2_with fail
    go_returns
    exact ⟨rfl, by repeat' (first | (with_reducible refine below_drewN ?_ _) | go_grown)⟩

end Go.Proofs.Ytaemgglkdeklmaa
