/- IntervalOrders, the walk: the sign of a difference tells the order. -/
import Derived.Test.YtocdboopmfgkpaaIntWorks
import Derived.Deep.RegionWith
import Derived.Deep.DeepCutAuto
namespace Go.Proofs.Ytocdboopmfgkpaa
open Go.RowKit
set_option linter.unusedSimpArgs false
set_option linter.unusedVariables false

set_option maxRecDepth 100000 in
set_option maxHeartbeats 8000000 in
theorem intervalOrders_walk (alo ahi blo bhi : Int) (w : World) :
    Calls Try.prog 6 #[.agg #[.int .i64 alo, .int .i64 ahi], .agg #[.int .i64 blo, .int .i64 bhi]] w fun e w' => e = .returned (.bool true) ∧ Below w.heap.size w w' := by
  obtain ⟨a, hl0⟩ : ∃ d, d = min (alo.tmod (1000000000 + 1)) (ahi.tmod (1000000000 + 1)) := ⟨_, rfl⟩
  obtain ⟨b, hh0⟩ : ∃ d, d = max (alo.tmod (1000000000 + 1)) (ahi.tmod (1000000000 + 1)) := ⟨_, rfl⟩
  obtain ⟨a1, a2, a3⟩ := cut_bounds alo ahi 1000000000 (by omega)
  rw [← hl0] at a1 a2; rw [← hh0] at a2 a3
  have HL0 := Lib.hid hl0; have HH0 := Lib.hid hh0; clear hl0 hh0
  obtain ⟨c, hl1⟩ : ∃ d, d = min (blo.tmod (1000000000 + 1)) (bhi.tmod (1000000000 + 1)) := ⟨_, rfl⟩
  obtain ⟨d, hh1⟩ : ∃ d, d = max (blo.tmod (1000000000 + 1)) (bhi.tmod (1000000000 + 1)) := ⟨_, rfl⟩
  obtain ⟨c1, c2, c3⟩ := cut_bounds blo bhi 1000000000 (by omega)
  rw [← hl1] at c1 c2; rw [← hh1] at c2 c3
  have HL1 := Lib.hid hl1; have HH1 := Lib.hid hh1; clear hl1 hh1
  have n0 : w.heap.size ≠ w.heap.size + 1 := by omega
  go_enter Try.func6, Try.ntmps6
  go_upto_region 3 with (go_at_call 8; refine Calls.mono (intervalWorks_ok _) ?_; rintro e w1 ⟨rfl, hb⟩; obtain ⟨hb1, hz1, hc1, hf1⟩ := took (w := w) (by repeat' (first | (with_reducible refine below_drewN ?_ _) | go_grown)) (by first | (simp only [World.size_alloc, World.size_setCell, World.size_drew, size_drewN]; done) | (simp only [World.size_alloc, World.size_setCell, World.size_drew, size_drewN]; rfl) | rfl) hb; clear hb)
  have z0p : w.heap.size < w1.drew.heap.size := by simp; omega
  have c00p : w1.drew.cell? ⟨w.heap.size, 0, none⟩ = some (.int .i64 alo) := by have q := hc1 (w.heap.size) 0 (by omega); simp [go_sem] at q; exact q
  have f00p : w1.drew.frozen? ⟨w.heap.size, 0, none⟩ = false := by have q := hf1 (w.heap.size) 0 (by omega); simp [go_sem] at q; exact q
  have c01p : w1.drew.cell? ⟨w.heap.size, 1, none⟩ = some (.int .i64 ahi) := by have q := hc1 (w.heap.size) 1 (by omega); simp [go_sem] at q; exact q
  have f01p : w1.drew.frozen? ⟨w.heap.size, 1, none⟩ = false := by have q := hf1 (w.heap.size) 1 (by omega); simp [go_sem] at q; exact q
  have z1p : (w.heap.size + 1) < w1.drew.heap.size := by simp; omega
  have c10p : w1.drew.cell? ⟨(w.heap.size + 1), 0, none⟩ = some (.int .i64 blo) := by have q := hc1 ((w.heap.size + 1)) 0 (by omega); simp [go_sem] at q; exact q
  have f10p : w1.drew.frozen? ⟨(w.heap.size + 1), 0, none⟩ = false := by have q := hf1 ((w.heap.size + 1)) 0 (by omega); simp [go_sem] at q; exact q
  have c11p : w1.drew.cell? ⟨(w.heap.size + 1), 1, none⟩ = some (.int .i64 bhi) := by have q := hc1 ((w.heap.size + 1)) 1 (by omega); simp [go_sem] at q; exact q
  have f11p : w1.drew.frozen? ⟨(w.heap.size + 1), 1, none⟩ = false := by have q := hf1 ((w.heap.size + 1)) 1 (by omega); simp [go_sem] at q; exact q
  have hbp : Below w.heap.size w w1.drew := hb1.drew
  clear hc1 hf1
  go_cut [] (fun wx => wx.cell? ⟨w.heap.size, 0, none⟩ = some (.int .i64 a) ∧ wx.cell? ⟨w.heap.size, 1, none⟩ = some (.int .i64 b) ∧ w.heap.size < wx.heap.size ∧ wx.cell? ⟨(w.heap.size + 1), 0, none⟩ = some (.int .i64 c) ∧ wx.cell? ⟨(w.heap.size + 1), 1, none⟩ = some (.int .i64 d) ∧ (w.heap.size + 1) < wx.heap.size ∧ Below w.heap.size w wx)
  case first =>
    go_region_with (first
      | (go_at_call 9; refine Calls.mono (cut_any _ _ _ _ (by omega) (by omega)) ?_; rintro e wn0 ⟨rfl, hb⟩; obtain ⟨g1, g2, z0q⟩ := keepB hb z0p; have c00q := g1 0 _ c00p; have f00q := g2 0 f00p; have c01q := g1 1 _ c01p; have f01q := g2 1 f01p; clear g1 g2; obtain ⟨g1, g2, z1q⟩ := keepB hb z1p; have c10q := g1 0 _ c10p; have f10q := g2 0 f10p; have c11q := g1 1 _ c11p; have f11q := g2 1 f11p; clear g1 g2; have hbq := Below.trans hbp (hb.mono hbp.size); rw [← HL0.out, ← HH0.out]; clear hb)
      | (go_at_call 9; refine Calls.mono (cut_any _ _ _ _ (by omega) (by omega)) ?_; rintro e wn1 ⟨rfl, hb⟩; obtain ⟨g1, g2, z0r⟩ := keepB hb z0q; have c00r := g1 0 _ c00q; have f00r := g2 0 f00q; have c01r := g1 1 _ c01q; have f01r := g2 1 f01q; clear g1 g2; obtain ⟨g1, g2, z1r⟩ := keepB hb z1q; have c10r := g1 0 _ c10q; have f10r := g2 0 f10q; have c11r := g1 1 _ c11q; have f11r := g2 1 f11q; clear g1 g2; have hbr := Below.trans hbq (hb.mono hbq.size); rw [← HL1.out, ← HH1.out]; clear hb))
    all_goals (go_wp2_with fail; go_meet; exact ⟨by simp [go_sem, *], by simp [go_sem, *], by simp; omega, by simp [go_sem, *], by simp [go_sem, *], by simp; omega, by go_grown⟩)
  case rest =>
    obtain ⟨b00, b01, bz0, b10, b11, bz1, hbc⟩ := hcut
    clear hb1 z0p c00p c01p f00p f01p z1p c10p c11p f10p f11p hbp
    have S1 := Lib.hid (fun w => sub_ok a b c d w ⟨by omega, by omega, by omega⟩ ⟨by omega, by omega, by omega⟩ ⟨by omega, by omega, by omega⟩)
    have S2 := Lib.hid (fun w => sign_ok (a - d) (b - c) w ⟨by omega, by omega, by omega⟩)
    by_cases t1 : d < a
    · have e1 : signV (a - d) (b - c) = 1 := if_pos (by omega)
      have e2 : signE (a - d) (b - c) = 0 := if_pos (by omega)
      have E1 := Lib.hid e1; have E2 := Lib.hid e2; clear e1 e2
      go_wp2_with fail
      refine Calls.mono (S1.out _) ?_
      rintro e w2 ⟨rfl, hb⟩
      obtain ⟨hb2, hz2, hc2, hf2⟩ := took (w := w) (by repeat' (first | (with_reducible refine below_drewN ?_ _) | go_grown)) (by first | (simp only [World.size_alloc, World.size_setCell, World.size_drew, size_drewN]; done) | (simp only [World.size_alloc, World.size_setCell, World.size_drew, size_drewN]; rfl) | rfl) hb; clear hb
      have z2 : w.heap.size < w2.heap.size := by omega
      have z3 : w.heap.size + 1 < w2.heap.size := by omega
      have d00 := hc2 w.heap.size 0 (by omega)
      have d01 := hc2 w.heap.size 1 (by omega)
      have d10 := hc2 (w.heap.size + 1) 0 (by omega)
      have d11 := hc2 (w.heap.size + 1) 1 (by omega)
      rw [b00] at d00; rw [b01] at d01; rw [b10] at d10; rw [b11] at d11
      clear hc2 hf2
      go_wp2_with fail
      refine Calls.mono (S2.out _) ?_
      rintro e w3 ⟨rfl, hb⟩
      rw [E1.out, E2.out]
      obtain ⟨hb3, hz3, hc3, hf3⟩ := took (w := w) (by repeat' (first | (with_reducible refine below_drewN ?_ _) | go_grown)) (by first | (simp only [World.size_alloc, World.size_setCell, World.size_drew, size_drewN]; done) | (simp only [World.size_alloc, World.size_setCell, World.size_drew, size_drewN]; rfl) | rfl) hb; clear hb
      have z4 : w.heap.size < w3.heap.size := by omega
      have z5 : w.heap.size + 1 < w3.heap.size := by omega
      go_wp2_with fail
      go_returns
      exact ⟨rfl, by repeat' (first | (with_reducible refine below_drewN ?_ _) | go_grown)⟩
    · have t1' : a ≤ d := by omega
      clear t1
      by_cases t2 : b < c
      · have e1 : signV (a - d) (b - c) = -1 := by unfold signV; rw [if_neg (by omega), if_pos (by omega)]
        have e2 : signE (a - d) (b - c) = 0 := if_pos (by omega)
        have E1 := Lib.hid e1; have E2 := Lib.hid e2; clear e1 e2
        go_wp2_with fail
        refine Calls.mono (S1.out _) ?_
        rintro e w2 ⟨rfl, hb⟩
        obtain ⟨hb2, hz2, hc2, hf2⟩ := took (w := w) (by repeat' (first | (with_reducible refine below_drewN ?_ _) | go_grown)) (by first | (simp only [World.size_alloc, World.size_setCell, World.size_drew, size_drewN]; done) | (simp only [World.size_alloc, World.size_setCell, World.size_drew, size_drewN]; rfl) | rfl) hb; clear hb
        have z2 : w.heap.size < w2.heap.size := by omega
        have z3 : w.heap.size + 1 < w2.heap.size := by omega
        have d00 := hc2 w.heap.size 0 (by omega)
        have d01 := hc2 w.heap.size 1 (by omega)
        have d10 := hc2 (w.heap.size + 1) 0 (by omega)
        have d11 := hc2 (w.heap.size + 1) 1 (by omega)
        rw [b00] at d00; rw [b01] at d01; rw [b10] at d10; rw [b11] at d11
        clear hc2 hf2
        go_wp2_with fail
        refine Calls.mono (S2.out _) ?_
        rintro e w3 ⟨rfl, hb⟩
        rw [E1.out, E2.out]
        obtain ⟨hb3, hz3, hc3, hf3⟩ := took (w := w) (by repeat' (first | (with_reducible refine below_drewN ?_ _) | go_grown)) (by first | (simp only [World.size_alloc, World.size_setCell, World.size_drew, size_drewN]; done) | (simp only [World.size_alloc, World.size_setCell, World.size_drew, size_drewN]; rfl) | rfl) hb; clear hb
        have z4 : w.heap.size < w3.heap.size := by omega
        have z5 : w.heap.size + 1 < w3.heap.size := by omega
        go_wp2_with fail
        go_returns
        exact ⟨rfl, by repeat' (first | (with_reducible refine below_drewN ?_ _) | go_grown)⟩
      · have t2' : c ≤ b := by omega
        clear t2
        have e1 : signV (a - d) (b - c) = 0 := by unfold signV; rw [if_neg (by omega), if_neg (by omega)]
        have E1 := Lib.hid e1; clear e1
        go_wp2_with fail
        refine Calls.mono (S1.out _) ?_
        rintro e w2 ⟨rfl, hb⟩
        obtain ⟨hb2, hz2, hc2, hf2⟩ := took (w := w) (by repeat' (first | (with_reducible refine below_drewN ?_ _) | go_grown)) (by first | (simp only [World.size_alloc, World.size_setCell, World.size_drew, size_drewN]; done) | (simp only [World.size_alloc, World.size_setCell, World.size_drew, size_drewN]; rfl) | rfl) hb; clear hb
        have z2 : w.heap.size < w2.heap.size := by omega
        have z3 : w.heap.size + 1 < w2.heap.size := by omega
        have d00 := hc2 w.heap.size 0 (by omega)
        have d01 := hc2 w.heap.size 1 (by omega)
        have d10 := hc2 (w.heap.size + 1) 0 (by omega)
        have d11 := hc2 (w.heap.size + 1) 1 (by omega)
        rw [b00] at d00; rw [b01] at d01; rw [b10] at d10; rw [b11] at d11
        clear hc2 hf2
        go_wp2_with fail
        refine Calls.mono (S2.out _) ?_
        rintro e w3 ⟨rfl, hb⟩
        rw [E1.out]
        obtain ⟨hb3, hz3, hc3, hf3⟩ := took (w := w) (by repeat' (first | (with_reducible refine below_drewN ?_ _) | go_grown)) (by first | (simp only [World.size_alloc, World.size_setCell, World.size_drew, size_drewN]; done) | (simp only [World.size_alloc, World.size_setCell, World.size_drew, size_drewN]; rfl) | rfl) hb; clear hb
        have z4 : w.heap.size < w3.heap.size := by omega
        have z5 : w.heap.size + 1 < w3.heap.size := by omega
        go_wp2_with fail
        go_returns
        exact ⟨rfl, by repeat' (first | (with_reducible refine below_drewN ?_ _) | go_grown)⟩

end Go.Proofs.Ytocdboopmfgkpaa
