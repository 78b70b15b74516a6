/- IntervalParts, the walk: the product of a part of an interval is a part of the product. -/
import Derived.Test.YtocdboopmfgkpaaIntFacts
import Derived.Deep.RegionWith
import Derived.Deep.DeepCutAuto
namespace Go.Proofs.Ytocdboopmfgkpaa
open Go.RowKit
set_option linter.unusedSimpArgs false
set_option linter.unusedVariables false

theorem p_sub {a b m n c d : Int} (h1 : a ≤ m) (h2 : m ≤ n) (h3 : n ≤ b) (g : c ≤ d) : pLo a b c d 1 ≤ pLo m n c d 1 ∧ pHi m n c d 1 ≤ pHi a b c d 1 := by
  have q1 := p_contains (a := a) (b := b) (c := c) (d := d) (x := m) (y := c) h1 (by omega) (by omega) g
  have q2 := p_contains (a := a) (b := b) (c := c) (d := d) (x := m) (y := d) h1 (by omega) g (by omega)
  have q3 := p_contains (a := a) (b := b) (c := c) (d := d) (x := n) (y := c) (by omega) h3 (by omega) g
  have q4 := p_contains (a := a) (b := b) (c := c) (d := d) (x := n) (y := d) (by omega) h3 g (by omega)
  rw [pLo_one m n, pHi_one m n]
  omega

set_option maxRecDepth 100000 in
set_option maxHeartbeats 16000000 in
theorem intervalParts_walk (alo ahi blo bhi clo chi : Int) (w : World) :
    Calls Try.prog 7 #[.agg #[.int .i64 alo, .int .i64 ahi], .agg #[.int .i64 blo, .int .i64 bhi], .agg #[.int .i64 clo, .int .i64 chi]] w fun e w' => e = .returned (.bool true) ∧ Below w.heap.size w w' := by
  obtain ⟨a, hl0⟩ : ∃ d, d = min (alo.tmod (1000000000 + 1)) (ahi.tmod (1000000000 + 1)) := ⟨_, rfl⟩
  obtain ⟨b, hh0⟩ : ∃ d, d = max (alo.tmod (1000000000 + 1)) (ahi.tmod (1000000000 + 1)) := ⟨_, rfl⟩
  obtain ⟨a1, a2, a3⟩ := cut_bounds alo ahi 1000000000 (by omega)
  rw [← hl0] at a1 a2; rw [← hh0] at a2 a3
  have HL0 := Lib.hid hl0; have HH0 := Lib.hid hh0; clear hl0 hh0
  obtain ⟨c, hl1⟩ : ∃ d, d = min (blo.tmod (1000000000 + 1)) (bhi.tmod (1000000000 + 1)) := ⟨_, rfl⟩
  obtain ⟨d, hh1⟩ : ∃ d, d = max (blo.tmod (1000000000 + 1)) (bhi.tmod (1000000000 + 1)) := ⟨_, rfl⟩
  obtain ⟨c1, c2, c3⟩ := cut_bounds blo bhi 1000000000 (by omega)
  rw [← hl1] at c1 c2; rw [← hh1] at c2 c3
  have HL1 := Lib.hid hl1; have HH1 := Lib.hid hh1; clear hl1 hh1
  obtain ⟨e, hl2⟩ : ∃ d, d = min (clo.tmod (1000000000 + 1)) (chi.tmod (1000000000 + 1)) := ⟨_, rfl⟩
  obtain ⟨f, hh2⟩ : ∃ d, d = max (clo.tmod (1000000000 + 1)) (chi.tmod (1000000000 + 1)) := ⟨_, rfl⟩
  obtain ⟨e1, e2, e3⟩ := cut_bounds clo chi 1000000000 (by omega)
  rw [← hl2] at e1 e2; rw [← hh2] at e2 e3
  have HL2 := Lib.hid hl2; have HH2 := Lib.hid hh2; clear hl2 hh2
  have n0 : w.heap.size ≠ w.heap.size + 1 := by omega
  have n1 : w.heap.size ≠ w.heap.size + 1 + 1 := by omega
  go_enter Try.func7, Try.ntmps7
  go_upto_region 3 with (go_at_call 8; refine Calls.mono (intervalWorks_ok _) ?_; rintro e w1 ⟨rfl, hb⟩; obtain ⟨hb1, hz1, hc1, hf1⟩ := took (w := w) (by repeat' (first | (with_reducible refine below_drewN ?_ _) | go_grown)) (by first | (simp only [World.size_alloc, World.size_setCell, World.size_drew, size_drewN]; done) | (simp only [World.size_alloc, World.size_setCell, World.size_drew, size_drewN]; rfl) | rfl) hb; clear hb)
  have z0p : w.heap.size < w1.drew.heap.size := by simp; omega
  have c00p : w1.drew.cell? ⟨w.heap.size, 0, none⟩ = some (.int .i64 alo) := by have q := hc1 (w.heap.size) 0 (by omega); simp [go_sem] at q; exact q
  have f00p : w1.drew.frozen? ⟨w.heap.size, 0, none⟩ = false := by have q := hf1 (w.heap.size) 0 (by omega); simp [go_sem] at q; exact q
  have c01p : w1.drew.cell? ⟨w.heap.size, 1, none⟩ = some (.int .i64 ahi) := by have q := hc1 (w.heap.size) 1 (by omega); simp [go_sem] at q; exact q
  have f01p : w1.drew.frozen? ⟨w.heap.size, 1, none⟩ = false := by have q := hf1 (w.heap.size) 1 (by omega); simp [go_sem] at q; exact q
  have z1p : (w.heap.size + 1) < w1.drew.heap.size := by simp; omega
  have c10p : w1.drew.cell? ⟨(w.heap.size + 1), 0, none⟩ = some (.int .i64 blo) := by have q := hc1 ((w.heap.size + 1)) 0 (by omega); simp [go_sem] at q; exact q
  have f10p : w1.drew.frozen? ⟨(w.heap.size + 1), 0, none⟩ = false := by have q := hf1 ((w.heap.size + 1)) 0 (by omega); simp [go_sem] at q; exact q
  have c11p : w1.drew.cell? ⟨(w.heap.size + 1), 1, none⟩ = some (.int .i64 bhi) := by have q := hc1 ((w.heap.size + 1)) 1 (by omega); simp [go_sem] at q; exact q
  have f11p : w1.drew.frozen? ⟨(w.heap.size + 1), 1, none⟩ = false := by have q := hf1 ((w.heap.size + 1)) 1 (by omega); simp [go_sem] at q; exact q
  have z2p : (w.heap.size + 1 + 1) < w1.drew.heap.size := by simp; omega
  have c20p : w1.drew.cell? ⟨(w.heap.size + 1 + 1), 0, none⟩ = some (.int .i64 clo) := by have q := hc1 ((w.heap.size + 1 + 1)) 0 (by omega); simp [go_sem] at q; exact q
  have f20p : w1.drew.frozen? ⟨(w.heap.size + 1 + 1), 0, none⟩ = false := by have q := hf1 ((w.heap.size + 1 + 1)) 0 (by omega); simp [go_sem] at q; exact q
  have c21p : w1.drew.cell? ⟨(w.heap.size + 1 + 1), 1, none⟩ = some (.int .i64 chi) := by have q := hc1 ((w.heap.size + 1 + 1)) 1 (by omega); simp [go_sem] at q; exact q
  have f21p : w1.drew.frozen? ⟨(w.heap.size + 1 + 1), 1, none⟩ = false := by have q := hf1 ((w.heap.size + 1 + 1)) 1 (by omega); simp [go_sem] at q; exact q
  have hbp : Below w.heap.size w w1.drew := hb1.drew
  clear hc1 hf1
  go_cut [] (fun wx => wx.cell? ⟨w.heap.size, 0, none⟩ = some (.int .i64 a) ∧ wx.cell? ⟨w.heap.size, 1, none⟩ = some (.int .i64 b) ∧ w.heap.size < wx.heap.size ∧ wx.cell? ⟨(w.heap.size + 1), 0, none⟩ = some (.int .i64 c) ∧ wx.cell? ⟨(w.heap.size + 1), 1, none⟩ = some (.int .i64 d) ∧ (w.heap.size + 1) < wx.heap.size ∧ wx.cell? ⟨(w.heap.size + 1 + 1), 0, none⟩ = some (.int .i64 e) ∧ wx.cell? ⟨(w.heap.size + 1 + 1), 1, none⟩ = some (.int .i64 f) ∧ (w.heap.size + 1 + 1) < wx.heap.size ∧ Below w.heap.size w wx)
  case first =>
    go_region_with (first
      | (go_at_call 9; refine Calls.mono (cut_any _ _ _ _ (by omega) (by omega)) ?_; rintro e wn0 ⟨rfl, hb⟩; obtain ⟨g1, g2, z0q⟩ := keepB hb z0p; have c00q := g1 0 _ c00p; have f00q := g2 0 f00p; have c01q := g1 1 _ c01p; have f01q := g2 1 f01p; clear g1 g2; obtain ⟨g1, g2, z1q⟩ := keepB hb z1p; have c10q := g1 0 _ c10p; have f10q := g2 0 f10p; have c11q := g1 1 _ c11p; have f11q := g2 1 f11p; clear g1 g2; obtain ⟨g1, g2, z2q⟩ := keepB hb z2p; have c20q := g1 0 _ c20p; have f20q := g2 0 f20p; have c21q := g1 1 _ c21p; have f21q := g2 1 f21p; clear g1 g2; have hbq := Below.trans hbp (hb.mono hbp.size); rw [← HL0.out, ← HH0.out]; clear hb)
      | (go_at_call 9; refine Calls.mono (cut_any _ _ _ _ (by omega) (by omega)) ?_; rintro e wn1 ⟨rfl, hb⟩; obtain ⟨g1, g2, z0r⟩ := keepB hb z0q; have c00r := g1 0 _ c00q; have f00r := g2 0 f00q; have c01r := g1 1 _ c01q; have f01r := g2 1 f01q; clear g1 g2; obtain ⟨g1, g2, z1r⟩ := keepB hb z1q; have c10r := g1 0 _ c10q; have f10r := g2 0 f10q; have c11r := g1 1 _ c11q; have f11r := g2 1 f11q; clear g1 g2; obtain ⟨g1, g2, z2r⟩ := keepB hb z2q; have c20r := g1 0 _ c20q; have f20r := g2 0 f20q; have c21r := g1 1 _ c21q; have f21r := g2 1 f21q; clear g1 g2; have hbr := Below.trans hbq (hb.mono hbq.size); rw [← HL1.out, ← HH1.out]; clear hb)
      | (go_at_call 9; refine Calls.mono (cut_any _ _ _ _ (by omega) (by omega)) ?_; rintro e wn2 ⟨rfl, hb⟩; obtain ⟨g1, g2, z0s⟩ := keepB hb z0r; have c00s := g1 0 _ c00r; have f00s := g2 0 f00r; have c01s := g1 1 _ c01r; have f01s := g2 1 f01r; clear g1 g2; obtain ⟨g1, g2, z1s⟩ := keepB hb z1r; have c10s := g1 0 _ c10r; have f10s := g2 0 f10r; have c11s := g1 1 _ c11r; have f11s := g2 1 f11r; clear g1 g2; obtain ⟨g1, g2, z2s⟩ := keepB hb z2r; have c20s := g1 0 _ c20r; have f20s := g2 0 f20r; have c21s := g1 1 _ c21r; have f21s := g2 1 f21r; clear g1 g2; have hbs := Below.trans hbr (hb.mono hbr.size); rw [← HL2.out, ← HH2.out]; clear hb))
    all_goals (go_wp2_with fail; go_meet; exact ⟨by simp [go_sem, *], by simp [go_sem, *], by simp; omega, by simp [go_sem, *], by simp [go_sem, *], by simp; omega, by simp [go_sem, *], by simp [go_sem, *], by simp; omega, by go_grown⟩)
  case rest =>
    obtain ⟨b00, b01, bz0, b10, b11, bz1, b20, b21, bz2, hbc⟩ := hcut
    clear hb1 z0p c00p c01p f00p f01p z1p c10p c11p f10p f11p z2p c20p c21p f20p f21p hbp
    have i1 : IvOk a b := ⟨by omega, by omega, by omega⟩
    have i2 : IvOk c d := ⟨by omega, by omega, by omega⟩
    have i3 : IvOk e f := ⟨by omega, by omega, by omega⟩
    by_cases hm : max a e ≤ min b f
    · obtain ⟨m, hm1⟩ : ∃ m, m = max a e := ⟨_, rfl⟩
      obtain ⟨n, hn1⟩ : ∃ n, n = min b f := ⟨_, rfl⟩
      have k1 : a ≤ m := by omega
      have k2 : m ≤ n := by omega
      have k3 : n ≤ b := by omega
      have i4 : IvOk m n := ⟨by omega, by omega, by omega⟩
      have ps := p_sub k1 k2 k3 c2
      have j1 := p_bounds (A := 1000000000) (C := 1000000000) a1 a2 a3 c1 c2 c3
      have j2 := p_bounds (A := 1000000000) (C := 1000000000) (show -1000000000 ≤ m by omega) k2 (show n ≤ 1000000000 by omega) c1 c2 c3
      have q1 := fun w => meet_ok a b e f w i1 i3 hm
      rw [← hm1, ← hn1] at q1
      have S1 := Lib.hid q1
      have S2 := Lib.hid (fun w => mul_ok m n c d w i4 i2 (mulOk_of (A := 1000000000) (C := 1000000000) (show -1000000000 ≤ m by omega) k2 (show n ≤ 1000000000 by omega) c1 c2 c3 (by omega)) ⟨by omega, by omega, by omega⟩)
      have S3 := Lib.hid (fun w => mul_ok a b c d w i1 i2 (mulOk_of (A := 1000000000) (C := 1000000000) a1 a2 a3 c1 c2 c3 (by omega)) ⟨by omega, by omega, by omega⟩)
      have q4 := fun w => hull_ok (pLo m n c d 1) (pHi m n c d 1) (pLo a b c d 1) (pHi a b c d 1) w ⟨by omega, by omega, by omega⟩ ⟨by omega, by omega, by omega⟩
      have r1 : min (pLo m n c d 1) (pLo a b c d 1) = pLo a b c d 1 := by omega
      have r2 : max (pHi m n c d 1) (pHi a b c d 1) = pHi a b c d 1 := by omega
      rw [r1, r2] at q4
      have S4 := Lib.hid q4
      have S5 := Lib.hid (fun w => holds_true a b m n w k1 k3)
      clear q1 q4 r1 r2 hm hm1 hn1 ps j1 j2 i1 i2 i3 i4 k1 k2 k3
      go_wp2_with fail
      refine Calls.mono (S1.out _) ?_
      rintro e w2 ⟨rfl, hb⟩
      obtain ⟨hb2, hz2, hc2, hf2⟩ := took (w := w) (by repeat' (first | (with_reducible refine below_drewN ?_ _) | go_grown)) (by first | (simp only [World.size_alloc, World.size_setCell, World.size_drew, size_drewN]; done) | (simp only [World.size_alloc, World.size_setCell, World.size_drew, size_drewN]; rfl) | rfl) hb; clear hb
      have z2_0 : w.heap.size < w2.heap.size := by omega
      have z2_1 : w.heap.size + 1 < w2.heap.size := by omega
      have z2_2 : w.heap.size + 1 + 1 < w2.heap.size := by omega
      go_wp2_with fail
      refine Calls.mono (S2.out _) ?_
      rintro e w3 ⟨rfl, hb⟩
      obtain ⟨hb3, hz3, hc3, hf3⟩ := took (w := w) (by repeat' (first | (with_reducible refine below_drewN ?_ _) | go_grown)) (by first | (simp only [World.size_alloc, World.size_setCell, World.size_drew, size_drewN]; done) | (simp only [World.size_alloc, World.size_setCell, World.size_drew, size_drewN]; rfl) | rfl) hb; clear hb
      have z3_0 : w.heap.size < w3.heap.size := by omega
      have z3_1 : w.heap.size + 1 < w3.heap.size := by omega
      have z3_2 : w.heap.size + 1 + 1 < w3.heap.size := by omega
      have z3_3 : w2.heap.size < w3.heap.size := by omega
      go_wp2_with fail
      refine Calls.mono (S3.out _) ?_
      rintro e w4 ⟨rfl, hb⟩
      obtain ⟨hb4, hz4, hc4, hf4⟩ := took (w := w) (by repeat' (first | (with_reducible refine below_drewN ?_ _) | go_grown)) (by first | (simp only [World.size_alloc, World.size_setCell, World.size_drew, size_drewN]; done) | (simp only [World.size_alloc, World.size_setCell, World.size_drew, size_drewN]; rfl) | rfl) hb; clear hb
      have z4_0 : w.heap.size < w4.heap.size := by omega
      have z4_1 : w.heap.size + 1 < w4.heap.size := by omega
      have z4_2 : w.heap.size + 1 + 1 < w4.heap.size := by omega
      have z4_3 : w2.heap.size < w4.heap.size := by omega
      have z4_4 : w3.heap.size < w4.heap.size := by omega
      go_wp2_with fail
      refine Calls.mono (S4.out _) ?_
      rintro e w5 ⟨rfl, hb⟩
      obtain ⟨hb5, hz5, hc5, hf5⟩ := took (w := w) (by repeat' (first | (with_reducible refine below_drewN ?_ _) | go_grown)) (by first | (simp only [World.size_alloc, World.size_setCell, World.size_drew, size_drewN]; done) | (simp only [World.size_alloc, World.size_setCell, World.size_drew, size_drewN]; rfl) | rfl) hb; clear hb
      have z5_0 : w.heap.size < w5.heap.size := by omega
      have z5_1 : w.heap.size + 1 < w5.heap.size := by omega
      have z5_2 : w.heap.size + 1 + 1 < w5.heap.size := by omega
      have z5_3 : w2.heap.size < w5.heap.size := by omega
      have z5_4 : w3.heap.size < w5.heap.size := by omega
      have z5_5 : w4.heap.size < w5.heap.size := by omega
      go_wp2_with fail
      refine Calls.mono (S5.out _) ?_
      rintro e w6 ⟨rfl, hb⟩
      obtain ⟨hb6, hz6, hc6, hf6⟩ := took (w := w) (by repeat' (first | (with_reducible refine below_drewN ?_ _) | go_grown)) (by first | (simp only [World.size_alloc, World.size_setCell, World.size_drew, size_drewN]; done) | (simp only [World.size_alloc, World.size_setCell, World.size_drew, size_drewN]; rfl) | rfl) hb; clear hb
      have z6_0 : w.heap.size < w6.heap.size := by omega
      have z6_1 : w.heap.size + 1 < w6.heap.size := by omega
      have z6_2 : w.heap.size + 1 + 1 < w6.heap.size := by omega
      have z6_3 : w2.heap.size < w6.heap.size := by omega
      have z6_4 : w3.heap.size < w6.heap.size := by omega
      have z6_5 : w4.heap.size < w6.heap.size := by omega
      have z6_6 : w5.heap.size < w6.heap.size := by omega
      go_wp2_with fail
      go_returns
      exact ⟨rfl, by repeat' (first | (with_reducible refine below_drewN ?_ _) | go_grown)⟩
    · have hm' : min b f < max a e := by omega
      have S1 := Lib.hid (fun w => meet_none a b e f w i1 i3 hm')
      have k1 : b < e ∨ f < a := by omega
      clear hm hm' i1 i2 i3
      go_wp2_with fail
      refine Calls.mono (S1.out _) ?_
      rintro e w2 ⟨rfl, hb⟩
      obtain ⟨hb2, hz2, hc2, hf2⟩ := took (w := w) (by repeat' (first | (with_reducible refine below_drewN ?_ _) | go_grown)) (by first | (simp only [World.size_alloc, World.size_setCell, World.size_drew, size_drewN]; done) | (simp only [World.size_alloc, World.size_setCell, World.size_drew, size_drewN]; rfl) | rfl) hb; clear hb
      have z2_0 : w.heap.size < w2.heap.size := by omega
      have z2_1 : w.heap.size + 1 < w2.heap.size := by omega
      have z2_2 : w.heap.size + 1 + 1 < w2.heap.size := by omega
      rcases k1 with k1 | k1
      all_goals (go_wp2_with fail)
      all_goals go_returns
      all_goals exact ⟨ret_bool (by first | rfl | (simp; done) | (simp; omega)), (by repeat' (first | (with_reducible refine below_drewN ?_ _) | go_grown))⟩

end Go.Proofs.Ytocdboopmfgkpaa
