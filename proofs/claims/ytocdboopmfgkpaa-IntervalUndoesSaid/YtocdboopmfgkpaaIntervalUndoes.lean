/- IntervalUndoes, the walk: a quotient times the divisor, and a scaled interval scaled back, contain the interval. -/
import Derived.Test.YtocdboopmfgkpaaIntFacts
import Derived.Test.YtocdboopmfgkpaaIntDivs
import Derived.Deep.RegionWith
import Derived.Deep.DeepCutAuto
namespace Go.Proofs.Ytocdboopmfgkpaa
open Go.RowKit
set_option linter.unusedSimpArgs false
set_option linter.unusedVariables false

set_option maxRecDepth 100000 in
set_option maxHeartbeats 16000000 in
theorem intervalUndoes_walk (alo ahi blo bhi x y : Int) (w : World) :
    Calls Try.prog 4 #[.agg #[.int .i64 alo, .int .i64 ahi], .agg #[.int .i64 blo, .int .i64 bhi], .int .i64 x, .int .i64 y] w fun e w' => e = .returned (.bool true) ∧ Below w.heap.size w w' := by
  obtain ⟨a, hl0⟩ : ∃ d, d = min (alo.tmod (1000000000 + 1)) (ahi.tmod (1000000000 + 1)) := ⟨_, rfl⟩
  obtain ⟨b, hh0⟩ : ∃ d, d = max (alo.tmod (1000000000 + 1)) (ahi.tmod (1000000000 + 1)) := ⟨_, rfl⟩
  obtain ⟨a1, a2, a3⟩ := cut_bounds alo ahi 1000000000 (by omega)
  rw [← hl0] at a1 a2; rw [← hh0] at a2 a3
  have HL0 := Lib.hid hl0; have HH0 := Lib.hid hh0; clear hl0 hh0
  obtain ⟨c, hl1⟩ : ∃ d, d = min (blo.tmod (1000000 + 1)) (bhi.tmod (1000000 + 1)) := ⟨_, rfl⟩
  obtain ⟨d, hh1⟩ : ∃ d, d = max (blo.tmod (1000000 + 1)) (bhi.tmod (1000000 + 1)) := ⟨_, rfl⟩
  obtain ⟨c1, c2, c3⟩ := cut_bounds blo bhi 1000000 (by omega)
  rw [← hl1] at c1 c2; rw [← hh1] at c2 c3
  have HL1 := Lib.hid hl1; have HH1 := Lib.hid hh1; clear hl1 hh1
  obtain ⟨n, hn⟩ : ∃ n, n = 1 + x % 1000 := ⟨_, rfl⟩
  have n1 : 1 ≤ n := by omega
  have n2 : n ≤ 1000 := by omega
  obtain ⟨k, hk⟩ : ∃ n, n = 1 + y % 1000 := ⟨_, rfl⟩
  have k1 : 1 ≤ k := by omega
  have k2 : k ≤ 1000 := by omega
  have HN := Lib.hid hn; have HK := Lib.hid hk; clear hn hk
  have u1 : IntKind.i64.wrap (1 + x % 1000) = 1 + x % 1000 := IntWalk.i64_in _ (by omega)
  have u2 : IntKind.i64.wrap (1 + y % 1000) = 1 + y % 1000 := IntWalk.i64_in _ (by omega)
  have n0 : w.heap.size ≠ w.heap.size + 1 := by omega
  go_enter Try.func4, Try.ntmps4
  go_upto_region 3 with (go_at_call 8; refine Calls.mono (intervalWorks_ok _) ?_; rintro e w1 ⟨rfl, hb⟩; obtain ⟨hb1, hz1, hc1, hf1⟩ := took (w := w) (by repeat' (first | (with_reducible refine below_drewN ?_ _) | go_grown)) (by first | (simp only [World.size_alloc, World.size_setCell, World.size_drew, size_drewN]; done) | (simp only [World.size_alloc, World.size_setCell, World.size_drew, size_drewN]; rfl) | rfl) hb; clear hb)
  have z0p : w.heap.size < w1.drew.heap.size := by simp; omega
  have c00p : w1.drew.cell? ⟨w.heap.size, 0, none⟩ = some (.int .i64 alo) := by have q := hc1 (w.heap.size) 0 (by omega); simp [go_sem] at q; exact q
  have f00p : w1.drew.frozen? ⟨w.heap.size, 0, none⟩ = false := by have q := hf1 (w.heap.size) 0 (by omega); simp [go_sem] at q; exact q
  have c01p : w1.drew.cell? ⟨w.heap.size, 1, none⟩ = some (.int .i64 ahi) := by have q := hc1 (w.heap.size) 1 (by omega); simp [go_sem] at q; exact q
  have f01p : w1.drew.frozen? ⟨w.heap.size, 1, none⟩ = false := by have q := hf1 (w.heap.size) 1 (by omega); simp [go_sem] at q; exact q
  have z1p : (w.heap.size + 1) < w1.drew.heap.size := by simp; omega
  have c10p : w1.drew.cell? ⟨(w.heap.size + 1), 0, none⟩ = some (.int .i64 blo) := by have q := hc1 ((w.heap.size + 1)) 0 (by omega); simp [go_sem] at q; exact q
  have f10p : w1.drew.frozen? ⟨(w.heap.size + 1), 0, none⟩ = false := by have q := hf1 ((w.heap.size + 1)) 0 (by omega); simp [go_sem] at q; exact q
  have c11p : w1.drew.cell? ⟨(w.heap.size + 1), 1, none⟩ = some (.int .i64 bhi) := by have q := hc1 ((w.heap.size + 1)) 1 (by omega); simp [go_sem] at q; exact q
  have f11p : w1.drew.frozen? ⟨(w.heap.size + 1), 1, none⟩ = false := by have q := hf1 ((w.heap.size + 1)) 1 (by omega); simp [go_sem] at q; exact q
  have hbp : Below w.heap.size w w1.drew := hb1.drew
  clear hc1 hf1
  go_cut [2, 3] (fun s2 s3 wx => s2 = .int .i64 n ∧ s3 = .int .i64 k ∧ wx.cell? ⟨w.heap.size, 0, none⟩ = some (.int .i64 a) ∧ wx.cell? ⟨w.heap.size, 1, none⟩ = some (.int .i64 b) ∧ w.heap.size < wx.heap.size ∧ wx.cell? ⟨(w.heap.size + 1), 0, none⟩ = some (.int .i64 c) ∧ wx.cell? ⟨(w.heap.size + 1), 1, none⟩ = some (.int .i64 d) ∧ (w.heap.size + 1) < wx.heap.size ∧ Below w.heap.size w wx)
  case first =>
    go_region_with (first
      | (go_at_call 9; refine Calls.mono (cut_any _ _ _ _ (by omega) (by omega)) ?_; rintro e wn0 ⟨rfl, hb⟩; obtain ⟨g1, g2, z0q⟩ := keepB hb z0p; have c00q := g1 0 _ c00p; have f00q := g2 0 f00p; have c01q := g1 1 _ c01p; have f01q := g2 1 f01p; clear g1 g2; obtain ⟨g1, g2, z1q⟩ := keepB hb z1p; have c10q := g1 0 _ c10p; have f10q := g2 0 f10p; have c11q := g1 1 _ c11p; have f11q := g2 1 f11p; clear g1 g2; have hbq := Below.trans hbp (hb.mono hbp.size); rw [← HL0.out, ← HH0.out]; clear hb)
      | (go_at_call 9; refine Calls.mono (cut_any _ _ _ _ (by omega) (by omega)) ?_; rintro e wn1 ⟨rfl, hb⟩; obtain ⟨g1, g2, z0r⟩ := keepB hb z0q; have c00r := g1 0 _ c00q; have f00r := g2 0 f00q; have c01r := g1 1 _ c01q; have f01r := g2 1 f01q; clear g1 g2; obtain ⟨g1, g2, z1r⟩ := keepB hb z1q; have c10r := g1 0 _ c10q; have f10r := g2 0 f10q; have c11r := g1 1 _ c11q; have f11r := g2 1 f11q; clear g1 g2; have hbr := Below.trans hbq (hb.mono hbq.size); rw [← HL1.out, ← HH1.out]; clear hb)
      | (go_at_call 13; refine Calls.mono (at_any _ _ _ (by omega) (by omega)) ?_; rintro e _ ⟨rfl, rfl⟩))
    all_goals (go_wp2_with fail; go_meet; exact ⟨by rw [HN.out], by rw [HK.out], by simp [go_sem, *], by simp [go_sem, *], by simp; omega, by simp [go_sem, *], by simp [go_sem, *], by simp; omega, by go_grown⟩)
  case rest =>
    obtain ⟨rfl, rfl, b00, b01, bz0, b10, b11, bz1, hbc⟩ := hcut
    clear hb1 z0p c00p c01p f00p f01p z1p c10p c11p f10p f11p hbp
    have i1 : IvOk a b := ⟨by omega, by omega, by omega⟩
    have i2 : IvOk c d := ⟨by omega, by omega, by omega⟩
    obtain ⟨s, hs⟩ : ∃ s, s = pLo a b n n k := ⟨_, rfl⟩
    obtain ⟨t, ht⟩ : ∃ t, t = pHi a b n n k := ⟨_, rfl⟩
    have f1 := scale_facts a1 a2 a3 n1 n2 k1 k2
    rw [← hs, ← ht] at f1
    obtain ⟨g1, g2, g3, g4, g5⟩ := f1
    have i3 : IvOk s t := ⟨by omega, g2, by omega⟩
    have f2 := scale_back (a := a) (b := b) g1 g2 g3 g4 g5 n1 n2 k1 k2
    obtain ⟨u, hu⟩ : ∃ u, u = pLo s t k k n := ⟨_, rfl⟩
    obtain ⟨v, hv⟩ : ∃ v, v = pHi s t k k n := ⟨_, rfl⟩
    rw [← hu, ← hv] at f2
    obtain ⟨e1, e2, e3, e4, e5⟩ := f2
    have q1 := fun w => scale_okI a b n k w i1 (by omega) k1 (by omega) (mulOk_of (A := 1000000000) (C := 1000) a1 a2 a3 (by omega) (Int.le_refl _) n2 (by omega)) (by rw [← hs, ← ht]; exact i3)
    rw [← hs, ← ht] at q1
    have q2 := fun w => scale_okI s t k n w i3 (by omega) n1 (by omega) (mulOk_of (A := 1000000000001) (C := 1000) g1 g2 g3 (by omega) (Int.le_refl _) k2 (by omega)) (by rw [← hu, ← hv]; exact ⟨by omega, e2, by omega⟩)
    rw [← hu, ← hv] at q2
    have S1 := Lib.hid q1; have S2 := Lib.hid q2
    have S3 := Lib.hid (fun w => holds_true u v a b w e4 e5)
    clear q1 q2 hs ht hu hv
    by_cases hc : 1 ≤ c
    · have f3 := div_facts_pos (A := 1000000000) a1 a2 a3 hc c2
      obtain ⟨p, hp⟩ : ∃ p, p = dLo a c d := ⟨_, rfl⟩
      obtain ⟨q, hq⟩ : ∃ q, q = dHi b c d := ⟨_, rfl⟩
      rw [← hp, ← hq] at f3
      obtain ⟨h1, h2, h3, h4, h5⟩ := f3
      have q3 := fun w => div_posI a b c d w i1 i2 hc
      rw [← hp, ← hq] at q3
      have jb := p_bounds (A := 1000000000) (C := 1000000) h1 h2 h3 c1 c2 c3
      have S4 := Lib.hid q3
      have S5 := Lib.hid (fun w => mul_ok p q c d w ⟨by omega, h2, by omega⟩ i2 (mulOk_of (A := 1000000000) (C := 1000000) h1 h2 h3 c1 c2 c3 (by omega)) ⟨by omega, by omega, by omega⟩)
      have S6 := Lib.hid (fun w => holds_true (pLo p q c d 1) (pHi p q c d 1) a b w h4 h5)
      clear q3 hp hq jb h4 h5
      go_wp2_with fail
      refine Calls.mono (S1.out _) ?_
      rintro e w2 ⟨rfl, hb⟩
      obtain ⟨hb2, hz2, hc2, hf2⟩ := took (w := w) (by repeat' (first | (with_reducible refine below_drewN ?_ _) | go_grown)) (by first | (simp only [World.size_alloc, World.size_setCell, World.size_drew, size_drewN]; done) | (simp only [World.size_alloc, World.size_setCell, World.size_drew, size_drewN]; rfl) | rfl) hb; clear hb
      have z2_0 : w.heap.size < w2.heap.size := by omega
      have z2_1 : w.heap.size + 1 < w2.heap.size := by omega
      go_wp2_with fail
      refine Calls.mono (S2.out _) ?_
      rintro e w3 ⟨rfl, hb⟩
      obtain ⟨hb3, hz3, hc3, hf3⟩ := took (w := w) (by repeat' (first | (with_reducible refine below_drewN ?_ _) | go_grown)) (by first | (simp only [World.size_alloc, World.size_setCell, World.size_drew, size_drewN]; done) | (simp only [World.size_alloc, World.size_setCell, World.size_drew, size_drewN]; rfl) | rfl) hb; clear hb
      have z3_0 : w.heap.size < w3.heap.size := by omega
      have z3_1 : w.heap.size + 1 < w3.heap.size := by omega
      have z3_2 : w2.heap.size < w3.heap.size := by omega
      go_wp2_with fail
      refine Calls.mono (S3.out _) ?_
      rintro e w4 ⟨rfl, hb⟩
      obtain ⟨hb4, hz4, hc4, hf4⟩ := took (w := w) (by repeat' (first | (with_reducible refine below_drewN ?_ _) | go_grown)) (by first | (simp only [World.size_alloc, World.size_setCell, World.size_drew, size_drewN]; done) | (simp only [World.size_alloc, World.size_setCell, World.size_drew, size_drewN]; rfl) | rfl) hb; clear hb
      have z4_0 : w.heap.size < w4.heap.size := by omega
      have z4_1 : w.heap.size + 1 < w4.heap.size := by omega
      have z4_2 : w2.heap.size < w4.heap.size := by omega
      have z4_3 : w3.heap.size < w4.heap.size := by omega
      go_wp2_with fail
      refine Calls.mono (S4.out _) ?_
      rintro e w5 ⟨rfl, hb⟩
      obtain ⟨hb5, hz5, hc5, hf5⟩ := took (w := w) (by repeat' (first | (with_reducible refine below_drewN ?_ _) | go_grown)) (by first | (simp only [World.size_alloc, World.size_setCell, World.size_drew, size_drewN]; done) | (simp only [World.size_alloc, World.size_setCell, World.size_drew, size_drewN]; rfl) | rfl) hb; clear hb
      have z5_0 : w.heap.size < w5.heap.size := by omega
      have z5_1 : w.heap.size + 1 < w5.heap.size := by omega
      have z5_2 : w2.heap.size < w5.heap.size := by omega
      have z5_3 : w3.heap.size < w5.heap.size := by omega
      go_wp2_with fail
      refine Calls.mono (S5.out _) ?_
      rintro e w6 ⟨rfl, hb⟩
      obtain ⟨hb6, hz6, hc6, hf6⟩ := took (w := w) (by repeat' (first | (with_reducible refine below_drewN ?_ _) | go_grown)) (by first | (simp only [World.size_alloc, World.size_setCell, World.size_drew, size_drewN]; done) | (simp only [World.size_alloc, World.size_setCell, World.size_drew, size_drewN]; rfl) | rfl) hb; clear hb
      have z6_0 : w.heap.size < w6.heap.size := by omega
      have z6_1 : w.heap.size + 1 < w6.heap.size := by omega
      have z6_2 : w2.heap.size < w6.heap.size := by omega
      have z6_3 : w3.heap.size < w6.heap.size := by omega
      have z6_4 : w5.heap.size < w6.heap.size := by omega
      go_wp2_with fail
      refine Calls.mono (S6.out _) ?_
      rintro e w7 ⟨rfl, hb⟩
      obtain ⟨hb7, hz7, hc7, hf7⟩ := took (w := w) (by repeat' (first | (with_reducible refine below_drewN ?_ _) | go_grown)) (by first | (simp only [World.size_alloc, World.size_setCell, World.size_drew, size_drewN]; done) | (simp only [World.size_alloc, World.size_setCell, World.size_drew, size_drewN]; rfl) | rfl) hb; clear hb
      have z7_0 : w.heap.size < w7.heap.size := by omega
      have z7_1 : w.heap.size + 1 < w7.heap.size := by omega
      have z7_2 : w2.heap.size < w7.heap.size := by omega
      have z7_3 : w3.heap.size < w7.heap.size := by omega
      have z7_4 : w5.heap.size < w7.heap.size := by omega
      have z7_5 : w6.heap.size < w7.heap.size := by omega
      go_wp2_with fail
      go_returns
      exact ⟨rfl, by repeat' (first | (with_reducible refine below_drewN ?_ _) | go_grown)⟩
    · by_cases hd : d ≤ -1
      · have f3 := div_facts_neg (A := 1000000000) a1 a2 a3 hd c2
        obtain ⟨p, hp⟩ : ∃ p, p = dLo (-b) (-d) (-c) := ⟨_, rfl⟩
        obtain ⟨q, hq⟩ : ∃ q, q = dHi (-a) (-d) (-c) := ⟨_, rfl⟩
        rw [← hp, ← hq] at f3
        obtain ⟨h1, h2, h3, h4, h5⟩ := f3
        have q3 := fun w => div_negI a b c d w i1 i2 hd
        rw [← hp, ← hq] at q3
        have jb := p_bounds (A := 1000000000) (C := 1000000) h1 h2 h3 c1 c2 c3
        have S4 := Lib.hid q3
        have S5 := Lib.hid (fun w => mul_ok p q c d w ⟨by omega, h2, by omega⟩ i2 (mulOk_of (A := 1000000000) (C := 1000000) h1 h2 h3 c1 c2 c3 (by omega)) ⟨by omega, by omega, by omega⟩)
        have S6 := Lib.hid (fun w => holds_true (pLo p q c d 1) (pHi p q c d 1) a b w h4 h5)
        clear q3 hp hq jb h4 h5
        go_wp2_with fail
        refine Calls.mono (S1.out _) ?_
        rintro e w2 ⟨rfl, hb⟩
        obtain ⟨hb2, hz2, hc2, hf2⟩ := took (w := w) (by repeat' (first | (with_reducible refine below_drewN ?_ _) | go_grown)) (by first | (simp only [World.size_alloc, World.size_setCell, World.size_drew, size_drewN]; done) | (simp only [World.size_alloc, World.size_setCell, World.size_drew, size_drewN]; rfl) | rfl) hb; clear hb
        have z2_0 : w.heap.size < w2.heap.size := by omega
        have z2_1 : w.heap.size + 1 < w2.heap.size := by omega
        go_wp2_with fail
        refine Calls.mono (S2.out _) ?_
        rintro e w3 ⟨rfl, hb⟩
        obtain ⟨hb3, hz3, hc3, hf3⟩ := took (w := w) (by repeat' (first | (with_reducible refine below_drewN ?_ _) | go_grown)) (by first | (simp only [World.size_alloc, World.size_setCell, World.size_drew, size_drewN]; done) | (simp only [World.size_alloc, World.size_setCell, World.size_drew, size_drewN]; rfl) | rfl) hb; clear hb
        have z3_0 : w.heap.size < w3.heap.size := by omega
        have z3_1 : w.heap.size + 1 < w3.heap.size := by omega
        have z3_2 : w2.heap.size < w3.heap.size := by omega
        go_wp2_with fail
        refine Calls.mono (S3.out _) ?_
        rintro e w4 ⟨rfl, hb⟩
        obtain ⟨hb4, hz4, hc4, hf4⟩ := took (w := w) (by repeat' (first | (with_reducible refine below_drewN ?_ _) | go_grown)) (by first | (simp only [World.size_alloc, World.size_setCell, World.size_drew, size_drewN]; done) | (simp only [World.size_alloc, World.size_setCell, World.size_drew, size_drewN]; rfl) | rfl) hb; clear hb
        have z4_0 : w.heap.size < w4.heap.size := by omega
        have z4_1 : w.heap.size + 1 < w4.heap.size := by omega
        have z4_2 : w2.heap.size < w4.heap.size := by omega
        have z4_3 : w3.heap.size < w4.heap.size := by omega
        go_wp2_with fail
        refine Calls.mono (S4.out _) ?_
        rintro e w5 ⟨rfl, hb⟩
        obtain ⟨hb5, hz5, hc5, hf5⟩ := took (w := w) (by repeat' (first | (with_reducible refine below_drewN ?_ _) | go_grown)) (by first | (simp only [World.size_alloc, World.size_setCell, World.size_drew, size_drewN]; done) | (simp only [World.size_alloc, World.size_setCell, World.size_drew, size_drewN]; rfl) | rfl) hb; clear hb
        have z5_0 : w.heap.size < w5.heap.size := by omega
        have z5_1 : w.heap.size + 1 < w5.heap.size := by omega
        have z5_2 : w2.heap.size < w5.heap.size := by omega
        have z5_3 : w3.heap.size < w5.heap.size := by omega
        go_wp2_with fail
        refine Calls.mono (S5.out _) ?_
        rintro e w6 ⟨rfl, hb⟩
        obtain ⟨hb6, hz6, hc6, hf6⟩ := took (w := w) (by repeat' (first | (with_reducible refine below_drewN ?_ _) | go_grown)) (by first | (simp only [World.size_alloc, World.size_setCell, World.size_drew, size_drewN]; done) | (simp only [World.size_alloc, World.size_setCell, World.size_drew, size_drewN]; rfl) | rfl) hb; clear hb
        have z6_0 : w.heap.size < w6.heap.size := by omega
        have z6_1 : w.heap.size + 1 < w6.heap.size := by omega
        have z6_2 : w2.heap.size < w6.heap.size := by omega
        have z6_3 : w3.heap.size < w6.heap.size := by omega
        have z6_4 : w5.heap.size < w6.heap.size := by omega
        go_wp2_with fail
        refine Calls.mono (S6.out _) ?_
        rintro e w7 ⟨rfl, hb⟩
        obtain ⟨hb7, hz7, hc7, hf7⟩ := took (w := w) (by repeat' (first | (with_reducible refine below_drewN ?_ _) | go_grown)) (by first | (simp only [World.size_alloc, World.size_setCell, World.size_drew, size_drewN]; done) | (simp only [World.size_alloc, World.size_setCell, World.size_drew, size_drewN]; rfl) | rfl) hb; clear hb
        have z7_0 : w.heap.size < w7.heap.size := by omega
        have z7_1 : w.heap.size + 1 < w7.heap.size := by omega
        have z7_2 : w2.heap.size < w7.heap.size := by omega
        have z7_3 : w3.heap.size < w7.heap.size := by omega
        have z7_4 : w5.heap.size < w7.heap.size := by omega
        have z7_5 : w6.heap.size < w7.heap.size := by omega
        go_wp2_with fail
        go_returns
        exact ⟨rfl, by repeat' (first | (with_reducible refine below_drewN ?_ _) | go_grown)⟩
      · have d0 : c ≤ 0 := by omega
        have d1 : 0 ≤ d := by omega
        have S4 := Lib.hid (fun w => div_err a b c d w i1 i2 d0 d1)
        go_wp2_with fail
        refine Calls.mono (S1.out _) ?_
        rintro e w2 ⟨rfl, hb⟩
        obtain ⟨hb2, hz2, hc2, hf2⟩ := took (w := w) (by repeat' (first | (with_reducible refine below_drewN ?_ _) | go_grown)) (by first | (simp only [World.size_alloc, World.size_setCell, World.size_drew, size_drewN]; done) | (simp only [World.size_alloc, World.size_setCell, World.size_drew, size_drewN]; rfl) | rfl) hb; clear hb
        have z2_0 : w.heap.size < w2.heap.size := by omega
        have z2_1 : w.heap.size + 1 < w2.heap.size := by omega
        go_wp2_with fail
        refine Calls.mono (S2.out _) ?_
        rintro e w3 ⟨rfl, hb⟩
        obtain ⟨hb3, hz3, hc3, hf3⟩ := took (w := w) (by repeat' (first | (with_reducible refine below_drewN ?_ _) | go_grown)) (by first | (simp only [World.size_alloc, World.size_setCell, World.size_drew, size_drewN]; done) | (simp only [World.size_alloc, World.size_setCell, World.size_drew, size_drewN]; rfl) | rfl) hb; clear hb
        have z3_0 : w.heap.size < w3.heap.size := by omega
        have z3_1 : w.heap.size + 1 < w3.heap.size := by omega
        have z3_2 : w2.heap.size < w3.heap.size := by omega
        go_wp2_with fail
        refine Calls.mono (S3.out _) ?_
        rintro e w4 ⟨rfl, hb⟩
        obtain ⟨hb4, hz4, hc4, hf4⟩ := took (w := w) (by repeat' (first | (with_reducible refine below_drewN ?_ _) | go_grown)) (by first | (simp only [World.size_alloc, World.size_setCell, World.size_drew, size_drewN]; done) | (simp only [World.size_alloc, World.size_setCell, World.size_drew, size_drewN]; rfl) | rfl) hb; clear hb
        have z4_0 : w.heap.size < w4.heap.size := by omega
        have z4_1 : w.heap.size + 1 < w4.heap.size := by omega
        have z4_2 : w2.heap.size < w4.heap.size := by omega
        have z4_3 : w3.heap.size < w4.heap.size := by omega
        go_wp2_with fail
        refine Calls.mono (S4.out _) ?_
        rintro e w5 ⟨rfl, hb⟩
        obtain ⟨hb5, hz5, hc5, hf5⟩ := took (w := w) (by repeat' (first | (with_reducible refine below_drewN ?_ _) | go_grown)) (by first | (simp only [World.size_alloc, World.size_setCell, World.size_drew, size_drewN]; done) | (simp only [World.size_alloc, World.size_setCell, World.size_drew, size_drewN]; rfl) | rfl) hb; clear hb
        have z5_0 : w.heap.size < w5.heap.size := by omega
        have z5_1 : w.heap.size + 1 < w5.heap.size := by omega
        have z5_2 : w2.heap.size < w5.heap.size := by omega
        have z5_3 : w3.heap.size < w5.heap.size := by omega
        go_wp2_with fail
        go_returns
        exact ⟨rfl, by repeat' (first | (with_reducible refine below_drewN ?_ _) | go_grown)⟩

end Go.Proofs.Ytocdboopmfgkpaa
