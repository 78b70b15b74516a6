/- IntervalContains, the walk: results contain the results for numbers of the intervals. -/
import Derived.Test.YtocdboopmfgkpaaIntFacts
import Derived.Test.YtocdboopmfgkpaaIntDivs
import Derived.Deep.RegionWith
import Derived.Deep.RegionHeld3
import Derived.Deep.DeepCutAuto
namespace Go.Proofs.Ytocdboopmfgkpaa
open Go.RowKit
set_option linter.unusedSimpArgs false
set_option linter.unusedVariables false

set_option maxHeartbeats 1000000 in
theorem inside_any (lo hi k : Int) (w : World) (h1 : -1000000000 ≤ lo) (h2 : lo ≤ hi) (h3 : hi ≤ 1000000000) :
    Calls Try.prog 16 #[.agg #[.int .i64 lo, .int .i64 hi], .int .i64 k] w fun e w' => e = .returned (.int .i64 (lo + k % (hi - lo + 1))) ∧ Below w.heap.size w w' := by
  have e1 : 0 ≤ k % (hi - lo + 1) := Int.emod_nonneg _ (by omega)
  have e2 : k % (hi - lo + 1) < hi - lo + 1 := Int.emod_lt_of_pos _ (by omega)
  go_enter Try.func16, Try.ntmps16
  have u1 : IntKind.i64.wrap (hi - lo) = hi - lo := IntWalk.i64_in _ (by omega)
  have u2 : IntKind.i64.wrap (hi - lo + 1) = hi - lo + 1 := IntWalk.i64_in _ (by omega)
  have u3 : IntKind.i64.wrap (lo + k % (hi - lo + 1)) = lo + k % (hi - lo + 1) := IntWalk.i64_in _ (by omega)
  have Q := Lib.hid (fun w => at_any k (hi - lo + 1) w (by omega) (by omega))
  go_wp2_with fail
  go_quiet ((go_at_call 13; exact Calls.quiet_of_same ((Q.out _).mono fun e w' h => ⟨h.1, h.2.symm⟩)))
  go_wp2
  go_returns
  exact ⟨rfl, by repeat' (first | (with_reducible refine below_drewN ?_ _) | go_grown)⟩

/-- A number of an interval over a number of a positive one. -/
theorem quot_core {a b c d x y A : Int} (a1 : -A ≤ a) (a2 : a ≤ b) (a3 : b ≤ A) (hc : 1 ≤ c) (hcd : c ≤ d) (x1 : a ≤ x) (x2 : x ≤ b) (y1 : c ≤ y) (y2 : y ≤ d) :
    dLo a c d * y ≤ x ∧ x ≤ dHi b c d * y := by
  have hd : 1 ≤ d := by omega
  have l1 := Int.ediv_mul_le a (show c ≠ 0 by omega)
  have l2 := Int.ediv_mul_le a (show d ≠ 0 by omega)
  have u1 := upQ_ge (x := b) hc
  have u2 := upQ_ge (x := b) hd
  unfold dLo dHi
  simp only [Int.mul_one]
  constructor
  · by_cases ha : 0 ≤ a
    · rw [if_pos ha]
      have := Int.mul_le_mul_of_nonneg_left y2 (Int.ediv_nonneg ha (show 0 ≤ d by omega))
      omega
    · rw [if_neg ha]
      have p0 := Int.ediv_neg_of_neg_of_pos (show a < 0 by omega) (show 0 < c by omega)
      have := Int.mul_le_mul_of_nonpos_left (show a / c ≤ 0 by omega) y1
      omega
  · by_cases hb : b < 0
    · rw [if_pos hb]
      have q0 : upQ b d ≤ 0 := by
        have := upQ_mono hd (show b ≤ (0 : Int) by omega)
        have e : upQ 0 d = 0 := by unfold upQ; simp
        omega
      have := Int.mul_le_mul_of_nonpos_left q0 y2
      omega
    · rw [if_neg hb]
      have q0 : 0 ≤ upQ b c := by
        have := upQ_mono hc (show (0 : Int) ≤ b by omega)
        have e : upQ 0 c = 0 := by unfold upQ; simp
        omega
      have := Int.mul_le_mul_of_nonneg_left y1 q0
      omega

set_option maxRecDepth 100000 in
set_option maxHeartbeats 16000000 in
theorem intervalContains_walk (alo ahi blo bhi x0 y0 n0 : Int) (w : World) :
    Calls Try.prog 5 #[.agg #[.int .i64 alo, .int .i64 ahi], .agg #[.int .i64 blo, .int .i64 bhi], .int .i64 x0, .int .i64 y0, .int .i64 n0] w fun e w' => e = .returned (.bool true) ∧ Below w.heap.size w w' := by
  obtain ⟨a, hl0⟩ : ∃ d, d = min (alo.tmod (1000000000 + 1)) (ahi.tmod (1000000000 + 1)) := ⟨_, rfl⟩
  obtain ⟨b, hh0⟩ : ∃ d, d = max (alo.tmod (1000000000 + 1)) (ahi.tmod (1000000000 + 1)) := ⟨_, rfl⟩
  obtain ⟨a1, a2, a3⟩ := cut_bounds alo ahi 1000000000 (by omega)
  rw [← hl0] at a1 a2; rw [← hh0] at a2 a3
  have HL0 := Lib.hid hl0; have HH0 := Lib.hid hh0; clear hl0 hh0
  obtain ⟨c, hl1⟩ : ∃ d, d = min (blo.tmod (1000000000 + 1)) (bhi.tmod (1000000000 + 1)) := ⟨_, rfl⟩
  obtain ⟨d, hh1⟩ : ∃ d, d = max (blo.tmod (1000000000 + 1)) (bhi.tmod (1000000000 + 1)) := ⟨_, rfl⟩
  obtain ⟨c1, c2, c3⟩ := cut_bounds blo bhi 1000000000 (by omega)
  rw [← hl1] at c1 c2; rw [← hh1] at c2 c3
  have HL1 := Lib.hid hl1; have HH1 := Lib.hid hh1; clear hl1 hh1
  obtain ⟨n, hn⟩ : ∃ n, n = n0.tmod 1000 := ⟨_, rfl⟩
  have n1 : -1000 < n := by rw [hn]; exact Int.lt_tmod_of_pos n0 (by omega)
  have n2 : n < 1000 := by rw [hn]; exact Int.tmod_lt_of_pos n0 (by omega)
  have HN := Lib.hid hn; clear hn
  obtain ⟨x, hx⟩ : ∃ x, x = a + x0 % (b - a + 1) := ⟨_, rfl⟩
  have x1 : a ≤ x := by have := Int.emod_nonneg x0 (show b - a + 1 ≠ 0 by omega); omega
  have x2 : x ≤ b := by have := Int.emod_lt_of_pos x0 (show 0 < b - a + 1 by omega); omega
  obtain ⟨y, hy⟩ : ∃ y, y = c + y0 % (d - c + 1) := ⟨_, rfl⟩
  have y1 : c ≤ y := by have := Int.emod_nonneg y0 (show d - c + 1 ≠ 0 by omega); omega
  have y2 : y ≤ d := by have := Int.emod_lt_of_pos y0 (show 0 < d - c + 1 by omega); omega
  have HX := Lib.hid hx; have HY := Lib.hid hy; clear hx hy
  have ne0 : w.heap.size ≠ w.heap.size + 1 := by omega
  go_enter Try.func5, Try.ntmps5
  go_upto_region 3 with (go_at_call 8; refine Calls.mono (intervalWorks_ok _) ?_; rintro e w1 ⟨rfl, hb⟩; obtain ⟨hb1, hz1, hc1, hf1⟩ := took (w := w) (by repeat' (first | (with_reducible refine below_drewN ?_ _) | go_grown)) (by first | (simp only [World.size_alloc, World.size_setCell, World.size_drew, size_drewN]; done) | (simp only [World.size_alloc, World.size_setCell, World.size_drew, size_drewN]; rfl) | rfl) hb; clear hb)
  have z0p : w.heap.size < w1.drew.heap.size := by simp; omega
  have c00p : w1.drew.cell? ⟨w.heap.size, 0, none⟩ = some (.int .i64 alo) := by have q := hc1 (w.heap.size) 0 (by omega); simp [go_sem] at q; exact q
  have f00p : w1.drew.frozen? ⟨w.heap.size, 0, none⟩ = false := by have q := hf1 (w.heap.size) 0 (by omega); simp [go_sem] at q; exact q
  have c01p : w1.drew.cell? ⟨w.heap.size, 1, none⟩ = some (.int .i64 ahi) := by have q := hc1 (w.heap.size) 1 (by omega); simp [go_sem] at q; exact q
  have f01p : w1.drew.frozen? ⟨w.heap.size, 1, none⟩ = false := by have q := hf1 (w.heap.size) 1 (by omega); simp [go_sem] at q; exact q
  have z1p : (w.heap.size + 1) < w1.drew.heap.size := by simp; omega
  have c10p : w1.drew.cell? ⟨(w.heap.size + 1), 0, none⟩ = some (.int .i64 blo) := by have q := hc1 ((w.heap.size + 1)) 0 (by omega); simp [go_sem] at q; exact q
  have f10p : w1.drew.frozen? ⟨(w.heap.size + 1), 0, none⟩ = false := by have q := hf1 ((w.heap.size + 1)) 0 (by omega); simp [go_sem] at q; exact q
  have c11p : w1.drew.cell? ⟨(w.heap.size + 1), 1, none⟩ = some (.int .i64 bhi) := by have q := hc1 ((w.heap.size + 1)) 1 (by omega); simp [go_sem] at q; exact q
  have f11p : w1.drew.frozen? ⟨(w.heap.size + 1), 1, none⟩ = false := by have q := hf1 ((w.heap.size + 1)) 1 (by omega); simp [go_sem] at q; exact q
  have hbp : Below w.heap.size w w1.drew := hb1.drew
  clear hc1 hf1
  go_cut [4] (fun s4 wx => s4 = .int .i64 n ∧ wx.cell? ⟨w.heap.size, 0, none⟩ = some (.int .i64 a) ∧ wx.cell? ⟨w.heap.size, 1, none⟩ = some (.int .i64 b) ∧ w.heap.size < wx.heap.size ∧ wx.cell? ⟨(w.heap.size + 1), 0, none⟩ = some (.int .i64 c) ∧ wx.cell? ⟨(w.heap.size + 1), 1, none⟩ = some (.int .i64 d) ∧ (w.heap.size + 1) < wx.heap.size ∧ Below w.heap.size w wx)
  case first =>
    go_region_with (first
      | (go_at_call 9; refine Calls.mono (cut_any _ _ _ _ (by omega) (by omega)) ?_; rintro e wn0 ⟨rfl, hb⟩; obtain ⟨g1, g2, z0q⟩ := keepB hb z0p; have c00q := g1 0 _ c00p; have f00q := g2 0 f00p; have c01q := g1 1 _ c01p; have f01q := g2 1 f01p; clear g1 g2; obtain ⟨g1, g2, z1q⟩ := keepB hb z1p; have c10q := g1 0 _ c10p; have f10q := g2 0 f10p; have c11q := g1 1 _ c11p; have f11q := g2 1 f11p; clear g1 g2; have hbq := Below.trans hbp (hb.mono hbp.size); rw [← HL0.out, ← HH0.out]; clear hb)
      | (go_at_call 9; refine Calls.mono (cut_any _ _ _ _ (by omega) (by omega)) ?_; rintro e wn1 ⟨rfl, hb⟩; obtain ⟨g1, g2, z0r⟩ := keepB hb z0q; have c00r := g1 0 _ c00q; have f00r := g2 0 f00q; have c01r := g1 1 _ c01q; have f01r := g2 1 f01q; clear g1 g2; obtain ⟨g1, g2, z1r⟩ := keepB hb z1q; have c10r := g1 0 _ c10q; have f10r := g2 0 f10q; have c11r := g1 1 _ c11q; have f11r := g2 1 f11q; clear g1 g2; have hbr := Below.trans hbq (hb.mono hbq.size); rw [← HL1.out, ← HH1.out]; clear hb))
    all_goals (go_wp2_with fail; go_meet; exact ⟨by rw [HN.out], by simp [go_sem, *], by simp [go_sem, *], by simp; omega, by simp [go_sem, *], by simp [go_sem, *], by simp; omega, by go_grown⟩)
  case rest =>
    obtain ⟨rfl, b00, b01, bz0, b10, b11, bz1, hbc⟩ := hcut
    clear hb1 z0p c00p c01p f00p f01p z1p c10p c11p f10p f11p hbp
    go_wp2_with fail
    go_cut [2, 3] (fun s2 s3 wx => s2 = .int .i64 x ∧ s3 = .int .i64 y ∧ wx.cell? ⟨w.heap.size, 0, none⟩ = some (.int .i64 a) ∧ wx.cell? ⟨w.heap.size, 1, none⟩ = some (.int .i64 b) ∧ wx.cell? ⟨w.heap.size + 1, 0, none⟩ = some (.int .i64 c) ∧ wx.cell? ⟨w.heap.size + 1, 1, none⟩ = some (.int .i64 d) ∧ w.heap.size + 1 < wx.heap.size ∧ Below w.heap.size w wx)
    case first =>
      obtain ⟨X, hX⟩ : ∃ X, X = (wc).drew := ⟨_, rfl⟩
      have xX0 : X.cell? ⟨w.heap.size, 0, none⟩ = some (.int .i64 a) := by rw [hX]; simp [go_sem, *]
      have xX1 : X.cell? ⟨w.heap.size, 1, none⟩ = some (.int .i64 b) := by rw [hX]; simp [go_sem, *]
      have xX2 : X.cell? ⟨(w.heap.size + 1), 0, none⟩ = some (.int .i64 c) := by rw [hX]; simp [go_sem, *]
      have xX3 : X.cell? ⟨(w.heap.size + 1), 1, none⟩ = some (.int .i64 d) := by rw [hX]; simp [go_sem, *]
      have lX0 : w.heap.size < X.heap.size := by rw [hX]; simp; (try omega)
      have lX1 : (w.heap.size + 1) < X.heap.size := by rw [hX]; simp; (try omega)
      have bX : Below w.heap.size w X := by rw [hX]; exact (by repeat' (first | (with_reducible refine below_drewN ?_ _) | go_grown))
      have HxX0 := Lib.hid xX0
      have HxX1 := Lib.hid xX1
      have HxX2 := Lib.hid xX2
      have HxX3 := Lib.hid xX3
      have HlX0 := Lib.hid lX0
      have HlX1 := Lib.hid lX1
      have HbX := Lib.hid bX
      have HhX := Lib.hid hX
      clear xX0 xX1 xX2 xX3 lX0 lX1 bX hX
      go_region_held3 (fun w' => w'.cell? ⟨w.heap.size, 0, none⟩ = some (.int .i64 a) ∧ w'.cell? ⟨w.heap.size, 1, none⟩ = some (.int .i64 b) ∧ w'.cell? ⟨(w.heap.size + 1), 0, none⟩ = some (.int .i64 c) ∧ w'.cell? ⟨(w.heap.size + 1), 1, none⟩ = some (.int .i64 d) ∧ Below X.heap.size X w')
        (((try dsimp only); repeat' apply And.intro) <;> (first | (with_reducible assumption) | (go_split_ands; (with_reducible assumption)) | (rw [← HhX.out]; (first | exact Below.refl _ _ | exact HxX0.out | exact HxX1.out | exact HxX2.out | exact HxX3.out)) | go_keep))
        (first
          | (go_at_call 16; refine Calls.mono (inside_any _ _ _ _ (by omega) (by omega) (by omega)) ?_; rintro e wq ⟨rfl, hb⟩; go_split_ands; have qB : Below X.heap.size X wq := (bX_more (by with_reducible assumption) hb); have m0 := bX_oldc qB HlX0.out HxX0.out; have m1 := bX_oldc qB HlX0.out HxX1.out; have m2 := bX_oldc qB HlX1.out HxX2.out; have m3 := bX_oldc qB HlX1.out HxX3.out; clear hb))
      go_wp2_with fail
      go_meet
      go_split_ands
      exact ⟨by rw [HX.out], by rw [HY.out], by with_reducible assumption, by with_reducible assumption, by with_reducible assumption, by with_reducible assumption, bX_oldl (X := X) (by with_reducible assumption) HlX1.out, bX_back HbX.out (by with_reducible assumption)⟩
    case rest =>
      obtain ⟨rfl, rfl, b00, b01, b10, b11, bz1, hbc⟩ := hcut
      have bz0 : w.heap.size < wc.heap.size := by omega
      have i1 : IvOk a b := ⟨by omega, by omega, by omega⟩
      have i2 : IvOk c d := ⟨by omega, by omega, by omega⟩
      have jb := p_bounds (A := 1000000000) (C := 1000000000) a1 a2 a3 c1 c2 c3
      have jn := p_bounds (A := 1000000000) (C := 1000) a1 a2 a3 (show -1000 ≤ n by omega) (Int.le_refl n) (by omega)
      have pc := p_contains (x := x) (y := y) x1 x2 y1 y2
      have pn := p_contains (x := x) (y := n) x1 x2 (Int.le_refl n) (Int.le_refl n)
      have xy := mul_bound (A := 1000000000) (C := 1000000000) (show -1000000000 ≤ x by omega) (by omega) (show -1000000000 ≤ y by omega) (by omega)
      have xn := mul_bound (A := 1000000000) (C := 1000) (show -1000000000 ≤ x by omega) (by omega) (show -1000 ≤ n by omega) (by omega)
      have xy1 : -1000000000000000000 ≤ x * y := by omega
      have xy2 : x * y ≤ 1000000000000000000 := by omega
      have xn1 : -1000000000000 ≤ x * n := by omega
      have xn2 : x * n ≤ 1000000000000 := by omega
      have S1 := Lib.hid (fun w => add_ok a b c d w i1 i2 ⟨by omega, by omega, by omega⟩)
      have S2 := Lib.hid (fun w => sub_ok a b c d w i1 i2 ⟨by omega, by omega, by omega⟩)
      have S3 := Lib.hid (fun w => mul_ok a b c d w i1 i2 (mulOk_of (A := 1000000000) (C := 1000000000) a1 a2 a3 c1 c2 c3 (by omega)) ⟨by omega, by omega, by omega⟩)
      have S4 := Lib.hid (fun w => scale_okI a b n 1 w i1 (by omega) (by omega) (by omega) (mulOk_of (A := 1000000000) (C := 1000) a1 a2 a3 (show -1000 ≤ n by omega) (Int.le_refl n) (by omega) (by omega)) ⟨by omega, by omega, by omega⟩)
      have S5 := Lib.hid (fun w => holds_true (a + c) (b + d) (x + y) (x + y) w (by omega) (by omega))
      have S6 := Lib.hid (fun w => holds_true (a - d) (b - c) (x - y) (x - y) w (by omega) (by omega))
      have S7 := Lib.hid (fun w => holds_true (pLo a b c d 1) (pHi a b c d 1) (x * y) (x * y) w pc.1 pc.2)
      have S8 := Lib.hid (fun w => holds_true (pLo a b n n 1) (pHi a b n n 1) (x * n) (x * n) w pn.1 pn.2)
      clear jb jn pc pn xy xn
      by_cases hc : 1 ≤ c
      · have qc := quot_core (A := 1000000000) a1 a2 a3 hc c2 x1 x2 y1 y2
        have f3 := div_facts_pos (A := 1000000000) a1 a2 a3 hc c2
        obtain ⟨p, hp⟩ : ∃ p, p = dLo a c d := ⟨_, rfl⟩
        obtain ⟨q, hq⟩ : ∃ q, q = dHi b c d := ⟨_, rfl⟩
        have q3 := fun w => div_posI a b c d w i1 i2 hc
        rw [← hp, ← hq] at f3 q3 qc
        obtain ⟨h1, h2, h3, -, -⟩ := f3
        obtain ⟨q1, q2⟩ := qc
        have S9 := Lib.hid q3
        have m1 := mul_bound (A := 1000000000) (C := 1000000000) h1 (show p ≤ 1000000000 by omega) (show -1000000000 ≤ y by omega) (by omega)
        have m2 := mul_bound (A := 1000000000) (C := 1000000000) (show -1000000000 ≤ q by omega) h3 (show -1000000000 ≤ y by omega) (by omega)
        have m3 : -1000000000000000000 ≤ p * y := by omega
        have m4 : p * y ≤ 1000000000000000000 := by omega
        have m5 : -1000000000000000000 ≤ q * y := by omega
        have m6 : q * y ≤ 1000000000000000000 := by omega
        have yp : 0 < y := by omega
        clear q3 hp hq m1 m2 i1 i2
        go_wp2_with fail
        refine Calls.mono (S1.out _) ?_
        rintro e w2 ⟨rfl, hb⟩
        obtain ⟨hb2, hz2, hc2, hf2⟩ := took (w := w) (by repeat' (first | (with_reducible refine below_drewN ?_ _) | go_grown)) (by first | (simp only [World.size_alloc, World.size_setCell, World.size_drew, size_drewN]; done) | (simp only [World.size_alloc, World.size_setCell, World.size_drew, size_drewN]; rfl) | rfl) hb; clear hb
        have z2_0 : w.heap.size < w2.heap.size := by omega
        have z2_1 : w.heap.size + 1 < w2.heap.size := by omega
        go_wp2_with fail
        refine Calls.mono (S2.out _) ?_
        rintro e w3 ⟨rfl, hb⟩
        obtain ⟨hb3, hz3, hc3, hf3⟩ := took (w := w) (by repeat' (first | (with_reducible refine below_drewN ?_ _) | go_grown)) (by first | (simp only [World.size_alloc, World.size_setCell, World.size_drew, size_drewN]; done) | (simp only [World.size_alloc, World.size_setCell, World.size_drew, size_drewN]; rfl) | rfl) hb; clear hb
        have z3_0 : w.heap.size < w3.heap.size := by omega
        have z3_1 : w.heap.size + 1 < w3.heap.size := by omega
        have z3_2 : w2.heap.size < w3.heap.size := by omega
        go_wp2_with fail
        refine Calls.mono (S3.out _) ?_
        rintro e w4 ⟨rfl, hb⟩
        obtain ⟨hb4, hz4, hc4, hf4⟩ := took (w := w) (by repeat' (first | (with_reducible refine below_drewN ?_ _) | go_grown)) (by first | (simp only [World.size_alloc, World.size_setCell, World.size_drew, size_drewN]; done) | (simp only [World.size_alloc, World.size_setCell, World.size_drew, size_drewN]; rfl) | rfl) hb; clear hb
        have z4_0 : w.heap.size < w4.heap.size := by omega
        have z4_1 : w.heap.size + 1 < w4.heap.size := by omega
        have z4_2 : w2.heap.size < w4.heap.size := by omega
        have z4_3 : w3.heap.size < w4.heap.size := by omega
        go_wp2_with fail
        refine Calls.mono (S4.out _) ?_
        rintro e w5 ⟨rfl, hb⟩
        obtain ⟨hb5, hz5, hc5, hf5⟩ := took (w := w) (by repeat' (first | (with_reducible refine below_drewN ?_ _) | go_grown)) (by first | (simp only [World.size_alloc, World.size_setCell, World.size_drew, size_drewN]; done) | (simp only [World.size_alloc, World.size_setCell, World.size_drew, size_drewN]; rfl) | rfl) hb; clear hb
        have z5_0 : w.heap.size < w5.heap.size := by omega
        have z5_1 : w.heap.size + 1 < w5.heap.size := by omega
        have z5_2 : w2.heap.size < w5.heap.size := by omega
        have z5_3 : w3.heap.size < w5.heap.size := by omega
        have z5_4 : w4.heap.size < w5.heap.size := by omega
        go_wp2_with fail
        refine Calls.mono (S5.out _) ?_
        rintro e w6 ⟨rfl, hb⟩
        obtain ⟨hb6, hz6, hc6, hf6⟩ := took (w := w) (by repeat' (first | (with_reducible refine below_drewN ?_ _) | go_grown)) (by first | (simp only [World.size_alloc, World.size_setCell, World.size_drew, size_drewN]; done) | (simp only [World.size_alloc, World.size_setCell, World.size_drew, size_drewN]; rfl) | rfl) hb; clear hb
        have z6_0 : w.heap.size < w6.heap.size := by omega
        have z6_1 : w.heap.size + 1 < w6.heap.size := by omega
        have z6_2 : w2.heap.size < w6.heap.size := by omega
        have z6_3 : w3.heap.size < w6.heap.size := by omega
        have z6_4 : w4.heap.size < w6.heap.size := by omega
        have z6_5 : w5.heap.size < w6.heap.size := by omega
        go_wp2_with fail
        refine Calls.mono (S6.out _) ?_
        rintro e w7 ⟨rfl, hb⟩
        obtain ⟨hb7, hz7, hc7, hf7⟩ := took (w := w) (by repeat' (first | (with_reducible refine below_drewN ?_ _) | go_grown)) (by first | (simp only [World.size_alloc, World.size_setCell, World.size_drew, size_drewN]; done) | (simp only [World.size_alloc, World.size_setCell, World.size_drew, size_drewN]; rfl) | rfl) hb; clear hb
        have z7_0 : w.heap.size < w7.heap.size := by omega
        have z7_1 : w.heap.size + 1 < w7.heap.size := by omega
        have z7_2 : w2.heap.size < w7.heap.size := by omega
        have z7_3 : w3.heap.size < w7.heap.size := by omega
        have z7_4 : w4.heap.size < w7.heap.size := by omega
        have z7_5 : w5.heap.size < w7.heap.size := by omega
        go_wp2_with fail
        refine Calls.mono (S7.out _) ?_
        rintro e w8 ⟨rfl, hb⟩
        obtain ⟨hb8, hz8, hc8, hf8⟩ := took (w := w) (by repeat' (first | (with_reducible refine below_drewN ?_ _) | go_grown)) (by first | (simp only [World.size_alloc, World.size_setCell, World.size_drew, size_drewN]; done) | (simp only [World.size_alloc, World.size_setCell, World.size_drew, size_drewN]; rfl) | rfl) hb; clear hb
        have z8_0 : w.heap.size < w8.heap.size := by omega
        have z8_1 : w.heap.size + 1 < w8.heap.size := by omega
        have z8_2 : w2.heap.size < w8.heap.size := by omega
        have z8_3 : w3.heap.size < w8.heap.size := by omega
        have z8_4 : w4.heap.size < w8.heap.size := by omega
        have z8_5 : w5.heap.size < w8.heap.size := by omega
        go_wp2_with fail
        refine Calls.mono (S8.out _) ?_
        rintro e w9 ⟨rfl, hb⟩
        obtain ⟨hb9, hz9, hc9, hf9⟩ := took (w := w) (by repeat' (first | (with_reducible refine below_drewN ?_ _) | go_grown)) (by first | (simp only [World.size_alloc, World.size_setCell, World.size_drew, size_drewN]; done) | (simp only [World.size_alloc, World.size_setCell, World.size_drew, size_drewN]; rfl) | rfl) hb; clear hb
        have z9_0 : w.heap.size < w9.heap.size := by omega
        have z9_1 : w.heap.size + 1 < w9.heap.size := by omega
        have z9_2 : w2.heap.size < w9.heap.size := by omega
        have z9_3 : w3.heap.size < w9.heap.size := by omega
        have z9_4 : w4.heap.size < w9.heap.size := by omega
        have z9_5 : w5.heap.size < w9.heap.size := by omega
        go_wp2_with fail
        refine Calls.mono (S9.out _) ?_
        rintro e w10 ⟨rfl, hb⟩
        obtain ⟨hb10, hz10, hc10, hf10⟩ := took (w := w) (by repeat' (first | (with_reducible refine below_drewN ?_ _) | go_grown)) (by first | (simp only [World.size_alloc, World.size_setCell, World.size_drew, size_drewN]; done) | (simp only [World.size_alloc, World.size_setCell, World.size_drew, size_drewN]; rfl) | rfl) hb; clear hb
        have z10_0 : w.heap.size < w10.heap.size := by omega
        have z10_1 : w.heap.size + 1 < w10.heap.size := by omega
        have z10_2 : w2.heap.size < w10.heap.size := by omega
        have z10_3 : w3.heap.size < w10.heap.size := by omega
        have z10_4 : w4.heap.size < w10.heap.size := by omega
        have z10_5 : w5.heap.size < w10.heap.size := by omega
        go_wp2_with fail
        go_returns
        exact ⟨rfl, by repeat' (first | (with_reducible refine below_drewN ?_ _) | go_grown)⟩
      · by_cases hd : d ≤ -1
        · have qc := quot_core (A := 1000000000) (a := -b) (b := -a) (c := -d) (d := -c) (x := -x) (y := -y) (by omega) (by omega) (by omega) (by omega) (by omega) (by omega) (by omega) (by omega) (by omega)
          have f3 := div_facts_neg (A := 1000000000) a1 a2 a3 hd c2
          obtain ⟨p, hp⟩ : ∃ p, p = dLo (-b) (-d) (-c) := ⟨_, rfl⟩
          obtain ⟨q, hq⟩ : ∃ q, q = dHi (-a) (-d) (-c) := ⟨_, rfl⟩
          have q3 := fun w => div_negI a b c d w i1 i2 hd
          rw [← hp, ← hq] at f3 q3 qc
          simp only [Int.mul_neg] at qc
          obtain ⟨h1, h2, h3, -, -⟩ := f3
          obtain ⟨q1, q2⟩ := qc
          have q1' : x ≤ p * y := by omega
          have q2' : q * y ≤ x := by omega
          have S9 := Lib.hid q3
          have m1 := mul_bound (A := 1000000000) (C := 1000000000) h1 (show p ≤ 1000000000 by omega) (show -1000000000 ≤ y by omega) (by omega)
          have m2 := mul_bound (A := 1000000000) (C := 1000000000) (show -1000000000 ≤ q by omega) h3 (show -1000000000 ≤ y by omega) (by omega)
          have m3 : -1000000000000000000 ≤ p * y := by omega
          have m4 : p * y ≤ 1000000000000000000 := by omega
          have m5 : -1000000000000000000 ≤ q * y := by omega
          have m6 : q * y ≤ 1000000000000000000 := by omega
          have yp : y < 0 := by omega
          clear q3 hp hq m1 m2 i1 i2 q1 q2
          go_wp2_with fail
          refine Calls.mono (S1.out _) ?_
          rintro e w2 ⟨rfl, hb⟩
          obtain ⟨hb2, hz2, hc2, hf2⟩ := took (w := w) (by repeat' (first | (with_reducible refine below_drewN ?_ _) | go_grown)) (by first | (simp only [World.size_alloc, World.size_setCell, World.size_drew, size_drewN]; done) | (simp only [World.size_alloc, World.size_setCell, World.size_drew, size_drewN]; rfl) | rfl) hb; clear hb
          have z2_0 : w.heap.size < w2.heap.size := by omega
          have z2_1 : w.heap.size + 1 < w2.heap.size := by omega
          go_wp2_with fail
          refine Calls.mono (S2.out _) ?_
          rintro e w3 ⟨rfl, hb⟩
          obtain ⟨hb3, hz3, hc3, hf3⟩ := took (w := w) (by repeat' (first | (with_reducible refine below_drewN ?_ _) | go_grown)) (by first | (simp only [World.size_alloc, World.size_setCell, World.size_drew, size_drewN]; done) | (simp only [World.size_alloc, World.size_setCell, World.size_drew, size_drewN]; rfl) | rfl) hb; clear hb
          have z3_0 : w.heap.size < w3.heap.size := by omega
          have z3_1 : w.heap.size + 1 < w3.heap.size := by omega
          have z3_2 : w2.heap.size < w3.heap.size := by omega
          go_wp2_with fail
          refine Calls.mono (S3.out _) ?_
          rintro e w4 ⟨rfl, hb⟩
          obtain ⟨hb4, hz4, hc4, hf4⟩ := took (w := w) (by repeat' (first | (with_reducible refine below_drewN ?_ _) | go_grown)) (by first | (simp only [World.size_alloc, World.size_setCell, World.size_drew, size_drewN]; done) | (simp only [World.size_alloc, World.size_setCell, World.size_drew, size_drewN]; rfl) | rfl) hb; clear hb
          have z4_0 : w.heap.size < w4.heap.size := by omega
          have z4_1 : w.heap.size + 1 < w4.heap.size := by omega
          have z4_2 : w2.heap.size < w4.heap.size := by omega
          have z4_3 : w3.heap.size < w4.heap.size := by omega
          go_wp2_with fail
          refine Calls.mono (S4.out _) ?_
          rintro e w5 ⟨rfl, hb⟩
          obtain ⟨hb5, hz5, hc5, hf5⟩ := took (w := w) (by repeat' (first | (with_reducible refine below_drewN ?_ _) | go_grown)) (by first | (simp only [World.size_alloc, World.size_setCell, World.size_drew, size_drewN]; done) | (simp only [World.size_alloc, World.size_setCell, World.size_drew, size_drewN]; rfl) | rfl) hb; clear hb
          have z5_0 : w.heap.size < w5.heap.size := by omega
          have z5_1 : w.heap.size + 1 < w5.heap.size := by omega
          have z5_2 : w2.heap.size < w5.heap.size := by omega
          have z5_3 : w3.heap.size < w5.heap.size := by omega
          have z5_4 : w4.heap.size < w5.heap.size := by omega
          go_wp2_with fail
          refine Calls.mono (S5.out _) ?_
          rintro e w6 ⟨rfl, hb⟩
          obtain ⟨hb6, hz6, hc6, hf6⟩ := took (w := w) (by repeat' (first | (with_reducible refine below_drewN ?_ _) | go_grown)) (by first | (simp only [World.size_alloc, World.size_setCell, World.size_drew, size_drewN]; done) | (simp only [World.size_alloc, World.size_setCell, World.size_drew, size_drewN]; rfl) | rfl) hb; clear hb
          have z6_0 : w.heap.size < w6.heap.size := by omega
          have z6_1 : w.heap.size + 1 < w6.heap.size := by omega
          have z6_2 : w2.heap.size < w6.heap.size := by omega
          have z6_3 : w3.heap.size < w6.heap.size := by omega
          have z6_4 : w4.heap.size < w6.heap.size := by omega
          have z6_5 : w5.heap.size < w6.heap.size := by omega
          go_wp2_with fail
          refine Calls.mono (S6.out _) ?_
          rintro e w7 ⟨rfl, hb⟩
          obtain ⟨hb7, hz7, hc7, hf7⟩ := took (w := w) (by repeat' (first | (with_reducible refine below_drewN ?_ _) | go_grown)) (by first | (simp only [World.size_alloc, World.size_setCell, World.size_drew, size_drewN]; done) | (simp only [World.size_alloc, World.size_setCell, World.size_drew, size_drewN]; rfl) | rfl) hb; clear hb
          have z7_0 : w.heap.size < w7.heap.size := by omega
          have z7_1 : w.heap.size + 1 < w7.heap.size := by omega
          have z7_2 : w2.heap.size < w7.heap.size := by omega
          have z7_3 : w3.heap.size < w7.heap.size := by omega
          have z7_4 : w4.heap.size < w7.heap.size := by omega
          have z7_5 : w5.heap.size < w7.heap.size := by omega
          go_wp2_with fail
          refine Calls.mono (S7.out _) ?_
          rintro e w8 ⟨rfl, hb⟩
          obtain ⟨hb8, hz8, hc8, hf8⟩ := took (w := w) (by repeat' (first | (with_reducible refine below_drewN ?_ _) | go_grown)) (by first | (simp only [World.size_alloc, World.size_setCell, World.size_drew, size_drewN]; done) | (simp only [World.size_alloc, World.size_setCell, World.size_drew, size_drewN]; rfl) | rfl) hb; clear hb
          have z8_0 : w.heap.size < w8.heap.size := by omega
          have z8_1 : w.heap.size + 1 < w8.heap.size := by omega
          have z8_2 : w2.heap.size < w8.heap.size := by omega
          have z8_3 : w3.heap.size < w8.heap.size := by omega
          have z8_4 : w4.heap.size < w8.heap.size := by omega
          have z8_5 : w5.heap.size < w8.heap.size := by omega
          go_wp2_with fail
          refine Calls.mono (S8.out _) ?_
          rintro e w9 ⟨rfl, hb⟩
          obtain ⟨hb9, hz9, hc9, hf9⟩ := took (w := w) (by repeat' (first | (with_reducible refine below_drewN ?_ _) | go_grown)) (by first | (simp only [World.size_alloc, World.size_setCell, World.size_drew, size_drewN]; done) | (simp only [World.size_alloc, World.size_setCell, World.size_drew, size_drewN]; rfl) | rfl) hb; clear hb
          have z9_0 : w.heap.size < w9.heap.size := by omega
          have z9_1 : w.heap.size + 1 < w9.heap.size := by omega
          have z9_2 : w2.heap.size < w9.heap.size := by omega
          have z9_3 : w3.heap.size < w9.heap.size := by omega
          have z9_4 : w4.heap.size < w9.heap.size := by omega
          have z9_5 : w5.heap.size < w9.heap.size := by omega
          go_wp2_with fail
          refine Calls.mono (S9.out _) ?_
          rintro e w10 ⟨rfl, hb⟩
          obtain ⟨hb10, hz10, hc10, hf10⟩ := took (w := w) (by repeat' (first | (with_reducible refine below_drewN ?_ _) | go_grown)) (by first | (simp only [World.size_alloc, World.size_setCell, World.size_drew, size_drewN]; done) | (simp only [World.size_alloc, World.size_setCell, World.size_drew, size_drewN]; rfl) | rfl) hb; clear hb
          have z10_0 : w.heap.size < w10.heap.size := by omega
          have z10_1 : w.heap.size + 1 < w10.heap.size := by omega
          have z10_2 : w2.heap.size < w10.heap.size := by omega
          have z10_3 : w3.heap.size < w10.heap.size := by omega
          have z10_4 : w4.heap.size < w10.heap.size := by omega
          have z10_5 : w5.heap.size < w10.heap.size := by omega
          go_wp2_with fail
          go_returns
          exact ⟨rfl, by repeat' (first | (with_reducible refine below_drewN ?_ _) | go_grown)⟩
        · have S9 := Lib.hid (fun w => div_err a b c d w i1 i2 (by omega) (by omega))
          clear i1 i2
          go_wp2_with fail
          refine Calls.mono (S1.out _) ?_
          rintro e w2 ⟨rfl, hb⟩
          obtain ⟨hb2, hz2, hc2, hf2⟩ := took (w := w) (by repeat' (first | (with_reducible refine below_drewN ?_ _) | go_grown)) (by first | (simp only [World.size_alloc, World.size_setCell, World.size_drew, size_drewN]; done) | (simp only [World.size_alloc, World.size_setCell, World.size_drew, size_drewN]; rfl) | rfl) hb; clear hb
          have z2_0 : w.heap.size < w2.heap.size := by omega
          have z2_1 : w.heap.size + 1 < w2.heap.size := by omega
          go_wp2_with fail
          refine Calls.mono (S2.out _) ?_
          rintro e w3 ⟨rfl, hb⟩
          obtain ⟨hb3, hz3, hc3, hf3⟩ := took (w := w) (by repeat' (first | (with_reducible refine below_drewN ?_ _) | go_grown)) (by first | (simp only [World.size_alloc, World.size_setCell, World.size_drew, size_drewN]; done) | (simp only [World.size_alloc, World.size_setCell, World.size_drew, size_drewN]; rfl) | rfl) hb; clear hb
          have z3_0 : w.heap.size < w3.heap.size := by omega
          have z3_1 : w.heap.size + 1 < w3.heap.size := by omega
          have z3_2 : w2.heap.size < w3.heap.size := by omega
          go_wp2_with fail
          refine Calls.mono (S3.out _) ?_
          rintro e w4 ⟨rfl, hb⟩
          obtain ⟨hb4, hz4, hc4, hf4⟩ := took (w := w) (by repeat' (first | (with_reducible refine below_drewN ?_ _) | go_grown)) (by first | (simp only [World.size_alloc, World.size_setCell, World.size_drew, size_drewN]; done) | (simp only [World.size_alloc, World.size_setCell, World.size_drew, size_drewN]; rfl) | rfl) hb; clear hb
          have z4_0 : w.heap.size < w4.heap.size := by omega
          have z4_1 : w.heap.size + 1 < w4.heap.size := by omega
          have z4_2 : w2.heap.size < w4.heap.size := by omega
          have z4_3 : w3.heap.size < w4.heap.size := by omega
          go_wp2_with fail
          refine Calls.mono (S4.out _) ?_
          rintro e w5 ⟨rfl, hb⟩
          obtain ⟨hb5, hz5, hc5, hf5⟩ := took (w := w) (by repeat' (first | (with_reducible refine below_drewN ?_ _) | go_grown)) (by first | (simp only [World.size_alloc, World.size_setCell, World.size_drew, size_drewN]; done) | (simp only [World.size_alloc, World.size_setCell, World.size_drew, size_drewN]; rfl) | rfl) hb; clear hb
          have z5_0 : w.heap.size < w5.heap.size := by omega
          have z5_1 : w.heap.size + 1 < w5.heap.size := by omega
          have z5_2 : w2.heap.size < w5.heap.size := by omega
          have z5_3 : w3.heap.size < w5.heap.size := by omega
          have z5_4 : w4.heap.size < w5.heap.size := by omega
          go_wp2_with fail
          refine Calls.mono (S5.out _) ?_
          rintro e w6 ⟨rfl, hb⟩
          obtain ⟨hb6, hz6, hc6, hf6⟩ := took (w := w) (by repeat' (first | (with_reducible refine below_drewN ?_ _) | go_grown)) (by first | (simp only [World.size_alloc, World.size_setCell, World.size_drew, size_drewN]; done) | (simp only [World.size_alloc, World.size_setCell, World.size_drew, size_drewN]; rfl) | rfl) hb; clear hb
          have z6_0 : w.heap.size < w6.heap.size := by omega
          have z6_1 : w.heap.size + 1 < w6.heap.size := by omega
          have z6_2 : w2.heap.size < w6.heap.size := by omega
          have z6_3 : w3.heap.size < w6.heap.size := by omega
          have z6_4 : w4.heap.size < w6.heap.size := by omega
          have z6_5 : w5.heap.size < w6.heap.size := by omega
          go_wp2_with fail
          refine Calls.mono (S6.out _) ?_
          rintro e w7 ⟨rfl, hb⟩
          obtain ⟨hb7, hz7, hc7, hf7⟩ := took (w := w) (by repeat' (first | (with_reducible refine below_drewN ?_ _) | go_grown)) (by first | (simp only [World.size_alloc, World.size_setCell, World.size_drew, size_drewN]; done) | (simp only [World.size_alloc, World.size_setCell, World.size_drew, size_drewN]; rfl) | rfl) hb; clear hb
          have z7_0 : w.heap.size < w7.heap.size := by omega
          have z7_1 : w.heap.size + 1 < w7.heap.size := by omega
          have z7_2 : w2.heap.size < w7.heap.size := by omega
          have z7_3 : w3.heap.size < w7.heap.size := by omega
          have z7_4 : w4.heap.size < w7.heap.size := by omega
          have z7_5 : w5.heap.size < w7.heap.size := by omega
          go_wp2_with fail
          refine Calls.mono (S7.out _) ?_
          rintro e w8 ⟨rfl, hb⟩
          obtain ⟨hb8, hz8, hc8, hf8⟩ := took (w := w) (by repeat' (first | (with_reducible refine below_drewN ?_ _) | go_grown)) (by first | (simp only [World.size_alloc, World.size_setCell, World.size_drew, size_drewN]; done) | (simp only [World.size_alloc, World.size_setCell, World.size_drew, size_drewN]; rfl) | rfl) hb; clear hb
          have z8_0 : w.heap.size < w8.heap.size := by omega
          have z8_1 : w.heap.size + 1 < w8.heap.size := by omega
          have z8_2 : w2.heap.size < w8.heap.size := by omega
          have z8_3 : w3.heap.size < w8.heap.size := by omega
          have z8_4 : w4.heap.size < w8.heap.size := by omega
          have z8_5 : w5.heap.size < w8.heap.size := by omega
          go_wp2_with fail
          refine Calls.mono (S8.out _) ?_
          rintro e w9 ⟨rfl, hb⟩
          obtain ⟨hb9, hz9, hc9, hf9⟩ := took (w := w) (by repeat' (first | (with_reducible refine below_drewN ?_ _) | go_grown)) (by first | (simp only [World.size_alloc, World.size_setCell, World.size_drew, size_drewN]; done) | (simp only [World.size_alloc, World.size_setCell, World.size_drew, size_drewN]; rfl) | rfl) hb; clear hb
          have z9_0 : w.heap.size < w9.heap.size := by omega
          have z9_1 : w.heap.size + 1 < w9.heap.size := by omega
          have z9_2 : w2.heap.size < w9.heap.size := by omega
          have z9_3 : w3.heap.size < w9.heap.size := by omega
          have z9_4 : w4.heap.size < w9.heap.size := by omega
          have z9_5 : w5.heap.size < w9.heap.size := by omega
          go_wp2_with fail
          refine Calls.mono (S9.out _) ?_
          rintro e w10 ⟨rfl, hb⟩
          obtain ⟨hb10, hz10, hc10, hf10⟩ := took (w := w) (by repeat' (first | (with_reducible refine below_drewN ?_ _) | go_grown)) (by first | (simp only [World.size_alloc, World.size_setCell, World.size_drew, size_drewN]; done) | (simp only [World.size_alloc, World.size_setCell, World.size_drew, size_drewN]; rfl) | rfl) hb; clear hb
          have z10_0 : w.heap.size < w10.heap.size := by omega
          have z10_1 : w.heap.size + 1 < w10.heap.size := by omega
          have z10_2 : w2.heap.size < w10.heap.size := by omega
          have z10_3 : w3.heap.size < w10.heap.size := by omega
          have z10_4 : w4.heap.size < w10.heap.size := by omega
          have z10_5 : w5.heap.size < w10.heap.size := by omega
          go_wp2_with fail
          go_returns
          exact ⟨rfl, by repeat' (first | (with_reducible refine below_drewN ?_ _) | go_grown)⟩

end Go.Proofs.Ytocdboopmfgkpaa
