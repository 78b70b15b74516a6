/- sharpen: narrow, Season. -/
import Derived.Test.YtlldmhnkaopjhaaDoorSeasonsInOrder
namespace Go.Proofs.YtlldmhnkaopjhaaDoor
open Go.RowKit
set_option linter.unusedSimpArgs false
set_option linter.unusedVariables false
/-- What narrowing hands back: the interval and OK, or nothing and ErrOpen. -/
def shR (r : Int × Int) (width : Int) : Int × Int × Int := if r.2 - r.1 ≤ width then (r.1, r.2, 0) else (0, 0, 11)
set_option maxRecDepth 100000 in
set_option maxHeartbeats 8000000 in
theorem shNarrow_ok (g : Nat) (lb : Array Value) (eg : ∀ args w, (callFunc g args).run Tryd.prog w = .ok (.enter g args) w) (sd : Int → Int) (lo hi width : Int) (w : World) (hs : FnAt g lb (fun x => .int .i64 (sd x)) lo hi w) (b1 : -1000000000000000000 ≤ lo) (b2 : lo ≤ hi) (b3 : hi ≤ 1000000000000000000) (wd1 : 1 ≤ width) (wd2 : width ≤ 1000000000000000) :
    Calls Tryd.prog 50 #[.agg #[.int .i64 lo, .int .i64 hi], .int .i64 width, .func (.func g) #[] lb] w fun e w' => e = .returned (.tuple #[.agg #[.int .i64 (shR (nrwF sd width 64 lo hi) width).1, .int .i64 (shR (nrwF sd width 64 lo hi) width).2.1], .int .i64 (shR (nrwF sd width 64 lo hi) width).2.2]) ∧ Below w.heap.size w w' := by
  have N := Lib.hid (fun W (h : Below w.heap.size w W) => narrow_ok g lb eg sd lo hi width W (hs.later (Int.le_refl _) (Int.le_refl _) h) b1 b2 b3 wd1 wd2)
  unfold shR
  generalize (nrwF sd width 64 lo hi).1 = r1 at *
  generalize (nrwF sd width 64 lo hi).2 = r2 at *
  clear hs
  by_cases c : r2 - r1 ≤ width
  · simp only [if_pos c, decide_eq_true c] at N ⊢
    clear c
    go_enter Tryd.func50, Tryd.ntmps50
    have HB := Lib.hid (Below.refl w.heap.size w)
    obtain ⟨k1, hk1⟩ : ∃ x, x = w.heap.size := ⟨_, rfl⟩
    have he2 : (w.alloc (.cells #[.int .i64 (lo), .int .i64 (hi)] 24)).heap.size = k1 + 1 := by simp [hk1]
    have s1 := (SpBox.new w (lo) (hi)).alloc (.cells #[.int .i64 (0), .int .i64 (0)] 24)
    rw [← hk1] at s1
    have Hkl1 := Lib.hid (show w.heap.size ≤ k1 by rw [hk1]; omega)
    have s2 := SpBox.new (w.alloc (.cells #[.int .i64 (lo), .int .i64 (hi)] 24)) (0) (0)
    rw [he2] at s2
    have Hkl2 := Lib.hid (show w.heap.size ≤ k1 + 1 by rw [hk1]; omega)
    go_upto_region 1 with fail
    (try rw [he2])
    rw [← hk1]
    obtain ⟨k2, hk2⟩ : ∃ x, x = k1 + 1 := ⟨_, rfl⟩
    rw [← hk2] at s2 Hkl2
    (try rw [← hk2])
    have Hd2_1 := Lib.hid (show k1 < k2 by omega)
    clear hk2
    have HBn := show Below w.heap.size w ((w.alloc (.cells #[.int .i64 (lo), .int .i64 (hi)] 24)).alloc (.cells #[.int .i64 (0), .int .i64 (0)] 24)) from (by repeat' (first | (with_reducible refine below_drewN ?_ _) | go_grown))
    obtain ⟨X2, hX2⟩ : ∃ X, X = ((w.alloc (.cells #[.int .i64 (lo), .int .i64 (hi)] 24)).alloc (.cells #[.int .i64 (0), .int .i64 (0)] 24)) := ⟨_, rfl⟩
    rw [← hX2] at s1 s2 HBn ⊢
    clear hX2 he2 HB
    replace s1 := Lib.hid s1
    replace s2 := Lib.hid s2
    have HB := Lib.hid HBn; have HK1 := Lib.hid hk1; clear HBn hk1
    have sc1_0 := s1.out.c0; have sc1_1 := s1.out.c1; have sc1_l := s1.out.lt
    go_wp2_with fail
    refine Calls.mono (N.out _ HB.out) ?_
    rintro e wn3 ⟨rfl, hb⟩
    replace s1 := Lib.hid ((s1.out.below hb).alloc (.cells #[.int .i64 (r1), .int .i64 (r2)] 24))
    replace s2 := Lib.hid ((s2.out.below hb).alloc (.cells #[.int .i64 (r1), .int .i64 (r2)] 24))
    have HB3 := HB.out.trans (hb.mono HB.out.size)
    clear sc1_0 sc1_1 sc1_l
    clear hb
    have Hkl3 := Lib.hid HB3.size; replace HB := Lib.hid (HB3.alloc HB3.size (.cells #[.int .i64 (r1), .int .i64 (r2)] 24))
    clear HB3
    have s3 := Lib.hid (SpBox.new wn3 (r1) (r2))
    obtain ⟨k3, hk3⟩ : ∃ x, x = wn3.heap.size := ⟨_, rfl⟩
    rw [← hk3] at s3 Hkl3
    go_upto_region 4 with fail
    rw [← hk3]
    obtain ⟨X3, hX3⟩ : ∃ X, X = wn3.alloc (.cells #[.int .i64 (r1), .int .i64 (r2)] 24) := ⟨_, rfl⟩
    rw [← hX3] at s1 s2 s3 HB ⊢
    clear hk3 hX3
    have c2_0 := s2.out.c0; have c2_1 := s2.out.c1; have c2_f := s2.out.free 0; have c2_g := s2.out.free 1; have c2_l := s2.out.lt; have c2_k := Hkl2.out
    have c3_0 := s3.out.c0; have c3_1 := s3.out.c1; have c3_f := s3.out.free 0; have c3_g := s3.out.free 1; have c3_l := s3.out.lt; have c3_k := Hkl3.out
    go_wp2_with fail
    refine bodyPost_ret (v := .tuple #[.agg #[.int .i64 r1, .int .i64 r2], .int .i64 0]) ?_ rfl ⟨rfl, ?_⟩
    · simp [results, Tryd.results50, go_sem, *]
    · exact (HB.out.setCell (p := ⟨k2, 0, none⟩) c2_k _).setCell (p := ⟨k2, 1, none⟩) c2_k _
  · simp only [if_neg c, decide_eq_false c] at N ⊢
    clear c
    go_enter Tryd.func50, Tryd.ntmps50
    have HB := Lib.hid (Below.refl w.heap.size w)
    obtain ⟨k1, hk1⟩ : ∃ x, x = w.heap.size := ⟨_, rfl⟩
    have he2 : (w.alloc (.cells #[.int .i64 (lo), .int .i64 (hi)] 24)).heap.size = k1 + 1 := by simp [hk1]
    have s1 := (SpBox.new w (lo) (hi)).alloc (.cells #[.int .i64 (0), .int .i64 (0)] 24)
    rw [← hk1] at s1
    have Hkl1 := Lib.hid (show w.heap.size ≤ k1 by rw [hk1]; omega)
    have s2 := SpBox.new (w.alloc (.cells #[.int .i64 (lo), .int .i64 (hi)] 24)) (0) (0)
    rw [he2] at s2
    have Hkl2 := Lib.hid (show w.heap.size ≤ k1 + 1 by rw [hk1]; omega)
    go_upto_region 1 with fail
    (try rw [he2])
    rw [← hk1]
    obtain ⟨k2, hk2⟩ : ∃ x, x = k1 + 1 := ⟨_, rfl⟩
    rw [← hk2] at s2 Hkl2
    (try rw [← hk2])
    have Hd2_1 := Lib.hid (show k1 < k2 by omega)
    clear hk2
    have HBn := show Below w.heap.size w ((w.alloc (.cells #[.int .i64 (lo), .int .i64 (hi)] 24)).alloc (.cells #[.int .i64 (0), .int .i64 (0)] 24)) from (by repeat' (first | (with_reducible refine below_drewN ?_ _) | go_grown))
    obtain ⟨X2, hX2⟩ : ∃ X, X = ((w.alloc (.cells #[.int .i64 (lo), .int .i64 (hi)] 24)).alloc (.cells #[.int .i64 (0), .int .i64 (0)] 24)) := ⟨_, rfl⟩
    rw [← hX2] at s1 s2 HBn ⊢
    clear hX2 he2 HB
    replace s1 := Lib.hid s1
    replace s2 := Lib.hid s2
    have HB := Lib.hid HBn; have HK1 := Lib.hid hk1; clear HBn hk1
    have sc1_0 := s1.out.c0; have sc1_1 := s1.out.c1; have sc1_l := s1.out.lt
    go_wp2_with fail
    refine Calls.mono (N.out _ HB.out) ?_
    rintro e wn3 ⟨rfl, hb⟩
    replace s1 := Lib.hid ((s1.out.below hb).alloc (.cells #[.int .i64 (r1), .int .i64 (r2)] 24))
    replace s2 := Lib.hid ((s2.out.below hb).alloc (.cells #[.int .i64 (r1), .int .i64 (r2)] 24))
    have HB3 := HB.out.trans (hb.mono HB.out.size)
    clear sc1_0 sc1_1 sc1_l
    clear hb
    have Hkl3 := Lib.hid HB3.size; replace HB := Lib.hid (HB3.alloc HB3.size (.cells #[.int .i64 (r1), .int .i64 (r2)] 24))
    clear HB3
    have s3 := Lib.hid (SpBox.new wn3 (r1) (r2))
    obtain ⟨k3, hk3⟩ : ∃ x, x = wn3.heap.size := ⟨_, rfl⟩
    rw [← hk3] at s3 Hkl3
    go_upto_region 4 with fail
    rw [← hk3]
    obtain ⟨X3, hX3⟩ : ∃ X, X = wn3.alloc (.cells #[.int .i64 (r1), .int .i64 (r2)] 24) := ⟨_, rfl⟩
    rw [← hX3] at s1 s2 s3 HB ⊢
    clear hk3 hX3
    have c2_0 := s2.out.c0; have c2_1 := s2.out.c1; have c2_f := s2.out.free 0; have c2_g := s2.out.free 1; have c2_l := s2.out.lt; have c2_k := Hkl2.out
    have c3_0 := s3.out.c0; have c3_1 := s3.out.c1; have c3_f := s3.out.free 0; have c3_g := s3.out.free 1; have c3_l := s3.out.lt; have c3_k := Hkl3.out
    go_wp2_with fail
    refine bodyPost_ret (v := .tuple #[.agg #[.int .i64 0, .int .i64 0], .int .i64 11]) ?_ rfl ⟨rfl, ?_⟩
    · simp [results, Tryd.results50, go_sem, *]
    · exact (HB.out.setCell (p := ⟨k2, 0, none⟩) c2_k _).setCell (p := ⟨k2, 1, none⟩) c2_k _
theorem enSS : ∀ args w, (callFunc 51 args).run Tryd.prog w = .ok (.enter 51 args) w := enters_of Tryd.func51 (by kernel_rfl) rfl
set_option maxRecDepth 100000 in
set_option maxHeartbeats 4000000 in
theorem shSeSide_ok (q : Int) (hq : 0 ≤ q ∧ q ≤ 3) (lo hi : Int) (b : Nat) (w : World) (hT : SinT w) (hin : ∀ x, lo ≤ x → x ≤ hi → instOk x = true) (hb : IntBox w b q) :
    FnAt 51 #[.pointer (some ⟨b, 0, none⟩)] (fun x => .int .i64 (seSd (250000000 * q) x)) lo hi w := by
  intro W x h1 h2 hbl
  show Calls Tryd.prog 51 #[.int .i64 x, .pointer (some ⟨b, 0, none⟩)] W fun e w' => e = .returned (.int .i64 (seSd (250000000 * q) x)) ∧ Below W.heap.size W w'
  have E := Lib.hid (sunLong_ok x W (hT.below hbl) (hin x h1 h2))
  have bd : 0 ≤ slLo x ∧ slLo x < 1000000000 ∧ slLo x ≤ slHi x ∧ slHi x ≤ 130000000000 := an_bd sun_in
  have S := fun w => Side_ok (slLo x) (slHi x) (250000000 * q) w bd.1 bd.2.1 bd.2.2.1 (by omega) (by omega) (by omega)
  have eS : sideF (slLo x) (slHi x) (250000000 * q) = seSd (250000000 * q) x := rfl
  rw [eS] at S
  have HI := Lib.hid (hb.below hbl)
  generalize seSd (250000000 * q) x = sd at *
  clear eS bd hT hin hb hbl
  generalize slLo x = lo' at *
  generalize slHi x = hi' at *
  rcases (by omega : q = 0 ∨ q = 1 ∨ q = 2 ∨ q = 3) with rfl | rfl | rfl | rfl
  all_goals
    simp only [Int.reduceMul] at S
    have HS := Lib.hid S
    clear S
    have c0 := HI.out.c0
    go_enter Tryd.func51, Tryd.ntmps51
    go_wp2_with fail
    refine Calls.mono E.out ?_
    rintro e w1 ⟨rfl, hb1⟩
    have I1 := HI.out.below hb1
    have HB := Lib.hid (hb1.alloc hb1.size (.cells #[.int .i64 lo', .int .i64 hi'] 24))
    have I2 := I1.alloc (.cells #[.int .i64 lo', .int .i64 hi'] 24)
    have S1 := SpBox.new w1 lo' hi'
    obtain ⟨k, hk⟩ : ∃ k, k = w1.heap.size := ⟨_, rfl⟩
    rw [← hk] at S1
    clear c0 hb1
    go_upto_region 2 with fail
    rw [← hk]
    obtain ⟨X, hX⟩ : ∃ X, X = w1.alloc (.cells #[.int .i64 lo', .int .i64 hi'] 24) := ⟨_, rfl⟩
    rw [← hX] at S1 I2 HB ⊢
    clear hX hk
    have c0 := I2.c0; have c1 := S1.c0; have c2 := S1.c1
    go_wp2_with fail
    refine Calls.mono (HS.out _) ?_
    rintro e w2 ⟨rfl, hb2⟩
    have HB2 := Lib.hid (HB.out.trans (hb2.mono HB.out.size))
    clear hb2 c0 c1 c2 S1 I2
    go_wp2_with fail
    go_ret
    exact ⟨rfl, HB2.out⟩
/-- The narrower season. -/
def shY (q y width : Int) : Int × Int × Int := shR (nrwF (seSd (250000000 * q)) width 64 (seY q y).1 (seY q y).2) width
set_option maxRecDepth 100000 in
set_option maxHeartbeats 8000000 in
theorem ShSeason_ok (q y wd : Int) (hq : 0 ≤ q ∧ q ≤ 3) (hy : -9100 ≤ y ∧ y ≤ 9100) (hw : 1 ≤ wd ∧ wd ≤ 600000) (w : World) (hT : SinT w) : Calls Tryd.prog 29 #[.int .i64 q, .int .i64 y, .int .i64 wd] w fun e w' => e = .returned (.tuple #[.agg #[.int .i64 (shY q y wd).1, .int .i64 (shY q y wd).2.1], .int .i64 (shY q y wd).2.2]) ∧ Below w.heap.size w w' := by
  have bd := seY_bd hq.1 hq.2 hy.1 hy.2
  have F := Lib.hid (fun W (hT : SinT W) => SFind_ok q y hq hy W hT)
  have N := Lib.hid (fun W b (hT : SinT W) (hb : IntBox W b q) => shNarrow_ok 51 #[.pointer (some ⟨b, 0, none⟩)] enSS (seSd (250000000 * q)) (seY q y).1 (seY q y).2 wd W (shSeSide_ok q hq _ _ b W hT (fun x h1 h2 => by unfold instOk dayOk; exact decide_eq_true (by omega)) hb) (by omega) (by omega) (by omega) hw.1 (by omega))
  have eY : shR (nrwF (seSd (250000000 * q)) wd 64 (seY q y).1 (seY q y).2) wd = shY q y wd := rfl
  rw [eY] at N
  obtain ⟨q1, q2⟩ := hq
  obtain ⟨y1, y2⟩ := hy
  obtain ⟨w1, w2⟩ := hw
  generalize shY q y wd = r at *
  generalize r.1 = r1 at *
  generalize r.2.1 = r2 at *
  generalize r.2.2 = r3 at *
  generalize (seY q y).1 = a1 at *
  generalize (seY q y).2 = a2 at *
  have HT := Lib.hid hT
  have B1 := IntBox.new w q
  obtain ⟨b, hb⟩ : ∃ b, b = w.heap.size := ⟨_, rfl⟩
  have e1 : (w.alloc (.cells #[.int .i64 q] 3)).heap.size = b + 1 := by simp [hb]
  have B2 := SpBox.new (w.alloc (.cells #[.int .i64 q] 3)) 0 0
  rw [e1] at B2
  rw [← hb] at B1
  have B1' := Lib.hid (B1.alloc (.cells #[.int .i64 0, .int .i64 0] 24))
  have B2' := Lib.hid B2
  have BW := Lib.hid (show Below w.heap.size w ((w.alloc (.cells #[.int .i64 q] 3)).alloc (.cells #[.int .i64 0, .int .i64 0] 24)) from (by repeat' (first | (with_reducible refine below_drewN ?_ _) | go_grown)))
  clear B1 B2 e1 hT eY bd
  go_enter Tryd.func29, Tryd.ntmps29
  go_upto_region 1 with fail
  rw [← hb]
  have HBB := Lib.hid hb
  clear hb
  obtain ⟨X, hX⟩ : ∃ X, X = ((w.alloc (.cells #[.int .i64 q] 3)).alloc (.cells #[.int .i64 0, .int .i64 0] 24)) := ⟨_, rfl⟩
  rw [← hX] at B1' B2' BW ⊢
  clear hX
  have c0 := B1'.out.c0
  go_wp2_with fail
  refine Calls.mono (F.out _ (HT.out.below BW.out)) ?_
  rintro e v1 ⟨rfl, hb1⟩
  have V := BW.out.trans (hb1.mono BW.out.size)
  have HB := Lib.hid (V.alloc V.size (.cells #[.int .i64 a1, .int .i64 a2] 24))
  have S1 := Lib.hid ((B1'.out.below hb1).alloc (.cells #[.int .i64 a1, .int .i64 a2] 24))
  have S2 := Lib.hid ((B2'.out.below hb1).alloc (.cells #[.int .i64 a1, .int .i64 a2] 24))
  have S3 := Lib.hid (SpBox.new v1 a1 a2)
  obtain ⟨kk, hkk⟩ : ∃ k, k = v1.heap.size := ⟨_, rfl⟩
  rw [← hkk] at S3
  clear c0 hb1 V B1' B2' BW
  go_upto_region 2 with fail
  rw [← hkk]
  obtain ⟨Y, hY⟩ : ∃ Y, Y = v1.alloc (.cells #[.int .i64 a1, .int .i64 a2] 24) := ⟨_, rfl⟩
  rw [← hY] at S1 S2 S3 HB ⊢
  clear hY hkk
  have u0 := S3.out.c0; have u1 := S3.out.c1
  go_wp2_with fail
  refine Calls.mono (N.out _ _ (HT.out.below HB.out) S1.out) ?_
  rintro e v2 ⟨rfl, hb2⟩
  have HB2 := Lib.hid (HB.out.trans (hb2.mono HB.out.size))
  have Z2 := S2.out.below hb2
  have z0 := Z2.c0; have z1 := Z2.c1; have zf0 := Z2.free 0; have zf1 := Z2.free 1; have zl := Z2.lt
  clear u0 u1 S1 S2 S3 HB hb2
  go_wp2_with fail
  refine bodyPost_ret (v := .tuple #[.agg #[.int .i64 r1, .int .i64 r2], .int .i64 r3]) ?_ rfl ⟨rfl, ?_⟩
  · simp [results, Tryd.results29, go_sem, *]
  · have hB := HBB.out
    refine Below.setCell (Below.setCell HB2.out ?_ _) ?_ _
    all_goals (first | (simp only [World.size_setCell]; omega) | (dsimp only; omega))
end Go.Proofs.YtlldmhnkaopjhaaDoor
