/- Package astrolabe: radians, radius, Ring, Almucantar. -/
import Derived.Test.YtcopmgnfakjdhaaDoorAstL
import Derived.Test.YtcopmgnfakjdhaaDoorBox
import Derived.Test.YtcopmgnfakjdhaaDoorAt
namespace Go.Proofs.YtcopmgnfakjdhaaDoor
open Go.RowKit
set_option linter.unusedSimpArgs false
set_option linter.unusedVariables false
theorem aRad_ok (a : Int) (h0 : -1000000000 ≤ a) (h1 : a ≤ 1000000000) (w : World) : Calls Tryd.prog 24 #[.int .i64 a] w fun e w' => e = .returned (.float .f64 (aW a)) ∧ w' = w := by
  obtain ⟨r1, r2, r3, i1, i2, i3, e, -⟩ := radW_ok (ap_int h0 h1)
  have q1 := fop i1; have q2 := fop i2; have q3 := fop i3
  have e' : aW a = r3 := e.symm
  have HE := Lib.hid e'
  clear e e' i1 i2 i3 h0 h1
  go_enter Tryd.func24, Tryd.ntmps24
  go_wp2_with fail
  go_ret
  exact ⟨by rw [HE.out]; rfl, rfl⟩
theorem mSin_any {a : Int} (h0 : -250000000 ≤ a) (h1 : a ≤ 250000000) (w : World) (ht : SinT w) : Calls Tryd.prog 23 #[.float .f64 (aW a)] w fun e w' => e = .returned (.float .f64 (aS a)) ∧ w' = w := by
  obtain ⟨f, -, -⟩ := aw_ok (a := a) (by omega) (by omega)
  unfold aS
  by_cases c : a < 0
  · rw [if_pos c]
    obtain ⟨n1, n2⟩ := aw_neg h0 c
    exact Sin_neg (aW a) f n2 n1 w ht
  · rw [if_neg c]
    obtain ⟨n1, n2⟩ := aw_pos (a := a) (by omega) h1
    exact Sin_ok (aW a) f n1 (by grind) w ht
theorem mCos_any {a : Int} (h0 : -250000000 ≤ a) (h1 : a ≤ 250000000) (w : World) (ht : SinT w) : Calls Tryd.prog 25 #[.float .f64 (aW a)] w fun e w' => e = .returned (.float .f64 (aC a)) ∧ w' = w := by
  obtain ⟨f, -, -⟩ := aw_ok (a := a) (by omega) (by omega)
  unfold aC
  by_cases c : a < 0
  · obtain ⟨n1, n2⟩ := aw_neg h0 c
    exact Cos_any (aW a) f (by grind) n1 w ht
  · obtain ⟨n1, n2⟩ := aw_pos (a := a) (by omega) h1
    exact Cos_any (aW a) f n2 (by grind) w ht
/-- The radius as a word. -/
def rW (a : Int) : Nat := fdiv (fmul 4696837146684686336 (aC a)) (fadd 4607182418800017408 (aS a))
structure RwOk (a : Int) : Prop where
  i1 : floatBits .mul .f64 4696837146684686336 (aC a) = some (fmul 4696837146684686336 (aC a))
  i2 : floatBits .add .f64 4607182418800017408 (aS a) = some (fadd 4607182418800017408 (aS a))
  i3 : floatBits .quo .f64 (fmul 4696837146684686336 (aC a)) (fadd 4607182418800017408 (aS a)) = some (rW a)
  ar : AroundOk (rW a) (astV a) (3 / 1000)
theorem rw_ok {a : Int} (h0 : -195000000 ≤ a) (h1 : a ≤ 250000000) : RwOk a := by
  obtain ⟨s, c⟩ := as_ap (a := a) (by omega) h1
  obtain ⟨y, v0, v1, -⟩ := ast_v h0 h1
  obtain ⟨j, b⟩ := Ap.add ap_one s (30 / 1000000000000000) (203 / 100) (21 / 10) (mid_of (by grind) (by grind)) (by grind) (by grind) (by grind)
  have q := quo_ok c (b.weak (e' := 40 / 1000000000000000) (B' := 205 / 100) (by grind) (by grind)) y (by unfold astV at v0 v1; constructor <;> grind)
  exact ⟨q.i1, j, q.i2, q.ar⟩
set_option maxHeartbeats 4000000 in
theorem aRadius_ok (a : Int) (h0 : -195000000 ≤ a) (h1 : a ≤ 250000000) (w : World) (hT : SinT w) : Calls Tryd.prog 22 #[.int .i64 a] w fun e w' => e = .returned (.float .f64 (rW a)) ∧ w' = w := by
  obtain ⟨i1, i2, i3, -⟩ := rw_ok h0 h1
  have R := Lib.hid (fun w => aRad_ok a (by omega) (by omega) w)
  have S := Lib.hid (fun w ht => mSin_any (a := a) (by omega) h1 w ht)
  have C := Lib.hid (fun w ht => mCos_any (a := a) (by omega) h1 w ht)
  have HT := Lib.hid hT
  generalize rW a = x at *
  generalize aW a = y at *
  generalize aS a = s at *
  generalize aC a = c at *
  generalize fadd 4607182418800017408 s = z at *
  generalize fmul 4696837146684686336 c = u at *
  have q1 := fop i1; have q2 := fop i2; have q3 := fop i3
  clear i1 i2 i3 hT h0 h1
  go_enter Tryd.func22, Tryd.ntmps22
  go_wp2_with fail
  refine Calls.mono (R.out _) ?_
  rintro e _ ⟨rfl, rfl⟩
  go_wp2_with fail
  refine Calls.mono (C.out _ HT.out) ?_
  rintro e _ ⟨rfl, rfl⟩
  go_wp2_with fail
  refine Calls.mono (R.out _) ?_
  rintro e _ ⟨rfl, rfl⟩
  go_wp2_with fail
  refine Calls.mono (S.out _ HT.out) ?_
  rintro e _ ⟨rfl, rfl⟩
  go_wp2_with fail
  go_ret
  exact ⟨rfl, rfl⟩
theorem isDec_ok (a : Int) (h0 : -195000000 ≤ a) (h1 : a ≤ 250000000) (w : World) : Calls Tryd.prog 20 #[.int .i64 a] w fun e w' => e = .returned (.bool true) ∧ w' = w := by
  go_enter Tryd.func20, Tryd.ntmps20
  go_wp2_with fail
  go_ret
  exact ⟨rfl, rfl⟩
set_option maxRecDepth 100000 in
set_option maxHeartbeats 4000000 in
theorem Ring_ok (a : Int) (h0 : -195000000 ≤ a) (h1 : a ≤ 250000000) (w : World) (hT : SinT w) : Calls Tryd.prog 9 #[.int .i64 a] w fun e w' => e = .returned (.tuple #[.agg #[.int .i64 (aLo (rW a)), .int .i64 (aHi (rW a))], .int .i64 0]) ∧ Below w.heap.size w w' := by
  have D := Lib.hid (fun w => isDec_ok a h0 h1 w)
  have R := Lib.hid (fun w ht => aRadius_ok a h0 h1 w ht)
  have A := Lib.hid (fun w => Around_ok (rw_ok h0 h1).ar w)
  have HT := Lib.hid hT
  generalize aLo (rW a) = lo at *
  generalize aHi (rW a) = hi at *
  generalize rW a = x at *
  clear hT h0 h1
  go_enter Tryd.func9, Tryd.ntmps9
  have HB := Lib.hid (Below.refl w.heap.size w)
  obtain ⟨k1, hk1⟩ : ∃ x, x = w.heap.size := ⟨_, rfl⟩
  have s1 := SpBox.new w (0) (0)
  rw [← hk1] at s1
  have Hkl1 := Lib.hid (show w.heap.size ≤ k1 by rw [hk1]; omega)
  go_upto_region 1 with fail
  rw [← hk1]
  have HBn := show Below w.heap.size w (w.alloc (.cells #[.int .i64 (0), .int .i64 (0)] 25)) from (by repeat' (first | (with_reducible refine below_drewN ?_ _) | go_grown))
  obtain ⟨X1, hX1⟩ : ∃ X, X = (w.alloc (.cells #[.int .i64 (0), .int .i64 (0)] 25)) := ⟨_, rfl⟩
  rw [← hX1] at s1 HBn ⊢
  clear hX1  HB
  replace s1 := Lib.hid s1
  have HB := Lib.hid HBn; have HK1 := Lib.hid hk1; clear HBn hk1
  go_wp2_with fail
  refine Calls.mono (D.out _) ?_
  rintro e wq ⟨rfl, hq⟩
  (first | rw [hq] | rw [← hq])
  clear hq
  go_wp2_with fail
  refine Calls.mono (R.out _ (HT.out.below HB.out)) ?_
  rintro e wq ⟨rfl, hq⟩
  (first | rw [hq] | rw [← hq])
  clear hq
  go_wp2_with fail
  refine Calls.mono (A.out _) ?_
  rintro e wc1 ⟨rfl, hb⟩
  replace s1 := Lib.hid (s1.out.below hb)
  replace HB := Lib.hid (HB.out.trans (hb.mono HB.out.size))
  clear hb
  have rs0 := s1.out.c0; have rs1 := s1.out.c1; have rsf0 := s1.out.free 0; have rsf1 := s1.out.free 1; have rsl := s1.out.lt; have rsk := Hkl1.out
  go_wp2_with fail
  refine bodyPost_ret (v := .tuple #[.agg #[.int .i64 lo, .int .i64 hi], .int .i64 0]) ?_ rfl ⟨rfl, ?_⟩
  · simp [results, Tryd.results9, go_sem, *]
  · refine Below.setCell (Below.setCell HB.out ?_ _) ?_ _
    all_goals (first | (simp only [World.size_setCell]; omega) | (dsimp only; omega))
/-- The words of Almucantar. -/
def alB (f l : Int) : Nat := fadd (aS f) (aS l)
structure AlOk (f l : Int) : Prop where
  j : floatBits .add .f64 (aS f) (aS l) = some (alB f l)
  d : QuoOk (aC f) (alB f l) (1000000 * CN f / (SN f + SN l))
  r : QuoOk (aC l) (alB f l) (1000000 * CN l / (SN f + SN l))
theorem al_ok {f l : Int} (f0 : 60000000 ≤ f) (f1 : f ≤ 160000000) (l0 : 0 ≤ l) (l1 : l ≤ 150000000) : AlOk f l := by
  obtain ⟨sf, cf⟩ := as_ap (a := f) (by omega) (by omega)
  obtain ⟨sl, cl⟩ := as_ap (a := l) (by omega) (by omega)
  obtain ⟨y, d0, r0, -⟩ := ast_m f0 f1 l0 l1
  obtain ⟨j, b⟩ := Ap.add sf sl (39 / 1000000000000000) (204 / 100) (21 / 10) (mid_of (by grind) (by grind)) (by grind) (by grind) (by grind)
  have b := b.weak (e' := 40 / 1000000000000000) (B' := 205 / 100) (by grind) (by grind)
  exact ⟨j, quo_ok cf b y d0, quo_ok cl b y r0⟩
def alD (f l : Int) : Nat := fdiv (fmul 4696837146684686336 (aC f)) (alB f l)
def alR (f l : Int) : Nat := fdiv (fmul 4696837146684686336 (aC l)) (alB f l)
set_option maxRecDepth 100000 in
set_option maxHeartbeats 4000000 in
theorem Almucantar_ok (f l : Int) (f0 : 60000000 ≤ f) (f1 : f ≤ 160000000) (l0 : 0 ≤ l) (l1 : l ≤ 150000000) (w : World) (hT : SinT w) : Calls Tryd.prog 10 #[.int .i64 f, .int .i64 l] w fun e w' => e = .returned (.tuple #[.agg #[.int .i64 (aLo (alD f l)), .int .i64 (aHi (alD f l))], .agg #[.int .i64 (aLo (alR f l)), .int .i64 (aHi (alR f l))], .int .i64 0]) ∧ Below w.heap.size w w' := by
  obtain ⟨j, d, r⟩ := al_ok f0 f1 l0 l1
  have d1 := d.i1; have d2 := d.i2; have r1 := r.i1; have r2 := r.i2
  have A1 := Lib.hid (fun w => Around_ok d.ar w)
  have A2 := Lib.hid (fun w => Around_ok r.ar w)
  have RF := Lib.hid (fun w => aRad_ok f (by omega) (by omega) w)
  have RL := Lib.hid (fun w => aRad_ok l (by omega) (by omega) w)
  have SF := Lib.hid (fun w ht => mSin_any (a := f) (by omega) (by omega) w ht)
  have SL := Lib.hid (fun w ht => mSin_any (a := l) (by omega) (by omega) w ht)
  have CF := Lib.hid (fun w ht => mCos_any (a := f) (by omega) (by omega) w ht)
  have CL := Lib.hid (fun w ht => mCos_any (a := l) (by omega) (by omega) w ht)
  have HT := Lib.hid hT
  unfold alD alR
  clear d r hT
  generalize alB f l = b at *
  generalize fdiv (fmul 4696837146684686336 (aC f)) b = x1 at *
  generalize fdiv (fmul 4696837146684686336 (aC l)) b = x2 at *
  generalize fmul 4696837146684686336 (aC f) = x3 at *
  generalize fmul 4696837146684686336 (aC l) = x4 at *
  generalize aS f = sf at *
  generalize aS l = sl at *
  generalize aC f = cf at *
  generalize aC l = cl at *
  generalize aW f = wf at *
  generalize aW l = wl at *
  generalize aLo x1 = a1 at *
  generalize aHi x1 = a2 at *
  generalize aLo x2 = b1 at *
  generalize aHi x2 = b2 at *
  have q0 := fop j; have q1 := fop d1; have q2 := fop d2; have q3 := fop r1; have q4 := fop r2
  clear j d1 d2 r1 r2
  go_enter Tryd.func10, Tryd.ntmps10
  have HB := Lib.hid (Below.refl w.heap.size w)
  obtain ⟨k1, hk1⟩ : ∃ x, x = w.heap.size := ⟨_, rfl⟩
  have he2 : (w.alloc (.cells #[.int .i64 (0), .int .i64 (0)] 25)).heap.size = k1 + 1 := by simp [hk1]
  have s1 := (SpBox.new w (0) (0)).alloc (.cells #[.int .i64 (0), .int .i64 (0)] 25)
  rw [← hk1] at s1
  have Hkl1 := Lib.hid (show w.heap.size ≤ k1 by rw [hk1]; omega)
  have s2 := SpBox.new (w.alloc (.cells #[.int .i64 (0), .int .i64 (0)] 25)) (0) (0)
  rw [he2] at s2
  have Hkl2 := Lib.hid (show w.heap.size ≤ k1 + 1 by rw [hk1]; omega)
  go_upto_region 1 with fail
  (try rw [he2])
  rw [← hk1]
  obtain ⟨k2, hk2⟩ : ∃ x, x = k1 + 1 := ⟨_, rfl⟩
  rw [← hk2] at s2 Hkl2
  (try rw [← hk2])
  have Hd2_1 := Lib.hid (show k1 < k2 by omega)
  clear hk2
  have HBn := show Below w.heap.size w ((w.alloc (.cells #[.int .i64 (0), .int .i64 (0)] 25)).alloc (.cells #[.int .i64 (0), .int .i64 (0)] 25)) from (by repeat' (first | (with_reducible refine below_drewN ?_ _) | go_grown))
  obtain ⟨X2, hX2⟩ : ∃ X, X = ((w.alloc (.cells #[.int .i64 (0), .int .i64 (0)] 25)).alloc (.cells #[.int .i64 (0), .int .i64 (0)] 25)) := ⟨_, rfl⟩
  rw [← hX2] at s1 s2 HBn ⊢
  clear hX2 he2 HB
  replace s1 := Lib.hid s1
  replace s2 := Lib.hid s2
  have HB := Lib.hid HBn; have HK1 := Lib.hid hk1; clear HBn hk1
  go_wp2_with fail
  refine Calls.mono (RF.out _) ?_
  rintro e wq ⟨rfl, hq⟩
  (first | rw [hq] | rw [← hq])
  clear hq
  go_wp2_with fail
  refine Calls.mono (SF.out _ (HT.out.below HB.out)) ?_
  rintro e wq ⟨rfl, hq⟩
  (first | rw [hq] | rw [← hq])
  clear hq
  go_wp2_with fail
  refine Calls.mono (RL.out _) ?_
  rintro e wq ⟨rfl, hq⟩
  (first | rw [hq] | rw [← hq])
  clear hq
  go_wp2_with fail
  refine Calls.mono (SL.out _ (HT.out.below HB.out)) ?_
  rintro e wq ⟨rfl, hq⟩
  (first | rw [hq] | rw [← hq])
  clear hq
  go_wp2_with fail
  refine Calls.mono (RF.out _) ?_
  rintro e wq ⟨rfl, hq⟩
  (first | rw [hq] | rw [← hq])
  clear hq
  go_wp2_with fail
  refine Calls.mono (CF.out _ (HT.out.below HB.out)) ?_
  rintro e wq ⟨rfl, hq⟩
  (first | rw [hq] | rw [← hq])
  clear hq
  go_wp2_with fail
  refine Calls.mono (A1.out _) ?_
  rintro e wc1 ⟨rfl, hb⟩
  replace s1 := Lib.hid (s1.out.below hb)
  replace s2 := Lib.hid (s2.out.below hb)
  replace HB := Lib.hid (HB.out.trans (hb.mono HB.out.size))
  clear hb
  go_wp2_with fail
  refine Calls.mono (RL.out _) ?_
  rintro e wq ⟨rfl, hq⟩
  (first | rw [hq] | rw [← hq])
  clear hq
  go_wp2_with fail
  refine Calls.mono (CL.out _ (HT.out.below HB.out)) ?_
  rintro e wq ⟨rfl, hq⟩
  (first | rw [hq] | rw [← hq])
  clear hq
  go_wp2_with fail
  refine Calls.mono (A2.out _) ?_
  rintro e wc2 ⟨rfl, hb⟩
  replace s1 := Lib.hid (s1.out.below hb)
  replace s2 := Lib.hid (s2.out.below hb)
  replace HB := Lib.hid (HB.out.trans (hb.mono HB.out.size))
  clear hb
  have c1_0 := s1.out.c0; have c1_1 := s1.out.c1; have c1_f := s1.out.free 0; have c1_g := s1.out.free 1; have c1_l := s1.out.lt; have c1_k := Hkl1.out
  have c2_0 := s2.out.c0; have c2_1 := s2.out.c1; have c2_f := s2.out.free 0; have c2_g := s2.out.free 1; have c2_l := s2.out.lt; have c2_k := Hkl2.out
  have ne1_2 := Nat.ne_of_lt Hd2_1.out; have ne2_1 := Nat.ne_of_gt Hd2_1.out
  go_wp2_with fail
  refine bodyPost_ret (v := .tuple #[.agg #[.int .i64 a1, .int .i64 a2], .agg #[.int .i64 b1, .int .i64 b2], .int .i64 0]) ?_ rfl ⟨rfl, ?_⟩
  · simp [results, Tryd.results10, go_sem, *]
  · refine Below.setCell (Below.setCell (Below.setCell (Below.setCell HB.out ?_ _) ?_ _) ?_ _) ?_ _
    all_goals (first | (simp only [World.size_setCell]; omega) | (dsimp only; omega))
end Go.Proofs.YtcopmgnfakjdhaaDoor
