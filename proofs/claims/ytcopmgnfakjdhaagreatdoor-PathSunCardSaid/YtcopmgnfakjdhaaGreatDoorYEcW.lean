/- moon.Speed, eclipse.bounds, eclipse.latitudes. -/
import Derived.Test.YtcopmgnfakjdhaaGreatDoorYEcP
import Derived.Test.YtcopmgnfakjdhaaGreatDoorYSlopeW
import Derived.Test.YtcopmgnfakjdhaaGreatDoorYSes
namespace Go.Proofs.YtcopmgnfakjdhaaGreatDoor
open Go.RowKit
set_option linter.unusedSimpArgs false
set_option linter.unusedVariables false
set_option maxRecDepth 100000 in
set_option maxHeartbeats 4000000 in
theorem Speed_ok (w : World) : Calls Tryz.prog 95 #[] w fun e w' => e = .returned (.int .i64 3648980) ∧ Below w.heap.size w w' := by
  have S := Lib.hid (fun w => moonLat_ok w)
  have G := Lib.hid (fun A cap W (h : FlatSl W 3 A 3 cap moonBZ) => (by
    have := Slope_ok 0 0 20000 A 3 cap moonBZ W h moonB_in (by omega)
    rw [speed_is.1, speed_is.2] at this
    exact this : Calls Tryz.prog 114 #[.agg #[.int .i64 0, .int .i64 0, .slice A 3 cap, .int .i64 20000]] W fun e w' => e = .returned (.tuple #[.agg #[.int .i64 (-3648980), .int .i64 3648980], .int .i64 0]) ∧ Below W.heap.size W w'))
  go_enter Tryz.func95, Tryz.ntmps95
  go_wp2_with fail
  refine Calls.mono (S.out _) ?_
  rintro e w1 ⟨A, cap, rfl, hF, hb⟩
  obtain ⟨hb1, hz1, hc1, hf1⟩ := took (w := w) (by repeat' (first | (with_reducible refine below_drewN ?_ _) | go_grown)) (by first | (simp only [vA, vB, vC, vD]; done) | (simp only [vA, vB, vC, vD]; rfl) | rfl) hb; clear hb
  go_wp2_with fail
  refine Calls.mono (G.out _ _ _ hF) ?_
  rintro e w2 ⟨rfl, hb⟩
  obtain ⟨hb2, hz2, hc2, hf2⟩ := took (w := w) (by repeat' (first | (with_reducible refine below_drewN ?_ _) | go_grown)) (by first | (simp only [vA, vB, vC, vD]; done) | (simp only [vA, vB, vC, vD]; rfl) | rfl) hb; clear hb
  go_wp2_with fail
  go_ret
  exact ⟨rfl, (by repeat' (first | (with_reducible refine below_drewN ?_ _) | go_grown))⟩
theorem ebounds_ok (q : Int) (w : World) : Calls Tryz.prog 63 #[.int .i64 q] w fun e w' => e = .returned (.tuple #[.int .i64 (ecTot q), .int .i64 (ecPart q)]) ∧ w = w' := by
  unfold ecTot ecPart
  by_cases h : q = 0
  · subst h
    rw [if_pos rfl, if_pos rfl]
    go_enter Tryz.func63, Tryz.ntmps63
    go_wp2_with fail
    go_ret2
    exact ⟨rfl, rfl⟩
  · rw [if_neg h, if_neg h]
    go_enter Tryz.func63, Tryz.ntmps63
    go_wp2_with fail
    go_ret2
    exact ⟨rfl, rfl⟩
set_option maxRecDepth 100000 in
set_option maxHeartbeats 8000000 in
theorem latitudes_ok (a b : Int) (w : World) (hT : SinT w) (ha : instOk a = true) (hb : instOk b = true) (hab : a ≤ b) (hw : b - a ≤ 600000) : Calls Tryz.prog 62 #[.agg #[.int .i64 a, .int .i64 b]] w fun e w' => e = .returned (.agg #[.int .i64 (laLo a b), .int .i64 (laHi a b)]) ∧ Below w.heap.size w w' := by
  have L1 := Lib.hid (fun W (hT : SinT W) => moonLatt_ok a W hT ha)
  have L2 := Lib.hid (fun W (hT : SinT W) => moonLatt_ok b W hT hb)
  have SP := Lib.hid (fun W => Speed_ok W)
  obtain ⟨j1, j2, j3, j4, jv, m0, m1⟩ := mo_ok (d := b - a) (by omega) (by omega)
  have x := be_bd a; have y := be_bd b
  have bi : -400000000000000 ≤ a ∧ b ≤ 400000000000000 := by
    unfold instOk dayOk at ha hb
    simp only [decide_eq_true_eq] at ha hb
    omega
  unfold laLo laHi
  obtain ⟨d, hd⟩ : ∃ d, d = b - a := ⟨_, rfl⟩
  have wd : wrap64 (b - a) = d := by rw [hd]; exact IntWalk.wrap64_in _ (by omega)
  rw [← hd] at j1 j2 j3 j4 jv m0 m1 ⊢
  have wm : IntKind.i64.wrap (moI d + 2) = moI d + 2 := IntWalk.i64_in _ (by omega)
  have wl : IntKind.i64.wrap (min (mbLo a) (mbLo b) - (moI d + 2)) = min (mbLo a) (mbLo b) - (moI d + 2) := IntWalk.i64_in _ (by omega)
  have wh : IntKind.i64.wrap (max (mbHi a) (mbHi b) + (moI d + 2)) = max (mbHi a) (mbHi b) + (moI d + 2) := IntWalk.i64_in _ (by omega)
  generalize mbLo a = p1 at *
  generalize mbHi a = p2 at *
  generalize mbLo b = q1 at *
  generalize mbHi b = q2 at *
  generalize moI d = mi at *
  generalize mo1 d = f1 at *
  generalize mo2 d = f2 at *
  generalize mo3 d = f3 at *
  generalize mo4 d = f4 at *
  have k1 := fop j1; have k2 := fop j2; have k3 := fop j3; have k4 := fop j4; have k5 := fconvI jv
  have HT := Lib.hid hT
  clear j1 j2 j3 j4 jv m0 m1 x y bi hd hT ha hb hab hw
  go_enter Tryz.func62, Tryz.ntmps62
  have HB := Lib.hid (Below.refl w.heap.size w)
  obtain ⟨k1, hk1⟩ : ∃ x, x = w.heap.size := ⟨_, rfl⟩
  have he2 : (w.alloc (.cells #[.int .i64 (a), .int .i64 (b)] 28)).heap.size = k1 + 1 := by simp [hk1]
  have s1 := (SpBox.new w (a) (b)).alloc (.cells #[.int .i64 (0), .int .i64 (0)] 28)
  rw [← hk1] at s1
  have Hkl1 := Lib.hid (show w.heap.size ≤ k1 by rw [hk1]; omega)
  have s2 := SpBox.new (w.alloc (.cells #[.int .i64 (a), .int .i64 (b)] 28)) (0) (0)
  rw [he2] at s2
  have Hkl2 := Lib.hid (show w.heap.size ≤ k1 + 1 by rw [hk1]; omega)
  go_upto_region 1 with fail
  (try rw [he2])
  rw [← hk1]
  obtain ⟨k2, hk2⟩ : ∃ x, x = k1 + 1 := ⟨_, rfl⟩
  rw [← hk2] at s2 Hkl2
  (try rw [← hk2])
  have Hd2_1 := Lib.hid (show k1 < k2 by omega)
  clear hk2
  have HBn := show Below w.heap.size w ((w.alloc (.cells #[.int .i64 (a), .int .i64 (b)] 28)).alloc (.cells #[.int .i64 (0), .int .i64 (0)] 28)) from (by repeat' (first | (with_reducible refine below_drewN ?_ _) | go_grown))
  obtain ⟨X2, hX2⟩ : ∃ X, X = ((w.alloc (.cells #[.int .i64 (a), .int .i64 (b)] 28)).alloc (.cells #[.int .i64 (0), .int .i64 (0)] 28)) := ⟨_, rfl⟩
  rw [← hX2] at s1 s2 HBn ⊢
  clear hX2 he2 HB
  replace s1 := Lib.hid s1
  replace s2 := Lib.hid s2
  have HB := Lib.hid HBn; have HK1 := Lib.hid hk1; clear HBn hk1
  have sc1_0 := s1.out.c0; have sc1_1 := s1.out.c1; have sc1_l := s1.out.lt
  go_wp2_with fail
  refine Calls.mono (L1.out _ (HT.out.below HB.out)) ?_
  rintro e wn3 ⟨rfl, hb⟩
  replace s1 := Lib.hid ((s1.out.below hb).alloc (.cells #[.int .i64 (p1), .int .i64 (p2)] 28))
  replace s2 := Lib.hid ((s2.out.below hb).alloc (.cells #[.int .i64 (p1), .int .i64 (p2)] 28))
  have HB3 := HB.out.trans (hb.mono HB.out.size)
  clear sc1_0 sc1_1 sc1_l
  clear hb
  have Hkl3 := Lib.hid HB3.size; replace HB := Lib.hid (HB3.alloc HB3.size (.cells #[.int .i64 (p1), .int .i64 (p2)] 28))
  clear HB3
  have s3 := Lib.hid (SpBox.new wn3 (p1) (p2))
  obtain ⟨k3, hk3⟩ : ∃ x, x = wn3.heap.size := ⟨_, rfl⟩
  rw [← hk3] at s3 Hkl3
  go_upto_region 2 with fail
  rw [← hk3]
  obtain ⟨X3, hX3⟩ : ∃ X, X = wn3.alloc (.cells #[.int .i64 (p1), .int .i64 (p2)] 28) := ⟨_, rfl⟩
  rw [← hX3] at s1 s2 s3 HB ⊢
  clear hk3 hX3
  have sc1_0 := s1.out.c0; have sc1_1 := s1.out.c1; have sc1_l := s1.out.lt
  go_wp2_with fail
  refine Calls.mono (L2.out _ (HT.out.below HB.out)) ?_
  rintro e wn4 ⟨rfl, hb⟩
  replace s1 := Lib.hid ((s1.out.below hb).alloc (.cells #[.int .i64 (q1), .int .i64 (q2)] 28))
  replace s2 := Lib.hid ((s2.out.below hb).alloc (.cells #[.int .i64 (q1), .int .i64 (q2)] 28))
  replace s3 := Lib.hid ((s3.out.below hb).alloc (.cells #[.int .i64 (q1), .int .i64 (q2)] 28))
  have HB4 := HB.out.trans (hb.mono HB.out.size)
  clear sc1_0 sc1_1 sc1_l
  clear hb
  have Hkl4 := Lib.hid HB4.size; replace HB := Lib.hid (HB4.alloc HB4.size (.cells #[.int .i64 (q1), .int .i64 (q2)] 28))
  clear HB4
  have s4 := Lib.hid (SpBox.new wn4 (q1) (q2))
  obtain ⟨k4, hk4⟩ : ∃ x, x = wn4.heap.size := ⟨_, rfl⟩
  rw [← hk4] at s4 Hkl4
  go_upto_region 3 with fail
  rw [← hk4]
  obtain ⟨X4, hX4⟩ : ∃ X, X = wn4.alloc (.cells #[.int .i64 (q1), .int .i64 (q2)] 28) := ⟨_, rfl⟩
  rw [← hX4] at s1 s2 s3 s4 HB ⊢
  clear hk4 hX4
  have sc1_0 := s1.out.c0; have sc1_1 := s1.out.c1; have sc1_l := s1.out.lt
  go_wp2_with fail
  refine Calls.mono (SP.out _) ?_
  rintro e wc1 ⟨rfl, hb⟩
  replace s1 := Lib.hid (s1.out.below hb)
  replace s2 := Lib.hid (s2.out.below hb)
  replace s3 := Lib.hid (s3.out.below hb)
  replace s4 := Lib.hid (s4.out.below hb)
  replace HB := Lib.hid (HB.out.trans (hb.mono HB.out.size))
  clear sc1_0 sc1_1 sc1_l
  clear hb
  have sc3_0 := s3.out.c0; have sc3_1 := s3.out.c1; have sc3_l := s3.out.lt
  have sc4_0 := s4.out.c0; have sc4_1 := s4.out.c1; have sc4_l := s4.out.lt
  have rs0 := s2.out.c0; have rs1 := s2.out.c1; have rsf0 := s2.out.free 0; have rsf1 := s2.out.free 1; have rsl := s2.out.lt; have rsk := Hkl2.out
  go_wp2_with fail
  refine bodyPost_ret (v := .agg #[.int .i64 (min p1 q1 - (mi + 2)), .int .i64 (max p2 q2 + (mi + 2))]) ?_ rfl ⟨rfl, ?_⟩
  · simp [results, Tryz.results62, go_sem, *]
  · refine Below.setCell (Below.setCell HB.out ?_ _) ?_ _
    all_goals (first | (simp only [World.size_setCell]; omega) | (dsimp only; omega))
end Go.Proofs.YtcopmgnfakjdhaaGreatDoor
