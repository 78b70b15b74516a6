/- path: square, root, offsets (printed by wip/tools/gen-pa.py). -/
import Derived.Test.YtcopmgnfakjdhaaGreatDoorYPaP
import Derived.Test.YtcopmgnfakjdhaaGreatDoorYReg
namespace Go.Proofs.YtcopmgnfakjdhaaGreatDoor
open Go.RowKit
set_option linter.unusedSimpArgs false
set_option linter.unusedVariables false
set_option maxRecDepth 100000 in
set_option maxHeartbeats 4000000 in
theorem paSquare_ok (a b : Int) (w : World) (m : MulBig a b a b) (ha : -4000000000000000000 ≤ a ∧ a ≤ 4000000000000000000) (hb : -4000000000000000000 ≤ b ∧ b ≤ 4000000000000000000) : Calls Tryz.prog 54 #[.agg #[.int .i64 a, .int .i64 b]] w fun e w' => e = .returned (.agg #[.int .i64 (sqrLo a b), .int .i64 (sqrHi a b)]) ∧ Below w.heap.size w w' := by
  have TM := Lib.hid (fun W => Times_big a b a b W m ha hb ha hb)
  have e : sqrLo a b = if a ≤ 0 ∧ 0 ≤ b then 0 else tmLo a b a b := rfl
  have e2 : sqrHi a b = tmHi a b a b := rfl
  rw [e2]
  generalize sqrLo a b = s at *
  generalize tmLo a b a b = p at *
  generalize tmHi a b a b = q at *
  clear m ha hb e2
  have HE := Lib.hid e
  clear e
  go_enter Tryz.func54, Tryz.ntmps54
  have HB := Lib.hid (Below.refl w.heap.size w)
  obtain ⟨k1, hk1⟩ : ∃ x, x = w.heap.size := ⟨_, rfl⟩
  have he2 : (w.alloc (.cells #[.int .i64 (a), .int .i64 (b)] 28)).heap.size = k1 + 1 := by simp [hk1]
  have s1 := (SpBox.new w (a) (b)).alloc (.cells #[.int .i64 (0), .int .i64 (0)] 28)
  rw [← hk1] at s1
  have Hkl1 := Lib.hid (show w.heap.size ≤ k1 by rw [hk1]; omega)
  have s2 := SpBox.new (w.alloc (.cells #[.int .i64 (a), .int .i64 (b)] 28)) (0) (0)
  rw [he2] at s2
  have Hkl2 := Lib.hid (show w.heap.size ≤ k1 + 1 by rw [hk1]; omega)
  go_upto_region 1 with fail
  (try rw [he2])
  rw [← hk1]
  obtain ⟨k2, hk2⟩ : ∃ x, x = k1 + 1 := ⟨_, rfl⟩
  rw [← hk2] at s2 Hkl2
  (try rw [← hk2])
  have Hd2_1 := Lib.hid (show k1 < k2 by omega)
  clear hk2
  have HBn := show Below w.heap.size w ((w.alloc (.cells #[.int .i64 (a), .int .i64 (b)] 28)).alloc (.cells #[.int .i64 (0), .int .i64 (0)] 28)) from (by repeat' (first | (with_reducible refine below_drewN ?_ _) | go_grown))
  obtain ⟨X2, hX2⟩ : ∃ X, X = ((w.alloc (.cells #[.int .i64 (a), .int .i64 (b)] 28)).alloc (.cells #[.int .i64 (0), .int .i64 (0)] 28)) := ⟨_, rfl⟩
  rw [← hX2] at s1 s2 HBn ⊢
  clear hX2 he2 HB
  replace s1 := Lib.hid s1
  replace s2 := Lib.hid s2
  have HB := Lib.hid HBn; have HK1 := Lib.hid hk1; clear HBn hk1
  have sc1_0 := s1.out.c0; have sc1_1 := s1.out.c1; have sc1_l := s1.out.lt
  go_wp2_with fail
  refine Calls.mono (TM.out _) ?_
  rintro e wn3 ⟨rfl, hb⟩
  have Hd3_1 := Lib.hid (s1.out.below hb).lt
  have Hd3_2 := Lib.hid (s2.out.below hb).lt
  replace s1 := Lib.hid ((s1.out.below hb).alloc (.cells #[.int .i64 (p), .int .i64 (q)] 28))
  replace s2 := Lib.hid ((s2.out.below hb).alloc (.cells #[.int .i64 (p), .int .i64 (q)] 28))
  have HB3 := HB.out.trans (hb.mono HB.out.size)
  clear sc1_0 sc1_1 sc1_l
  clear hb
  have Hkl3 := Lib.hid HB3.size; replace HB := Lib.hid (HB3.alloc HB3.size (.cells #[.int .i64 (p), .int .i64 (q)] 28))
  clear HB3
  have s3 := Lib.hid (SpBox.new wn3 (p) (q))
  obtain ⟨k3, hk3⟩ : ∃ x, x = wn3.heap.size := ⟨_, rfl⟩
  rw [← hk3] at s3 Hkl3 Hd3_1 Hd3_2
  go_upto_region 2 with fail
  rw [← hk3]
  obtain ⟨X3, hX3⟩ : ∃ X, X = wn3.alloc (.cells #[.int .i64 (p), .int .i64 (q)] 28) := ⟨_, rfl⟩
  rw [← hX3] at s1 s2 s3 HB ⊢
  clear hk3 hX3
  have sc1_0 := s1.out.c0; have sc1_1 := s1.out.c1; have sc1_l := s1.out.lt
  have c2_0 := s2.out.c0; have c2_1 := s2.out.c1; have c2_f := s2.out.free 0; have c2_g := s2.out.free 1; have c2_l := s2.out.lt; have c2_k := Hkl2.out
  have c3_0 := s3.out.c0; have c3_1 := s3.out.c1; have c3_f := s3.out.free 0; have c3_g := s3.out.free 1; have c3_l := s3.out.lt; have c3_k := Hkl3.out
  have ne2_3 := Nat.ne_of_lt Hd3_2.out; have ne3_2 := Nat.ne_of_gt Hd3_2.out
  have f0 := s3.out.free 0
  by_cases c1 : a ≤ 0
  · by_cases c2 : 0 ≤ b
    · obtain rfl : s = 0 := by have := HE.out; rw [if_pos ⟨c1, c2⟩] at this; exact this
      clear HE
      go_wp2_with fail
      refine bodyPost_ret (v := .agg #[.int .i64 0, .int .i64 q]) ?_ rfl ⟨rfl, ?_⟩
      · simp [results, Tryz.results54, go_sem, *]
      · exact ((HB.out.setCell (p := ⟨k3, 0, none⟩) c3_k _).setCell (p := ⟨k2, 0, none⟩) c2_k _).setCell (p := ⟨k2, 1, none⟩) c2_k _
    · obtain rfl : s = p := by have := HE.out; rw [if_neg (by omega)] at this; exact this
      clear HE
      go_wp2_with fail
      refine bodyPost_ret (v := .agg #[.int .i64 s, .int .i64 q]) ?_ rfl ⟨rfl, ?_⟩
      · simp [results, Tryz.results54, go_sem, *]
      · exact (HB.out.setCell (p := ⟨k2, 0, none⟩) c2_k _).setCell (p := ⟨k2, 1, none⟩) c2_k _
  · obtain rfl : s = p := by have := HE.out; rw [if_neg (by omega)] at this; exact this
    clear HE
    go_wp2_with fail
    refine bodyPost_ret (v := .agg #[.int .i64 s, .int .i64 q]) ?_ rfl ⟨rfl, ?_⟩
    · simp [results, Tryz.results54, go_sem, *]
    · exact (HB.out.setCell (p := ⟨k2, 0, none⟩) c2_k _).setCell (p := ⟨k2, 1, none⟩) c2_k _
set_option maxRecDepth 100000 in
set_option maxHeartbeats 4000000 in
theorem paRoot_ok (a b r s : Int) (w : World) (h : RootIs (a * 1000000000) (b * 1000000000) r s) : Calls Tryz.prog 55 #[.agg #[.int .i64 a, .int .i64 b]] w fun e w' => e = .returned (.agg #[.int .i64 r, .int .i64 s]) ∧ Below w.heap.size w w' := by
  have RO := Lib.hid (fun W => troot_ok (a * 1000000000) (b * 1000000000) r s h W)
  have h1 := h.a0; have h2 := h.ab; have h3 := h.b1
  have e1 : wrap64 (a * 1000000000) = a * 1000000000 := IntWalk.wrap64_in _ (by omega)
  have e2 : wrap64 (b * 1000000000) = b * 1000000000 := IntWalk.wrap64_in _ (by omega)
  clear h h1 h2 h3
  go_enter Tryz.func55, Tryz.ntmps55
  have HB := Lib.hid (Below.refl w.heap.size w)
  obtain ⟨k1, hk1⟩ : ∃ x, x = w.heap.size := ⟨_, rfl⟩
  have he2 : (w.alloc (.cells #[.int .i64 (a), .int .i64 (b)] 28)).heap.size = k1 + 1 := by simp [hk1]
  have s1 := (SpBox.new w (a) (b)).alloc (.cells #[.int .i64 (0), .int .i64 (0)] 28)
  rw [← hk1] at s1
  have Hkl1 := Lib.hid (show w.heap.size ≤ k1 by rw [hk1]; omega)
  have s2 := SpBox.new (w.alloc (.cells #[.int .i64 (a), .int .i64 (b)] 28)) (0) (0)
  rw [he2] at s2
  have Hkl2 := Lib.hid (show w.heap.size ≤ k1 + 1 by rw [hk1]; omega)
  go_upto_region 1 with fail
  (try rw [he2])
  rw [← hk1]
  obtain ⟨k2, hk2⟩ : ∃ x, x = k1 + 1 := ⟨_, rfl⟩
  rw [← hk2] at s2 Hkl2
  (try rw [← hk2])
  have Hd2_1 := Lib.hid (show k1 < k2 by omega)
  clear hk2
  have HBn := show Below w.heap.size w ((w.alloc (.cells #[.int .i64 (a), .int .i64 (b)] 28)).alloc (.cells #[.int .i64 (0), .int .i64 (0)] 28)) from (by repeat' (first | (with_reducible refine below_drewN ?_ _) | go_grown))
  obtain ⟨X2, hX2⟩ : ∃ X, X = ((w.alloc (.cells #[.int .i64 (a), .int .i64 (b)] 28)).alloc (.cells #[.int .i64 (0), .int .i64 (0)] 28)) := ⟨_, rfl⟩
  rw [← hX2] at s1 s2 HBn ⊢
  clear hX2 he2 HB
  replace s1 := Lib.hid s1
  replace s2 := Lib.hid s2
  have HB := Lib.hid HBn; have HK1 := Lib.hid hk1; clear HBn hk1
  have sc1_0 := s1.out.c0; have sc1_1 := s1.out.c1; have sc1_l := s1.out.lt
  go_wp2_with fail
  refine Calls.mono (RO.out _) ?_
  rintro e wn3 ⟨rfl, hb⟩
  have Hd3_1 := Lib.hid (s1.out.below hb).lt
  have Hd3_2 := Lib.hid (s2.out.below hb).lt
  replace s1 := Lib.hid ((s1.out.below hb).alloc (.cells #[.int .i64 (r), .int .i64 (s)] 28))
  replace s2 := Lib.hid ((s2.out.below hb).alloc (.cells #[.int .i64 (r), .int .i64 (s)] 28))
  have HB3 := HB.out.trans (hb.mono HB.out.size)
  clear sc1_0 sc1_1 sc1_l
  clear hb
  have Hkl3 := Lib.hid HB3.size; replace HB := Lib.hid (HB3.alloc HB3.size (.cells #[.int .i64 (r), .int .i64 (s)] 28))
  clear HB3
  have s3 := Lib.hid (SpBox.new wn3 (r) (s))
  obtain ⟨k3, hk3⟩ : ∃ x, x = wn3.heap.size := ⟨_, rfl⟩
  rw [← hk3] at s3 Hkl3 Hd3_1 Hd3_2
  go_upto_region 2 with fail
  rw [← hk3]
  obtain ⟨X3, hX3⟩ : ∃ X, X = wn3.alloc (.cells #[.int .i64 (r), .int .i64 (s)] 28) := ⟨_, rfl⟩
  rw [← hX3] at s1 s2 s3 HB ⊢
  clear hk3 hX3
  have sc3_0 := s3.out.c0; have sc3_1 := s3.out.c1; have sc3_l := s3.out.lt
  have c2_0 := s2.out.c0; have c2_1 := s2.out.c1; have c2_f := s2.out.free 0; have c2_g := s2.out.free 1; have c2_l := s2.out.lt; have c2_k := Hkl2.out
  have ne2_3 := Nat.ne_of_lt Hd3_2.out; have ne3_2 := Nat.ne_of_gt Hd3_2.out
  go_wp2_with fail
  refine bodyPost_ret (v := .agg #[.int .i64 r, .int .i64 s]) ?_ rfl ⟨rfl, ?_⟩
  · simp [results, Tryz.results55, go_sem, *]
  · exact (HB.out.setCell (p := ⟨k2, 0, none⟩) c2_k _).setCell (p := ⟨k2, 1, none⟩) c2_k _
set_option maxRecDepth 100000 in
set_option maxHeartbeats 8000000 in
theorem paOff_ok (t : Int) (w : World) (hT : SinT w) (ti : instOk t = true) : Calls Tryz.prog 52 #[.int .i64 t] w fun e w' => e = .returned (.tuple #[.agg #[.int .i64 (oxLo t), .int .i64 (oxHi t)], .agg #[.int .i64 (oyLo t), .int .i64 (oyHi t)]]) ∧ Below w.heap.size w w' := by
  have EL := Lib.hid (fun W (hT : SinT W) => elong_ok t W hT ti)
  have LA := Lib.hid (fun W (hT : SinT W) => moonLatt_ok t W hT ti)
  have HT := Lib.hid hT
  have b := el_bd t; have b' := el_width t; have c := mb_bd t; have c' := mb_width t
  have d1 : oxLo t = 377 * (elLo t - oxO t) := rfl
  have d2 : oxHi t = 377 * (elHi t - oxO t) := rfl
  have d3 : oyLo t = 377 * mbLo t := rfl
  have d4 : oyHi t = 377 * mbHi t := rfl
  have d5 : oxO t = if 1000000000 < elLo t + elHi t then 1000000000 else 0 := rfl
  clear hT ti
  generalize oxLo t = o1 at *
  generalize oxHi t = o2 at *
  generalize oyLo t = o3 at *
  generalize oyHi t = o4 at *
  generalize oxO t = O at *
  generalize elLo t = e1 at *
  generalize elHi t = e2 at *
  generalize mbLo t = b1 at *
  generalize mbHi t = b2 at *
  have g0 : wrap64 (e1 + e2) = e1 + e2 := IntWalk.wrap64_in _ (by omega)
  have g3 : wrap64 (377 * b1) = o3 := by rw [d3]; exact IntWalk.wrap64_in _ (by omega)
  have g4 : wrap64 (377 * b2) = o4 := by rw [d4]; exact IntWalk.wrap64_in _ (by omega)
  have D1 := Lib.hid d1; have D2 := Lib.hid d2; have D5 := Lib.hid d5; have BB := Lib.hid b; have BC := Lib.hid b'
  clear d1 d2 d3 d4 d5 b b' c c'
  go_enter Tryz.func52, Tryz.ntmps52
  have HB := Lib.hid (Below.refl w.heap.size w)
  obtain ⟨k1, hk1⟩ : ∃ x, x = w.heap.size := ⟨_, rfl⟩
  have he2 : (w.alloc (.cells #[.int .i64 (0), .int .i64 (0)] 28)).heap.size = k1 + 1 := by simp [hk1]
  have s1 := (SpBox.new w (0) (0)).alloc (.cells #[.int .i64 (0), .int .i64 (0)] 28)
  rw [← hk1] at s1
  have Hkl1 := Lib.hid (show w.heap.size ≤ k1 by rw [hk1]; omega)
  have s2 := SpBox.new (w.alloc (.cells #[.int .i64 (0), .int .i64 (0)] 28)) (0) (0)
  rw [he2] at s2
  have Hkl2 := Lib.hid (show w.heap.size ≤ k1 + 1 by rw [hk1]; omega)
  go_upto_region 1 with fail
  (try rw [he2])
  rw [← hk1]
  obtain ⟨k2, hk2⟩ : ∃ x, x = k1 + 1 := ⟨_, rfl⟩
  rw [← hk2] at s2 Hkl2
  (try rw [← hk2])
  have Hd2_1 := Lib.hid (show k1 < k2 by omega)
  clear hk2
  have HBn := show Below w.heap.size w ((w.alloc (.cells #[.int .i64 (0), .int .i64 (0)] 28)).alloc (.cells #[.int .i64 (0), .int .i64 (0)] 28)) from (by repeat' (first | (with_reducible refine below_drewN ?_ _) | go_grown))
  obtain ⟨X2, hX2⟩ : ∃ X, X = ((w.alloc (.cells #[.int .i64 (0), .int .i64 (0)] 28)).alloc (.cells #[.int .i64 (0), .int .i64 (0)] 28)) := ⟨_, rfl⟩
  rw [← hX2] at s1 s2 HBn ⊢
  clear hX2 he2 HB
  replace s1 := Lib.hid s1
  replace s2 := Lib.hid s2
  have HB := Lib.hid HBn; have HK1 := Lib.hid hk1; clear HBn hk1
  go_wp2_with fail
  refine Calls.mono (EL.out _ (HT.out.below HB.out)) ?_
  rintro e wn3 ⟨rfl, hb⟩
  have Hd3_1 := Lib.hid (s1.out.below hb).lt
  have Hd3_2 := Lib.hid (s2.out.below hb).lt
  replace s1 := Lib.hid ((s1.out.below hb).alloc (.cells #[.int .i64 (e1), .int .i64 (e2)] 28))
  replace s2 := Lib.hid ((s2.out.below hb).alloc (.cells #[.int .i64 (e1), .int .i64 (e2)] 28))
  have HB3 := HB.out.trans (hb.mono HB.out.size)
  clear hb
  have Hkl3 := Lib.hid HB3.size; replace HB := Lib.hid (HB3.alloc HB3.size (.cells #[.int .i64 (e1), .int .i64 (e2)] 28))
  clear HB3
  have s3 := Lib.hid (SpBox.new wn3 (e1) (e2))
  obtain ⟨k3, hk3⟩ : ∃ x, x = wn3.heap.size := ⟨_, rfl⟩
  rw [← hk3] at s3 Hkl3 Hd3_1 Hd3_2
  go_upto_region 2 with fail
  rw [← hk3]
  obtain ⟨X3, hX3⟩ : ∃ X, X = wn3.alloc (.cells #[.int .i64 (e1), .int .i64 (e2)] 28) := ⟨_, rfl⟩
  rw [← hX3] at s1 s2 s3 HB ⊢
  clear hk3 hX3
  by_cases c : 1000000000 < e1 + e2
  · skip
    obtain rfl : O = 1000000000 := by have := D5.out; rw [if_pos c] at this; exact this
    have h1 : wrap64 (e1 - 1000000000) = e1 - 1000000000 := IntWalk.wrap64_in _ (by have := BB.out; omega)
    have h2 : wrap64 (e2 - 1000000000) = e2 - 1000000000 := IntWalk.wrap64_in _ (by have := BB.out; have := BC.out; omega)
    have g1 : wrap64 (377 * (e1 - 1000000000)) = o1 := by rw [D1.out]; exact IntWalk.wrap64_in _ (by have := BB.out; omega)
    have g2 : wrap64 (377 * (e2 - 1000000000)) = o2 := by rw [D2.out]; exact IntWalk.wrap64_in _ (by have := BB.out; have := BC.out; omega)
    have sc3_0 := s3.out.c0; have sc3_1 := s3.out.c1; have sc3_l := s3.out.lt
    have f0 := s3.out.free 0; have f1 := s3.out.free 1
    go_upto_region 4 with fail
    clear sc3_0 sc3_1 sc3_l
    clear f0 f1
    have t3 := s3.out.set (e1 - 1000000000) (e2 - 1000000000)
    have t1 := (s1.out.other (a := ⟨k3, 0, none⟩) (Nat.ne_of_lt Hd3_1.out) (.int .i64 (e1 - 1000000000))).other (a := ⟨k3, 1, none⟩) (Nat.ne_of_lt Hd3_1.out) (.int .i64 (e2 - 1000000000))
    have t2 := (s2.out.other (a := ⟨k3, 0, none⟩) (Nat.ne_of_lt Hd3_2.out) (.int .i64 (e1 - 1000000000))).other (a := ⟨k3, 1, none⟩) (Nat.ne_of_lt Hd3_2.out) (.int .i64 (e2 - 1000000000))
    have tB := (HB.out.setCell (p := ⟨k3, 0, none⟩) Hkl3.out (.int .i64 (e1 - 1000000000))).setCell (p := ⟨k3, 1, none⟩) Hkl3.out (.int .i64 (e2 - 1000000000))
    obtain ⟨Y, hY⟩ : ∃ Y, Y = (X3.setCell ⟨k3, 0, none⟩ (.int .i64 (e1 - 1000000000))).setCell ⟨k3, 1, none⟩ (.int .i64 (e2 - 1000000000)) := ⟨_, rfl⟩
    rw [← hY] at t1 t2 t3 tB ⊢
    clear hY s1 s2 s3 HB c h1 h2 g0
    have s1 := Lib.hid t1; have s2 := Lib.hid t2; have s3 := Lib.hid t3; have HB := Lib.hid tB
    clear t1 t2 t3 tB
    go_wp2_with fail
    refine Calls.mono (LA.out _ (HT.out.below HB.out)) ?_
    rintro e wn4 ⟨rfl, hb⟩
    have Hd4_1 := Lib.hid (s1.out.below hb).lt
    have Hd4_2 := Lib.hid (s2.out.below hb).lt
    have Hd4_3 := Lib.hid (s3.out.below hb).lt
    replace s1 := Lib.hid ((s1.out.below hb).alloc (.cells #[.int .i64 (b1), .int .i64 (b2)] 28))
    replace s2 := Lib.hid ((s2.out.below hb).alloc (.cells #[.int .i64 (b1), .int .i64 (b2)] 28))
    replace s3 := Lib.hid ((s3.out.below hb).alloc (.cells #[.int .i64 (b1), .int .i64 (b2)] 28))
    have HB4 := HB.out.trans (hb.mono HB.out.size)
    clear hb
    have Hkl4 := Lib.hid HB4.size; replace HB := Lib.hid (HB4.alloc HB4.size (.cells #[.int .i64 (b1), .int .i64 (b2)] 28))
    clear HB4
    have s4 := Lib.hid (SpBox.new wn4 (b1) (b2))
    obtain ⟨k4, hk4⟩ : ∃ x, x = wn4.heap.size := ⟨_, rfl⟩
    rw [← hk4] at s4 Hkl4 Hd4_1 Hd4_2 Hd4_3
    go_upto_region 5 with fail
    rw [← hk4]
    obtain ⟨X4, hX4⟩ : ∃ X, X = wn4.alloc (.cells #[.int .i64 (b1), .int .i64 (b2)] 28) := ⟨_, rfl⟩
    rw [← hX4] at s1 s2 s3 s4 HB ⊢
    clear hk4 hX4
    have ne1_2 := Nat.ne_of_lt Hd2_1.out; have ne2_1 := Nat.ne_of_gt Hd2_1.out
    have ne1_3 := Nat.ne_of_lt Hd3_1.out; have ne3_1 := Nat.ne_of_gt Hd3_1.out
    have ne1_4 := Nat.ne_of_lt Hd4_1.out; have ne4_1 := Nat.ne_of_gt Hd4_1.out
    have ne2_3 := Nat.ne_of_lt Hd3_2.out; have ne3_2 := Nat.ne_of_gt Hd3_2.out
    have ne2_4 := Nat.ne_of_lt Hd4_2.out; have ne4_2 := Nat.ne_of_gt Hd4_2.out
    have ne3_4 := Nat.ne_of_lt Hd4_3.out; have ne4_3 := Nat.ne_of_gt Hd4_3.out
    obtain ⟨XD9, hXD9⟩ : ∃ x, x = X4.drew := ⟨_, rfl⟩
    have hf : SpBox XD9 k3 (e1 - 1000000000) (e2 - 1000000000) ∧ SpBox XD9 k4 b1 b2 ∧ SpBox XD9 k1 0 0 ∧ SpBox XD9 k2 0 0 := by rw [hXD9]; exact ⟨s3.out.drew, s4.out.drew, s1.out.drew, s2.out.drew⟩
    have HBF : Hid (Below w.heap.size w XD9) := Lib.hid (by rw [hXD9]; exact HB.out.drew)
    have HXD9 := Lib.hid hXD9
    clear hXD9
    have KK := Lib.hid (And.intro Hkl1.out Hkl2.out)
    (try clear EL)
    (try clear LA)
    (try clear HT)
    (try clear HK1)
    (try clear s1)
    (try clear s2)
    (try clear s3)
    (try clear s4)
    (try clear HB)
    (try clear Hkl1)
    (try clear Hkl2)
    (try clear Hd2_1)
    (try clear Hd3_1)
    (try clear Hd3_2)
    (try clear Hkl3)
    (try clear Hd4_1)
    (try clear Hd4_2)
    (try clear Hd4_3)
    (try clear Hkl4)
    refine wp_region_G [(15, fun w' => SpBox w' k3 (e1 - 1000000000) (e2 - 1000000000) ∧ SpBox w' k4 b1 b2)] (by kernel_rfl) (heldC_one (fun _ => by rw [← HXD9.out]; exact ⟨hf.1, hf.2.1⟩)) (fun hF => ?_)
    rw [← HXD9.out] at hF ⊢
    refine gT (oi := ?o113) (v := ?v113) 0 ?i113 ?Q113 hF ?w113 ?y113 (by kernel_rfl) (fun hF => ?h113)
    case i113 => (simp only [gA, gB, gC]; rfl)
    case Q113 => exact fun _ _ _ h => h
    case w113 => rfl
    case y113 => (intro wz hz; skip; go_simp; try (with_reducible rfl))
    try simp only [Act.put, uA, uB, uC]
    refine gT (oi := ?o114) (v := ?v114) 1 ?i114 ?Q114 hF ?w114 ?y114 (by kernel_rfl) (fun hF => ?h114)
    case i114 => (simp only [gA, gB, gC]; rfl)
    case Q114 => exact fun _ _ _ h => h
    case w114 => rfl
    case y114 => (intro wz hz; have z0 := hz.1.c0; go_simp; try (with_reducible rfl))
    try simp only [Act.put, uA, uB, uC]
    refine gT (oi := ?o115) (v := ?v115) 2 ?i115 ?Q115 hF ?w115 ?y115 (by kernel_rfl) (fun hF => ?h115)
    case i115 => (simp only [gA, gB, gC]; rfl)
    case Q115 => exact fun _ _ _ h => h
    case w115 => rfl
    case y115 => (intro wz hz; skip; go_simp; try (with_reducible rfl))
    try simp only [Act.put, uA, uB, uC]
    refine gT (oi := ?o116) (v := ?v116) 3 ?i116 ?Q116 hF ?w116 ?y116 (by kernel_rfl) (fun hF => ?h116)
    case i116 => (simp only [gA, gB, gC]; rfl)
    case Q116 => exact fun _ _ _ h => h
    case w116 => rfl
    case y116 => (intro wz hz; skip; go_simp; try (with_reducible rfl))
    try simp only [Act.put, uA, uB, uC]
    refine gT (oi := ?o117) (v := ?v117) 4 ?i117 ?Q117 hF ?w117 ?y117 (by kernel_rfl) (fun hF => ?h117)
    case i117 => (simp only [gA, gB, gC]; rfl)
    case Q117 => exact fun _ _ _ h => h
    case w117 => rfl
    case y117 => (intro wz hz; have z0 := hz.1.c1; go_simp; try (with_reducible rfl))
    try simp only [Act.put, uA, uB, uC]
    refine gT (oi := ?o118) (v := ?v118) 5 ?i118 ?Q118 hF ?w118 ?y118 (by kernel_rfl) (fun hF => ?h118)
    case i118 => (simp only [gA, gB, gC]; rfl)
    case Q118 => exact fun _ _ _ h => h
    case w118 => rfl
    case y118 => (intro wz hz; skip; go_simp; try (with_reducible rfl))
    try simp only [Act.put, uA, uB, uC]
    refine gT (oi := ?o119) (v := ?v119) 6 ?i119 ?Q119 hF ?w119 ?y119 (by kernel_rfl) (fun hF => ?h119)
    case i119 => (simp only [gA, gB, gC]; rfl)
    case Q119 => exact fun _ _ _ h => h
    case w119 => rfl
    case y119 => (intro wz hz; skip; go_simp; try (with_reducible rfl))
    try simp only [Act.put, uA, uB, uC]
    refine gT (oi := ?o120) (v := ?v120) 7 ?i120 ?Q120 hF ?w120 ?y120 (by kernel_rfl) (fun hF => ?h120)
    case i120 => (simp only [gA, gB, gC]; rfl)
    case Q120 => exact fun _ _ _ h => h
    case w120 => rfl
    case y120 => (intro wz hz; skip; go_simp; try (with_reducible rfl))
    try simp only [Act.put, uA, uB, uC]
    refine gT (oi := ?o121) (v := ?v121) 8 ?i121 ?Q121 hF ?w121 ?y121 (by kernel_rfl) (fun hF => ?h121)
    case i121 => (simp only [gA, gB, gC]; rfl)
    case Q121 => exact fun _ _ _ h => h
    case w121 => rfl
    case y121 => (intro wz hz; have z0 := hz.2.c0; go_simp; try (with_reducible rfl))
    try simp only [Act.put, uA, uB, uC]
    refine gT (oi := ?o122) (v := ?v122) 9 ?i122 ?Q122 hF ?w122 ?y122 (by kernel_rfl) (fun hF => ?h122)
    case i122 => (simp only [gA, gB, gC]; rfl)
    case Q122 => exact fun _ _ _ h => h
    case w122 => rfl
    case y122 => (intro wz hz; skip; go_simp; try (with_reducible rfl))
    try simp only [Act.put, uA, uB, uC]
    refine gT (oi := ?o123) (v := ?v123) 10 ?i123 ?Q123 hF ?w123 ?y123 (by kernel_rfl) (fun hF => ?h123)
    case i123 => (simp only [gA, gB, gC]; rfl)
    case Q123 => exact fun _ _ _ h => h
    case w123 => rfl
    case y123 => (intro wz hz; skip; go_simp; try (with_reducible rfl))
    try simp only [Act.put, uA, uB, uC]
    refine gT (oi := ?o124) (v := ?v124) 11 ?i124 ?Q124 hF ?w124 ?y124 (by kernel_rfl) (fun hF => ?h124)
    case i124 => (simp only [gA, gB, gC]; rfl)
    case Q124 => exact fun _ _ _ h => h
    case w124 => rfl
    case y124 => (intro wz hz; have z0 := hz.2.c1; go_simp; try (with_reducible rfl))
    try simp only [Act.put, uA, uB, uC]
    refine gT (oi := ?o125) (v := ?v125) 12 ?i125 ?Q125 hF ?w125 ?y125 (by kernel_rfl) (fun hF => ?h125)
    case i125 => (simp only [gA, gB, gC]; rfl)
    case Q125 => exact fun _ _ _ h => h
    case w125 => rfl
    case y125 => (intro wz hz; skip; go_simp; try (with_reducible rfl))
    try simp only [Act.put, uA, uB, uC]
    refine gT (oi := ?o126) (v := ?v126) 13 ?i126 ?Q126 hF ?w126 ?y126 (by kernel_rfl) (fun hF => ?h126)
    case i126 => (simp only [gA, gB, gC]; rfl)
    case Q126 => exact fun _ _ _ h => h
    case w126 => rfl
    case y126 => (intro wz hz; skip; go_simp; try (with_reducible rfl))
    try simp only [Act.put, uA, uB, uC]
    rw [show IntKind.i64.wrap (377 * (e1 - 1000000000)) = o1 from (IntWalk.i64_left _).trans g1, show IntKind.i64.wrap (377 * (e2 - 1000000000)) = o2 from (IntWalk.i64_left _).trans g2, show IntKind.i64.wrap (377 * b1) = o3 from (IntWalk.i64_left _).trans g3, show IntKind.i64.wrap (377 * b2) = o4 from (IntWalk.i64_left _).trans g4]
    refine gR (i := 14) (by kernel_rfl) ?_
    have x0 := hf.2.2.1.c0; have x1 := hf.2.2.1.c1; have x2 := hf.2.2.1.free 0; have x3 := hf.2.2.1.free 1; have x4 := hf.2.2.1.lt
    refine wpOp_hand (oi := ?oi127) ?hi127 (fun K hK => ?hh127)
    case hi127 => (simp only [gA, gB, gC]; rfl)
    go_simp
    refine hK.out _ _ (heldC_one (fun _ => ⟨(hf.1.other (a := ⟨k1, 0, none⟩) ne3_1 (.int .i64 o1)).other (a := ⟨k1, 1, none⟩) ne3_1 (.int .i64 o2), (hf.2.1.other (a := ⟨k1, 0, none⟩) ne4_1 (.int .i64 o1)).other (a := ⟨k1, 1, none⟩) ne4_1 (.int .i64 o2)⟩)) (fun hF => ?_)
    clear hK K
    try simp only [Act.put, uA, uB, uC]
    clear x0 x1 x2 x3 x4
    refine gR (i := 15) (by kernel_rfl) ?_
    have y := (hf.2.2.2.other (a := ⟨k1, 0, none⟩) ne2_1 (.int .i64 o1)).other (a := ⟨k1, 1, none⟩) ne2_1 (.int .i64 o2)
    have x0 := y.c0; have x1 := y.c1; have x2 := y.free 0; have x3 := y.free 1; have x4 := y.lt
    refine wpOp_hand (oi := ?oi128) ?hi128 (fun K hK => ?hh128)
    case hi128 => (simp only [gA, gB, gC]; rfl)
    go_simp
    refine hK.out _ _ (heldC_one (fun h => absurd h (by simp))) (fun hF => ?_)
    clear hK K
    try simp only [Act.put, uA, uB, uC]
    refine wpG_done (by kernel_rfl) ?_ _
    have y3 := ((hf.2.2.1.set o1 o2).other (a := ⟨k2, 0, none⟩) ne1_2 (.int .i64 o3)).other (a := ⟨k2, 1, none⟩) ne1_2 (.int .i64 o4)
    have y4 := ((hf.2.2.2.other (a := ⟨k1, 0, none⟩) ne2_1 (.int .i64 o1)).other (a := ⟨k1, 1, none⟩) ne2_1 (.int .i64 o2)).set o3 o4
    have hbl := (((HBF.out.setCell (p := ⟨k1, 0, none⟩) KK.out.1 (.int .i64 o1)).setCell (p := ⟨k1, 1, none⟩) KK.out.1 (.int .i64 o2)).setCell (p := ⟨k2, 0, none⟩) KK.out.2 (.int .i64 o3)).setCell (p := ⟨k2, 1, none⟩) KK.out.2 (.int .i64 o4)
    obtain ⟨W4, hW4⟩ : ∃ x, x = (((XD9.setCell ⟨k1, 0, none⟩ (.int .i64 o1)).setCell ⟨k1, 1, none⟩ (.int .i64 o2)).setCell ⟨k2, 0, none⟩ (.int .i64 o3)).setCell ⟨k2, 1, none⟩ (.int .i64 o4) := ⟨_, rfl⟩
    rw [← hW4] at y3 y4 hbl ⊢
    repeat (clear hF)
    clear hW4 y hf KK HBF HXD9 ne1_2 ne2_1 ne1_3 ne3_1 ne1_4 ne4_1 ne2_3 ne3_2 ne2_4 ne4_2 ne3_4 ne4_3 x0 x1 x2 x3 x4
    have c30 := y3.c0; have c31 := y3.c1; have c40 := y4.c0; have c41 := y4.c1
    clear y3 y4
    go_wp
    refine bodyPost_ret (v := .tuple #[.agg #[.int .i64 o1, .int .i64 o2], .agg #[.int .i64 o3, .int .i64 o4]]) ?_ rfl ⟨rfl, hbl⟩
    simp [results, Tryz.results52, go_sem, c30, c31, c40, c41]
  · skip
    obtain rfl : O = 0 := by have := D5.out; rw [if_neg c] at this; exact this
    have g1 : wrap64 (377 * e1) = o1 := by rw [D1.out, Int.sub_zero]; exact IntWalk.wrap64_in _ (by have := BB.out; omega)
    have g2 : wrap64 (377 * e2) = o2 := by rw [D2.out, Int.sub_zero]; exact IntWalk.wrap64_in _ (by have := BB.out; have := BC.out; omega)
    have sc3_0 := s3.out.c0; have sc3_1 := s3.out.c1; have sc3_l := s3.out.lt
    go_upto_region 4 with fail
    clear sc3_0 sc3_1 sc3_l
    clear c g0
    go_wp2_with fail
    refine Calls.mono (LA.out _ (HT.out.below HB.out)) ?_
    rintro e wn4 ⟨rfl, hb⟩
    have Hd4_1 := Lib.hid (s1.out.below hb).lt
    have Hd4_2 := Lib.hid (s2.out.below hb).lt
    have Hd4_3 := Lib.hid (s3.out.below hb).lt
    replace s1 := Lib.hid ((s1.out.below hb).alloc (.cells #[.int .i64 (b1), .int .i64 (b2)] 28))
    replace s2 := Lib.hid ((s2.out.below hb).alloc (.cells #[.int .i64 (b1), .int .i64 (b2)] 28))
    replace s3 := Lib.hid ((s3.out.below hb).alloc (.cells #[.int .i64 (b1), .int .i64 (b2)] 28))
    have HB4 := HB.out.trans (hb.mono HB.out.size)
    clear hb
    have Hkl4 := Lib.hid HB4.size; replace HB := Lib.hid (HB4.alloc HB4.size (.cells #[.int .i64 (b1), .int .i64 (b2)] 28))
    clear HB4
    have s4 := Lib.hid (SpBox.new wn4 (b1) (b2))
    obtain ⟨k4, hk4⟩ : ∃ x, x = wn4.heap.size := ⟨_, rfl⟩
    rw [← hk4] at s4 Hkl4 Hd4_1 Hd4_2 Hd4_3
    go_upto_region 5 with fail
    rw [← hk4]
    obtain ⟨X4, hX4⟩ : ∃ X, X = wn4.alloc (.cells #[.int .i64 (b1), .int .i64 (b2)] 28) := ⟨_, rfl⟩
    rw [← hX4] at s1 s2 s3 s4 HB ⊢
    clear hk4 hX4
    have ne1_2 := Nat.ne_of_lt Hd2_1.out; have ne2_1 := Nat.ne_of_gt Hd2_1.out
    have ne1_3 := Nat.ne_of_lt Hd3_1.out; have ne3_1 := Nat.ne_of_gt Hd3_1.out
    have ne1_4 := Nat.ne_of_lt Hd4_1.out; have ne4_1 := Nat.ne_of_gt Hd4_1.out
    have ne2_3 := Nat.ne_of_lt Hd3_2.out; have ne3_2 := Nat.ne_of_gt Hd3_2.out
    have ne2_4 := Nat.ne_of_lt Hd4_2.out; have ne4_2 := Nat.ne_of_gt Hd4_2.out
    have ne3_4 := Nat.ne_of_lt Hd4_3.out; have ne4_3 := Nat.ne_of_gt Hd4_3.out
    obtain ⟨XD9, hXD9⟩ : ∃ x, x = X4.drew := ⟨_, rfl⟩
    have hf : SpBox XD9 k3 (e1) (e2) ∧ SpBox XD9 k4 b1 b2 ∧ SpBox XD9 k1 0 0 ∧ SpBox XD9 k2 0 0 := by rw [hXD9]; exact ⟨s3.out.drew, s4.out.drew, s1.out.drew, s2.out.drew⟩
    have HBF : Hid (Below w.heap.size w XD9) := Lib.hid (by rw [hXD9]; exact HB.out.drew)
    have HXD9 := Lib.hid hXD9
    clear hXD9
    have KK := Lib.hid (And.intro Hkl1.out Hkl2.out)
    (try clear EL)
    (try clear LA)
    (try clear HT)
    (try clear HK1)
    (try clear s1)
    (try clear s2)
    (try clear s3)
    (try clear s4)
    (try clear HB)
    (try clear Hkl1)
    (try clear Hkl2)
    (try clear Hd2_1)
    (try clear Hd3_1)
    (try clear Hd3_2)
    (try clear Hkl3)
    (try clear Hd4_1)
    (try clear Hd4_2)
    (try clear Hd4_3)
    (try clear Hkl4)
    refine wp_region_G [(15, fun w' => SpBox w' k3 (e1) (e2) ∧ SpBox w' k4 b1 b2)] (by kernel_rfl) (heldC_one (fun _ => by rw [← HXD9.out]; exact ⟨hf.1, hf.2.1⟩)) (fun hF => ?_)
    rw [← HXD9.out] at hF ⊢
    refine gT (oi := ?o129) (v := ?v129) 0 ?i129 ?Q129 hF ?w129 ?y129 (by kernel_rfl) (fun hF => ?h129)
    case i129 => (simp only [gA, gB, gC]; rfl)
    case Q129 => exact fun _ _ _ h => h
    case w129 => rfl
    case y129 => (intro wz hz; skip; go_simp; try (with_reducible rfl))
    try simp only [Act.put, uA, uB, uC]
    refine gT (oi := ?o130) (v := ?v130) 1 ?i130 ?Q130 hF ?w130 ?y130 (by kernel_rfl) (fun hF => ?h130)
    case i130 => (simp only [gA, gB, gC]; rfl)
    case Q130 => exact fun _ _ _ h => h
    case w130 => rfl
    case y130 => (intro wz hz; have z0 := hz.1.c0; go_simp; try (with_reducible rfl))
    try simp only [Act.put, uA, uB, uC]
    refine gT (oi := ?o131) (v := ?v131) 2 ?i131 ?Q131 hF ?w131 ?y131 (by kernel_rfl) (fun hF => ?h131)
    case i131 => (simp only [gA, gB, gC]; rfl)
    case Q131 => exact fun _ _ _ h => h
    case w131 => rfl
    case y131 => (intro wz hz; skip; go_simp; try (with_reducible rfl))
    try simp only [Act.put, uA, uB, uC]
    refine gT (oi := ?o132) (v := ?v132) 3 ?i132 ?Q132 hF ?w132 ?y132 (by kernel_rfl) (fun hF => ?h132)
    case i132 => (simp only [gA, gB, gC]; rfl)
    case Q132 => exact fun _ _ _ h => h
    case w132 => rfl
    case y132 => (intro wz hz; skip; go_simp; try (with_reducible rfl))
    try simp only [Act.put, uA, uB, uC]
    refine gT (oi := ?o133) (v := ?v133) 4 ?i133 ?Q133 hF ?w133 ?y133 (by kernel_rfl) (fun hF => ?h133)
    case i133 => (simp only [gA, gB, gC]; rfl)
    case Q133 => exact fun _ _ _ h => h
    case w133 => rfl
    case y133 => (intro wz hz; have z0 := hz.1.c1; go_simp; try (with_reducible rfl))
    try simp only [Act.put, uA, uB, uC]
    refine gT (oi := ?o134) (v := ?v134) 5 ?i134 ?Q134 hF ?w134 ?y134 (by kernel_rfl) (fun hF => ?h134)
    case i134 => (simp only [gA, gB, gC]; rfl)
    case Q134 => exact fun _ _ _ h => h
    case w134 => rfl
    case y134 => (intro wz hz; skip; go_simp; try (with_reducible rfl))
    try simp only [Act.put, uA, uB, uC]
    refine gT (oi := ?o135) (v := ?v135) 6 ?i135 ?Q135 hF ?w135 ?y135 (by kernel_rfl) (fun hF => ?h135)
    case i135 => (simp only [gA, gB, gC]; rfl)
    case Q135 => exact fun _ _ _ h => h
    case w135 => rfl
    case y135 => (intro wz hz; skip; go_simp; try (with_reducible rfl))
    try simp only [Act.put, uA, uB, uC]
    refine gT (oi := ?o136) (v := ?v136) 7 ?i136 ?Q136 hF ?w136 ?y136 (by kernel_rfl) (fun hF => ?h136)
    case i136 => (simp only [gA, gB, gC]; rfl)
    case Q136 => exact fun _ _ _ h => h
    case w136 => rfl
    case y136 => (intro wz hz; skip; go_simp; try (with_reducible rfl))
    try simp only [Act.put, uA, uB, uC]
    refine gT (oi := ?o137) (v := ?v137) 8 ?i137 ?Q137 hF ?w137 ?y137 (by kernel_rfl) (fun hF => ?h137)
    case i137 => (simp only [gA, gB, gC]; rfl)
    case Q137 => exact fun _ _ _ h => h
    case w137 => rfl
    case y137 => (intro wz hz; have z0 := hz.2.c0; go_simp; try (with_reducible rfl))
    try simp only [Act.put, uA, uB, uC]
    refine gT (oi := ?o138) (v := ?v138) 9 ?i138 ?Q138 hF ?w138 ?y138 (by kernel_rfl) (fun hF => ?h138)
    case i138 => (simp only [gA, gB, gC]; rfl)
    case Q138 => exact fun _ _ _ h => h
    case w138 => rfl
    case y138 => (intro wz hz; skip; go_simp; try (with_reducible rfl))
    try simp only [Act.put, uA, uB, uC]
    refine gT (oi := ?o139) (v := ?v139) 10 ?i139 ?Q139 hF ?w139 ?y139 (by kernel_rfl) (fun hF => ?h139)
    case i139 => (simp only [gA, gB, gC]; rfl)
    case Q139 => exact fun _ _ _ h => h
    case w139 => rfl
    case y139 => (intro wz hz; skip; go_simp; try (with_reducible rfl))
    try simp only [Act.put, uA, uB, uC]
    refine gT (oi := ?o140) (v := ?v140) 11 ?i140 ?Q140 hF ?w140 ?y140 (by kernel_rfl) (fun hF => ?h140)
    case i140 => (simp only [gA, gB, gC]; rfl)
    case Q140 => exact fun _ _ _ h => h
    case w140 => rfl
    case y140 => (intro wz hz; have z0 := hz.2.c1; go_simp; try (with_reducible rfl))
    try simp only [Act.put, uA, uB, uC]
    refine gT (oi := ?o141) (v := ?v141) 12 ?i141 ?Q141 hF ?w141 ?y141 (by kernel_rfl) (fun hF => ?h141)
    case i141 => (simp only [gA, gB, gC]; rfl)
    case Q141 => exact fun _ _ _ h => h
    case w141 => rfl
    case y141 => (intro wz hz; skip; go_simp; try (with_reducible rfl))
    try simp only [Act.put, uA, uB, uC]
    refine gT (oi := ?o142) (v := ?v142) 13 ?i142 ?Q142 hF ?w142 ?y142 (by kernel_rfl) (fun hF => ?h142)
    case i142 => (simp only [gA, gB, gC]; rfl)
    case Q142 => exact fun _ _ _ h => h
    case w142 => rfl
    case y142 => (intro wz hz; skip; go_simp; try (with_reducible rfl))
    try simp only [Act.put, uA, uB, uC]
    rw [show IntKind.i64.wrap (377 * (e1)) = o1 from (IntWalk.i64_left _).trans g1, show IntKind.i64.wrap (377 * (e2)) = o2 from (IntWalk.i64_left _).trans g2, show IntKind.i64.wrap (377 * b1) = o3 from (IntWalk.i64_left _).trans g3, show IntKind.i64.wrap (377 * b2) = o4 from (IntWalk.i64_left _).trans g4]
    refine gR (i := 14) (by kernel_rfl) ?_
    have x0 := hf.2.2.1.c0; have x1 := hf.2.2.1.c1; have x2 := hf.2.2.1.free 0; have x3 := hf.2.2.1.free 1; have x4 := hf.2.2.1.lt
    refine wpOp_hand (oi := ?oi143) ?hi143 (fun K hK => ?hh143)
    case hi143 => (simp only [gA, gB, gC]; rfl)
    go_simp
    refine hK.out _ _ (heldC_one (fun _ => ⟨(hf.1.other (a := ⟨k1, 0, none⟩) ne3_1 (.int .i64 o1)).other (a := ⟨k1, 1, none⟩) ne3_1 (.int .i64 o2), (hf.2.1.other (a := ⟨k1, 0, none⟩) ne4_1 (.int .i64 o1)).other (a := ⟨k1, 1, none⟩) ne4_1 (.int .i64 o2)⟩)) (fun hF => ?_)
    clear hK K
    try simp only [Act.put, uA, uB, uC]
    clear x0 x1 x2 x3 x4
    refine gR (i := 15) (by kernel_rfl) ?_
    have y := (hf.2.2.2.other (a := ⟨k1, 0, none⟩) ne2_1 (.int .i64 o1)).other (a := ⟨k1, 1, none⟩) ne2_1 (.int .i64 o2)
    have x0 := y.c0; have x1 := y.c1; have x2 := y.free 0; have x3 := y.free 1; have x4 := y.lt
    refine wpOp_hand (oi := ?oi144) ?hi144 (fun K hK => ?hh144)
    case hi144 => (simp only [gA, gB, gC]; rfl)
    go_simp
    refine hK.out _ _ (heldC_one (fun h => absurd h (by simp))) (fun hF => ?_)
    clear hK K
    try simp only [Act.put, uA, uB, uC]
    refine wpG_done (by kernel_rfl) ?_ _
    have y3 := ((hf.2.2.1.set o1 o2).other (a := ⟨k2, 0, none⟩) ne1_2 (.int .i64 o3)).other (a := ⟨k2, 1, none⟩) ne1_2 (.int .i64 o4)
    have y4 := ((hf.2.2.2.other (a := ⟨k1, 0, none⟩) ne2_1 (.int .i64 o1)).other (a := ⟨k1, 1, none⟩) ne2_1 (.int .i64 o2)).set o3 o4
    have hbl := (((HBF.out.setCell (p := ⟨k1, 0, none⟩) KK.out.1 (.int .i64 o1)).setCell (p := ⟨k1, 1, none⟩) KK.out.1 (.int .i64 o2)).setCell (p := ⟨k2, 0, none⟩) KK.out.2 (.int .i64 o3)).setCell (p := ⟨k2, 1, none⟩) KK.out.2 (.int .i64 o4)
    obtain ⟨W4, hW4⟩ : ∃ x, x = (((XD9.setCell ⟨k1, 0, none⟩ (.int .i64 o1)).setCell ⟨k1, 1, none⟩ (.int .i64 o2)).setCell ⟨k2, 0, none⟩ (.int .i64 o3)).setCell ⟨k2, 1, none⟩ (.int .i64 o4) := ⟨_, rfl⟩
    rw [← hW4] at y3 y4 hbl ⊢
    repeat (clear hF)
    clear hW4 y hf KK HBF HXD9 ne1_2 ne2_1 ne1_3 ne3_1 ne1_4 ne4_1 ne2_3 ne3_2 ne2_4 ne4_2 ne3_4 ne4_3 x0 x1 x2 x3 x4
    have c30 := y3.c0; have c31 := y3.c1; have c40 := y4.c0; have c41 := y4.c1
    clear y3 y4
    go_wp
    refine bodyPost_ret (v := .tuple #[.agg #[.int .i64 o1, .int .i64 o2], .agg #[.int .i64 o3, .int .i64 o4]]) ?_ rfl ⟨rfl, hbl⟩
    simp [results, Tryz.results52, go_sem, c30, c31, c40, c41]
end Go.Proofs.YtcopmgnfakjdhaaGreatDoor
