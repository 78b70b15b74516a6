/- TrigTurns: sines repeat behind a turn, and change sign with the angle and behind half a turn. -/
import Derived.Test.YtloaliddcaobeaaDoorTrigWorks
import Derived.Test.YtloaliddcaobeaaDoorTrigV
import Derived.Test.YtloaliddcaobeaaDoorAt
namespace Go.Proofs.YtloaliddcaobeaaDoor
open Go.RowKit
set_option linter.unusedSimpArgs false
set_option linter.unusedVariables false
theorem rat_int_le {p q : Int} {x : Rat} (h1 : (p : Rat) ≤ x + 1 / 10000000000) (h2 : x - 1 / 10000000000 ≤ (q : Rat)) : p ≤ q := by
  have : p < q + 1 := by
    apply int_lt_of_rat
    rw [int_rat]
    grind
  omega
theorem SN_half (a : Int) : Near (SN (a + 500000000)) (-SN a) (1 / 100000000000000000000) := by
  have h := SN_add a 500000000
  have q1 := SN_q2; have q2 := CN_q2
  have m1 := rmul_bd (SN_le a) (show -(4 * eq1) ≤ CN 500000000 + 1 ∧ CN 500000000 + 1 ≤ 4 * eq1 by unfold Near at q2; grind)
  have m2 := rmul_bd (CN_le a) (show -(4 * eq1) ≤ SN 500000000 ∧ SN 500000000 ≤ 4 * eq1 by unfold Near at q1; grind)
  unfold Near at *
  generalize SN (a + 500000000) = x at *
  generalize SN 500000000 = y at *
  generalize CN 500000000 = z at *
  clear q1 q2
  unfold e2 eq1 ep at *
  grind
theorem sLo_turn (a k : Int) : sLo (a + 1000000000 * k) = sLo a ∧ sHi (a + 1000000000 * k) = sHi a := by
  unfold sLo sHi; rw [Int.add_mul_emod_self_left]; exact ⟨rfl, rfl⟩
theorem turn_meets {a b : Int} (h : Near (SN b) (-SN a) (1 / 100000000000000000000)) : sLo b ≤ -sLo a ∧ -sHi a ≤ sHi b := by
  have A := sine_in a; have B := sine_in b
  have a1 := A.lo; have a2 := A.hi; have b1 := B.lo; have b2 := B.hi
  clear A B
  unfold Near at h
  constructor
  · refine rat_int_le (x := -(1000000000 * SN a)) (by grind) ?_
    rw [Rat.intCast_neg]; grind
  · refine rat_int_le (x := -(1000000000 * SN a)) ?_ (by grind)
    rw [Rat.intCast_neg]; grind
theorem neg_meets (a : Int) : sLo (-a) ≤ -sLo a ∧ -sHi a ≤ sHi (-a) := turn_meets (near_weak (SC_neg a).1 (by unfold e2; grind))
theorem half_meets (a : Int) : sLo (a + 500000000) ≤ -sLo a ∧ -sHi a ≤ sHi (a + 500000000) := turn_meets (SN_half a)
set_option maxRecDepth 100000 in
set_option maxHeartbeats 4000000 in
theorem trigTurns_walk (a k : Int) (w : World) (ht : SinT w) : Calls Tryd.prog 10 #[.int .i64 a, .int .i64 k] w fun e w' => e = .returned (.bool true) ∧ Below w.heap.size w w' := by
  have HW := Lib.hid (trigWorks_ok w ht)
  have HT := Lib.hid ht
  obtain ⟨x, hx⟩ : ∃ x, x = a.tmod 1000000000000 := ⟨_, rfl⟩
  obtain ⟨y, hy⟩ : ∃ y, y = k.tmod 1000 := ⟨_, rfl⟩
  have x1 : -1000000000000 < x ∧ x < 1000000000000 := by rw [hx]; exact ⟨Int.lt_tmod_of_pos _ (by omega), Int.tmod_lt_of_pos _ (by omega)⟩
  have y1 : -1000 < y ∧ y < 1000 := by rw [hy]; exact ⟨Int.lt_tmod_of_pos _ (by omega), Int.tmod_lt_of_pos _ (by omega)⟩
  obtain ⟨t1, t2⟩ := sLo_turn x y
  have I := sine_in x
  have I1 := I.bl; have I2 := I.bh; have I3 := I.le
  obtain ⟨n1, n2⟩ := neg_meets x
  obtain ⟨v1, v2⟩ := half_meets x
  have C1 := Lib.hid (fun w ht => trSin_ok x w ht (by omega))
  have C2 := Lib.hid (fun w ht => trSin_ok (x + 1000000000 * y) w ht (by omega))
  have C3 := Lib.hid (fun w ht => trSin_ok (-x) w ht (by omega))
  have C4 := Lib.hid (fun w ht => trSin_ok (x + 500000000) w ht (by omega))
  rw [t1, t2] at C2
  have M1 := Lib.hid (fun w => meets_true (sLo x) (sHi x) (sLo x) (sHi x) w I3 I3)
  have M2 := Lib.hid (fun w => meets_true (sLo (-x)) (sHi (-x)) (-sHi x) (-sLo x) w n1 n2)
  have M3 := Lib.hid (fun w => meets_true (sLo (x + 500000000)) (sHi (x + 500000000)) (-sHi x) (-sLo x) w v1 v2)
  obtain ⟨z, hz⟩ : ∃ z, z = x + 1000000000 * y := ⟨_, rfl⟩
  obtain ⟨n, hn⟩ : ∃ n, n = -x := ⟨_, rfl⟩
  obtain ⟨h, hh⟩ : ∃ h, h = x + 500000000 := ⟨_, rfl⟩
  rw [← hz] at C2; rw [← hn] at C3 M2; rw [← hh] at C4 M3
  have wz0 : wrap64 (1000000000 * y) = 1000000000 * y := IntWalk.wrap64_in _ (by omega)
  have wz : wrap64 (x + 1000000000 * y) = z := by rw [hz]; exact IntWalk.wrap64_in _ (by omega)
  have wn : wrap64 (-x) = n := by rw [hn]; exact IntWalk.wrap64_in _ (by omega)
  have wh : wrap64 (x + 500000000) = h := by rw [hh]; exact IntWalk.wrap64_in _ (by omega)
  have ex : a.tmod 1000000000000 = x := hx.symm
  have ey : k.tmod 1000 = y := hy.symm
  generalize sLo x = lo at *
  generalize sHi x = hi at *
  clear ht hz hn hh hx hy n1 n2 v1 v2 t1 t2 I x1 y1
  generalize sLo n = nlo at *
  generalize sHi n = nhi at *
  generalize sLo h = hlo at *
  generalize sHi h = hhi at *
  have e1 : wrap64 (-lo) = -lo := IntWalk.wrap64_in _ (by omega)
  have e2 : wrap64 (-hi) = -hi := IntWalk.wrap64_in _ (by omega)
  clear I1 I2 I3
  go_enter Tryd.func10, Tryd.ntmps10
  have HB := Lib.hid (Below.refl w.heap.size w)
  go_wp2_with fail
  refine Calls.mono (HW.out) ?_
  rintro e wc1 ⟨rfl, hb⟩
  replace HB := Lib.hid (HB.out.trans (hb.mono HB.out.size))
  clear hb
  go_wp2_with fail
  refine Calls.mono (C1.out _ (HT.out.below HB.out)) ?_
  rintro e wn1 ⟨rfl, hb⟩
  have HB1 := HB.out.trans (hb.mono HB.out.size)
  clear hb
  replace HB := Lib.hid (HB1.alloc HB1.size (.cells #[.int .i64 (lo), .int .i64 (hi)] 25))
  clear HB1
  have s1 := Lib.hid (SpBox.new wn1 (lo) (hi))
  obtain ⟨k1, hk1⟩ : ∃ x, x = wn1.heap.size := ⟨_, rfl⟩
  rw [← hk1] at s1
  go_upto_region 5 with fail
  rw [← hk1]
  obtain ⟨X1, hX1⟩ : ∃ X, X = wn1.alloc (.cells #[.int .i64 (lo), .int .i64 (hi)] 25) := ⟨_, rfl⟩
  rw [← hX1] at s1 HB ⊢
  clear hk1 hX1
  go_wp2_with fail
  refine Calls.mono (C2.out _ (HT.out.below HB.out)) ?_
  rintro e wn2 ⟨rfl, hb⟩
  replace s1 := Lib.hid ((s1.out.below hb).alloc (.cells #[.int .i64 (lo), .int .i64 (hi)] 25))
  have HB2 := HB.out.trans (hb.mono HB.out.size)
  clear hb
  replace HB := Lib.hid (HB2.alloc HB2.size (.cells #[.int .i64 (lo), .int .i64 (hi)] 25))
  clear HB2
  have s2 := Lib.hid (SpBox.new wn2 (lo) (hi))
  obtain ⟨k2, hk2⟩ : ∃ x, x = wn2.heap.size := ⟨_, rfl⟩
  rw [← hk2] at s2
  go_upto_region 6 with fail
  rw [← hk2]
  obtain ⟨X2, hX2⟩ : ∃ X, X = wn2.alloc (.cells #[.int .i64 (lo), .int .i64 (hi)] 25) := ⟨_, rfl⟩
  rw [← hX2] at s1 s2 HB ⊢
  clear hk2 hX2
  go_wp2_with fail
  refine Calls.mono (C3.out _ (HT.out.below HB.out)) ?_
  rintro e wn3 ⟨rfl, hb⟩
  replace s1 := Lib.hid ((s1.out.below hb).alloc (.cells #[.int .i64 (nlo), .int .i64 (nhi)] 25))
  replace s2 := Lib.hid ((s2.out.below hb).alloc (.cells #[.int .i64 (nlo), .int .i64 (nhi)] 25))
  have HB3 := HB.out.trans (hb.mono HB.out.size)
  clear hb
  replace HB := Lib.hid (HB3.alloc HB3.size (.cells #[.int .i64 (nlo), .int .i64 (nhi)] 25))
  clear HB3
  have s3 := Lib.hid (SpBox.new wn3 (nlo) (nhi))
  obtain ⟨k3, hk3⟩ : ∃ x, x = wn3.heap.size := ⟨_, rfl⟩
  rw [← hk3] at s3
  go_upto_region 7 with fail
  rw [← hk3]
  obtain ⟨X3, hX3⟩ : ∃ X, X = wn3.alloc (.cells #[.int .i64 (nlo), .int .i64 (nhi)] 25) := ⟨_, rfl⟩
  rw [← hX3] at s1 s2 s3 HB ⊢
  clear hk3 hX3
  go_wp2_with fail
  refine Calls.mono (C4.out _ (HT.out.below HB.out)) ?_
  rintro e wn4 ⟨rfl, hb⟩
  replace s1 := Lib.hid ((s1.out.below hb).alloc (.cells #[.int .i64 (hlo), .int .i64 (hhi)] 25))
  replace s2 := Lib.hid ((s2.out.below hb).alloc (.cells #[.int .i64 (hlo), .int .i64 (hhi)] 25))
  replace s3 := Lib.hid ((s3.out.below hb).alloc (.cells #[.int .i64 (hlo), .int .i64 (hhi)] 25))
  have HB4 := HB.out.trans (hb.mono HB.out.size)
  clear hb
  replace HB := Lib.hid (HB4.alloc HB4.size (.cells #[.int .i64 (hlo), .int .i64 (hhi)] 25))
  clear HB4
  have s4 := Lib.hid (SpBox.new wn4 (hlo) (hhi))
  obtain ⟨k4, hk4⟩ : ∃ x, x = wn4.heap.size := ⟨_, rfl⟩
  rw [← hk4] at s4
  go_upto_region 8 with fail
  rw [← hk4]
  obtain ⟨X4, hX4⟩ : ∃ X, X = wn4.alloc (.cells #[.int .i64 (hlo), .int .i64 (hhi)] 25) := ⟨_, rfl⟩
  rw [← hX4] at s1 s2 s3 s4 HB ⊢
  clear hk4 hX4
  have sc1_0 := s1.out.c0; have sc1_1 := s1.out.c1; have sc1_l := s1.out.lt
  obtain ⟨wn5, hwn5⟩ : ∃ x, x = X4 := ⟨_, rfl⟩
  go_upto_region 9 with fail
  rw [← hwn5]
  replace s1 := Lib.hid (s1.out.alloc (.cells #[.int .i64 (-hi), .int .i64 (-lo)] 25))
  replace s2 := Lib.hid (s2.out.alloc (.cells #[.int .i64 (-hi), .int .i64 (-lo)] 25))
  replace s3 := Lib.hid (s3.out.alloc (.cells #[.int .i64 (-hi), .int .i64 (-lo)] 25))
  replace s4 := Lib.hid (s4.out.alloc (.cells #[.int .i64 (-hi), .int .i64 (-lo)] 25))
  have HB5 := HB.out
  clear sc1_0 sc1_1 sc1_l
  rw [← hwn5] at s1 s2 s3 s4 HB5
  clear hwn5
  replace HB := Lib.hid (HB5.alloc HB5.size (.cells #[.int .i64 (-hi), .int .i64 (-lo)] 25))
  clear HB5
  have s5 := Lib.hid (SpBox.new wn5 (-hi) (-lo))
  obtain ⟨k5, hk5⟩ : ∃ x, x = wn5.heap.size := ⟨_, rfl⟩
  rw [← hk5] at s5
  rw [← hk5]
  obtain ⟨X5, hX5⟩ : ∃ X, X = wn5.alloc (.cells #[.int .i64 (-hi), .int .i64 (-lo)] 25) := ⟨_, rfl⟩
  rw [← hX5] at s1 s2 s3 s4 s5 HB ⊢
  clear hk5 hX5
  have sc1_0 := s1.out.c0; have sc1_1 := s1.out.c1; have sc1_l := s1.out.lt
  have sc2_0 := s2.out.c0; have sc2_1 := s2.out.c1; have sc2_l := s2.out.lt
  have sc3_0 := s3.out.c0; have sc3_1 := s3.out.c1; have sc3_l := s3.out.lt
  have sc5_0 := s5.out.c0; have sc5_1 := s5.out.c1; have sc5_l := s5.out.lt
  go_wp2_with fail
  refine Calls.mono (M1.out _) ?_
  rintro e wc2 ⟨rfl, hb⟩
  replace s1 := Lib.hid (s1.out.below hb)
  replace s2 := Lib.hid (s2.out.below hb)
  replace s3 := Lib.hid (s3.out.below hb)
  replace s4 := Lib.hid (s4.out.below hb)
  replace s5 := Lib.hid (s5.out.below hb)
  replace HB := Lib.hid (HB.out.trans (hb.mono HB.out.size))
  clear sc1_0 sc1_1 sc1_l sc2_0 sc2_1 sc2_l sc3_0 sc3_1 sc3_l sc5_0 sc5_1 sc5_l
  clear hb
  have sc3_0 := s3.out.c0; have sc3_1 := s3.out.c1; have sc3_l := s3.out.lt
  have sc4_0 := s4.out.c0; have sc4_1 := s4.out.c1; have sc4_l := s4.out.lt
  have sc5_0 := s5.out.c0; have sc5_1 := s5.out.c1; have sc5_l := s5.out.lt
  go_wp2_with fail
  refine Calls.mono (M2.out _) ?_
  rintro e wc3 ⟨rfl, hb⟩
  replace s1 := Lib.hid (s1.out.below hb)
  replace s2 := Lib.hid (s2.out.below hb)
  replace s3 := Lib.hid (s3.out.below hb)
  replace s4 := Lib.hid (s4.out.below hb)
  replace s5 := Lib.hid (s5.out.below hb)
  replace HB := Lib.hid (HB.out.trans (hb.mono HB.out.size))
  clear sc3_0 sc3_1 sc3_l sc4_0 sc4_1 sc4_l sc5_0 sc5_1 sc5_l
  clear hb
  have sc4_0 := s4.out.c0; have sc4_1 := s4.out.c1; have sc4_l := s4.out.lt
  have sc5_0 := s5.out.c0; have sc5_1 := s5.out.c1; have sc5_l := s5.out.lt
  go_wp2_with fail
  refine Calls.mono (M3.out _) ?_
  rintro e wc4 ⟨rfl, hb⟩
  replace s1 := Lib.hid (s1.out.below hb)
  replace s2 := Lib.hid (s2.out.below hb)
  replace s3 := Lib.hid (s3.out.below hb)
  replace s4 := Lib.hid (s4.out.below hb)
  replace s5 := Lib.hid (s5.out.below hb)
  replace HB := Lib.hid (HB.out.trans (hb.mono HB.out.size))
  clear sc4_0 sc4_1 sc4_l sc5_0 sc5_1 sc5_l
  clear hb
  go_wp2_with fail
  go_ret
  exact ⟨rfl, HB.out⟩
end Go.Proofs.YtloaliddcaobeaaDoor
