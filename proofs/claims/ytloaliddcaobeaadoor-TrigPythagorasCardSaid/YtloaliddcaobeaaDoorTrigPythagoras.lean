/- TrigPythagoras: the squares of sine and cosine add up to 1. -/
import Derived.Test.YtloaliddcaobeaaDoorTrigWorks
import Derived.Test.YtloaliddcaobeaaDoorTrigN
import Derived.Test.YtloaliddcaobeaaDoorAt
namespace Go.Proofs.YtloaliddcaobeaaDoor
open Go.RowKit
set_option linter.unusedSimpArgs false
set_option linter.unusedVariables false
set_option maxRecDepth 100000 in
set_option maxHeartbeats 4000000 in
theorem trigPythagoras_walk (a : Int) (w : World) (ht : SinT w) : Calls Tryd.prog 14 #[.int .i64 a] w fun e w' => e = .returned (.bool true) ∧ Below w.heap.size w w' := by
  have HW := Lib.hid (trigWorks_ok w ht)
  have HT := Lib.hid ht
  obtain ⟨x, hx⟩ : ∃ x, x = a.tmod 1000000000000 := ⟨_, rfl⟩
  have x1 : -1000000000000 < x ∧ x < 1000000000000 := by rw [hx]; exact ⟨Int.lt_tmod_of_pos _ (by omega), Int.tmod_lt_of_pos _ (by omega)⟩
  have C1 := Lib.hid (fun w ht => trSin_ok x w ht (by omega))
  have C2 := Lib.hid (fun w ht => trCos_ok x w ht (by omega))
  obtain ⟨m1, v1, -, l1, o1, u1⟩ := span_mulOk (sin_span x) (sin_span x)
  obtain ⟨m2, v2, -, l2, o2, u2⟩ := span_mulOk (cos_span x) (cos_span x)
  obtain ⟨p1, p2⟩ := pyth_law x
  have M1 := Lib.hid (fun w => mul_ok _ _ _ _ w v1 v1 m1 ⟨l1, o1, u1⟩)
  have M2 := Lib.hid (fun w => mul_ok _ _ _ _ w v2 v2 m2 ⟨l2, o2, u2⟩)
  generalize pLo (sLo x) (sHi x) (sLo x) (sHi x) 1 = a1 at *
  generalize pHi (sLo x) (sHi x) (sLo x) (sHi x) 1 = a2 at *
  generalize pLo (cLo x) (cHi x) (cLo x) (cHi x) 1 = b1 at *
  generalize pHi (cLo x) (cHi x) (cLo x) (cHi x) 1 = b2 at *
  generalize sLo x = lo at *
  generalize sHi x = hi at *
  generalize cLo x = clo at *
  generalize cHi x = chi at *
  have w1 : wrap64 (a1 + b1) = a1 + b1 := IntWalk.wrap64_in _ (by omega)
  have w2 : wrap64 (a2 + b2) = a2 + b2 := IntWalk.wrap64_in _ (by omega)
  have ex : a.tmod 1000000000000 = x := hx.symm
  clear ht hx x1 m1 m2 v1 v2 l1 l2 o1 o2 u1 u2
  go_enter Tryd.func14, Tryd.ntmps14
  have HB := Lib.hid (Below.refl w.heap.size w)
  go_wp2_with fail
  refine Calls.mono (HW.out) ?_
  rintro e wc1 ⟨rfl, hb⟩
  replace HB := Lib.hid (HB.out.trans (hb.mono HB.out.size))
  clear hb
  go_wp2_with fail
  refine Calls.mono (C1.out _ (HT.out.below HB.out)) ?_
  rintro e wn1 ⟨rfl, hb⟩
  have HB1 := HB.out.trans (hb.mono HB.out.size)
  clear hb
  replace HB := Lib.hid (HB1.alloc HB1.size (.cells #[.int .i64 (lo), .int .i64 (hi)] 25))
  clear HB1
  have s1 := Lib.hid (SpBox.new wn1 (lo) (hi))
  obtain ⟨k1, hk1⟩ : ∃ x, x = wn1.heap.size := ⟨_, rfl⟩
  rw [← hk1] at s1
  go_upto_region 4 with fail
  rw [← hk1]
  obtain ⟨X1, hX1⟩ : ∃ X, X = wn1.alloc (.cells #[.int .i64 (lo), .int .i64 (hi)] 25) := ⟨_, rfl⟩
  rw [← hX1] at s1 HB ⊢
  clear hk1 hX1
  go_wp2_with fail
  refine Calls.mono (C2.out _ (HT.out.below HB.out)) ?_
  rintro e wn2 ⟨rfl, hb⟩
  replace s1 := Lib.hid ((s1.out.below hb).alloc (.cells #[.int .i64 (clo), .int .i64 (chi)] 25))
  have HB2 := HB.out.trans (hb.mono HB.out.size)
  clear hb
  replace HB := Lib.hid (HB2.alloc HB2.size (.cells #[.int .i64 (clo), .int .i64 (chi)] 25))
  clear HB2
  have s2 := Lib.hid (SpBox.new wn2 (clo) (chi))
  obtain ⟨k2, hk2⟩ : ∃ x, x = wn2.heap.size := ⟨_, rfl⟩
  rw [← hk2] at s2
  go_upto_region 5 with fail
  rw [← hk2]
  obtain ⟨X2, hX2⟩ : ∃ X, X = wn2.alloc (.cells #[.int .i64 (clo), .int .i64 (chi)] 25) := ⟨_, rfl⟩
  rw [← hX2] at s1 s2 HB ⊢
  clear hk2 hX2
  have sc1_0 := s1.out.c0; have sc1_1 := s1.out.c1; have sc1_l := s1.out.lt
  go_wp2_with fail
  refine Calls.mono (M1.out _) ?_
  rintro e wn3 ⟨rfl, hb⟩
  replace s1 := Lib.hid ((s1.out.below hb).alloc (.cells #[.int .i64 (a1), .int .i64 (a2)] 25))
  replace s2 := Lib.hid ((s2.out.below hb).alloc (.cells #[.int .i64 (a1), .int .i64 (a2)] 25))
  have HB3 := HB.out.trans (hb.mono HB.out.size)
  clear sc1_0 sc1_1 sc1_l
  clear hb
  replace HB := Lib.hid (HB3.alloc HB3.size (.cells #[.int .i64 (a1), .int .i64 (a2)] 25))
  clear HB3
  have s3 := Lib.hid (SpBox.new wn3 (a1) (a2))
  obtain ⟨k3, hk3⟩ : ∃ x, x = wn3.heap.size := ⟨_, rfl⟩
  rw [← hk3] at s3
  go_upto_region 6 with fail
  rw [← hk3]
  obtain ⟨X3, hX3⟩ : ∃ X, X = wn3.alloc (.cells #[.int .i64 (a1), .int .i64 (a2)] 25) := ⟨_, rfl⟩
  rw [← hX3] at s1 s2 s3 HB ⊢
  clear hk3 hX3
  have sc2_0 := s2.out.c0; have sc2_1 := s2.out.c1; have sc2_l := s2.out.lt
  go_wp2_with fail
  refine Calls.mono (M2.out _) ?_
  rintro e wn4 ⟨rfl, hb⟩
  replace s1 := Lib.hid ((s1.out.below hb).alloc (.cells #[.int .i64 (b1), .int .i64 (b2)] 25))
  replace s2 := Lib.hid ((s2.out.below hb).alloc (.cells #[.int .i64 (b1), .int .i64 (b2)] 25))
  replace s3 := Lib.hid ((s3.out.below hb).alloc (.cells #[.int .i64 (b1), .int .i64 (b2)] 25))
  have HB4 := HB.out.trans (hb.mono HB.out.size)
  clear sc2_0 sc2_1 sc2_l
  clear hb
  replace HB := Lib.hid (HB4.alloc HB4.size (.cells #[.int .i64 (b1), .int .i64 (b2)] 25))
  clear HB4
  have s4 := Lib.hid (SpBox.new wn4 (b1) (b2))
  obtain ⟨k4, hk4⟩ : ∃ x, x = wn4.heap.size := ⟨_, rfl⟩
  rw [← hk4] at s4
  go_upto_region 7 with fail
  rw [← hk4]
  obtain ⟨X4, hX4⟩ : ∃ X, X = wn4.alloc (.cells #[.int .i64 (b1), .int .i64 (b2)] 25) := ⟨_, rfl⟩
  rw [← hX4] at s1 s2 s3 s4 HB ⊢
  clear hk4 hX4
  have sc3_0 := s3.out.c0; have sc3_1 := s3.out.c1; have sc3_l := s3.out.lt
  have sc4_0 := s4.out.c0; have sc4_1 := s4.out.c1; have sc4_l := s4.out.lt
  go_wp2_with fail
  go_ret
  exact ⟨rfl, HB.out⟩
end Go.Proofs.YtloaliddcaobeaaDoor
