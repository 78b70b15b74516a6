/- Merged by wip/tools/pack.py out of XSkyAt, XDecP. -/
import Derived.Test.YtdeoahgcppbmkaaDoorEqP
import Derived.Test.YtdeoahgcppbmkaaDoorMoon
/- sun.At, moon.At. -/
namespace Go.Proofs.YtdeoahgcppbmkaaDoor
open Go.RowKit
set_option linter.unusedSimpArgs false
set_option linter.unusedVariables false
theorem lt_of_rat {a b c : Int} {x y : Rat} (h1 : (a : Rat) ≤ x) (h2 : y ≤ (b : Rat)) (h : x - y < (c : Rat) + 1) : a - b ≤ c := by
  have : a - b < c + 1 := by
    apply int_lt_of_rat
    rw [Rat.intCast_sub, Rat.intCast_add, show ((1 : Int) : Rat) = 1 from rfl]
    grind
  omega
theorem sl_width (t : Int) : slHi t - slLo t ≤ 4004 := by
  obtain ⟨k, a1, a2, a3, a4⟩ := sun_at t
  exact lt_of_rat (x := sunT (t : Rat) + 2000 + 2003 / 1000 - 1000000000 * (k : Rat)) (y := sunT (t : Rat) - 2000 - 2003 / 1000 - 1000000000 * (k : Rat)) (by grind) (by grind) (by rw [show ((4004 : Int) : Rat) = 4004 from rfl]; grind)
theorem ml_width (t : Int) : mlHi t - mlLo t ≤ 40004 := by
  obtain ⟨k, a1, a2, a3, a4⟩ := moon_at t
  exact lt_of_rat (x := moonT (t : Rat) + 20000 + 2003 / 1000 - 1000000000 * (k : Rat)) (y := moonT (t : Rat) - 20000 - 2003 / 1000 - 1000000000 * (k : Rat)) (by grind) (by grind) (by rw [show ((40004 : Int) : Rat) = 40004 from rfl]; grind)
/-- The moon's latitude. -/
def mlatT (t : Rat) : Rat := svT moonBZ 3 t
theorem mlat_at (t : Int) : SumAt (mbLo t) (mbHi t) (mlatT (t : Rat)) 20000 := by
  have h := sum_at (mean := 0) (rest := 20000) (t := t) (n := 3) (zs := moonBZ) (by omega) moonB_in.tm
  rw [show ((0 : Int) : Rat) + svT moonBZ 3 (t : Rat) = mlatT (t : Rat) by unfold mlatT; rw [show ((0 : Int) : Rat) = 0 from rfl]; grind] at h
  exact h
theorem mb_width (t : Int) : mbLo t ≤ mbHi t ∧ mbHi t - mbLo t ≤ 40002 := by
  obtain ⟨a1, a2, a3, a4⟩ := mlat_at t
  rw [show ((20000 : Int) : Rat) = 20000 from rfl] at a1 a2 a3 a4
  refine ⟨int_le_of_rat (by grind), ?_⟩
  exact lt_of_rat (x := mlatT (t : Rat) + 20000 + 1002 / 1000) (y := mlatT (t : Rat) - 20000 - 1002 / 1000) (by grind) (by grind) (by rw [show ((40002 : Int) : Rat) = 40002 from rfl]; grind)
theorem mb_tri (t : Rat) : -15796000 ≤ mlatT t ∧ mlatT t ≤ 15796000 := by
  have e : mlatT t = 0 + tmV moonBZ t 0 + tmV moonBZ t 1 + tmV moonBZ t 2 := rfl
  have t0 : tmV moonBZ t 0 = 14244783 * SA (phT 648500531 36748195111111 t) := rfl
  have t1 : tmV moonBZ t 1 = 779450 * SA (phT 747884547 73039842194444 t) := rfl
  have t2 : tmV moonBZ t 2 = 771369 * SA (phT 450883485 (-456548027778) t) := rfl
  have s0 := SA_le (phT 648500531 36748195111111 t); have s1 := SA_le (phT 747884547 73039842194444 t); have s2 := SA_le (phT 450883485 (-456548027778) t)
  rw [e, t0, t1, t2]
  unfold ep at *
  constructor <;> grind
theorem mb_bd (t : Int) : -15820000 ≤ mbLo t ∧ mbHi t ≤ 15820000 := by
  obtain ⟨a1, a2, a3, a4⟩ := mlat_at t
  have b := mb_tri (t : Rat)
  rw [show ((20000 : Int) : Rat) = 20000 from rfl] at a1 a2 a3 a4
  constructor
  · apply int_le_of_rat; rw [show ((-15820000 : Int) : Rat) = -15820000 from rfl]; grind
  · apply int_le_of_rat; rw [show ((15820000 : Int) : Rat) = 15820000 from rfl]; grind
theorem sun_eq (t : Int) : EqOk (slLo t) (slHi t) 0 0 := by
  have a : 0 ≤ slLo t ∧ slLo t < 1000000000 ∧ slLo t ≤ slHi t ∧ slHi t ≤ 130000000000 := an_bd sun_in
  have b := sl_width t
  generalize slLo t = x at *
  generalize slHi t = y at *
  exact eq_ok ⟨by omega, by omega, by omega⟩ (by omega) (by omega) (by omega) (by omega) (by omega)
theorem moon_eq (t : Int) : EqOk (mlLo t) (mlHi t) (mbLo t) (mbHi t) := by
  have a : 0 ≤ mlLo t ∧ mlLo t < 1000000000 ∧ mlLo t ≤ mlHi t ∧ mlHi t ≤ 130000000000 := an_bd moonL_in
  have b := ml_width t
  have c := mb_width t
  have d := mb_bd t
  generalize mlLo t = x at *
  generalize mlHi t = y at *
  generalize mbLo t = x' at *
  generalize mbHi t = y' at *
  exact eq_ok ⟨by omega, by omega, by omega⟩ (by omega) (by omega) (by omega) (by omega) (by omega)
/-- Right ascension and declination of the sun and the moon. -/
def sRL (t : Int) : Int := raLo (slLo t) (slHi t) 0 0
def sRH (t : Int) : Int := raHi (slLo t) (slHi t) 0 0
def sDL (t : Int) : Int := dcLo (slLo t) (slHi t) 0 0
def sDH (t : Int) : Int := dcHi (slLo t) (slHi t) 0 0
def mRL (t : Int) : Int := raLo (mlLo t) (mlHi t) (mbLo t) (mbHi t)
def mRH (t : Int) : Int := raHi (mlLo t) (mlHi t) (mbLo t) (mbHi t)
def mDL (t : Int) : Int := dcLo (mlLo t) (mlHi t) (mbLo t) (mbHi t)
def mDH (t : Int) : Int := dcHi (mlLo t) (mlHi t) (mbLo t) (mbHi t)
set_option maxRecDepth 100000 in
set_option maxHeartbeats 8000000 in
theorem sunAt_ok (t : Int) (w : World) (hT : SinT w) (ht : instOk t = true) : Calls Tryd.prog 44 #[.int .i64 t] w fun e w' => e = .returned (.tuple #[.agg #[.int .i64 (sRL t), .int .i64 (sRH t)], .agg #[.int .i64 (sDL t), .int .i64 (sDH t)], .int .i64 0]) ∧ Below w.heap.size w w' := by
  have S := Lib.hid (fun W (hT : SinT W) => sunLong_ok t W hT ht)
  have E := Lib.hid (fun W (hT : SinT W) => Equator_ok (slLo t) (slHi t) 0 0 W hT (sun_eq t))
  have HT := Lib.hid hT
  unfold sRL sRH sDL sDH
  generalize raLo (slLo t) (slHi t) 0 0 = r1 at *
  generalize raHi (slLo t) (slHi t) 0 0 = r2 at *
  generalize dcLo (slLo t) (slHi t) 0 0 = d1 at *
  generalize dcHi (slLo t) (slHi t) 0 0 = d2 at *
  generalize slLo t = a at *
  generalize slHi t = b at *
  clear hT ht
  go_enter Tryd.func44, Tryd.ntmps44
  have HB := Lib.hid (Below.refl w.heap.size w)
  obtain ⟨k1, hk1⟩ : ∃ x, x = w.heap.size := ⟨_, rfl⟩
  have he2 : (w.alloc (.cells #[.int .i64 (0), .int .i64 (0)] 24)).heap.size = k1 + 1 := by simp [hk1]
  have s1 := (SpBox.new w (0) (0)).alloc (.cells #[.int .i64 (0), .int .i64 (0)] 24)
  rw [← hk1] at s1
  have Hkl1 := Lib.hid (show w.heap.size ≤ k1 by rw [hk1]; omega)
  have s2 := SpBox.new (w.alloc (.cells #[.int .i64 (0), .int .i64 (0)] 24)) (0) (0)
  rw [he2] at s2
  have Hkl2 := Lib.hid (show w.heap.size ≤ k1 + 1 by rw [hk1]; omega)
  go_upto_region 1 with fail
  (try rw [he2])
  rw [← hk1]
  obtain ⟨k2, hk2⟩ : ∃ x, x = k1 + 1 := ⟨_, rfl⟩
  rw [← hk2] at s2 Hkl2
  (try rw [← hk2])
  have Hd2_1 := Lib.hid (show k1 < k2 by omega)
  clear hk2
  have HBn := show Below w.heap.size w ((w.alloc (.cells #[.int .i64 (0), .int .i64 (0)] 24)).alloc (.cells #[.int .i64 (0), .int .i64 (0)] 24)) from (by repeat' (first | (with_reducible refine below_drewN ?_ _) | go_grown))
  obtain ⟨X2, hX2⟩ : ∃ X, X = ((w.alloc (.cells #[.int .i64 (0), .int .i64 (0)] 24)).alloc (.cells #[.int .i64 (0), .int .i64 (0)] 24)) := ⟨_, rfl⟩
  rw [← hX2] at s1 s2 HBn ⊢
  clear hX2 he2 HB
  replace s1 := Lib.hid s1
  replace s2 := Lib.hid s2
  have HB := Lib.hid HBn; have HK1 := Lib.hid hk1; clear HBn hk1
  go_wp2_with fail
  refine Calls.mono (S.out _ (HT.out.below HB.out)) ?_
  rintro e wn3 ⟨rfl, hb⟩
  have Hd3_1 := Lib.hid (s1.out.below hb).lt
  have Hd3_2 := Lib.hid (s2.out.below hb).lt
  replace s1 := Lib.hid ((s1.out.below hb).alloc (.cells #[.int .i64 (a), .int .i64 (b)] 24))
  replace s2 := Lib.hid ((s2.out.below hb).alloc (.cells #[.int .i64 (a), .int .i64 (b)] 24))
  have HB3 := HB.out.trans (hb.mono HB.out.size)
  clear hb
  have Hkl3 := Lib.hid HB3.size; replace HB := Lib.hid (HB3.alloc HB3.size (.cells #[.int .i64 (a), .int .i64 (b)] 24))
  clear HB3
  have s3 := Lib.hid (SpBox.new wn3 (a) (b))
  obtain ⟨k3, hk3⟩ : ∃ x, x = wn3.heap.size := ⟨_, rfl⟩
  rw [← hk3] at s3 Hkl3 Hd3_1 Hd3_2
  go_upto_region 4 with fail
  rw [← hk3]
  obtain ⟨X3, hX3⟩ : ∃ X, X = wn3.alloc (.cells #[.int .i64 (a), .int .i64 (b)] 24) := ⟨_, rfl⟩
  rw [← hX3] at s1 s2 s3 HB ⊢
  clear hk3 hX3
  have sc3_0 := s3.out.c0; have sc3_1 := s3.out.c1; have sc3_l := s3.out.lt
  go_wp2_with fail
  refine Calls.mono (E.out _ (HT.out.below HB.out)) ?_
  rintro e wc1 ⟨rfl, hb⟩
  replace s1 := Lib.hid (s1.out.below hb)
  replace s2 := Lib.hid (s2.out.below hb)
  replace s3 := Lib.hid (s3.out.below hb)
  replace HB := Lib.hid (HB.out.trans (hb.mono HB.out.size))
  clear sc3_0 sc3_1 sc3_l
  clear hb
  have c1_0 := s1.out.c0; have c1_1 := s1.out.c1; have c1_f := s1.out.free 0; have c1_g := s1.out.free 1; have c1_l := s1.out.lt; have c1_k := Hkl1.out
  have c2_0 := s2.out.c0; have c2_1 := s2.out.c1; have c2_f := s2.out.free 0; have c2_g := s2.out.free 1; have c2_l := s2.out.lt; have c2_k := Hkl2.out
  have ne1_2 := Nat.ne_of_lt Hd2_1.out; have ne2_1 := Nat.ne_of_gt Hd2_1.out
  go_wp2_with fail
  refine bodyPost_ret (v := .tuple #[.agg #[.int .i64 r1, .int .i64 r2], .agg #[.int .i64 d1, .int .i64 d2], .int .i64 0]) ?_ rfl ⟨rfl, ?_⟩
  · simp [results, Tryd.results44, go_sem, *]
  · exact (((HB.out.setCell (p := ⟨k1, 0, none⟩) c1_k _).setCell (p := ⟨k1, 1, none⟩) c1_k _).setCell (p := ⟨k2, 0, none⟩) c2_k _).setCell (p := ⟨k2, 1, none⟩) c2_k _
set_option maxRecDepth 100000 in
set_option maxHeartbeats 8000000 in
theorem moonAt_ok (t : Int) (w : World) (hT : SinT w) (ht : instOk t = true) : Calls Tryd.prog 45 #[.int .i64 t] w fun e w' => e = .returned (.tuple #[.agg #[.int .i64 (mRL t), .int .i64 (mRH t)], .agg #[.int .i64 (mDL t), .int .i64 (mDH t)], .int .i64 0]) ∧ Below w.heap.size w w' := by
  have S := Lib.hid (fun W (hT : SinT W) => moonLong_ok t W hT ht)
  have B := Lib.hid (fun W (hT : SinT W) => moonLatt_ok t W hT ht)
  have E := Lib.hid (fun W (hT : SinT W) => Equator_ok (mlLo t) (mlHi t) (mbLo t) (mbHi t) W hT (moon_eq t))
  have HT := Lib.hid hT
  unfold mRL mRH mDL mDH
  generalize raLo (mlLo t) (mlHi t) (mbLo t) (mbHi t) = r1 at *
  generalize raHi (mlLo t) (mlHi t) (mbLo t) (mbHi t) = r2 at *
  generalize dcLo (mlLo t) (mlHi t) (mbLo t) (mbHi t) = d1 at *
  generalize dcHi (mlLo t) (mlHi t) (mbLo t) (mbHi t) = d2 at *
  generalize mbLo t = c at *
  generalize mbHi t = d at *
  generalize mlLo t = a at *
  generalize mlHi t = b at *
  clear hT ht
  go_enter Tryd.func45, Tryd.ntmps45
  have HB := Lib.hid (Below.refl w.heap.size w)
  obtain ⟨k1, hk1⟩ : ∃ x, x = w.heap.size := ⟨_, rfl⟩
  have he2 : (w.alloc (.cells #[.int .i64 (0), .int .i64 (0)] 24)).heap.size = k1 + 1 := by simp [hk1]
  have s1 := (SpBox.new w (0) (0)).alloc (.cells #[.int .i64 (0), .int .i64 (0)] 24)
  rw [← hk1] at s1
  have Hkl1 := Lib.hid (show w.heap.size ≤ k1 by rw [hk1]; omega)
  have s2 := SpBox.new (w.alloc (.cells #[.int .i64 (0), .int .i64 (0)] 24)) (0) (0)
  rw [he2] at s2
  have Hkl2 := Lib.hid (show w.heap.size ≤ k1 + 1 by rw [hk1]; omega)
  go_upto_region 1 with fail
  (try rw [he2])
  rw [← hk1]
  obtain ⟨k2, hk2⟩ : ∃ x, x = k1 + 1 := ⟨_, rfl⟩
  rw [← hk2] at s2 Hkl2
  (try rw [← hk2])
  have Hd2_1 := Lib.hid (show k1 < k2 by omega)
  clear hk2
  have HBn := show Below w.heap.size w ((w.alloc (.cells #[.int .i64 (0), .int .i64 (0)] 24)).alloc (.cells #[.int .i64 (0), .int .i64 (0)] 24)) from (by repeat' (first | (with_reducible refine below_drewN ?_ _) | go_grown))
  obtain ⟨X2, hX2⟩ : ∃ X, X = ((w.alloc (.cells #[.int .i64 (0), .int .i64 (0)] 24)).alloc (.cells #[.int .i64 (0), .int .i64 (0)] 24)) := ⟨_, rfl⟩
  rw [← hX2] at s1 s2 HBn ⊢
  clear hX2 he2 HB
  replace s1 := Lib.hid s1
  replace s2 := Lib.hid s2
  have HB := Lib.hid HBn; have HK1 := Lib.hid hk1; clear HBn hk1
  go_wp2_with fail
  refine Calls.mono (S.out _ (HT.out.below HB.out)) ?_
  rintro e wn3 ⟨rfl, hb⟩
  have Hd3_1 := Lib.hid (s1.out.below hb).lt
  have Hd3_2 := Lib.hid (s2.out.below hb).lt
  replace s1 := Lib.hid ((s1.out.below hb).alloc (.cells #[.int .i64 (a), .int .i64 (b)] 24))
  replace s2 := Lib.hid ((s2.out.below hb).alloc (.cells #[.int .i64 (a), .int .i64 (b)] 24))
  have HB3 := HB.out.trans (hb.mono HB.out.size)
  clear hb
  have Hkl3 := Lib.hid HB3.size; replace HB := Lib.hid (HB3.alloc HB3.size (.cells #[.int .i64 (a), .int .i64 (b)] 24))
  clear HB3
  have s3 := Lib.hid (SpBox.new wn3 (a) (b))
  obtain ⟨k3, hk3⟩ : ∃ x, x = wn3.heap.size := ⟨_, rfl⟩
  rw [← hk3] at s3 Hkl3 Hd3_1 Hd3_2
  go_upto_region 4 with fail
  rw [← hk3]
  obtain ⟨X3, hX3⟩ : ∃ X, X = wn3.alloc (.cells #[.int .i64 (a), .int .i64 (b)] 24) := ⟨_, rfl⟩
  rw [← hX3] at s1 s2 s3 HB ⊢
  clear hk3 hX3
  go_wp2_with fail
  refine Calls.mono (B.out _ (HT.out.below HB.out)) ?_
  rintro e wn4 ⟨rfl, hb⟩
  have Hd4_1 := Lib.hid (s1.out.below hb).lt
  have Hd4_2 := Lib.hid (s2.out.below hb).lt
  have Hd4_3 := Lib.hid (s3.out.below hb).lt
  replace s1 := Lib.hid ((s1.out.below hb).alloc (.cells #[.int .i64 (c), .int .i64 (d)] 24))
  replace s2 := Lib.hid ((s2.out.below hb).alloc (.cells #[.int .i64 (c), .int .i64 (d)] 24))
  replace s3 := Lib.hid ((s3.out.below hb).alloc (.cells #[.int .i64 (c), .int .i64 (d)] 24))
  have HB4 := HB.out.trans (hb.mono HB.out.size)
  clear hb
  have Hkl4 := Lib.hid HB4.size; replace HB := Lib.hid (HB4.alloc HB4.size (.cells #[.int .i64 (c), .int .i64 (d)] 24))
  clear HB4
  have s4 := Lib.hid (SpBox.new wn4 (c) (d))
  obtain ⟨k4, hk4⟩ : ∃ x, x = wn4.heap.size := ⟨_, rfl⟩
  rw [← hk4] at s4 Hkl4 Hd4_1 Hd4_2 Hd4_3
  go_upto_region 5 with fail
  rw [← hk4]
  obtain ⟨X4, hX4⟩ : ∃ X, X = wn4.alloc (.cells #[.int .i64 (c), .int .i64 (d)] 24) := ⟨_, rfl⟩
  rw [← hX4] at s1 s2 s3 s4 HB ⊢
  clear hk4 hX4
  have sc3_0 := s3.out.c0; have sc3_1 := s3.out.c1; have sc3_l := s3.out.lt
  have sc4_0 := s4.out.c0; have sc4_1 := s4.out.c1; have sc4_l := s4.out.lt
  go_wp2_with fail
  refine Calls.mono (E.out _ (HT.out.below HB.out)) ?_
  rintro e wc1 ⟨rfl, hb⟩
  replace s1 := Lib.hid (s1.out.below hb)
  replace s2 := Lib.hid (s2.out.below hb)
  replace s3 := Lib.hid (s3.out.below hb)
  replace s4 := Lib.hid (s4.out.below hb)
  replace HB := Lib.hid (HB.out.trans (hb.mono HB.out.size))
  clear sc3_0 sc3_1 sc3_l sc4_0 sc4_1 sc4_l
  clear hb
  have c1_0 := s1.out.c0; have c1_1 := s1.out.c1; have c1_f := s1.out.free 0; have c1_g := s1.out.free 1; have c1_l := s1.out.lt; have c1_k := Hkl1.out
  have c2_0 := s2.out.c0; have c2_1 := s2.out.c1; have c2_f := s2.out.free 0; have c2_g := s2.out.free 1; have c2_l := s2.out.lt; have c2_k := Hkl2.out
  have ne1_2 := Nat.ne_of_lt Hd2_1.out; have ne2_1 := Nat.ne_of_gt Hd2_1.out
  go_wp2_with fail
  refine bodyPost_ret (v := .tuple #[.agg #[.int .i64 r1, .int .i64 r2], .agg #[.int .i64 d1, .int .i64 d2], .int .i64 0]) ?_ rfl ⟨rfl, ?_⟩
  · simp [results, Tryd.results45, go_sem, *]
  · exact (((HB.out.setCell (p := ⟨k1, 0, none⟩) c1_k _).setCell (p := ⟨k1, 1, none⟩) c1_k _).setCell (p := ⟨k2, 0, none⟩) c2_k _).setCell (p := ⟨k2, 1, none⟩) c2_k _
end Go.Proofs.YtdeoahgcppbmkaaDoor
/- How near the arc of a sine lies; the declinations of the sun and the moon. Plain. -/
namespace Go.Proofs.YtdeoahgcppbmkaaDoor
set_option linter.unusedSimpArgs false
set_option linter.unusedVariables false
theorem asHi_le {n al : Int} (h : -1000000000 ≤ n ∧ n ≤ 1000000000) (ha : -250000000 ≤ al ∧ al ≤ 250000000) (hs : (n : Rat) ≤ 1000000000 * SN al + 1 / 10000000000) : asHi n ≤ al + 1 := by
  obtain ⟨f, nr, b1, b2⟩ := as_near h
  obtain ⟨u1, u2⟩ := unit_rad (asU_ok h).2.2 nr (by grind) (by grind)
  have lw := asin_lo h ha hs
  have A := (asU_around h).hi2
  have k := ka_bd
  have ks : kSl = 1152921504606847 / 1152921504606846976 := rfl
  have key : fv (asU n) ≤ (al : Rat) + 5 / 10000 := by
    apply Rat.not_lt.1
    intro l
    have := Rat.mul_lt_mul_of_pos_left l (show 0 < ka by grind)
    unfold Near at u2
    clear u1 A ks nr
    generalize (al : Rat) = z at *
    grind
  have : aHi (asU n) < al + 2 := by
    apply int_lt_of_rat
    rw [Rat.intCast_add, show ((2 : Int) : Rat) = 2 from rfl]
    unfold Near at u1
    clear u2 lw k nr
    grind
  unfold asHi
  omega
theorem asLo_ge {n al : Int} (h : -1000000000 ≤ n ∧ n ≤ 1000000000) (ha : -250000000 ≤ al ∧ al ≤ 250000000) (hs : 1000000000 * SN al - 1 / 10000000000 ≤ (n : Rat)) : al - 1 ≤ asLo n := by
  obtain ⟨f, nr, b1, b2⟩ := as_near h
  obtain ⟨u1, u2⟩ := unit_rad (asU_ok h).2.2 nr (by grind) (by grind)
  have lw := asin_hi h ha hs
  have A := (asU_around h).lo2
  have k := ka_bd
  have ks : kSl = 1152921504606847 / 1152921504606846976 := rfl
  have key : (al : Rat) - 5 / 10000 ≤ fv (asU n) := by
    apply Rat.not_lt.1
    intro l
    have := Rat.mul_lt_mul_of_pos_left l (show 0 < ka by grind)
    unfold Near at u2
    clear u1 A ks nr
    generalize (al : Rat) = z at *
    grind
  have : al - 2 < aLo (asU n) := by
    apply int_lt_of_rat
    rw [Rat.intCast_sub, show ((2 : Int) : Rat) = 2 from rfl]
    unfold Near at u1
    clear u2 lw k nr
    grind
  unfold asLo
  omega
theorem moon_dec (t : Int) : -83333002 ≤ mDL t ∧ mDH t ≤ 83333002 := by
  have a : 0 ≤ mlLo t ∧ mlLo t < 1000000000 ∧ mlLo t ≤ mlHi t ∧ mlHi t ≤ 130000000000 := an_bd moonL_in
  have b := ml_width t
  have c := mb_width t
  have d := mb_bd t
  unfold mDL mDH dcLo dcHi
  generalize mlLo t = l1 at *
  generalize mlHi t = l2 at *
  generalize mbLo t = b1 at *
  generalize mbHi t = b2 at *
  obtain ⟨-, -, -, -, zl, zh⟩ := eq_near (l1 := l1) (l2 := l2) (b1 := b1) (b2 := b2) (la := l1) (be := b1) (by omega) (by omega) (by omega) (by omega) (by omega) (by omega) (by omega) (by omega)
  have z := dZ_bd (la := l1) (be := b1) (by omega)
  have q : 499990000 ≤ sLo 83333000 := by decide +kernel
  have q2 := Rat.intCast_le_intCast.2 q
  rw [show ((499990000 : Int) : Rat) = 499990000 from rfl] at q2
  have sl := (sin_span 83333000).lo
  have ng := (SC_neg 83333000).1
  unfold Near at zl zh ng
  have Z := eqZ_bd l1 l2 b1 b2
  have H : eqZH l1 l2 b1 b2 ≤ 490800000 := by
    apply int_le_of_rat; rw [show ((490800000 : Int) : Rat) = 490800000 from rfl]; grind
  have L : -490800000 ≤ eqZL l1 l2 b1 b2 := by
    apply int_le_of_rat; rw [show ((-490800000 : Int) : Rat) = -490800000 from rfl]; grind
  generalize eqZL l1 l2 b1 b2 = zL at *
  generalize eqZH l1 l2 b1 b2 = zH at *
  have eH : clT zH ≤ 490800000 := by unfold clT; omega
  have eL : -490800000 ≤ clT zL := by unfold clT; omega
  have rH := Rat.intCast_le_intCast.2 eH
  have rL := Rat.intCast_le_intCast.2 eL
  rw [show ((490800000 : Int) : Rat) = 490800000 from rfl] at rH
  rw [show ((-490800000 : Int) : Rat) = -490800000 from rfl] at rL
  have h1 := asHi_le (clT_bd zH) (al := 83333000) (by omega) (by grind)
  have h2 := asLo_ge (clT_bd zL) (al := -83333000) (by omega) (by unfold e2 at ng; grind)
  omega
theorem cap_one {u v d : Int} (hu1 : -1000000000 ≤ u) (hu2 : u ≤ 1000000000) (hv : 0 ≤ v) (hd : v ≤ d) : -d ≤ u * v / 1000000000 ∧ upQ (u * v) 1000000000 ≤ d := by
  have p1 : u * v ≤ 1000000000 * v := Int.mul_le_mul_of_nonneg_right hu2 hv
  have p2 : -1000000000 * v ≤ u * v := Int.mul_le_mul_of_nonneg_right hu1 hv
  unfold upQ
  generalize u * v = z at *
  omega
theorem tm_cap {a b c d : Int} (h1 : -1000000000 ≤ a) (h2 : a ≤ b) (h3 : b ≤ 1000000000) (h4 : 0 ≤ c) (h5 : c ≤ d) : -d ≤ tmLo a b c d ∧ tmHi a b c d ≤ d := by
  obtain ⟨p1, q1⟩ := cap_one h1 (show a ≤ 1000000000 by omega) h4 h5
  obtain ⟨p2, q2⟩ := cap_one h1 (show a ≤ 1000000000 by omega) (show 0 ≤ d by omega) (Int.le_refl d)
  obtain ⟨p3, q3⟩ := cap_one (show -1000000000 ≤ b by omega) h3 h4 h5
  obtain ⟨p4, q4⟩ := cap_one (show -1000000000 ≤ b by omega) h3 (show 0 ≤ d by omega) (Int.le_refl d)
  unfold tmLo tmHi pLo pHi
  generalize a * c / 1000000000 = y1 at *
  generalize a * d / 1000000000 = y2 at *
  generalize b * c / 1000000000 = y3 at *
  generalize b * d / 1000000000 = y4 at *
  generalize upQ (a * c) 1000000000 = z1 at *
  generalize upQ (a * d) 1000000000 = z2 at *
  generalize upQ (b * c) 1000000000 = z3 at *
  generalize upQ (b * d) 1000000000 = z4 at *
  omega
theorem so_zero : soLo 0 0 = 0 ∧ soHi 0 0 = 0 := by decide
theorem tilt_next : 0 ≤ sLo 65109000 ∧ sLo 65109000 ≤ sHi 65109000 ∧ sHi 65109000 ≤ sLo 65112000 ∧ sHi 65109000 ≤ 400000000 := by decide +kernel
theorem sun_dec (t : Int) : -65116000 ≤ sDL t ∧ sDH t ≤ 65116000 := by
  unfold sDL sDH dcLo dcHi eqZL eqZH
  have A := eqA_bd (slLo t) (slHi t) 0 0
  generalize eqAL (slLo t) (slHi t) 0 0 = al at *
  generalize eqAH (slLo t) (slHi t) 0 0 = ah at *
  rw [so_zero.1, so_zero.2]
  have e1 : tmLo 0 0 (cLo 65109000) (cHi 65109000) = 0 ∧ tmHi 0 0 (cLo 65109000) (cHi 65109000) = 0 := by
    unfold tmLo tmHi pLo pHi upQ
    simp only [Int.zero_mul]
    decide
  rw [e1.1, e1.2]
  obtain ⟨q1, q2, q3, q4⟩ := tilt_next
  have cp := tm_cap A.1 A.2.1 A.2.2 q1 q2
  have sl := (sine_in 65112000).lo
  have ng := (SC_neg 65112000).1
  unfold Near e2 at ng
  have r3 := Rat.intCast_le_intCast.2 q3
  generalize sHi 65109000 = d at *
  generalize sLo 65109000 = c at *
  generalize tmLo al ah c d = zL at *
  generalize tmHi al ah c d = zH at *
  have eH : clT (zH + 0) ≤ d := by unfold clT; omega
  have eL : -d ≤ clT (zL + 0) := by unfold clT; omega
  have rH := Rat.intCast_le_intCast.2 eH
  have rL := Rat.intCast_le_intCast.2 eL
  rw [Rat.intCast_neg] at rL
  have h1 := asHi_le (clT_bd (zH + 0)) (al := 65112000) (by omega) (by grind)
  have h2 := asLo_ge (clT_bd (zL + 0)) (al := -65112000) (by omega) (by grind)
  omega
end Go.Proofs.YtdeoahgcppbmkaaDoor
