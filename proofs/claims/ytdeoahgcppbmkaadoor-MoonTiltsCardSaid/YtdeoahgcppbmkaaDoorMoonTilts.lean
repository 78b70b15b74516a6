/- MoonTilts: the latitude of the moon is less than 6 degrees, its declination less than 30. -/
import Derived.Test.YtdeoahgcppbmkaaDoorDec
import Derived.Test.YtdeoahgcppbmkaaDoorAt
namespace Go.Proofs.YtdeoahgcppbmkaaDoor
open Go.RowKit
set_option linter.unusedSimpArgs false
set_option linter.unusedVariables false
set_option maxRecDepth 100000 in
set_option maxHeartbeats 8000000 in
theorem moonTilts_walk (t : Int) (w : World) (hT : SinT w) : Calls Tryd.prog 11 #[.int .i64 t] w fun e w' => e = .returned (.bool true) ∧ Below w.heap.size w w' := by
  have HW := Lib.hid (moonWorks_ok w hT)
  have HT := Lib.hid hT
  have I := Lib.hid (fun w => instant_ok t w)
  have k1 := instant_in t
  generalize t % 604800000000000 - 302400000000000 = x at *
  have B := Lib.hid (fun W (hT : SinT W) => moonLatt_ok x W hT k1)
  have A := Lib.hid (fun W (hT : SinT W) => moonAt_ok x W hT k1)
  have b := mb_bd x
  have d := moon_dec x
  generalize mbLo x = bl at *
  generalize mbHi x = bh at *
  generalize mRL x = rl at *
  generalize mRH x = rh at *
  generalize mDL x = dl at *
  generalize mDH x = dh at *
  have g1 : decide (-16666667 < bl) = true := decide_eq_true (by omega)
  have g2 : decide (bh < 16666667) = true := decide_eq_true (by omega)
  have g3 : decide (-83333333 < dl) = true := decide_eq_true (by omega)
  have g4 : decide (dh < 83333333) = true := decide_eq_true (by omega)
  clear hT k1 b d
  go_enter Tryd.func11, Tryd.ntmps11
  have HB := Lib.hid (Below.refl w.heap.size w)
  go_wp2_with fail
  refine Calls.mono (HW.out) ?_
  rintro e wc1 ⟨rfl, hb⟩
  replace HB := Lib.hid (HB.out.trans (hb.mono HB.out.size))
  clear hb
  go_wp2_with fail
  refine Calls.mono (I.out _) ?_
  rintro e wq ⟨rfl, hq⟩
  (first | rw [hq] | rw [← hq])
  clear hq
  go_wp2_with fail
  refine Calls.mono (B.out _ (HT.out.below HB.out)) ?_
  rintro e wn1 ⟨rfl, hb⟩
  have HB1 := HB.out.trans (hb.mono HB.out.size)
  clear hb
  have Hkl1 := Lib.hid HB1.size; replace HB := Lib.hid (HB1.alloc HB1.size (.cells #[.int .i64 (bl), .int .i64 (bh)] 24))
  clear HB1
  have s1 := Lib.hid (SpBox.new wn1 (bl) (bh))
  obtain ⟨k1, hk1⟩ : ∃ x, x = wn1.heap.size := ⟨_, rfl⟩
  rw [← hk1] at s1 Hkl1
  go_upto_region 5 with fail
  rw [← hk1]
  obtain ⟨X1, hX1⟩ : ∃ X, X = wn1.alloc (.cells #[.int .i64 (bl), .int .i64 (bh)] 24) := ⟨_, rfl⟩
  rw [← hX1] at s1 HB ⊢
  clear hk1 hX1
  go_wp2_with fail
  refine Calls.mono (A.out _ (HT.out.below HB.out)) ?_
  rintro e wn2 ⟨rfl, hb⟩
  replace s1 := Lib.hid (((s1.out.below hb).alloc (.cells #[.int .i64 (rl), .int .i64 (rh)] 24)).alloc (.cells #[.int .i64 (dl), .int .i64 (dh)] 24))
  have HB2 := HB.out.trans (hb.mono HB.out.size)
  clear hb
  have Hkl2 := Lib.hid HB2.size; have HBq := HB2.alloc HB2.size (.cells #[.int .i64 (rl), .int .i64 (rh)] 24); replace HB := Lib.hid (HBq.alloc HBq.size (.cells #[.int .i64 (dl), .int .i64 (dh)] 24)); clear HB2 HBq
  obtain ⟨k2, hk2⟩ : ∃ x, x = wn2.heap.size := ⟨_, rfl⟩
  have hk3 : (wn2.alloc (.cells #[.int .i64 (rl), .int .i64 (rh)] 24)).heap.size = k2 + 1 := by simp [hk2]
  have s2 := Lib.hid ((SpBox.new wn2 (rl) (rh)).alloc (.cells #[.int .i64 (dl), .int .i64 (dh)] 24))
  have s30 := SpBox.new (wn2.alloc (.cells #[.int .i64 (rl), .int .i64 (rh)] 24)) (dl) (dh)
  rw [hk3] at s30
  have s3 := Lib.hid s30; clear s30
  rw [← hk2] at s2 Hkl2
  have Hkl3 := Lib.hid (Nat.le_trans Hkl2.out (Nat.le_succ k2))
  go_upto_region 6 with fail
  (try rw [hk3])
  rw [← hk2]
  obtain ⟨X3, hX3⟩ : ∃ X, X = (wn2.alloc (.cells #[.int .i64 (rl), .int .i64 (rh)] 24)).alloc (.cells #[.int .i64 (dl), .int .i64 (dh)] 24) := ⟨_, rfl⟩
  rw [← hX3] at s1 s2 s3 HB ⊢
  clear hk3 hk2 hX3
  have sc1_0 := s1.out.c0; have sc1_1 := s1.out.c1; have sc1_l := s1.out.lt
  have sc3_0 := s3.out.c0; have sc3_1 := s3.out.c1; have sc3_l := s3.out.lt
  go_wp2_with fail
  go_ret
  exact ⟨rfl, HB.out⟩
end Go.Proofs.YtdeoahgcppbmkaaDoor
