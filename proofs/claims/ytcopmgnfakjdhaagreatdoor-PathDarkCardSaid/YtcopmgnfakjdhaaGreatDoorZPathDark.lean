/- PathDark: where the shadow falls, the moon is new, and there is an eclipse. -/
import Derived.Test.YtcopmgnfakjdhaaGreatDoorZPaE
import Derived.Test.YtcopmgnfakjdhaaGreatDoorZLit
namespace Go.Proofs.YtcopmgnfakjdhaaGreatDoor
open Go.RowKit
set_option linter.unusedSimpArgs false
set_option linter.unusedVariables false
theorem ecF_e (k q : Int) : (ecF k q).e = 0 ∨ (ecF k q).e = 11 := by
  unfold ecF ecW
  split
  · exact .inl rfl
  · split
    · exact .inl rfl
    · split
      · exact .inl rfl
      · exact .inr rfl
structure DarkOk (k t : Int) : Prop where
  li : liLo t < 1000000
  ec : (ecF k 0).e = 11 ∨ ((ecF k 0).e = 0 ∧ (ecF k 0).k ≠ 0)
  b1 : -250000000 ≤ asLo (clT (c3Lo t))
  b2 : asHi (clT (c3Hi t)) ≤ 250000000
theorem dark_ok {k t : Int} (C : CeOk t) (hab : (phF k 0).1 ≤ (phF k 0).2) (hw : (phF k 0).2 - (phF k 0).1 ≤ 600000) (ht : -14400000 ≤ t - (phF k 0).1 ∧ t - (phF k 0).1 ≤ 14400000) : DarkOk k t := by
  have n := dark_not C.i hab hw ht
  refine ⟨dark_lit C.i, ?_, by unfold asLo; omega, by unfold asHi; omega⟩
  rcases ecF_e k 0 with h | h
  · exact .inr ⟨h, fun q => n ⟨h, q⟩⟩
  · exact .inl h
set_option maxRecDepth 100000 in
set_option maxHeartbeats 16000000 in
theorem pathDark_walk (k0 t0 : Int) (w : World) (hT : SinT w) : Calls Tryz.prog 6 #[.int .i64 k0, .int .i64 t0] w fun e w' => e = .returned (.bool true) ∧ Below w.heap.size w w' := by
  have HW := Lib.hid (fun W (hT : SinT W) => pathWorks_ok W hT)
  have kb1 := Int.lt_tmod_of_pos k0 (show (0 : Int) < 90000 by omega)
  have kb2 := Int.tmod_lt_of_pos k0 (show (0 : Int) < 90000 by omega)
  have tb1 := Int.lt_tmod_of_pos t0 (show (0 : Int) < 24 by omega)
  have tb2 := Int.tmod_lt_of_pos t0 (show (0 : Int) < 24 by omega)
  generalize hk : k0.tmod 90000 = k at *
  generalize ht : t0.tmod 24 = u at *
  have hK := Lib.hid hk; have hU := Lib.hid ht
  clear hk ht
  have P := Lib.hid (fun W (hT : SinT W) => PFind_ok k 0 (by omega) (by omega) W hT)
  have bd := phF_bd (k := k) (q := 0) (by omega) (by omega) (by omega) (by omega)
  obtain ⟨cc, C⟩ := ph_in (k := k) (q := 0) (by omega) (by omega) (by omega) (by omega)
  have wd := C.w
  clear C cc
  have hab := bd.2.1
  obtain ⟨T, hTT⟩ : ∃ T, T = (phF k 0).1 + u * 600000 := ⟨_, rfl⟩
  have ti : instOk T = true := by rw [hTT]; unfold instOk dayOk; exact decide_eq_true (by omega)
  have CE := Lib.hid (fun W (hT : SinT W) => Center_ok T W hT ti)
  have LI := Lib.hid (fun W (hT : SinT W) => Lit_ok T W hT ti)
  have EF := Lib.hid (fun W (hT : SinT W) => eFindA_ok k 0 (by omega) rfl W hT)
  have e1 : wrap64 (u * 600000) = u * 600000 := IntWalk.wrap64_in _ (by omega)
  have e2 : wrap64 ((phF k 0).1 + u * 600000) = T := by rw [hTT]; exact IntWalk.wrap64_in _ (by omega)
  have DK := fun (C : CeOk T) => dark_ok (k := k) C hab wd (by omega)
  have CS := ce_cases T
  generalize (phF k 0).1 = a1 at *
  generalize (phF k 0).2 = a2 at *
  have HT := Lib.hid hT
  clear hT kb1 kb2 tb1 tb2 bd wd hab ti hTT
  go_enter Tryz.func6, Tryz.ntmps6
  have HB := Lib.hid (Below.refl w.heap.size w)
  go_wp2_with fail
  refine Calls.mono (HW.out _ HT.out) ?_
  rintro e wc1 ⟨rfl, hb⟩
  replace HB := Lib.hid (HB.out.trans (hb.mono HB.out.size))
  clear hb
  have hk2 := hK.out; have hu2 := hU.out
  go_wp2_with fail
  refine Calls.mono (P.out _ (HT.out.below HB.out)) ?_
  rintro e wn1 ⟨rfl, hb⟩
  have HB1 := HB.out.trans (hb.mono HB.out.size)
  clear hb
  have Hkl1 := Lib.hid HB1.size; replace HB := Lib.hid (HB1.alloc HB1.size (.cells #[.int .i64 (a1), .int .i64 (a2)] 28))
  clear HB1
  have s1 := Lib.hid (SpBox.new wn1 (a1) (a2))
  obtain ⟨k1, hk1⟩ : ∃ x, x = wn1.heap.size := ⟨_, rfl⟩
  rw [← hk1] at s1 Hkl1
  go_upto_region 5 with fail
  rw [← hk1]
  obtain ⟨X1, hX1⟩ : ∃ X, X = wn1.alloc (.cells #[.int .i64 (a1), .int .i64 (a2)] 28) := ⟨_, rfl⟩
  rw [← hX1] at s1 HB ⊢
  clear hk1 hX1
  clear P HW
  have g1 := e1; have g2 := e2
  rcases CS with C | ⟨e, he, C⟩
  · skip
    have D := DK C
    have CG := Lib.hid (fun W (hT : SinT W) => show Calls Tryz.prog 22 #[.int .i64 T] W fun e w' => e = .returned (.tuple #[.agg #[.int .i64 T, .int .i64 (lsLo (cR1 T) (cR2 T) (sdLo 0 T) (sdHi 0 T)), .int .i64 (lsHi (cR1 T) (cR2 T) (sdLo 0 T) (sdHi 0 T)), .int .i64 (asLo (clT (c3Lo T))), .int .i64 (asHi (clT (c3Hi T)))], .int .i64 0]) ∧ Below W.heap.size W w' from by have := CE.out W hT; rw [C.ef] at this; exact this)
    have dl := D.li; have db1 := D.b1; have db2 := D.b2; have dec := D.ec
    clear CE C DK D
    generalize lsLo (cR1 T) (cR2 T) (sdLo 0 T) (sdHi 0 T) = y1 at *
    generalize lsHi (cR1 T) (cR2 T) (sdLo 0 T) (sdHi 0 T) = y2 at *
    generalize asLo (clT (c3Lo T)) = y3 at *
    generalize asHi (clT (c3Hi T)) = y4 at *
    generalize liLo T = i1 at *
    generalize liHi T = i2 at *
    generalize (ecF k 0).e = ee at *
    generalize (ecF k 0).k = kk at *
    generalize (ecF k 0).a = r1 at *
    generalize (ecF k 0).b = r2 at *
    generalize (ecF k 0).l = r3 at *
    generalize (ecF k 0).h = r4 at *
    generalize (ecF k 0).p = r5 at *
    generalize (ecF k 0).q = r6 at *
    have sc1_0 := s1.out.c0; have sc1_1 := s1.out.c1; have sc1_l := s1.out.lt
    go_wp2_with fail
    refine Calls.mono (CG.out _ (HT.out.below HB.out)) ?_
    rintro e wn2 ⟨rfl, hb⟩
    replace s1 := Lib.hid ((s1.out.below hb).alloc (.cells #[.int .i64 T, .int .i64 y1, .int .i64 y2, .int .i64 y3, .int .i64 y4] 40))
    have HB2 := HB.out.trans (hb.mono HB.out.size)
    clear sc1_0 sc1_1 sc1_l
    clear hb
    have Hkl2 := Lib.hid HB2.size; replace HB := Lib.hid (HB2.alloc HB2.size (.cells #[.int .i64 T, .int .i64 y1, .int .i64 y2, .int .i64 y3, .int .i64 y4] 40)); clear HB2
    have s2 := Lib.hid (PtBox.new wn2 (.int .i64 T) (.int .i64 y1) (.int .i64 y2) (.int .i64 y3) (.int .i64 y4))
    obtain ⟨k2, hk2⟩ : ∃ x, x = wn2.heap.size := ⟨_, rfl⟩
    rw [← hk2] at s2 Hkl2
    go_upto_region 6 with fail
    rw [← hk2]
    obtain ⟨X2, hX2⟩ : ∃ X, X = wn2.alloc (.cells #[.int .i64 T, .int .i64 y1, .int .i64 y2, .int .i64 y3, .int .i64 y4] 40) := ⟨_, rfl⟩
    rw [← hX2] at s1 s2 HB ⊢
    clear hk2 hX2
    clear CG
    have z0 := s2.out.c0; have zl := s2.out.lt
    go_upto_region 8 with fail
    go_wp2_with fail
    refine Calls.mono (LI.out _ (HT.out.below HB.out)) ?_
    rintro e wn3 ⟨rfl, hb⟩
    replace s1 := Lib.hid ((s1.out.below hb).alloc (.cells #[.int .i64 (i1), .int .i64 (i2)] 28))
    replace s2 := Lib.hid ((s2.out.below hb).alloc (.cells #[.int .i64 (i1), .int .i64 (i2)] 28))
    have HB3 := HB.out.trans (hb.mono HB.out.size)
    clear hb
    have Hkl3 := Lib.hid HB3.size; replace HB := Lib.hid (HB3.alloc HB3.size (.cells #[.int .i64 (i1), .int .i64 (i2)] 28))
    clear HB3
    have s3 := Lib.hid (SpBox.new wn3 (i1) (i2))
    obtain ⟨k3, hk3⟩ : ∃ x, x = wn3.heap.size := ⟨_, rfl⟩
    rw [← hk3] at s3 Hkl3
    go_upto_region 9 with fail
    rw [← hk3]
    obtain ⟨X3, hX3⟩ : ∃ X, X = wn3.alloc (.cells #[.int .i64 (i1), .int .i64 (i2)] 28) := ⟨_, rfl⟩
    rw [← hX3] at s1 s2 s3 HB ⊢
    clear hk3 hX3
    clear z0 zl LI
    go_wp2_with fail
    refine Calls.mono (EF.out _ (HT.out.below HB.out)) ?_
    rintro e wn4 ⟨rfl, hb⟩
    replace s1 := Lib.hid ((s1.out.below hb).alloc (.cells #[.int .i64 kk, .int .i64 r1, .int .i64 r2, .int .i64 r3, .int .i64 r4, .int .i64 r5, .int .i64 r6] 44))
    replace s2 := Lib.hid ((s2.out.below hb).alloc (.cells #[.int .i64 kk, .int .i64 r1, .int .i64 r2, .int .i64 r3, .int .i64 r4, .int .i64 r5, .int .i64 r6] 44))
    replace s3 := Lib.hid ((s3.out.below hb).alloc (.cells #[.int .i64 kk, .int .i64 r1, .int .i64 r2, .int .i64 r3, .int .i64 r4, .int .i64 r5, .int .i64 r6] 44))
    have HB4 := HB.out.trans (hb.mono HB.out.size)
    clear hb
    have Hkl4 := Lib.hid HB4.size; replace HB := Lib.hid (HB4.alloc HB4.size (.cells #[.int .i64 kk, .int .i64 r1, .int .i64 r2, .int .i64 r3, .int .i64 r4, .int .i64 r5, .int .i64 r6] 44)); clear HB4
    have s4 := Lib.hid (EcBox.new wn4 (.int .i64 kk) (.int .i64 r1) (.int .i64 r2) (.int .i64 r3) (.int .i64 r4) (.int .i64 r5) (.int .i64 r6))
    obtain ⟨k4, hk4⟩ : ∃ x, x = wn4.heap.size := ⟨_, rfl⟩
    rw [← hk4] at s4 Hkl4
    go_upto_region 10 with fail
    rw [← hk4]
    obtain ⟨X4, hX4⟩ : ∃ X, X = wn4.alloc (.cells #[.int .i64 kk, .int .i64 r1, .int .i64 r2, .int .i64 r3, .int .i64 r4, .int .i64 r5, .int .i64 r6] 44) := ⟨_, rfl⟩
    rw [← hX4] at s1 s2 s3 s4 HB ⊢
    clear hk4 hX4
    clear EF
    have sc3_0 := s3.out.c0; have sc3_1 := s3.out.c1; have sc3_l := s3.out.lt
    have z3 := s2.out.c3; have z4 := s2.out.c4; have zl := s2.out.lt
    have x0 := s4.out.c0; have xl := s4.out.lt
    rcases dec with rfl | ⟨rfl, hk0⟩
    · go_wp2_with fail
      go_ret
      exact ⟨rfl, HB.out⟩
    · have hk1 : (kk != 0) = true := by simp [hk0]
      have hk3 : (kk == 0) = false := by simp [hk0]
      go_wp2_with fail
      go_ret
      exact ⟨rfl, HB.out⟩
  · skip
    have CB := Lib.hid (fun W (hT : SinT W) => show Calls Tryz.prog 22 #[.int .i64 T] W fun e' w' => e' = .returned (.tuple #[.agg #[.int .i64 0, .int .i64 0, .int .i64 0, .int .i64 0, .int .i64 0], .int .i64 e]) ∧ Below W.heap.size W w' from by have := CE.out W hT; rw [C] at this; exact this)
    clear CE C DK LI EF
    have sc1_0 := s1.out.c0; have sc1_1 := s1.out.c1; have sc1_l := s1.out.lt
    rcases he with rfl | rfl
    case inl =>
      go_wp2_with fail
      refine Calls.mono (CB.out _ (HT.out.below HB.out)) ?_
      rintro e wn2 ⟨rfl, hb⟩
      replace s1 := Lib.hid ((s1.out.below hb).alloc (.cells #[.int .i64 0, .int .i64 0, .int .i64 0, .int .i64 0, .int .i64 0] 40))
      have HB2 := HB.out.trans (hb.mono HB.out.size)
      clear sc1_0 sc1_1 sc1_l
      clear hb
      have Hkl2 := Lib.hid HB2.size; replace HB := Lib.hid (HB2.alloc HB2.size (.cells #[.int .i64 0, .int .i64 0, .int .i64 0, .int .i64 0, .int .i64 0] 40)); clear HB2
      have s2 := Lib.hid (PtBox.new wn2 (.int .i64 0) (.int .i64 0) (.int .i64 0) (.int .i64 0) (.int .i64 0))
      obtain ⟨k2, hk2⟩ : ∃ x, x = wn2.heap.size := ⟨_, rfl⟩
      rw [← hk2] at s2 Hkl2
      go_upto_region 6 with fail
      rw [← hk2]
      obtain ⟨X2, hX2⟩ : ∃ X, X = wn2.alloc (.cells #[.int .i64 0, .int .i64 0, .int .i64 0, .int .i64 0, .int .i64 0] 40) := ⟨_, rfl⟩
      rw [← hX2] at s1 s2 HB ⊢
      clear hk2 hX2
      have z0 := s2.out.c0; have z1 := s2.out.c1; have z2 := s2.out.c2; have z3 := s2.out.c3; have z4 := s2.out.c4; have zl := s2.out.lt
      go_wp2_with fail
      go_ret
      exact ⟨rfl, HB.out⟩
    case inr =>
      go_wp2_with fail
      refine Calls.mono (CB.out _ (HT.out.below HB.out)) ?_
      rintro e wn2 ⟨rfl, hb⟩
      replace s1 := Lib.hid ((s1.out.below hb).alloc (.cells #[.int .i64 0, .int .i64 0, .int .i64 0, .int .i64 0, .int .i64 0] 40))
      have HB2 := HB.out.trans (hb.mono HB.out.size)
      clear sc1_0 sc1_1 sc1_l
      clear hb
      have Hkl2 := Lib.hid HB2.size; replace HB := Lib.hid (HB2.alloc HB2.size (.cells #[.int .i64 0, .int .i64 0, .int .i64 0, .int .i64 0, .int .i64 0] 40)); clear HB2
      have s2 := Lib.hid (PtBox.new wn2 (.int .i64 0) (.int .i64 0) (.int .i64 0) (.int .i64 0) (.int .i64 0))
      obtain ⟨k2, hk2⟩ : ∃ x, x = wn2.heap.size := ⟨_, rfl⟩
      rw [← hk2] at s2 Hkl2
      go_upto_region 6 with fail
      rw [← hk2]
      obtain ⟨X2, hX2⟩ : ∃ X, X = wn2.alloc (.cells #[.int .i64 0, .int .i64 0, .int .i64 0, .int .i64 0, .int .i64 0] 40) := ⟨_, rfl⟩
      rw [← hX2] at s1 s2 HB ⊢
      clear hk2 hX2
      have z0 := s2.out.c0; have z1 := s2.out.c1; have z2 := s2.out.c2; have z3 := s2.out.c3; have z4 := s2.out.c4; have zl := s2.out.lt
      go_wp2_with fail
      go_ret
      exact ⟨rfl, HB.out⟩
end Go.Proofs.YtcopmgnfakjdhaaGreatDoor
