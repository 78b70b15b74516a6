/- PathSun: where the shadow falls, the sun is high. -/
import Derived.Test.YtcopmgnfakjdhaaGreatDoorYPsR
import Derived.Test.YtcopmgnfakjdhaaGreatDoorYPaE
namespace Go.Proofs.YtcopmgnfakjdhaaGreatDoor
open Go.RowKit
set_option linter.unusedSimpArgs false
set_option linter.unusedVariables false
structure PsSun (t y1 y2 y3 y4 : Int) : Prop where
  a0 : 0 ≤ y1
  a1 : y1 < 1000000000
  a2 : y1 ≤ y2
  a3 : y2 ≤ y1 + 400000002
  b1 : -250000000 ≤ y3
  b2 : y4 ≤ 250000000
  b3 : -200000000 ≤ y3 → y4 ≤ 200000000 → y3 ≤ y4
  law : -200000000 ≤ y3 → y4 ≤ 200000000 → y2 - y1 ≤ 20000000 → y4 - y3 ≤ 20000000 → ∀ lon lat m : Int, lon = (y1 + y2) / 2 - 1000000000 * m → y3 + y4 - 1 ≤ 2 * lat → 2 * lat ≤ y3 + y4 + 1 → -150000000 < upHi lat (hhLo lon t (sRH t)) (hhHi lon t (sRL t)) (sDL t) (sDH t)
theorem ps_sun {t : Int} (C : CeOk t) : PsSun t (psL1 t) (psL2 t) (asLo (clT (c3Lo t))) (asHi (clT (c3Hi t))) := by
  have B := ce_bd (t := t) (by have := C.i.s2; omega)
  have f3 := B.f3
  have AI := ce_arc (t := t) (by have := C.i.s2; omega) C.no
  have ao := arc_order AI
  have eA : arcLo (c2Lo t) (c2Hi t) (c1Lo t) (c1Hi t) = caLo t := rfl
  have eB : arcHi (c2Lo t) (c2Hi t) (c1Lo t) (c1Hi t) = caHi t := rfl
  rw [eA, eB] at ao
  have nw := C.nw
  have sd := sd_bd 0 t
  have e1 : psL1 t = (cR1 t - sdHi 0 t) % 1000000000 := rfl
  have e2 : psL2 t = (cR1 t - sdHi 0 t) % 1000000000 + (cR2 t - sdLo 0 t) - (cR1 t - sdHi 0 t) := rfl
  have e3 : cR2 t = cR1 t + caHi t - caLo t := rfl
  refine ⟨by rw [e1]; omega, by rw [e1]; omega, by rw [e1, e2]; omega, by rw [e1, e2]; omega, by unfold asLo; omega, by unfold asHi; omega, ?_, fun g1 g2 g3 g4 lon lat m => ps_law C g1 g2 g3 g4⟩
  intro g1 g2
  have u1 : c3Hi t < 1000000000 := by
    apply Int.not_le.1
    intro l
    have e : clT (c3Hi t) = 1000000000 := by unfold clT; omega
    rw [e, as_top.1] at g2
    omega
  have u2 : -1000000000 < c3Lo t := by
    apply Int.not_le.1
    intro l
    have e : clT (c3Lo t) = -1000000000 := by unfold clT; omega
    rw [e, as_top.2] at g1
    omega
  have eL : clT (c3Lo t) = c3Lo t := by unfold clT; omega
  have eH : clT (c3Hi t) = c3Hi t := by unfold clT; omega
  rw [eL, eH]
  exact (as_order u2 u1 f3.2.1).2.1
set_option maxRecDepth 100000 in
set_option maxHeartbeats 16000000 in
theorem pathSun_walk (k0 t0 : Int) (w : World) (hT : SinT w) : Calls Tryz.prog 7 #[.int .i64 k0, .int .i64 t0] w fun e w' => e = .returned (.bool true) ∧ Below w.heap.size w w' := by
  have HW := Lib.hid (fun W (hT : SinT W) => pathWorks_ok W hT)
  have kb1 := Int.lt_tmod_of_pos k0 (show (0 : Int) < 90000 by omega)
  have kb2 := Int.tmod_lt_of_pos k0 (show (0 : Int) < 90000 by omega)
  have tb1 := Int.lt_tmod_of_pos t0 (show (0 : Int) < 24 by omega)
  have tb2 := Int.tmod_lt_of_pos t0 (show (0 : Int) < 24 by omega)
  generalize hk : k0.tmod 90000 = k at *
  generalize ht : t0.tmod 24 = u at *
  have hK := Lib.hid hk; have hU := Lib.hid ht
  clear hk ht
  have P := Lib.hid (fun W (hT : SinT W) => PFind_ok k 0 (by omega) (by omega) W hT)
  have bd := phF_bd (k := k) (q := 0) (by omega) (by omega) (by omega) (by omega)
  obtain ⟨T, hTT⟩ : ∃ T, T = (phF k 0).1 + u * 600000 := ⟨_, rfl⟩
  have ti : instOk T = true := by rw [hTT]; unfold instOk dayOk; exact decide_eq_true (by omega)
  have CE := Lib.hid (fun W (hT : SinT W) => Center_ok T W hT ti)
  have SU := Lib.hid (fun W (hT : SinT W) => sunAt_ok T W hT ti)
  have HE := Lib.hid (fun lon lat (pl : PlOk lon lat) W (hT : SinT W) => Height_ok lon lat (sRL T) (sRH T) (sDL T) (sDH T) T W hT (sun_lk T pl ti))
  have e1 : wrap64 (u * 600000) = u * 600000 := IntWalk.wrap64_in _ (by omega)
  have e2 : wrap64 ((phF k 0).1 + u * 600000) = T := by rw [hTT]; exact IntWalk.wrap64_in _ (by omega)
  have DK := fun (C : CeOk T) => ps_sun C
  have CS := ce_cases T
  generalize (phF k 0).1 = a1 at *
  generalize (phF k 0).2 = a2 at *
  have HT := Lib.hid hT
  clear hT kb1 kb2 tb1 tb2 bd ti hTT
  go_enter Tryz.func7, Tryz.ntmps7
  have HB := Lib.hid (Below.refl w.heap.size w)
  go_wp2_with fail
  refine Calls.mono (HW.out _ HT.out) ?_
  rintro e wc1 ⟨rfl, hb⟩
  replace HB := Lib.hid (HB.out.trans (hb.mono HB.out.size))
  clear hb
  have hk2 := hK.out; have hu2 := hU.out
  go_wp2_with fail
  refine Calls.mono (P.out _ (HT.out.below HB.out)) ?_
  rintro e wn1 ⟨rfl, hb⟩
  have HB1 := HB.out.trans (hb.mono HB.out.size)
  clear hb
  have Hkl1 := Lib.hid HB1.size; replace HB := Lib.hid (HB1.alloc HB1.size (.cells #[.int .i64 (a1), .int .i64 (a2)] 28))
  clear HB1
  have s1 := Lib.hid (SpBox.new wn1 (a1) (a2))
  obtain ⟨k1, hk1⟩ : ∃ x, x = wn1.heap.size := ⟨_, rfl⟩
  rw [← hk1] at s1 Hkl1
  go_upto_region 4 with fail
  rw [← hk1]
  obtain ⟨X1, hX1⟩ : ∃ X, X = wn1.alloc (.cells #[.int .i64 (a1), .int .i64 (a2)] 28) := ⟨_, rfl⟩
  rw [← hX1] at s1 HB ⊢
  clear hk1 hX1
  clear P HW
  have g1 := e1; have g2 := e2
  rcases CS with C | ⟨e, he, C⟩
  · skip
    have D := DK C
    have CG := Lib.hid (fun W (hT : SinT W) => show Calls Tryz.prog 22 #[.int .i64 T] W fun e w' => e = .returned (.tuple #[.agg #[.int .i64 T, .int .i64 (psL1 T), .int .i64 (psL2 T), .int .i64 (asLo (clT (c3Lo T))), .int .i64 (asHi (clT (c3Hi T)))], .int .i64 0]) ∧ Below W.heap.size W w' from by have := CE.out W hT; rw [C.ef] at this; exact this)
    clear CE C DK
    generalize psL1 T = y1 at *
    generalize psL2 T = y2 at *
    generalize asLo (clT (c3Lo T)) = y3 at *
    generalize asHi (clT (c3Hi T)) = y4 at *
    have d0 := D.a0; have d1 := D.a1; have d2 := D.a2; have d3 := D.a3; have d4 := D.b1; have d5 := D.b2
    have LAW := Lib.hid D.law
    have ORD := Lib.hid D.b3
    clear D
    obtain ⟨D1, hD1⟩ : ∃ D1, D1 = y2 - y1 := ⟨_, rfl⟩
    have f1 : wrap64 (y2 - y1) = D1 := by rw [hD1]; exact IntWalk.wrap64_in _ (by omega)
    obtain ⟨SM, hSM⟩ : ∃ S, S = y1 + y2 := ⟨_, rfl⟩
    have f2 : wrap64 (y1 + y2) = SM := by rw [hSM]; exact IntWalk.wrap64_in _ (by omega)
    have hS0 : 0 ≤ SM := by omega
    obtain ⟨Q, hQ⟩ : ∃ Q, Q = SM / 2 := ⟨_, rfl⟩
    have hQ0 : 0 ≤ Q := by omega
    have F1 := Lib.hid f1; have F2 := Lib.hid f2; have HD := Lib.hid hD1; have HS := Lib.hid hSM; have HQ := Lib.hid hQ; have HS0 := Lib.hid hS0; have HQ0 := Lib.hid hQ0
    have BD : Hid (0 ≤ y1 ∧ y1 < 1000000000 ∧ y1 ≤ y2 ∧ y2 ≤ y1 + 400000002 ∧ -250000000 ≤ y3 ∧ y4 ≤ 250000000) := Lib.hid ⟨d0, d1, d2, d3, d4, d5⟩
    clear f1 f2 hD1 hSM hQ hS0 hQ0 d0 d1 d2 d3 d4 d5
    have sc1_0 := s1.out.c0; have sc1_1 := s1.out.c1; have sc1_l := s1.out.lt
    go_wp2_with fail
    refine Calls.mono (CG.out _ (HT.out.below HB.out)) ?_
    rintro e wn2 ⟨rfl, hb⟩
    replace s1 := Lib.hid ((s1.out.below hb).alloc (.cells #[.int .i64 T, .int .i64 y1, .int .i64 y2, .int .i64 y3, .int .i64 y4] 40))
    have HB2 := HB.out.trans (hb.mono HB.out.size)
    clear sc1_0 sc1_1 sc1_l
    clear hb
    have Hkl2 := Lib.hid HB2.size; replace HB := Lib.hid (HB2.alloc HB2.size (.cells #[.int .i64 T, .int .i64 y1, .int .i64 y2, .int .i64 y3, .int .i64 y4] 40)); clear HB2
    have s2 := Lib.hid (PtBox.new wn2 (.int .i64 T) (.int .i64 y1) (.int .i64 y2) (.int .i64 y3) (.int .i64 y4))
    obtain ⟨k2, hk2⟩ : ∃ x, x = wn2.heap.size := ⟨_, rfl⟩
    rw [← hk2] at s2 Hkl2
    go_upto_region 5 with fail
    rw [← hk2]
    obtain ⟨X2, hX2⟩ : ∃ X, X = wn2.alloc (.cells #[.int .i64 T, .int .i64 y1, .int .i64 y2, .int .i64 y3, .int .i64 y4] 40) := ⟨_, rfl⟩
    rw [← hX2] at s1 s2 HB ⊢
    clear hk2 hX2
    clear CG
    have z0 := s2.out.c0; have z1 := s2.out.c1; have z2 := s2.out.c2; have z3 := s2.out.c3; have z4 := s2.out.c4; have zl := s2.out.lt
    by_cases c1 : y3 < -200000000
    · clear LAW ORD
      go_wp2_with fail
      go_ret
      exact ⟨rfl, HB.out⟩
    by_cases c2 : 200000000 < y4
    · have c1' : -200000000 ≤ y3 := Int.not_lt.1 c1
      clear LAW ORD c1
      go_wp2_with fail
      go_ret
      exact ⟨rfl, HB.out⟩
    have c1' : -200000000 ≤ y3 := Int.not_lt.1 c1
    have c2' : y4 ≤ 200000000 := Int.not_lt.1 c2
    have o34 := ORD.out c1' c2'
    have q1 := F1.out
    by_cases c3 : 20000000 < D1
    · clear LAW ORD c1 c2 o34
      go_wp2_with fail
      go_ret
      exact ⟨rfl, HB.out⟩
    have c3' : D1 ≤ 20000000 := Int.not_lt.1 c3
    obtain ⟨D2, hD2⟩ : ∃ D2, D2 = y4 - y3 := ⟨_, rfl⟩
    have q2 : wrap64 (y4 - y3) = D2 := by rw [hD2]; have := BD.out; exact IntWalk.wrap64_in _ (by omega)
    by_cases c4 : 20000000 < D2
    · clear LAW ORD c1 c2 o34 c3 hD2
      go_wp2_with fail
      go_ret
      exact ⟨rfl, HB.out⟩
    have c4' : D2 ≤ 20000000 := Int.not_lt.1 c4
    have L := LAW.out c1' c2' (by rw [← HD.out]; exact c3') (by rw [← hD2]; exact c4')
    have HL := Lib.hid L
    clear L LAW c1 c2 c3 c4
    obtain ⟨L0, hL0⟩ : ∃ L0, L0 = Q % 1000000000 := ⟨_, rfl⟩
    obtain ⟨SL, hSL⟩ : ∃ S, S = y3 + y4 := ⟨_, rfl⟩
    have q3 : wrap64 (y3 + y4) = SL := by rw [hSL]; have := BD.out; exact IntWalk.wrap64_in _ (by omega)
    obtain ⟨lat, hlat⟩ : ∃ l, l = SL.tdiv 2 := ⟨_, rfl⟩
    have lb : SL - 1 ≤ 2 * lat ∧ 2 * lat ≤ SL + 1 := by
      rw [hlat]
      rcases (by omega : 0 ≤ SL ∨ SL < 0) with c | c
      · rw [Int.tdiv_eq_ediv_of_nonneg c]; omega
      · have e : SL = -(-SL) := by omega
        rw [e, Int.neg_tdiv, Int.tdiv_eq_ediv_of_nonneg (by omega)]; omega
    have HLA := Lib.hid lb; have HL0 := Lib.hid hL0; have HSL := Lib.hid hSL
    have q4 := F2.out
    have hS0 := HS0.out; have hQ0 := HQ0.out
    have qq1 : wrap64 (SM.tdiv 2) = Q := by
      have := BD.out; have := HS.out; have := HQ.out
      rw [Int.tdiv_eq_ediv_of_nonneg hS0]
      rw [IntWalk.wrap64_in _ (by omega)]
      omega
    have qq2 : Q.tmod 1000000000 = L0 := by rw [Int.tmod_eq_emod_of_nonneg hQ0]; exact hL0.symm
    have qq3 : wrap64 (SL.tdiv 2) = lat := by
      have := BD.out
      rw [← hlat]
      exact IntWalk.wrap64_in _ (by omega)
    have PL : Hid (∀ x, (x = L0 ∧ L0 ≤ 500000000) ∨ (x = L0 - 1000000000 ∧ 500000000 < L0) → PlOk x lat ∧ -150000000 < upHi lat (hhLo x T (sRH T)) (hhHi x T (sRL T)) (sDL T) (sDH T)) := Lib.hid (fun x hx => by
      have q := HQ.out; have s' := HS.out
      refine ⟨⟨by omega, by omega, by omega, by omega⟩, ?_⟩
      rcases hx with ⟨h, _⟩ | ⟨h, _⟩
      · exact HL.out x lat (Q / 1000000000) (by rw [← s', ← q]; omega) (by omega) (by omega)
      · exact HL.out x lat (Q / 1000000000 + 1) (by rw [← s', ← q]; omega) (by omega) (by omega))
    clear lb hL0 hSL hlat hD2 o34 HL
    go_upto_region 8 with fail
    by_cases cL : 500000000 < L0
    · skip
      obtain ⟨lon, hlon⟩ : ∃ x, x = L0 - 1000000000 := ⟨_, rfl⟩
      have q5 : wrap64 (L0 - 1000000000) = lon := by rw [hlon]; have := HL0.out; exact IntWalk.wrap64_in _ (by omega)
      obtain ⟨pl, hgt⟩ := PL.out lon (.inr ⟨hlon, cL⟩)
      have HH := Lib.hid (HE.out lon lat pl)
      generalize upLo lat (hhLo lon T (sRH T)) (hhHi lon T (sRL T)) (sDL T) (sDH T) = h1 at *
      generalize upHi lat (hhLo lon T (sRH T)) (hhHi lon T (sRL T)) (sDL T) (sDH T) = h2 at *
      clear HE PL pl hlon
      generalize sRL T = r1 at *
      generalize sRH T = r2 at *
      generalize sDL T = x1 at *
      generalize sDH T = x2 at *
      go_upto_region 10 with fail
      replace s1 := Lib.hid (s1.out.alloc (.cells #[.int .i64 lon, .int .i64 lat] 23))
      replace s2 := Lib.hid (s2.out.alloc (.cells #[.int .i64 lon, .int .i64 lat] 23))
      have Hkl3 := Lib.hid HB.out.size; replace HB := Lib.hid (HB.out.alloc HB.out.size (.cells #[.int .i64 lon, .int .i64 lat] 23))
      have s3 := Lib.hid (PlBox.new X2 lon lat)
      obtain ⟨k3, hk3⟩ : ∃ x, x = X2.heap.size := ⟨_, rfl⟩
      rw [← hk3] at s3 Hkl3
      go_upto_region 11 with fail
      rw [← hk3]
      obtain ⟨X3, hX3⟩ : ∃ X, X = X2.alloc (.cells #[.int .i64 lon, .int .i64 lat] 23) := ⟨_, rfl⟩
      rw [← hX3] at s1 s2 s3 HB ⊢
      clear hk3 hX3
      clear z0 z1 z2 z3 z4 zl
      have z0 := s2.out.c0; have zl := s2.out.lt
      go_wp2_with fail
      refine Calls.mono (SU.out _ (HT.out.below HB.out)) ?_
      rintro e wn4 ⟨rfl, hb⟩
      replace s1 := Lib.hid (((s1.out.below hb).alloc (.cells #[.int .i64 (r1), .int .i64 (r2)] 28)).alloc (.cells #[.int .i64 (x1), .int .i64 (x2)] 28))
      replace s2 := Lib.hid (((s2.out.below hb).alloc (.cells #[.int .i64 (r1), .int .i64 (r2)] 28)).alloc (.cells #[.int .i64 (x1), .int .i64 (x2)] 28))
      replace s3 := Lib.hid (((s3.out.below hb).alloc (.cells #[.int .i64 (r1), .int .i64 (r2)] 28)).alloc (.cells #[.int .i64 (x1), .int .i64 (x2)] 28))
      have HB4 := HB.out.trans (hb.mono HB.out.size)
      clear hb
      have Hkl4 := Lib.hid HB4.size; have HBq := HB4.alloc HB4.size (.cells #[.int .i64 (r1), .int .i64 (r2)] 28); replace HB := Lib.hid (HBq.alloc HBq.size (.cells #[.int .i64 (x1), .int .i64 (x2)] 28)); clear HB4 HBq
      obtain ⟨k4, hk4⟩ : ∃ x, x = wn4.heap.size := ⟨_, rfl⟩
      have hk5 : (wn4.alloc (.cells #[.int .i64 (r1), .int .i64 (r2)] 28)).heap.size = k4 + 1 := by simp [hk4]
      have s4 := Lib.hid ((SpBox.new wn4 (r1) (r2)).alloc (.cells #[.int .i64 (x1), .int .i64 (x2)] 28))
      have s50 := SpBox.new (wn4.alloc (.cells #[.int .i64 (r1), .int .i64 (r2)] 28)) (x1) (x2)
      rw [hk5] at s50
      have s5 := Lib.hid s50; clear s50
      rw [← hk4] at s4 Hkl4
      have Hkl5 := Lib.hid (Nat.le_trans Hkl4.out (Nat.le_succ k4))
      go_upto_region 12 with fail
      (try rw [hk5])
      rw [← hk4]
      obtain ⟨X5, hX5⟩ : ∃ X, X = (wn4.alloc (.cells #[.int .i64 (r1), .int .i64 (r2)] 28)).alloc (.cells #[.int .i64 (x1), .int .i64 (x2)] 28) := ⟨_, rfl⟩
      rw [← hX5] at s1 s2 s3 s4 s5 HB ⊢
      clear hk5 hk4 hX5
      clear z0 zl SU
      have z0 := s2.out.c0; have zl := s2.out.lt
      have p0 := s3.out.c0; have p1 := s3.out.c1; have pz := s3.out.lt
      have sc4_0 := s4.out.c0; have sc4_1 := s4.out.c1; have sc4_l := s4.out.lt
      have sc5_0 := s5.out.c0; have sc5_1 := s5.out.c1; have sc5_l := s5.out.lt
      go_wp2_with fail
      refine Calls.mono (HH.out _ (HT.out.below HB.out)) ?_
      rintro e wn6 ⟨rfl, hb⟩
      replace s1 := Lib.hid ((s1.out.below hb).alloc (.cells #[.int .i64 (h1), .int .i64 (h2)] 28))
      replace s2 := Lib.hid ((s2.out.below hb).alloc (.cells #[.int .i64 (h1), .int .i64 (h2)] 28))
      replace s3 := Lib.hid ((s3.out.below hb).alloc (.cells #[.int .i64 (h1), .int .i64 (h2)] 28))
      replace s4 := Lib.hid ((s4.out.below hb).alloc (.cells #[.int .i64 (h1), .int .i64 (h2)] 28))
      replace s5 := Lib.hid ((s5.out.below hb).alloc (.cells #[.int .i64 (h1), .int .i64 (h2)] 28))
      have HB6 := HB.out.trans (hb.mono HB.out.size)
      clear sc4_0 sc4_1 sc4_l sc5_0 sc5_1 sc5_l
      clear hb
      have Hkl6 := Lib.hid HB6.size; replace HB := Lib.hid (HB6.alloc HB6.size (.cells #[.int .i64 (h1), .int .i64 (h2)] 28))
      clear HB6
      have s6 := Lib.hid (SpBox.new wn6 (h1) (h2))
      obtain ⟨k6, hk6⟩ : ∃ x, x = wn6.heap.size := ⟨_, rfl⟩
      rw [← hk6] at s6 Hkl6
      go_upto_region 13 with fail
      rw [← hk6]
      obtain ⟨X6, hX6⟩ : ∃ X, X = wn6.alloc (.cells #[.int .i64 (h1), .int .i64 (h2)] 28) := ⟨_, rfl⟩
      rw [← hX6] at s1 s2 s3 s4 s5 s6 HB ⊢
      clear hk6 hX6
      clear z0 zl p0 p1 pz HH
      have sc6_0 := s6.out.c0; have sc6_1 := s6.out.c1; have sc6_l := s6.out.lt
      go_wp2_with fail
      go_ret
      exact ⟨rfl, HB.out⟩
    · have cL' : L0 ≤ 500000000 := Int.not_lt.1 cL
      obtain ⟨lon, hlon⟩ : ∃ x, x = L0 := ⟨_, rfl⟩
      obtain ⟨pl, hgt⟩ := PL.out lon (.inl ⟨hlon, cL'⟩)
      rw [← hlon] at cL' cL
      have HH := Lib.hid (HE.out lon lat pl)
      rw [← hlon] at qq2 ⊢
      generalize upLo lat (hhLo lon T (sRH T)) (hhHi lon T (sRL T)) (sDL T) (sDH T) = h1 at *
      generalize upHi lat (hhLo lon T (sRH T)) (hhHi lon T (sRL T)) (sDL T) (sDH T) = h2 at *
      clear HE PL pl hlon
      generalize sRL T = r1 at *
      generalize sRH T = r2 at *
      generalize sDL T = x1 at *
      generalize sDH T = x2 at *
      go_upto_region 10 with fail
      replace s1 := Lib.hid (s1.out.alloc (.cells #[.int .i64 lon, .int .i64 lat] 23))
      replace s2 := Lib.hid (s2.out.alloc (.cells #[.int .i64 lon, .int .i64 lat] 23))
      have Hkl3 := Lib.hid HB.out.size; replace HB := Lib.hid (HB.out.alloc HB.out.size (.cells #[.int .i64 lon, .int .i64 lat] 23))
      have s3 := Lib.hid (PlBox.new X2 lon lat)
      obtain ⟨k3, hk3⟩ : ∃ x, x = X2.heap.size := ⟨_, rfl⟩
      rw [← hk3] at s3 Hkl3
      go_upto_region 11 with fail
      rw [← hk3]
      obtain ⟨X3, hX3⟩ : ∃ X, X = X2.alloc (.cells #[.int .i64 lon, .int .i64 lat] 23) := ⟨_, rfl⟩
      rw [← hX3] at s1 s2 s3 HB ⊢
      clear hk3 hX3
      clear z0 z1 z2 z3 z4 zl
      have z0 := s2.out.c0; have zl := s2.out.lt
      go_wp2_with fail
      refine Calls.mono (SU.out _ (HT.out.below HB.out)) ?_
      rintro e wn4 ⟨rfl, hb⟩
      replace s1 := Lib.hid (((s1.out.below hb).alloc (.cells #[.int .i64 (r1), .int .i64 (r2)] 28)).alloc (.cells #[.int .i64 (x1), .int .i64 (x2)] 28))
      replace s2 := Lib.hid (((s2.out.below hb).alloc (.cells #[.int .i64 (r1), .int .i64 (r2)] 28)).alloc (.cells #[.int .i64 (x1), .int .i64 (x2)] 28))
      replace s3 := Lib.hid (((s3.out.below hb).alloc (.cells #[.int .i64 (r1), .int .i64 (r2)] 28)).alloc (.cells #[.int .i64 (x1), .int .i64 (x2)] 28))
      have HB4 := HB.out.trans (hb.mono HB.out.size)
      clear hb
      have Hkl4 := Lib.hid HB4.size; have HBq := HB4.alloc HB4.size (.cells #[.int .i64 (r1), .int .i64 (r2)] 28); replace HB := Lib.hid (HBq.alloc HBq.size (.cells #[.int .i64 (x1), .int .i64 (x2)] 28)); clear HB4 HBq
      obtain ⟨k4, hk4⟩ : ∃ x, x = wn4.heap.size := ⟨_, rfl⟩
      have hk5 : (wn4.alloc (.cells #[.int .i64 (r1), .int .i64 (r2)] 28)).heap.size = k4 + 1 := by simp [hk4]
      have s4 := Lib.hid ((SpBox.new wn4 (r1) (r2)).alloc (.cells #[.int .i64 (x1), .int .i64 (x2)] 28))
      have s50 := SpBox.new (wn4.alloc (.cells #[.int .i64 (r1), .int .i64 (r2)] 28)) (x1) (x2)
      rw [hk5] at s50
      have s5 := Lib.hid s50; clear s50
      rw [← hk4] at s4 Hkl4
      have Hkl5 := Lib.hid (Nat.le_trans Hkl4.out (Nat.le_succ k4))
      go_upto_region 12 with fail
      (try rw [hk5])
      rw [← hk4]
      obtain ⟨X5, hX5⟩ : ∃ X, X = (wn4.alloc (.cells #[.int .i64 (r1), .int .i64 (r2)] 28)).alloc (.cells #[.int .i64 (x1), .int .i64 (x2)] 28) := ⟨_, rfl⟩
      rw [← hX5] at s1 s2 s3 s4 s5 HB ⊢
      clear hk5 hk4 hX5
      clear z0 zl SU
      have z0 := s2.out.c0; have zl := s2.out.lt
      have p0 := s3.out.c0; have p1 := s3.out.c1; have pz := s3.out.lt
      have sc4_0 := s4.out.c0; have sc4_1 := s4.out.c1; have sc4_l := s4.out.lt
      have sc5_0 := s5.out.c0; have sc5_1 := s5.out.c1; have sc5_l := s5.out.lt
      go_wp2_with fail
      refine Calls.mono (HH.out _ (HT.out.below HB.out)) ?_
      rintro e wn6 ⟨rfl, hb⟩
      replace s1 := Lib.hid ((s1.out.below hb).alloc (.cells #[.int .i64 (h1), .int .i64 (h2)] 28))
      replace s2 := Lib.hid ((s2.out.below hb).alloc (.cells #[.int .i64 (h1), .int .i64 (h2)] 28))
      replace s3 := Lib.hid ((s3.out.below hb).alloc (.cells #[.int .i64 (h1), .int .i64 (h2)] 28))
      replace s4 := Lib.hid ((s4.out.below hb).alloc (.cells #[.int .i64 (h1), .int .i64 (h2)] 28))
      replace s5 := Lib.hid ((s5.out.below hb).alloc (.cells #[.int .i64 (h1), .int .i64 (h2)] 28))
      have HB6 := HB.out.trans (hb.mono HB.out.size)
      clear sc4_0 sc4_1 sc4_l sc5_0 sc5_1 sc5_l
      clear hb
      have Hkl6 := Lib.hid HB6.size; replace HB := Lib.hid (HB6.alloc HB6.size (.cells #[.int .i64 (h1), .int .i64 (h2)] 28))
      clear HB6
      have s6 := Lib.hid (SpBox.new wn6 (h1) (h2))
      obtain ⟨k6, hk6⟩ : ∃ x, x = wn6.heap.size := ⟨_, rfl⟩
      rw [← hk6] at s6 Hkl6
      go_upto_region 13 with fail
      rw [← hk6]
      obtain ⟨X6, hX6⟩ : ∃ X, X = wn6.alloc (.cells #[.int .i64 (h1), .int .i64 (h2)] 28) := ⟨_, rfl⟩
      rw [← hX6] at s1 s2 s3 s4 s5 s6 HB ⊢
      clear hk6 hX6
      clear z0 zl p0 p1 pz HH
      have sc6_0 := s6.out.c0; have sc6_1 := s6.out.c1; have sc6_l := s6.out.lt
      go_wp2_with fail
      go_ret
      exact ⟨rfl, HB.out⟩
  · skip
    have CB := Lib.hid (fun W (hT : SinT W) => show Calls Tryz.prog 22 #[.int .i64 T] W fun e' w' => e' = .returned (.tuple #[.agg #[.int .i64 0, .int .i64 0, .int .i64 0, .int .i64 0, .int .i64 0], .int .i64 e]) ∧ Below W.heap.size W w' from by have := CE.out W hT; rw [C] at this; exact this)
    clear CE C DK
    have sc1_0 := s1.out.c0; have sc1_1 := s1.out.c1; have sc1_l := s1.out.lt
    rcases he with rfl | rfl
    case inl =>
      go_wp2_with fail
      refine Calls.mono (CB.out _ (HT.out.below HB.out)) ?_
      rintro e wn2 ⟨rfl, hb⟩
      replace s1 := Lib.hid ((s1.out.below hb).alloc (.cells #[.int .i64 0, .int .i64 0, .int .i64 0, .int .i64 0, .int .i64 0] 40))
      have HB2 := HB.out.trans (hb.mono HB.out.size)
      clear sc1_0 sc1_1 sc1_l
      clear hb
      have Hkl2 := Lib.hid HB2.size; replace HB := Lib.hid (HB2.alloc HB2.size (.cells #[.int .i64 0, .int .i64 0, .int .i64 0, .int .i64 0, .int .i64 0] 40)); clear HB2
      have s2 := Lib.hid (PtBox.new wn2 (.int .i64 0) (.int .i64 0) (.int .i64 0) (.int .i64 0) (.int .i64 0))
      obtain ⟨k2, hk2⟩ : ∃ x, x = wn2.heap.size := ⟨_, rfl⟩
      rw [← hk2] at s2 Hkl2
      go_upto_region 5 with fail
      rw [← hk2]
      obtain ⟨X2, hX2⟩ : ∃ X, X = wn2.alloc (.cells #[.int .i64 0, .int .i64 0, .int .i64 0, .int .i64 0, .int .i64 0] 40) := ⟨_, rfl⟩
      rw [← hX2] at s1 s2 HB ⊢
      clear hk2 hX2
      have z0 := s2.out.c0; have z1 := s2.out.c1; have z2 := s2.out.c2; have z3 := s2.out.c3; have z4 := s2.out.c4; have zl := s2.out.lt
      go_wp2_with fail
      go_ret
      exact ⟨rfl, HB.out⟩
    case inr =>
      go_wp2_with fail
      refine Calls.mono (CB.out _ (HT.out.below HB.out)) ?_
      rintro e wn2 ⟨rfl, hb⟩
      replace s1 := Lib.hid ((s1.out.below hb).alloc (.cells #[.int .i64 0, .int .i64 0, .int .i64 0, .int .i64 0, .int .i64 0] 40))
      have HB2 := HB.out.trans (hb.mono HB.out.size)
      clear sc1_0 sc1_1 sc1_l
      clear hb
      have Hkl2 := Lib.hid HB2.size; replace HB := Lib.hid (HB2.alloc HB2.size (.cells #[.int .i64 0, .int .i64 0, .int .i64 0, .int .i64 0, .int .i64 0] 40)); clear HB2
      have s2 := Lib.hid (PtBox.new wn2 (.int .i64 0) (.int .i64 0) (.int .i64 0) (.int .i64 0) (.int .i64 0))
      obtain ⟨k2, hk2⟩ : ∃ x, x = wn2.heap.size := ⟨_, rfl⟩
      rw [← hk2] at s2 Hkl2
      go_upto_region 5 with fail
      rw [← hk2]
      obtain ⟨X2, hX2⟩ : ∃ X, X = wn2.alloc (.cells #[.int .i64 0, .int .i64 0, .int .i64 0, .int .i64 0, .int .i64 0] 40) := ⟨_, rfl⟩
      rw [← hX2] at s1 s2 HB ⊢
      clear hk2 hX2
      have z0 := s2.out.c0; have z1 := s2.out.c1; have z2 := s2.out.c2; have z3 := s2.out.c3; have z4 := s2.out.c4; have zl := s2.out.lt
      go_wp2_with fail
      go_ret
      exact ⟨rfl, HB.out⟩
end Go.Proofs.YtcopmgnfakjdhaaGreatDoor
