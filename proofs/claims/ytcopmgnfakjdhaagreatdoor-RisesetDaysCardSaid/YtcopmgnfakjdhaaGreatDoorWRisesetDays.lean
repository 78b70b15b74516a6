/- RisesetDays: between rising and setting, the sun is above at the middle of the day. -/
import Derived.Test.YtcopmgnfakjdhaaGreatDoorWRdW
import Derived.Test.YtcopmgnfakjdhaaGreatDoorWRdF
namespace Go.Proofs.YtcopmgnfakjdhaaGreatDoor
open Go.RowKit
set_option linter.unusedSimpArgs false
set_option linter.unusedVariables false
theorem PlBox.putA {w : World} {b : Nat} {x y : Int} (h : PlBox w b x y) (u v : Int) : PlBox ((w.setCell ⟨b, 0, none⟩ (.int .i64 u)).setCell ⟨b, 1, none⟩ (.int .i64 v)) b u v :=
  ((World.rowIs.set h 0 (.int .i64 u)).set 1 (.int .i64 v)).congr (fun i hi => by
    match i, hi with
    | 0, _ => rfl
    | 1, _ => rfl)
theorem PlBox.putB {w : World} {b : Nat} {x y : Int} (h : PlBox w b x y) (v : Int) : PlBox (w.setCell ⟨b, 1, none⟩ (.int .i64 v)) b x v :=
  (World.rowIs.set h 1 (.int .i64 v)).congr (fun i hi => by
    match i, hi with
    | 0, _ => rfl
    | 1, _ => rfl)
theorem rsF_z (lon lat d sg : Int) : (rsF lon lat 0 d sg).2.2 ≠ 0 → (rsF lon lat 0 d sg).1 = 0 ∧ (rsF lon lat 0 d sg).2.1 = 0 := fun h => by
  rcases rfL_e (fun t => sg * abF lon lat 0 t) (d * 86400000) 97 0 false 0 0 with e | ⟨-, e1, e2⟩
  · exact absurd e h
  · exact ⟨e1, e2⟩
set_option maxRecDepth 100000 in
set_option maxHeartbeats 16000000 in
theorem risesetDays_walk (p1 p2 d0 : Int) (w : World) (hT : SinT w) (hL : LimT w) : Calls Tryz.prog 3 #[.agg #[.int .i64 p1, .int .i64 p2], .int .i64 d0] w fun e w' => e = .returned (.bool true) ∧ Below w.heap.size w w' := by
  have HW := Lib.hid (fun W (hT : SinT W) (hL : LimT W) => risesetWorks_ok W hT hL)
  have SI := Lib.hid (fun w => site_ok p1 p2 w)
  have I := Lib.hid (fun w => at_any d0 7000000 w (by omega) (by omega))
  have pl0 := site_pl p1 p2
  have m1 : 0 ≤ d0 % 7000000 := by omega
  have m2 : d0 % 7000000 < 7000000 := by omega
  generalize d0 % 7000000 = m at *
  obtain ⟨d, hd⟩ : ∃ d, d = m - 3500000 := ⟨_, rfl⟩
  have e1 : wrap64 (m - 3500000) = d := by rw [hd]; exact IntWalk.wrap64_in _ (by omega)
  have hd' : -3900000 ≤ d ∧ d ≤ 3900000 := by omega
  generalize p1.tmod 500000001 = lon at *
  generalize p2.tmod 220000001 = lat0 at *
  have lb1 := Int.lt_tmod_of_pos lat0 (show (0 : Int) < 150000000 by omega)
  have lb2 := Int.tmod_lt_of_pos lat0 (show (0 : Int) < 150000000 by omega)
  obtain ⟨lat, hlat⟩ : ∃ l, l = lat0.tmod 150000000 := ⟨_, rfl⟩
  rw [← hlat] at lb1 lb2
  have elat : lat0.tmod 150000000 = lat := hlat.symm
  have pl : PlOk lon lat := ⟨pl0.o1, pl0.o2, by omega, by omega⟩
  have RI := Lib.hid (fun W (hT : SinT W) (hL : LimT W) => rdRise_ok lon lat d pl hd' W hT hL)
  have SE := Lib.hid (fun W (hT : SinT W) (hL : LimT W) => rdSet_ok lon lat d pl hd' W hT hL)
  have LN := Lib.hid (fun a1 a2 b1 b2 (h : LenOk lon lat d a1 a2 b1 b2) W (hT : SinT W) (hL : LimT W) => rdLength_ok lon lat d a1 a2 b1 b2 pl hd' h W hT hL)
  have AB := Lib.hid (fun t (ti : -340000000000000 ≤ t ∧ t ≤ 340000000000000) W (hT : SinT W) (hL : LimT W) => rdAbove_ok lon lat t pl (by unfold instOk dayOk; exact decide_eq_true (by omega)) ⟨by omega, by omega⟩ W hT hL)
  have ZA := Lib.hid (rsF_z lon lat d 1)
  have ZB := Lib.hid (rsF_z lon lat d (-1))
  have BA := Lib.hid (fun h => rsF_bd lon lat 0 d 1 h)
  have BB := Lib.hid (fun h => rsF_bd lon lat 0 d (-1) h)
  have LAW := Lib.hid (fun ea eb h => rd_law (lon := lon) (lat := lat) (d := d) ⟨by omega, lb2⟩ ea eb h)
  have MK : Hid (∀ h1 : (rsF lon lat 0 d 1).2.2 = 0, ∀ h2 : (rsF lon lat 0 d (-1)).2.2 = 0, (rsF lon lat 0 d 1).2.1 < (rsF lon lat 0 d (-1)).1 → LenOk lon lat d (rsF lon lat 0 d 1).1 (rsF lon lat 0 d 1).2.1 (rsF lon lat 0 d (-1)).1 (rsF lon lat 0 d (-1)).2.1) := Lib.hid (fun h1 h2 h => by
    have b1 := BA.out h1; have b2 := BB.out h2
    exact ⟨Prod.ext rfl (Prod.ext rfl h1), Prod.ext rfl (Prod.ext rfl h2), b1.2.1, h, b2.2.1, by omega, by omega⟩)
  have HD := Lib.hid hd'
  generalize (rsF lon lat 0 d 1).1 = a1 at *
  generalize (rsF lon lat 0 d 1).2.1 = a2 at *
  generalize (rsF lon lat 0 d 1).2.2 = ae at *
  generalize (rsF lon lat 0 d (-1)).1 = b1 at *
  generalize (rsF lon lat 0 d (-1)).2.1 = b2 at *
  generalize (rsF lon lat 0 d (-1)).2.2 = be at *
  have HT := Lib.hid hT
  have HL := Lib.hid hL
  clear hT hL pl pl0 hd hd' m1 m2 lb1 lb2 hlat
  have P1 := PlBox.new w p1 p2
  have HB0 := (Below.refl w.heap.size w).alloc (Nat.le_refl _) (.cells #[.int .i64 p1, .int .i64 p2] 23)
  obtain ⟨k0, hk0⟩ : ∃ x, x = w.heap.size := ⟨_, rfl⟩
  rw [← hk0] at P1
  have HB := Lib.hid (Below.refl w.heap.size w)
  clear HB
  go_enter Tryz.func3, Tryz.ntmps3
  go_upto_region 1 with fail
  rw [← hk0]
  have HK0 := Lib.hid hk0
  obtain ⟨X0, hX0⟩ : ∃ X, X = w.alloc (.cells #[.int .i64 p1, .int .i64 p2] 23) := ⟨_, rfl⟩
  rw [← hX0] at P1 HB0 ⊢
  have HB := Lib.hid HB0
  have s1 := Lib.hid P1
  clear hX0 P1 HB0 hk0
  go_wp2_with fail
  refine Calls.mono (HW.out _ (HT.out.below HB.out) (HL.out.below HB.out)) ?_
  rintro e wc1 ⟨rfl, hb⟩
  replace s1 := Lib.hid (s1.out.below hb)
  replace HB := Lib.hid (HB.out.trans (hb.mono HB.out.size))
  clear hb
  have p0 := s1.out.c0; have p1' := s1.out.c1; have pz := s1.out.lt
  go_wp2_with fail
  refine Calls.mono (SI.out _) ?_
  rintro e wc2 ⟨rfl, hb⟩
  replace s1 := Lib.hid (s1.out.below hb)
  replace HB := Lib.hid (HB.out.trans (hb.mono HB.out.size))
  clear hb
  clear p0 p1' pz
  go_wp2_with fail
  refine Calls.mono (I.out _) ?_
  rintro e wq ⟨rfl, rfl⟩
  have p0 := s1.out.c0; have p1' := s1.out.c1; have pz := s1.out.lt; have pf0 := s1.out.free 0; have pf1 := s1.out.free 1
  go_upto_region 4 with fail
  have S1' := s1.out.putA lon lat0
  have B1 := (HB.out.setCell (p := ⟨k0, 0, none⟩) (by have := HK0.out; dsimp only; omega) (.int .i64 lon)).setCell (p := ⟨k0, 1, none⟩) (by have := HK0.out; dsimp only; omega) (.int .i64 lat0)
  obtain ⟨Y, hY⟩ : ∃ Y, Y = ((wc2.setCell ⟨k0, 0, none⟩ (.int .i64 lon)).setCell ⟨k0, 1, none⟩ (.int .i64 lat0)) := ⟨_, rfl⟩
  rw [← hY] at S1' B1 ⊢
  replace s1 := Lib.hid S1'
  replace HB := Lib.hid B1
  clear S1' B1 hY p0 p1' pz pf0 pf1 HW SI I
  have p0 := s1.out.c0; have p1' := s1.out.c1; have pz := s1.out.lt; have pf1 := s1.out.free 1
  go_upto_region 5 with fail
  have S2' := s1.out.putB lat
  have B2 := HB.out.setCell (p := ⟨k0, 1, none⟩) (by have := HK0.out; dsimp only; omega) (.int .i64 lat)
  obtain ⟨Y2, hY2⟩ : ∃ Y2, Y2 = Y.setCell ⟨k0, 1, none⟩ (.int .i64 lat) := ⟨_, rfl⟩
  rw [← hY2] at S2' B2 ⊢
  replace s1 := Lib.hid S2'
  replace HB := Lib.hid B2
  clear S2' B2 hY2 p0 p1' pz pf1 HK0
  have p0 := s1.out.c0; have p1' := s1.out.c1; have pz := s1.out.lt
  go_wp2_with fail
  refine Calls.mono (RI.out _ (HT.out.below HB.out) (HL.out.below HB.out)) ?_
  rintro e wn2 ⟨rfl, hb⟩
  replace s1 := Lib.hid ((s1.out.below hb).alloc (.cells #[.int .i64 (a1), .int .i64 (a2)] 28))
  have HB2 := HB.out.trans (hb.mono HB.out.size)
  clear hb
  have Hkl2 := Lib.hid HB2.size; replace HB := Lib.hid (HB2.alloc HB2.size (.cells #[.int .i64 (a1), .int .i64 (a2)] 28))
  clear HB2
  have s2 := Lib.hid (SpBox.new wn2 (a1) (a2))
  obtain ⟨k2, hk2⟩ : ∃ x, x = wn2.heap.size := ⟨_, rfl⟩
  rw [← hk2] at s2 Hkl2
  go_upto_region 6 with fail
  rw [← hk2]
  obtain ⟨X2, hX2⟩ : ∃ X, X = wn2.alloc (.cells #[.int .i64 (a1), .int .i64 (a2)] 28) := ⟨_, rfl⟩
  rw [← hX2] at s1 s2 HB ⊢
  clear hk2 hX2
  clear p0 p1' pz RI
  have p0 := s1.out.c0; have p1' := s1.out.c1; have pz := s1.out.lt
  go_wp2_with fail
  refine Calls.mono (SE.out _ (HT.out.below HB.out) (HL.out.below HB.out)) ?_
  rintro e wn3 ⟨rfl, hb⟩
  replace s1 := Lib.hid ((s1.out.below hb).alloc (.cells #[.int .i64 (b1), .int .i64 (b2)] 28))
  replace s2 := Lib.hid ((s2.out.below hb).alloc (.cells #[.int .i64 (b1), .int .i64 (b2)] 28))
  have HB3 := HB.out.trans (hb.mono HB.out.size)
  clear hb
  have Hkl3 := Lib.hid HB3.size; replace HB := Lib.hid (HB3.alloc HB3.size (.cells #[.int .i64 (b1), .int .i64 (b2)] 28))
  clear HB3
  have s3 := Lib.hid (SpBox.new wn3 (b1) (b2))
  obtain ⟨k3, hk3⟩ : ∃ x, x = wn3.heap.size := ⟨_, rfl⟩
  rw [← hk3] at s3 Hkl3
  go_upto_region 7 with fail
  rw [← hk3]
  obtain ⟨X3, hX3⟩ : ∃ X, X = wn3.alloc (.cells #[.int .i64 (b1), .int .i64 (b2)] 28) := ⟨_, rfl⟩
  rw [← hX3] at s1 s2 s3 HB ⊢
  clear hk3 hX3
  clear p0 p1' pz SE
  by_cases ca : ae = 0
  · by_cases cb : be = 0
    · have ba := BA.out ca; have bb := BB.out cb
      by_cases cl : b1 ≤ a2
      · subst ca; subst cb
        clear LAW MK ba bb BA BB ZA ZB LN AB
        have sc2_0 := s2.out.c0; have sc2_1 := s2.out.c1; have sc2_l := s2.out.lt
        have sc3_0 := s3.out.c0; have sc3_1 := s3.out.c1; have sc3_l := s3.out.lt
        go_wp2_with fail
        go_ret
        exact ⟨rfl, HB.out⟩
      · skip
        have L := LAW.out ca cb (by omega)
        have LO := MK.out ca cb (by omega)
        subst ca; subst cb
        have L1 := L.lo; have L2 := L.hi
        obtain ⟨tm, htm⟩ : ∃ t, t = (a2 + b1).tdiv 2 := ⟨_, rfl⟩
        have tb : a2 + b1 - 1 ≤ 2 * tm ∧ 2 * tm ≤ a2 + b1 + 1 := by
          rw [htm]
          rcases (by omega : 0 ≤ a2 + b1 ∨ a2 + b1 < 0) with c | c
          · rw [Int.tdiv_eq_ediv_of_nonneg c]; omega
          · have e : a2 + b1 = -(-(a2 + b1)) := by omega
            rw [e, Int.neg_tdiv, Int.tdiv_eq_ediv_of_nonneg (by omega)]; omega
        have up := L.mid tm tb.1 tb.2
        have hdd := HD.out
        have tr : -340000000000000 ≤ tm ∧ tm ≤ 340000000000000 := by omega
        have A := Lib.hid (AB.out tm tr)
        rw [up] at A
        have N := Lib.hid (LN.out _ _ _ _ LO)
        obtain ⟨sm, hsm⟩ : ∃ s, s = a2 + b1 := ⟨_, rfl⟩
        have q1 : wrap64 (a2 + b1) = sm := by rw [hsm]; exact IntWalk.wrap64_in _ (by omega)
        rw [← hsm] at htm
        have q2 : sm.tdiv 2 = tm := htm.symm
        have q3 : wrap64 tm = tm := IntWalk.wrap64_in _ (by omega)
        have q4 : wrap64 (sm.tdiv 2) = tm := by rw [q2]; exact q3
        obtain ⟨x, hx⟩ : ∃ x, x = b1 - a2 := ⟨_, rfl⟩
        obtain ⟨y, hy⟩ : ∃ x, x = b2 - a1 := ⟨_, rfl⟩
        rw [← hx, ← hy] at N
        rw [← hx] at L1
        rw [← hy] at L2
        have q5 : wrap64 (b1 - a2) = x := by rw [hx]; exact IntWalk.wrap64_in _ (by omega)
        have q1' : wrap64 (b1 + a2) = sm := by rw [Int.add_comm]; exact q1
        have cl2 : ¬ b1 ≤ a2 := cl
        clear L LO LAW MK ba bb BA BB ZA ZB LN AB up tr tb hdd hsm htm hx hy HD q2 q3
        have p0 := s1.out.c0; have p1' := s1.out.c1; have pz := s1.out.lt
        have sc2_0 := s2.out.c0; have sc2_1 := s2.out.c1; have sc2_l := s2.out.lt
        have sc3_0 := s3.out.c0; have sc3_1 := s3.out.c1; have sc3_l := s3.out.lt
        go_upto_region 9 with fail
        go_wp2_with fail
        refine Calls.mono (A.out _ (HT.out.below HB.out) (HL.out.below HB.out)) ?_
        rintro e v1 ⟨rfl, hb⟩
        replace s1 := Lib.hid (s1.out.below hb)
        replace s2 := Lib.hid (s2.out.below hb)
        replace s3 := Lib.hid (s3.out.below hb)
        replace HB := Lib.hid (HB.out.trans (hb.mono HB.out.size))
        clear hb p0 p1' pz
        clear sc2_0 sc2_1 sc2_l sc3_0 sc3_1 sc3_l
        have p0 := s1.out.c0; have p1' := s1.out.c1; have pz := s1.out.lt
        go_wp2_with fail
        refine Calls.mono (N.out _ (HT.out.below HB.out) (HL.out.below HB.out)) ?_
        rintro e wn4 ⟨rfl, hb⟩
        replace s1 := Lib.hid ((s1.out.below hb).alloc (.cells #[.int .i64 (x), .int .i64 (y)] 28))
        replace s2 := Lib.hid ((s2.out.below hb).alloc (.cells #[.int .i64 (x), .int .i64 (y)] 28))
        replace s3 := Lib.hid ((s3.out.below hb).alloc (.cells #[.int .i64 (x), .int .i64 (y)] 28))
        have HB4 := HB.out.trans (hb.mono HB.out.size)
        clear hb
        have Hkl4 := Lib.hid HB4.size; replace HB := Lib.hid (HB4.alloc HB4.size (.cells #[.int .i64 (x), .int .i64 (y)] 28))
        clear HB4
        have s4 := Lib.hid (SpBox.new wn4 (x) (y))
        obtain ⟨k4, hk4⟩ : ∃ x, x = wn4.heap.size := ⟨_, rfl⟩
        rw [← hk4] at s4 Hkl4
        go_upto_region 11 with fail
        rw [← hk4]
        obtain ⟨X4, hX4⟩ : ∃ X, X = wn4.alloc (.cells #[.int .i64 (x), .int .i64 (y)] 28) := ⟨_, rfl⟩
        rw [← hX4] at s1 s2 s3 s4 HB ⊢
        clear hk4 hX4
        clear p0 p1' pz
        have sc2_0 := s2.out.c0; have sc2_1 := s2.out.c1; have sc2_l := s2.out.lt
        have sc3_0 := s3.out.c0; have sc3_1 := s3.out.c1; have sc3_l := s3.out.lt
        have sc4_0 := s4.out.c0; have sc4_1 := s4.out.c1; have sc4_l := s4.out.lt
        go_wp2_with fail
        go_ret
        exact ⟨rfl, HB.out⟩
    · skip
      have zb := ZB.out cb
      obtain ⟨rfl, rfl⟩ := zb
      subst ca
      have cb2 : (be != 0) = true := by simp [cb]
      have cb3 : (be == 0) = false := by simp [cb]
      clear LAW MK BA BB ZA ZB LN AB
      have sc2_0 := s2.out.c0; have sc2_1 := s2.out.c1; have sc2_l := s2.out.lt
      have sc3_0 := s3.out.c0; have sc3_1 := s3.out.c1; have sc3_l := s3.out.lt
      go_wp2_with fail
      go_ret
      exact ⟨rfl, HB.out⟩
  · have za := ZA.out ca
    obtain ⟨rfl, rfl⟩ := za
    have ca2 : (ae != 0) = true := by simp [ca]
    have ca3 : (ae == 0) = false := by simp [ca]
    by_cases cb : be = 0
    · skip
      subst cb
      clear LAW MK BA BB ZA ZB LN AB
      have sc2_0 := s2.out.c0; have sc2_1 := s2.out.c1; have sc2_l := s2.out.lt
      have sc3_0 := s3.out.c0; have sc3_1 := s3.out.c1; have sc3_l := s3.out.lt
      go_wp2_with fail
      go_ret
      exact ⟨rfl, HB.out⟩
    · skip
      have zb := ZB.out cb
      obtain ⟨rfl, rfl⟩ := zb
      have cb2 : (be != 0) = true := by simp [cb]
      have cb3 : (be == 0) = false := by simp [cb]
      clear LAW MK BA BB ZA ZB LN AB
      have sc2_0 := s2.out.c0; have sc2_1 := s2.out.c1; have sc2_l := s2.out.lt
      have sc3_0 := s3.out.c0; have sc3_1 := s3.out.c1; have sc3_l := s3.out.lt
      go_wp2_with fail
      go_ret
      exact ⟨rfl, HB.out⟩
end Go.Proofs.YtcopmgnfakjdhaaGreatDoor
