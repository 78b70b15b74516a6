/- RisesetMoons: the first risings of the moon on two days in a row are 20 to 28 hours apart. -/
import Derived.Test.YtcopmgnfakjdhaaGreatDoorVRdW
import Derived.Test.YtcopmgnfakjdhaaGreatDoorVMdX
namespace Go.Proofs.YtcopmgnfakjdhaaGreatDoor
open Go.RowKit
set_option linter.unusedSimpArgs false
set_option linter.unusedVariables false
theorem PlBox.putA {w : World} {b : Nat} {x y : Int} (h : PlBox w b x y) (u v : Int) : PlBox ((w.setCell ⟨b, 0, none⟩ (.int .i64 u)).setCell ⟨b, 1, none⟩ (.int .i64 v)) b u v :=
  ((World.rowIs.set h 0 (.int .i64 u)).set 1 (.int .i64 v)).congr (fun i hi => by
    match i, hi with
    | 0, _ => rfl
    | 1, _ => rfl)
theorem PlBox.putB {w : World} {b : Nat} {x y : Int} (h : PlBox w b x y) (v : Int) : PlBox (w.setCell ⟨b, 1, none⟩ (.int .i64 v)) b x v :=
  (World.rowIs.set h 1 (.int .i64 v)).congr (fun i hi => by
    match i, hi with
    | 0, _ => rfl
    | 1, _ => rfl)
theorem mdRise_ok (lon lat d : Int) (pl : PlOk lon lat) (hd : -3900000 ≤ d ∧ d ≤ 3900000) (w : World) (hT : SinT w) (hL : LimT w) : Calls Tryz.prog 14 #[.agg #[.int .i64 lon, .int .i64 lat], .int .i64 d, .int .i64 1, .bool true] w fun e w' => e = .returned (.tuple #[.agg #[.int .i64 (rsF lon lat 1 d 1).1, .int .i64 (rsF lon lat 1 d 1).2.1], .int .i64 (rsF lon lat 1 d 1).2.2]) ∧ Below w.heap.size w w' := by
  have h := rsFind_ok lon lat d 1 true (.inr rfl) hd pl w hT hL
  rw [show (if (true : Bool) = true then (1 : Int) else -1) = 1 from rfl] at h
  exact h
set_option maxRecDepth 100000 in
set_option maxHeartbeats 16000000 in
theorem risesetMoons_walk (p1 p2 d0 : Int) (w : World) (hT : SinT w) (hL : LimT w) : Calls Tryz.prog 4 #[.agg #[.int .i64 p1, .int .i64 p2], .int .i64 d0] w fun e w' => e = .returned (.bool true) ∧ Below w.heap.size w w' := by
  have HW := Lib.hid (fun W (hT : SinT W) (hL : LimT W) => risesetWorks_ok W hT hL)
  have SI := Lib.hid (fun w => site_ok p1 p2 w)
  have I := Lib.hid (fun w => at_any d0 7000000 w (by omega) (by omega))
  have pl0 := site_pl p1 p2
  have m1 : 0 ≤ d0 % 7000000 := by omega
  have m2 : d0 % 7000000 < 7000000 := by omega
  generalize d0 % 7000000 = m at *
  obtain ⟨d, hd⟩ : ∃ d, d = m - 3500000 := ⟨_, rfl⟩
  have e1 : wrap64 (m - 3500000) = d := by rw [hd]; exact IntWalk.wrap64_in _ (by omega)
  have hd' : -3900000 ≤ d ∧ d ≤ 3900000 := by omega
  generalize p1.tmod 500000001 = lon at *
  generalize p2.tmod 220000001 = lat0 at *
  have lb1 := Int.lt_tmod_of_pos lat0 (show (0 : Int) < 100000000 by omega)
  have lb2 := Int.tmod_lt_of_pos lat0 (show (0 : Int) < 100000000 by omega)
  obtain ⟨lat, hlat⟩ : ∃ l, l = lat0.tmod 100000000 := ⟨_, rfl⟩
  rw [← hlat] at lb1 lb2
  have elat : lat0.tmod 100000000 = lat := hlat.symm
  have pl : PlOk lon lat := ⟨pl0.o1, pl0.o2, by omega, by omega⟩
  have RI := Lib.hid (fun W (hT : SinT W) (hL : LimT W) => mdRise_ok lon lat d pl hd' W hT hL)
  have SE := Lib.hid (fun W (hT : SinT W) (hL : LimT W) => mdRise_ok lon lat (d + 1) pl (by omega) W hT hL)
  have BA := Lib.hid (fun h => rsF_bd lon lat 1 d 1 h)
  have BB := Lib.hid (fun h => rsF_bd lon lat 1 (d + 1) 1 h)
  have LAW := Lib.hid (fun ea eb => md_law (lon := lon) (lat := lat) (d := d) ⟨by omega, lb2⟩ ea eb)
  have HD := Lib.hid hd'
  have e9 : wrap64 (d + 1) = d + 1 := IntWalk.wrap64_in _ (by omega)
  generalize (rsF lon lat 1 d 1).1 = a1 at *
  generalize (rsF lon lat 1 d 1).2.1 = a2 at *
  generalize (rsF lon lat 1 d 1).2.2 = ae at *
  generalize (rsF lon lat 1 (d + 1) 1).1 = b1 at *
  generalize (rsF lon lat 1 (d + 1) 1).2.1 = b2 at *
  generalize (rsF lon lat 1 (d + 1) 1).2.2 = be at *
  have HT := Lib.hid hT
  have HL := Lib.hid hL
  clear hT hL pl pl0 hd hd' m1 m2 lb1 lb2 hlat
  have P1 := PlBox.new w p1 p2
  have HB0 := (Below.refl w.heap.size w).alloc (Nat.le_refl _) (.cells #[.int .i64 p1, .int .i64 p2] 23)
  obtain ⟨k0, hk0⟩ : ∃ x, x = w.heap.size := ⟨_, rfl⟩
  rw [← hk0] at P1
  have HB := Lib.hid (Below.refl w.heap.size w)
  clear HB
  go_enter Tryz.func4, Tryz.ntmps4
  go_upto_region 1 with fail
  rw [← hk0]
  have HK0 := Lib.hid hk0
  obtain ⟨X0, hX0⟩ : ∃ X, X = w.alloc (.cells #[.int .i64 p1, .int .i64 p2] 23) := ⟨_, rfl⟩
  rw [← hX0] at P1 HB0 ⊢
  have HB := Lib.hid HB0
  have s1 := Lib.hid P1
  clear hX0 P1 HB0 hk0
  go_wp2_with fail
  refine Calls.mono (HW.out _ (HT.out.below HB.out) (HL.out.below HB.out)) ?_
  rintro e wc1 ⟨rfl, hb⟩
  replace s1 := Lib.hid (s1.out.below hb)
  replace HB := Lib.hid (HB.out.trans (hb.mono HB.out.size))
  clear hb
  have p0 := s1.out.c0; have p1' := s1.out.c1; have pz := s1.out.lt
  go_wp2_with fail
  refine Calls.mono (SI.out _) ?_
  rintro e wc2 ⟨rfl, hb⟩
  replace s1 := Lib.hid (s1.out.below hb)
  replace HB := Lib.hid (HB.out.trans (hb.mono HB.out.size))
  clear hb
  clear p0 p1' pz
  go_wp2_with fail
  refine Calls.mono (I.out _) ?_
  rintro e wq ⟨rfl, rfl⟩
  have p0 := s1.out.c0; have p1' := s1.out.c1; have pz := s1.out.lt; have pf0 := s1.out.free 0; have pf1 := s1.out.free 1
  go_upto_region 4 with fail
  have S1' := s1.out.putA lon lat0
  have B1 := (HB.out.setCell (p := ⟨k0, 0, none⟩) (by have := HK0.out; dsimp only; omega) (.int .i64 lon)).setCell (p := ⟨k0, 1, none⟩) (by have := HK0.out; dsimp only; omega) (.int .i64 lat0)
  obtain ⟨Y, hY⟩ : ∃ Y, Y = ((wc2.setCell ⟨k0, 0, none⟩ (.int .i64 lon)).setCell ⟨k0, 1, none⟩ (.int .i64 lat0)) := ⟨_, rfl⟩
  rw [← hY] at S1' B1 ⊢
  replace s1 := Lib.hid S1'
  replace HB := Lib.hid B1
  clear S1' B1 hY p0 p1' pz pf0 pf1 HW SI I
  have p0 := s1.out.c0; have p1' := s1.out.c1; have pz := s1.out.lt; have pf1 := s1.out.free 1
  go_upto_region 5 with fail
  have S2' := s1.out.putB lat
  have B2 := HB.out.setCell (p := ⟨k0, 1, none⟩) (by have := HK0.out; dsimp only; omega) (.int .i64 lat)
  obtain ⟨Y2, hY2⟩ : ∃ Y2, Y2 = Y.setCell ⟨k0, 1, none⟩ (.int .i64 lat) := ⟨_, rfl⟩
  rw [← hY2] at S2' B2 ⊢
  replace s1 := Lib.hid S2'
  replace HB := Lib.hid B2
  clear S2' B2 hY2 p0 p1' pz pf1 HK0
  have p0 := s1.out.c0; have p1' := s1.out.c1; have pz := s1.out.lt
  go_wp2_with fail
  refine Calls.mono (RI.out _ (HT.out.below HB.out) (HL.out.below HB.out)) ?_
  rintro e wn2 ⟨rfl, hb⟩
  replace s1 := Lib.hid ((s1.out.below hb).alloc (.cells #[.int .i64 (a1), .int .i64 (a2)] 28))
  have HB2 := HB.out.trans (hb.mono HB.out.size)
  clear hb
  have Hkl2 := Lib.hid HB2.size; replace HB := Lib.hid (HB2.alloc HB2.size (.cells #[.int .i64 (a1), .int .i64 (a2)] 28))
  clear HB2
  have s2 := Lib.hid (SpBox.new wn2 (a1) (a2))
  obtain ⟨k2, hk2⟩ : ∃ x, x = wn2.heap.size := ⟨_, rfl⟩
  rw [← hk2] at s2 Hkl2
  go_upto_region 6 with fail
  rw [← hk2]
  obtain ⟨X2, hX2⟩ : ∃ X, X = wn2.alloc (.cells #[.int .i64 (a1), .int .i64 (a2)] 28) := ⟨_, rfl⟩
  rw [← hX2] at s1 s2 HB ⊢
  clear hk2 hX2
  clear p0 p1' pz RI
  have p0 := s1.out.c0; have p1' := s1.out.c1; have pz := s1.out.lt
  go_wp2_with fail
  refine Calls.mono (SE.out _ (HT.out.below HB.out) (HL.out.below HB.out)) ?_
  rintro e wn3 ⟨rfl, hb⟩
  replace s1 := Lib.hid ((s1.out.below hb).alloc (.cells #[.int .i64 (b1), .int .i64 (b2)] 28))
  replace s2 := Lib.hid ((s2.out.below hb).alloc (.cells #[.int .i64 (b1), .int .i64 (b2)] 28))
  have HB3 := HB.out.trans (hb.mono HB.out.size)
  clear hb
  have Hkl3 := Lib.hid HB3.size; replace HB := Lib.hid (HB3.alloc HB3.size (.cells #[.int .i64 (b1), .int .i64 (b2)] 28))
  clear HB3
  have s3 := Lib.hid (SpBox.new wn3 (b1) (b2))
  obtain ⟨k3, hk3⟩ : ∃ x, x = wn3.heap.size := ⟨_, rfl⟩
  rw [← hk3] at s3 Hkl3
  go_upto_region 7 with fail
  rw [← hk3]
  obtain ⟨X3, hX3⟩ : ∃ X, X = wn3.alloc (.cells #[.int .i64 (b1), .int .i64 (b2)] 28) := ⟨_, rfl⟩
  rw [← hX3] at s1 s2 s3 HB ⊢
  clear hk3 hX3
  clear p0 p1' pz SE
  by_cases ca : ae = 0
  · by_cases cb : be = 0
    · have L := LAW.out ca cb
      have ba := BA.out ca; have bb := BB.out cb
      have hdd := HD.out
      subst ca; subst cb
      obtain ⟨x, hx⟩ : ∃ x, x = b1 - a2 := ⟨_, rfl⟩
      have q5 : wrap64 (b1 - a2) = x := by rw [hx]; exact IntWalk.wrap64_in _ (by omega)
      obtain ⟨L1, L2⟩ := L
      rw [← hx] at L1 L2
      clear LAW BA BB HD ba bb hdd hx
      have sc2_0 := s2.out.c0; have sc2_1 := s2.out.c1; have sc2_l := s2.out.lt
      have sc3_0 := s3.out.c0; have sc3_1 := s3.out.c1; have sc3_l := s3.out.lt
      go_wp2_with fail
      go_ret
      exact ⟨rfl, HB.out⟩
    · skip
      subst ca
      have cb2 : (be != 0) = true := by simp [cb]
      clear LAW BA BB HD
      have sc2_0 := s2.out.c0; have sc2_1 := s2.out.c1; have sc2_l := s2.out.lt
      have sc3_0 := s3.out.c0; have sc3_1 := s3.out.c1; have sc3_l := s3.out.lt
      go_wp2_with fail
      go_ret
      exact ⟨rfl, HB.out⟩
  · skip
    have ca2 : (ae != 0) = true := by simp [ca]
    clear LAW BA BB HD
    have sc2_0 := s2.out.c0; have sc2_1 := s2.out.c1; have sc2_l := s2.out.lt
    have sc3_0 := s3.out.c0; have sc3_1 := s3.out.c1; have sc3_l := s3.out.lt
    go_wp2_with fail
    go_ret
    exact ⟨rfl, HB.out⟩
end Go.Proofs.YtcopmgnfakjdhaaGreatDoor
