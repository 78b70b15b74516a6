/- TopCrescent: where the young moon is seen, the new moon was less than 9 days ago, and it is less than half lit. -/
import Derived.Test.YtcopmgnfakjdhaaGreatDoorCrW
import Derived.Test.YtcopmgnfakjdhaaGreatDoorLit
import Derived.Test.YtcopmgnfakjdhaaGreatDoorRsPs
import Derived.Test.YtcopmgnfakjdhaaGreatDoorTSite
import Derived.Test.YtcopmgnfakjdhaaGreatDoorTopCrL
namespace Go.Proofs.YtcopmgnfakjdhaaGreatDoor
open Go.RowKit
set_option linter.unusedSimpArgs false
set_option linter.unusedVariables false
theorem PlBox.put2 {w : World} {b : Nat} {x y : Int} (h : PlBox w b x y) (u v : Int) : PlBox ((w.setCell ⟨b, 0, none⟩ (.int .i64 u)).setCell ⟨b, 1, none⟩ (.int .i64 v)) b u v :=
  ((World.rowIs.set h 0 (.int .i64 u)).set 1 (.int .i64 v)).congr (fun i hi => by
    match i, hi with
    | 0, _ => rfl
    | 1, _ => rfl)
set_option maxRecDepth 100000 in
set_option maxHeartbeats 16000000 in
theorem topCrescent_walk (p1 p2 d0 : Int) (w : World) (hT : SinT w) (hL : LimT w) : Calls Tryz.prog 10 #[.agg #[.int .i64 p1, .int .i64 p2], .int .i64 d0] w fun e w' => e = .returned (.bool true) ∧ Below w.heap.size w w' := by
  have HW := Lib.hid (fun W (hT : SinT W) => sSky_ok W hT)
  have SI := Lib.hid (fun w => ssite_ok p1 p2 w)
  have I := Lib.hid (fun w => sat_any d0 5800000 w (by omega) (by omega))
  have pl := site_pl p1 p2
  have m1 : 0 ≤ d0 % 5800000 := by omega
  have m2 : d0 % 5800000 < 5800000 := by omega
  generalize d0 % 5800000 = m at *
  have e1 : wrap64 (m - 2900000) = m - 2900000 := IntWalk.wrap64_in _ (by omega)
  obtain ⟨d, hd⟩ : ∃ d, d = m - 2900000 := ⟨_, rfl⟩
  have hd' : -2900000 ≤ d ∧ d < 2900000 := by omega
  generalize p1.tmod 500000001 = lon at *
  generalize p2.tmod 220000001 = lat at *
  have SN := Lib.hid (fun W (hT : SinT W) (hL : LimT W) => Seen_ok lon lat d pl (by omega) W hT hL)
  have F := Lib.hid (fun W (hT : SinT W) (hL : LimT W) => rsSet_ok lon lat d pl (by omega) W hT hL)
  have ON : seN lon lat d = 0 ∨ seN lon lat d = 1 := by
    unfold seN
    split
    · exact .inr rfl
    · exact .inl rfl
  have NE : seN lon lat d = 1 → seE lon lat d = 0 := fun h => by
    unfold seN at h
    unfold seE
    split at h
    · rename_i c
      rw [if_pos c.1, if_pos c.2]
    · omega
  have S1 : seN lon lat d = 1 → (rsF lon lat 0 d (-1)).2.2 = 0 ∧ liHi (rsF lon lat 0 d (-1)).1 < 510000000 ∧ ∃ k, YoungK (rsF lon lat 0 d (-1)).1 k := fun h => by
    obtain ⟨a, b⟩ := seN_one h
    obtain ⟨x, y⟩ := crS_one b
    have bd := rsF_bd lon lat 0 d (-1) a
    have li := (young_lit x y).1
    exact ⟨a, by omega, young_k (by omega) (by omega) x y⟩
  have NB := Lib.hid (fun k (h : (rsF lon lat 0 d (-1)).2.2 = 0) (Y : YoungK (rsF lon lat 0 d (-1)).1 k) W (hT : SinT W) => by
    have bd := rsF_bd lon lat 0 d (-1) h
    exact Number_ok (rsF lon lat 0 d (-1)).1 k _ W hT (by unfold instOk dayOk; exact decide_eq_true (by omega)) (by omega) rfl (by have := Y.n0; have := Y.n1; have := Y.b; omega) (by have := Y.n0; have := Y.n1; have := Y.b; omega) (by have := Y.n1; omega) (by have := Y.n0; omega) (fun j h1 h2 => by have := Y.n0; obtain rfl : j = k + 1 := (by omega); exact Y.g) k 0 (.inr ⟨Y.a, rfl, rfl⟩))
  have FM := Lib.hid (fun k (Y : YoungK (rsF lon lat 0 d (-1)).1 k) W (hT : SinT W) => PFind_ok k 0 (by have := Y.b; omega) (by omega) W hT)
  have RB : (rsF lon lat 0 d (-1)).2.2 = 0 → -260000000000000 ≤ (rsF lon lat 0 d (-1)).1 ∧ (rsF lon lat 0 d (-1)).1 ≤ 260000000000000 := fun h => by
    have bd := rsF_bd lon lat 0 d (-1) h
    omega
  have LI := Lib.hid (fun (h : (rsF lon lat 0 d (-1)).2.2 = 0) W (hT : SinT W) => Lit_ok (rsF lon lat 0 d (-1)).1 W hT (by have := rsF_bd lon lat 0 d (-1) h; unfold instOk dayOk; exact decide_eq_true (by omega)))
  rw [hd] at *
  have HT := Lib.hid hT
  have HL := Lib.hid hL
  clear hT hL pl hd' hd
  generalize seN lon lat (m - 2900000) = n at *
  generalize seE lon lat (m - 2900000) = ee at *
  generalize liLo (rsF lon lat 0 (m - 2900000) (-1)).1 = l1 at *
  generalize liHi (rsF lon lat 0 (m - 2900000) (-1)).1 = l2 at *
  generalize (rsF lon lat 0 (m - 2900000) (-1)).1 = r1 at *
  generalize (rsF lon lat 0 (m - 2900000) (-1)).2.1 = r2 at *
  generalize (rsF lon lat 0 (m - 2900000) (-1)).2.2 = er at *
  have P1 := PlBox.new w p1 p2
  have HB0 := (Below.refl w.heap.size w).alloc (Nat.le_refl _) (.cells #[.int .i64 p1, .int .i64 p2] 23)
  obtain ⟨k0, hk0⟩ : ∃ x, x = w.heap.size := ⟨_, rfl⟩
  rw [← hk0] at P1
  have HB := Lib.hid (Below.refl w.heap.size w)
  clear HB
  go_enter Tryz.func10, Tryz.ntmps10
  go_upto_region 1 with fail
  rw [← hk0]
  have HK0 := Lib.hid hk0
  obtain ⟨X0, hX0⟩ : ∃ X, X = w.alloc (.cells #[.int .i64 p1, .int .i64 p2] 23) := ⟨_, rfl⟩
  rw [← hX0] at P1 HB0 ⊢
  have HB := Lib.hid HB0
  have s1 := Lib.hid P1
  clear hX0 P1 HB0 hk0
  go_wp2_with fail
  refine Calls.mono (HW.out _ (HT.out.below HB.out)) ?_
  rintro e wc1 ⟨rfl, hb⟩
  replace s1 := Lib.hid (s1.out.below hb)
  replace HB := Lib.hid (HB.out.trans (hb.mono HB.out.size))
  clear hb
  have p0 := s1.out.c0; have p1' := s1.out.c1; have pz := s1.out.lt
  go_wp2_with fail
  refine Calls.mono (SI.out _) ?_
  rintro e wc2 ⟨rfl, hb⟩
  replace s1 := Lib.hid (s1.out.below hb)
  replace HB := Lib.hid (HB.out.trans (hb.mono HB.out.size))
  clear hb
  clear p0 p1' pz
  go_wp2_with fail
  refine Calls.mono (I.out _) ?_
  rintro e wq ⟨rfl, rfl⟩
  have p0 := s1.out.c0; have p1' := s1.out.c1; have pz := s1.out.lt; have pf0 := s1.out.free 0; have pf1 := s1.out.free 1
  go_upto_region 4 with fail
  have S1' := s1.out.put2 lon lat
  have B1 := (HB.out.setCell (p := ⟨k0, 0, none⟩) (by have := HK0.out; dsimp only; omega) (.int .i64 lon)).setCell (p := ⟨k0, 1, none⟩) (by have := HK0.out; dsimp only; omega) (.int .i64 lat)
  obtain ⟨Y, hY⟩ : ∃ Y, Y = ((wc2.setCell ⟨k0, 0, none⟩ (.int .i64 lon)).setCell ⟨k0, 1, none⟩ (.int .i64 lat)) := ⟨_, rfl⟩
  rw [← hY] at S1' B1 ⊢
  replace s1 := Lib.hid S1'
  replace HB := Lib.hid B1
  clear S1' B1 hY p0 p1' pz pf0 pf1 HW SI I HK0
  have p0 := s1.out.c0; have p1' := s1.out.c1; have pz := s1.out.lt
  rcases ON with rfl | rfl
  · clear NE S1 LI NB FM RB
    by_cases c : ee = 0
    · subst c
      go_wp2_with fail
      refine Calls.mono (SN.out _ (HT.out.below HB.out) (HL.out.below HB.out)) ?_
      rintro e v1 ⟨rfl, hb⟩
      have W3 := Lib.hid (HB.out.trans (hb.mono HB.out.size))
      clear hb
      go_wp2_with fail
      go_ret
      exact ⟨rfl, W3.out⟩
    · have c' : (ee != 0) = true := by simp [c]
      have c'' : (ee == 0) = false := by simp [c]
      go_wp2_with fail
      refine Calls.mono (SN.out _ (HT.out.below HB.out) (HL.out.below HB.out)) ?_
      rintro e v1 ⟨rfl, hb⟩
      have W3 := Lib.hid (HB.out.trans (hb.mono HB.out.size))
      clear hb
      go_wp2_with fail
      go_ret
      exact ⟨rfl, W3.out⟩
  · obtain rfl := NE rfl
    obtain ⟨rfl, t1, k, Y⟩ := S1 rfl
    have LJ := Lib.hid (LI.out rfl)
    have NK := Lib.hid (NB.out k rfl Y)
    have FK := Lib.hid (FM.out k Y)
    obtain ⟨rb1, rb2⟩ := RB rfl
    have y1 := Y.a; have y2 := Y.l; have y3 := Y.p
    clear NE LI S1 NB FM RB Y
    generalize (phF k 0).1 = m1 at *
    generalize (phF k 0).2 = m2 at *
    have g1 : wrap64 (r1 - m2) = r1 - m2 := IntWalk.wrap64_in _ (by omega)
    have g2 : wrap64 (r1 - m1) = r1 - m1 := IntWalk.wrap64_in _ (by omega)
    have g3 : decide (0 < r1 - m2) = true := decide_eq_true (by omega)
    have g4 : decide (r1 - m1 < 777600000) = true := decide_eq_true y2
    clear rb1 rb2 y3
    go_wp2_with fail
    refine Calls.mono (SN.out _ (HT.out.below HB.out) (HL.out.below HB.out)) ?_
    rintro e wc3 ⟨rfl, hb⟩
    replace s1 := Lib.hid (s1.out.below hb)
    replace HB := Lib.hid (HB.out.trans (hb.mono HB.out.size))
    clear hb
    have p0 := s1.out.c0; have p1' := s1.out.c1; have pz := s1.out.lt
    go_wp2_with fail
    refine Calls.mono (F.out _ (HT.out.below HB.out) (HL.out.below HB.out)) ?_
    rintro e wn2 ⟨rfl, hb⟩
    replace s1 := Lib.hid ((s1.out.below hb).alloc (.cells #[.int .i64 (r1), .int .i64 (r2)] 28))
    have HB2 := HB.out.trans (hb.mono HB.out.size)
    clear hb
    have Hkl2 := Lib.hid HB2.size; replace HB := Lib.hid (HB2.alloc HB2.size (.cells #[.int .i64 (r1), .int .i64 (r2)] 28))
    clear HB2
    have s2 := Lib.hid (SpBox.new wn2 (r1) (r2))
    obtain ⟨k2, hk2⟩ : ∃ x, x = wn2.heap.size := ⟨_, rfl⟩
    rw [← hk2] at s2 Hkl2
    go_upto_region 8 with fail
    rw [← hk2]
    obtain ⟨X2, hX2⟩ : ∃ X, X = wn2.alloc (.cells #[.int .i64 (r1), .int .i64 (r2)] 28) := ⟨_, rfl⟩
    rw [← hX2] at s1 s2 HB ⊢
    clear hk2 hX2
    clear p0 p1' pz
    have sc2_0 := s2.out.c0; have sc2_1 := s2.out.c1; have sc2_l := s2.out.lt
    go_wp2_with fail
    refine Calls.mono (NK.out _ (HT.out.below HB.out)) ?_
    rintro e wc4 ⟨rfl, hb⟩
    replace s1 := Lib.hid (s1.out.below hb)
    replace s2 := Lib.hid (s2.out.below hb)
    replace HB := Lib.hid (HB.out.trans (hb.mono HB.out.size))
    clear sc2_0 sc2_1 sc2_l
    clear hb
    go_wp2_with fail
    refine Calls.mono (FK.out _ (HT.out.below HB.out)) ?_
    rintro e wn3 ⟨rfl, hb⟩
    replace s1 := Lib.hid ((s1.out.below hb).alloc (.cells #[.int .i64 (m1), .int .i64 (m2)] 28))
    replace s2 := Lib.hid ((s2.out.below hb).alloc (.cells #[.int .i64 (m1), .int .i64 (m2)] 28))
    have HB3 := HB.out.trans (hb.mono HB.out.size)
    clear hb
    have Hkl3 := Lib.hid HB3.size; replace HB := Lib.hid (HB3.alloc HB3.size (.cells #[.int .i64 (m1), .int .i64 (m2)] 28))
    clear HB3
    have s3 := Lib.hid (SpBox.new wn3 (m1) (m2))
    obtain ⟨k3, hk3⟩ : ∃ x, x = wn3.heap.size := ⟨_, rfl⟩
    rw [← hk3] at s3 Hkl3
    go_upto_region 10 with fail
    rw [← hk3]
    obtain ⟨X3, hX3⟩ : ∃ X, X = wn3.alloc (.cells #[.int .i64 (m1), .int .i64 (m2)] 28) := ⟨_, rfl⟩
    rw [← hX3] at s1 s2 s3 HB ⊢
    clear hk3 hX3
    have sc2_0 := s2.out.c0; have sc2_1 := s2.out.c1; have sc2_l := s2.out.lt
    go_wp2_with fail
    refine Calls.mono (LJ.out _ (HT.out.below HB.out)) ?_
    rintro e wn4 ⟨rfl, hb⟩
    replace s1 := Lib.hid ((s1.out.below hb).alloc (.cells #[.int .i64 (l1), .int .i64 (l2)] 28))
    replace s2 := Lib.hid ((s2.out.below hb).alloc (.cells #[.int .i64 (l1), .int .i64 (l2)] 28))
    replace s3 := Lib.hid ((s3.out.below hb).alloc (.cells #[.int .i64 (l1), .int .i64 (l2)] 28))
    have HB4 := HB.out.trans (hb.mono HB.out.size)
    clear sc2_0 sc2_1 sc2_l
    clear hb
    have Hkl4 := Lib.hid HB4.size; replace HB := Lib.hid (HB4.alloc HB4.size (.cells #[.int .i64 (l1), .int .i64 (l2)] 28))
    clear HB4
    have s4 := Lib.hid (SpBox.new wn4 (l1) (l2))
    obtain ⟨k4, hk4⟩ : ∃ x, x = wn4.heap.size := ⟨_, rfl⟩
    rw [← hk4] at s4 Hkl4
    go_upto_region 11 with fail
    rw [← hk4]
    obtain ⟨X4, hX4⟩ : ∃ X, X = wn4.alloc (.cells #[.int .i64 (l1), .int .i64 (l2)] 28) := ⟨_, rfl⟩
    rw [← hX4] at s1 s2 s3 s4 HB ⊢
    clear hk4 hX4
    have sc2_0 := s2.out.c0; have sc2_1 := s2.out.c1; have sc2_l := s2.out.lt
    have sc3_0 := s3.out.c0; have sc3_1 := s3.out.c1; have sc3_l := s3.out.lt
    have sc4_0 := s4.out.c0; have sc4_1 := s4.out.c1; have sc4_l := s4.out.lt
    go_wp2_with fail
    go_ret
    exact ⟨rfl, HB.out⟩
end Go.Proofs.YtcopmgnfakjdhaaGreatDoor
