/- path.Center (printed by wip/tools/gen-pac.py). -/
import Derived.Test.YtcopmgnfakjdhaaGreatDoorYPaW
import Derived.Test.YtcopmgnfakjdhaaGreatDoorYArcO
import Derived.Test.YtcopmgnfakjdhaaGreatDoorYLooks
namespace Go.Proofs.YtcopmgnfakjdhaaGreatDoor
open Go.RowKit
set_option linter.unusedSimpArgs false
set_option linter.unusedVariables false
def q5 (x0 x1 x2 x3 x4 : Value) : Nat → Value
  | 0 => x0 | 1 => x1 | 2 => x2 | 3 => x3 | _ => x4
def PtBox (w : World) (b : Nat) (x0 x1 x2 x3 x4 : Value) : Prop := w.rowIs b 40 5 (q5 x0 x1 x2 x3 x4)
section
variable {w w' : World} {b : Nat} {x0 x1 x2 x3 x4 : Value}
theorem PtBox.c0 (h : PtBox w b x0 x1 x2 x3 x4) : w.cell? ⟨b, 0, none⟩ = some x0 := World.rowIs.cell h (i := 0) (by omega)
theorem PtBox.c1 (h : PtBox w b x0 x1 x2 x3 x4) : w.cell? ⟨b, 1, none⟩ = some x1 := World.rowIs.cell h (i := 1) (by omega)
theorem PtBox.c2 (h : PtBox w b x0 x1 x2 x3 x4) : w.cell? ⟨b, 2, none⟩ = some x2 := World.rowIs.cell h (i := 2) (by omega)
theorem PtBox.c3 (h : PtBox w b x0 x1 x2 x3 x4) : w.cell? ⟨b, 3, none⟩ = some x3 := World.rowIs.cell h (i := 3) (by omega)
theorem PtBox.c4 (h : PtBox w b x0 x1 x2 x3 x4) : w.cell? ⟨b, 4, none⟩ = some x4 := World.rowIs.cell h (i := 4) (by omega)
theorem PtBox.free (h : PtBox w b x0 x1 x2 x3 x4) (i : Nat) : w.frozen? ⟨b, i, none⟩ = false := World.rowIs.frozen h i
theorem PtBox.lt (h : PtBox w b x0 x1 x2 x3 x4) : b < w.heap.size := World.rowIs.lt h
theorem PtBox.alloc (h : PtBox w b x0 x1 x2 x3 x4) (o : Obj) : PtBox (w.alloc o) b x0 x1 x2 x3 x4 := World.rowIs.alloc h o
theorem PtBox.drew (h : PtBox w b x0 x1 x2 x3 x4) : PtBox w.drew b x0 x1 x2 x3 x4 := h
theorem PtBox.below (h : PtBox w b x0 x1 x2 x3 x4) (hb : Below w.heap.size w w') : PtBox w' b x0 x1 x2 x3 x4 := World.rowIs.of_block h (hb.block b (World.rowIs.lt h))
theorem PtBox.other (h : PtBox w b x0 x1 x2 x3 x4) {a : Addr} (ha : b ≠ a.block) (v : Value) : PtBox (w.setCell a v) b x0 x1 x2 x3 x4 := World.rowIs.setOther h ha v
end
theorem PtBox.new (w : World) (x0 x1 x2 x3 x4 : Value) : PtBox (w.alloc (.cells #[x0, x1, x2, x3, x4] 40)) w.heap.size x0 x1 x2 x3 x4 :=
  World.rowIs_alloc w #[x0, x1, x2, x3, x4] 40 (q5 x0 x1 x2 x3 x4) (fun i hi => by
    match i, hi with
    | 0, _ => rfl
    | 1, _ => rfl
    | 2, _ => rfl
    | 3, _ => rfl
    | 4, _ => rfl)
theorem PtBox.put {w : World} {b : Nat} {x0 x1 x2 x3 x4 : Value} (h : PtBox w b x0 x1 x2 x3 x4) (y0 y1 y2 y3 y4 : Value) : PtBox (((((w.setCell ⟨b, 0, none⟩ y0).setCell ⟨b, 1, none⟩ y1).setCell ⟨b, 2, none⟩ y2).setCell ⟨b, 3, none⟩ y3).setCell ⟨b, 4, none⟩ y4) b y0 y1 y2 y3 y4 :=
  (((((World.rowIs.set h 0 y0).set 1 y1).set 2 y2).set 3 y3).set 4 y4).congr (fun i hi => by
    match i, hi with
    | 0, _ => rfl
    | 1, _ => rfl
    | 2, _ => rfl
    | 3, _ => rfl
    | 4, _ => rfl)
theorem inst_range {t : Int} (h : instOk t = true) : -337000000000000000 ≤ t ∧ t ≤ 337000000000000000 := by
  unfold instOk dayOk at h
  have := of_decide_eq_true h
  omega
theorem sqr_up {a b : Int} (h1 : -2018000000 ≤ a) (h : a ≤ b) (h2 : b ≤ 2018000000) : sqrHi a b ≤ 4100000000 := by
  have k : ∀ u v : Int, -2018000000 ≤ u → u ≤ 2018000000 → -2018000000 ≤ v → v ≤ 2018000000 → upQ (u * v) 1000000000 ≤ 4100000000 := by
    intro u v a1 a2 b1 b2
    have m := Int.natAbs_mul u v
    have k := Nat.mul_le_mul (show u.natAbs ≤ 2018000000 by omega) (show v.natAbs ≤ 2018000000 by omega)
    unfold upQ
    generalize u * v = z at *
    omega
  have k1 := k a a (by omega) (by omega) (by omega) (by omega)
  have k2 := k a b (by omega) (by omega) (by omega) (by omega)
  have k3 := k b a (by omega) (by omega) (by omega) (by omega)
  have k4 := k b b (by omega) (by omega) (by omega) (by omega)
  unfold sqrHi tmHi pHi
  omega
def paV (r : PaR) : Value := .tuple #[.agg #[.int .i64 r.at', .int .i64 r.l1, .int .i64 r.l2, .int .i64 r.b1, .int .i64 r.b2], .int .i64 r.e]
set_option maxRecDepth 100000 in
set_option maxHeartbeats 8000000 in
theorem ceFar_ok (t : Int) (w : World) (hT : SinT w) (ti : instOk t = true) (h : ceFar t) : Calls Tryz.prog 22 #[.int .i64 t] w fun e w' => e = .returned (paV (ceF t)) ∧ Below w.heap.size w w' := by
  have e : ceF t = paE 6 := if_pos h
  rw [e]
  unfold ceFar at h
  have IN := Lib.hid (fun w => ti ▸ isInst_ok t w (by have := inst_range ti; omega) (by have := inst_range ti; omega))
  have OF := Lib.hid (fun W (hT : SinT W) => paOff_ok t W hT ti)
  have HT := Lib.hid hT
  generalize oxLo t = x1 at *
  generalize oxHi t = x2 at *
  generalize oyLo t = y1 at *
  generalize oyHi t = y2 at *
  have HH := Lib.hid h
  clear hT ti e h
  have S1 := PtBox.new w (.int .i64 0) (.int .i64 0) (.int .i64 0) (.int .i64 0) (.int .i64 0)
  have HB0 := (Below.refl w.heap.size w).alloc (Nat.le_refl _) (.cells #[.int .i64 0, .int .i64 0, .int .i64 0, .int .i64 0, .int .i64 0] 40)
  obtain ⟨k1, hk1⟩ : ∃ x, x = w.heap.size := ⟨_, rfl⟩
  rw [← hk1] at S1
  have Hkl1 := Lib.hid (Nat.le_of_eq hk1.symm)
  have HB := Lib.hid (Below.refl w.heap.size w)
  clear HB
  go_enter Tryz.func22, Tryz.ntmps22
  go_upto_region 1 with fail
  rw [← hk1]
  obtain ⟨X1, hX1⟩ : ∃ X, X = w.alloc (.cells #[.int .i64 0, .int .i64 0, .int .i64 0, .int .i64 0, .int .i64 0] 40) := ⟨_, rfl⟩
  rw [← hX1] at S1 HB0 ⊢
  have s1 := Lib.hid S1
  have HB := Lib.hid HB0
  clear hX1 hk1 S1 HB0
  go_wp2_with fail
  refine Calls.mono (IN.out _) ?_
  rintro e wc1 ⟨rfl, hb⟩
  replace s1 := Lib.hid (s1.out.below hb)
  replace HB := Lib.hid (HB.out.trans (hb.mono HB.out.size))
  clear hb
  go_wp2_with fail
  refine Calls.mono (OF.out _ (HT.out.below HB.out)) ?_
  rintro e wn2 ⟨rfl, hb⟩
  have Hd2_1 := Lib.hid (s1.out.below hb).lt
  replace s1 := Lib.hid (((s1.out.below hb).alloc (.cells #[.int .i64 (x1), .int .i64 (x2)] 28)).alloc (.cells #[.int .i64 (y1), .int .i64 (y2)] 28))
  have HB2 := HB.out.trans (hb.mono HB.out.size)
  clear hb
  have Hkl2 := Lib.hid HB2.size; have HBq := HB2.alloc HB2.size (.cells #[.int .i64 (x1), .int .i64 (x2)] 28); replace HB := Lib.hid (HBq.alloc HBq.size (.cells #[.int .i64 (y1), .int .i64 (y2)] 28)); clear HB2 HBq
  obtain ⟨k2, hk2⟩ : ∃ x, x = wn2.heap.size := ⟨_, rfl⟩
  have hk3 : (wn2.alloc (.cells #[.int .i64 (x1), .int .i64 (x2)] 28)).heap.size = k2 + 1 := by simp [hk2]
  have s2 := Lib.hid ((SpBox.new wn2 (x1) (x2)).alloc (.cells #[.int .i64 (y1), .int .i64 (y2)] 28))
  have s30 := SpBox.new (wn2.alloc (.cells #[.int .i64 (x1), .int .i64 (x2)] 28)) (y1) (y2)
  rw [hk3] at s30
  have s3 := Lib.hid s30; clear s30
  rw [← hk2] at s2 Hkl2 Hd2_1
  have Hkl3 := Lib.hid (Nat.le_trans Hkl2.out (Nat.le_succ k2))
  have Hd3_1 := Lib.hid (Nat.lt_trans Hd2_1.out (Nat.lt_succ_self k2))
  have Hd3_2 := Lib.hid (Nat.lt_succ_self k2)
  go_upto_region 4 with fail
  (try rw [hk3])
  rw [← hk2]
  obtain ⟨X3, hX3⟩ : ∃ X, X = (wn2.alloc (.cells #[.int .i64 (x1), .int .i64 (x2)] 28)).alloc (.cells #[.int .i64 (y1), .int .i64 (y2)] 28) := ⟨_, rfl⟩
  rw [← hX3] at s1 s2 s3 HB ⊢
  clear hk3 hk2 hX3
  have sc2_0 := s2.out.c0; have sc2_1 := s2.out.c1; have sc2_l := s2.out.lt
  have sc3_0 := s3.out.c0; have sc3_1 := s3.out.c1; have sc3_l := s3.out.lt
  by_cases z1 : 2000000000 < x1
  · clear HH
    have y0 := s1.out.c0; have f0 := s1.out.free 0; have y1 := s1.out.c1; have f1 := s1.out.free 1; have y2 := s1.out.c2; have f2 := s1.out.free 2; have y3 := s1.out.c3; have f3 := s1.out.free 3; have y4 := s1.out.c4; have f4 := s1.out.free 4; have yl := s1.out.lt; have ky := Hkl1.out
    go_wp2_with fail
    refine bodyPost_ret (v := .tuple #[.agg #[.int .i64 0, .int .i64 0, .int .i64 0, .int .i64 0, .int .i64 0], .int .i64 6]) ?_ rfl ⟨rfl, ?_⟩
    · simp [results, Tryz.results22, go_sem, *]
    · refine Below.setCell (Below.setCell (Below.setCell (Below.setCell (Below.setCell (HB.out) ?_ _) ?_ _) ?_ _) ?_ _) ?_ _
      all_goals (first | (simp only [World.size_setCell]; omega) | (dsimp only; omega))
  · by_cases z2 : x2 < -2000000000
    · clear HH
      have y0 := s1.out.c0; have f0 := s1.out.free 0; have y1 := s1.out.c1; have f1 := s1.out.free 1; have y2 := s1.out.c2; have f2 := s1.out.free 2; have y3 := s1.out.c3; have f3 := s1.out.free 3; have y4 := s1.out.c4; have f4 := s1.out.free 4; have yl := s1.out.lt; have ky := Hkl1.out
      go_wp2_with fail
      refine bodyPost_ret (v := .tuple #[.agg #[.int .i64 0, .int .i64 0, .int .i64 0, .int .i64 0, .int .i64 0], .int .i64 6]) ?_ rfl ⟨rfl, ?_⟩
      · simp [results, Tryz.results22, go_sem, *]
      · refine Below.setCell (Below.setCell (Below.setCell (Below.setCell (Below.setCell (HB.out) ?_ _) ?_ _) ?_ _) ?_ _) ?_ _
        all_goals (first | (simp only [World.size_setCell]; omega) | (dsimp only; omega))
    · by_cases z3 : 2000000000 < y1
      · clear HH
        have y0 := s1.out.c0; have f0 := s1.out.free 0; have y1 := s1.out.c1; have f1 := s1.out.free 1; have y2 := s1.out.c2; have f2 := s1.out.free 2; have y3 := s1.out.c3; have f3 := s1.out.free 3; have y4 := s1.out.c4; have f4 := s1.out.free 4; have yl := s1.out.lt; have ky := Hkl1.out
        go_wp2_with fail
        refine bodyPost_ret (v := .tuple #[.agg #[.int .i64 0, .int .i64 0, .int .i64 0, .int .i64 0, .int .i64 0], .int .i64 6]) ?_ rfl ⟨rfl, ?_⟩
        · simp [results, Tryz.results22, go_sem, *]
        · refine Below.setCell (Below.setCell (Below.setCell (Below.setCell (Below.setCell (HB.out) ?_ _) ?_ _) ?_ _) ?_ _) ?_ _
          all_goals (first | (simp only [World.size_setCell]; omega) | (dsimp only; omega))
      · have z4 : y2 < -2000000000 := by have := HH.out; omega
        clear HH
        have y0 := s1.out.c0; have f0 := s1.out.free 0; have y1 := s1.out.c1; have f1 := s1.out.free 1; have y2 := s1.out.c2; have f2 := s1.out.free 2; have y3 := s1.out.c3; have f3 := s1.out.free 3; have y4 := s1.out.c4; have f4 := s1.out.free 4; have yl := s1.out.lt; have ky := Hkl1.out
        go_wp2_with fail
        refine bodyPost_ret (v := .tuple #[.agg #[.int .i64 0, .int .i64 0, .int .i64 0, .int .i64 0, .int .i64 0], .int .i64 6]) ?_ rfl ⟨rfl, ?_⟩
        · simp [results, Tryz.results22, go_sem, *]
        · refine Below.setCell (Below.setCell (Below.setCell (Below.setCell (Below.setCell (HB.out) ?_ _) ?_ _) ?_ _) ?_ _) ?_ _
          all_goals (first | (simp only [World.size_setCell]; omega) | (dsimp only; omega))
structure CeNear (x1 x2 y1 y2 : Int) : Prop where
  a : ¬ 2000000000 < x1
  b : ¬ x2 < -2000000000
  c : ¬ 2000000000 < y1
  d : ¬ y2 < -2000000000
theorem ce_near {t : Int} (h : ¬ ceFar t) : CeNear (oxLo t) (oxHi t) (oyLo t) (oyHi t) := by
  unfold ceFar at h
  exact ⟨by omega, by omega, by omega, by omega⟩
set_option maxRecDepth 100000 in
set_option maxHeartbeats 8000000 in
theorem ceOut_ok (t : Int) (w : World) (hT : SinT w) (ti : instOk t = true) (h : ¬ ceFar t) (h2 : 1000000000 < smLo t) : Calls Tryz.prog 22 #[.int .i64 t] w fun e w' => e = .returned (paV (ceF t)) ∧ Below w.heap.size w w' := by
  have e : ceF t = paE 6 := by unfold ceF; rw [if_neg h, if_pos h2]
  rw [e]
  have n := ce_near h
  obtain ⟨z1, z2, z3, z4⟩ := id n
  have IN := Lib.hid (fun w => ti ▸ isInst_ok t w (by have := inst_range ti; omega) (by have := inst_range ti; omega))
  have OF := Lib.hid (fun W (hT : SinT W) => paOff_ok t W hT ti)
  have HT := Lib.hid hT
  have xb := ox_bd t; have yb := oy_bd t
  have SQ1 := Lib.hid (fun W => paSquare_ok (oxLo t) (oxHi t) W (big_of (M := 2018000000) (N := 2018000000) (by omega) (by omega) (by omega) (by omega) (by decide)) (by omega) (by omega))
  have SQ2 := Lib.hid (fun W => paSquare_ok (oyLo t) (oyHi t) W (big_of (M := 2018000000) (N := 2018000000) (by omega) (by omega) (by omega) (by omega) (by decide)) (by omega) (by omega))
  have ux := sqr_up (a := oxLo t) (b := oxHi t) (by omega) (by omega) (by omega); have uy := sqr_up (a := oyLo t) (b := oyHi t) (by omega) (by omega) (by omega)
  have bx := sqr_bd xb.1; have by' := sqr_bd yb.1
  have PL := Lib.hid (fun W => tPlus_ok (sqrLo (oxLo t) (oxHi t)) (sqrHi (oxLo t) (oxHi t)) (sqrLo (oyLo t) (oyHi t)) (sqrHi (oyLo t) (oyHi t)) W (by omega) (by omega))
  rw [show sqrLo (oxLo t) (oxHi t) + sqrLo (oyLo t) (oyHi t) = smLo t from rfl, show sqrHi (oxLo t) (oxHi t) + sqrHi (oyLo t) (oyHi t) = smHi t from rfl] at PL
  clear xb yb ux uy bx by'
  generalize sqrLo (oxLo t) (oxHi t) = q1 at *
  generalize sqrHi (oxLo t) (oxHi t) = q2 at *
  generalize sqrLo (oyLo t) (oyHi t) = q3 at *
  generalize sqrHi (oyLo t) (oyHi t) = q4 at *
  generalize oxLo t = x1 at *
  generalize oxHi t = x2 at *
  generalize oyLo t = y1 at *
  generalize oyHi t = y2 at *
  generalize smLo t = m1 at *
  generalize smHi t = m2 at *
  clear hT ti e h n
  have S1 := PtBox.new w (.int .i64 0) (.int .i64 0) (.int .i64 0) (.int .i64 0) (.int .i64 0)
  have HB0 := (Below.refl w.heap.size w).alloc (Nat.le_refl _) (.cells #[.int .i64 0, .int .i64 0, .int .i64 0, .int .i64 0, .int .i64 0] 40)
  obtain ⟨k1, hk1⟩ : ∃ x, x = w.heap.size := ⟨_, rfl⟩
  rw [← hk1] at S1
  have Hkl1 := Lib.hid (Nat.le_of_eq hk1.symm)
  have HB := Lib.hid (Below.refl w.heap.size w)
  clear HB
  go_enter Tryz.func22, Tryz.ntmps22
  go_upto_region 1 with fail
  rw [← hk1]
  obtain ⟨X1, hX1⟩ : ∃ X, X = w.alloc (.cells #[.int .i64 0, .int .i64 0, .int .i64 0, .int .i64 0, .int .i64 0] 40) := ⟨_, rfl⟩
  rw [← hX1] at S1 HB0 ⊢
  have s1 := Lib.hid S1
  have HB := Lib.hid HB0
  clear hX1 hk1 S1 HB0
  go_wp2_with fail
  refine Calls.mono (IN.out _) ?_
  rintro e wc1 ⟨rfl, hb⟩
  replace s1 := Lib.hid (s1.out.below hb)
  replace HB := Lib.hid (HB.out.trans (hb.mono HB.out.size))
  clear hb
  go_wp2_with fail
  refine Calls.mono (OF.out _ (HT.out.below HB.out)) ?_
  rintro e wn2 ⟨rfl, hb⟩
  have Hd2_1 := Lib.hid (s1.out.below hb).lt
  replace s1 := Lib.hid (((s1.out.below hb).alloc (.cells #[.int .i64 (x1), .int .i64 (x2)] 28)).alloc (.cells #[.int .i64 (y1), .int .i64 (y2)] 28))
  have HB2 := HB.out.trans (hb.mono HB.out.size)
  clear hb
  have Hkl2 := Lib.hid HB2.size; have HBq := HB2.alloc HB2.size (.cells #[.int .i64 (x1), .int .i64 (x2)] 28); replace HB := Lib.hid (HBq.alloc HBq.size (.cells #[.int .i64 (y1), .int .i64 (y2)] 28)); clear HB2 HBq
  obtain ⟨k2, hk2⟩ : ∃ x, x = wn2.heap.size := ⟨_, rfl⟩
  have hk3 : (wn2.alloc (.cells #[.int .i64 (x1), .int .i64 (x2)] 28)).heap.size = k2 + 1 := by simp [hk2]
  have s2 := Lib.hid ((SpBox.new wn2 (x1) (x2)).alloc (.cells #[.int .i64 (y1), .int .i64 (y2)] 28))
  have s30 := SpBox.new (wn2.alloc (.cells #[.int .i64 (x1), .int .i64 (x2)] 28)) (y1) (y2)
  rw [hk3] at s30
  have s3 := Lib.hid s30; clear s30
  rw [← hk2] at s2 Hkl2 Hd2_1
  have Hkl3 := Lib.hid (Nat.le_trans Hkl2.out (Nat.le_succ k2))
  have Hd3_1 := Lib.hid (Nat.lt_trans Hd2_1.out (Nat.lt_succ_self k2))
  have Hd3_2 := Lib.hid (Nat.lt_succ_self k2)
  go_upto_region 4 with fail
  (try rw [hk3])
  rw [← hk2]
  obtain ⟨X3, hX3⟩ : ∃ X, X = (wn2.alloc (.cells #[.int .i64 (x1), .int .i64 (x2)] 28)).alloc (.cells #[.int .i64 (y1), .int .i64 (y2)] 28) := ⟨_, rfl⟩
  rw [← hX3] at s1 s2 s3 HB ⊢
  clear hk3 hk2 hX3
  have sc2_0 := s2.out.c0; have sc2_1 := s2.out.c1; have sc2_l := s2.out.lt
  have sc3_0 := s3.out.c0; have sc3_1 := s3.out.c1; have sc3_l := s3.out.lt
  go_upto_region 6 with fail
  clear sc2_0 sc2_1 sc2_l sc3_0 sc3_1 sc3_l
  clear z1 z2 z3 z4
  obtain ⟨XD1, hXD1⟩ : ∃ x, x = X3.drew := ⟨_, rfl⟩
  have hbx1 : Hid (PtBox XD1 (k1) (.int .i64 0) (.int .i64 0) (.int .i64 0) (.int .i64 0) (.int .i64 0)) := Lib.hid (by rw [hXD1]; exact s1.out.drew)
  have hbx2 : Hid (SpBox XD1 (k2) (x1) (x2)) := Lib.hid (by rw [hXD1]; exact s2.out.drew)
  have hbx3 : Hid (SpBox XD1 (k2 + 1) (y1) (y2)) := Lib.hid (by rw [hXD1]; exact s3.out.drew)
  have hbW : Hid (Below w.heap.size w XD1) := Lib.hid (by rw [hXD1]; exact HB.out.drew)
  have HXD1 := Lib.hid hXD1; clear hXD1 s1 s2 s3 HB
  have hf := Below.refl XD1.heap.size XD1
  go_cut [6] (fun sv wx => ∃ bn : Nat, sv = .pointer (some ⟨bn, 0, none⟩) ∧ Hid (w.heap.size ≤ bn) ∧ Hid (SpBox wx bn (m1) (m2)) ∧ Hid (PtBox wx (k1) (.int .i64 0) (.int .i64 0) (.int .i64 0) (.int .i64 0) (.int .i64 0)) ∧ Hid (SpBox wx (k2) (x1) (x2)) ∧ Hid (SpBox wx (k2 + 1) (y1) (y2)) ∧ Hid (k1 < bn) ∧ Hid (k2 < bn) ∧ Hid (k2 + 1 < bn) ∧ Hid (Below w.heap.size w wx))
  case first =>
    refine wp_region_G [(6, fun w' => Below XD1.heap.size XD1 w')] (by kernel_rfl) (heldC_one (fun _ => by rw [← HXD1.out]; exact hf)) (fun hF => ?_)
    rw [← HXD1.out] at hF ⊢
    refine gT (oi := ?o172) (v := ?v172) 0 ?i172 ?Q172 hF ?w172 ?y172 (by kernel_rfl) (fun hF => ?h172)
    case i172 => (simp only [gA, gB, gC]; rfl)
    case Q172 => exact fun _ _ _ h => h
    case w172 => rfl
    case y172 => (intro wz hz; have zb := hbx2.out.below hz; have z0 := zb.c0; have z1 := zb.c1; go_simp; try (with_reducible rfl))
    try simp only [Act.put, uA, uB, uC]
    refine gT (oi := ?o173) (v := ?v173) 2 ?i173 ?Q173 hF ?w173 ?y173 (by kernel_rfl) (fun hF => ?h173)
    case i173 => (simp only [gA, gB, gC]; rfl)
    case Q173 => exact fun _ _ _ h => h
    case w173 => rfl
    case y173 => (intro wz hz; have zb := hbx3.out.below hz; have z0 := zb.c0; have z1 := zb.c1; go_simp; try (with_reducible rfl))
    try simp only [Act.put, uA, uB, uC]
    apply mergeWN (S := fun W bn => Below XD1.heap.size XD1 W ∧ (SpBox W bn 0 0 ∧ XD1.heap.size ≤ bn))
    intro k1_30
    apply mergeW (S := fun W => Below XD1.heap.size XD1 W)
    intro k1_3n
    apply mergeWN (S := fun W bn => Below XD1.heap.size XD1 W ∧ (SpBox W bn 0 0 ∧ XD1.heap.size ≤ bn))
    intro k1_20
    apply mergeW (S := fun W => Below XD1.heap.size XD1 W)
    intro k1_2n
    apply mergeWN (S := fun W bn => Below XD1.heap.size XD1 W ∧ (SpBox W bn 0 0 ∧ XD1.heap.size ≤ bn))
    intro k1_10
    apply mergeW (S := fun W => Below XD1.heap.size XD1 W)
    intro k1_1n
    apply mergeWN (S := fun W bn => Below XD1.heap.size XD1 W ∧ (SpBox W bn 0 0 ∧ XD1.heap.size ≤ bn))
    intro k1_00
    · have hf := hf
      refine gS (i := 1) (j := 5) (by kernel_rfl) ?_ ?_
      · skip
        refine wpOp_hand (oi := ?oi174) ?hi174 (fun K hK => ?hh174)
        case hi174 => (simp only [gA, gB, gC]; rfl)
        go_simp
        refine Calls.mono (SQ1.out _) ?_
        rintro e Va1_1 ⟨rfl, hb⟩
        replace hf := hf.trans (hb.mono hf.size)
        clear hb
        refine hK.out _ _ (heldC_one (fun _ => hf)) (fun hF => ?_)
        clear hK K
        try simp only [Act.put, uA, uB, uC]
        refine wpG_marks (l' := #[true, true, true, false, false, false, false]) (by kernel_rfl) ?_
        with_reducible exact k1_1n Va1_1 hf
      · skip
        refine wpOp_hand (oi := ?oi175) ?hi175 (fun K hK => ?hh175)
        case hi175 => (simp only [gA, gB, gC]; rfl)
        go_simp
        have hn := SpBox.new XD1 0 0
        have hfn := hf.alloc hf.size (.cells #[.int .i64 0, .int .i64 0] 28)
        obtain ⟨bn, hbn⟩ : ∃ b, b = XD1.heap.size := ⟨_, rfl⟩
        obtain ⟨Y, hY⟩ : ∃ Y, Y = XD1.alloc (.cells #[.int .i64 0, .int .i64 0] 28) := ⟨_, rfl⟩
        rw [← hY] at hfn hn ⊢
        have dn : XD1.heap.size ≤ bn := by rw [hbn]; exact hf.size
        rw [← hbn] at hn ⊢
        clear hf hY hbn
        have hf := hfn
        clear hfn
        refine hK.out _ _ (heldC_one (fun _ => hf)) (fun hF => ?_)
        clear hK K
        try simp only [Act.put, uA, uB, uC]
        refine wpG_marks (l' := #[true, false, true, false, false, true, false]) (by kernel_rfl) ?_
        with_reducible exact k1_00 Y bn ⟨hf, ⟨hn, dn⟩⟩
    · rintro W bn ⟨hf, ⟨hn, dn⟩⟩
      refine gR (i := 1) (by kernel_rfl) ?_
      refine wpOp_hand (oi := ?oi176) ?hi176 (fun K hK => ?hh176)
      case hi176 => (simp only [gA, gB, gC]; rfl)
      go_simp
      refine Calls.mono (SQ1.out _) ?_
      rintro e Va1_2 ⟨rfl, hb⟩
      have hnn := hn.below hb; clear hn; have hn := hnn; clear hnn
      replace hf := hf.trans (hb.mono hf.size)
      clear hb
      refine hK.out _ _ (heldC_one (fun _ => hf)) (fun hF => ?_)
      clear hK K
      try simp only [Act.put, uA, uB, uC]
      refine wpG_marks (l' := #[true, true, true, false, false, true, false]) (by kernel_rfl) ?_
      with_reducible exact k1_10 Va1_2 bn ⟨hf, ⟨hn, dn⟩⟩
    · rintro W hf
      refine gS (i := 3) (j := 5) (by kernel_rfl) ?_ ?_
      · skip
        refine wpOp_hand (oi := ?oi177) ?hi177 (fun K hK => ?hh177)
        case hi177 => (simp only [gA, gB, gC]; rfl)
        go_simp
        refine Calls.mono (SQ2.out _) ?_
        rintro e Va1_3 ⟨rfl, hb⟩
        replace hf := hf.trans (hb.mono hf.size)
        clear hb
        refine hK.out _ _ (heldC_one (fun _ => hf)) (fun hF => ?_)
        clear hK K
        try simp only [Act.put, uA, uB, uC]
        refine wpG_marks (l' := #[true, true, true, true, false, false, false]) (by kernel_rfl) ?_
        with_reducible exact k1_2n Va1_3 hf
      · skip
        refine wpOp_hand (oi := ?oi178) ?hi178 (fun K hK => ?hh178)
        case hi178 => (simp only [gA, gB, gC]; rfl)
        go_simp
        have hn := SpBox.new W 0 0
        have hfn := hf.alloc hf.size (.cells #[.int .i64 0, .int .i64 0] 28)
        obtain ⟨bn, hbn⟩ : ∃ b, b = W.heap.size := ⟨_, rfl⟩
        obtain ⟨Y, hY⟩ : ∃ Y, Y = W.alloc (.cells #[.int .i64 0, .int .i64 0] 28) := ⟨_, rfl⟩
        rw [← hY] at hfn hn ⊢
        have dn : XD1.heap.size ≤ bn := by rw [hbn]; exact hf.size
        rw [← hbn] at hn ⊢
        clear hf hY hbn
        have hf := hfn
        clear hfn
        refine hK.out _ _ (heldC_one (fun _ => hf)) (fun hF => ?_)
        clear hK K
        try simp only [Act.put, uA, uB, uC]
        refine wpG_marks (l' := #[true, true, true, false, false, true, false]) (by kernel_rfl) ?_
        with_reducible exact k1_10 Y bn ⟨hf, ⟨hn, dn⟩⟩
    · rintro W bn ⟨hf, ⟨hn, dn⟩⟩
      refine gR (i := 3) (by kernel_rfl) ?_
      refine wpOp_hand (oi := ?oi179) ?hi179 (fun K hK => ?hh179)
      case hi179 => (simp only [gA, gB, gC]; rfl)
      go_simp
      refine Calls.mono (SQ2.out _) ?_
      rintro e Va1_4 ⟨rfl, hb⟩
      have hnn := hn.below hb; clear hn; have hn := hnn; clear hnn
      replace hf := hf.trans (hb.mono hf.size)
      clear hb
      refine hK.out _ _ (heldC_one (fun _ => hf)) (fun hF => ?_)
      clear hK K
      try simp only [Act.put, uA, uB, uC]
      refine wpG_marks (l' := #[true, true, true, true, false, true, false]) (by kernel_rfl) ?_
      with_reducible exact k1_20 Va1_4 bn ⟨hf, ⟨hn, dn⟩⟩
    · rintro W hf
      refine gS (i := 4) (j := 5) (by kernel_rfl) ?_ ?_
      · skip
        refine wpOp_hand (oi := ?oi180) ?hi180 (fun K hK => ?hh180)
        case hi180 => (simp only [gA, gB, gC]; rfl)
        go_simp
        refine Calls.mono (PL.out _) ?_
        rintro e Va1_5 ⟨rfl, hb⟩
        replace hf := hf.trans (hb.mono hf.size)
        clear hb
        refine hK.out _ _ (heldC_one (fun _ => hf)) (fun hF => ?_)
        clear hK K
        try simp only [Act.put, uA, uB, uC]
        refine wpG_marks (l' := #[true, true, true, true, true, false, false]) (by kernel_rfl) ?_
        with_reducible exact k1_3n Va1_5 hf
      · skip
        refine wpOp_hand (oi := ?oi181) ?hi181 (fun K hK => ?hh181)
        case hi181 => (simp only [gA, gB, gC]; rfl)
        go_simp
        have hn := SpBox.new W 0 0
        have hfn := hf.alloc hf.size (.cells #[.int .i64 0, .int .i64 0] 28)
        obtain ⟨bn, hbn⟩ : ∃ b, b = W.heap.size := ⟨_, rfl⟩
        obtain ⟨Y, hY⟩ : ∃ Y, Y = W.alloc (.cells #[.int .i64 0, .int .i64 0] 28) := ⟨_, rfl⟩
        rw [← hY] at hfn hn ⊢
        have dn : XD1.heap.size ≤ bn := by rw [hbn]; exact hf.size
        rw [← hbn] at hn ⊢
        clear hf hY hbn
        have hf := hfn
        clear hfn
        refine hK.out _ _ (heldC_one (fun _ => hf)) (fun hF => ?_)
        clear hK K
        try simp only [Act.put, uA, uB, uC]
        refine wpG_marks (l' := #[true, true, true, true, false, true, false]) (by kernel_rfl) ?_
        with_reducible exact k1_20 Y bn ⟨hf, ⟨hn, dn⟩⟩
    · rintro W bn ⟨hf, ⟨hn, dn⟩⟩
      refine gR (i := 4) (by kernel_rfl) ?_
      refine wpOp_hand (oi := ?oi182) ?hi182 (fun K hK => ?hh182)
      case hi182 => (simp only [gA, gB, gC]; rfl)
      go_simp
      refine Calls.mono (PL.out _) ?_
      rintro e Va1_6 ⟨rfl, hb⟩
      have hnn := hn.below hb; clear hn; have hn := hnn; clear hnn
      replace hf := hf.trans (hb.mono hf.size)
      clear hb
      refine hK.out _ _ (heldC_one (fun _ => hf)) (fun hF => ?_)
      clear hK K
      try simp only [Act.put, uA, uB, uC]
      refine wpG_marks (l' := #[true, true, true, true, true, true, false]) (by kernel_rfl) ?_
      with_reducible exact k1_30 Va1_6 bn ⟨hf, ⟨hn, dn⟩⟩
    · rintro W hf
      refine gR (i := 5) (by kernel_rfl) ?_
      refine wpOp_hand (oi := ?oi183) ?hi183 (fun K hK => ?hh183)
      case hi183 => (simp only [gA, gB, gC]; rfl)
      go_simp
      have hn := SpBox.new W 0 0
      have hfn := hf.alloc hf.size (.cells #[.int .i64 0, .int .i64 0] 28)
      obtain ⟨bn, hbn⟩ : ∃ b, b = W.heap.size := ⟨_, rfl⟩
      obtain ⟨Y, hY⟩ : ∃ Y, Y = W.alloc (.cells #[.int .i64 0, .int .i64 0] 28) := ⟨_, rfl⟩
      rw [← hY] at hfn hn ⊢
      have dn : XD1.heap.size ≤ bn := by rw [hbn]; exact hf.size
      rw [← hbn] at hn ⊢
      clear hf hY hbn
      have hf := hfn
      clear hfn
      refine hK.out _ _ (heldC_one (fun _ => hf)) (fun hF => ?_)
      clear hK K
      try simp only [Act.put, uA, uB, uC]
      refine wpG_marks (l' := #[true, true, true, true, true, true, false]) (by kernel_rfl) ?_
      with_reducible exact k1_30 Y bn ⟨hf, ⟨hn, dn⟩⟩
    · rintro W bn ⟨hf, ⟨hn, dn⟩⟩
      refine gR (i := 6) (by kernel_rfl) ?_
      have zz0 := hn.c0; have zz0f := hn.free 0; have zz1 := hn.c1; have zz1f := hn.free 1; have zzl := hn.lt
      refine wpOp_hand (oi := ?oi184) ?hi184 (fun K hK => ?hh184)
      case hi184 => (simp only [gA, gB, gC]; rfl)
      go_simp
      have hnn := hn.set (m1) (m2)
      clear zz0 zz0f zz1 zz1f zzl hn
      have hn := hnn; clear hnn
      replace hf := (hf.setCell (p := ⟨bn, 0, none⟩) dn (.int .i64 (m1))).setCell (p := ⟨bn, 1, none⟩) dn (.int .i64 (m2))
      refine hK.out _ _ (heldC_one (fun h => absurd h (by simp))) (fun hF => ?_)
      clear hK K
      try simp only [Act.put, uA, uB, uC]
      refine wpG_done (by kernel_rfl) ?_ _
      go_wp2_with fail
      go_meet
      exact ⟨bn, rfl, Lib.hid (Nat.le_trans hbW.out.size dn), Lib.hid hn, Lib.hid (hbx1.out.below hf), Lib.hid (hbx2.out.below hf), Lib.hid (hbx3.out.below hf), Lib.hid (Nat.lt_of_lt_of_le hbx1.out.lt dn), Lib.hid (Nat.lt_of_lt_of_le hbx2.out.lt dn), Lib.hid (Nat.lt_of_lt_of_le hbx3.out.lt dn), Lib.hid (hbW.out.trans (hf.mono hbW.out.size))⟩
  case rest =>
  obtain ⟨k4, rfl, Hkl4, s4, s1, s2, s3, Hd4_1, Hd4_2, Hd4_3, HB⟩ := hcut
  obtain ⟨X4, hX4⟩ : ∃ X, X = wc := ⟨_, rfl⟩
  subst hX4
  clear HXD1 hf hbW hbx1 hbx2 hbx3
  clear SQ1 SQ2 PL
  have sc4_0 := s4.out.c0; have sc4_1 := s4.out.c1; have sc4_l := s4.out.lt
  have y0 := s1.out.c0; have f0 := s1.out.free 0; have y1 := s1.out.c1; have f1 := s1.out.free 1; have y2 := s1.out.c2; have f2 := s1.out.free 2; have y3 := s1.out.c3; have f3 := s1.out.free 3; have y4 := s1.out.c4; have f4 := s1.out.free 4; have yl := s1.out.lt; have ky := Hkl1.out
  go_wp2_with fail
  refine bodyPost_ret (v := .tuple #[.agg #[.int .i64 0, .int .i64 0, .int .i64 0, .int .i64 0, .int .i64 0], .int .i64 6]) ?_ rfl ⟨rfl, ?_⟩
  · simp [results, Tryz.results22, go_sem, *]
  · refine Below.setCell (Below.setCell (Below.setCell (Below.setCell (Below.setCell (HB.out) ?_ _) ?_ _) ?_ _) ?_ _) ?_ _
    all_goals (first | (simp only [World.size_setCell]; omega) | (dsimp only; omega))
set_option maxRecDepth 100000 in
set_option maxHeartbeats 8000000 in
theorem ceOpen_ok (t : Int) (w : World) (hT : SinT w) (ti : instOk t = true) (h : ¬ ceFar t) (h2 : ¬ 1000000000 < smLo t) (h3 : 1000000000 < smHi t) : Calls Tryz.prog 22 #[.int .i64 t] w fun e w' => e = .returned (paV (ceF t)) ∧ Below w.heap.size w w' := by
  have e : ceF t = paE 11 := by unfold ceF; rw [if_neg h, if_neg h2, if_pos h3]
  rw [e]
  have n := ce_near h
  obtain ⟨z1, z2, z3, z4⟩ := id n
  have IN := Lib.hid (fun w => ti ▸ isInst_ok t w (by have := inst_range ti; omega) (by have := inst_range ti; omega))
  have OF := Lib.hid (fun W (hT : SinT W) => paOff_ok t W hT ti)
  have HT := Lib.hid hT
  have xb := ox_bd t; have yb := oy_bd t
  have SQ1 := Lib.hid (fun W => paSquare_ok (oxLo t) (oxHi t) W (big_of (M := 2018000000) (N := 2018000000) (by omega) (by omega) (by omega) (by omega) (by decide)) (by omega) (by omega))
  have SQ2 := Lib.hid (fun W => paSquare_ok (oyLo t) (oyHi t) W (big_of (M := 2018000000) (N := 2018000000) (by omega) (by omega) (by omega) (by omega) (by decide)) (by omega) (by omega))
  have ux := sqr_up (a := oxLo t) (b := oxHi t) (by omega) (by omega) (by omega); have uy := sqr_up (a := oyLo t) (b := oyHi t) (by omega) (by omega) (by omega)
  have bx := sqr_bd xb.1; have by' := sqr_bd yb.1
  have PL := Lib.hid (fun W => tPlus_ok (sqrLo (oxLo t) (oxHi t)) (sqrHi (oxLo t) (oxHi t)) (sqrLo (oyLo t) (oyHi t)) (sqrHi (oyLo t) (oyHi t)) W (by omega) (by omega))
  rw [show sqrLo (oxLo t) (oxHi t) + sqrLo (oyLo t) (oyHi t) = smLo t from rfl, show sqrHi (oxLo t) (oxHi t) + sqrHi (oyLo t) (oyHi t) = smHi t from rfl] at PL
  clear xb yb ux uy bx by'
  generalize sqrLo (oxLo t) (oxHi t) = q1 at *
  generalize sqrHi (oxLo t) (oxHi t) = q2 at *
  generalize sqrLo (oyLo t) (oyHi t) = q3 at *
  generalize sqrHi (oyLo t) (oyHi t) = q4 at *
  generalize oxLo t = x1 at *
  generalize oxHi t = x2 at *
  generalize oyLo t = y1 at *
  generalize oyHi t = y2 at *
  generalize smLo t = m1 at *
  generalize smHi t = m2 at *
  clear hT ti e h n
  have S1 := PtBox.new w (.int .i64 0) (.int .i64 0) (.int .i64 0) (.int .i64 0) (.int .i64 0)
  have HB0 := (Below.refl w.heap.size w).alloc (Nat.le_refl _) (.cells #[.int .i64 0, .int .i64 0, .int .i64 0, .int .i64 0, .int .i64 0] 40)
  obtain ⟨k1, hk1⟩ : ∃ x, x = w.heap.size := ⟨_, rfl⟩
  rw [← hk1] at S1
  have Hkl1 := Lib.hid (Nat.le_of_eq hk1.symm)
  have HB := Lib.hid (Below.refl w.heap.size w)
  clear HB
  go_enter Tryz.func22, Tryz.ntmps22
  go_upto_region 1 with fail
  rw [← hk1]
  obtain ⟨X1, hX1⟩ : ∃ X, X = w.alloc (.cells #[.int .i64 0, .int .i64 0, .int .i64 0, .int .i64 0, .int .i64 0] 40) := ⟨_, rfl⟩
  rw [← hX1] at S1 HB0 ⊢
  have s1 := Lib.hid S1
  have HB := Lib.hid HB0
  clear hX1 hk1 S1 HB0
  go_wp2_with fail
  refine Calls.mono (IN.out _) ?_
  rintro e wc1 ⟨rfl, hb⟩
  replace s1 := Lib.hid (s1.out.below hb)
  replace HB := Lib.hid (HB.out.trans (hb.mono HB.out.size))
  clear hb
  go_wp2_with fail
  refine Calls.mono (OF.out _ (HT.out.below HB.out)) ?_
  rintro e wn2 ⟨rfl, hb⟩
  have Hd2_1 := Lib.hid (s1.out.below hb).lt
  replace s1 := Lib.hid (((s1.out.below hb).alloc (.cells #[.int .i64 (x1), .int .i64 (x2)] 28)).alloc (.cells #[.int .i64 (y1), .int .i64 (y2)] 28))
  have HB2 := HB.out.trans (hb.mono HB.out.size)
  clear hb
  have Hkl2 := Lib.hid HB2.size; have HBq := HB2.alloc HB2.size (.cells #[.int .i64 (x1), .int .i64 (x2)] 28); replace HB := Lib.hid (HBq.alloc HBq.size (.cells #[.int .i64 (y1), .int .i64 (y2)] 28)); clear HB2 HBq
  obtain ⟨k2, hk2⟩ : ∃ x, x = wn2.heap.size := ⟨_, rfl⟩
  have hk3 : (wn2.alloc (.cells #[.int .i64 (x1), .int .i64 (x2)] 28)).heap.size = k2 + 1 := by simp [hk2]
  have s2 := Lib.hid ((SpBox.new wn2 (x1) (x2)).alloc (.cells #[.int .i64 (y1), .int .i64 (y2)] 28))
  have s30 := SpBox.new (wn2.alloc (.cells #[.int .i64 (x1), .int .i64 (x2)] 28)) (y1) (y2)
  rw [hk3] at s30
  have s3 := Lib.hid s30; clear s30
  rw [← hk2] at s2 Hkl2 Hd2_1
  have Hkl3 := Lib.hid (Nat.le_trans Hkl2.out (Nat.le_succ k2))
  have Hd3_1 := Lib.hid (Nat.lt_trans Hd2_1.out (Nat.lt_succ_self k2))
  have Hd3_2 := Lib.hid (Nat.lt_succ_self k2)
  go_upto_region 4 with fail
  (try rw [hk3])
  rw [← hk2]
  obtain ⟨X3, hX3⟩ : ∃ X, X = (wn2.alloc (.cells #[.int .i64 (x1), .int .i64 (x2)] 28)).alloc (.cells #[.int .i64 (y1), .int .i64 (y2)] 28) := ⟨_, rfl⟩
  rw [← hX3] at s1 s2 s3 HB ⊢
  clear hk3 hk2 hX3
  have sc2_0 := s2.out.c0; have sc2_1 := s2.out.c1; have sc2_l := s2.out.lt
  have sc3_0 := s3.out.c0; have sc3_1 := s3.out.c1; have sc3_l := s3.out.lt
  go_upto_region 6 with fail
  clear sc2_0 sc2_1 sc2_l sc3_0 sc3_1 sc3_l
  clear z1 z2 z3 z4
  obtain ⟨XD2, hXD2⟩ : ∃ x, x = X3.drew := ⟨_, rfl⟩
  have hbx1 : Hid (PtBox XD2 (k1) (.int .i64 0) (.int .i64 0) (.int .i64 0) (.int .i64 0) (.int .i64 0)) := Lib.hid (by rw [hXD2]; exact s1.out.drew)
  have hbx2 : Hid (SpBox XD2 (k2) (x1) (x2)) := Lib.hid (by rw [hXD2]; exact s2.out.drew)
  have hbx3 : Hid (SpBox XD2 (k2 + 1) (y1) (y2)) := Lib.hid (by rw [hXD2]; exact s3.out.drew)
  have hbW : Hid (Below w.heap.size w XD2) := Lib.hid (by rw [hXD2]; exact HB.out.drew)
  have HXD2 := Lib.hid hXD2; clear hXD2 s1 s2 s3 HB
  have hf := Below.refl XD2.heap.size XD2
  go_cut [6] (fun sv wx => ∃ bn : Nat, sv = .pointer (some ⟨bn, 0, none⟩) ∧ Hid (w.heap.size ≤ bn) ∧ Hid (SpBox wx bn (m1) (m2)) ∧ Hid (PtBox wx (k1) (.int .i64 0) (.int .i64 0) (.int .i64 0) (.int .i64 0) (.int .i64 0)) ∧ Hid (SpBox wx (k2) (x1) (x2)) ∧ Hid (SpBox wx (k2 + 1) (y1) (y2)) ∧ Hid (k1 < bn) ∧ Hid (k2 < bn) ∧ Hid (k2 + 1 < bn) ∧ Hid (Below w.heap.size w wx))
  case first =>
    refine wp_region_G [(6, fun w' => Below XD2.heap.size XD2 w')] (by kernel_rfl) (heldC_one (fun _ => by rw [← HXD2.out]; exact hf)) (fun hF => ?_)
    rw [← HXD2.out] at hF ⊢
    refine gT (oi := ?o185) (v := ?v185) 0 ?i185 ?Q185 hF ?w185 ?y185 (by kernel_rfl) (fun hF => ?h185)
    case i185 => (simp only [gA, gB, gC]; rfl)
    case Q185 => exact fun _ _ _ h => h
    case w185 => rfl
    case y185 => (intro wz hz; have zb := hbx2.out.below hz; have z0 := zb.c0; have z1 := zb.c1; go_simp; try (with_reducible rfl))
    try simp only [Act.put, uA, uB, uC]
    refine gT (oi := ?o186) (v := ?v186) 2 ?i186 ?Q186 hF ?w186 ?y186 (by kernel_rfl) (fun hF => ?h186)
    case i186 => (simp only [gA, gB, gC]; rfl)
    case Q186 => exact fun _ _ _ h => h
    case w186 => rfl
    case y186 => (intro wz hz; have zb := hbx3.out.below hz; have z0 := zb.c0; have z1 := zb.c1; go_simp; try (with_reducible rfl))
    try simp only [Act.put, uA, uB, uC]
    apply mergeWN (S := fun W bn => Below XD2.heap.size XD2 W ∧ (SpBox W bn 0 0 ∧ XD2.heap.size ≤ bn))
    intro k2_30
    apply mergeW (S := fun W => Below XD2.heap.size XD2 W)
    intro k2_3n
    apply mergeWN (S := fun W bn => Below XD2.heap.size XD2 W ∧ (SpBox W bn 0 0 ∧ XD2.heap.size ≤ bn))
    intro k2_20
    apply mergeW (S := fun W => Below XD2.heap.size XD2 W)
    intro k2_2n
    apply mergeWN (S := fun W bn => Below XD2.heap.size XD2 W ∧ (SpBox W bn 0 0 ∧ XD2.heap.size ≤ bn))
    intro k2_10
    apply mergeW (S := fun W => Below XD2.heap.size XD2 W)
    intro k2_1n
    apply mergeWN (S := fun W bn => Below XD2.heap.size XD2 W ∧ (SpBox W bn 0 0 ∧ XD2.heap.size ≤ bn))
    intro k2_00
    · have hf := hf
      refine gS (i := 1) (j := 5) (by kernel_rfl) ?_ ?_
      · skip
        refine wpOp_hand (oi := ?oi187) ?hi187 (fun K hK => ?hh187)
        case hi187 => (simp only [gA, gB, gC]; rfl)
        go_simp
        refine Calls.mono (SQ1.out _) ?_
        rintro e Va2_1 ⟨rfl, hb⟩
        replace hf := hf.trans (hb.mono hf.size)
        clear hb
        refine hK.out _ _ (heldC_one (fun _ => hf)) (fun hF => ?_)
        clear hK K
        try simp only [Act.put, uA, uB, uC]
        refine wpG_marks (l' := #[true, true, true, false, false, false, false]) (by kernel_rfl) ?_
        with_reducible exact k2_1n Va2_1 hf
      · skip
        refine wpOp_hand (oi := ?oi188) ?hi188 (fun K hK => ?hh188)
        case hi188 => (simp only [gA, gB, gC]; rfl)
        go_simp
        have hn := SpBox.new XD2 0 0
        have hfn := hf.alloc hf.size (.cells #[.int .i64 0, .int .i64 0] 28)
        obtain ⟨bn, hbn⟩ : ∃ b, b = XD2.heap.size := ⟨_, rfl⟩
        obtain ⟨Y, hY⟩ : ∃ Y, Y = XD2.alloc (.cells #[.int .i64 0, .int .i64 0] 28) := ⟨_, rfl⟩
        rw [← hY] at hfn hn ⊢
        have dn : XD2.heap.size ≤ bn := by rw [hbn]; exact hf.size
        rw [← hbn] at hn ⊢
        clear hf hY hbn
        have hf := hfn
        clear hfn
        refine hK.out _ _ (heldC_one (fun _ => hf)) (fun hF => ?_)
        clear hK K
        try simp only [Act.put, uA, uB, uC]
        refine wpG_marks (l' := #[true, false, true, false, false, true, false]) (by kernel_rfl) ?_
        with_reducible exact k2_00 Y bn ⟨hf, ⟨hn, dn⟩⟩
    · rintro W bn ⟨hf, ⟨hn, dn⟩⟩
      refine gR (i := 1) (by kernel_rfl) ?_
      refine wpOp_hand (oi := ?oi189) ?hi189 (fun K hK => ?hh189)
      case hi189 => (simp only [gA, gB, gC]; rfl)
      go_simp
      refine Calls.mono (SQ1.out _) ?_
      rintro e Va2_2 ⟨rfl, hb⟩
      have hnn := hn.below hb; clear hn; have hn := hnn; clear hnn
      replace hf := hf.trans (hb.mono hf.size)
      clear hb
      refine hK.out _ _ (heldC_one (fun _ => hf)) (fun hF => ?_)
      clear hK K
      try simp only [Act.put, uA, uB, uC]
      refine wpG_marks (l' := #[true, true, true, false, false, true, false]) (by kernel_rfl) ?_
      with_reducible exact k2_10 Va2_2 bn ⟨hf, ⟨hn, dn⟩⟩
    · rintro W hf
      refine gS (i := 3) (j := 5) (by kernel_rfl) ?_ ?_
      · skip
        refine wpOp_hand (oi := ?oi190) ?hi190 (fun K hK => ?hh190)
        case hi190 => (simp only [gA, gB, gC]; rfl)
        go_simp
        refine Calls.mono (SQ2.out _) ?_
        rintro e Va2_3 ⟨rfl, hb⟩
        replace hf := hf.trans (hb.mono hf.size)
        clear hb
        refine hK.out _ _ (heldC_one (fun _ => hf)) (fun hF => ?_)
        clear hK K
        try simp only [Act.put, uA, uB, uC]
        refine wpG_marks (l' := #[true, true, true, true, false, false, false]) (by kernel_rfl) ?_
        with_reducible exact k2_2n Va2_3 hf
      · skip
        refine wpOp_hand (oi := ?oi191) ?hi191 (fun K hK => ?hh191)
        case hi191 => (simp only [gA, gB, gC]; rfl)
        go_simp
        have hn := SpBox.new W 0 0
        have hfn := hf.alloc hf.size (.cells #[.int .i64 0, .int .i64 0] 28)
        obtain ⟨bn, hbn⟩ : ∃ b, b = W.heap.size := ⟨_, rfl⟩
        obtain ⟨Y, hY⟩ : ∃ Y, Y = W.alloc (.cells #[.int .i64 0, .int .i64 0] 28) := ⟨_, rfl⟩
        rw [← hY] at hfn hn ⊢
        have dn : XD2.heap.size ≤ bn := by rw [hbn]; exact hf.size
        rw [← hbn] at hn ⊢
        clear hf hY hbn
        have hf := hfn
        clear hfn
        refine hK.out _ _ (heldC_one (fun _ => hf)) (fun hF => ?_)
        clear hK K
        try simp only [Act.put, uA, uB, uC]
        refine wpG_marks (l' := #[true, true, true, false, false, true, false]) (by kernel_rfl) ?_
        with_reducible exact k2_10 Y bn ⟨hf, ⟨hn, dn⟩⟩
    · rintro W bn ⟨hf, ⟨hn, dn⟩⟩
      refine gR (i := 3) (by kernel_rfl) ?_
      refine wpOp_hand (oi := ?oi192) ?hi192 (fun K hK => ?hh192)
      case hi192 => (simp only [gA, gB, gC]; rfl)
      go_simp
      refine Calls.mono (SQ2.out _) ?_
      rintro e Va2_4 ⟨rfl, hb⟩
      have hnn := hn.below hb; clear hn; have hn := hnn; clear hnn
      replace hf := hf.trans (hb.mono hf.size)
      clear hb
      refine hK.out _ _ (heldC_one (fun _ => hf)) (fun hF => ?_)
      clear hK K
      try simp only [Act.put, uA, uB, uC]
      refine wpG_marks (l' := #[true, true, true, true, false, true, false]) (by kernel_rfl) ?_
      with_reducible exact k2_20 Va2_4 bn ⟨hf, ⟨hn, dn⟩⟩
    · rintro W hf
      refine gS (i := 4) (j := 5) (by kernel_rfl) ?_ ?_
      · skip
        refine wpOp_hand (oi := ?oi193) ?hi193 (fun K hK => ?hh193)
        case hi193 => (simp only [gA, gB, gC]; rfl)
        go_simp
        refine Calls.mono (PL.out _) ?_
        rintro e Va2_5 ⟨rfl, hb⟩
        replace hf := hf.trans (hb.mono hf.size)
        clear hb
        refine hK.out _ _ (heldC_one (fun _ => hf)) (fun hF => ?_)
        clear hK K
        try simp only [Act.put, uA, uB, uC]
        refine wpG_marks (l' := #[true, true, true, true, true, false, false]) (by kernel_rfl) ?_
        with_reducible exact k2_3n Va2_5 hf
      · skip
        refine wpOp_hand (oi := ?oi194) ?hi194 (fun K hK => ?hh194)
        case hi194 => (simp only [gA, gB, gC]; rfl)
        go_simp
        have hn := SpBox.new W 0 0
        have hfn := hf.alloc hf.size (.cells #[.int .i64 0, .int .i64 0] 28)
        obtain ⟨bn, hbn⟩ : ∃ b, b = W.heap.size := ⟨_, rfl⟩
        obtain ⟨Y, hY⟩ : ∃ Y, Y = W.alloc (.cells #[.int .i64 0, .int .i64 0] 28) := ⟨_, rfl⟩
        rw [← hY] at hfn hn ⊢
        have dn : XD2.heap.size ≤ bn := by rw [hbn]; exact hf.size
        rw [← hbn] at hn ⊢
        clear hf hY hbn
        have hf := hfn
        clear hfn
        refine hK.out _ _ (heldC_one (fun _ => hf)) (fun hF => ?_)
        clear hK K
        try simp only [Act.put, uA, uB, uC]
        refine wpG_marks (l' := #[true, true, true, true, false, true, false]) (by kernel_rfl) ?_
        with_reducible exact k2_20 Y bn ⟨hf, ⟨hn, dn⟩⟩
    · rintro W bn ⟨hf, ⟨hn, dn⟩⟩
      refine gR (i := 4) (by kernel_rfl) ?_
      refine wpOp_hand (oi := ?oi195) ?hi195 (fun K hK => ?hh195)
      case hi195 => (simp only [gA, gB, gC]; rfl)
      go_simp
      refine Calls.mono (PL.out _) ?_
      rintro e Va2_6 ⟨rfl, hb⟩
      have hnn := hn.below hb; clear hn; have hn := hnn; clear hnn
      replace hf := hf.trans (hb.mono hf.size)
      clear hb
      refine hK.out _ _ (heldC_one (fun _ => hf)) (fun hF => ?_)
      clear hK K
      try simp only [Act.put, uA, uB, uC]
      refine wpG_marks (l' := #[true, true, true, true, true, true, false]) (by kernel_rfl) ?_
      with_reducible exact k2_30 Va2_6 bn ⟨hf, ⟨hn, dn⟩⟩
    · rintro W hf
      refine gR (i := 5) (by kernel_rfl) ?_
      refine wpOp_hand (oi := ?oi196) ?hi196 (fun K hK => ?hh196)
      case hi196 => (simp only [gA, gB, gC]; rfl)
      go_simp
      have hn := SpBox.new W 0 0
      have hfn := hf.alloc hf.size (.cells #[.int .i64 0, .int .i64 0] 28)
      obtain ⟨bn, hbn⟩ : ∃ b, b = W.heap.size := ⟨_, rfl⟩
      obtain ⟨Y, hY⟩ : ∃ Y, Y = W.alloc (.cells #[.int .i64 0, .int .i64 0] 28) := ⟨_, rfl⟩
      rw [← hY] at hfn hn ⊢
      have dn : XD2.heap.size ≤ bn := by rw [hbn]; exact hf.size
      rw [← hbn] at hn ⊢
      clear hf hY hbn
      have hf := hfn
      clear hfn
      refine hK.out _ _ (heldC_one (fun _ => hf)) (fun hF => ?_)
      clear hK K
      try simp only [Act.put, uA, uB, uC]
      refine wpG_marks (l' := #[true, true, true, true, true, true, false]) (by kernel_rfl) ?_
      with_reducible exact k2_30 Y bn ⟨hf, ⟨hn, dn⟩⟩
    · rintro W bn ⟨hf, ⟨hn, dn⟩⟩
      refine gR (i := 6) (by kernel_rfl) ?_
      have zz0 := hn.c0; have zz0f := hn.free 0; have zz1 := hn.c1; have zz1f := hn.free 1; have zzl := hn.lt
      refine wpOp_hand (oi := ?oi197) ?hi197 (fun K hK => ?hh197)
      case hi197 => (simp only [gA, gB, gC]; rfl)
      go_simp
      have hnn := hn.set (m1) (m2)
      clear zz0 zz0f zz1 zz1f zzl hn
      have hn := hnn; clear hnn
      replace hf := (hf.setCell (p := ⟨bn, 0, none⟩) dn (.int .i64 (m1))).setCell (p := ⟨bn, 1, none⟩) dn (.int .i64 (m2))
      refine hK.out _ _ (heldC_one (fun h => absurd h (by simp))) (fun hF => ?_)
      clear hK K
      try simp only [Act.put, uA, uB, uC]
      refine wpG_done (by kernel_rfl) ?_ _
      go_wp2_with fail
      go_meet
      exact ⟨bn, rfl, Lib.hid (Nat.le_trans hbW.out.size dn), Lib.hid hn, Lib.hid (hbx1.out.below hf), Lib.hid (hbx2.out.below hf), Lib.hid (hbx3.out.below hf), Lib.hid (Nat.lt_of_lt_of_le hbx1.out.lt dn), Lib.hid (Nat.lt_of_lt_of_le hbx2.out.lt dn), Lib.hid (Nat.lt_of_lt_of_le hbx3.out.lt dn), Lib.hid (hbW.out.trans (hf.mono hbW.out.size))⟩
  case rest =>
  obtain ⟨k4, rfl, Hkl4, s4, s1, s2, s3, Hd4_1, Hd4_2, Hd4_3, HB⟩ := hcut
  obtain ⟨X4, hX4⟩ : ∃ X, X = wc := ⟨_, rfl⟩
  subst hX4
  clear HXD2 hf hbW hbx1 hbx2 hbx3
  clear SQ1 SQ2 PL
  have sc4_0 := s4.out.c0; have sc4_1 := s4.out.c1; have sc4_l := s4.out.lt
  have y0 := s1.out.c0; have f0 := s1.out.free 0; have y1 := s1.out.c1; have f1 := s1.out.free 1; have y2 := s1.out.c2; have f2 := s1.out.free 2; have y3 := s1.out.c3; have f3 := s1.out.free 3; have y4 := s1.out.c4; have f4 := s1.out.free 4; have yl := s1.out.lt; have ky := Hkl1.out
  go_wp2_with fail
  refine bodyPost_ret (v := .tuple #[.agg #[.int .i64 0, .int .i64 0, .int .i64 0, .int .i64 0, .int .i64 0], .int .i64 11]) ?_ rfl ⟨rfl, ?_⟩
  · simp [results, Tryz.results22, go_sem, *]
  · refine Below.setCell (Below.setCell (Below.setCell (Below.setCell (Below.setCell (HB.out) ?_ _) ?_ _) ?_ _) ?_ _) ?_ _
    all_goals (first | (simp only [World.size_setCell]; omega) | (dsimp only; omega))
set_option maxRecDepth 100000 in
set_option maxHeartbeats 32000000 in
theorem ceIn_ok (t : Int) (w : World) (hT : SinT w) (ti : instOk t = true) (h : ¬ ceFar t) (h2 : ¬ 1000000000 < smLo t) (h3 : ¬ 1000000000 < smHi t) : Calls Tryz.prog 22 #[.int .i64 t] w fun e w' => e = .returned (paV (ceF t)) ∧ Below w.heap.size w w' := by
  have n := ce_near h
  obtain ⟨z1, z2, z3, z4⟩ := id n
  have B := ce_bd h3
  have IN := Lib.hid (fun w => ti ▸ isInst_ok t w (by have := inst_range ti; omega) (by have := inst_range ti; omega))
  have OF := Lib.hid (fun W (hT : SinT W) => paOff_ok t W hT ti)
  have HT := Lib.hid hT
  have xb := ox_bd t; have yb := oy_bd t
  have SQ1 := Lib.hid (fun W => paSquare_ok (oxLo t) (oxHi t) W (big_of (M := 2018000000) (N := 2018000000) (by omega) (by omega) (by omega) (by omega) (by decide)) (by omega) (by omega))
  have SQ2 := Lib.hid (fun W => paSquare_ok (oyLo t) (oyHi t) W (big_of (M := 2018000000) (N := 2018000000) (by omega) (by omega) (by omega) (by omega) (by decide)) (by omega) (by omega))
  have ux := sqr_up (a := oxLo t) (b := oxHi t) (by omega) (by omega) (by omega); have uy := sqr_up (a := oyLo t) (b := oyHi t) (by omega) (by omega) (by omega)
  have bx := sqr_bd xb.1; have by' := sqr_bd yb.1
  have PL := Lib.hid (fun W => tPlus_ok (sqrLo (oxLo t) (oxHi t)) (sqrHi (oxLo t) (oxHi t)) (sqrLo (oyLo t) (oyHi t)) (sqrHi (oyLo t) (oyHi t)) W (by omega) (by omega))
  rw [show sqrLo (oxLo t) (oxHi t) + sqrLo (oyLo t) (oyHi t) = smLo t from rfl, show sqrHi (oxLo t) (oxHi t) + sqrHi (oyLo t) (oyHi t) = smHi t from rfl] at PL
  clear xb yb ux uy bx by'
  have I := B.i
  have e1 : wrap64 (1000000000 - smHi t) = 1000000000 - smHi t := IntWalk.wrap64_in _ (by have := I.s0; have := I.s1; have := I.s2; omega)
  have e2 : wrap64 (1000000000 - smLo t) = 1000000000 - smLo t := IntWalk.wrap64_in _ (by have := I.s0; have := I.s1; have := I.s2; omega)
  have RT := Lib.hid (fun W => paRoot_ok (1000000000 - smHi t) (1000000000 - smLo t) (zzLo t) (zzHi t) W B.root)
  have ib : 0 ≤ slLo t ∧ slLo t < 1000000000 ∧ slLo t ≤ slHi t ∧ slHi t ≤ 130000000000 := an_bd sun_in
  have SL := Lib.hid (fun W (hT : SinT W) => sunLong_ok t W hT ti)
  have SO := Lib.hid (fun W (hT : SinT W) => SinOver_ok (slLo t) (slHi t) W hT ⟨by omega, by omega, by omega⟩)
  have CO := Lib.hid (fun W (hT : SinT W) => CosOver_ok (slLo t) (slHi t) W hT ⟨by omega, by omega, by omega⟩)
  rw [show soLo (slLo t) (slHi t) = sS1 t from rfl, show soHi (slLo t) (slHi t) = sS2 t from rfl] at SO
  rw [show coLo (slLo t) (slHi t) = sC1 t from rfl, show coHi (slLo t) (slHi t) = sC2 t from rfl] at CO
  have TI := Lib.hid (fun W (hT : SinT W) => Tilt_ok W hT)
  have zt : -1000000000 ≤ zzLo t ∧ zzLo t ≤ zzHi t ∧ zzHi t ≤ 1000000000 := ⟨by have := B.z0; omega, B.z1, B.z2⟩
  have xt : -1000000000 ≤ oxLo t ∧ oxLo t ≤ oxHi t ∧ oxHi t ≤ 1000000000 := ⟨I.x1, (ox_bd t).1, I.x2⟩
  have yt : -1000000000 ≤ oyLo t ∧ oyLo t ≤ oyHi t ∧ oyHi t ≤ 1000000000 := ⟨I.y1, (oy_bd t).1, I.y2⟩
  have st : -1000000000 ≤ sS1 t ∧ sS1 t ≤ sS2 t ∧ sS2 t ≤ 1000000000 := so_tms _ _
  have ct : -1000000000 ≤ sC1 t ∧ sC1 t ≤ sC2 t ∧ sC2 t ≤ 1000000000 := co_tms _ _
  have se := s_tms 65109000; have ce := c_tms 65109000
  have vt := B.v; have f1 := B.f1; have f2 := B.f2; have f3 := B.f3
  have T1 := Lib.hid (fun W => Times_ok (zzLo t) (zzHi t) (sS1 t) (sS2 t) W (tms_of zt st).mul (by omega) (by omega) (by omega) (by omega))
  have T2 := Lib.hid (fun W => Times_ok (oxLo t) (oxHi t) (sC1 t) (sC2 t) W (tms_of xt ct).mul (by omega) (by omega) (by omega) (by omega))
  have T3 := Lib.hid (fun W => Times_ok (zzLo t) (zzHi t) (sC1 t) (sC2 t) W (tms_of zt ct).mul (by omega) (by omega) (by omega) (by omega))
  have T4 := Lib.hid (fun W => Times_ok (oxLo t) (oxHi t) (sS1 t) (sS2 t) W (tms_of xt st).mul (by omega) (by omega) (by omega) (by omega))
  have T5 := Lib.hid (fun W => Times_big (vvLo t) (vvHi t) (cLo 65109000) (cHi 65109000) W (big_of (M := 2000000000) (N := 1000000000) (by omega) (by omega) (by omega) (by omega) (by decide)) (by omega) (by omega) (by omega) (by omega))
  have T6 := Lib.hid (fun W => Times_ok (oyLo t) (oyHi t) (sLo 65109000) (sHi 65109000) W (tms_of yt se).mul (by omega) (by omega) (by omega) (by omega))
  have T7 := Lib.hid (fun W => Times_big (vvLo t) (vvHi t) (sLo 65109000) (sHi 65109000) W (big_of (M := 2000000000) (N := 1000000000) (by omega) (by omega) (by omega) (by omega) (by decide)) (by omega) (by omega) (by omega) (by omega))
  have T8 := Lib.hid (fun W => Times_ok (oyLo t) (oyHi t) (cLo 65109000) (cHi 65109000) W (tms_of yt ce).mul (by omega) (by omega) (by omega) (by omega))
  have b1 := tm_tms (tms_of zt st)
  have b2 := tm_tms (tms_of xt ct)
  have b3 := tm_tms (tms_of zt ct)
  have b4 := tm_tms (tms_of xt st)
  have b5 := tm_two vt.1 vt.2.1 vt.2.2 ce.1 ce.2.1 ce.2.2; have b7 := tm_two vt.1 vt.2.1 vt.2.2 se.1 se.2.1 se.2.2; have b6 := tm_tms (tms_of yt se); have b8 := tm_tms (tms_of yt ce)
  have P1 := Lib.hid (fun W => tPlus_ok (tmLo (zzLo t) (zzHi t) (sS1 t) (sS2 t)) (tmHi (zzLo t) (zzHi t) (sS1 t) (sS2 t)) (tmLo (oxLo t) (oxHi t) (sC1 t) (sC2 t)) (tmHi (oxLo t) (oxHi t) (sC1 t) (sC2 t)) W (by omega) (by omega))
  rw [show tmLo (zzLo t) (zzHi t) (sS1 t) (sS2 t) + tmLo (oxLo t) (oxHi t) (sC1 t) (sC2 t) = vvLo t from rfl, show tmHi (zzLo t) (zzHi t) (sS1 t) (sS2 t) + tmHi (oxLo t) (oxHi t) (sC1 t) (sC2 t) = vvHi t from rfl] at P1
  have P2 := Lib.hid (fun W => tMinus_ok (tmLo (zzLo t) (zzHi t) (sC1 t) (sC2 t)) (tmHi (zzLo t) (zzHi t) (sC1 t) (sC2 t)) (tmLo (oxLo t) (oxHi t) (sS1 t) (sS2 t)) (tmHi (oxLo t) (oxHi t) (sS1 t) (sS2 t)) W (by omega) (by omega))
  rw [show tmLo (zzLo t) (zzHi t) (sC1 t) (sC2 t) - tmHi (oxLo t) (oxHi t) (sS1 t) (sS2 t) = c1Lo t from rfl, show tmHi (zzLo t) (zzHi t) (sC1 t) (sC2 t) - tmLo (oxLo t) (oxHi t) (sS1 t) (sS2 t) = c1Hi t from rfl] at P2
  have P3 := Lib.hid (fun W => tMinus_ok (tmLo (vvLo t) (vvHi t) (cLo 65109000) (cHi 65109000)) (tmHi (vvLo t) (vvHi t) (cLo 65109000) (cHi 65109000)) (tmLo (oyLo t) (oyHi t) (sLo 65109000) (sHi 65109000)) (tmHi (oyLo t) (oyHi t) (sLo 65109000) (sHi 65109000)) W (by omega) (by omega))
  rw [show tmLo (vvLo t) (vvHi t) (cLo 65109000) (cHi 65109000) - tmHi (oyLo t) (oyHi t) (sLo 65109000) (sHi 65109000) = c2Lo t from rfl, show tmHi (vvLo t) (vvHi t) (cLo 65109000) (cHi 65109000) - tmLo (oyLo t) (oyHi t) (sLo 65109000) (sHi 65109000) = c2Hi t from rfl] at P3
  have P4 := Lib.hid (fun W => tPlus_ok (tmLo (vvLo t) (vvHi t) (sLo 65109000) (sHi 65109000)) (tmHi (vvLo t) (vvHi t) (sLo 65109000) (sHi 65109000)) (tmLo (oyLo t) (oyHi t) (cLo 65109000) (cHi 65109000)) (tmHi (oyLo t) (oyHi t) (cLo 65109000) (cHi 65109000)) W (by omega) (by omega))
  rw [show tmLo (vvLo t) (vvHi t) (sLo 65109000) (sHi 65109000) + tmLo (oyLo t) (oyHi t) (cLo 65109000) (cHi 65109000) = c3Lo t from rfl, show tmHi (vvLo t) (vvHi t) (sLo 65109000) (sHi 65109000) + tmHi (oyLo t) (oyHi t) (cLo 65109000) (cHi 65109000) = c3Hi t from rfl] at P4
  have AS := Lib.hid (fun W => ArcSin_ok (c3Lo t) (c3Hi t) W ⟨by omega, by omega, by omega⟩)
  have SD := Lib.hid (fun W => Sidereal_ok 0 0 t W ⟨by omega, by omega, by omega, by omega⟩ ti)
  have sdb := sd_bd 0 t
  have AR : Hid ((ceNo t ∨ 400000000 < caHi t - caLo t → ceF t = paE 11 ∧ ∀ W, Calls Tryz.prog 59 #[.agg #[.int .i64 (c2Lo t), .int .i64 (c2Hi t)], .agg #[.int .i64 (c1Lo t), .int .i64 (c1Hi t)]] W fun e w' => e = .returned (.tuple #[.agg #[.int .i64 0, .int .i64 0], .int .i64 11]) ∧ Below W.heap.size W w')
      ∧ (¬ (ceNo t ∨ 400000000 < caHi t - caLo t) → (0 ≤ cR1 t ∧ cR1 t < 1000000000 ∧ cR1 t ≤ cR2 t + 400000001 ∧ cR2 t ≤ 1400000000) ∧ ceF t = ⟨t, lsLo (cR1 t) (cR2 t) (sdLo 0 t) (sdHi 0 t), lsHi (cR1 t) (cR2 t) (sdLo 0 t) (sdHi 0 t), asLo (clT (c3Lo t)), asHi (clT (c3Hi t)), 0⟩ ∧ ∀ W, Calls Tryz.prog 59 #[.agg #[.int .i64 (c2Lo t), .int .i64 (c2Hi t)], .agg #[.int .i64 (c1Lo t), .int .i64 (c1Hi t)]] W fun e w' => e = .returned (.tuple #[.agg #[.int .i64 (cR1 t), .int .i64 (cR2 t)], .int .i64 0]) ∧ Below W.heap.size W w')) := by
    refine Lib.hid ⟨fun a => ?_, fun a => ?_⟩
    · by_cases no : ceNo t
      · refine ⟨by unfold ceF; rw [if_neg h, if_neg h2, if_neg h3, if_pos no], fun W => ?_⟩
        obtain ⟨n1, n2, n3, n4⟩ := no
        exact Arc_open _ _ _ _ ⟨by omega, by omega, by omega⟩ ⟨by omega, by omega, by omega⟩ n1 n2 n3 n4 W
      · have wd : 400000000 < caHi t - caLo t := by rcases a with a | a <;> first | exact absurd a no | exact a
        refine ⟨by unfold ceF; rw [if_neg h, if_neg h2, if_neg h3, if_neg no, if_pos wd], fun W => ?_⟩
        have A := Arc_ok _ _ _ _ (ce_arc h3 no) W
        unfold arcOut at A
        rw [if_pos (show 400000000 < arcHi (c2Lo t) (c2Hi t) (c1Lo t) (c1Hi t) - arcLo (c2Lo t) (c2Hi t) (c1Lo t) (c1Hi t) from wd)] at A
        exact A
    · have no : ¬ ceNo t := fun x => a (.inl x)
      have wd : ¬ 400000000 < caHi t - caLo t := fun x => a (.inr x)
      refine ⟨?_, by unfold ceF; rw [if_neg h, if_neg h2, if_neg h3, if_neg no, if_neg wd], fun W => ?_⟩
      · have ao := arc_order (ce_arc h3 no)
        have ao' : caLo t ≤ caHi t := ao
        unfold cR1 cR2
        generalize caLo t = u1 at *
        generalize caHi t = u2 at *
        clear ao
        omega
      · have A := Arc_ok _ _ _ _ (ce_arc h3 no) W
        unfold arcOut at A
        rw [if_neg (show ¬ 400000000 < arcHi (c2Lo t) (c2Hi t) (c1Lo t) (c1Hi t) - arcLo (c2Lo t) (c2Hi t) (c1Lo t) (c1Hi t) from wd)] at A
        exact A
  have LE := Lib.hid (fun W (r : 0 ≤ cR1 t ∧ cR1 t < 1000000000 ∧ cR1 t ≤ cR2 t + 400000001 ∧ cR2 t ≤ 1400000000) => less_ok (cR1 t) (cR2 t) (sdLo 0 t) (sdHi 0 t) W (by omega) (by omega))
  have bad := Classical.em (ceNo t ∨ 400000000 < caHi t - caLo t)
  generalize (ceNo t ∨ 400000000 < caHi t - caLo t) = BAD at *
  clear n B I ib zt xt yt st ct se ce vt f1 f2 f3 b1 b2 b3 b4 b5 b6 b7 b8 sdb h hT ti
  generalize ceF t = R at *
  generalize lsLo (cR1 t) (cR2 t) (sdLo 0 t) (sdHi 0 t) = g1 at *
  generalize lsHi (cR1 t) (cR2 t) (sdLo 0 t) (sdHi 0 t) = g2 at *
  generalize asLo (clT (c3Lo t)) = g3 at *
  generalize asHi (clT (c3Hi t)) = g4 at *
  generalize tmLo (zzLo t) (zzHi t) (sS1 t) (sS2 t) = a1 at *
  generalize tmHi (zzLo t) (zzHi t) (sS1 t) (sS2 t) = d1 at *
  generalize tmLo (oxLo t) (oxHi t) (sC1 t) (sC2 t) = a2 at *
  generalize tmHi (oxLo t) (oxHi t) (sC1 t) (sC2 t) = d2 at *
  generalize tmLo (zzLo t) (zzHi t) (sC1 t) (sC2 t) = a3 at *
  generalize tmHi (zzLo t) (zzHi t) (sC1 t) (sC2 t) = d3 at *
  generalize tmLo (oxLo t) (oxHi t) (sS1 t) (sS2 t) = a4 at *
  generalize tmHi (oxLo t) (oxHi t) (sS1 t) (sS2 t) = d4 at *
  generalize tmLo (vvLo t) (vvHi t) (cLo 65109000) (cHi 65109000) = a5 at *
  generalize tmHi (vvLo t) (vvHi t) (cLo 65109000) (cHi 65109000) = d5 at *
  generalize tmLo (oyLo t) (oyHi t) (sLo 65109000) (sHi 65109000) = a6 at *
  generalize tmHi (oyLo t) (oyHi t) (sLo 65109000) (sHi 65109000) = d6 at *
  generalize tmLo (vvLo t) (vvHi t) (sLo 65109000) (sHi 65109000) = a7 at *
  generalize tmHi (vvLo t) (vvHi t) (sLo 65109000) (sHi 65109000) = d7 at *
  generalize tmLo (oyLo t) (oyHi t) (cLo 65109000) (cHi 65109000) = a8 at *
  generalize tmHi (oyLo t) (oyHi t) (cLo 65109000) (cHi 65109000) = d8 at *
  generalize cR1 t = r1 at *
  generalize cR2 t = r2 at *
  generalize c1Lo t = i1 at *
  generalize c1Hi t = i2 at *
  generalize c2Lo t = j1 at *
  generalize c2Hi t = j2 at *
  generalize c3Lo t = o1 at *
  generalize c3Hi t = o2 at *
  generalize vvLo t = v1 at *
  generalize vvHi t = v2 at *
  generalize zzLo t = n1 at *
  generalize zzHi t = n2 at *
  generalize sS1 t = ss1 at *
  generalize sS2 t = ss2 at *
  generalize sC1 t = sc1 at *
  generalize sC2 t = sc2 at *
  generalize slLo t = sl1 at *
  generalize slHi t = sl2 at *
  generalize sdLo 0 t = sd1 at *
  generalize sdHi 0 t = sd2 at *
  generalize sLo 65109000 = se1 at *
  generalize sHi 65109000 = se2 at *
  generalize cLo 65109000 = ce1 at *
  generalize cHi 65109000 = ce2 at *
  generalize sqrLo (oxLo t) (oxHi t) = q1 at *
  generalize sqrHi (oxLo t) (oxHi t) = q2 at *
  generalize sqrLo (oyLo t) (oyHi t) = q3 at *
  generalize sqrHi (oyLo t) (oyHi t) = q4 at *
  generalize oxLo t = x1 at *
  generalize oxHi t = x2 at *
  generalize oyLo t = y1 at *
  generalize oyHi t = y2 at *
  generalize smLo t = m1 at *
  generalize smHi t = m2 at *
  have S1 := PtBox.new w (.int .i64 0) (.int .i64 0) (.int .i64 0) (.int .i64 0) (.int .i64 0)
  have HB0 := (Below.refl w.heap.size w).alloc (Nat.le_refl _) (.cells #[.int .i64 0, .int .i64 0, .int .i64 0, .int .i64 0, .int .i64 0] 40)
  obtain ⟨k1, hk1⟩ : ∃ x, x = w.heap.size := ⟨_, rfl⟩
  rw [← hk1] at S1
  have Hkl1 := Lib.hid (Nat.le_of_eq hk1.symm)
  have HB := Lib.hid (Below.refl w.heap.size w)
  clear HB
  go_enter Tryz.func22, Tryz.ntmps22
  go_upto_region 1 with fail
  rw [← hk1]
  obtain ⟨X1, hX1⟩ : ∃ X, X = w.alloc (.cells #[.int .i64 0, .int .i64 0, .int .i64 0, .int .i64 0, .int .i64 0] 40) := ⟨_, rfl⟩
  rw [← hX1] at S1 HB0 ⊢
  have s1 := Lib.hid S1
  have HB := Lib.hid HB0
  clear hX1 hk1 S1 HB0
  go_wp2_with fail
  refine Calls.mono (IN.out _) ?_
  rintro e wc1 ⟨rfl, hb⟩
  replace s1 := Lib.hid (s1.out.below hb)
  replace HB := Lib.hid (HB.out.trans (hb.mono HB.out.size))
  clear hb
  go_wp2_with fail
  refine Calls.mono (OF.out _ (HT.out.below HB.out)) ?_
  rintro e wn2 ⟨rfl, hb⟩
  have Hd2_1 := Lib.hid (s1.out.below hb).lt
  replace s1 := Lib.hid (((s1.out.below hb).alloc (.cells #[.int .i64 (x1), .int .i64 (x2)] 28)).alloc (.cells #[.int .i64 (y1), .int .i64 (y2)] 28))
  have HB2 := HB.out.trans (hb.mono HB.out.size)
  clear hb
  have Hkl2 := Lib.hid HB2.size; have HBq := HB2.alloc HB2.size (.cells #[.int .i64 (x1), .int .i64 (x2)] 28); replace HB := Lib.hid (HBq.alloc HBq.size (.cells #[.int .i64 (y1), .int .i64 (y2)] 28)); clear HB2 HBq
  obtain ⟨k2, hk2⟩ : ∃ x, x = wn2.heap.size := ⟨_, rfl⟩
  have hk3 : (wn2.alloc (.cells #[.int .i64 (x1), .int .i64 (x2)] 28)).heap.size = k2 + 1 := by simp [hk2]
  have s2 := Lib.hid ((SpBox.new wn2 (x1) (x2)).alloc (.cells #[.int .i64 (y1), .int .i64 (y2)] 28))
  have s30 := SpBox.new (wn2.alloc (.cells #[.int .i64 (x1), .int .i64 (x2)] 28)) (y1) (y2)
  rw [hk3] at s30
  have s3 := Lib.hid s30; clear s30
  rw [← hk2] at s2 Hkl2 Hd2_1
  have Hkl3 := Lib.hid (Nat.le_trans Hkl2.out (Nat.le_succ k2))
  have Hd3_1 := Lib.hid (Nat.lt_trans Hd2_1.out (Nat.lt_succ_self k2))
  have Hd3_2 := Lib.hid (Nat.lt_succ_self k2)
  go_upto_region 4 with fail
  (try rw [hk3])
  rw [← hk2]
  obtain ⟨X3, hX3⟩ : ∃ X, X = (wn2.alloc (.cells #[.int .i64 (x1), .int .i64 (x2)] 28)).alloc (.cells #[.int .i64 (y1), .int .i64 (y2)] 28) := ⟨_, rfl⟩
  rw [← hX3] at s1 s2 s3 HB ⊢
  clear hk3 hk2 hX3
  have sc2_0 := s2.out.c0; have sc2_1 := s2.out.c1; have sc2_l := s2.out.lt
  have sc3_0 := s3.out.c0; have sc3_1 := s3.out.c1; have sc3_l := s3.out.lt
  go_upto_region 6 with fail
  clear sc2_0 sc2_1 sc2_l sc3_0 sc3_1 sc3_l
  clear z1 z2 z3 z4
  obtain ⟨XD3, hXD3⟩ : ∃ x, x = X3.drew := ⟨_, rfl⟩
  have hbx1 : Hid (PtBox XD3 (k1) (.int .i64 0) (.int .i64 0) (.int .i64 0) (.int .i64 0) (.int .i64 0)) := Lib.hid (by rw [hXD3]; exact s1.out.drew)
  have hbx2 : Hid (SpBox XD3 (k2) (x1) (x2)) := Lib.hid (by rw [hXD3]; exact s2.out.drew)
  have hbx3 : Hid (SpBox XD3 (k2 + 1) (y1) (y2)) := Lib.hid (by rw [hXD3]; exact s3.out.drew)
  have hbW : Hid (Below w.heap.size w XD3) := Lib.hid (by rw [hXD3]; exact HB.out.drew)
  have HXD3 := Lib.hid hXD3; clear hXD3 s1 s2 s3 HB
  have hf := Below.refl XD3.heap.size XD3
  go_cut [6] (fun sv wx => ∃ bn : Nat, sv = .pointer (some ⟨bn, 0, none⟩) ∧ Hid (w.heap.size ≤ bn) ∧ Hid (SpBox wx bn (m1) (m2)) ∧ Hid (PtBox wx (k1) (.int .i64 0) (.int .i64 0) (.int .i64 0) (.int .i64 0) (.int .i64 0)) ∧ Hid (SpBox wx (k2) (x1) (x2)) ∧ Hid (SpBox wx (k2 + 1) (y1) (y2)) ∧ Hid (k1 < bn) ∧ Hid (k2 < bn) ∧ Hid (k2 + 1 < bn) ∧ Hid (Below w.heap.size w wx))
  case first =>
    refine wp_region_G [(6, fun w' => Below XD3.heap.size XD3 w')] (by kernel_rfl) (heldC_one (fun _ => by rw [← HXD3.out]; exact hf)) (fun hF => ?_)
    rw [← HXD3.out] at hF ⊢
    refine gT (oi := ?o198) (v := ?v198) 0 ?i198 ?Q198 hF ?w198 ?y198 (by kernel_rfl) (fun hF => ?h198)
    case i198 => (simp only [gA, gB, gC]; rfl)
    case Q198 => exact fun _ _ _ h => h
    case w198 => rfl
    case y198 => (intro wz hz; have zb := hbx2.out.below hz; have z0 := zb.c0; have z1 := zb.c1; go_simp; try (with_reducible rfl))
    try simp only [Act.put, uA, uB, uC]
    refine gT (oi := ?o199) (v := ?v199) 2 ?i199 ?Q199 hF ?w199 ?y199 (by kernel_rfl) (fun hF => ?h199)
    case i199 => (simp only [gA, gB, gC]; rfl)
    case Q199 => exact fun _ _ _ h => h
    case w199 => rfl
    case y199 => (intro wz hz; have zb := hbx3.out.below hz; have z0 := zb.c0; have z1 := zb.c1; go_simp; try (with_reducible rfl))
    try simp only [Act.put, uA, uB, uC]
    apply mergeWN (S := fun W bn => Below XD3.heap.size XD3 W ∧ (SpBox W bn 0 0 ∧ XD3.heap.size ≤ bn))
    intro k3_30
    apply mergeW (S := fun W => Below XD3.heap.size XD3 W)
    intro k3_3n
    apply mergeWN (S := fun W bn => Below XD3.heap.size XD3 W ∧ (SpBox W bn 0 0 ∧ XD3.heap.size ≤ bn))
    intro k3_20
    apply mergeW (S := fun W => Below XD3.heap.size XD3 W)
    intro k3_2n
    apply mergeWN (S := fun W bn => Below XD3.heap.size XD3 W ∧ (SpBox W bn 0 0 ∧ XD3.heap.size ≤ bn))
    intro k3_10
    apply mergeW (S := fun W => Below XD3.heap.size XD3 W)
    intro k3_1n
    apply mergeWN (S := fun W bn => Below XD3.heap.size XD3 W ∧ (SpBox W bn 0 0 ∧ XD3.heap.size ≤ bn))
    intro k3_00
    · have hf := hf
      refine gS (i := 1) (j := 5) (by kernel_rfl) ?_ ?_
      · skip
        refine wpOp_hand (oi := ?oi200) ?hi200 (fun K hK => ?hh200)
        case hi200 => (simp only [gA, gB, gC]; rfl)
        go_simp
        refine Calls.mono (SQ1.out _) ?_
        rintro e Va3_1 ⟨rfl, hb⟩
        replace hf := hf.trans (hb.mono hf.size)
        clear hb
        refine hK.out _ _ (heldC_one (fun _ => hf)) (fun hF => ?_)
        clear hK K
        try simp only [Act.put, uA, uB, uC]
        refine wpG_marks (l' := #[true, true, true, false, false, false, false]) (by kernel_rfl) ?_
        with_reducible exact k3_1n Va3_1 hf
      · skip
        refine wpOp_hand (oi := ?oi201) ?hi201 (fun K hK => ?hh201)
        case hi201 => (simp only [gA, gB, gC]; rfl)
        go_simp
        have hn := SpBox.new XD3 0 0
        have hfn := hf.alloc hf.size (.cells #[.int .i64 0, .int .i64 0] 28)
        obtain ⟨bn, hbn⟩ : ∃ b, b = XD3.heap.size := ⟨_, rfl⟩
        obtain ⟨Y, hY⟩ : ∃ Y, Y = XD3.alloc (.cells #[.int .i64 0, .int .i64 0] 28) := ⟨_, rfl⟩
        rw [← hY] at hfn hn ⊢
        have dn : XD3.heap.size ≤ bn := by rw [hbn]; exact hf.size
        rw [← hbn] at hn ⊢
        clear hf hY hbn
        have hf := hfn
        clear hfn
        refine hK.out _ _ (heldC_one (fun _ => hf)) (fun hF => ?_)
        clear hK K
        try simp only [Act.put, uA, uB, uC]
        refine wpG_marks (l' := #[true, false, true, false, false, true, false]) (by kernel_rfl) ?_
        with_reducible exact k3_00 Y bn ⟨hf, ⟨hn, dn⟩⟩
    · rintro W bn ⟨hf, ⟨hn, dn⟩⟩
      refine gR (i := 1) (by kernel_rfl) ?_
      refine wpOp_hand (oi := ?oi202) ?hi202 (fun K hK => ?hh202)
      case hi202 => (simp only [gA, gB, gC]; rfl)
      go_simp
      refine Calls.mono (SQ1.out _) ?_
      rintro e Va3_2 ⟨rfl, hb⟩
      have hnn := hn.below hb; clear hn; have hn := hnn; clear hnn
      replace hf := hf.trans (hb.mono hf.size)
      clear hb
      refine hK.out _ _ (heldC_one (fun _ => hf)) (fun hF => ?_)
      clear hK K
      try simp only [Act.put, uA, uB, uC]
      refine wpG_marks (l' := #[true, true, true, false, false, true, false]) (by kernel_rfl) ?_
      with_reducible exact k3_10 Va3_2 bn ⟨hf, ⟨hn, dn⟩⟩
    · rintro W hf
      refine gS (i := 3) (j := 5) (by kernel_rfl) ?_ ?_
      · skip
        refine wpOp_hand (oi := ?oi203) ?hi203 (fun K hK => ?hh203)
        case hi203 => (simp only [gA, gB, gC]; rfl)
        go_simp
        refine Calls.mono (SQ2.out _) ?_
        rintro e Va3_3 ⟨rfl, hb⟩
        replace hf := hf.trans (hb.mono hf.size)
        clear hb
        refine hK.out _ _ (heldC_one (fun _ => hf)) (fun hF => ?_)
        clear hK K
        try simp only [Act.put, uA, uB, uC]
        refine wpG_marks (l' := #[true, true, true, true, false, false, false]) (by kernel_rfl) ?_
        with_reducible exact k3_2n Va3_3 hf
      · skip
        refine wpOp_hand (oi := ?oi204) ?hi204 (fun K hK => ?hh204)
        case hi204 => (simp only [gA, gB, gC]; rfl)
        go_simp
        have hn := SpBox.new W 0 0
        have hfn := hf.alloc hf.size (.cells #[.int .i64 0, .int .i64 0] 28)
        obtain ⟨bn, hbn⟩ : ∃ b, b = W.heap.size := ⟨_, rfl⟩
        obtain ⟨Y, hY⟩ : ∃ Y, Y = W.alloc (.cells #[.int .i64 0, .int .i64 0] 28) := ⟨_, rfl⟩
        rw [← hY] at hfn hn ⊢
        have dn : XD3.heap.size ≤ bn := by rw [hbn]; exact hf.size
        rw [← hbn] at hn ⊢
        clear hf hY hbn
        have hf := hfn
        clear hfn
        refine hK.out _ _ (heldC_one (fun _ => hf)) (fun hF => ?_)
        clear hK K
        try simp only [Act.put, uA, uB, uC]
        refine wpG_marks (l' := #[true, true, true, false, false, true, false]) (by kernel_rfl) ?_
        with_reducible exact k3_10 Y bn ⟨hf, ⟨hn, dn⟩⟩
    · rintro W bn ⟨hf, ⟨hn, dn⟩⟩
      refine gR (i := 3) (by kernel_rfl) ?_
      refine wpOp_hand (oi := ?oi205) ?hi205 (fun K hK => ?hh205)
      case hi205 => (simp only [gA, gB, gC]; rfl)
      go_simp
      refine Calls.mono (SQ2.out _) ?_
      rintro e Va3_4 ⟨rfl, hb⟩
      have hnn := hn.below hb; clear hn; have hn := hnn; clear hnn
      replace hf := hf.trans (hb.mono hf.size)
      clear hb
      refine hK.out _ _ (heldC_one (fun _ => hf)) (fun hF => ?_)
      clear hK K
      try simp only [Act.put, uA, uB, uC]
      refine wpG_marks (l' := #[true, true, true, true, false, true, false]) (by kernel_rfl) ?_
      with_reducible exact k3_20 Va3_4 bn ⟨hf, ⟨hn, dn⟩⟩
    · rintro W hf
      refine gS (i := 4) (j := 5) (by kernel_rfl) ?_ ?_
      · skip
        refine wpOp_hand (oi := ?oi206) ?hi206 (fun K hK => ?hh206)
        case hi206 => (simp only [gA, gB, gC]; rfl)
        go_simp
        refine Calls.mono (PL.out _) ?_
        rintro e Va3_5 ⟨rfl, hb⟩
        replace hf := hf.trans (hb.mono hf.size)
        clear hb
        refine hK.out _ _ (heldC_one (fun _ => hf)) (fun hF => ?_)
        clear hK K
        try simp only [Act.put, uA, uB, uC]
        refine wpG_marks (l' := #[true, true, true, true, true, false, false]) (by kernel_rfl) ?_
        with_reducible exact k3_3n Va3_5 hf
      · skip
        refine wpOp_hand (oi := ?oi207) ?hi207 (fun K hK => ?hh207)
        case hi207 => (simp only [gA, gB, gC]; rfl)
        go_simp
        have hn := SpBox.new W 0 0
        have hfn := hf.alloc hf.size (.cells #[.int .i64 0, .int .i64 0] 28)
        obtain ⟨bn, hbn⟩ : ∃ b, b = W.heap.size := ⟨_, rfl⟩
        obtain ⟨Y, hY⟩ : ∃ Y, Y = W.alloc (.cells #[.int .i64 0, .int .i64 0] 28) := ⟨_, rfl⟩
        rw [← hY] at hfn hn ⊢
        have dn : XD3.heap.size ≤ bn := by rw [hbn]; exact hf.size
        rw [← hbn] at hn ⊢
        clear hf hY hbn
        have hf := hfn
        clear hfn
        refine hK.out _ _ (heldC_one (fun _ => hf)) (fun hF => ?_)
        clear hK K
        try simp only [Act.put, uA, uB, uC]
        refine wpG_marks (l' := #[true, true, true, true, false, true, false]) (by kernel_rfl) ?_
        with_reducible exact k3_20 Y bn ⟨hf, ⟨hn, dn⟩⟩
    · rintro W bn ⟨hf, ⟨hn, dn⟩⟩
      refine gR (i := 4) (by kernel_rfl) ?_
      refine wpOp_hand (oi := ?oi208) ?hi208 (fun K hK => ?hh208)
      case hi208 => (simp only [gA, gB, gC]; rfl)
      go_simp
      refine Calls.mono (PL.out _) ?_
      rintro e Va3_6 ⟨rfl, hb⟩
      have hnn := hn.below hb; clear hn; have hn := hnn; clear hnn
      replace hf := hf.trans (hb.mono hf.size)
      clear hb
      refine hK.out _ _ (heldC_one (fun _ => hf)) (fun hF => ?_)
      clear hK K
      try simp only [Act.put, uA, uB, uC]
      refine wpG_marks (l' := #[true, true, true, true, true, true, false]) (by kernel_rfl) ?_
      with_reducible exact k3_30 Va3_6 bn ⟨hf, ⟨hn, dn⟩⟩
    · rintro W hf
      refine gR (i := 5) (by kernel_rfl) ?_
      refine wpOp_hand (oi := ?oi209) ?hi209 (fun K hK => ?hh209)
      case hi209 => (simp only [gA, gB, gC]; rfl)
      go_simp
      have hn := SpBox.new W 0 0
      have hfn := hf.alloc hf.size (.cells #[.int .i64 0, .int .i64 0] 28)
      obtain ⟨bn, hbn⟩ : ∃ b, b = W.heap.size := ⟨_, rfl⟩
      obtain ⟨Y, hY⟩ : ∃ Y, Y = W.alloc (.cells #[.int .i64 0, .int .i64 0] 28) := ⟨_, rfl⟩
      rw [← hY] at hfn hn ⊢
      have dn : XD3.heap.size ≤ bn := by rw [hbn]; exact hf.size
      rw [← hbn] at hn ⊢
      clear hf hY hbn
      have hf := hfn
      clear hfn
      refine hK.out _ _ (heldC_one (fun _ => hf)) (fun hF => ?_)
      clear hK K
      try simp only [Act.put, uA, uB, uC]
      refine wpG_marks (l' := #[true, true, true, true, true, true, false]) (by kernel_rfl) ?_
      with_reducible exact k3_30 Y bn ⟨hf, ⟨hn, dn⟩⟩
    · rintro W bn ⟨hf, ⟨hn, dn⟩⟩
      refine gR (i := 6) (by kernel_rfl) ?_
      have zz0 := hn.c0; have zz0f := hn.free 0; have zz1 := hn.c1; have zz1f := hn.free 1; have zzl := hn.lt
      refine wpOp_hand (oi := ?oi210) ?hi210 (fun K hK => ?hh210)
      case hi210 => (simp only [gA, gB, gC]; rfl)
      go_simp
      have hnn := hn.set (m1) (m2)
      clear zz0 zz0f zz1 zz1f zzl hn
      have hn := hnn; clear hnn
      replace hf := (hf.setCell (p := ⟨bn, 0, none⟩) dn (.int .i64 (m1))).setCell (p := ⟨bn, 1, none⟩) dn (.int .i64 (m2))
      refine hK.out _ _ (heldC_one (fun h => absurd h (by simp))) (fun hF => ?_)
      clear hK K
      try simp only [Act.put, uA, uB, uC]
      refine wpG_done (by kernel_rfl) ?_ _
      go_wp2_with fail
      go_meet
      exact ⟨bn, rfl, Lib.hid (Nat.le_trans hbW.out.size dn), Lib.hid hn, Lib.hid (hbx1.out.below hf), Lib.hid (hbx2.out.below hf), Lib.hid (hbx3.out.below hf), Lib.hid (Nat.lt_of_lt_of_le hbx1.out.lt dn), Lib.hid (Nat.lt_of_lt_of_le hbx2.out.lt dn), Lib.hid (Nat.lt_of_lt_of_le hbx3.out.lt dn), Lib.hid (hbW.out.trans (hf.mono hbW.out.size))⟩
  case rest =>
  obtain ⟨k4, rfl, Hkl4, s4, s1, s2, s3, Hd4_1, Hd4_2, Hd4_3, HB⟩ := hcut
  obtain ⟨X4, hX4⟩ : ∃ X, X = wc := ⟨_, rfl⟩
  subst hX4
  clear HXD3 hf hbW hbx1 hbx2 hbx3
  clear SQ1 SQ2 PL
  have sc4_0 := s4.out.c0; have sc4_1 := s4.out.c1; have sc4_l := s4.out.lt
  go_wp2_with fail
  refine Calls.mono (RT.out _) ?_
  rintro e wn5 ⟨rfl, hb⟩
  have Hd5_1 := Lib.hid (s1.out.below hb).lt
  have Hd5_2 := Lib.hid (s2.out.below hb).lt
  have Hd5_3 := Lib.hid (s3.out.below hb).lt
  have Hd5_4 := Lib.hid (s4.out.below hb).lt
  replace s1 := Lib.hid ((s1.out.below hb).alloc (.cells #[.int .i64 (n1), .int .i64 (n2)] 28))
  replace s2 := Lib.hid ((s2.out.below hb).alloc (.cells #[.int .i64 (n1), .int .i64 (n2)] 28))
  replace s3 := Lib.hid ((s3.out.below hb).alloc (.cells #[.int .i64 (n1), .int .i64 (n2)] 28))
  replace s4 := Lib.hid ((s4.out.below hb).alloc (.cells #[.int .i64 (n1), .int .i64 (n2)] 28))
  have HB5 := HB.out.trans (hb.mono HB.out.size)
  clear sc4_0 sc4_1 sc4_l
  clear hb
  have Hkl5 := Lib.hid HB5.size; replace HB := Lib.hid (HB5.alloc HB5.size (.cells #[.int .i64 (n1), .int .i64 (n2)] 28))
  clear HB5
  have s5 := Lib.hid (SpBox.new wn5 (n1) (n2))
  obtain ⟨k5, hk5⟩ : ∃ x, x = wn5.heap.size := ⟨_, rfl⟩
  rw [← hk5] at s5 Hkl5 Hd5_1 Hd5_2 Hd5_3 Hd5_4
  go_upto_region 12 with fail
  rw [← hk5]
  obtain ⟨X5, hX5⟩ : ∃ X, X = wn5.alloc (.cells #[.int .i64 (n1), .int .i64 (n2)] 28) := ⟨_, rfl⟩
  rw [← hX5] at s1 s2 s3 s4 s5 HB ⊢
  clear hk5 hX5
  clear RT h2 h3 e1 e2
  clear s4
  go_wp2_with fail
  refine Calls.mono (SL.out _ (HT.out.below HB.out)) ?_
  rintro e wn6 ⟨rfl, hb⟩
  have Hd6_1 := Lib.hid (s1.out.below hb).lt
  have Hd6_2 := Lib.hid (s2.out.below hb).lt
  have Hd6_3 := Lib.hid (s3.out.below hb).lt
  have Hd6_5 := Lib.hid (s5.out.below hb).lt
  replace s1 := Lib.hid ((s1.out.below hb).alloc (.cells #[.int .i64 (sl1), .int .i64 (sl2)] 28))
  replace s2 := Lib.hid ((s2.out.below hb).alloc (.cells #[.int .i64 (sl1), .int .i64 (sl2)] 28))
  replace s3 := Lib.hid ((s3.out.below hb).alloc (.cells #[.int .i64 (sl1), .int .i64 (sl2)] 28))
  replace s5 := Lib.hid ((s5.out.below hb).alloc (.cells #[.int .i64 (sl1), .int .i64 (sl2)] 28))
  have HB6 := HB.out.trans (hb.mono HB.out.size)
  clear hb
  have Hkl6 := Lib.hid HB6.size; replace HB := Lib.hid (HB6.alloc HB6.size (.cells #[.int .i64 (sl1), .int .i64 (sl2)] 28))
  clear HB6
  have s6 := Lib.hid (SpBox.new wn6 (sl1) (sl2))
  obtain ⟨k6, hk6⟩ : ∃ x, x = wn6.heap.size := ⟨_, rfl⟩
  rw [← hk6] at s6 Hkl6 Hd6_1 Hd6_2 Hd6_3 Hd6_5
  go_upto_region 13 with fail
  rw [← hk6]
  obtain ⟨X6, hX6⟩ : ∃ X, X = wn6.alloc (.cells #[.int .i64 (sl1), .int .i64 (sl2)] 28) := ⟨_, rfl⟩
  rw [← hX6] at s1 s2 s3 s5 s6 HB ⊢
  clear hk6 hX6
  have sc6_0 := s6.out.c0; have sc6_1 := s6.out.c1; have sc6_l := s6.out.lt
  go_wp2_with fail
  refine Calls.mono (SO.out _ (HT.out.below HB.out)) ?_
  rintro e wn7 ⟨rfl, hb⟩
  have Hd7_1 := Lib.hid (s1.out.below hb).lt
  have Hd7_2 := Lib.hid (s2.out.below hb).lt
  have Hd7_3 := Lib.hid (s3.out.below hb).lt
  have Hd7_5 := Lib.hid (s5.out.below hb).lt
  have Hd7_6 := Lib.hid (s6.out.below hb).lt
  replace s1 := Lib.hid ((s1.out.below hb).alloc (.cells #[.int .i64 (ss1), .int .i64 (ss2)] 28))
  replace s2 := Lib.hid ((s2.out.below hb).alloc (.cells #[.int .i64 (ss1), .int .i64 (ss2)] 28))
  replace s3 := Lib.hid ((s3.out.below hb).alloc (.cells #[.int .i64 (ss1), .int .i64 (ss2)] 28))
  replace s5 := Lib.hid ((s5.out.below hb).alloc (.cells #[.int .i64 (ss1), .int .i64 (ss2)] 28))
  replace s6 := Lib.hid ((s6.out.below hb).alloc (.cells #[.int .i64 (ss1), .int .i64 (ss2)] 28))
  have HB7 := HB.out.trans (hb.mono HB.out.size)
  clear sc6_0 sc6_1 sc6_l
  clear hb
  have Hkl7 := Lib.hid HB7.size; replace HB := Lib.hid (HB7.alloc HB7.size (.cells #[.int .i64 (ss1), .int .i64 (ss2)] 28))
  clear HB7
  have s7 := Lib.hid (SpBox.new wn7 (ss1) (ss2))
  obtain ⟨k7, hk7⟩ : ∃ x, x = wn7.heap.size := ⟨_, rfl⟩
  rw [← hk7] at s7 Hkl7 Hd7_1 Hd7_2 Hd7_3 Hd7_5 Hd7_6
  go_upto_region 14 with fail
  rw [← hk7]
  obtain ⟨X7, hX7⟩ : ∃ X, X = wn7.alloc (.cells #[.int .i64 (ss1), .int .i64 (ss2)] 28) := ⟨_, rfl⟩
  rw [← hX7] at s1 s2 s3 s5 s6 s7 HB ⊢
  clear hk7 hX7
  have sc6_0 := s6.out.c0; have sc6_1 := s6.out.c1; have sc6_l := s6.out.lt
  go_wp2_with fail
  refine Calls.mono (CO.out _ (HT.out.below HB.out)) ?_
  rintro e wn8 ⟨rfl, hb⟩
  have Hd8_1 := Lib.hid (s1.out.below hb).lt
  have Hd8_2 := Lib.hid (s2.out.below hb).lt
  have Hd8_3 := Lib.hid (s3.out.below hb).lt
  have Hd8_5 := Lib.hid (s5.out.below hb).lt
  have Hd8_6 := Lib.hid (s6.out.below hb).lt
  have Hd8_7 := Lib.hid (s7.out.below hb).lt
  replace s1 := Lib.hid ((s1.out.below hb).alloc (.cells #[.int .i64 (sc1), .int .i64 (sc2)] 28))
  replace s2 := Lib.hid ((s2.out.below hb).alloc (.cells #[.int .i64 (sc1), .int .i64 (sc2)] 28))
  replace s3 := Lib.hid ((s3.out.below hb).alloc (.cells #[.int .i64 (sc1), .int .i64 (sc2)] 28))
  replace s5 := Lib.hid ((s5.out.below hb).alloc (.cells #[.int .i64 (sc1), .int .i64 (sc2)] 28))
  replace s6 := Lib.hid ((s6.out.below hb).alloc (.cells #[.int .i64 (sc1), .int .i64 (sc2)] 28))
  replace s7 := Lib.hid ((s7.out.below hb).alloc (.cells #[.int .i64 (sc1), .int .i64 (sc2)] 28))
  have HB8 := HB.out.trans (hb.mono HB.out.size)
  clear sc6_0 sc6_1 sc6_l
  clear hb
  have Hkl8 := Lib.hid HB8.size; replace HB := Lib.hid (HB8.alloc HB8.size (.cells #[.int .i64 (sc1), .int .i64 (sc2)] 28))
  clear HB8
  have s8 := Lib.hid (SpBox.new wn8 (sc1) (sc2))
  obtain ⟨k8, hk8⟩ : ∃ x, x = wn8.heap.size := ⟨_, rfl⟩
  rw [← hk8] at s8 Hkl8 Hd8_1 Hd8_2 Hd8_3 Hd8_5 Hd8_6 Hd8_7
  go_upto_region 15 with fail
  rw [← hk8]
  obtain ⟨X8, hX8⟩ : ∃ X, X = wn8.alloc (.cells #[.int .i64 (sc1), .int .i64 (sc2)] 28) := ⟨_, rfl⟩
  rw [← hX8] at s1 s2 s3 s5 s6 s7 s8 HB ⊢
  clear hk8 hX8
  clear s6
  go_wp2_with fail
  refine Calls.mono (TI.out _ (HT.out.below HB.out)) ?_
  rintro e wn9 ⟨rfl, hb⟩
  have Hd9_1 := Lib.hid (s1.out.below hb).lt
  have Hd9_2 := Lib.hid (s2.out.below hb).lt
  have Hd9_3 := Lib.hid (s3.out.below hb).lt
  have Hd9_5 := Lib.hid (s5.out.below hb).lt
  have Hd9_7 := Lib.hid (s7.out.below hb).lt
  have Hd9_8 := Lib.hid (s8.out.below hb).lt
  replace s1 := Lib.hid (((s1.out.below hb).alloc (.cells #[.int .i64 (se1), .int .i64 (se2)] 28)).alloc (.cells #[.int .i64 (ce1), .int .i64 (ce2)] 28))
  replace s2 := Lib.hid (((s2.out.below hb).alloc (.cells #[.int .i64 (se1), .int .i64 (se2)] 28)).alloc (.cells #[.int .i64 (ce1), .int .i64 (ce2)] 28))
  replace s3 := Lib.hid (((s3.out.below hb).alloc (.cells #[.int .i64 (se1), .int .i64 (se2)] 28)).alloc (.cells #[.int .i64 (ce1), .int .i64 (ce2)] 28))
  replace s5 := Lib.hid (((s5.out.below hb).alloc (.cells #[.int .i64 (se1), .int .i64 (se2)] 28)).alloc (.cells #[.int .i64 (ce1), .int .i64 (ce2)] 28))
  replace s7 := Lib.hid (((s7.out.below hb).alloc (.cells #[.int .i64 (se1), .int .i64 (se2)] 28)).alloc (.cells #[.int .i64 (ce1), .int .i64 (ce2)] 28))
  replace s8 := Lib.hid (((s8.out.below hb).alloc (.cells #[.int .i64 (se1), .int .i64 (se2)] 28)).alloc (.cells #[.int .i64 (ce1), .int .i64 (ce2)] 28))
  have HB9 := HB.out.trans (hb.mono HB.out.size)
  clear hb
  have Hkl9 := Lib.hid HB9.size; have HBq := HB9.alloc HB9.size (.cells #[.int .i64 (se1), .int .i64 (se2)] 28); replace HB := Lib.hid (HBq.alloc HBq.size (.cells #[.int .i64 (ce1), .int .i64 (ce2)] 28)); clear HB9 HBq
  obtain ⟨k9, hk9⟩ : ∃ x, x = wn9.heap.size := ⟨_, rfl⟩
  have hk10 : (wn9.alloc (.cells #[.int .i64 (se1), .int .i64 (se2)] 28)).heap.size = k9 + 1 := by simp [hk9]
  have s9 := Lib.hid ((SpBox.new wn9 (se1) (se2)).alloc (.cells #[.int .i64 (ce1), .int .i64 (ce2)] 28))
  have s100 := SpBox.new (wn9.alloc (.cells #[.int .i64 (se1), .int .i64 (se2)] 28)) (ce1) (ce2)
  rw [hk10] at s100
  have s10 := Lib.hid s100; clear s100
  rw [← hk9] at s9 Hkl9 Hd9_1 Hd9_2 Hd9_3 Hd9_5 Hd9_7 Hd9_8
  have Hkl10 := Lib.hid (Nat.le_trans Hkl9.out (Nat.le_succ k9))
  have Hd10_1 := Lib.hid (Nat.lt_trans Hd9_1.out (Nat.lt_succ_self k9))
  have Hd10_2 := Lib.hid (Nat.lt_trans Hd9_2.out (Nat.lt_succ_self k9))
  have Hd10_3 := Lib.hid (Nat.lt_trans Hd9_3.out (Nat.lt_succ_self k9))
  have Hd10_5 := Lib.hid (Nat.lt_trans Hd9_5.out (Nat.lt_succ_self k9))
  have Hd10_7 := Lib.hid (Nat.lt_trans Hd9_7.out (Nat.lt_succ_self k9))
  have Hd10_8 := Lib.hid (Nat.lt_trans Hd9_8.out (Nat.lt_succ_self k9))
  have Hd10_9 := Lib.hid (Nat.lt_succ_self k9)
  go_upto_region 16 with fail
  (try rw [hk10])
  rw [← hk9]
  obtain ⟨X10, hX10⟩ : ∃ X, X = (wn9.alloc (.cells #[.int .i64 (se1), .int .i64 (se2)] 28)).alloc (.cells #[.int .i64 (ce1), .int .i64 (ce2)] 28) := ⟨_, rfl⟩
  rw [← hX10] at s1 s2 s3 s5 s7 s8 s9 s10 HB ⊢
  clear hk10 hk9 hX10
  clear SL SO CO TI HT
  obtain ⟨XD4, hXD4⟩ : ∃ x, x = X10.drew := ⟨_, rfl⟩
  have hbx1 : Hid (PtBox XD4 (k1) (.int .i64 0) (.int .i64 0) (.int .i64 0) (.int .i64 0) (.int .i64 0)) := Lib.hid (by rw [hXD4]; exact s1.out.drew)
  have hbx2 : Hid (SpBox XD4 (k2) (x1) (x2)) := Lib.hid (by rw [hXD4]; exact s2.out.drew)
  have hbx3 : Hid (SpBox XD4 (k2 + 1) (y1) (y2)) := Lib.hid (by rw [hXD4]; exact s3.out.drew)
  have hbx5 : Hid (SpBox XD4 (k5) (n1) (n2)) := Lib.hid (by rw [hXD4]; exact s5.out.drew)
  have hbx7 : Hid (SpBox XD4 (k7) (ss1) (ss2)) := Lib.hid (by rw [hXD4]; exact s7.out.drew)
  have hbx8 : Hid (SpBox XD4 (k8) (sc1) (sc2)) := Lib.hid (by rw [hXD4]; exact s8.out.drew)
  have hbx9 : Hid (SpBox XD4 (k9) (se1) (se2)) := Lib.hid (by rw [hXD4]; exact s9.out.drew)
  have hbx10 : Hid (SpBox XD4 (k9 + 1) (ce1) (ce2)) := Lib.hid (by rw [hXD4]; exact s10.out.drew)
  have hbW : Hid (Below w.heap.size w XD4) := Lib.hid (by rw [hXD4]; exact HB.out.drew)
  have HXD4 := Lib.hid hXD4; clear hXD4 s1 s2 s3 s5 s7 s8 s9 s10 HB
  have hf := Below.refl XD4.heap.size XD4
  go_cut [16] (fun sv wx => ∃ bn : Nat, sv = .pointer (some ⟨bn, 0, none⟩) ∧ Hid (w.heap.size ≤ bn) ∧ Hid (SpBox wx bn (v1) (v2)) ∧ Hid (PtBox wx (k1) (.int .i64 0) (.int .i64 0) (.int .i64 0) (.int .i64 0) (.int .i64 0)) ∧ Hid (SpBox wx (k2) (x1) (x2)) ∧ Hid (SpBox wx (k2 + 1) (y1) (y2)) ∧ Hid (SpBox wx (k5) (n1) (n2)) ∧ Hid (SpBox wx (k7) (ss1) (ss2)) ∧ Hid (SpBox wx (k8) (sc1) (sc2)) ∧ Hid (SpBox wx (k9) (se1) (se2)) ∧ Hid (SpBox wx (k9 + 1) (ce1) (ce2)) ∧ Hid (k1 < bn) ∧ Hid (k2 < bn) ∧ Hid (k2 + 1 < bn) ∧ Hid (k5 < bn) ∧ Hid (k7 < bn) ∧ Hid (k8 < bn) ∧ Hid (k9 < bn) ∧ Hid (k9 + 1 < bn) ∧ Hid (Below w.heap.size w wx))
  case first =>
    refine wp_region_G [(8, fun w' => Below XD4.heap.size XD4 w')] (by kernel_rfl) (heldC_one (fun _ => by rw [← HXD4.out]; exact hf)) (fun hF => ?_)
    rw [← HXD4.out] at hF ⊢
    refine gT (oi := ?o211) (v := ?v211) 0 ?i211 ?Q211 hF ?w211 ?y211 (by kernel_rfl) (fun hF => ?h211)
    case i211 => (simp only [gA, gB, gC]; rfl)
    case Q211 => exact fun _ _ _ h => h
    case w211 => rfl
    case y211 => (intro wz hz; have zb := hbx5.out.below hz; have z0 := zb.c0; have z1 := zb.c1; go_simp; try (with_reducible rfl))
    try simp only [Act.put, uA, uB, uC]
    refine gT (oi := ?o212) (v := ?v212) 1 ?i212 ?Q212 hF ?w212 ?y212 (by kernel_rfl) (fun hF => ?h212)
    case i212 => (simp only [gA, gB, gC]; rfl)
    case Q212 => exact fun _ _ _ h => h
    case w212 => rfl
    case y212 => (intro wz hz; have zb := hbx7.out.below hz; have z0 := zb.c0; have z1 := zb.c1; go_simp; try (with_reducible rfl))
    try simp only [Act.put, uA, uB, uC]
    refine gT (oi := ?o213) (v := ?v213) 3 ?i213 ?Q213 hF ?w213 ?y213 (by kernel_rfl) (fun hF => ?h213)
    case i213 => (simp only [gA, gB, gC]; rfl)
    case Q213 => exact fun _ _ _ h => h
    case w213 => rfl
    case y213 => (intro wz hz; have zb := hbx2.out.below hz; have z0 := zb.c0; have z1 := zb.c1; go_simp; try (with_reducible rfl))
    try simp only [Act.put, uA, uB, uC]
    refine gT (oi := ?o214) (v := ?v214) 4 ?i214 ?Q214 hF ?w214 ?y214 (by kernel_rfl) (fun hF => ?h214)
    case i214 => (simp only [gA, gB, gC]; rfl)
    case Q214 => exact fun _ _ _ h => h
    case w214 => rfl
    case y214 => (intro wz hz; have zb := hbx8.out.below hz; have z0 := zb.c0; have z1 := zb.c1; go_simp; try (with_reducible rfl))
    try simp only [Act.put, uA, uB, uC]
    apply mergeWN (S := fun W bn => Below XD4.heap.size XD4 W ∧ (SpBox W bn 0 0 ∧ XD4.heap.size ≤ bn))
    intro k4_30
    apply mergeW (S := fun W => Below XD4.heap.size XD4 W)
    intro k4_3n
    apply mergeWN (S := fun W bn => Below XD4.heap.size XD4 W ∧ (SpBox W bn 0 0 ∧ XD4.heap.size ≤ bn))
    intro k4_20
    apply mergeW (S := fun W => Below XD4.heap.size XD4 W)
    intro k4_2n
    apply mergeWN (S := fun W bn => Below XD4.heap.size XD4 W ∧ (SpBox W bn 0 0 ∧ XD4.heap.size ≤ bn))
    intro k4_10
    apply mergeW (S := fun W => Below XD4.heap.size XD4 W)
    intro k4_1n
    apply mergeWN (S := fun W bn => Below XD4.heap.size XD4 W ∧ (SpBox W bn 0 0 ∧ XD4.heap.size ≤ bn))
    intro k4_00
    · have hf := hf
      refine gS (i := 2) (j := 7) (by kernel_rfl) ?_ ?_
      · skip
        refine wpOp_hand (oi := ?oi215) ?hi215 (fun K hK => ?hh215)
        case hi215 => (simp only [gA, gB, gC]; rfl)
        go_simp
        refine Calls.mono (T1.out _) ?_
        rintro e Va4_1 ⟨rfl, hb⟩
        replace hf := hf.trans (hb.mono hf.size)
        clear hb
        refine hK.out _ _ (heldC_one (fun _ => hf)) (fun hF => ?_)
        clear hK K
        try simp only [Act.put, uA, uB, uC]
        refine wpG_marks (l' := #[true, true, true, true, true, false, false, false, false]) (by kernel_rfl) ?_
        with_reducible exact k4_1n Va4_1 hf
      · skip
        refine wpOp_hand (oi := ?oi216) ?hi216 (fun K hK => ?hh216)
        case hi216 => (simp only [gA, gB, gC]; rfl)
        go_simp
        have hn := SpBox.new XD4 0 0
        have hfn := hf.alloc hf.size (.cells #[.int .i64 0, .int .i64 0] 28)
        obtain ⟨bn, hbn⟩ : ∃ b, b = XD4.heap.size := ⟨_, rfl⟩
        obtain ⟨Y, hY⟩ : ∃ Y, Y = XD4.alloc (.cells #[.int .i64 0, .int .i64 0] 28) := ⟨_, rfl⟩
        rw [← hY] at hfn hn ⊢
        have dn : XD4.heap.size ≤ bn := by rw [hbn]; exact hf.size
        rw [← hbn] at hn ⊢
        clear hf hY hbn
        have hf := hfn
        clear hfn
        refine hK.out _ _ (heldC_one (fun _ => hf)) (fun hF => ?_)
        clear hK K
        try simp only [Act.put, uA, uB, uC]
        refine wpG_marks (l' := #[true, true, false, true, true, false, false, true, false]) (by kernel_rfl) ?_
        with_reducible exact k4_00 Y bn ⟨hf, ⟨hn, dn⟩⟩
    · rintro W bn ⟨hf, ⟨hn, dn⟩⟩
      refine gR (i := 2) (by kernel_rfl) ?_
      refine wpOp_hand (oi := ?oi217) ?hi217 (fun K hK => ?hh217)
      case hi217 => (simp only [gA, gB, gC]; rfl)
      go_simp
      refine Calls.mono (T1.out _) ?_
      rintro e Va4_2 ⟨rfl, hb⟩
      have hnn := hn.below hb; clear hn; have hn := hnn; clear hnn
      replace hf := hf.trans (hb.mono hf.size)
      clear hb
      refine hK.out _ _ (heldC_one (fun _ => hf)) (fun hF => ?_)
      clear hK K
      try simp only [Act.put, uA, uB, uC]
      refine wpG_marks (l' := #[true, true, true, true, true, false, false, true, false]) (by kernel_rfl) ?_
      with_reducible exact k4_10 Va4_2 bn ⟨hf, ⟨hn, dn⟩⟩
    · rintro W hf
      refine gS (i := 5) (j := 7) (by kernel_rfl) ?_ ?_
      · skip
        refine wpOp_hand (oi := ?oi218) ?hi218 (fun K hK => ?hh218)
        case hi218 => (simp only [gA, gB, gC]; rfl)
        go_simp
        refine Calls.mono (T2.out _) ?_
        rintro e Va4_3 ⟨rfl, hb⟩
        replace hf := hf.trans (hb.mono hf.size)
        clear hb
        refine hK.out _ _ (heldC_one (fun _ => hf)) (fun hF => ?_)
        clear hK K
        try simp only [Act.put, uA, uB, uC]
        refine wpG_marks (l' := #[true, true, true, true, true, true, false, false, false]) (by kernel_rfl) ?_
        with_reducible exact k4_2n Va4_3 hf
      · skip
        refine wpOp_hand (oi := ?oi219) ?hi219 (fun K hK => ?hh219)
        case hi219 => (simp only [gA, gB, gC]; rfl)
        go_simp
        have hn := SpBox.new W 0 0
        have hfn := hf.alloc hf.size (.cells #[.int .i64 0, .int .i64 0] 28)
        obtain ⟨bn, hbn⟩ : ∃ b, b = W.heap.size := ⟨_, rfl⟩
        obtain ⟨Y, hY⟩ : ∃ Y, Y = W.alloc (.cells #[.int .i64 0, .int .i64 0] 28) := ⟨_, rfl⟩
        rw [← hY] at hfn hn ⊢
        have dn : XD4.heap.size ≤ bn := by rw [hbn]; exact hf.size
        rw [← hbn] at hn ⊢
        clear hf hY hbn
        have hf := hfn
        clear hfn
        refine hK.out _ _ (heldC_one (fun _ => hf)) (fun hF => ?_)
        clear hK K
        try simp only [Act.put, uA, uB, uC]
        refine wpG_marks (l' := #[true, true, true, true, true, false, false, true, false]) (by kernel_rfl) ?_
        with_reducible exact k4_10 Y bn ⟨hf, ⟨hn, dn⟩⟩
    · rintro W bn ⟨hf, ⟨hn, dn⟩⟩
      refine gR (i := 5) (by kernel_rfl) ?_
      refine wpOp_hand (oi := ?oi220) ?hi220 (fun K hK => ?hh220)
      case hi220 => (simp only [gA, gB, gC]; rfl)
      go_simp
      refine Calls.mono (T2.out _) ?_
      rintro e Va4_4 ⟨rfl, hb⟩
      have hnn := hn.below hb; clear hn; have hn := hnn; clear hnn
      replace hf := hf.trans (hb.mono hf.size)
      clear hb
      refine hK.out _ _ (heldC_one (fun _ => hf)) (fun hF => ?_)
      clear hK K
      try simp only [Act.put, uA, uB, uC]
      refine wpG_marks (l' := #[true, true, true, true, true, true, false, true, false]) (by kernel_rfl) ?_
      with_reducible exact k4_20 Va4_4 bn ⟨hf, ⟨hn, dn⟩⟩
    · rintro W hf
      refine gS (i := 6) (j := 7) (by kernel_rfl) ?_ ?_
      · skip
        refine wpOp_hand (oi := ?oi221) ?hi221 (fun K hK => ?hh221)
        case hi221 => (simp only [gA, gB, gC]; rfl)
        go_simp
        refine Calls.mono (P1.out _) ?_
        rintro e Va4_5 ⟨rfl, hb⟩
        replace hf := hf.trans (hb.mono hf.size)
        clear hb
        refine hK.out _ _ (heldC_one (fun _ => hf)) (fun hF => ?_)
        clear hK K
        try simp only [Act.put, uA, uB, uC]
        refine wpG_marks (l' := #[true, true, true, true, true, true, true, false, false]) (by kernel_rfl) ?_
        with_reducible exact k4_3n Va4_5 hf
      · skip
        refine wpOp_hand (oi := ?oi222) ?hi222 (fun K hK => ?hh222)
        case hi222 => (simp only [gA, gB, gC]; rfl)
        go_simp
        have hn := SpBox.new W 0 0
        have hfn := hf.alloc hf.size (.cells #[.int .i64 0, .int .i64 0] 28)
        obtain ⟨bn, hbn⟩ : ∃ b, b = W.heap.size := ⟨_, rfl⟩
        obtain ⟨Y, hY⟩ : ∃ Y, Y = W.alloc (.cells #[.int .i64 0, .int .i64 0] 28) := ⟨_, rfl⟩
        rw [← hY] at hfn hn ⊢
        have dn : XD4.heap.size ≤ bn := by rw [hbn]; exact hf.size
        rw [← hbn] at hn ⊢
        clear hf hY hbn
        have hf := hfn
        clear hfn
        refine hK.out _ _ (heldC_one (fun _ => hf)) (fun hF => ?_)
        clear hK K
        try simp only [Act.put, uA, uB, uC]
        refine wpG_marks (l' := #[true, true, true, true, true, true, false, true, false]) (by kernel_rfl) ?_
        with_reducible exact k4_20 Y bn ⟨hf, ⟨hn, dn⟩⟩
    · rintro W bn ⟨hf, ⟨hn, dn⟩⟩
      refine gR (i := 6) (by kernel_rfl) ?_
      refine wpOp_hand (oi := ?oi223) ?hi223 (fun K hK => ?hh223)
      case hi223 => (simp only [gA, gB, gC]; rfl)
      go_simp
      refine Calls.mono (P1.out _) ?_
      rintro e Va4_6 ⟨rfl, hb⟩
      have hnn := hn.below hb; clear hn; have hn := hnn; clear hnn
      replace hf := hf.trans (hb.mono hf.size)
      clear hb
      refine hK.out _ _ (heldC_one (fun _ => hf)) (fun hF => ?_)
      clear hK K
      try simp only [Act.put, uA, uB, uC]
      refine wpG_marks (l' := #[true, true, true, true, true, true, true, true, false]) (by kernel_rfl) ?_
      with_reducible exact k4_30 Va4_6 bn ⟨hf, ⟨hn, dn⟩⟩
    · rintro W hf
      refine gR (i := 7) (by kernel_rfl) ?_
      refine wpOp_hand (oi := ?oi224) ?hi224 (fun K hK => ?hh224)
      case hi224 => (simp only [gA, gB, gC]; rfl)
      go_simp
      have hn := SpBox.new W 0 0
      have hfn := hf.alloc hf.size (.cells #[.int .i64 0, .int .i64 0] 28)
      obtain ⟨bn, hbn⟩ : ∃ b, b = W.heap.size := ⟨_, rfl⟩
      obtain ⟨Y, hY⟩ : ∃ Y, Y = W.alloc (.cells #[.int .i64 0, .int .i64 0] 28) := ⟨_, rfl⟩
      rw [← hY] at hfn hn ⊢
      have dn : XD4.heap.size ≤ bn := by rw [hbn]; exact hf.size
      rw [← hbn] at hn ⊢
      clear hf hY hbn
      have hf := hfn
      clear hfn
      refine hK.out _ _ (heldC_one (fun _ => hf)) (fun hF => ?_)
      clear hK K
      try simp only [Act.put, uA, uB, uC]
      refine wpG_marks (l' := #[true, true, true, true, true, true, true, true, false]) (by kernel_rfl) ?_
      with_reducible exact k4_30 Y bn ⟨hf, ⟨hn, dn⟩⟩
    · rintro W bn ⟨hf, ⟨hn, dn⟩⟩
      refine gR (i := 8) (by kernel_rfl) ?_
      have zz0 := hn.c0; have zz0f := hn.free 0; have zz1 := hn.c1; have zz1f := hn.free 1; have zzl := hn.lt
      refine wpOp_hand (oi := ?oi225) ?hi225 (fun K hK => ?hh225)
      case hi225 => (simp only [gA, gB, gC]; rfl)
      go_simp
      have hnn := hn.set (v1) (v2)
      clear zz0 zz0f zz1 zz1f zzl hn
      have hn := hnn; clear hnn
      replace hf := (hf.setCell (p := ⟨bn, 0, none⟩) dn (.int .i64 (v1))).setCell (p := ⟨bn, 1, none⟩) dn (.int .i64 (v2))
      refine hK.out _ _ (heldC_one (fun h => absurd h (by simp))) (fun hF => ?_)
      clear hK K
      try simp only [Act.put, uA, uB, uC]
      refine wpG_done (by kernel_rfl) ?_ _
      go_wp2_with fail
      go_meet
      exact ⟨bn, rfl, Lib.hid (Nat.le_trans hbW.out.size dn), Lib.hid hn, Lib.hid (hbx1.out.below hf), Lib.hid (hbx2.out.below hf), Lib.hid (hbx3.out.below hf), Lib.hid (hbx5.out.below hf), Lib.hid (hbx7.out.below hf), Lib.hid (hbx8.out.below hf), Lib.hid (hbx9.out.below hf), Lib.hid (hbx10.out.below hf), Lib.hid (Nat.lt_of_lt_of_le hbx1.out.lt dn), Lib.hid (Nat.lt_of_lt_of_le hbx2.out.lt dn), Lib.hid (Nat.lt_of_lt_of_le hbx3.out.lt dn), Lib.hid (Nat.lt_of_lt_of_le hbx5.out.lt dn), Lib.hid (Nat.lt_of_lt_of_le hbx7.out.lt dn), Lib.hid (Nat.lt_of_lt_of_le hbx8.out.lt dn), Lib.hid (Nat.lt_of_lt_of_le hbx9.out.lt dn), Lib.hid (Nat.lt_of_lt_of_le hbx10.out.lt dn), Lib.hid (hbW.out.trans (hf.mono hbW.out.size))⟩
  case rest =>
  obtain ⟨k11, rfl, Hkl11, s11, s1, s2, s3, s5, s7, s8, s9, s10, Hd11_1, Hd11_2, Hd11_3, Hd11_5, Hd11_7, Hd11_8, Hd11_9, Hd11_10, HB⟩ := hcut
  obtain ⟨X11, hX11⟩ : ∃ X, X = wc := ⟨_, rfl⟩
  subst hX11
  clear HXD4 hf hbW hbx1 hbx2 hbx3 hbx5 hbx7 hbx8 hbx9 hbx10
  clear T1 T2 P1
  go_upto_region 17 with fail
  obtain ⟨XD5, hXD5⟩ : ∃ x, x = X11.drew := ⟨_, rfl⟩
  have hbx1 : Hid (PtBox XD5 (k1) (.int .i64 0) (.int .i64 0) (.int .i64 0) (.int .i64 0) (.int .i64 0)) := Lib.hid (by rw [hXD5]; exact s1.out.drew)
  have hbx2 : Hid (SpBox XD5 (k2) (x1) (x2)) := Lib.hid (by rw [hXD5]; exact s2.out.drew)
  have hbx3 : Hid (SpBox XD5 (k2 + 1) (y1) (y2)) := Lib.hid (by rw [hXD5]; exact s3.out.drew)
  have hbx5 : Hid (SpBox XD5 (k5) (n1) (n2)) := Lib.hid (by rw [hXD5]; exact s5.out.drew)
  have hbx7 : Hid (SpBox XD5 (k7) (ss1) (ss2)) := Lib.hid (by rw [hXD5]; exact s7.out.drew)
  have hbx8 : Hid (SpBox XD5 (k8) (sc1) (sc2)) := Lib.hid (by rw [hXD5]; exact s8.out.drew)
  have hbx9 : Hid (SpBox XD5 (k9) (se1) (se2)) := Lib.hid (by rw [hXD5]; exact s9.out.drew)
  have hbx10 : Hid (SpBox XD5 (k9 + 1) (ce1) (ce2)) := Lib.hid (by rw [hXD5]; exact s10.out.drew)
  have hbx11 : Hid (SpBox XD5 (k11) (v1) (v2)) := Lib.hid (by rw [hXD5]; exact s11.out.drew)
  have hbW : Hid (Below w.heap.size w XD5) := Lib.hid (by rw [hXD5]; exact HB.out.drew)
  have HXD5 := Lib.hid hXD5; clear hXD5 s1 s2 s3 s5 s7 s8 s9 s10 s11 HB
  have hf := Below.refl XD5.heap.size XD5
  go_cut [17] (fun sv wx => ∃ bn : Nat, sv = .pointer (some ⟨bn, 0, none⟩) ∧ Hid (w.heap.size ≤ bn) ∧ Hid (SpBox wx bn (i1) (i2)) ∧ Hid (PtBox wx (k1) (.int .i64 0) (.int .i64 0) (.int .i64 0) (.int .i64 0) (.int .i64 0)) ∧ Hid (SpBox wx (k2) (x1) (x2)) ∧ Hid (SpBox wx (k2 + 1) (y1) (y2)) ∧ Hid (SpBox wx (k5) (n1) (n2)) ∧ Hid (SpBox wx (k7) (ss1) (ss2)) ∧ Hid (SpBox wx (k8) (sc1) (sc2)) ∧ Hid (SpBox wx (k9) (se1) (se2)) ∧ Hid (SpBox wx (k9 + 1) (ce1) (ce2)) ∧ Hid (SpBox wx (k11) (v1) (v2)) ∧ Hid (k1 < bn) ∧ Hid (k2 < bn) ∧ Hid (k2 + 1 < bn) ∧ Hid (k5 < bn) ∧ Hid (k7 < bn) ∧ Hid (k8 < bn) ∧ Hid (k9 < bn) ∧ Hid (k9 + 1 < bn) ∧ Hid (k11 < bn) ∧ Hid (Below w.heap.size w wx))
  case first =>
    refine wp_region_G [(8, fun w' => Below XD5.heap.size XD5 w')] (by kernel_rfl) (heldC_one (fun _ => by rw [← HXD5.out]; exact hf)) (fun hF => ?_)
    rw [← HXD5.out] at hF ⊢
    refine gT (oi := ?o226) (v := ?v226) 0 ?i226 ?Q226 hF ?w226 ?y226 (by kernel_rfl) (fun hF => ?h226)
    case i226 => (simp only [gA, gB, gC]; rfl)
    case Q226 => exact fun _ _ _ h => h
    case w226 => rfl
    case y226 => (intro wz hz; have zb := hbx5.out.below hz; have z0 := zb.c0; have z1 := zb.c1; go_simp; try (with_reducible rfl))
    try simp only [Act.put, uA, uB, uC]
    refine gT (oi := ?o227) (v := ?v227) 1 ?i227 ?Q227 hF ?w227 ?y227 (by kernel_rfl) (fun hF => ?h227)
    case i227 => (simp only [gA, gB, gC]; rfl)
    case Q227 => exact fun _ _ _ h => h
    case w227 => rfl
    case y227 => (intro wz hz; have zb := hbx8.out.below hz; have z0 := zb.c0; have z1 := zb.c1; go_simp; try (with_reducible rfl))
    try simp only [Act.put, uA, uB, uC]
    refine gT (oi := ?o228) (v := ?v228) 3 ?i228 ?Q228 hF ?w228 ?y228 (by kernel_rfl) (fun hF => ?h228)
    case i228 => (simp only [gA, gB, gC]; rfl)
    case Q228 => exact fun _ _ _ h => h
    case w228 => rfl
    case y228 => (intro wz hz; have zb := hbx2.out.below hz; have z0 := zb.c0; have z1 := zb.c1; go_simp; try (with_reducible rfl))
    try simp only [Act.put, uA, uB, uC]
    refine gT (oi := ?o229) (v := ?v229) 4 ?i229 ?Q229 hF ?w229 ?y229 (by kernel_rfl) (fun hF => ?h229)
    case i229 => (simp only [gA, gB, gC]; rfl)
    case Q229 => exact fun _ _ _ h => h
    case w229 => rfl
    case y229 => (intro wz hz; have zb := hbx7.out.below hz; have z0 := zb.c0; have z1 := zb.c1; go_simp; try (with_reducible rfl))
    try simp only [Act.put, uA, uB, uC]
    apply mergeWN (S := fun W bn => Below XD5.heap.size XD5 W ∧ (SpBox W bn 0 0 ∧ XD5.heap.size ≤ bn))
    intro k5_30
    apply mergeW (S := fun W => Below XD5.heap.size XD5 W)
    intro k5_3n
    apply mergeWN (S := fun W bn => Below XD5.heap.size XD5 W ∧ (SpBox W bn 0 0 ∧ XD5.heap.size ≤ bn))
    intro k5_20
    apply mergeW (S := fun W => Below XD5.heap.size XD5 W)
    intro k5_2n
    apply mergeWN (S := fun W bn => Below XD5.heap.size XD5 W ∧ (SpBox W bn 0 0 ∧ XD5.heap.size ≤ bn))
    intro k5_10
    apply mergeW (S := fun W => Below XD5.heap.size XD5 W)
    intro k5_1n
    apply mergeWN (S := fun W bn => Below XD5.heap.size XD5 W ∧ (SpBox W bn 0 0 ∧ XD5.heap.size ≤ bn))
    intro k5_00
    · have hf := hf
      refine gS (i := 2) (j := 7) (by kernel_rfl) ?_ ?_
      · skip
        refine wpOp_hand (oi := ?oi230) ?hi230 (fun K hK => ?hh230)
        case hi230 => (simp only [gA, gB, gC]; rfl)
        go_simp
        refine Calls.mono (T3.out _) ?_
        rintro e Va5_1 ⟨rfl, hb⟩
        replace hf := hf.trans (hb.mono hf.size)
        clear hb
        refine hK.out _ _ (heldC_one (fun _ => hf)) (fun hF => ?_)
        clear hK K
        try simp only [Act.put, uA, uB, uC]
        refine wpG_marks (l' := #[true, true, true, true, true, false, false, false, false]) (by kernel_rfl) ?_
        with_reducible exact k5_1n Va5_1 hf
      · skip
        refine wpOp_hand (oi := ?oi231) ?hi231 (fun K hK => ?hh231)
        case hi231 => (simp only [gA, gB, gC]; rfl)
        go_simp
        have hn := SpBox.new XD5 0 0
        have hfn := hf.alloc hf.size (.cells #[.int .i64 0, .int .i64 0] 28)
        obtain ⟨bn, hbn⟩ : ∃ b, b = XD5.heap.size := ⟨_, rfl⟩
        obtain ⟨Y, hY⟩ : ∃ Y, Y = XD5.alloc (.cells #[.int .i64 0, .int .i64 0] 28) := ⟨_, rfl⟩
        rw [← hY] at hfn hn ⊢
        have dn : XD5.heap.size ≤ bn := by rw [hbn]; exact hf.size
        rw [← hbn] at hn ⊢
        clear hf hY hbn
        have hf := hfn
        clear hfn
        refine hK.out _ _ (heldC_one (fun _ => hf)) (fun hF => ?_)
        clear hK K
        try simp only [Act.put, uA, uB, uC]
        refine wpG_marks (l' := #[true, true, false, true, true, false, false, true, false]) (by kernel_rfl) ?_
        with_reducible exact k5_00 Y bn ⟨hf, ⟨hn, dn⟩⟩
    · rintro W bn ⟨hf, ⟨hn, dn⟩⟩
      refine gR (i := 2) (by kernel_rfl) ?_
      refine wpOp_hand (oi := ?oi232) ?hi232 (fun K hK => ?hh232)
      case hi232 => (simp only [gA, gB, gC]; rfl)
      go_simp
      refine Calls.mono (T3.out _) ?_
      rintro e Va5_2 ⟨rfl, hb⟩
      have hnn := hn.below hb; clear hn; have hn := hnn; clear hnn
      replace hf := hf.trans (hb.mono hf.size)
      clear hb
      refine hK.out _ _ (heldC_one (fun _ => hf)) (fun hF => ?_)
      clear hK K
      try simp only [Act.put, uA, uB, uC]
      refine wpG_marks (l' := #[true, true, true, true, true, false, false, true, false]) (by kernel_rfl) ?_
      with_reducible exact k5_10 Va5_2 bn ⟨hf, ⟨hn, dn⟩⟩
    · rintro W hf
      refine gS (i := 5) (j := 7) (by kernel_rfl) ?_ ?_
      · skip
        refine wpOp_hand (oi := ?oi233) ?hi233 (fun K hK => ?hh233)
        case hi233 => (simp only [gA, gB, gC]; rfl)
        go_simp
        refine Calls.mono (T4.out _) ?_
        rintro e Va5_3 ⟨rfl, hb⟩
        replace hf := hf.trans (hb.mono hf.size)
        clear hb
        refine hK.out _ _ (heldC_one (fun _ => hf)) (fun hF => ?_)
        clear hK K
        try simp only [Act.put, uA, uB, uC]
        refine wpG_marks (l' := #[true, true, true, true, true, true, false, false, false]) (by kernel_rfl) ?_
        with_reducible exact k5_2n Va5_3 hf
      · skip
        refine wpOp_hand (oi := ?oi234) ?hi234 (fun K hK => ?hh234)
        case hi234 => (simp only [gA, gB, gC]; rfl)
        go_simp
        have hn := SpBox.new W 0 0
        have hfn := hf.alloc hf.size (.cells #[.int .i64 0, .int .i64 0] 28)
        obtain ⟨bn, hbn⟩ : ∃ b, b = W.heap.size := ⟨_, rfl⟩
        obtain ⟨Y, hY⟩ : ∃ Y, Y = W.alloc (.cells #[.int .i64 0, .int .i64 0] 28) := ⟨_, rfl⟩
        rw [← hY] at hfn hn ⊢
        have dn : XD5.heap.size ≤ bn := by rw [hbn]; exact hf.size
        rw [← hbn] at hn ⊢
        clear hf hY hbn
        have hf := hfn
        clear hfn
        refine hK.out _ _ (heldC_one (fun _ => hf)) (fun hF => ?_)
        clear hK K
        try simp only [Act.put, uA, uB, uC]
        refine wpG_marks (l' := #[true, true, true, true, true, false, false, true, false]) (by kernel_rfl) ?_
        with_reducible exact k5_10 Y bn ⟨hf, ⟨hn, dn⟩⟩
    · rintro W bn ⟨hf, ⟨hn, dn⟩⟩
      refine gR (i := 5) (by kernel_rfl) ?_
      refine wpOp_hand (oi := ?oi235) ?hi235 (fun K hK => ?hh235)
      case hi235 => (simp only [gA, gB, gC]; rfl)
      go_simp
      refine Calls.mono (T4.out _) ?_
      rintro e Va5_4 ⟨rfl, hb⟩
      have hnn := hn.below hb; clear hn; have hn := hnn; clear hnn
      replace hf := hf.trans (hb.mono hf.size)
      clear hb
      refine hK.out _ _ (heldC_one (fun _ => hf)) (fun hF => ?_)
      clear hK K
      try simp only [Act.put, uA, uB, uC]
      refine wpG_marks (l' := #[true, true, true, true, true, true, false, true, false]) (by kernel_rfl) ?_
      with_reducible exact k5_20 Va5_4 bn ⟨hf, ⟨hn, dn⟩⟩
    · rintro W hf
      refine gS (i := 6) (j := 7) (by kernel_rfl) ?_ ?_
      · skip
        refine wpOp_hand (oi := ?oi236) ?hi236 (fun K hK => ?hh236)
        case hi236 => (simp only [gA, gB, gC]; rfl)
        go_simp
        refine Calls.mono (P2.out _) ?_
        rintro e Va5_5 ⟨rfl, hb⟩
        replace hf := hf.trans (hb.mono hf.size)
        clear hb
        refine hK.out _ _ (heldC_one (fun _ => hf)) (fun hF => ?_)
        clear hK K
        try simp only [Act.put, uA, uB, uC]
        refine wpG_marks (l' := #[true, true, true, true, true, true, true, false, false]) (by kernel_rfl) ?_
        with_reducible exact k5_3n Va5_5 hf
      · skip
        refine wpOp_hand (oi := ?oi237) ?hi237 (fun K hK => ?hh237)
        case hi237 => (simp only [gA, gB, gC]; rfl)
        go_simp
        have hn := SpBox.new W 0 0
        have hfn := hf.alloc hf.size (.cells #[.int .i64 0, .int .i64 0] 28)
        obtain ⟨bn, hbn⟩ : ∃ b, b = W.heap.size := ⟨_, rfl⟩
        obtain ⟨Y, hY⟩ : ∃ Y, Y = W.alloc (.cells #[.int .i64 0, .int .i64 0] 28) := ⟨_, rfl⟩
        rw [← hY] at hfn hn ⊢
        have dn : XD5.heap.size ≤ bn := by rw [hbn]; exact hf.size
        rw [← hbn] at hn ⊢
        clear hf hY hbn
        have hf := hfn
        clear hfn
        refine hK.out _ _ (heldC_one (fun _ => hf)) (fun hF => ?_)
        clear hK K
        try simp only [Act.put, uA, uB, uC]
        refine wpG_marks (l' := #[true, true, true, true, true, true, false, true, false]) (by kernel_rfl) ?_
        with_reducible exact k5_20 Y bn ⟨hf, ⟨hn, dn⟩⟩
    · rintro W bn ⟨hf, ⟨hn, dn⟩⟩
      refine gR (i := 6) (by kernel_rfl) ?_
      refine wpOp_hand (oi := ?oi238) ?hi238 (fun K hK => ?hh238)
      case hi238 => (simp only [gA, gB, gC]; rfl)
      go_simp
      refine Calls.mono (P2.out _) ?_
      rintro e Va5_6 ⟨rfl, hb⟩
      have hnn := hn.below hb; clear hn; have hn := hnn; clear hnn
      replace hf := hf.trans (hb.mono hf.size)
      clear hb
      refine hK.out _ _ (heldC_one (fun _ => hf)) (fun hF => ?_)
      clear hK K
      try simp only [Act.put, uA, uB, uC]
      refine wpG_marks (l' := #[true, true, true, true, true, true, true, true, false]) (by kernel_rfl) ?_
      with_reducible exact k5_30 Va5_6 bn ⟨hf, ⟨hn, dn⟩⟩
    · rintro W hf
      refine gR (i := 7) (by kernel_rfl) ?_
      refine wpOp_hand (oi := ?oi239) ?hi239 (fun K hK => ?hh239)
      case hi239 => (simp only [gA, gB, gC]; rfl)
      go_simp
      have hn := SpBox.new W 0 0
      have hfn := hf.alloc hf.size (.cells #[.int .i64 0, .int .i64 0] 28)
      obtain ⟨bn, hbn⟩ : ∃ b, b = W.heap.size := ⟨_, rfl⟩
      obtain ⟨Y, hY⟩ : ∃ Y, Y = W.alloc (.cells #[.int .i64 0, .int .i64 0] 28) := ⟨_, rfl⟩
      rw [← hY] at hfn hn ⊢
      have dn : XD5.heap.size ≤ bn := by rw [hbn]; exact hf.size
      rw [← hbn] at hn ⊢
      clear hf hY hbn
      have hf := hfn
      clear hfn
      refine hK.out _ _ (heldC_one (fun _ => hf)) (fun hF => ?_)
      clear hK K
      try simp only [Act.put, uA, uB, uC]
      refine wpG_marks (l' := #[true, true, true, true, true, true, true, true, false]) (by kernel_rfl) ?_
      with_reducible exact k5_30 Y bn ⟨hf, ⟨hn, dn⟩⟩
    · rintro W bn ⟨hf, ⟨hn, dn⟩⟩
      refine gR (i := 8) (by kernel_rfl) ?_
      have zz0 := hn.c0; have zz0f := hn.free 0; have zz1 := hn.c1; have zz1f := hn.free 1; have zzl := hn.lt
      refine wpOp_hand (oi := ?oi240) ?hi240 (fun K hK => ?hh240)
      case hi240 => (simp only [gA, gB, gC]; rfl)
      go_simp
      have hnn := hn.set (i1) (i2)
      clear zz0 zz0f zz1 zz1f zzl hn
      have hn := hnn; clear hnn
      replace hf := (hf.setCell (p := ⟨bn, 0, none⟩) dn (.int .i64 (i1))).setCell (p := ⟨bn, 1, none⟩) dn (.int .i64 (i2))
      refine hK.out _ _ (heldC_one (fun h => absurd h (by simp))) (fun hF => ?_)
      clear hK K
      try simp only [Act.put, uA, uB, uC]
      refine wpG_done (by kernel_rfl) ?_ _
      go_wp2_with fail
      go_meet
      exact ⟨bn, rfl, Lib.hid (Nat.le_trans hbW.out.size dn), Lib.hid hn, Lib.hid (hbx1.out.below hf), Lib.hid (hbx2.out.below hf), Lib.hid (hbx3.out.below hf), Lib.hid (hbx5.out.below hf), Lib.hid (hbx7.out.below hf), Lib.hid (hbx8.out.below hf), Lib.hid (hbx9.out.below hf), Lib.hid (hbx10.out.below hf), Lib.hid (hbx11.out.below hf), Lib.hid (Nat.lt_of_lt_of_le hbx1.out.lt dn), Lib.hid (Nat.lt_of_lt_of_le hbx2.out.lt dn), Lib.hid (Nat.lt_of_lt_of_le hbx3.out.lt dn), Lib.hid (Nat.lt_of_lt_of_le hbx5.out.lt dn), Lib.hid (Nat.lt_of_lt_of_le hbx7.out.lt dn), Lib.hid (Nat.lt_of_lt_of_le hbx8.out.lt dn), Lib.hid (Nat.lt_of_lt_of_le hbx9.out.lt dn), Lib.hid (Nat.lt_of_lt_of_le hbx10.out.lt dn), Lib.hid (Nat.lt_of_lt_of_le hbx11.out.lt dn), Lib.hid (hbW.out.trans (hf.mono hbW.out.size))⟩
  case rest =>
  obtain ⟨k12, rfl, Hkl12, s12, s1, s2, s3, s5, s7, s8, s9, s10, s11, Hd12_1, Hd12_2, Hd12_3, Hd12_5, Hd12_7, Hd12_8, Hd12_9, Hd12_10, Hd12_11, HB⟩ := hcut
  obtain ⟨X12, hX12⟩ : ∃ X, X = wc := ⟨_, rfl⟩
  subst hX12
  clear HXD5 hf hbW hbx1 hbx2 hbx3 hbx5 hbx7 hbx8 hbx9 hbx10 hbx11
  clear T3 T4 P2
  clear s2
  clear s5
  clear s7
  clear s8
  go_upto_region 18 with fail
  obtain ⟨XD6, hXD6⟩ : ∃ x, x = X12.drew := ⟨_, rfl⟩
  have hbx1 : Hid (PtBox XD6 (k1) (.int .i64 0) (.int .i64 0) (.int .i64 0) (.int .i64 0) (.int .i64 0)) := Lib.hid (by rw [hXD6]; exact s1.out.drew)
  have hbx3 : Hid (SpBox XD6 (k2 + 1) (y1) (y2)) := Lib.hid (by rw [hXD6]; exact s3.out.drew)
  have hbx9 : Hid (SpBox XD6 (k9) (se1) (se2)) := Lib.hid (by rw [hXD6]; exact s9.out.drew)
  have hbx10 : Hid (SpBox XD6 (k9 + 1) (ce1) (ce2)) := Lib.hid (by rw [hXD6]; exact s10.out.drew)
  have hbx11 : Hid (SpBox XD6 (k11) (v1) (v2)) := Lib.hid (by rw [hXD6]; exact s11.out.drew)
  have hbx12 : Hid (SpBox XD6 (k12) (i1) (i2)) := Lib.hid (by rw [hXD6]; exact s12.out.drew)
  have hbW : Hid (Below w.heap.size w XD6) := Lib.hid (by rw [hXD6]; exact HB.out.drew)
  have HXD6 := Lib.hid hXD6; clear hXD6 s1 s3 s9 s10 s11 s12 HB
  have hf := Below.refl XD6.heap.size XD6
  go_cut [18] (fun sv wx => ∃ bn : Nat, sv = .pointer (some ⟨bn, 0, none⟩) ∧ Hid (w.heap.size ≤ bn) ∧ Hid (SpBox wx bn (j1) (j2)) ∧ Hid (PtBox wx (k1) (.int .i64 0) (.int .i64 0) (.int .i64 0) (.int .i64 0) (.int .i64 0)) ∧ Hid (SpBox wx (k2 + 1) (y1) (y2)) ∧ Hid (SpBox wx (k9) (se1) (se2)) ∧ Hid (SpBox wx (k9 + 1) (ce1) (ce2)) ∧ Hid (SpBox wx (k11) (v1) (v2)) ∧ Hid (SpBox wx (k12) (i1) (i2)) ∧ Hid (k1 < bn) ∧ Hid (k2 + 1 < bn) ∧ Hid (k9 < bn) ∧ Hid (k9 + 1 < bn) ∧ Hid (k11 < bn) ∧ Hid (k12 < bn) ∧ Hid (Below w.heap.size w wx))
  case first =>
    refine wp_region_G [(8, fun w' => Below XD6.heap.size XD6 w')] (by kernel_rfl) (heldC_one (fun _ => by rw [← HXD6.out]; exact hf)) (fun hF => ?_)
    rw [← HXD6.out] at hF ⊢
    refine gT (oi := ?o241) (v := ?v241) 0 ?i241 ?Q241 hF ?w241 ?y241 (by kernel_rfl) (fun hF => ?h241)
    case i241 => (simp only [gA, gB, gC]; rfl)
    case Q241 => exact fun _ _ _ h => h
    case w241 => rfl
    case y241 => (intro wz hz; have zb := hbx11.out.below hz; have z0 := zb.c0; have z1 := zb.c1; go_simp; try (with_reducible rfl))
    try simp only [Act.put, uA, uB, uC]
    refine gT (oi := ?o242) (v := ?v242) 1 ?i242 ?Q242 hF ?w242 ?y242 (by kernel_rfl) (fun hF => ?h242)
    case i242 => (simp only [gA, gB, gC]; rfl)
    case Q242 => exact fun _ _ _ h => h
    case w242 => rfl
    case y242 => (intro wz hz; have zb := hbx10.out.below hz; have z0 := zb.c0; have z1 := zb.c1; go_simp; try (with_reducible rfl))
    try simp only [Act.put, uA, uB, uC]
    refine gT (oi := ?o243) (v := ?v243) 3 ?i243 ?Q243 hF ?w243 ?y243 (by kernel_rfl) (fun hF => ?h243)
    case i243 => (simp only [gA, gB, gC]; rfl)
    case Q243 => exact fun _ _ _ h => h
    case w243 => rfl
    case y243 => (intro wz hz; have zb := hbx3.out.below hz; have z0 := zb.c0; have z1 := zb.c1; go_simp; try (with_reducible rfl))
    try simp only [Act.put, uA, uB, uC]
    refine gT (oi := ?o244) (v := ?v244) 4 ?i244 ?Q244 hF ?w244 ?y244 (by kernel_rfl) (fun hF => ?h244)
    case i244 => (simp only [gA, gB, gC]; rfl)
    case Q244 => exact fun _ _ _ h => h
    case w244 => rfl
    case y244 => (intro wz hz; have zb := hbx9.out.below hz; have z0 := zb.c0; have z1 := zb.c1; go_simp; try (with_reducible rfl))
    try simp only [Act.put, uA, uB, uC]
    apply mergeWN (S := fun W bn => Below XD6.heap.size XD6 W ∧ (SpBox W bn 0 0 ∧ XD6.heap.size ≤ bn))
    intro k6_30
    apply mergeW (S := fun W => Below XD6.heap.size XD6 W)
    intro k6_3n
    apply mergeWN (S := fun W bn => Below XD6.heap.size XD6 W ∧ (SpBox W bn 0 0 ∧ XD6.heap.size ≤ bn))
    intro k6_20
    apply mergeW (S := fun W => Below XD6.heap.size XD6 W)
    intro k6_2n
    apply mergeWN (S := fun W bn => Below XD6.heap.size XD6 W ∧ (SpBox W bn 0 0 ∧ XD6.heap.size ≤ bn))
    intro k6_10
    apply mergeW (S := fun W => Below XD6.heap.size XD6 W)
    intro k6_1n
    apply mergeWN (S := fun W bn => Below XD6.heap.size XD6 W ∧ (SpBox W bn 0 0 ∧ XD6.heap.size ≤ bn))
    intro k6_00
    · have hf := hf
      refine gS (i := 2) (j := 7) (by kernel_rfl) ?_ ?_
      · skip
        refine wpOp_hand (oi := ?oi245) ?hi245 (fun K hK => ?hh245)
        case hi245 => (simp only [gA, gB, gC]; rfl)
        go_simp
        refine Calls.mono (T5.out _) ?_
        rintro e Va6_1 ⟨rfl, hb⟩
        replace hf := hf.trans (hb.mono hf.size)
        clear hb
        refine hK.out _ _ (heldC_one (fun _ => hf)) (fun hF => ?_)
        clear hK K
        try simp only [Act.put, uA, uB, uC]
        refine wpG_marks (l' := #[true, true, true, true, true, false, false, false, false]) (by kernel_rfl) ?_
        with_reducible exact k6_1n Va6_1 hf
      · skip
        refine wpOp_hand (oi := ?oi246) ?hi246 (fun K hK => ?hh246)
        case hi246 => (simp only [gA, gB, gC]; rfl)
        go_simp
        have hn := SpBox.new XD6 0 0
        have hfn := hf.alloc hf.size (.cells #[.int .i64 0, .int .i64 0] 28)
        obtain ⟨bn, hbn⟩ : ∃ b, b = XD6.heap.size := ⟨_, rfl⟩
        obtain ⟨Y, hY⟩ : ∃ Y, Y = XD6.alloc (.cells #[.int .i64 0, .int .i64 0] 28) := ⟨_, rfl⟩
        rw [← hY] at hfn hn ⊢
        have dn : XD6.heap.size ≤ bn := by rw [hbn]; exact hf.size
        rw [← hbn] at hn ⊢
        clear hf hY hbn
        have hf := hfn
        clear hfn
        refine hK.out _ _ (heldC_one (fun _ => hf)) (fun hF => ?_)
        clear hK K
        try simp only [Act.put, uA, uB, uC]
        refine wpG_marks (l' := #[true, true, false, true, true, false, false, true, false]) (by kernel_rfl) ?_
        with_reducible exact k6_00 Y bn ⟨hf, ⟨hn, dn⟩⟩
    · rintro W bn ⟨hf, ⟨hn, dn⟩⟩
      refine gR (i := 2) (by kernel_rfl) ?_
      refine wpOp_hand (oi := ?oi247) ?hi247 (fun K hK => ?hh247)
      case hi247 => (simp only [gA, gB, gC]; rfl)
      go_simp
      refine Calls.mono (T5.out _) ?_
      rintro e Va6_2 ⟨rfl, hb⟩
      have hnn := hn.below hb; clear hn; have hn := hnn; clear hnn
      replace hf := hf.trans (hb.mono hf.size)
      clear hb
      refine hK.out _ _ (heldC_one (fun _ => hf)) (fun hF => ?_)
      clear hK K
      try simp only [Act.put, uA, uB, uC]
      refine wpG_marks (l' := #[true, true, true, true, true, false, false, true, false]) (by kernel_rfl) ?_
      with_reducible exact k6_10 Va6_2 bn ⟨hf, ⟨hn, dn⟩⟩
    · rintro W hf
      refine gS (i := 5) (j := 7) (by kernel_rfl) ?_ ?_
      · skip
        refine wpOp_hand (oi := ?oi248) ?hi248 (fun K hK => ?hh248)
        case hi248 => (simp only [gA, gB, gC]; rfl)
        go_simp
        refine Calls.mono (T6.out _) ?_
        rintro e Va6_3 ⟨rfl, hb⟩
        replace hf := hf.trans (hb.mono hf.size)
        clear hb
        refine hK.out _ _ (heldC_one (fun _ => hf)) (fun hF => ?_)
        clear hK K
        try simp only [Act.put, uA, uB, uC]
        refine wpG_marks (l' := #[true, true, true, true, true, true, false, false, false]) (by kernel_rfl) ?_
        with_reducible exact k6_2n Va6_3 hf
      · skip
        refine wpOp_hand (oi := ?oi249) ?hi249 (fun K hK => ?hh249)
        case hi249 => (simp only [gA, gB, gC]; rfl)
        go_simp
        have hn := SpBox.new W 0 0
        have hfn := hf.alloc hf.size (.cells #[.int .i64 0, .int .i64 0] 28)
        obtain ⟨bn, hbn⟩ : ∃ b, b = W.heap.size := ⟨_, rfl⟩
        obtain ⟨Y, hY⟩ : ∃ Y, Y = W.alloc (.cells #[.int .i64 0, .int .i64 0] 28) := ⟨_, rfl⟩
        rw [← hY] at hfn hn ⊢
        have dn : XD6.heap.size ≤ bn := by rw [hbn]; exact hf.size
        rw [← hbn] at hn ⊢
        clear hf hY hbn
        have hf := hfn
        clear hfn
        refine hK.out _ _ (heldC_one (fun _ => hf)) (fun hF => ?_)
        clear hK K
        try simp only [Act.put, uA, uB, uC]
        refine wpG_marks (l' := #[true, true, true, true, true, false, false, true, false]) (by kernel_rfl) ?_
        with_reducible exact k6_10 Y bn ⟨hf, ⟨hn, dn⟩⟩
    · rintro W bn ⟨hf, ⟨hn, dn⟩⟩
      refine gR (i := 5) (by kernel_rfl) ?_
      refine wpOp_hand (oi := ?oi250) ?hi250 (fun K hK => ?hh250)
      case hi250 => (simp only [gA, gB, gC]; rfl)
      go_simp
      refine Calls.mono (T6.out _) ?_
      rintro e Va6_4 ⟨rfl, hb⟩
      have hnn := hn.below hb; clear hn; have hn := hnn; clear hnn
      replace hf := hf.trans (hb.mono hf.size)
      clear hb
      refine hK.out _ _ (heldC_one (fun _ => hf)) (fun hF => ?_)
      clear hK K
      try simp only [Act.put, uA, uB, uC]
      refine wpG_marks (l' := #[true, true, true, true, true, true, false, true, false]) (by kernel_rfl) ?_
      with_reducible exact k6_20 Va6_4 bn ⟨hf, ⟨hn, dn⟩⟩
    · rintro W hf
      refine gS (i := 6) (j := 7) (by kernel_rfl) ?_ ?_
      · skip
        refine wpOp_hand (oi := ?oi251) ?hi251 (fun K hK => ?hh251)
        case hi251 => (simp only [gA, gB, gC]; rfl)
        go_simp
        refine Calls.mono (P3.out _) ?_
        rintro e Va6_5 ⟨rfl, hb⟩
        replace hf := hf.trans (hb.mono hf.size)
        clear hb
        refine hK.out _ _ (heldC_one (fun _ => hf)) (fun hF => ?_)
        clear hK K
        try simp only [Act.put, uA, uB, uC]
        refine wpG_marks (l' := #[true, true, true, true, true, true, true, false, false]) (by kernel_rfl) ?_
        with_reducible exact k6_3n Va6_5 hf
      · skip
        refine wpOp_hand (oi := ?oi252) ?hi252 (fun K hK => ?hh252)
        case hi252 => (simp only [gA, gB, gC]; rfl)
        go_simp
        have hn := SpBox.new W 0 0
        have hfn := hf.alloc hf.size (.cells #[.int .i64 0, .int .i64 0] 28)
        obtain ⟨bn, hbn⟩ : ∃ b, b = W.heap.size := ⟨_, rfl⟩
        obtain ⟨Y, hY⟩ : ∃ Y, Y = W.alloc (.cells #[.int .i64 0, .int .i64 0] 28) := ⟨_, rfl⟩
        rw [← hY] at hfn hn ⊢
        have dn : XD6.heap.size ≤ bn := by rw [hbn]; exact hf.size
        rw [← hbn] at hn ⊢
        clear hf hY hbn
        have hf := hfn
        clear hfn
        refine hK.out _ _ (heldC_one (fun _ => hf)) (fun hF => ?_)
        clear hK K
        try simp only [Act.put, uA, uB, uC]
        refine wpG_marks (l' := #[true, true, true, true, true, true, false, true, false]) (by kernel_rfl) ?_
        with_reducible exact k6_20 Y bn ⟨hf, ⟨hn, dn⟩⟩
    · rintro W bn ⟨hf, ⟨hn, dn⟩⟩
      refine gR (i := 6) (by kernel_rfl) ?_
      refine wpOp_hand (oi := ?oi253) ?hi253 (fun K hK => ?hh253)
      case hi253 => (simp only [gA, gB, gC]; rfl)
      go_simp
      refine Calls.mono (P3.out _) ?_
      rintro e Va6_6 ⟨rfl, hb⟩
      have hnn := hn.below hb; clear hn; have hn := hnn; clear hnn
      replace hf := hf.trans (hb.mono hf.size)
      clear hb
      refine hK.out _ _ (heldC_one (fun _ => hf)) (fun hF => ?_)
      clear hK K
      try simp only [Act.put, uA, uB, uC]
      refine wpG_marks (l' := #[true, true, true, true, true, true, true, true, false]) (by kernel_rfl) ?_
      with_reducible exact k6_30 Va6_6 bn ⟨hf, ⟨hn, dn⟩⟩
    · rintro W hf
      refine gR (i := 7) (by kernel_rfl) ?_
      refine wpOp_hand (oi := ?oi254) ?hi254 (fun K hK => ?hh254)
      case hi254 => (simp only [gA, gB, gC]; rfl)
      go_simp
      have hn := SpBox.new W 0 0
      have hfn := hf.alloc hf.size (.cells #[.int .i64 0, .int .i64 0] 28)
      obtain ⟨bn, hbn⟩ : ∃ b, b = W.heap.size := ⟨_, rfl⟩
      obtain ⟨Y, hY⟩ : ∃ Y, Y = W.alloc (.cells #[.int .i64 0, .int .i64 0] 28) := ⟨_, rfl⟩
      rw [← hY] at hfn hn ⊢
      have dn : XD6.heap.size ≤ bn := by rw [hbn]; exact hf.size
      rw [← hbn] at hn ⊢
      clear hf hY hbn
      have hf := hfn
      clear hfn
      refine hK.out _ _ (heldC_one (fun _ => hf)) (fun hF => ?_)
      clear hK K
      try simp only [Act.put, uA, uB, uC]
      refine wpG_marks (l' := #[true, true, true, true, true, true, true, true, false]) (by kernel_rfl) ?_
      with_reducible exact k6_30 Y bn ⟨hf, ⟨hn, dn⟩⟩
    · rintro W bn ⟨hf, ⟨hn, dn⟩⟩
      refine gR (i := 8) (by kernel_rfl) ?_
      have zz0 := hn.c0; have zz0f := hn.free 0; have zz1 := hn.c1; have zz1f := hn.free 1; have zzl := hn.lt
      refine wpOp_hand (oi := ?oi255) ?hi255 (fun K hK => ?hh255)
      case hi255 => (simp only [gA, gB, gC]; rfl)
      go_simp
      have hnn := hn.set (j1) (j2)
      clear zz0 zz0f zz1 zz1f zzl hn
      have hn := hnn; clear hnn
      replace hf := (hf.setCell (p := ⟨bn, 0, none⟩) dn (.int .i64 (j1))).setCell (p := ⟨bn, 1, none⟩) dn (.int .i64 (j2))
      refine hK.out _ _ (heldC_one (fun h => absurd h (by simp))) (fun hF => ?_)
      clear hK K
      try simp only [Act.put, uA, uB, uC]
      refine wpG_done (by kernel_rfl) ?_ _
      go_wp2_with fail
      go_meet
      exact ⟨bn, rfl, Lib.hid (Nat.le_trans hbW.out.size dn), Lib.hid hn, Lib.hid (hbx1.out.below hf), Lib.hid (hbx3.out.below hf), Lib.hid (hbx9.out.below hf), Lib.hid (hbx10.out.below hf), Lib.hid (hbx11.out.below hf), Lib.hid (hbx12.out.below hf), Lib.hid (Nat.lt_of_lt_of_le hbx1.out.lt dn), Lib.hid (Nat.lt_of_lt_of_le hbx3.out.lt dn), Lib.hid (Nat.lt_of_lt_of_le hbx9.out.lt dn), Lib.hid (Nat.lt_of_lt_of_le hbx10.out.lt dn), Lib.hid (Nat.lt_of_lt_of_le hbx11.out.lt dn), Lib.hid (Nat.lt_of_lt_of_le hbx12.out.lt dn), Lib.hid (hbW.out.trans (hf.mono hbW.out.size))⟩
  case rest =>
  obtain ⟨k13, rfl, Hkl13, s13, s1, s3, s9, s10, s11, s12, Hd13_1, Hd13_3, Hd13_9, Hd13_10, Hd13_11, Hd13_12, HB⟩ := hcut
  obtain ⟨X13, hX13⟩ : ∃ X, X = wc := ⟨_, rfl⟩
  subst hX13
  clear HXD6 hf hbW hbx1 hbx3 hbx9 hbx10 hbx11 hbx12
  clear T5 T6 P3
  go_upto_region 19 with fail
  obtain ⟨XD7, hXD7⟩ : ∃ x, x = X13.drew := ⟨_, rfl⟩
  have hbx1 : Hid (PtBox XD7 (k1) (.int .i64 0) (.int .i64 0) (.int .i64 0) (.int .i64 0) (.int .i64 0)) := Lib.hid (by rw [hXD7]; exact s1.out.drew)
  have hbx3 : Hid (SpBox XD7 (k2 + 1) (y1) (y2)) := Lib.hid (by rw [hXD7]; exact s3.out.drew)
  have hbx9 : Hid (SpBox XD7 (k9) (se1) (se2)) := Lib.hid (by rw [hXD7]; exact s9.out.drew)
  have hbx10 : Hid (SpBox XD7 (k9 + 1) (ce1) (ce2)) := Lib.hid (by rw [hXD7]; exact s10.out.drew)
  have hbx11 : Hid (SpBox XD7 (k11) (v1) (v2)) := Lib.hid (by rw [hXD7]; exact s11.out.drew)
  have hbx12 : Hid (SpBox XD7 (k12) (i1) (i2)) := Lib.hid (by rw [hXD7]; exact s12.out.drew)
  have hbx13 : Hid (SpBox XD7 (k13) (j1) (j2)) := Lib.hid (by rw [hXD7]; exact s13.out.drew)
  have hbW : Hid (Below w.heap.size w XD7) := Lib.hid (by rw [hXD7]; exact HB.out.drew)
  have HXD7 := Lib.hid hXD7; clear hXD7 s1 s3 s9 s10 s11 s12 s13 HB
  have hf := Below.refl XD7.heap.size XD7
  go_cut [19] (fun sv wx => ∃ bn : Nat, sv = .pointer (some ⟨bn, 0, none⟩) ∧ Hid (w.heap.size ≤ bn) ∧ Hid (SpBox wx bn (o1) (o2)) ∧ Hid (PtBox wx (k1) (.int .i64 0) (.int .i64 0) (.int .i64 0) (.int .i64 0) (.int .i64 0)) ∧ Hid (SpBox wx (k2 + 1) (y1) (y2)) ∧ Hid (SpBox wx (k9) (se1) (se2)) ∧ Hid (SpBox wx (k9 + 1) (ce1) (ce2)) ∧ Hid (SpBox wx (k11) (v1) (v2)) ∧ Hid (SpBox wx (k12) (i1) (i2)) ∧ Hid (SpBox wx (k13) (j1) (j2)) ∧ Hid (k1 < bn) ∧ Hid (k2 + 1 < bn) ∧ Hid (k9 < bn) ∧ Hid (k9 + 1 < bn) ∧ Hid (k11 < bn) ∧ Hid (k12 < bn) ∧ Hid (k13 < bn) ∧ Hid (Below w.heap.size w wx))
  case first =>
    refine wp_region_G [(8, fun w' => Below XD7.heap.size XD7 w')] (by kernel_rfl) (heldC_one (fun _ => by rw [← HXD7.out]; exact hf)) (fun hF => ?_)
    rw [← HXD7.out] at hF ⊢
    refine gT (oi := ?o256) (v := ?v256) 0 ?i256 ?Q256 hF ?w256 ?y256 (by kernel_rfl) (fun hF => ?h256)
    case i256 => (simp only [gA, gB, gC]; rfl)
    case Q256 => exact fun _ _ _ h => h
    case w256 => rfl
    case y256 => (intro wz hz; have zb := hbx11.out.below hz; have z0 := zb.c0; have z1 := zb.c1; go_simp; try (with_reducible rfl))
    try simp only [Act.put, uA, uB, uC]
    refine gT (oi := ?o257) (v := ?v257) 1 ?i257 ?Q257 hF ?w257 ?y257 (by kernel_rfl) (fun hF => ?h257)
    case i257 => (simp only [gA, gB, gC]; rfl)
    case Q257 => exact fun _ _ _ h => h
    case w257 => rfl
    case y257 => (intro wz hz; have zb := hbx9.out.below hz; have z0 := zb.c0; have z1 := zb.c1; go_simp; try (with_reducible rfl))
    try simp only [Act.put, uA, uB, uC]
    refine gT (oi := ?o258) (v := ?v258) 3 ?i258 ?Q258 hF ?w258 ?y258 (by kernel_rfl) (fun hF => ?h258)
    case i258 => (simp only [gA, gB, gC]; rfl)
    case Q258 => exact fun _ _ _ h => h
    case w258 => rfl
    case y258 => (intro wz hz; have zb := hbx3.out.below hz; have z0 := zb.c0; have z1 := zb.c1; go_simp; try (with_reducible rfl))
    try simp only [Act.put, uA, uB, uC]
    refine gT (oi := ?o259) (v := ?v259) 4 ?i259 ?Q259 hF ?w259 ?y259 (by kernel_rfl) (fun hF => ?h259)
    case i259 => (simp only [gA, gB, gC]; rfl)
    case Q259 => exact fun _ _ _ h => h
    case w259 => rfl
    case y259 => (intro wz hz; have zb := hbx10.out.below hz; have z0 := zb.c0; have z1 := zb.c1; go_simp; try (with_reducible rfl))
    try simp only [Act.put, uA, uB, uC]
    apply mergeWN (S := fun W bn => Below XD7.heap.size XD7 W ∧ (SpBox W bn 0 0 ∧ XD7.heap.size ≤ bn))
    intro k7_30
    apply mergeW (S := fun W => Below XD7.heap.size XD7 W)
    intro k7_3n
    apply mergeWN (S := fun W bn => Below XD7.heap.size XD7 W ∧ (SpBox W bn 0 0 ∧ XD7.heap.size ≤ bn))
    intro k7_20
    apply mergeW (S := fun W => Below XD7.heap.size XD7 W)
    intro k7_2n
    apply mergeWN (S := fun W bn => Below XD7.heap.size XD7 W ∧ (SpBox W bn 0 0 ∧ XD7.heap.size ≤ bn))
    intro k7_10
    apply mergeW (S := fun W => Below XD7.heap.size XD7 W)
    intro k7_1n
    apply mergeWN (S := fun W bn => Below XD7.heap.size XD7 W ∧ (SpBox W bn 0 0 ∧ XD7.heap.size ≤ bn))
    intro k7_00
    · have hf := hf
      refine gS (i := 2) (j := 7) (by kernel_rfl) ?_ ?_
      · skip
        refine wpOp_hand (oi := ?oi260) ?hi260 (fun K hK => ?hh260)
        case hi260 => (simp only [gA, gB, gC]; rfl)
        go_simp
        refine Calls.mono (T7.out _) ?_
        rintro e Va7_1 ⟨rfl, hb⟩
        replace hf := hf.trans (hb.mono hf.size)
        clear hb
        refine hK.out _ _ (heldC_one (fun _ => hf)) (fun hF => ?_)
        clear hK K
        try simp only [Act.put, uA, uB, uC]
        refine wpG_marks (l' := #[true, true, true, true, true, false, false, false, false]) (by kernel_rfl) ?_
        with_reducible exact k7_1n Va7_1 hf
      · skip
        refine wpOp_hand (oi := ?oi261) ?hi261 (fun K hK => ?hh261)
        case hi261 => (simp only [gA, gB, gC]; rfl)
        go_simp
        have hn := SpBox.new XD7 0 0
        have hfn := hf.alloc hf.size (.cells #[.int .i64 0, .int .i64 0] 28)
        obtain ⟨bn, hbn⟩ : ∃ b, b = XD7.heap.size := ⟨_, rfl⟩
        obtain ⟨Y, hY⟩ : ∃ Y, Y = XD7.alloc (.cells #[.int .i64 0, .int .i64 0] 28) := ⟨_, rfl⟩
        rw [← hY] at hfn hn ⊢
        have dn : XD7.heap.size ≤ bn := by rw [hbn]; exact hf.size
        rw [← hbn] at hn ⊢
        clear hf hY hbn
        have hf := hfn
        clear hfn
        refine hK.out _ _ (heldC_one (fun _ => hf)) (fun hF => ?_)
        clear hK K
        try simp only [Act.put, uA, uB, uC]
        refine wpG_marks (l' := #[true, true, false, true, true, false, false, true, false]) (by kernel_rfl) ?_
        with_reducible exact k7_00 Y bn ⟨hf, ⟨hn, dn⟩⟩
    · rintro W bn ⟨hf, ⟨hn, dn⟩⟩
      refine gR (i := 2) (by kernel_rfl) ?_
      refine wpOp_hand (oi := ?oi262) ?hi262 (fun K hK => ?hh262)
      case hi262 => (simp only [gA, gB, gC]; rfl)
      go_simp
      refine Calls.mono (T7.out _) ?_
      rintro e Va7_2 ⟨rfl, hb⟩
      have hnn := hn.below hb; clear hn; have hn := hnn; clear hnn
      replace hf := hf.trans (hb.mono hf.size)
      clear hb
      refine hK.out _ _ (heldC_one (fun _ => hf)) (fun hF => ?_)
      clear hK K
      try simp only [Act.put, uA, uB, uC]
      refine wpG_marks (l' := #[true, true, true, true, true, false, false, true, false]) (by kernel_rfl) ?_
      with_reducible exact k7_10 Va7_2 bn ⟨hf, ⟨hn, dn⟩⟩
    · rintro W hf
      refine gS (i := 5) (j := 7) (by kernel_rfl) ?_ ?_
      · skip
        refine wpOp_hand (oi := ?oi263) ?hi263 (fun K hK => ?hh263)
        case hi263 => (simp only [gA, gB, gC]; rfl)
        go_simp
        refine Calls.mono (T8.out _) ?_
        rintro e Va7_3 ⟨rfl, hb⟩
        replace hf := hf.trans (hb.mono hf.size)
        clear hb
        refine hK.out _ _ (heldC_one (fun _ => hf)) (fun hF => ?_)
        clear hK K
        try simp only [Act.put, uA, uB, uC]
        refine wpG_marks (l' := #[true, true, true, true, true, true, false, false, false]) (by kernel_rfl) ?_
        with_reducible exact k7_2n Va7_3 hf
      · skip
        refine wpOp_hand (oi := ?oi264) ?hi264 (fun K hK => ?hh264)
        case hi264 => (simp only [gA, gB, gC]; rfl)
        go_simp
        have hn := SpBox.new W 0 0
        have hfn := hf.alloc hf.size (.cells #[.int .i64 0, .int .i64 0] 28)
        obtain ⟨bn, hbn⟩ : ∃ b, b = W.heap.size := ⟨_, rfl⟩
        obtain ⟨Y, hY⟩ : ∃ Y, Y = W.alloc (.cells #[.int .i64 0, .int .i64 0] 28) := ⟨_, rfl⟩
        rw [← hY] at hfn hn ⊢
        have dn : XD7.heap.size ≤ bn := by rw [hbn]; exact hf.size
        rw [← hbn] at hn ⊢
        clear hf hY hbn
        have hf := hfn
        clear hfn
        refine hK.out _ _ (heldC_one (fun _ => hf)) (fun hF => ?_)
        clear hK K
        try simp only [Act.put, uA, uB, uC]
        refine wpG_marks (l' := #[true, true, true, true, true, false, false, true, false]) (by kernel_rfl) ?_
        with_reducible exact k7_10 Y bn ⟨hf, ⟨hn, dn⟩⟩
    · rintro W bn ⟨hf, ⟨hn, dn⟩⟩
      refine gR (i := 5) (by kernel_rfl) ?_
      refine wpOp_hand (oi := ?oi265) ?hi265 (fun K hK => ?hh265)
      case hi265 => (simp only [gA, gB, gC]; rfl)
      go_simp
      refine Calls.mono (T8.out _) ?_
      rintro e Va7_4 ⟨rfl, hb⟩
      have hnn := hn.below hb; clear hn; have hn := hnn; clear hnn
      replace hf := hf.trans (hb.mono hf.size)
      clear hb
      refine hK.out _ _ (heldC_one (fun _ => hf)) (fun hF => ?_)
      clear hK K
      try simp only [Act.put, uA, uB, uC]
      refine wpG_marks (l' := #[true, true, true, true, true, true, false, true, false]) (by kernel_rfl) ?_
      with_reducible exact k7_20 Va7_4 bn ⟨hf, ⟨hn, dn⟩⟩
    · rintro W hf
      refine gS (i := 6) (j := 7) (by kernel_rfl) ?_ ?_
      · skip
        refine wpOp_hand (oi := ?oi266) ?hi266 (fun K hK => ?hh266)
        case hi266 => (simp only [gA, gB, gC]; rfl)
        go_simp
        refine Calls.mono (P4.out _) ?_
        rintro e Va7_5 ⟨rfl, hb⟩
        replace hf := hf.trans (hb.mono hf.size)
        clear hb
        refine hK.out _ _ (heldC_one (fun _ => hf)) (fun hF => ?_)
        clear hK K
        try simp only [Act.put, uA, uB, uC]
        refine wpG_marks (l' := #[true, true, true, true, true, true, true, false, false]) (by kernel_rfl) ?_
        with_reducible exact k7_3n Va7_5 hf
      · skip
        refine wpOp_hand (oi := ?oi267) ?hi267 (fun K hK => ?hh267)
        case hi267 => (simp only [gA, gB, gC]; rfl)
        go_simp
        have hn := SpBox.new W 0 0
        have hfn := hf.alloc hf.size (.cells #[.int .i64 0, .int .i64 0] 28)
        obtain ⟨bn, hbn⟩ : ∃ b, b = W.heap.size := ⟨_, rfl⟩
        obtain ⟨Y, hY⟩ : ∃ Y, Y = W.alloc (.cells #[.int .i64 0, .int .i64 0] 28) := ⟨_, rfl⟩
        rw [← hY] at hfn hn ⊢
        have dn : XD7.heap.size ≤ bn := by rw [hbn]; exact hf.size
        rw [← hbn] at hn ⊢
        clear hf hY hbn
        have hf := hfn
        clear hfn
        refine hK.out _ _ (heldC_one (fun _ => hf)) (fun hF => ?_)
        clear hK K
        try simp only [Act.put, uA, uB, uC]
        refine wpG_marks (l' := #[true, true, true, true, true, true, false, true, false]) (by kernel_rfl) ?_
        with_reducible exact k7_20 Y bn ⟨hf, ⟨hn, dn⟩⟩
    · rintro W bn ⟨hf, ⟨hn, dn⟩⟩
      refine gR (i := 6) (by kernel_rfl) ?_
      refine wpOp_hand (oi := ?oi268) ?hi268 (fun K hK => ?hh268)
      case hi268 => (simp only [gA, gB, gC]; rfl)
      go_simp
      refine Calls.mono (P4.out _) ?_
      rintro e Va7_6 ⟨rfl, hb⟩
      have hnn := hn.below hb; clear hn; have hn := hnn; clear hnn
      replace hf := hf.trans (hb.mono hf.size)
      clear hb
      refine hK.out _ _ (heldC_one (fun _ => hf)) (fun hF => ?_)
      clear hK K
      try simp only [Act.put, uA, uB, uC]
      refine wpG_marks (l' := #[true, true, true, true, true, true, true, true, false]) (by kernel_rfl) ?_
      with_reducible exact k7_30 Va7_6 bn ⟨hf, ⟨hn, dn⟩⟩
    · rintro W hf
      refine gR (i := 7) (by kernel_rfl) ?_
      refine wpOp_hand (oi := ?oi269) ?hi269 (fun K hK => ?hh269)
      case hi269 => (simp only [gA, gB, gC]; rfl)
      go_simp
      have hn := SpBox.new W 0 0
      have hfn := hf.alloc hf.size (.cells #[.int .i64 0, .int .i64 0] 28)
      obtain ⟨bn, hbn⟩ : ∃ b, b = W.heap.size := ⟨_, rfl⟩
      obtain ⟨Y, hY⟩ : ∃ Y, Y = W.alloc (.cells #[.int .i64 0, .int .i64 0] 28) := ⟨_, rfl⟩
      rw [← hY] at hfn hn ⊢
      have dn : XD7.heap.size ≤ bn := by rw [hbn]; exact hf.size
      rw [← hbn] at hn ⊢
      clear hf hY hbn
      have hf := hfn
      clear hfn
      refine hK.out _ _ (heldC_one (fun _ => hf)) (fun hF => ?_)
      clear hK K
      try simp only [Act.put, uA, uB, uC]
      refine wpG_marks (l' := #[true, true, true, true, true, true, true, true, false]) (by kernel_rfl) ?_
      with_reducible exact k7_30 Y bn ⟨hf, ⟨hn, dn⟩⟩
    · rintro W bn ⟨hf, ⟨hn, dn⟩⟩
      refine gR (i := 8) (by kernel_rfl) ?_
      have zz0 := hn.c0; have zz0f := hn.free 0; have zz1 := hn.c1; have zz1f := hn.free 1; have zzl := hn.lt
      refine wpOp_hand (oi := ?oi270) ?hi270 (fun K hK => ?hh270)
      case hi270 => (simp only [gA, gB, gC]; rfl)
      go_simp
      have hnn := hn.set (o1) (o2)
      clear zz0 zz0f zz1 zz1f zzl hn
      have hn := hnn; clear hnn
      replace hf := (hf.setCell (p := ⟨bn, 0, none⟩) dn (.int .i64 (o1))).setCell (p := ⟨bn, 1, none⟩) dn (.int .i64 (o2))
      refine hK.out _ _ (heldC_one (fun h => absurd h (by simp))) (fun hF => ?_)
      clear hK K
      try simp only [Act.put, uA, uB, uC]
      refine wpG_done (by kernel_rfl) ?_ _
      go_wp2_with fail
      go_meet
      exact ⟨bn, rfl, Lib.hid (Nat.le_trans hbW.out.size dn), Lib.hid hn, Lib.hid (hbx1.out.below hf), Lib.hid (hbx3.out.below hf), Lib.hid (hbx9.out.below hf), Lib.hid (hbx10.out.below hf), Lib.hid (hbx11.out.below hf), Lib.hid (hbx12.out.below hf), Lib.hid (hbx13.out.below hf), Lib.hid (Nat.lt_of_lt_of_le hbx1.out.lt dn), Lib.hid (Nat.lt_of_lt_of_le hbx3.out.lt dn), Lib.hid (Nat.lt_of_lt_of_le hbx9.out.lt dn), Lib.hid (Nat.lt_of_lt_of_le hbx10.out.lt dn), Lib.hid (Nat.lt_of_lt_of_le hbx11.out.lt dn), Lib.hid (Nat.lt_of_lt_of_le hbx12.out.lt dn), Lib.hid (Nat.lt_of_lt_of_le hbx13.out.lt dn), Lib.hid (hbW.out.trans (hf.mono hbW.out.size))⟩
  case rest =>
  obtain ⟨k14, rfl, Hkl14, s14, s1, s3, s9, s10, s11, s12, s13, Hd14_1, Hd14_3, Hd14_9, Hd14_10, Hd14_11, Hd14_12, Hd14_13, HB⟩ := hcut
  obtain ⟨X14, hX14⟩ : ∃ X, X = wc := ⟨_, rfl⟩
  subst hX14
  clear HXD7 hf hbW hbx1 hbx3 hbx9 hbx10 hbx11 hbx12 hbx13
  clear T7 T8 P4
  clear s3
  clear s9
  clear s10
  clear s11
  rcases bad with bad | bad
  · skip
    obtain ⟨rfl, AQ⟩ := AR.out.1 bad
    have AQ := Lib.hid AQ
    clear AR AS SD LE
    have sc13_0 := s13.out.c0; have sc13_1 := s13.out.c1; have sc13_l := s13.out.lt
    have sc12_0 := s12.out.c0; have sc12_1 := s12.out.c1; have sc12_l := s12.out.lt
    go_wp2_with fail
    refine Calls.mono (AQ.out _) ?_
    rintro e wn15 ⟨rfl, hb⟩
    have Hd15_1 := Lib.hid (s1.out.below hb).lt
    have Hd15_12 := Lib.hid (s12.out.below hb).lt
    have Hd15_13 := Lib.hid (s13.out.below hb).lt
    have Hd15_14 := Lib.hid (s14.out.below hb).lt
    replace s1 := Lib.hid ((s1.out.below hb).alloc (.cells #[.int .i64 (0), .int .i64 (0)] 28))
    replace s12 := Lib.hid ((s12.out.below hb).alloc (.cells #[.int .i64 (0), .int .i64 (0)] 28))
    replace s13 := Lib.hid ((s13.out.below hb).alloc (.cells #[.int .i64 (0), .int .i64 (0)] 28))
    replace s14 := Lib.hid ((s14.out.below hb).alloc (.cells #[.int .i64 (0), .int .i64 (0)] 28))
    have HB15 := HB.out.trans (hb.mono HB.out.size)
    clear sc13_0 sc13_1 sc13_l sc12_0 sc12_1 sc12_l
    clear hb
    have Hkl15 := Lib.hid HB15.size; replace HB := Lib.hid (HB15.alloc HB15.size (.cells #[.int .i64 (0), .int .i64 (0)] 28))
    clear HB15
    have s15 := Lib.hid (SpBox.new wn15 (0) (0))
    obtain ⟨k15, hk15⟩ : ∃ x, x = wn15.heap.size := ⟨_, rfl⟩
    rw [← hk15] at s15 Hkl15 Hd15_1 Hd15_12 Hd15_13 Hd15_14
    go_upto_region 21 with fail
    rw [← hk15]
    obtain ⟨X15, hX15⟩ : ∃ X, X = wn15.alloc (.cells #[.int .i64 (0), .int .i64 (0)] 28) := ⟨_, rfl⟩
    rw [← hX15] at s1 s12 s13 s14 s15 HB ⊢
    clear hk15 hX15
    have y0 := s1.out.c0; have f0 := s1.out.free 0; have y1 := s1.out.c1; have f1 := s1.out.free 1; have y2 := s1.out.c2; have f2 := s1.out.free 2; have y3 := s1.out.c3; have f3 := s1.out.free 3; have y4 := s1.out.c4; have f4 := s1.out.free 4; have yl := s1.out.lt; have ky := Hkl1.out
    go_wp
    refine bodyPost_ret (v := .tuple #[.agg #[.int .i64 0, .int .i64 0, .int .i64 0, .int .i64 0, .int .i64 0], .int .i64 11]) ?_ rfl ⟨rfl, ?_⟩
    · simp [results, Tryz.results22, go_sem, *]
    · refine Below.setCell (Below.setCell (Below.setCell (Below.setCell (Below.setCell (HB.out) ?_ _) ?_ _) ?_ _) ?_ _) ?_ _
      all_goals (first | (simp only [World.size_setCell]; omega) | (dsimp only; omega))
  · skip
    obtain ⟨rb, rfl, AQ⟩ := AR.out.2 bad
    have AQ := Lib.hid AQ
    have LF := Lib.hid (fun W => LE.out W rb)
    clear AR LE rb
    have sc13_0 := s13.out.c0; have sc13_1 := s13.out.c1; have sc13_l := s13.out.lt
    have sc12_0 := s12.out.c0; have sc12_1 := s12.out.c1; have sc12_l := s12.out.lt
    go_wp2_with fail
    refine Calls.mono (AQ.out _) ?_
    rintro e wn15 ⟨rfl, hb⟩
    have Hd15_1 := Lib.hid (s1.out.below hb).lt
    have Hd15_12 := Lib.hid (s12.out.below hb).lt
    have Hd15_13 := Lib.hid (s13.out.below hb).lt
    have Hd15_14 := Lib.hid (s14.out.below hb).lt
    replace s1 := Lib.hid ((s1.out.below hb).alloc (.cells #[.int .i64 (r1), .int .i64 (r2)] 28))
    replace s12 := Lib.hid ((s12.out.below hb).alloc (.cells #[.int .i64 (r1), .int .i64 (r2)] 28))
    replace s13 := Lib.hid ((s13.out.below hb).alloc (.cells #[.int .i64 (r1), .int .i64 (r2)] 28))
    replace s14 := Lib.hid ((s14.out.below hb).alloc (.cells #[.int .i64 (r1), .int .i64 (r2)] 28))
    have HB15 := HB.out.trans (hb.mono HB.out.size)
    clear sc13_0 sc13_1 sc13_l sc12_0 sc12_1 sc12_l
    clear hb
    have Hkl15 := Lib.hid HB15.size; replace HB := Lib.hid (HB15.alloc HB15.size (.cells #[.int .i64 (r1), .int .i64 (r2)] 28))
    clear HB15
    have s15 := Lib.hid (SpBox.new wn15 (r1) (r2))
    obtain ⟨k15, hk15⟩ : ∃ x, x = wn15.heap.size := ⟨_, rfl⟩
    rw [← hk15] at s15 Hkl15 Hd15_1 Hd15_12 Hd15_13 Hd15_14
    go_upto_region 23 with fail
    rw [← hk15]
    obtain ⟨X15, hX15⟩ : ∃ X, X = wn15.alloc (.cells #[.int .i64 (r1), .int .i64 (r2)] 28) := ⟨_, rfl⟩
    rw [← hX15] at s1 s12 s13 s14 s15 HB ⊢
    clear hk15 hX15
    clear AQ
    clear s12
    clear s13
    have sc14_0 := s14.out.c0; have sc14_1 := s14.out.c1; have sc14_l := s14.out.lt
    go_wp2_with fail
    refine Calls.mono (AS.out _) ?_
    rintro e wn16 ⟨rfl, hb⟩
    have Hd16_1 := Lib.hid (s1.out.below hb).lt
    have Hd16_14 := Lib.hid (s14.out.below hb).lt
    have Hd16_15 := Lib.hid (s15.out.below hb).lt
    replace s1 := Lib.hid ((s1.out.below hb).alloc (.cells #[.int .i64 (g3), .int .i64 (g4)] 28))
    replace s14 := Lib.hid ((s14.out.below hb).alloc (.cells #[.int .i64 (g3), .int .i64 (g4)] 28))
    replace s15 := Lib.hid ((s15.out.below hb).alloc (.cells #[.int .i64 (g3), .int .i64 (g4)] 28))
    have HB16 := HB.out.trans (hb.mono HB.out.size)
    clear sc14_0 sc14_1 sc14_l
    clear hb
    have Hkl16 := Lib.hid HB16.size; replace HB := Lib.hid (HB16.alloc HB16.size (.cells #[.int .i64 (g3), .int .i64 (g4)] 28))
    clear HB16
    have s16 := Lib.hid (SpBox.new wn16 (g3) (g4))
    obtain ⟨k16, hk16⟩ : ∃ x, x = wn16.heap.size := ⟨_, rfl⟩
    rw [← hk16] at s16 Hkl16 Hd16_1 Hd16_14 Hd16_15
    go_upto_region 24 with fail
    rw [← hk16]
    obtain ⟨X16, hX16⟩ : ∃ X, X = wn16.alloc (.cells #[.int .i64 (g3), .int .i64 (g4)] 28) := ⟨_, rfl⟩
    rw [← hX16] at s1 s14 s15 s16 HB ⊢
    clear hk16 hX16
    clear s14
    go_wp2_with fail
    refine Calls.mono (SD.out _) ?_
    rintro e wn17 ⟨rfl, hb⟩
    have Hd17_1 := Lib.hid (s1.out.below hb).lt
    have Hd17_15 := Lib.hid (s15.out.below hb).lt
    have Hd17_16 := Lib.hid (s16.out.below hb).lt
    replace s1 := Lib.hid ((s1.out.below hb).alloc (.cells #[.int .i64 (sd1), .int .i64 (sd2)] 28))
    replace s15 := Lib.hid ((s15.out.below hb).alloc (.cells #[.int .i64 (sd1), .int .i64 (sd2)] 28))
    replace s16 := Lib.hid ((s16.out.below hb).alloc (.cells #[.int .i64 (sd1), .int .i64 (sd2)] 28))
    have HB17 := HB.out.trans (hb.mono HB.out.size)
    clear hb
    have Hkl17 := Lib.hid HB17.size; replace HB := Lib.hid (HB17.alloc HB17.size (.cells #[.int .i64 (sd1), .int .i64 (sd2)] 28))
    clear HB17
    have s17 := Lib.hid (SpBox.new wn17 (sd1) (sd2))
    obtain ⟨k17, hk17⟩ : ∃ x, x = wn17.heap.size := ⟨_, rfl⟩
    rw [← hk17] at s17 Hkl17 Hd17_1 Hd17_15 Hd17_16
    go_upto_region 25 with fail
    rw [← hk17]
    obtain ⟨X17, hX17⟩ : ∃ X, X = wn17.alloc (.cells #[.int .i64 (sd1), .int .i64 (sd2)] 28) := ⟨_, rfl⟩
    rw [← hX17] at s1 s15 s16 s17 HB ⊢
    clear hk17 hX17
    clear AS SD
    have ne1_15 := Nat.ne_of_lt Hd15_1.out; have ne15_1 := Nat.ne_of_gt Hd15_1.out
    have ne1_16 := Nat.ne_of_lt Hd16_1.out; have ne16_1 := Nat.ne_of_gt Hd16_1.out
    have ne1_17 := Nat.ne_of_lt Hd17_1.out; have ne17_1 := Nat.ne_of_gt Hd17_1.out
    have ne15_16 := Nat.ne_of_lt Hd16_15.out; have ne16_15 := Nat.ne_of_gt Hd16_15.out
    have ne15_17 := Nat.ne_of_lt Hd17_15.out; have ne17_15 := Nat.ne_of_gt Hd17_15.out
    have ne16_17 := Nat.ne_of_lt Hd17_16.out; have ne17_16 := Nat.ne_of_gt Hd17_16.out
    obtain ⟨XD9, hXD9⟩ : ∃ x, x = X17.drew := ⟨_, rfl⟩
    have hf : SpBox XD9 k15 r1 r2 ∧ SpBox XD9 k16 g3 g4 ∧ SpBox XD9 k17 sd1 sd2 ∧ PtBox XD9 k1 (.int .i64 0) (.int .i64 0) (.int .i64 0) (.int .i64 0) (.int .i64 0) ∧ Below w.heap.size w XD9 := by rw [hXD9]; exact ⟨s15.out.drew, s16.out.drew, s17.out.drew, s1.out.drew, HB.out.drew⟩
    have HXD9 := Lib.hid hXD9
    have ky := Hkl1.out
    clear hXD9 s1 s15 s16 s17 HB
    refine wp_region_G [(6, fun w' => SpBox w' k15 r1 r2 ∧ SpBox w' k16 g3 g4 ∧ SpBox w' k17 sd1 sd2)] (by kernel_rfl) (heldC_one (fun _ => by rw [← HXD9.out]; exact ⟨hf.1, hf.2.1, hf.2.2.1⟩)) (fun hF => ?_)
    rw [← HXD9.out] at hF ⊢
    refine gT (oi := ?o271) (v := ?v271) 0 ?i271 ?Q271 hF ?w271 ?y271 (by kernel_rfl) (fun hF => ?h271)
    case i271 => (simp only [gA, gB, gC]; rfl)
    case Q271 => exact fun _ _ _ h => h
    case w271 => rfl
    case y271 => (intro wz hz; skip; go_simp; try (with_reducible rfl))
    try simp only [Act.put, uA, uB, uC]
    refine gT (oi := ?o272) (v := ?v272) 1 ?i272 ?Q272 hF ?w272 ?y272 (by kernel_rfl) (fun hF => ?h272)
    case i272 => (simp only [gA, gB, gC]; rfl)
    case Q272 => exact fun _ _ _ h => h
    case w272 => rfl
    case y272 => (intro wz hz; have z0 := hz.1.c0; have z1 := hz.1.c1; go_simp; try (with_reducible rfl))
    try simp only [Act.put, uA, uB, uC]
    refine gT (oi := ?o273) (v := ?v273) 2 ?i273 ?Q273 hF ?w273 ?y273 (by kernel_rfl) (fun hF => ?h273)
    case i273 => (simp only [gA, gB, gC]; rfl)
    case Q273 => exact fun _ _ _ h => h
    case w273 => rfl
    case y273 => (intro wz hz; have z0 := hz.2.2.c0; have z1 := hz.2.2.c1; go_simp; try (with_reducible rfl))
    try simp only [Act.put, uA, uB, uC]
    refine gT (oi := ?o274) (v := ?v274) 4 ?i274 ?Q274 hF ?w274 ?y274 (by kernel_rfl) (fun hF => ?h274)
    case i274 => (simp only [gA, gB, gC]; rfl)
    case Q274 => exact fun _ _ _ h => h
    case w274 => rfl
    case y274 => (intro wz hz; have z0 := hz.2.1.c0; have z1 := hz.2.1.c1; go_simp; try (with_reducible rfl))
    try simp only [Act.put, uA, uB, uC]
    refine gR (i := 3) (by kernel_rfl) ?_
    refine wpOp_hand (oi := ?oi275) ?hi275 (fun K hK => ?hh275)
    case hi275 => (simp only [gA, gB, gC]; rfl)
    go_simp
    refine Calls.mono (LF.out _) ?_
    rintro e V ⟨rfl, hb⟩
    have hfn : SpBox V k15 r1 r2 ∧ SpBox V k16 g3 g4 ∧ SpBox V k17 sd1 sd2 ∧ PtBox V k1 (.int .i64 0) (.int .i64 0) (.int .i64 0) (.int .i64 0) (.int .i64 0) ∧ Below w.heap.size w V := ⟨hf.1.below hb, hf.2.1.below hb, hf.2.2.1.below hb, hf.2.2.2.1.below hb, hf.2.2.2.2.trans (hb.mono hf.2.2.2.2.size)⟩
    clear hf hb
    have hf := hfn
    clear hfn
    refine hK.out _ _ (heldC_one (fun _ => ⟨hf.1, hf.2.1, hf.2.2.1⟩)) (fun hF => ?_)
    clear hK K
    try simp only [Act.put, uA, uB, uC]
    refine gT (oi := ?o276) (v := ?v276) 5 ?i276 ?Q276 hF ?w276 ?y276 (by kernel_rfl) (fun hF => ?h276)
    case i276 => (simp only [gA, gB, gC]; rfl)
    case Q276 => exact fun _ _ _ h => h
    case w276 => rfl
    case y276 => (intro wz hz; skip; go_simp; try (with_reducible rfl))
    try simp only [Act.put, uA, uB, uC]
    refine gR (i := 6) (by kernel_rfl) ?_
    have y := hf.2.2.2.1
    have y0 := y.c0; have y1' := y.c1; have y2' := y.c2; have y3' := y.c3; have y4' := y.c4; have f0 := y.free 0; have f1 := y.free 1; have f2 := y.free 2; have f3 := y.free 3; have f4 := y.free 4; have yl := y.lt
    refine wpOp_hand (oi := ?oi277) ?hi277 (fun K hK => ?hh277)
    case hi277 => (simp only [gA, gB, gC]; rfl)
    go_simp
    refine hK.out _ _ (heldC_one (fun h => absurd h (by simp))) (fun hF => ?_)
    clear hK K
    try simp only [Act.put, uA, uB, uC]
    refine gR (i := 7) (by kernel_rfl) ?_
    refine wpOp_hand (oi := ?oi278) ?hi278 (fun K hK => ?hh278)
    case hi278 => (simp only [gA, gB, gC]; rfl)
    go_simp
    refine hK.out _ _ (heldC_one (fun h => absurd h (by simp))) (fun hF => ?_)
    clear hK K
    try simp only [Act.put, uA, uB, uC]
    refine wpG_done (by kernel_rfl) ?_ _
    have yp := hf.2.2.2.1.put (.int .i64 t) (.int .i64 g1) (.int .i64 g2) (.int .i64 g3) (.int .i64 g4)
    have hbl := ((((hf.2.2.2.2.setCell (p := ⟨k1, 0, none⟩) ky (.int .i64 t)).setCell (p := ⟨k1, 1, none⟩) ky (.int .i64 g1)).setCell (p := ⟨k1, 2, none⟩) ky (.int .i64 g2)).setCell (p := ⟨k1, 3, none⟩) ky (.int .i64 g3)).setCell (p := ⟨k1, 4, none⟩) ky (.int .i64 g4)
    obtain ⟨W4, hW4⟩ : ∃ x, x = ((((V.setCell ⟨k1, 0, none⟩ (.int .i64 t)).setCell ⟨k1, 1, none⟩ (.int .i64 g1)).setCell ⟨k1, 2, none⟩ (.int .i64 g2)).setCell ⟨k1, 3, none⟩ (.int .i64 g3)).setCell ⟨k1, 4, none⟩ (.int .i64 g4) := ⟨_, rfl⟩
    rw [← hW4] at yp hbl ⊢
    repeat (clear hF)
    clear hW4 y hf HXD9 y0 y1' y2' y3' y4' f0 f1 f2 f3 f4 yl
    have c0 := yp.c0; have c1 := yp.c1; have c2 := yp.c2; have c3 := yp.c3; have c4 := yp.c4
    clear yp
    go_wp
    refine bodyPost_ret (v := paV ⟨t, g1, g2, g3, g4, 0⟩) ?_ rfl ⟨rfl, hbl⟩
    unfold paV
    simp [results, Tryz.results22, go_sem, c0, c1, c2, c3, c4]
theorem Center_ok (t : Int) (w : World) (hT : SinT w) (ti : instOk t = true) : Calls Tryz.prog 22 #[.int .i64 t] w fun e w' => e = .returned (paV (ceF t)) ∧ Below w.heap.size w w' := by
  by_cases h : ceFar t
  · exact ceFar_ok t w hT ti h
  · by_cases h2 : 1000000000 < smLo t
    · exact ceOut_ok t w hT ti h h2
    · by_cases h3 : 1000000000 < smHi t
      · exact ceOpen_ok t w hT ti h h2 h3
      · exact ceIn_ok t w hT ti h h2 h3
end Go.Proofs.YtcopmgnfakjdhaaGreatDoor
