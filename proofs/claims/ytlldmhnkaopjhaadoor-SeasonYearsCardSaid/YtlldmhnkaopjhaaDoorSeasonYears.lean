/- SeasonYears: the next passage behind a season is a year later. -/
import Derived.Test.YtlldmhnkaopjhaaDoorSeasonsInOrder
import Derived.Test.YtlldmhnkaopjhaaDoorSpan
namespace Go.Proofs.YtlldmhnkaopjhaaDoor
open Go.RowKit
set_option linter.unusedSimpArgs false
set_option linter.unusedVariables false
set_option maxRecDepth 100000 in
set_option maxHeartbeats 16000000 in
theorem seasonYears_walk (q0 y0 : Int) (w : World) (hT : SinT w) : Calls Tryd.prog 11 #[.int .i64 q0, .int .i64 y0] w fun e w' => e = .returned (.bool true) ∧ Below w.heap.size w w' := by
  have HW := Lib.hid (seasonWorks_ok w hT)
  have HT := Lib.hid hT
  have A := Lib.hid (fun w => at_any y0 18000 w (by omega) (by omega))
  have Aq := Lib.hid (fun w => at_any q0 4 w (by omega) (by omega))
  have ab : 0 ≤ y0 % 18000 ∧ y0 % 18000 < 18000 := by omega
  have qb1 : 0 ≤ q0 % 4 := by omega
  have qb2 : q0 % 4 < 4 := by omega
  generalize y0 % 18000 = z at *
  generalize q0 % 4 = q at *
  obtain ⟨k, hk⟩ : ∃ k, k = z - 9000 := ⟨_, rfl⟩
  have ek : wrap64 (z - 9000) = k := by rw [hk]; exact IntWalk.wrap64_in _ (by omega)
  have kb1 : -9000 ≤ k := by omega
  have kb2 : k < 9000 := by omega
  have F1 := Lib.hid (fun W (hT : SinT W) => SFind_ok q k (by omega) (by omega) W hT)
  have F3 := Lib.hid (fun W (hT : SinT W) => SFind_ok q (k + 1) (by omega) (by omega) W hT)
  obtain ⟨-, c, P⟩ := se_find (q := q) (y := k) qb1 (by omega) (by omega) (by omega)
  obtain ⟨-, c3, P3⟩ := se_find (q := q) (y := k + 1) qb1 (by omega) (by omega) (by omega)
  obtain ⟨B2, c2, P2⟩ := se_next (by omega) (by omega) P
  have Y := se_year P P2
  have ec : c2 = c3 := P2.x.uniq P3.x
  have bd := seY_bd (q := q) (y := k) qb1 (by omega) (by omega) (by omega)
  have bd3 := seY_bd (q := q) (y := k + 1) qb1 (by omega) (by omega) (by omega)
  have ny := newY_bd k
  have nm := newY_ms (y := k) (by omega) (by omega)
  have wa := wa_ok (b := seB (250000000 * q) (newY k * 86400000)) (by unfold seB; omega) (by unfold seB; omega)
  have hb' : (seY q k).2 ≤ newY k * 86400000 + waI (seB (250000000 * q) (newY k * 86400000)) + 691200000 := P.u
  have wn := wa.n1
  have hl : newY k * 86400000 ≤ (seY q k).1 := by have h : seLo (250000000 * q) (newY k * 86400000) ≤ (seY q k).1 := P.l; unfold seLo at h; omega
  have e1 : seF (250000000 * q) (newY k * 86400000) = seY q k := rfl
  have e3 : seF (250000000 * q) (newY (k + 1) * 86400000) = seY q (k + 1) := rfl
  have m1 := P2.i1; have m2 := P2.i2; have m3 := P3.i1; have m4 := P3.i2; have m5 := P2.l; have m6 := P2.u
  have wa2 := wa_ok (b := seB (250000000 * q) ((seY q k).2 + 86400000)) (by unfold seB; omega) (by unfold seB; omega)
  have wn2 := wa2.n1
  unfold seHi at m6
  unfold seLo at m5
  rw [e1] at B2 Y m1 m2 m5 m6
  rw [e3] at m3 m4
  have F2 := fun W (hT : SinT W) => Next_ok (250000000 * q) ((seY q k).2 + 86400000) (by omega) (by constructor <;> omega) B2 W hT
  obtain ⟨Y1, Y2⟩ := Y
  obtain ⟨b1, b2, b3⟩ := bd
  obtain ⟨b4, b5, b6⟩ := bd3
  clear ab hT P P2 P3 B2 wa wa2 e1 e3 ny hk hb' hl wn
  generalize waI (seB (250000000 * q) ((seY q k).2 + 86400000)) = ww at *
  generalize seF (250000000 * q) ((seY q k).2 + 86400000) = r at *
  generalize (seY q k).1 = a1 at *
  generalize (seY q k).2 = a2 at *
  generalize (seY q (k + 1)).1 = g1 at *
  generalize (seY q (k + 1)).2 = g2 at *
  generalize r.1 = r1 at *
  generalize r.2 = r2 at *
  have M := Lib.hid (fun w => meets_true r1 r2 g1 g2 w (by omega) (by omega))
  have d1 : decide (31536000000 < r1 - a2) = true := decide_eq_true Y1
  have d2 : decide (r2 - a1 < 31622400000) = true := decide_eq_true Y2
  have rb1 : -320000000000000 ≤ r1 := by omega
  have rb2 : r2 ≤ 377000000000000 := by omega
  have rb3 : -320000000000000 ≤ r2 := by omega
  have w1 : wrap64 (r1 - a2) = r1 - a2 := IntWalk.wrap64_in _ (by omega)
  have w2 : wrap64 (r2 - a1) = r2 - a1 := IntWalk.wrap64_in _ (by omega)
  have w3 : ¬ r1 - a2 ≤ 31536000000 := by omega
  clear nm m1 m2 m3 m4 m5 m6 ec wn2
  have eq : 250000000 * q = q * 250000000 := by omega
  rw [eq] at F2
  have HF2 := Lib.hid F2
  clear F2 eq Y1 Y2
  go_enter Tryd.func11, Tryd.ntmps11
  have HB := Lib.hid (Below.refl w.heap.size w)
  go_wp2_with fail
  refine Calls.mono (HW.out) ?_
  rintro e wc1 ⟨rfl, hb⟩
  replace HB := Lib.hid (HB.out.trans (hb.mono HB.out.size))
  clear hb
  go_wp2_with fail
  refine Calls.mono (Aq.out _) ?_
  rintro e wq ⟨rfl, hq⟩
  (first | rw [hq] | rw [← hq])
  clear hq
  go_wp2_with fail
  refine Calls.mono (A.out _) ?_
  rintro e wq ⟨rfl, hq⟩
  (first | rw [hq] | rw [← hq])
  clear hq
  go_wp2_with fail
  refine Calls.mono (F1.out _ (HT.out.below HB.out)) ?_
  rintro e wn1 ⟨rfl, hb⟩
  have HB1 := HB.out.trans (hb.mono HB.out.size)
  clear hb
  have Hkl1 := Lib.hid HB1.size; replace HB := Lib.hid (HB1.alloc HB1.size (.cells #[.int .i64 (a1), .int .i64 (a2)] 24))
  clear HB1
  have s1 := Lib.hid (SpBox.new wn1 (a1) (a2))
  obtain ⟨k1, hk1⟩ : ∃ x, x = wn1.heap.size := ⟨_, rfl⟩
  rw [← hk1] at s1 Hkl1
  go_upto_region 5 with fail
  rw [← hk1]
  obtain ⟨X1, hX1⟩ : ∃ X, X = wn1.alloc (.cells #[.int .i64 (a1), .int .i64 (a2)] 24) := ⟨_, rfl⟩
  rw [← hX1] at s1 HB ⊢
  clear hk1 hX1
  have sc1_0 := s1.out.c0; have sc1_1 := s1.out.c1; have sc1_l := s1.out.lt
  go_wp2_with fail
  refine Calls.mono (HF2.out _ (HT.out.below HB.out)) ?_
  rintro e wn2 ⟨rfl, hb⟩
  replace s1 := Lib.hid ((s1.out.below hb).alloc (.cells #[.int .i64 (r1), .int .i64 (r2)] 24))
  have HB2 := HB.out.trans (hb.mono HB.out.size)
  clear sc1_0 sc1_1 sc1_l
  clear hb
  have Hkl2 := Lib.hid HB2.size; replace HB := Lib.hid (HB2.alloc HB2.size (.cells #[.int .i64 (r1), .int .i64 (r2)] 24))
  clear HB2
  have s2 := Lib.hid (SpBox.new wn2 (r1) (r2))
  obtain ⟨k2, hk2⟩ : ∃ x, x = wn2.heap.size := ⟨_, rfl⟩
  rw [← hk2] at s2 Hkl2
  go_upto_region 6 with fail
  rw [← hk2]
  obtain ⟨X2, hX2⟩ : ∃ X, X = wn2.alloc (.cells #[.int .i64 (r1), .int .i64 (r2)] 24) := ⟨_, rfl⟩
  rw [← hX2] at s1 s2 HB ⊢
  clear hk2 hX2
  go_wp2_with fail
  refine Calls.mono (F3.out _ (HT.out.below HB.out)) ?_
  rintro e wn3 ⟨rfl, hb⟩
  replace s1 := Lib.hid ((s1.out.below hb).alloc (.cells #[.int .i64 (g1), .int .i64 (g2)] 24))
  replace s2 := Lib.hid ((s2.out.below hb).alloc (.cells #[.int .i64 (g1), .int .i64 (g2)] 24))
  have HB3 := HB.out.trans (hb.mono HB.out.size)
  clear hb
  have Hkl3 := Lib.hid HB3.size; replace HB := Lib.hid (HB3.alloc HB3.size (.cells #[.int .i64 (g1), .int .i64 (g2)] 24))
  clear HB3
  have s3 := Lib.hid (SpBox.new wn3 (g1) (g2))
  obtain ⟨k3, hk3⟩ : ∃ x, x = wn3.heap.size := ⟨_, rfl⟩
  rw [← hk3] at s3 Hkl3
  go_upto_region 7 with fail
  rw [← hk3]
  obtain ⟨X3, hX3⟩ : ∃ X, X = wn3.alloc (.cells #[.int .i64 (g1), .int .i64 (g2)] 24) := ⟨_, rfl⟩
  rw [← hX3] at s1 s2 s3 HB ⊢
  clear hk3 hX3
  have sc2_0 := s2.out.c0; have sc2_1 := s2.out.c1; have sc2_l := s2.out.lt
  have sc3_0 := s3.out.c0; have sc3_1 := s3.out.c1; have sc3_l := s3.out.lt
  go_wp2_with fail
  refine Calls.mono (M.out _) ?_
  rintro e wc2 ⟨rfl, hb⟩
  replace s1 := Lib.hid (s1.out.below hb)
  replace s2 := Lib.hid (s2.out.below hb)
  replace s3 := Lib.hid (s3.out.below hb)
  replace HB := Lib.hid (HB.out.trans (hb.mono HB.out.size))
  clear sc2_0 sc2_1 sc2_l sc3_0 sc3_1 sc3_l
  clear hb
  have sc1_0 := s1.out.c0; have sc1_1 := s1.out.c1; have sc1_l := s1.out.lt
  have sc2_0 := s2.out.c0; have sc2_1 := s2.out.c1; have sc2_l := s2.out.lt
  go_wp2_with fail
  go_ret
  exact ⟨rfl, HB.out⟩
end Go.Proofs.YtlldmhnkaopjhaaDoor
