/- Package ephemeristop: sAt, sHas, sSky. -/
import Derived.Test.YtdifeoahaegjbaaGreatDoorSes
import Derived.Test.YtdifeoahaegjbaaGreatDoorPhasesInOrder
namespace Go.Proofs.YtdifeoahaegjbaaGreatDoor
open Go.RowKit
set_option linter.unusedSimpArgs false
set_option linter.unusedVariables false
set_option maxHeartbeats 400000 in
theorem sat_any (k n : Int) (w : World) (hn : 1 ≤ n) (hn' : n ≤ 4611686018427387904) :
    Calls Tryz.prog 5 #[.int .i64 k, .int .i64 n] w fun e w' => e = .returned (.int .i64 (k % n)) ∧ w = w' := by
  go_enter Tryz.func5, Tryz.ntmps5
  go_wp2
  go_ret
  exact ⟨ret_int (at_eq k n hn hn'), rfl⟩
set_option maxHeartbeats 1000000 in
theorem shas_true (a b v n : Int) (w : World) (h1 : a ≤ v) (h2 : v ≤ b) (h3 : b - a ≤ n) (h4 : -4000000000000000000 ≤ a ∧ b ≤ 4000000000000000000) :
    Calls Tryz.prog 14 #[.agg #[.int .i64 a, .int .i64 b], .int .i64 v, .int .i64 n] w fun e w' => e = .returned (.bool true) ∧ Below w.heap.size w w' := by
  have e1 : wrap64 (b - a) = b - a := IntWalk.wrap64_in _ (by omega)
  clear h4
  go_enter Tryz.func14, Tryz.ntmps14
  go_wp2
  go_returns
  exact ⟨rfl, (by repeat' (first | (with_reducible refine below_drewN ?_ _) | go_grown))⟩
theorem sky_s : slLo 0 ≤ 778094769 ∧ 778094769 ≤ slHi 0 ∧ slHi 0 - slLo 0 ≤ 4010 := by decide +kernel
theorem sky_m : mlLo 0 ≤ 406718613 ∧ 406718613 ≤ mlHi 0 ∧ mlHi 0 - mlLo 0 ≤ 40030 := by decide +kernel
theorem sky_p : (phF 0 0).1 ≤ 992260421 ∧ 992260421 ≤ (phF 0 0).2 := by decide +kernel
set_option maxRecDepth 100000 in
set_option maxHeartbeats 8000000 in
theorem sSky_ok (w : World) (hT : SinT w) : Calls Tryz.prog 4 #[] w fun e w' => e = .returned (.bool true) ∧ Below w.heap.size w w' := by
  obtain ⟨B, c, P⟩ := se_find (q := 0) (y := 2000) (by omega) (by omega) (by omega) (by omega)
  have a4 := P.w
  rw [show seF (250000000 * 0) (newY 2000 * 86400000) = seY 0 2000 from rfl] at a4
  obtain ⟨p1, p2⟩ := sw0
  obtain ⟨c0, C0⟩ := ph_in (k := 0) (q := 0) (by omega) (by omega) (by omega) (by omega)
  have b4 := C0.w
  obtain ⟨r1, r2⟩ := sky_p
  obtain ⟨u1, u2, u3⟩ := sky_s
  obtain ⟨v1, v2, v3⟩ := sky_m
  have i0 : instOk 0 = true := by decide
  have S := Lib.hid (fun W (hT : SinT W) => sunLong_ok 0 W hT i0)
  have M := Lib.hid (fun W (hT : SinT W) => moonLong_ok 0 W hT i0)
  have F := Lib.hid (fun W (hT : SinT W) => SFind_ok 0 2000 (by omega) (by omega) W hT)
  have G := Lib.hid (fun W (hT : SinT W) => PFind_ok 0 0 (by omega) (by omega) W hT)
  have HT := Lib.hid hT
  generalize slLo 0 = l1 at *
  generalize slHi 0 = l2 at *
  generalize mlLo 0 = m1 at *
  generalize mlHi 0 = m2 at *
  generalize (seY 0 2000).1 = a at *
  generalize (seY 0 2000).2 = b at *
  generalize (phF 0 0).1 = x at *
  generalize (phF 0 0).2 = y at *
  have H1 := Lib.hid (fun w => shas_true l1 l2 778094769 4010 w u1 u2 u3 ⟨by omega, by omega⟩)
  have H2 := Lib.hid (fun w => shas_true m1 m2 406718613 40030 w v1 v2 v3 ⟨by omega, by omega⟩)
  have H3 := Lib.hid (fun w => shas_true a b 63089219834394 600000 w p1 p2 a4 ⟨by omega, by omega⟩)
  have H4 := Lib.hid (fun w => shas_true x y 992260421 600000 w r1 r2 b4 ⟨by omega, by omega⟩)
  clear P B C0 a4 b4 p1 p2 r1 r2 u1 u2 u3 v1 v2 v3 i0 hT
  go_enter Tryz.func4, Tryz.ntmps4
  have HB := Lib.hid (Below.refl w.heap.size w)
  go_wp2_with fail
  refine Calls.mono (S.out _ (HT.out.below HB.out)) ?_
  rintro e wn1 ⟨rfl, hb⟩
  have HB1 := HB.out.trans (hb.mono HB.out.size)
  clear hb
  have Hkl1 := Lib.hid HB1.size; replace HB := Lib.hid (HB1.alloc HB1.size (.cells #[.int .i64 (l1), .int .i64 (l2)] 43))
  clear HB1
  have s1 := Lib.hid (SpBox.new wn1 (l1) (l2))
  obtain ⟨k1, hk1⟩ : ∃ x, x = wn1.heap.size := ⟨_, rfl⟩
  rw [← hk1] at s1 Hkl1
  go_upto_region 2 with fail
  rw [← hk1]
  obtain ⟨X1, hX1⟩ : ∃ X, X = wn1.alloc (.cells #[.int .i64 (l1), .int .i64 (l2)] 43) := ⟨_, rfl⟩
  rw [← hX1] at s1 HB ⊢
  clear hk1 hX1
  go_wp2_with fail
  refine Calls.mono (M.out _ (HT.out.below HB.out)) ?_
  rintro e wn2 ⟨rfl, hb⟩
  replace s1 := Lib.hid ((s1.out.below hb).alloc (.cells #[.int .i64 (m1), .int .i64 (m2)] 43))
  have HB2 := HB.out.trans (hb.mono HB.out.size)
  clear hb
  have Hkl2 := Lib.hid HB2.size; replace HB := Lib.hid (HB2.alloc HB2.size (.cells #[.int .i64 (m1), .int .i64 (m2)] 43))
  clear HB2
  have s2 := Lib.hid (SpBox.new wn2 (m1) (m2))
  obtain ⟨k2, hk2⟩ : ∃ x, x = wn2.heap.size := ⟨_, rfl⟩
  rw [← hk2] at s2 Hkl2
  go_upto_region 3 with fail
  rw [← hk2]
  obtain ⟨X2, hX2⟩ : ∃ X, X = wn2.alloc (.cells #[.int .i64 (m1), .int .i64 (m2)] 43) := ⟨_, rfl⟩
  rw [← hX2] at s1 s2 HB ⊢
  clear hk2 hX2
  go_wp2_with fail
  refine Calls.mono (F.out _ (HT.out.below HB.out)) ?_
  rintro e wn3 ⟨rfl, hb⟩
  replace s1 := Lib.hid ((s1.out.below hb).alloc (.cells #[.int .i64 (a), .int .i64 (b)] 43))
  replace s2 := Lib.hid ((s2.out.below hb).alloc (.cells #[.int .i64 (a), .int .i64 (b)] 43))
  have HB3 := HB.out.trans (hb.mono HB.out.size)
  clear hb
  have Hkl3 := Lib.hid HB3.size; replace HB := Lib.hid (HB3.alloc HB3.size (.cells #[.int .i64 (a), .int .i64 (b)] 43))
  clear HB3
  have s3 := Lib.hid (SpBox.new wn3 (a) (b))
  obtain ⟨k3, hk3⟩ : ∃ x, x = wn3.heap.size := ⟨_, rfl⟩
  rw [← hk3] at s3 Hkl3
  go_upto_region 4 with fail
  rw [← hk3]
  obtain ⟨X3, hX3⟩ : ∃ X, X = wn3.alloc (.cells #[.int .i64 (a), .int .i64 (b)] 43) := ⟨_, rfl⟩
  rw [← hX3] at s1 s2 s3 HB ⊢
  clear hk3 hX3
  go_wp2_with fail
  refine Calls.mono (G.out _ (HT.out.below HB.out)) ?_
  rintro e wn4 ⟨rfl, hb⟩
  replace s1 := Lib.hid ((s1.out.below hb).alloc (.cells #[.int .i64 (x), .int .i64 (y)] 43))
  replace s2 := Lib.hid ((s2.out.below hb).alloc (.cells #[.int .i64 (x), .int .i64 (y)] 43))
  replace s3 := Lib.hid ((s3.out.below hb).alloc (.cells #[.int .i64 (x), .int .i64 (y)] 43))
  have HB4 := HB.out.trans (hb.mono HB.out.size)
  clear hb
  have Hkl4 := Lib.hid HB4.size; replace HB := Lib.hid (HB4.alloc HB4.size (.cells #[.int .i64 (x), .int .i64 (y)] 43))
  clear HB4
  have s4 := Lib.hid (SpBox.new wn4 (x) (y))
  obtain ⟨k4, hk4⟩ : ∃ x, x = wn4.heap.size := ⟨_, rfl⟩
  rw [← hk4] at s4 Hkl4
  go_upto_region 5 with fail
  rw [← hk4]
  obtain ⟨X4, hX4⟩ : ∃ X, X = wn4.alloc (.cells #[.int .i64 (x), .int .i64 (y)] 43) := ⟨_, rfl⟩
  rw [← hX4] at s1 s2 s3 s4 HB ⊢
  clear hk4 hX4
  have sc1_0 := s1.out.c0; have sc1_1 := s1.out.c1; have sc1_l := s1.out.lt
  go_wp2_with fail
  refine Calls.mono (H1.out _) ?_
  rintro e wc1 ⟨rfl, hb⟩
  replace s1 := Lib.hid (s1.out.below hb)
  replace s2 := Lib.hid (s2.out.below hb)
  replace s3 := Lib.hid (s3.out.below hb)
  replace s4 := Lib.hid (s4.out.below hb)
  replace HB := Lib.hid (HB.out.trans (hb.mono HB.out.size))
  clear sc1_0 sc1_1 sc1_l
  clear hb
  have sc2_0 := s2.out.c0; have sc2_1 := s2.out.c1; have sc2_l := s2.out.lt
  go_wp2_with fail
  refine Calls.mono (H2.out _) ?_
  rintro e wc2 ⟨rfl, hb⟩
  replace s1 := Lib.hid (s1.out.below hb)
  replace s2 := Lib.hid (s2.out.below hb)
  replace s3 := Lib.hid (s3.out.below hb)
  replace s4 := Lib.hid (s4.out.below hb)
  replace HB := Lib.hid (HB.out.trans (hb.mono HB.out.size))
  clear sc2_0 sc2_1 sc2_l
  clear hb
  have sc3_0 := s3.out.c0; have sc3_1 := s3.out.c1; have sc3_l := s3.out.lt
  go_wp2_with fail
  refine Calls.mono (H3.out _) ?_
  rintro e wc3 ⟨rfl, hb⟩
  replace s1 := Lib.hid (s1.out.below hb)
  replace s2 := Lib.hid (s2.out.below hb)
  replace s3 := Lib.hid (s3.out.below hb)
  replace s4 := Lib.hid (s4.out.below hb)
  replace HB := Lib.hid (HB.out.trans (hb.mono HB.out.size))
  clear sc3_0 sc3_1 sc3_l
  clear hb
  have sc4_0 := s4.out.c0; have sc4_1 := s4.out.c1; have sc4_l := s4.out.lt
  go_wp2_with fail
  refine Calls.mono (H4.out _) ?_
  rintro e wc4 ⟨rfl, hb⟩
  replace s1 := Lib.hid (s1.out.below hb)
  replace s2 := Lib.hid (s2.out.below hb)
  replace s3 := Lib.hid (s3.out.below hb)
  replace s4 := Lib.hid (s4.out.below hb)
  replace HB := Lib.hid (HB.out.trans (hb.mono HB.out.size))
  clear sc4_0 sc4_1 sc4_l
  clear hb
  go_wp2_with fail
  go_ret
  exact ⟨rfl, HB.out⟩
end Go.Proofs.YtdifeoahaegjbaaGreatDoor
