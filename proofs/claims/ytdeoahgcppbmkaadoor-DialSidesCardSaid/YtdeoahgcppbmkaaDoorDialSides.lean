/- DialSides: the lines of the morning and of the afternoon are symmetrical and in order. -/
import Derived.Test.YtdeoahgcppbmkaaDoorDialL
import Derived.Test.YtdeoahgcppbmkaaDoorAt
namespace Go.Proofs.YtdeoahgcppbmkaaDoor
open Go.RowKit
set_option linter.unusedSimpArgs false
set_option linter.unusedVariables false
set_option maxRecDepth 100000 in
set_option maxHeartbeats 8000000 in
theorem dialSides_walk (lat hour : Int) (w : World) (hT : SinT w) : Calls Tryd.prog 7 #[.int .i64 lat, .int .i64 hour] w fun e w' => e = .returned (.bool true) ∧ Below w.heap.size w w' := by
  have HW := Lib.hid (dialWorks_ok w hT)
  have HT := Lib.hid hT
  have K1 := Lib.hid (fun w => at_any lat 210000001 w (by omega) (by omega))
  have K2 := Lib.hid (fun w => at_any hour 12 w (by omega) (by omega))
  obtain ⟨x, hx⟩ : ∃ x, x = 10000000 + lat % 210000001 := ⟨_, rfl⟩
  obtain ⟨h, hh⟩ : ∃ x, x = 6 + hour % 12 := ⟨_, rfl⟩
  have ex : wrap64 (10000000 + lat % 210000001) = x := by rw [hx]; exact IntWalk.wrap64_in _ (by omega)
  have eh : wrap64 (6 + hour % 12) = h := by rw [hh]; exact IntWalk.wrap64_in _ (by omega)
  have x1 : 10000000 ≤ x := by omega
  have x2 : x ≤ 220000000 := by omega
  have h1 : 6 ≤ h := by omega
  have h2 : h ≤ 17 := by omega
  clear hx hh
  generalize lat % 210000001 = la at *
  generalize hour % 12 = ho at *
  obtain ⟨y1, y2, y3⟩ := dialSides_law x1 x2 h1 h2
  have B1 := dl_ok x1 x2 h1 (show h ≤ 18 by omega)
  have B2 := dl_ok x1 x2 (show 6 ≤ 24 - h by omega) (show 24 - h ≤ 18 by omega)
  have B3 := dl_ok x1 x2 (show 6 ≤ h + 1 by omega) (show h + 1 ≤ 18 by omega)
  have L1 := Lib.hid (fun W (hT : SinT W) => Line_ok x h W hT B1.ok)
  have L2 := Lib.hid (fun W (hT : SinT W) => Line_ok x (24 - h) W hT B2.ok)
  have L3 := Lib.hid (fun W (hT : SinT W) => Line_ok x (h + 1) W hT B3.ok)
  obtain ⟨p1, p2, p3, p4⟩ := B1.bd
  obtain ⟨q1, q2, q3, q4⟩ := B2.bd
  obtain ⟨r1, r2, r3, r4⟩ := B3.bd
  obtain ⟨m, hm⟩ : ∃ x, x = 24 - h := ⟨_, rfl⟩
  obtain ⟨n, hn⟩ : ∃ x, x = h + 1 := ⟨_, rfl⟩
  have em : wrap64 (24 - h) = m := by rw [hm]; exact IntWalk.wrap64_in _ (by omega)
  have en : wrap64 (h + 1) = n := by rw [hn]; exact IntWalk.wrap64_in _ (by omega)
  rw [← hm] at L2 y1 y2 q1 q2 q3 q4
  rw [← hn] at L3 y3 r1 r2 r3 r4
  clear B1 B2 B3 hm hn
  generalize dlL x h = al at *
  generalize dlH x h = ah at *
  generalize dlL x m = bl at *
  generalize dlH x m = bh at *
  generalize dlL x n = cl at *
  generalize dlH x n = ch at *
  have M := Lib.hid (fun w => meets_true al ah (-bh - 2) (-bl + 2) w y1 y2)
  have w1' : wrap64 (-bh) = -bh := IntWalk.wrap64_in _ (by omega)
  have w2' : wrap64 (-bh - 2) = -bh - 2 := IntWalk.wrap64_in _ (by omega)
  have w3' : wrap64 (-bl) = -bl := IntWalk.wrap64_in _ (by omega)
  have w4' : wrap64 (-bl + 2) = -bl + 2 := IntWalk.wrap64_in _ (by omega)
  have g : decide (ah < cl) = true := decide_eq_true y3
  clear hT x1 x2 h1 h2 y1 y2 p1 p2 p3 p4 q1 q2 q3 q4 r1 r2 r3 r4
  go_enter Tryd.func7, Tryd.ntmps7
  have HB := Lib.hid (Below.refl w.heap.size w)
  go_wp2_with fail
  refine Calls.mono (HW.out) ?_
  rintro e wc1 ⟨rfl, hb⟩
  replace HB := Lib.hid (HB.out.trans (hb.mono HB.out.size))
  clear hb
  go_wp2_with fail
  refine Calls.mono (K1.out _) ?_
  rintro e wq ⟨rfl, hq⟩
  (first | rw [hq] | rw [← hq])
  clear hq
  go_wp2_with fail
  refine Calls.mono (K2.out _) ?_
  rintro e wq ⟨rfl, hq⟩
  (first | rw [hq] | rw [← hq])
  clear hq
  go_wp2_with fail
  refine Calls.mono (L1.out _ (HT.out.below HB.out)) ?_
  rintro e wn1 ⟨rfl, hb⟩
  have HB1 := HB.out.trans (hb.mono HB.out.size)
  clear hb
  have Hkl1 := Lib.hid HB1.size; replace HB := Lib.hid (HB1.alloc HB1.size (.cells #[.int .i64 (al), .int .i64 (ah)] 24))
  clear HB1
  have s1 := Lib.hid (SpBox.new wn1 (al) (ah))
  obtain ⟨k1, hk1⟩ : ∃ x, x = wn1.heap.size := ⟨_, rfl⟩
  rw [← hk1] at s1 Hkl1
  go_upto_region 5 with fail
  rw [← hk1]
  obtain ⟨X1, hX1⟩ : ∃ X, X = wn1.alloc (.cells #[.int .i64 (al), .int .i64 (ah)] 24) := ⟨_, rfl⟩
  rw [← hX1] at s1 HB ⊢
  clear hk1 hX1
  go_wp2_with fail
  refine Calls.mono (L2.out _ (HT.out.below HB.out)) ?_
  rintro e wn2 ⟨rfl, hb⟩
  replace s1 := Lib.hid ((s1.out.below hb).alloc (.cells #[.int .i64 (bl), .int .i64 (bh)] 24))
  have HB2 := HB.out.trans (hb.mono HB.out.size)
  clear hb
  have Hkl2 := Lib.hid HB2.size; replace HB := Lib.hid (HB2.alloc HB2.size (.cells #[.int .i64 (bl), .int .i64 (bh)] 24))
  clear HB2
  have s2 := Lib.hid (SpBox.new wn2 (bl) (bh))
  obtain ⟨k2, hk2⟩ : ∃ x, x = wn2.heap.size := ⟨_, rfl⟩
  rw [← hk2] at s2 Hkl2
  go_upto_region 6 with fail
  rw [← hk2]
  obtain ⟨X2, hX2⟩ : ∃ X, X = wn2.alloc (.cells #[.int .i64 (bl), .int .i64 (bh)] 24) := ⟨_, rfl⟩
  rw [← hX2] at s1 s2 HB ⊢
  clear hk2 hX2
  go_wp2_with fail
  refine Calls.mono (L3.out _ (HT.out.below HB.out)) ?_
  rintro e wn3 ⟨rfl, hb⟩
  replace s1 := Lib.hid ((s1.out.below hb).alloc (.cells #[.int .i64 (cl), .int .i64 (ch)] 24))
  replace s2 := Lib.hid ((s2.out.below hb).alloc (.cells #[.int .i64 (cl), .int .i64 (ch)] 24))
  have HB3 := HB.out.trans (hb.mono HB.out.size)
  clear hb
  have Hkl3 := Lib.hid HB3.size; replace HB := Lib.hid (HB3.alloc HB3.size (.cells #[.int .i64 (cl), .int .i64 (ch)] 24))
  clear HB3
  have s3 := Lib.hid (SpBox.new wn3 (cl) (ch))
  obtain ⟨k3, hk3⟩ : ∃ x, x = wn3.heap.size := ⟨_, rfl⟩
  rw [← hk3] at s3 Hkl3
  go_upto_region 7 with fail
  rw [← hk3]
  obtain ⟨X3, hX3⟩ : ∃ X, X = wn3.alloc (.cells #[.int .i64 (cl), .int .i64 (ch)] 24) := ⟨_, rfl⟩
  rw [← hX3] at s1 s2 s3 HB ⊢
  clear hk3 hX3
  have sc1_0 := s1.out.c0; have sc1_1 := s1.out.c1; have sc1_l := s1.out.lt
  have sc2_0 := s2.out.c0; have sc2_1 := s2.out.c1; have sc2_l := s2.out.lt
  go_wp2_with fail
  refine Calls.mono (M.out _) ?_
  rintro e wc2 ⟨rfl, hb⟩
  replace s1 := Lib.hid (s1.out.below hb)
  replace s2 := Lib.hid (s2.out.below hb)
  replace s3 := Lib.hid (s3.out.below hb)
  replace HB := Lib.hid (HB.out.trans (hb.mono HB.out.size))
  clear sc1_0 sc1_1 sc1_l sc2_0 sc2_1 sc2_l
  clear hb
  have sc1_0 := s1.out.c0; have sc1_1 := s1.out.c1; have sc1_l := s1.out.lt
  have sc3_0 := s3.out.c0; have sc3_1 := s3.out.c1; have sc3_l := s3.out.lt
  go_wp2_with fail
  go_ret
  exact ⟨rfl, HB.out⟩
end Go.Proofs.YtdeoahgcppbmkaaDoor
