/- TrigInverts: arcs of sines and cosines contain the angle. -/
import Derived.Test.YtdeoahgcppbmkaaDoorInvP
import Derived.Test.YtdeoahgcppbmkaaDoorAsinS
import Derived.Test.YtdeoahgcppbmkaaDoorArcO
import Derived.Test.YtdeoahgcppbmkaaDoorTrigWorks
import Derived.Test.YtdeoahgcppbmkaaDoorSpan
namespace Go.Proofs.YtdeoahgcppbmkaaDoor
open Go.RowKit
set_option linter.unusedSimpArgs false
set_option linter.unusedVariables false
/-- How the arc of the law ends: open, or with an interval that holds both angles. -/
theorem inv_arc (L H : Int) (hl : -250000000 ≤ L) (lh : L ≤ H) (hh : H ≤ 250000000) (n : H - L ≤ 100000000) : (∀ w, Calls Tryd.prog 25 #[.agg #[.int .i64 (soLo L H), .int .i64 (soHi L H)], .agg #[.int .i64 (coLo L H), .int .i64 (coHi L H)]] w fun e w' => e = .returned (.tuple #[.agg #[.int .i64 0, .int .i64 0], .int .i64 11]) ∧ Below w.heap.size w w') ∨
    ∃ y z : Int, (∀ w, Calls Tryd.prog 25 #[.agg #[.int .i64 (soLo L H), .int .i64 (soHi L H)], .agg #[.int .i64 (coLo L H), .int .i64 (coHi L H)]] w fun e w' => e = .returned (.tuple #[.agg #[.int .i64 y, .int .i64 z], .int .i64 0]) ∧ Below w.heap.size w w') ∧ 0 ≤ y ∧ y < 1000000000 ∧ y ≤ z ∧ z ≤ 2000000000 ∧ (L - y) % 1000000000 ≤ z - y ∧ (H - y) % 1000000000 ≤ z - y := by
  obtain ⟨s1, s2, s3⟩ := so_tri L H
  obtain ⟨c1, c2, c3⟩ := co_tri L H
  have sl := so_left L H; have sr := so_right L H
  have cl := co_left L H; have cr := co_right (a := L) (b := H) lh (by omega)
  by_cases no : soLo L H ≤ 0 ∧ 0 ≤ soHi L H ∧ coLo L H ≤ 0 ∧ 0 ≤ coHi L H
  · exact .inl (fun w => Arc_open _ _ _ _ ⟨by omega, by omega, by omega⟩ ⟨by omega, by omega, by omega⟩ no.1 no.2.1 no.2.2.1 no.2.2.2 w)
  · have A : ArcIn (soLo L H) (soHi L H) (coLo L H) (coHi L H) := ⟨⟨by omega, by omega⟩, ⟨by omega, by omega⟩, ⟨by omega, by omega⟩, ⟨by omega, by omega⟩, s2, c2, no⟩
    by_cases hw : 400000000 < arcHi (soLo L H) (soHi L H) (coLo L H) (coHi L H) - arcLo (soLo L H) (soHi L H) (coLo L H) (coHi L H)
    · left
      intro w
      have h := Arc_ok _ _ _ _ A w
      have e : arcOut (soLo L H) (soHi L H) (coLo L H) (coHi L H) = .tuple #[.agg #[.int .i64 0, .int .i64 0], .int .i64 11] := if_pos hw
      rw [e] at h
      exact h
    · right
      have a1 := arc_holds (al := L) s1 s2 s3 c1 c2 c3 no hw sl.1 sl.2 cl.1 cl.2
      have a2 := arc_holds (al := H) s1 s2 s3 c1 c2 c3 no hw sr.1 sr.2 cr.1 cr.2
      refine ⟨arcLo (soLo L H) (soHi L H) (coLo L H) (coHi L H) % 1000000000, arcLo (soLo L H) (soHi L H) (coLo L H) (coHi L H) % 1000000000 + arcHi (soLo L H) (soHi L H) (coLo L H) (coHi L H) - arcLo (soLo L H) (soHi L H) (coLo L H) (coHi L H), ?_, ?_⟩
      · intro w
        have h := Arc_ok _ _ _ _ A w
        rw [arcOut_narrow hw] at h
        exact h
      · clear sl sr cl cr A no s1 s2 s3 c1 c2 c3
        generalize arcLo (soLo L H) (soHi L H) (coLo L H) (coHi L H) = lo at *
        generalize arcHi (soLo L H) (soHi L H) (coLo L H) (coHi L H) = hi at *
        omega
set_option maxRecDepth 100000 in
set_option maxHeartbeats 8000000 in
theorem trigInverts_walk (p q : Int) (w : World) (ht : SinT w) : Calls Tryd.prog 4 #[.agg #[.int .i64 p, .int .i64 q]] w fun e w' => e = .returned (.bool true) ∧ Below w.heap.size w w' := by
  have HW := Lib.hid (fun w ht => trigWorks_ok w ht)
  have HT := Lib.hid ht
  have cb := cut_bounds p q 250000000 (by omega)
  have CU := Lib.hid (fun w => cut_any p q 250000000 w (by omega) (by omega))
  generalize min (p.tmod (250000000 + 1)) (q.tmod (250000000 + 1)) = L at *
  generalize max (p.tmod (250000000 + 1)) (q.tmod (250000000 + 1)) = M at *
  obtain ⟨cb1, cb2, cb3⟩ := cb
  obtain ⟨H, hH⟩ : ∃ x, x = min M (L + 100000000) := ⟨_, rfl⟩
  have h1 : L ≤ H := by omega
  have h2 : H ≤ 250000000 := by omega
  have h3 : H - L ≤ 100000000 := by omega
  have w1 : wrap64 (L + 100000000) = L + 100000000 := IntWalk.wrap64_in _ (by omega)
  have em : min M (L + 100000000) = H := hH.symm
  clear hH
  obtain ⟨s1, s2, s3⟩ := so_tri L H
  have e1 : clT (soLo L H) = soLo L H := by unfold clT; omega
  have e2 : clT (soHi L H) = soHi L H := by unfold clT; omega
  have SO := Lib.hid (fun w ht => SinOver_ok L H w ht ⟨by omega, h1, by omega⟩)
  have CO := Lib.hid (fun w ht => CosOver_ok L H w ht ⟨by omega, h1, by omega⟩)
  have AS0 := fun w => ArcSin_ok (soLo L H) (soHi L H) w ⟨by omega, s2, by omega⟩
  rw [e1, e2] at AS0
  have AS := Lib.hid AS0
  have g1 := asLo_le (n := soLo L H) (al := L) ⟨by omega, by omega⟩ ⟨by omega, by omega⟩ (by
    have a := (sin_span L).lo
    have b := Rat.intCast_le_intCast.2 (so_left L H).1
    grind)
  have g2 := asHi_ge (n := soHi L H) (al := H) ⟨by omega, by omega⟩ ⟨by omega, by omega⟩ (by
    have a := (sin_span H).hi
    have b := Rat.intCast_le_intCast.2 (so_right L H).2
    grind)
  have HO := Lib.hid (fun w => holds_true (asLo (soLo L H)) (asHi (soHi L H)) L H w g1 g2)
  have IA := Lib.hid (inv_arc L H (by omega) h1 h2 h3)
  clear AS0 e1 e2 s1 s2 s3 g1 g2 ht
  generalize asLo (soLo L H) = xl at *
  generalize asHi (soHi L H) = xh at *
  generalize soLo L H = sl at *
  generalize soHi L H = sh at *
  generalize coLo L H = cl at *
  generalize coHi L H = ch at *
  have HLB := Lib.hid (And.intro cb1 (And.intro h1 h2))
  have HWM := Lib.hid (And.intro w1 em)
  clear cb1 cb2 cb3 h1 h2 h3 w1 em
  have b1 := SpBox.new w p q
  obtain ⟨k, hk⟩ : ∃ b, b = w.heap.size := ⟨_, rfl⟩
  rw [← hk] at b1
  have s1 := Lib.hid b1
  have HB := Lib.hid (show Below w.heap.size w (w.alloc (.cells #[.int .i64 p, .int .i64 q] 24)) from (by repeat' (first | (with_reducible refine below_drewN ?_ _) | go_grown)))
  have HK := Lib.hid hk
  clear b1
  go_enter Tryd.func4, Tryd.ntmps4
  go_upto_region 1 with fail
  rw [← hk]
  clear hk
  obtain ⟨W, hW⟩ : ∃ W, W = w.alloc (.cells #[.int .i64 p, .int .i64 q] 24) := ⟨_, rfl⟩
  rw [← hW] at s1 HB ⊢
  clear hW
  go_wp2_with fail
  refine Calls.mono (HW.out _ (HT.out.below HB.out)) ?_
  rintro e wc1 ⟨rfl, hb⟩
  replace s1 := Lib.hid (s1.out.below hb)
  replace HB := Lib.hid (HB.out.trans (hb.mono HB.out.size))
  clear hb
  have sc1_0 := s1.out.c0; have sc1_1 := s1.out.c1; have sc1_l := s1.out.lt
  go_wp2_with fail
  refine Calls.mono (CU.out _) ?_
  rintro e wc2 ⟨rfl, hb⟩
  replace s1 := Lib.hid (s1.out.below hb)
  replace HB := Lib.hid (HB.out.trans (hb.mono HB.out.size))
  clear sc1_0 sc1_1 sc1_l
  clear hb
  have c0 := s1.out.c0; have c1 := s1.out.c1; have cc := s1.out.lt; have f0 := s1.out.free 0; have f1 := s1.out.free 1
  go_upto_region 4 with fail
  clear c0 c1 cc f0 f1
  have lw : w.heap.size ≤ k := by have := HK.out; omega
  have n1 := s1.out.set L M
  have nB := (HB.out.setCell (p := ⟨k, 0, none⟩) lw (.int .i64 L)).setCell (p := ⟨k, 1, none⟩) lw (.int .i64 M)
  clear s1 HB
  obtain ⟨U, hU⟩ : ∃ U, U = (wc2.setCell ⟨k, 0, none⟩ (.int .i64 L)).setCell ⟨k, 1, none⟩ (.int .i64 M) := ⟨_, rfl⟩
  rw [← hU] at n1 nB ⊢
  clear hU
  have c0 := n1.c0; have c1 := n1.c1; have cc := n1.lt; have f1 := n1.free 1
  obtain ⟨v1, v2⟩ := HWM.out
  go_upto_region 5 with fail
  clear c0 c1 cc f1 v1 v2
  have s1 := Lib.hid (n1.set1 H)
  have HB := Lib.hid (nB.setCell (p := ⟨k, 1, none⟩) lw (.int .i64 H))
  clear n1 nB
  obtain ⟨V, hV⟩ : ∃ V, V = U.setCell ⟨k, 1, none⟩ (.int .i64 H) := ⟨_, rfl⟩
  rw [← hV] at s1 HB ⊢
  clear hV
  have sc1_0 := s1.out.c0; have sc1_1 := s1.out.c1; have sc1_l := s1.out.lt
  go_wp2_with fail
  refine Calls.mono (SO.out _ (HT.out.below HB.out)) ?_
  rintro e wn2 ⟨rfl, hb⟩
  replace s1 := Lib.hid ((s1.out.below hb).alloc (.cells #[.int .i64 (sl), .int .i64 (sh)] 24))
  have HB2 := HB.out.trans (hb.mono HB.out.size)
  clear sc1_0 sc1_1 sc1_l
  clear hb
  replace HB := Lib.hid (HB2.alloc HB2.size (.cells #[.int .i64 (sl), .int .i64 (sh)] 24))
  clear HB2
  have s2 := Lib.hid (SpBox.new wn2 (sl) (sh))
  obtain ⟨k2, hk2⟩ : ∃ x, x = wn2.heap.size := ⟨_, rfl⟩
  rw [← hk2] at s2
  go_upto_region 6 with fail
  rw [← hk2]
  obtain ⟨X2, hX2⟩ : ∃ X, X = wn2.alloc (.cells #[.int .i64 (sl), .int .i64 (sh)] 24) := ⟨_, rfl⟩
  rw [← hX2] at s1 s2 HB ⊢
  clear hk2 hX2
  have sc1_0 := s1.out.c0; have sc1_1 := s1.out.c1; have sc1_l := s1.out.lt
  go_wp2_with fail
  refine Calls.mono (CO.out _ (HT.out.below HB.out)) ?_
  rintro e wn3 ⟨rfl, hb⟩
  replace s1 := Lib.hid ((s1.out.below hb).alloc (.cells #[.int .i64 (cl), .int .i64 (ch)] 24))
  replace s2 := Lib.hid ((s2.out.below hb).alloc (.cells #[.int .i64 (cl), .int .i64 (ch)] 24))
  have HB3 := HB.out.trans (hb.mono HB.out.size)
  clear sc1_0 sc1_1 sc1_l
  clear hb
  replace HB := Lib.hid (HB3.alloc HB3.size (.cells #[.int .i64 (cl), .int .i64 (ch)] 24))
  clear HB3
  have s3 := Lib.hid (SpBox.new wn3 (cl) (ch))
  obtain ⟨k3, hk3⟩ : ∃ x, x = wn3.heap.size := ⟨_, rfl⟩
  rw [← hk3] at s3
  go_upto_region 7 with fail
  rw [← hk3]
  obtain ⟨X3, hX3⟩ : ∃ X, X = wn3.alloc (.cells #[.int .i64 (cl), .int .i64 (ch)] 24) := ⟨_, rfl⟩
  rw [← hX3] at s1 s2 s3 HB ⊢
  clear hk3 hX3
  have sc2_0 := s2.out.c0; have sc2_1 := s2.out.c1; have sc2_l := s2.out.lt
  go_wp2_with fail
  refine Calls.mono (AS.out _) ?_
  rintro e wn4 ⟨rfl, hb⟩
  replace s1 := Lib.hid ((s1.out.below hb).alloc (.cells #[.int .i64 (xl), .int .i64 (xh)] 24))
  replace s2 := Lib.hid ((s2.out.below hb).alloc (.cells #[.int .i64 (xl), .int .i64 (xh)] 24))
  replace s3 := Lib.hid ((s3.out.below hb).alloc (.cells #[.int .i64 (xl), .int .i64 (xh)] 24))
  have HB4 := HB.out.trans (hb.mono HB.out.size)
  clear sc2_0 sc2_1 sc2_l
  clear hb
  replace HB := Lib.hid (HB4.alloc HB4.size (.cells #[.int .i64 (xl), .int .i64 (xh)] 24))
  clear HB4
  have s4 := Lib.hid (SpBox.new wn4 (xl) (xh))
  obtain ⟨k4, hk4⟩ : ∃ x, x = wn4.heap.size := ⟨_, rfl⟩
  rw [← hk4] at s4
  go_upto_region 8 with fail
  rw [← hk4]
  obtain ⟨X4, hX4⟩ : ∃ X, X = wn4.alloc (.cells #[.int .i64 (xl), .int .i64 (xh)] 24) := ⟨_, rfl⟩
  rw [← hX4] at s1 s2 s3 s4 HB ⊢
  clear hk4 hX4
  rcases IA.out with AO | ⟨y, z, AO, y0, y1, yz, z1, m1, m2⟩
  · have AH := Lib.hid AO
    clear AO IA
    have sc2_0 := s2.out.c0; have sc2_1 := s2.out.c1; have sc2_l := s2.out.lt
    have sc3_0 := s3.out.c0; have sc3_1 := s3.out.c1; have sc3_l := s3.out.lt
    go_wp2_with fail
    refine Calls.mono (AH.out _) ?_
    rintro e wa ⟨rfl, hb⟩
    have t1 := (s1.out.below hb).alloc (.cells #[.int .i64 0, .int .i64 0] 24)
    have t4 := (s4.out.below hb).alloc (.cells #[.int .i64 0, .int .i64 0] 24)
    have tB := Lib.hid ((HB.out.trans (hb.mono HB.out.size)).alloc (HB.out.trans (hb.mono HB.out.size)).size (.cells #[.int .i64 0, .int .i64 0] 24))
    clear sc2_0 sc2_1 sc2_l sc3_0 sc3_1 sc3_l
    clear hb s1 s2 s3 s4 HB
    have c0 := t1.c0; have c1 := t1.c1; have cc := t1.lt
    have d0 := t4.c0; have d1 := t4.c1; have dd := t4.lt
    go_wp2_with fail
    refine Calls.mono (HO.out _) ?_
    rintro e wb ⟨rfl, hb⟩
    have tB2 := Lib.hid (tB.out.trans (hb.mono tB.out.size))
    clear hb
    go_wp2_with fail
    go_ret
    exact ⟨rfl, tB2.out⟩
  · have AH := Lib.hid AO
    obtain ⟨l1, l2, l3⟩ := HLB.out
    have M1 := Lib.hid (fun w => same_true y z L L w (by omega) (by omega) (by omega) m1)
    have M2 := Lib.hid (fun w => same_true y z H H w (by omega) (by omega) (by omega) m2)
    clear AO IA y0 y1 yz z1 m1 m2 l1 l2 l3
    have sc2_0 := s2.out.c0; have sc2_1 := s2.out.c1; have sc2_l := s2.out.lt
    have sc3_0 := s3.out.c0; have sc3_1 := s3.out.c1; have sc3_l := s3.out.lt
    go_wp2_with fail
    refine Calls.mono (AH.out _) ?_
    rintro e wn5 ⟨rfl, hb⟩
    replace s1 := Lib.hid ((s1.out.below hb).alloc (.cells #[.int .i64 (y), .int .i64 (z)] 24))
    replace s2 := Lib.hid ((s2.out.below hb).alloc (.cells #[.int .i64 (y), .int .i64 (z)] 24))
    replace s3 := Lib.hid ((s3.out.below hb).alloc (.cells #[.int .i64 (y), .int .i64 (z)] 24))
    replace s4 := Lib.hid ((s4.out.below hb).alloc (.cells #[.int .i64 (y), .int .i64 (z)] 24))
    have HB5 := HB.out.trans (hb.mono HB.out.size)
    clear sc2_0 sc2_1 sc2_l sc3_0 sc3_1 sc3_l
    clear hb
    replace HB := Lib.hid (HB5.alloc HB5.size (.cells #[.int .i64 (y), .int .i64 (z)] 24))
    clear HB5
    have s5 := Lib.hid (SpBox.new wn5 (y) (z))
    obtain ⟨k5, hk5⟩ : ∃ x, x = wn5.heap.size := ⟨_, rfl⟩
    rw [← hk5] at s5
    go_upto_region 9 with fail
    rw [← hk5]
    obtain ⟨X5, hX5⟩ : ∃ X, X = wn5.alloc (.cells #[.int .i64 (y), .int .i64 (z)] 24) := ⟨_, rfl⟩
    rw [← hX5] at s1 s2 s3 s4 s5 HB ⊢
    clear hk5 hX5
    have sc4_0 := s4.out.c0; have sc4_1 := s4.out.c1; have sc4_l := s4.out.lt
    have sc1_0 := s1.out.c0; have sc1_1 := s1.out.c1; have sc1_l := s1.out.lt
    have sc5_0 := s5.out.c0; have sc5_1 := s5.out.c1; have sc5_l := s5.out.lt
    go_wp2_with fail
    refine Calls.mono (HO.out _) ?_
    rintro e wc3 ⟨rfl, hb⟩
    replace s1 := Lib.hid (s1.out.below hb)
    replace s2 := Lib.hid (s2.out.below hb)
    replace s3 := Lib.hid (s3.out.below hb)
    replace s4 := Lib.hid (s4.out.below hb)
    replace s5 := Lib.hid (s5.out.below hb)
    replace HB := Lib.hid (HB.out.trans (hb.mono HB.out.size))
    clear sc4_0 sc4_1 sc4_l sc1_0 sc1_1 sc1_l sc5_0 sc5_1 sc5_l
    clear hb
    have sc1_0 := s1.out.c0; have sc1_1 := s1.out.c1; have sc1_l := s1.out.lt
    have sc5_0 := s5.out.c0; have sc5_1 := s5.out.c1; have sc5_l := s5.out.lt
    go_wp2_with fail
    refine Calls.mono (M1.out _) ?_
    rintro e wc4 ⟨rfl, hb⟩
    replace s1 := Lib.hid (s1.out.below hb)
    replace s2 := Lib.hid (s2.out.below hb)
    replace s3 := Lib.hid (s3.out.below hb)
    replace s4 := Lib.hid (s4.out.below hb)
    replace s5 := Lib.hid (s5.out.below hb)
    replace HB := Lib.hid (HB.out.trans (hb.mono HB.out.size))
    clear sc1_0 sc1_1 sc1_l sc5_0 sc5_1 sc5_l
    clear hb
    have sc1_0 := s1.out.c0; have sc1_1 := s1.out.c1; have sc1_l := s1.out.lt
    have sc5_0 := s5.out.c0; have sc5_1 := s5.out.c1; have sc5_l := s5.out.lt
    go_wp2_with fail
    refine Calls.mono (M2.out _) ?_
    rintro e wc5 ⟨rfl, hb⟩
    replace s1 := Lib.hid (s1.out.below hb)
    replace s2 := Lib.hid (s2.out.below hb)
    replace s3 := Lib.hid (s3.out.below hb)
    replace s4 := Lib.hid (s4.out.below hb)
    replace s5 := Lib.hid (s5.out.below hb)
    replace HB := Lib.hid (HB.out.trans (hb.mono HB.out.size))
    clear sc1_0 sc1_1 sc1_l sc5_0 sc5_1 sc5_l
    clear hb
    go_wp2_with fail
    go_ret
    exact ⟨rfl, HB.out⟩
end Go.Proofs.YtdeoahgcppbmkaaDoor
