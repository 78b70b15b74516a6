/- PlaceShifts: sidereal angles differ as longitudes do. -/
import Derived.Test.YtloaliddcaobeaaDoorPlaceWorks
namespace Go.Proofs.YtloaliddcaobeaaDoor
open Go.RowKit
set_option linter.unusedSimpArgs false
set_option linter.unusedVariables false
theorem PlBox.set {w : World} {b : Nat} {x y : Int} (h : PlBox w b x y) (u v : Int) : PlBox ((w.setCell ⟨b, 0, none⟩ (.int .i64 u)).setCell ⟨b, 1, none⟩ (.int .i64 v)) b u v :=
  ((World.rowIs.set h 0 (.int .i64 u)).set 1 (.int .i64 v)).congr (fun i hi => by
    match i, hi with
    | 0, _ => rfl
    | 1, _ => rfl)
structure SitF (w0 w : World) (a b : Nat) (x y z u : Int) : Prop where
  b1 : PlBox w a x y
  b2 : PlBox w b z u
  bl : Below w0.heap.size w0 w
theorem SitF.below {w0 w w' : World} {a b : Nat} {x y z u : Int} (h : SitF w0 w a b x y z u) (hb : Below w.heap.size w w') : SitF w0 w' a b x y z u :=
  ⟨h.b1.below hb, h.b2.below hb, h.bl.trans (hb.mono h.bl.size)⟩
theorem shift_mod (p q t : Int) : (sdLo q t - (sdLo p t - p + q)) % 1000000000 = 0 := by
  unfold sdLo
  generalize a0Lo 275313108 1002737909350806 0 t = a
  omega
set_option maxRecDepth 100000 in
set_option maxHeartbeats 8000000 in
theorem placeShifts_walk (p1 p2 q1 q2 t : Int) (w : World) (ht : SinT w) : Calls Tryd.prog 12 #[.agg #[.int .i64 p1, .int .i64 p2], .agg #[.int .i64 q1, .int .i64 q2], .int .i64 t] w fun e w' => e = .returned (.bool true) ∧ Below w.heap.size w w' := by
  have HW := Lib.hid (fun w ht => placeWorks_ok w ht)
  have HT := Lib.hid ht
  have S1 := Lib.hid (fun w => site_ok p1 p2 w)
  have S2 := Lib.hid (fun w => site_ok q1 q2 w)
  have IN := Lib.hid (fun w => instant_ok t w)
  have ti := instant_in t
  have o1 := site_pl p1 p2; have o2 := site_pl q1 q2
  have pl1 := o1.o1; have pl2 := o1.o2; have ql1 := o2.o1; have ql2 := o2.o2
  generalize p1.tmod 500000001 = x1 at *
  generalize p2.tmod 220000001 = x2 at *
  generalize q1.tmod 500000001 = y1 at *
  generalize q2.tmod 220000001 = y2 at *
  generalize t % 604800000000000 - 302400000000000 = tt at *
  have D1 := Lib.hid (fun w => Sidereal_ok x1 x2 tt w o1 ti)
  have D2 := Lib.hid (fun w => Sidereal_ok y1 y2 tt w o2 ti)
  have m := shift_mod x1 y1 tt
  obtain ⟨a1, a2, a3, a4⟩ := sd_bd x1 tt
  obtain ⟨b1, b2, b3, b4⟩ := sd_bd y1 tt
  generalize sdLo x1 tt = al at *
  generalize sdHi x1 tt = ah at *
  generalize sdLo y1 tt = bl at *
  generalize sdHi y1 tt = bh at *
  have SM := Lib.hid (fun w => same_true (al - x1 + y1) (ah - x1 + y1) bl bh w (by omega) (by omega) (by omega) (by omega))
  have v1 : wrap64 (al - x1) = al - x1 := IntWalk.wrap64_in _ (by omega)
  have v2 : wrap64 (al - x1 + y1) = al - x1 + y1 := IntWalk.wrap64_in _ (by omega)
  have v3 : wrap64 (ah - x1) = ah - x1 := IntWalk.wrap64_in _ (by omega)
  have v4 : wrap64 (ah - x1 + y1) = ah - x1 + y1 := IntWalk.wrap64_in _ (by omega)
  have HV := Lib.hid (And.intro v1 (And.intro v2 (And.intro v3 v4)))
  clear m a1 a2 a3 a4 b1 b2 b3 b4 pl1 pl2 ql1 ql2 o1 o2 ti ht v1 v2 v3 v4
  obtain ⟨k, hk⟩ : ∃ b, b = w.heap.size := ⟨_, rfl⟩
  have e5 : (w.alloc (.cells #[.int .i64 p1, .int .i64 p2] 57)).heap.size = k + 1 := by simp [hk]
  have c1 := PlBox.new w p1 p2
  have c2 := PlBox.new (w.alloc (.cells #[.int .i64 p1, .int .i64 p2] 57)) q1 q2
  rw [← hk] at c1; rw [e5] at c2
  have s1 := Lib.hid (c1.alloc (.cells #[.int .i64 q1, .int .i64 q2] 57))
  have s2 := Lib.hid c2
  have HB := Lib.hid (show Below w.heap.size w ((w.alloc (.cells #[.int .i64 p1, .int .i64 p2] 57)).alloc (.cells #[.int .i64 q1, .int .i64 q2] 57)) from (by repeat' (first | (with_reducible refine below_drewN ?_ _) | go_grown)))
  have HE5 := Lib.hid e5; have HK := Lib.hid hk
  clear c1 c2 e5
  go_enter Tryd.func12, Tryd.ntmps12
  go_upto_region 1 with fail
  (try rw [HE5.out])
  rw [← hk]
  clear hk
  obtain ⟨W, hW⟩ : ∃ W, W = (w.alloc (.cells #[.int .i64 p1, .int .i64 p2] 57)).alloc (.cells #[.int .i64 q1, .int .i64 q2] 57) := ⟨_, rfl⟩
  rw [← hW] at s1 s2 HB ⊢
  clear hW
  go_wp2_with fail
  refine Calls.mono (HW.out _ (HT.out.below HB.out)) ?_
  rintro e wc1 ⟨rfl, hb⟩
  replace s1 := Lib.hid (s1.out.below hb)
  replace s2 := Lib.hid (s2.out.below hb)
  replace HB := Lib.hid (HB.out.trans (hb.mono HB.out.size))
  clear hb
  go_upto_region 3 with fail
  have hf : SitF w wc1.drew k (k + 1) p1 p2 q1 q2 := ⟨s1.out, s2.out, HB.out.drew⟩
  clear s1 s2 HB
  go_cut [2] (fun v wx => v = .int .i64 tt ∧ Hid (SitF w wx k (k + 1) x1 x2 y1 y2))
  case first =>
    refine wp_region_G [(6, fun w' => SitF w w' k (k + 1) p1 p2 q1 q2)] (by kernel_rfl) (heldC_one (fun _ => hf)) (fun hF => ?_)
    refine wpG_take (oi := ?oi90) (v := ?vv90) 0 _ ?hi90 (List.Mem.head _) ?hc90 ?hQ90 hF ?hw90 ?hy90 (fun hF => ?hh90)
    case hi90 => (simp only [List.getElem?_toArray, List.getElem?_cons_succ, List.getElem?_cons_zero]; rfl)
    case hc90 => kernel_rfl
    case hQ90 => exact fun _ _ _ h => h
    case hw90 => rfl
    case hy90 => (intro wz hz; have z0 := hz.b1.c0; have z1 := hz.b1.c1; go_simp; try (with_reducible rfl))
    try simp only [Act.put, List.setIfInBounds_toArray, List.set_cons_zero, List.set_cons_succ]
    refine wpG_takeC (oi := ?oi91) (v := ?vv91) 2 _ [5,3] ?hi91 (List.Mem.head _) ?hc91 ?hQ91 hF ?hw91 ?hy91 (fun hF => ?hh91)
    case hi91 => (simp only [List.getElem?_toArray, List.getElem?_cons_succ, List.getElem?_cons_zero]; rfl)
    case hc91 => kernel_rfl
    case hQ91 => exact fun _ _ _ h => h
    case hw91 => rfl
    case hy91 => (intro wz hz; have z0 := hz.b2.c0; have z1 := hz.b2.c1; go_simp; try (with_reducible rfl))
    try simp only [Act.put, List.setIfInBounds_toArray, List.set_cons_zero, List.set_cons_succ]
    refine wpG_takeC (oi := ?oi92) (v := ?vv92) 4 _ [5] ?hi92 (List.Mem.head _) ?hc92 ?hQ92 hF ?hw92 ?hy92 (fun hF => ?hh92)
    case hi92 => (simp only [List.getElem?_toArray, List.getElem?_cons_succ, List.getElem?_cons_zero]; rfl)
    case hc92 => kernel_rfl
    case hQ92 => exact fun _ _ _ h => h
    case hw92 => rfl
    case hy92 => (intro wz hz; skip; go_simp; try (with_reducible rfl))
    try simp only [Act.put, List.setIfInBounds_toArray, List.set_cons_zero, List.set_cons_succ]
    refine wpG_ready (rs := [1]) (by kernel_rfl) (by simp) ?_
    refine all_one ?_
    refine wpOp_hand (oi := ?oi93) ?hi93 (fun K hK => ?hh93)
    case hi93 => (simp only [List.getElem?_toArray, List.getElem?_cons_succ, List.getElem?_cons_zero]; rfl)
    go_simp
    refine Calls.mono (S1.out _) ?_
    rintro e ya ⟨rfl, hb⟩
    replace hf := hf.below hb
    clear hb
    refine hK.out _ _ (heldC_one (fun _ => hf)) (fun hF => ?_)
    clear hK K
    try simp only [Act.put, List.setIfInBounds_toArray, List.set_cons_zero, List.set_cons_succ]
    refine wpG_ready (rs := [3]) (by kernel_rfl) (by simp) ?_
    refine all_one ?_
    refine wpOp_hand (oi := ?oi94) ?hi94 (fun K hK => ?hh94)
    case hi94 => (simp only [List.getElem?_toArray, List.getElem?_cons_succ, List.getElem?_cons_zero]; rfl)
    go_simp
    refine Calls.mono (S2.out _) ?_
    rintro e yb ⟨rfl, hb⟩
    replace hf := hf.below hb
    clear hb
    refine hK.out _ _ (heldC_one (fun _ => hf)) (fun hF => ?_)
    clear hK K
    try simp only [Act.put, List.setIfInBounds_toArray, List.set_cons_zero, List.set_cons_succ]
    refine wpG_ready (rs := [5]) (by kernel_rfl) (by simp) ?_
    refine all_one ?_
    refine wpOp_hand (oi := ?oi95) ?hi95 (fun K hK => ?hh95)
    case hi95 => (simp only [List.getElem?_toArray, List.getElem?_cons_succ, List.getElem?_cons_zero]; rfl)
    go_simp
    refine Calls.mono (IN.out _) ?_
    rintro e yc ⟨rfl, hq⟩
    (first | rw [hq] | rw [← hq])
    clear hq
    refine hK.out _ _ (heldC_one (fun _ => hf)) (fun hF => ?_)
    clear hK K
    try simp only [Act.put, List.setIfInBounds_toArray, List.set_cons_zero, List.set_cons_succ]
    have lk : k + 1 ≠ k := by omega
    have lw : w.heap.size ≤ k := by have := HK.out; omega
    have lw2 : w.heap.size ≤ k + 1 := by have := HK.out; omega
    refine wpG_ready (rs := [6]) (by kernel_rfl) (by simp) ?_
    refine all_one ?_
    have z0 := hf.b1.c0; have z1 := hf.b1.c1; have f0 := hf.b1.free 0; have f1 := hf.b1.free 1; have zl := hf.b1.lt
    refine wpOp_hand (oi := ?oi96) ?hi96 (fun K hK => ?hh96)
    case hi96 => (simp only [List.getElem?_toArray, List.getElem?_cons_succ, List.getElem?_cons_zero]; rfl)
    go_simp
    clear z0 z1 f0 f1 zl
    have hf2 : SitF w ((yb.setCell ⟨k, 0, none⟩ (.int .i64 x1)).setCell ⟨k, 1, none⟩ (.int .i64 x2)) k (k + 1) x1 x2 q1 q2 := ⟨hf.b1.set x1 x2, (hf.b2.other lk _).other lk _, (hf.bl.setCell (p := ⟨k, 0, none⟩) lw _).setCell (p := ⟨k, 1, none⟩) lw _⟩
    clear hf
    obtain ⟨U, hU⟩ : ∃ U, U = (yb.setCell ⟨k, 0, none⟩ (.int .i64 x1)).setCell ⟨k, 1, none⟩ (.int .i64 x2) := ⟨_, rfl⟩
    rw [← hU] at hf2 ⊢
    clear hU
    refine hK.out _ _ (heldC_one (fun h => absurd h (by simp))) (fun hF => ?_)
    clear hK K
    try simp only [Act.put, List.setIfInBounds_toArray, List.set_cons_zero, List.set_cons_succ]
    refine wpG_ready (rs := [7]) (by kernel_rfl) (by simp) ?_
    refine all_one ?_
    have z0 := hf2.b2.c0; have z1 := hf2.b2.c1; have f0 := hf2.b2.free 0; have f1 := hf2.b2.free 1; have zl := hf2.b2.lt
    refine wpOp_hand (oi := ?oi97) ?hi97 (fun K hK => ?hh97)
    case hi97 => (simp only [List.getElem?_toArray, List.getElem?_cons_succ, List.getElem?_cons_zero]; rfl)
    go_simp
    clear z0 z1 f0 f1 zl
    have hf3 : SitF w ((U.setCell ⟨k + 1, 0, none⟩ (.int .i64 y1)).setCell ⟨k + 1, 1, none⟩ (.int .i64 y2)) k (k + 1) x1 x2 y1 y2 := ⟨(hf2.b1.other lk.symm _).other lk.symm _, hf2.b2.set y1 y2, (hf2.bl.setCell (p := ⟨k + 1, 0, none⟩) lw2 _).setCell (p := ⟨k + 1, 1, none⟩) lw2 _⟩
    clear hf2
    obtain ⟨V, hV⟩ : ∃ V, V = (U.setCell ⟨k + 1, 0, none⟩ (.int .i64 y1)).setCell ⟨k + 1, 1, none⟩ (.int .i64 y2) := ⟨_, rfl⟩
    rw [← hV] at hf3 ⊢
    clear hV
    refine hK.out _ _ (heldC_one (fun h => absurd h (by simp))) (fun hF => ?_)
    clear hK K
    try simp only [Act.put, List.setIfInBounds_toArray, List.set_cons_zero, List.set_cons_succ]
    refine wpG_ready (rs := [8]) (by kernel_rfl) (by simp) ?_
    refine all_one ?_
    refine wpOp_hand (oi := ?oi98) ?hi98 (fun K hK => ?hh98)
    case hi98 => (simp only [List.getElem?_toArray, List.getElem?_cons_succ, List.getElem?_cons_zero]; rfl)
    go_simp
    refine hK.out _ _ (heldC_one (fun h => absurd h (by simp))) (fun hF => ?_)
    clear hK K
    try simp only [Act.put, List.setIfInBounds_toArray, List.set_cons_zero, List.set_cons_succ]
    refine wpG_done (by kernel_rfl) ?_ _
    go_wp2_with fail
    go_meet
    exact ⟨rfl, Lib.hid hf3⟩
  case rest =>
    obtain ⟨rfl, hc⟩ := hcut
    have s1 := Lib.hid hc.out.b1; have s2 := Lib.hid hc.out.b2; have HB := Lib.hid hc.out.bl
    clear hc hf S1 S2 IN HW HT
    obtain ⟨v1, v2, v3, v4⟩ := HV.out
    have sc1_0 := s1.out.c0; have sc1_1 := s1.out.c1; have sc1_l := s1.out.lt
    go_wp2_with fail
    refine Calls.mono (D1.out _) ?_
    rintro e wn3 ⟨rfl, hb⟩
    replace s1 := Lib.hid ((s1.out.below hb).alloc (.cells #[.int .i64 (al), .int .i64 (ah)] 25))
    replace s2 := Lib.hid ((s2.out.below hb).alloc (.cells #[.int .i64 (al), .int .i64 (ah)] 25))
    have HB3 := HB.out.trans (hb.mono HB.out.size)
    clear sc1_0 sc1_1 sc1_l
    clear hb
    replace HB := Lib.hid (HB3.alloc HB3.size (.cells #[.int .i64 (al), .int .i64 (ah)] 25))
    clear HB3
    have s3 := Lib.hid (SpBox.new wn3 (al) (ah))
    obtain ⟨k3, hk3⟩ : ∃ x, x = wn3.heap.size := ⟨_, rfl⟩
    rw [← hk3] at s3
    go_upto_region 5 with fail
    rw [← hk3]
    obtain ⟨X3, hX3⟩ : ∃ X, X = wn3.alloc (.cells #[.int .i64 (al), .int .i64 (ah)] 25) := ⟨_, rfl⟩
    rw [← hX3] at s1 s2 s3 HB ⊢
    clear hk3 hX3
    have sc2_0 := s2.out.c0; have sc2_1 := s2.out.c1; have sc2_l := s2.out.lt
    go_wp2_with fail
    refine Calls.mono (D2.out _) ?_
    rintro e wn4 ⟨rfl, hb⟩
    replace s1 := Lib.hid ((s1.out.below hb).alloc (.cells #[.int .i64 (bl), .int .i64 (bh)] 25))
    replace s2 := Lib.hid ((s2.out.below hb).alloc (.cells #[.int .i64 (bl), .int .i64 (bh)] 25))
    replace s3 := Lib.hid ((s3.out.below hb).alloc (.cells #[.int .i64 (bl), .int .i64 (bh)] 25))
    have HB4 := HB.out.trans (hb.mono HB.out.size)
    clear sc2_0 sc2_1 sc2_l
    clear hb
    replace HB := Lib.hid (HB4.alloc HB4.size (.cells #[.int .i64 (bl), .int .i64 (bh)] 25))
    clear HB4
    have s4 := Lib.hid (SpBox.new wn4 (bl) (bh))
    obtain ⟨k4, hk4⟩ : ∃ x, x = wn4.heap.size := ⟨_, rfl⟩
    rw [← hk4] at s4
    go_upto_region 6 with fail
    rw [← hk4]
    obtain ⟨X4, hX4⟩ : ∃ X, X = wn4.alloc (.cells #[.int .i64 (bl), .int .i64 (bh)] 25) := ⟨_, rfl⟩
    rw [← hX4] at s1 s2 s3 s4 HB ⊢
    clear hk4 hX4
    have sc1_0 := s1.out.c0; have sc1_1 := s1.out.c1; have sc1_l := s1.out.lt
    have sc2_0 := s2.out.c0; have sc2_1 := s2.out.c1; have sc2_l := s2.out.lt
    have sc3_0 := s3.out.c0; have sc3_1 := s3.out.c1; have sc3_l := s3.out.lt
    have sc4_0 := s4.out.c0; have sc4_1 := s4.out.c1; have sc4_l := s4.out.lt
    go_wp2_with fail
    refine Calls.mono (SM.out _) ?_
    rintro e wc2 ⟨rfl, hb⟩
    replace s1 := Lib.hid (s1.out.below hb)
    replace s2 := Lib.hid (s2.out.below hb)
    replace s3 := Lib.hid (s3.out.below hb)
    replace s4 := Lib.hid (s4.out.below hb)
    replace HB := Lib.hid (HB.out.trans (hb.mono HB.out.size))
    clear sc1_0 sc1_1 sc1_l sc2_0 sc2_1 sc2_l sc3_0 sc3_1 sc3_l sc4_0 sc4_1 sc4_l
    clear hb
    go_wp2_with fail
    go_ret
    exact ⟨rfl, HB.out⟩
end Go.Proofs.YtloaliddcaobeaaDoor
