/- dial.Line. -/
import Derived.Test.YtdeoahgcppbmkaaDoorEqu
import Derived.Test.YtdeoahgcppbmkaaDoorSkyLaw
namespace Go.Proofs.YtdeoahgcppbmkaaDoor
open Go.RowKit
set_option linter.unusedSimpArgs false
set_option linter.unusedVariables false
/-- The angle of an hour. -/
def hrA (hour : Int) : Int := ((hour - 12) * 1000000000).tdiv 24
/-- The box of the direction. -/
def dyL (lat hour : Int) : Int := tmLo (sLo lat) (sHi lat) (sLo (hrA hour)) (sHi (hrA hour))
def dyH (lat hour : Int) : Int := tmHi (sLo lat) (sHi lat) (sLo (hrA hour)) (sHi (hrA hour))
/-- The arc. -/
def daL (lat hour : Int) : Int := arcLo (dyL lat hour) (dyH lat hour) (cLo (hrA hour)) (cHi (hrA hour))
def daH (lat hour : Int) : Int := arcHi (dyL lat hour) (dyH lat hour) (cLo (hrA hour)) (cHi (hrA hour))
/-- What Line hands back. -/
def dlS (lat hour : Int) : Int := if 500000000 < daL lat hour % 1000000000 then 1000000000 else 0
def dlL (lat hour : Int) : Int := daL lat hour % 1000000000 - dlS lat hour
def dlH (lat hour : Int) : Int := daL lat hour % 1000000000 + daH lat hour - daL lat hour - dlS lat hour
structure DlOk (lat hour : Int) : Prop where
  a1 : 10000000 ≤ lat
  a2 : lat ≤ 220000000
  h1 : 6 ≤ hour
  h2 : hour ≤ 18
  no : ¬ (dyL lat hour ≤ 0 ∧ 0 ≤ dyH lat hour ∧ cLo (hrA hour) ≤ 0 ∧ 0 ≤ cHi (hrA hour))
  nw : ¬ 400000000 < daH lat hour - daL lat hour
  od : daL lat hour ≤ daH lat hour
set_option maxRecDepth 100000 in
set_option maxHeartbeats 16000000 in
theorem Line_ok (lat hour : Int) (w : World) (hT : SinT w) (h : DlOk lat hour) : Calls Tryd.prog 40 #[.int .i64 lat, .int .i64 hour] w fun e w' => e = .returned (.tuple #[.agg #[.int .i64 (dlL lat hour), .int .i64 (dlH lat hour)], .int .i64 0]) ∧ Below w.heap.size w w' := by
  obtain ⟨a1, a2, h1, h2, no, nw, od⟩ := h
  have hb : -250000000 ≤ hrA hour ∧ hrA hour ≤ 250000000 := by
    unfold hrA
    rcases (by omega : hour = 6 ∨ hour = 7 ∨ hour = 8 ∨ hour = 9 ∨ hour = 10 ∨ hour = 11 ∨ hour = 12 ∨ hour = 13 ∨ hour = 14 ∨ hour = 15 ∨ hour = 16 ∨ hour = 17 ∨ hour = 18) with rfl | rfl | rfl | rfl | rfl | rfl | rfl | rfl | rfl | rfl | rfl | rfl | rfl <;> decide
  have e1 : wrap64 (hour - 12) = hour - 12 := IntWalk.wrap64_in _ (by omega)
  have e2' : wrap64 ((hour - 12) * 1000000000) = (hour - 12) * 1000000000 := IntWalk.wrap64_in _ (by omega)
  have e3 : wrap64 (((hour - 12) * 1000000000).tdiv 24) = hrA hour := by
    have : hrA hour = ((hour - 12) * 1000000000).tdiv 24 := rfl
    rw [← this]; exact IntWalk.wrap64_in _ (by omega)
  have SH := Lib.hid (fun W (hT : SinT W) => trSin_ok (hrA hour) W hT (by omega))
  have CH := Lib.hid (fun W (hT : SinT W) => trCos_ok (hrA hour) W hT (by omega))
  have SF := Lib.hid (fun W (hT : SinT W) => trSin_ok lat W hT (by omega))
  have bS := s_tms (hrA hour); have bC := c_tms (hrA hour); have bF := s_tms lat
  have TM := Lib.hid (fun w => Times_ok _ _ _ _ w (tms_of bF bS).mul (by omega) (by omega) (by omega) (by omega))
  have bY := tm_tms (tms_of bF bS)
  have eY1 : dyL lat hour = tmLo (sLo lat) (sHi lat) (sLo (hrA hour)) (sHi (hrA hour)) := rfl
  have eY2 : dyH lat hour = tmHi (sLo lat) (sHi lat) (sLo (hrA hour)) (sHi (hrA hour)) := rfl
  rw [← eY1, ← eY2] at TM bY
  have eA1 : daL lat hour = arcLo (dyL lat hour) (dyH lat hour) (cLo (hrA hour)) (cHi (hrA hour)) := rfl
  have eA2 : daH lat hour = arcHi (dyL lat hour) (dyH lat hour) (cLo (hrA hour)) (cHi (hrA hour)) := rfl
  have AR := Lib.hid (fun w => arcOut_nw (by rw [← eA1, ← eA2]; exact nw) ▸ Arc_ok (dyL lat hour) (dyH lat hour) (cLo (hrA hour)) (cHi (hrA hour)) ⟨⟨by omega, by omega⟩, ⟨by omega, by omega⟩, ⟨by omega, by omega⟩, ⟨by omega, by omega⟩, bY.2.1, bC.2.1, no⟩ w)
  rw [← eA1, ← eA2] at AR
  unfold dlL dlH dlS
  have HT := Lib.hid hT
  have ra0 : 0 ≤ daL lat hour % 1000000000 ∧ daL lat hour % 1000000000 < 1000000000 := by omega
  clear eY1 eY2 eA1 eA2 no bS bC bF bY hT hb
  have hw : daL lat hour % 1000000000 ≤ daL lat hour % 1000000000 + daH lat hour - daL lat hour ∧ daL lat hour % 1000000000 + daH lat hour - daL lat hour - daL lat hour % 1000000000 ≤ 400000000 := by omega
  generalize daL lat hour % 1000000000 + daH lat hour - daL lat hour = hi at *
  generalize daL lat hour % 1000000000 = lo at *
  generalize dyL lat hour = yl at *
  generalize dyH lat hour = yh at *
  generalize cLo (hrA hour) = cl at *
  generalize cHi (hrA hour) = ch at *
  generalize sLo (hrA hour) = sl at *
  generalize sHi (hrA hour) = sh at *
  generalize sLo lat = fl at *
  generalize sHi lat = fh at *
  obtain ⟨hh1, hh2⟩ := hw
  obtain ⟨r1, r2⟩ := ra0
  clear od nw
  obtain ⟨R1, hR1⟩ : ∃ x, x = lo - (if 500000000 < lo then 1000000000 else 0) := ⟨_, rfl⟩
  obtain ⟨R2, hR2⟩ : ∃ x, x = hi - (if 500000000 < lo then 1000000000 else 0) := ⟨_, rfl⟩
  rw [← hR1, ← hR2]
  have HR := Lib.hid (And.intro hR1 hR2)
  clear hR1 hR2
  go_enter Tryd.func40, Tryd.ntmps40
  have HB := Lib.hid (Below.refl w.heap.size w)
  obtain ⟨k1, hk1⟩ : ∃ x, x = w.heap.size := ⟨_, rfl⟩
  have s1 := SpBox.new w (0) (0)
  rw [← hk1] at s1
  have Hkl1 := Lib.hid (show w.heap.size ≤ k1 by rw [hk1]; omega)
  go_upto_region 1 with fail
  rw [← hk1]
  have HBn := show Below w.heap.size w (w.alloc (.cells #[.int .i64 (0), .int .i64 (0)] 24)) from (by repeat' (first | (with_reducible refine below_drewN ?_ _) | go_grown))
  obtain ⟨X1, hX1⟩ : ∃ X, X = (w.alloc (.cells #[.int .i64 (0), .int .i64 (0)] 24)) := ⟨_, rfl⟩
  rw [← hX1] at s1 HBn ⊢
  clear hX1  HB
  replace s1 := Lib.hid s1
  have HB := Lib.hid HBn; have HK1 := Lib.hid hk1; clear HBn hk1
  go_upto_region 6 with fail
  go_wp2_with fail
  refine Calls.mono (SH.out _ (HT.out.below HB.out)) ?_
  rintro e wn2 ⟨rfl, hb⟩
  have Hd2_1 := Lib.hid (s1.out.below hb).lt
  replace s1 := Lib.hid ((s1.out.below hb).alloc (.cells #[.int .i64 (sl), .int .i64 (sh)] 24))
  have HB2 := HB.out.trans (hb.mono HB.out.size)
  clear hb
  have Hkl2 := Lib.hid HB2.size; replace HB := Lib.hid (HB2.alloc HB2.size (.cells #[.int .i64 (sl), .int .i64 (sh)] 24))
  clear HB2
  have s2 := Lib.hid (SpBox.new wn2 (sl) (sh))
  obtain ⟨k2, hk2⟩ : ∃ x, x = wn2.heap.size := ⟨_, rfl⟩
  rw [← hk2] at s2 Hkl2 Hd2_1
  go_upto_region 7 with fail
  rw [← hk2]
  obtain ⟨X2, hX2⟩ : ∃ X, X = wn2.alloc (.cells #[.int .i64 (sl), .int .i64 (sh)] 24) := ⟨_, rfl⟩
  rw [← hX2] at s1 s2 HB ⊢
  clear hk2 hX2
  go_wp2_with fail
  refine Calls.mono (CH.out _ (HT.out.below HB.out)) ?_
  rintro e wn3 ⟨rfl, hb⟩
  have Hd3_1 := Lib.hid (s1.out.below hb).lt
  have Hd3_2 := Lib.hid (s2.out.below hb).lt
  replace s1 := Lib.hid ((s1.out.below hb).alloc (.cells #[.int .i64 (cl), .int .i64 (ch)] 24))
  replace s2 := Lib.hid ((s2.out.below hb).alloc (.cells #[.int .i64 (cl), .int .i64 (ch)] 24))
  have HB3 := HB.out.trans (hb.mono HB.out.size)
  clear hb
  have Hkl3 := Lib.hid HB3.size; replace HB := Lib.hid (HB3.alloc HB3.size (.cells #[.int .i64 (cl), .int .i64 (ch)] 24))
  clear HB3
  have s3 := Lib.hid (SpBox.new wn3 (cl) (ch))
  obtain ⟨k3, hk3⟩ : ∃ x, x = wn3.heap.size := ⟨_, rfl⟩
  rw [← hk3] at s3 Hkl3 Hd3_1 Hd3_2
  go_upto_region 8 with fail
  rw [← hk3]
  obtain ⟨X3, hX3⟩ : ∃ X, X = wn3.alloc (.cells #[.int .i64 (cl), .int .i64 (ch)] 24) := ⟨_, rfl⟩
  rw [← hX3] at s1 s2 s3 HB ⊢
  clear hk3 hX3
  go_wp2_with fail
  refine Calls.mono (SF.out _ (HT.out.below HB.out)) ?_
  rintro e wn4 ⟨rfl, hb⟩
  have Hd4_1 := Lib.hid (s1.out.below hb).lt
  have Hd4_2 := Lib.hid (s2.out.below hb).lt
  have Hd4_3 := Lib.hid (s3.out.below hb).lt
  replace s1 := Lib.hid ((s1.out.below hb).alloc (.cells #[.int .i64 (fl), .int .i64 (fh)] 24))
  replace s2 := Lib.hid ((s2.out.below hb).alloc (.cells #[.int .i64 (fl), .int .i64 (fh)] 24))
  replace s3 := Lib.hid ((s3.out.below hb).alloc (.cells #[.int .i64 (fl), .int .i64 (fh)] 24))
  have HB4 := HB.out.trans (hb.mono HB.out.size)
  clear hb
  have Hkl4 := Lib.hid HB4.size; replace HB := Lib.hid (HB4.alloc HB4.size (.cells #[.int .i64 (fl), .int .i64 (fh)] 24))
  clear HB4
  have s4 := Lib.hid (SpBox.new wn4 (fl) (fh))
  obtain ⟨k4, hk4⟩ : ∃ x, x = wn4.heap.size := ⟨_, rfl⟩
  rw [← hk4] at s4 Hkl4 Hd4_1 Hd4_2 Hd4_3
  go_upto_region 9 with fail
  rw [← hk4]
  obtain ⟨X4, hX4⟩ : ∃ X, X = wn4.alloc (.cells #[.int .i64 (fl), .int .i64 (fh)] 24) := ⟨_, rfl⟩
  rw [← hX4] at s1 s2 s3 s4 HB ⊢
  clear hk4 hX4
  obtain ⟨XD1, hXD1⟩ : ∃ x, x = X4.drew := ⟨_, rfl⟩
  have hf : SpBox XD1 (k1) (0) (0) ∧ SpBox XD1 (k2) (sl) (sh) ∧ SpBox XD1 (k3) (cl) (ch) ∧ SpBox XD1 (k4) (fl) (fh) ∧ Below w.heap.size w XD1 := by rw [hXD1]; exact ⟨s1.out.drew, s2.out.drew, s3.out.drew, s4.out.drew, HB.out.drew⟩
  have HXD1 := Lib.hid hXD1; clear hXD1 s1 s2 s3 s4 HB
  go_cut [13, 14] (fun sv se wx => se = .int .i64 0 ∧ ∃ bn : Nat, sv = .pointer (some ⟨bn, 0, none⟩) ∧ Hid (w.heap.size ≤ bn) ∧ Hid (SpBox wx bn (lo) (hi)) ∧ Hid (SpBox wx (k1) (0) (0)) ∧ Hid (SpBox wx (k2) (sl) (sh)) ∧ Hid (SpBox wx (k3) (cl) (ch)) ∧ Hid (SpBox wx (k4) (fl) (fh)) ∧ Hid (k1 < bn) ∧ Hid (k2 < bn) ∧ Hid (k3 < bn) ∧ Hid (k4 < bn) ∧ Hid (Below w.heap.size w wx))
  case first =>
    refine wp_region_G [(9, fun w' => SpBox w' (k1) (0) (0) ∧ SpBox w' (k2) (sl) (sh) ∧ SpBox w' (k3) (cl) (ch) ∧ SpBox w' (k4) (fl) (fh) ∧ Below w.heap.size w w'), (10, fun _ => True)] (by kernel_rfl) (heldC_two (fun _ => by rw [← HXD1.out]; exact hf) (fun _ => trivial)) (fun hF => ?_)
    rw [← HXD1.out] at hF ⊢
    refine wpG_take (oi := ?oi125) (v := ?vv125) 0 _ ?hi125 (List.Mem.head _) ?hc125 ?hQ125 hF ?hw125 ?hy125 (fun hF => ?hh125)
    case hi125 => (simp only [List.getElem?_toArray, List.getElem?_cons_succ, List.getElem?_cons_zero]; rfl)
    case hc125 => kernel_rfl
    case hQ125 => exact fun _ _ _ h => h
    case hw125 => rfl
    case hy125 => (intro wz hz; have z0 := hz.2.2.2.1.c0; have z1 := hz.2.2.2.1.c1; go_simp; try (with_reducible rfl))
    try simp only [Act.put, List.setIfInBounds_toArray, List.set_cons_zero, List.set_cons_succ]
    refine wpG_take (oi := ?oi126) (v := ?vv126) 1 _ ?hi126 (List.Mem.head _) ?hc126 ?hQ126 hF ?hw126 ?hy126 (fun hF => ?hh126)
    case hi126 => (simp only [List.getElem?_toArray, List.getElem?_cons_succ, List.getElem?_cons_zero]; rfl)
    case hc126 => kernel_rfl
    case hQ126 => exact fun _ _ _ h => h
    case hw126 => rfl
    case hy126 => (intro wz hz; have z0 := hz.2.1.c0; have z1 := hz.2.1.c1; go_simp; try (with_reducible rfl))
    try simp only [Act.put, List.setIfInBounds_toArray, List.set_cons_zero, List.set_cons_succ]
    refine wpG_take (oi := ?oi127) (v := ?vv127) 3 _ ?hi127 (List.Mem.head _) ?hc127 ?hQ127 hF ?hw127 ?hy127 (fun hF => ?hh127)
    case hi127 => (simp only [List.getElem?_toArray, List.getElem?_cons_succ, List.getElem?_cons_zero]; rfl)
    case hc127 => kernel_rfl
    case hQ127 => exact fun _ _ _ h => h
    case hw127 => rfl
    case hy127 => (intro wz hz; have z0 := hz.2.2.1.c0; have z1 := hz.2.2.1.c1; go_simp; try (with_reducible rfl))
    try simp only [Act.put, List.setIfInBounds_toArray, List.set_cons_zero, List.set_cons_succ]
    refine wpG_ready (rs := [2, 8]) (by kernel_rfl) (by simp) ?_
    refine all_two ?_ ?_
    · skip
      refine wpOp_hand (oi := ?oi128) ?hi128 (fun K hK => ?hh128)
      case hi128 => (simp only [List.getElem?_toArray, List.getElem?_cons_succ, List.getElem?_cons_zero]; rfl)
      go_simp
      refine Calls.mono (TM.out _) ?_
      rintro e Va1_1 ⟨rfl, hb⟩
      have hfn : SpBox Va1_1 (k1) (0) (0) ∧ SpBox Va1_1 (k2) (sl) (sh) ∧ SpBox Va1_1 (k3) (cl) (ch) ∧ SpBox Va1_1 (k4) (fl) (fh) ∧ Below w.heap.size w Va1_1 := ⟨hf.1.below hb, hf.2.1.below hb, hf.2.2.1.below hb, hf.2.2.2.1.below hb, hf.2.2.2.2.trans (hb.mono hf.2.2.2.2.size)⟩
      clear hf hb
      have hf := hfn
      clear hfn
      refine hK.out _ _ (heldC_two (fun _ => hf) (fun _ => trivial)) (fun hF => ?_)
      clear hK K
      try simp only [Act.put, List.setIfInBounds_toArray, List.set_cons_zero, List.set_cons_succ]
      refine wpG_ready (rs := [4, 8]) (by kernel_rfl) (by simp) ?_
      refine all_two ?_ ?_
      · skip
        refine wpOp_hand (oi := ?oi129) ?hi129 (fun K hK => ?hh129)
        case hi129 => (simp only [List.getElem?_toArray, List.getElem?_cons_succ, List.getElem?_cons_zero]; rfl)
        go_simp
        refine Calls.mono (AR.out _) ?_
        rintro e Va1_2 ⟨rfl, hb⟩
        have hfn : SpBox Va1_2 (k1) (0) (0) ∧ SpBox Va1_2 (k2) (sl) (sh) ∧ SpBox Va1_2 (k3) (cl) (ch) ∧ SpBox Va1_2 (k4) (fl) (fh) ∧ Below w.heap.size w Va1_2 := ⟨hf.1.below hb, hf.2.1.below hb, hf.2.2.1.below hb, hf.2.2.2.1.below hb, hf.2.2.2.2.trans (hb.mono hf.2.2.2.2.size)⟩
        clear hf hb
        have hf := hfn
        clear hfn
        refine hK.out _ _ (heldC_two (fun _ => hf) (fun _ => trivial)) (fun hF => ?_)
        clear hK K
        try simp only [Act.put, List.setIfInBounds_toArray, List.set_cons_zero, List.set_cons_succ]
        refine wpG_take (oi := ?oi130) (v := ?vv130) 5 _ ?hi130 (List.Mem.head _) ?hc130 ?hQ130 hF ?hw130 ?hy130 (fun hF => ?hh130)
        case hi130 => (simp only [List.getElem?_toArray, List.getElem?_cons_succ, List.getElem?_cons_zero]; rfl)
        case hc130 => kernel_rfl
        case hQ130 => exact fun _ _ _ h => h
        case hw130 => rfl
        case hy130 => (intro wz hz; skip; go_simp; try (with_reducible rfl))
        try simp only [Act.put, List.setIfInBounds_toArray, List.set_cons_zero, List.set_cons_succ]
        refine wpG_take (oi := ?oi131) (v := ?vv131) 6 _ ?hi131 (List.Mem.head _) ?hc131 ?hQ131 hF ?hw131 ?hy131 (fun hF => ?hh131)
        case hi131 => (simp only [List.getElem?_toArray, List.getElem?_cons_succ, List.getElem?_cons_zero]; rfl)
        case hc131 => kernel_rfl
        case hQ131 => exact fun _ _ _ h => h
        case hw131 => rfl
        case hy131 => (intro wz hz; skip; go_simp; try (with_reducible rfl))
        try simp only [Act.put, List.setIfInBounds_toArray, List.set_cons_zero, List.set_cons_succ]
        refine wpG_take (oi := ?oi132) (v := ?vv132) 7 _ ?hi132 (List.Mem.tail _ (List.Mem.head _)) ?hc132 ?hQ132 hF ?hw132 ?hy132 (fun hF => ?hh132)
        case hi132 => (simp only [List.getElem?_toArray, List.getElem?_cons_succ, List.getElem?_cons_zero]; rfl)
        case hc132 => kernel_rfl
        case hQ132 => exact fun _ _ _ h => h
        case hw132 => rfl
        case hy132 => (intro wz hz; skip; go_simp; try (with_reducible rfl))
        try simp only [Act.put, List.setIfInBounds_toArray, List.set_cons_zero, List.set_cons_succ]
        refine wpG_ready (rs := [8]) (by kernel_rfl) (by simp) ?_
        refine all_one ?_
        refine wpOp_hand (oi := ?oi133) ?hi133 (fun K hK => ?hh133)
        case hi133 => (simp only [List.getElem?_toArray, List.getElem?_cons_succ, List.getElem?_cons_zero]; rfl)
        go_simp
        have dl0 := hf.1.lt
        have dl1 := hf.2.1.lt
        have dl2 := hf.2.2.1.lt
        have dl3 := hf.2.2.2.1.lt
        have ds := hf.2.2.2.2.size
        have hn := SpBox.new Va1_2 0 0
        obtain ⟨bn, hbn⟩ : ∃ b, b = Va1_2.heap.size := ⟨_, rfl⟩
        obtain ⟨Ya1_3, hY⟩ : ∃ Y, Y = Va1_2.alloc (.cells #[.int .i64 0, .int .i64 0] 24) := ⟨_, rfl⟩
        have hfn : SpBox Ya1_3 (k1) (0) (0) ∧ SpBox Ya1_3 (k2) (sl) (sh) ∧ SpBox Ya1_3 (k3) (cl) (ch) ∧ SpBox Ya1_3 (k4) (fl) (fh) ∧ Below w.heap.size w Ya1_3 := by rw [hY]; exact ⟨hf.1.alloc _, hf.2.1.alloc _, hf.2.2.1.alloc _, hf.2.2.2.1.alloc _, hf.2.2.2.2.alloc ds _⟩
        rw [← hY] at hn ⊢
        rw [← hbn] at hn ds dl0 dl1 dl2 dl3 ⊢
        clear hf
        have hf := hfn
        clear hfn hY hbn
        refine hK.out _ _ (heldC_two (fun _ => hf) (fun _ => trivial)) (fun hF => ?_)
        clear hK K
        try simp only [Act.put, List.setIfInBounds_toArray, List.set_cons_zero, List.set_cons_succ]
        refine wpG_ready (rs := [9]) (by kernel_rfl) (by simp) ?_
        refine all_one ?_
        have zz0 := hn.c0; have zz1 := hn.c1; have zz0f := hn.free 0; have zz1f := hn.free 1; have zzl := hn.lt
        refine wpOp_hand (oi := ?oi134) ?hi134 (fun K hK => ?hh134)
        case hi134 => (simp only [List.getElem?_toArray, List.getElem?_cons_succ, List.getElem?_cons_zero]; rfl)
        go_simp
        have hnn := hn.set (lo) (hi)
        have hfn : SpBox ((Ya1_3.setCell ⟨bn, 0, none⟩ (.int .i64 (lo))).setCell ⟨bn, 1, none⟩ (.int .i64 (hi))) (k1) (0) (0) ∧ SpBox ((Ya1_3.setCell ⟨bn, 0, none⟩ (.int .i64 (lo))).setCell ⟨bn, 1, none⟩ (.int .i64 (hi))) (k2) (sl) (sh) ∧ SpBox ((Ya1_3.setCell ⟨bn, 0, none⟩ (.int .i64 (lo))).setCell ⟨bn, 1, none⟩ (.int .i64 (hi))) (k3) (cl) (ch) ∧ SpBox ((Ya1_3.setCell ⟨bn, 0, none⟩ (.int .i64 (lo))).setCell ⟨bn, 1, none⟩ (.int .i64 (hi))) (k4) (fl) (fh) ∧ Below w.heap.size w ((Ya1_3.setCell ⟨bn, 0, none⟩ (.int .i64 (lo))).setCell ⟨bn, 1, none⟩ (.int .i64 (hi))) := ⟨(hf.1.other (by (try dsimp only); omega) _).other (by (try dsimp only); omega) _, (hf.2.1.other (by (try dsimp only); omega) _).other (by (try dsimp only); omega) _, (hf.2.2.1.other (by (try dsimp only); omega) _).other (by (try dsimp only); omega) _, (hf.2.2.2.1.other (by (try dsimp only); omega) _).other (by (try dsimp only); omega) _, (hf.2.2.2.2.setCell (p := ⟨bn, 0, none⟩) ds _).setCell (p := ⟨bn, 1, none⟩) ds _⟩
        refine hK.out _ _ (heldC_two (fun h => absurd h (by simp)) (fun _ => trivial)) (fun hF => ?_)
        clear hK K
        try simp only [Act.put, List.setIfInBounds_toArray, List.set_cons_zero, List.set_cons_succ]
        refine wpG_ready (rs := [10]) (by kernel_rfl) (by simp) ?_
        refine all_one ?_
        refine wpOp_hand (oi := ?oi135) ?hi135 (fun K hK => ?hh135)
        case hi135 => (simp only [List.getElem?_toArray, List.getElem?_cons_succ, List.getElem?_cons_zero]; rfl)
        go_simp
        refine hK.out _ _ (heldC_two (fun h => absurd h (by simp)) (fun h => absurd h (by simp))) (fun hF => ?_)
        clear hK K
        try simp only [Act.put, List.setIfInBounds_toArray, List.set_cons_zero, List.set_cons_succ]
        refine wpG_done (by kernel_rfl) ?_ _
        clear hf zz0 zz1 zz0f zz1f zzl hn
        go_wp2_with fail
        go_meet
        exact ⟨rfl, bn, rfl, Lib.hid ds, Lib.hid hnn, Lib.hid hfn.1, Lib.hid hfn.2.1, Lib.hid hfn.2.2.1, Lib.hid hfn.2.2.2.1, Lib.hid dl0, Lib.hid dl1, Lib.hid dl2, Lib.hid dl3, Lib.hid hfn.2.2.2.2⟩
      · skip
        refine wpOp_hand (oi := ?oi136) ?hi136 (fun K hK => ?hh136)
        case hi136 => (simp only [List.getElem?_toArray, List.getElem?_cons_succ, List.getElem?_cons_zero]; rfl)
        go_simp
        have dl0 := hf.1.lt
        have dl1 := hf.2.1.lt
        have dl2 := hf.2.2.1.lt
        have dl3 := hf.2.2.2.1.lt
        have ds := hf.2.2.2.2.size
        have hn := SpBox.new Va1_1 0 0
        obtain ⟨bn, hbn⟩ : ∃ b, b = Va1_1.heap.size := ⟨_, rfl⟩
        obtain ⟨Ya1_4, hY⟩ : ∃ Y, Y = Va1_1.alloc (.cells #[.int .i64 0, .int .i64 0] 24) := ⟨_, rfl⟩
        have hfn : SpBox Ya1_4 (k1) (0) (0) ∧ SpBox Ya1_4 (k2) (sl) (sh) ∧ SpBox Ya1_4 (k3) (cl) (ch) ∧ SpBox Ya1_4 (k4) (fl) (fh) ∧ Below w.heap.size w Ya1_4 := by rw [hY]; exact ⟨hf.1.alloc _, hf.2.1.alloc _, hf.2.2.1.alloc _, hf.2.2.2.1.alloc _, hf.2.2.2.2.alloc ds _⟩
        rw [← hY] at hn ⊢
        rw [← hbn] at hn ds dl0 dl1 dl2 dl3 ⊢
        clear hf
        have hf := hfn
        clear hfn hY hbn
        refine hK.out _ _ (heldC_two (fun _ => hf) (fun _ => trivial)) (fun hF => ?_)
        clear hK K
        try simp only [Act.put, List.setIfInBounds_toArray, List.set_cons_zero, List.set_cons_succ]
        refine wpG_ready (rs := [4]) (by kernel_rfl) (by simp) ?_
        refine all_one ?_
        refine wpOp_hand (oi := ?oi137) ?hi137 (fun K hK => ?hh137)
        case hi137 => (simp only [List.getElem?_toArray, List.getElem?_cons_succ, List.getElem?_cons_zero]; rfl)
        go_simp
        refine Calls.mono (AR.out _) ?_
        rintro e Va1_5 ⟨rfl, hb⟩
        have hnn := hn.below hb; clear hn; have hn := hnn; clear hnn
        have hfn : SpBox Va1_5 (k1) (0) (0) ∧ SpBox Va1_5 (k2) (sl) (sh) ∧ SpBox Va1_5 (k3) (cl) (ch) ∧ SpBox Va1_5 (k4) (fl) (fh) ∧ Below w.heap.size w Va1_5 := ⟨hf.1.below hb, hf.2.1.below hb, hf.2.2.1.below hb, hf.2.2.2.1.below hb, hf.2.2.2.2.trans (hb.mono hf.2.2.2.2.size)⟩
        clear hf hb
        have hf := hfn
        clear hfn
        refine hK.out _ _ (heldC_two (fun _ => hf) (fun _ => trivial)) (fun hF => ?_)
        clear hK K
        try simp only [Act.put, List.setIfInBounds_toArray, List.set_cons_zero, List.set_cons_succ]
        refine wpG_take (oi := ?oi138) (v := ?vv138) 5 _ ?hi138 (List.Mem.head _) ?hc138 ?hQ138 hF ?hw138 ?hy138 (fun hF => ?hh138)
        case hi138 => (simp only [List.getElem?_toArray, List.getElem?_cons_succ, List.getElem?_cons_zero]; rfl)
        case hc138 => kernel_rfl
        case hQ138 => exact fun _ _ _ h => h
        case hw138 => rfl
        case hy138 => (intro wz hz; skip; go_simp; try (with_reducible rfl))
        try simp only [Act.put, List.setIfInBounds_toArray, List.set_cons_zero, List.set_cons_succ]
        refine wpG_take (oi := ?oi139) (v := ?vv139) 6 _ ?hi139 (List.Mem.head _) ?hc139 ?hQ139 hF ?hw139 ?hy139 (fun hF => ?hh139)
        case hi139 => (simp only [List.getElem?_toArray, List.getElem?_cons_succ, List.getElem?_cons_zero]; rfl)
        case hc139 => kernel_rfl
        case hQ139 => exact fun _ _ _ h => h
        case hw139 => rfl
        case hy139 => (intro wz hz; skip; go_simp; try (with_reducible rfl))
        try simp only [Act.put, List.setIfInBounds_toArray, List.set_cons_zero, List.set_cons_succ]
        refine wpG_take (oi := ?oi140) (v := ?vv140) 7 _ ?hi140 (List.Mem.tail _ (List.Mem.head _)) ?hc140 ?hQ140 hF ?hw140 ?hy140 (fun hF => ?hh140)
        case hi140 => (simp only [List.getElem?_toArray, List.getElem?_cons_succ, List.getElem?_cons_zero]; rfl)
        case hc140 => kernel_rfl
        case hQ140 => exact fun _ _ _ h => h
        case hw140 => rfl
        case hy140 => (intro wz hz; skip; go_simp; try (with_reducible rfl))
        try simp only [Act.put, List.setIfInBounds_toArray, List.set_cons_zero, List.set_cons_succ]
        refine wpG_ready (rs := [9]) (by kernel_rfl) (by simp) ?_
        refine all_one ?_
        have zz0 := hn.c0; have zz1 := hn.c1; have zz0f := hn.free 0; have zz1f := hn.free 1; have zzl := hn.lt
        refine wpOp_hand (oi := ?oi141) ?hi141 (fun K hK => ?hh141)
        case hi141 => (simp only [List.getElem?_toArray, List.getElem?_cons_succ, List.getElem?_cons_zero]; rfl)
        go_simp
        have hnn := hn.set (lo) (hi)
        have hfn : SpBox ((Va1_5.setCell ⟨bn, 0, none⟩ (.int .i64 (lo))).setCell ⟨bn, 1, none⟩ (.int .i64 (hi))) (k1) (0) (0) ∧ SpBox ((Va1_5.setCell ⟨bn, 0, none⟩ (.int .i64 (lo))).setCell ⟨bn, 1, none⟩ (.int .i64 (hi))) (k2) (sl) (sh) ∧ SpBox ((Va1_5.setCell ⟨bn, 0, none⟩ (.int .i64 (lo))).setCell ⟨bn, 1, none⟩ (.int .i64 (hi))) (k3) (cl) (ch) ∧ SpBox ((Va1_5.setCell ⟨bn, 0, none⟩ (.int .i64 (lo))).setCell ⟨bn, 1, none⟩ (.int .i64 (hi))) (k4) (fl) (fh) ∧ Below w.heap.size w ((Va1_5.setCell ⟨bn, 0, none⟩ (.int .i64 (lo))).setCell ⟨bn, 1, none⟩ (.int .i64 (hi))) := ⟨(hf.1.other (by (try dsimp only); omega) _).other (by (try dsimp only); omega) _, (hf.2.1.other (by (try dsimp only); omega) _).other (by (try dsimp only); omega) _, (hf.2.2.1.other (by (try dsimp only); omega) _).other (by (try dsimp only); omega) _, (hf.2.2.2.1.other (by (try dsimp only); omega) _).other (by (try dsimp only); omega) _, (hf.2.2.2.2.setCell (p := ⟨bn, 0, none⟩) ds _).setCell (p := ⟨bn, 1, none⟩) ds _⟩
        refine hK.out _ _ (heldC_two (fun h => absurd h (by simp)) (fun _ => trivial)) (fun hF => ?_)
        clear hK K
        try simp only [Act.put, List.setIfInBounds_toArray, List.set_cons_zero, List.set_cons_succ]
        refine wpG_ready (rs := [10]) (by kernel_rfl) (by simp) ?_
        refine all_one ?_
        refine wpOp_hand (oi := ?oi142) ?hi142 (fun K hK => ?hh142)
        case hi142 => (simp only [List.getElem?_toArray, List.getElem?_cons_succ, List.getElem?_cons_zero]; rfl)
        go_simp
        refine hK.out _ _ (heldC_two (fun h => absurd h (by simp)) (fun h => absurd h (by simp))) (fun hF => ?_)
        clear hK K
        try simp only [Act.put, List.setIfInBounds_toArray, List.set_cons_zero, List.set_cons_succ]
        refine wpG_done (by kernel_rfl) ?_ _
        clear hf zz0 zz1 zz0f zz1f zzl hn
        go_wp2_with fail
        go_meet
        exact ⟨rfl, bn, rfl, Lib.hid ds, Lib.hid hnn, Lib.hid hfn.1, Lib.hid hfn.2.1, Lib.hid hfn.2.2.1, Lib.hid hfn.2.2.2.1, Lib.hid dl0, Lib.hid dl1, Lib.hid dl2, Lib.hid dl3, Lib.hid hfn.2.2.2.2⟩
    · skip
      refine wpOp_hand (oi := ?oi143) ?hi143 (fun K hK => ?hh143)
      case hi143 => (simp only [List.getElem?_toArray, List.getElem?_cons_succ, List.getElem?_cons_zero]; rfl)
      go_simp
      have dl0 := hf.1.lt
      have dl1 := hf.2.1.lt
      have dl2 := hf.2.2.1.lt
      have dl3 := hf.2.2.2.1.lt
      have ds := hf.2.2.2.2.size
      have hn := SpBox.new XD1 0 0
      obtain ⟨bn, hbn⟩ : ∃ b, b = XD1.heap.size := ⟨_, rfl⟩
      obtain ⟨Ya1_6, hY⟩ : ∃ Y, Y = XD1.alloc (.cells #[.int .i64 0, .int .i64 0] 24) := ⟨_, rfl⟩
      have hfn : SpBox Ya1_6 (k1) (0) (0) ∧ SpBox Ya1_6 (k2) (sl) (sh) ∧ SpBox Ya1_6 (k3) (cl) (ch) ∧ SpBox Ya1_6 (k4) (fl) (fh) ∧ Below w.heap.size w Ya1_6 := by rw [hY]; exact ⟨hf.1.alloc _, hf.2.1.alloc _, hf.2.2.1.alloc _, hf.2.2.2.1.alloc _, hf.2.2.2.2.alloc ds _⟩
      rw [← hY] at hn ⊢
      rw [← hbn] at hn ds dl0 dl1 dl2 dl3 ⊢
      clear hf
      have hf := hfn
      clear hfn hY hbn
      refine hK.out _ _ (heldC_two (fun _ => hf) (fun _ => trivial)) (fun hF => ?_)
      clear hK K
      try simp only [Act.put, List.setIfInBounds_toArray, List.set_cons_zero, List.set_cons_succ]
      refine wpG_ready (rs := [2]) (by kernel_rfl) (by simp) ?_
      refine all_one ?_
      refine wpOp_hand (oi := ?oi144) ?hi144 (fun K hK => ?hh144)
      case hi144 => (simp only [List.getElem?_toArray, List.getElem?_cons_succ, List.getElem?_cons_zero]; rfl)
      go_simp
      refine Calls.mono (TM.out _) ?_
      rintro e Va1_7 ⟨rfl, hb⟩
      have hnn := hn.below hb; clear hn; have hn := hnn; clear hnn
      have hfn : SpBox Va1_7 (k1) (0) (0) ∧ SpBox Va1_7 (k2) (sl) (sh) ∧ SpBox Va1_7 (k3) (cl) (ch) ∧ SpBox Va1_7 (k4) (fl) (fh) ∧ Below w.heap.size w Va1_7 := ⟨hf.1.below hb, hf.2.1.below hb, hf.2.2.1.below hb, hf.2.2.2.1.below hb, hf.2.2.2.2.trans (hb.mono hf.2.2.2.2.size)⟩
      clear hf hb
      have hf := hfn
      clear hfn
      refine hK.out _ _ (heldC_two (fun _ => hf) (fun _ => trivial)) (fun hF => ?_)
      clear hK K
      try simp only [Act.put, List.setIfInBounds_toArray, List.set_cons_zero, List.set_cons_succ]
      refine wpG_ready (rs := [4]) (by kernel_rfl) (by simp) ?_
      refine all_one ?_
      refine wpOp_hand (oi := ?oi145) ?hi145 (fun K hK => ?hh145)
      case hi145 => (simp only [List.getElem?_toArray, List.getElem?_cons_succ, List.getElem?_cons_zero]; rfl)
      go_simp
      refine Calls.mono (AR.out _) ?_
      rintro e Va1_8 ⟨rfl, hb⟩
      have hnn := hn.below hb; clear hn; have hn := hnn; clear hnn
      have hfn : SpBox Va1_8 (k1) (0) (0) ∧ SpBox Va1_8 (k2) (sl) (sh) ∧ SpBox Va1_8 (k3) (cl) (ch) ∧ SpBox Va1_8 (k4) (fl) (fh) ∧ Below w.heap.size w Va1_8 := ⟨hf.1.below hb, hf.2.1.below hb, hf.2.2.1.below hb, hf.2.2.2.1.below hb, hf.2.2.2.2.trans (hb.mono hf.2.2.2.2.size)⟩
      clear hf hb
      have hf := hfn
      clear hfn
      refine hK.out _ _ (heldC_two (fun _ => hf) (fun _ => trivial)) (fun hF => ?_)
      clear hK K
      try simp only [Act.put, List.setIfInBounds_toArray, List.set_cons_zero, List.set_cons_succ]
      refine wpG_take (oi := ?oi146) (v := ?vv146) 5 _ ?hi146 (List.Mem.head _) ?hc146 ?hQ146 hF ?hw146 ?hy146 (fun hF => ?hh146)
      case hi146 => (simp only [List.getElem?_toArray, List.getElem?_cons_succ, List.getElem?_cons_zero]; rfl)
      case hc146 => kernel_rfl
      case hQ146 => exact fun _ _ _ h => h
      case hw146 => rfl
      case hy146 => (intro wz hz; skip; go_simp; try (with_reducible rfl))
      try simp only [Act.put, List.setIfInBounds_toArray, List.set_cons_zero, List.set_cons_succ]
      refine wpG_take (oi := ?oi147) (v := ?vv147) 6 _ ?hi147 (List.Mem.head _) ?hc147 ?hQ147 hF ?hw147 ?hy147 (fun hF => ?hh147)
      case hi147 => (simp only [List.getElem?_toArray, List.getElem?_cons_succ, List.getElem?_cons_zero]; rfl)
      case hc147 => kernel_rfl
      case hQ147 => exact fun _ _ _ h => h
      case hw147 => rfl
      case hy147 => (intro wz hz; skip; go_simp; try (with_reducible rfl))
      try simp only [Act.put, List.setIfInBounds_toArray, List.set_cons_zero, List.set_cons_succ]
      refine wpG_take (oi := ?oi148) (v := ?vv148) 7 _ ?hi148 (List.Mem.tail _ (List.Mem.head _)) ?hc148 ?hQ148 hF ?hw148 ?hy148 (fun hF => ?hh148)
      case hi148 => (simp only [List.getElem?_toArray, List.getElem?_cons_succ, List.getElem?_cons_zero]; rfl)
      case hc148 => kernel_rfl
      case hQ148 => exact fun _ _ _ h => h
      case hw148 => rfl
      case hy148 => (intro wz hz; skip; go_simp; try (with_reducible rfl))
      try simp only [Act.put, List.setIfInBounds_toArray, List.set_cons_zero, List.set_cons_succ]
      refine wpG_ready (rs := [9]) (by kernel_rfl) (by simp) ?_
      refine all_one ?_
      have zz0 := hn.c0; have zz1 := hn.c1; have zz0f := hn.free 0; have zz1f := hn.free 1; have zzl := hn.lt
      refine wpOp_hand (oi := ?oi149) ?hi149 (fun K hK => ?hh149)
      case hi149 => (simp only [List.getElem?_toArray, List.getElem?_cons_succ, List.getElem?_cons_zero]; rfl)
      go_simp
      have hnn := hn.set (lo) (hi)
      have hfn : SpBox ((Va1_8.setCell ⟨bn, 0, none⟩ (.int .i64 (lo))).setCell ⟨bn, 1, none⟩ (.int .i64 (hi))) (k1) (0) (0) ∧ SpBox ((Va1_8.setCell ⟨bn, 0, none⟩ (.int .i64 (lo))).setCell ⟨bn, 1, none⟩ (.int .i64 (hi))) (k2) (sl) (sh) ∧ SpBox ((Va1_8.setCell ⟨bn, 0, none⟩ (.int .i64 (lo))).setCell ⟨bn, 1, none⟩ (.int .i64 (hi))) (k3) (cl) (ch) ∧ SpBox ((Va1_8.setCell ⟨bn, 0, none⟩ (.int .i64 (lo))).setCell ⟨bn, 1, none⟩ (.int .i64 (hi))) (k4) (fl) (fh) ∧ Below w.heap.size w ((Va1_8.setCell ⟨bn, 0, none⟩ (.int .i64 (lo))).setCell ⟨bn, 1, none⟩ (.int .i64 (hi))) := ⟨(hf.1.other (by (try dsimp only); omega) _).other (by (try dsimp only); omega) _, (hf.2.1.other (by (try dsimp only); omega) _).other (by (try dsimp only); omega) _, (hf.2.2.1.other (by (try dsimp only); omega) _).other (by (try dsimp only); omega) _, (hf.2.2.2.1.other (by (try dsimp only); omega) _).other (by (try dsimp only); omega) _, (hf.2.2.2.2.setCell (p := ⟨bn, 0, none⟩) ds _).setCell (p := ⟨bn, 1, none⟩) ds _⟩
      refine hK.out _ _ (heldC_two (fun h => absurd h (by simp)) (fun _ => trivial)) (fun hF => ?_)
      clear hK K
      try simp only [Act.put, List.setIfInBounds_toArray, List.set_cons_zero, List.set_cons_succ]
      refine wpG_ready (rs := [10]) (by kernel_rfl) (by simp) ?_
      refine all_one ?_
      refine wpOp_hand (oi := ?oi150) ?hi150 (fun K hK => ?hh150)
      case hi150 => (simp only [List.getElem?_toArray, List.getElem?_cons_succ, List.getElem?_cons_zero]; rfl)
      go_simp
      refine hK.out _ _ (heldC_two (fun h => absurd h (by simp)) (fun h => absurd h (by simp))) (fun hF => ?_)
      clear hK K
      try simp only [Act.put, List.setIfInBounds_toArray, List.set_cons_zero, List.set_cons_succ]
      refine wpG_done (by kernel_rfl) ?_ _
      clear hf zz0 zz1 zz0f zz1f zzl hn
      go_wp2_with fail
      go_meet
      exact ⟨rfl, bn, rfl, Lib.hid ds, Lib.hid hnn, Lib.hid hfn.1, Lib.hid hfn.2.1, Lib.hid hfn.2.2.1, Lib.hid hfn.2.2.2.1, Lib.hid dl0, Lib.hid dl1, Lib.hid dl2, Lib.hid dl3, Lib.hid hfn.2.2.2.2⟩
  case rest =>
  obtain ⟨rfl, k5, rfl, Hkl5, s5, s1, s2, s3, s4, Hd5_1, Hd5_2, Hd5_3, Hd5_4, HB⟩ := hcut
  obtain ⟨X5, hX5⟩ : ∃ X, X = wc := ⟨_, rfl⟩
  subst hX5
  clear HXD1 hf
  have ne1_5 := Nat.ne_of_lt Hd5_1.out; have ne5_1 := Nat.ne_of_gt Hd5_1.out
  have l1 := Hkl1.out; have l5 := Hkl5.out
  (try clear SH)
  (try clear CH)
  (try clear SF)
  (try clear TM)
  (try clear AR)
  (try clear s2)
  (try clear s3)
  (try clear s4)
  (try clear HT)
  (try clear e1)
  (try clear e2')
  (try clear e3)
  (try clear Hkl1)
  (try clear Hd2_1)
  (try clear Hkl2)
  (try clear Hd3_1)
  (try clear Hd3_2)
  (try clear Hkl3)
  (try clear Hd4_1)
  (try clear Hd4_2)
  (try clear Hd4_3)
  (try clear Hkl4)
  (try clear Hkl5)
  (try clear Hd5_1)
  (try clear Hd5_2)
  (try clear Hd5_3)
  (try clear Hd5_4)
  by_cases c : 500000000 < lo
  · have h1 := HR.out.1; have h2 := HR.out.2
    rw [if_pos c] at h1 h2
    have H1 := Lib.hid h1; have H2 := Lib.hid h2
    clear h1 h2 HR
    have y5 := s5.out.set (lo - 1000000000) (hi - 1000000000)
    have y1 := (s1.out.other (a := ⟨k5, 0, none⟩) ne1_5 (.int .i64 (lo - 1000000000))).other (a := ⟨k5, 1, none⟩) ne1_5 (.int .i64 (hi - 1000000000))
    have q0 := s5.out.c0; have q1 := s5.out.c1; have q2 := s5.out.free 0; have q3 := s5.out.free 1; have q4 := s5.out.lt
    go_upto_region 14 with fail
    clear q0 q1 q2 q3 q4
    have bl := (HB.out.setCell (p := ⟨k5, 0, none⟩) l5 (.int .i64 (lo - 1000000000))).setCell (p := ⟨k5, 1, none⟩) l5 (.int .i64 (hi - 1000000000))
    obtain ⟨Z, hZ⟩ : ∃ x, x = (X5.setCell ⟨k5, 0, none⟩ (.int .i64 (lo - 1000000000))).setCell ⟨k5, 1, none⟩ (.int .i64 (hi - 1000000000)) := ⟨_, rfl⟩
    rw [← hZ] at y5 y1 bl ⊢
    clear hZ s1 s5 HB
    have u0 := y5.c0; have u1 := y5.c1; have u2 := y5.lt
    have v0 := y1.c0; have v1 := y1.c1; have v2 := y1.free 0; have v3 := y1.free 1; have v4 := y1.lt
    rw [← H1.out] at u0
    rw [← H2.out] at u1
    clear y5 y1 H1 H2
    go_wp2_with fail
    refine bodyPost_ret (v := .tuple #[.agg #[.int .i64 R1, .int .i64 R2], .int .i64 0]) ?_ rfl ⟨rfl, ?_⟩
    · simp [results, Tryd.results40, go_sem, *]
    · exact (bl.setCell (p := ⟨k1, 0, none⟩) l1 _).setCell (p := ⟨k1, 1, none⟩) l1 _
  · have h1 := HR.out.1; have h2 := HR.out.2
    rw [if_neg c, Int.sub_zero] at h1 h2
    subst h1 h2
    clear HR
    have u0 := s5.out.c0; have u1 := s5.out.c1; have u2 := s5.out.lt
    have v0 := s1.out.c0; have v1 := s1.out.c1; have v2 := s1.out.free 0; have v3 := s1.out.free 1; have v4 := s1.out.lt
    have bl := HB.out
    clear s1 s5 HB
    go_wp2_with fail
    refine bodyPost_ret (v := .tuple #[.agg #[.int .i64 R1, .int .i64 R2], .int .i64 0]) ?_ rfl ⟨rfl, ?_⟩
    · simp [results, Tryd.results40, go_sem, *]
    · exact (bl.setCell (p := ⟨k1, 0, none⟩) l1 _).setCell (p := ⟨k1, 1, none⟩) l1 _
end Go.Proofs.YtdeoahgcppbmkaaDoor
