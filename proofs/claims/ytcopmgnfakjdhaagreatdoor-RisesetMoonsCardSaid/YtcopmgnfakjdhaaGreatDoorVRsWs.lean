/- Merged by wip/tools/pack.py out of XRsW, XCrSd. -/
import Derived.Test.YtcopmgnfakjdhaaGreatDoorVRsPs
import Derived.Test.YtcopmgnfakjdhaaGreatDoorVNars
import Derived.Test.YtcopmgnfakjdhaaGreatDoorVLooks
/- riseset: above, the side of a rising, Find. -/
namespace Go.Proofs.YtcopmgnfakjdhaaGreatDoor
open Go.RowKit
set_option linter.unusedSimpArgs false
set_option linter.unusedVariables false
def LimT (w : World) : Prop := ∃ t fr, w.heap[0]? = some (.cells #[.int .i64 (-14543900), .int .i64 2182000] t fr)
theorem LimT.below {w w' : World} (h : LimT w) (hb : Below w.heap.size w w') : LimT w' := by
  obtain ⟨t, fr, h⟩ := h
  have hl : 0 < w.heap.size := by
    rcases Nat.lt_or_ge 0 w.heap.size with c | c
    · exact c
    · rw [Array.getElem?_eq_none c] at h; cases h
  exact ⟨t, fr, (hb.block _ hl).trans h⟩
theorem LimT.drew {w : World} (h : LimT w) : LimT w.drew := h
theorem LimT.lt {w : World} (h : LimT w) : 0 < w.heap.size := by
  obtain ⟨t, fr, h⟩ := h
  rcases Nat.lt_or_ge 0 w.heap.size with c | c
  · exact c
  · rw [Array.getElem?_eq_none c] at h; cases h
theorem LimT.c0 {w : World} (h : LimT w) : w.cell? ⟨0, 0, none⟩ = some (.int .i64 (-14543900)) := by
  obtain ⟨t, fr, h⟩ := h
  simp [World.cell?, h]
theorem LimT.c1 {w : World} (h : LimT w) : w.cell? ⟨0, 1, none⟩ = some (.int .i64 2182000) := by
  obtain ⟨t, fr, h⟩ := h
  simp [World.cell?, h]
set_option maxRecDepth 100000 in
set_option maxHeartbeats 8000000 in
theorem above0_ok (lon lat t : Int) (pl : PlOk lon lat) (ti : instOk t = true) (w : World) (hT : SinT w) (hL : LimT w) : Calls Tryz.prog 43 #[.agg #[.int .i64 lon, .int .i64 lat], .int .i64 t, .int .i64 0] w fun e w' => e = .returned (.int .i64 (abF lon lat 0 t)) ∧ Below w.heap.size w w' := by
  have S := Lib.hid (fun W (hT : SinT W) => sunAt_ok t W hT ti)
  have HE1 := Lib.hid (fun W (hT : SinT W) => show Calls Tryz.prog 25 #[.agg #[.int .i64 lon, .int .i64 lat], .agg #[.int .i64 (sRL t), .int .i64 (sRH t)], .agg #[.int .i64 (sDL t), .int .i64 (sDH t)], .int .i64 t] W fun e w' => e = .returned (.tuple #[.agg #[.int .i64 (rsHL lon lat 0 t), .int .i64 (rsHH lon lat 0 t)], .int .i64 0]) ∧ Below W.heap.size W w' from Height_ok lon lat (sRL t) (sRH t) (sDL t) (sDH t) t W hT (sun_lk t pl ti))
  obtain ⟨r, hr⟩ : ∃ r, r = abF lon lat 0 t := ⟨_, rfl⟩
  have HR : Hid (r = if -14543900 < rsHL lon lat 0 t then 1 else if rsHH lon lat 0 t < -14543900 then -1 else 0) := Lib.hid (by rw [hr]; rfl)
  rw [← hr]
  have HT := Lib.hid hT
  have HL := Lib.hid hL
  clear hT hL pl ti hr
  generalize sRL t = r1 at *
  generalize sRH t = r2 at *
  generalize sDL t = d1 at *
  generalize sDH t = d2 at *
  generalize rsHL lon lat 0 t = h1 at *
  generalize rsHH lon lat 0 t = h2 at *
  have P1 := PlBox.new w lon lat
  have HB0 := (Below.refl w.heap.size w).alloc (Nat.le_refl _) (.cells #[.int .i64 lon, .int .i64 lat] 23)
  obtain ⟨k0, hk0⟩ : ∃ x, x = w.heap.size := ⟨_, rfl⟩
  rw [← hk0] at P1
  have HB := Lib.hid (Below.refl w.heap.size w)
  clear HB
  go_enter Tryz.func43, Tryz.ntmps43
  go_upto_region 4 with fail
  rw [← hk0]
  obtain ⟨X0, hX0⟩ : ∃ X, X = w.alloc (.cells #[.int .i64 lon, .int .i64 lat] 23) := ⟨_, rfl⟩
  rw [← hX0] at P1 HB0 ⊢
  have HB := Lib.hid HB0
  have s1 := Lib.hid P1
  clear hX0 P1 HB0 hk0
  go_wp2_with fail
  refine Calls.mono (S.out _ (HT.out.below HB.out)) ?_
  rintro e wn2 ⟨rfl, hb⟩
  replace s1 := Lib.hid (((s1.out.below hb).alloc (.cells #[.int .i64 (r1), .int .i64 (r2)] 28)).alloc (.cells #[.int .i64 (d1), .int .i64 (d2)] 28))
  have HB2 := HB.out.trans (hb.mono HB.out.size)
  clear hb
  have Hkl2 := Lib.hid HB2.size; have HBq := HB2.alloc HB2.size (.cells #[.int .i64 (r1), .int .i64 (r2)] 28); replace HB := Lib.hid (HBq.alloc HBq.size (.cells #[.int .i64 (d1), .int .i64 (d2)] 28)); clear HB2 HBq
  obtain ⟨k2, hk2⟩ : ∃ x, x = wn2.heap.size := ⟨_, rfl⟩
  have hk3 : (wn2.alloc (.cells #[.int .i64 (r1), .int .i64 (r2)] 28)).heap.size = k2 + 1 := by simp [hk2]
  have s2 := Lib.hid ((SpBox.new wn2 (r1) (r2)).alloc (.cells #[.int .i64 (d1), .int .i64 (d2)] 28))
  have s30 := SpBox.new (wn2.alloc (.cells #[.int .i64 (r1), .int .i64 (r2)] 28)) (d1) (d2)
  rw [hk3] at s30
  have s3 := Lib.hid s30; clear s30
  rw [← hk2] at s2 Hkl2
  have Hkl3 := Lib.hid (Nat.le_trans Hkl2.out (Nat.le_succ k2))
  go_upto_region 5 with fail
  (try rw [hk3])
  rw [← hk2]
  obtain ⟨X3, hX3⟩ : ∃ X, X = (wn2.alloc (.cells #[.int .i64 (r1), .int .i64 (r2)] 28)).alloc (.cells #[.int .i64 (d1), .int .i64 (d2)] 28) := ⟨_, rfl⟩
  rw [← hX3] at s1 s2 s3 HB ⊢
  clear hk3 hk2 hX3
  have sc2_0 := s2.out.c0; have sc2_1 := s2.out.c1; have sc2_l := s2.out.lt
  have sc3_0 := s3.out.c0; have sc3_1 := s3.out.c1; have sc3_l := s3.out.lt
  have p0 := s1.out.c0; have p1 := s1.out.c1; have pz := s1.out.lt
  go_wp2_with fail
  refine Calls.mono (HE1.out _ (HT.out.below HB.out)) ?_
  rintro e wn4 ⟨rfl, hb⟩
  replace s1 := Lib.hid ((s1.out.below hb).alloc (.cells #[.int .i64 (h1), .int .i64 (h2)] 28))
  replace s2 := Lib.hid ((s2.out.below hb).alloc (.cells #[.int .i64 (h1), .int .i64 (h2)] 28))
  replace s3 := Lib.hid ((s3.out.below hb).alloc (.cells #[.int .i64 (h1), .int .i64 (h2)] 28))
  have HB4 := HB.out.trans (hb.mono HB.out.size)
  clear sc2_0 sc2_1 sc2_l sc3_0 sc3_1 sc3_l
  clear hb
  have Hkl4 := Lib.hid HB4.size; replace HB := Lib.hid (HB4.alloc HB4.size (.cells #[.int .i64 (h1), .int .i64 (h2)] 28))
  clear HB4
  have s4 := Lib.hid (SpBox.new wn4 (h1) (h2))
  obtain ⟨k4, hk4⟩ : ∃ x, x = wn4.heap.size := ⟨_, rfl⟩
  rw [← hk4] at s4 Hkl4
  go_upto_region 6 with fail
  rw [← hk4]
  obtain ⟨X4, hX4⟩ : ∃ X, X = wn4.alloc (.cells #[.int .i64 (h1), .int .i64 (h2)] 28) := ⟨_, rfl⟩
  rw [← hX4] at s1 s2 s3 s4 HB ⊢
  clear hk4 hX4
  clear p0 p1 pz
  have g0 := (HL.out.below HB.out).c0
  have sc4_0 := s4.out.c0; have sc4_1 := s4.out.c1; have sc4_l := s4.out.lt
  have L4 := Lib.hid (HL.out.below HB.out)
  clear g0
  go_upto_region 6 with fail
  go_cut [30] (fun sv wx => sv = .bool (decide (-14543900 < h1)) ∧ Hid (SpBox wx k4 h1 h2) ∧ Hid (LimT wx) ∧ Hid (Below w.heap.size w wx))
  case first =>
    obtain ⟨QA, hQA⟩ : ∃ QA, QA = (X4).drew := ⟨_, rfl⟩
    have xQA0 : QA.cell? ⟨k4, 0, none⟩ = some (.int .i64 h1) := by rw [hQA]; exact (s4.out.drew.c0)
    have xQA1 : QA.cell? ⟨0, 0, none⟩ = some (.int .i64 (-14543900)) := by rw [hQA]; exact (L4.out.drew.c0)
    have lQA0 : k4 < QA.heap.size := by rw [hQA]; exact (s4.out.lt)
    have lQA1 : 0 < QA.heap.size := by rw [hQA]; exact (L4.out.lt)
    have bQA : Below w.heap.size w QA := by rw [hQA]; exact (HB.out).drew
    have HxQA0 := Lib.hid xQA0
    have HxQA1 := Lib.hid xQA1
    have HlQA0 := Lib.hid lQA0
    have HlQA1 := Lib.hid lQA1
    have HbQA := Lib.hid bQA
    have HhQA := Lib.hid hQA
    clear xQA0 xQA1 lQA0 lQA1 bQA hQA
    go_region_held3 (fun w' => w'.cell? ⟨k4, 0, none⟩ = some (.int .i64 h1) ∧ w'.cell? ⟨0, 0, none⟩ = some (.int .i64 (-14543900)) ∧ Below QA.heap.size QA w')
      (((try dsimp only); repeat' apply And.intro) <;> (first | (with_reducible assumption) | (go_split_ands; (with_reducible assumption)) | (rw [← HhQA.out]; (first | exact Below.refl _ _ | exact HxQA0.out | exact HxQA1.out)) | go_keep))
      (fail)
    all_goals (go_wp2_with fail; go_meet; (try go_split_ands); exact ⟨rfl, Lib.hid ((show SpBox QA k4 h1 h2 by rw [HhQA.out]; exact s4.out.drew).below (by first | exact Below.refl _ _ | with_reducible assumption)), Lib.hid ((show LimT QA by rw [HhQA.out]; exact L4.out.drew).below (by first | exact Below.refl _ _ | with_reducible assumption)), Lib.hid (bX_back HbQA.out (by first | exact Below.refl _ _ | with_reducible assumption))⟩)
  case rest =>
    obtain ⟨rfl, s4, L4, HB⟩ := hcut
    by_cases c1 : -14543900 < h1
    · obtain rfl : r = 1 := by have := HR.out; rw [if_pos c1] at this; exact this
      clear HR
      go_wp2_with fail
      go_ret
      exact ⟨rfl, HB.out⟩
    · go_upto_region 8 with fail
      go_cut [37] (fun sv wx => sv = .bool (decide (h2 < -14543900)) ∧ Hid (Below w.heap.size w wx))
      case first =>
        obtain ⟨QB, hQB⟩ : ∃ QB, QB = (wc).drew := ⟨_, rfl⟩
        have xQB0 : QB.cell? ⟨k4, 1, none⟩ = some (.int .i64 h2) := by rw [hQB]; exact (s4.out.drew.c1)
        have xQB1 : QB.cell? ⟨0, 0, none⟩ = some (.int .i64 (-14543900)) := by rw [hQB]; exact (L4.out.drew.c0)
        have lQB0 : k4 < QB.heap.size := by rw [hQB]; exact (s4.out.lt)
        have lQB1 : 0 < QB.heap.size := by rw [hQB]; exact (L4.out.lt)
        have bQB : Below w.heap.size w QB := by rw [hQB]; exact (HB.out).drew
        have HxQB0 := Lib.hid xQB0
        have HxQB1 := Lib.hid xQB1
        have HlQB0 := Lib.hid lQB0
        have HlQB1 := Lib.hid lQB1
        have HbQB := Lib.hid bQB
        have HhQB := Lib.hid hQB
        clear xQB0 xQB1 lQB0 lQB1 bQB hQB
        go_region_held3 (fun w' => w'.cell? ⟨k4, 1, none⟩ = some (.int .i64 h2) ∧ w'.cell? ⟨0, 0, none⟩ = some (.int .i64 (-14543900)) ∧ Below QB.heap.size QB w')
          (((try dsimp only); repeat' apply And.intro) <;> (first | (with_reducible assumption) | (go_split_ands; (with_reducible assumption)) | (rw [← HhQB.out]; (first | exact Below.refl _ _ | exact HxQB0.out | exact HxQB1.out)) | go_keep))
          (fail)
        all_goals (go_wp2_with fail; go_meet; (try go_split_ands); exact ⟨rfl, Lib.hid (bX_back HbQB.out (by first | exact Below.refl _ _ | with_reducible assumption))⟩)
      case rest =>
        obtain ⟨rfl, HB⟩ := hcut
        by_cases c2 : h2 < -14543900
        · obtain rfl : r = -1 := by have := HR.out; rw [if_neg c1, if_pos c2] at this; exact this
          clear HR
          go_wp2_with fail
          go_ret
          exact ⟨rfl, HB.out⟩
        · obtain rfl : r = 0 := by have := HR.out; rw [if_neg c1, if_neg c2] at this; exact this
          clear HR
          go_wp2_with fail
          go_ret
          exact ⟨rfl, HB.out⟩
set_option maxRecDepth 100000 in
set_option maxHeartbeats 8000000 in
theorem above1_ok (lon lat t : Int) (pl : PlOk lon lat) (ti : instOk t = true) (w : World) (hT : SinT w) (hL : LimT w) : Calls Tryz.prog 43 #[.agg #[.int .i64 lon, .int .i64 lat], .int .i64 t, .int .i64 1] w fun e w' => e = .returned (.int .i64 (abF lon lat 1 t)) ∧ Below w.heap.size w w' := by
  have S := Lib.hid (fun W (hT : SinT W) => moonAt_ok t W hT ti)
  have HE1 := Lib.hid (fun W (hT : SinT W) => show Calls Tryz.prog 25 #[.agg #[.int .i64 lon, .int .i64 lat], .agg #[.int .i64 (mRL t), .int .i64 (mRH t)], .agg #[.int .i64 (mDL t), .int .i64 (mDH t)], .int .i64 t] W fun e w' => e = .returned (.tuple #[.agg #[.int .i64 (rsHL lon lat 1 t), .int .i64 (rsHH lon lat 1 t)], .int .i64 0]) ∧ Below W.heap.size W w' from Height_ok lon lat (mRL t) (mRH t) (mDL t) (mDH t) t W hT (moon_lk t pl ti))
  obtain ⟨r, hr⟩ : ∃ r, r = abF lon lat 1 t := ⟨_, rfl⟩
  have HR : Hid (r = if 2182000 < rsHL lon lat 1 t then 1 else if rsHH lon lat 1 t < 2182000 then -1 else 0) := Lib.hid (by rw [hr]; rfl)
  rw [← hr]
  have HT := Lib.hid hT
  have HL := Lib.hid hL
  clear hT hL pl ti hr
  generalize mRL t = r1 at *
  generalize mRH t = r2 at *
  generalize mDL t = d1 at *
  generalize mDH t = d2 at *
  generalize rsHL lon lat 1 t = h1 at *
  generalize rsHH lon lat 1 t = h2 at *
  have P1 := PlBox.new w lon lat
  have HB0 := (Below.refl w.heap.size w).alloc (Nat.le_refl _) (.cells #[.int .i64 lon, .int .i64 lat] 23)
  obtain ⟨k0, hk0⟩ : ∃ x, x = w.heap.size := ⟨_, rfl⟩
  rw [← hk0] at P1
  have HB := Lib.hid (Below.refl w.heap.size w)
  clear HB
  go_enter Tryz.func43, Tryz.ntmps43
  go_upto_region 4 with fail
  rw [← hk0]
  obtain ⟨X0, hX0⟩ : ∃ X, X = w.alloc (.cells #[.int .i64 lon, .int .i64 lat] 23) := ⟨_, rfl⟩
  rw [← hX0] at P1 HB0 ⊢
  have HB := Lib.hid HB0
  have s1 := Lib.hid P1
  clear hX0 P1 HB0 hk0
  go_wp2_with fail
  refine Calls.mono (S.out _ (HT.out.below HB.out)) ?_
  rintro e wn2 ⟨rfl, hb⟩
  replace s1 := Lib.hid (((s1.out.below hb).alloc (.cells #[.int .i64 (r1), .int .i64 (r2)] 28)).alloc (.cells #[.int .i64 (d1), .int .i64 (d2)] 28))
  have HB2 := HB.out.trans (hb.mono HB.out.size)
  clear hb
  have Hkl2 := Lib.hid HB2.size; have HBq := HB2.alloc HB2.size (.cells #[.int .i64 (r1), .int .i64 (r2)] 28); replace HB := Lib.hid (HBq.alloc HBq.size (.cells #[.int .i64 (d1), .int .i64 (d2)] 28)); clear HB2 HBq
  obtain ⟨k2, hk2⟩ : ∃ x, x = wn2.heap.size := ⟨_, rfl⟩
  have hk3 : (wn2.alloc (.cells #[.int .i64 (r1), .int .i64 (r2)] 28)).heap.size = k2 + 1 := by simp [hk2]
  have s2 := Lib.hid ((SpBox.new wn2 (r1) (r2)).alloc (.cells #[.int .i64 (d1), .int .i64 (d2)] 28))
  have s30 := SpBox.new (wn2.alloc (.cells #[.int .i64 (r1), .int .i64 (r2)] 28)) (d1) (d2)
  rw [hk3] at s30
  have s3 := Lib.hid s30; clear s30
  rw [← hk2] at s2 Hkl2
  have Hkl3 := Lib.hid (Nat.le_trans Hkl2.out (Nat.le_succ k2))
  go_upto_region 5 with fail
  (try rw [hk3])
  rw [← hk2]
  obtain ⟨X3, hX3⟩ : ∃ X, X = (wn2.alloc (.cells #[.int .i64 (r1), .int .i64 (r2)] 28)).alloc (.cells #[.int .i64 (d1), .int .i64 (d2)] 28) := ⟨_, rfl⟩
  rw [← hX3] at s1 s2 s3 HB ⊢
  clear hk3 hk2 hX3
  have sc2_0 := s2.out.c0; have sc2_1 := s2.out.c1; have sc2_l := s2.out.lt
  have sc3_0 := s3.out.c0; have sc3_1 := s3.out.c1; have sc3_l := s3.out.lt
  have p0 := s1.out.c0; have p1 := s1.out.c1; have pz := s1.out.lt
  go_wp2_with fail
  refine Calls.mono (HE1.out _ (HT.out.below HB.out)) ?_
  rintro e wn4 ⟨rfl, hb⟩
  replace s1 := Lib.hid ((s1.out.below hb).alloc (.cells #[.int .i64 (h1), .int .i64 (h2)] 28))
  replace s2 := Lib.hid ((s2.out.below hb).alloc (.cells #[.int .i64 (h1), .int .i64 (h2)] 28))
  replace s3 := Lib.hid ((s3.out.below hb).alloc (.cells #[.int .i64 (h1), .int .i64 (h2)] 28))
  have HB4 := HB.out.trans (hb.mono HB.out.size)
  clear sc2_0 sc2_1 sc2_l sc3_0 sc3_1 sc3_l
  clear hb
  have Hkl4 := Lib.hid HB4.size; replace HB := Lib.hid (HB4.alloc HB4.size (.cells #[.int .i64 (h1), .int .i64 (h2)] 28))
  clear HB4
  have s4 := Lib.hid (SpBox.new wn4 (h1) (h2))
  obtain ⟨k4, hk4⟩ : ∃ x, x = wn4.heap.size := ⟨_, rfl⟩
  rw [← hk4] at s4 Hkl4
  go_upto_region 6 with fail
  rw [← hk4]
  obtain ⟨X4, hX4⟩ : ∃ X, X = wn4.alloc (.cells #[.int .i64 (h1), .int .i64 (h2)] 28) := ⟨_, rfl⟩
  rw [← hX4] at s1 s2 s3 s4 HB ⊢
  clear hk4 hX4
  clear p0 p1 pz
  have g0 := (HL.out.below HB.out).c1
  have sc4_0 := s4.out.c0; have sc4_1 := s4.out.c1; have sc4_l := s4.out.lt
  have L4 := Lib.hid (HL.out.below HB.out)
  clear g0
  go_upto_region 6 with fail
  go_cut [30] (fun sv wx => sv = .bool (decide (2182000 < h1)) ∧ Hid (SpBox wx k4 h1 h2) ∧ Hid (LimT wx) ∧ Hid (Below w.heap.size w wx))
  case first =>
    obtain ⟨QA, hQA⟩ : ∃ QA, QA = (X4).drew := ⟨_, rfl⟩
    have xQA0 : QA.cell? ⟨k4, 0, none⟩ = some (.int .i64 h1) := by rw [hQA]; exact (s4.out.drew.c0)
    have xQA1 : QA.cell? ⟨0, 1, none⟩ = some (.int .i64 (2182000)) := by rw [hQA]; exact (L4.out.drew.c1)
    have lQA0 : k4 < QA.heap.size := by rw [hQA]; exact (s4.out.lt)
    have lQA1 : 0 < QA.heap.size := by rw [hQA]; exact (L4.out.lt)
    have bQA : Below w.heap.size w QA := by rw [hQA]; exact (HB.out).drew
    have HxQA0 := Lib.hid xQA0
    have HxQA1 := Lib.hid xQA1
    have HlQA0 := Lib.hid lQA0
    have HlQA1 := Lib.hid lQA1
    have HbQA := Lib.hid bQA
    have HhQA := Lib.hid hQA
    clear xQA0 xQA1 lQA0 lQA1 bQA hQA
    go_region_held3 (fun w' => w'.cell? ⟨k4, 0, none⟩ = some (.int .i64 h1) ∧ w'.cell? ⟨0, 1, none⟩ = some (.int .i64 (2182000)) ∧ Below QA.heap.size QA w')
      (((try dsimp only); repeat' apply And.intro) <;> (first | (with_reducible assumption) | (go_split_ands; (with_reducible assumption)) | (rw [← HhQA.out]; (first | exact Below.refl _ _ | exact HxQA0.out | exact HxQA1.out)) | go_keep))
      (fail)
    all_goals (go_wp2_with fail; go_meet; (try go_split_ands); exact ⟨rfl, Lib.hid ((show SpBox QA k4 h1 h2 by rw [HhQA.out]; exact s4.out.drew).below (by first | exact Below.refl _ _ | with_reducible assumption)), Lib.hid ((show LimT QA by rw [HhQA.out]; exact L4.out.drew).below (by first | exact Below.refl _ _ | with_reducible assumption)), Lib.hid (bX_back HbQA.out (by first | exact Below.refl _ _ | with_reducible assumption))⟩)
  case rest =>
    obtain ⟨rfl, s4, L4, HB⟩ := hcut
    by_cases c1 : 2182000 < h1
    · obtain rfl : r = 1 := by have := HR.out; rw [if_pos c1] at this; exact this
      clear HR
      go_wp2_with fail
      go_ret
      exact ⟨rfl, HB.out⟩
    · go_upto_region 8 with fail
      go_cut [37] (fun sv wx => sv = .bool (decide (h2 < 2182000)) ∧ Hid (Below w.heap.size w wx))
      case first =>
        obtain ⟨QB, hQB⟩ : ∃ QB, QB = (wc).drew := ⟨_, rfl⟩
        have xQB0 : QB.cell? ⟨k4, 1, none⟩ = some (.int .i64 h2) := by rw [hQB]; exact (s4.out.drew.c1)
        have xQB1 : QB.cell? ⟨0, 1, none⟩ = some (.int .i64 (2182000)) := by rw [hQB]; exact (L4.out.drew.c1)
        have lQB0 : k4 < QB.heap.size := by rw [hQB]; exact (s4.out.lt)
        have lQB1 : 0 < QB.heap.size := by rw [hQB]; exact (L4.out.lt)
        have bQB : Below w.heap.size w QB := by rw [hQB]; exact (HB.out).drew
        have HxQB0 := Lib.hid xQB0
        have HxQB1 := Lib.hid xQB1
        have HlQB0 := Lib.hid lQB0
        have HlQB1 := Lib.hid lQB1
        have HbQB := Lib.hid bQB
        have HhQB := Lib.hid hQB
        clear xQB0 xQB1 lQB0 lQB1 bQB hQB
        go_region_held3 (fun w' => w'.cell? ⟨k4, 1, none⟩ = some (.int .i64 h2) ∧ w'.cell? ⟨0, 1, none⟩ = some (.int .i64 (2182000)) ∧ Below QB.heap.size QB w')
          (((try dsimp only); repeat' apply And.intro) <;> (first | (with_reducible assumption) | (go_split_ands; (with_reducible assumption)) | (rw [← HhQB.out]; (first | exact Below.refl _ _ | exact HxQB0.out | exact HxQB1.out)) | go_keep))
          (fail)
        all_goals (go_wp2_with fail; go_meet; (try go_split_ands); exact ⟨rfl, Lib.hid (bX_back HbQB.out (by first | exact Below.refl _ _ | with_reducible assumption))⟩)
      case rest =>
        obtain ⟨rfl, HB⟩ := hcut
        by_cases c2 : h2 < 2182000
        · obtain rfl : r = -1 := by have := HR.out; rw [if_neg c1, if_pos c2] at this; exact this
          clear HR
          go_wp2_with fail
          go_ret
          exact ⟨rfl, HB.out⟩
        · obtain rfl : r = 0 := by have := HR.out; rw [if_neg c1, if_neg c2] at this; exact this
          clear HR
          go_wp2_with fail
          go_ret
          exact ⟨rfl, HB.out⟩
theorem above_ok (lon lat b t : Int) (hb : b = 0 ∨ b = 1) (pl : PlOk lon lat) (ti : instOk t = true) (w : World) (hT : SinT w) (hL : LimT w) : Calls Tryz.prog 43 #[.agg #[.int .i64 lon, .int .i64 lat], .int .i64 t, .int .i64 b] w fun e w' => e = .returned (.int .i64 (abF lon lat b t)) ∧ Below w.heap.size w w' := by
  rcases hb with rfl | rfl
  · exact above0_ok lon lat t pl ti w hT hL
  · exact above1_ok lon lat t pl ti w hT hL
set_option maxRecDepth 100000 in
set_option maxHeartbeats 4000000 in
theorem rsCheck_ok (lon lat b : Int) (hb : b = 0 ∨ b = 1) (pl : PlOk lon lat) (w : World) : Calls Tryz.prog 41 #[.agg #[.int .i64 lon, .int .i64 lat], .int .i64 b] w fun e w' => e = .returned (.int .i64 0) ∧ Below w.heap.size w w' := by
  have CH := Lib.hid (fun w => plCheck_ok lon lat w pl)
  rcases hb with rfl | rfl
  all_goals
    clear pl
    go_enter Tryz.func41, Tryz.ntmps41
    go_wp2_with fail
    refine Calls.mono (CH.out _) ?_
    rintro e w1 ⟨rfl, hb⟩
    have HB := Lib.hid (show Below w.heap.size w w1 from ((Below.refl w.heap.size w).alloc (Nat.le_refl _) _).trans (hb.mono (by simp)))
    clear hb
    go_wp2_with fail
    go_ret
    exact ⟨rfl, HB.out⟩
theorem enRs : ∀ args w, (callFunc 42 args).run Tryz.prog w = .ok (.enter 42 args) w := enters_of Tryz.func42 (by kernel_rfl) rfl
set_option maxRecDepth 100000 in
set_option maxHeartbeats 8000000 in
theorem rsSide_walk (lon lat b sg x r : Int) (kS kP kB : Nat) (w : World) (pm : IntKind.i64.wrap (sg * r) = sg * r) (A : ∀ V, Below w.heap.size w V → Calls Tryz.prog 43 #[.agg #[.int .i64 lon, .int .i64 lat], .int .i64 x, .int .i64 b] V fun e w' => e = .returned (.int .i64 r) ∧ Below V.heap.size V w') (hS : IntBox w kS sg) (hP : PlBox w kP lon lat) (hB : IntBox w kB b) :
    Calls Tryz.prog 42 #[.int .i64 x, .pointer (some ⟨kS, 0, none⟩), .pointer (some ⟨kP, 0, none⟩), .pointer (some ⟨kB, 0, none⟩)] w fun e w' => e = .returned (.int .i64 (sg * r)) ∧ Below w.heap.size w w' := by
  have A := Lib.hid A
  have IS := Lib.hid hS
  have IP := Lib.hid hP
  have IB := Lib.hid hB
  clear hS hP hB
  go_enter Tryz.func42, Tryz.ntmps42
  go_upto_region 1 with fail
  go_cut [5] (fun sv wx => sv = .int .i64 (sg * r) ∧ Hid (Below w.heap.size w wx))
  case first =>
    obtain ⟨Q, hQ⟩ : ∃ Q, Q = (w).drew := ⟨_, rfl⟩
    have xQ0 : Q.cell? ⟨kS, 0, none⟩ = some (.int .i64 sg) := by rw [hQ]; exact (IS.out.drew.c0)
    have xQ1 : Q.cell? ⟨kP, 0, none⟩ = some (.int .i64 lon) := by rw [hQ]; exact (IP.out.drew.c0)
    have xQ2 : Q.cell? ⟨kP, 1, none⟩ = some (.int .i64 lat) := by rw [hQ]; exact (IP.out.drew.c1)
    have xQ3 : Q.cell? ⟨kB, 0, none⟩ = some (.int .i64 b) := by rw [hQ]; exact (IB.out.drew.c0)
    have lQ0 : kS < Q.heap.size := by rw [hQ]; exact (IS.out.lt)
    have lQ1 : kP < Q.heap.size := by rw [hQ]; exact (IP.out.lt)
    have lQ2 : kB < Q.heap.size := by rw [hQ]; exact (IB.out.lt)
    have bQ : Below w.heap.size w Q := by rw [hQ]; exact ((Below.refl w.heap.size w)).drew
    have HxQ0 := Lib.hid xQ0
    have HxQ1 := Lib.hid xQ1
    have HxQ2 := Lib.hid xQ2
    have HxQ3 := Lib.hid xQ3
    have HlQ0 := Lib.hid lQ0
    have HlQ1 := Lib.hid lQ1
    have HlQ2 := Lib.hid lQ2
    have HbQ := Lib.hid bQ
    have HhQ := Lib.hid hQ
    clear xQ0 xQ1 xQ2 xQ3 lQ0 lQ1 lQ2 bQ hQ
    go_region_held3 (fun w' => w'.cell? ⟨kS, 0, none⟩ = some (.int .i64 sg) ∧ w'.cell? ⟨kP, 0, none⟩ = some (.int .i64 lon) ∧ w'.cell? ⟨kP, 1, none⟩ = some (.int .i64 lat) ∧ w'.cell? ⟨kB, 0, none⟩ = some (.int .i64 b) ∧ Below Q.heap.size Q w')
      (((try dsimp only); repeat' apply And.intro) <;> (first | (with_reducible assumption) | (go_split_ands; (with_reducible assumption)) | (rw [← HhQ.out]; (first | exact Below.refl _ _ | exact HxQ0.out | exact HxQ1.out | exact HxQ2.out | exact HxQ3.out)) | go_keep))
      (first
        | ((try go_split_ands); go_at_call 43; refine Calls.mono (A.out _ (bX_back HbQ.out (by first | exact Below.refl _ _ | with_reducible assumption))) ?_; rintro e wq ⟨rfl, hb⟩; (try go_split_ands); have qB : Below Q.heap.size Q wq := (bX_more (by with_reducible assumption) hb); have m0 := bX_oldc qB HlQ0.out HxQ0.out; have m1 := bX_oldc qB HlQ1.out HxQ1.out; have m2 := bX_oldc qB HlQ1.out HxQ2.out; have m3 := bX_oldc qB HlQ2.out HxQ3.out; clear hb))
    all_goals (go_wp2_with fail; go_meet; (try go_split_ands); exact ⟨by first | rfl | exact congrArg (Value.int IntKind.i64) pm, Lib.hid (bX_back HbQ.out (by first | exact Below.refl _ _ | with_reducible assumption))⟩)
  case rest =>
    obtain ⟨rfl, HB⟩ := hcut
    go_wp2_with fail
    go_ret
    exact ⟨rfl, HB.out⟩
theorem rsSide_ok (lon lat b sg : Int) (hb : b = 0 ∨ b = 1) (hs : sg = 1 ∨ sg = -1) (pl : PlOk lon lat) (lo hi : Int) (hin : ∀ x, lo ≤ x → x ≤ hi → instOk x = true) (kS kP kB : Nat) (w : World) (hT : SinT w) (hL : LimT w) (hS : IntBox w kS sg) (hP : PlBox w kP lon lat) (hB : IntBox w kB b) :
    FnAt 42 #[.pointer (some ⟨kS, 0, none⟩), .pointer (some ⟨kP, 0, none⟩), .pointer (some ⟨kB, 0, none⟩)] (fun x => .int .i64 (sg * abF lon lat b x)) lo hi w := by
  intro W x h1 h2 hbl
  have r3 := ab_3 lon lat b x
  have pm : IntKind.i64.wrap (sg * abF lon lat b x) = sg * abF lon lat b x := by
    generalize abF lon lat b x = r at *
    rcases hs with rfl | rfl <;> rcases r3 with rfl | rfl | rfl <;> exact IntWalk.i64_in _ (by omega)
  exact rsSide_walk lon lat b sg x (abF lon lat b x) kS kP kB W pm (fun V h => above_ok lon lat b x hb pl (hin x h1 h2) V (hT.below (hbl.trans (h.mono hbl.size))) (hL.below (hbl.trans (h.mono hbl.size)))) (hS.below hbl) (hP.below hbl) (hB.below hbl)
end Go.Proofs.YtcopmgnfakjdhaaGreatDoor
/- crescent: the side of the moon at an instant. -/
namespace Go.Proofs.YtcopmgnfakjdhaaGreatDoor
open Go.RowKit
set_option linter.unusedSimpArgs false
set_option linter.unusedVariables false
end Go.Proofs.YtcopmgnfakjdhaaGreatDoor
