/- TideSums: the heights of two tides add up. -/
import Derived.Test.YtloaliddcaobeaaDoorTideWorks
import Derived.Test.YtloaliddcaobeaaDoorTides
import Derived.Test.YtloaliddcaobeaaDoorSpan
import Derived.Deep.RegionHeld3
namespace Go.Proofs.YtloaliddcaobeaaDoor
open Go.RowKit
set_option linter.unusedSimpArgs false
set_option linter.unusedVariables false
set_option maxRecDepth 100000 in
set_option maxHeartbeats 16000000 in
theorem tideSums_walk (A0 : Option Addr) (n0 cap0 : Nat) (zs0 : List Int) (A1 : Option Addr) (n1 cap1 : Nat) (zs1 : List Int) (t0 : Int) (w : World) (ht : SinT w) (hF0 : FlatSl w 3 A0 n0 cap0 zs0) (hF1 : FlatSl w 3 A1 n1 cap1 zs1) :
    Calls Tryd.prog 5 #[.slice A0 n0 cap0, .slice A1 n1 cap1, .int .i64 t0] w fun e w' => e = .returned (.bool true) ∧ Below w.heap.size w w' := by
  obtain ⟨iT, hi, hy0, hy1, hy2⟩ := info_parts infoTide
  obtain ⟨t, hte⟩ : ∃ t, t = t0 % 604800000000000 - 302400000000000 := ⟨_, rfl⟩
  have HI := Lib.hid (fun w => hte ▸ instant_ok t0 w)
  have HIN := Lib.hid (show instOk t = true by rw [hte]; exact instant_in t0)
  have HT := Lib.hid ht; have HF0 := Lib.hid hF0; have HF1 := Lib.hid hF1
  clear hte ht hF0 hF1
  go_enter Tryd.func5, Tryd.ntmps5
  go_upto_region 3 with (go_at_call 21; refine Calls.mono (tideWorks_ok _ HT.out) ?_; rintro e w1 ⟨rfl, hb⟩; have W1 := Lib.hid hb; clear hb)
  go_wp2_with fail
  refine Calls.mono (tides_ok A0 n0 cap0 zs0 _ (flat_below HF0.out W1.out)) ?_
  rintro e w2 ⟨v1, m1, ys, rfl, ho1, hm1, ht1, hb⟩
  obtain ⟨D1, c1, rfl, fl1⟩ := own_flat ho1
  have W2 := Lib.hid (W1.out.trans (hb.mono W1.out.size))
  have L1 := Lib.hid fl1; have M1 := Lib.hid hm1; have O1 := Lib.hid ht1
  clear hb fl1 hm1 ht1 ho1
  go_wp2_with fail
  refine Calls.mono (tides_ok A1 n1 cap1 zs1 _ (flat_below HF1.out W2.out)) ?_
  rintro e w3 ⟨v2, m2, us, rfl, ho2, hm2, ht2, hb⟩
  obtain ⟨D2, c2, rfl, fl2⟩ := own_flat ho2
  have W3 := Lib.hid (W2.out.trans (hb.mono W2.out.size))
  have L2 := Lib.hid fl2; have M2 := Lib.hid hm2; have O2 := Lib.hid ht2
  have L1b := Lib.hid (flat_below L1.out hb)
  clear hb fl2 hm2 ht2 ho2 L1
  go_wp2_with fail
  refine Calls.mono (HI.out _) ?_
  rintro e _ ⟨rfl, rfl⟩
  go_wp2_with fail
  have h1 := heights (by have := M1.out; omega) O1.out t
  have h2 := heights (by have := M2.out; omega) O2.out t
  have h3 := heights (by have := M1.out; have := M2.out; omega) (both_td L1b.out.len O1.out O2.out) t
  have mt := tides_meet L1b.out.len M1.out M2.out O1.out O2.out t
  have HV1 := Lib.hid (fun W (hT : SinT W) (h : FlatSl W 3 D1 m1 c1 ys) => THeight_ok t D1 m1 c1 ys W hT h (by have := M1.out; omega) O1.out HIN.out)
  have HV2 := Lib.hid (fun W (hT : SinT W) (h : FlatSl W 3 D2 m2 c2 us) => THeight_ok t D2 m2 c2 us W hT h (by have := M2.out; omega) O2.out HIN.out)
  have HV3 := Lib.hid (fun A3 cap3 W (hT : SinT W) (h : FlatSl W 3 A3 (m1 + m2) cap3 (ys ++ us)) => THeight_ok t A3 (m1 + m2) cap3 (ys ++ us) W hT h (by have := M1.out; have := M2.out; omega) (both_td L1b.out.len O1.out O2.out) HIN.out)
  generalize hLo ys m1 t = lo1 at *
  generalize hHi ys m1 t = hi1 at *
  generalize hLo us m2 t = lo2 at *
  generalize hHi us m2 t = hi2 at *
  generalize hLo (ys ++ us) (m1 + m2) t = lo3 at *
  generalize hHi (ys ++ us) (m1 + m2) t = hi3 at *
  obtain ⟨a1, a2, a3⟩ := h1; obtain ⟨a4, a5, a6⟩ := h2; obtain ⟨a7, a8, a9⟩ := h3; obtain ⟨m1', m2'⟩ := mt
  have HP := Lib.hid (fun w => plus_any lo1 hi1 lo2 hi2 w (by omega) (by omega) (by omega) (by omega))
  have HM := Lib.hid (fun w => meets_true lo3 hi3 (lo1 + lo2) (hi1 + hi2) w m1' m2')
  clear a1 a2 a3 a4 a5 a6 a7 a8 a9 m1' m2'
  refine Calls.mono (HV1.out _ (HT.out.below W3.out) L1b.out) ?_
  rintro e u1 ⟨rfl, hb⟩
  have V := W3.out.trans (hb.mono W3.out.size)
  have al := (Below.refl u1.heap.size u1).alloc (Nat.le_refl _) (.cells #[.int .i64 lo1, .int .i64 hi1] 25)
  have X1 := Lib.hid (V.trans (al.mono V.size))
  have La := Lib.hid (flat_below (flat_below L1b.out hb) al)
  have Lb := Lib.hid (flat_below (flat_below L2.out hb) al)
  have S1 := Lib.hid (SpBox.new u1 lo1 hi1)
  obtain ⟨g1, hg1⟩ : ∃ x, x = u1.heap.size := ⟨_, rfl⟩
  rw [← hg1] at S1
  clear hb V al L1b L2
  go_upto_region 5 with fail
  rw [← hg1]
  obtain ⟨U, hU⟩ : ∃ X, X = u1.alloc (.cells #[.int .i64 lo1, .int .i64 hi1] 25) := ⟨_, rfl⟩
  rw [← hU] at X1 La Lb S1 ⊢
  clear hU hg1
  go_wp2_with fail
  refine Calls.mono (HV2.out _ (HT.out.below X1.out) Lb.out) ?_
  rintro e u2 ⟨rfl, hb⟩
  have V := X1.out.trans (hb.mono X1.out.size)
  have al := (Below.refl u2.heap.size u2).alloc (Nat.le_refl _) (.cells #[.int .i64 lo2, .int .i64 hi2] 25)
  have X2 := Lib.hid (V.trans (al.mono V.size))
  have Lc := Lib.hid (flat_below (flat_below La.out hb) al)
  have Ld := Lib.hid (flat_below (flat_below Lb.out hb) al)
  have S1a := Lib.hid ((S1.out.below hb).alloc (.cells #[.int .i64 lo2, .int .i64 hi2] 25))
  have S2 := Lib.hid (SpBox.new u2 lo2 hi2)
  obtain ⟨g2, hg2⟩ : ∃ x, x = u2.heap.size := ⟨_, rfl⟩
  rw [← hg2] at S2
  clear hb V al La Lb S1
  go_upto_region 6 with fail
  rw [← hg2]
  obtain ⟨U2, hU⟩ : ∃ X, X = u2.alloc (.cells #[.int .i64 lo2, .int .i64 hi2] 25) := ⟨_, rfl⟩
  rw [← hU] at X2 Lc Ld S2 S1a ⊢
  clear hU hg2
  have hO0 := World.ownsRow_made (base := U2.heap.size) (e := 40) (size := 3) U2 #[] 0 (Nat.le_refl _) (by unfold maxLen; omega) rfl
  have hB0 : Below U2.heap.size U2 (U2.alloc (.cells #[] 40)) := (Below.refl _ _).alloc (Nat.le_refl _) _
  have HO0 := Lib.hid hO0; have HB0 := Lib.hid hB0
  clear hO0 hB0
  go_wp2_with (at_builtin; refine wpList_append_flat rfl _ _ 34 rfl U2.heap.size 40 iT _ 3 24 Tryd.underlying34 hi hy0 hy1 hy2 rfl (by omega) (.slice (some ⟨U2.heap.size, 0, none⟩) 0 0) 0 [] rfl HO0.out D1 m1 c1 ys rfl (flat_below Lc.out HB0.out) (by have := M1.out; unfold maxLen; omega) (by have := M1.out; omega) HB0.out.size ?_)
  intro v3 w5 hown hgrow hat
  have HB1 := Lib.hid (HB0.out.grown hgrow HB0.out.size (fun q hq => (HO0.out.lt q hq).1))
  have HO1 := Lib.hid hown
  clear hown hgrow hat
  go_wp2_with (at_builtin; refine wpList_append_flat rfl _ _ 34 rfl U2.heap.size 40 iT _ 3 24 Tryd.underlying34 hi hy0 hy1 hy2 rfl (by omega) v3 m1 _ rfl HO1.out D2 m2 c2 us rfl (flat_below Ld.out HB1.out) (by have := M1.out; have := M2.out; unfold maxLen; omega) (by have := M1.out; have := M2.out; omega) HB1.out.size ?_)
  intro v4 w6 hown hgrow hat
  have HB2 := Lib.hid (HB1.out.grown hgrow HB1.out.size (fun q hq => (HO1.out.lt q hq).1))
  have hts : w6.ownsRow U2.heap.size 40 3 v4 (m1 + m2) ((ys ++ us).map (Value.int .i64)) := (by simpa only [Nat.zero_add, List.nil_append, List.map_append] using hown)
  obtain ⟨A3, cap3, rfl, hF3⟩ := own_flat hts
  have X3 := Lib.hid (X2.out.trans (HB2.out.mono X2.out.size))
  have F3 := Lib.hid hF3
  have S1b := Lib.hid (S1a.out.below HB2.out); have S2b := Lib.hid (S2.out.below HB2.out)
  clear hown hgrow hat hts hF3 HO0 HO1 HB0 HB1 HB2
  go_wp2_with fail
  refine Calls.mono (HV3.out _ _ _ (HT.out.below X3.out) F3.out) ?_
  rintro e u3 ⟨rfl, hb⟩
  have V := X3.out.trans (hb.mono X3.out.size)
  have al := (Below.refl u3.heap.size u3).alloc (Nat.le_refl _) (.cells #[.int .i64 lo3, .int .i64 hi3] 25)
  have X4 := Lib.hid (V.trans (al.mono V.size))
  have S1c := Lib.hid ((S1b.out.below hb).alloc (.cells #[.int .i64 lo3, .int .i64 hi3] 25))
  have S2c := Lib.hid ((S2b.out.below hb).alloc (.cells #[.int .i64 lo3, .int .i64 hi3] 25))
  have S3 := Lib.hid (SpBox.new u3 lo3 hi3)
  obtain ⟨g3, hg3⟩ : ∃ x, x = u3.heap.size := ⟨_, rfl⟩
  rw [← hg3] at S3
  clear hb V al S1a S1b S2 S2b
  go_upto_region 7 with fail
  rw [← hg3]
  obtain ⟨U3, hU⟩ : ∃ X, X = u3.alloc (.cells #[.int .i64 lo3, .int .i64 hi3] 25) := ⟨_, rfl⟩
  rw [← hU] at X4 S3 S1c S2c ⊢
  clear hU hg3
  obtain ⟨XX, hXX⟩ : ∃ XX, XX = (U3).drew := ⟨_, rfl⟩
  have xXX0 : XX.cell? ⟨g3, 0, none⟩ = some (.int .i64 lo3) := by rw [hXX]; exact (S3.out.c0)
  have xXX1 : XX.cell? ⟨g3, 1, none⟩ = some (.int .i64 hi3) := by rw [hXX]; exact (S3.out.c1)
  have xXX2 : XX.cell? ⟨g1, 0, none⟩ = some (.int .i64 lo1) := by rw [hXX]; exact (S1c.out.c0)
  have xXX3 : XX.cell? ⟨g1, 1, none⟩ = some (.int .i64 hi1) := by rw [hXX]; exact (S1c.out.c1)
  have xXX4 : XX.cell? ⟨g2, 0, none⟩ = some (.int .i64 lo2) := by rw [hXX]; exact (S2c.out.c0)
  have xXX5 : XX.cell? ⟨g2, 1, none⟩ = some (.int .i64 hi2) := by rw [hXX]; exact (S2c.out.c1)
  have lXX0 : g3 < XX.heap.size := by rw [hXX]; exact (S3.out.lt)
  have lXX1 : g1 < XX.heap.size := by rw [hXX]; exact (S1c.out.lt)
  have lXX2 : g2 < XX.heap.size := by rw [hXX]; exact (S2c.out.lt)
  have bXX : Below w.heap.size w XX := by rw [hXX]; exact (X4.out).drew
  have HxXX0 := Lib.hid xXX0
  have HxXX1 := Lib.hid xXX1
  have HxXX2 := Lib.hid xXX2
  have HxXX3 := Lib.hid xXX3
  have HxXX4 := Lib.hid xXX4
  have HxXX5 := Lib.hid xXX5
  have HlXX0 := Lib.hid lXX0
  have HlXX1 := Lib.hid lXX1
  have HlXX2 := Lib.hid lXX2
  have HbXX := Lib.hid bXX
  have HhXX := Lib.hid hXX
  clear xXX0 xXX1 xXX2 xXX3 xXX4 xXX5 lXX0 lXX1 lXX2 bXX hXX
  go_region_held3 (fun w' => w'.cell? ⟨g3, 0, none⟩ = some (.int .i64 lo3) ∧ w'.cell? ⟨g3, 1, none⟩ = some (.int .i64 hi3) ∧ w'.cell? ⟨g1, 0, none⟩ = some (.int .i64 lo1) ∧ w'.cell? ⟨g1, 1, none⟩ = some (.int .i64 hi1) ∧ w'.cell? ⟨g2, 0, none⟩ = some (.int .i64 lo2) ∧ w'.cell? ⟨g2, 1, none⟩ = some (.int .i64 hi2) ∧ Below XX.heap.size XX w')
    (((try dsimp only); repeat' apply And.intro) <;> (first | (with_reducible assumption) | (go_split_ands; (with_reducible assumption)) | (rw [← HhXX.out]; (first | exact Below.refl _ _ | exact HxXX0.out | exact HxXX1.out | exact HxXX2.out | exact HxXX3.out | exact HxXX4.out | exact HxXX5.out)) | go_keep))
    (first
      | (go_at_call 20; refine Calls.mono (HP.out _) ?_; rintro e wq ⟨rfl, hb⟩; (try go_split_ands); have qB : Below XX.heap.size XX wq := (bX_more (by with_reducible assumption) hb); have m0 := bX_oldc qB HlXX0.out HxXX0.out; have m1 := bX_oldc qB HlXX0.out HxXX1.out; have m2 := bX_oldc qB HlXX1.out HxXX2.out; have m3 := bX_oldc qB HlXX1.out HxXX3.out; have m4 := bX_oldc qB HlXX2.out HxXX4.out; have m5 := bX_oldc qB HlXX2.out HxXX5.out; clear hb)
      | (go_at_call 19; refine Calls.mono (HM.out _) ?_; rintro e wq ⟨rfl, hb⟩; (try go_split_ands); have qB : Below XX.heap.size XX wq := (bX_more (by with_reducible assumption) hb); have m0 := bX_oldc qB HlXX0.out HxXX0.out; have m1 := bX_oldc qB HlXX0.out HxXX1.out; have m2 := bX_oldc qB HlXX1.out HxXX2.out; have m3 := bX_oldc qB HlXX1.out HxXX3.out; have m4 := bX_oldc qB HlXX2.out HxXX4.out; have m5 := bX_oldc qB HlXX2.out HxXX5.out; clear hb))
  go_wp2_with fail
  go_split_ands
  go_ret
  exact ⟨rfl, bX_back HbXX.out (by with_reducible assumption)⟩
end Go.Proofs.YtloaliddcaobeaaDoor
