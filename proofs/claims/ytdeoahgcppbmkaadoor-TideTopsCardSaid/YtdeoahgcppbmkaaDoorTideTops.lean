/- TideTops: in an interval of a high water there is a height above those at its ends, and no high water is a low one. -/
import Derived.Test.YtdeoahgcppbmkaaDoorLow
import Derived.Test.YtdeoahgcppbmkaaDoorAt
namespace Go.Proofs.YtdeoahgcppbmkaaDoor
open Go.RowKit
set_option linter.unusedSimpArgs false
set_option linter.unusedVariables false
set_option maxRecDepth 100000 in
set_option maxHeartbeats 16000000 in
theorem tideTops_walk (A0 : Option Addr) (n0 cap0 : Nat) (zs0 : List Int) (t0 h0 : Int) (w : World) (ht : SinT w) (hF0 : FlatSl w 3 A0 n0 cap0 zs0) :
    Calls Tryd.prog 5 #[.slice A0 n0 cap0, .int .i64 t0, .int .i64 h0] w fun e w' => e = .returned (.bool true) ∧ Below w.heap.size w w' := by
  obtain ⟨t, hte⟩ : ∃ t, t = t0 % 604800000000000 - 302400000000000 := ⟨_, rfl⟩
  have HI := Lib.hid (fun w => hte ▸ instant_ok t0 w)
  have HIN := Lib.hid (show instOk t = true by rw [hte]; exact instant_in t0)
  obtain ⟨h, hh⟩ : ∃ h, h = h0 % 480 := ⟨_, rfl⟩
  have HD := Lib.hid (fun w => hh ▸ at_any h0 480 w (by omega) (by omega))
  have hd1 : 0 ≤ h := by omega
  have hd2 : h ≤ 479 := by omega
  have td1 : -302400000000000 ≤ t := by omega
  have td2 : t < 302400000000000 := by omega
  have HTI := Lib.hid (fun (x : Int) (h1 : t ≤ x) (h2 : x ≤ t + 1728000000) => show instOk x = true by unfold instOk dayOk; exact decide_eq_true (by omega))
  obtain ⟨tE, hto⟩ : ∃ x, x = t + h * 3600000 := ⟨_, rfl⟩
  have w1' : wrap64 (h * 3600000) = h * 3600000 := IntWalk.wrap64_in _ (by omega)
  have w2' : wrap64 (t + h * 3600000) = tE := by rw [hto]; exact IntWalk.wrap64_in _ (by omega)
  have HTO := Lib.hid hto
  obtain ⟨N, hN⟩ : ∃ N : Nat, N = ((tE - t) / 3600000).toNat + 1 := ⟨_, rfl⟩
  have n480 : (N : Int) ≤ 480 := by omega
  have HNb := Lib.hid n480
  have b1 : t ≤ tE := by omega
  have b2 : tE - t ≤ 1728000000 := by omega
  have HIN2 := Lib.hid (HTI.out tE b1 (by omega))
  have HHI := Lib.hid (fun A n cap zs W (hT : SinT W) (hF : FlatSl W 3 A n cap zs) (hn : n ≤ 12) (hz : ∀ i, i < n → TdOk zs i) => High_ok t tE N A n cap zs W hT hF hn hz HIN.out HIN2.out b1 b2 hN)
  have HLO := Lib.hid (fun A n cap zs W (hT : SinT W) (hF : FlatSl W 3 A n cap zs) (hn : n ≤ 12) (hz : ∀ i, i < n → TdOk zs i) => Low_ok t tE N A n cap zs W hT hF hn hz HIN.out HIN2.out b1 b2 hN)
  rw [hto] at HHI HLO
  clear hN b1 b2 w2'
  have HT := Lib.hid ht; have HF0 := Lib.hid hF0
  clear hte hh ht hF0 hto w1'
  go_enter Tryd.func5, Tryd.ntmps5
  go_upto_region 3 with (go_at_call 28; refine Calls.mono (tideWorks_ok _ HT.out) ?_; rintro e w1 ⟨rfl, hb⟩; have W1 := Lib.hid hb; clear hb)
  go_wp2_with fail
  refine Calls.mono (tides_ok A0 n0 cap0 zs0 _ (flat_below HF0.out W1.out)) ?_
  rintro e w2 ⟨v1, m1, ys, rfl, ho1, hm1, ht1, hb⟩
  obtain ⟨D1, c1, rfl, fl1⟩ := own_flat ho1
  have W2 := Lib.hid (W1.out.trans (hb.mono W1.out.size))
  have L1 := Lib.hid fl1; have M1 := Lib.hid (show m1 ≤ 12 by omega); have O1 := Lib.hid ht1
  clear hb fl1 hm1 ht1 ho1
  go_wp2_with fail
  refine Calls.mono (HI.out _) ?_
  rintro e _ ⟨rfl, rfl⟩
  go_wp2_with fail
  refine Calls.mono (HD.out _) ?_
  rintro e _ ⟨rfl, rfl⟩
  go_wp2_with fail
  refine Calls.mono (HHI.out D1 m1 c1 ys _ (HT.out.below W2.out) L1.out M1.out O1.out) ?_
  rintro e w3 ⟨v2, m2, rfl, ho2, hb⟩
  obtain ⟨D2, c2, rfl, fl2⟩ := own_flat ho2
  have W3 := Lib.hid (W2.out.trans (hb.mono W2.out.size))
  have L2 := Lib.hid fl2
  have L1b := Lib.hid (flat_below L1.out hb)
  clear hb fl2 ho2 L1
  go_wp2_with fail
  refine Calls.mono (HLO.out D1 m1 c1 ys _ (HT.out.below W3.out) L1b.out M1.out O1.out) ?_
  rintro e w4 ⟨v3, m3, rfl, ho3, hb⟩
  obtain ⟨D3, c3, rfl, fl3⟩ := own_flat ho3
  have W4 := Lib.hid (W3.out.trans (hb.mono W3.out.size))
  have L3 := Lib.hid fl3
  have L2b := Lib.hid (flat_below L2.out hb)
  have L1c := Lib.hid (flat_below L1b.out hb)
  have HT4 := Lib.hid (HT.out.below W4.out)
  clear hb fl3 ho3 L2 L1b
  go_wp2_with fail
  -- the loop over the high waters
  have W9 := Lib.hid W4.out
  have l2n := L2b.out.len; have l3n := L3.out.len
  have HM2 := Lib.hid l2n; have HM3 := Lib.hid l3n
  have cap2 := L2b.out.le; have cap3 := L3.out.le
  have cm2 := L2b.out.most; have cm3 := L3.out.most
  unfold maxLen at cm2 cm3
  clear l2n l3n W1 W2 W3 W4 HHI HLO HD HI HF0 HT n480
  obtain ⟨w, hw⟩ : ∃ x, x = w4 := ⟨_, rfl⟩
  subst hw
  go_loopw [55] (fun i wr => ∃ k : Nat, k ≤ m2 ∧ i = .int .i64 k ∧ Below w.heap.size w wr) (fun i _ => m2 - (intOf i).toNat)
  case atStart => exact ⟨0, by omega, rfl, Below.refl _ _⟩
  case round =>
    obtain ⟨k, hk, rfl, hbl⟩ := hrel
    by_cases hlt : k < m2
    · have k0 : (0 : Int) ≤ (k : Int) := by omega
      have k1' : (k : Int) < (m2 : Int) := by omega
      have k2' : (k : Int) < (c2 : Int) := by omega
      obtain ⟨i, i1, i2, i3, i4⟩ := outs_at t (upAt ys m1 t) (N - 2) k (by rw [HM2.out]; omega)
      obtain ⟨q, o, hA, hc⟩ := L2b.out.at' (by omega)
      subst hA
      have x0 := (hbl.cell (p := ⟨q, o + k * 2, none⟩) (cell_below (hc (k * 2) (by omega)))).trans (hc (k * 2) (by omega))
      have x1 := (hbl.cell (p := ⟨q, o + (k * 2 + 1), none⟩) (cell_below (hc (k * 2 + 1) (by omega)))).trans (hc (k * 2 + 1) (by omega))
      rw [i3] at x0
      rw [i4, ← Nat.add_assoc] at x1
      have tp := top_law i2
      have N480 := HNb.out
      have V1 := Lib.hid (fun W (hT : SinT W) (h : FlatSl W 3 D1 m1 c1 ys) => THeight_ok (t + (i : Int) * 3600000) D1 m1 c1 ys W hT h M1.out O1.out (HTI.out _ (by omega) (by omega)))
      have V2 := Lib.hid (fun W (hT : SinT W) (h : FlatSl W 3 D1 m1 c1 ys) => THeight_ok (t + ((i : Int) + 1) * 3600000) D1 m1 c1 ys W hT h M1.out O1.out (HTI.out _ (by omega) (by omega)))
      have V3 := Lib.hid (fun W (hT : SinT W) (h : FlatSl W 3 D1 m1 c1 ys) => THeight_ok (t + ((i : Int) + 2) * 3600000) D1 m1 c1 ys W hT h M1.out O1.out (HTI.out _ (by omega) (by omega)))
      have NE := Lib.hid (fun (j : Nat) (g : dnAt ys m1 t (j + 1) = true) => top_low M1.out O1.out i2 g)
      obtain ⟨a, ha⟩ : ∃ x, x = t + (i : Int) * 3600000 := ⟨_, rfl⟩
      obtain ⟨b, hb⟩ : ∃ x, x = t + ((i : Int) + 1) * 3600000 := ⟨_, rfl⟩
      obtain ⟨c, hcc⟩ : ∃ x, x = t + ((i : Int) + 2) * 3600000 := ⟨_, rfl⟩
      have ab : IntKind.i64.wrap (a + c) = a + c := IntWalk.i64_in _ (by omega)
      have ab2 : IntKind.i64.wrap ((a + c).tdiv 2) = b := by
        have e : a + c = b * 2 := by omega
        rw [e, Int.mul_tdiv_cancel _ (by omega)]
        exact IntWalk.i64_in _ (by omega)
      rw [← ha] at V1 NE x0 tp
      rw [← hb] at V2 tp
      rw [← hcc] at V3 x1 tp
      obtain ⟨tp1, tp2⟩ := tp
      generalize hLo ys m1 a = al at *
      generalize hHi ys m1 a = ah at *
      generalize hLo ys m1 b = bl at *
      generalize hHi ys m1 b = bh at *
      generalize hLo ys m1 c = cl at *
      generalize hHi ys m1 c = ch at *
      have g1 : ¬ bl ≤ ah := by omega
      have g2 : ¬ bl ≤ ch := by omega
      clear tp1 tp2 ha hb hcc i1 i2 i3 i4 hc td1 td2 hd1 hd2
      have HB := Lib.hid (Below.refl w.heap.size w)
      replace HB := Lib.hid hbl
      clear hbl
      obtain ⟨wn1, hwn1⟩ : ∃ x, x = wr := ⟨_, rfl⟩
      go_upto_region 12 with fail
      rw [← hwn1]
      have HB1 := HB.out
      rw [← hwn1] at  HB1
      clear hwn1
      have Hkl1 := Lib.hid HB1.size; replace HB := Lib.hid (HB1.alloc HB1.size (.cells #[.int .i64 (a), .int .i64 (c)] 24))
      clear HB1
      have s1 := Lib.hid (SpBox.new wn1 (a) (c))
      obtain ⟨k1, hk1⟩ : ∃ x, x = wn1.heap.size := ⟨_, rfl⟩
      rw [← hk1] at s1 Hkl1
      rw [← hk1]
      obtain ⟨X1, hX1⟩ : ∃ X, X = wn1.alloc (.cells #[.int .i64 (a), .int .i64 (c)] 24) := ⟨_, rfl⟩
      rw [← hX1] at s1 HB ⊢
      clear hk1 hX1
      clear x0 x1
      have sc1_0 := s1.out.c0; have sc1_1 := s1.out.c1; have sc1_l := s1.out.lt
      go_wp2_with fail
      refine Calls.mono (V1.out _ (HT4.out.below HB.out) (flat_below L1c.out HB.out)) ?_
      rintro e wn2 ⟨rfl, hb⟩
      replace s1 := Lib.hid ((s1.out.below hb).alloc (.cells #[.int .i64 (al), .int .i64 (ah)] 24))
      have HB2 := HB.out.trans (hb.mono HB.out.size)
      clear sc1_0 sc1_1 sc1_l
      clear hb
      have Hkl2 := Lib.hid HB2.size; replace HB := Lib.hid (HB2.alloc HB2.size (.cells #[.int .i64 (al), .int .i64 (ah)] 24))
      clear HB2
      have s2 := Lib.hid (SpBox.new wn2 (al) (ah))
      obtain ⟨k2, hk2⟩ : ∃ x, x = wn2.heap.size := ⟨_, rfl⟩
      rw [← hk2] at s2 Hkl2
      go_upto_region 13 with fail
      rw [← hk2]
      obtain ⟨X2, hX2⟩ : ∃ X, X = wn2.alloc (.cells #[.int .i64 (al), .int .i64 (ah)] 24) := ⟨_, rfl⟩
      rw [← hX2] at s1 s2 HB ⊢
      clear hk2 hX2
      have sc1_0 := s1.out.c0; have sc1_1 := s1.out.c1; have sc1_l := s1.out.lt
      go_wp2_with fail
      refine Calls.mono (V2.out _ (HT4.out.below HB.out) (flat_below L1c.out HB.out)) ?_
      rintro e wn3 ⟨rfl, hb⟩
      replace s1 := Lib.hid ((s1.out.below hb).alloc (.cells #[.int .i64 (bl), .int .i64 (bh)] 24))
      replace s2 := Lib.hid ((s2.out.below hb).alloc (.cells #[.int .i64 (bl), .int .i64 (bh)] 24))
      have HB3 := HB.out.trans (hb.mono HB.out.size)
      clear sc1_0 sc1_1 sc1_l
      clear hb
      have Hkl3 := Lib.hid HB3.size; replace HB := Lib.hid (HB3.alloc HB3.size (.cells #[.int .i64 (bl), .int .i64 (bh)] 24))
      clear HB3
      have s3 := Lib.hid (SpBox.new wn3 (bl) (bh))
      obtain ⟨k3, hk3⟩ : ∃ x, x = wn3.heap.size := ⟨_, rfl⟩
      rw [← hk3] at s3 Hkl3
      go_upto_region 14 with fail
      rw [← hk3]
      obtain ⟨X3, hX3⟩ : ∃ X, X = wn3.alloc (.cells #[.int .i64 (bl), .int .i64 (bh)] 24) := ⟨_, rfl⟩
      rw [← hX3] at s1 s2 s3 HB ⊢
      clear hk3 hX3
      have sc1_0 := s1.out.c0; have sc1_1 := s1.out.c1; have sc1_l := s1.out.lt
      go_wp2_with fail
      refine Calls.mono (V3.out _ (HT4.out.below HB.out) (flat_below L1c.out HB.out)) ?_
      rintro e wn4 ⟨rfl, hb⟩
      replace s1 := Lib.hid ((s1.out.below hb).alloc (.cells #[.int .i64 (cl), .int .i64 (ch)] 24))
      replace s2 := Lib.hid ((s2.out.below hb).alloc (.cells #[.int .i64 (cl), .int .i64 (ch)] 24))
      replace s3 := Lib.hid ((s3.out.below hb).alloc (.cells #[.int .i64 (cl), .int .i64 (ch)] 24))
      have HB4 := HB.out.trans (hb.mono HB.out.size)
      clear sc1_0 sc1_1 sc1_l
      clear hb
      have Hkl4 := Lib.hid HB4.size; replace HB := Lib.hid (HB4.alloc HB4.size (.cells #[.int .i64 (cl), .int .i64 (ch)] 24))
      clear HB4
      have s4 := Lib.hid (SpBox.new wn4 (cl) (ch))
      obtain ⟨k4, hk4⟩ : ∃ x, x = wn4.heap.size := ⟨_, rfl⟩
      rw [← hk4] at s4 Hkl4
      go_upto_region 15 with fail
      rw [← hk4]
      obtain ⟨X4, hX4⟩ : ∃ X, X = wn4.alloc (.cells #[.int .i64 (cl), .int .i64 (ch)] 24) := ⟨_, rfl⟩
      rw [← hX4] at s1 s2 s3 s4 HB ⊢
      clear hk4 hX4
      have sc2_0 := s2.out.c0; have sc2_1 := s2.out.c1; have sc2_l := s2.out.lt
      have sc3_0 := s3.out.c0; have sc3_1 := s3.out.c1; have sc3_l := s3.out.lt
      have sc4_0 := s4.out.c0; have sc4_1 := s4.out.c1; have sc4_l := s4.out.lt
      go_wp2_with fail
      clear sc2_0 sc2_1 sc2_l sc3_0 sc3_1 sc3_l sc4_0 sc4_1 sc4_l s2 s3 s4 g1 g2 ab ab2
      go_loopw [98] (fun i' ws => ∃ j : Nat, j ≤ m3 ∧ i' = .int .i64 j ∧ SpBox ws k1 a c ∧ Below w.heap.size w ws) (fun i' _ => m3 - (intOf i').toNat)
      case atStart => exact ⟨0, by omega, rfl, s1.out, HB.out⟩
      case round =>
        obtain ⟨j, hj, rfl, hS, hbl⟩ := hrel
        clear s1 HB
        by_cases hlt3 : j < m3
        · have j0 : (0 : Int) ≤ (j : Int) := by omega
          have j1 : (j : Int) < (m3 : Int) := by omega
          have j2 : (j : Int) < (c3 : Int) := by omega
          obtain ⟨i, i1, i2, i3, i4⟩ := outs_at t (dnAt ys m1 t) (N - 2) j (by rw [HM3.out]; omega)
          obtain ⟨q, o, hA, hc⟩ := L3.out.at' (by omega)
          subst hA
          have x0 := (hbl.cell (p := ⟨q, o + j * 2, none⟩) (cell_below (hc (j * 2) (by omega)))).trans (hc (j * 2) (by omega))
          have x1 := (hbl.cell (p := ⟨q, o + (j * 2 + 1), none⟩) (cell_below (hc (j * 2 + 1) (by omega)))).trans (hc (j * 2 + 1) (by omega))
          rw [i3] at x0
          rw [i4, ← Nat.add_assoc] at x1
          have ne := NE.out i i2
          generalize t + (i : Int) * 3600000 = r0 at *
          generalize t + ((i : Int) + 2) * 3600000 = r1 at *
          have hsz := hbl.size
          have S2 := hS.alloc (.cells #[.int .i64 r0, .int .i64 r1] 24)
          have HB2 := Lib.hid (hbl.alloc hsz (.cells #[.int .i64 r0, .int .i64 r1] 24))
          have S3 := SpBox.new wr r0 r1
          obtain ⟨kq, hkq⟩ : ∃ x, x = wr.heap.size := ⟨_, rfl⟩
          rw [← hkq] at S3
          clear hS hbl hsz hc i1 i2 i3 i4 NE
          go_upto_region 20 with fail
          rw [← hkq]
          obtain ⟨Z, hZ⟩ : ∃ Z, Z = wr.alloc (.cells #[.int .i64 r0, .int .i64 r1] 24) := ⟨_, rfl⟩
          rw [← hZ] at S2 S3 HB2 ⊢
          have HS2 := Lib.hid S2
          have z0 := S2.c0; have z1 := S2.c1; have zl := S2.lt
          have y0 := S3.c0; have y1 := S3.c1; have yl := S3.lt
          clear hZ hkq S2 S3 x0 x1
          go_wp2_with fail
          go_roundw
          case rel => exact ⟨j + 1, by omega, by go_num, HS2.out, HB2.out⟩
          case measure => simp [intOf]; omega
        · obtain rfl : j = m3 := by omega
          have HB2 := Lib.hid hbl
          clear hbl hS
          go_wp2_with fail
          go_roundw
          case rel => exact ⟨k + 1, by omega, by go_num, HB2.out⟩
          case measure => simp [intOf]; omega
    · obtain rfl : k = m2 := by omega
      have HB2 := Lib.hid hbl
      clear hbl
      go_wp2_with fail
      go_ret
      exact ⟨rfl, W9.out.trans (HB2.out.mono W9.out.size)⟩
end Go.Proofs.YtdeoahgcppbmkaaDoor
