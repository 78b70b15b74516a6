/- figure.Text of figures with the lines 0-1, 1-2, .. -/
import Derived.Test.YtdifeoahaegjbaaGreatDoorTFig
import Derived.Test.YtdifeoahaegjbaaGreatDoorText
import Derived.Deep.DeepCutAuto
namespace Go.Proofs.YtdifeoahaegjbaaGreatDoor
open Go.RowKit
set_option linter.unusedSimpArgs false
set_option linter.unusedVariables false

def lineNL (j : Nat) : List UInt8 := [108, 32] ++ Lib.itoa (j : Int) ++ [32] ++ Lib.itoa ((j : Int) + 1) ++ [10]
def lnsL : Nat → List UInt8
  | 0 => []
  | k + 1 => lnsL k ++ lineNL k
/-- The bytes of the first t numbers of line j. -/
def lnM (j : Nat) : Nat → List UInt8
  | 0 => []
  | 1 => [32] ++ Lib.itoa (j : Int)
  | _ => [32] ++ Lib.itoa (j : Int) ++ ([32] ++ Lib.itoa ((j : Int) + 1))
theorem lineNL_len (j : Nat) (h : j ≤ 1000) : (lineNL j).length ≤ 50 := by
  have a := Lib.itoa_length_le (j : Int) (by omega) (by omega)
  have b := Lib.itoa_length_le ((j : Int) + 1) (by omega) (by omega)
  unfold lineNL
  simp
  omega
theorem lnsL_len : ∀ k, k ≤ 100 → (lnsL k).length ≤ k * 50
  | 0, _ => by simp [lnsL]
  | k + 1, h => by
    have a := lnsL_len k (by omega)
    have b := lineNL_len k (by omega)
    unfold lnsL
    rw [List.length_append]
    omega
def figNL (zs : List Int) (n m : Nat) : List UInt8 := ptsL zs n ++ lnsL m
def figNT (zs : List Int) (n m : Nat) : ByteArray := ⟨(figNL zs n m).toArray⟩

set_option maxRecDepth 100000 in
set_option maxHeartbeats 16000000 in
theorem textN_ok (A : Option Addr) (n c : Nat) (zs : List Int) (B : Option Addr) (m bc : Nat) (w : World) (ht : Tab w) (h : FigN w A n c zs B m bc) :
    Calls Tryz.prog 7 #[.agg #[.slice A n c, .slice B m bc]] w fun e w' => e = .returned (.tuple #[.string (figNT zs n m), .int .i64 0]) ∧ Below w.heap.size w w' := by
  have n60 := h.n12; have m1 := Lib.hid h.mm
  have hb0 := Lib.hid ((Below.refl w.heap.size w).alloc (Nat.le_refl _) (.cells #[.slice A n c, .slice B m bc] 28))
  have HF := Lib.hid (FgBox.new w (.slice A n c) (.slice B m bc))
  have H := Lib.hid h; have HT := Lib.hid ht
  have HL := Lib.hid (fun k (hk : k ≤ n) => ptsL_len zs k (fun i hi => ⟨(h.fx i (by omega)).s.ok, (h.fy i (by omega)).s.ok⟩))
  obtain ⟨k, hk⟩ : ∃ k, k = w.heap.size := ⟨_, rfl⟩
  have HK := Lib.hid hk
  clear h ht
  go_enter Tryz.func7, Tryz.ntmps7
  go_wp2_with fail
  refine Calls.mono (figCheckN_ok A n c zs B m bc _ (H.out.below hb0.out)) ?_
  rintro e w1 ⟨rfl, hb⟩
  have HF1 := Lib.hid (HF.out.below hb)
  have HB1 := Lib.hid (hb0.out.trans (hb.mono hb0.out.size))
  clear hb HF hb0
  rw [← hk] at HF1 ⊢
  clear hk
  go_upto_region 5 with fail
  obtain ⟨b, hbb⟩ : ∃ b, b = w1.heap.size := ⟨_, rfl⟩
  obtain ⟨V, hV⟩ : ∃ V, V = w1.alloc (.cells #[.pointer none, .slice none 0 0] 52) := ⟨_, rfl⟩
  have bV : Below w1.heap.size w1 V := by rw [hV]; exact (Below.refl _ _).alloc (Nat.le_refl _) _
  have hB0 : Bld b (ptsL zs 0) V := by rw [hV, hbb]; exact Lib.fresh_isBuilder _ _ w1
  have hFV := Lib.hid (HF1.out.below bV)
  have hBV := Lib.hid (HB1.out.trans (bV.mono HB1.out.size))
  have kb : k < b := by rw [hbb]; exact HF1.out.lt
  have wb : w.heap.size ≤ b := by rw [hbb]; exact HB1.out.size
  have bs : b ≤ V.heap.size := by rw [hbb]; exact bV.size
  rw [← hV, ← hbb]
  have HBL := Lib.hid hB0
  clear hV bV hbb HF1 HB1 hB0
  have x0 := hFV.out.c0; have xl := hFV.out.lt
  go_wp2_with fail
  clear x0 xl
  go_loopw [24] (fun i' wv => ∃ i : Nat, i ≤ n ∧ i' = .int .i64 i ∧ Bld b (ptsL zs i) wv ∧ FgBox wv k (.slice A n c) (.slice B m bc) ∧ b ≤ wv.heap.size ∧ Below w.heap.size w wv) (fun i' _ => n - (intOf i').toNat)
  case atStart => exact ⟨0, by omega, rfl, HBL.out, hFV.out, bs, hBV.out⟩
  case round =>
    clear HBL hFV hBV bs
    obtain ⟨i, hi, rfl, hbl, hF, bs, hb⟩ := hrel
    have HBL := Lib.hid hbl; have HF := Lib.hid hF; have Hb := Lib.hid hb
    clear hbl hF hb
    by_cases hin : i < n
    · have i0 : (0 : Int) ≤ (i : Int) := by omega
      have i1 : (i : Int) < (n : Int) := by omega
      obtain ⟨q, o, hA, hc⟩ := (H.out.below Hb.out).pts.at' (by omega)
      have x0 := hc (i * 4) (by omega)
      have x1 := hc (i * 4 + 1) (by omega)
      have x2 := hc (i * 4 + 2) (by omega)
      have x3 := hc (i * 4 + 3) (by omega)
      rw [← Nat.add_assoc] at x1 x2 x3
      subst hA
      have fx := (H.out.fx i hin).s.ok
      have fy := (H.out.fy i hin).s.ok
      have hpl : ptsL zs (i + 1) = ptsL zs i ++ ([112, 32] ++ frL (ix zs (i * 4)) (ix zs (i * 4 + 1)) ++ [32] ++ frL (ix zs (i * 4 + 2)) (ix zs (i * 4 + 3)) ++ [10]) := rfl
      obtain ⟨a, ha⟩ : ∃ a, a = ix zs (i * 4) := ⟨_, rfl⟩
      obtain ⟨d, hd⟩ : ∃ a, a = ix zs (i * 4 + 1) := ⟨_, rfl⟩
      obtain ⟨e, he⟩ : ∃ a, a = ix zs (i * 4 + 2) := ⟨_, rfl⟩
      obtain ⟨f, hf⟩ : ∃ a, a = ix zs (i * 4 + 3) := ⟨_, rfl⟩
      rw [← ha] at x0 fx hpl; rw [← hd] at x1 fx hpl; rw [← he] at x2 fy hpl; rw [← hf] at x3 fy hpl
      clear hc ha hd he hf
      have l1 := frT_size a d fx; have l2 := frT_size e f fy
      have H1 := Lib.hid (fun W hW => ftext_ok a d W hW fx); have H2 := Lib.hid (fun W hW => ftext_ok e f W hW fy)
      have t1 : (frT a d).data.toList = frL a d := by simp [frT]
      have t2 : (frT e f).data.toList = frL e f := by simp [frT]
      obtain ⟨T1, hT1⟩ : ∃ T, T = frT a d := ⟨_, rfl⟩
      obtain ⟨T2, hT2⟩ : ∃ T, T = frT e f := ⟨_, rfl⟩
      rw [← hT1] at l1 H1 t1; rw [← hT2] at l2 H2 t2
      obtain ⟨s1, h1⟩ : ∃ x, x = (⟨#[112, 32]⟩ : ByteArray) ++ T1 := ⟨_, rfl⟩
      obtain ⟨s2, h2⟩ : ∃ x, x = s1 ++ (⟨#[32]⟩ : ByteArray) := ⟨_, rfl⟩
      obtain ⟨s3, h3⟩ : ∃ x, x = s2 ++ T2 := ⟨_, rfl⟩
      obtain ⟨s4, h4⟩ : ∃ x, x = s3 ++ (⟨#[10]⟩ : ByteArray) := ⟨_, rfl⟩
      have z1 : s1.size = 2 + T1.size := cat_size h1
      have z2 : s2.size = s1.size + 1 := cat_size h2
      have z3 : s3.size = s2.size + T2.size := cat_size h3
      have z4 : s4.size = s3.size + 1 := cat_size h4
      have c1 := cat_run Tryz.prog _ _ _ h1 (by show 2 + T1.size ≤ _; omega)
      have c2 := cat_run Tryz.prog _ _ _ h2 (by show s1.size + 1 ≤ _; omega)
      have c3 := cat_run Tryz.prog _ _ _ h3 (by omega)
      have c4 := cat_run Tryz.prog _ _ _ h4 (by show s3.size + 1 ≤ _; omega)
      have hs4 : s4.data.toList = [112, 32] ++ frL a d ++ [32] ++ frL e f ++ [10] := by
        rw [cat_list h4, cat_list h3, cat_list h2, cat_list h1, t1, t2]
      have z5 : s4.size ≤ 100 := by omega
      have HL1 := HL.out i hi
      have HW := Lib.hid (fun W (hW : Bld b (ptsL zs i) W) (hs : b ≤ W.heap.size) => bld_write b (ptsL zs i) _ s4 W hs4 hW (by omega) hs)
      rw [← hpl] at HW
      clear hT1 hT2 h1 h2 h3 h4 z1 z2 z3 z4 l1 l2 t1 t2 hs4 z5 HL1 fx fy hpl
      have HBp := Lib.hid ((Below.refl wr.heap.size wr).alloc (Nat.le_refl _) (.cells #[.int .i64 a, .int .i64 d, .int .i64 e, .int .i64 f] 33))
      have c1' := Lib.hid c1; have c2' := Lib.hid c2; have c3' := Lib.hid c3; have c4' := Lib.hid c4
      clear c1 c2 c3 c4
      go_upto_region 8 with fail
      obtain ⟨kp, hkp⟩ : ∃ b, b = wr.heap.size := ⟨_, rfl⟩
      obtain ⟨U, hU⟩ : ∃ U, U = wr.alloc (.cells #[.int .i64 a, .int .i64 d, .int .i64 e, .int .i64 f] 33) := ⟨_, rfl⟩
      have HP := Lib.hid (show PtBox U kp a d e f by rw [hU, hkp]; exact PtBox.new wr a d e f)
      have bU := HBp.out
      rw [← hU] at bU
      have HBL2 := Lib.hid (bld_below HBL.out bU)
      have HF2 := Lib.hid (HF.out.below bU)
      have Hb2 := Lib.hid (Hb.out.trans (bU.mono Hb.out.size))
      have us : b ≤ U.heap.size := Nat.le_trans bs bU.size
      rw [← hU, ← hkp]
      clear hU hkp bU HBL HF Hb HBp x0 x1 x2 x3 bs
      have x0 := HP.out.c0; have x1 := HP.out.c1; have x2 := HP.out.c2; have x3 := HP.out.c3; have xl := HP.out.lt
      go_wp2_with fail
      refine Calls.mono (H1.out _ (HT.out.below Hb2.out)) ?_
      rintro er w2 ⟨rfl, hb⟩
      have HP3 := Lib.hid (HP.out.below hb)
      have HBL3 := Lib.hid (bld_below HBL2.out hb)
      have HF3 := Lib.hid (HF2.out.below hb)
      have Hb3 := Lib.hid (Hb2.out.trans (hb.mono Hb2.out.size))
      have us3 : b ≤ w2.heap.size := Nat.le_trans us hb.size
      clear x0 x1 x2 x3 xl hb HP HBL2 HF2 Hb2 us
      have x2 := HP3.out.c2; have x3 := HP3.out.c3; have xl := HP3.out.lt
      go_wp2_with fail
      refine Calls.mono (H2.out _ (HT.out.below Hb3.out)) ?_
      rintro er w3 ⟨rfl, hb⟩
      have HBL4 := Lib.hid (bld_below HBL3.out hb)
      have HF4 := Lib.hid (HF3.out.below hb)
      have Hb4 := Lib.hid (Hb3.out.trans (hb.mono Hb3.out.size))
      have us4 : b ≤ w3.heap.size := Nat.le_trans us3 hb.size
      clear x2 x3 xl hb HP3 HBL3 HF3 Hb3 us3
      have c1 := c1'.out; have c2 := c2'.out; have c3 := c3'.out; have c4 := c4'.out
      go_wp2_with fail
      refine Calls.mono (HW.out _ HBL4.out us4) ?_
      rintro er w4 ⟨rfl, hbl, hb⟩
      have HBL5 := Lib.hid hbl
      have HF5 := Lib.hid (HF4.out.belowB hb kb)
      have Hb5 := Lib.hid (Hb4.out.trans (hb.mono wb))
      have us5 : b ≤ w4.heap.size := Nat.le_trans us4 hb.size
      clear hbl hb HBL4 HF4 Hb4 us4 c1 c2 c3 c4
      go_wp2_with fail
      go_roundw
      case rel => exact ⟨i + 1, by omega, by go_num, HBL5.out, HF5.out, us5, Hb5.out⟩
      case measure => simp [intOf]; omega
    · obtain rfl : i = n := by omega
      have x1 := HF.out.c1; have xl := HF.out.lt
      go_wp2_with fail
      clear x1 xl
      go_loopw [51] (fun j' wv => ∃ j : Nat, j ≤ m ∧ j' = .int .i64 j ∧ Bld b (figNL zs i j) wv ∧ FgBox wv k (.slice A i c) (.slice B m bc) ∧ b ≤ wv.heap.size ∧ Below w.heap.size w wv) (fun j' _ => m - (intOf j').toNat)
      case atStart => exact ⟨0, by omega, rfl, by have h := HBL.out; unfold figNL lnsL; rw [List.append_nil]; exact h, HF.out, bs, Hb.out⟩
      case round =>
        clear HBL HF Hb bs
        obtain ⟨j, hj, rfl, hbl, hF, bs, hb⟩ := hrel
        have HBL := Lib.hid hbl; have HF := Lib.hid hF; have Hb := Lib.hid hb
        clear hbl hF hb
        by_cases hjm : j < m
        · have hmb := H.out.mb
          obtain ⟨bl, hB, hln⟩ := H.out.lin (by omega)
          obtain ⟨g, gc, y0, hgc, y1, y2⟩ := hln j hjm
          subst hB
          have z0 := (Hb.out.cell (p := ⟨bl, j, none⟩) (cell_lt y0)).trans y0
          have HY1 := Lib.hid y1; have HY2 := Lib.hid y2
          clear y1 y2 y0 hln
          have b0 : (j : Int) < (m : Int) := by omega
          have b1 : (0 : Int) ≤ (j : Int) := by omega
          have b2 : (j : Int) < (bc : Int) := by omega
          have l12 : j < 12 := by have := m1.out; omega
          have jw : IntKind.i64.wrap ((j : Int) + 1) = (j : Int) + 1 := IntWalk.i64_in _ (by omega)
          have hl0 := HL.out i (by omega)
          have hlf : (figNL zs i j).length ≤ 6000 := by
            have := lnsL_len j (by omega)
            unfold figNL; rw [List.length_append]; omega
          obtain ⟨L0, hL0⟩ : ∃ l, l = figNL zs i j := ⟨_, rfl⟩
          have hL1 : figNL zs i (j + 1) = L0 ++ lineNL j := by rw [hL0]; unfold figNL; rw [List.append_assoc]; rfl
          rw [← hL0] at HBL hlf
          have HL1 := Lib.hid hL1
          clear hl0 hL0 hL1
          go_wp2_with fail
          refine Calls.mono (bld_write b L0 [108] ⟨#[108]⟩ _ rfl HBL.out (by show L0.length + 1 ≤ _; omega) bs) ?_
          rintro er w4 ⟨rfl, hbl, hb⟩
          have HBL5 := Lib.hid hbl
          have HF5 := Lib.hid (HF.out.belowB hb kb)
          have Hb5 := Lib.hid (Hb.out.trans (hb.mono wb))
          have us5 : b ≤ w4.heap.size := Nat.le_trans bs hb.size
          clear hbl hb HBL HF Hb bs z0
          go_wp2_with fail
          go_loopw [58] (fun k' wv => ∃ t : Nat, t ≤ 2 ∧ k' = .int .i64 t ∧ Bld b (L0 ++ [108] ++ lnM j t) wv ∧ FgBox wv k (.slice A i c) (.slice (some ⟨bl, 0, none⟩) m bc) ∧ b ≤ wv.heap.size ∧ Below w.heap.size w wv) (fun k' _ => 2 - (intOf k').toNat)
          case atStart => exact ⟨0, by omega, rfl, by show Bld b (L0 ++ [108] ++ []) _; rw [List.append_nil]; exact HBL5.out, HF5.out, us5, Hb5.out⟩
          case round =>
            clear HBL5 HF5 Hb5 us5
            obtain ⟨t, ht, rfl, hbl, hF, bs, hb⟩ := hrel
            have HBL := Lib.hid hbl; have HF := Lib.hid hF; have Hb := Lib.hid hb
            clear hbl hF hb
            rcases (by omega : t = 0 ∨ t = 1 ∨ t = 2) with rfl | rfl | rfl
            · have z1 := (Hb.out.cell (p := ⟨g, 0, none⟩) (cell_lt HY1.out)).trans HY1.out
              have g0 : (0 : Int) < (gc : Int) := by omega
              obtain ⟨v, hv⟩ : ∃ v, v = (j : Int) := ⟨_, rfl⟩
              rw [← hv] at z1
              have v1 : -9223372036854775808 ≤ v := by omega
              have v2 : v ≤ 9223372036854775807 := by omega
              have HV := Lib.hid hv
              clear hv
              obtain ⟨sA, hA⟩ : ∃ x, x = (⟨(Lib.itoa v).toArray⟩ : ByteArray) := ⟨_, rfl⟩
              have lA : sA.size ≤ 21 := by rw [hA]; exact itoa_size v v1 v2
              obtain ⟨s1, h1⟩ : ∃ x, x = (⟨#[32]⟩ : ByteArray) ++ sA := ⟨_, rfl⟩
              have q1 : s1.size = 1 + sA.size := cat_size h1
              have c1 := cat_run Tryz.prog _ _ _ h1 (by show 1 + sA.size ≤ _; omega)
              have hs : s1.data.toList = [32] ++ Lib.itoa v := by rw [cat_list h1, hA]
              have q2 : s1.size ≤ 22 := by omega
              have q0 := Lib.itoa_length_le (j : Int) (by omega) (by omega)
              have HA := Lib.hid hA; have HS := Lib.hid hs
              clear hA h1 q1 hs lA
              go_wp2_with fail
              refine Calls.mono (itoa_as v sA HA v1 v2 _ (HT.out.below Hb.out)) ?_
              rintro er w5 ⟨rfl, hb⟩
              have HBL2 := Lib.hid (bld_below HBL.out hb)
              have HF2 := Lib.hid (HF.out.below hb)
              have Hb2 := Lib.hid (Hb.out.trans (hb.mono Hb.out.size))
              have us : b ≤ w5.heap.size := Nat.le_trans bs hb.size
              clear hb HBL HF Hb bs z1
              go_wp2_with fail
              refine Calls.mono (bld_write b _ _ s1 _ HS.out HBL2.out (by simp [lnM]; omega) us) ?_
              rintro er w6 ⟨rfl, hbl, hb⟩
              have HBL5 := Lib.hid hbl
              have HF5 := Lib.hid (HF2.out.belowB hb kb)
              have Hb5 := Lib.hid (Hb2.out.trans (hb.mono wb))
              have us5 : b ≤ w6.heap.size := Nat.le_trans us hb.size
              clear hbl hb HBL2 HF2 Hb2 us c1
              go_wp2_with fail
              go_roundw
              case rel => exact ⟨1, by omega, rfl, by have h := HBL5.out; rw [List.append_assoc, HV.out] at h; exact h, HF5.out, us5, Hb5.out⟩
              case measure => simp [intOf]
            · have z1 := (Hb.out.cell (p := ⟨g, 1, none⟩) (cell_lt HY2.out)).trans HY2.out
              have g0 : (1 : Int) < (gc : Int) := by omega
              obtain ⟨v, hv⟩ : ∃ v, v = (j : Int) + 1 := ⟨_, rfl⟩
              rw [← hv] at z1
              have v1 : -9223372036854775808 ≤ v := by omega
              have v2 : v ≤ 9223372036854775807 := by omega
              have HV := Lib.hid hv
              clear hv
              obtain ⟨sA, hA⟩ : ∃ x, x = (⟨(Lib.itoa v).toArray⟩ : ByteArray) := ⟨_, rfl⟩
              have lA : sA.size ≤ 21 := by rw [hA]; exact itoa_size v v1 v2
              obtain ⟨s1, h1⟩ : ∃ x, x = (⟨#[32]⟩ : ByteArray) ++ sA := ⟨_, rfl⟩
              have q1 : s1.size = 1 + sA.size := cat_size h1
              have c1 := cat_run Tryz.prog _ _ _ h1 (by show 1 + sA.size ≤ _; omega)
              have hs : s1.data.toList = [32] ++ Lib.itoa v := by rw [cat_list h1, hA]
              have q2 : s1.size ≤ 22 := by omega
              have q0 := Lib.itoa_length_le (j : Int) (by omega) (by omega)
              have HA := Lib.hid hA; have HS := Lib.hid hs
              clear hA h1 q1 hs lA
              go_wp2_with fail
              refine Calls.mono (itoa_as v sA HA v1 v2 _ (HT.out.below Hb.out)) ?_
              rintro er w5 ⟨rfl, hb⟩
              have HBL2 := Lib.hid (bld_below HBL.out hb)
              have HF2 := Lib.hid (HF.out.below hb)
              have Hb2 := Lib.hid (Hb.out.trans (hb.mono Hb.out.size))
              have us : b ≤ w5.heap.size := Nat.le_trans bs hb.size
              clear hb HBL HF Hb bs z1
              go_wp2_with fail
              refine Calls.mono (bld_write b _ _ s1 _ HS.out HBL2.out (by simp [lnM]; omega) us) ?_
              rintro er w6 ⟨rfl, hbl, hb⟩
              have HBL5 := Lib.hid hbl
              have HF5 := Lib.hid (HF2.out.belowB hb kb)
              have Hb5 := Lib.hid (Hb2.out.trans (hb.mono wb))
              have us5 : b ≤ w6.heap.size := Nat.le_trans us hb.size
              clear hbl hb HBL2 HF2 Hb2 us c1
              go_wp2_with fail
              go_roundw
              case rel => exact ⟨2, by omega, rfl, by have h := HBL5.out; rw [List.append_assoc, HV.out] at h; exact h, HF5.out, us5, Hb5.out⟩
              case measure => simp [intOf]
            · have q0 := Lib.itoa_length_le (j : Int) (by omega) (by omega)
              have q1 := Lib.itoa_length_le ((j : Int) + 1) (by omega) (by omega)
              go_wp2_with fail
              refine Calls.mono (bld_write b _ [10] ⟨#[10]⟩ _ rfl HBL.out (by simp [lnM, ByteArray.size]; omega) bs) ?_
              rintro er w6 ⟨rfl, hbl, hb⟩
              have HBL5 := Lib.hid hbl
              have HF5 := Lib.hid (HF.out.belowB hb kb)
              have Hb5 := Lib.hid (Hb.out.trans (hb.mono wb))
              have us5 : b ≤ w6.heap.size := Nat.le_trans bs hb.size
              clear hbl hb HBL HF Hb bs
              go_wp2_with fail
              go_roundw
              case rel => exact ⟨j + 1, by omega, by go_num, by have h := HBL5.out; rw [HL1.out]; simpa [lnM, lineNL] using h, HF5.out, us5, Hb5.out⟩
              case measure => simp [intOf]; omega
        · obtain rfl : j = m := by omega
          go_wp2_with fail
          refine Calls.mono (Tryz.Builder_String_any b b (figNL zs i j) _ HBL.out bs) ?_
          rintro er w6 ⟨rfl, hb⟩
          have Hb5 := Hb.out.trans (hb.mono wb)
          clear hb HBL HF Hb bs
          go_wp2_with fail
          go_returns
          exact ⟨rfl, Hb5⟩
end Go.Proofs.YtdifeoahaegjbaaGreatDoor
