/- zonetext.Print: equal zones have equal texts. -/
import Derived.Test.YtdifeoahaegjbaaDoorZDiff
import Derived.Test.YtdifeoahaegjbaaDoorZOffs
import Derived.Deep.DeepCutAuto
namespace Go.Proofs.YtdifeoahaegjbaaDoor
open Go.RowKit
set_option linter.unusedSimpArgs false
set_option linter.unusedVariables false

def headL (s : ByteArray) (f : Int) : List UInt8 := [122, 111, 110, 101, 32] ++ s.data.toList ++ [32] ++ (offT f).data.toList ++ [10]
def rowL (c : Chg) : List UInt8 := [97, 116, 32] ++ Lib.itoa (c.at' / 86400000) ++ [32] ++ Lib.itoa (c.at' % 86400000) ++ [32] ++ (offT c.off).data.toList ++ [32] ++ c.lab.data.toList ++ [10]
def prL (s : ByteArray) (f : Int) (cs : List Chg) : Nat → List UInt8
  | 0 => headL s f
  | k + 1 => prL s f cs k ++ rowL (ch cs k)
def prT (s : ByteArray) (f : Int) (cs : List Chg) : ByteArray := ⟨(prL s f cs cs.length).toArray⟩
theorem rowL_len {c : Chg} (h1 : -1000000000000000 ≤ c.at' ∧ c.at' ≤ 1000000000000000) (h2 : c.lab.size ≤ 6) : (rowL c).length ≤ 80 := by
  have a := Lib.itoa_length_le (c.at' / 86400000) (by omega) (by omega)
  have b := Lib.itoa_length_le (c.at' % 86400000) (by omega) (by omega)
  have d := offT_size c.off
  unfold rowL
  simp
  omega
theorem prL_len {s : ByteArray} {f : Int} {cs : List Chg} (h : ZoneOk s f cs) : ∀ k, k ≤ cs.length → (prL s f cs k).length ≤ 100 + k * 100
  | 0, _ => by
    have d := offT_size f
    have e := nameOk_len h.1
    unfold prL headL
    simp
    omega
  | k + 1, hk => by
    have ih := prL_len h k (by omega)
    have hc := h.2.2.2 k (by omega)
    have := rowL_len (inst_bd hc.1) (labOk_size hc.2.2.1)
    unfold prL
    rw [List.length_append]
    omega

set_option maxRecDepth 100000 in
set_option maxHeartbeats 16000000 in
theorem print_ok (s : ByteArray) (f : Int) (A : Option Addr) (n cap : Nat) (cs : List Chg) (w : World) (ht : Tab w) (h : ChSl w A n cap cs) (hs : s.size ≤ 9223372036854775807) (hz : ZoneOk s f cs) :
    Calls Tryd.prog 9 #[.agg #[.string s, .int .i64 f, .slice A n cap]] w fun e w' => e = .returned (.tuple #[.string (prT s f cs), .int .i64 0]) ∧ Below w.heap.size w w' := by
  have HC := Lib.hid (fun W hW => zone1_ok s f A n cap cs W hW hs hz)
  have HN : n ≤ 200 := by have := hz.2.2.1; rw [h.len] at this; exact this
  have hb0 := Lib.hid ((Below.refl w.heap.size w).alloc (Nat.le_refl _) (.cells #[.string s, .int .i64 f, .slice A n cap] 24))
  have Z0 := Lib.hid (ZBox.new w (.string s) (.int .i64 f) (.slice A n cap))
  have H := Lib.hid h; have HT := Lib.hid ht; have HZ := Lib.hid hz; have HN2 := Lib.hid HN
  have HPL := Lib.hid (fun k (hk : k ≤ n) => prL_len hz k (by rw [h.len]; exact hk))
  have hE : prT s f cs = ⟨(prL s f cs n).toArray⟩ := by unfold prT; rw [h.len]
  rw [hE]
  have hfb := offOk_bd hz.2.1
  have HO := Lib.hid (fun W => offs_ok f W hfb)
  have nl := nameOk_len hz.1
  obtain ⟨T1, hT1⟩ : ∃ T, T = offT f := ⟨_, rfl⟩
  have l1 : T1.size = 9 := by rw [hT1, offT_size]
  rw [← hT1] at HO
  obtain ⟨s1, h1⟩ : ∃ x, x = (⟨#[122, 111, 110, 101, 32]⟩ : ByteArray) ++ s := ⟨_, rfl⟩
  obtain ⟨s2, h2⟩ : ∃ x, x = s1 ++ (⟨#[32]⟩ : ByteArray) := ⟨_, rfl⟩
  obtain ⟨s3, h3⟩ : ∃ x, x = s2 ++ T1 := ⟨_, rfl⟩
  obtain ⟨s4, h4⟩ : ∃ x, x = s3 ++ (⟨#[10]⟩ : ByteArray) := ⟨_, rfl⟩
  have z1 : s1.size = 5 + s.size := cat_size h1
  have z2 : s2.size = s1.size + 1 := cat_size h2
  have z3 : s3.size = s2.size + T1.size := cat_size h3
  have z4 : s4.size = s3.size + 1 := cat_size h4
  have c1 := cat_run Tryd.prog _ _ _ h1 (by show 5 + s.size ≤ _; omega)
  have c2 := cat_run Tryd.prog _ _ _ h2 (by show s1.size + 1 ≤ _; omega)
  have c3 := cat_run Tryd.prog _ _ _ h3 (by omega)
  have c4 := cat_run Tryd.prog _ _ _ h4 (by show s3.size + 1 ≤ _; omega)
  have hs4 : s4.data.toList = [122, 111, 110, 101, 32] ++ s.data.toList ++ [32] ++ (offT f).data.toList ++ [10] := by
    rw [cat_list h4, cat_list h3, cat_list h2, cat_list h1, hT1]
  have z5 : s4.size ≤ 100 := by omega
  have HW := Lib.hid (fun b W (hW : BldZ b [] W) (hs : b ≤ W.heap.size) => bldZ_write b [] _ s4 W hs4 hW (by simp; omega) hs)
  have C1 := Lib.hid c1; have C2 := Lib.hid c2; have C3 := Lib.hid c3; have C4 := Lib.hid c4
  obtain ⟨k, hk⟩ : ∃ k, k = w.heap.size := ⟨_, rfl⟩
  have HK := Lib.hid hk
  rw [← hk] at Z0
  clear hE h ht hz hs HN hfb nl hT1 l1 h1 h2 h3 h4 z1 z2 z3 z4 z5 c1 c2 c3 c4 hs4
  go_enter Tryd.func9, Tryd.ntmps9
  go_wp2_with fail
  refine Calls.mono (HC.out _ (H.out.stay hb0.out)) ?_
  rintro e w1 ⟨rfl, hb⟩
  have Z1 := Lib.hid (Z0.out.below hb)
  have Hb1 := Lib.hid (hb0.out.trans (hb.mono hb0.out.size))
  clear hb Z0 hb0
  rw [← hk]
  clear hk
  go_upto_region 5 with fail
  obtain ⟨b, hbb⟩ : ∃ b, b = w1.heap.size := ⟨_, rfl⟩
  obtain ⟨V, hV⟩ : ∃ V, V = w1.alloc (.cells #[.pointer none, .slice none 0 0] 63) := ⟨_, rfl⟩
  have bV : Below w1.heap.size w1 V := by rw [hV]; exact (Below.refl _ _).alloc (Nat.le_refl _) _
  have hB0 : BldZ b [] V := by rw [hV, hbb]; exact Lib.fresh_isBuilder _ _ w1
  have ZV := Lib.hid (Z1.out.below bV)
  have HBV := Lib.hid (Hb1.out.trans (bV.mono Hb1.out.size))
  have kb : k < b := by rw [hbb]; exact Z1.out.lt
  have wb : w.heap.size ≤ b := by rw [hbb]; exact Hb1.out.size
  have bs : b ≤ V.heap.size := by rw [hbb]; exact bV.size
  rw [← hV, ← hbb]
  have HBL := Lib.hid hB0
  clear hV bV hbb Z1 Hb1 hB0
  obtain ⟨X, hX⟩ : ∃ X, X = V.drew := ⟨_, rfl⟩
  have bX : Below V.heap.size V X := by rw [hX]; exact (Below.refl _ _).drew
  have ZX := Lib.hid (ZV.out.below bX); have HbX := Lib.hid (HBV.out.trans (bX.mono HBV.out.size)); have HBX := Lib.hid (bldZ_below HBL.out bX)
  have bsX := Nat.le_trans bs bX.size
  refine wp_region_G [(9, fun w' => ZBox w' k (.string s) (.int .i64 f) (.slice A n cap))] (by kernel_rfl) (heldC_one (fun _ => by rw [← hX]; exact ZX.out)) (fun hF => ?_)
  rw [← hX] at hF ⊢
  clear hX bX ZV HBV HBL bs
  have c1 := C1.out; have c2 := C2.out
  refine wpG_takeC (oi := ?oi19) (v := ?vv19) 0 _ [8,7,3,2,1] ?hi19 (List.Mem.head _) ?hc19 ?hQ19 hF ?hw19 ?hy19 (fun hF => ?hh19)
  case hi19 => (simp only [List.getElem?_toArray, List.getElem?_cons_succ, List.getElem?_cons_zero]; rfl)
  case hc19 => kernel_rfl
  case hQ19 => exact fun _ _ _ h => h
  case hw19 => rfl
  case hy19 => (intro wz hz; skip; go_simp; try (with_reducible rfl))
  try simp only [Act.put, List.setIfInBounds_toArray, List.set_cons_zero, List.set_cons_succ]
  refine wpG_takeC (oi := ?oi20) (v := ?vv20) 1 _ [8,7,3,2] ?hi20 (List.Mem.head _) ?hc20 ?hQ20 hF ?hw20 ?hy20 (fun hF => ?hh20)
  case hi20 => (simp only [List.getElem?_toArray, List.getElem?_cons_succ, List.getElem?_cons_zero]; rfl)
  case hc20 => kernel_rfl
  case hQ20 => exact fun _ _ _ h => h
  case hw20 => rfl
  case hy20 => (intro wz hz; have z0 := hz.c0; go_simp; try (with_reducible rfl))
  try simp only [Act.put, List.setIfInBounds_toArray, List.set_cons_zero, List.set_cons_succ]
  refine wpG_takeC (oi := ?oi21) (v := ?vv21) 2 _ [8,7,3] ?hi21 (List.Mem.head _) ?hc21 ?hQ21 hF ?hw21 ?hy21 (fun hF => ?hh21)
  case hi21 => (simp only [List.getElem?_toArray, List.getElem?_cons_succ, List.getElem?_cons_zero]; rfl)
  case hc21 => kernel_rfl
  case hQ21 => exact fun _ _ _ h => h
  case hw21 => rfl
  case hy21 => (intro wz hz; skip; go_simp; try (with_reducible rfl))
  try simp only [Act.put, List.setIfInBounds_toArray, List.set_cons_zero, List.set_cons_succ]
  refine wpG_takeC (oi := ?oi22) (v := ?vv22) 3 _ [8,7] ?hi22 (List.Mem.head _) ?hc22 ?hQ22 hF ?hw22 ?hy22 (fun hF => ?hh22)
  case hi22 => (simp only [List.getElem?_toArray, List.getElem?_cons_succ, List.getElem?_cons_zero]; rfl)
  case hc22 => kernel_rfl
  case hQ22 => exact fun _ _ _ h => h
  case hw22 => rfl
  case hy22 => (intro wz hz; skip; go_simp; try (with_reducible rfl))
  try simp only [Act.put, List.setIfInBounds_toArray, List.set_cons_zero, List.set_cons_succ]
  refine wpG_takeC (oi := ?oi23) (v := ?vv23) 4 _ [8,7,6,5] ?hi23 (List.Mem.head _) ?hc23 ?hQ23 hF ?hw23 ?hy23 (fun hF => ?hh23)
  case hi23 => (simp only [List.getElem?_toArray, List.getElem?_cons_succ, List.getElem?_cons_zero]; rfl)
  case hc23 => kernel_rfl
  case hQ23 => exact fun _ _ _ h => h
  case hw23 => rfl
  case hy23 => (intro wz hz; skip; go_simp; try (with_reducible rfl))
  try simp only [Act.put, List.setIfInBounds_toArray, List.set_cons_zero, List.set_cons_succ]
  refine wpG_takeC (oi := ?oi24) (v := ?vv24) 5 _ [8,7,6] ?hi24 (List.Mem.head _) ?hc24 ?hQ24 hF ?hw24 ?hy24 (fun hF => ?hh24)
  case hi24 => (simp only [List.getElem?_toArray, List.getElem?_cons_succ, List.getElem?_cons_zero]; rfl)
  case hc24 => kernel_rfl
  case hQ24 => exact fun _ _ _ h => h
  case hw24 => rfl
  case hy24 => (intro wz hz; have z1 := hz.c1; go_simp; try (with_reducible rfl))
  try simp only [Act.put, List.setIfInBounds_toArray, List.set_cons_zero, List.set_cons_succ]
  clear c1 c2
  refine wpG_ready (rs := [6]) (by kernel_rfl) (by simp) ?_
  refine all_one ?_
  refine wpOp_hand (oi := ?oi25) ?hi25 (fun K hK => ?hh25)
  case hi25 => (simp only [List.getElem?_toArray, List.getElem?_cons_succ, List.getElem?_cons_zero]; rfl)
  go_simp
  go_at_call 23
  refine Calls.mono (HO.out _) ?_
  rintro e w2 ⟨rfl, hb⟩
  have Z2 := Lib.hid (ZX.out.below hb); have Hb2 := Lib.hid (HbX.out.trans (hb.mono HbX.out.size)); have HB2 := Lib.hid (bldZ_below HBX.out hb)
  have bs2 := Nat.le_trans bsX hb.size
  clear hb ZX HbX HBX bsX
  go_simp
  refine hK.out _ _ (heldC_one (fun _ => Z2.out)) (fun hF => ?_)
  clear hK K
  try simp only [Act.put, List.setIfInBounds_toArray, List.set_cons_zero, List.set_cons_succ]
  have c3 := C3.out; have c4 := C4.out
  refine wpG_takeC (oi := ?oi26) (v := ?vv26) 7 _ [8] ?hi26 (List.Mem.head _) ?hc26 ?hQ26 hF ?hw26 ?hy26 (fun hF => ?hh26)
  case hi26 => (simp only [List.getElem?_toArray, List.getElem?_cons_succ, List.getElem?_cons_zero]; rfl)
  case hc26 => kernel_rfl
  case hQ26 => exact fun _ _ _ h => h
  case hw26 => rfl
  case hy26 => (intro wz hz; skip; go_simp; try (with_reducible rfl))
  try simp only [Act.put, List.setIfInBounds_toArray, List.set_cons_zero, List.set_cons_succ]
  refine wpG_take (oi := ?oi27) (v := ?vv27) 8 _ ?hi27 (List.Mem.head _) ?hc27 ?hQ27 hF ?hw27 ?hy27 (fun hF => ?hh27)
  case hi27 => (simp only [List.getElem?_toArray, List.getElem?_cons_succ, List.getElem?_cons_zero]; rfl)
  case hc27 => kernel_rfl
  case hQ27 => exact fun _ _ _ h => h
  case hw27 => rfl
  case hy27 => (intro wz hz; skip; go_simp; try (with_reducible rfl))
  try simp only [Act.put, List.setIfInBounds_toArray, List.set_cons_zero, List.set_cons_succ]
  clear c3 c4
  refine wpG_ready (rs := [9]) (by kernel_rfl) (by simp) ?_
  refine all_one ?_
  refine wpOp_hand (oi := ?oi28) ?hi28 (fun K hK => ?hh28)
  case hi28 => (simp only [List.getElem?_toArray, List.getElem?_cons_succ, List.getElem?_cons_zero]; rfl)
  go_simp
  go_at_call 22
  refine Calls.mono (HW.out b _ HB2.out bs2) ?_
  rintro e w3 ⟨rfl, hbl, hb⟩
  have HB3 := Lib.hid (show BldZ b (prL s f cs 0) w3 from hbl)
  have Z3 := Lib.hid (Z2.out.belowB hb kb); have Hb3 := Lib.hid (Hb2.out.trans (hb.mono wb))
  have bs3 := Nat.le_trans bs2 hb.size
  clear hb hbl Z2 Hb2 HB2 bs2
  go_simp
  refine hK.out _ _ (heldC_one (fun h => absurd h (by simp))) (fun hF => ?_)
  clear hK K
  try simp only [Act.put, List.setIfInBounds_toArray, List.set_cons_zero, List.set_cons_succ]
  refine wpG_done (by kernel_rfl) ?_ _
  clear hF
  have x2 := Z3.out.c2; have xl := Z3.out.lt
  go_wp2_with fail
  clear x2 xl C1 C2 C3 C4 HW HO
  go_loopw [29] (fun i' wv => ∃ i : Nat, i ≤ n ∧ i' = .int .i64 i ∧ BldZ b (prL s f cs i) wv ∧ b ≤ wv.heap.size ∧ Below w.heap.size w wv) (fun i' _ => n - (intOf i').toNat)
  case atStart => exact ⟨0, by omega, rfl, HB3.out, bs3, Hb3.out⟩
  case round =>
    clear HB3 bs3 Hb3 Z3
    obtain ⟨i, hi, rfl, hbl, bs, hb⟩ := hrel
    have HBL := Lib.hid hbl; have Hb := Lib.hid hb
    clear hbl hb
    by_cases hin : i < n
    · have i0 : (0 : Int) ≤ (i : Int) := by omega
      have i1 : (i : Int) < (n : Int) := by omega
      have i2 : (i : Int) < (cap : Int) := by have := H.out.le; omega
      have iw : IntKind.i64.wrap ((i : Int) + 1) = (i : Int) + 1 := IntWalk.i64_in _ (by have := HN2.out; omega)
      obtain ⟨q, o, hA, hc⟩ := (H.out.stay Hb.out).mem (by omega)
      obtain ⟨y0, y1, y2⟩ := hc i hin
      have hzc := HZ.out.2.2.2 i (by rw [H.out.len]; exact hin)
      obtain ⟨c, hcc⟩ : ∃ c, c = ch cs i := ⟨_, rfl⟩
      have hpl : prL s f cs (i + 1) = prL s f cs i ++ rowL c := by rw [hcc]; rfl
      have hli := HPL.out i hi
      obtain ⟨hz1, hz2, hz3, _⟩ := hzc
      rw [← hcc] at y0 y1 y2 hz1 hz2 hz3
      have hbd := inst_bd hz1
      have hfb := offOk_bd hz2
      have hls := labOk_size hz3
      have HO2 := Lib.hid (fun W => offs_ok c.off W hfb)
      have HDV := Lib.hid (fun W => div_all c.at' 86400000 W (by omega) (by omega) (by omega) (by omega))
      obtain ⟨T1, hT1⟩ : ∃ T, T = offT c.off := ⟨_, rfl⟩
      have l1 : T1.size = 9 := by rw [hT1, offT_size]
      rw [← hT1] at HO2
      obtain ⟨sA, hSA⟩ : ∃ x, x = (⟨(Lib.itoa (c.at' / 86400000)).toArray⟩ : ByteArray) := ⟨_, rfl⟩
      obtain ⟨sB, hSB⟩ : ∃ x, x = (⟨(Lib.itoa (c.at' % 86400000)).toArray⟩ : ByteArray) := ⟨_, rfl⟩
      have lA : sA.size ≤ 21 := by rw [hSA]; exact itoa_size _ (by omega) (by omega)
      have lB : sB.size ≤ 21 := by rw [hSB]; exact itoa_size _ (by omega) (by omega)
      have HIA := Lib.hid (fun W hW => itoa_as (c.at' / 86400000) sA (Lib.hid hSA) (by omega) (by omega) W hW)
      have HIB := Lib.hid (fun W hW => itoa_as (c.at' % 86400000) sB (Lib.hid hSB) (by omega) (by omega) W hW)
      obtain ⟨s1, h1⟩ : ∃ x, x = (⟨#[97, 116, 32]⟩ : ByteArray) ++ sA := ⟨_, rfl⟩
      obtain ⟨s2, h2⟩ : ∃ x, x = s1 ++ (⟨#[32]⟩ : ByteArray) := ⟨_, rfl⟩
      obtain ⟨s3, h3⟩ : ∃ x, x = s2 ++ sB := ⟨_, rfl⟩
      obtain ⟨s4, h4⟩ : ∃ x, x = s3 ++ (⟨#[32]⟩ : ByteArray) := ⟨_, rfl⟩
      obtain ⟨s5, h5⟩ : ∃ x, x = s4 ++ T1 := ⟨_, rfl⟩
      obtain ⟨s6, h6⟩ : ∃ x, x = s5 ++ (⟨#[32]⟩ : ByteArray) := ⟨_, rfl⟩
      obtain ⟨s7, h7⟩ : ∃ x, x = s6 ++ c.lab := ⟨_, rfl⟩
      obtain ⟨s8, h8⟩ : ∃ x, x = s7 ++ (⟨#[10]⟩ : ByteArray) := ⟨_, rfl⟩
      have z1 : s1.size = 3 + sA.size := cat_size h1
      have z2 : s2.size = s1.size + 1 := cat_size h2
      have z3 : s3.size = s2.size + sB.size := cat_size h3
      have z4 : s4.size = s3.size + 1 := cat_size h4
      have z5 : s5.size = s4.size + T1.size := cat_size h5
      have z6 : s6.size = s5.size + 1 := cat_size h6
      have z7 : s7.size = s6.size + c.lab.size := cat_size h7
      have z8 : s8.size = s7.size + 1 := cat_size h8
      have C1 := Lib.hid (cat_run Tryd.prog _ _ _ h1 (by show 3 + sA.size ≤ _; omega))
      have C2 := Lib.hid (cat_run Tryd.prog _ _ _ h2 (by show s1.size + 1 ≤ _; omega))
      have C3 := Lib.hid (cat_run Tryd.prog _ _ _ h3 (by omega))
      have C4 := Lib.hid (cat_run Tryd.prog _ _ _ h4 (by show s3.size + 1 ≤ _; omega))
      have C5 := Lib.hid (cat_run Tryd.prog _ _ _ h5 (by omega))
      have C6 := Lib.hid (cat_run Tryd.prog _ _ _ h6 (by show s5.size + 1 ≤ _; omega))
      have C7 := Lib.hid (cat_run Tryd.prog _ _ _ h7 (by omega))
      have C8 := Lib.hid (cat_run Tryd.prog _ _ _ h8 (by show s7.size + 1 ≤ _; omega))
      have hs8 : s8.data.toList = rowL c := by
        rw [cat_list h8, cat_list h7, cat_list h6, cat_list h5, cat_list h4, cat_list h3, cat_list h2, cat_list h1, hSA, hSB, hT1]; rfl
      have z9 : s8.size ≤ 100 := by omega
      have HW2 := Lib.hid (fun W (hW : BldZ b (prL s f cs i) W) (hs : b ≤ W.heap.size) => bldZ_write b (prL s f cs i) _ s8 W hs8 hW (by have := HN2.out; omega) hs)
      rw [← hpl] at HW2
      have bw := (Below.refl wr.heap.size wr).alloc (Nat.le_refl _) (.cells #[.int .i64 c.at', .int .i64 c.off, .string c.lab] 36)
      have HP0 := Lib.hid (CgBox.new wr (.int .i64 c.at') (.int .i64 c.off) (.string c.lab))
      have Hb1 := Lib.hid (Hb.out.trans (bw.mono Hb.out.size)); have HB1 := Lib.hid (bldZ_below HBL.out bw)
      have bs1 := Nat.le_trans bs bw.size
      have kpb : b ≤ wr.heap.size := bs
      subst hA
      clear hc hcc hpl hli hz1 hz2 hz3 hbd hfb hls hT1 l1 hSA hSB lA lB h1 h2 h3 h4 h5 h6 h7 h8 z1 z2 z3 z4 z5 z6 z7 z8 z9 hs8 bw HBL Hb bs
      go_upto_region 9 with fail
      obtain ⟨kp, hkp⟩ : ∃ b, b = wr.heap.size := ⟨_, rfl⟩
      obtain ⟨U, hU⟩ : ∃ U, U = wr.alloc (.cells #[.int .i64 c.at', .int .i64 c.off, .string c.lab] 36) := ⟨_, rfl⟩
      rw [← hU, ← hkp] at HP0 ⊢
      rw [← hU] at Hb1 HB1 bs1
      rw [← hkp] at kpb
      clear hU hkp y0 y1 y2
      have p0 := HP0.out.c0; have pl := HP0.out.lt
      go_wp2_with fail
      refine Calls.mono (HDV.out _) ?_
      rintro e w2 ⟨rfl, hb⟩
      have HP2 := Lib.hid (HP0.out.below hb); have HB2 := Lib.hid (bldZ_below HB1.out hb); have Hb2 := Lib.hid (Hb1.out.trans (hb.mono Hb1.out.size))
      have bs2 := Nat.le_trans bs1 hb.size
      clear hb p0 pl HP0 HB1 Hb1 bs1
      go_upto_region 10 with fail
      obtain ⟨X, hX⟩ : ∃ X, X = w2.drew := ⟨_, rfl⟩
      have bX : Below w2.heap.size w2 X := by rw [hX]; exact (Below.refl _ _).drew
      have HPX := Lib.hid (HP2.out.below bX); have HbX := Lib.hid (Hb2.out.trans (bX.mono Hb2.out.size)); have HBX := Lib.hid (bldZ_below HB2.out bX)
      have bsX := Nat.le_trans bs2 bX.size
      refine wp_region_G [(17, fun w' => CgBox w' kp (.int .i64 c.at') (.int .i64 c.off) (.string c.lab))] (by kernel_rfl) (heldC_one (fun _ => by rw [← hX]; exact HPX.out)) (fun hF => ?_)
      rw [← hX] at hF ⊢
      clear hX bX HP2 Hb2 HB2 bs2
      refine wpG_takeC (oi := ?oi29) (v := ?vv29) 0 _ [16,15,12,11,7,6,3,2,1] ?hi29 (List.Mem.head _) ?hc29 ?hQ29 hF ?hw29 ?hy29 (fun hF => ?hh29)
      case hi29 => (simp only [List.getElem?_toArray, List.getElem?_cons_succ, List.getElem?_cons_zero]; rfl)
      case hc29 => kernel_rfl
      case hQ29 => exact fun _ _ _ h => h
      case hw29 => rfl
      case hy29 => (intro wz hz; skip; go_simp; try (with_reducible rfl))
      try simp only [Act.put, List.setIfInBounds_toArray, List.set_cons_zero, List.set_cons_succ]
      refine wpG_takeC (oi := ?oi30) (v := ?vv30) 4 _ [16,15,12,11,7,6,5] ?hi30 (List.Mem.head _) ?hc30 ?hQ30 hF ?hw30 ?hy30 (fun hF => ?hh30)
      case hi30 => (simp only [List.getElem?_toArray, List.getElem?_cons_succ, List.getElem?_cons_zero]; rfl)
      case hc30 => kernel_rfl
      case hQ30 => exact fun _ _ _ h => h
      case hw30 => rfl
      case hy30 => (intro wz hz; skip; go_simp; try (with_reducible rfl))
      try simp only [Act.put, List.setIfInBounds_toArray, List.set_cons_zero, List.set_cons_succ]
      refine wpG_takeC (oi := ?oi31) (v := ?vv31) 8 _ [16,15,12,11,10,9] ?hi31 (List.Mem.head _) ?hc31 ?hQ31 hF ?hw31 ?hy31 (fun hF => ?hh31)
      case hi31 => (simp only [List.getElem?_toArray, List.getElem?_cons_succ, List.getElem?_cons_zero]; rfl)
      case hc31 => kernel_rfl
      case hQ31 => exact fun _ _ _ h => h
      case hw31 => rfl
      case hy31 => (intro wz hz; skip; go_simp; try (with_reducible rfl))
      try simp only [Act.put, List.setIfInBounds_toArray, List.set_cons_zero, List.set_cons_succ]
      refine wpG_takeC (oi := ?oi32) (v := ?vv32) 9 _ [16,15,12,11,10] ?hi32 (List.Mem.head _) ?hc32 ?hQ32 hF ?hw32 ?hy32 (fun hF => ?hh32)
      case hi32 => (simp only [List.getElem?_toArray, List.getElem?_cons_succ, List.getElem?_cons_zero]; rfl)
      case hc32 => kernel_rfl
      case hQ32 => exact fun _ _ _ h => h
      case hw32 => rfl
      case hy32 => (intro wz hz; have p1 := hz.c1; go_simp; try (with_reducible rfl))
      try simp only [Act.put, List.setIfInBounds_toArray, List.set_cons_zero, List.set_cons_succ]
      refine wpG_takeC (oi := ?oi33) (v := ?vv33) 13 _ [16,15,14] ?hi33 (List.Mem.head _) ?hc33 ?hQ33 hF ?hw33 ?hy33 (fun hF => ?hh33)
      case hi33 => (simp only [List.getElem?_toArray, List.getElem?_cons_succ, List.getElem?_cons_zero]; rfl)
      case hc33 => kernel_rfl
      case hQ33 => exact fun _ _ _ h => h
      case hw33 => rfl
      case hy33 => (intro wz hz; skip; go_simp; try (with_reducible rfl))
      try simp only [Act.put, List.setIfInBounds_toArray, List.set_cons_zero, List.set_cons_succ]
      refine wpG_takeC (oi := ?oi34) (v := ?vv34) 14 _ [16,15] ?hi34 (List.Mem.head _) ?hc34 ?hQ34 hF ?hw34 ?hy34 (fun hF => ?hh34)
      case hi34 => (simp only [List.getElem?_toArray, List.getElem?_cons_succ, List.getElem?_cons_zero]; rfl)
      case hc34 => kernel_rfl
      case hQ34 => exact fun _ _ _ h => h
      case hw34 => rfl
      case hy34 => (intro wz hz; have p2 := hz.c2; go_simp; try (with_reducible rfl))
      try simp only [Act.put, List.setIfInBounds_toArray, List.set_cons_zero, List.set_cons_succ]
      refine wpG_ready (rs := [1]) (by kernel_rfl) (by simp) ?_
      refine all_one ?_
      refine wpOp_hand (oi := ?oi35) ?hi35 (fun K hK => ?hh35)
      case hi35 => (simp only [List.getElem?_toArray, List.getElem?_cons_succ, List.getElem?_cons_zero]; rfl)
      go_simp
      go_at_call 25
      refine Calls.mono (HIA.out _ (HT.out.below HbX.out)) ?_
      rintro e w3 ⟨rfl, hb⟩
      have HP3 := Lib.hid (HPX.out.below hb); have Hb3 := Lib.hid (HbX.out.trans (hb.mono HbX.out.size)); have HB3 := Lib.hid (bldZ_below HBX.out hb)
      have bs3 := Nat.le_trans bsX hb.size
      clear hb HPX HbX HBX bsX
      go_simp
      refine hK.out _ _ (heldC_one (fun _ => HP3.out)) (fun hF => ?_)
      clear hK K
      try simp only [Act.put, List.setIfInBounds_toArray, List.set_cons_zero, List.set_cons_succ]
      have c1 := C1.out; have c2 := C2.out
      refine wpG_takeC (oi := ?oi36) (v := ?vv36) 2 _ [16,15,12,11,7,6,3] ?hi36 (List.Mem.head _) ?hc36 ?hQ36 hF ?hw36 ?hy36 (fun hF => ?hh36)
      case hi36 => (simp only [List.getElem?_toArray, List.getElem?_cons_succ, List.getElem?_cons_zero]; rfl)
      case hc36 => kernel_rfl
      case hQ36 => exact fun _ _ _ h => h
      case hw36 => rfl
      case hy36 => (intro wz hz; skip; go_simp; try (with_reducible rfl))
      try simp only [Act.put, List.setIfInBounds_toArray, List.set_cons_zero, List.set_cons_succ]
      refine wpG_takeC (oi := ?oi37) (v := ?vv37) 3 _ [16,15,12,11,7,6] ?hi37 (List.Mem.head _) ?hc37 ?hQ37 hF ?hw37 ?hy37 (fun hF => ?hh37)
      case hi37 => (simp only [List.getElem?_toArray, List.getElem?_cons_succ, List.getElem?_cons_zero]; rfl)
      case hc37 => kernel_rfl
      case hQ37 => exact fun _ _ _ h => h
      case hw37 => rfl
      case hy37 => (intro wz hz; skip; go_simp; try (with_reducible rfl))
      try simp only [Act.put, List.setIfInBounds_toArray, List.set_cons_zero, List.set_cons_succ]
      clear c1 c2
      refine wpG_ready (rs := [5]) (by kernel_rfl) (by simp) ?_
      refine all_one ?_
      refine wpOp_hand (oi := ?oi38) ?hi38 (fun K hK => ?hh38)
      case hi38 => (simp only [List.getElem?_toArray, List.getElem?_cons_succ, List.getElem?_cons_zero]; rfl)
      go_simp
      go_at_call 25
      refine Calls.mono (HIB.out _ (HT.out.below Hb3.out)) ?_
      rintro e w4 ⟨rfl, hb⟩
      have HP4 := Lib.hid (HP3.out.below hb); have Hb4 := Lib.hid (Hb3.out.trans (hb.mono Hb3.out.size)); have HB4 := Lib.hid (bldZ_below HB3.out hb)
      have bs4 := Nat.le_trans bs3 hb.size
      clear hb HP3 Hb3 HB3 bs3
      go_simp
      refine hK.out _ _ (heldC_one (fun _ => HP4.out)) (fun hF => ?_)
      clear hK K
      try simp only [Act.put, List.setIfInBounds_toArray, List.set_cons_zero, List.set_cons_succ]
      have c3 := C3.out; have c4 := C4.out
      refine wpG_takeC (oi := ?oi39) (v := ?vv39) 6 _ [16,15,12,11,7] ?hi39 (List.Mem.head _) ?hc39 ?hQ39 hF ?hw39 ?hy39 (fun hF => ?hh39)
      case hi39 => (simp only [List.getElem?_toArray, List.getElem?_cons_succ, List.getElem?_cons_zero]; rfl)
      case hc39 => kernel_rfl
      case hQ39 => exact fun _ _ _ h => h
      case hw39 => rfl
      case hy39 => (intro wz hz; skip; go_simp; try (with_reducible rfl))
      try simp only [Act.put, List.setIfInBounds_toArray, List.set_cons_zero, List.set_cons_succ]
      refine wpG_takeC (oi := ?oi40) (v := ?vv40) 7 _ [16,15,12,11] ?hi40 (List.Mem.head _) ?hc40 ?hQ40 hF ?hw40 ?hy40 (fun hF => ?hh40)
      case hi40 => (simp only [List.getElem?_toArray, List.getElem?_cons_succ, List.getElem?_cons_zero]; rfl)
      case hc40 => kernel_rfl
      case hQ40 => exact fun _ _ _ h => h
      case hw40 => rfl
      case hy40 => (intro wz hz; skip; go_simp; try (with_reducible rfl))
      try simp only [Act.put, List.setIfInBounds_toArray, List.set_cons_zero, List.set_cons_succ]
      clear c3 c4
      refine wpG_ready (rs := [10]) (by kernel_rfl) (by simp) ?_
      refine all_one ?_
      refine wpOp_hand (oi := ?oi41) ?hi41 (fun K hK => ?hh41)
      case hi41 => (simp only [List.getElem?_toArray, List.getElem?_cons_succ, List.getElem?_cons_zero]; rfl)
      go_simp
      go_at_call 23
      refine Calls.mono (HO2.out _) ?_
      rintro e w5 ⟨rfl, hb⟩
      have HP5 := Lib.hid (HP4.out.below hb); have Hb5 := Lib.hid (Hb4.out.trans (hb.mono Hb4.out.size)); have HB5 := Lib.hid (bldZ_below HB4.out hb)
      have bs5 := Nat.le_trans bs4 hb.size
      clear hb HP4 Hb4 HB4 bs4
      go_simp
      refine hK.out _ _ (heldC_one (fun _ => HP5.out)) (fun hF => ?_)
      clear hK K
      try simp only [Act.put, List.setIfInBounds_toArray, List.set_cons_zero, List.set_cons_succ]
      have c5 := C5.out; have c6 := C6.out; have c7 := C7.out; have c8 := C8.out
      refine wpG_takeC (oi := ?oi42) (v := ?vv42) 11 _ [16,15,12] ?hi42 (List.Mem.head _) ?hc42 ?hQ42 hF ?hw42 ?hy42 (fun hF => ?hh42)
      case hi42 => (simp only [List.getElem?_toArray, List.getElem?_cons_succ, List.getElem?_cons_zero]; rfl)
      case hc42 => kernel_rfl
      case hQ42 => exact fun _ _ _ h => h
      case hw42 => rfl
      case hy42 => (intro wz hz; skip; go_simp; try (with_reducible rfl))
      try simp only [Act.put, List.setIfInBounds_toArray, List.set_cons_zero, List.set_cons_succ]
      refine wpG_takeC (oi := ?oi43) (v := ?vv43) 12 _ [16,15] ?hi43 (List.Mem.head _) ?hc43 ?hQ43 hF ?hw43 ?hy43 (fun hF => ?hh43)
      case hi43 => (simp only [List.getElem?_toArray, List.getElem?_cons_succ, List.getElem?_cons_zero]; rfl)
      case hc43 => kernel_rfl
      case hQ43 => exact fun _ _ _ h => h
      case hw43 => rfl
      case hy43 => (intro wz hz; skip; go_simp; try (with_reducible rfl))
      try simp only [Act.put, List.setIfInBounds_toArray, List.set_cons_zero, List.set_cons_succ]
      refine wpG_takeC (oi := ?oi44) (v := ?vv44) 15 _ [16] ?hi44 (List.Mem.head _) ?hc44 ?hQ44 hF ?hw44 ?hy44 (fun hF => ?hh44)
      case hi44 => (simp only [List.getElem?_toArray, List.getElem?_cons_succ, List.getElem?_cons_zero]; rfl)
      case hc44 => kernel_rfl
      case hQ44 => exact fun _ _ _ h => h
      case hw44 => rfl
      case hy44 => (intro wz hz; skip; go_simp; try (with_reducible rfl))
      try simp only [Act.put, List.setIfInBounds_toArray, List.set_cons_zero, List.set_cons_succ]
      refine wpG_take (oi := ?oi45) (v := ?vv45) 16 _ ?hi45 (List.Mem.head _) ?hc45 ?hQ45 hF ?hw45 ?hy45 (fun hF => ?hh45)
      case hi45 => (simp only [List.getElem?_toArray, List.getElem?_cons_succ, List.getElem?_cons_zero]; rfl)
      case hc45 => kernel_rfl
      case hQ45 => exact fun _ _ _ h => h
      case hw45 => rfl
      case hy45 => (intro wz hz; skip; go_simp; try (with_reducible rfl))
      try simp only [Act.put, List.setIfInBounds_toArray, List.set_cons_zero, List.set_cons_succ]
      clear c5 c6 c7 c8
      refine wpG_ready (rs := [17]) (by kernel_rfl) (by simp) ?_
      refine all_one ?_
      refine wpOp_hand (oi := ?oi46) ?hi46 (fun K hK => ?hh46)
      case hi46 => (simp only [List.getElem?_toArray, List.getElem?_cons_succ, List.getElem?_cons_zero]; rfl)
      go_simp
      go_at_call 22
      refine Calls.mono (HW2.out _ HB5.out bs5) ?_
      rintro e w6 ⟨rfl, hbl, hb⟩
      have HB6 := Lib.hid hbl
      have Hb6 := Lib.hid (Hb5.out.trans (hb.mono wb))
      have bs6 := Nat.le_trans bs5 hb.size
      clear hb hbl HP5 Hb5 HB5 bs5
      go_simp
      refine hK.out _ _ (heldC_one (fun h => absurd h (by simp))) (fun hF => ?_)
      clear hK K
      try simp only [Act.put, List.setIfInBounds_toArray, List.set_cons_zero, List.set_cons_succ]
      refine wpG_done (by kernel_rfl) ?_ _
      clear hF
      go_wp2_with fail
      go_roundw
      case rel => exact ⟨i + 1, by omega, by rw [Int.natCast_add]; rfl, HB6.out, bs6, Hb6.out⟩
      case measure => simp [intOf]; omega
    · obtain rfl : n = i := by omega
      have i1 : ¬ (n : Int) < (n : Int) := by omega
      have HST := Lib.hid (Tryd.Builder_String_any b b (prL s f cs n) wr HBL.out bs)
      go_wp2_with fail
      refine Calls.mono HST.out ?_
      rintro e w5 ⟨rfl, hb⟩
      have Hb5 := Lib.hid (Hb.out.trans (hb.mono wb))
      clear hb
      go_wp2_with fail
      go_returns
      exact ⟨rfl, Hb5.out⟩
end Go.Proofs.YtdifeoahaegjbaaDoor
