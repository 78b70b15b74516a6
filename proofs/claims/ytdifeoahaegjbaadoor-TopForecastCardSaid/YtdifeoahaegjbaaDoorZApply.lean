/- zonetext.Apply of edits that add behind all changes. -/
import Derived.Test.YtdifeoahaegjbaaDoorZDiff
namespace Go.Proofs.YtdifeoahaegjbaaDoor
open Go.RowKit
set_option linter.unusedSimpArgs false
set_option linter.unusedVariables false

theorem own_sla {w : World} {base n m : Nat} {A : Option Addr} {cap : Nat} {cs : List Chg} (hr : ChRngs cs) (h : w.ownsRow base 36 3 (.slice A n cap) m (chCs cs)) : ChSl w A m cap cs := by
  obtain ⟨A', c', e, hc⟩ := own_ch hr h
  injection e with h1 h2 h3
  subst h1; subst h3
  exact hc
theorem take_at {cs news : List Chg} {j : Nat} (h : j < news.length) : cs ++ news.take (j + 1) = cs ++ news.take j ++ [ch news j] := by
  rw [List.take_succ_eq_append_getElem h, ch_get h, List.append_assoc]
theorem ChRngs.take {cs news : List Chg} (h : ChRngs (cs ++ news)) (j : Nat) : ChRngs (cs ++ news.take j) := by
  intro i hi
  have hi2 := hi
  rw [List.length_append, List.length_take] at hi2
  have := h i (by rw [List.length_append]; omega)
  by_cases hl : i < cs.length
  · rw [ch_app_l hl] at this ⊢; exact this
  · have e : i = cs.length + (i - cs.length) := by omega
    rw [e, ch_app_r] at this ⊢
    have hl : i - cs.length < j := by omega
    have : ch (news.take j) (i - cs.length) = ch news (i - cs.length) := by unfold ch; simp [List.getD, List.getElem?_take, hl]
    rw [this]; assumption
theorem zone_take {s : ByteArray} {f : Int} {cs news : List Chg} (h : ZoneOk s f (cs ++ news)) {j : Nat} (hj : j < news.length) : ∀ i, i < cs.length + j → (ch (cs ++ news.take j) i).at' < (ch news j).at' := by
  intro i hi
  have hlt := zone_lt h (i := i) (j := cs.length + j) hi (by rw [List.length_append]; omega)
  rw [ch_app_r] at hlt
  by_cases hl : i < cs.length
  · rw [ch_app_l hl] at hlt ⊢; exact hlt
  · have e : i = cs.length + (i - cs.length) := by omega
    rw [e, ch_app_r] at hlt ⊢
    have hl : i - cs.length < j := by omega
    have : ch (news.take j) (i - cs.length) = ch news (i - cs.length) := by unfold ch; simp [List.getD, List.getElem?_take, hl]
    rw [this]; exact hlt

set_option maxRecDepth 100000 in
set_option maxHeartbeats 16000000 in
theorem apply_ok (s : ByteArray) (f : Int) (A : Option Addr) (n cap : Nat) (cs : List Chg) (B : Option Addr) (m bc : Nat) (news : List Chg) (w : World) (h : ChSl w A n cap cs) (he : EdSl w B m bc news) (hrg : ChRngs (cs ++ news)) (hs : s.size ≤ 9223372036854775807)
    (hz : ZoneOk s f cs) (hz2 : ZoneOk s f (cs ++ news)) (hm : m ≤ 20) :
    Calls Tryd.prog 8 #[.agg #[.string s, .int .i64 f, .slice A n cap], .slice B m bc] w fun e w' => ∃ A' cap', e = .returned (.tuple #[.agg #[.string s, .int .i64 f, .slice A' (n + m) cap'], .int .i64 0]) ∧ ChSl w' A' (n + m) cap' (cs ++ news) ∧ Below w.heap.size w w' := by
  have HN : n ≤ 200 := by have := hz.2.2.1; rw [h.len] at this; exact this
  have H := Lib.hid h; have HE := Lib.hid he; have HZ2 := Lib.hid hz2; have HRG := Lib.hid hrg; have HN2 := Lib.hid (And.intro HN hm)
  have HC1 := Lib.hid (fun W hW => zone1_ok s f A n cap cs W hW hs hz)
  have HC2 := Lib.hid (fun A2 c2 W hW => zone1_ok s f A2 (n + m) c2 (cs ++ news) W hW hs hz2)
  have HZ0 := (ZBox.new w (.string s) (.int .i64 f) (.slice A n cap)).alloc (.cells #[.string ⟨#[]⟩, .int .i64 0, .slice none 0 0] 24)
  have HZ1 := ZBox.new (w.alloc (.cells #[.string s, .int .i64 f, .slice A n cap] 24)) (.string ⟨#[]⟩) (.int .i64 0) (.slice none 0 0)
  have hbb := (((Below.refl w.heap.size w).alloc (Nat.le_refl _) (.cells #[.string s, .int .i64 f, .slice A n cap] 24)).alloc (by simp) (.cells #[.string ⟨#[]⟩, .int .i64 0, .slice none 0 0] 24))
  rw [World.size_alloc] at HZ1
  obtain ⟨k, hk⟩ : ∃ k, k = w.heap.size := ⟨_, rfl⟩
  have KS := Lib.hid hk
  have e4 : decide ((400 : Int) < (m : Int)) = false := decide_eq_false (by omega)
  clear h he hrg hz hz2 hs HN hm
  go_enter Tryd.func8, Tryd.ntmps8
  go_upto_region 1 with fail
  obtain ⟨V, hV⟩ : ∃ V, V = (w.alloc (.cells #[.string s, .int .i64 f, .slice A n cap] 24)).alloc (.cells #[.string ⟨#[]⟩, .int .i64 0, .slice none 0 0] 24) := ⟨_, rfl⟩
  rw [← hV] at HZ0 HZ1 hbb ⊢
  rw [← hk] at HZ0 HZ1 ⊢
  have Z0 := Lib.hid HZ0; have Z1 := Lib.hid HZ1; have Hb := Lib.hid hbb
  clear hV hk HZ0 HZ1 hbb
  have x0 := Z0.out.c0; have x1 := Z0.out.c1; have x2 := Z0.out.c2; have xl := Z0.out.lt
  go_wp2_with fail
  refine Calls.mono (HC1.out _ (H.out.stay Hb.out)) ?_
  rintro e w3 ⟨rfl, hb⟩
  have Z02 := Lib.hid (Z0.out.below hb); have Z12 := Lib.hid (Z1.out.below hb); have Hb2 := Lib.hid (Hb.out.trans (hb.mono Hb.out.size))
  clear hb x0 x1 x2 xl Z0 Z1 Hb
  have x0 := Z02.out.c0; have x1 := Z02.out.c1; have x2 := Z02.out.c2; have xl := Z02.out.lt
  have bw := (Below.refl w3.heap.size w3).alloc (Nat.le_refl _) (.cells #[.string s, .int .i64 f, .slice A n cap] 24)
  have Z03 := Lib.hid (Z02.out.below bw); have Z13 := Lib.hid (Z12.out.below bw); have Hb3 := Lib.hid (Hb2.out.trans (bw.mono Hb2.out.size))
  have Z23 := Lib.hid (ZBox.new w3 (.string s) (.int .i64 f) (.slice A n cap))
  have hk12 : k + 1 < w3.heap.size := Z12.out.lt
  clear bw Z02 Z12 Hb2
  go_wp2_with fail
  obtain ⟨k2, hk2⟩ : ∃ b, b = w3.heap.size := ⟨_, rfl⟩
  obtain ⟨W, hW⟩ : ∃ W, W = w3.alloc (.cells #[.string s, .int .i64 f, .slice A n cap] 24) := ⟨_, rfl⟩
  have hWs : W.heap.size = k2 + 1 := by rw [hW, hk2]; simp
  rw [← hW] at Z03 Z13 Hb3 Z23 ⊢
  rw [← hk2] at Z23 hk12 ⊢
  have HK2 := Lib.hid hk12
  clear hW hk2 x0 x1 x2 xl hk12 e4
  refine Calls.mono (clone_ok A n cap cs _ (H.out.stay Hb3.out) HN2.out.1) ?_
  rintro e w4 ⟨v, rfl, hown, hb⟩
  rw [hWs] at hown
  obtain ⟨A1, c1, rfl, _⟩ := own_ch H.out.rngs hown
  have Z14 := Lib.hid (Z13.out.below hb); have Z24 := Lib.hid (Z23.out.below hb); have Hb4 := Lib.hid (Hb3.out.trans (hb.mono Hb3.out.size))
  have hs4 : k2 + 1 ≤ w4.heap.size := by have := hb.size; omega
  have HO4 := Lib.hid hown
  have Z1e := Lib.hid (Z14.out.other (a := ⟨k2, 2, none⟩) (show k + 1 ≠ k2 by have := HK2.out; omega) (.slice A1 n c1))
  have Z2e := Lib.hid (Z24.out.set2 (.slice A1 n c1))
  have Hbe := Lib.hid (Hb4.out.setCell (p := ⟨k2, 2, none⟩) (show w.heap.size ≤ k2 by have := HK2.out; have := KS.out; omega) (.slice A1 n c1))
  have HOe := Lib.hid (zown_set (b := k2) (o := 2) (x := .slice A1 n c1) HO4.out (by omega))
  have hse : k2 + 1 ≤ (w4.setCell ⟨k2, 2, none⟩ (.slice A1 n c1)).heap.size := by simpa using hs4
  have y2 := Z24.out.c2; have y3 := Z24.out.free 2; have yl := Z24.out.lt
  clear hb hown hs4 Z03 Z13 Z23 Hb3 Z14 Hb4 HO4
  go_wp2_with fail
  clear y2 y3 yl Z24
  obtain ⟨W0, hW0⟩ : ∃ W0, W0 = w4.setCell ⟨k2, 2, none⟩ (.slice A1 n c1) := ⟨_, rfl⟩
  rw [← hW0] at Z1e Z2e Hbe HOe hse ⊢
  clear hW0
  go_loopw [30] (fun i' wv => ∃ (i M : Nat) (A2 : Option Addr) (c2 : Nat), i ≤ m ∧ M = n + i ∧ i' = .int .i64 i ∧ wv.ownsRow (k2 + 1) 36 3 (.slice A2 M c2) M (chCs (cs ++ news.take i)) ∧ ZBox wv k2 (.string s) (.int .i64 f) (.slice A2 M c2) ∧ ZBox wv (k + 1) (.string ⟨#[]⟩) (.int .i64 0) (.slice none 0 0) ∧ k2 + 1 ≤ wv.heap.size ∧ Below w.heap.size w wv) (fun i' _ => m - (intOf i').toNat)
  case atStart => exact ⟨0, n, A1, c1, by omega, rfl, rfl, by rw [List.take_zero, List.append_nil]; exact HOe.out, Z2e.out, Z1e.out, hse, Hbe.out⟩
  case round =>
    clear HOe Z2e Z1e hse Hbe
    obtain ⟨i, M, A2, c2, hi, hM, rfl, hown, hz2, hz1, hsz, hb⟩ := hrel
    have HO := Lib.hid hown; have Z2 := Lib.hid hz2; have Z1 := Lib.hid hz1; have Hb := Lib.hid hb; have HM := Lib.hid hM
    clear hown hz2 hz1 hb hM
    by_cases hin : i < m
    · have i0 : (0 : Int) ≤ (i : Int) := by omega
      have i1 : (i : Int) < (m : Int) := by omega
      have i2 : (i : Int) < (bc : Int) := by have := HE.out.le; omega
      obtain ⟨q, o, hA, hc⟩ := (HE.out.stay Hb.out).mem (by omega)
      obtain ⟨c0, c1, c2', c3⟩ := hc i hin
      have hil : i < news.length := by rw [HE.out.len]; exact hin
      obtain ⟨c, hcc⟩ : ∃ c, c = ch news i := ⟨_, rfl⟩
      have HED := Lib.hid (fun W hW hbs => edit_ok A2 M c2 (cs ++ news.take i) c (k2 + 1) W (HRG.out.take i) hW hbs (by have := HM.out; have := HN2.out; omega) (by rw [hcc, HM.out, ← H.out.len]; exact zone_take HZ2.out hil))
      rw [← hcc] at c1 c2' c3
      have HCC := Lib.hid hcc
      have y2 := Z2.out.c2; have yl := Z2.out.lt
      have bw := (Below.refl wr.heap.size wr).alloc (Nat.le_refl _) (.cells #[.int .i64 2, .int .i64 c.at', .int .i64 c.off, .string c.lab] 38)
      have Hb1 := Lib.hid (Hb.out.trans (bw.mono Hb.out.size)); have HO1 := Lib.hid (own_below HO.out bw); have Z21 := Lib.hid (Z2.out.below bw); have Z11 := Lib.hid (Z1.out.below bw)
      have hs1 := Nat.le_trans hsz bw.size
      have iw : IntKind.i64.wrap ((i : Int) + 1) = (i : Int) + 1 := IntWalk.i64_in _ (by have := HN2.out; omega)
      subst hA
      clear hc hcc bw
      go_wp2_with fail
      refine Calls.mono (HED.out _ HO1.out hs1) ?_
      rintro e w5 ⟨v, rfl, hown, hb⟩
      have hown' : w5.ownsRow (k2 + 1) 36 3 v (M + 1) (chCs (cs ++ news.take (i + 1))) := by rw [take_at hil, ← HCC.out]; simpa using hown
      clear hown
      have hown := hown'
      clear hown'
      obtain ⟨A3, c3', rfl, _⟩ := own_ch (HRG.out.take (i + 1)) hown
      have Z22 := Lib.hid (Z21.out.belowB hb (by omega)); have Z12 := Lib.hid (Z11.out.belowB hb (by have := HK2.out; omega))
      have Hb2 := Lib.hid (Hb1.out.trans (hb.mono (by have := HK2.out; have := KS.out; omega)))
      have hs2 := Nat.le_trans hs1 hb.size
      have HO2 := Lib.hid hown
      clear hown hb c0 c1 c2' c3 y2 yl Z2 Z1 Hb HO hsz Z21 Z11 Hb1 HO1 hs1
      have z2 := Z22.out.c2; have zf := Z22.out.free 2; have zl := Z22.out.lt
      have Z13 := Lib.hid (Z12.out.other (a := ⟨k2, 2, none⟩) (show k + 1 ≠ k2 by have := HK2.out; omega) (.slice A3 (M + 1) c3'))
      have Z23 := Lib.hid (Z22.out.set2 (.slice A3 (M + 1) c3'))
      have Hb3 := Lib.hid (Hb2.out.setCell (p := ⟨k2, 2, none⟩) (show w.heap.size ≤ k2 by have := HK2.out; have := KS.out; omega) (.slice A3 (M + 1) c3'))
      have HO3 := Lib.hid (zown_set (b := k2) (o := 2) (x := .slice A3 (M + 1) c3') HO2.out (by omega))
      have hs3 : k2 + 1 ≤ (w5.setCell ⟨k2, 2, none⟩ (.slice A3 (M + 1) c3')).heap.size := by simpa using hs2
      clear Z12 Hb2 HO2 hs2 Z22
      go_wp2_with fail
      go_roundw
      case rel => exact ⟨i + 1, M + 1, A3, c3', by omega, by have := HM.out; omega, by rw [Int.natCast_add]; rfl, HO3.out, Z23.out, Z13.out, hs3, Hb3.out⟩
      case measure => simp [intOf]; omega
    · obtain rfl : m = i := by omega
      have i1 : ¬ (m : Int) < (m : Int) := by omega
      have hown := HO.out
      rw [← HE.out.len, List.take_length] at hown
      obtain rfl := HM.out
      have HO1 := Lib.hid hown
      have HCS := Lib.hid (own_sla HRG.out hown)
      have z0 := Z2.out.c0; have z1 := Z2.out.c1; have z2 := Z2.out.c2; have zl := Z2.out.lt
      clear hown HO HM
      go_wp2_with fail
      refine Calls.mono (HC2.out _ _ _ HCS.out) ?_
      rintro e w7 ⟨rfl, hb⟩
      have Z27 := Lib.hid (Z2.out.below hb); have Z17 := Lib.hid (Z1.out.below hb); have Hb7 := Lib.hid (Hb.out.trans (hb.mono Hb.out.size))
      have HO7 := Lib.hid (own_below HO1.out hb)
      clear hb z0 z1 z2 zl Z2 Z1 Hb HCS HO1
      have f0 := Z17.out.free 0; have f1 := Z17.out.free 1; have f2 := Z17.out.free 2; have cc0 := Z17.out.c0; have cc1 := Z17.out.c1; have cc2 := Z17.out.c2; have cl := Z17.out.lt
      have z0 := Z27.out.c0; have z1 := Z27.out.c1; have z2 := Z27.out.c2; have zl := Z27.out.lt
      have HCF := Lib.hid (fun x y z => show ChSl (((w7.setCell ⟨k + 1, 0, none⟩ x).setCell ⟨k + 1, 1, none⟩ y).setCell ⟨k + 1, 2, none⟩ z) A2 (n + m) c2 (cs ++ news) from
        own_sla HRG.out (zown_set (zown_set (zown_set HO7.out (by have := HK2.out; omega)) (by have := HK2.out; omega)) (by have := HK2.out; omega)))
      have HBF := Lib.hid (fun x y z => ((Hb7.out.setCell (p := ⟨k + 1, 0, none⟩) (by have := KS.out; show _ ≤ k + 1; omega) x).setCell (p := ⟨k + 1, 1, none⟩) (by have := KS.out; show _ ≤ k + 1; omega) y).setCell (p := ⟨k + 1, 2, none⟩) (by have := KS.out; show _ ≤ k + 1; omega) z)
      clear HC1 HC2
      go_wp2_with fail
      refine bodyPost_ret (v := .tuple #[.agg #[.string s, .int .i64 f, .slice A2 (n + m) c2], .int .i64 0]) ?_ rfl ⟨A2, c2, rfl, HCF.out _ _ _, HBF.out _ _ _⟩
      simp [results, Tryd.results8, go_sem, *]
end Go.Proofs.YtdifeoahaegjbaaDoor
