/- TopForecast: in a zone that was extended the offset at a change of the years to come is that of the change, and the difference to the zone before is what was added. -/
import Derived.Test.YtdifeoahaegjbaaDoorZDiffed
import Derived.Test.YtdifeoahaegjbaaDoorZApply
import Derived.Test.YtdifeoahaegjbaaDoorZPrint
import Derived.Test.YtdifeoahaegjbaaDoorZOffset
import Derived.Test.YtdifeoahaegjbaaDoorZExt
import Derived.Test.YtdifeoahaegjbaaDoorZOpen
namespace Go.Proofs.YtdifeoahaegjbaaDoor
open Go.RowKit
set_option linter.unusedSimpArgs false
set_option linter.unusedVariables false

set_option maxHeartbeats 2000000 in
theorem aMod_ok (n : Int) (m : Nat) (w : World) (hn : I64 n) (hm : 1 ≤ m ∧ m ≤ 5000) :
    Calls Tryd.prog 15 #[.int .i64 n, .int .i64 m] w fun e w' => (∃ r : Nat, r < m ∧ e = .returned (.int .i64 r)) ∧ w' = w := by
  obtain ⟨h1, h2⟩ := hm
  have q0 : ¬ (m : Int) = 0 := by omega
  have q1 := Int.lt_tmod_of_pos n (show (0 : Int) < (m : Int) by omega)
  have q2 := Int.tmod_lt_of_pos n (show (0 : Int) < (m : Int) by omega)
  have q3 : IntKind.i64.wrap (n.tmod m + m) = n.tmod m + m := IntWalk.i64_in _ (by omega)
  have q4 : (n.tmod m + m).tmod m = (n.tmod m + m) % m := Int.tmod_eq_emod_of_nonneg (by omega)
  have q5 := Int.emod_nonneg (n.tmod m + m) (show (m : Int) ≠ 0 by omega)
  have q6 := Int.emod_lt_of_pos (n.tmod m + m) (show (0 : Int) < (m : Int) by omega)
  obtain ⟨x, hx⟩ : ∃ x, x = n.tmod m := ⟨_, rfl⟩
  rw [← hx] at q1 q2 q3 q4 q5 q6
  obtain ⟨r, hr⟩ : ∃ r : Nat, (x + m) % m = r := ⟨((x + m) % m).toNat, by omega⟩
  have hrm : r < m := by omega
  rw [hr] at q4
  have HX := hx.symm
  clear hn h1 h2 q1 q2 q5 q6 hx hr
  go_enter Tryd.func15, Tryd.ntmps15
  go_wp2_with fail
  go_ret
  exact ⟨⟨r, hrm, rfl⟩, rfl⟩
set_option maxHeartbeats 2000000 in
theorem aCut_ok (n : Int) (lo m : Nat) (w : World) (hn : I64 n) (hm : 1 ≤ m ∧ m ≤ 5000) (hl : lo ≤ 1) :
    Calls Tryd.prog 5 #[.int .i64 n, .int .i64 lo, .int .i64 m] w fun e w' => (∃ r : Nat, lo ≤ r ∧ r < lo + m ∧ e = .returned (.int .i64 r)) ∧ w' = w := by
  have H := Lib.hid (aMod_ok n m w hn hm)
  have h2 := hm.2
  clear hm hn
  go_enter Tryd.func5, Tryd.ntmps5
  go_wp2_with fail
  refine Calls.mono H.out ?_
  rintro e w1 ⟨⟨r, hr, rfl⟩, rfl⟩
  have q : IntKind.i64.wrap ((lo : Int) + (r : Int)) = ((lo + r : Nat) : Int) := by rw [Int.natCast_add]; exact IntWalk.i64_in _ (by omega)
  go_wp2_with fail
  go_ret
  exact ⟨⟨lo + r, by omega, by omega, by go_num⟩, rfl⟩

def summer : Rul := ⟨3, 5, 6, 0, 3600000, ⟨#[83]⟩⟩
theorem summer_ok : RulesOk [summer] := by
  refine ⟨by simp, by simp, fun i hi => ?_⟩
  obtain rfl : i = 0 := by simp at hi; omega
  refine ⟨⟨?_, ?_, ?_, ?_, ?_, ?_, ?_, ?_, ?_, ?_⟩, ?_⟩
  all_goals first | (simp [rl, summer]; done) | decide | kernel_rfl | (intro h; omega)
theorem a_ok : ZoneOk ⟨#[97]⟩ 0 [] := by
  refine ⟨?_, ?_, by simp, fun i hi => absurd hi (by simp)⟩
  all_goals first | decide | kernel_rfl
theorem made_ok (news : List Chg) (h : MadeY [summer] (lastOff 0 []) 1 news) : ZoneOk ⟨#[97]⟩ 0 ([] ++ news) := by
  obtain ⟨a, more, rfl, ha, hm, hl⟩ := h
  obtain rfl : a = [] := ha
  have hl' : more.length = 1 := hl
  refine ⟨a_ok.1, a_ok.2.1, by simp; omega, fun i hi => ?_⟩
  obtain rfl : i = 0 := by simp at hi; omega
  obtain ⟨d, h1, h2, hc⟩ := hm 0 (by omega)
  have e : ch ([] ++ ([] ++ more)) 0 = ch more 0 := rfl
  unfold chOk1
  rw [e, hc]
  refine ⟨?_, ?_, ?_, fun h => absurd h (by omega)⟩
  · show instOk (d * 86400000 + 0 - 0) = true
    simp [instOk, dayOk]
    omega
  · show offOk 3600000 = true
    decide
  · show labOk ⟨#[83]⟩ = true
    first | decide | kernel_rfl
theorem summer_sl {w : World} {b : Nat} (h : RbBox w b summer) : RlSl w (some ⟨b, 0, none⟩) 1 1 [summer] := by
  refine ⟨by omega, by simp [maxLen], rfl, fun i hi => ?_, fun _ => ⟨b, 0, rfl, fun i hi => ?_⟩⟩
  · obtain rfl : i = 0 := by omega
    refine ⟨⟨?_, ?_⟩, ⟨?_, ?_⟩, ⟨?_, ?_⟩, ⟨?_, ?_⟩, ⟨?_, ?_⟩, ?_⟩
    all_goals first | (simp [rl, summer]; done) | decide
  · obtain rfl : i = 0 := by omega
    exact ⟨h.c0, h.c1, h.c2, h.c3, h.c4, h.c5⟩
theorem example_ok (b : Nat) (w : World) (h : RbBox w b summer) :
    Calls Tryd.prog 4 #[.agg #[.string ⟨#[97]⟩, .int .i64 0, .slice none 0 0], .slice (some ⟨b, 0, none⟩) 1 1, .int .i64 2024, .int .i64 2024] w fun e w' => ∃ A' cap', e = .returned (.tuple #[.agg #[.string ⟨#[97]⟩, .int .i64 0, .slice A' 1 cap'], .int .i64 0]) ∧ Below w.heap.size w w' := by
  refine Calls.mono (extend_ok ⟨#[97]⟩ 0 none 0 0 [] (some ⟨b, 0, none⟩) 1 1 [summer] 2024 1 2024 w ⟨by omega, by simp [maxLen], rfl, fun i hi => absurd hi (by omega), fun h => absurd h (by omega)⟩ (summer_sl h) (by decide) (by omega) (by omega) rfl) ?_
  rintro e w1 (⟨r, hr0, rfl, hno, hb⟩ | ⟨news, A', n', cap', rfl, _, _, hm, _, hc, hb⟩)
  · obtain ⟨news, hm, hn⟩ := hno summer_ok a_ok
    exact absurd (made_ok news hm) hn
  · have hl := hc.len
    rw [List.nil_append, hm.len] at hl
    obtain rfl : n' = 1 := by simpa using hl.symm
    exact ⟨A', cap', rfl, hb⟩

theorem off1_ok (s : ByteArray) (f : Int) (A : Option Addr) (n' cap n : Nat) (cs news : List Chg) (i : Nat) (c : Chg) (w : World) (h : ChSl w A n' cap (cs ++ news)) (hs : s.size ≤ 9223372036854775807) (hz : ZoneOk s f (cs ++ news)) (hn : cs.length = n) (hi : i < news.length) (hc : c = ch news i) :
    Calls Tryd.prog 7 #[.agg #[.string s, .int .i64 f, .slice A n' cap], .int .i64 c.at'] w fun e w' => e = .returned (.tuple #[.int .i64 c.off, .string c.lab, .int .i64 0]) ∧ Below w.heap.size w w' := by
  have e : ch (cs ++ news) (n + i) = c := by rw [← hn, ch_app_r, hc]
  have hl := h.len
  rw [List.length_append] at hl
  have := zOffset_ok s f A n' cap (cs ++ news) (n + i) w h hs hz (by omega) c.at' (by rw [e])
  rwa [e] at this

set_option maxRecDepth 100000 in
set_option maxHeartbeats 16000000 in
theorem topForecast_walk (s : ByteArray) (f : Int) (A : Option Addr) (n cap : Nat) (cs : List Chg) (B : Option Addr) (m mc : Nat) (l : List Rul) (y0 y1 : Int) (w : World) (ht : Tab w) (hz : s.size ≤ 9223372036854775807 ∧ ChSl w A n cap cs) (hr : RlSl w B m mc l) (h2 : (Lit.int .i64 y0).wf = true) (h3 : (Lit.int .i64 y1).wf = true) :
    Calls Tryd.prog 3 #[.agg #[.string s, .int .i64 f, .slice A n cap], .slice B m mc, .int .i64 y0, .int .i64 y1] w fun e w' => e = .returned (.bool true) ∧ Below w.heap.size w w' := by
  obtain ⟨hs, h⟩ := hz
  have HC0 := Lib.hid (fun W => aCut_ok y0 1 5000 W (i64_of_wf h2) (by omega) (by omega))
  have HC1 := Lib.hid (fun W => aCut_ok y1 1 5 W (i64_of_wf h3) (by omega) (by omega))
  have H := Lib.hid h; have HR := Lib.hid hr; have HT := Lib.hid ht; have HS := Lib.hid hs
  have hz0 := (ZBox.new w (.string s) (.int .i64 f) (.slice A n cap)).alloc (.cells #[.int .i64 3, .int .i64 5, .int .i64 6, .int .i64 0, .int .i64 3600000, .string ⟨#[83]⟩] 27)
  have hr0 := RbBox.new (w.alloc (.cells #[.string s, .int .i64 f, .slice A n cap] 24)) summer
  have hb0 := ((Below.refl w.heap.size w).alloc (Nat.le_refl _) (.cells #[.string s, .int .i64 f, .slice A n cap] 24)).alloc (by simp) (.cells #[.int .i64 3, .int .i64 5, .int .i64 6, .int .i64 0, .int .i64 3600000, .string ⟨#[83]⟩] 27)
  rw [World.size_alloc] at hr0
  obtain ⟨k, hk⟩ : ∃ k, k = w.heap.size := ⟨_, rfl⟩
  have KS := Lib.hid hk
  clear h hr ht hs h2 h3
  go_enter Tryd.func3, Tryd.ntmps3
  go_upto_region 2 with fail
  obtain ⟨V, hV⟩ : ∃ V, V = (w.alloc (.cells #[.string s, .int .i64 f, .slice A n cap] 24)).alloc (.cells #[.int .i64 3, .int .i64 5, .int .i64 6, .int .i64 0, .int .i64 3600000, .string ⟨#[83]⟩] 27) := ⟨_, rfl⟩
  have hr1 : RbBox V (k + 1) summer := by rw [hV, hk]; exact hr0
  rw [← hV] at hz0 hb0 ⊢
  rw [← hk] at hz0 ⊢
  have Z0 := Lib.hid hz0; have Hb := Lib.hid hb0; have HR1 := Lib.hid hr1
  clear hV hk hz0 hb0 hr0 hr1
  go_wp2_with fail
  refine Calls.mono (example_ok (k + 1) _ HR1.out) ?_
  rintro e w1 ⟨A1, c1, rfl, hb⟩
  have Z1 := Lib.hid (Z0.out.below hb); have Hb1 := Lib.hid (Hb.out.trans (hb.mono Hb.out.size))
  clear hb Z0 Hb HR1
  have hx := ZBox.new w1 (.string ⟨#[97]⟩) (.int .i64 0) (.slice A1 1 c1)
  have bw := (Below.refl w1.heap.size w1).alloc (Nat.le_refl _) (.cells #[.string ⟨#[97]⟩, .int .i64 0, .slice A1 1 c1] 24)
  have Z2 := Lib.hid (Z1.out.below bw); have Hb2 := Lib.hid (Hb1.out.trans (bw.mono Hb1.out.size))
  have x2 := hx.c2; have xl := hx.lt
  clear hx bw Z1 Hb1
  go_wp2_with fail
  refine Calls.mono (HC0.out _) ?_
  rintro e w2 ⟨⟨y, hy1, hy2, rfl⟩, rfl⟩
  clear x2 xl
  go_wp2_with fail
  refine Calls.mono (HC1.out _) ?_
  rintro e w2 ⟨⟨yn, hn1, hn2, rfl⟩, rfl⟩
  obtain ⟨W, hW⟩ : ∃ W, W = w1.alloc (.cells #[.string ⟨#[97]⟩, .int .i64 0, .slice A1 1 c1] 24) := ⟨_, rfl⟩
  rw [← hW] at Z2 Hb2 ⊢
  have HY := Lib.hid (show 1 ≤ y ∧ y ≤ 5000 by omega); have HYN := Lib.hid (show 1 ≤ yn ∧ yn ≤ 5 by omega)
  have q1 : IntKind.i64.wrap ((y : Int) + (yn : Int)) = (y : Int) + (yn : Int) := IntWalk.i64_in _ (by omega)
  have q2 : IntKind.i64.wrap ((y : Int) + (yn : Int) - 1) = (y : Int) + (yn : Int) - 1 := IntWalk.i64_in _ (by omega)
  have q3 : wrap64 ((y : Int) + (yn : Int)) = (y : Int) + (yn : Int) := IntWalk.wrap64_in _ (by omega)
  have q4 : wrap64 ((y : Int) + (yn : Int) - 1) = (y : Int) + (yn : Int) - 1 := IntWalk.wrap64_in _ (by omega)
  have x0 := Z2.out.c0; have x1 := Z2.out.c1; have x2 := Z2.out.c2; have xl := Z2.out.lt
  clear hW hy1 hy2 hn1 hn2 HC0 HC1
  go_wp2_with fail
  refine Calls.mono (extend_ok s f A n cap cs B m mc l (y : Int) yn ((y : Int) + (yn : Int) - 1) _ (H.out.stay Hb2.out) (HR.out.stay Hb2.out) HS.out (by have := HY.out; omega) HYN.out (by have := HYN.out; omega)) ?_
  clear x0 x1 x2 xl q1 q2 q3 q4
  rintro e w3 (⟨r, hr0, rfl, _, hb⟩ | ⟨news, A', n', cap', rfl, hok, hz1, hm, hz2, hc, hb⟩)
  · have t1 : (r != 0) = true := by simp [hr0]
    have Hb3 := Lib.hid (Hb2.out.trans (hb.mono Hb2.out.size))
    have Hb4 := Lib.hid (Hb3.out.alloc Hb3.out.size (.cells #[.string ⟨#[]⟩, .int .i64 0, .slice none 0 0] 24))
    clear hb hr0
    rw [show zeroZ = .agg #[.string ⟨#[]⟩, .int .i64 0, .slice none 0 0] from rfl]
    go_wp2_with fail
    go_returns
    exact ⟨rfl, Hb4.out⟩
  · have hl1 := hok.1; have hl4 := hok.2.1
    have hln : news.length = yn * m := by rw [hm.len, HR.out.len]
    rw [HR.out.len] at hl1 hl4
    obtain ⟨N, hN⟩ : ∃ N, N = news.length := ⟨_, rfl⟩
    have hNb : 1 ≤ N ∧ N ≤ 20 := by
      rw [hN, hln]
      have h1 : yn * m ≤ 5 * 4 := Nat.mul_le_mul HYN.out.2 hl4
      have h2 : 1 * 1 ≤ yn * m := Nat.mul_le_mul HYN.out.1 hl1
      omega
    have hrg : ChRngs (cs ++ news) := by have := hc.rngs; exact this
    have pe : (yn : Int) * (m : Int) = (N : Int) := by rw [hN, hln, Int.natCast_mul]
    have pm : IntKind.i64.wrap ((yn : Int) * (m : Int)) = (N : Int) := by rw [pe]; exact IntWalk.i64_in _ (by omega)
    have pm' : wrap64 ((yn : Int) * (m : Int)) = (N : Int) := by rw [pe]; exact IntWalk.wrap64_in _ (by omega)
    have HDF := Lib.hid (fun W h1 h2 => diff_ok s f A n cap cs A' n' cap' news W h1 h2 HS.out hz1 hz2 (by rw [← hN]; exact hNb))
    have HOF := Lib.hid (fun i c W h1 (h2 : i < N) h3 => off1_ok s f A' n' cap' n cs news i c W h1 HS.out hz2 H.out.len (by rw [← hN]; exact h2) h3)
    have HAP := Lib.hid (fun A2 c2 W h1 h2 => apply_ok s f A n cap cs A2 N c2 news W h1 h2 hrg HS.out hz1 hz2 hNb.2)
    obtain ⟨P, hP⟩ : ∃ P, P = prT s f (cs ++ news) := ⟨_, rfl⟩
    have HPR := Lib.hid (fun A2 n2 c2 W h0 h1 => print_ok s f A2 n2 c2 (cs ++ news) W h0 h1 HS.out hz2)
    rw [← hP] at HPR
    have HN := Lib.hid hN; have HNB := Lib.hid hNb
    have Z3 := Lib.hid (Z2.out.below hb); have Hb3 := Lib.hid (Hb2.out.trans (hb.mono Hb2.out.size)); have HX3 := Lib.hid hc
    clear pe hb hok hz1 hz2 hm hc hl1 hl4 hln hN hNb hrg hP Z2 Hb2
    have bw := (Below.refl w3.heap.size w3).alloc (Nat.le_refl _) (.cells #[.string s, .int .i64 f, .slice A' n' cap'] 24)
    have X4 := Lib.hid (ZBox.new w3 (.string s) (.int .i64 f) (.slice A' n' cap'))
    have Z4 := Lib.hid (Z3.out.below bw); have Hb4 := Lib.hid (Hb3.out.trans (bw.mono Hb3.out.size)); have HX4 := Lib.hid (HX3.out.stay bw)
    clear bw
    go_upto_region 7 with fail
    obtain ⟨kx, hkx⟩ : ∃ b, b = w3.heap.size := ⟨_, rfl⟩
    obtain ⟨W4, hW4⟩ : ∃ W, W = w3.alloc (.cells #[.string s, .int .i64 f, .slice A' n' cap'] 24) := ⟨_, rfl⟩
    rw [← hW4] at X4 Z4 Hb4 HX4 ⊢
    rw [← hkx] at X4 ⊢
    clear hW4 hkx Z3 Hb3 HX3
    have x0 := X4.out.c0; have x1 := X4.out.c1; have x2 := X4.out.c2; have xl := X4.out.lt
    have z0 := Z4.out.c0; have z1 := Z4.out.c1; have z2 := Z4.out.c2; have zl := Z4.out.lt
    go_wp2_with fail
    refine Calls.mono (HDF.out _ (H.out.stay Hb4.out) HX4.out) ?_
    rintro e w5 ⟨A2, c2, rfl, hed, hb⟩
    rw [← HN.out] at hed ⊢
    have X5 := Lib.hid (X4.out.below hb); have Z5 := Lib.hid (Z4.out.below hb); have Hb5 := Lib.hid (Hb4.out.trans (hb.mono Hb4.out.size)); have HX5 := Lib.hid (HX4.out.stay hb); have HE5 := Lib.hid hed
    clear hb hed x0 x1 x2 xl z0 z1 z2 zl X4 Z4 Hb4 HX4 HDF
    go_wp2_with fail
    clear pm pm'
    go_loopw [77] (fun i' wv => ∃ i : Nat, i ≤ N ∧ i' = .int .i64 i ∧ ZBox wv kx (.string s) (.int .i64 f) (.slice A' n' cap') ∧ ZBox wv k (.string s) (.int .i64 f) (.slice A n cap) ∧ Below w5.heap.size w5 wv) (fun i' _ => N - (intOf i').toNat)
    case atStart => exact ⟨0, by omega, rfl, X5.out, Z5.out, Below.refl _ _⟩
    case round =>
      clear X5 Z5
      obtain ⟨i, hi, rfl, hxx, hzz, hb⟩ := hrel
      have X := Lib.hid hxx; have Z := Lib.hid hzz; have B5 := Lib.hid hb
      clear hxx hzz hb
      have Hb := Lib.hid (Hb5.out.trans (B5.out.mono Hb5.out.size))
      by_cases hin : i < N
      · have i0 : (0 : Int) ≤ (i : Int) := by omega
        have i1 : (i : Int) < (N : Int) := by omega
        have i2 : (i : Int) < (c2 : Int) := by have := HE5.out.le; omega
        have iw : IntKind.i64.wrap ((i : Int) + 1) = (i : Int) + 1 := IntWalk.i64_in _ (by have := HNB.out; omega)
        obtain ⟨q, o, hA, hc⟩ := (HE5.out.stay B5.out).mem (by omega)
        obtain ⟨e0, e1, e2, e3⟩ := hc i hin
        obtain ⟨c, hcc⟩ : ∃ c, c = ch news i := ⟨_, rfl⟩
        rw [← hcc] at e1 e2 e3
        have HOI := Lib.hid (fun W h1 => HOF.out i c W h1 hin hcc)
        have bw := (Below.refl wr.heap.size wr).alloc (Nat.le_refl _) (.cells #[.int .i64 2, .int .i64 c.at', .int .i64 c.off, .string c.lab] 38)
        have E1 := Lib.hid (EbBox.new wr c)
        have X1 := Lib.hid (X.out.below bw); have Z1 := Lib.hid (Z.out.below bw); have B1 := Lib.hid (B5.out.trans (bw.mono B5.out.size))
        subst hA
        clear hc hcc bw X Z B5 Hb
        go_upto_region 15 with fail
        obtain ⟨kp, hkp⟩ : ∃ b, b = wr.heap.size := ⟨_, rfl⟩
        obtain ⟨U, hU⟩ : ∃ W, W = wr.alloc (.cells #[.int .i64 2, .int .i64 c.at', .int .i64 c.off, .string c.lab] 38) := ⟨_, rfl⟩
        rw [← hU] at E1 X1 Z1 B1 ⊢
        rw [← hkp] at E1 ⊢
        clear hU hkp e0 e1 e2 e3
        have x0 := X1.out.c0; have x1 := X1.out.c1; have x2 := X1.out.c2; have xl := X1.out.lt
        have e0 := E1.out.c0; have e1 := E1.out.c1; have el := E1.out.lt
        go_wp2_with fail
        refine Calls.mono (HOI.out _ (HX5.out.stay B1.out)) ?_
        rintro e w6 ⟨rfl, hb⟩
        have X6 := Lib.hid (X1.out.below hb); have Z6 := Lib.hid (Z1.out.below hb); have B6 := Lib.hid (B1.out.trans (hb.mono B1.out.size)); have E6 := Lib.hid (E1.out.below hb)
        clear hb x0 x1 x2 xl e0 e1 el X1 Z1 B1 E1 HOI
        have e2 := E6.out.c2; have e3 := E6.out.c3; have el := E6.out.lt
        go_wp2_with fail
        go_roundw
        case rel => exact ⟨i + 1, by omega, by rw [Int.natCast_add]; rfl, X6.out, Z6.out, B6.out⟩
        case measure => simp [intOf]; omega
      · obtain rfl : N = i := by omega
        have i1 : ¬ (N : Int) < (N : Int) := by omega
        have HX := Lib.hid (HX5.out.stay B5.out); have HE := Lib.hid (HE5.out.stay B5.out)
        have z0 := Z.out.c0; have z1 := Z.out.c1; have z2 := Z.out.c2; have zl := Z.out.lt
        clear HX5 HE5 Hb5 B5
        go_wp2_with fail
        refine Calls.mono (HAP.out _ _ _ (H.out.stay Hb.out) HE.out) ?_
        rintro e w6 ⟨A3, c3, rfl, hc, hb⟩
        have X6 := Lib.hid (X.out.below hb); have Hb6 := Lib.hid (Hb.out.trans (hb.mono Hb.out.size)); have HX6 := Lib.hid (HX.out.stay hb); have HY6 := Lib.hid hc
        clear hb hc z0 z1 z2 zl X Z Hb HX HE HAP
        have bw := (Below.refl w6.heap.size w6).alloc (Nat.le_refl _) (.cells #[.string s, .int .i64 f, .slice A3 (n + N) c3] 24)
        have Y7 := Lib.hid (ZBox.new w6 (.string s) (.int .i64 f) (.slice A3 (n + N) c3))
        have X7 := Lib.hid (X6.out.below bw); have Hb7 := Lib.hid (Hb6.out.trans (bw.mono Hb6.out.size)); have HX7 := Lib.hid (HX6.out.stay bw); have HY7 := Lib.hid (HY6.out.stay bw)
        clear bw
        go_upto_region 22 with fail
        obtain ⟨ky, hky⟩ : ∃ b, b = w6.heap.size := ⟨_, rfl⟩
        obtain ⟨U, hU⟩ : ∃ W, W = w6.alloc (.cells #[.string s, .int .i64 f, .slice A3 (n + N) c3] 24) := ⟨_, rfl⟩
        rw [← hU] at Y7 X7 Hb7 HX7 HY7 ⊢
        rw [← hky] at Y7 ⊢
        clear hU hky X6 Hb6 HX6 HY6
        have x0 := X7.out.c0; have x1 := X7.out.c1; have x2 := X7.out.c2; have xl := X7.out.lt
        go_wp2_with fail
        refine Calls.mono (HPR.out _ _ _ _ (HT.out.below Hb7.out) HX7.out) ?_
        rintro e w8 ⟨rfl, hb⟩
        have Y8 := Lib.hid (Y7.out.below hb); have Hb8 := Lib.hid (Hb7.out.trans (hb.mono Hb7.out.size)); have HY8 := Lib.hid (HY7.out.stay hb)
        clear hb x0 x1 x2 xl X7 Y7 Hb7 HX7 HY7
        have y0 := Y8.out.c0; have y1 := Y8.out.c1; have y2 := Y8.out.c2; have yl := Y8.out.lt
        go_wp2_with fail
        refine Calls.mono (HPR.out _ _ _ _ (HT.out.below Hb8.out) HY8.out) ?_
        rintro e w9 ⟨rfl, hb⟩
        have Hb9 := Lib.hid (Hb8.out.trans (hb.mono Hb8.out.size))
        clear hb y0 y1 y2 yl
        go_wp2_with fail
        go_returns
        exact ⟨by simp, Hb9.out⟩
end Go.Proofs.YtdifeoahaegjbaaDoor
