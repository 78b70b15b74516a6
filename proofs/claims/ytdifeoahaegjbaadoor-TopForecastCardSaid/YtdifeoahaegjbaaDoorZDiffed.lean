/- zonetext.Diff of a zone and of what it was extended to. -/
import Derived.Test.YtdifeoahaegjbaaDoorZDiff
namespace Go.Proofs.YtdifeoahaegjbaaDoor
open Go.RowKit
set_option linter.unusedSimpArgs false
set_option linter.unusedVariables false

set_option maxRecDepth 100000 in
set_option maxHeartbeats 16000000 in
theorem diff_ok (s : ByteArray) (f : Int) (A : Option Addr) (n cap : Nat) (cs : List Chg) (A2 : Option Addr) (M cap2 : Nat) (news : List Chg) (w : World) (h : ChSl w A n cap cs) (h2 : ChSl w A2 M cap2 (cs ++ news)) (hs : s.size ≤ 9223372036854775807)
    (hz : ZoneOk s f cs) (hz2 : ZoneOk s f (cs ++ news)) (hnw : 1 ≤ news.length ∧ news.length ≤ 20) :
    Calls Tryd.prog 6 #[.agg #[.string s, .int .i64 f, .slice A n cap], .agg #[.string s, .int .i64 f, .slice A2 M cap2]] w fun e w' => ∃ A' cap', e = .returned (.tuple #[.slice A' news.length cap', .int .i64 0]) ∧ EdSl w' A' news.length cap' news ∧ Below w.heap.size w w' := by
  obtain ⟨iE, hE0, hE1, hE2, hE3⟩ := info_parts Tryd.infoEd
  have HM : M = n + news.length := by have := h2.len; rw [List.length_append, h.len] at this; exact this.symm
  have HN : n ≤ 200 := by have := hz.2.2.1; rw [h.len] at this; exact this
  have HM2 : M ≤ 200 := by have := hz2.2.2.1; rw [h2.len] at this; exact this
  have H := Lib.hid h; have H2 := Lib.hid h2; have HZ2 := Lib.hid hz2
  have HC1 := Lib.hid (fun W hW => zone1_ok s f A n cap cs W hW hs hz)
  have HC2 := Lib.hid (fun W hW => zone1_ok s f A2 M cap2 (cs ++ news) W hW hs hz2)
  have HMN := Lib.hid HM; have HNW := Lib.hid hnw; have HN2 := Lib.hid (And.intro HN HM2)
  have HK1 := Lib.hid (fun W i (hi : i < cs.length) hW => contains_ok A2 M cap2 (cs ++ news) (ch cs i) true W hW (by omega) (any_in_l hi))
  have HK2 := Lib.hid (fun W i (hi : i < cs.length) hW => contains_ok A n cap cs (ch cs i) true W hW (by omega) (any_in hi))
  have HK3 := Lib.hid (fun W i (h1 : cs.length ≤ i) (h3 : i < (cs ++ news).length) hW => contains_ok A n cap cs (ch (cs ++ news) i) false W hW (by omega) (any_out hz2 h1 h3))
  have hb0 := ((Below.refl w.heap.size w).alloc (Nat.le_refl _) (.cells #[.string s, .int .i64 f, .slice A n cap] 24)).alloc (by simp) (.cells #[.string s, .int .i64 f, .slice A2 M cap2] 24)
  have hz0 := (ZBox.new w (.string s) (.int .i64 f) (.slice A n cap)).alloc (.cells #[.string s, .int .i64 f, .slice A2 M cap2] 24)
  have hz1 := ZBox.new (w.alloc (.cells #[.string s, .int .i64 f, .slice A n cap] 24)) (.string s) (.int .i64 f) (.slice A2 M cap2)
  rw [World.size_alloc] at hz1
  obtain ⟨k, hk⟩ : ∃ k, k = w.heap.size := ⟨_, rfl⟩
  have KS := Lib.hid hk
  clear h h2 hz hz2 hs hnw HM HN HM2
  go_enter Tryd.func6, Tryd.ntmps6
  go_upto_region 1 with fail
  obtain ⟨V, hV⟩ : ∃ V, V = (w.alloc (.cells #[.string s, .int .i64 f, .slice A n cap] 24)).alloc (.cells #[.string s, .int .i64 f, .slice A2 M cap2] 24) := ⟨_, rfl⟩
  have hVs : k + 2 ≤ V.heap.size := by rw [hV, hk]; simp
  rw [← hV] at hb0 hz0 hz1 ⊢
  rw [← hk] at hz0 hz1 ⊢
  clear hV hk
  have Z0 := Lib.hid hz0; have Z1 := Lib.hid hz1; have Hb := Lib.hid hb0
  have x0 := hz0.c0; have x1 := hz0.c1; have x2 := hz0.c2; have xl := hz0.lt
  have y0 := hz1.c0; have y1 := hz1.c1; have y2 := hz1.c2; have yl := hz1.lt
  clear hz0 hz1 hb0
  have j0 : ∀ w, (Instr.index 51 (.agg #[.string s, .int .i64 f, .slice A n cap, .string s, .int .i64 f, .slice A2 M cap2]) (.int .i64 0)).run Tryd.prog w = .ok (.agg #[.string s, .int .i64 f, .slice A n cap]) w := fun _ => by kernel_rfl
  have j1 : ∀ w, (Instr.index 51 (.agg #[.string s, .int .i64 f, .slice A n cap, .string s, .int .i64 f, .slice A2 M cap2]) (.int .i64 1)).run Tryd.prog w = .ok (.agg #[.string s, .int .i64 f, .slice A2 M cap2]) w := fun _ => by kernel_rfl
  go_wp2_with fail
  clear x0 x1 x2 xl y0 y1 y2 yl
  go_loopw [17] (fun i' wv => ∃ i : Int, (i = 0 ∨ i = 1 ∨ i = 2) ∧ i' = .int .i64 i ∧ ZBox wv k (.string s) (.int .i64 f) (.slice A n cap) ∧ ZBox wv (k + 1) (.string s) (.int .i64 f) (.slice A2 M cap2) ∧ k + 2 ≤ wv.heap.size ∧ Below w.heap.size w wv) (fun i' _ => (2 - intOf i').toNat)
  case atStart => exact ⟨0, .inl rfl, rfl, Z0.out, Z1.out, hVs, Hb.out⟩
  case round =>
    clear Z0 Z1 Hb hVs
    obtain ⟨i, hi, rfl, hz0, hz1, hsz, hb⟩ := hrel
    have Z0 := Lib.hid hz0; have Z1 := Lib.hid hz1; have Hb := Lib.hid hb
    clear hz0 hz1 hb
    rcases hi with rfl | rfl | rfl
    · go_wp2_with fail
      have bw := (Below.refl wr.heap.size wr).alloc (Nat.le_refl _) (.cells #[.string s, .int .i64 f, .slice A n cap] 24)
      have Hb1 := Lib.hid (Hb.out.trans (bw.mono Hb.out.size))
      refine Calls.mono (HC1.out _ (H.out.stay Hb1.out)) ?_
      rintro e w1 ⟨rfl, hb⟩
      have bw2 := bw.trans (hb.mono bw.size)
      have Z01 := Lib.hid (Z0.out.below bw2); have Z11 := Lib.hid (Z1.out.below bw2); have Hb2 := Lib.hid (Hb1.out.trans (hb.mono Hb1.out.size))
      have hs1 : k + 2 ≤ w1.heap.size := Nat.le_trans hsz bw2.size
      clear bw bw2 hb
      go_wp2_with fail
      go_roundw
      case rel => exact ⟨1, by omega, rfl, Z01.out, Z11.out, hs1, Hb2.out⟩
      case measure => simp [intOf]
    · go_wp2_with fail
      have bw := (Below.refl wr.heap.size wr).alloc (Nat.le_refl _) (.cells #[.string s, .int .i64 f, .slice A2 M cap2] 24)
      have Hb1 := Lib.hid (Hb.out.trans (bw.mono Hb.out.size))
      refine Calls.mono (HC2.out _ (H2.out.stay Hb1.out)) ?_
      rintro e w1 ⟨rfl, hb⟩
      have bw2 := bw.trans (hb.mono bw.size)
      have Z01 := Lib.hid (Z0.out.below bw2); have Z11 := Lib.hid (Z1.out.below bw2); have Hb2 := Lib.hid (Hb1.out.trans (hb.mono Hb1.out.size))
      have hs1 : k + 2 ≤ w1.heap.size := Nat.le_trans hsz bw2.size
      clear bw bw2 hb
      go_wp2_with fail
      go_roundw
      case rel => exact ⟨2, by omega, rfl, Z01.out, Z11.out, hs1, Hb2.out⟩
      case measure => simp [intOf]
    · have x0 := Z0.out.c0; have x1 := Z0.out.c1; have x2 := Z0.out.c2; have xl := Z0.out.lt
      have y0 := Z1.out.c0; have y1 := Z1.out.c1; have y2 := Z1.out.c2; have yl := Z1.out.lt
      clear j0 j1
      go_wp2_with fail
      clear x0 x1 x2 xl y0 y1 y2 yl
      go_loopw [9, 41] (fun o' i' wv => ∃ i : Nat, i ≤ n ∧ i' = .int .i64 i ∧ o' = .slice none 0 0 ∧ ZBox wv k (.string s) (.int .i64 f) (.slice A n cap) ∧ ZBox wv (k + 1) (.string s) (.int .i64 f) (.slice A2 M cap2) ∧ k + 2 ≤ wv.heap.size ∧ Below w.heap.size w wv) (fun _ i' _ => n - (intOf i').toNat)
      case atStart => exact ⟨0, by omega, rfl, rfl, Z0.out, Z1.out, hsz, Hb.out⟩
      case round =>
        clear Z0 Z1 Hb hsz
        obtain ⟨i, hi, rfl, rfl, hz0, hz1, hsz, hb⟩ := hrel
        have Z0 := Lib.hid hz0; have Z1 := Lib.hid hz1; have Hb := Lib.hid hb
        clear hz0 hz1 hb
        by_cases hin : i < n
        · have i0 : (0 : Int) ≤ (i : Int) := by omega
          have i1 : (i : Int) < (n : Int) := by omega
          have i2 : (i : Int) < (cap : Int) := by have := H.out.le; omega
          obtain ⟨q, o, hA, hc⟩ := (H.out.stay Hb.out).mem (by omega)
          obtain ⟨c0, c1, c2⟩ := hc i hin
          obtain ⟨c, hcc⟩ : ∃ c, c = ch cs i := ⟨_, rfl⟩
          have HCN := Lib.hid (fun W => HK1.out W i (by rw [H.out.len]; exact hin))
          rw [← hcc] at c0 c1 c2 HCN
          have y2 := Z1.out.c2; have yl := Z1.out.lt
          have bw := (Below.refl wr.heap.size wr).alloc (Nat.le_refl _) (.cells #[.int .i64 c.at', .int .i64 c.off, .string c.lab] 36)
          have Hb1 := Lib.hid (Hb.out.trans (bw.mono Hb.out.size))
          have iw : IntKind.i64.wrap ((i : Int) + 1) = (i : Int) + 1 := IntWalk.i64_in _ (by have := HN2.out; omega)
          subst hA
          clear hc hcc
          go_wp2_with fail
          refine Calls.mono (HCN.out _ (H2.out.stay Hb1.out)) ?_
          rintro e w1 ⟨rfl, hb⟩
          have bw2 := bw.trans (hb.mono bw.size)
          have Z01 := Lib.hid (Z0.out.below bw2); have Z11 := Lib.hid (Z1.out.below bw2); have Hb2 := Lib.hid (Hb1.out.trans (hb.mono Hb1.out.size))
          have hs1 : k + 2 ≤ w1.heap.size := Nat.le_trans hsz bw2.size
          clear bw bw2 hb c0 c1 c2 y2 yl Z0 Z1 Hb Hb1 hsz
          go_wp2_with fail
          go_roundw
          case rel => exact ⟨i + 1, by omega, by rw [Int.natCast_add]; rfl, rfl, Z01.out, Z11.out, hs1, Hb2.out⟩
          case measure => simp [intOf]; omega
        · obtain rfl : n = i := by omega
          have y2 := Z1.out.c2; have yl := Z1.out.lt
          have i1 : ¬ (n : Int) < (n : Int) := by omega
          clear HK1
          go_wp2_with fail
          clear y2 yl i1
          go_loopw [9, 59] (fun o' i' wv => ∃ i j : Nat, i ≤ M ∧ j = i - n ∧ i' = .int .i64 i ∧ wv.ownsRow (k + 2) 38 4 o' j (edCs (news.take j)) ∧ ZBox wv k (.string s) (.int .i64 f) (.slice A n cap) ∧ ZBox wv (k + 1) (.string s) (.int .i64 f) (.slice A2 M cap2) ∧ k + 2 ≤ wv.heap.size ∧ Below w.heap.size w wv) (fun _ i' _ => M - (intOf i').toNat)
          case atStart => exact ⟨0, 0, by omega, by omega, rfl, World.ownsRow_nil _ _ _ _, Z0.out, Z1.out, hsz, Hb.out⟩
          case round =>
            clear Z0 Z1 Hb hsz
            obtain ⟨i, j, hi, hj, rfl, hown, hz0, hz1, hsz, hb⟩ := hrel
            have Z0 := Lib.hid hz0; have Z1 := Lib.hid hz1; have Hb := Lib.hid hb; have HO := Lib.hid hown; have HJ := Lib.hid hj
            clear hz0 hz1 hb hown hj
            by_cases hin : i < M
            · have i0 : (0 : Int) ≤ (i : Int) := by omega
              have i1 : (i : Int) < (M : Int) := by omega
              have i2 : (i : Int) < (cap2 : Int) := by have := H2.out.le; omega
              obtain ⟨q, o, hA, hc⟩ := (H2.out.stay Hb.out).mem (by omega)
              obtain ⟨c0, c1, c2⟩ := hc i hin
              obtain ⟨c, hcc⟩ : ∃ c, c = ch (cs ++ news) i := ⟨_, rfl⟩
              have HIN : Hid (if i < n then c = ch cs i else c = ch news j ∧ j < news.length ∧ j ≤ 20) := Lib.hid (by
                split
                · rename_i h0; rw [hcc, ch_app_l (by rw [H.out.len]; exact h0)]
                · rename_i h0
                  have := HJ.out; have := HMN.out; have := HNW.out
                  exact ⟨by rw [hcc, news_at (cs := cs) (news := news) (j := j), H.out.len, show n + j = i by omega], by omega, by omega⟩)
              have HCN := Lib.hid (show ∀ W, ChSl W A n cap cs → Calls Tryd.prog 16 #[.slice A n cap, .agg #[.int .i64 c.at', .int .i64 c.off, .string c.lab]] W fun e w' => e = .returned (.bool (decide (i < n))) ∧ Below W.heap.size W w' from fun W hW => by
                by_cases h0 : i < n
                · rw [decide_eq_true h0, hcc, ch_app_l (by rw [H.out.len]; exact h0)]
                  exact HK2.out W i (by rw [H.out.len]; exact h0) hW
                · rw [decide_eq_false h0, hcc]
                  exact HK3.out W i (by rw [H.out.len]; omega) (by rw [H2.out.len]; exact hin) hW)
              rw [← hcc] at c0 c1 c2
              have y2 := Z0.out.c2; have yl := Z0.out.lt
              have bw := (Below.refl wr.heap.size wr).alloc (Nat.le_refl _) (.cells #[.int .i64 c.at', .int .i64 c.off, .string c.lab] 36)
              have HP0 := Lib.hid (CgBox.new wr (.int .i64 c.at') (.int .i64 c.off) (.string c.lab))
              have Hb1 := Lib.hid (Hb.out.trans (bw.mono Hb.out.size))
              have iw : IntKind.i64.wrap ((i : Int) + 1) = (i : Int) + 1 := IntWalk.i64_in _ (by have := HN2.out; omega)
              subst hA
              clear hc hcc
              go_wp2_with fail
              refine Calls.mono (HCN.out _ (H.out.stay Hb1.out)) ?_
              rintro e w1 ⟨rfl, hb⟩
              have bw2 := bw.trans (hb.mono bw.size)
              have Z01 := Lib.hid (Z0.out.below bw2); have Z11 := Lib.hid (Z1.out.below bw2); have Hb2 := Lib.hid (Hb1.out.trans (hb.mono Hb1.out.size)); have HO1 := Lib.hid (own_below HO.out bw2)
              have HP1 := Lib.hid (HP0.out.below hb)
              have hs1 : k + 2 ≤ w1.heap.size := Nat.le_trans hsz bw2.size
              obtain ⟨kp, hkp⟩ : ∃ b, b = wr.heap.size := ⟨_, rfl⟩
              rw [← hkp] at HP1 ⊢
              clear bw bw2 hb c0 c1 c2 y2 yl Z0 Z1 Hb Hb1 hsz HP0 HO HCN hkp
              by_cases hn : i < n
              · have t1 : decide (i < n) = true := decide_eq_true hn
                rw [t1]
                clear t1
                go_wp2_with fail
                go_roundw
                case rel => exact ⟨i + 1, j, by omega, by have := HJ.out; omega, by rw [Int.natCast_add]; rfl, HO1.out, Z01.out, Z11.out, hs1, Hb2.out⟩
                case measure => simp [intOf]; omega
              · have t1 : decide (i < n) = false := decide_eq_false hn
                rw [t1]
                have HD := Lib.hid (show c = ch news j ∧ j < news.length ∧ j ≤ 20 by have := HIN.out; rwa [if_neg hn] at this)
                have HNN := Lib.hid hn
                have x0 := HP1.out.c0; have x1 := HP1.out.c1; have x2 := HP1.out.c2; have xl := HP1.out.lt
                have bw := (Below.refl w1.heap.size w1).alloc (Nat.le_refl _) (.cells #[.int .i64 2, .int .i64 c.at', .int .i64 c.off, .string c.lab] 38)
                have HE := Lib.hid (EbBox.new w1 c)
                have HO2 := Lib.hid (own_below HO1.out bw)
                have Z02 := Lib.hid (Z01.out.below bw); have Z12 := Lib.hid (Z11.out.below bw); have Hb3 := Lib.hid (Hb2.out.trans (bw.mono Hb2.out.size))
                have hs2 := Nat.le_trans hs1 bw.size
                have HEN := Lib.hid (show ∀ u v, (edC c)[u]? = some v → (w1.alloc (.cells #[.int .i64 2, .int .i64 c.at', .int .i64 c.off, .string c.lab] 38)).cell? ((⟨w1.heap.size, 0, none⟩ : Addr).add u) = some v from by
                  intro u v hv
                  rw [add_at0, Nat.zero_add]
                  match u, hv with
                  | 0, hv => simp [edC] at hv; subst hv; exact HE.out.c0
                  | 1, hv => simp [edC] at hv; subst hv; exact HE.out.c1
                  | 2, hv => simp [edC] at hv; subst hv; exact HE.out.c2
                  | 3, hv => simp [edC] at hv; subst hv; exact HE.out.c3)
                clear t1 hn bw HE
                go_wp2_with (at_builtin; refine wpList_append_own _ rfl _ _ 32 rfl (k + 2) 38 iE _ 4 40 Tryd.underlying32 hE0 hE1 hE2 hE3 rfl (by omega) _ j _ rfl HO2.out ⟨_, 0, none⟩ 1 1 (edC c) rfl (by rfl) HEN.out (by simp [edC, Value.oneCell']) (by have := HD.out; unfold maxLen; omega) (by have := HD.out; omega) hs2 ?_)
                intro v' w2 hown hgrow hnil
                have hlo : ∀ q, u9.ownBlock = some q → k + 2 ≤ q := fun q hq => (HO2.out.lt q hq).1
                have Z03 := Lib.hid (Z02.out.grown hgrow (fun e => by have := hlo _ e.symm; omega))
                have Z13 := Lib.hid (Z12.out.grown hgrow (fun e => by have := hlo _ e.symm; omega))
                have Hb4 := Lib.hid (below_growZ Hb3.out (Nat.le_refl _) hgrow (fun q hq => by have := hlo q hq; have := KS.out; omega))
                have hs3 := Nat.le_trans hs2 hgrow.size
                have hown' : w2.ownsRow (k + 2) 38 4 v' (j + 1) (edCs (news.take (j + 1))) := by rw [take_edC HD.out.2.1, ← HD.out.1]; exact hown
                have HO3 := Lib.hid hown'
                clear hown hown' hgrow hnil hlo x0 x1 x2 xl Z02 Z12 Hb3 HO2 hs2 Z01 Z11 Hb2 HO1 HEN
                go_wp2_with fail
                go_roundw
                case rel => exact ⟨i + 1, j + 1, by omega, by have := HJ.out; have := HNN.out; omega, by rw [Int.natCast_add]; rfl, HO3.out, Z03.out, Z13.out, hs3, Hb4.out⟩
                case measure => simp [intOf]; omega
            · obtain rfl : M = i := by omega
              have hjl : j = news.length := by have := HJ.out; have := HMN.out; omega
              have hown := HO.out
              rw [hjl, List.take_length] at hown
              obtain ⟨A', cap', rfl, hed⟩ := own_ed hown
              have HED := Lib.hid hed
              have HS := Lib.hid (sortE_ok A' news.length cap' news wr hed (news_inc HZ2.out) (news_bd HZ2.out) HNW.out.2)
              have i1 : ¬ (M : Int) < (M : Int) := by omega
              clear hown hed HO hjl
              go_wp2_with fail
              refine Calls.mono HS.out ?_
              rintro e w1 ⟨rfl, hb⟩
              have HE1 := Lib.hid (HED.out.stay hb); have Hb1 := Lib.hid (Hb.out.trans (hb.mono Hb.out.size))
              clear hb HS HED
              go_wp2_with fail
              go_returns
              exact ⟨A', cap', rfl, HE1.out, Hb1.out⟩
end Go.Proofs.YtdifeoahaegjbaaDoor
