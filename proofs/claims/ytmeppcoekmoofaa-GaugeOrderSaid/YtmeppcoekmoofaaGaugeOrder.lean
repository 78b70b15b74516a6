/- GaugeOrder, the walk: the order of the readings changes nothing.  -/
import Derived.Test.YtmeppcoekmoofaaGaugeWorks
import Derived.Test.YtmeppcoekmoofaaTurnLay
import Derived.Test.YtmeppcoekmoofaaGaugeLeast
namespace Go.Proofs.Ytmeppcoekmoofaa
open Go.RowKit
set_option linter.unusedSimpArgs false
set_option linter.unusedVariables false

set_option maxRecDepth 100000 in
set_option maxHeartbeats 16000000 in
theorem gaugeOrder_walk (A : Option Addr) (n cap : Nat) (ra : Nat → Option Addr) (rn rcp : Nat → Nat) (Z : Nat → List Int) (Ah : Option Addr) (nh caph : Nat) (zh : List Int) (kk : Int) (w : World) (h : SlSl w A n cap ra rn rcp Z) (hh : FlatSl w 1 Ah nh caph zh) (hk : (Lit.int .i64 kk).wf = true) :
    Calls Try.prog 8 #[.slice A n cap, .slice Ah nh caph, .int .i64 kk] w fun e w' => e = .returned (.bool true) ∧ Below w.heap.size w w' := by
  obtain ⟨iR, hR0, hR1, hR2, hR3⟩ := info_parts Try.infoGr
  obtain ⟨iI, hI0, hI1, hI2, hI3⟩ := info_parts Try.infoGi
  have HS := Lib.hid h; have HH := Lib.hid hh; have HK := Lib.hid hk
  have hhle := hh.le
  have hhm : nh ≤ 9223372036854775807 := by have h1 := hh.most; unfold maxLen at h1; omega
  have hhat := hh.at'
  clear h hh hk
  go_enter Try.func8, Try.ntmps8
  go_wp2_with fail
  refine Calls.mono (gaugeWorks_ok _) ?_
  rintro e w1 ⟨rfl, hb⟩
  have hb1 := hb
  clear hb
  go_wp2_with fail
  refine Calls.mono (readings_ok _ _ _ 3 _ _ _ _ _ (HS.out.below hb1) (by omega) (by omega)) ?_
  rintro e w2 ⟨v, rb, rc, rfl, hL, hb⟩
  obtain ⟨R, hR⟩ : ∃ R, R = rdR rn Z := ⟨_, rfl⟩
  have hRb : ∀ i c, -10 ≤ R i c ∧ R i c ≤ 10 := fun i c => by rw [hR]; exact rdR_bound rn Z i c
  rw [← hR] at hL
  have HRB := Lib.hid hRb
  obtain ⟨q, hq⟩ : ∃ q, q = min n 6 := ⟨_, rfl⟩
  rw [← hq] at hL
  have q6 : q ≤ 6 := by omega
  have hb2 := hb1.trans (hb.mono hb1.size)
  have hs2 := hb2.size
  clear hR hRb hb hb1 hq
  rcases Nat.eq_zero_or_pos q with hq0 | hq0
  · subst hq0
    obtain ⟨A3, cap3, hv⟩ : ∃ A3 cap3, v = .slice A3 0 cap3 := by
      rcases hL.own.2 with ⟨h1, h2⟩ | ⟨g, cap, cur, h1, -⟩
      · exact ⟨none, 0, h1⟩
      · exact ⟨_, _, h1⟩
    subst hv
    have mk : ∀ w : World, (Instr.makeSlice 22 (.int .i64 0) (.int .i64 0)).run Try.prog w = .ok (.slice (some ⟨w.heap.size, 0, none⟩) 0 0) (w.alloc (.cells (madeCells #[.int .i64 0] 0) 3)) := mk_ints 0 (by omega)
    clear hL
    go_wp2_with fail
    go_loopw [23] (fun i' wv => i' = .int .i64 0 ∧ wv = w2.alloc (.cells (madeCells #[.int .i64 0] 0) 3)) (fun _ _ => 0)
    case atStart => exact ⟨rfl, rfl⟩
    case round =>
    obtain ⟨rfl, rfl⟩ := hrel
    have hb3 := hb2.alloc hs2 (.cells (madeCells #[.int .i64 0] 0) 3)
    go_wp2_with fail
    refine Calls.mono (fit_nil _ _ _ _ _ _) ?_
    rintro e w3 ⟨rfl, hb⟩
    have hb4 := hb3.trans (hb.mono hb3.size)
    have hb5 := hb4.alloc hb4.size (.cells #[.slice none 0 0, .int .i64 0] 54)
    have N0 := FitBox.new w3 (.slice none 0 0) 0
    clear hb hb2 hb3 hb4
    go_wp2_with fail
    refine Calls.mono (fit_nil _ _ _ _ _ _) ?_
    rintro e w6 ⟨rfl, hb⟩
    have hb6 := hb5.trans (hb.mono hb5.size)
    have hb7 := hb6.alloc hb6.size (.cells #[.slice none 0 0, .int .i64 0] 54)
    have N1 := (N0.below hb).below ((Below.refl w6.heap.size w6).alloc (Nat.le_refl _) (.cells #[.slice none 0 0, .int .i64 0] 54))
    have M0 := FitBox.new w6 (.slice none 0 0) 0
    have a0 := N1.c0; have a1 := N1.c1; have a2 := N1.lt
    have m0 := M0.c0; have m1 := M0.c1; have m2 := M0.lt
    clear hb hb5 hb6 N0 N1 M0
    go_wp2_with fail
    go_loopw [98] (fun i' wv => i' = .int .i64 0 ∧ Below w.heap.size w wv) (fun _ _ => 0)
    case atStart => exact ⟨rfl, by first | exact hb7 | exact below_drewN hb7 _⟩
    case round =>
    obtain ⟨rfl, hb8⟩ := hrel
    go_wp2_with fail
    go_ret
    exact ⟨rfl, hb8⟩
  · obtain ⟨g, gc, hv, hg1, hg2⟩ := hL.own.form hq0
    subst hv
    have hgc := own_cap hL.own
    have HM := Lib.hid hL.mat
    have HOL := Lib.hid hL
    have mk : ∀ w : World, (Instr.makeSlice 22 (.int .i64 (q : Int)) (.int .i64 (q : Int))).run Try.prog w = .ok (.slice (some ⟨w.heap.size, 0, none⟩) q q) (w.alloc (.cells (madeCells #[.int .i64 0] q) 3)) := mk_ints q (by omega)
    obtain ⟨H, hH⟩ : ∃ H, H = ix (seg (htH nh zh) 0 q) := ⟨_, rfl⟩
    have hHk : ∀ k, k < q → H k = htH nh zh k := fun k hk => by rw [hH]; exact ix_seg _ q k hk
    have HHK := Lib.hid hHk; have HHH := Lib.hid hH
    have row0 := World.rowIs_made w2 (.int .i64 0) q 3
    have hb3 := hb2.alloc hs2 (.cells (madeCells #[.int .i64 0] q) 3)
    have B2 : Below w2.heap.size w2 (w2.alloc (.cells (madeCells #[.int .i64 0] q) 3)) := (Below.refl _ _).alloc (Nat.le_refl _) _
    have q60 : (q : Int) ≤ 6 := by omega
    clear hL hHk hH
    go_wp2_with fail
    obtain ⟨hb', hhb⟩ : ∃ b, b = w2.heap.size := ⟨_, rfl⟩
    rw [← hhb] at row0
    rw [← hhb]
    have HHB := Lib.hid hhb
    have hlow : w.heap.size ≤ hb' := by omega
    clear hhb hs2 hb2
    go_loopw [23] (fun i' wv => ∃ i : Nat, i ≤ q ∧ i' = .int .i64 i ∧ wv.rowIs hb' 3 q (fun j => .int .i64 (if j < i then H j else 0)) ∧ Below w.heap.size w wv ∧ Below w2.heap.size w2 wv) (fun i' _ => q - (intOf i').toNat)
    case atStart => exact ⟨0, by omega, rfl, row0.congr (fun j hj => by simp), hb3, B2⟩
    case round =>
      clear row0 hb3 B2
      obtain ⟨i, hi, rfl, hrow, hbw, hbv⟩ := hrel
      have l0 := hrow.lt
      by_cases hiq : i < q
      · have i0 : (0 : Int) ≤ (i : Int) := by omega
        have i1 : (i : Int) < (q : Int) := by omega
        obtain ⟨t, ht⟩ : ∃ x, x = H i := ⟨_, rfl⟩
        have htv := HHK.out i hiq
        rw [← ht] at htv
        have rw1 := hrow.cell hiq
        rw [if_neg (by omega)] at rw1
        have rf1 := hrow.frozen i
        have HTE := Lib.hid ht; have HTV := Lib.hid htv
        clear htv ht
        by_cases hin : i < nh
        · obtain ⟨ab, ao, rfl, hce⟩ := hhat (by omega)
          have hab := World.block_lt_of_cell? w _ (hce 0 (by omega))
          simp at hab
          have w0 := (hbw.cell (p := ⟨ab, ao + i, none⟩) hab).trans (hce i (by omega))
          have i2 : (i : Int) < (nh : Int) := by omega
          obtain ⟨y, hy⟩ : ∃ y, y = ix zh i := ⟨_, rfl⟩
          rw [← hy] at w0
          have hyt : y.tmod 1001 = t := by rw [HTV.out, hy]; unfold htH; rw [if_pos hin]
          have R1 := (hrow.set i (.int .i64 t)).congr (g := fun j => .int .i64 (if j < i + 1 then H j else 0)) (fun j hj => by
            by_cases e : j = i
            · subst e; rw [if_pos rfl, if_pos (by omega), HTE.out]
            · rw [if_neg e]
              by_cases e2 : j < i
              · rw [if_pos e2, if_pos (by omega)]
              · rw [if_neg e2, if_neg (by omega)])
          have hbw2 := hbw.setCell (show w.heap.size ≤ (⟨hb', i, none⟩ : Addr).block by show w.heap.size ≤ hb'; omega) (.int .i64 t)
          have hbv2 := hbv.setCell (show w2.heap.size ≤ (⟨hb', i, none⟩ : Addr).block by show w2.heap.size ≤ hb'; have := HHB.out; omega) (.int .i64 t)
          have hab2 : ab < wr.heap.size := by have := hbw.size; omega
          have HR1 := Lib.hid R1
          clear hce hrow hbw hbv hy R1
          go_wp2_with fail
          go_roundw
          case rel => exact ⟨i + 1, by omega, by go_num, HR1.out, hbw2, hbv2⟩
          case measure => simp [intOf]; omega
        · have i2 : ¬ (i : Int) < (nh : Int) := by omega
          have ht0 : t = 0 := by rw [HTV.out]; unfold htH; rw [if_neg hin]
          have R1 := hrow.congr (g := fun j => .int .i64 (if j < i + 1 then H j else 0)) (fun j hj => by
            by_cases e : j = i
            · subst e; rw [if_neg (by omega), if_pos (by omega), ← HTE.out, ht0]
            · by_cases e2 : j < i
              · rw [if_pos e2, if_pos (by omega)]
              · rw [if_neg e2, if_neg (by omega)])
          have HR1 := Lib.hid R1
          clear hrow R1 rw1 ht0
          go_wp2_with fail
          go_roundw
          case rel => exact ⟨i + 1, by omega, by go_num, HR1.out, hbw, hbv⟩
          case measure => simp [intOf]; omega
      · obtain rfl : i = q := by omega
        have hfl : FlatSl wr 1 (some ⟨hb', 0, none⟩) i i (seg (htH nh zh) 0 i) := row_flat (f := htH nh zh) (hrow.congr (fun j hj => by rw [if_pos hj, HHK.out j hj])) (by unfold maxLen; omega)
        have hG : GRead R (ix (seg (htH nh zh) 0 i)) i 3 := ⟨by omega, by omega, by omega, by omega, fun k c _ _ => HRB.out k c, fun k hk => by rw [ix_seg _ i k hk]; exact htH_bound nh zh k⟩
        have hfit := fit_ok g 0 gc rb rc R i 3 (some ⟨hb', 0, none⟩) i (seg (htH nh zh) 0 i) wr (HM.out.below hbv) hfl hG hgc
        rw [← HHH.out] at hfit
        have HFIT := Lib.hid hfit; have HFL := Lib.hid hfl; have HG := Lib.hid hG
        have hLr := HOL.out.below hbv
        have HLR := Lib.hid hLr
        have hbs := hbw.size
        clear hfl hG hfit hLr hrow
        go_wp2_with fail
        refine Calls.mono HFIT.out ?_
        intro e w4 hpost
        obtain ⟨hb, v9, rfl, hown9⟩ := fit_res hpost
        obtain ⟨E9, hE9⟩ : ∃ x, x = resE 3 (gm R i) := ⟨_, rfl⟩
        obtain ⟨D9, hD9⟩ : ∃ x, x = resD 3 (gm R i) (gr R H i) := ⟨_, rfl⟩
        obtain ⟨L9, hL9⟩ : ∃ x, x = resL 3 (gm R i) (gr R H i) := ⟨_, rfl⟩
        rw [← hL9] at hown9
        rw [← hE9, ← hD9]
        have HE9 := Lib.hid hE9; have HD9 := Lib.hid hD9; have HL9 := Lib.hid hL9
        have hb4 := hbw.trans (hb.mono hbs)
        obtain ⟨A9, cap9, rfl, hfl9⟩ := own_flat hown9
        have hn9 : L9.length ≤ 3 := by rw [hL9]; exact resL_len _ _ _
        have HOWN9 := Lib.hid hown9; have HFL9 := Lib.hid hfl9
        clear hpost hE9 hD9 hL9 hown9 hfl9
        have hs4 := hb4.size
        have hb5 := hb4.alloc hs4 (.cells #[.slice A9 L9.length cap9, .int .i64 D9] 54)
        have hL5 := (HLR.out.below hb).below ((Below.refl w4.heap.size w4).alloc (Nat.le_refl _) (.cells #[.slice A9 L9.length cap9, .int .i64 D9] 54))
        have hF5 := (HFL.out.keep (by omega) hb).keep (by omega) ((Below.refl w4.heap.size w4).alloc (Nat.le_refl _) (.cells #[.slice A9 L9.length cap9, .int .i64 D9] 54))
        have hN5 := HFL9.out.keep (by omega) ((Below.refl w4.heap.size w4).alloc (Nat.le_refl _) (.cells #[.slice A9 L9.length cap9, .int .i64 D9] 54))
        obtain ⟨t, ht⟩ : ∃ t : Nat, (t : Int) = kk % (i : Int) := ⟨(kk % (i : Int)).toNat, by have := Int.emod_nonneg kk (show (i : Int) ≠ 0 by omega); omega⟩
        have hti : t < i := by have := Int.emod_lt_of_pos kk (show 0 < (i : Int) by omega); omega
        have HT := Lib.hid ht
        clear ht hb hs4 hbs hb4
        go_wp2_with fail
        refine Calls.mono (at_any _ _ _ (by omega) (by omega)) ?_
        rintro e _ ⟨rfl, rfl⟩
        rw [← HT.out]
        go_wp2_with fail
        obtain ⟨W5, hW5⟩ : ∃ W, W = w4.alloc (.cells #[.slice A9 L9.length cap9, .int .i64 D9] 54) := ⟨_, rfl⟩
        have FB0 := FitBox.new w4 (.slice A9 L9.length cap9) D9
        rw [← hW5] at hL5 hF5 hN5 hb5 FB0
        rw [← hW5]
        obtain ⟨bx, hbx⟩ : ∃ b, b = w4.heap.size := ⟨_, rfl⟩
        rw [← hbx] at FB0
        rw [← hbx]
        have hbxl : bx < W5.heap.size := FB0.lt
        clear hW5 hbx
        have hc5 : ∀ j, j < i → W5.cell? ⟨g, 0 + j, none⟩ = (hdr i 3 rb rc)[j]? := fun j hj => by rw [Nat.zero_add]; exact hL5.own.cellAt j (by omega)
        have n1 := lies_from hc5 (hdr_len i 3 rb rc) t
        have n2 := lies_to hc5 (hdr_len i 3 rb rc) t
        simp only [Nat.zero_add] at n1 n2
        have hgl : g < W5.heap.size := (hL5.own.lt g rfl).2
        have hneb : some g ≠ (Value.slice (some ⟨W5.heap.size, 0, none⟩) 0 0).ownBlock := by
          intro e
          have : g = W5.heap.size := by simpa [Value.ownBlock] using e
          omega
        have k1 : (0 : Int) ≤ (t : Int) := by omega
        have k2 : (t : Int) ≤ (i : Int) := by omega
        have k3 : (t : Int) ≤ (gc : Int) := by omega
        have k4 : (i : Int) ≤ (gc : Int) := by omega
        have k5 : ¬ gc = t := by omega
        have H5 := Lib.hid hL5; have HF5 := Lib.hid hF5; have HN5 := Lib.hid hN5; have HB5 := Lib.hid hb5; have HN1 := Lib.hid n1; have HN2 := Lib.hid n2; have HFB := Lib.hid FB0
        clear hL5 hF5 hN5 hb5 n1 n2 hc5 FB0
        go_region_held3 (fun w' => True) (trivial) ((first
          | (refine step_append_any (by rfl) (.tmp 52) (.tmp 55) _ (by rfl) W5.heap.size 22 iR _ 1 24 Try.underlying50 hR0 hR1 hR2 hR3 rfl (by omega) (.slice (some ⟨W5.heap.size, 0, none⟩) 0 0) 0 [] (by rfl) (World.ownsRow_made W5 #[] 0 (Nat.le_refl _) (by unfold maxLen; omega) rfl).drew ⟨g, t, none⟩ (i - t) (gc - t) ((hdr i 3 rb rc).drop t) (by rfl) (by rw [List.length_drop, hdr_len]; omega) (fun j u hu => by have q1 := (((Below.refl W5.heap.size W5).alloc (Nat.le_refl _) (.cells #[] 22)).drew.cell (p := ⟨g, t + j, none⟩) hgl).trans (HN1.out j u hu); rw [at_addr]; exact q1) (fun u hu => hdr_one i 3 rb rc u (mem_drop' hu)) (by unfold maxLen; omega) (by omega) (by simp) ?_; intro v1 w3 hown1 hgrow1 hat1)
          | (refine step_append_any (by rfl) (.tmp 56) (.tmp 59) _ (by rfl) W5.heap.size 22 iR _ 1 24 Try.underlying50 hR0 hR1 hR2 hR3 rfl (by omega) v1 (0 + (i - t)) _ (by rfl) hown1 ⟨g, 0, none⟩ t gc ((hdr i 3 rb rc).take t) (by rfl) (by rw [List.length_take, hdr_len]; omega) (fun j u hu => by have q1 := (hgrow1.cell_far ⟨g, j, none⟩ (by simp; omega) hneb).trans ((((Below.refl W5.heap.size W5).alloc (Nat.le_refl _) (.cells #[] 22)).drew.cell (p := ⟨g, j, none⟩) hgl).trans (HN2.out j u hu)); rw [at_addr, Nat.zero_add]; exact q1) (fun u hu => hdr_one i 3 rb rc u (mem_take' hu)) (by unfold maxLen; omega) (by omega) (by have := hgrow1.size; simp at this; omega) ?_; intro v2 w6 hown2 hgrow2 hat2)))
        all_goals
          have e1 : 0 + (i - t) + t = i := by omega
          rw [e1, List.nil_append] at hown2
          have hv1 : Below W5.heap.size W5 w6 := (((Below.refl W5.heap.size W5).alloc (Nat.le_refl _) (.cells #[] 22)).drew.grown hgrow1 (by simp) (fun q hq => by simp [Value.ownBlock] at hq; omega)).grown hgrow2 (by have := hgrow1.size; simp at this; omega) (fun q hq => (hown1.lt q hq).1)
          obtain ⟨g2, gc2, hv2, hg2a, hg2b⟩ := hown2.form hq0
          subst hv2
          have hgc2 := own_cap hown2
          have hM6 : GMat w6 g2 0 i 3 (fun k => rb (turnI i t k)) (fun k => rc (turnI i t k)) (fun k => R (turnI i t k)) := H5.out.mat.turned t (by omega) hv1.size (fun x hx j hj => hv1.cell (p := ⟨rb x, j, none⟩) (H5.out.ltR x hx)) hown2 hg2b
          have HM6 := Lib.hid hM6
          have hF6 := HF5.out.keep (by omega) hv1
          have hb6 := HB5.out.trans (hv1.mono HB5.out.size)
          have HN6 := Lib.hid (HN5.out.keep (by omega) hv1)
          have HFB6 := Lib.hid (HFB.out.below hv1)
          have HF6 := Lib.hid hF6; have HB6 := Lib.hid hb6
          have hb6l : bx < w6.heap.size := by have := hv1.size; omega
          clear hown1 hown2 hgrow1 hgrow2 hat1 hat2 hv1 e1 hM6 hF6 hb6
          obtain ⟨b6, o6, hA6, hc6⟩ := HF6.out.at' (by omega)
          simp only [Option.some.injEq, Addr.mk.injEq, and_true] at hA6
          obtain ⟨rfl, rfl⟩ := hA6
          have hll := HF6.out.len
          have hc6' : ∀ j, j < i → w6.cell? ⟨hb', 0 + j, none⟩ = ((seg (htH nh zh) 0 i).map (Value.int .i64))[j]? := fun j hj => by
            rw [hc6 j (by omega), List.getElem?_map, List.getElem?_eq_getElem (by omega)]
            simp [ix, List.getD, List.getElem?_eq_getElem (show j < (seg (htH nh zh) 0 i).length by omega)]
          have n1 := lies_from hc6' (by rw [List.length_map, seg_len]) t
          have n2 := lies_to hc6' (by rw [List.length_map, seg_len]) t
          simp only [Nat.zero_add] at n1 n2
          have hgl6 : hb' < w6.heap.size := by have := World.block_lt_of_cell? w6 _ (hc6 0 (by omega)); simpa using this
          have hneb6 : some hb' ≠ (Value.slice (some ⟨w6.heap.size, 0, none⟩) 0 0).ownBlock := by
            intro e
            have : hb' = w6.heap.size := by simpa [Value.ownBlock] using e
            omega
          have k6 : ¬ i = t := by omega
          have HN1 := Lib.hid n1; have HN2 := Lib.hid n2
          clear n1 n2 hc6 hc6' hll
          go_wp2_with fail
          go_region_held3 (fun w' => True) (trivial) ((first
            | (refine step_append_any (by rfl) (.tmp 61) (.tmp 64) _ (by rfl) w6.heap.size 3 iI _ 1 8 Try.underlying22 hI0 hI1 hI2 hI3 rfl (by omega) (.slice (some ⟨w6.heap.size, 0, none⟩) 0 0) 0 [] (by rfl) (World.ownsRow_made w6 #[] 0 (Nat.le_refl _) (by unfold maxLen; omega) rfl).drew ⟨hb', t, none⟩ (i - t) (i - t) (((seg (htH nh zh) 0 i).map (Value.int .i64)).drop t) (by rfl) (by rw [List.length_drop, List.length_map, seg_len]; omega) (fun j u hu => by have q1 := (((Below.refl w6.heap.size w6).alloc (Nat.le_refl _) (.cells #[] 3)).drew.cell (p := ⟨hb', t + j, none⟩) hgl6).trans (HN1.out j u hu); rw [at_addr]; exact q1) (fun u hu => seg_one (htH nh zh) 0 i u (mem_drop' hu)) (by unfold maxLen; omega) (by omega) (by simp) ?_; intro v1 w3 hown1 hgrow1 hat1)
            | (refine step_append_any (by rfl) (.tmp 65) (.tmp 68) _ (by rfl) w6.heap.size 3 iI _ 1 8 Try.underlying22 hI0 hI1 hI2 hI3 rfl (by omega) v1 (0 + (i - t)) _ (by rfl) hown1 ⟨hb', 0, none⟩ t i (((seg (htH nh zh) 0 i).map (Value.int .i64)).take t) (by rfl) (by rw [List.length_take, List.length_map, seg_len]; omega) (fun j u hu => by have q1 := (hgrow1.cell_far ⟨hb', j, none⟩ (by simp; omega) hneb6).trans ((((Below.refl w6.heap.size w6).alloc (Nat.le_refl _) (.cells #[] 3)).drew.cell (p := ⟨hb', j, none⟩) hgl6).trans (HN2.out j u hu)); rw [at_addr, Nat.zero_add]; exact q1) (fun u hu => seg_one (htH nh zh) 0 i u (mem_take' hu)) (by unfold maxLen; omega) (by omega) (by have := hgrow1.size; simp at this; omega) ?_; intro v2 w8 hown2 hgrow2 hat2)))
          all_goals
            have e1 : 0 + (i - t) + t = i := by omega
            rw [e1, List.nil_append, ← List.map_drop, ← List.map_take, ← List.map_append] at hown2
            have hv1 : Below w6.heap.size w6 w8 := (((Below.refl w6.heap.size w6).alloc (Nat.le_refl _) (.cells #[] 3)).drew.grown hgrow1 (by simp) (fun q hq => by simp [Value.ownBlock] at hq; omega)).grown hgrow2 (by have := hgrow1.size; simp at this; omega) (fun q hq => (hown1.lt q hq).1)
            obtain ⟨A10, cap10, hv2, hF8⟩ := own_flat hown2
            subst hv2
            have hfit := fit_ok g2 0 gc2 (fun k => rb (turnI i t k)) (fun k => rc (turnI i t k)) (fun k => R (turnI i t k)) i 3 A10 cap10 _ w8 (HM6.out.below hv1) hF8 ⟨by omega, by omega, by omega, by omega, fun k c _ _ => HRB.out _ c, fun k hk => by rw [turned_ix _ _ _ _ (by omega) hk]; exact htH_bound nh zh _⟩ hgc2
            rw [gm_turn R i t (by omega), gr_turned R (htH nh zh) i t (by omega), ← HHH.out] at hfit
            have HFIT8 := Lib.hid hfit
            have hb8 := HB6.out.trans (hv1.mono HB6.out.size)
            have hN8 := HN6.out.keep (by omega) hv1
            have hFB8 := HFB6.out.below hv1
            clear hown1 hown2 hgrow1 hgrow2 hat1 hat2 hv1 e1 hfit hF8
            go_wp2_with fail
            refine Calls.mono HFIT8.out ?_
            intro e w9 hpost
            obtain ⟨hb, v10, rfl, hown10⟩ := fit_res hpost
            rw [← HL9.out] at hown10
            rw [← HE9.out, ← HD9.out]
            obtain ⟨A11, cap11, hv11, hfl11⟩ := own_flat hown10
            subst hv11
            have hb9 := hb8.trans (hb.mono hb8.size)
            have hN9 := hN8.keep (by omega) hb
            have hFB9 := hFB8.below hb
            have FB1 := FitBox.new w9 (.slice A11 L9.length cap11) D9
            have b9 := (Below.refl w9.heap.size w9).alloc (Nat.le_refl _) (.cells #[.slice A11 L9.length cap11, .int .i64 D9] 54)
            have hb10 := hb9.alloc hb9.size (.cells #[.slice A11 L9.length cap11, .int .i64 D9] 54)
            have hN10 := hN9.keep (by omega) b9
            have hFB10 := hFB9.below b9
            have hM10 := hfl11.keep (by omega) b9
            have c0 := hFB10.c0; have c1 := hFB10.c1; have c2 := hFB10.lt
            have d0 := FB1.c0; have d1 := FB1.c1; have d2 := FB1.lt
            have HB10 := Lib.hid hb10; have HN10 := Lib.hid hN10; have HM10 := Lib.hid hM10; have HFB10 := Lib.hid hFB10; have HF1 := Lib.hid FB1
            clear hpost hown10 hb hb8 hb9 hN8 hN9 hFB8 hFB9 b9 hfl11 hb10 hN10 hM10 hFB10 FB1
            go_wp2_with fail
            obtain ⟨W10, hW10⟩ : ∃ W, W = w9.alloc (.cells #[.slice A11 L9.length cap11, .int .i64 D9] 54) := ⟨_, rfl⟩
            obtain ⟨b2, hb2⟩ : ∃ b, b = w9.heap.size := ⟨_, rfl⟩
            have HB10' := HB10.out; have HN10' := HN10.out; have HM10' := HM10.out; have HFB10' := HFB10.out; have HF1' := HF1.out
            rw [← hW10] at HB10' HN10' HM10' HFB10' HF1'
            rw [← hb2] at HF1'
            rw [← hW10, ← hb2]
            have GB := Lib.hid HB10'; have GN := Lib.hid HN10'; have GM := Lib.hid HM10'; have GF := Lib.hid HFB10'; have GF1 := Lib.hid HF1'
            have L3 : L9.length ≤ 3 := hn9
            clear HB10' HN10' HM10' HFB10' HF1' HB10 HN10 HM10 HFB10 HF1 hW10 hb2 c0 c1 c2 d0 d1 d2
            go_loopw [98] (fun i' wv => ∃ k : Nat, k ≤ L9.length ∧ i' = .int .i64 k ∧ Below W10.heap.size W10 wv) (fun i' _ => L9.length - (intOf i').toNat)
            case atStart => exact ⟨0, by omega, rfl, by first | exact Below.refl _ _ | exact below_drewN (Below.refl _ _) _⟩
            case round =>
              obtain ⟨k, hk, rfl, hbv⟩ := hrel
              have f1 := GF.out.below hbv
              have f2 := GF1.out.below hbv
              have c0 := f1.c0; have c1 := f1.c1; have c2 := f1.lt
              have d0 := f2.c0; have d1 := f2.c1; have d2 := f2.lt
              have hbw := GB.out.trans (hbv.mono GB.out.size)
              clear f1 f2
              by_cases hkl : k < L9.length
              · have i0 : (0 : Int) ≤ (k : Int) := by omega
                have i1 : (k : Int) < (L9.length : Int) := by omega
                obtain ⟨p1, o1, rfl, x1⟩ := GN.out.at' (by omega)
                obtain ⟨p2, o2, rfl, x2⟩ := GM.out.at' (by omega)
                have y1 := World.block_lt_of_cell? W10 _ (x1 0 (by omega))
                have y2 := World.block_lt_of_cell? W10 _ (x2 0 (by omega))
                simp at y1 y2
                have z1 := (hbv.cell (p := ⟨p1, o1 + k, none⟩) y1).trans (x1 k (by omega))
                have z2 := (hbv.cell (p := ⟨p2, o2 + k, none⟩) y2).trans (x2 k (by omega))
                obtain ⟨y, hy⟩ : ∃ y, y = ix L9 k := ⟨_, rfl⟩
                rw [← hy] at z1 z2
                clear x1 x2 hy
                go_wp2_with fail
                go_quiet (fail)
                go_wp2_with fail
                go_roundw
                case rel => exact ⟨k + 1, by omega, by go_num, below_drewN hbv _⟩
                case measure => simp [intOf]; omega
              · obtain rfl : k = L9.length := by omega
                go_wp2_with fail
                go_ret
                exact ⟨rfl, hbw⟩

end Go.Proofs.Ytmeppcoekmoofaa
