/- GaugeExact, the walk: heights made of two factors give these factors back. -/
import Derived.Test.YtmeppcoekmoofaaGaugeWorks
import Derived.Test.YtmeppcoekmoofaaExactLaw
import Derived.Test.YtmeppcoekmoofaaGaugeLeast
namespace Go.Proofs.Ytmeppcoekmoofaa
open Go.RowKit
set_option linter.unusedSimpArgs false
set_option linter.unusedVariables false

set_option maxRecDepth 100000 in
set_option maxHeartbeats 16000000 in
theorem gaugeExact_walk (A : Option Addr) (n cap : Nat) (ra : Nat → Option Addr) (rn rcp : Nat → Nat) (Z : Nat → List Int) (f0 f1 : Int) (w : World) (h : SlSl w A n cap ra rn rcp Z) :
    Calls Try.prog 6 #[.slice A n cap, .agg #[.int .i64 f0, .int .i64 f1]] w fun e w' => e = .returned (.bool true) ∧ Below w.heap.size w w' := by
  obtain ⟨iI, hI0, hI1, hI2, hI3⟩ := info_parts Try.infoGi
  have HS := Lib.hid h
  clear h
  obtain ⟨F0, hF0⟩ : ∃ F, F = f0.tmod 50 := ⟨_, rfl⟩
  obtain ⟨F1, hF1⟩ : ∃ F, F = f1.tmod 50 := ⟨_, rfl⟩
  have F0b : -49 ≤ F0 ∧ F0 ≤ 49 := by
    have h1 := Int.lt_tmod_of_pos f0 (show 0 < 50 by omega)
    have h2 := Int.tmod_lt_of_pos f0 (show 0 < 50 by omega)
    omega
  have F1b : -49 ≤ F1 ∧ F1 ≤ 49 := by
    have h1 := Int.lt_tmod_of_pos f1 (show 0 < 50 by omega)
    have h2 := Int.tmod_lt_of_pos f1 (show 0 < 50 by omega)
    omega
  have eF0 : f0.tmod 50 = F0 := hF0.symm
  have eF1 : f1.tmod 50 = F1 := hF1.symm
  have HF0 := Lib.hid eF0; have HF1 := Lib.hid eF1
  clear hF0 hF1 eF0 eF1
  go_enter Try.func6, Try.ntmps6
  go_wp2_with fail
  have b0 : Below w.heap.size w (w.alloc (.cells #[.int .i64 f0, .int .i64 f1] 51)) := (Below.refl _ _).alloc (Nat.le_refl _) _
  refine Calls.mono (gaugeWorks_ok _) ?_
  rintro e w1 ⟨rfl, hb⟩
  have hb1 := b0.trans (hb.mono b0.size)
  have x0 : w1.cell? ⟨w.heap.size, 0, none⟩ = some (.int .i64 f0) := (hb.cell (p := ⟨w.heap.size, 0, none⟩) (by simp)).trans (by simp [go_sem])
  have x1 : w1.cell? ⟨w.heap.size, 1, none⟩ = some (.int .i64 f1) := (hb.cell (p := ⟨w.heap.size, 1, none⟩) (by simp)).trans (by simp [go_sem])
  have z0 : w.heap.size < w1.heap.size := by have := hb.size; simp at this; omega
  clear hb b0
  go_wp2_with fail
  refine Calls.mono (readings_ok _ _ _ 2 _ _ _ _ _ (HS.out.below hb1) (by omega) (by omega)) ?_
  rintro e w2 ⟨v, rb, rc, rfl, hL, hb⟩
  obtain ⟨R, hR⟩ : ∃ R, R = rdR rn Z := ⟨_, rfl⟩
  have hRb : ∀ i c, -10 ≤ R i c ∧ R i c ≤ 10 := fun i c => by rw [hR]; exact rdR_bound rn Z i c
  rw [← hR] at hL
  have HRB := Lib.hid hRb
  obtain ⟨q, hq⟩ : ∃ q, q = min n 6 := ⟨_, rfl⟩
  rw [← hq] at hL
  have q6 : q ≤ 6 := by omega
  have hb2 := hb1.trans (hb.mono hb1.size)
  have y0 := (hb.cell (p := ⟨w.heap.size, 0, none⟩) z0).trans x0
  have y1 := (hb.cell (p := ⟨w.heap.size, 1, none⟩) z0).trans x1
  have z1 : w.heap.size < w2.heap.size := by have := hb.size; omega
  have hs2 := hb2.size
  clear hR hRb hb x0 x1 z0 hb1 hq
  rcases Nat.eq_zero_or_pos q with hq0 | hq0
  · subst hq0
    obtain ⟨A3, cap3, hv⟩ : ∃ A3 cap3, v = .slice A3 0 cap3 := by
      rcases hL.own.2 with ⟨h1, h2⟩ | ⟨g, cap, cur, h1, -⟩
      · exact ⟨none, 0, h1⟩
      · exact ⟨_, _, h1⟩
    subst hv
    clear hL
    go_wp2_with fail
    go_loopw [5, 19] (fun h' i' wv => h' = .slice none 0 0 ∧ i' = .int .i64 0 ∧ wv = w2) (fun _ _ _ => 0)
    case atStart => exact ⟨rfl, rfl, rfl⟩
    case round =>
    obtain ⟨rfl, rfl, rfl⟩ := hrel
    go_wp2_with fail
    refine Calls.mono (fit_nil _ _ _ _ _ _) ?_
    rintro e w3 ⟨rfl, hb⟩
    have hb3 := hb2.trans (hb.mono hb2.size)
    have hs3 := hb3.size
    clear hb hb2
    go_wp2_with fail
    have hb4 := hb3.alloc hs3 (.cells #[.slice none 0 0, .int .i64 0] 54)
    refine Calls.mono (resid_nil _ _ _ _ _ _) ?_
    rintro e w5 ⟨rfl, hb⟩
    have hb5 := hb4.trans (hb.mono hb4.size)
    clear hb hb3 hb4
    go_wp2_with fail
    go_ret
    exact ⟨rfl, hb5⟩
  · obtain ⟨g, gc, hv, hg1, hg2⟩ := hL.own.form hq0
    subst hv
    have hgc := own_cap hL.own
    have HM := Lib.hid hL.mat
    have q60 : (q : Int) ≤ 6 := by omega
    clear hL
    go_wp2_with fail
    have B2 := Below.refl w2.heap.size w2
    go_loopw [5, 19] (fun h' i' wv => ∃ i : Nat, i ≤ q ∧ i' = .int .i64 i ∧ wv.ownsRow w2.heap.size 3 1 h' i ((seg (exH R F0 F1) 0 i).map (Value.int .i64)) ∧ Below w.heap.size w wv ∧ Below w2.heap.size w2 wv) (fun _ i' _ => q - (intOf i').toNat)
    case atStart => exact ⟨0, by omega, rfl, World.ownsRow_nil _ _ _ _, hb2, B2⟩
    case round =>
      clear hb2 B2
      obtain ⟨i, hi, rfl, hown, hbw, hbv⟩ := hrel
      have hMr := HM.out.below hbv
      have u0 := (hbv.cell (p := ⟨w.heap.size, 0, none⟩) z1).trans y0
      have u1 := (hbv.cell (p := ⟨w.heap.size, 1, none⟩) z1).trans y1
      have u2 : w.heap.size < wr.heap.size := by have := hbv.size; omega
      have bs := hbv.size
      have bs2 := hbw.size
      by_cases hiq : i < q
      · have i0 : (0 : Int) ≤ (i : Int) := by omega
        have i1 : (i : Int) < (q : Int) := by omega
        have v0 := hMr.out i hiq
        rw [Nat.zero_add] at v0
        have v1 := hMr.row i hiq 0 (by omega)
        have v2 := hMr.row i hiq 1 (by omega)
        have v3 := hMr.lt
        have v4 := HM.out.ltR i hiq
        have v5 := hMr.cap i hiq
        have hex : Hid (exH R F0 F1 i = R i 0 * F0 + R i 1 * F1) := Lib.hid rfl
        obtain ⟨ri, hri⟩ : ∃ x, x = rb i := ⟨_, rfl⟩
        obtain ⟨ci, hci⟩ : ∃ x, x = rc i := ⟨_, rfl⟩
        rw [← hri, ← hci] at v0
        rw [← hri] at v1 v2 v4
        rw [← hci] at v5
        obtain ⟨r0, hr0⟩ : ∃ x, x = R i 0 := ⟨_, rfl⟩
        obtain ⟨r1, hr1⟩ : ∃ x, x = R i 1 := ⟨_, rfl⟩
        have r0b := HRB.out i 0
        have r1b := HRB.out i 1
        rw [← hr0] at v1 r0b hex
        rw [← hr1] at v2 r1b hex
        have m0 := mul_abs r0b F0b
        have m1 := mul_abs r1b F1b
        have p1 : IntKind.i64.wrap (r0 * F0) = r0 * F0 := IntWalk.i64_in _ (by omega)
        have p2 : IntKind.i64.wrap (r1 * F1) = r1 * F1 := IntWalk.i64_in _ (by omega)
        have p3 : IntKind.i64.wrap (r0 * F0 + r1 * F1) = r0 * F0 + r1 * F1 := IntWalk.i64_in _ (by omega)
        have c1 : (1 : Int) < (ci : Int) := by omega
        have ez0 := HF0.out; have ez1 := HF1.out
        have n1 : some ri ≠ u5.ownBlock := fun e => by have := (hown.lt _ e.symm).1; omega
        have n2 : some w.heap.size ≠ u5.ownBlock := fun e => by have := (hown.lt _ e.symm).1; omega
        have l1 : ri < wr.heap.size := by omega
        clear hMr hri hci hr0 hr1
        go_wp2_with fail
        go_region_held3 (fun w' => w'.cell? ⟨ri, 0, none⟩ = some (.int .i64 r0) ∧ w'.cell? ⟨ri, 1, none⟩ = some (.int .i64 r1) ∧ w'.cell? ⟨w.heap.size, 0, none⟩ = some (.int .i64 f0) ∧ w'.cell? ⟨w.heap.size, 1, none⟩ = some (.int .i64 f1))
          (first
            | go_keep
            | (go_split_ands
               refine ⟨?_, ?_, ?_, ?_⟩
               · (rw [hgrow.cell_far _ (by simp; omega) n1]; assumption)
               · (rw [hgrow.cell_far _ (by simp; omega) n1]; assumption)
               · (rw [hgrow.cell_far _ (by simp; omega) n2]; assumption)
               · (rw [hgrow.cell_far _ (by simp; omega) n2]; assumption)))
          ((refine step_append_any (by rfl) _ _ _ (by rfl) w2.heap.size 3 iI _ 1 8 Try.underlying22 hI0 hI1 hI2 hI3 rfl (by omega) u5 i ((seg (exH R F0 F1) 0 i).map (Value.int .i64)) (by rfl) ((hown.alloc _).drew) ⟨wr.heap.size, 0, none⟩ 1 1 [.int .i64 (r0 * F0 + r1 * F1)] (by rfl) (by rfl) (World.news_of_block (cs := #[.int .i64 (r0 * F0 + r1 * F1)]) (t := 3) (fr := (0, 0)) (heap_alloc_new wr _)) (by simp [Value.oneCell']) (by unfold maxLen; omega) (by omega) (by simp; omega) ?_; intro v' w3 hown' hgrow hat))
        have hb4 := (hbw.alloc bs2 (.cells #[.int .i64 (r0 * F0 + r1 * F1)] 3)).drew.grown hgrow (by simp; omega) (fun q hq => by have := (hown.lt q hq).1; omega)
        have hb5 := (hbv.alloc bs (.cells #[.int .i64 (r0 * F0 + r1 * F1)] 3)).drew.grown hgrow (by simp; omega) (fun q hq => (hown.lt q hq).1)
        have R1 : Hid (w3.ownsRow w2.heap.size 3 1 v' (i + 1) ((seg (exH R F0 F1) 0 (i + 1)).map (Value.int .i64))) := Lib.hid (by
          rw [seg_snoc, List.map_append, hex.out]
          exact hown')
        clear hown hown' hgrow hat n1 n2 v0 v1 v2 u0 u1 hbw hbv
        go_wp2_with fail
        go_roundw
        case rel => exact ⟨i + 1, by omega, by go_num, R1.out, hb4, hb5⟩
        case measure => simp [intOf]; omega
      · obtain rfl : i = q := by omega
        obtain ⟨Ah, hcap, rfl, hfl⟩ := own_flat hown
        have hex : ∀ k, k < i → ix (seg (exH R F0 F1) 0 i) k = exH R F0 F1 k := fun k hk => ix_seg _ i k hk
        have hG : GRead R (ix (seg (exH R F0 F1) 0 i)) i 2 := ⟨by omega, by omega, by omega, by omega, fun k c _ _ => HRB.out k c, fun k hk => by rw [hex k hk]; exact exH_bound HRB.out F0b F1b k⟩
        obtain ⟨H, hH⟩ : ∃ H, H = ix (seg (exH R F0 F1) 0 i) := ⟨_, rfl⟩
        have hHk : ∀ k, k < i → H k = R k 0 * F0 + R k 1 * F1 := fun k hk => by rw [hH, hex k hk]; rfl
        have HFL := Lib.hid hfl; have HG := Lib.hid hG; have HHK := Lib.hid hHk; have HHH := Lib.hid hH
        clear hfl hex hG hHk hH hown hMr
        have hfit := fit_ok g 0 gc rb rc R i 2 Ah hcap (seg (exH R F0 F1) 0 i) wr (HM.out.below hbv) HFL.out HG.out hgc
        rw [← HHH.out] at hfit
        have HFIT := Lib.hid hfit
        clear hfit
        go_wp2_with fail
        refine Calls.mono HFIT.out ?_
        rintro e w4 ⟨hb, ⟨hz, rfl⟩ | ⟨hne, v9, rfl, hown9⟩⟩
        · have hb4 := hbw.trans (hb.mono bs2)
          have hv4 := hbv.trans (hb.mono bs)
          have hr4 := hb
          have hs4 := hb4.size
          have hv5 := hv4.alloc hv4.size (.cells #[.slice none 0 0, .int .i64 0] 54)
          have hr5 := hr4.alloc hr4.size (.cells #[.slice none 0 0, .int .i64 0] 54)
          have hb5 := hb4.alloc hs4 (.cells #[.slice none 0 0, .int .i64 0] 54)
          have hres := resid_ok g 0 gc rb rc R i 2 Ah hcap (seg (exH R F0 F1) 0 i) _ (HM.out.below hv5) (HFL.out.keep (by omega) hr5) HG.out hgc (by omega)
          rw [← HHH.out] at hres
          have HRES := Lib.hid hres
          have HZ := Lib.hid hz
          clear hb hbw hbv hv4 hr4 hv5 hr5 hb4 hres hz
          go_wp2_with fail
          refine Calls.mono HRES.out ?_
          rintro e w6 ⟨hb, ⟨-, rfl⟩ | ⟨hne, -⟩⟩
          · have hb6 := hb5.trans (hb.mono hb5.size)
            clear hb hb5
            go_wp2_with fail
            go_ret
            exact ⟨rfl, hb6⟩
          · exact absurd HZ.out hne
        · obtain ⟨e1, e2, e3, e4⟩ := exact_law hne HHK.out
          have e1' : (detF 2 (gm R i)).tdiv (fitG (detF 2 (gm R i)) (detN 2 (gm R i) (gr R H i)) 2) = 1 := e1
          obtain ⟨gv, cv, hv, hgv1, hgv2⟩ := hown9.form (by omega)
          subst hv
          have hcv : 2 ≤ cv := own_cap hown9
          have c0 := (hown9.cellAt 0 (by omega)).trans (facts_at 2 _ _ 0 (by omega))
          have c1 := (hown9.cellAt 1 (by omega)).trans (facts_at 2 _ _ 1 (by omega))
          rw [e2] at c0
          rw [e3] at c1
          rw [e1']
          have hb4 := hbw.trans (hb.mono bs2)
          have hv4 := hbv.trans (hb.mono bs)
          have hr4 := hb
          have hs4 := hb4.size
          have hv5 := hv4.alloc hv4.size (.cells #[.slice (some ⟨gv, 0, none⟩) 2 cv, .int .i64 1] 54)
          have hr5 := hr4.alloc hr4.size (.cells #[.slice (some ⟨gv, 0, none⟩) 2 cv, .int .i64 1] 54)
          have hb5 := hb4.alloc hs4 (.cells #[.slice (some ⟨gv, 0, none⟩) 2 cv, .int .i64 1] 54)
          have hres := resid_ok g 0 gc rb rc R i 2 Ah hcap (seg (exH R F0 F1) 0 i) _ (HM.out.below hv5) (HFL.out.keep (by omega) hr5) HG.out hgc (by omega)
          rw [← HHH.out] at hres
          have N0 := FitBox.new w4 (.slice (some ⟨gv, 0, none⟩) 2 cv) 1
          have d0 := (Below.alloc (Below.refl w4.heap.size w4) (Nat.le_refl _) (.cells #[.slice (some ⟨gv, 0, none⟩) 2 cv, .int .i64 1] 54))
          have c0' := (d0.cell (p := ⟨gv, 0, none⟩) hgv2).trans c0
          have c1' := (d0.cell (p := ⟨gv, 1, none⟩) hgv2).trans c1
          have a0 := (hv5.cell (p := ⟨w.heap.size, 0, none⟩) z1).trans y0
          have a1 := (hv5.cell (p := ⟨w.heap.size, 1, none⟩) z1).trans y1
          have sz := d0.size
          have HRES := Lib.hid hres
          have HNE := Lib.hid hne; have E1 := Lib.hid e1; have E4 := Lib.hid e4
          clear hb hbw hbv hv4 hr4 hr5 hb4 hres hne hown9 e1 e1' e2 e3 e4 c0 c1 u0 u1 d0
          go_wp2_with fail
          refine Calls.mono HRES.out ?_
          rintro e w6 ⟨hb, ⟨hz, -⟩ | ⟨-, rfl⟩⟩
          · exact absurd hz HNE.out
          · have hb6 := hb5.trans (hb.mono hb5.size)
            rw [E4.out, E1.out]
            have t0 : (0 : Int).tdiv (Int.gcd 0 1) = 0 := rfl
            have t1 : (1 : Int).tdiv (Int.gcd 0 1) = 1 := rfl
            rw [t0, t1]
            have N1 := N0.below hb
            have k0 := N1.c0; have k1 := N1.c1; have k2 := N1.lt
            have g0 := (hb.cell (p := ⟨gv, 0, none⟩) (by show gv < _; omega)).trans c0'
            have g1 := (hb.cell (p := ⟨gv, 1, none⟩) (by show gv < _; omega)).trans c1'
            have x0 := (hb.cell (p := ⟨w.heap.size, 0, none⟩) (by show w.heap.size < _; omega)).trans a0
            have x1 := (hb.cell (p := ⟨w.heap.size, 1, none⟩) (by show w.heap.size < _; omega)).trans a1
            have ez0 := HF0.out; have ez1 := HF1.out
            have q1 : (1 : Int) < (cv : Int) := by omega
            have q2 : (1 : Int) < (2 : Int) := by omega
            have l1 : gv < w6.heap.size := by have := hb.size; omega
            have l2 : w.heap.size < w6.heap.size := by have := hb.size; omega
            clear hb hb5 N0 N1 c0' c1' a0 a1 hv5
            go_wp2_with fail
            go_quiet (fail)
            go_wp2_with fail
            go_ret
            exact ⟨rfl, below_drewN hb6 _⟩

end Go.Proofs.Ytmeppcoekmoofaa
