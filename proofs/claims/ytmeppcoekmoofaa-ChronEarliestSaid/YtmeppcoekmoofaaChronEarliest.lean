/- ChronEarliest, the walk: the earliest days satisfy all constraints, and no event can be a day earlier. -/
import Derived.Test.YtmeppcoekmoofaaEvAny
import Derived.Test.YtmeppcoekmoofaaFits
namespace Go.Proofs.Ytmeppcoekmoofaa
open Go.RowKit
set_option linter.unusedSimpArgs false
set_option linter.unusedVariables false

/-- The earliest days, plain. -/
theorem early_law (zd zl : List Int) {n q ev : Nat} (h8 : n ≤ 8) (hh : 2 ≤ n ∨ q = 0) (hev : ev < n) (hne : ∀ k, k < n → fin n (evL zd zl n q) k ev ≠ 1000000000) :
    (∀ i, i < n → -1000000000 ≤ ix (earlyNums (fin n (evL zd zl n q)) ev 100 n) i ∧ ix (earlyNums (fin n (evL zd zl n q)) ev 100 n) i ≤ 1000000000) ∧
    (∀ c, c ∈ evL zd zl n q → BdOk n c → Sat (ix (earlyNums (fin n (evL zd zl n q)) ev 100 n)) c) ∧ ∀ i, i < n → -6000000 ≤ fin n (evL zd zl n q) i ev ∧ fin n (evL zd zl n q) i ev < 1000000000 := by
  have hw := evA_within zd zl hh
  have hf := (evA_free zd zl hh).1
  have hcl := evA_closed zd zl h8 hh
  have hlo := hw.low
  have key : ∀ i, i < n → -6000000 ≤ fin n (evL zd zl n q) i ev ∧ fin n (evL zd zl n q) i ev < 1000000000 := by
    intro i hi
    have hp : (2 : Int) ^ n * 20100 ≤ 6000000 := (by decide : ∀ k, k < 9 → (2 : Int) ^ k * 20100 ≤ 6000000) n (by omega)
    have h1 := fw_low hw.w0 (Nat.le_refl n) hlo.2 hlo.1 hf i ev hi hev
    have h3 := fw_le n (initM (evL zd zl n q)) n i ev hi hev
    have h4 : initM (evL zd zl n q) i ev ≤ init0 i ev := foldB_le (evL zd zl n q) init0 i ev
    have h5 : init0 i ev ≤ 1000000000 := by unfold init0 far; split <;> omega
    have h6 := hne i hi
    unfold fin at h6 ⊢
    omega
  refine ⟨fun i hi => ?_, fun c hc ho => ?_, key⟩
  · rw [ix_earlyNums _ _ _ _ _ hi]
    have := key i hi
    omega
  · have a0 := ho.a0; have a1 := ho.a1; have b0 := ho.b0; have b1 := ho.b1
    have hA : c.a.toNat < n := by omega
    have hB : c.b.toNat < n := by omega
    have hhit := fin_hits c hc ho
    have w3 := hw.each c hc
    have f1 : fin n (evL zd zl n q) c.a.toNat c.b.toNat < far := by unfold far; omega
    have f2 : fin n (evL zd zl n q) c.b.toNat c.a.toNat < far := by unfold far; omega
    have kA := key _ hA
    have kB := key _ hB
    have t1 := hcl c.a.toNat c.b.toNat ev hA hB hev f1 (by unfold far; omega)
    have t2 := hcl c.b.toNat c.a.toNat ev hB hA hev f2 (by unfold far; omega)
    unfold Sat
    rw [ix_earlyNums _ _ _ _ _ hA, ix_earlyNums _ _ _ _ _ hB]
    omega

set_option maxRecDepth 100000 in
set_option maxHeartbeats 16000000 in
theorem chronEarliest_walk (Ad : Option Addr) (nd capd : Nat) (zd : List Int) (Al : Option Addr) (ml capl : Nat) (zl : List Int) (e0 : Int) (w : World) (hd : FlatSl w 1 Ad nd capd zd) (hl : FlatSl w 4 Al ml capl zl) :
    Calls Try.prog 4 #[.slice Ad nd capd, .slice Al ml capl, .int .i64 e0] w fun e w' => e = .returned (.bool true) ∧ Below w.heap.size w w' := by
  have HD := Lib.hid hd; have HL := Lib.hid hl
  have dle := hd.le
  obtain ⟨q20, hh⟩ := evQ_facts nd ml
  clear hd hl
  go_enter Try.func4, Try.ntmps4
  go_wp2_with fail
  refine Calls.mono (chronWorks_ok _) ?_
  rintro e w1 ⟨rfl, hb⟩
  obtain ⟨hb1, hz1, hc1, hf1⟩ := took (w := w) (by repeat' (first | (with_reducible refine below_drewN ?_ _) | go_grown)) (by first | (simp only [World.size_alloc, World.size_setCell, World.size_drew, size_drewN]; done) | (simp only [World.size_alloc, World.size_setCell, World.size_drew, size_drewN]; rfl) | rfl) hb; clear hb
  have hs1 := hb1.size
  clear hc1 hf1
  go_wp2_with fail
  refine Calls.mono (events_any _ _ _ _ _ _ _ _ _ (HD.out.keepC (by omega) hb1) (HL.out.keepC (by omega) hb1)) ?_
  rintro e w2 ⟨v, rfl, hown, hb⟩
  obtain ⟨A2, cap2, rfl, hF2⟩ := own_flat hown
  obtain ⟨n, hn⟩ : ∃ n, n = min nd 8 := ⟨_, rfl⟩
  obtain ⟨q, hq⟩ : ∃ q, q = evQ nd ml := ⟨_, rfl⟩
  rw [← hn, ← hq] at hF2
  rw [← hq] at q20
  rw [← hn, ← hq] at hh
  rw [← hn, ← hq]
  have n8 : n ≤ 8 := by omega
  have hb2 := hb1.trans (hb.mono hs1)
  have hs2 := hb2.size
  have HH := Lib.hid hh
  clear hown hb hn hq hb1 hs1 hh
  by_cases n0 : n = 0
  · subst n0
    go_wp2_with fail
    go_returns
    exact ⟨rfl, hb2⟩
  · have n1 : 1 ≤ n := by omega
    have e1 : ((n : Int) == 0) = false := by simp; omega
    clear n0
    obtain ⟨ev, hev⟩ : ∃ k : Nat, (k : Int) = e0 % (n : Int) := ⟨(e0 % (n : Int)).toNat, by have := Int.emod_nonneg e0 (show (n : Int) ≠ 0 by omega); omega⟩
    have hevn : ev < n := by have := Int.emod_lt_of_pos e0 (show 0 < (n : Int) by omega); omega
    have HEV := Lib.hid hev; clear hev
    have hokk := evA_ok zd zl n1 n8 q20 HH.out
    have hfr := evA_free zd zl HH.out
    have HOK := Lib.hid hokk; have HFR := Lib.hid hfr.1; have HZ := Lib.hid (chronChk_zero.2 hokk)
    clear hokk hfr
    go_wp2_with fail
    refine Calls.mono (at_any _ _ _ (by omega) (by omega)) ?_
    rintro e _ ⟨rfl, rfl⟩
    rw [← HEV.out]
    go_wp2_with fail
    refine Calls.mono (early_any _ _ _ _ n ev _ _ hF2 HOK.out HFR.out hevn (by omega)) ?_
    rintro e w3 ⟨hb3, ⟨k, hk, hfar, rfl⟩ | ⟨hne, v, rfl, hown⟩⟩
    · have hb4 := hb2.trans (hb3.mono hs2)
      clear hfar
      go_wp2_with fail
      go_returns
      exact ⟨rfl, hb4⟩
    · obtain ⟨A3, cap3, rfl, hF3⟩ := own_flat hown
      have hlaw := early_law zd zl n8 HH.out hevn hne
      obtain ⟨D, hD⟩ : ∃ D, D = fin n (evL zd zl n q) := ⟨_, rfl⟩
      have hD' : D = fin n (bds (evNums zd zl n q) q) := hD
      rw [← hD'] at hF3
      rw [← hD] at hlaw
      have HD2 := Lib.hid hD; have HLAW := Lib.hid hlaw
      have hF4 := hF2.keepC (by omega) hb3
      have hb4 := hb2.trans (hb3.mono hs2)
      have hs4 := hb4.size
      clear hF2 hne hown hlaw hD hD' hb3 hb2 hs2
      go_wp2_with fail
      refine Calls.mono (fits_ok _ _ _ _ _ _ _ _ _ hF4 hF3 HOK.out (fun i hi => HLAW.out.1 i hi) (fun c hc => HLAW.out.2.1 c hc (HOK.out.each c hc))) ?_
      rintro e w4 ⟨rfl, hb⟩
      have hF5 := hF4.keepC (by omega) hb
      have hF6 := hF3.keepC (by omega) hb
      have hb5 := hb4.trans (hb.mono hs4)
      have hs5 := hb5.size
      clear hF3 hF4 hb hb4 hs4
      go_wp2_with fail
      refine Calls.mono (tightest_any _ _ _ _ (n : Nat) _ hF5) ?_
      rintro e w5 ⟨hb6, ⟨N2, hN2, -, -, ob, oc, rb, rc, rfl, hcap, hT⟩ | ⟨N2, hN2, -, hbad, -⟩ | ⟨hbad, -⟩⟩
      · obtain rfl : N2 = n := by omega
        have hT' : TMat w5 ob N2 rb rc D := by rw [HD2.out]; exact hT
        have hF7 := hF6.keepC (by omega) hb6
        have hb7 := hb5.trans (hb6.mono hs5)
        have HT := Lib.hid hT'
        obtain ⟨b3, o3, rfl, hc3⟩ := hF7.at' (by omega)
        have hle3 := hF7.le
        have hlt3 := World.block_lt_of_cell? w5 _ (hc3 0 (by omega))
        have HC3 := Lib.hid hc3
        have l1 := hT'.lt
        have x0 := hT'.out ev hevn
        have j1 : (0 : Int) ≤ (ev : Int) := by omega
        have j2 : (ev : Int) < (N2 : Int) := by omega
        clear hT hT' hF5 hF6 hF7 hc3 hb5 hs5 hb6
        go_wp2_with fail
        go_loopw [89] (fun i' wv => ∃ x : Nat, x ≤ N2 ∧ i' = .int .i64 x ∧ Below w5.heap.size w5 wv ∧ Below w.heap.size w wv) (fun i' _ => N2 - (intOf i').toNat)
        case atStart => exact ⟨0, by omega, rfl, Below.refl _ _, hb7⟩
        case round =>
          clear hb7 x0
          obtain ⟨x, hx, rfl, hbv, hbw⟩ := hrel
          by_cases hxN : x < N2
          · have k5 : (0 : Int) ≤ (x : Int) := by omega
            have k6 : (x : Int) < (N2 : Int) := by omega
            have M := HT.out.below hbv
            have x1 := M.out ev hevn
            obtain ⟨x3, x4⟩ := M.row ev hevn x hxN
            obtain ⟨y, hy⟩ : ∃ y, y = 100 + -D x ev := ⟨_, rfl⟩
            have d1 : wr.cell? ⟨b3, o3 + x, none⟩ = some (.int .i64 y) := by
              have := HC3.out x (by omega)
              rw [ix_earlyNums _ _ _ _ _ hxN, ← hy] at this
              exact (hbv.cell (p := ⟨b3, o3 + x, none⟩) hlt3).trans this
            have kb := HLAW.out.2.2 x hxN
            have e2 : IntKind.i64.wrap (y - 100) = -D x ev := by rw [IntWalk.i64_in _ (by omega)]; omega
            clear M hy
            go_wp2_with fail
            go_quiet (fail)
            go_wp2_with fail
            go_roundw
            case rel => exact ⟨x + 1, by omega, by go_num, below_drewN hbv _, below_drewN hbw _⟩
            case measure => simp [intOf]; omega
          · go_wp2_with fail
            go_returns
            exact ⟨rfl, hbw⟩
      · obtain rfl : N2 = n := by omega
        exact absurd HFR.out hbad
      · exact absurd HZ.out hbad

end Go.Proofs.Ytmeppcoekmoofaa
