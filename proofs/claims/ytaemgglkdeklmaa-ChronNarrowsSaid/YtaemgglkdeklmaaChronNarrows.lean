/- ChronNarrows, the walk: a further constraint makes no interval wider. -/
import Derived.Test.YtaemgglkdeklmaaEvLaw
import Derived.Test.YtaemgglkdeklmaaSpan
namespace Go.Proofs.Ytaemgglkdeklmaa
open Go.RowKit
set_option linter.unusedSimpArgs false
set_option linter.unusedVariables false

set_option maxRecDepth 100000 in
set_option maxHeartbeats 16000000 in
theorem chronNarrows_walk (Ad : Option Addr) (nd capd : Nat) (zd : List Int) (Al : Option Addr) (ml capl : Nat) (zl : List Int) (w : World) (hd : FlatSl w 1 Ad nd capd zd) (hl : FlatSl w 4 Al ml capl zl) :
    Calls Try.prog 8 #[.slice Ad nd capd, .slice Al ml capl] w fun e w' => e = .returned (.bool true) ∧ Below w.heap.size w w' := by
  have HD := Lib.hid hd; have HL := Lib.hid hl; clear hd hl
  go_enter Try.func8, Try.ntmps8
  go_wp2_with fail
  refine Calls.mono (chronWorks_ok _) ?_
  rintro e w1 ⟨rfl, hb⟩
  obtain ⟨hb1, hz1, hc1, hf1⟩ := took (w := w) (by repeat' (first | (with_reducible refine below_drewN ?_ _) | go_grown)) (by first | (simp only [World.size_alloc, World.size_setCell, World.size_drew, size_drewN]; done) | (simp only [World.size_alloc, World.size_setCell, World.size_drew, size_drewN]; rfl) | rfl) hb; clear hb
  have hs1 := hb1.size
  clear hc1 hf1
  go_wp2_with fail
  by_cases h2 : nd < 2
  · refine Calls.mono (events_few _ _ _ zd _ _ _ _ _ (HL.out.keepC (by omega) hb1) h2) ?_
    rintro e w2 ⟨v, rfl, hown, hb⟩
    obtain ⟨A2, cap2, rfl, hF2⟩ := own_flat hown
    have hb2 := hb1.trans (hb.mono hs1)
    clear hown hF2
    go_wp2_with fail
    go_returns
    exact ⟨rfl, hb2⟩
  · refine Calls.mono (events_many _ _ _ _ _ _ _ _ _ (HD.out.keepC (by omega) hb1) (HL.out.keepC (by omega) hb1) (by omega)) ?_
    rintro e w2 ⟨v, rfl, hown, hb⟩
    obtain ⟨A2, cap2, rfl, hF2⟩ := own_flat hown
    obtain ⟨n, hn⟩ : ∃ n, n = min nd 8 := ⟨_, rfl⟩
    obtain ⟨q, hq⟩ : ∃ q, q = min ml 20 := ⟨_, rfl⟩
    rw [← hn, ← hq] at hF2
    rw [← hn, ← hq]
    have n2 : 2 ≤ n := by omega
    have n8 : n ≤ 8 := by omega
    have q20 : q ≤ 20 := by omega
    have hb2 := hb1.trans (hb.mono hs1)
    have hs2 := hb2.size
    clear hown hb hn hq hb1 hs1
    by_cases q0 : q = 0
    · subst q0
      go_wp2_with fail
      go_returns
      exact ⟨rfl, hb2⟩
    · obtain ⟨p, rfl⟩ : ∃ p, q = p + 1 := ⟨q - 1, by omega⟩
      obtain ⟨b, off, rfl, -⟩ := hF2.at' (by omega)
      have hle := hF2.le
      have hok1 := evL_ok zd zl n2 n8 (show p ≤ 20 by omega)
      have hok2 := evL_ok zd zl n2 n8 q20
      have hf1 := evL_free zd zl (n := n) (q := p) n2
      have hf2 := evL_free zd zl (n := n) (q := p + 1) n2
      have hsub := fin_sub (n := n) (evL_sub zd zl n p)
      have HOK1 := Lib.hid (chronChk_zero.2 hok1); have HOK2 := Lib.hid (chronChk_zero.2 hok2); have HF1 := Lib.hid hf1.1; have HF2 := Lib.hid hf2.1
      clear hok1 hok2 hf1 hf2
      obtain ⟨D1, hD1⟩ : ∃ D, D = fin n (evL zd zl n p) := ⟨_, rfl⟩
      obtain ⟨D2, hD2⟩ : ∃ D, D = fin n (evL zd zl n (p + 1)) := ⟨_, rfl⟩
      rw [← hD1, ← hD2] at hsub
      have HD1 := Lib.hid hD1; have HD2 := Lib.hid hD2; have HSUB := Lib.hid hsub; clear hD1 hD2 hsub
      have e1 : ((p + 1 : Nat) : Int) - 1 = (p : Int) := by omega
      have e2 : (((p + 1 : Nat) : Int) == 0) = false := by simp; omega
      have e3 : (p : Int) ≤ (cap2 : Int) := by omega
      go_wp2_with fail
      refine Calls.mono (tightest_any _ _ _ _ (n : Nat) _ (ev_prefix hF2)) ?_
      rintro e w3 ⟨hb3, ⟨N', hN, -, -, ob1, oc1, rb1, rc1, rfl, hcap1, hT1⟩ | ⟨N', hN, -, hbad, -⟩ | ⟨hbad, -⟩⟩
      · obtain rfl : N' = n := by omega
        have hT1' : TMat w3 ob1 N' rb1 rc1 D1 := by rw [HD1.out]; exact hT1
        have hF3 := hF2.keepC (by omega) hb3
        have hb4 := hb2.trans (hb3.mono hs2)
        have hs4 := hb4.size
        clear hT1 hF2 hb3 hb2 hs2
        go_wp2_with fail
        refine Calls.mono (tightest_any _ _ _ _ (N' : Nat) _ hF3) ?_
        rintro e w4 ⟨hb5, ⟨N2, hN2, -, -, ob2, oc2, rb2, rc2, rfl, hcap2, hT2⟩ | ⟨N2, hN2, -, hbad, -⟩ | ⟨hbad, -⟩⟩
        · obtain rfl : N2 = N' := by omega
          have hT2' : TMat w4 ob2 N2 rb2 rc2 D2 := by rw [HD2.out]; exact hT2
          have hb6 := hb4.trans (hb5.mono hs4)
          have HT1 := Lib.hid (hT1'.below hb5); have HT2 := Lib.hid hT2'
          clear hT1' hT2' hT2 hF3 hb5 hb4 hs4
          have l1 := HT1.out.lt
          have l2 := HT2.out.lt
          go_wp2_with fail
          go_loopw [58] (fun i' wv => ∃ i : Nat, i ≤ N2 ∧ i' = .int .i64 i ∧ Below w4.heap.size w4 wv ∧ Below w.heap.size w wv) (fun i' _ => N2 - (intOf i').toNat)
          case atStart => exact ⟨0, by omega, rfl, Below.refl _ _, hb6⟩
          case round =>
            clear hb6
            obtain ⟨i, hi, rfl, hbv, hbw⟩ := hrel
            by_cases hiN : i < N2
            · have k1 : (0 : Int) ≤ (i : Int) := by omega
              have k2 : (i : Int) < (N2 : Int) := by omega
              have k3 : (i : Int) < (oc1 : Int) := by omega
              have k4 : (i : Int) < (oc2 : Int) := by omega
              go_wp2_with fail
              go_loopw [62] (fun i' wv => ∃ k : Nat, k ≤ N2 ∧ i' = .int .i64 k ∧ Below w4.heap.size w4 wv ∧ Below w.heap.size w wv) (fun i' _ => N2 - (intOf i').toNat)
              case atStart => exact ⟨0, by omega, rfl, hbv, hbw⟩
              case round =>
                clear hbv hbw
                obtain ⟨k, hk, rfl, hbv, hbw⟩ := hrel
                have hbs := hbw.size
                have hbvs := hbv.size
                by_cases hkN : k < N2
                · have k5 : (0 : Int) ≤ (k : Int) := by omega
                  have k6 : (k : Int) < (N2 : Int) := by omega
                  have M1 := HT1.out.below hbv
                  have M2 := HT2.out.below hbv
                  have x1 := M1.out i hiN
                  have x2 := M2.out i hiN
                  obtain ⟨x3, x4⟩ := M1.row i hiN k hkN
                  obtain ⟨x5, x6⟩ := M2.row i hiN k hkN
                  have g1 : -D1 k i ≤ -D2 k i := by have := HSUB.out k i hkN hiN; omega
                  have g2 : D2 i k ≤ D1 i k := HSUB.out i k hiN hkN
                  have m1 := M1.lt; have m2 := M2.lt; have m3 := M1.ltR i hiN; have m4 := M2.ltR i hiN
                  clear M1 M2
                  go_wp2_with fail
                  go_still_tail 31, (by kernel_rfl)
                  change wpList _ _ _ _ _ (World.drew _)
                  go_wp2_with fail
                  refine Calls.mono (holds_true _ _ _ _ _ g1 g2) ?_
                  rintro e w5 ⟨rfl, hb5⟩
                  have R1 := hbv.drew.trans (hb5.mono hbvs)
                  have R2 := hbw.drew.trans (hb5.mono hbs)
                  clear hb5
                  go_wp2_with fail
                  go_roundw
                  case rel => exact ⟨k + 1, by omega, by go_num, R1, R2⟩
                  case measure => simp [intOf]; omega
                · obtain rfl : k = N2 := by omega
                  go_wp2_with fail
                  go_roundw
                  case rel => exact ⟨i + 1, by omega, by go_num, hbv, hbw⟩
                  case measure => simp [intOf]; omega
            · go_wp2_with fail
              go_returns
              exact ⟨rfl, hbw⟩
        · obtain rfl : N2 = N' := by omega
          exact absurd HF2.out hbad
        · exact absurd HOK2.out hbad
      · obtain rfl : N' = n := by omega
        exact absurd HF1.out hbad
      · exact absurd HOK1.out hbad

end Go.Proofs.Ytaemgglkdeklmaa
