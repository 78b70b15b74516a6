/- ChronContains, the walk: days that satisfy all constraints are within the tightest intervals. -/
import Derived.Test.YtmeppcoekmoofaaEvAny
import Derived.Test.YtmeppcoekmoofaaFits
namespace Go.Proofs.Ytmeppcoekmoofaa
open Go.RowKit
set_option linter.unusedSimpArgs false
set_option linter.unusedVariables false

def dsNums (zd : List Int) : Nat → List Int
  | 0 => []
  | k + 1 => dsNums zd k ++ [evD zd k]
theorem dsNums_len (zd : List Int) (k : Nat) : (dsNums zd k).length = k := by
  induction k with
  | zero => rfl
  | succ k ih => simp [dsNums, ih]
theorem ix_dsNums (zd : List Int) (m j : Nat) (h : j < m) : ix (dsNums zd m) j = evD zd j := by
  induction m with
  | zero => omega
  | succ m ih =>
    have hl := dsNums_len zd m
    simp only [dsNums, ix, List.getD_eq_getElem?_getD] at ih ⊢
    rcases Nat.lt_or_eq_of_le (Nat.le_of_lt_succ h) with h1 | rfl
    · rw [List.getElem?_append_left (by omega)]
      exact ih h1
    · rw [List.getElem?_append_right (by omega), hl]
      simp
theorem evD_bounds (zd : List Int) (i : Nat) : -10000 < evD zd i ∧ evD zd i < 10000 := ⟨Int.lt_tmod_of_pos _ (by omega), Int.tmod_lt_of_pos _ (by omega)⟩

set_option maxRecDepth 100000 in
set_option maxHeartbeats 16000000 in
theorem chronContains_walk (Ad : Option Addr) (nd capd : Nat) (zd : List Int) (Al : Option Addr) (ml capl : Nat) (zl : List Int) (w : World) (hd : FlatSl w 1 Ad nd capd zd) (hl : FlatSl w 4 Al ml capl zl) :
    Calls Try.prog 3 #[.slice Ad nd capd, .slice Al ml capl] w fun e w' => e = .returned (.bool true) ∧ Below w.heap.size w w' := by
  obtain ⟨i0, hi, hy0, hy1, hy2⟩ := info_parts Try.infoI2
  have HD := Lib.hid hd; have HL := Lib.hid hl
  have dle := hd.le
  have dat := hd.at'
  obtain ⟨q20, hh⟩ := evQ_facts nd ml
  clear hd hl
  go_enter Try.func3, Try.ntmps3
  go_wp2_with fail
  refine Calls.mono (chronWorks_ok _) ?_
  rintro e w1 ⟨rfl, hb⟩
  obtain ⟨hb1, hz1, hc1, hf1⟩ := took (w := w) (by repeat' (first | (with_reducible refine below_drewN ?_ _) | go_grown)) (by first | (simp only [World.size_alloc, World.size_setCell, World.size_drew, size_drewN]; done) | (simp only [World.size_alloc, World.size_setCell, World.size_drew, size_drewN]; rfl) | rfl) hb; clear hb
  have hs1 := hb1.size
  clear hc1 hf1
  go_wp2_with fail
  refine Calls.mono (events_any _ _ _ _ _ _ _ _ _ (HD.out.keepC (by omega) hb1) (HL.out.keepC (by omega) hb1)) ?_
  rintro e w2 ⟨v, rfl, hown, hb⟩
  obtain ⟨A2, cap2, rfl, hF2⟩ := own_flat hown
  obtain ⟨n, hn⟩ : ∃ n, n = min nd 8 := ⟨_, rfl⟩
  obtain ⟨q, hq⟩ : ∃ q, q = evQ nd ml := ⟨_, rfl⟩
  rw [← hn, ← hq] at hF2
  rw [← hq] at q20
  rw [← hn, ← hq] at hh
  rw [← hn, ← hq]
  have n8 : n ≤ 8 := by omega
  have nnd : n ≤ nd := by omega
  have hb2 := hb1.trans (hb.mono hs1)
  have hs2 := hb2.size
  have HH := Lib.hid hh
  clear hown hb hn hq hb1 hs1 hh
  by_cases n0 : n = 0
  · subst n0
    go_wp2_with fail
    go_returns
    exact ⟨rfl, hb2⟩
  · have n1 : 1 ≤ n := by omega
    have e0 : ((n : Int) == 0) = false := by simp; omega
    obtain ⟨bd, od, rfl, dcell⟩ := dat (by omega)
    have hbd := World.block_lt_of_cell? w _ (dcell 0 (by omega))
    have DC := Lib.hid dcell
    have k0 : (n : Int) ≤ (capd : Int) := by omega
    clear dcell dat n0
    go_wp2_with fail
    go_loopw [6, 30] (fun v i wr => ∃ k : Nat, k ≤ n ∧ i = .int .i64 k ∧ wr.ownsRow w2.heap.size 3 1 v k ((dsNums zd k).map (Value.int .i64)) ∧ Below w2.heap.size w2 wr ∧ Below w.heap.size w wr) (fun _ i _ => n - (intOf i).toNat)
    case atStart => exact ⟨0, by omega, rfl, World.ownsRow_nil _ _ _ _, Below.refl _ _, hb2⟩
    case round =>
      clear hb2
      obtain ⟨k, hk, rfl, hown, hbv, hbw⟩ := hrel
      have hbs := hbw.size
      have hbvs := hbv.size
      by_cases hlt : k < n
      · have d1 : wr.cell? ⟨bd, od + k, none⟩ = some (.int .i64 (ix zd k)) := (hbw.cell (p := ⟨bd, od + k, none⟩) hbd).trans (DC.out k (by omega))
        go_wp2_with (at_builtin; refine wpList_append_own _ rfl _ _ 22 rfl w2.heap.size 3 i0 (.int .i64 0) 1 8 Try.underlying22 hi hy0 hy1 hy2 rfl (by decide) _ _ _ rfl (hown.alloc _) ⟨wr.heap.size, 0, none⟩ 1 1 [.int .i64 ((ix zd k).tmod 10000)] rfl rfl ?c1 ?c2 ?c3 ?c4 ?c5 ?_)
        case c1 => exact cells_one
        case c2 => intro u hu; simp at hu; subst hu; rfl
        case c3 => unfold maxLen; omega
        case c4 => omega
        case c5 => simp; omega
        · intro v' w3 hown' hgrow _
          have R : Hid (w3.ownsRow w2.heap.size 3 1 v' (k + 1) ((dsNums zd (k + 1)).map (Value.int .i64))) := Lib.hid (by simpa only [dsNums, evD, List.map_append, List.map_cons, List.map_nil] using hown')
          have R1 := (hbv.alloc hbvs (.cells #[.int .i64 ((ix zd k).tmod 10000)] 3)).grown hgrow (by simp; omega) (fun q hq => (hown.lt q hq).1)
          have R2 := (hbw.alloc hbs (.cells #[.int .i64 ((ix zd k).tmod 10000)] 3)).grown hgrow (by simp; omega) (fun q hq => Nat.le_trans hs2 (hown.lt q hq).1)
          clear hown' hgrow hown
          go_wp2_with fail
          go_roundw
          case rel => exact ⟨k + 1, by omega, by go_num, R.out, R1, R2⟩
          case measure => simp [intOf]; omega
      · obtain rfl : k = n := by omega
        obtain ⟨A3, cap3, hv, hF3⟩ := own_flat hown
        subst hv
        have hF4 := hF2.keepC (by omega) hbv
        have hokk := evA_ok zd zl n1 n8 q20 HH.out
        have hfr := evA_free zd zl HH.out
        have hsat := evA_sat zd zl HH.out
        have HOK := Lib.hid hokk; have HFR := Lib.hid hfr.1; have HZ := Lib.hid (chronChk_zero.2 hokk)
        obtain ⟨D, hD⟩ : ∃ D, D = fin k (evL zd zl k q) := ⟨_, rfl⟩
        have hpot := hfr.2
        rw [← hD] at hpot
        have HD2 := Lib.hid hD; have HP := Lib.hid hpot; have HSAT := Lib.hid hsat
        clear hown hF2 hokk hfr hsat hD hpot hbv hbvs
        go_wp2_with fail
        refine Calls.mono (fits_ok _ _ _ _ _ _ _ _ _ hF4 hF3 HOK.out (fun i hi => ?_) (fun c hc => ?_)) ?_
        · rw [ix_dsNums zd k i hi]; have := evD_bounds zd i; omega
        · have h1 := HSAT.out c hc
          have h2 := HOK.out.each c hc
          unfold Sat at h1 ⊢
          have a0 := h2.a0; have a1 := h2.a1; have b0 := h2.b0; have b1 := h2.b1
          rw [ix_dsNums zd k c.b.toNat (by omega), ix_dsNums zd k c.a.toNat (by omega)]
          exact h1
        rintro e w3 ⟨rfl, hb⟩
        have hF5 := hF4.keepC (by omega) hb
        have hF6 := hF3.keepC (by omega) hb
        have hb3 := hbw.trans (hb.mono hbs)
        have hs3 := hb3.size
        clear hF3 hF4 hb hbw hbs
        go_wp2_with fail
        refine Calls.mono (tightest_any _ _ _ _ (k : Nat) _ hF5) ?_
        rintro e w4 ⟨hb5, ⟨N2, hN2, -, -, ob, oc, rb, rc, rfl, hcap, hT⟩ | ⟨N2, hN2, -, hbad, -⟩ | ⟨hbad, -⟩⟩
        · obtain rfl : N2 = k := by omega
          have hT' : TMat w4 ob N2 rb rc D := by rw [HD2.out]; exact hT
          have hF7 := hF6.keepC (by omega) hb5
          have hb6 := hb3.trans (hb5.mono hs3)
          have HT := Lib.hid hT'
          obtain ⟨b3, o3, rfl, hc3⟩ := hF7.at' (by omega)
          have hle3 := hF7.le
          have hlt3 := World.block_lt_of_cell? w4 _ (hc3 0 (by omega))
          have HC3 := Lib.hid hc3
          have l1 := hT'.lt
          clear hT hT' hF5 hF6 hF7 hc3 hb3 hs3 hb5
          go_wp2_with fail
          go_loopw [70] (fun i' wv => ∃ i : Nat, i ≤ N2 ∧ i' = .int .i64 i ∧ Below w4.heap.size w4 wv ∧ Below w.heap.size w wv) (fun i' _ => N2 - (intOf i').toNat)
          case atStart => exact ⟨0, by omega, rfl, Below.refl _ _, hb6⟩
          case round =>
            clear hb6
            obtain ⟨i, hi, rfl, hbv, hbw⟩ := hrel
            by_cases hiN : i < N2
            · have k1 : (0 : Int) ≤ (i : Int) := by omega
              have k2 : (i : Int) < (N2 : Int) := by omega
              have k3 : (i : Int) < (oc : Int) := by omega
              go_wp2_with fail
              go_loopw [74] (fun i' wv => ∃ x : Nat, x ≤ N2 ∧ i' = .int .i64 x ∧ Below w4.heap.size w4 wv ∧ Below w.heap.size w wv) (fun i' _ => N2 - (intOf i').toNat)
              case atStart => exact ⟨0, by omega, rfl, hbv, hbw⟩
              case round =>
                clear hbv hbw
                obtain ⟨x, hx, rfl, hbv, hbw⟩ := hrel
                by_cases hxN : x < N2
                · have k5 : (0 : Int) ≤ (x : Int) := by omega
                  have k6 : (x : Int) < (N2 : Int) := by omega
                  have M := HT.out.below hbv
                  have x1 := M.out i hiN
                  obtain ⟨x3, x4⟩ := M.row i hiN x hxN
                  have d1 : wr.cell? ⟨b3, o3 + x, none⟩ = some (.int .i64 (evD zd x)) := by
                    have := HC3.out x (by omega)
                    rw [ix_dsNums zd N2 x hxN] at this
                    exact (hbv.cell (p := ⟨b3, o3 + x, none⟩) hlt3).trans this
                  have d2 : wr.cell? ⟨b3, o3 + i, none⟩ = some (.int .i64 (evD zd i)) := by
                    have := HC3.out i (by omega)
                    rw [ix_dsNums zd N2 i hiN] at this
                    exact (hbv.cell (p := ⟨b3, o3 + i, none⟩) hlt3).trans this
                  have g1 : evD zd x - evD zd i ≤ D i x := HP.out i x hiN hxN
                  have g2 : -D x i ≤ evD zd x - evD zd i := by have : evD zd i - evD zd x ≤ D x i := HP.out x i hxN hiN; omega
                  obtain ⟨q1, q2⟩ := evD_bounds zd i
                  obtain ⟨q3, q4⟩ := evD_bounds zd x
                  have e1 : IntKind.i64.wrap (evD zd x - evD zd i) = evD zd x - evD zd i := IntWalk.i64_in _ (by omega)
                  clear M
                  go_wp2_with fail
                  go_quiet (fail)
                  go_wp2_with fail
                  go_roundw
                  case rel => exact ⟨x + 1, by omega, by go_num, below_drewN hbv _, below_drewN hbw _⟩
                  case measure => simp [intOf]; omega
                · obtain rfl : x = N2 := by omega
                  go_wp2_with fail
                  go_roundw
                  case rel => exact ⟨i + 1, by omega, by go_num, hbv, hbw⟩
                  case measure => simp [intOf]; omega
            · go_wp2_with fail
              go_returns
              exact ⟨rfl, hbw⟩
        · obtain rfl : N2 = k := by omega
          exact absurd HFR.out hbad
        · exact absurd HZ.out hbad

end Go.Proofs.Ytmeppcoekmoofaa
