/- TopClocks, the walk: with a majority of right sources, over links with any delays, the time is within the bound that is told. -/
import Derived.Test.YtmeppcoekmoofaaDisciplineHonest
import Derived.Test.YtmeppcoekmoofaaSClocks
import Derived.Test.YtmeppcoekmoofaaLink
import Derived.Deep.DeepCutAuto
import Derived.Deep.QuietTactic
import Derived.BigQuiet
namespace Go.Proofs.Ytmeppcoekmoofaa
open Go.RowKit
set_option linter.unusedSimpArgs false
set_option linter.unusedVariables false

set_option maxHeartbeats 400000 in
theorem sAtC_any (k n : Int) (w : World) (hn : 1 ≤ n) (hn' : n ≤ 4611686018427387904) :
    Calls Try.prog 36 #[.int .i64 k, .int .i64 n] w fun e w' => e = .returned (.int .i64 (k % n)) ∧ w = w' := by
  go_enter Try.func36, Try.ntmps36
  go_wp2
  go_ret
  exact ⟨ret_int (at_eq k n hn hn'), rfl⟩

/-- There and back, of source i. -/
def tcA (zs : List Int) (m i : Nat) : Int := if i < m then ix zs (i * 2) % 500 else 0
def tcB (zs : List Int) (m i : Nat) : Int := if i < m then ix zs (i * 2 + 1) % 500 else 0
def tcL (ls : List Int) (m i : Nat) : Int := if i < 2 ∧ i < m then (ix ls i).tmod 1000000 else 0
def tcT (zs : List Int) (m i : Nat) : Int := 1000 * i + tcA zs m i + tcB zs m i
def tcLo (zs : List Int) (m : Nat) (ls : List Int) (ml : Nat) (T : Int) (i : Nat) : Int := T + 1000 * i + tcA zs m i + tcL ls ml i
def tcHi (zs : List Int) (m : Nat) (ls : List Int) (ml : Nat) (T : Int) (i : Nat) : Int := tcLo zs m ls ml T i + tcA zs m i + tcB zs m i
theorem tcA_bounds (zs : List Int) (m i : Nat) : 0 ≤ tcA zs m i ∧ tcA zs m i < 500 := by unfold tcA; split <;> omega
theorem tcB_bounds (zs : List Int) (m i : Nat) : 0 ≤ tcB zs m i ∧ tcB zs m i < 500 := by unfold tcB; split <;> omega
theorem tcL_bounds (ls : List Int) (m i : Nat) : -1000000 < tcL ls m i ∧ tcL ls m i < 1000000 := by
  unfold tcL
  split
  · exact ⟨Int.lt_tmod_of_pos _ (by omega), Int.tmod_lt_of_pos _ (by omega)⟩
  · omega
theorem tc_rds (zs : List Int) (m : Nat) (ls : List Int) (ml : Nat) (T : Int) (h0 : -1000000000 < T) (h1 : T < 1000000000) : RdsOk (rdNums (fedR (tcT zs m) (tcLo zs m ls ml T) (tcHi zs m ls ml T) 5) 5) 5 20000 := by
  refine ⟨by omega, by omega, fun j hj => ?_⟩
  obtain ⟨e1, e2, e3⟩ := fed_nums (tcT zs m) (tcLo zs m ls ml T) (tcHi zs m ls ml T) 5 j hj
  have a := tcA_bounds zs m j
  have b := tcB_bounds zs m j
  have c := tcL_bounds ls ml j
  rw [e1, e2, e3]
  unfold tcT tcHi tcLo
  omega
theorem tc_ex (s r o : Int) (h0 : 0 ≤ s) (h1 : s ≤ r) (h2 : r ≤ 1000000) (h3 : -2000000000 ≤ o) (h4 : o ≤ 2000000000) : ExOk s r o o := by
  refine ⟨?_, ?_, by omega, by omega, by omega, by omega, by omega⟩
  · unfold timesF chk; rw [if_neg (by omega), if_neg (by omega), if_neg (by omega)]
  · unfold timesF chk; rw [if_neg (by omega), if_neg (by omega), if_neg (by omega)]

set_option maxRecDepth 100000 in
set_option maxHeartbeats 16000000 in
theorem topClocks_walk (d0 t0 : Int) (A : Option Addr) (m cap : Nat) (zs : List Int) (Al : Option Addr) (ml capl : Nat) (ls : List Int) (w : World) (hF : FlatSl w 2 A m cap zs) (hL : FlatSl w 1 Al ml capl ls) :
    Calls Try.prog 14 #[.int .i64 d0, .int .i64 t0, .slice A m cap, .slice Al ml capl] w fun e w' => e = .returned (.bool true) ∧ Below w.heap.size w w' := by
  have m1 := Int.lt_tmod_of_pos t0 (show 0 < 1000000000 by omega)
  have m2 := Int.tmod_lt_of_pos t0 (show 0 < 1000000000 by omega)
  obtain ⟨T, hT⟩ : ∃ t, t = t0.tmod 1000000000 := ⟨_, rfl⟩
  rw [← hT] at m1 m2
  obtain ⟨d, hd⟩ : ∃ x, x = d0 % 2000 := ⟨_, rfl⟩
  have d1 : 0 ≤ d := by omega
  have d2 : d ≤ 2000 := by omega
  have HT := Lib.hid hT; have HD := Lib.hid hd; clear hT hd
  have HF := Lib.hid hF; have HLS := Lib.hid hL
  have hcap := hF.le
  have hcapl := hL.le
  have hm : m ≤ 9223372036854775807 := by have hmost := hF.most; unfold maxLen at hmost; omega
  have hml : ml ≤ 9223372036854775807 := by have hmost := hL.most; unfold maxLen at hmost; omega
  clear hF hL
  have hfr := fed_right (t := tcT zs m) (lo := tcLo zs m ls ml T) (hi := tcHi zs m ls ml T) (n := 5) (f := 2) (k := 2) (d := d) (tick := 20000) (T := T + 20000) d1 (by omega) (by omega) (by omega) (tc_rds zs m ls ml T m1 m2) (fun j hj hn => by
    have a := tcA_bounds zs m j
    have b := tcB_bounds zs m j
    have c : tcL ls ml j = 0 := by unfold tcL; rw [if_neg (by omega)]
    unfold tcHi tcLo tcT
    rw [c]
    omega)
  have HFR := Lib.hid hfr; clear hfr
  go_enter Try.func14, Try.ntmps14
  go_wp2_with fail
  refine Calls.mono (sClocks_ok _) ?_
  rintro e w1 ⟨rfl, hb⟩
  obtain ⟨hb1, hz1, hc1, hf1⟩ := took (w := w) (by repeat' (first | (with_reducible refine below_drewN ?_ _) | go_grown)) (by first | (simp only [World.size_alloc, World.size_setCell, World.size_drew, size_drewN]; done) | (simp only [World.size_alloc, World.size_setCell, World.size_drew, size_drewN]; rfl) | rfl) hb; clear hb
  clear hc1 hf1
  go_wp2_with fail
  refine Calls.mono (sAtC_any _ _ _ (by omega) (by omega)) ?_
  rintro e _ ⟨rfl, rfl⟩
  rw [← HD.out]
  go_wp2_with fail
  rw [← HT.out]
  refine Calls.mono (keepNew_ok d 5 2 _ d1 (by omega) (by omega) (by omega) (by omega)) ?_
  rintro e w2 ⟨kb, rb, hb, rfl, hK, b1, b2, b3, hb2⟩
  have hbw := hb1.trans (hb2.mono hz1)
  have c1 : w.heap.size ≤ kb := by omega
  have c2 : w.heap.size ≤ rb := by omega
  have c3 : w.heap.size ≤ hb := by omega
  clear hb1 hb2 hz1 b1 b2 b3
  go_wp2_with fail
  go_loopw [38] (fun i' wr => ∃ (i : Nat) (last : Int), i ≤ 5 ∧ i' = .int .i64 i ∧ last ≤ 1000 * (i : Int) ∧ Keep wr kb rb hb 5 d 2 last (fedR (tcT zs m) (tcLo zs m ls ml T) (tcHi zs m ls ml T) i) (fedH i) ∧ Below w.heap.size w wr) (fun i' _ => 5 - (intOf i').toNat)
  case atStart => exact ⟨0, 0, by omega, rfl, by omega, hK, hbw⟩
  case round =>
    clear hK hbw
    obtain ⟨i, last, hi, rfl, hl, hK, hbw⟩ := hrel
    have HK := Lib.hid hK; clear hK
    have hbs := hbw.size
    by_cases hlt : i < 5
    · have i0 : (0 : Int) ≤ (i : Int) := by omega
      have i1 : (i : Int) < 5 := by omega
      obtain ⟨a1, a2⟩ := tcA_bounds zs m i
      obtain ⟨b1, b2⟩ := tcB_bounds zs m i
      obtain ⟨l1, l2⟩ := tcL_bounds ls ml i
      obtain ⟨a, ha⟩ : ∃ x, x = tcA zs m i := ⟨_, rfl⟩
      obtain ⟨b, hb'⟩ : ∃ x, x = tcB zs m i := ⟨_, rfl⟩
      obtain ⟨l, hl'⟩ : ∃ x, x = tcL ls ml i := ⟨_, rfl⟩
      obtain ⟨t, ht⟩ : ∃ x, x = tcT zs m i := ⟨_, rfl⟩
      obtain ⟨lo, hlo⟩ : ∃ x, x = tcLo zs m ls ml T i := ⟨_, rfl⟩
      obtain ⟨hi', hhi⟩ : ∃ x, x = tcHi zs m ls ml T i := ⟨_, rfl⟩
      have htv : t = 1000 * (i : Int) + a + b := by rw [ht, ha, hb']; rfl
      have hlov : lo = T + 1000 * (i : Int) + a + l := by rw [hlo, ha, hl']; rfl
      have hhiv : hi' = lo + a + b := by rw [hhi, hlo, ha, hb']; rfl
      rw [← ha] at a1 a2
      rw [← hb'] at b1 b2
      rw [← hl'] at l1 l2
      have HA := Lib.hid ha; have HB := Lib.hid hb'; have HL := Lib.hid hl'; have HTT := Lib.hid ht; have HLO := Lib.hid hlo; have HHI := Lib.hid hhi
      have HTV := Lib.hid htv; have HLV := Lib.hid hlov; have HHV := Lib.hid hhiv
      have hex : ExOk (1000 * (i : Int)) (1000 * (i : Int) + a + b) lo lo := tc_ex _ _ _ (by omega) (by omega) (by omega) (by omega) (by omega)
      have HEX := Lib.hid hex
      have lo0 : -2000000000 ≤ lo := by omega
      have lo1 : lo ≤ 2000000000 := by omega
      clear ha hb' hl' ht hlo hhi htv hlov hhiv hex
      go_upto_if 44 with (fail)
      go_cut [12, 13] (fun s t wx => s = .int .i64 a ∧ t = .int .i64 b ∧ Keep wx kb rb hb 5 d 2 last (fedR (tcT zs m) (tcLo zs m ls ml T) (tcHi zs m ls ml T) i) (fedH i) ∧ Below w.heap.size w wx)
      case first =>
        by_cases him : i < m
        · have i2 : (i : Int) < (m : Int) := by omega
          obtain ⟨q, off, rfl, hcell⟩ := HF.out.at' (by omega)
          have hbl := World.block_lt_of_cell? w _ (hcell 0 (by omega))
          simp at hbl
          have x0 := (hbw.cell (p := ⟨q, off + i * 2, none⟩) hbl).trans (hcell (i * 2) (by omega))
          have x1 : wr.cell? ⟨q, off + i * 2 + 1, none⟩ = some (.int .i64 (ix zs (i * 2 + 1))) := (hbw.cell (p := ⟨q, off + i * 2 + 1, none⟩) hbl).trans (hcell (i * 2 + 1) (by omega))
          obtain ⟨x, hx⟩ : ∃ x, x = ix zs (i * 2) := ⟨_, rfl⟩
          obtain ⟨y, hy⟩ : ∃ x, x = ix zs (i * 2 + 1) := ⟨_, rfl⟩
          rw [← hx] at x0
          rw [← hy] at x1
          have ea : Hid (a = x % 500) := Lib.hid (by rw [HA.out, hx]; unfold tcA; rw [if_pos him])
          have eb : Hid (b = y % 500) := Lib.hid (by rw [HB.out, hy]; unfold tcB; rw [if_pos him])
          have hqr : q < wr.heap.size := by omega
          clear hcell hx hy
          go_wp2_with fail
          go_quiet ((first | (go_at_call 36; exact Calls.quiet_of_same ((sAtC_any _ _ _ (by omega) (by omega)).mono fun _ _ h => ⟨h.1, h.2.symm⟩))))
          go_wp2_with fail
          go_meet
          exact ⟨by rw [ea.out], by rw [eb.out], HK.out.drewN _, below_drewN hbw _⟩
        · have i2 : ¬ (i : Int) < (m : Int) := by omega
          have ea : Hid (a = 0) := Lib.hid (by rw [HA.out]; unfold tcA; rw [if_neg him])
          have eb : Hid (b = 0) := Lib.hid (by rw [HB.out]; unfold tcB; rw [if_neg him])
          go_wp2_with fail
          go_meet
          exact ⟨by rw [ea.out], by rw [eb.out], HK.out, hbw⟩
      case rest =>
        obtain ⟨rfl, rfl, hK2, hbc⟩ := hcut
        have HK2 := Lib.hid hK2
        clear hK2 hbw hbs
        have hcase : (∃ q off x, Al = some ⟨q, off, none⟩ ∧ wc.cell? ⟨q, off + i, none⟩ = some (.int .i64 x) ∧ q < wc.heap.size ∧ (i : Int) < 2 ∧ (i : Int) < (ml : Int) ∧ Hid (lo = T + 1000 * (i : Int) + a + x.tmod 1000000)) ∨ (Hid (lo = T + 1000 * (i : Int) + a) ∧ (((i : Int) < 2 ∧ ¬ (i : Int) < (ml : Int)) ∨ decide ((i : Int) < 2) = false)) := by
          by_cases hil : i < 2 ∧ i < ml
          · left
            obtain ⟨q, off, rfl, hcell⟩ := HLS.out.at' (by omega)
            have hbl := World.block_lt_of_cell? w _ (hcell 0 (by omega))
            simp at hbl
            have x0 := (hbc.cell (p := ⟨q, off + i, none⟩) hbl).trans (hcell i (by omega))
            exact ⟨q, off, ix ls i, rfl, x0, by have := hbc.size; omega, by omega, by omega, Lib.hid (by rw [HLV.out, HL.out]; unfold tcL; rw [if_pos hil])⟩
          · right
            refine ⟨Lib.hid (by rw [HLV.out, HL.out]; unfold tcL; rw [if_neg hil]; omega), ?_⟩
            by_cases i3 : (i : Int) < 2
            · exact Or.inl ⟨i3, fun h => hil ⟨by omega, by omega⟩⟩
            · exact Or.inr (by simpa using i3)
        have hbs := hbc.size
        have e1 : IntKind.i64.wrap (1000 * (i : Int)) = 1000 * (i : Int) := IntWalk.i64_in _ (by omega)
        rcases hcase with ⟨q, off, x, rfl, x0, hql, i3, i4, el⟩ | ⟨el, ⟨i3, i4⟩ | i3⟩
        · have x1 := Int.lt_tmod_of_pos x (show 0 < 1000000 by omega)
          have x2 := Int.tmod_lt_of_pos x (show 0 < 1000000 by omega)
          go_wp2_with fail
          rw [← el.out]
          refine Calls.mono (linkOffset_ok _ _ _ _ _ HEX.out) ?_
          rintro e w4 ⟨rfl, hb4⟩
          have hK4 := HK2.out.below hb4
          have hb5 := hbc.trans (hb4.mono hbs)
          have hs5 := hb5.size
          have hK4o : ∀ o, Keep (w4.alloc o) kb rb hb 5 d 2 last (fedR (tcT zs m) (tcLo zs m ls ml T) (tcHi zs m ls ml T) i) (fedH i) := fun o => hK4.below ((Below.refl _ _).alloc (Nat.le_refl _) o)
          have HK4 := Lib.hid hK4o
          clear hb4 hK4 hK4o hbc
          go_wp2_with fail
          rw [show 1000 * (i : Int) + a + b + (lo - (1000 * (i : Int) + a + b)) = lo by omega, show 1000 * (i : Int) + a + b + (lo - 1000 * (i : Int)) = hi' by rw [HHV.out]; omega, ← HTV.out]
          refine Calls.mono (feed_ok kb rb hb 5 i d 2 last t lo hi' _ _ _ (HK4.out _) (by omega) hlt (by have := HTV.out; omega) (by have := HTV.out; omega) (by have := HTV.out; omega) (by omega) (by have := HHV.out; omega) (by have := HHV.out; omega)) ?_
          rintro e w6 ⟨rfl, hK6, hs6, hB⟩
          have hb6 := (hb5.alloc hs5 _).trans (hB w.heap.size c1 c2 c3)
          have htn : t ≤ 1000 * ((i + 1 : Nat) : Int) := by have := HTV.out; omega
          have hRR : setRd (fedR (tcT zs m) (tcLo zs m ls ml T) (tcHi zs m ls ml T) i) i t lo hi' = fedR (tcT zs m) (tcLo zs m ls ml T) (tcHi zs m ls ml T) (i + 1) := by rw [HTT.out, HLO.out, HHI.out]; rfl
          rw [hRR] at hK6
          have HK6 := Lib.hid hK6; have HTN := Lib.hid htn
          clear hB hK6 hRR htn
          go_wp2_with fail
          go_roundw
          case rel => exact ⟨i + 1, t, by omega, by go_num, HTN.out, HK6.out, hb6⟩
          case measure => simp [intOf]; omega
        · go_wp2_with fail
          rw [← el.out]
          refine Calls.mono (linkOffset_ok _ _ _ _ _ HEX.out) ?_
          rintro e w4 ⟨rfl, hb4⟩
          have hK4 := HK2.out.below hb4
          have hb5 := hbc.trans (hb4.mono hbs)
          have hs5 := hb5.size
          have hK4o : ∀ o, Keep (w4.alloc o) kb rb hb 5 d 2 last (fedR (tcT zs m) (tcLo zs m ls ml T) (tcHi zs m ls ml T) i) (fedH i) := fun o => hK4.below ((Below.refl _ _).alloc (Nat.le_refl _) o)
          have HK4 := Lib.hid hK4o
          clear hb4 hK4 hK4o hbc
          go_wp2_with fail
          rw [show 1000 * (i : Int) + a + b + (lo - (1000 * (i : Int) + a + b)) = lo by omega, show 1000 * (i : Int) + a + b + (lo - 1000 * (i : Int)) = hi' by rw [HHV.out]; omega, ← HTV.out]
          refine Calls.mono (feed_ok kb rb hb 5 i d 2 last t lo hi' _ _ _ (HK4.out _) (by omega) hlt (by have := HTV.out; omega) (by have := HTV.out; omega) (by have := HTV.out; omega) (by omega) (by have := HHV.out; omega) (by have := HHV.out; omega)) ?_
          rintro e w6 ⟨rfl, hK6, hs6, hB⟩
          have hb6 := (hb5.alloc hs5 _).trans (hB w.heap.size c1 c2 c3)
          have htn : t ≤ 1000 * ((i + 1 : Nat) : Int) := by have := HTV.out; omega
          have hRR : setRd (fedR (tcT zs m) (tcLo zs m ls ml T) (tcHi zs m ls ml T) i) i t lo hi' = fedR (tcT zs m) (tcLo zs m ls ml T) (tcHi zs m ls ml T) (i + 1) := by rw [HTT.out, HLO.out, HHI.out]; rfl
          rw [hRR] at hK6
          have HK6 := Lib.hid hK6; have HTN := Lib.hid htn
          clear hB hK6 hRR htn
          go_wp2_with fail
          go_roundw
          case rel => exact ⟨i + 1, t, by omega, by go_num, HTN.out, HK6.out, hb6⟩
          case measure => simp [intOf]; omega
        · go_wp2_with fail
          rw [← el.out]
          refine Calls.mono (linkOffset_ok _ _ _ _ _ HEX.out) ?_
          rintro e w4 ⟨rfl, hb4⟩
          have hK4 := HK2.out.below hb4
          have hb5 := hbc.trans (hb4.mono hbs)
          have hs5 := hb5.size
          have hK4o : ∀ o, Keep (w4.alloc o) kb rb hb 5 d 2 last (fedR (tcT zs m) (tcLo zs m ls ml T) (tcHi zs m ls ml T) i) (fedH i) := fun o => hK4.below ((Below.refl _ _).alloc (Nat.le_refl _) o)
          have HK4 := Lib.hid hK4o
          clear hb4 hK4 hK4o hbc
          go_wp2_with fail
          rw [show 1000 * (i : Int) + a + b + (lo - (1000 * (i : Int) + a + b)) = lo by omega, show 1000 * (i : Int) + a + b + (lo - 1000 * (i : Int)) = hi' by rw [HHV.out]; omega, ← HTV.out]
          refine Calls.mono (feed_ok kb rb hb 5 i d 2 last t lo hi' _ _ _ (HK4.out _) (by omega) hlt (by have := HTV.out; omega) (by have := HTV.out; omega) (by have := HTV.out; omega) (by omega) (by have := HHV.out; omega) (by have := HHV.out; omega)) ?_
          rintro e w6 ⟨rfl, hK6, hs6, hB⟩
          have hb6 := (hb5.alloc hs5 _).trans (hB w.heap.size c1 c2 c3)
          have htn : t ≤ 1000 * ((i + 1 : Nat) : Int) := by have := HTV.out; omega
          have hRR : setRd (fedR (tcT zs m) (tcLo zs m ls ml T) (tcHi zs m ls ml T) i) i t lo hi' = fedR (tcT zs m) (tcLo zs m ls ml T) (tcHi zs m ls ml T) (i + 1) := by rw [HTT.out, HLO.out, HHI.out]; rfl
          rw [hRR] at hK6
          have HK6 := Lib.hid hK6; have HTN := Lib.hid htn
          clear hB hK6 hRR htn
          go_wp2_with fail
          go_roundw
          case rel => exact ⟨i + 1, t, by omega, by go_num, HTN.out, HK6.out, hb6⟩
          case measure => simp [intOf]; omega
    · obtain rfl : i = 5 := by omega
      obtain ⟨f1, f2, f3⟩ := HFR.out
      obtain ⟨lo, hlo⟩ : ∃ x, x = (rdV (fedR (tcT zs m) (tcLo zs m ls ml T) (tcHi zs m ls ml T) 5) d 20000 5 2).lo := ⟨_, rfl⟩
      obtain ⟨hi', hhi⟩ : ∃ x, x = (rdV (fedR (tcT zs m) (tcLo zs m ls ml T) (tcHi zs m ls ml T) 5) d 20000 5 2).hi := ⟨_, rfl⟩
      rw [← hlo] at f2
      rw [← hhi] at f3
      have F1 := Lib.hid f1; have HLO := Lib.hid hlo; have HHI := Lib.hid hhi
      clear f1 hlo hhi
      go_wp2_with fail
      refine Calls.mono (read_ok kb rb hb 5 2 d last 20000 _ _ _ HK.out d1 (by omega) (by omega) (fun j hj => fedH_true 5 j hj) (tc_rds zs m ls ml T m1 m2) (by omega) (by omega) F1.out) ?_
      rw [← HLO.out, ← HHI.out]
      rintro e w2 ⟨rfl, hb2⟩
      have hb3 := hbw.trans (hb2.mono hbs)
      clear hb2 hbw
      go_wp2_with fail
      go_ret
      exact ⟨ret_bool (by simp <;> omega), hb3.alloc hb3.size _⟩

end Go.Proofs.Ytmeppcoekmoofaa
