/- sEvents: the constraints that the top laws make of what comes in. (Written by a program of mine out of XEvents: the same text over sEvents, sAt.) -/
import Derived.Test.YtmeppcoekmoofaaEvAny
namespace Go.Proofs.Ytmeppcoekmoofaa
open Go.RowKit
set_option linter.unusedSimpArgs false
set_option linter.unusedVariables false

set_option maxHeartbeats 400000 in
theorem sAt_any (k n : Int) (w : World) (hn : 1 ≤ n) (hn' : n ≤ 4611686018427387904) :
    Calls Try.prog 36 #[.int .i64 k, .int .i64 n] w fun e w' => e = .returned (.int .i64 (k % n)) ∧ w = w' := by
  go_enter Try.func36, Try.ntmps36
  go_wp2
  go_ret
  exact ⟨ret_int (at_eq k n hn hn'), rfl⟩

set_option maxRecDepth 100000 in
set_option maxHeartbeats 8000000 in
theorem sEvents_many (Ad : Option Addr) (nd capd : Nat) (zd : List Int) (Al : Option Addr) (ml capl : Nat) (zl : List Int) (w : World) (hd : FlatSl w 1 Ad nd capd zd) (hl : FlatSl w 4 Al ml capl zl) (h2 : 2 ≤ nd) :
    Calls Try.prog 35 #[.slice Ad nd capd, .slice Al ml capl] w (EvPost zd zl (min nd 8) (min ml 20) w) := by
  obtain ⟨iB, hB0, hB1, hB2, hB3⟩ := info_parts Try.infoBd
  obtain ⟨dle, dmost, dlen, dat⟩ := hd
  obtain ⟨lle, lmost, llen, lat⟩ := hl
  have HD := Lib.hid dlen; have HL := Lib.hid llen; clear dlen llen
  have dm : nd ≤ 9223372036854775807 := by unfold maxLen at dmost; omega
  have lm : ml ≤ 9223372036854775807 := by unfold maxLen at lmost; omega
  clear dmost lmost
  obtain ⟨bd, od, rfl, dcell⟩ := dat (by omega)
  have hbd := World.block_lt_of_cell? w _ (dcell 0 (by omega))
  have DC := Lib.hid dcell; clear dcell dat
  obtain ⟨n, hn⟩ : ∃ n, n = min nd 8 := ⟨_, rfl⟩
  have n2 : 2 ≤ n := by omega
  have n8 : n ≤ 8 := by omega
  have nn : n ≤ nd := by omega
  have e0 : min (nd : Int) 8 = (n : Int) := by omega
  rw [← hn]
  have HN := Lib.hid hn; have E0 := Lib.hid e0; clear hn e0
  go_enter Try.func35, Try.ntmps35
  go_wp2_with fail
  rw [E0.out]
  go_loopw [7, 18] (fun v i wr => ∃ k : Nat, k ≤ ml ∧ k ≤ 20 ∧ i = .int .i64 k ∧ wr.ownsRow w.heap.size 64 4 v k ((evNums zd zl n k).map (Value.int .i64)) ∧ Below w.heap.size w wr)
    (fun _ i _ => ml - (intOf i).toNat)
  case atStart => exact ⟨0, by omega, by omega, rfl, World.ownsRow_nil _ _ _ _, Below.refl _ _⟩
  case round =>
    obtain ⟨k, hk, hk20, rfl, hown, hbw⟩ := hrel
    have hbs := hbw.size
    by_cases hlt : k < ml
    · obtain ⟨b, off, rfl, hcell⟩ := lat (by omega)
      obtain ⟨c0, c1, c2, c3, hbl⟩ := bd_cells hcell (World.block_lt_of_cell? w _ (hcell 0 (by omega))) hbw hlt
      simp only [bdAt] at c0 c1 c2 c3
      clear hcell lat
      by_cases h20 : k = 20
      · subst h20
        go_wp2_with fail
        go_returns
        refine ⟨_, rfl, ?_, hbw.alloc hbs _⟩
        rw [show min ml 20 = 20 by omega]
        exact hown.alloc _
      · have q1 : ((k : Int) == 20) = false := by simp; omega
        obtain ⟨a0, a1⟩ := evA_bounds zl k n2
        obtain ⟨b0, b1, -⟩ := evB_bounds zl k n2
        obtain ⟨a, ha⟩ : ∃ a : Nat, evA zl n k = (a : Int) := ⟨(evA zl n k).toNat, by omega⟩
        obtain ⟨c, hc⟩ : ∃ c : Nat, evB zl n k = (c : Int) := ⟨(evB zl n k).toNat, by omega⟩
        have hA2 : ix zl (k * 4) % (n : Int) = (a : Int) := ha
        rw [ha] at a0 a1
        rw [hc] at b0 b1
        have HA2 := Lib.hid hA2; have HA := Lib.hid ha; have HCc := Lib.hid hc; clear hA2 ha hc
        obtain ⟨bb, hbb⟩ : ∃ bb, bb = ix zl (k * 4 + 1) % ((n : Int) - 1) := ⟨_, rfl⟩
        have bb0 : 0 ≤ bb := by rw [hbb]; exact Int.emod_nonneg _ (by omega)
        have bb1 : bb < (n : Int) - 1 := by rw [hbb]; exact Int.emod_lt_of_pos _ (by omega)
        have hc2 : ((a : Int) + 1 + bb).tmod (n : Int) = (c : Int) := by
          rw [Int.tmod_eq_emod_of_nonneg (by omega), hbb, ← HA.out]; exact HCc.out
        have hc3 : ((a : Int) + 1 + bb) % (n : Int) = (c : Int) := by
          rw [hbb, ← HA.out]; exact HCc.out
        have HBB := Lib.hid hbb; clear hbb
        obtain ⟨x, hx⟩ : ∃ x, x = (ix zd c).tmod 10000 := ⟨_, rfl⟩
        obtain ⟨y, hy⟩ : ∃ y, y = (ix zd a).tmod 10000 := ⟨_, rfl⟩
        have x0 : -10000 < x := by rw [hx]; exact Int.lt_tmod_of_pos _ (by omega)
        have x1 : x < 10000 := by rw [hx]; exact Int.tmod_lt_of_pos _ (by omega)
        have y0 : -10000 < y := by rw [hy]; exact Int.lt_tmod_of_pos _ (by omega)
        have y1 : y < 10000 := by rw [hy]; exact Int.tmod_lt_of_pos _ (by omega)
        obtain ⟨lo, hlo⟩ : ∃ z, z = ix zl (k * 4 + 2) % 50 := ⟨_, rfl⟩
        obtain ⟨hi, hhi⟩ : ∃ z, z = ix zl (k * 4 + 3) % 50 := ⟨_, rfl⟩
        have lo0 : 0 ≤ lo ∧ lo < 50 := by omega
        have hi0 : 0 ≤ hi ∧ hi < 50 := by omega
        obtain ⟨lo0, lo1⟩ := lo0
        obtain ⟨hi0, hi1⟩ := hi0
        have hnx : evNums zd zl n (k + 1) = evNums zd zl n k ++ [(a : Int), (c : Int), x - y - lo, x - y + hi] := by
          show _ ++ _ = _
          unfold evLo evHi evDiff evD
          rw [HA.out, HCc.out, hlo, hhi, hx, hy]; rfl
        have HX := Lib.hid hx; have HY := Lib.hid hy; have HLO := Lib.hid hlo; have HHI := Lib.hid hhi; have HNX := Lib.hid hnx
        clear hx hy hlo hhi hnx
        have d1 : wr.cell? ⟨bd, od + c, none⟩ = some (.int .i64 (ix zd c)) := (hbw.cell (p := ⟨bd, od + c, none⟩) hbd).trans (DC.out c (by omega))
        have d2 : wr.cell? ⟨bd, od + a, none⟩ = some (.int .i64 (ix zd a)) := (hbw.cell (p := ⟨bd, od + a, none⟩) hbd).trans (DC.out a (by omega))
        have d3 : bd < wr.heap.size := by omega
        have i1 : (a : Int) < (nd : Int) := by omega
        have i2 : (c : Int) < (nd : Int) := by omega
        go_wp2_with fail
        refine Calls.mono (sAt_any _ _ _ (by omega) (by omega)) ?_
        rintro e _ ⟨rfl, rfl⟩
        rw [HA2.out]
        go_wp2_with fail
        refine Calls.mono (sAt_any _ _ _ (by omega) (by omega)) ?_
        rintro e _ ⟨rfl, rfl⟩
        rw [← HBB.out]
        go_wp2_with fail
        go_quiet (fail)
        rw [← HX.out, ← HY.out, IntWalk.wrap64_in (x - y) (by omega)]
        go_wp2_with fail
        obtain ⟨W, hW⟩ : ∃ W, W = (wr.alloc (.cells #[.int .i64 (ix zl (k * 4)), .int .i64 (ix zl (k * 4 + 1)), .int .i64 (ix zl (k * 4 + 2)), .int .i64 (ix zl (k * 4 + 3))] 64)).drewN nq := ⟨_, rfl⟩
        rw [← hW]
        have hoW : W.ownsRow w.heap.size 64 4 u7 k ((evNums zd zl n k).map (Value.int .i64)) := by rw [hW]; exact hown.alloc _
        have hbW : Below w.heap.size w W := by rw [hW]; exact below_drewN (hbw.alloc hbs _) _
        have g2 : W.cell? ⟨wr.heap.size, 2, none⟩ = some (.int .i64 (ix zl (k * 4 + 2))) := by rw [hW]; simp [go_sem]
        have g3 : W.cell? ⟨wr.heap.size, 3, none⟩ = some (.int .i64 (ix zl (k * 4 + 3))) := by rw [hW]; simp [go_sem]
        have g4 : wr.heap.size < W.heap.size := by rw [hW]; simp
        have g5 : ∀ q, u7.ownBlock = some q → q < wr.heap.size := fun q hq => (hown.lt q hq).2
        have n1 : some wr.heap.size ≠ u7.ownBlock := fun e => by have := g5 _ e.symm; omega
        have e1 : IntKind.i64.wrap (x - y - ix zl (k * 4 + 2) % 50) = x - y - ix zl (k * 4 + 2) % 50 := IntWalk.i64_in _ (by omega)
        have e2 : IntKind.i64.wrap (x - y + ix zl (k * 4 + 3) % 50) = x - y + ix zl (k * 4 + 3) % 50 := IntWalk.i64_in _ (by omega)
        have hbWs := hbW.size
        clear hW hown hbw hbs g5 d1 d2 c0 c1 c2 c3 hc2 hc3
        go_region_held3 (fun w' => w'.cell? ⟨wr.heap.size, 2, none⟩ = some (.int .i64 (ix zl (k * 4 + 2))) ∧ w'.cell? ⟨wr.heap.size, 3, none⟩ = some (.int .i64 (ix zl (k * 4 + 3))))
          (first
            | go_keep
            | (go_split_ands
               refine ⟨?_, ?_⟩
               · (rw [hgrow.cell_far _ (by simp; omega) n1]; assumption)
               · (rw [hgrow.cell_far _ (by simp; omega) n1]; assumption)))
          ((first | (go_at_call 36; refine Calls.mono (sAt_any _ _ _ (by omega) (by omega)) ?_; rintro e _ ⟨rfl, rfl⟩) | (refine step_append_any (by rfl) _ _ _ (by rfl) w.heap.size 64 iB _ 4 32 Try.underlying23 hB0 hB1 hB2 hB3 rfl (by omega) u7 k ((evNums zd zl n k).map (Value.int .i64)) (by rfl) ((hoW.alloc _).drew) ⟨W.heap.size, 0, none⟩ 1 1 [.int .i64 a, .int .i64 c, .int .i64 (x - y - ix zl (k * 4 + 2) % 50), .int .i64 (x - y + ix zl (k * 4 + 3) % 50)] (by rfl) (by rfl) (World.news_of_block (cs := #[.int .i64 a, .int .i64 c, .int .i64 (x - y - ix zl (k * 4 + 2) % 50), .int .i64 (x - y + ix zl (k * 4 + 3) % 50)]) (t := 64) (fr := (0, 0)) (heap_alloc_new W _)) (by simp [Value.oneCell']) (by unfold maxLen; omega) (by omega) (by simp; omega) ?_; intro v' w3 hown' hgrow hat)))
        all_goals trace "way"
        all_goals
          have R1 : Hid (w3.ownsRow w.heap.size 64 4 v' (k + 1) ((evNums zd zl n (k + 1)).map (Value.int .i64))) := Lib.hid (by rw [HNX.out, HLO.out, HHI.out]; simpa only [List.map_append, List.map_cons, List.map_nil] using hown')
          have hb4 := (hbW.alloc hbWs (.cells #[.int .i64 a, .int .i64 c, .int .i64 (x - y - ix zl (k * 4 + 2) % 50), .int .i64 (x - y + ix zl (k * 4 + 3) % 50)] 64)).drew.grown hgrow (by simp; omega) (fun q hq => (hoW.lt q hq).1)
          clear hown' hgrow hat hoW n1 g2 g3
          go_wp2_with fail
          go_roundw
          case rel => exact ⟨k + 1, by omega, by omega, by go_num, R1.out, hb4⟩
          case measure => simp [intOf]; omega
    · obtain rfl : k = ml := by omega
      go_wp2_with fail
      go_returns
      refine ⟨_, rfl, ?_, hbw⟩
      rw [show min k 20 = k by omega]
      exact hown

set_option maxRecDepth 100000 in
set_option maxHeartbeats 4000000 in
theorem sEvents_few (Ad : Option Addr) (nd capd : Nat) (zd : List Int) (Al : Option Addr) (ml capl : Nat) (zl : List Int) (w : World) (hl : FlatSl w 4 Al ml capl zl) (h2 : nd < 2) :
    Calls Try.prog 35 #[.slice Ad nd capd, .slice Al ml capl] w (EvPost zd zl nd 0 w) := by
  obtain ⟨lle, lmost, llen, lat⟩ := hl
  have HL := Lib.hid llen; clear llen
  have lm : ml ≤ 9223372036854775807 := by unfold maxLen at lmost; omega
  clear lmost
  have e0 : min (nd : Int) 8 = (nd : Int) := by omega
  have E0 := Lib.hid e0; clear e0
  go_enter Try.func35, Try.ntmps35
  go_wp2_with fail
  rw [E0.out]
  go_loopw [7, 18] (fun v i wr => v = .slice none 0 0 ∧ i = .int .i64 0 ∧ Below w.heap.size w wr) (fun _ i _ => ml - (intOf i).toNat)
  case atStart => exact ⟨rfl, rfl, Below.refl _ _⟩
  case round =>
    obtain ⟨rfl, rfl, hbw⟩ := hrel
    have hbs := hbw.size
    by_cases hlt : 0 < ml
    · obtain ⟨b, off, rfl, hcell⟩ := lat (by omega)
      obtain ⟨c0, c1, c2, c3, hbl⟩ := bd_cells hcell (World.block_lt_of_cell? w _ (hcell 0 (by omega))) hbw hlt
      simp only [bdAt, Nat.zero_mul, Nat.add_zero, Nat.zero_add] at c0 c1 c2 c3
      clear hcell lat
      go_wp2_with fail
      go_returns
      exact ⟨_, rfl, World.ownsRow_nil _ _ _ _, hbw.alloc hbs _⟩
    · obtain rfl : ml = 0 := by omega
      go_wp2_with fail
      go_returns
      exact ⟨_, rfl, World.ownsRow_nil _ _ _ _, hbw⟩

theorem sEvents_any (Ad : Option Addr) (nd capd : Nat) (zd : List Int) (Al : Option Addr) (ml capl : Nat) (zl : List Int) (w : World) (hd : FlatSl w 1 Ad nd capd zd) (hl : FlatSl w 4 Al ml capl zl) :
    Calls Try.prog 35 #[.slice Ad nd capd, .slice Al ml capl] w (EvPost zd zl (min nd 8) (evQ nd ml) w) := by
  by_cases h : nd < 2
  · have e1 : min nd 8 = nd := by omega
    have e2 : evQ nd ml = 0 := by unfold evQ; rw [if_pos h]
    rw [e1, e2]
    exact sEvents_few Ad nd capd zd Al ml capl zl w hl h
  · have e2 : evQ nd ml = min ml 20 := by unfold evQ; rw [if_neg h]
    rw [e2]
    exact sEvents_many Ad nd capd zd Al ml capl zl w hd hl (by omega)

end Go.Proofs.Ytmeppcoekmoofaa
