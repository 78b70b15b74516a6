/- The contracts of agree.Most and agree.Within. -/
import Derived.Test.YtocdboopmfgkpaaDoorAgreeMost
namespace Go.Proofs.YtocdboopmfgkpaaDoor
open Go.RowKit
set_option linter.unusedSimpArgs false
set_option linter.unusedVariables false


theorem wH_bounds {zs : List Int} {n : Nat} (hS : SpOk zs n) (need : Int) : ∀ s t, (-500000000000000000 ≤ s.lo ∧ s.lo ≤ 500000000000000000 ∧ -500000000000000000 ≤ s.hi ∧ s.hi ≤ 500000000000000000) → -500000000000000000 ≤ t → t ≤ 500000000000000000 →
    (-500000000000000000 ≤ (hStep zs n need s t).lo ∧ (hStep zs n need s t).lo ≤ 500000000000000000 ∧ -500000000000000000 ≤ (hStep zs n need s t).hi ∧ (hStep zs n need s t).hi ≤ 500000000000000000) := by
  intro s t h h1 h2
  unfold hStep
  split
  · exact h
  · split <;> (dsimp only; omega)

/-- What Within tells. -/
def withinV (zs : List Int) (n : Nat) (need : Int) : Value := .tuple #[.agg #[.int .i64 (wH zs n need n).lo, .int .i64 (wH zs n need n).hi], .int .i64 (if (wH zs n need n).is then 0 else 6)]

theorem hStep_none (zs : List Int) (n : Nat) (need : Int) (s : Hull) (t : Int) (hs : s.is = false → s.lo = 0 ∧ s.hi = 0) : (hStep zs n need s t).is = false → (hStep zs n need s t).lo = 0 ∧ (hStep zs n need s t).hi = 0 := by
  unfold hStep
  split
  · exact hs
  · split <;> simp
theorem wH_none (zs : List Int) (n : Nat) (need : Int) (k : Nat) : (wH zs n need k).is = false → (wH zs n need k).lo = 0 ∧ (wH zs n need k).hi = 0 := by
  induction k with
  | zero => simp [wH]
  | succ k ih => exact hStep_none _ _ _ _ _ (hStep_none _ _ _ _ _ ih)

set_option maxRecDepth 100000 in
set_option maxHeartbeats 8000000 in
theorem within_any (A : Option Addr) (n cap : Nat) (zs : List Int) (need : Int) (w : World) (h : FlatSl w 2 A n cap zs) (hS : SpOk zs n) (hn1 : 1 ≤ need) (hn2 : need ≤ n) :
    Calls Tryd.prog 33 #[.slice A n cap, .int .i64 need] w fun e w' => e = .returned (withinV zs n need) ∧ Below w.heap.size w w' := by
  have hf := hS.few
  have hF := Lib.hid h
  obtain ⟨b, off, hA, hcell⟩ := h.at' hS.some
  subst hA
  have hb := World.block_lt_of_cell? w _ (hcell 0 (by have := hS.some; omega))
  have HC := Lib.hid hcell; clear hcell h
  go_enter Tryd.func33, Tryd.ntmps33
  go_wp2_with fail
  refine Calls.mono (agreeCheck_ok _ _ _ _ _ (hF.out.atop (by omega) _) hS) ?_
  rintro e w1 ⟨rfl, hb⟩
  have B0 := (SpBox.new w 0 0).below hb
  obtain ⟨hb1, hz1, hc1, hf1⟩ := took (w := w) (by repeat' (first | (with_reducible refine below_drewN ?_ _) | go_grown)) (by first | (simp only [World.size_alloc, World.size_setCell, World.size_drew, size_drewN]; done) | (simp only [World.size_alloc, World.size_setCell, World.size_drew, size_drewN]; rfl) | rfl) hb; clear hb
  have hk1 := hF.out.keep (by omega) hb1
  have z1 : w.heap.size < w1.heap.size := by omega
  go_wp2_with fail
  have B1 := B0.alloc (.cells #[.int .i64 0, .int .i64 0] 65)
  have B2 := SpBox.new w1 0 0
  go_loopw [8, 31] (fun v i wr => ∃ (k : Nat) (s : Hull), k ≤ n ∧ i = .int .i64 k ∧ wH zs n need k = s ∧ v = .bool s.is ∧ (-500000000000000000 ≤ s.lo ∧ s.lo ≤ 500000000000000000 ∧ -500000000000000000 ≤ s.hi ∧ s.hi ≤ 500000000000000000) ∧ SpBox wr w.heap.size 0 0 ∧ SpBox wr w1.heap.size s.lo s.hi ∧ Below w.heap.size w wr) (fun _ i _ => n - (intOf i).toNat)
  case atStart => exact ⟨0, ⟨false, 0, 0⟩, by omega, rfl, rfl, rfl, by decide, B1, B2, (by repeat' (first | (with_reducible refine below_drewN ?_ _) | go_grown))⟩
  case round =>
    obtain ⟨k, s, hk, rfl, hM, rfl, hsb, b0, b2, hbw⟩ := hrel
    have hbs := hbw.size
    have HM := Lib.hid hM; clear hM
    by_cases hlt : k < n
    · obtain ⟨c0, c1, hbl⟩ := leap_cells HC.out hb hbw hlt
      obtain ⟨g1, g2, g3⟩ := hS.each k hlt
      obtain ⟨x, hx⟩ : ∃ x, x = ix zs (k * 2) := ⟨_, rfl⟩
      obtain ⟨y, hy⟩ : ∃ y, y = ix zs (k * 2 + 1) := ⟨_, rfl⟩
      rw [← hx] at c0 g1 g2
      rw [← hy] at c1 g2 g3
      have hnx : wH zs n need (k + 1) = hStep zs n need (hStep zs n need s x) y := by
        show hStep zs n need (hStep zs n need (wH zs n need k) _) _ = _
        rw [HM.out, hx, hy]
      have HN := Lib.hid hnx; clear hnx
      have HX := Lib.hid hx; have HY := Lib.hid hy; clear hx hy
      have b0' := b0.alloc (.cells #[.int .i64 x, .int .i64 y] 65)
      have b2' := b2.alloc (.cells #[.int .i64 x, .int .i64 y] 65)
      have hbw' := hbw.alloc hbs (.cells #[.int .i64 x, .int .i64 y] 65)
      have lt2 := b2.lt
      have ne0 : w.heap.size ≠ w1.heap.size := by omega
      have i0 : ∀ w, (Instr.index 39 (.agg #[.int .i64 x, .int .i64 y]) (.int .i64 0)).run Tryd.prog w = .ok (.int .i64 x) w := fun _ => by kernel_rfl
      have i1 : ∀ w, (Instr.index 39 (.agg #[.int .i64 x, .int .i64 y]) (.int .i64 1)).run Tryd.prog w = .ok (.int .i64 y) w := fun _ => by kernel_rfl
      clear b0 b2
      go_wp2_with fail
      go_loopw [8, 40] (fun v i wv => ∃ (q : Nat) (u : Hull), q ≤ 2 ∧ i = .int .i64 q ∧ (if q = 0 then s else if q = 1 then hStep zs n need s x else hStep zs n need (hStep zs n need s x) y) = u ∧ v = .bool u.is ∧ (-500000000000000000 ≤ u.lo ∧ u.lo ≤ 500000000000000000 ∧ -500000000000000000 ≤ u.hi ∧ u.hi ≤ 500000000000000000) ∧ SpBox wv w.heap.size 0 0 ∧ SpBox wv w1.heap.size u.lo u.hi ∧ Below w.heap.size w wv) (fun _ i _ => 2 - (intOf i).toNat)
      case atStart => exact ⟨0, s, by omega, rfl, rfl, rfl, hsb, b0', b2', hbw'⟩
      case round =>
        obtain ⟨q, u, hq, rfl, hU, rfl, hub, v0, v2, hbu⟩ := hrel
        have hbus := hbu.size
        have HU := Lib.hid hU; clear hU
        clear b0' b2' hbw'
        by_cases hq2 : q < 2
        · have key : ∃ t, (∀ w, (Instr.index 39 (.agg #[.int .i64 x, .int .i64 y]) (.int .i64 q)).run Tryd.prog w = .ok (.int .i64 t) w) ∧ -500000000000000000 ≤ t ∧ t ≤ 500000000000000000 ∧ (if q + 1 = 0 then s else if q + 1 = 1 then hStep zs n need s x else hStep zs n need (hStep zs n need s x) y) = hStep zs n need u t := by
            match q, hq2, HU with
            | 0, _, HU => exact ⟨x, i0, g1, by omega, by have := HU.out; simp at this; rw [← this]; rfl⟩
            | 1, _, HU => exact ⟨y, i1, by omega, g3, by have := HU.out; simp at this; rw [← this]; rfl⟩
          obtain ⟨t, it, t1, t2, ht⟩ := key
          have HT := Lib.hid ht; clear ht i0 i1
          have hbd := wH_bounds hS need u t hub t1 t2
          obtain ⟨d, hd⟩ : ∃ d, d = dep zs t n := ⟨_, rfl⟩
          have hd40 : d ≤ 40 := by rw [hd]; exact Nat.le_trans (dep_le _ _ _) hf
          have hst : hStep zs n need u t = if (d : Int) < need then u else if u.is then ⟨true, min u.lo t, max u.hi t⟩ else ⟨true, t, t⟩ := by rw [hd]; rfl
          have HS := Lib.hid hst; have HD := Lib.hid hd; have HB := Lib.hid hbd; clear hst hd hbd
          go_wp2_with fail
          refine Calls.mono (depth_ok _ _ _ zs _ _ (hF.out.keep (by omega) hbu) hf) ?_
          rintro e w3 ⟨rfl, hb3⟩
          rw [← HD.out]
          have v0' := v0.below hb3
          have v2' := v2.below hb3
          have hb4 := hbu.trans (hb3.mono hbus)
          have hbs4 := hb4.size
          clear v0 v2 hb3 hbu
          by_cases q1 : (d : Int) < need
          · have R := HS.out
            rw [if_pos q1] at R
            have R2 := Lib.hid (HT.out.trans R); clear R
            go_wp2_with fail
            go_roundw
            case rel => exact ⟨q + 1, u, by omega, by go_num, R2.out, rfl, hub, v0', v2', hb4⟩
            case measure => simp [intOf]; omega
          · obtain ⟨uis, ulo, uhi⟩ := u
            have f0 := v2'.c0
            have f1 := v2'.c1
            have f2 := v2'.free 0
            have f3 := v2'.free 1
            have lt3 := v2'.lt
            obtain ⟨h1, h2, h3, h4⟩ := hub
            simp only at h1 h2 h3 h4 f0 f1
            have R := HS.out
            rw [if_neg q1] at R
            cases uis
            · simp only [Bool.false_eq_true, if_false] at R
              have RB := HB.out
              rw [R] at RB
              have R2 := Lib.hid (HT.out.trans R); have RB2 := Lib.hid RB; clear R RB
              go_wp2_with fail
              go_roundw
              case rel =>
                refine ⟨q + 1, _, by omega, by go_num, R2.out, rfl, RB2.out, ?_, ?_, ?_⟩
                · exact (((v0'.other ne0 _).other ne0 _).other ne0 _).other ne0 _
                · exact (v2'.set _ _).set _ _
                · have z3 : w.heap.size ≤ w1.heap.size := by omega
                  exact (((hb4.setCell z3 _).setCell z3 _).setCell z3 _).setCell z3 _
              case measure => simp [intOf]; omega
            · simp only [if_true] at R
              have RB := HB.out
              rw [R] at RB
              have R2 := Lib.hid (HT.out.trans R); have RB2 := Lib.hid RB; clear R RB
              go_wp2_with fail
              go_roundw
              case rel =>
                refine ⟨q + 1, _, by omega, by go_num, R2.out, rfl, RB2.out, ?_, ?_, ?_⟩
                · exact (v0'.other ne0 _).other ne0 _
                · exact v2'.set _ _
                · have z3 : w.heap.size ≤ w1.heap.size := by omega
                  exact (hb4.setCell z3 _).setCell z3 _
              case measure => simp [intOf]; omega
        · obtain rfl : q = 2 := by omega
          have hU2 := HU.out
          simp at hU2
          have R := Lib.hid (HN.out.trans hU2); clear hU2
          go_wp2_with fail
          go_roundw
          case rel => exact ⟨k + 1, u, by omega, by go_num, R.out, rfl, hub, v0, v2, hbu⟩
          case measure => simp [intOf]; omega
    · obtain rfl : k = n := by omega
      obtain ⟨sis, slo, shi⟩ := s
      have hno : sis = false → slo = 0 ∧ shi = 0 := fun h => by have := wH_none zs k need k; rw [HM.out] at this; exact this h
      have f0 := b2.c0
      have f1 := b2.c1
      have f2 := b0.free 0
      have f3 := b0.free 1
      have f4 := b0.c0
      have f5 := b0.c1
      have lt2 := b2.lt
      have ne0 : w.heap.size ≠ w1.heap.size := by omega
      simp only at f0 f1
      cases sis
      · obtain ⟨rfl, rfl⟩ := hno rfl
        clear hno
        go_wp2_with fail
        refine bodyPost_ret (v := .tuple #[.agg #[.int .i64 0, .int .i64 0], .int .i64 6]) ?_ rfl ⟨by unfold withinV; rw [HM.out]; rfl, (by repeat' (first | (with_reducible refine below_drewN ?_ _) | go_grown))⟩
        simp [results, Tryd.results33, go_sem, f4, f5]
      · clear hno
        go_wp2_with fail
        refine bodyPost_ret (v := .tuple #[.agg #[.int .i64 slo, .int .i64 shi], .int .i64 0]) ?_ rfl ⟨by unfold withinV; rw [HM.out]; rfl, (by repeat' (first | (with_reducible refine below_drewN ?_ _) | go_grown))⟩
        simp [results, Tryd.results33, go_sem, f4, f5]

end Go.Proofs.YtocdboopmfgkpaaDoor
