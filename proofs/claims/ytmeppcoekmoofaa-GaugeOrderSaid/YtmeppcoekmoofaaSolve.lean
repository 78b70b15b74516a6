/- The contract of gauge.solve. -/
import Derived.Test.YtmeppcoekmoofaaGCheck
import Derived.Test.YtmeppcoekmoofaaGcd
namespace Go.Proofs.Ytmeppcoekmoofaa
open Go.RowKit
set_option linter.unusedSimpArgs false
set_option linter.unusedVariables false

theorem own_set1 {w : World} {base g n cap : Nat} {e : TypeId} {xs : List Value} (h : w.ownsRow base e 1 (.slice (some ⟨g, 0, none⟩) n cap) n xs) (j : Nat) (u : Value) :
    (w.setCell ⟨g, j, none⟩ u).ownsRow base e 1 (.slice (some ⟨g, 0, none⟩) n cap) n (xs.set j u) := by
  obtain ⟨h1, h2⟩ := h
  rcases h2 with ⟨hv, _⟩ | ⟨g', cap', cur, hv, hb, hg, hn, hm, hs, ht⟩
  · cases hv
  · simp only [Value.slice.injEq, Option.some.injEq, Addr.mk.injEq, true_and, and_true] at hv
    obtain ⟨rfl, rfl⟩ := hv
    refine ⟨by simpa using h1, Or.inr ⟨g, cap, cur.setIfInBounds j u, rfl, hb, ?_, hn, hm, by simpa using hs, ?_⟩⟩
    · simp [World.setCell, Array.getElem?_modify, hg]
    · rw [Array.toList_setIfInBounds, List.take_set, ht]
theorem own_cap {w : World} {base g n cap size : Nat} {e : TypeId} {xs : List Value} (h : w.ownsRow base e size (.slice (some ⟨g, 0, none⟩) n cap) n xs) : n ≤ cap := by
  rcases h.2 with ⟨h, _⟩ | ⟨_, _, _, h, _, _, h2, _⟩
  · cases h
  · simp only [Value.slice.injEq] at h; omega
theorem own_frozen {w : World} {base g n cap size : Nat} {e : TypeId} {xs : List Value} (h : w.ownsRow base e size (.slice (some ⟨g, 0, none⟩) n cap) n xs) (j : Nat) : w.frozen? ⟨g, j, none⟩ = false := by
  rcases h.2 with ⟨h, _⟩ | ⟨g', _, cur, h, _, hg, _⟩
  · cases h
  · simp only [Value.slice.injEq, Option.some.injEq, Addr.mk.injEq] at h
    obtain ⟨⟨rfl, _⟩, _⟩ := h
    simp [World.frozen?, hg]

/-- A fit in memory: its factors, its denominator. -/
def fitC (v : Value) (d : Int) : Nat → Value := fun i => if i = 0 then v else .int .i64 d
def FitBox (w : World) (b : Nat) (v : Value) (d : Int) : Prop := w.rowIs b 54 2 (fitC v d)
theorem FitBox.c0 {w : World} {b : Nat} {v : Value} {d : Int} (h : FitBox w b v d) : w.cell? ⟨b, 0, none⟩ = some v := World.rowIs.cell h (i := 0) (by omega)
theorem FitBox.c1 {w : World} {b : Nat} {v : Value} {d : Int} (h : FitBox w b v d) : w.cell? ⟨b, 1, none⟩ = some (.int .i64 d) := World.rowIs.cell h (i := 1) (by omega)
theorem FitBox.free {w : World} {b : Nat} {v : Value} {d : Int} (h : FitBox w b v d) (i : Nat) : w.frozen? ⟨b, i, none⟩ = false := World.rowIs.frozen h i
theorem FitBox.lt {w : World} {b : Nat} {v : Value} {d : Int} (h : FitBox w b v d) : b < w.heap.size := World.rowIs.lt h
theorem FitBox.below {w w' : World} {b : Nat} {v : Value} {d : Int} (h : FitBox w b v d) (hb : Below w.heap.size w w') : FitBox w' b v d := World.rowIs.of_block h (hb.block b (World.rowIs.lt h))
theorem FitBox.other {w : World} {b : Nat} {v : Value} {d : Int} (h : FitBox w b v d) {a : Addr} (ha : b ≠ a.block) (u : Value) : FitBox (w.setCell a u) b v d := World.rowIs.setOther h ha u
theorem FitBox.grown {w w' : World} {b : Nat} {v : Value} {d : Int} (h : FitBox w b v d) {row : Option Nat} (hg : w.grownBy w' row) (hr : ∀ q, row = some q → b ≠ q) : FitBox w' b v d :=
  World.rowIs.of_block h (hg.block b (World.rowIs.lt h) (fun e => hr b e.symm rfl))
theorem FitBox.new (w : World) (v : Value) (d : Int) : FitBox (w.alloc (.cells #[v, .int .i64 d] 54)) w.heap.size v d :=
  World.rowIs_alloc w #[v, .int .i64 d] 54 (fitC v d) (fun i hi => by
    match i, hi with
    | 0, _ => rfl
    | 1, _ => rfl)
theorem FitBox.set0 {w : World} {b : Nat} {v : Value} {d : Int} (h : FitBox w b v d) (u : Value) : FitBox (w.setCell ⟨b, 0, none⟩ u) b u d :=
  (World.rowIs.set h 0 u).congr (fun i hi => by
    match i, hi with
    | 0, _ => rfl
    | 1, _ => rfl)
theorem FitBox.set1 {w : World} {b : Nat} {v : Value} {d : Int} (h : FitBox w b v d) (u : Int) : FitBox (w.setCell ⟨b, 1, none⟩ (.int .i64 u)) b v u :=
  (World.rowIs.set h 1 (.int .i64 u)).congr (fun i hi => by
    match i, hi with
    | 0, _ => rfl
    | 1, _ => rfl)

def detN (n : Nat) (M : Gm) (r : Nat → Int) (k : Nat) : Int := detF n (colSet M k r)
/-- The factors, as they are told. -/
def facts (n : Nat) (M : Gm) (r : Nat → Int) : List Int := (List.range n).map fun k => (detN n M r k).tdiv (fitG (detF n M) (detN n M r) n)
def SolvePost (n : Nat) (M : Gm) (r : Nat → Int) (w : World) (e : Ending) (w' : World) : Prop :=
  Below w.heap.size w w' ∧ ((detF n M = 0 ∧ e = .returned (.tuple #[.agg #[.slice none 0 0, .int .i64 0], .int .i64 6])) ∨
    (detF n M ≠ 0 ∧ ∃ v, e = .returned (.tuple #[.agg #[v, .int .i64 ((detF n M).tdiv (fitG (detF n M) (detN n M r) n))], .int .i64 0]) ∧ w'.ownsRow w.heap.size 3 1 v n ((facts n M r).map (Value.int .i64))))

theorem colSet_small {n k : Nat} {M : Gm} {r : Nat → Int} (h : Small n M) (hr : ∀ i, i < n → -100000 ≤ r i ∧ r i ≤ 100000) : Small n (colSet M k r) := fun i j hi hj => by
  unfold colSet
  split
  · exact hr i hi
  · exact h i j hi hj
theorem fitG_bound {D : Int} {N : Nat → Int} {B : Int} (hD : -B ≤ D ∧ D ≤ B) (h0 : D ≠ 0) (k : Nat) : -B ≤ fitG D N k ∧ fitG D N k ≤ B := by
  have h := (fitG_dvd D N k).1
  have : (fitG D N k).natAbs ≤ D.natAbs := Nat.le_of_dvd (by omega) (Int.natAbs_dvd_natAbs.2 h)
  omega

set_option maxHeartbeats 1000000 in
theorem solve_zero (ob : Nat) (rb rc : Nat → Nat) (M : Gm) (r : Nat → Int) (gb n : Nat) (w : World) (hM : GMat w ob 0 n n rb rc M) (hS : Small n M) (n1 : 1 ≤ n) (n3 : n ≤ 3) (h0 : detF n M = 0) :
    Calls Try.prog 53 #[.slice (some ⟨ob, 0, none⟩) n n, .slice (some ⟨gb, 0, none⟩) n n] w (SolvePost n M r w) := by
  have H0 := Lib.hid h0; have HM := Lib.hid hM; have HS := Lib.hid hS
  clear hM h0 hS
  go_enter Try.func53, Try.ntmps53
  go_wp2_with fail
  refine Calls.mono (det_ok n n1 n3 _ _ _ _ _ _ _ (HM.out.below ((Below.refl _ _).alloc (Nat.le_refl _) _)) HS.out (Nat.le_refl _)) ?_
  rintro e w1 ⟨rfl, hb⟩
  rw [H0.out]
  have x0 : w1.cell? ⟨w.heap.size, 0, none⟩ = some (.slice none 0 0) := (hb.cell (p := ⟨w.heap.size, 0, none⟩) (by simp)).trans (by simp [go_sem])
  have x1 : w1.cell? ⟨w.heap.size, 1, none⟩ = some (.int .i64 0) := (hb.cell (p := ⟨w.heap.size, 1, none⟩) (by simp)).trans (by simp [go_sem])
  have x2 : w1.frozen? ⟨w.heap.size, 0, none⟩ = false := (hb.frozen (p := ⟨w.heap.size, 0, none⟩) (by simp)).trans (by simp [go_sem])
  have x3 : w1.frozen? ⟨w.heap.size, 1, none⟩ = false := (hb.frozen (p := ⟨w.heap.size, 1, none⟩) (by simp)).trans (by simp [go_sem])
  have hb1 : Below w.heap.size w w1 := ((Below.refl w.heap.size w).alloc (Nat.le_refl _) _).trans (hb.mono (by simp))
  have z0 : w.heap.size < w1.heap.size := by have := hb.size; simp at this; omega
  have hs1 := hb1.size
  clear hb
  go_wp2_with fail
  refine bodyPost_ret (v := .tuple #[.agg #[.slice none 0 0, .int .i64 0], .int .i64 6]) ?_ rfl ⟨(by repeat' (first | (with_reducible refine below_drewN ?_ _) | go_grown)), Or.inl ⟨H0.out, rfl⟩⟩
  simp [results, Try.results53, go_sem, *]

theorem seg_snoc (f : Nat → Int) (k : Nat) : seg f 0 (k + 1) = seg f 0 k ++ [f k] := by
  unfold seg
  rw [List.range_succ, List.map_append]
  simp

set_option maxRecDepth 100000 in
set_option maxHeartbeats 16000000 in
theorem solve_some (ob : Nat) (rb rc : Nat → Nat) (M : Gm) (r : Nat → Int) (gb n : Nat) (w : World) (hM : GMat w ob 0 n n rb rc M) (hR : ∀ i, i < n → w.cell? ⟨gb, i, none⟩ = some (.int .i64 (r i))) (hgb : gb < w.heap.size) (hS : Small n M) (hr : ∀ i, i < n → -100000 ≤ r i ∧ r i ≤ 100000) (n1 : 1 ≤ n) (n3 : n ≤ 3) (h0 : detF n M ≠ 0) :
    Calls Try.prog 53 #[.slice (some ⟨ob, 0, none⟩) n n, .slice (some ⟨gb, 0, none⟩) n n] w (SolvePost n M r w) := by
  obtain ⟨iI, hI0, hI1, hI2, hI3⟩ := info_parts Try.infoGi
  obtain ⟨iR, hR0, hR1, hR2, hR3⟩ := info_parts Try.infoGr
  have hDb := detF_bound n1 n3 hS
  have hD6 : -6000000000000000 ≤ detF n M ∧ detF n M ≤ 6000000000000000 := by
    unfold dB at hDb; split at hDb <;> (try split at hDb) <;> omega
  have hN6 : ∀ k, -6000000000000000 ≤ detN n M r k ∧ detN n M r k ≤ 6000000000000000 := fun k => by
    have := detF_bound n1 n3 (colSet_small (k := k) hS hr)
    unfold detN
    unfold dB at this; split at this <;> (try split at this) <;> omega
  obtain ⟨D, hD⟩ : ∃ D, D = detF n M := ⟨_, rfl⟩
  obtain ⟨N, hN⟩ : ∃ N, N = detN n M r := ⟨_, rfl⟩
  have hG6 : ∀ k, -6000000000000000 ≤ fitG D N k ∧ fitG D N k ≤ 6000000000000000 := fun k => fitG_bound (by rw [hD]; exact hD6) (by rw [hD]; exact h0) k
  rw [← hD] at hD6 h0
  rw [← hN] at hN6
  have HM := Lib.hid hM; have HS := Lib.hid hS; have HR := Lib.hid hR; have HRR := Lib.hid hr; have HD := Lib.hid hD; have HN := Lib.hid hN; have HN6 := Lib.hid hN6; have HG6 := Lib.hid hG6; have H0 := Lib.hid h0
  have d0 : (D == 0) = false := by simpa using h0
  have q3 : (n : Int) ≤ 3 := by omega
  clear hM hS hR hr hD hN hN6 hG6 hDb h0
  go_enter Try.func53, Try.ntmps53
  go_wp2_with fail
  refine Calls.mono (det_ok n n1 n3 _ _ _ _ _ _ _ (HM.out.below ((Below.refl _ _).alloc (Nat.le_refl _) _)) HS.out (Nat.le_refl _)) ?_
  rintro e w1 ⟨rfl, hb⟩
  rw [← HD.out]
  have F0 := (FitBox.new w (.slice none 0 0) 0).below hb
  have hb1 : Below w.heap.size w w1 := ((Below.refl w.heap.size w).alloc (Nat.le_refl _) _).trans (hb.mono (by simp))
  have z0 : w.heap.size < w1.heap.size := F0.lt
  have hs1 := hb1.size
  clear hb
  go_wp2_with fail
  have F1 : FitBox (w1.alloc (.cells #[.slice none 0 0, .int .i64 D] 54)) w.heap.size (.slice none 0 0) 0 := F0.below ((Below.refl _ _).alloc (Nat.le_refl _) _)
  have F2 := FitBox.new w1 (.slice none 0 0) D
  have hb2 := hb1.alloc hs1 (.cells #[.slice none 0 0, .int .i64 D] 54)
  obtain ⟨bf, hbf⟩ : ∃ bf, bf = w1.heap.size := ⟨_, rfl⟩
  rw [← hbf] at F2
  rw [← hbf]
  have zf : w.heap.size < bf := by omega
  clear F0 hb1 hs1 z0 hbf
  go_loopw [7, 25] (fun g' k' wv => ∃ (k : Nat) (v : Value), k ≤ n ∧ k' = .int .i64 k ∧ g' = .int .i64 (fitG D N k) ∧ FitBox wv w.heap.size (.slice none 0 0) 0 ∧ FitBox wv bf v D ∧ wv.ownsRow (bf + 1) 3 1 v k ((seg N 0 k).map (Value.int .i64)) ∧ Below w.heap.size w wv) (fun _ k' _ => n - (intOf k').toNat)
  case atStart => exact ⟨0, _, by omega, rfl, rfl, F1, F2, World.ownsRow_nil _ _ _ _, hb2⟩
  case round =>
    clear F1 F2 hb2
    obtain ⟨k, v, hk, rfl, rfl, F1, F2, hown, hbw⟩ := hrel
    obtain ⟨g, hg⟩ : ∃ g, g = fitG D N k := ⟨_, rfl⟩
    have g6 := HG6.out k
    rw [← hg] at g6
    rw [← hg]
    have HGG := Lib.hid hg
    clear hg
    have hbs := hbw.size
    by_cases hkn : k < n
    · have k0 : (0 : Int) ≤ (k : Int) := by omega
      have k1 : (k : Int) < (n : Int) := by omega
      go_wp2_with fail
      obtain ⟨wo, hwo⟩ : ∃ wo, wo = wr := ⟨_, rfl⟩
      rw [← hwo] at F1 F2 hown hbw hbs
      have HW : Hid (Below wo.heap.size wo wr) := Lib.hid (by rw [hwo]; exact Below.refl _ _)
      have HO := Lib.hid hown
      clear hwo hown
      go_loopw [9, 30] (fun c i' wv => ∃ (i : Nat) (rb' rc' : Nat → Nat), i ≤ n ∧ i' = .int .i64 i ∧ GLay wv wo.heap.size n i c rb' rc' (colSet M k r) ∧ Below wo.heap.size wo wv) (fun _ i' _ => n - (intOf i').toNat)
      case atStart => exact ⟨0, fun _ => 0, fun _ => 0, by omega, rfl, GLay.start _ _ _ _ _ _, HW.out⟩
      case round =>
        clear HW
        obtain ⟨i, rb', rc', hi, rfl, hL, hbo⟩ := hrel
        have hbos := hbo.size
        have HL := Lib.hid hL; clear hL
        by_cases hin : i < n
        · have i0 : (0 : Int) ≤ (i : Int) := by omega
          have i1 : (i : Int) < (n : Int) := by omega
          have hbv := hbw.trans (hbo.mono hbs)
          have hMr := HM.out.below hbv
          have y0 := hMr.out i hin
          rw [Nat.zero_add] at y0
          have y1 := hMr.lt
          obtain ⟨ri, hri⟩ : ∃ x, x = rb i := ⟨_, rfl⟩
          obtain ⟨ci, hci⟩ : ∃ x, x = rc i := ⟨_, rfl⟩
          have y2 := hMr.row i hin
          have y3 := hMr.ltR i hin
          rw [← hri, ← hci] at y0
          rw [← hri] at y2 y3
          have Y2 := Lib.hid y2
          have x0 := (hbv.cell (p := ⟨gb, i, none⟩) hgb).trans (HR.out i hin)
          have x1 : gb < wr.heap.size := by have := hbv.size; omega
          obtain ⟨z, hz⟩ : ∃ x, x = r i := ⟨_, rfl⟩
          rw [← hz] at x0
          have HZ := Lib.hid hz
          clear hMr hri hci y2 hz hbv
          go_wp2_with (at_builtin; refine wpList_append_own _ rfl _ _ 22 rfl wr.heap.size 3 iI _ 1 8 Try.underlying22 hI0 hI1 hI2 hI3 rfl (by decide) (.slice none 0 0) 0 [] rfl (World.ownsRow_nil _ _ _ _) ⟨ri, 0, none⟩ n ci ((seg (M i) 0 n).map (Value.int .i64)) rfl (by rw [List.length_map, seg_len]; omega) (seg_cells 0 n (by omega) Y2.out) (seg_one _ _ _) ?c3 ?c4 ?c5 ?_)
          case c3 => unfold maxLen; omega
          case c4 => omega
          case c5 => exact Nat.le_refl _
          · intro v1 w2 hown1 hgrow1 _
            obtain ⟨g1, gc1, hv1, hg1, hg2⟩ := hown1.form (by omega)
            subst hv1
            have hcp := own_cap hown1
            have e1 : w2.cell? ⟨g1, k, none⟩ = some (.int .i64 (M i k)) := by
              rw [hown1.cellAt k (by omega), List.getElem?_map]
              unfold seg
              rw [List.getElem?_map, List.getElem?_range hkn]
              simp
            have e2 := own_frozen hown1 k
            have x2 : w2.cell? ⟨gb, i, none⟩ = some (.int .i64 z) := (World.cell?_of_block (w := wr) (hgrow1.block gb x1 (fun e => by cases e))).trans x0
            have x3 : gb < w2.heap.size := by have := hgrow1.size; omega
            have hs2 := hgrow1.size
            have ne1 : g1 ≠ gb := by omega
            have HO1 := Lib.hid hown1
            have f1 : Hid (∀ b, b < wr.heap.size → w2.heap[b]? = wr.heap[b]?) := Lib.hid (fun b hb => hgrow1.block b hb (fun e => by cases e))
            have hbo2 := hbo.grown hgrow1 hbos (fun q hq => by cases hq)
            have gc1' : (k : Int) < (gc1 : Int) := by omega
            clear hown1 hgrow1 x0 y0
            have hLs : GLay (w2.setCell ⟨g1, k, none⟩ (.int .i64 z)) wo.heap.size n i u9 rb' rc' (colSet M k r) := HL.out.above (by simpa using hs2) (fun b hb => by
              rw [Go.Deep.blk_setCell_other _ _ _ _ (show b ≠ g1 by omega)]
              exact f1.out b hb) HL.out.ltR (fun q hq => (HL.out.own.lt q hq).2)
            have HLS := Lib.hid hLs; clear hLs
            go_wp2_with (at_builtin; refine wpList_append_own_at _ rfl _ _ 50 rfl wo.heap.size 22 iR (.slice none 0 0) 1 24 Try.underlying50 hR0 hR1 hR2 hR3 rfl (by decide) _ _ _ rfl (HLS.out.own.alloc _) ⟨w2.heap.size, 0, none⟩ 1 1 [.slice (some ⟨g1, 0, none⟩) n gc1] rfl rfl ?d1 ?d2 ?d3 ?d4 ?d5 ?_)
            case d1 =>
              have := cells_one (w := w2.setCell ⟨g1, k, none⟩ (.int .i64 z)) (x := .slice (some ⟨g1, 0, none⟩) n gc1) (t := 22)
              rw [World.size_setCell] at this
              exact this
            case d2 => simp [Value.oneCell']
            case d3 => unfold maxLen; omega
            case d4 => omega
            case d5 => simp; omega
            · intro v3 w3 hown3 hgrow3 _ hat3
              have hrow3 : ∀ j, j < n → (w2.setCell ⟨g1, k, none⟩ (.int .i64 z)).cell? ⟨g1, j, none⟩ = some (.int .i64 (colSet M k r i j)) := fun j hj => by
                have h1 := (own_set1 HO1.out k (.int .i64 z)).cellAt j (by omega)
                rw [h1, List.getElem?_set]
                unfold colSet
                by_cases e : k = j
                · subst e
                  rw [if_pos rfl, if_pos (by rw [List.length_map, seg_len]; exact hkn), if_pos rfl, ← HZ.out]
                · rw [if_neg e, if_neg (fun h => e h.symm), List.getElem?_map]
                  unfold seg
                  rw [List.getElem?_map, List.getElem?_range hj]
                  simp
              have S := HLS.out.step hrow3 (by simpa using hg2) (fun q hq e => by have := (HL.out.own.lt q hq).2; omega) hcp _ hown3 hgrow3 (by simpa using hat3)
              have hbo3 := ((hbo2.setCell (by show wo.heap.size ≤ g1; omega) (.int .i64 z)).alloc (by simp; omega) (.cells #[.slice (some ⟨g1, 0, none⟩) n gc1] 22)).grown hgrow3 (by simp; omega) (fun q hq => (HL.out.own.lt q hq).1)
              have HSS := Lib.hid S
              clear S hrow3 hown3 hgrow3 hat3 e1 e2 x2 hbo2
              go_wp2_with fail
              go_roundw
              case rel => exact ⟨i + 1, _, _, by omega, by go_num, HSS.out, hbo3⟩
              case measure => simp [intOf]; omega
        · obtain rfl : i = n := by omega
          obtain ⟨g2, gc2, hv2, hg1, hg2⟩ := HL.out.own.form (by omega)
          subst hv2
          have hGM := HL.out.mat
          have HGM := Lib.hid hGM
          have hcp2 := own_cap HL.out.own
          have hN : Hid (detF i (colSet M k r) = N k) := Lib.hid (by rw [HN.out]; rfl)
          have n6 := HN6.out k
          clear hGM
          go_wp2_with fail
          refine Calls.mono (det_ok i n1 n3 _ _ _ _ _ _ _ HGM.out (colSet_small HS.out HRR.out) hcp2) ?_
          rintro e w4 ⟨rfl, hb4⟩
          rw [hN.out]
          have hb5 := hbo.trans (hb4.mono hbos)
          have F3 := F1.below hb5
          have F4 := F2.below hb5
          have hown5 := own_below HO.out hb5
          have hbw5 := hbw.trans (hb5.mono hbs)
          have f0 := F4.c0
          have f1 := F4.free 0
          have f2 := F4.lt
          have hb5s := hbw5.size
          obtain ⟨nk, hnk⟩ : ∃ x, x = N k := ⟨_, rfl⟩
          rw [← hnk] at n6
          rw [← hnk]
          have hsg : Hid (seg N 0 (k + 1) = seg N 0 k ++ [nk]) := Lib.hid (by rw [hnk]; exact seg_snoc N k)
          have hgn : Hid (((Int.gcd g nk : Nat) : Int) = fitG D N (k + 1)) := Lib.hid (by rw [hnk, HGG.out]; rfl)
          clear hnk hb4 hb5
          go_wp2_with (at_builtin; refine wpList_append_own _ rfl _ _ 22 rfl (bf + 1) 3 iI _ 1 8 Try.underlying22 hI0 hI1 hI2 hI3 rfl (by decide) _ _ _ rfl (hown5.alloc _) ⟨w4.heap.size, 0, none⟩ 1 1 [.int .i64 nk] rfl rfl ?e1 ?e2 ?e3 ?e4 ?e5 ?_)
          case e1 => exact cells_one
          case e2 => simp [Value.oneCell']
          case e3 => unfold maxLen; omega
          case e4 => omega
          case e5 => simp; omega
          · intro V5 w5 hown' hgrow _
            obtain ⟨g5, c5, hv5, hg5a, hg5b⟩ := hown'.form (by omega)
            subst hv5
            have F5 : FitBox w5 w.heap.size (.slice none 0 0) 0 := (F3.below ((Below.refl _ _).alloc (Nat.le_refl _) (.cells #[.int .i64 nk] 3))).grown hgrow (fun q hq => by have := (hown5.lt q hq).1; omega)
            have F6 : FitBox w5 bf v D := (F4.below ((Below.refl _ _).alloc (Nat.le_refl _) (.cells #[.int .i64 nk] 3))).grown hgrow (fun q hq => by have := (hown5.lt q hq).1; omega)
            have hbw6 := (hbw5.alloc hb5s (.cells #[.int .i64 nk] 3)).grown hgrow (by simp; omega) (fun q hq => by have := (hown5.lt q hq).1; omega)
            have R : Hid (w5.ownsRow (bf + 1) 3 1 (.slice (some ⟨g5, 0, none⟩) (k + 1) c5) (k + 1) ((seg N 0 (k + 1)).map (Value.int .i64))) := Lib.hid (by
              rw [hsg.out]
              simpa only [List.map_append, List.map_cons, List.map_nil] using hown')
            have h0 := F6.c0
            have h1 := F6.free 0
            have h2 := F6.lt
            have F7 := F6.set0 (.slice (some ⟨g5, 0, none⟩) (k + 1) c5)
            have F8 := F5.other (show w.heap.size ≠ (⟨bf, 0, none⟩ : Addr).block by show w.heap.size ≠ bf; omega) (.slice (some ⟨g5, 0, none⟩) (k + 1) c5)
            have R2 : Hid ((w5.setCell ⟨bf, 0, none⟩ (.slice (some ⟨g5, 0, none⟩) (k + 1) c5)).ownsRow (bf + 1) 3 1 (.slice (some ⟨g5, 0, none⟩) (k + 1) c5) (k + 1) ((seg N 0 (k + 1)).map (Value.int .i64))) := Lib.hid (by
              obtain ⟨r1, r2⟩ := R.out
              refine ⟨r1, r2.imp id ?_⟩
              rintro ⟨gg, cap, cur, hv, hb, hh, rest⟩
              refine ⟨gg, cap, cur, hv, hb, ?_, rest⟩
              rw [Go.Deep.blk_setCell_other _ _ _ _ (show gg ≠ bf by omega)]
              exact hh)
            have hbw7 := hbw6.setCell (show w.heap.size ≤ (⟨bf, 0, none⟩ : Addr).block by show w.heap.size ≤ bf; omega) (.slice (some ⟨g5, 0, none⟩) (k + 1) c5)
            clear hown' hgrow hown5 F3 F4 F5 F6 f0 f1 R hbw6
            go_wp2_with fail
            refine Calls.mono (gcd_ok g nk _ (by omega) (by omega) (by omega) (by omega)) ?_
            rintro e w6 ⟨rfl, hb6⟩
            rw [hgn.out]
            have hbw8 := hbw7.trans (hb6.mono (by have := hbw7.size; omega))
            have F9 := F8.below hb6
            have F10 := F7.below hb6
            have R3 := Lib.hid (own_below R2.out hb6)
            clear hb6 F7 F8 h0 h1 hbw7
            go_wp2_with fail
            go_roundw
            case rel => exact ⟨k + 1, _, by omega, by go_num, rfl, F9, F10, R3.out, hbw8⟩
            case measure => simp [intOf]; omega
    · obtain rfl : k = n := by omega
      obtain ⟨gv, cv, hv, hgv1, hgv2⟩ := hown.form (by omega)
      subst hv
      have hg0 : g ≠ 0 := by rw [HGG.out]; exact fitG_ne H0.out k
      have q0 : (g == 0) = false := by simpa using hg0
      have t1 := tdiv_bounds D g hD6.1 hD6.2
      have t2 : IntKind.i64.wrap (D.tdiv g) = D.tdiv g := IntWalk.i64_in _ (by omega)
      have f0 := F2.c1
      have f1 := F2.free 1
      have f2 := F2.lt
      have f3 := F2.c0
      obtain ⟨d, hd⟩ : ∃ d, d = D.tdiv g := ⟨_, rfl⟩
      rw [← hd] at t2
      have hd2 : D.tdiv g = d := hd.symm
      have F3 := F2.set1 d
      have F4 := F1.other (show w.heap.size ≠ (⟨bf, 1, none⟩ : Addr).block by show w.heap.size ≠ bf; omega) (.int .i64 d)
      have hbw3 := hbw.setCell (show w.heap.size ≤ (⟨bf, 1, none⟩ : Addr).block by show w.heap.size ≤ bf; omega) (.int .i64 d)
      have R : Hid ((wr.setCell ⟨bf, 1, none⟩ (.int .i64 d)).ownsRow (bf + 1) 3 1 (.slice (some ⟨gv, 0, none⟩) k cv) k ((seg N 0 k).map (Value.int .i64))) := Lib.hid (by
        obtain ⟨r1, r2⟩ := hown
        refine ⟨r1, r2.imp id ?_⟩
        rintro ⟨gg, cap, cur, hv, hb, hh, rest⟩
        refine ⟨gg, cap, cur, hv, hb, ?_, rest⟩
        rw [Go.Deep.blk_setCell_other _ _ _ _ (show gg ≠ bf by omega)]
        exact hh)
      have HDD := Lib.hid hd
      have hg00 : ¬ g = 0 := hg0
      clear hown F1 F2 hbw hd hg0 t1
      go_wp2_with fail
      clear f0 f1 f2 f3 hd2 t2
      have hst : Hid ((List.range k).map (fun x => Value.int .i64 (if x < 0 then (N x).tdiv g else N x)) = (seg N 0 k).map (Value.int .i64)) := Lib.hid (by
        unfold seg
        rw [List.map_map]
        apply List.map_congr_left
        intro x _
        simp)
      go_loopw [72] (fun j' wv => ∃ j : Nat, j ≤ k ∧ j' = .int .i64 j ∧ FitBox wv w.heap.size (.slice none 0 0) 0 ∧ FitBox wv bf (.slice (some ⟨gv, 0, none⟩) k cv) d ∧ wv.ownsRow (bf + 1) 3 1 (.slice (some ⟨gv, 0, none⟩) k cv) k ((List.range k).map (fun x => Value.int .i64 (if x < j then (N x).tdiv g else N x))) ∧ Below w.heap.size w wv) (fun j' _ => k - (intOf j').toNat)
      case atStart => exact ⟨0, by omega, rfl, F4, F3, by rw [hst.out]; exact R.out, hbw3⟩
      case round =>
        clear F3 F4 R hbw3 hst
        obtain ⟨j, hj, rfl, F5, F6, hown, hbw⟩ := hrel
        have f0 := F6.c0
        have f2 := F6.lt
        by_cases hjk : j < k
        · have j0 : (0 : Int) ≤ (j : Int) := by omega
          have j1 : (j : Int) < (k : Int) := by omega
          have x0 := hown.cellAt j (by omega)
          rw [List.getElem?_map, List.getElem?_range hjk] at x0
          simp only [Option.map_some, Nat.lt_irrefl, if_false] at x0
          have x1 := own_frozen hown j
          have x2 := (hown.lt gv rfl).2
          have n6 := HN6.out j
          obtain ⟨nj, hnj⟩ : ∃ x, x = N j := ⟨_, rfl⟩
          rw [← hnj] at x0 n6
          have t1 := tdiv_bounds nj g n6.1 n6.2
          obtain ⟨u, hu⟩ : ∃ u, u = nj.tdiv g := ⟨_, rfl⟩
          have hu2 : nj.tdiv g = u := hu.symm
          have t2 : IntKind.i64.wrap u = u := IntWalk.i64_in _ (by omega)
          have F7 := F6.other (show bf ≠ (⟨gv, j, none⟩ : Addr).block by show bf ≠ gv; omega) (.int .i64 u)
          have F8 := F5.other (show w.heap.size ≠ (⟨gv, j, none⟩ : Addr).block by show w.heap.size ≠ gv; omega) (.int .i64 u)
          have hbw4 := hbw.setCell (show w.heap.size ≤ (⟨gv, j, none⟩ : Addr).block by show w.heap.size ≤ gv; omega) (.int .i64 u)
          have R2 : Hid ((wr.setCell ⟨gv, j, none⟩ (.int .i64 u)).ownsRow (bf + 1) 3 1 (.slice (some ⟨gv, 0, none⟩) k cv) k ((List.range k).map (fun x => Value.int .i64 (if x < j + 1 then (N x).tdiv g else N x)))) := Lib.hid (by
            have h1 := own_set1 hown j (.int .i64 u)
            have e : ((List.range k).map (fun x => Value.int .i64 (if x < j then (N x).tdiv g else N x))).set j (.int .i64 u) = (List.range k).map (fun x => Value.int .i64 (if x < j + 1 then (N x).tdiv g else N x)) := by
              apply List.ext_getElem?
              intro y
              rw [List.getElem?_set, List.length_map, List.length_range]
              by_cases ey : j = y
              · subst ey
                rw [if_pos rfl, if_pos hjk, List.getElem?_map, List.getElem?_range hjk]
                simp [hu, hnj]
              · rw [if_neg ey, List.getElem?_map, List.getElem?_map]
                by_cases hy : y < k
                · rw [List.getElem?_range hy]
                  simp only [Option.map_some]
                  by_cases h2 : y < j
                  · rw [if_pos h2, if_pos (by omega)]
                  · rw [if_neg h2, if_neg (by omega)]
                · rw [List.getElem?_eq_none (by simp; omega)]
                  rfl
            rw [e] at h1
            exact h1)
          clear hown F5 F6 hbw hu hnj t1 n6
          go_wp2_with fail
          go_roundw
          case rel => exact ⟨j + 1, by omega, by go_num, F8, F7, R2.out, hbw4⟩
          case measure => simp [intOf]; omega
        · obtain rfl : j = k := by omega
          have f1 := F6.c1
          have g0 := F5.c0
          have g1 := F5.c1
          have g2 := F5.free 0
          have g3 := F5.free 1
          have g4 := F5.lt
          have hfin : Hid (wr.ownsRow (bf + 1) 3 1 (.slice (some ⟨gv, 0, none⟩) j cv) j ((facts j M r).map (Value.int .i64))) := Lib.hid (by
            have e : (facts j M r).map (Value.int .i64) = (List.range j).map (fun x => Value.int .i64 (if x < j then (N x).tdiv g else N x)) := by
              unfold facts
              rw [List.map_map]
              apply List.map_congr_left
              intro x hx
              have := List.mem_range.1 hx
              rw [if_pos this, HGG.out, HD.out, HN.out]
              rfl
            rw [e]; exact hown)
          have HX := Lib.hid hown
          clear hown
          go_wp2_with fail
          have hbw5 := (hbw.setCell (show w.heap.size ≤ (⟨w.heap.size, 0, none⟩ : Addr).block from Nat.le_refl _) (.slice (some ⟨gv, 0, none⟩) j cv)).setCell (show w.heap.size ≤ (⟨w.heap.size, 1, none⟩ : Addr).block from Nat.le_refl _) (.int .i64 d)
          have hown6 : ((wr.setCell ⟨w.heap.size, 0, none⟩ (.slice (some ⟨gv, 0, none⟩) j cv)).setCell ⟨w.heap.size, 1, none⟩ (.int .i64 d)).ownsRow w.heap.size 3 1 (.slice (some ⟨gv, 0, none⟩) j cv) j ((facts j M r).map (Value.int .i64)) := by
            obtain ⟨r1, r2⟩ := hfin.out
            refine ⟨r1, r2.imp id ?_⟩
            rintro ⟨gg, cap, cur, hv, hb, hh, rest⟩
            refine ⟨gg, cap, cur, hv, by omega, ?_, rest⟩
            rw [Go.Deep.blk_setCell_other _ _ _ _ (show gg ≠ w.heap.size by omega), Go.Deep.blk_setCell_other _ _ _ _ (show gg ≠ w.heap.size by omega)]
            exact hh
          have hz : Hid (detF j M ≠ 0) := Lib.hid (by rw [← HD.out]; exact H0.out)
          refine bodyPost_ret (v := .tuple #[.agg #[.slice (some ⟨gv, 0, none⟩) j cv, .int .i64 d], .int .i64 0]) ?_ rfl ⟨hbw5, Or.inr ⟨hz.out, _, by rw [HDD.out, HGG.out, HD.out, HN.out], hown6⟩⟩
          simp [results, Try.results53, go_sem, *]

end Go.Proofs.Ytmeppcoekmoofaa
