/- Figures with the lines 0-1, 1-2, ..: how they stand in memory; figure.Check. -/
import Derived.Test.YtdifeoahaegjbaaGreatDoorMap
import Derived.Test.YtdifeoahaegjbaaGreatDoorTFrac
namespace Go.Proofs.YtdifeoahaegjbaaGreatDoor
open Go.RowKit
set_option linter.unusedSimpArgs false
set_option linter.unusedVariables false

/-- The numbers of the first k points. -/
def pt4 (a b c d : Nat → Int) : Nat → List Int
  | 0 => []
  | k + 1 => pt4 a b c d k ++ [a k, b k, c k, d k]
theorem pt4_len (a b c d : Nat → Int) (k : Nat) : (pt4 a b c d k).length = k * 4 := by
  induction k with
  | zero => rfl
  | succ k ih => unfold pt4; rw [List.length_append, ih]; simp; omega
theorem pt4_at (a b c d : Nat → Int) (n : Nat) : ∀ i, i < n → ix (pt4 a b c d n) (i * 4) = a i ∧ ix (pt4 a b c d n) (i * 4 + 1) = b i ∧ ix (pt4 a b c d n) (i * 4 + 2) = c i ∧ ix (pt4 a b c d n) (i * 4 + 3) = d i := by
  intro i h
  induction n with
  | zero => omega
  | succ n ih =>
    have hl := pt4_len a b c d n
    unfold pt4
    by_cases e : i = n
    · subst e
      exact ⟨ix_right 0 (by omega), ix_right 1 (by omega), ix_right 2 (by omega), ix_right 3 (by omega)⟩
    · obtain ⟨h0, h1, h2, h3⟩ := ih (by omega)
      exact ⟨(ix_left (by omega)).trans h0, (ix_left (by omega)).trans h1, (ix_left (by omega)).trans h2, (ix_left (by omega)).trans h3⟩

/-- A line from point j to the next one. -/
def LineAt (w : World) (lo : Nat) (v : Value) (j : Nat) : Prop :=
  ∃ g gc, v = .slice (some ⟨g, 0, none⟩) 2 gc ∧ 2 ≤ gc ∧ lo ≤ g ∧ w.cell? ⟨g, 0, none⟩ = some (.int .i64 (j : Int)) ∧ w.cell? ⟨g, 1, none⟩ = some (.int .i64 ((j : Int) + 1))
theorem LineAt.of_block {w w' : World} {lo j : Nat} {v : Value} (h : LineAt w lo v j) (hk : ∀ g gc, v = .slice (some ⟨g, 0, none⟩) 2 gc → w'.heap[g]? = w.heap[g]?) : LineAt w' lo v j := by
  obtain ⟨g, gc, h1, h2, h3, h4, h5⟩ := h
  have e := hk g gc h1
  have ec : ∀ i, w'.cell? ⟨g, i, none⟩ = w.cell? ⟨g, i, none⟩ := fun i => by unfold World.cell?; simp only [e]
  exact ⟨g, gc, h1, h2, h3, (ec 0).trans h4, (ec 1).trans h5⟩
theorem LineAt.below {w w' : World} {lo j : Nat} {v : Value} (h : LineAt w lo v j) (hb : Below w.heap.size w w') : LineAt w' lo v j := by
  obtain ⟨g, gc, h1, h2, h3, h4, h5⟩ := h
  exact ⟨g, gc, h1, h2, h3, (hb.cell (p := ⟨g, 0, none⟩) (cell_lt h4)).trans h4, (hb.cell (p := ⟨g, 1, none⟩) (cell_lt h5)).trans h5⟩
theorem LineAt.set {w : World} {lo j b o : Nat} {v x : Value} (h : LineAt w lo v j) (hb : b < lo) : LineAt (w.setCell ⟨b, o, none⟩ x) lo v j := by
  obtain ⟨g, gc, h1, h2, h3, h4, h5⟩ := h
  exact ⟨g, gc, h1, h2, h3, (World.cell?_setCell_other w _ _ _ (by intro e; injection e with e; omega)).trans h4, (World.cell?_setCell_other w _ _ _ (by intro e; injection e with e; omega)).trans h5⟩
/-- The first m lines, in rows of the call's own. -/
def LinN (w : World) (lo : Nat) (u : Value) (m : Nat) : Prop :=
  ∃ vs : List Value, w.ownsRow lo 22 1 u m vs ∧ ∀ j, j < m → ∃ v, vs[j]? = some v ∧ LineAt w lo v j
theorem LinN.nil (w : World) (lo : Nat) : LinN w lo (.slice none 0 0) 0 := ⟨[], World.ownsRow_nil _ _ _ _, fun j hj => absurd hj (by omega)⟩
theorem LinN.below {w w' : World} {lo m : Nat} {u : Value} (h : LinN w lo u m) (hb : Below w.heap.size w w') : LinN w' lo u m := by
  obtain ⟨vs, h1, h2⟩ := h
  exact ⟨vs, own_below h1 hb, fun j hj => by obtain ⟨v, h3, h4⟩ := h2 j hj; exact ⟨v, h3, h4.below hb⟩⟩
theorem LinN.set {w : World} {lo m b o : Nat} {u x : Value} (h : LinN w lo u m) (hb : b < lo) : LinN (w.setCell ⟨b, o, none⟩ x) lo u m := by
  obtain ⟨vs, h1, h2⟩ := h
  exact ⟨vs, own_set h1 hb, fun j hj => by obtain ⟨v, h3, h4⟩ := h2 j hj; exact ⟨v, h3, h4.set hb⟩⟩
/-- A row of slices is no row of numbers. -/
theorem LinN.ne {w : World} {lo m g : Nat} {u : Value} {z : Int} (h : LinN w lo u m) (hm : 0 < m) (hg : w.cell? ⟨g, 0, none⟩ = some (.int .i64 z)) : some g ≠ u.ownBlock := by
  obtain ⟨vs, h1, h2⟩ := h
  obtain ⟨q, cap, rfl, _, _⟩ := h1.form hm
  intro e
  have e : g = q := by simpa [Value.ownBlock] using e
  obtain ⟨v, h3, g', gc, hv, _⟩ := h2 0 hm
  have hl := h1.1
  have h4 := h1.cellAt 0 (by have := h1.1; omega)
  rw [e, h4, h3, hv] at hg
  cases hg
/-- One line more. -/
theorem LinN.add {w w' : World} {lo m : Nat} {u u' v : Value} {vs : List Value} (h1 : w.ownsRow lo 22 1 u m vs) (h2 : ∀ j, j < m → ∃ v, vs[j]? = some v ∧ LineAt w lo v j) (hv : LineAt w lo v m) (hne : ∀ g gc, v = .slice (some ⟨g, 0, none⟩) 2 gc → some g ≠ u.ownBlock)
    (hg : w.grownBy w' u.ownBlock) (hown : w'.ownsRow lo 22 1 u' (m + 1) (vs ++ [v])) : LinN w' lo u' (m + 1) := by
  have hl := h1.1
  refine ⟨_, hown, fun j hj => ?_⟩
  by_cases e : j = m
  · subst e
    refine ⟨v, ?_, ?_⟩
    · rw [List.getElem?_append_right (by omega)]; simp [show j - vs.length = 0 by omega]
    · refine hv.of_block (fun g gc hgc => hg.block g ?_ (hne g gc hgc))
      obtain ⟨g', gc', e1, _, _, e4, _⟩ := hv
      rw [e1] at hgc; injection hgc with e5 _ _; injection e5 with e5; injection e5 with e6; rw [← e6]
      exact cell_lt e4
  · obtain ⟨x, h3, h4⟩ := h2 j (by omega)
    refine ⟨x, ?_, ?_⟩
    · rw [List.getElem?_append_left (by omega)]; exact h3
    · refine h4.of_block (fun g gc hgc => ?_)
      obtain ⟨g', gc', e1, _, _, e4, _⟩ := h4
      rw [e1] at hgc; injection hgc with e5 _ _; injection e5 with e5; injection e5 with e6
      subst e6
      exact hg.block g' (cell_lt e4) (LinN.ne ⟨vs, h1, h2⟩ (by omega) e4)

/-- A figure: n points, each of four numbers; the lines 0-1, 1-2, .. -/
structure FigN (w : World) (A : Option Addr) (n c : Nat) (zs : List Int) (B : Option Addr) (m bc : Nat) : Prop where
  pts : FlatSl w 4 A n c zs
  n12 : n ≤ 12
  fx : ∀ i, i < n → FrP (ix zs (i * 4)) (ix zs (i * 4 + 1))
  fy : ∀ i, i < n → FrP (ix zs (i * 4 + 2)) (ix zs (i * 4 + 3))
  mm : m = n - 1
  mb : m ≤ bc
  lin : 0 < m → ∃ b, B = some ⟨b, 0, none⟩ ∧ ∀ j, j < m → ∃ g gc, w.cell? ⟨b, j, none⟩ = some (.slice (some ⟨g, 0, none⟩) 2 gc) ∧ 2 ≤ gc ∧ w.cell? ⟨g, 0, none⟩ = some (.int .i64 (j : Int)) ∧ w.cell? ⟨g, 1, none⟩ = some (.int .i64 ((j : Int) + 1))
theorem FigN.below {w w' : World} {A : Option Addr} {n c : Nat} {zs : List Int} {B : Option Addr} {m bc : Nat} (h : FigN w A n c zs B m bc) (hb : Below w.heap.size w w') : FigN w' A n c zs B m bc :=
  ⟨h.pts.stay (by omega) hb, h.n12, h.fx, h.fy, h.mm, h.mb, fun hm => by
    obtain ⟨b, h1, h2⟩ := h.lin hm
    refine ⟨b, h1, fun j hj => ?_⟩
    obtain ⟨g, gc, h3, h4, h5, h6⟩ := h2 j hj
    exact ⟨g, gc, (hb.cell (p := ⟨b, j, none⟩) (World.block_lt_of_cell? w _ h3)).trans h3, h4, (hb.cell (p := ⟨g, 0, none⟩) (World.block_lt_of_cell? w _ h5)).trans h5, (hb.cell (p := ⟨g, 1, none⟩) (World.block_lt_of_cell? w _ h6)).trans h6⟩⟩
theorem LinN.fig {w : World} {lo m : Nat} {u : Value} (h : LinN w lo u m) :
    ∃ B bc, u = .slice B m bc ∧ m ≤ bc ∧ (0 < m → ∃ b, B = some ⟨b, 0, none⟩ ∧ ∀ j, j < m → ∃ g gc, w.cell? ⟨b, j, none⟩ = some (.slice (some ⟨g, 0, none⟩) 2 gc) ∧ 2 ≤ gc ∧ w.cell? ⟨g, 0, none⟩ = some (.int .i64 (j : Int)) ∧ w.cell? ⟨g, 1, none⟩ = some (.int .i64 ((j : Int) + 1))) := by
  obtain ⟨vs, h1, h2⟩ := h
  rcases Nat.eq_zero_or_pos m with e | hm
  · subst e
    rcases h1.2 with ⟨hv, _⟩ | ⟨g, cap, cur, hv, _, _, hn, _⟩
    · exact ⟨none, 0, hv, by omega, fun h => absurd h (by omega)⟩
    · exact ⟨_, cap, hv, hn, fun h => absurd h (by omega)⟩
  · obtain ⟨b, bc, rfl, _, _⟩ := h1.form hm
    refine ⟨_, bc, rfl, own_cap' h1, fun _ => ⟨b, rfl, fun j hj => ?_⟩⟩
    obtain ⟨v, h3, g, gc, rfl, h4, _, h5, h6⟩ := h2 j hj
    exact ⟨g, gc, (h1.cellAt j (by have := h1.1; omega)).trans h3, h4, h5, h6⟩

set_option maxRecDepth 100000 in
set_option maxHeartbeats 8000000 in
theorem figCheckN_ok (A : Option Addr) (n c : Nat) (zs : List Int) (B : Option Addr) (m bc : Nat) (w : World) (h : FigN w A n c zs B m bc) :
    Calls Tryz.prog 15 #[.agg #[.slice A n c, .slice B m bc]] w fun e w' => e = .returned (.int .i64 0) ∧ Below w.heap.size w w' := by
  have n60 := h.n12; have m1 := Lib.hid h.mm
  have q1 : ¬ (60 : Int) < (n : Int) := by omega
  have q2 : ¬ (40 : Int) < (m : Int) := by have := m1.out; omega
  have hb0 := Lib.hid ((Below.refl w.heap.size w).alloc (Nat.le_refl _) (.cells #[.slice A n c, .slice B m bc] 28))
  have HF := Lib.hid (FgBox.new w (.slice A n c) (.slice B m bc))
  have H := Lib.hid h
  clear h
  go_enter Tryz.func15, Tryz.ntmps15
  go_wp2_with fail
  go_loopw [25] (fun i' wv => ∃ i : Nat, i ≤ n ∧ i' = .int .i64 i ∧ FgBox wv w.heap.size (.slice A n c) (.slice B m bc) ∧ Below w.heap.size w wv) (fun i' _ => n - (intOf i').toNat)
  case atStart => exact ⟨0, by omega, rfl, HF.out, hb0.out⟩
  case round =>
    clear HF hb0
    obtain ⟨i, hi, rfl, hF, hb⟩ := hrel
    have HF := Lib.hid hF; have HB := Lib.hid hb
    clear hF hb
    by_cases hin : i < n
    · have i0 : (0 : Int) ≤ (i : Int) := by omega
      have i1 : (i : Int) < (n : Int) := by omega
      obtain ⟨q, o, hA, hc⟩ := (H.out.below HB.out).pts.at' (by omega)
      have x0 := hc (i * 4) (by omega)
      have x1 := hc (i * 4 + 1) (by omega)
      have x2 := hc (i * 4 + 2) (by omega)
      have x3 := hc (i * 4 + 3) (by omega)
      rw [← Nat.add_assoc] at x1 x2 x3
      subst hA
      have fx := H.out.fx i hin
      have fy := H.out.fy i hin
      obtain ⟨a, ha⟩ : ∃ a, a = ix zs (i * 4) := ⟨_, rfl⟩
      obtain ⟨d, hd⟩ : ∃ a, a = ix zs (i * 4 + 1) := ⟨_, rfl⟩
      obtain ⟨e, he⟩ : ∃ a, a = ix zs (i * 4 + 2) := ⟨_, rfl⟩
      obtain ⟨f, hf⟩ : ∃ a, a = ix zs (i * 4 + 3) := ⟨_, rfl⟩
      rw [← ha] at x0 fx; rw [← hd] at x1 fx; rw [← he] at x2 fy; rw [← hf] at x3 fy
      clear hc ha hd he hf
      have HX := Lib.hid fx.s.ok; have HY := Lib.hid fy.s.ok
      clear fx fy
      have j0 : ∀ w, (Instr.index 79 (.agg #[.int .i64 a, .int .i64 d, .int .i64 e, .int .i64 f]) (.int .i64 0)).run Tryz.prog w = .ok (.agg #[.int .i64 a, .int .i64 d]) w := fun _ => by kernel_rfl
      have j1 : ∀ w, (Instr.index 79 (.agg #[.int .i64 a, .int .i64 d, .int .i64 e, .int .i64 f]) (.int .i64 1)).run Tryz.prog w = .ok (.agg #[.int .i64 e, .int .i64 f]) w := fun _ => by kernel_rfl
      go_wp2_with fail
      have HFa := Lib.hid (HF.out.alloc (.cells #[.int .i64 a, .int .i64 d, .int .i64 e, .int .i64 f] 33))
      have HBa := Lib.hid (HB.out.alloc (by have := HB.out.size; omega) (.cells #[.int .i64 a, .int .i64 d, .int .i64 e, .int .i64 f] 33))
      clear x0 x1 x2 x3
      go_loopw [34] (fun j' wv => ∃ j : Nat, j ≤ 2 ∧ j' = .int .i64 j ∧ FgBox wv w.heap.size (.slice (some ⟨q, o, none⟩) n c) (.slice B m bc) ∧ Below w.heap.size w wv) (fun j' _ => 2 - (intOf j').toNat)
      case atStart => exact ⟨0, by omega, rfl, HFa.out, HBa.out⟩
      case round =>
        clear HFa HBa HF HB
        obtain ⟨j, hj, rfl, hF, hb⟩ := hrel
        have HF := Lib.hid hF; have HB := Lib.hid hb
        clear hF hb
        rcases (by omega : j = 0 ∨ j = 1 ∨ j = 2) with rfl | rfl | rfl
        · go_wp2_with fail
          refine Calls.mono (fcheck_ok a d _ HX.out) ?_
          rintro e2 w2 ⟨rfl, hb⟩
          have HF2 := Lib.hid ((HF.out.alloc (.cells #[.int .i64 a, .int .i64 d] 30)).below hb)
          have hb1 := HB.out.alloc (by have := HB.out.size; omega) (.cells #[.int .i64 a, .int .i64 d] 30)
          have HB2 := Lib.hid (hb1.trans (hb.mono hb1.size))
          clear hb hb1
          go_wp2_with fail
          go_roundw
          case rel => exact ⟨1, by omega, rfl, HF2.out, HB2.out⟩
          case measure => simp [intOf]
        · go_wp2_with fail
          refine Calls.mono (fcheck_ok e f _ HY.out) ?_
          rintro e2 w2 ⟨rfl, hb⟩
          have HF2 := Lib.hid ((HF.out.alloc (.cells #[.int .i64 e, .int .i64 f] 30)).below hb)
          have hb1 := HB.out.alloc (by have := HB.out.size; omega) (.cells #[.int .i64 e, .int .i64 f] 30)
          have HB2 := Lib.hid (hb1.trans (hb.mono hb1.size))
          clear hb hb1
          go_wp2_with fail
          go_roundw
          case rel => exact ⟨2, by omega, rfl, HF2.out, HB2.out⟩
          case measure => simp [intOf]
        · go_wp2_with fail
          go_roundw
          case rel => exact ⟨i + 1, by omega, by go_num, HF.out, HB.out⟩
          case measure => simp [intOf]; omega
    · obtain rfl : i = n := by omega
      have z0 := HF.out.c0; have z1 := HF.out.c1
      go_wp2_with fail
      clear z0 z1
      go_loopw [47] (fun j' wv => ∃ j : Nat, j ≤ m ∧ j' = .int .i64 j ∧ FgBox wv w.heap.size (.slice A i c) (.slice B m bc) ∧ Below w.heap.size w wv) (fun j' _ => m - (intOf j').toNat)
      case atStart => exact ⟨0, by omega, rfl, HF.out, HB.out⟩
      case round =>
        clear HF HB
        obtain ⟨j, hj, rfl, hF, hb⟩ := hrel
        have HF := Lib.hid hF; have HB := Lib.hid hb
        clear hF hb
        by_cases hjm : j < m
        · have hmb := H.out.mb
          obtain ⟨b, hB, hlin⟩ := (H.out.below HB.out).lin (by omega)
          obtain ⟨g, gc, y0, hgc, y1, y2⟩ := hlin j hjm
          subst hB
          have HY1 := Lib.hid y1; have HY2 := Lib.hid y2
          clear y1 y2 hlin
          have b0 : (j : Int) < (m : Int) := by omega
          have b1 : (0 : Int) ≤ (j : Int) := by omega
          have b2 : (j : Int) < (bc : Int) := by omega
          have jw : IntKind.i64.wrap ((j : Int) + 1) = (j : Int) + 1 := IntWalk.i64_in _ (by have := m1.out; omega)
          go_wp2_with fail
          clear y0
          go_loop [61] (fun k' => ∃ k : Nat, k ≤ 2 ∧ k' = .int .i64 k) (fun k' => 2 - (intOf k').toNat)
          case atStart => exact ⟨0, by omega, rfl⟩
          case round =>
            obtain ⟨k, hk, rfl⟩ := hrel
            have z0 := HF.out.c0
            have y1 := HY1.out; have y2 := HY2.out
            rcases (by omega : k = 0 ∨ k = 1 ∨ k = 2) with rfl | rfl | rfl
            · have g0 : (0 : Int) < (gc : Int) := by omega
              have g1 : decide ((j : Int) < 0) = false := decide_eq_false (by omega)
              have g2 : decide ((i : Int) ≤ (j : Int)) = false := decide_eq_false (by have := m1.out; omega)
              have g3 : decide (i ≤ j) = false := decide_eq_false (by have := m1.out; omega)
              have g4 : ¬ i ≤ j := by have := m1.out; omega
              go_wp2_with fail
              go_round
              case rel => exact ⟨1, by omega, rfl⟩
              case measure => simp [intOf]
            · have g0 : (1 : Int) < (gc : Int) := by omega
              have g1 : decide ((j : Int) + 1 < 0) = false := decide_eq_false (by omega)
              have g2 : decide ((i : Int) ≤ (j : Int) + 1) = false := decide_eq_false (by have := m1.out; omega)
              have g3 : decide (i ≤ j + 1) = false := decide_eq_false (by have := m1.out; omega)
              have g4 : ¬ i ≤ j + 1 := by have := m1.out; omega
              go_wp2_with fail
              go_round
              case rel => exact ⟨2, by omega, rfl⟩
              case measure => simp [intOf]
            · go_wp2_with fail
              go_roundw
              case rel => exact ⟨j + 1, by omega, by rw [Int.natCast_add]; rfl, HF.out, HB.out⟩
              case measure => simp [intOf]; omega
        · obtain rfl : j = m := by omega
          go_wp2_with fail
          go_ret
          exact ⟨rfl, HB.out⟩
end Go.Proofs.YtdifeoahaegjbaaGreatDoor
