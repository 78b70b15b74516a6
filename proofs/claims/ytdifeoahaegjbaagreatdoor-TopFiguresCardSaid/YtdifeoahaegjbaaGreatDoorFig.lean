/- Figures in memory; figure.Check. -/
import Derived.Test.YtdifeoahaegjbaaGreatDoorFracs
import Derived.Test.YtdifeoahaegjbaaGreatDoorBasic
namespace Go.Proofs.YtdifeoahaegjbaaGreatDoor
open Go.RowKit
set_option linter.unusedSimpArgs false
set_option linter.unusedVariables false

def fgF (u v : Value) : Nat → Value := fun i => if i = 0 then u else v
/-- Block b holds a figure's two slices, and may be written. -/
def FgBox (w : World) (b : Nat) (u v : Value) : Prop := w.rowIs b 28 2 (fgF u v)
section
variable {w w' : World} {b : Nat} {u v : Value}
theorem FgBox.c0 (h : FgBox w b u v) : w.cell? ⟨b, 0, none⟩ = some u := World.rowIs.cell h (i := 0) (by omega)
theorem FgBox.c1 (h : FgBox w b u v) : w.cell? ⟨b, 1, none⟩ = some v := World.rowIs.cell h (i := 1) (by omega)
theorem FgBox.free (h : FgBox w b u v) (i : Nat) : w.frozen? ⟨b, i, none⟩ = false := World.rowIs.frozen h i
theorem FgBox.lt (h : FgBox w b u v) : b < w.heap.size := World.rowIs.lt h
theorem FgBox.alloc (h : FgBox w b u v) (o : Obj) : FgBox (w.alloc o) b u v := World.rowIs.alloc h o
theorem FgBox.below (h : FgBox w b u v) (hb : Below w.heap.size w w') : FgBox w' b u v := World.rowIs.of_block h (hb.block b (World.rowIs.lt h))
theorem FgBox.new (w : World) (u v : Value) : FgBox (w.alloc (.cells #[u, v] 28)) w.heap.size u v :=
  World.rowIs_alloc w #[u, v] 28 (fgF u v) (fun i hi => by
    match i, hi with
    | 0, _ => rfl
    | 1, _ => rfl)
theorem FgBox.other (h : FgBox w b u v) {a : Addr} (ha : b ≠ a.block) (x : Value) : FgBox (w.setCell a x) b u v := World.rowIs.setOther h ha x
theorem FgBox.set (h : FgBox w b u v) (x y : Value) : FgBox ((w.setCell ⟨b, 0, none⟩ x).setCell ⟨b, 1, none⟩ y) b x y :=
  ((World.rowIs.set h 0 x).set 1 y).congr (fun i hi => by
    match i, hi with
    | 0, _ => rfl
    | 1, _ => rfl)
theorem FgBox.set0 (h : FgBox w b u v) (x : Value) : FgBox (w.setCell ⟨b, 0, none⟩ x) b x v :=
  (World.rowIs.set h 0 x).congr (fun i hi => by
    match i, hi with
    | 0, _ => rfl
    | 1, _ => rfl)
theorem FgBox.set1 (h : FgBox w b u v) (x : Value) : FgBox (w.setCell ⟨b, 1, none⟩ x) b u x :=
  (World.rowIs.set h 1 x).congr (fun i hi => by
    match i, hi with
    | 0, _ => rfl
    | 1, _ => rfl)
end
theorem FlatSl.stay {w w' : World} {sz : Nat} {A : Option Addr} {n cap : Nat} {zs : List Int} (h : FlatSl w sz A n cap zs) (h0 : 0 < sz) (hb : Below w.heap.size w w') : FlatSl w' sz A n cap zs := by
  refine ⟨h.le, h.most, h.len, fun hn => ?_⟩
  obtain ⟨b, off, hA, hc⟩ := h.at' hn
  have hp : 0 < n * sz := Nat.mul_pos hn h0
  have hlt := World.block_lt_of_cell? w _ (hc 0 hp)
  exact ⟨b, off, hA, fun j hj => (hb.cell (p := ⟨b, off + j, none⟩) hlt).trans (hc j hj)⟩

/-- A figure: n points, each of four numbers; no line, or one from the first point to the last. -/
structure FigW (w : World) (A : Option Addr) (n c : Nat) (zs : List Int) (B : Option Addr) (m bc : Nat) : Prop where
  pts : FlatSl w 4 A n c zs
  n60 : n ≤ 60
  fx : ∀ i, i < n → FrOk (ix zs (i * 4)) (ix zs (i * 4 + 1))
  fy : ∀ i, i < n → FrOk (ix zs (i * 4 + 2)) (ix zs (i * 4 + 3))
  m1 : m ≤ 1
  mb : m ≤ bc
  n2 : 0 < m → 2 ≤ n
  lin : 0 < m → ∃ b g gc, B = some ⟨b, 0, none⟩ ∧ w.cell? ⟨b, 0, none⟩ = some (.slice (some ⟨g, 0, none⟩) 2 gc) ∧ 2 ≤ gc ∧ w.cell? ⟨g, 0, none⟩ = some (.int .i64 0) ∧ w.cell? ⟨g, 1, none⟩ = some (.int .i64 ((n : Int) - 1))
theorem FigW.below {w w' : World} {A : Option Addr} {n c : Nat} {zs : List Int} {B : Option Addr} {m bc : Nat} (h : FigW w A n c zs B m bc) (hb : Below w.heap.size w w') : FigW w' A n c zs B m bc :=
  ⟨h.pts.stay (by omega) hb, h.n60, h.fx, h.fy, h.m1, h.mb, h.n2, fun hm => by
    obtain ⟨b, g, gc, h1, h2, h3, h4, h5⟩ := h.lin hm
    exact ⟨b, g, gc, h1, (hb.cell (p := ⟨b, 0, none⟩) (World.block_lt_of_cell? w _ h2)).trans h2, h3, (hb.cell (p := ⟨g, 0, none⟩) (World.block_lt_of_cell? w _ h4)).trans h4, (hb.cell (p := ⟨g, 1, none⟩) (World.block_lt_of_cell? w _ h5)).trans h5⟩⟩

set_option maxRecDepth 100000 in
set_option maxHeartbeats 8000000 in
theorem figCheck_ok (A : Option Addr) (n c : Nat) (zs : List Int) (B : Option Addr) (m bc : Nat) (w : World) (h : FigW w A n c zs B m bc) :
    Calls Tryz.prog 15 #[.agg #[.slice A n c, .slice B m bc]] w fun e w' => e = .returned (.int .i64 0) ∧ Below w.heap.size w w' := by
  have n60 := h.n60; have m1 := h.m1
  have q1 : ¬ (60 : Int) < (n : Int) := by omega
  have q2 : ¬ (40 : Int) < (m : Int) := by omega
  have hb0 := Lib.hid ((Below.refl w.heap.size w).alloc (Nat.le_refl _) (.cells #[.slice A n c, .slice B m bc] 28))
  have HF := Lib.hid (FgBox.new w (.slice A n c) (.slice B m bc))
  have H := Lib.hid h
  clear h
  go_enter Tryz.func15, Tryz.ntmps15
  go_wp2_with fail
  go_loopw [25] (fun i' wv => ∃ i : Nat, i ≤ n ∧ i' = .int .i64 i ∧ FgBox wv w.heap.size (.slice A n c) (.slice B m bc) ∧ Below w.heap.size w wv) (fun i' _ => n - (intOf i').toNat)
  case atStart => exact ⟨0, by omega, rfl, HF.out, hb0.out⟩
  case round =>
    clear HF hb0
    obtain ⟨i, hi, rfl, hF, hb⟩ := hrel
    have HF := Lib.hid hF; have HB := Lib.hid hb
    clear hF hb
    by_cases hin : i < n
    · have i0 : (0 : Int) ≤ (i : Int) := by omega
      have i1 : (i : Int) < (n : Int) := by omega
      obtain ⟨q, o, hA, hc⟩ := (H.out.below HB.out).pts.at' (by omega)
      have x0 := hc (i * 4) (by omega)
      have x1 := hc (i * 4 + 1) (by omega)
      have x2 := hc (i * 4 + 2) (by omega)
      have x3 := hc (i * 4 + 3) (by omega)
      rw [← Nat.add_assoc] at x1 x2 x3
      subst hA
      have fx := H.out.fx i hin
      have fy := H.out.fy i hin
      obtain ⟨a, ha⟩ : ∃ a, a = ix zs (i * 4) := ⟨_, rfl⟩
      obtain ⟨d, hd⟩ : ∃ a, a = ix zs (i * 4 + 1) := ⟨_, rfl⟩
      obtain ⟨e, he⟩ : ∃ a, a = ix zs (i * 4 + 2) := ⟨_, rfl⟩
      obtain ⟨f, hf⟩ : ∃ a, a = ix zs (i * 4 + 3) := ⟨_, rfl⟩
      rw [← ha] at x0 fx; rw [← hd] at x1 fx; rw [← he] at x2 fy; rw [← hf] at x3 fy
      clear hc ha hd he hf
      have HX := Lib.hid fx; have HY := Lib.hid fy
      clear fx fy
      have j0 : ∀ w, (Instr.index 79 (.agg #[.int .i64 a, .int .i64 d, .int .i64 e, .int .i64 f]) (.int .i64 0)).run Tryz.prog w = .ok (.agg #[.int .i64 a, .int .i64 d]) w := fun _ => by kernel_rfl
      have j1 : ∀ w, (Instr.index 79 (.agg #[.int .i64 a, .int .i64 d, .int .i64 e, .int .i64 f]) (.int .i64 1)).run Tryz.prog w = .ok (.agg #[.int .i64 e, .int .i64 f]) w := fun _ => by kernel_rfl
      go_wp2_with fail
      have HFa := Lib.hid (HF.out.alloc (.cells #[.int .i64 a, .int .i64 d, .int .i64 e, .int .i64 f] 33))
      have HBa := Lib.hid (HB.out.alloc (by have := HB.out.size; omega) (.cells #[.int .i64 a, .int .i64 d, .int .i64 e, .int .i64 f] 33))
      clear x0 x1 x2 x3
      go_loopw [34] (fun j' wv => ∃ j : Nat, j ≤ 2 ∧ j' = .int .i64 j ∧ FgBox wv w.heap.size (.slice (some ⟨q, o, none⟩) n c) (.slice B m bc) ∧ Below w.heap.size w wv) (fun j' _ => 2 - (intOf j').toNat)
      case atStart => exact ⟨0, by omega, rfl, HFa.out, HBa.out⟩
      case round =>
        clear HFa HBa HF HB
        obtain ⟨j, hj, rfl, hF, hb⟩ := hrel
        have HF := Lib.hid hF; have HB := Lib.hid hb
        clear hF hb
        rcases (by omega : j = 0 ∨ j = 1 ∨ j = 2) with rfl | rfl | rfl
        · go_wp2_with fail
          refine Calls.mono (fcheck_ok a d _ HX.out) ?_
          rintro e2 w2 ⟨rfl, hb⟩
          have HF2 := Lib.hid ((HF.out.alloc (.cells #[.int .i64 a, .int .i64 d] 30)).below hb)
          have hb1 := HB.out.alloc (by have := HB.out.size; omega) (.cells #[.int .i64 a, .int .i64 d] 30)
          have HB2 := Lib.hid (hb1.trans (hb.mono hb1.size))
          clear hb hb1
          go_wp2_with fail
          go_roundw
          case rel => exact ⟨1, by omega, rfl, HF2.out, HB2.out⟩
          case measure => simp [intOf]
        · go_wp2_with fail
          refine Calls.mono (fcheck_ok e f _ HY.out) ?_
          rintro e2 w2 ⟨rfl, hb⟩
          have HF2 := Lib.hid ((HF.out.alloc (.cells #[.int .i64 e, .int .i64 f] 30)).below hb)
          have hb1 := HB.out.alloc (by have := HB.out.size; omega) (.cells #[.int .i64 e, .int .i64 f] 30)
          have HB2 := Lib.hid (hb1.trans (hb.mono hb1.size))
          clear hb hb1
          go_wp2_with fail
          go_roundw
          case rel => exact ⟨2, by omega, rfl, HF2.out, HB2.out⟩
          case measure => simp [intOf]
        · go_wp2_with fail
          go_roundw
          case rel => exact ⟨i + 1, by omega, by go_num, HF.out, HB.out⟩
          case measure => simp [intOf]; omega
    · obtain rfl : i = n := by omega
      have z0 := HF.out.c0; have z1 := HF.out.c1
      go_wp2_with fail
      clear z0 z1
      go_loopw [47] (fun j' wv => ∃ j : Nat, j ≤ m ∧ j' = .int .i64 j ∧ FgBox wv w.heap.size (.slice A i c) (.slice B m bc) ∧ Below w.heap.size w wv) (fun j' _ => m - (intOf j').toNat)
      case atStart => exact ⟨0, by omega, rfl, HF.out, HB.out⟩
      case round =>
        clear HF HB
        obtain ⟨j, hj, rfl, hF, hb⟩ := hrel
        have HF := Lib.hid hF; have HB := Lib.hid hb
        clear hF hb
        by_cases hjm : j < m
        · obtain rfl : j = 0 := by omega
          obtain rfl : m = 1 := by omega
          have n2 := H.out.n2 (by omega)
          have hmb := H.out.mb
          obtain ⟨b, g, gc, hB, y0, hgc, y1, y2⟩ := (H.out.below HB.out).lin (by omega)
          subst hB
          have HY1 := Lib.hid y1; have HY2 := Lib.hid y2
          clear y1 y2
          have b0 : (0 : Int) < ((1 : Nat) : Int) := by omega
          go_wp2_with fail
          clear y0
          go_loop [61] (fun k' => ∃ k : Nat, k ≤ 2 ∧ k' = .int .i64 k) (fun k' => 2 - (intOf k').toNat)
          case atStart => exact ⟨0, by omega, rfl⟩
          case round =>
            obtain ⟨k, hk, rfl⟩ := hrel
            have z0 := HF.out.c0
            have y1 := HY1.out; have y2 := HY2.out
            rcases (by omega : k = 0 ∨ k = 1 ∨ k = 2) with rfl | rfl | rfl
            · have g0 : (0 : Int) < (gc : Int) := by omega
              have g1 : ¬ (i : Int) ≤ 0 := by omega
              go_wp2_with fail
              go_round
              case rel => exact ⟨1, by omega, rfl⟩
              case measure => simp [intOf]
            · have g0 : (1 : Int) < (gc : Int) := by omega
              have g1 : ¬ (i : Int) - 1 < 0 := by omega
              have g2 : ¬ (i : Int) ≤ (i : Int) - 1 := by omega
              go_wp2_with fail
              go_round
              case rel => exact ⟨2, by omega, rfl⟩
              case measure => simp [intOf]
            · go_wp2_with fail
              go_roundw
              case rel => exact ⟨1, by omega, rfl, HF.out, HB.out⟩
              case measure => simp [intOf]
        · obtain rfl : j = m := by omega
          go_wp2_with fail
          go_ret
          exact ⟨rfl, HB.out⟩
end Go.Proofs.YtdifeoahaegjbaaGreatDoor
