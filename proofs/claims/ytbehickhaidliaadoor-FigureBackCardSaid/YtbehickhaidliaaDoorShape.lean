/- shape: a figure with whole coordinates. -/
import Derived.Test.YtbehickhaidliaaDoorFig
import Derived.Test.YtbehickhaidliaaDoorAppend
import Derived.Test.YtbehickhaidliaaDoorRegH
namespace Go.Proofs.YtbehickhaidliaaDoor
open Go.RowKit
set_option linter.unusedSimpArgs false
set_option linter.unusedVariables false

theorem below_grow {B : Nat} {w w1 w2 : World} {r : Option Nat} (hb : Below B w w1) (hs : B ≤ w.heap.size) (hg : w1.grownBy w2 r) (hr : ∀ q, r = some q → B ≤ q) : Below B w w2 :=
  ⟨hg.os.trans hb.os, hg.tape.trans hb.tape, hg.output.trans hb.output, by have := hg.size; have := hb.size; omega, fun k hk => (hg.block k (by have := hb.size; omega) (fun e => by have := hr k e.symm; omega)).trans (hb.block k hk)⟩
theorem below_grownR {w w' : World} (hb : Below w.heap.size w w') (r : Option Nat) : w.grownBy w' r := ⟨hb.os, hb.tape, hb.output, hb.size, fun k hk _ => hb.block k hk⟩
theorem FgBox.grown {w w' : World} {b : Nat} {u v : Value} {r : Option Nat} (h : FgBox w b u v) (hg : w.grownBy w' r) (hr : some b ≠ r) : FgBox w' b u v := World.rowIs.of_block h (hg.block b h.lt hr)
theorem infoPt : (Tryd.prog.info? 40).map (fun i => (i.zero, i.size, i.bytes)) = some (some (.agg #[.int .i64 0, .int .i64 0, .int .i64 0, .int .i64 0]), 4, 32) := by kernel_rfl

theorem setCell_grown (w : World) (b o : Nat) (v : Value) : w.grownBy (w.setCell ⟨b, o, none⟩ v) (some b) :=
  ⟨rfl, rfl, rfl, by simp, fun k _ hne => Go.Deep.blk_setCell_other _ _ _ _ (fun e => hne (by rw [e]))⟩
theorem own_flat_of {w : World} {base : Nat} {e : TypeId} {sz n cap : Nat} {A : Option Addr} {zs : List Int} (h : w.ownsRow base e sz (.slice A n cap) n (zs.map (Value.int .i64))) : FlatSl w sz A n cap zs := by
  obtain ⟨A', cap', h1, h2⟩ := own_flat h
  injection h1 with h3 _ h4
  rw [h3, h4]; exact h2
theorem own_set {w : World} {base b o : Nat} {e : TypeId} {sz n : Nat} {v x : Value} {xs : List Value} (h : w.ownsRow base e sz v n xs) (hb : b < base) : (w.setCell ⟨b, o, none⟩ x).ownsRow base e sz v n xs :=
  h.kept (row := some b) (setCell_grown w b o x) (by
    cases hv : v.ownBlock with
    | none => simp
    | some q => exact .inr (fun e => by have := (h.lt q hv).1; have := Option.some.inj e; omega))

/-- The numbers of the first k points. -/
def ptNums (X Y : Nat → Int) : Nat → List Int
  | 0 => []
  | k + 1 => ptNums X Y k ++ [X k, 1, Y k, 1]
theorem ptNums_len (X Y : Nat → Int) (k : Nat) : (ptNums X Y k).length = k * 4 := by
  induction k with
  | zero => rfl
  | succ k ih => unfold ptNums; rw [List.length_append, ih]; simp; omega
def shX (xs : List Int) (i : Nat) : Int := (ix xs i).tmod 1000
abbrev shNums (xs ys : List Int) (k : Nat) : List Int := ptNums (shX xs) (shX ys) k
theorem ix_left {l m : List Int} {j : Nat} (h : j < l.length) : ix (l ++ m) j = ix l j := by unfold ix; rw [List.getD_eq_getElem?_getD, List.getD_eq_getElem?_getD, List.getElem?_append_left h]
theorem ix_right {l m : List Int} {j : Nat} (k : Nat) (h : j = l.length + k) : ix (l ++ m) j = ix m k := by
  subst h
  unfold ix; rw [List.getD_eq_getElem?_getD, List.getD_eq_getElem?_getD, List.getElem?_append_right (by omega), Nat.add_sub_cancel_left]
/-- All coordinates are whole. -/
def WholeN (zs : List Int) (n : Nat) (X Y : Nat → Int) : Prop := ∀ i, i < n → ix zs (i * 4) = X i ∧ ix zs (i * 4 + 1) = 1 ∧ ix zs (i * 4 + 2) = Y i ∧ ix zs (i * 4 + 3) = 1
theorem ptNums_at (X Y : Nat → Int) (n : Nat) : WholeN (ptNums X Y n) n X Y := by
  intro i h
  induction n with
  | zero => omega
  | succ n ih =>
    have hl := ptNums_len X Y n
    unfold ptNums
    by_cases e : i = n
    · subst e
      exact ⟨ix_right 0 (by omega), ix_right 1 (by omega), ix_right 2 (by omega), ix_right 3 (by omega)⟩
    · obtain ⟨h0, h1, h2, h3⟩ := ih (by omega)
      exact ⟨(ix_left (by omega)).trans h0, (ix_left (by omega)).trans h1, (ix_left (by omega)).trans h2, (ix_left (by omega)).trans h3⟩
theorem tmod_lim (x : Int) : -1000 < x.tmod 1000 ∧ x.tmod 1000 < 1000 := ⟨Int.lt_tmod_of_pos _ (by omega), Int.tmod_lt_of_pos _ (by omega)⟩
def shN (a b : Nat) : Nat := min (min a b) 20
def ShapePost (xs ys : List Int) (n : Nat) (w : World) (e : Ending) (w' : World) : Prop :=
  ∃ A c B m bc, e = .returned (.agg #[.slice A n c, .slice B m bc]) ∧ FigW w' A n c (shNums xs ys n) B m bc ∧ (m = if 1 < n then 1 else 0) ∧ Below w.heap.size w w'

set_option maxRecDepth 100000 in
set_option maxHeartbeats 8000000 in
theorem shape_ok (A1 : Option Addr) (n1 c1 : Nat) (xs : List Int) (A2 : Option Addr) (n2 c2 : Nat) (ys : List Int) (w : World) (h1 : FlatSl w 1 A1 n1 c1 xs) (h2 : FlatSl w 1 A2 n2 c2 ys) :
    Calls Tryd.prog 7 #[.slice A1 n1 c1, .slice A2 n2 c2] w (ShapePost xs ys (shN n1 n2) w) := by
  obtain ⟨iP, hP0, hP1, hP2, hP3⟩ := info_parts infoPt
  have g1 := h1.le; have g2 := h2.le; have g3 := h1.most; have g4 := h2.most
  unfold maxLen at g3 g4
  obtain ⟨N, hN⟩ : ∃ N, N = shN n1 n2 := ⟨_, rfl⟩
  have N1 : N ≤ n1 := by rw [hN]; unfold shN; omega
  have N2 : N ≤ n2 := by rw [hN]; unfold shN; omega
  have N20 : N ≤ 20 := by rw [hN]; unfold shN; omega
  have NN : ∀ i, i < n1 → i < n2 → i < 20 → i < N := fun i a b c => by rw [hN]; unfold shN; omega
  have HNN := Lib.hid NN
  rw [← hN]
  have H1 := Lib.hid h1; have H2 := Lib.hid h2
  clear h1 h2 hN NN
  have B0 := Lib.hid (((Below.refl w.heap.size w).alloc (Nat.le_refl _) (.cells #[.slice none 0 0, .slice none 0 0] 27)).alloc (by simp) (.cells #[.slice none 0 0, .slice none 0 0] 27))
  have F0 := Lib.hid ((FgBox.new w (.slice none 0 0) (.slice none 0 0)).alloc (.cells #[.slice none 0 0, .slice none 0 0] 27))
  have hf1 := FgBox.new (w.alloc (.cells #[.slice none 0 0, .slice none 0 0] 27)) (.slice none 0 0) (.slice none 0 0)
  simp only [World.size_alloc] at hf1
  have F1 := Lib.hid hf1
  clear hf1
  go_enter Tryd.func7, Tryd.ntmps7
  go_wp2_with fail
  go_loopw [11] (fun i' wv => ∃ (i : Nat) (v : Value), i ≤ n1 ∧ i' = .int .i64 i ∧ wv.ownsRow (w.heap.size + 1 + 1) 40 4 v (min i N) ((shNums xs ys (min i N)).map (Value.int .i64)) ∧ (min i N = 0 → v = .slice none 0 0) ∧ FgBox wv w.heap.size (.slice none 0 0) (.slice none 0 0) ∧ FgBox wv (w.heap.size + 1) v (.slice none 0 0) ∧ w.heap.size + 1 + 1 ≤ wv.heap.size ∧ Below w.heap.size w wv) (fun i' _ => n1 - (intOf i').toNat)
  case atStart => exact ⟨0, .slice none 0 0, by omega, rfl, by rw [Nat.zero_min]; exact World.ownsRow_nil _ _ _ _, fun _ => rfl, F0.out, F1.out, by simp, B0.out⟩
  case round =>
    clear F0 F1 B0
    obtain ⟨i, v, hi, rfl, hown, hv0, hF0, hF1, hsz, hb⟩ := hrel
    have HO := Lib.hid hown; have HV0 := Lib.hid hv0; have HF0 := Lib.hid hF0; have HF1 := Lib.hid hF1; have HB := Lib.hid hb
    clear hown hv0 hF0 hF1 hb
    by_cases hin : i < n1
    · have i0 : (0 : Int) ≤ (i : Int) := by omega
      have i1 : (i : Int) < (n1 : Int) := by omega
      obtain ⟨q1, o1, hA1, hc⟩ := (H1.out.stay (by omega) HB.out).at' (by omega)
      have x0 := hc i (by omega)
      subst hA1
      obtain ⟨x, hx⟩ : ∃ x, x = ix xs i := ⟨_, rfl⟩
      rw [← hx] at x0
      have HX := Lib.hid hx
      clear hc hx
      by_cases hiN : i < N
      · have i2 : (i : Int) < (n2 : Int) := by omega
        have i3 : (i : Int) < 20 := by omega
        go_wp2_with fail
        obtain ⟨q2, o2, hA2, hc⟩ := H2.out.at' (by omega)
        have y0 := hc i (by omega)
        have q2w : q2 < w.heap.size := cell_lt y0
        replace y0 := (HB.out.cell (p := ⟨q2, o2 + i, none⟩) q2w).trans y0
        subst hA2
        obtain ⟨y, hy⟩ : ∃ y, y = ix ys i := ⟨_, rfl⟩
        rw [← hy] at y0
        have HY := Lib.hid hy
        clear hc hy
        obtain ⟨X, hX⟩ : ∃ X, X = wr.drew := ⟨_, rfl⟩
        have bX : Below wr.heap.size wr X := by rw [hX]; exact (Below.refl _ _).drew
        have hf : X.cell? ⟨w.heap.size + 1, 0, none⟩ = some v ∧ X.cell? ⟨q2, o2 + i, none⟩ = some (.int .i64 y) := ⟨(HF1.out.below bX).c0, (bX.cell (p := ⟨q2, o2 + i, none⟩) (cell_lt y0)).trans y0⟩
        refine wp_region_G [(15, fun w' => w'.cell? ⟨w.heap.size + 1, 0, none⟩ = some v ∧ w'.cell? ⟨q2, o2 + i, none⟩ = some (.int .i64 y))] (by kernel_rfl) (heldC_one (fun _ => by rw [← hX]; exact hf)) (fun hF => ?_)
        rw [← hX] at hF ⊢
        have HBX := Lib.hid (HB.out.trans (bX.mono HB.out.size))
        have HOX := Lib.hid (HO.out.kept (row := none) (below_grownR bX none) (by cases hv : v.ownBlock <;> simp))
        have HF0X := Lib.hid (HF0.out.below bX)
        have HF1X := Lib.hid (HF1.out.below bX)
        have hszX : w.heap.size + 1 + 1 ≤ X.heap.size := Nat.le_trans hsz bX.size
        clear hX bX y0 HO HF0 HF1 HB hsz x0
        refine wpG_take (oi := ?oi1) (v := ?vv1) 0 _ ?hi1 (List.Mem.head _) ?hc1 ?hQ1 hF ?hw1 ?hy1 (fun hF => ?hh1)
        case hi1 => (simp only [List.getElem?_toArray, List.getElem?_cons_succ, List.getElem?_cons_zero]; rfl)
        case hc1 => kernel_rfl
        case hQ1 => exact fun _ _ _ h => h
        case hw1 => rfl
        case hy1 => (intro wz hz; skip; go_simp; try (with_reducible rfl))
        try simp only [Act.put, List.setIfInBounds_toArray, List.set_cons_zero, List.set_cons_succ]
        refine wpG_take (oi := ?oi2) (v := ?vv2) 1 _ ?hi2 (List.Mem.head _) ?hc2 ?hQ2 hF ?hw2 ?hy2 (fun hF => ?hh2)
        case hi2 => (simp only [List.getElem?_toArray, List.getElem?_cons_succ, List.getElem?_cons_zero]; rfl)
        case hc2 => kernel_rfl
        case hQ2 => exact fun _ _ _ h => h
        case hw2 => rfl
        case hy2 => (intro wz hz; have zc := hz.1; go_simp; try (with_reducible rfl))
        try simp only [Act.put, List.setIfInBounds_toArray, List.set_cons_zero, List.set_cons_succ]
        refine wpG_take (oi := ?oi3) (v := ?vv3) 2 _ ?hi3 (List.Mem.head _) ?hc3 ?hQ3 hF ?hw3 ?hy3 (fun hF => ?hh3)
        case hi3 => (simp only [List.getElem?_toArray, List.getElem?_cons_succ, List.getElem?_cons_zero]; rfl)
        case hc3 => kernel_rfl
        case hQ3 => exact fun _ _ _ h => h
        case hw3 => rfl
        case hy3 => (intro wz hz; skip; go_simp; try (with_reducible rfl))
        try simp only [Act.put, List.setIfInBounds_toArray, List.set_cons_zero, List.set_cons_succ]
        refine wpG_take (oi := ?oi4) (v := ?vv4) 3 _ ?hi4 (List.Mem.head _) ?hc4 ?hQ4 hF ?hw4 ?hy4 (fun hF => ?hh4)
        case hi4 => (simp only [List.getElem?_toArray, List.getElem?_cons_succ, List.getElem?_cons_zero]; rfl)
        case hc4 => kernel_rfl
        case hQ4 => exact fun _ _ _ h => h
        case hw4 => rfl
        case hy4 => (intro wz hz; skip; go_simp; try (with_reducible rfl))
        try simp only [Act.put, List.setIfInBounds_toArray, List.set_cons_zero, List.set_cons_succ]
        refine wpG_take (oi := ?oi5) (v := ?vv5) 4 _ ?hi5 (List.Mem.head _) ?hc5 ?hQ5 hF ?hw5 ?hy5 (fun hF => ?hh5)
        case hi5 => (simp only [List.getElem?_toArray, List.getElem?_cons_succ, List.getElem?_cons_zero]; rfl)
        case hc5 => kernel_rfl
        case hQ5 => exact fun _ _ _ h => h
        case hw5 => rfl
        case hy5 => (intro wz hz; skip; go_simp; try (with_reducible rfl))
        try simp only [Act.put, List.setIfInBounds_toArray, List.set_cons_zero, List.set_cons_succ]
        refine wpG_take (oi := ?oi6) (v := ?vv6) 5 _ ?hi6 (List.Mem.head _) ?hc6 ?hQ6 hF ?hw6 ?hy6 (fun hF => ?hh6)
        case hi6 => (simp only [List.getElem?_toArray, List.getElem?_cons_succ, List.getElem?_cons_zero]; rfl)
        case hc6 => kernel_rfl
        case hQ6 => exact fun _ _ _ h => h
        case hw6 => rfl
        case hy6 => (intro wz hz; skip; go_simp; try (with_reducible rfl))
        try simp only [Act.put, List.setIfInBounds_toArray, List.set_cons_zero, List.set_cons_succ]
        refine wpG_take (oi := ?oi7) (v := ?vv7) 6 _ ?hi7 (List.Mem.head _) ?hc7 ?hQ7 hF ?hw7 ?hy7 (fun hF => ?hh7)
        case hi7 => (simp only [List.getElem?_toArray, List.getElem?_cons_succ, List.getElem?_cons_zero]; rfl)
        case hc7 => kernel_rfl
        case hQ7 => exact fun _ _ _ h => h
        case hw7 => rfl
        case hy7 => (intro wz hz; skip; go_simp; try (with_reducible rfl))
        try simp only [Act.put, List.setIfInBounds_toArray, List.set_cons_zero, List.set_cons_succ]
        refine wpG_take (oi := ?oi8) (v := ?vv8) 7 _ ?hi8 (List.Mem.head _) ?hc8 ?hQ8 hF ?hw8 ?hy8 (fun hF => ?hh8)
        case hi8 => (simp only [List.getElem?_toArray, List.getElem?_cons_succ, List.getElem?_cons_zero]; rfl)
        case hc8 => kernel_rfl
        case hQ8 => exact fun _ _ _ h => h
        case hw8 => rfl
        case hy8 => (intro wz hz; skip; go_simp; try (with_reducible rfl))
        try simp only [Act.put, List.setIfInBounds_toArray, List.set_cons_zero, List.set_cons_succ]
        refine wpG_take (oi := ?oi9) (v := ?vv9) 8 _ ?hi9 (List.Mem.head _) ?hc9 ?hQ9 hF ?hw9 ?hy9 (fun hF => ?hh9)
        case hi9 => (simp only [List.getElem?_toArray, List.getElem?_cons_succ, List.getElem?_cons_zero]; rfl)
        case hc9 => kernel_rfl
        case hQ9 => exact fun _ _ _ h => h
        case hw9 => rfl
        case hy9 => (intro wz hz; have zc := hz.2; go_simp; try (with_reducible rfl))
        try simp only [Act.put, List.setIfInBounds_toArray, List.set_cons_zero, List.set_cons_succ]
        refine wpG_take (oi := ?oi10) (v := ?vv10) 9 _ ?hi10 (List.Mem.head _) ?hc10 ?hQ10 hF ?hw10 ?hy10 (fun hF => ?hh10)
        case hi10 => (simp only [List.getElem?_toArray, List.getElem?_cons_succ, List.getElem?_cons_zero]; rfl)
        case hc10 => kernel_rfl
        case hQ10 => exact fun _ _ _ h => h
        case hw10 => rfl
        case hy10 => (intro wz hz; skip; go_simp; try (with_reducible rfl))
        try simp only [Act.put, List.setIfInBounds_toArray, List.set_cons_zero, List.set_cons_succ]
        refine wpG_take (oi := ?oi11) (v := ?vv11) 10 _ ?hi11 (List.Mem.head _) ?hc11 ?hQ11 hF ?hw11 ?hy11 (fun hF => ?hh11)
        case hi11 => (simp only [List.getElem?_toArray, List.getElem?_cons_succ, List.getElem?_cons_zero]; rfl)
        case hc11 => kernel_rfl
        case hQ11 => exact fun _ _ _ h => h
        case hw11 => rfl
        case hy11 => (intro wz hz; skip; go_simp; try (with_reducible rfl))
        try simp only [Act.put, List.setIfInBounds_toArray, List.set_cons_zero, List.set_cons_succ]
        refine wpG_take (oi := ?oi12) (v := ?vv12) 11 _ ?hi12 (List.Mem.head _) ?hc12 ?hQ12 hF ?hw12 ?hy12 (fun hF => ?hh12)
        case hi12 => (simp only [List.getElem?_toArray, List.getElem?_cons_succ, List.getElem?_cons_zero]; rfl)
        case hc12 => kernel_rfl
        case hQ12 => exact fun _ _ _ h => h
        case hw12 => rfl
        case hy12 => (intro wz hz; skip; go_simp; try (with_reducible rfl))
        try simp only [Act.put, List.setIfInBounds_toArray, List.set_cons_zero, List.set_cons_succ]
        refine wpG_ready (rs := [12]) (by kernel_rfl) (by simp) ?_
        refine all_one ?_
        refine wpOp_hand (oi := ?oi13) ?hi13 (fun K hK => ?hh13)
        case hi13 => (simp only [List.getElem?_toArray, List.getElem?_cons_succ, List.getElem?_cons_zero]; rfl)
        go_simp
        obtain ⟨Y, hY⟩ : ∃ Y, Y = X.alloc (.cells #[.int .i64 (x.tmod 1000), .int .i64 1, .int .i64 (y.tmod 1000), .int .i64 1] 40) := ⟨_, rfl⟩
        have bY : Below X.heap.size X Y := by rw [hY]; exact (Below.refl _ _).alloc (Nat.le_refl _) _
        have hfY : Y.cell? ⟨w.heap.size + 1, 0, none⟩ = some v ∧ Y.cell? ⟨q2, o2 + i, none⟩ = some (.int .i64 y) := ⟨(bY.cell (p := ⟨w.heap.size + 1, 0, none⟩) (cell_lt hf.1)).trans hf.1, (bY.cell (p := ⟨q2, o2 + i, none⟩) (cell_lt hf.2)).trans hf.2⟩
        have hnews : ∀ j u, [Value.int .i64 (x.tmod 1000), .int .i64 1, .int .i64 (y.tmod 1000), .int .i64 1][j]? = some u → Y.cell? ((⟨X.heap.size, 0, none⟩ : Addr).add j) = some u := by
          rw [hY]
          exact World.news_of_block (cs := #[.int .i64 (x.tmod 1000), .int .i64 1, .int .i64 (y.tmod 1000), .int .i64 1]) (t := 40) (fr := (0, 0)) (heap_alloc_new X _)
        rw [← hY]
        have HOY := Lib.hid (HOX.out.kept (row := none) (below_grownR bY none) (by cases hv : v.ownBlock <;> simp))
        have HBY := Lib.hid (HBX.out.trans (bY.mono HBX.out.size))
        have HF0Y := Lib.hid (HF0X.out.below bY)
        have HF1Y := Lib.hid (HF1X.out.below bY)
        have hszY : w.heap.size + 1 + 1 ≤ Y.heap.size := Nat.le_trans hszX bY.size
        clear hY bY HOX HBX HF0X HF1X hf
        refine hK.out _ _ (heldC_one (fun _ => hfY)) (fun hF => ?_)
        clear hK K
        try simp only [Act.put, List.setIfInBounds_toArray, List.set_cons_zero, List.set_cons_succ]
        refine wpG_ready (rs := [13]) (by kernel_rfl) (by simp) ?_
        refine all_one ?_
        have hmi : min i N = i := by omega
        have hown := HOY.out
        rw [hmi] at hown
        refine wpOp_hand (oi := ?oi14) ?hi14 (fun K hK => ?hh14)
        case hi14 => (simp only [List.getElem?_toArray, List.getElem?_cons_succ, List.getElem?_cons_zero]; rfl)
        refine step_append_any (by rfl) (.tmp 25) (.tmp 36) _ (by rfl) (w.heap.size + 1 + 1) 40 iP _ 4 32 Tryd.underlying24 hP0 hP1 hP2 hP3 rfl (by omega) v i ((shNums xs ys i).map (Value.int .i64)) (by rfl) hown ⟨X.heap.size, 0, none⟩ 1 1 [.int .i64 (x.tmod 1000), .int .i64 1, .int .i64 (y.tmod 1000), .int .i64 1] (by rfl) rfl hnews (by simp [Value.oneCell']) (by unfold maxLen; omega) (by omega) hszY ?_
        intro v' Z hown' hgr hat
        obtain ⟨g, gc, hv', _, _⟩ := hown'.form (by omega)
        subst hv'
        have hlo : ∀ q, v.ownBlock = some q → w.heap.size + 1 + 1 ≤ q := fun q hq => (hown.lt q hq).1
        have HF0Z := Lib.hid (HF0Y.out.grown hgr (fun e => by have := hlo _ e.symm; omega))
        have hf1 := HF1Y.out.grown hgr (fun e => by have := hlo _ e.symm; omega)
        have HBZ := Lib.hid (below_grow HBY.out (Nat.le_refl _) hgr (fun q hq => by have := hlo q hq; omega))
        have hfZ : Z.cell? ⟨w.heap.size + 1, 0, none⟩ = some v ∧ Z.cell? ⟨q2, o2 + i, none⟩ = some (.int .i64 y) := ⟨hf1.c0, (hgr.cell_far ⟨q2, o2 + i, none⟩ (cell_lt hfY.2) (fun e => by have := hlo _ e.symm; simp at this; omega)).trans hfY.2⟩
        have hszZ : w.heap.size + 1 + 1 ≤ Z.heap.size := Nat.le_trans hszY hgr.size
        have HOZ := Lib.hid hown'; have HF1Z := Lib.hid hf1
        clear hown hown' hgr hat hnews hf1 HOY HBY HF0Y HF1Y hlo hfY
        refine hK.out _ _ (heldC_one (fun _ => hfZ)) (fun hF => ?_)
        clear hK K
        try simp only [Act.put, List.setIfInBounds_toArray, List.set_cons_zero, List.set_cons_succ]
        refine wpG_take (oi := ?oi15) (v := ?vv15) 14 _ ?hi15 (List.Mem.head _) ?hc15 ?hQ15 hF ?hw15 ?hy15 (fun hF => ?hh15)
        case hi15 => (simp only [List.getElem?_toArray, List.getElem?_cons_succ, List.getElem?_cons_zero]; rfl)
        case hc15 => kernel_rfl
        case hQ15 => exact fun _ _ _ h => h
        case hw15 => rfl
        case hy15 => (intro wz hz; skip; go_simp; try (with_reducible rfl))
        try simp only [Act.put, List.setIfInBounds_toArray, List.set_cons_zero, List.set_cons_succ]
        refine wpG_ready (rs := [15]) (by kernel_rfl) (by simp) ?_
        refine all_one ?_
        have f0 := HF1Z.out.c0; have f1 := HF1Z.out.free 0; have f2 := HF1Z.out.lt
        refine wpOp_hand (oi := ?oi16) ?hi16 (fun K hK => ?hh16)
        case hi16 => (simp only [List.getElem?_toArray, List.getElem?_cons_succ, List.getElem?_cons_zero]; rfl)
        go_simp
        refine hK.out _ _ (heldC_one (fun h => absurd h (by simp))) (fun hF => ?_)
        clear hK K
        try simp only [Act.put, List.setIfInBounds_toArray, List.set_cons_zero, List.set_cons_succ]
        refine wpG_done (by kernel_rfl) ?_ _
        clear f0 f1 f2 hfZ hF
        have hg2 : w.heap.size + 1 + 1 ≤ g := (HOZ.out.lt g rfl).1
        have hmi2 : min (i + 1) N = i + 1 := by omega
        have gs := setCell_grown Z (w.heap.size + 1) 0 (.slice (some ⟨g, 0, none⟩) (i + 1) gc)
        have HOU := Lib.hid (show (Z.setCell ⟨w.heap.size + 1, 0, none⟩ (.slice (some ⟨g, 0, none⟩) (i + 1) gc)).ownsRow (w.heap.size + 1 + 1) 40 4 (.slice (some ⟨g, 0, none⟩) (i + 1) gc) (min (i + 1) N) ((shNums xs ys (min (i + 1) N)).map (Value.int .i64)) from by
          rw [hmi2]
          refine (HOZ.out.kept (row := some (w.heap.size + 1)) gs (.inr (fun e => by have h' : g = w.heap.size + 1 := Option.some.inj e; omega))) |> fun h => ?_
          show World.ownsRow _ _ _ _ _ _ ((shNums xs ys i ++ [(ix xs i).tmod 1000, 1, (ix ys i).tmod 1000, 1]).map (Value.int .i64))
          rw [← HX.out, ← HY.out, List.map_append]
          exact h)
        have HF0U := Lib.hid (HF0Z.out.other (a := ⟨w.heap.size + 1, 0, none⟩) (by show w.heap.size ≠ w.heap.size + 1; omega) (.slice (some ⟨g, 0, none⟩) (i + 1) gc))
        have HF1U := Lib.hid (HF1Z.out.set0 (.slice (some ⟨g, 0, none⟩) (i + 1) gc))
        have HBU := Lib.hid (HBZ.out.setCell (p := ⟨w.heap.size + 1, 0, none⟩) (show w.heap.size ≤ w.heap.size + 1 by omega) (.slice (some ⟨g, 0, none⟩) (i + 1) gc))
        have hszU : w.heap.size + 1 + 1 ≤ (Z.setCell ⟨w.heap.size + 1, 0, none⟩ (.slice (some ⟨g, 0, none⟩) (i + 1) gc)).heap.size := by simpa using hszZ
        clear HOZ HF0Z HF1Z HBZ hszZ
        go_wp2_with fail
        go_roundw
        case rel => exact ⟨i + 1, _, by omega, by go_num, HOU.out, fun h => absurd h (by omega), HF0U.out, HF1U.out, hszU, HBU.out⟩
        case measure => simp [intOf]; omega
      · have hte : ¬ ((i : Int) < (n2 : Int) ∧ (i : Int) < 20) := fun ⟨a, b⟩ => hiN (HNN.out i hin (by omega) (by omega))
        have hmi : min (i + 1) N = min i N := by omega
        by_cases i2 : (i : Int) < (n2 : Int)
        · have i3 : ¬ (i : Int) < 20 := fun h => hte ⟨i2, h⟩
          clear hte
          go_wp2_with fail
          go_roundw
          case rel => exact ⟨i + 1, v, by omega, by go_num, by rw [hmi]; exact HO.out, by rw [hmi]; exact HV0.out, HF0.out, HF1.out, hsz, HB.out⟩
          case measure => simp [intOf]; omega
        · clear hte
          go_wp2_with fail
          go_roundw
          case rel => exact ⟨i + 1, v, by omega, by go_num, by rw [hmi]; exact HO.out, by rw [hmi]; exact HV0.out, HF0.out, HF1.out, hsz, HB.out⟩
          case measure => simp [intOf]; omega
    · obtain rfl : i = n1 := by omega
      have hmi : min i N = N := by omega
      have hown := HO.out
      rw [hmi] at hown
      obtain ⟨A, c, rfl, hfl⟩ := own_flat hown
      have HOW := Lib.hid hown
      have fle := hfl.le; have fmost := hfl.most
      unfold maxLen at fmost
      have y0 := HF1.out.c0; have y1 := HF1.out.c1; have yf1 := HF1.out.free 1; have yl := HF1.out.lt; have zf0 := HF0.out.free 0; have zf1 := HF0.out.free 1; have zc0 := HF0.out.c0; have zc1 := HF0.out.c1; have zl := HF0.out.lt
      have hpt : ∀ i, i < N → FrOk (ix (shNums xs ys N) (i * 4)) (ix (shNums xs ys N) (i * 4 + 1)) ∧ FrOk (ix (shNums xs ys N) (i * 4 + 2)) (ix (shNums xs ys N) (i * 4 + 3)) := fun i hi => by
        obtain ⟨e0, e1, e2, e3⟩ := ptNums_at (shX xs) (shX ys) N i hi
        rw [e0, e1, e2, e3]
        have l1 := tmod_lim (ix xs i); have l2 := tmod_lim (ix ys i)
        unfold shX
        exact ⟨frOk_one (by omega) (by omega), frOk_one (by omega) (by omega)⟩
      have HPT := Lib.hid hpt
      clear hown hfl hpt HO HV0 hmi
      by_cases h1N : 1 < N
      · have h1N' : (1 : Int) < (N : Int) := by omega
        have p1 : IntKind.i64.wrap ((N : Int) - 1) = (N : Int) - 1 := IntWalk.i64_in _ (by omega)
        go_wp2_with fail
        have hb2 := (((((HB.out.setCell (p := ⟨w.heap.size + 1, 1, none⟩) (show w.heap.size ≤ w.heap.size + 1 by omega) (.slice (some ⟨wr.heap.size + 1, 0, none⟩) 1 1)).setCell (p := ⟨w.heap.size, 0, none⟩) (Nat.le_refl _) (.slice A N c)).setCell (p := ⟨w.heap.size, 1, none⟩) (Nat.le_refl _) (.slice (some ⟨wr.heap.size + 1, 0, none⟩) 1 1)).alloc (by simp; omega) (.cells #[.int .i64 0, .int .i64 ((N : Int) - 1)] 3)).alloc (by simp; omega) (.cells #[.slice (some ⟨wr.heap.size, 0, none⟩) 2 2] 22))
        have hw2 := own_below (own_below (own_set (b := w.heap.size) (o := 1) (x := .slice (some ⟨wr.heap.size + 1, 0, none⟩) 1 1) (own_set (b := w.heap.size) (o := 0) (x := .slice A N c) (own_set (b := w.heap.size + 1) (o := 1) (x := .slice (some ⟨wr.heap.size + 1, 0, none⟩) 1 1) HOW.out (by omega)) (by omega)) (by omega)) ((Below.refl _ _).alloc (Nat.le_refl _) (.cells #[.int .i64 0, .int .i64 ((N : Int) - 1)] 3))) ((Below.refl _ _).alloc (Nat.le_refl _) (.cells #[.slice (some ⟨wr.heap.size, 0, none⟩) 2 2] 22))
        have l1 : (((((wr.setCell ⟨w.heap.size + 1, 1, none⟩ (.slice (some ⟨wr.heap.size + 1, 0, none⟩) 1 1)).setCell ⟨w.heap.size, 0, none⟩ (.slice A N c)).setCell ⟨w.heap.size, 1, none⟩ (.slice (some ⟨wr.heap.size + 1, 0, none⟩) 1 1)).alloc (.cells #[.int .i64 0, .int .i64 ((N : Int) - 1)] 3)).alloc (.cells #[.slice (some ⟨wr.heap.size, 0, none⟩) 2 2] 22)).cell? ⟨wr.heap.size + 1, 0, none⟩ = some (.slice (some ⟨wr.heap.size, 0, none⟩) 2 2) := by simp [go_sem]
        have l2 : (((((wr.setCell ⟨w.heap.size + 1, 1, none⟩ (.slice (some ⟨wr.heap.size + 1, 0, none⟩) 1 1)).setCell ⟨w.heap.size, 0, none⟩ (.slice A N c)).setCell ⟨w.heap.size, 1, none⟩ (.slice (some ⟨wr.heap.size + 1, 0, none⟩) 1 1)).alloc (.cells #[.int .i64 0, .int .i64 ((N : Int) - 1)] 3)).alloc (.cells #[.slice (some ⟨wr.heap.size, 0, none⟩) 2 2] 22)).cell? ⟨wr.heap.size, 0, none⟩ = some (.int .i64 0) := by simp [go_sem]
        have l3 : (((((wr.setCell ⟨w.heap.size + 1, 1, none⟩ (.slice (some ⟨wr.heap.size + 1, 0, none⟩) 1 1)).setCell ⟨w.heap.size, 0, none⟩ (.slice A N c)).setCell ⟨w.heap.size, 1, none⟩ (.slice (some ⟨wr.heap.size + 1, 0, none⟩) 1 1)).alloc (.cells #[.int .i64 0, .int .i64 ((N : Int) - 1)] 3)).alloc (.cells #[.slice (some ⟨wr.heap.size, 0, none⟩) 2 2] 22)).cell? ⟨wr.heap.size, 1, none⟩ = some (.int .i64 ((N : Int) - 1)) := by simp [go_sem]
        refine bodyPost_ret (v := .agg #[.slice A N c, .slice (some ⟨wr.heap.size + 1, 0, none⟩) 1 1]) ?_ rfl ⟨A, c, some ⟨wr.heap.size + 1, 0, none⟩, 1, 1, rfl, ⟨own_flat_of hw2, by omega, fun i hi => (HPT.out i hi).1, fun i hi => (HPT.out i hi).2, by omega, by omega, by omega, fun _ => ⟨wr.heap.size + 1, wr.heap.size, 2, rfl, l1, by omega, l2, l3⟩⟩, by rw [if_pos h1N], hb2⟩
        simp [results, Tryd.results7, go_sem, *]
      · have h1N' : ¬ (1 : Int) < (N : Int) := by omega
        go_wp2_with fail
        refine bodyPost_ret (v := .agg #[.slice A N c, .slice none 0 0]) ?_ rfl ⟨A, c, none, 0, 0, rfl, ⟨own_flat_of (own_set (own_set HOW.out (by omega)) (by omega)), by omega, fun i hi => (HPT.out i hi).1, fun i hi => (HPT.out i hi).2, by omega, by omega, by omega, fun h => absurd h (by omega)⟩, by rw [if_neg h1N], ?_⟩
        · simp [results, Tryd.results7, go_sem, *]
        · exact (HB.out.setCell (p := ⟨w.heap.size, 0, none⟩) (Nat.le_refl _) _).setCell (p := ⟨w.heap.size, 1, none⟩) (Nat.le_refl _) _
end Go.Proofs.YtbehickhaidliaaDoor
