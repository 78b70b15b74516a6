/- figure.Box: the corners of the rectangle. (Printed by tools/gen-boxf.py out of XBoxF.head.) -/
import Derived.Test.YtbehickhaidliaaDoorMapped
import Derived.Test.YtbehickhaidliaaDoorShape
import Derived.Deep.DeepCutAuto
import Derived.Deep.CutRange
namespace Go.Proofs.YtbehickhaidliaaDoor
open Go.RowKit
set_option linter.unusedSimpArgs false
set_option linter.unusedVariables false

def ptOf (zs : List Int) (o i : Nat) : Int × Int := (ix zs (i * 4 + o), ix zs (i * 4 + o + 1))
/-- The least and the greatest of the first k fractions, and of the first one. -/
def lowF (zs : List Int) (o : Nat) : Nat → Int × Int
  | 0 => ptOf zs o 0
  | k + 1 => if (ptOf zs o k).1 * (lowF zs o k).2 < (lowF zs o k).1 * (ptOf zs o k).2 then ptOf zs o k else lowF zs o k
def highF (zs : List Int) (o : Nat) : Nat → Int × Int
  | 0 => ptOf zs o 0
  | k + 1 => if (highF zs o k).1 * (ptOf zs o k).2 < (ptOf zs o k).1 * (highF zs o k).2 then ptOf zs o k else highF zs o k
theorem lowF_succ (zs : List Int) (o k : Nat) : lowF zs o (k + 1) = if (ptOf zs o k).1 * (lowF zs o k).2 < (lowF zs o k).1 * (ptOf zs o k).2 then ptOf zs o k else lowF zs o k := rfl
theorem highF_succ (zs : List Int) (o k : Nat) : highF zs o (k + 1) = if (highF zs o k).1 * (ptOf zs o k).2 < (ptOf zs o k).1 * (highF zs o k).2 then ptOf zs o k else highF zs o k := rfl
theorem lowF_ok (zs : List Int) (o n : Nat) (h0 : 0 < n) (h : ∀ i, i < n → FrOk (ptOf zs o i).1 (ptOf zs o i).2) : ∀ k, k ≤ n → FrOk (lowF zs o k).1 (lowF zs o k).2
  | 0, _ => h 0 h0
  | k + 1, hk => by
    rw [lowF_succ]
    split
    · exact h k (by omega)
    · exact lowF_ok zs o n h0 h k (by omega)
theorem highF_ok (zs : List Int) (o n : Nat) (h0 : 0 < n) (h : ∀ i, i < n → FrOk (ptOf zs o i).1 (ptOf zs o i).2) : ∀ k, k ≤ n → FrOk (highF zs o k).1 (highF zs o k).2
  | 0, _ => h 0 h0
  | k + 1, hk => by
    rw [highF_succ]
    split
    · exact h k (by omega)
    · exact highF_ok zs o n h0 h k (by omega)
def lhV (p q : Int × Int) : Value := .agg #[.int .i64 p.1, .int .i64 p.2, .int .i64 q.1, .int .i64 q.2]

set_option maxHeartbeats 4000000 in
theorem less_any (n d m c : Int) (b : Bool) (hb : b = decide (cmpF (n * c) (m * d) < 0)) (w : World) (h : FrOk n d) (h2 : FrOk m c) : Calls Tryd.prog 27 #[.agg #[.int .i64 n, .int .i64 d], .agg #[.int .i64 m, .int .i64 c]] w fun e w' => e = .returned (.bool b) ∧ Below w.heap.size w w' := by
  have H := Lib.hid (fun W => fcmp_ok n d m c W h h2)
  obtain ⟨r, hr⟩ : ∃ r, r = cmpF (n * c) (m * d) := ⟨_, rfl⟩
  rw [← hr] at H hb
  clear hr h h2
  go_enter Tryd.func27, Tryd.ntmps27
  go_wp2_with fail
  refine Calls.mono (H.out _) ?_
  rintro e w1 ⟨rfl, hb1⟩
  have hb2 := (((Below.refl w.heap.size w).alloc (Nat.le_refl _) (.cells #[.int .i64 n, .int .i64 d] 33)).alloc (by simp) (.cells #[.int .i64 m, .int .i64 c] 33))
  have hb3 := hb2.trans (hb1.mono hb2.size)
  clear hb1 hb2
  have HB := Lib.hid hb
  clear hb
  go_wp2_with fail
  go_ret
  exact ⟨by rw [HB.out]; rfl, hb3⟩
theorem less_dec (n d m c : Int) (b : Bool) (w : World) (hb : b = decide (n * c < m * d)) (h : FrOk n d) (h2 : FrOk m c) : Calls Tryd.prog 27 #[.agg #[.int .i64 n, .int .i64 d], .agg #[.int .i64 m, .int .i64 c]] w fun e w' => e = .returned (.bool b) ∧ Below w.heap.size w w' :=
  less_any n d m c b (by
    rw [hb]
    by_cases hc : n * c < m * d
    · unfold cmpF; rw [if_pos hc]; simp [hc]
    · unfold cmpF; rw [if_neg hc]; split <;> simp [hc]) w h h2

section
variable {w w' : World} {b : Nat} {x0 x1 x2 x3 : Int}
theorem PtBox.set01 (h : PtBox w b x0 x1 x2 x3) (u v : Int) : PtBox ((w.setCell ⟨b, 0, none⟩ (.int .i64 u)).setCell ⟨b, 1, none⟩ (.int .i64 v)) b u v x2 x3 :=
  ((World.rowIs.set h 0 (.int .i64 u)).set 1 (.int .i64 v)).congr (fun i hi => by
    match i, hi with
    | 0, _ => rfl
    | 1, _ => rfl
    | 2, _ => rfl
    | 3, _ => rfl)
theorem PtBox.set23 (h : PtBox w b x0 x1 x2 x3) (u v : Int) : PtBox ((w.setCell ⟨b, 2, none⟩ (.int .i64 u)).setCell ⟨b, 3, none⟩ (.int .i64 v)) b x0 x1 u v :=
  ((World.rowIs.set h 2 (.int .i64 u)).set 3 (.int .i64 v)).congr (fun i hi => by
    match i, hi with
    | 0, _ => rfl
    | 1, _ => rfl
    | 2, _ => rfl
    | 3, _ => rfl)
theorem PtBox.far (h : PtBox w b x0 x1 x2 x3) {c o p : Nat} (hc : b ≠ c) (u v : Value) : PtBox ((w.setCell ⟨c, o, none⟩ u).setCell ⟨c, p, none⟩ v) b x0 x1 x2 x3 :=
  (h.other (p := ⟨c, o, none⟩) hc u).other (p := ⟨c, p, none⟩) hc v
theorem FgBox.far {u v : Value} (h : FgBox w b u v) {c o p : Nat} (hc : b ≠ c) (x y : Value) : FgBox ((w.setCell ⟨c, o, none⟩ x).setCell ⟨c, p, none⟩ y) b u v :=
  (h.other (a := ⟨c, o, none⟩) hc x).other (a := ⟨c, p, none⟩) hc y
end
theorem below_two {w w' : World} {B b o p : Nat} (h : Below B w w') (hB : B ≤ b) (u v : Value) : Below B w ((w'.setCell ⟨b, o, none⟩ u).setCell ⟨b, p, none⟩ v) :=
  (h.setCell (p := ⟨b, o, none⟩) hB u).setCell (p := ⟨b, p, none⟩) hB v

/-- The boxes of 'Box'. -/
structure BxB (w : World) (k : Nat) (u v : Value) (la ld le lf ha hd he hf : Int) : Prop where
  g : FgBox w k u v
  r : PtBox w (k + 1) 0 0 0 0
  s : PtBox w (k + 1 + 1) 0 0 0 0
  l : PtBox w (k + 1 + 1 + 1) la ld le lf
  h : PtBox w (k + 1 + 1 + 1 + 1) ha hd he hf
section
variable {w w' : World} {k : Nat} {u v : Value} {la ld le lf ha hd he hf : Int}
theorem BxB.below (h : BxB w k u v la ld le lf ha hd he hf) (hb : Below w.heap.size w w') : BxB w' k u v la ld le lf ha hd he hf := ⟨h.g.below hb, h.r.below hb, h.s.below hb, h.l.below hb, h.h.below hb⟩
theorem BxB.setl0 (h : BxB w k u v la ld le lf ha hd he hf) (x y : Int) : BxB ((w.setCell ⟨k + 1 + 1 + 1, 0, none⟩ (.int .i64 x)).setCell ⟨k + 1 + 1 + 1, 1, none⟩ (.int .i64 y)) k u v x y le lf ha hd he hf :=
  ⟨h.g.far (by omega) _ _, h.r.far (by omega) _ _, h.s.far (by omega) _ _, h.l.set01 x y, h.h.far (by omega) _ _⟩
theorem BxB.setl2 (h : BxB w k u v la ld le lf ha hd he hf) (x y : Int) : BxB ((w.setCell ⟨k + 1 + 1 + 1, 2, none⟩ (.int .i64 x)).setCell ⟨k + 1 + 1 + 1, 3, none⟩ (.int .i64 y)) k u v la ld x y ha hd he hf :=
  ⟨h.g.far (by omega) _ _, h.r.far (by omega) _ _, h.s.far (by omega) _ _, h.l.set23 x y, h.h.far (by omega) _ _⟩
theorem BxB.seth0 (h : BxB w k u v la ld le lf ha hd he hf) (x y : Int) : BxB ((w.setCell ⟨k + 1 + 1 + 1 + 1, 0, none⟩ (.int .i64 x)).setCell ⟨k + 1 + 1 + 1 + 1, 1, none⟩ (.int .i64 y)) k u v la ld le lf x y he hf :=
  ⟨h.g.far (by omega) _ _, h.r.far (by omega) _ _, h.s.far (by omega) _ _, h.l.far (by omega) _ _, h.h.set01 x y⟩
theorem BxB.seth2 (h : BxB w k u v la ld le lf ha hd he hf) (x y : Int) : BxB ((w.setCell ⟨k + 1 + 1 + 1 + 1, 2, none⟩ (.int .i64 x)).setCell ⟨k + 1 + 1 + 1 + 1, 3, none⟩ (.int .i64 y)) k u v la ld le lf ha hd x y :=
  ⟨h.g.far (by omega) _ _, h.r.far (by omega) _ _, h.s.far (by omega) _ _, h.l.far (by omega) _ _, h.h.set23 x y⟩
theorem bxB_new (w : World) (u v : Value) : BxB (((((w.alloc (.cells #[u, v] 27)).alloc (.cells #[.int .i64 0, .int .i64 0, .int .i64 0, .int .i64 0] 40)).alloc (.cells #[.int .i64 0, .int .i64 0, .int .i64 0, .int .i64 0] 40)).alloc (.cells #[.int .i64 0, .int .i64 0, .int .i64 0, .int .i64 0] 40)).alloc (.cells #[.int .i64 0, .int .i64 0, .int .i64 0, .int .i64 0] 40)) w.heap.size u v 0 0 0 0 0 0 0 0 := by
  have h1 := ((((FgBox.new w u v).alloc (.cells #[.int .i64 0, .int .i64 0, .int .i64 0, .int .i64 0] 40)).alloc (.cells #[.int .i64 0, .int .i64 0, .int .i64 0, .int .i64 0] 40)).alloc (.cells #[.int .i64 0, .int .i64 0, .int .i64 0, .int .i64 0] 40)).alloc (.cells #[.int .i64 0, .int .i64 0, .int .i64 0, .int .i64 0] 40)
  have h2 := (((PtBox.new (w.alloc (.cells #[u, v] 27)) 0 0 0 0).alloc (.cells #[.int .i64 0, .int .i64 0, .int .i64 0, .int .i64 0] 40)).alloc (.cells #[.int .i64 0, .int .i64 0, .int .i64 0, .int .i64 0] 40)).alloc (.cells #[.int .i64 0, .int .i64 0, .int .i64 0, .int .i64 0] 40)
  have h3 := ((PtBox.new ((w.alloc (.cells #[u, v] 27)).alloc (.cells #[.int .i64 0, .int .i64 0, .int .i64 0, .int .i64 0] 40)) 0 0 0 0).alloc (.cells #[.int .i64 0, .int .i64 0, .int .i64 0, .int .i64 0] 40)).alloc (.cells #[.int .i64 0, .int .i64 0, .int .i64 0, .int .i64 0] 40)
  have h4 := (PtBox.new (((w.alloc (.cells #[u, v] 27)).alloc (.cells #[.int .i64 0, .int .i64 0, .int .i64 0, .int .i64 0] 40)).alloc (.cells #[.int .i64 0, .int .i64 0, .int .i64 0, .int .i64 0] 40)) 0 0 0 0).alloc (.cells #[.int .i64 0, .int .i64 0, .int .i64 0, .int .i64 0] 40)
  have h5 := PtBox.new ((((w.alloc (.cells #[u, v] 27)).alloc (.cells #[.int .i64 0, .int .i64 0, .int .i64 0, .int .i64 0] 40)).alloc (.cells #[.int .i64 0, .int .i64 0, .int .i64 0, .int .i64 0] 40)).alloc (.cells #[.int .i64 0, .int .i64 0, .int .i64 0, .int .i64 0] 40)) 0 0 0 0
  simp only [World.size_alloc] at h2 h3 h4 h5
  exact ⟨h1, h2, h3, h4, h5⟩
theorem bxB_below (w : World) (u v : Value) : Below w.heap.size w (((((w.alloc (.cells #[u, v] 27)).alloc (.cells #[.int .i64 0, .int .i64 0, .int .i64 0, .int .i64 0] 40)).alloc (.cells #[.int .i64 0, .int .i64 0, .int .i64 0, .int .i64 0] 40)).alloc (.cells #[.int .i64 0, .int .i64 0, .int .i64 0, .int .i64 0] 40)).alloc (.cells #[.int .i64 0, .int .i64 0, .int .i64 0, .int .i64 0] 40)) :=
  (((((Below.refl w.heap.size w).alloc (Nat.le_refl _) _).alloc (by simp) _).alloc (by simp; omega) _).alloc (by simp; omega) _).alloc (by simp; omega) _
end

/-- What stands after i points. -/
def BoxRel (w wv : World) (zs : List Int) (k : Nat) (u v : Value) (i : Nat) : Prop :=
  ∃ la ld le lf ha hd he hf : Int, ((la, ld) = lowF zs 0 i ∧ (le, lf) = lowF zs 2 i ∧ (ha, hd) = highF zs 0 i ∧ (he, hf) = highF zs 2 i) ∧ BxB wv k u v la ld le lf ha hd he hf ∧ Below w.heap.size w wv
set_option maxRecDepth 100000 in
set_option maxHeartbeats 16000000 in
theorem fbox_ok (A : Option Addr) (n c : Nat) (zs : List Int) (B : Option Addr) (m bc : Nat) (w : World) (h : FigW w A n c zs B m bc) (hn : 0 < n) :
    Calls Tryd.prog 11 #[.agg #[.slice A n c, .slice B m bc]] w fun e w' => e = .returned (.tuple #[lhV (lowF zs 0 n) (lowF zs 2 n), lhV (highF zs 0 n) (highF zs 2 n), .int .i64 0]) ∧ Below w.heap.size w w' := by
  have n60 := h.n60
  have h0 : ∀ i, i < n → FrOk (ptOf zs 0 i).1 (ptOf zs 0 i).2 := h.fx
  have h2 : ∀ i, i < n → FrOk (ptOf zs 2 i).1 (ptOf zs 2 i).2 := h.fy
  have HSS := Lib.hid (fun i (hi : i ≤ n) => And.intro (lowF_ok zs 0 n hn h0 i hi) (And.intro (lowF_ok zs 2 n hn h2 i hi) (And.intro (highF_ok zs 0 n hn h0 i hi) (highF_ok zs 2 n hn h2 i hi))))
  have HB0 := Lib.hid (bxB_new w (.slice A n c) (.slice B m bc))
  have Hb0 := Lib.hid (bxB_below w (.slice A n c) (.slice B m bc))
  have H := Lib.hid h
  obtain ⟨k, hk⟩ : ∃ k, k = w.heap.size := ⟨_, rfl⟩
  have HK := Lib.hid hk
  obtain ⟨V, hV⟩ : ∃ V, V = (((((w.alloc (.cells #[.slice A n c, .slice B m bc] 27)).alloc (.cells #[.int .i64 0, .int .i64 0, .int .i64 0, .int .i64 0] 40)).alloc (.cells #[.int .i64 0, .int .i64 0, .int .i64 0, .int .i64 0] 40)).alloc (.cells #[.int .i64 0, .int .i64 0, .int .i64 0, .int .i64 0] 40)).alloc (.cells #[.int .i64 0, .int .i64 0, .int .i64 0, .int .i64 0] 40)) := ⟨_, rfl⟩
  rw [← hV, ← hk] at HB0; rw [← hV] at Hb0
  have HV := Lib.hid hV
  clear h h0 h2 hV
  go_enter Tryd.func11, Tryd.ntmps11
  go_upto_region 2 with fail
  rw [← HV.out, ← hk]
  clear hk HV
  have x0 := HB0.out.g.c0; have x1 := HB0.out.g.c1; have xl := HB0.out.g.lt
  go_wp2_with fail
  refine Calls.mono (figCheck_ok A n c zs B m bc _ (H.out.below Hb0.out)) ?_
  rintro e w1 ⟨rfl, hb⟩
  have HB := Lib.hid (HB0.out.below hb)
  have Hb := Lib.hid (Hb0.out.trans (hb.mono Hb0.out.size))
  clear hb x0 x1 xl HB0 Hb0
  have x0 := HB.out.g.c0; have x1 := HB.out.g.c1; have xl := HB.out.g.lt
  have e1 : ¬ (n : Int) = 0 := by omega
  have e2 : (0 : Int) < (n : Int) := by omega
  go_upto_region 7 with fail
  have HB2 := HB; have Hb2 := Hb
  obtain ⟨q, o, hA, hc⟩ := H.out.pts.at' (by omega)
  have qk : q < k := by have h1 : q < w.heap.size := cell_lt (hc 0 (by omega)); have := HK.out; omega
  have hcw : ∀ j, j < n * 4 → w1.cell? ⟨q, o + j, none⟩ = some (.int .i64 (ix zs j)) := fun j hj => (Hb2.out.cell (p := ⟨q, o + j, none⟩) (by have := HK.out; show q < _; omega)).trans (hc j hj)
  have z0 : w1.cell? ⟨q, o, none⟩ = some (.int .i64 (ix zs 0)) := hcw 0 (by omega)
  have z1 := hcw 1 (by omega)
  have z2 := hcw 2 (by omega)
  have z3 := hcw 3 (by omega)
  have q3 : q ≠ k + 1 + 1 + 1 := by omega
  have q4 : q ≠ k + 1 + 1 + 1 + 1 := by omega
  have HP0 := Lib.hid (show FrOk (ix zs 0) (ix zs 1) ∧ FrOk (ix zs 2) (ix zs 3) from ⟨H.out.fx 0 hn, H.out.fy 0 hn⟩)
  have ll := HB2.out.l.lt; have hl := HB2.out.h.lt
  have lf0 := HB2.out.l.free 0; have lf1 := HB2.out.l.free 1; have lf2 := HB2.out.l.free 2; have lf3 := HB2.out.l.free 3
  have hf0 := HB2.out.h.free 0; have hf1 := HB2.out.h.free 1; have hf2 := HB2.out.h.free 2; have hf3 := HB2.out.h.free 3
  have lc0 := HB2.out.l.c0; have lc1 := HB2.out.l.c1; have lc2 := HB2.out.l.c2; have lc3 := HB2.out.l.c3
  have hc0 := HB2.out.h.c0; have hc1 := HB2.out.h.c1; have hc2 := HB2.out.h.c2; have hc3 := HB2.out.h.c3
  have y0 := HB2.out.g.c0
  subst hA
  clear hc hcw x0 x1 xl qk
  go_region
  clear y0 z0 z1 z2 z3 q3 q4 ll hl lf0 lf1 lf2 lf3 hf0 hf1 hf2 hf3 lc0 lc1 lc2 lc3 hc0 hc1 hc2 hc3 HB2 Hb2
  have wk := HK.out
  have b1 := (((HB.out.setl0 (ix zs 0) (ix zs 1)).setl2 (ix zs 2) (ix zs 3)).seth0 (ix zs 0) (ix zs 1)).seth2 (ix zs 2) (ix zs 3)
  have b2 := below_two (o := 2) (p := 3) (b := k + 1 + 1 + 1 + 1) (below_two (o := 0) (p := 1) (b := k + 1 + 1 + 1 + 1) (below_two (o := 2) (p := 3) (b := k + 1 + 1 + 1) (below_two (o := 0) (p := 1) (b := k + 1 + 1 + 1) Hb.out (by omega) (.int .i64 (ix zs 0)) (.int .i64 (ix zs 1))) (by omega) (.int .i64 (ix zs 2)) (.int .i64 (ix zs 3))) (by omega) (.int .i64 (ix zs 0)) (.int .i64 (ix zs 1))) (by omega) (.int .i64 (ix zs 2)) (.int .i64 (ix zs 3))
  have b3 := b1.below (Below.refl _ _).drew
  have b4 := b2.drew
  clear b1 b2 HB Hb wk
  obtain ⟨Y, hY⟩ : ∃ Y, Y = ((((((((w1.setCell ⟨k + 1 + 1 + 1, 0, none⟩ (.int .i64 (ix zs 0))).setCell ⟨k + 1 + 1 + 1, 1, none⟩ (.int .i64 (ix zs 1))).setCell ⟨k + 1 + 1 + 1, 2, none⟩ (.int .i64 (ix zs 2))).setCell ⟨k + 1 + 1 + 1, 3, none⟩ (.int .i64 (ix zs 3))).setCell ⟨k + 1 + 1 + 1 + 1, 0, none⟩ (.int .i64 (ix zs 0))).setCell ⟨k + 1 + 1 + 1 + 1, 1, none⟩ (.int .i64 (ix zs 1))).setCell ⟨k + 1 + 1 + 1 + 1, 2, none⟩ (.int .i64 (ix zs 2))).setCell ⟨k + 1 + 1 + 1 + 1, 3, none⟩ (.int .i64 (ix zs 3))).drew := ⟨_, rfl⟩
  rw [← hY] at b3 b4 ⊢
  have HB := Lib.hid b3; have Hb := Lib.hid b4
  clear b3 b4 hY
  have e3 : ((n : Int) == 0) = false := by simp; omega
  rw [e3]
  clear e3
  have x0 := HB.out.g.c0; have xl := HB.out.g.lt
  go_wp2_with fail
  clear x0 xl
  have h0 : BoxRel w Y zs k (.slice (some ⟨q, o, none⟩) n c) (.slice B m bc) 0 := ⟨_, _, _, _, _, _, _, _, ⟨rfl, rfl, rfl, rfl⟩, HB.out, Hb.out⟩
  have H0 := Lib.hid h0
  clear h0
  go_loopw [35] (fun i' wv => ∃ i : Nat, i ≤ n ∧ i' = .int .i64 i ∧ BoxRel w wv zs k (.slice (some ⟨q, o, none⟩) n c) (.slice B m bc) i) (fun i' _ => n - (intOf i').toNat)
  case atStart => exact ⟨0, by omega, rfl, H0.out⟩
  case round =>
    clear HB Hb H0
    obtain ⟨i, hi, rfl, la, ld, le, lf, ha, hd, he, hf, hq, hB, hb⟩ := hrel
    have HQ := Lib.hid hq; have HB := Lib.hid hB; have Hb := Lib.hid hb
    clear hq hB hb
    by_cases hin : i < n
    · have i0 : (0 : Int) ≤ (i : Int) := by omega
      have i1 : (i : Int) < (n : Int) := by omega
      obtain ⟨q', o', hA, hc⟩ := (H.out.below Hb.out).pts.at' (by omega)
      obtain ⟨rfl, rfl⟩ : q = q' ∧ o = o' := by injection hA with h; injection h with h1 h2; exact ⟨h1, h2⟩
      have x0 := hc (i * 4) (by omega)
      have x1 := hc (i * 4 + 1) (by omega)
      have x2 := hc (i * 4 + 2) (by omega)
      have x3 := hc (i * 4 + 3) (by omega)
      rw [← Nat.add_assoc] at x1 x2 x3
      have fx := H.out.fx i hin
      have fy := H.out.fy i hin
      have px : ptOf zs 0 i = (ix zs (i * 4), ix zs (i * 4 + 1)) := rfl
      have py : ptOf zs 2 i = (ix zs (i * 4 + 2), ix zs (i * 4 + 3)) := rfl
      obtain ⟨a, ha⟩ : ∃ a, a = ix zs (i * 4) := ⟨_, rfl⟩
      obtain ⟨d, hd⟩ : ∃ a, a = ix zs (i * 4 + 1) := ⟨_, rfl⟩
      obtain ⟨e, he⟩ : ∃ a, a = ix zs (i * 4 + 2) := ⟨_, rfl⟩
      obtain ⟨f, hf⟩ : ∃ a, a = ix zs (i * 4 + 3) := ⟨_, rfl⟩
      rw [← ha] at x0 fx px; rw [← hd] at x1 fx px; rw [← he] at x2 fy py; rw [← hf] at x3 fy py
      clear hc ha hd he hf hA
      have hs := HSS.out i hi
      rw [← HQ.out.1, ← HQ.out.2.1, ← HQ.out.2.2.1, ← HQ.out.2.2.2] at hs
      have HS := Lib.hid (And.intro hs.1 (And.intro hs.2.1 (And.intro hs.2.2.1 hs.2.2.2)))
      have HX := Lib.hid fx; have HY := Lib.hid fy; have HPX := Lib.hid px; have HPY := Lib.hid py
      clear hs fx fy px py
      have HPn := Lib.hid (PtBox.new wr a d e f)
      have bw := (Below.refl wr.heap.size wr).alloc (Nat.le_refl _) (.cells #[.int .i64 a, .int .i64 d, .int .i64 e, .int .i64 f] 40)
      have HBn := Lib.hid (HB.out.below bw)
      have Hbn := Lib.hid (Hb.out.trans (bw.mono Hb.out.size))
      go_upto_region 12 with fail
      obtain ⟨kp, hkp⟩ : ∃ b, b = wr.heap.size := ⟨_, rfl⟩
      have HKP := Lib.hid (show k + 1 + 1 + 1 + 1 < kp by rw [hkp]; exact HB.out.h.lt)
      obtain ⟨U, hU⟩ : ∃ U, U = wr.alloc (.cells #[.int .i64 a, .int .i64 d, .int .i64 e, .int .i64 f] 40) := ⟨_, rfl⟩
      rw [← hU, ← hkp] at HPn ⊢
      rw [← hU] at HBn Hbn
      clear hU hkp bw HB Hb x0 x1 x2 x3
      have HP := HPn; have HB := HBn; have Hb := Hbn
      clear HPn HBn Hbn
      have x0 := HP.out.c0; have x1 := HP.out.c1; have xl := HP.out.lt; have y0 := HB.out.l.c0; have y1 := HB.out.l.c1; have yl := HB.out.l.lt
      obtain ⟨b, hbb⟩ : ∃ b, b = decide (a * ld < la * d) := ⟨_, rfl⟩
      have HD := Lib.hid hbb
      clear hbb
      go_wp2_with fail
      refine Calls.mono (less_dec a d la ld b _ HD.out HX.out HS.out.1) ?_
      rintro er wq ⟨rfl, hb⟩
      have HPn := Lib.hid (HP.out.below hb); have HBn := Lib.hid (HB.out.below hb); have Hbn := Lib.hid (Hb.out.trans (hb.mono Hb.out.size))
      clear hb HP HB Hb x0 x1 xl y0 y1 yl
      have HP := HPn; have HB := HBn; have Hb := Hbn
      clear HPn HBn Hbn
      go_upto_if 44 with fail
      go_cut [35] from 35 to 75 (fun s35 wx => s35 = .int .i64 (i : Int) ∧ ∃ p0 q0 : Int, (p0, q0) = (if a * ld < la * d then (a, d) else (la, ld)) ∧ PtBox wx kp a d e f ∧ BxB wx k (.slice (some ⟨q, o, none⟩) n c) (.slice B m bc) p0 q0 le lf ha hd he hf ∧ Below w.heap.size w wx)
      case first =>
        by_cases hc : a * ld < la * d
        · have e1 : b = true := by rw [HD.out]; exact decide_eq_true hc
          have HC := Lib.hid hc
          subst e1
          clear hc
          have x0 := HP.out.c0; have x1 := HP.out.c1; have xl := HP.out.lt; have y0 := HB.out.l.c0; have y1 := HB.out.l.c1; have yl := HB.out.l.lt; have f0 := HB.out.l.free 0; have f1 := HB.out.l.free 1
          go_wp2_with fail
          go_meet
          exact ⟨rfl, a, d, (if_pos HC.out).symm, HP.out.far (c := k + 1 + 1 + 1) (o := 0) (p := 1) (by have := HKP.out; omega) (.int .i64 a) (.int .i64 d), HB.out.setl0 a d, below_two (b := k + 1 + 1 + 1) (o := 0) (p := 1) Hb.out (by have := HK.out; omega) (.int .i64 a) (.int .i64 d)⟩
        · have e1 : b = false := by rw [HD.out]; exact decide_eq_false hc
          have HC := Lib.hid hc
          subst e1
          clear hc
          go_wp2_with fail
          go_meet
          exact ⟨rfl, la, ld, (if_neg (by first | exact HC.out | exact Int.not_lt.2 HC.out)).symm, HP.out, HB.out, Hb.out⟩
      case rest =>
      clear HP HB Hb HD
      obtain ⟨rfl, p0, q0, he0, hP, hB, hb⟩ := hcut
      have E0 := Lib.hid he0; have HP := Lib.hid hP; have HB := Lib.hid hB; have Hb := Lib.hid hb
      clear he0 hP hB hb
      have x0 := HP.out.c2; have x1 := HP.out.c3; have xl := HP.out.lt; have y0 := HB.out.l.c2; have y1 := HB.out.l.c3; have yl := HB.out.l.lt
      obtain ⟨b, hbb⟩ : ∃ b, b = decide (e * lf < le * f) := ⟨_, rfl⟩
      have HD := Lib.hid hbb
      clear hbb
      go_wp2_with fail
      refine Calls.mono (less_dec e f le lf b _ HD.out HY.out HS.out.2.1) ?_
      rintro er wq ⟨rfl, hb⟩
      have HPn := Lib.hid (HP.out.below hb); have HBn := Lib.hid (HB.out.below hb); have Hbn := Lib.hid (Hb.out.trans (hb.mono Hb.out.size))
      clear hb HP HB Hb x0 x1 xl y0 y1 yl
      have HP := HPn; have HB := HBn; have Hb := Hbn
      clear HPn HBn Hbn
      go_upto_if 53 with fail
      go_cut [35] from 35 to 75 (fun s35 wx => s35 = .int .i64 (i : Int) ∧ ∃ p1 q1 : Int, (p1, q1) = (if e * lf < le * f then (e, f) else (le, lf)) ∧ PtBox wx kp a d e f ∧ BxB wx k (.slice (some ⟨q, o, none⟩) n c) (.slice B m bc) p0 q0 p1 q1 ha hd he hf ∧ Below w.heap.size w wx)
      case first =>
        by_cases hc : e * lf < le * f
        · have e1 : b = true := by rw [HD.out]; exact decide_eq_true hc
          have HC := Lib.hid hc
          subst e1
          clear hc
          have x0 := HP.out.c2; have x1 := HP.out.c3; have xl := HP.out.lt; have y0 := HB.out.l.c2; have y1 := HB.out.l.c3; have yl := HB.out.l.lt; have f0 := HB.out.l.free 2; have f1 := HB.out.l.free 3
          go_wp2_with fail
          go_meet
          exact ⟨rfl, e, f, (if_pos HC.out).symm, HP.out.far (c := k + 1 + 1 + 1) (o := 2) (p := 3) (by have := HKP.out; omega) (.int .i64 e) (.int .i64 f), HB.out.setl2 e f, below_two (b := k + 1 + 1 + 1) (o := 2) (p := 3) Hb.out (by have := HK.out; omega) (.int .i64 e) (.int .i64 f)⟩
        · have e1 : b = false := by rw [HD.out]; exact decide_eq_false hc
          have HC := Lib.hid hc
          subst e1
          clear hc
          go_wp2_with fail
          go_meet
          exact ⟨rfl, le, lf, (if_neg (by first | exact HC.out | exact Int.not_lt.2 HC.out)).symm, HP.out, HB.out, Hb.out⟩
      case rest =>
      clear HP HB Hb HD
      obtain ⟨rfl, p1, q1, he1, hP, hB, hb⟩ := hcut
      have E1 := Lib.hid he1; have HP := Lib.hid hP; have HB := Lib.hid hB; have Hb := Lib.hid hb
      clear he1 hP hB hb
      have x0 := HP.out.c0; have x1 := HP.out.c1; have xl := HP.out.lt; have y0 := HB.out.h.c0; have y1 := HB.out.h.c1; have yl := HB.out.h.lt
      obtain ⟨b, hbb⟩ : ∃ b, b = decide (ha * d < a * hd) := ⟨_, rfl⟩
      have HD := Lib.hid hbb
      clear hbb
      go_wp2_with fail
      refine Calls.mono (less_dec ha hd a d b _ HD.out HS.out.2.2.1 HX.out) ?_
      rintro er wq ⟨rfl, hb⟩
      have HPn := Lib.hid (HP.out.below hb); have HBn := Lib.hid (HB.out.below hb); have Hbn := Lib.hid (Hb.out.trans (hb.mono Hb.out.size))
      clear hb HP HB Hb x0 x1 xl y0 y1 yl
      have HP := HPn; have HB := HBn; have Hb := Hbn
      clear HPn HBn Hbn
      go_upto_if 62 with fail
      go_cut [35] from 35 to 75 (fun s35 wx => s35 = .int .i64 (i : Int) ∧ ∃ p2 q2 : Int, (p2, q2) = (if ha * d < a * hd then (a, d) else (ha, hd)) ∧ PtBox wx kp a d e f ∧ BxB wx k (.slice (some ⟨q, o, none⟩) n c) (.slice B m bc) p0 q0 p1 q1 p2 q2 he hf ∧ Below w.heap.size w wx)
      case first =>
        by_cases hc : ha * d < a * hd
        · have e1 : b = true := by rw [HD.out]; exact decide_eq_true hc
          have HC := Lib.hid hc
          subst e1
          clear hc
          have x0 := HP.out.c0; have x1 := HP.out.c1; have xl := HP.out.lt; have y0 := HB.out.h.c0; have y1 := HB.out.h.c1; have yl := HB.out.h.lt; have f0 := HB.out.h.free 0; have f1 := HB.out.h.free 1
          go_wp2_with fail
          go_meet
          exact ⟨rfl, a, d, (if_pos HC.out).symm, HP.out.far (c := k + 1 + 1 + 1 + 1) (o := 0) (p := 1) (by have := HKP.out; omega) (.int .i64 a) (.int .i64 d), HB.out.seth0 a d, below_two (b := k + 1 + 1 + 1 + 1) (o := 0) (p := 1) Hb.out (by have := HK.out; omega) (.int .i64 a) (.int .i64 d)⟩
        · have e1 : b = false := by rw [HD.out]; exact decide_eq_false hc
          have HC := Lib.hid hc
          subst e1
          clear hc
          go_wp2_with fail
          go_meet
          exact ⟨rfl, ha, hd, (if_neg (by first | exact HC.out | exact Int.not_lt.2 HC.out)).symm, HP.out, HB.out, Hb.out⟩
      case rest =>
      clear HP HB Hb HD
      obtain ⟨rfl, p2, q2, he2, hP, hB, hb⟩ := hcut
      have E2 := Lib.hid he2; have HP := Lib.hid hP; have HB := Lib.hid hB; have Hb := Lib.hid hb
      clear he2 hP hB hb
      have x0 := HP.out.c2; have x1 := HP.out.c3; have xl := HP.out.lt; have y0 := HB.out.h.c2; have y1 := HB.out.h.c3; have yl := HB.out.h.lt
      obtain ⟨b, hbb⟩ : ∃ b, b = decide (he * f < e * hf) := ⟨_, rfl⟩
      have HD := Lib.hid hbb
      clear hbb
      go_wp2_with fail
      refine Calls.mono (less_dec he hf e f b _ HD.out HS.out.2.2.2 HY.out) ?_
      rintro er wq ⟨rfl, hb⟩
      have HPn := Lib.hid (HP.out.below hb); have HBn := Lib.hid (HB.out.below hb); have Hbn := Lib.hid (Hb.out.trans (hb.mono Hb.out.size))
      clear hb HP HB Hb x0 x1 xl y0 y1 yl
      have HP := HPn; have HB := HBn; have Hb := Hbn
      clear HPn HBn Hbn
      go_upto_if 71 with fail
      by_cases hc : he * f < e * hf
      · have e1 : b = true := by rw [HD.out]; exact decide_eq_true hc
        have HC := Lib.hid hc
        subst e1
        clear hc
        have x0 := HP.out.c2; have x1 := HP.out.c3; have xl := HP.out.lt; have y0 := HB.out.h.c2; have y1 := HB.out.h.c3; have yl := HB.out.h.lt; have f0 := HB.out.h.free 2; have f1 := HB.out.h.free 3
        go_wp2_with fail
        go_roundw
        case rel => exact ⟨i + 1, by omega, by go_num, p0, q0, p1, q1, p2, q2, e, f, by rw [lowF_succ, lowF_succ, highF_succ, highF_succ, HPX.out, HPY.out, ← HQ.out.1, ← HQ.out.2.1, ← HQ.out.2.2.1, ← HQ.out.2.2.2]; exact ⟨E0.out, E1.out, E2.out, (if_pos HC.out).symm⟩, HB.out.seth2 e f, below_two (b := k + 1 + 1 + 1 + 1) (o := 2) (p := 3) Hb.out (by have := HK.out; omega) (.int .i64 e) (.int .i64 f)⟩
        case measure => simp [intOf]; omega
      · have e1 : b = false := by rw [HD.out]; exact decide_eq_false hc
        have HC := Lib.hid hc
        subst e1
        clear hc
        go_wp2_with fail
        go_roundw
        case rel => exact ⟨i + 1, by omega, by go_num, p0, q0, p1, q1, p2, q2, he, hf, by rw [lowF_succ, lowF_succ, highF_succ, highF_succ, HPX.out, HPY.out, ← HQ.out.1, ← HQ.out.2.1, ← HQ.out.2.2.1, ← HQ.out.2.2.2]; exact ⟨E0.out, E1.out, E2.out, (if_neg (by first | exact HC.out | exact Int.not_lt.2 HC.out)).symm⟩, HB.out, Hb.out⟩
        case measure => simp [intOf]; omega
    · obtain rfl : i = n := by omega
      have hq := HQ.out
      have HBX := HB.out.below (Below.refl _ _).drew
      have x0 := HB.out.l.c0; have x1 := HB.out.l.c1; have x2 := HB.out.l.c2; have x3 := HB.out.l.c3
      have y0 := HB.out.h.c0; have y1 := HB.out.h.c1; have y2 := HB.out.h.c2; have y3 := HB.out.h.c3
      have r0 := HB.out.r.c0; have r1 := HB.out.r.c1; have r2 := HB.out.r.c2; have r3 := HB.out.r.c3; have rl := HB.out.r.lt
      have s0 := HB.out.s.c0; have s1 := HB.out.s.c1; have s2 := HB.out.s.c2; have s3 := HB.out.s.c3; have sl := HB.out.s.lt
      have rf0 := HB.out.r.free 0; have rf1 := HB.out.r.free 1; have rf2 := HB.out.r.free 2; have rf3 := HB.out.r.free 3
      have sf0 := HB.out.s.free 0; have sf1 := HB.out.s.free 1; have sf2 := HB.out.s.free 2; have sf3 := HB.out.s.free 3
      have HQQ := Lib.hid hq
      clear hq HBX
      go_wp2_with fail
      have wk := HK.out
      have hbl := (below_two (o := 2) (p := 3) (b := k + 1 + 1) (below_two (o := 0) (p := 1) (b := k + 1 + 1) (below_two (o := 2) (p := 3) (b := k + 1) (below_two (o := 0) (p := 1) (b := k + 1) Hb.out (by omega) (.int .i64 la) (.int .i64 ld)) (by omega) (.int .i64 le) (.int .i64 lf)) (by omega) (.int .i64 ha) (.int .i64 hd)) (by omega) (.int .i64 he) (.int .i64 hf)).drew
      have HBL := Lib.hid hbl
      clear hbl wk
      go_region
      go_wp2_with fail
      refine bodyPost_ret (v := .tuple #[.agg #[.int .i64 la, .int .i64 ld, .int .i64 le, .int .i64 lf], .agg #[.int .i64 ha, .int .i64 hd, .int .i64 he, .int .i64 hf], .int .i64 0]) ?_ rfl ⟨by unfold lhV; rw [← HQQ.out.1, ← HQQ.out.2.1, ← HQQ.out.2.2.1, ← HQQ.out.2.2.2], HBL.out⟩
      simp [results, Tryd.results11, go_sem, *]
end Go.Proofs.YtbehickhaidliaaDoor
