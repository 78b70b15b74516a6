/- frac.Mul, frac.Add at fractions, by what frac.Of makes of their products. -/
import Derived.Test.YtdifeoahaegjbaaGreatDoorTOf
namespace Go.Proofs.YtdifeoahaegjbaaGreatDoor
open Go.RowKit
set_option linter.unusedSimpArgs false
set_option linter.unusedVariables false

/-- Of(z, t) is r / b. -/
def OfIs (z t r b : Int) : Prop := ∀ W, Calls Tryz.prog 57 #[.int .i64 z, .int .i64 t] W fun e w' => e = .returned (.tuple #[.agg #[.int .i64 r, .int .i64 b], .int .i64 0]) ∧ Below W.heap.size W w'

set_option maxRecDepth 100000 in
set_option maxHeartbeats 4000000 in
theorem fmul_gen (x d y c z t r b : Int) (w : World) (hx : FrOk x d) (hy : FrOk y c) (hz : z = x * y) (ht : t = d * c) (hzb : -1000000000000000000 ≤ z ∧ z ≤ 1000000000000000000) (htb : -1000000000000000000 ≤ t ∧ t ≤ 1000000000000000000) (ho : OfIs z t r b) :
    Calls Tryz.prog 37 #[.agg #[.int .i64 x, .int .i64 d], .agg #[.int .i64 y, .int .i64 c]] w fun e w' => e = .returned (.tuple #[.agg #[.int .i64 r, .int .i64 b], .int .i64 0]) ∧ Below w.heap.size w w' := by
  have H1 := Lib.hid hx; have H2 := Lib.hid hy; have HO := Lib.hid ho
  have p1 : IntKind.i64.wrap (x * y) = z := by rw [← hz]; exact IntWalk.i64_in _ (by omega)
  have p2 : IntKind.i64.wrap (d * c) = t := by rw [← ht]; exact IntWalk.i64_in _ (by omega)
  have p3 : wrap64 (x * y) = z := by rw [← hz]; exact IntWalk.wrap64_in _ (by omega)
  have p4 : wrap64 (d * c) = t := by rw [← ht]; exact IntWalk.wrap64_in _ (by omega)
  clear hx hy hz ht hzb htb ho
  go_enter Tryz.func37, Tryz.ntmps37
  go_wp2_with fail
  refine Calls.mono (both_ok x d y c _ H1.out H2.out) ?_
  rintro e w1 ⟨rfl, hb⟩
  have P0 := (((FrBox.new w x d).alloc (.cells #[.int .i64 y, .int .i64 c] 30)).alloc (.cells #[.int .i64 0, .int .i64 0] 30)).below hb
  have P1 := ((FrBox.new (w.alloc (.cells #[.int .i64 x, .int .i64 d] 30)) y c).alloc (.cells #[.int .i64 0, .int .i64 0] 30)).below hb
  have P2 := (FrBox.new ((w.alloc (.cells #[.int .i64 x, .int .i64 d] 30)).alloc (.cells #[.int .i64 y, .int .i64 c] 30)) 0 0).below hb
  have hb1 := (((Below.refl w.heap.size w).alloc (Nat.le_refl _) (.cells #[.int .i64 x, .int .i64 d] 30)).alloc (by simp) (.cells #[.int .i64 y, .int .i64 c] 30)).alloc (by simp; omega) (.cells #[.int .i64 0, .int .i64 0] 30)
  have hb2 := hb1.trans (hb.mono hb1.size)
  simp only [World.size_alloc] at P1 P2
  have x0 := P0.c0; have x1 := P0.c1; have xl := P0.lt; have y0 := P1.c0; have y1 := P1.c1; have yl := P1.lt
  have HP2 := Lib.hid P2; have HB2 := Lib.hid hb2
  clear hb hb1 hb2 P0 P1 P2
  go_wp2_with fail
  refine Calls.mono (HO.out _) ?_
  rintro e w2 ⟨rfl, hb⟩
  have P3 := HP2.out.below hb
  have hb3 := HB2.out.trans (hb.mono HB2.out.size)
  have u0 := P3.c0; have u1 := P3.c1; have ul := P3.lt; have uf0 := P3.free 0; have uf1 := P3.free 1
  clear hb x0 x1 y0 y1
  go_wp2_with fail
  have hbl := hb3
  refine bodyPost_ret (v := .tuple #[.agg #[.int .i64 r, .int .i64 b], .int .i64 0]) ?_ rfl ⟨rfl, by go_grown⟩
  simp [results, Tryz.results37, go_sem, *]

set_option maxRecDepth 100000 in
set_option maxHeartbeats 4000000 in
theorem fadd_gen (x d y c z t r b : Int) (w : World) (hx : FrOk x d) (hy : FrOk y c) (hxs : -1000000 ≤ x ∧ x ≤ 1000000 ∧ d ≤ 1000000) (hys : -1000000 ≤ y ∧ y ≤ 1000000 ∧ c ≤ 1000000) (hz : z = x * c + y * d) (ht : t = d * c) (ho : OfIs z t r b) :
    Calls Tryz.prog 38 #[.agg #[.int .i64 x, .int .i64 d], .agg #[.int .i64 y, .int .i64 c]] w fun e w' => e = .returned (.tuple #[.agg #[.int .i64 r, .int .i64 b], .int .i64 0]) ∧ Below w.heap.size w w' := by
  have H1 := Lib.hid hx; have H2 := Lib.hid hy; have HO := Lib.hid ho
  have d1 := hx.d1; have c1 := hy.d1
  have m1 := int_abs_mul (A := 1000000) (B := 1000000) hxs.1 hxs.2.1 (show -1000000 ≤ c by omega) hys.2.2
  have m2 := int_abs_mul (A := 1000000) (B := 1000000) hys.1 hys.2.1 (show -1000000 ≤ d by omega) hxs.2.2
  have m3 := int_abs_mul (A := 1000000) (B := 1000000) (show -1000000 ≤ d by omega) hxs.2.2 (show -1000000 ≤ c by omega) hys.2.2
  have p1 : wrap64 (x * c) = x * c := IntWalk.wrap64_in _ (by omega)
  have p2 : wrap64 (y * d) = y * d := IntWalk.wrap64_in _ (by omega)
  have p3 : wrap64 (x * c + y * d) = z := by rw [hz]; exact IntWalk.wrap64_in _ (by omega)
  have p4 : wrap64 (d * c) = t := by rw [ht]; exact IntWalk.wrap64_in _ (by omega)
  have r1 : IntKind.i64.wrap (x * c) = x * c := IntWalk.i64_in _ (by omega)
  have r2 : IntKind.i64.wrap (y * d) = y * d := IntWalk.i64_in _ (by omega)
  have r3 : IntKind.i64.wrap (x * c + y * d) = z := by rw [hz]; exact IntWalk.i64_in _ (by omega)
  have r4 : IntKind.i64.wrap (d * c) = t := by rw [ht]; exact IntWalk.i64_in _ (by omega)
  clear hx hy hz ht hxs hys ho d1 c1 m1 m2 m3
  go_enter Tryz.func38, Tryz.ntmps38
  go_wp2_with fail
  refine Calls.mono (both_ok x d y c _ H1.out H2.out) ?_
  rintro e w1 ⟨rfl, hb⟩
  have P0 := (((FrBox.new w x d).alloc (.cells #[.int .i64 y, .int .i64 c] 30)).alloc (.cells #[.int .i64 0, .int .i64 0] 30)).below hb
  have P1 := ((FrBox.new (w.alloc (.cells #[.int .i64 x, .int .i64 d] 30)) y c).alloc (.cells #[.int .i64 0, .int .i64 0] 30)).below hb
  have P2 := (FrBox.new ((w.alloc (.cells #[.int .i64 x, .int .i64 d] 30)).alloc (.cells #[.int .i64 y, .int .i64 c] 30)) 0 0).below hb
  have hb1 := (((Below.refl w.heap.size w).alloc (Nat.le_refl _) (.cells #[.int .i64 x, .int .i64 d] 30)).alloc (by simp) (.cells #[.int .i64 y, .int .i64 c] 30)).alloc (by simp; omega) (.cells #[.int .i64 0, .int .i64 0] 30)
  have hb2 := hb1.trans (hb.mono hb1.size)
  simp only [World.size_alloc] at P1 P2
  have x0 := P0.c0; have x1 := P0.c1; have xl := P0.lt; have y0 := P1.c0; have y1 := P1.c1; have yl := P1.lt
  have HP2 := Lib.hid P2; have HB2 := Lib.hid hb2
  clear hb hb1 hb2 P0 P1 P2
  go_wp2_with fail
  refine Calls.mono (HO.out _) ?_
  rintro e w2 ⟨rfl, hb⟩
  have P3 := HP2.out.below hb
  have hb3 := HB2.out.trans (hb.mono HB2.out.size)
  have u0 := P3.c0; have u1 := P3.c1; have ul := P3.lt; have uf0 := P3.free 0; have uf1 := P3.free 1
  clear hb x0 x1 y0 y1
  go_wp2_with fail
  have hbl := hb3
  refine bodyPost_ret (v := .tuple #[.agg #[.int .i64 r, .int .i64 b], .int .i64 0]) ?_ rfl ⟨rfl, by go_grown⟩
  simp [results, Tryz.results38, go_sem, *]

/-- A fraction of small numbers in lowest terms. -/
structure FrS (n d : Int) : Prop where
  ok : FrOk n d
  n : -1000000 ≤ n ∧ n ≤ 1000000
  d : d ≤ 1000000
theorem of_red {n d : Int} (h : FrS n d) : OfIs n d n d := fun W => by
  have d1 := h.ok.d1; have := h.n; have := h.d
  obtain ⟨b, hb⟩ : ∃ b : Nat, d = b := ⟨d.toNat, by omega⟩
  subst hb
  have hg : Nat.gcd n.natAbs ((b : Int)).natAbs = 1 := h.ok.g
  exact of_gen n b n n.natAbs b 1 W (by omega) (by omega) hg (by omega) (by simp) (by omega) (by omega) (by split <;> omega)
theorem of_zero {d : Int} (h1 : 1 ≤ d) (h2 : d ≤ 1000000) : OfIs 0 d 0 1 := fun W => by
  have := of_gen 0 d 0 0 1 d.natAbs W (by omega) (by omega) (by simp) (by simp) (by omega) (by omega) (by omega) (by simp)
  exact this
theorem FrS.neg {n d : Int} (h : FrS n d) : FrS (-n) d := ⟨⟨h.ok.d1, h.ok.d2, by have := h.ok.n1; omega, by have := h.ok.n0; omega, by rw [Int.neg_gcd]; exact h.ok.g⟩, by have := h.n; omega, h.d⟩
theorem frS_zero : FrS 0 1 := ⟨frOk_one (by omega) (by omega), by omega, by omega⟩
theorem frS_one : FrS 1 1 := ⟨frOk_one (by omega) (by omega), by omega, by omega⟩
theorem mul_zero {n d : Int} (h : FrS n d) (w : World) : Calls Tryz.prog 37 #[.agg #[.int .i64 0, .int .i64 1], .agg #[.int .i64 n, .int .i64 d]] w fun e w' => e = .returned (.tuple #[.agg #[.int .i64 0, .int .i64 1], .int .i64 0]) ∧ Below w.heap.size w w' :=
  fmul_gen 0 1 n d 0 d 0 1 w frS_zero.ok h.ok (by simp) (by simp) (by omega) (by have := h.d; have := h.ok.d1; omega) (of_zero h.ok.d1 h.d)
theorem mul_one {n d : Int} (h : FrS n d) (w : World) : Calls Tryz.prog 37 #[.agg #[.int .i64 1, .int .i64 1], .agg #[.int .i64 n, .int .i64 d]] w fun e w' => e = .returned (.tuple #[.agg #[.int .i64 n, .int .i64 d], .int .i64 0]) ∧ Below w.heap.size w w' :=
  fmul_gen 1 1 n d n d n d w frS_one.ok h.ok (by simp) (by simp) (by have := h.n; omega) (by have := h.d; have := h.ok.d1; omega) (of_red h)
theorem mul_minus {n d : Int} (h : FrS n d) (w : World) : Calls Tryz.prog 37 #[.agg #[.int .i64 (-1), .int .i64 1], .agg #[.int .i64 n, .int .i64 d]] w fun e w' => e = .returned (.tuple #[.agg #[.int .i64 (-n), .int .i64 d], .int .i64 0]) ∧ Below w.heap.size w w' :=
  fmul_gen (-1) 1 n d (-n) d (-n) d w frS_one.neg.ok h.ok (by omega) (by simp) (by have := h.n; omega) (by have := h.d; have := h.ok.d1; omega) (of_red h.neg)
theorem add_zero_l {n d : Int} (h : FrS n d) (w : World) : Calls Tryz.prog 38 #[.agg #[.int .i64 0, .int .i64 1], .agg #[.int .i64 n, .int .i64 d]] w fun e w' => e = .returned (.tuple #[.agg #[.int .i64 n, .int .i64 d], .int .i64 0]) ∧ Below w.heap.size w w' :=
  fadd_gen 0 1 n d n d n d w frS_zero.ok h.ok (by omega) ⟨h.n.1, h.n.2, h.d⟩ (by simp) (by simp) (of_red h)
theorem add_zero_r {n d : Int} (h : FrS n d) (w : World) : Calls Tryz.prog 38 #[.agg #[.int .i64 n, .int .i64 d], .agg #[.int .i64 0, .int .i64 1]] w fun e w' => e = .returned (.tuple #[.agg #[.int .i64 n, .int .i64 d], .int .i64 0]) ∧ Below w.heap.size w w' :=
  fadd_gen n d 0 1 n d n d w h.ok frS_zero.ok ⟨h.n.1, h.n.2, h.d⟩ (by omega) (by simp) (by simp) (of_red h)
end Go.Proofs.YtdifeoahaegjbaaGreatDoor
