/- The contracts of package frac, mostly at whole numbers (denominator 1). -/
import Derived.Test.YtdifeoahaegjbaaGreatDoorNBase
import Derived.Test.YtdifeoahaegjbaaGreatDoorGcd
import Derived.Test.YtdifeoahaegjbaaGreatDoorBasic
import Derived.Deep.OwnRows
import Derived.Deep.QuietTactic
import Derived.BigQuiet
namespace Go.Proofs.YtdifeoahaegjbaaGreatDoor
open Go.RowKit
set_option linter.unusedSimpArgs false
set_option linter.unusedVariables false

def frF (x y : Int) : Nat → Value := fun i => if i = 0 then .int .i64 x else .int .i64 y
/-- Block b holds the fraction x / y, and may be written. -/
def FrBox (w : World) (b : Nat) (x y : Int) : Prop := w.rowIs b 30 2 (frF x y)
section
variable {w w' : World} {b : Nat} {x y : Int}
theorem FrBox.c0 (h : FrBox w b x y) : w.cell? ⟨b, 0, none⟩ = some (.int .i64 x) := World.rowIs.cell h (i := 0) (by omega)
theorem FrBox.c1 (h : FrBox w b x y) : w.cell? ⟨b, 1, none⟩ = some (.int .i64 y) := World.rowIs.cell h (i := 1) (by omega)
theorem FrBox.free (h : FrBox w b x y) (i : Nat) : w.frozen? ⟨b, i, none⟩ = false := World.rowIs.frozen h i
theorem FrBox.lt (h : FrBox w b x y) : b < w.heap.size := World.rowIs.lt h
theorem FrBox.alloc (h : FrBox w b x y) (o : Obj) : FrBox (w.alloc o) b x y := World.rowIs.alloc h o
theorem FrBox.below (h : FrBox w b x y) (hb : Below w.heap.size w w') : FrBox w' b x y := World.rowIs.of_block h (hb.block b (World.rowIs.lt h))
theorem FrBox.new (w : World) (x y : Int) : FrBox (w.alloc (.cells #[.int .i64 x, .int .i64 y] 30)) w.heap.size x y :=
  World.rowIs_alloc w #[.int .i64 x, .int .i64 y] 30 (frF x y) (fun i hi => by
    match i, hi with
    | 0, _ => rfl
    | 1, _ => rfl)
theorem FrBox.other (h : FrBox w b x y) {a : Addr} (ha : b ≠ a.block) (v : Value) : FrBox (w.setCell a v) b x y := World.rowIs.setOther h ha v
theorem FrBox.set (h : FrBox w b x y) (u v : Int) : FrBox ((w.setCell ⟨b, 0, none⟩ (.int .i64 u)).setCell ⟨b, 1, none⟩ (.int .i64 v)) b u v :=
  ((World.rowIs.set h 0 (.int .i64 u)).set 1 (.int .i64 v)).congr (fun i hi => by
    match i, hi with
    | 0, _ => rfl
    | 1, _ => rfl)
end

/-- A fraction that Check takes. -/
structure FrOk (n d : Int) : Prop where
  d1 : 1 ≤ d
  d2 : d ≤ 2147483647
  n0 : -2147483647 ≤ n
  n1 : n ≤ 2147483647
  g : Int.gcd n d = 1
theorem frOk_one {n : Int} (h0 : -2147483647 ≤ n) (h1 : n ≤ 2147483647) : FrOk n 1 := ⟨by omega, by omega, h0, h1, by simp⟩

set_option maxHeartbeats 1000000 in
theorem fsize_ok (a : Int) (w : World) (h0 : -1000000000000000000 ≤ a) (h1 : a ≤ 1000000000000000000) :
    Calls Tryz.prog 78 #[.int .i64 a] w fun e w' => e = .returned (.int .u64 (a.natAbs : Int)) ∧ w = w' := by
  by_cases hn : a < 0
  · go_enter Tryz.func78, Tryz.ntmps78
    go_wp2_with fail
    go_ret
    exact ⟨ret_int (by simp only [IntKind.wrap_u64]; omega), rfl⟩
  · have hn2 : ¬ a < 0 := hn
    have e : Hid (a = (a.natAbs : Int)) := Lib.hid (by omega)
    go_enter Tryz.func78, Tryz.ntmps78
    go_wp2_with fail
    go_ret
    exact ⟨ret_int e.out, rfl⟩

set_option maxHeartbeats 4000000 in
theorem fcheck_ok (n d : Int) (w : World) (h : FrOk n d) : Calls Tryz.prog 20 #[.agg #[.int .i64 n, .int .i64 d]] w fun e w' => e = .returned (.int .i64 0) ∧ Below w.heap.size w w' := by
  obtain ⟨d1, d2, n0, n1, hg⟩ := h
  have q1 : ¬ d < 1 := by omega
  have q2 : ¬ (2147483647 : Int) < d := by omega
  have q3 : ¬ n < -2147483647 := by omega
  have q4 : ¬ (2147483647 : Int) < n := by omega
  have hh : ∀ W, Calls Tryz.prog 36 #[.int .i64 n, .int .i64 d] W fun e w' => e = .returned (.tuple #[.int .i64 1, .int .i64 0]) ∧ Below W.heap.size W w' := fun W => by
    have h := gcd_ok n d W (by omega) (by omega) (by omega) (by omega)
    rw [hg] at h; exact h
  have HH := Lib.hid hh
  clear hg hh
  go_enter Tryz.func20, Tryz.ntmps20
  go_wp2_with fail
  refine Calls.mono (HH.out _) ?_
  rintro e w1 ⟨rfl, hb⟩
  have hb1 := ((Below.refl w.heap.size w).alloc (Nat.le_refl _) (.cells #[.int .i64 n, .int .i64 d] 30))
  have hb2 := hb1.trans (hb.mono hb1.size)
  clear hb hb1
  go_wp2_with fail
  go_ret
  exact ⟨rfl, hb2⟩

set_option maxHeartbeats 4000000 in
theorem both_ok (n d m c : Int) (w : World) (h : FrOk n d) (h2 : FrOk m c) : Calls Tryz.prog 56 #[.agg #[.int .i64 n, .int .i64 d], .agg #[.int .i64 m, .int .i64 c]] w fun e w' => e = .returned (.int .i64 0) ∧ Below w.heap.size w w' := by
  have H1 := Lib.hid h; have H2 := Lib.hid h2
  clear h h2
  go_enter Tryz.func56, Tryz.ntmps56
  go_wp2_with fail
  refine Calls.mono (fcheck_ok n d _ H1.out) ?_
  rintro e w1 ⟨rfl, hb⟩
  have P := ((FrBox.new (w.alloc (.cells #[.int .i64 n, .int .i64 d] 30)) m c).below hb)
  have e1 : (w.alloc (.cells #[.int .i64 n, .int .i64 d] 30)).heap.size = w.heap.size + 1 := by simp
  rw [e1] at P
  have hb1 := ((Below.refl w.heap.size w).alloc (Nat.le_refl _) (.cells #[.int .i64 n, .int .i64 d] 30)).alloc (by simp) (.cells #[.int .i64 m, .int .i64 c] 30)
  have hb2 := hb1.trans (hb.mono hb1.size)
  have x0 := P.c0; have x1 := P.c1; have xl := P.lt
  clear hb hb1 e1 P
  go_wp2_with fail
  refine Calls.mono (fcheck_ok m c _ H2.out) ?_
  rintro e w2 ⟨rfl, hb⟩
  have hb3 := hb2.trans (hb.mono hb2.size)
  clear hb hb2 x0 x1 xl
  go_wp2_with fail
  go_ret
  exact ⟨rfl, hb3⟩

set_option maxRecDepth 100000 in
set_option maxHeartbeats 4000000 in
theorem of_one (n : Int) (w : World) (h0 : -2147483647 ≤ n) (h1 : n ≤ 2147483647) : Calls Tryz.prog 57 #[.int .i64 n, .int .i64 1] w fun e w' => e = .returned (.tuple #[.agg #[.int .i64 n, .int .i64 1], .int .i64 0]) ∧ Below w.heap.size w w' := by
  have hs1 : ∀ W, Calls Tryz.prog 78 #[.int .i64 1] W fun e w' => e = .returned (.int .u64 1) ∧ W = w' := fun W => fsize_ok 1 W (by omega) (by omega)
  have HS := Lib.hid hs1
  obtain ⟨a, ha⟩ : ∃ a : Nat, a = n.natAbs := ⟨_, rfl⟩
  have a1 : (a : Int) ≤ 2147483647 := by omega
  have HA := Lib.hid ha
  have hsa : ∀ W, Calls Tryz.prog 78 #[.int .i64 n] W fun e w' => e = .returned (.int .u64 a) ∧ W = w' := fun W => by rw [ha]; exact fsize_ok n W (by omega) (by omega)
  have HSA := Lib.hid hsa
  clear hs1 ha hsa
  go_enter Tryz.func57, Tryz.ntmps57
  go_wp2_with fail
  refine Calls.mono (HSA.out _) ?_
  rintro e _ ⟨rfl, rfl⟩
  go_wp2_with fail
  refine Calls.mono (HS.out _) ?_
  rintro e _ ⟨rfl, rfl⟩
  go_wp2_with fail
  have B0 := Lib.hid (FrBox.new w 0 0)
  have hb0 := Lib.hid ((Below.refl w.heap.size w).alloc (Nat.le_refl _) (.cells #[.int .i64 0, .int .i64 0] 30))
  go_loopw [8, 9] (fun x y wv => ((x = .int .u64 a ∧ y = .int .u64 1) ∨ (x = .int .u64 1 ∧ y = .int .u64 0)) ∧ FrBox wv w.heap.size 0 0 ∧ Below w.heap.size w wv) (fun _ y _ => (intOf y).toNat)
  case atStart => exact ⟨.inl ⟨rfl, rfl⟩, B0.out, hb0.out⟩
  case round =>
    clear B0 hb0
    obtain ⟨hxy, hB, hb⟩ := hrel
    rcases hxy with ⟨rfl, rfl⟩ | ⟨rfl, rfl⟩
    · have e1 : (a : Int).tmod 1 = 0 := Int.tmod_one _
      go_wp2_with fail
      go_quiet (fail)
      go_wp2_with fail
      refine ⟨⟨.inr ⟨rfl, rfl⟩, hB, below_drewN hb _⟩, ?_⟩
      decide
    · have e1 : (a : Int).tdiv 1 = a := Int.tdiv_one _
      have e2 : ¬ (2147483647 : Int) < (a : Int) := by omega
      have hBx := Lib.hid hB; have hbx := Lib.hid hb
      clear hB hb
      go_wp2_with fail
      go_quiet (fail)
      obtain ⟨X, hX⟩ : ∃ X, X = wr.drewN nq := ⟨_, rfl⟩
      have hBX := Lib.hid (show FrBox X w.heap.size 0 0 by rw [hX]; exact hBx.out.below (below_drewN (Below.refl _ _) nq))
      have hbX := Lib.hid (show Below w.heap.size w X by rw [hX]; exact below_drewN hbx.out _)
      rw [← hX]
      clear hX hBx hbx
      have hBx := hBX; have hbx := hbX
      clear hBX hbX
      have hsz := hbx.out.size
      have x0 := hBx.out.c0; have x1 := hBx.out.c1; have xl := hBx.out.lt; have xf0 := hBx.out.free 0; have xf1 := hBx.out.free 1
      by_cases hn : n < 0
      · have hneg : -(a : Int) = n := by have := HA.out; omega
        go_wp2_with fail
        have hbl := hbx.out
        refine bodyPost_ret (v := .tuple #[.agg #[.int .i64 n, .int .i64 1], .int .i64 0]) ?_ rfl ⟨rfl, by go_grown⟩
        simp [results, Tryz.results57, go_sem, *]
      · have hpos : (a : Int) = n := by have := HA.out; omega
        go_wp2_with fail
        have hbl := hbx.out
        refine bodyPost_ret (v := .tuple #[.agg #[.int .i64 n, .int .i64 1], .int .i64 0]) ?_ rfl ⟨rfl, by go_grown⟩
        simp [results, Tryz.results57, go_sem, *]

theorem int_abs_mul {a b A B : Int} (h0 : -A ≤ a) (h1 : a ≤ A) (h2 : -B ≤ b) (h3 : b ≤ B) : -(A * B) ≤ a * b ∧ a * b ≤ A * B := by
  have hA : 0 ≤ A := by omega
  have hB : 0 ≤ B := by omega
  have e1 : a * b ≤ A * B := by
    rcases Int.le_total 0 a with h | h
    · rcases Int.le_total 0 b with k | k
      · exact Int.mul_le_mul h1 h3 k hA
      · exact Int.le_trans (Int.mul_nonpos_of_nonneg_of_nonpos h k) (Int.mul_nonneg hA hB)
    · rcases Int.le_total 0 b with k | k
      · exact Int.le_trans (Int.mul_nonpos_of_nonpos_of_nonneg h k) (Int.mul_nonneg hA hB)
      · have : a * b = (-a) * (-b) := by rw [Int.neg_mul_neg]
        rw [this]; exact Int.mul_le_mul (by omega) (by omega) (by omega) hA
  have e2 : -(a * b) ≤ A * B := by
    have e3 : -(a * b) = (-a) * b := by rw [Int.neg_mul]
    rw [e3]
    rcases Int.le_total 0 (-a) with h | h
    · rcases Int.le_total 0 b with k | k
      · exact Int.mul_le_mul (by omega) h3 k hA
      · exact Int.le_trans (Int.mul_nonpos_of_nonneg_of_nonpos h k) (Int.mul_nonneg hA hB)
    · rcases Int.le_total 0 b with k | k
      · exact Int.le_trans (Int.mul_nonpos_of_nonpos_of_nonneg h k) (Int.mul_nonneg hA hB)
      · have : (-a) * b = a * (-b) := by rw [Int.neg_mul, Int.mul_neg]
        rw [this]; exact Int.mul_le_mul h1 (by omega) (by omega) hA
  exact ⟨by omega, e1⟩

set_option maxRecDepth 100000 in
set_option maxHeartbeats 4000000 in
theorem fmul_one (x y : Int) (w : World) (hx : FrOk x 1) (hy : FrOk y 1) (hz : FrOk (x * y) 1) : Calls Tryz.prog 37 #[.agg #[.int .i64 x, .int .i64 1], .agg #[.int .i64 y, .int .i64 1]] w fun e w' => e = .returned (.tuple #[.agg #[.int .i64 (x * y), .int .i64 1], .int .i64 0]) ∧ Below w.heap.size w w' := by
  have H1 := Lib.hid hx; have H2 := Lib.hid hy
  obtain ⟨z, hzz⟩ : ∃ z, z = x * y := ⟨_, rfl⟩
  have z0 := hz.n0; have z1 := hz.n1
  rw [← hzz] at z0 z1
  have p1 : IntKind.i64.wrap (x * y) = z := by rw [← hzz]; exact IntWalk.i64_in _ (by omega)
  rw [← hzz]
  clear hx hy hz hzz
  go_enter Tryz.func37, Tryz.ntmps37
  go_wp2_with fail
  refine Calls.mono (both_ok x 1 y 1 _ H1.out H2.out) ?_
  rintro e w1 ⟨rfl, hb⟩
  have P0 := (((FrBox.new w x 1).alloc (.cells #[.int .i64 y, .int .i64 1] 30)).alloc (.cells #[.int .i64 0, .int .i64 0] 30)).below hb
  have P1 := ((FrBox.new (w.alloc (.cells #[.int .i64 x, .int .i64 1] 30)) y 1).alloc (.cells #[.int .i64 0, .int .i64 0] 30)).below hb
  have P2 := (FrBox.new ((w.alloc (.cells #[.int .i64 x, .int .i64 1] 30)).alloc (.cells #[.int .i64 y, .int .i64 1] 30)) 0 0).below hb
  have hb1 := (((Below.refl w.heap.size w).alloc (Nat.le_refl _) (.cells #[.int .i64 x, .int .i64 1] 30)).alloc (by simp) (.cells #[.int .i64 y, .int .i64 1] 30)).alloc (by simp; omega) (.cells #[.int .i64 0, .int .i64 0] 30)
  have hb2 := hb1.trans (hb.mono hb1.size)
  simp only [World.size_alloc] at P1 P2
  have x0 := P0.c0; have x1 := P0.c1; have xl := P0.lt; have y0 := P1.c0; have y1 := P1.c1; have yl := P1.lt
  have HP2 := Lib.hid P2; have HB2 := Lib.hid hb2
  clear hb hb1 hb2 P0 P1 P2
  go_wp2_with fail
  refine Calls.mono (of_one z _ z0 z1) ?_
  rintro e w2 ⟨rfl, hb⟩
  have P3 := HP2.out.below hb
  have hb3 := HB2.out.trans (hb.mono HB2.out.size)
  have u0 := P3.c0; have u1 := P3.c1; have ul := P3.lt; have uf0 := P3.free 0; have uf1 := P3.free 1
  clear hb x0 x1 y0 y1
  go_wp2_with fail
  have hbl := hb3
  refine bodyPost_ret (v := .tuple #[.agg #[.int .i64 z, .int .i64 1], .int .i64 0]) ?_ rfl ⟨rfl, by go_grown⟩
  simp [results, Tryz.results37, go_sem, *]
end Go.Proofs.YtdifeoahaegjbaaGreatDoor
