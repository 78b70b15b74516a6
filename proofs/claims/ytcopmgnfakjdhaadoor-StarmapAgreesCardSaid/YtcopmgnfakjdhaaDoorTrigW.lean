/- Package trig: Around, radians, clip, sine, Sin, Cos. -/
import Derived.Test.YtcopmgnfakjdhaaDoorSinW
import Derived.Test.YtcopmgnfakjdhaaDoorFloat
import Derived.Test.YtcopmgnfakjdhaaDoorWhole
namespace Go.Proofs.YtcopmgnfakjdhaaDoor
open Go.RowKit
set_option linter.unusedSimpArgs false
set_option linter.unusedVariables false

theorem fconvI {x : Nat} {n : Int} (h : floatToIntVal .f64 x .i64 = some n) : ∀ w : World, (convert 51 3 (.float .f64 x)).run Tryd.prog w = .ok (.int .i64 n) w := fun w => run_convert_float_int w 51 3 .f64 .i64 x n (by kernel_rfl) Tryd.underlying3 h
/-- An interval in memory. -/
def agg2 (a b : Int) : Value := .agg #[.int .i64 a, .int .i64 b]
set_option maxHeartbeats 1000000 in
theorem Around_ok {v : Nat} {V E : Rat} (h : AroundOk v V E) (w : World) : Calls Tryd.prog 21 #[.float .f64 v] w fun e w' => e = .returned (.agg #[.int .i64 (aLo v), .int .i64 (aHi v)]) ∧ Below w.heap.size w w' := by
  have q1 := fop h.sub; have q2 := fop h.add
  have hf := Lib.hid (fun w => floor_ok (fsub v 4562254508917369340) h.fs w)
  have hc := Lib.hid (fun w => ceil_ok (fadd v 4562254508917369340) h.fa w)
  have q3 := fconvI h.ilo; have q4 := fconvI h.ihi
  generalize aLo v = lo at *
  generalize aHi v = hi at *
  generalize fsub v 4562254508917369340 = r1 at *
  generalize fadd v 4562254508917369340 = r2 at *
  clear h
  generalize ffloor r1 = r3 at *
  generalize fceil r2 = r4 at *
  go_enter Tryd.func21, Tryd.ntmps21
  go_wp2_with fail
  refine Calls.mono (hf.out _) ?_
  rintro e _ ⟨rfl, rfl⟩
  go_wp2_with fail
  refine Calls.mono (hc.out _) ?_
  rintro e _ ⟨rfl, rfl⟩
  go_wp2_with fail
  go_returns
  exact ⟨rfl, (by repeat' (first | (with_reducible refine below_drewN ?_ _) | go_grown))⟩
theorem radians_ok {x : Nat} {v : Rat} (h : Ap x v 0 1000000000) (w : World) : Calls Tryd.prog 85 #[.float .f64 x] w fun e w' => e = .returned (.float .f64 (radW x)) ∧ w' = w := by
  obtain ⟨r1, r2, r3, i1, i2, i3, e, -⟩ := radW_ok h
  have q1 := fop i1; have q2 := fop i2; have q3 := fop i3
  have HE := Lib.hid e
  clear e h i1 i2 i3
  go_enter Tryd.func85, Tryd.ntmps85
  go_wp2
  go_ret
  exact ⟨by rw [← HE.out]; rfl, rfl⟩
def clLo (a : Int) : Int := min (max a (-1000000000)) 1000000000
def clHi (a : Int) : Int := max (min a 1000000000) (-1000000000)
set_option maxHeartbeats 1000000 in
theorem clip_ok (a b : Int) (w : World) : Calls Tryd.prog 84 #[.agg #[.int .i64 a, .int .i64 b]] w fun e w' => e = .returned (.agg #[.int .i64 (clLo a), .int .i64 (clHi b)]) ∧ Below w.heap.size w w' := by
  go_enter Tryd.func84, Tryd.ntmps84
  go_wp2
  go_returns
  exact ⟨rfl, (by repeat' (first | (with_reducible refine below_drewN ?_ _) | go_grown))⟩
/-- The sine's word times the turn. -/
def tsin (a : Int) : Nat := fmul 4741671816366391296 (sinB (radW (floatOfInt .f64 a)))
theorem radA {a : Int} (h0 : 0 < a) (h1 : a < 1000000000) : Ap (floatOfInt .f64 a) (a : Rat) 0 1000000000 := by
  obtain ⟨f, v⟩ := fint_ok a (by omega) (by omega)
  have l : (0 : Rat) < (a : Rat) := by exact_mod_cast h0
  have e1 : ((1000000000 : Int) : Rat) = 1000000000 := rfl
  have u : (a : Rat) < 1000000000 := by rw [← e1]; exact Rat.intCast_lt_intCast.2 h1
  exact ⟨f, by rw [v]; grind, by rw [v]; grind, by grind, by grind⟩
/-- The angle of a. -/
def ang (a : Int) : Rat := 8 * qq * ((a : Rat) / 1000000000)
theorem rad_bd {a : Int} (h0 : 0 < a) (h1 : a < 1000000000) : Fin (radW (floatOfInt .f64 a)) ∧ 0 ≤ fv (radW (floatOfInt .f64 a)) ∧ fv (radW (floatOfInt .f64 a)) ≤ 7 ∧ fv (radW (floatOfInt .f64 a)) - 7 / 1000000000000000 ≤ ang a ∧ ang a ≤ fv (radW (floatOfInt .f64 a)) + 7 / 1000000000000000 := by
  obtain ⟨r1, r2, r3, _, _, _, e, ap⟩ := radW_ok (radA h0 h1)
  rw [← e]
  have e0 : ((1 : Int) : Rat) = 1 := rfl
  have l : (1 : Rat) ≤ (a : Rat) := by rw [← e0]; exact Rat.intCast_le_intCast.2 h0
  have e1 : ((1000000000 : Int) : Rat) = 1000000000 := rfl
  have u : (a : Rat) < 1000000000 := by rw [← e1]; exact Rat.intCast_lt_intCast.2 h1
  have b1 := ap.lo; have b2 := ap.hi; have f := ap.fin
  clear ap
  have ea : ang a = 8 * qq * ((a : Rat) / 1000000000) := rfl
  rw [← ea] at b1 b2
  have c1 : 1 / 1000000000 ≤ ang a ∧ ang a ≤ 63 / 10 := by
    rw [ea]; unfold qq kA kB kC; constructor <;> grind
  obtain ⟨c1, c2⟩ := c1
  clear ea e
  generalize ang a = t at *
  exact ⟨f, by grind, by grind, by grind, by grind⟩
structure TsinOk (a : Int) (e : Nat) : Prop where
  mul : floatBits .mul .f64 4741671816366391296 (sinB (radW (floatOfInt .f64 a))) = some (tsin a)
  even : e % 2 = 0
  le : e ≤ 8
  ap : Ap (tsin a) (1000000000 * sgnP e (ang a - (e : Rat) * qq)) (15 / 1000000) 1330000000
  z1 : -(393 / 500) ≤ ang a - (e : Rat) * qq
  z2 : ang a - (e : Rat) * qq ≤ 393 / 500
  o1 : ((e : Rat) - 1) * qq - 1 / 10000000000000 ≤ ang a
  o2 : ang a ≤ ((e : Rat) + 1) * qq + 1 / 10000000000000
theorem tsin_ok {a : Int} (h0 : 0 < a) (h1 : a < 1000000000) : ∃ e, TsinOk a e := by
  obtain ⟨f, a0, a7, b1, b2⟩ := rad_bd h0 h1
  obtain ⟨e, e2, e8, ap, c1, c2, c3, c4⟩ := sinB_near f a0 a7 b1 b2
  obtain ⟨i, ap2⟩ := Ap.mul ap_turn ap (15 / 1000000) 1330000000 1340000000 (mid_of (by grind) (by grind)) (by grind) (by grind) (by grind)
  exact ⟨e, i, e2, e8, ap2, c1, c2, c3, c4⟩
def sLo (a : Int) : Int := if a % 1000000000 = 0 then 0 else if a % 1000000000 = 500000000 then 0 else if a % 1000000000 = 250000000 then 1000000000 else if a % 1000000000 = 750000000 then -1000000000 else clLo (aLo (tsin (a % 1000000000)))
def sHi (a : Int) : Int := if a % 1000000000 = 0 then 0 else if a % 1000000000 = 500000000 then 0 else if a % 1000000000 = 250000000 then 1000000000 else if a % 1000000000 = 750000000 then -1000000000 else clHi (aHi (tsin (a % 1000000000)))
set_option maxHeartbeats 4000000 in
theorem sine_ok (a : Int) (w : World) (ht : SinT w) (h64 : -9223372036854775808 ≤ a ∧ a ≤ 9223372036854775807) : Calls Tryd.prog 74 #[.int .i64 a] w fun e w' => e = .returned (.agg #[.int .i64 (sLo a), .int .i64 (sHi a)]) ∧ Below w.heap.size w w' := by
  have hm := Lib.hid (fun w => mod_all a 1000000000 w (by omega) h64.1 h64.2 (by omega))
  have hb : 0 ≤ a % 1000000000 ∧ a % 1000000000 < 1000000000 := by omega
  have HT := Lib.hid ht
  have Hb := Lib.hid ((Below.refl w.heap.size w).alloc (Nat.le_refl _) (.cells #[.int .i64 0, .int .i64 0] 25))
  unfold sLo sHi
  generalize a % 1000000000 = b at *
  clear ht h64
  by_cases h0 : b = 0
  · subst h0
    clear hb
    go_enter Tryd.func74, Tryd.ntmps74
    go_wp2_with fail
    refine Calls.mono (hm.out _) ?_
    rintro e w1 ⟨rfl, hb⟩
    obtain ⟨hb1, hz1, hc1, hf1⟩ := took (w := w) (by repeat' (first | (with_reducible refine below_drewN ?_ _) | go_grown)) (by first | (simp only [World.size_alloc, World.size_setCell, World.size_drew, size_drewN]; done) | (simp only [World.size_alloc, World.size_setCell, World.size_drew, size_drewN]; rfl) | rfl) hb; clear hb
    go_wp2_with fail
    refine bodyPost_ret (v := .agg #[.int .i64 0, .int .i64 0]) ?_ rfl ⟨rfl, (by repeat' (first | (with_reducible refine below_drewN ?_ _) | go_grown))⟩
    simp [results, Tryd.results74, go_sem, *]
  by_cases h1 : b = 500000000
  · subst h1
    clear hb h0
    go_enter Tryd.func74, Tryd.ntmps74
    go_wp2_with fail
    refine Calls.mono (hm.out _) ?_
    rintro e w1 ⟨rfl, hb⟩
    obtain ⟨hb1, hz1, hc1, hf1⟩ := took (w := w) (by repeat' (first | (with_reducible refine below_drewN ?_ _) | go_grown)) (by first | (simp only [World.size_alloc, World.size_setCell, World.size_drew, size_drewN]; done) | (simp only [World.size_alloc, World.size_setCell, World.size_drew, size_drewN]; rfl) | rfl) hb; clear hb
    go_wp2_with fail
    refine bodyPost_ret (v := .agg #[.int .i64 0, .int .i64 0]) ?_ rfl ⟨rfl, (by repeat' (first | (with_reducible refine below_drewN ?_ _) | go_grown))⟩
    simp [results, Tryd.results74, go_sem, *]
  by_cases h2 : b = 250000000
  · subst h2
    clear hb h0 h1
    go_enter Tryd.func74, Tryd.ntmps74
    go_wp2_with fail
    refine Calls.mono (hm.out _) ?_
    rintro e w1 ⟨rfl, hb⟩
    obtain ⟨hb1, hz1, hc1, hf1⟩ := took (w := w) (by repeat' (first | (with_reducible refine below_drewN ?_ _) | go_grown)) (by first | (simp only [World.size_alloc, World.size_setCell, World.size_drew, size_drewN]; done) | (simp only [World.size_alloc, World.size_setCell, World.size_drew, size_drewN]; rfl) | rfl) hb; clear hb
    go_wp2_with fail
    refine bodyPost_ret (v := .agg #[.int .i64 1000000000, .int .i64 1000000000]) ?_ rfl ⟨rfl, (by repeat' (first | (with_reducible refine below_drewN ?_ _) | go_grown))⟩
    simp [results, Tryd.results74, go_sem, *]
  by_cases h3 : b = 750000000
  · subst h3
    clear hb h0 h1 h2
    go_enter Tryd.func74, Tryd.ntmps74
    go_wp2_with fail
    refine Calls.mono (hm.out _) ?_
    rintro e w1 ⟨rfl, hb⟩
    obtain ⟨hb1, hz1, hc1, hf1⟩ := took (w := w) (by repeat' (first | (with_reducible refine below_drewN ?_ _) | go_grown)) (by first | (simp only [World.size_alloc, World.size_setCell, World.size_drew, size_drewN]; done) | (simp only [World.size_alloc, World.size_setCell, World.size_drew, size_drewN]; rfl) | rfl) hb; clear hb
    go_wp2_with fail
    refine bodyPost_ret (v := .agg #[.int .i64 (-1000000000), .int .i64 (-1000000000)]) ?_ rfl ⟨rfl, (by repeat' (first | (with_reducible refine below_drewN ?_ _) | go_grown))⟩
    simp [results, Tryd.results74, go_sem, *]
  rw [if_neg h0, if_neg h1, if_neg h2, if_neg h3, if_neg h0, if_neg h1, if_neg h2, if_neg h3]
  obtain ⟨e, hT⟩ := tsin_ok (a := b) (by omega) (by omega)
  obtain ⟨f, a0, a7, -, -⟩ := rad_bd (a := b) (by omega) (by omega)
  have hr := Lib.hid (fun w => radians_ok (radA (a := b) (by omega) (by omega)) w)
  have hs := Lib.hid (fun w ht => Sin_ok (radW (floatOfInt .f64 b)) f a0 a7 w ht)
  have hA := Lib.hid (fun w => Around_ok (around_ok (hT.ap.weak (Rat.le_refl) (by grind)) (by grind)) w)
  have q := fop hT.mul
  clear hT f a0 a7
  generalize tsin b = tv at *
  obtain ⟨fa, hfa⟩ : ∃ y, floatOfInt .f64 b = y := ⟨_, rfl⟩
  rw [hfa] at hr hs q
  generalize radW fa = rv at *
  generalize sinB rv = sv at *
  generalize aLo tv = lo at *
  generalize aHi tv = hi at *
  have hC := Lib.hid (fun w => clip_ok lo hi w)
  generalize clLo lo = cl at *
  generalize clHi hi = ch at *
  go_enter Tryd.func74, Tryd.ntmps74
  go_wp2_with fail
  refine Calls.mono (hm.out _) ?_
  rintro e w1 ⟨rfl, hb⟩
  obtain ⟨hb1, hz1, hc1, hf1⟩ := took (w := w) (by repeat' (first | (with_reducible refine below_drewN ?_ _) | go_grown)) (by first | (simp only [World.size_alloc, World.size_setCell, World.size_drew, size_drewN]; done) | (simp only [World.size_alloc, World.size_setCell, World.size_drew, size_drewN]; rfl) | rfl) hb; clear hb
  have z1 : w.heap.size < w1.heap.size := by omega
  go_wp2_with fail
  refine Calls.mono (hr.out _) ?_
  rintro e _ ⟨rfl, rfl⟩
  have ht1 := HT.out.below (by first | exact hb1 | exact (Below.refl _ _).trans hb1)
  go_wp2_with fail
  refine Calls.mono (hs.out _ ht1) ?_
  rintro e _ ⟨rfl, rfl⟩
  go_wp2_with fail
  refine Calls.mono (hA.out _) ?_
  rintro e w2 ⟨rfl, hb⟩
  obtain ⟨hb2, hz2, hc2, hf2⟩ := took (w := w) (by repeat' (first | (with_reducible refine below_drewN ?_ _) | go_grown)) (by first | (simp only [World.size_alloc, World.size_setCell, World.size_drew, size_drewN]; done) | (simp only [World.size_alloc, World.size_setCell, World.size_drew, size_drewN]; rfl) | rfl) hb; clear hb
  have z2 : w.heap.size < w2.heap.size := by omega
  go_wp2_with fail
  refine Calls.mono (hC.out _) ?_
  rintro e w3 ⟨rfl, hb⟩
  obtain ⟨hb3, hz3, hc3, hf3⟩ := took (w := w) (by repeat' (first | (with_reducible refine below_drewN ?_ _) | go_grown)) (by first | (simp only [World.size_alloc, World.size_setCell, World.size_drew, size_drewN]; done) | (simp only [World.size_alloc, World.size_setCell, World.size_drew, size_drewN]; rfl) | rfl) hb; clear hb
  have z3 : w.heap.size < w3.heap.size := by omega
  go_wp2_with fail
  refine bodyPost_ret (v := .agg #[.int .i64 cl, .int .i64 ch]) ?_ rfl ⟨rfl, (by repeat' (first | (with_reducible refine below_drewN ?_ _) | go_grown))⟩
  simp [results, Tryd.results74, go_sem, *]
end Go.Proofs.YtcopmgnfakjdhaaDoor
