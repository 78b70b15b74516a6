/- Angles and sines in plain Lean: the words that package trig reckons with. -/
import Derived.Test.YtdeoahgcppbmkaaDoorFlOct
set_option linter.unusedSimpArgs false
set_option linter.unusedVariables false
namespace Go.Proofs.YtdeoahgcppbmkaaDoor
open Ieee

theorem ap_turn : Ap 4741671816366391296 1000000000 0 1000000000 := by
  obtain ⟨f, v⟩ := fv_lit (w := 4741671816366391296) (s := false) (m := 8388608000000000) (k := 23) (by decide)
  have e : ((2 ^ 23 : Nat) : Rat) = 8388608 := rfl
  have e2 : ((8388608000000000 : Nat) : Rat) = 8388608000000000 := rfl
  have v2 : fv 4741671816366391296 = 1000000000 := by rw [v, e]; (try rw [e2]); rw [sg_f]; grind
  exact ⟨f, by grind, by grind, by grind, by grind⟩
theorem ap_two : Ap 4611686018427387904 2 0 2 := by
  obtain ⟨f, v⟩ := fv_lit (w := 4611686018427387904) (s := false) (m := 4503599627370496) (k := 51) (by decide)
  have e : ((2 ^ 51 : Nat) : Rat) = 2251799813685248 := rfl
  have e2 : ((4503599627370496 : Nat) : Rat) = 4503599627370496 := rfl
  have v2 : fv 4611686018427387904 = 2 := by rw [v, e]; (try rw [e2]); rw [sg_f]; grind
  exact ⟨f, by grind, by grind, by grind, by grind⟩
def kPi : Rat := 7074237752028440 / 2251799813685248
theorem ap_pi : Ap 4614256656552045848 kPi 0 (3141593 / 1000000) := by
  obtain ⟨f, v⟩ := fv_lit (w := 4614256656552045848) (s := false) (m := 7074237752028440) (k := 51) (by decide)
  have e : ((2 ^ 51 : Nat) : Rat) = 2251799813685248 := rfl
  have e2 : ((7074237752028440 : Nat) : Rat) = 7074237752028440 := rfl
  have v2 : fv 4614256656552045848 = kPi := by rw [v, e]; (try rw [e2]); unfold kPi; rw [sg_f]; grind
  rw [← v2]; exact Ap.exact f (by rw [v2]; unfold kPi; grind) (by rw [v2]; unfold kPi; grind)
/-- The slack. -/
def kSl : Rat := 1152921504606847 / 1152921504606846976
theorem ap_sl : Ap 4562254508917369340 kSl 0 (1 / 999) := by
  obtain ⟨f, v⟩ := fv_lit (w := 4562254508917369340) (s := false) (m := 4611686018427388) (k := 62) (by decide)
  have e : ((2 ^ 62 : Nat) : Rat) = 4611686018427387904 := rfl
  have e2 : ((4611686018427388 : Nat) : Rat) = 4611686018427388 := rfl
  have v2 : fv 4562254508917369340 = kSl := by rw [v, e]; (try rw [e2]); unfold kSl; rw [sg_f]; grind
  rw [← v2]; exact Ap.exact f (by rw [v2]; unfold kSl; grind) (by rw [v2]; unfold kSl; grind)

/-- The radians of an angle. -/
def radW (x : Nat) : Nat := fmul (fmul (fdiv x 4741671816366391296) 4611686018427387904) 4614256656552045848
theorem rad_q : -(3 / 10000000000000000) ≤ 2 * kPi - 8 * qq ∧ 2 * kPi - 8 * qq ≤ 3 / 10000000000000000 := by
  unfold kPi qq kA kB kC; constructor <;> grind
theorem qq_bd : 78 / 100 ≤ qq ∧ qq ≤ 79 / 100 := by unfold qq kA kB kC; constructor <;> grind
theorem rad_last {W : Nat} {t : Rat} (f : Fin W) (b1 : t * 2 * kPi - 48 / 10000000000000000 ≤ fv W) (b2 : fv W ≤ t * 2 * kPi + 48 / 10000000000000000) (t1 : -1 ≤ t) (t2 : t ≤ 1) : Ap W (8 * qq * t) (6 / 1000000000000000) 7 := by
  have p := prod_bd (s := 2 * kPi - 8 * qq) (t := t) (S := 3 / 10000000000000000) (T := 1) rad_q.1 rad_q.2 t1 t2
  have p2 := prod_bd (s := qq) (t := t) (S := 79 / 100) (T := 1) (by have := qq_bd.1; grind) qq_bd.2 t1 t2
  have e1 : t * 2 * kPi = 8 * (qq * t) + (2 * kPi - 8 * qq) * t := by grind
  have e2 : 8 * qq * t = 8 * (qq * t) := by grind
  rw [e1] at b1 b2
  rw [e2]
  generalize (2 * kPi - 8 * qq) * t = x at *
  generalize qq * t = y at *
  exact ⟨f, by grind, by grind, by grind, by grind⟩
theorem radW_ok {x : Nat} {v : Rat} (hx : Ap x v 0 1000000000) : ∃ r1 r2 r3 : Nat, floatBits .quo .f64 x 4741671816366391296 = some r1 ∧ floatBits .mul .f64 r1 4611686018427387904 = some r2 ∧ floatBits .mul .f64 r2 4614256656552045848 = some r3 ∧ r3 = radW x ∧
    Ap r3 (8 * qq * (v / 1000000000)) (6 / 1000000000000000) 7 := by
  have h1 := hx.lo; have h2 := hx.hi; have h3 := hx.bl; have h4 := hx.bh
  have hT := ap_turn
  have hv : fv x = v := by grind
  have hTv : fv 4741671816366391296 = 1000000000 := by have := hT.lo; have := hT.hi; grind
  obtain ⟨i1, f1, n1⟩ := fdiv_ok hx.fin hT.fin (by rw [hTv]; grind) 1 (mid_of (by grind) (by grind)) (by rw [hv, hTv]; grind) (by rw [hv, hTv]; grind)
  unfold Near at n1
  rw [hv, hTv] at n1
  have a1 : Ap (fdiv x 4741671816366391296) (v / 1000000000) (1 / 2251799813685248) 1 := ⟨f1, n1.1, n1.2, by grind, by grind⟩
  obtain ⟨i2, a2⟩ := Ap.mul a1 ap_two (12 / 10000000000000000) 2 (21 / 10) (mid_of (by grind) (by grind)) (by grind) (by grind) (by grind)
  obtain ⟨i3, a3⟩ := Ap.mul a2 ap_pi (48 / 10000000000000000) (6283186 / 1000000) (63 / 10) (mid_of (by grind) (by grind)) (by grind) (by grind) (by grind)
  refine ⟨_, _, _, i1, i2, i3, rfl, ?_⟩
  have t1 : -1 ≤ v / 1000000000 := by grind
  have t2 : v / 1000000000 ≤ 1 := by grind
  clear n1 a2 a1 hT hTv hv h1 h2 h3 h4 i1 i2 i3
  show Ap (radW x) _ _ _
  unfold radW
  generalize v / 1000000000 = t at *
  have b1 := a3.lo; have b2 := a3.hi; have f := a3.fin
  clear a3
  generalize fmul (fmul (fdiv x 4741671816366391296) 4611686018427387904) 4614256656552045848 = W at *
  exact rad_last f b1 b2 t1 t2
/-! The whole numbers around a word. -/
def aLo (v : Nat) : Int := ((double.read (ffloor (fsub v 4562254508917369340))).toInt .zero).getD 0
def aHi (v : Nat) : Int := ((double.read (fceil (fadd v 4562254508917369340))).toInt .zero).getD 0
theorem i64_val {w : Nat} {k : Int} (h : (double.read w).toInt .zero = some k) (h1 : -9000000000000000000 ≤ k) (h2 : k ≤ 9000000000000000000) : floatToIntVal .f64 w .i64 = some k := by
  unfold floatToIntVal
  have : (FloatKind.f64.decode w).toInt .zero = some k := h
  rw [this]
  dsimp only
  rw [if_pos]
  have m1 : IntKind.i64.min = -9223372036854775808 := rfl
  have m2 : IntKind.i64.max = 9223372036854775807 := rfl
  rw [m1, m2]; omega
structure AroundOk (v : Nat) (V E : Rat) : Prop where
  sub : floatBits .sub .f64 v 4562254508917369340 = some (fsub v 4562254508917369340)
  add : floatBits .add .f64 v 4562254508917369340 = some (fadd v 4562254508917369340)
  fs : Fin (fsub v 4562254508917369340)
  fa : Fin (fadd v 4562254508917369340)
  ilo : floatToIntVal .f64 (ffloor (fsub v 4562254508917369340)) .i64 = some (aLo v)
  ihi : floatToIntVal .f64 (fceil (fadd v 4562254508917369340)) .i64 = some (aHi v)
  lo1 : (aLo v : Rat) ≤ V - kSl + E
  lo2 : V - kSl - E < (aLo v : Rat) + 1
  hi1 : V + kSl - E ≤ (aHi v : Rat)
  hi2 : (aHi v : Rat) - 1 < V + kSl + E
theorem int_lt_of_rat {k n : Int} (h : (k : Rat) < (n : Rat)) : k < n := by exact_mod_cast h
theorem int_le_of_rat {k n : Int} (h : (k : Rat) ≤ (n : Rat)) : k ≤ n := by exact_mod_cast h
/-- Around a word that approximates V up to e, of size at most 10^13. -/
theorem around_ok {v : Nat} {V e : Rat} (h : Ap v V e 10000000000000) (he : e ≤ 1 / 1000) : AroundOk v V (e + 2 / 1000) := by
  obtain ⟨i1, a1⟩ := Ap.sub h ap_sl (e + 12 / 10000) (10000000000001) (10000000000002) (mid_of (by grind) (by grind)) (by grind) (by grind) (by grind)
  obtain ⟨i2, a2⟩ := Ap.add h ap_sl (e + 12 / 10000) (10000000000001) (10000000000002) (mid_of (by grind) (by grind)) (by grind) (by grind) (by grind)
  have b1 := a1.lo; have b2 := a1.hi; have b3 := a1.bl; have b4 := a1.bh
  have c1 := a2.lo; have c2 := a2.hi; have c3 := a2.bl; have c4 := a2.bh
  obtain ⟨k, fk, vk, k1, k2, tk⟩ := ffloor_ok a1.fin (by grind) (by grind)
  obtain ⟨n, fn, vn, n1, n2, tn⟩ := fceil_ok a2.fin (by grind) (by grind)
  have ek : aLo v = k := by unfold aLo; rw [tk]; rfl
  have en : aHi v = n := by unfold aHi; rw [tn]; rfl
  have e1 : ((9000000000000000000 : Int) : Rat) = 9000000000000000000 := rfl
  have e2 : ((-9000000000000000000 : Int) : Rat) = -9000000000000000000 := rfl
  refine ⟨i1, i2, a1.fin, a2.fin, ?_, ?_, ?_, ?_, ?_, ?_⟩
  · rw [ek]; exact i64_val tk (int_le_of_rat (by rw [e2]; grind)) (int_le_of_rat (by rw [e1]; grind))
  · rw [en]; exact i64_val tn (int_le_of_rat (by rw [e2]; grind)) (int_le_of_rat (by rw [e1]; grind))
  all_goals first | rw [ek] | rw [en]
  all_goals grind
end Go.Proofs.YtdeoahgcppbmkaaDoor
