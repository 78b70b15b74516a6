/- The astrolabe, plain: sines and cosines of whole angles as words, negative ones too; the radius of a circle is a tangent. -/
import Derived.Test.YtcopmgnfakjdhaaDoorTrigW
import Derived.Test.YtcopmgnfakjdhaaDoorSinN
import Derived.Test.YtcopmgnfakjdhaaDoorSaG
namespace Go.Proofs.YtcopmgnfakjdhaaDoor
open Ieee
set_option linter.unusedSimpArgs false
set_option linter.unusedVariables false
theorem ap_int {a : Int} (h0 : -1000000000 ≤ a) (h1 : a ≤ 1000000000) : Ap (floatOfInt .f64 a) (a : Rat) 0 1000000000 := by
  obtain ⟨f, v⟩ := fint_ok a (by omega) (by omega)
  have l := Rat.intCast_le_intCast.2 h0
  have u := Rat.intCast_le_intCast.2 h1
  rw [show ((-1000000000 : Int) : Rat) = -1000000000 from rfl] at l
  rw [show ((1000000000 : Int) : Rat) = 1000000000 from rfl] at u
  exact ⟨f, by rw [v]; grind, by rw [v]; grind, by grind, by grind⟩
/-- The word of an angle in radians. -/
def aW (a : Int) : Nat := radW (floatOfInt .f64 a)
structure AwOk (a : Int) : Prop where
  f : Fin (aW a)
  l : ang a - 6 / 1000000000000000 ≤ fv (aW a)
  u : fv (aW a) ≤ ang a + 6 / 1000000000000000
theorem aw_ok {a : Int} (h0 : -1000000000 ≤ a) (h1 : a ≤ 1000000000) : AwOk a := by
  obtain ⟨r1, r2, r3, _, _, _, e, ap⟩ := radW_ok (ap_int h0 h1)
  rw [e] at ap
  exact ⟨ap.fin, ap.lo, ap.hi⟩
theorem ang_neg' (a : Int) : ang (-a) = -ang a := by unfold ang; rw [Rat.intCast_neg]; grind
theorem ang_sz {a : Int} (h0 : 0 ≤ a) (h1 : a ≤ 250000000) : 0 ≤ ang a ∧ ang a ≤ 158 / 100 := by
  have l := Rat.intCast_le_intCast.2 h0
  have u := Rat.intCast_le_intCast.2 h1
  rw [show ((0 : Int) : Rat) = 0 from rfl] at l
  rw [show ((250000000 : Int) : Rat) = 250000000 from rfl] at u
  have q := qq_bd
  have m := Rat.mul_nonneg (show 0 ≤ qq by grind) l
  have m2 := Rat.mul_le_mul_of_nonneg_left u (show 0 ≤ qq by grind)
  unfold ang
  rw [show 8 * qq * ((a : Rat) / 1000000000) = qq * (a : Rat) * (8 / 1000000000) by grind]
  have m3 : qq * 250000000 ≤ 197500000 := by clear m m2 l u; generalize qq = p at *; grind
  clear q l u
  generalize qq * (a : Rat) = z at *
  generalize qq * 250000000 = z2 at *
  constructor <;> grind
theorem sin_apW {x : Nat} {b : Int} (b0 : 0 ≤ b) (b1 : b < 1000000000) (hf : Fin x) (h0 : 0 ≤ fv x) (h7 : fv x ≤ 7) (h1 : fv x - 7 / 1000000000000000 ≤ ang b) (h2 : ang b ≤ fv x + 7 / 1000000000000000) : Ap (sinB x) (SN b) (16 / 1000000000000000) (101 / 100) := by
  obtain ⟨e, e2', e8, ap, c1, c2, -, -⟩ := sinB_near hf h0 h7 h1 h2
  have n := sgnP_near ⟨c1, c2⟩ e2' e8
  rw [show ang b - (e : Rat) * qq + (e : Rat) * qq = ang b by grind] at n
  have s : SN b = sn (ang b) := by unfold SN; rw [show b % 1000000000 = b by omega]
  rw [← s] at n
  have B := SN_le b
  have l := ap.lo; have u := ap.hi; have f := ap.fin
  clear ap
  unfold Near ep at *
  exact ⟨f, by grind, by grind, by grind, by grind⟩
theorem cos_apW {x : Nat} {b : Int} (b0 : 0 ≤ b) (b1 : b < 1000000000) (hf : Fin x) (h0 : 0 ≤ fv x) (h7 : fv x ≤ 7) (h1 : fv x - 7 / 1000000000000000 ≤ ang b) (h2 : ang b ≤ fv x + 7 / 1000000000000000) : Ap (cosB x) (CN b) (16 / 1000000000000000) (101 / 100) := by
  obtain ⟨e, e2', e8, ap, c1, c2, -, -⟩ := cosB_near hf h0 h7 h1 h2
  have n := sgnC_near ⟨c1, c2⟩ e2' e8
  rw [show ang b - (e : Rat) * qq + (e : Rat) * qq = ang b by grind] at n
  have s : CN b = cs (ang b) := by unfold CN; rw [show b % 1000000000 = b by omega]
  rw [← s] at n
  have B := CN_le b
  have l := ap.lo; have u := ap.hi; have f := ap.fin
  clear ap
  unfold Near ep at *
  exact ⟨f, by grind, by grind, by grind, by grind⟩
/-- The words that math.Sin and math.Cos hand back. -/
def aS (a : Int) : Nat := if a < 0 then fneg (sinB (fneg (aW a))) else sinB (aW a)
def aC (a : Int) : Nat := cosB (fabs (aW a))
theorem aw_neg {a : Int} (h0 : -250000000 ≤ a) (h1 : a < 0) : -2 ≤ fv (aW a) ∧ fv (aW a) < 0 := by
  obtain ⟨f, l, u⟩ := aw_ok (a := a) (by omega) (by omega)
  have s := ang_sz (a := -a) (by omega) (by omega)
  rw [ang_neg'] at s
  have g := Rat.intCast_le_intCast.2 (show 1 ≤ -a by omega)
  rw [Rat.intCast_neg, show ((1 : Int) : Rat) = 1 from rfl] at g
  have q := qq_bd
  have m := Rat.mul_le_mul_of_nonneg_left g (show 0 ≤ qq by grind)
  have e : ang a = -(qq * (-(a : Rat)) * (8 / 1000000000)) := by unfold ang; grind
  constructor
  · grind
  · rw [e] at u
    generalize qq * -(a : Rat) = z at *
    grind
theorem aw_pos {a : Int} (h0 : 0 ≤ a) (h1 : a ≤ 250000000) : 0 ≤ fv (aW a) ∧ fv (aW a) ≤ 2 := by
  obtain ⟨f, l, u⟩ := aw_ok (a := a) (by omega) (by omega)
  have s := ang_sz h0 h1
  by_cases c : a = 0
  · subst c
    have : aW 0 = 0 := by decide +kernel
    rw [this, fin_zero.2]
    constructor <;> grind
  · have g := Rat.intCast_le_intCast.2 (show 1 ≤ a by omega)
    rw [show ((1 : Int) : Rat) = 1 from rfl] at g
    have q := qq_bd
    have m := Rat.mul_le_mul_of_nonneg_left g (show 0 ≤ qq by grind)
    have e : ang a = qq * (a : Rat) * (8 / 1000000000) := by unfold ang; grind
    constructor
    · rw [e] at l
      generalize qq * (a : Rat) = z at *
      grind
    · grind
theorem as_ap {a : Int} (h0 : -250000000 ≤ a) (h1 : a ≤ 250000000) : Ap (aS a) (SN a) (18 / 1000000000000000) (102 / 100) ∧ Ap (aC a) (CN a) (18 / 1000000000000000) (102 / 100) := by
  obtain ⟨f, l, u⟩ := aw_ok (a := a) (by omega) (by omega)
  obtain ⟨bf, -, bp, bv⟩ := fabs_ok f
  unfold aS aC
  by_cases c : a < 0
  · rw [if_pos c]
    obtain ⟨n1, n2⟩ := aw_neg h0 c
    obtain ⟨nf, nv⟩ := fneg_ok f
    have bv := bv (Rat.le_of_lt n2)
    have en := ang_neg' a
    have s := sin_apW (x := fneg (aW a)) (b := -a) (by omega) (by omega) nf (by grind) (by grind) (by grind) (by grind)
    have k := cos_apW (x := fabs (aW a)) (b := -a) (by omega) (by omega) bf (by grind) (by grind) (by grind) (by grind)
    obtain ⟨m1, m2⟩ := SC_neg a
    obtain ⟨sf, sl, su, s1, s2⟩ := s
    obtain ⟨kf, kl, ku, k1, k2⟩ := k
    obtain ⟨gf, gv⟩ := fneg_ok sf
    have B := SN_le a; have C := CN_le a
    unfold Near e2 ep at *
    exact ⟨⟨gf, by rw [gv]; grind, by rw [gv]; grind, by grind, by grind⟩, ⟨kf, by grind, by grind, by grind, by grind⟩⟩
  · rw [if_neg c]
    obtain ⟨n1, n2⟩ := aw_pos (a := a) (by omega) h1
    have bp := bp n1
    have s := sin_apW (x := aW a) (b := a) (by omega) (by omega) f n1 (by grind) (by grind) (by grind)
    have k := cos_apW (x := fabs (aW a)) (b := a) (by omega) (by omega) bf (by grind) (by grind) (by grind) (by grind)
    exact ⟨⟨s.fin, by have := s.lo; grind, by have := s.hi; grind, by have := s.bl; grind, by have := s.bh; grind⟩, ⟨k.fin, by have := k.lo; grind, by have := k.hi; grind, by have := k.bl; grind, by have := k.bh; grind⟩⟩
theorem ap_one : Ap 4607182418800017408 1 0 1 := by
  obtain ⟨f, v⟩ := fv_lit (w := 4607182418800017408) (s := false) (m := 4503599627370496) (k := 52) (by decide)
  have e : ((2 ^ 52 : Nat) : Rat) = 4503599627370496 := rfl
  have e2 : ((4503599627370496 : Nat) : Rat) = 4503599627370496 := rfl
  have v2 : fv 4607182418800017408 = 1 := by rw [v, e]; (try rw [e2]); rw [sg_f]; grind
  exact ⟨f, by grind, by grind, by grind, by grind⟩
theorem ap_mill : Ap 4696837146684686336 1000000 0 1000000 := by
  obtain ⟨f, v⟩ := fv_lit (w := 4696837146684686336) (s := false) (m := 8589934592000000) (k := 33) (by decide)
  have e : ((2 ^ 33 : Nat) : Rat) = 8589934592 := rfl
  have e2 : ((8589934592000000 : Nat) : Rat) = 8589934592000000 := rfl
  have v2 : fv 4696837146684686336 = 1000000 := by rw [v, e]; (try rw [e2]); rw [sg_f]; grind
  exact ⟨f, by grind, by grind, by grind, by grind⟩
/-! A quotient 10^6 x / y, y not small. -/
structure QuoOk (X Y : Nat) (q : Rat) : Prop where
  i1 : floatBits .mul .f64 4696837146684686336 X = some (fmul 4696837146684686336 X)
  i2 : floatBits .quo .f64 (fmul 4696837146684686336 X) Y = some (fdiv (fmul 4696837146684686336 X) Y)
  ar : AroundOk (fdiv (fmul 4696837146684686336 X) Y) q (3 / 1000)
theorem quo_ok {X Y : Nat} {x y : Rat} (hX : Ap X x (18 / 1000000000000000) (102 / 100)) (hY : Ap Y y (40 / 1000000000000000) (205 / 100)) (y0 : 58 / 1000 ≤ y) (hq : -7000000 ≤ 1000000 * x / y ∧ 1000000 * x / y ≤ 7000000) : QuoOk X Y (1000000 * x / y) := by
  obtain ⟨i1, a1⟩ := Ap.mul ap_mill hX (2 / 100000000) 1020000 1030000 (mid_of (by grind) (by grind)) (by grind) (by grind) (by grind)
  obtain ⟨i2, a2⟩ := Ap.div a1 hY (58 / 1000) (1 / 10000) 7000000 8000000 (mid_of (by grind) (by grind)) (by grind) y0 (by grind) hq (by grind) (by grind)
  have A := around_ok (a2.weak (e' := 1 / 10000) (B' := 10000000000000) (by grind) (by grind)) (by grind)
  refine ⟨i1, i2, ?_⟩
  obtain ⟨b1, b2, b3, b4, b5, b6, b7, b8, b9, b10⟩ := A
  exact ⟨b1, b2, b3, b4, b5, b6, by grind, by grind, by grind, by grind⟩
end Go.Proofs.YtcopmgnfakjdhaaDoor
