/- Merged by wip/tools/pack.py out of XAsinW, XAsinP, XAsinL, XAsinM, XAsinU. -/
import Derived.Test.YtcopmgnfakjdhaaDoorArcs
import Derived.Test.YtcopmgnfakjdhaaDoorRootW
import Derived.Test.YtcopmgnfakjdhaaDoorArcTK
/- math.Atan2 at a root; trig.arcSine. -/
namespace Go.Proofs.YtcopmgnfakjdhaaDoor
open Go.RowKit
set_option linter.unusedSimpArgs false
set_option linter.unusedVariables false
/-- The quotient of a whole number by a positive word. -/
structure QuotW (Y : Int) (x : Nat) : Prop where
  is : floatBits .quo .f64 (iw Y) x = some (fdiv (iw Y) x)
  fin : Fin (fdiv (iw Y) x)
  pos : 0 < Y → 1 / 100000000000000000 ≤ fv (fdiv (iw Y) x) ∧ fv (fdiv (iw Y) x) ≤ 10000000000000000 ∧ Near (fv (fdiv (iw Y) x)) ((Y : Rat) / fv x) ((Y : Rat) / fv x / 2251799813685248)
  neg : Y < 0 → fv (fdiv (iw Y) x) ≤ -(1 / 100000000000000000) ∧ -10000000000000000 ≤ fv (fdiv (iw Y) x) ∧ Near (-fv (fdiv (iw Y) x)) (-(Y : Rat) / fv x) (-(Y : Rat) / fv x / 2251799813685248)
theorem quot_word {Y : Int} {x : Nat} (hY : Sml Y) (h0 : Y ≠ 0) (hx : Fin x) (x1 : 1 ≤ fv x) (x2 : fv x ≤ 9007199254740992) : QuotW Y x := by
  obtain ⟨f1, v1⟩ := iw_ok hY
  have b1 := sml_bd hY
  by_cases c1 : 0 < Y
  · have p1 := int_pos c1
    have q := rat_quot_pos p1 b1.2 x1 x2
    obtain ⟨o1, o2, o3⟩ := fdiv_ok f1 hx (by grind) ((Y : Rat) / fv x) (mid_of (by grind) (by grind)) (by rw [v1]; grind) (by rw [v1]; grind)
    rw [v1] at o3
    refine ⟨o1, o2, fun _ => ⟨?_, ?_, o3⟩, fun h => absurd h (by omega)⟩
    · unfold Near at o3; grind
    · unfold Near at o3; grind
  · have p1 := int_neg (show Y < 0 by omega)
    have q := rat_quot_pos (show 1 ≤ -(Y : Rat) by grind) (by grind) x1 x2
    have e : (Y : Rat) / fv x = -(-(Y : Rat) / fv x) := by grind
    obtain ⟨o1, o2, o3⟩ := fdiv_ok f1 hx (by grind) (-(Y : Rat) / fv x) (mid_of (by grind) (by grind)) (by rw [v1, e]; grind) (by rw [v1, e]; grind)
    rw [v1, e] at o3
    have o4 : Near (-fv (fdiv (iw Y) x)) (-(Y : Rat) / fv x) (-(Y : Rat) / fv x / 2251799813685248) := by
      clear q o1 o2 p1 b1 e
      generalize -(Y : Rat) / fv x = g at *
      unfold Near at *; grind
    clear o3
    refine ⟨o1, o2, fun h => absurd h (by omega), fun _ => ⟨?_, ?_, o4⟩⟩
    · unfold Near at o4; grind
    · unfold Near at o4; grind
end Go.Proofs.YtcopmgnfakjdhaaDoor
/- trig.arcSine, plain: the root's word, the arc's word. -/
namespace Go.Proofs.YtcopmgnfakjdhaaDoor
set_option linter.unusedSimpArgs false
set_option linter.unusedVariables false
def rx (n : Int) : Int := (1000000000 - n) * (1000000000 + n)
def rtW (n : Int) : Nat := fsqrt (floatOfInt .f64 (rx n))
theorem rx_bd {n : Int} (h1 : -1000000000 < n) (h2 : n < 1000000000) : 1999999999 ≤ rx n ∧ rx n ≤ 1000000000000000000 := by
  have e : rx n = 1000000000000000000 - n * n := by unfold rx; grind
  have m := Int.mul_nonneg (show 0 ≤ 999999999 - n by omega) (show 0 ≤ 999999999 + n by omega)
  have q : 0 ≤ n * n := by
    rcases Int.le_total 0 n with h | h
    · exact Int.mul_nonneg h h
    · have := Int.mul_nonneg (show 0 ≤ -n by omega) (show 0 ≤ -n by omega); grind
  have i : (999999999 - n) * (999999999 + n) = 999999998000000001 - n * n := by grind
  rw [e]
  omega
/-- The root of a number that a direction has beside n. -/
structure RtOk (n : Int) (X v D : Rat) : Prop where
  near : Near X v (3 / 10000000)
  sq : Near (v * v) (rx n : Rat) D
  big : D ≤ 2 ∧ 44000 ≤ v ∨ D ≤ 400 ∧ 90000000 ≤ v
  v0 : v ≤ 1000000001
theorem rt_ok {n : Int} (h1 : -1000000000 < n) (h2 : n < 1000000000) : Ieee.double.sqrt (floatOfInt .f64 (rx n)) = some (rtW n) ∧ Fin (rtW n) ∧ ∃ v D, RtOk n (fv (rtW n)) v D := by
  obtain ⟨b1, b2⟩ := rx_bd h1 h2
  unfold rtW
  have i1 : ((1999999999 : Int) : Rat) = 1999999999 := rfl
  have i2 : ((1000000000000000000 : Int) : Rat) = 1000000000000000000 := rfl
  have i3 : ((9007199254740992 : Int) : Rat) = 9007199254740992 := rfl
  have l : (1999999999 : Rat) ≤ (rx n : Rat) := by rw [← i1]; exact Rat.intCast_le_intCast.2 b1
  have u : (rx n : Rat) ≤ 1000000000000000000 := by rw [← i2]; exact Rat.intCast_le_intCast.2 b2
  obtain ⟨f, nr⟩ := fint_near (rx n) 1000000000000000000 (mid_of (by grind) (by grind)) (by grind) u
  obtain ⟨y, hy⟩ : ∃ y, y = fv (floatOfInt .f64 (rx n)) := ⟨_, rfl⟩
  have ys : (y = (rx n : Rat) ∧ (rx n : Rat) < 9007199254740992) ∨ (9007199254740992 ≤ (rx n : Rat) ∧ Near y (rx n : Rat) 112) := by
    by_cases c : rx n < 9007199254740992
    · left
      exact ⟨by rw [hy]; exact (fint_ok (rx n) (by omega) c).2, by rw [← i3]; exact Rat.intCast_lt_intCast.2 c⟩
    · right
      exact ⟨by rw [← i3]; exact Rat.intCast_le_intCast.2 (by omega), by rw [hy]; exact near_weak nr (by grind)⟩
  have y0 : 0 < y := by unfold Near at ys; grind
  have y1 : y * 2 ≤ 2000000000 * 2000000000 := by unfold Near at ys; grind
  rw [hy] at y0 y1
  obtain ⟨v, so, hs, fs, ns, s0⟩ := fsqrt_ok f y0 2000000000 (mid_of (by grind) (by grind)) y1 (by grind)
  refine ⟨hs, fs, ?_⟩
  obtain ⟨p1, p2, p3⟩ := so
  rw [← hy] at p2 p3
  clear hs fs s0 f nr y0 y1 hy
  have near := near_weak ns (show _ ≤ 3 / 10000000 by grind)
  generalize fv (fsqrt (floatOfInt .f64 (rx n))) = X at *
  have vu : v ≤ 1000000001 := by
    apply Rat.not_lt.1
    intro h
    have a1 := Rat.mul_lt_mul_of_pos_right h p1
    unfold Near at ys
    grind
  rcases ys with ⟨e, s⟩ | ⟨s, e⟩
  · subst e
    refine ⟨v, 2, near, ?_, .inl ⟨Rat.le_refl, ?_⟩, vu⟩
    · unfold Near; constructor <;> grind
    · apply Rat.not_lt.1
      intro h
      have a1 := Rat.mul_lt_mul_of_pos_right h p1
      grind
  · refine ⟨v, 400, near, ?_, .inr ⟨Rat.le_refl, ?_⟩, vu⟩
    · unfold Near at *; constructor <;> grind
    · apply Rat.not_lt.1
      intro h
      have a1 := Rat.mul_lt_mul_of_pos_right h p1
      unfold Near at e
      grind
theorem rt_range {n : Int} {X v D : Rat} (h : RtOk n X v D) : 43999 ≤ X ∧ X ≤ 1000000002 := by
  obtain ⟨a, b, c, d⟩ := h
  unfold Near at a
  grind
theorem rt_lo {n : Int} {X v D C : Rat} (h : RtOk n X v D) (hC : C * C ≤ (rx n : Rat) + 1) : C ≤ X + 1 / 10000 := by
  obtain ⟨a, b, c, d⟩ := h
  unfold Near at a b
  apply Rat.not_lt.1
  intro l
  have l2 : v + 99 / 1000000 < C := by grind
  have m := Rat.mul_lt_mul_of_pos_left l2 (show 0 < C by grind)
  have m2 := Rat.mul_lt_mul_of_pos_right l2 (show 0 < v by grind)
  grind
theorem rt_hi {n : Int} {X v D C : Rat} (h : RtOk n X v D) (C0 : 0 ≤ C) (hC : (rx n : Rat) - 1 ≤ C * C) : X ≤ C + 1 / 10000 := by
  obtain ⟨a, b, c, d⟩ := h
  unfold Near at a b
  apply Rat.not_lt.1
  intro l
  have l2 : C + 99 / 1000000 < v := by grind
  have m := Rat.mul_lt_mul_of_pos_left l2 (show 0 < v by grind)
  have m2 := Rat.mul_le_mul_of_nonneg_left (Rat.le_of_lt l2) C0
  grind
end Go.Proofs.YtcopmgnfakjdhaaDoor
/- The law of the arc of a sine, plain. -/
namespace Go.Proofs.YtcopmgnfakjdhaaDoor
set_option linter.unusedSimpArgs false
set_option linter.unusedVariables false
theorem rx_neg (n : Int) : rx (-n) = rx n := by unfold rx; grind
theorem RtOk.neg {n : Int} {X v D : Rat} (h : RtOk n X v D) : RtOk (-n) X v D := ⟨h.near, by rw [rx_neg]; exact h.sq, h.big, h.v0⟩
theorem DirOk.neg {t Y X R : Rat} (h : DirOk t Y X R) : DirOk (-t) (-Y) X R := by
  obtain ⟨n, p, l, u⟩ := h
  refine ⟨?_, ?_, by grind, by grind⟩
  · rw [sn_neg, cs_neg]; unfold Near at *; grind
  · rw [sn_neg, cs_neg]; grind
theorem rx_rat (n : Int) : (rx n : Rat) = 1000000000000000000 - (n : Rat) * (n : Rat) := by
  have e : rx n = 1000000000000000000 - n * n := by unfold rx; grind
  rw [e, Rat.intCast_sub, Rat.intCast_mul]; rfl
/-- The sign of a direction to the right. -/
theorem dir_sign {t X R : Rat} {n : Int} (h : DirOk t (n : Rat) X R) (hn : n < 0) (hR : R ≤ 4000000000) (hX : 1 ≤ X) (ht : t ≤ 1571 / 1000) (ht2 : -(1571 / 1000) ≤ t) (hp : t ≤ 22 / 100) : t ≤ 0 := by
  have n0 := int_neg hn
  obtain ⟨nr, -, -, -⟩ := h
  apply Rat.not_lt.1
  intro l
  have s := sn_half (x := t) (by grind) (by grind)
  have c := cs_low (x := t) (by grind)
  have m1 := Rat.mul_nonneg (show 0 ≤ X by grind) (show 0 ≤ sn t by grind)
  have m2 := Rat.mul_le_mul_of_nonneg_left c (show 0 ≤ -(n : Rat) by grind)
  unfold Near at nr
  grind
theorem asin_fin {n : Int} {X v D t R be : Rat} (rt : RtOk n X v D) (dk : DirOk t (n : Rat) X R) (hR : R ≤ 4000000000) (hXR : -R ≤ X ∧ X ≤ R) (hnR : -R ≤ (n : Rat) ∧ (n : Rat) ≤ R) (hb : -8 ≤ be ∧ be ≤ 8) (h8 : t - be ≤ 8 / 5)
    (cross : (n : Rat) * cs be - X * sn be ≤ 12 / 100000) : t ≤ be + 1 / 1000000000000 := by
  have X1 := rt_range rt
  have rn := rx_rat n
  obtain ⟨a, b, c, d⟩ := rt
  have t8 : -8 ≤ t ∧ t ≤ 8 := by have := dk.lo; have := dk.hi; grind
  have R0 : 0 ≤ R := by grind
  have se := seen_of' (Y := (n : Rat)) (X := X) (near_weak dk.near (by grind)) (by have := dk.pos; grind) t8 hXR hnR hb
  have py := pyth t8
  have id : (X * cs t + (n : Rat) * sn t) * (X * cs t + (n : Rat) * sn t) + (X * sn t - (n : Rat) * cs t) * (X * sn t - (n : Rat) * cs t) = (X * X + (n : Rat) * (n : Rat)) * (cs t * cs t + sn t * sn t) := by grind
  have nr := dk.near
  have ps := dk.pos
  have e1 := rmul_bd (a := X * sn t - (n : Rat) * cs t) (b := X * sn t - (n : Rat) * cs t) (A := 1 / 100) (B := 1 / 100) (by unfold Near at nr; grind) (by unfold Near at nr; grind)
  -- the length
  have len : 999999999999990000 ≤ X * X + (n : Rat) * (n : Rat) := by
    unfold Near at a b
    have u : v - 3 / 10000000 ≤ X := by grind
    have m1 := Rat.mul_le_mul_of_nonneg_left u (show 0 ≤ X by grind)
    have m2 := Rat.mul_le_mul_of_nonneg_left u (show 0 ≤ v by grind)
    rw [rn] at b
    grind
  have m3 := rmul_bd (a := cs t * cs t + sn t * sn t - 1) (b := X * X + (n : Rat) * (n : Rat)) (A := ep) (B := 32000000000000000000) (by unfold Near at py; grind) (by
    have p1 := rmul_bd hXR hXR
    have p2 := rmul_bd hnR hnR
    have p3 := rmul_bd (a := R) (b := R) (A := 4000000000) (B := 4000000000) (by grind) (by grind)
    have q1 := sq_nonneg X; have q2 := sq_nonneg (n : Rat)
    grind)
  obtain ⟨r, hr⟩ : ∃ r, r = X * cs t + (n : Rat) * sn t := ⟨_, rfl⟩
  rw [← hr] at se id ps
  have rr : 999999999000000000 ≤ r * r := by unfold ep at m3; grind
  have rb : 990000000 ≤ r := by
    apply Rat.not_lt.1
    intro l
    have := Rat.mul_lt_mul_of_pos_left l (show 0 < r by
      apply Rat.not_le.1
      intro l2
      have z : r = 0 := by grind
      rw [z] at rr; grind)
    grind
  have ss := se.s
  apply Rat.not_lt.1
  intro l
  have h := sn_half (x := t - be) (by grind) (by grind)
  have m := Rat.mul_le_mul_of_nonneg_left h (show 0 ≤ r by grind)
  have m2 := Rat.mul_le_mul_of_nonneg_right rb (show 0 ≤ (t - be) / 2 by grind)
  unfold Near at ss
  grind
/-- The core: a number no greater than the sine of an angle has an arc no greater than the angle. -/
theorem asin_core {n : Int} {X v D t R be : Rat} (h1 : -1000000000 < n) (h2 : n < 1000000000) (hn : n ≠ 0) (rt : RtOk n X v D) (dk : DirOk t (n : Rat) X R) (hR : R ≤ 4000000000) (hXR : -R ≤ X ∧ X ≤ R) (hnR : -R ≤ (n : Rat) ∧ (n : Rat) ≤ R)
    (hpos : 0 < n → -(22 / 100) ≤ t ∧ t ≤ 1571 / 1000) (hneg : n < 0 → -(1571 / 1000) ≤ t ∧ t ≤ 22 / 100) (hb : -(2 * qq) ≤ be ∧ be ≤ 2 * qq) (hs : (n : Rat) ≤ 1000000000 * sn be + 2 / 10000000000) : t ≤ be + 1 / 1000000000000 := by
  have q := qq_b9
  have be8 : -8 ≤ be ∧ be ≤ 8 := by grind
  have X1 := rt_range rt
  have py := pyth be8
  have sb := sn_le be8; have cb := cs_le be8
  have c0 : -(2 / 1000000000000000000000000) ≤ cs be := by
    have := sn_upper (x := be + 2 * qq) (by grind) (by grind)
    have e := sn_quarter be8
    unfold Near eq1 at e
    grind
  have rn := rx_rat n
  have T2 : 1000000000 * cs be * (1000000000 * cs be) = 1000000000000000000 * (cs be * cs be) := by grind
  by_cases s0 : 0 ≤ sn be
  · by_cases n0 : n < 0
    · have h := dir_sign dk n0 hR (by grind) (by have := hneg n0; grind) (by have := hneg n0; grind) (by have := hneg n0; grind)
      -- the angle is not below 0
      have : -(1 / 1000000000000000) ≤ be := by
        apply Rat.not_lt.1
        intro l
        have := sn_half (x := -be) (by grind) (by grind)
        rw [sn_neg] at this
        grind
      grind
    · have np := int_pos (show 0 < n by omega)
      obtain ⟨t1, t2⟩ := hpos (by omega)
      -- C ≤ X + small
      have nn : (n : Rat) * (n : Rat) ≤ 1000000000000000000 * (sn be * sn be) + 42 / 100 := by
        have a := Rat.mul_le_mul_of_nonneg_left hs (show 0 ≤ (n : Rat) by grind)
        have b := Rat.mul_le_mul_of_nonneg_left hs (show 0 ≤ 1000000000 * sn be by grind)
        unfold ep at sb
        grind
      have C := rt_lo rt (C := 1000000000 * cs be) (by rw [T2, rn]; unfold Near ep at py; grind)
      have m1 := Rat.mul_le_mul_of_nonneg_left C s0
      have m2 := Rat.mul_le_mul_of_nonneg_left hs (show 0 ≤ cs be + 2 / 1000000000000000000000000 by grind)
      have cross : (n : Rat) * cs be - X * sn be ≤ 11 / 100000 := by
        unfold ep at sb cb
        have e : (n : Rat) * (2 / 1000000000000000000000000) ≥ 0 := by grind
        grind
      refine asin_fin rt dk hR hXR hnR be8 ?_ (by grind)
      have : -(1 / 1000000000000000) ≤ be := by
        apply Rat.not_lt.1
        intro l
        have := sn_half (x := -be) (by grind) (by grind)
        rw [sn_neg] at this
        grind
      grind
  · have b0 : be ≤ 0 := by
      apply Rat.not_lt.1
      intro l
      have := sn_half (x := be) (by grind) (by grind)
      grind
    have n0 : n < 0 := by
      have : n < 1 := by
        apply int_lt_of_rat
        rw [show ((1 : Int) : Rat) = 1 from rfl]
        grind
      omega
    have np := int_neg n0
    have h := dir_sign dk n0 hR (by grind) (by have := hneg n0; grind) (by have := hneg n0; grind) (by have := hneg n0; grind)
    have nn : 1000000000000000000 * (sn be * sn be) - 42 / 100 ≤ (n : Rat) * (n : Rat) := by
      have a := Rat.mul_le_mul_of_nonneg_left hs (show 0 ≤ -(n : Rat) by grind)
      have b := Rat.mul_le_mul_of_nonneg_left hs (show 0 ≤ -(1000000000 * sn be) by grind)
      have nb : -1000000000 ≤ (n : Rat) := by have := Rat.intCast_le_intCast.2 (Int.le_of_lt h1); exact this
      unfold ep at sb
      grind
    have xb := (rx_bd h1 h2).1
    have xr : (1999999999 : Rat) ≤ (rx n : Rat) := Rat.intCast_le_intCast.2 xb
    have cp : 0 ≤ cs be := by
      apply Rat.not_lt.1
      intro l
      have m := rmul_bd (a := cs be) (b := cs be) (A := 2 / 1000000000000000000000000) (B := 2 / 1000000000000000000000000) (by grind) (by grind)
      rw [rn] at xr
      unfold Near ep at py
      grind
    have C := rt_hi rt (C := 1000000000 * cs be) (by grind) (by rw [T2, rn]; unfold Near ep at py; grind)
    have m1 := Rat.mul_le_mul_of_nonneg_left C (show 0 ≤ -sn be by grind)
    have m2 := Rat.mul_le_mul_of_nonneg_left hs cp
    have cross : (n : Rat) * cs be - X * sn be ≤ 12 / 100000 := by
      unfold ep at sb cb
      clear py T2 nn rn xr xb
      grind
    exact asin_fin rt dk hR hXR hnR be8 (by grind) cross
end Go.Proofs.YtcopmgnfakjdhaaDoor
/- trig.arcSine's word, and its law. -/
namespace Go.Proofs.YtcopmgnfakjdhaaDoor
set_option linter.unusedSimpArgs false
set_option linter.unusedVariables false
/-- The arc's word before it is brought into units, and its exact direction. -/
def asW (n : Int) : Nat := if n = 1000000000 ∨ n = -1000000000 then at2W n 0 else if n = 0 then at2W 0 1000000000 else atW (fdiv (iw n) (rtW n))
def asV (n : Int) : Rat := if n = 1000000000 then aH else if n = -1000000000 then -aH else if n = 0 then 0 else qV (fv (fdiv (iw n) (rtW n)))
/-- The arc's word. -/
def asU (n : Int) : Nat := fmul (fdiv (asW n) 4618760256179416344) 4741671816366391296
structure AsIn (n : Int) : Prop where
  lo : -1000000000 < n
  hi : n < 1000000000
  ne : n ≠ 0
theorem AsIn.v {n : Int} (h : AsIn n) : asV n = qV (fv (fdiv (iw n) (rtW n))) ∧ asW n = atW (fdiv (iw n) (rtW n)) := by
  have a := h.lo; have b := h.hi; have c := h.ne
  unfold asV asW
  rw [if_neg (by omega), if_neg (by omega), if_neg c, if_neg (by omega), if_neg c]
  exact ⟨rfl, rfl⟩
theorem AsIn.dir {n : Int} (h : AsIn n) : ∃ v D, RtOk n (fv (rtW n)) v D ∧ DirOk (asV n) (n : Rat) (fv (rtW n)) (fv (rtW n) + (n.natAbs : Rat)) ∧ Near (fv (asW n)) (asV n) (2 / 100000000000000) ∧ (0 < n → -(22 / 100) ≤ asV n ∧ asV n ≤ 1571 / 1000) ∧ (n < 0 → -(1571 / 1000) ≤ asV n ∧ asV n ≤ 22 / 100) := by
  obtain ⟨e1, e2⟩ := h.v
  obtain ⟨-, f, v, D, rt⟩ := rt_ok h.lo h.hi
  have X1 := rt_range rt
  have hY : Sml n := ⟨by have := h.lo; omega, by have := h.hi; omega⟩
  have Q := quot_word hY h.ne f (by grind) (by grind)
  rw [e1, e2]
  refine ⟨v, D, rt, ?_⟩
  by_cases c : 0 < n
  · have y0 := int_pos c
    obtain ⟨p1, p2, p3⟩ := Q.pos c
    have A := (atW_pos Q.fin p1 (by grind)).1
    have eV : qV (fv (fdiv (iw n) (rtW n))) = satV (fv (fdiv (iw n) (rtW n))) := if_pos (by grind)
    obtain ⟨k1, k2, k3, k4⟩ := core_arc (a := fv (rtW n)) (b := (n : Rat)) (by grind) y0 (quot_mul (by grind) p3 (by grind))
    rw [eV, nA_pos c]
    exact ⟨(dir_pp (by grind) y0 k1 k2 k3 k4).1, ap_near A (by grind), fun _ => ⟨k3, k4⟩, fun l => absurd l (by omega)⟩
  · have c' : n < 0 := by have := h.ne; omega
    have y0 : 1 ≤ -(n : Rat) := by have := int_neg c'; grind
    obtain ⟨p1, p2, p3⟩ := Q.neg c'
    have A := (atW_neg Q.fin p1 (by grind)).1
    have eV : qV (fv (fdiv (iw n) (rtW n))) = -satV (-fv (fdiv (iw n) (rtW n))) := if_neg (by grind)
    obtain ⟨k1, k2, k3, k4⟩ := core_arc (a := fv (rtW n)) (b := -(n : Rat)) (by grind) y0 (quot_mul (by grind) p3 (by grind))
    have Dd := (dir_pp (by grind) y0 k1 k2 k3 k4).2.1
    rw [show - -(n : Rat) = (n : Rat) by grind] at Dd
    rw [eV, nA_neg c']
    exact ⟨Dd, ap_near A (by grind), fun l => absurd l (by omega), fun _ => ⟨by grind, by grind⟩⟩
theorem sn_signed {al : Int} (h : -500000000 ≤ al ∧ al ≤ 500000000) : Near (SN al) (sn (ka * (al : Rat))) (1 / 1000000000000000000000000) := by
  unfold SN
  by_cases c : 0 ≤ al
  · rw [show al % 1000000000 = al by omega, ang_ka]; exact near_refl _ (by grind)
  · rw [show al % 1000000000 = al + 1000000000 by omega, ang_add, ang_turn, ang_ka]
    have k := ka_bd
    have b1 : (-500000000 : Rat) ≤ (al : Rat) := Rat.intCast_le_intCast.2 h.1
    have b2 : (al : Rat) ≤ 0 := by rw [← zero_cast]; exact Rat.intCast_le_intCast.2 (by omega)
    have m1 := Rat.mul_le_mul_of_nonneg_left b1 (show 0 ≤ ka by grind)
    have m2 := Rat.mul_le_mul_of_nonneg_left b2 (show 0 ≤ ka by grind)
    exact near_weak (turn_any (x := ka * (al : Rat)) (by grind)).1 (by unfold eq1; grind)
theorem ka_quarter {al : Int} (h : -250000000 ≤ al ∧ al ≤ 250000000) : -(2 * qq) ≤ ka * (al : Rat) ∧ ka * (al : Rat) ≤ 2 * qq := by
  have k := ka_bd
  have b1 : (-250000000 : Rat) ≤ (al : Rat) := Rat.intCast_le_intCast.2 h.1
  have b2 : (al : Rat) ≤ 250000000 := Rat.intCast_le_intCast.2 h.2
  have m1 := Rat.mul_le_mul_of_nonneg_left b1 (show 0 ≤ ka by grind)
  have m2 := Rat.mul_le_mul_of_nonneg_left b2 (show 0 ≤ ka by grind)
  have e : ka * 250000000 = 2 * qq := by unfold ka; grind
  grind
theorem aH_near : Near aH (2 * qq) (1 / 1000000000000000) := by unfold Near qq kA kB kC aH; constructor <;> grind
/-- Only a quarter of a turn has the sine 1. -/
theorem top_only {be : Rat} (h : -(2 * qq) ≤ be) (h2 : be ≤ 2 * qq - ka) (hs : 1 - 1 / 1000000000000000000 ≤ sn be) : False := by
  have q := qq_b9; have k := ka_bd
  by_cases c : be < 0
  · have := sn_half (x := -be) (by grind) (by grind)
    rw [sn_neg] at this
    grind
  · have e := sn_quarter (x := -be) (by grind)
    rw [cs_neg, show -be + 2 * qq = 2 * qq - be by grind] at e
    have l := sn_half (x := 2 * qq - be) (by grind) (by grind)
    have py := pyth (x := be) (by grind)
    have c1 : ka / 2 - 1 / 1000000000000000000000 ≤ cs be := by unfold Near eq1 at e; grind
    have c2 : 31 / 10000000000 ≤ cs be := by grind
    have m1 := rmul_bd (a := sn be - 1) (b := sn be - 1) (A := 0) (B := 0)
    have u1 := Rat.mul_le_mul_of_nonneg_left hs (show 0 ≤ sn be by grind)
    have u2 := Rat.mul_le_mul_of_nonneg_left c2 (show 0 ≤ cs be by grind)
    unfold Near ep at py
    grind
theorem asin_lo {n al : Int} (h : -1000000000 ≤ n ∧ n ≤ 1000000000) (ha : -250000000 ≤ al ∧ al ≤ 250000000) (hs : (n : Rat) ≤ 1000000000 * SN al + 1 / 10000000000) : asV n ≤ ka * (al : Rat) + 1 / 1000000000000 := by
  have S := sn_signed (al := al) (by omega)
  have B := ka_quarter ha
  have q := qq_b9; have k := ka_bd; have aq := aH_near
  have hs2 : (n : Rat) ≤ 1000000000 * sn (ka * (al : Rat)) + 2 / 10000000000 := by unfold Near at S; grind
  by_cases c1 : n = 1000000000
  · subst c1
    have e : asV 1000000000 = aH := rfl
    rw [e]
    have e2 : ((1000000000 : Int) : Rat) = 1000000000 := rfl
    rw [e2] at hs2
    by_cases c : al = 250000000
    · subst c
      have e3 : ka * ((250000000 : Int) : Rat) = 2 * qq := by unfold ka; rw [show ((250000000 : Int) : Rat) = 250000000 from rfl]; grind
      rw [e3]
      unfold Near at aq; grind
    · exfalso
      have b2 : (al : Rat) ≤ 249999999 := show (al : Rat) ≤ ((249999999 : Int) : Rat) from Rat.intCast_le_intCast.2 (by omega)
      have m2 := Rat.mul_le_mul_of_nonneg_left b2 (show 0 ≤ ka by grind)
      have e3 : ka * 249999999 = 2 * qq - ka := by unfold ka; grind
      exact top_only B.1 (by grind) (by grind)
  · by_cases c2 : n = -1000000000
    · subst c2
      have e : asV (-1000000000) = -aH := rfl
      rw [e]
      unfold Near at aq; grind
    · by_cases c3 : n = 0
      · subst c3
        have e : asV 0 = 0 := rfl
        rw [e]
        rw [zero_cast] at hs2
        apply Rat.not_lt.1
        intro l
        have := sn_half (x := -(ka * (al : Rat))) (by grind) (by grind)
        rw [sn_neg] at this
        grind
      · have I : AsIn n := ⟨by omega, by omega, c3⟩
        obtain ⟨v, D, rt, dk, -, p, ng⟩ := I.dir
        have X1 := rt_range rt
        have nb : (n.natAbs : Rat) ≤ 1000000000 := by
          have : ((n.natAbs : Nat) : Rat) ≤ ((1000000000 : Nat) : Rat) := Rat.natCast_le_natCast.2 (by omega)
          exact this
        have n0 := nat_nonneg n.natAbs
        have nn : -(n.natAbs : Rat) ≤ (n : Rat) ∧ (n : Rat) ≤ (n.natAbs : Rat) := by
          by_cases c : 0 < n
          · rw [nA_pos c]; have := int_pos c; grind
          · rw [nA_neg (by omega)]; have := int_neg (show n < 0 by omega); grind
        exact asin_core I.lo I.hi c3 rt dk (by grind) (by grind) (by grind) p ng B hs2
theorem asin_hi {n al : Int} (h : -1000000000 ≤ n ∧ n ≤ 1000000000) (ha : -250000000 ≤ al ∧ al ≤ 250000000) (hs : 1000000000 * SN al - 1 / 10000000000 ≤ (n : Rat)) : ka * (al : Rat) - 1 / 1000000000000 ≤ asV n := by
  have S := sn_signed (al := al) (by omega)
  have B := ka_quarter ha
  have q := qq_b9; have k := ka_bd; have aq := aH_near
  have hs2 : 1000000000 * sn (ka * (al : Rat)) - 2 / 10000000000 ≤ (n : Rat) := by unfold Near at S; grind
  by_cases c1 : n = 1000000000
  · subst c1
    have e : asV 1000000000 = aH := rfl
    rw [e]
    unfold Near at aq; grind
  · by_cases c2 : n = -1000000000
    · subst c2
      have e : asV (-1000000000) = -aH := rfl
      rw [e]
      have e2 : ((-1000000000 : Int) : Rat) = -1000000000 := rfl
      rw [e2] at hs2
      by_cases c : al = -250000000
      · subst c
        have e3 : ka * ((-250000000 : Int) : Rat) = -(2 * qq) := by unfold ka; rw [show ((-250000000 : Int) : Rat) = -250000000 from rfl]; grind
        rw [e3]
        unfold Near at aq; grind
      · exfalso
        have b2 : (-249999999 : Rat) ≤ (al : Rat) := show ((-249999999 : Int) : Rat) ≤ (al : Rat) from Rat.intCast_le_intCast.2 (by omega)
        have m2 := Rat.mul_le_mul_of_nonneg_left b2 (show 0 ≤ ka by grind)
        have e3 : ka * -249999999 = -(2 * qq) + ka := by unfold ka; grind
        exact top_only (be := -(ka * (al : Rat))) (by grind) (by grind) (by rw [sn_neg]; grind)
    · by_cases c3 : n = 0
      · subst c3
        have e : asV 0 = 0 := rfl
        rw [e]
        rw [zero_cast] at hs2
        apply Rat.not_lt.1
        intro l
        have := sn_half (x := ka * (al : Rat)) (by grind) (by grind)
        grind
      · have I : AsIn n := ⟨by omega, by omega, c3⟩
        obtain ⟨v, D, rt, dk, -, p, ng⟩ := I.dir
        have X1 := rt_range rt
        have nb : (n.natAbs : Rat) ≤ 1000000000 := by
          have : ((n.natAbs : Nat) : Rat) ≤ ((1000000000 : Nat) : Rat) := Rat.natCast_le_natCast.2 (by omega)
          exact this
        have n0 := nat_nonneg n.natAbs
        have nn : -(n.natAbs : Rat) ≤ (n : Rat) ∧ (n : Rat) ≤ (n.natAbs : Rat) := by
          by_cases c : 0 < n
          · rw [nA_pos c]; have := int_pos c; grind
          · rw [nA_neg (by omega)]; have := int_neg (show n < 0 by omega); grind
        have dk2 := dk.neg
        rw [← Rat.intCast_neg] at dk2
        have r := asin_core (n := -n) (t := -asV n) (be := -(ka * (al : Rat))) (by omega) (by omega) (by omega) rt.neg dk2 (by grind) (by grind) (by rw [Rat.intCast_neg]; grind) (fun l => by have := ng (by omega); grind) (fun l => by have := p (by omega); grind) (by grind) (by rw [sn_neg, Rat.intCast_neg]; grind)
        grind
end Go.Proofs.YtcopmgnfakjdhaaDoor
/- trig.ArcSin, plain: the words and the bounds. -/
namespace Go.Proofs.YtcopmgnfakjdhaaDoor
set_option linter.unusedSimpArgs false
set_option linter.unusedVariables false
theorem as_near {n : Int} (h : -1000000000 ≤ n ∧ n ≤ 1000000000) : Fin (asW n) ∧ Near (fv (asW n)) (asV n) (2 / 100000000000000) ∧ -(158 / 100) ≤ asV n ∧ asV n ≤ 158 / 100 := by
  have bh := bd_aH
  by_cases c1 : n = 1000000000
  · subst c1
    have e : asV 1000000000 = aH := rfl
    have e2 : asW 1000000000 = 4609753056924675352 := rfl
    rw [e, e2, ap_word ap_aH]
    exact ⟨ap_aH.fin, near_refl _ (by grind), by grind, by grind⟩
  · by_cases c2 : n = -1000000000
    · subst c2
      have e : asV (-1000000000) = -aH := rfl
      have e2 : asW (-1000000000) = 13833125093779451160 := rfl
      have e1 : 13833125093779451160 = fneg 4609753056924675352 := by decide
      rw [e, e2, e1, (fneg_ok ap_aH.fin).2, ap_word ap_aH]
      exact ⟨(fneg_ok ap_aH.fin).1, near_refl _ (by grind), by grind, by grind⟩
    · by_cases c3 : n = 0
      · subst c3
        have e : asV 0 = 0 := rfl
        have e2 : asW 0 = 0 := rfl
        rw [e, e2, fin_zero.2]
        exact ⟨fin_zero.1, near_refl _ (by grind), by grind, by grind⟩
      · have I : AsIn n := ⟨by omega, by omega, c3⟩
        obtain ⟨v, D, rt, dk, nr, p, ng⟩ := I.dir
        have f : Fin (asW n) := by
          obtain ⟨-, f, -⟩ := rt_ok I.lo I.hi
          have X1 := rt_range rt
          have hY : Sml n := ⟨by omega, by omega⟩
          have Q := quot_word hY c3 f (by grind) (by grind)
          rw [I.v.2]
          by_cases c : 0 < n
          · have q := Q.pos c
            exact (atW_pos Q.fin q.1 (by grind)).1.fin
          · have q := Q.neg (by omega)
            exact (atW_neg Q.fin q.1 (by grind)).1.fin
        refine ⟨f, nr, ?_, ?_⟩
        · by_cases c : 0 < n
          · have := p c; grind
          · have := ng (by omega); grind
        · by_cases c : 0 < n
          · have := p c; grind
          · have := ng (by omega); grind
theorem asU_ok {n : Int} (h : -1000000000 ≤ n ∧ n ≤ 1000000000) : floatBits .quo .f64 (asW n) 4618760256179416344 = some (fdiv (asW n) 4618760256179416344) ∧ floatBits .mul .f64 (fdiv (asW n) 4618760256179416344) 4741671816366391296 = some (asU n) ∧ Ap (asU n) (fv (asW n) / a2Pi * 1000000000) (1 / 1000000) 1200000000 := by
  obtain ⟨f, nr, b1, b2⟩ := as_near h
  unfold Near at nr
  have p := bd_a2Pi
  have q := div_bd (a := fv (asW n)) (b := a2Pi) (B := 12 / 10) (by grind) (by grind) (by grind)
  obtain ⟨i1, a1⟩ := Ap.div (Ap.exact f (B := 7) (by grind) (by grind)) ap_a2Pi 6 (6 / 10000000000000000) (12 / 10) (12 / 10) (mid_of (by grind) (by grind)) (by grind) (by grind) (by grind) q (by grind) (by grind)
  obtain ⟨i2, a2⟩ := Ap.mul a1 ap_turn (1 / 1000000) 1200000000 1200000001 (mid_of (by grind) (by grind)) (by grind) (by grind) (by grind)
  exact ⟨i1, i2, a2⟩
theorem unit_rad {w u : Nat} {t : Rat} (a : Ap u (fv w / a2Pi * 1000000000) (1 / 1000000) 1200000000) (n : Near (fv w) t (2 / 100000000000000)) (l : -(337 / 100) ≤ t) (ub : t ≤ 337 / 100) : Near (fv u) (fv w / a2Pi * 1000000000) (1 / 1000000) ∧ Near (ka * fv u) t (5 / 100000000000000) := by
  have p := bd_a2Pi; have k := ka_bd; have pn := pi_near
  have al := a.lo; have au := a.hi
  refine ⟨⟨al, au⟩, ?_⟩
  clear a
  unfold Near at n pn ⊢
  generalize fv u = w' at *
  generalize fv w = v at *
  have e : v / a2Pi * a2Pi = v := by grind
  obtain ⟨g, hg⟩ : ∃ g, g = v / a2Pi := ⟨_, rfl⟩
  rw [← hg] at e al au
  have gb := div_bd (a := v) (b := a2Pi) (B := 6 / 10) (by grind) (by grind) (by grind)
  rw [← hg] at gb
  have m := rmul_bd (a := g) (b := 8 * qq - a2Pi) (A := 6 / 10) (B := 1 / 1000000000000000) gb (by grind)
  have m2 := rmul_bd (a := ka) (b := w' - g * 1000000000) (A := 62831856 / 10000000000000000) (B := 1 / 1000000) (by grind) (by grind)
  have e2 : ka * (g * 1000000000) = g * (8 * qq) := by unfold ka; grind
  clear hg gb p k
  have e3 : ka * (w' - g * 1000000000) = ka * w' - g * (8 * qq) := by rw [← e2]; grind
  rw [e3] at m2
  have e4 : g * (8 * qq - a2Pi) = g * (8 * qq) - v := by rw [← e]; grind
  rw [e4] at m
  clear e2 e3 e4 e
  generalize ka * w' = kw at *
  generalize g * (8 * qq) = gq at *
  constructor <;> grind
theorem asU_around {n : Int} (h : -1000000000 ≤ n ∧ n ≤ 1000000000) : AroundOk (asU n) (fv (asW n) / a2Pi * 1000000000) (13 / 1000000) := by
  have a := (asU_ok h).2.2
  have := around_near (a.weak Rat.le_refl (by grind)) (by grind)
  obtain ⟨s1, s2, s3, s4, s5, s6, s7, s8, s9, s10⟩ := this
  exact ⟨s1, s2, s3, s4, s5, s6, by grind, by grind, by grind, by grind⟩
/-- Bounds of the arc's interval. -/
def asLo (n : Int) : Int := max (aLo (asU n)) (-250000000)
def asHi (n : Int) : Int := min (aHi (asU n)) 250000000
theorem asLo_le {n al : Int} (h : -1000000000 ≤ n ∧ n ≤ 1000000000) (ha : -250000000 ≤ al ∧ al ≤ 250000000) (hs : (n : Rat) ≤ 1000000000 * SN al + 1 / 10000000000) : asLo n ≤ al := by
  obtain ⟨f, nr, b1, b2⟩ := as_near h
  obtain ⟨u1, u2⟩ := unit_rad (asU_ok h).2.2 nr (by grind) (by grind)
  have lw := asin_lo h ha hs
  have A := (asU_around h).lo1
  have k := ka_bd
  have ks : kSl = 1152921504606847 / 1152921504606846976 := rfl
  have key : fv (asU n) ≤ (al : Rat) + 5 / 10000 := by
    apply Rat.not_lt.1
    intro l
    have := Rat.mul_lt_mul_of_pos_left l (show 0 < ka by grind)
    unfold Near at u2
    clear u1 A ks nr
    generalize (al : Rat) = z at *
    grind
  have : aLo (asU n) ≤ al := by
    apply int_le_of_rat
    unfold Near at u1
    clear u2 lw k nr
    grind
  unfold asLo
  omega
theorem asHi_ge {n al : Int} (h : -1000000000 ≤ n ∧ n ≤ 1000000000) (ha : -250000000 ≤ al ∧ al ≤ 250000000) (hs : 1000000000 * SN al - 1 / 10000000000 ≤ (n : Rat)) : al ≤ asHi n := by
  obtain ⟨f, nr, b1, b2⟩ := as_near h
  obtain ⟨u1, u2⟩ := unit_rad (asU_ok h).2.2 nr (by grind) (by grind)
  have lw := asin_hi h ha hs
  have A := (asU_around h).hi1
  have k := ka_bd
  have ks : kSl = 1152921504606847 / 1152921504606846976 := rfl
  have key : (al : Rat) - 5 / 10000 ≤ fv (asU n) := by
    apply Rat.not_lt.1
    intro l
    have := Rat.mul_lt_mul_of_pos_left l (show 0 < ka by grind)
    unfold Near at u2
    clear u1 A ks nr
    generalize (al : Rat) = z at *
    grind
  have : al ≤ aHi (asU n) := by
    apply int_le_of_rat
    unfold Near at u1
    clear u2 lw k nr
    grind
  unfold asHi
  omega
end Go.Proofs.YtcopmgnfakjdhaaDoor
