/- Merged by wip/tools/pack.py out of XArcP, XArcs. -/
import Derived.Test.YtcopmgnfakjdhaaGreatDoorVMathW
import Derived.Test.YtcopmgnfakjdhaaGreatDoorVTrigA
import Derived.Test.YtcopmgnfakjdhaaGreatDoorVFloat
import Derived.Test.YtcopmgnfakjdhaaGreatDoorVSines
import Derived.Test.YtcopmgnfakjdhaaGreatDoorVIval
/- trig.Arc, plain: the words of directions, their differences, least and greatest. -/
namespace Go.Proofs.YtcopmgnfakjdhaaGreatDoor
open Go.RowKit
set_option linter.unusedSimpArgs false
set_option linter.unusedVariables false

theorem at2_fin {Y X : Int} (hY : Sml Y) (hX : Sml X) : Fin (at2W Y X) ∧ -7 ≤ fv (at2W Y X) ∧ fv (at2W Y X) ≤ 7 := by
  unfold at2W
  have p := bd_aPi; have h := bd_aH
  by_cases c1 : Y = 0
  · rw [if_pos c1]
    by_cases c2 : X < 0
    · rw [if_pos c2, ap_word ap_aPi]; exact ⟨ap_aPi.fin, by grind, by grind⟩
    · rw [if_neg c2, fin_zero.2]; exact ⟨fin_zero.1, by grind, by grind⟩
  · rw [if_neg c1]
    by_cases c2 : X = 0
    · rw [if_pos c2]
      by_cases c3 : Y < 0
      · rw [if_pos c3]
        have e : 13833125093779451160 = fneg 4609753056924675352 := by decide
        have f := fneg_ok ap_aH.fin
        rw [e, f.2, ap_word ap_aH]
        exact ⟨f.1, by grind, by grind⟩
      · rw [if_neg c3, ap_word ap_aH]; exact ⟨ap_aH.fin, by grind, by grind⟩
    · rw [if_neg c2]
      have Q := quot_is hY hX c1 c2
      have AA : ∃ v, Ap (atW (fdiv (iw Y) (iw X))) v (1 / 100000000000000) 3 := by
        by_cases c : (0 < Y ∧ 0 < X ∨ Y < 0 ∧ X < 0)
        · have := Q.pos c; exact ⟨_, (atW_pos Q.fin (by grind) (by grind)).1⟩
        · have := Q.neg (by omega); exact ⟨_, (atW_neg Q.fin (by grind) (by grind)).1⟩
      obtain ⟨v, A⟩ := AA
      have a1 := A.lo; have a2 := A.hi; have a3 := A.bl; have a4 := A.bh
      by_cases c3 : X < 0
      · rw [if_pos c3]
        by_cases c4 : Y < 0
        · rw [if_pos c4]
          obtain ⟨-, B⟩ := Ap.sub A ap_aPi (1 / 50000000000000) (69 / 10) (7) (mid_of (by grind) (by grind)) (by grind) (by grind) (by grind)
          have b1 := B.lo; have b2 := B.hi; have b3 := B.bl; have b4 := B.bh
          exact ⟨B.fin, by grind, by grind⟩
        · rw [if_neg c4]
          obtain ⟨-, B⟩ := Ap.add A ap_aPi (1 / 50000000000000) (69 / 10) (7) (mid_of (by grind) (by grind)) (by grind) (by grind) (by grind)
          have b1 := B.lo; have b2 := B.hi; have b3 := B.bl; have b4 := B.bh
          exact ⟨B.fin, by grind, by grind⟩
      · rw [if_neg c3]
        exact ⟨A.fin, by grind, by grind⟩
def dirW (Y X : Int) : Nat := fmul (fdiv (at2W Y X) 4618760256179416344) 4741671816366391296
theorem dir_ok {Y X : Int} (hY : Sml Y) (hX : Sml X) : floatBits .quo .f64 (at2W Y X) 4618760256179416344 = some (fdiv (at2W Y X) 4618760256179416344) ∧
    floatBits .mul .f64 (fdiv (at2W Y X) 4618760256179416344) 4741671816366391296 = some (dirW Y X) ∧ Ap (dirW Y X) (fv (at2W Y X) / a2Pi * 1000000000) (1 / 1000000) 1200000000 := by
  obtain ⟨f, b1, b2⟩ := at2_fin hY hX
  have p := bd_a2Pi
  have q := div_bd (a := fv (at2W Y X)) (b := a2Pi) (B := 12 / 10) (by grind) (by grind) (by grind)
  obtain ⟨i1, a1⟩ := Ap.div (Ap.exact f b1 b2) ap_a2Pi 6 (6 / 10000000000000000) (12 / 10) (12 / 10) (mid_of (by grind) (by grind)) (by grind) (by grind) (by grind) q (by grind) (by grind)
  obtain ⟨i2, a2⟩ := Ap.mul a1 ap_turn (1 / 1000000) 1200000000 1200000001 (mid_of (by grind) (by grind)) (by grind) (by grind) (by grind)
  exact ⟨i1, i2, a2⟩
theorem dir_fin {Y X : Int} (hY : Sml Y) (hX : Sml X) : Fin (dirW Y X) ∧ -1200000001 ≤ fv (dirW Y X) ∧ fv (dirW Y X) ≤ 1200000001 := by
  obtain ⟨-, -, a⟩ := dir_ok hY hX
  exact ⟨a.fin, by have := a.lo; have := a.bl; grind, by have := a.hi; have := a.bh; grind⟩
theorem fv_half : Fin 4737168216739020800 ∧ fv 4737168216739020800 = 500000000 := by
  obtain ⟨f, v⟩ := fv_lit (w := 4737168216739020800) (s := false) (m := 8388608000000000) (k := 24) (by decide)
  refine ⟨f, v.trans ?_⟩
  have e : ((2 ^ 24 : Nat) : Rat) = 16777216 := rfl
  have e2 : ((8388608000000000 : Nat) : Rat) = 8388608000000000 := rfl
  rw [sg_f, e, e2]; grind
theorem fv_half_neg : Fin 13960540253593796608 ∧ fv 13960540253593796608 = -500000000 := by
  obtain ⟨f, v⟩ := fv_lit (w := 13960540253593796608) (s := true) (m := 8388608000000000) (k := 24) (by decide)
  refine ⟨f, v.trans ?_⟩
  have e : ((2 ^ 24 : Nat) : Rat) = 16777216 := rfl
  have e2 : ((8388608000000000 : Nat) : Rat) = 8388608000000000 := rfl
  rw [sg_t, e, e2]; grind
def fminW (x y : Nat) : Nat := match Ieee.double.order x y with
  | some .lt => x
  | some .gt => y
  | some .eq => if (Ieee.double.read x).neg then x else y
  | none => 0
def fmaxW (x y : Nat) : Nat := match Ieee.double.order x y with
  | some .lt => y
  | some .gt => x
  | some .eq => if (Ieee.double.read x).neg then y else x
  | none => 0
theorem fmin_ok {x y : Nat} (hx : Fin x) (hy : Fin y) : Fin (fminW x y) ∧ fv (fminW x y) = min (fv x) (fv y) := by
  unfold fminW
  rcases leq_ord hx hy with ⟨o, h⟩ | ⟨o, h⟩ | ⟨o, h⟩
  · have o' : Ieee.double.order x y = some .lt := o
    rw [o']; exact ⟨hx, by grind⟩
  · have o' : Ieee.double.order x y = some .eq := o
    rw [o']; dsimp only
    split
    · exact ⟨hx, by grind⟩
    · exact ⟨hy, by grind⟩
  · have o' : Ieee.double.order x y = some .gt := o
    rw [o']; exact ⟨hy, by grind⟩
theorem fmax_ok {x y : Nat} (hx : Fin x) (hy : Fin y) : Fin (fmaxW x y) ∧ fv (fmaxW x y) = max (fv x) (fv y) := by
  unfold fmaxW
  rcases leq_ord hx hy with ⟨o, h⟩ | ⟨o, h⟩ | ⟨o, h⟩
  · have o' : Ieee.double.order x y = some .lt := o
    rw [o']; exact ⟨hy, by grind⟩
  · have o' : Ieee.double.order x y = some .eq := o
    rw [o']; dsimp only
    split
    · exact ⟨hy, by grind⟩
    · exact ⟨hx, by grind⟩
  · have o' : Ieee.double.order x y = some .gt := o
    rw [o']; exact ⟨hx, by grind⟩
theorem run_fmin {P : Program} (ts : Array TypeId) (t : TypeId) {x y : Nat} (hx : Fin x) (hy : Fin y) (w : World) : (Builtin.min_ ts t #[.float .f64 x, .float .f64 y]).run P w = .ok (.float .f64 (fminW x y)) w := by
  unfold fminW
  rcases leq_ord hx hy with ⟨o, h⟩ | ⟨o, h⟩ | ⟨o, h⟩
  · have o' : Ieee.double.order x y = some .lt := o
    rw [o']; simp [Builtin.min_, Builtin.min2, o]
  · have o' : Ieee.double.order x y = some .eq := o
    rw [o']; simp [Builtin.min_, Builtin.min2, o]; rfl
  · have o' : Ieee.double.order x y = some .gt := o
    rw [o']; simp [Builtin.min_, Builtin.min2, o]
theorem run_fmax {P : Program} (ts : Array TypeId) (t : TypeId) {x y : Nat} (hx : Fin x) (hy : Fin y) (w : World) : (Builtin.max_ ts t #[.float .f64 x, .float .f64 y]).run P w = .ok (.float .f64 (fmaxW x y)) w := by
  unfold fmaxW
  rcases leq_ord hx hy with ⟨o, h⟩ | ⟨o, h⟩ | ⟨o, h⟩
  · have o' : Ieee.double.order x y = some .lt := o
    rw [o']; simp [Builtin.max_, Builtin.max2, o]
  · have o' : Ieee.double.order x y = some .eq := o
    rw [o']; simp [Builtin.max_, Builtin.max2, o]; rfl
  · have o' : Ieee.double.order x y = some .gt := o
    rw [o']; simp [Builtin.max_, Builtin.max2, o]
def d0W (f : Nat) (Y X : Int) : Nat := fsub (dirW Y X) f
def d1W (d : Nat) : Nat := if 500000000 < fv d then fsub d 4741671816366391296 else d
def d2W (d : Nat) : Nat := if fv d < -500000000 then fadd d 4741671816366391296 else d
def arcD (f : Nat) (Y X : Int) : Nat := d2W (d1W (d0W f Y X))
structure Md (d : Nat) (B : Rat) : Prop where
  fin : Fin d
  lo : -B ≤ fv d
  hi : fv d ≤ B
theorem d0_ok {f : Nat} {Y X : Int} (hf : Md f 1200000001) (hY : Sml Y) (hX : Sml X) : floatBits .sub .f64 (dirW Y X) f = some (d0W f Y X) ∧ Md (d0W f Y X) 2400000003 := by
  obtain ⟨g, b1, b2⟩ := dir_fin hY hX
  obtain ⟨i, a⟩ := Ap.sub (Ap.exact g b1 b2) (Ap.exact hf.fin hf.lo hf.hi) 1 2400000002 2400000002 (mid_of (by grind) (by grind)) (by grind) (by grind) (by grind)
  unfold d0W
  exact ⟨i, a.fin, by have := a.lo; have := a.bl; grind, by have := a.hi; have := a.bh; grind⟩
theorem d1_ok {d : Nat} (hd : Md d 2400000003) : floatBits .sub .f64 d 4741671816366391296 = some (fsub d 4741671816366391296) ∧ Md (d1W d) 2400000003 := by
  obtain ⟨i, a⟩ := Ap.sub (Ap.exact hd.fin hd.lo hd.hi) ap_turn (1 / 2) 3400000003 3400000003 (mid_of (by grind) (by grind)) (by grind) (by grind) (by grind)
  refine ⟨i, ?_⟩
  unfold d1W
  by_cases c : 500000000 < fv d
  · rw [if_pos c]
    exact ⟨a.fin, by have := a.lo; grind, by have := a.hi; have := hd.hi; grind⟩
  · rw [if_neg c]; exact hd
theorem d2_ok {d : Nat} (hd : Md d 2400000003) : floatBits .add .f64 d 4741671816366391296 = some (fadd d 4741671816366391296) ∧ Md (d2W d) 2400000003 := by
  obtain ⟨i, a⟩ := Ap.add (Ap.exact hd.fin hd.lo hd.hi) ap_turn (1 / 2) 3400000003 3400000003 (mid_of (by grind) (by grind)) (by grind) (by grind) (by grind)
  refine ⟨i, ?_⟩
  unfold d2W
  by_cases c : fv d < -500000000
  · rw [if_pos c]
    exact ⟨a.fin, by have := a.lo; have := hd.lo; grind, by have := a.hi; grind⟩
  · rw [if_neg c]; exact hd
theorem d1_ord {d : Nat} (hd : Md d 2400000003) : (500000000 < fv d ∧ FloatKind.f64.format.order d 4737168216739020800 = some .gt ∧ d1W d = fsub d 4741671816366391296) ∨ ((FloatKind.f64.format.order d 4737168216739020800 == some .gt) = false ∧ d1W d = d) := by
  have o := leq_ord hd.fin fv_half.1
  rw [fv_half.2] at o
  unfold d1W
  rcases o with ⟨o, h⟩ | ⟨o, h⟩ | ⟨o, h⟩
  · exact .inr ⟨by rw [o]; rfl, if_neg (by grind)⟩
  · exact .inr ⟨by rw [o]; rfl, if_neg (by grind)⟩
  · exact .inl ⟨h, o, if_pos h⟩
theorem d2_ord {d : Nat} (hd : Md d 2400000003) : (fv d < -500000000 ∧ FloatKind.f64.format.order d 13960540253593796608 = some .lt ∧ d2W d = fadd d 4741671816366391296) ∨ ((FloatKind.f64.format.order d 13960540253593796608 == some .lt) = false ∧ d2W d = d) := by
  have o := leq_ord hd.fin fv_half_neg.1
  rw [fv_half_neg.2] at o
  unfold d2W
  rcases o with ⟨o, h⟩ | ⟨o, h⟩ | ⟨o, h⟩
  · exact .inl ⟨h, o, if_pos h⟩
  · exact .inr ⟨by rw [o]; rfl, if_neg (by grind)⟩
  · exact .inr ⟨by rw [o]; rfl, if_neg (by grind)⟩
def arcLs (f : Nat) (a b c d : Int) : Nat → Nat
  | 0 => 0
  | 1 => fminW 0 (arcD f a d)
  | 2 => fminW (fminW 0 (arcD f a d)) (arcD f b c)
  | _ => fminW (fminW (fminW 0 (arcD f a d)) (arcD f b c)) (arcD f b d)
def arcGr (f : Nat) (a b c d : Int) : Nat → Nat
  | 0 => 0
  | 1 => fmaxW 0 (arcD f a d)
  | 2 => fmaxW (fmaxW 0 (arcD f a d)) (arcD f b c)
  | _ => fmaxW (fmaxW (fmaxW 0 (arcD f a d)) (arcD f b c)) (arcD f b d)
theorem md_zero : Md 0 2400000003 := ⟨fin_zero.1, by rw [fin_zero.2]; grind, by rw [fin_zero.2]; grind⟩
theorem md_min {x y : Nat} {B : Rat} (hx : Md x B) (hy : Md y B) : Md (fminW x y) B := by
  obtain ⟨f, v⟩ := fmin_ok hx.fin hy.fin
  have a := hx.lo; have b := hx.hi; have c := hy.lo; have d := hy.hi
  exact ⟨f, by rw [v]; grind, by rw [v]; grind⟩
theorem md_max {x y : Nat} {B : Rat} (hx : Md x B) (hy : Md y B) : Md (fmaxW x y) B := by
  obtain ⟨f, v⟩ := fmax_ok hx.fin hy.fin
  have a := hx.lo; have b := hx.hi; have c := hy.lo; have d := hy.hi
  exact ⟨f, by rw [v]; grind, by rw [v]; grind⟩
theorem arcD_md {f : Nat} {Y X : Int} (hf : Md f 1200000001) (hY : Sml Y) (hX : Sml X) : Md (arcD f Y X) 2400000003 := (d2_ok (d1_ok (d0_ok hf hY hX).2).2).2
def arcLo (a b c d : Int) : Int := aLo (fadd (dirW a c) (arcLs (dirW a c) a b c d 3))
def arcHi (a b c d : Int) : Int := aHi (fadd (dirW a c) (arcGr (dirW a c) a b c d 3))
theorem arc_sum {f l : Nat} (hf : Md f 1200000001) (hl : Md l 2400000003) : floatBits .add .f64 f l = some (fadd f l) ∧ AroundOk (fadd f l) (fv f + fv l) (2 / 10000) := by
  obtain ⟨i, a⟩ := Ap.add (Ap.exact hf.fin hf.lo hf.hi) (Ap.exact hl.fin hl.lo hl.hi) (1 / 100000) 3600000004 3600000004 (mid_of (by grind) (by grind)) (by grind) (by grind) (by grind)
  have := around_near (a.weak Rat.le_refl (by grind)) (by grind)
  refine ⟨i, ?_⟩
  obtain ⟨s1, s2, s3, s4, s5, s6, s7, s8, s9, s10⟩ := this
  exact ⟨s1, s2, s3, s4, s5, s6, by grind, by grind, by grind, by grind⟩
end Go.Proofs.YtcopmgnfakjdhaaGreatDoor
/- Merged by wip/tools/pack.py out of XPoly, XArcN, XArcV, XDirV, XArcS. -/
/- Polynomials with whole coefficients, reckoned by the kernel; how near Go's arc of a small number is. Printed by wip/tools/gen-poly.py. -/
namespace Go.Proofs.YtcopmgnfakjdhaaGreatDoor
set_option linter.unusedSimpArgs false
set_option linter.unusedVariables false
def pv : List Int → Rat → Rat
  | [], _ => 0
  | c :: p, x => (c : Rat) + x * pv p x
def padd : List Int → List Int → List Int
  | [], q => q
  | a :: p, q => match q with
    | [] => a :: p
    | b :: q => (a + b) :: padd p q
def psc (k : Int) : List Int → List Int
  | [] => []
  | a :: p => (k * a) :: psc k p
def pmul : List Int → List Int → List Int
  | [], _ => []
  | a :: p, q => padd (psc a q) (0 :: pmul p q)
def ppow (p : List Int) : Nat → List Int
  | 0 => [1]
  | n + 1 => pmul p (ppow p n)
def pshift (i : Int) : List Int → List Int
  | [] => []
  | c :: p => padd [c] (padd (psc i (pshift i p)) (0 :: pshift i p))
def pab : List Int → Nat
  | [] => 0
  | c :: p => c.natAbs + pab p
theorem pv_padd (x : Rat) : ∀ p q, pv (padd p q) x = pv p x + pv q x
  | [], q => by unfold padd pv; grind
  | a :: p, [] => by unfold padd; dsimp only; rw [show pv [] x = 0 from rfl]; grind
  | a :: p, b :: q => by
    unfold padd; dsimp only
    rw [pv, pv_padd x p q, pv, pv, Rat.intCast_add]; grind
theorem pv_psc (x : Rat) (k : Int) : ∀ p, pv (psc k p) x = (k : Rat) * pv p x
  | [] => by unfold psc pv; grind
  | a :: p => by unfold psc; rw [pv, pv_psc x k p, pv, Rat.intCast_mul]; grind
theorem zero_cast : ((0 : Int) : Rat) = 0 := rfl
theorem pv_pmul (x : Rat) : ∀ p q, pv (pmul p q) x = pv p x * pv q x
  | [], q => by unfold pmul pv; grind
  | a :: p, q => by unfold pmul; rw [pv_padd, pv_psc, pv, pv_pmul x p q, pv, zero_cast]; grind
theorem pv_ppow (x : Rat) (p : List Int) : ∀ n, pv (ppow p n) x = pv p x ^ n
  | 0 => by unfold ppow; rw [pv, pv, show ((1 : Int) : Rat) = 1 from rfl, Rat.pow_zero]; grind
  | n + 1 => by unfold ppow; rw [pv_pmul, pv_ppow x p n, Rat.pow_succ]; grind
theorem pv_pshift (i : Int) (t : Rat) : ∀ p, pv (pshift i p) t = pv p ((i : Rat) + t)
  | [] => rfl
  | c :: p => by
    unfold pshift
    rw [pv_padd, pv_padd, pv_psc, pv, pv, pv, pv, pv_pshift i t p, zero_cast]; grind
theorem pv_bd {t : Rat} (h : -1 ≤ t ∧ t ≤ 1) : ∀ p, -(pab p : Rat) ≤ pv p t ∧ pv p t ≤ (pab p : Rat)
  | [] => by unfold pv pab; rw [show ((0 : Nat) : Rat) = 0 from rfl]; grind
  | c :: p => by
    have a := pv_bd h p
    have m := rmul_bd h a
    have n : -(c.natAbs : Rat) ≤ (c : Rat) ∧ (c : Rat) ≤ (c.natAbs : Rat) := by
      have h1 : -(c.natAbs : Int) ≤ c := by omega
      have h2 : c ≤ (c.natAbs : Int) := by omega
      replace h1 := Rat.intCast_le_intCast.2 h1
      replace h2 := Rat.intCast_le_intCast.2 h2
      rw [Rat.intCast_neg, Rat.intCast_natCast] at h1
      rw [Rat.intCast_natCast] at h2
      exact ⟨h1, h2⟩
    unfold pv pab
    rw [Rat.natCast_add]
    grind
def ppos : List Int → Bool
  | [] => true
  | c :: p => decide (0 ≤ c) && ppos p
theorem pv_mono {x y : Rat} (h0 : 0 ≤ x) (h : x ≤ y) : ∀ p, ppos p = true → 0 ≤ pv p x ∧ pv p x ≤ pv p y
  | [], _ => by unfold pv; grind
  | c :: p, hp => by
    unfold ppos at hp
    rw [Bool.and_eq_true, decide_eq_true_eq] at hp
    obtain ⟨a, b⟩ := pv_mono h0 h p hp.2
    have c0 : (0 : Rat) ≤ (c : Rat) := by rw [← zero_cast]; exact Rat.intCast_le_intCast.2 hp.1
    have m0 := Rat.mul_nonneg h0 a
    have m1 := Rat.mul_le_mul_of_nonneg_right h a
    have m2 := Rat.mul_le_mul_of_nonneg_left b (show 0 ≤ y by grind)
    unfold pv
    constructor <;> grind
def hom (M N : List Int) : List Int → List Int
  | [] => []
  | c :: cs => padd (psc c (ppow N cs.length)) (pmul M (hom M N cs))
def hv : List Int → Rat → Rat
  | [], _ => 0
  | c :: cs, v => (c : Rat) + v * hv cs v
theorem hom_hv {M N : List Int} {x v : Rat} (h : pv M x = v * pv N x) : ∀ cs, pv N x * pv (hom M N cs) x = pv N x ^ cs.length * hv cs v
  | [] => by unfold hom hv pv; grind
  | c :: cs => by
    unfold hom hv
    rw [pv_padd, pv_psc, pv_ppow, pv_pmul, h, List.length_cons, Rat.pow_succ]
    have := hom_hv h cs
    grind
def plA : List Int := [1881578501196212955804336128, 63550235312051344631660544, 731953563428999978287104, 3321094688537172246528, 5015743335801688064, 1125351728667244]
def plQ : List Int := [1881578501196212955804336128, 73350123339114920848392192, 1022111505566568284160000, 6088422031229797269504, 14329929378182586368, 9007199254740992]
def plM : List Int := 0 :: pmul plA plA
def plN : List Int := psc 64 (pmul plQ plQ)
def plS : List Int := [6402373705728000, -1067062284288000, 53353114214400, -1270312243200, 17643225600, -160392960, 1028160, -4896, 18]
def plC : List Int := [6402373705728000, -3201186852864000, 266765571072000, -8892185702400, 158789030400, -1764322560, 13366080, -73440, 306, -1]
def plG : List Int := padd (psc 64 (pmul (pmul plA plQ) (hom plM plN plS))) (psc (-1) (hom plM plN plC))
def pn : List Int → Int → Int
  | [], _ => 0
  | c :: p, i => c + i * pn p i
theorem pv_pn (i : Int) : ∀ p, pv p (i : Rat) = (pn p i : Rat)
  | [] => rfl
  | c :: p => by unfold pv pn; rw [pv_pn i p, Rat.intCast_add, Rat.intCast_mul]
def pieceOk (g n : List Int) (i : Int) : Bool := decide (pab (pshift i g) * 10000000000000000 ≤ 6402373705728000 * (pab [pn n (i - 1)]) ^ 9)
theorem pieces : (List.range 14).all (fun k => pieceOk plG plN (2 * (k : Int) + 1)) = true := by decide +kernel
theorem plN_pos : ppos plN = true := by decide +kernel
theorem cells2 {x : Rat} (h0 : 0 ≤ x) : ∀ n : Nat, x ≤ 2 * (n : Rat) + 2 → ∃ k : Nat, k ≤ n ∧ 2 * (k : Rat) ≤ x ∧ x ≤ 2 * (k : Rat) + 2
  | 0, h => ⟨0, Nat.le_refl _, by rw [show ((0 : Nat) : Rat) = 0 from rfl]; grind, h⟩
  | n + 1, h => by
    by_cases c : x ≤ 2 * (n : Rat) + 2
    · obtain ⟨k, h1, h2⟩ := cells2 h0 n c
      exact ⟨k, by omega, h2⟩
    · refine ⟨n + 1, Nat.le_refl _, ?_, h⟩
      rw [Rat.natCast_add, show ((1 : Nat) : Rat) = 1 from rfl]; grind
theorem pow9_le {a b : Rat} (ha : 0 ≤ a) (h : a ≤ b) : ∀ n : Nat, 0 ≤ a ^ n ∧ a ^ n ≤ b ^ n
  | 0 => by rw [Rat.pow_zero, Rat.pow_zero]; grind
  | n + 1 => by
    obtain ⟨p, q⟩ := pow9_le ha h n
    rw [Rat.pow_succ, Rat.pow_succ]
    have m1 := Rat.mul_nonneg p ha
    have m2 := Rat.mul_le_mul_of_nonneg_right q ha
    have m3 := Rat.mul_le_mul_of_nonneg_left h (show 0 ≤ b ^ n by grind)
    constructor <;> grind
theorem natpow_cast (a : Nat) : ∀ n : Nat, ((a ^ n : Nat) : Rat) = (a : Rat) ^ n
  | 0 => by rw [Nat.pow_zero, Rat.pow_zero]; rfl
  | n + 1 => by rw [Nat.pow_succ, Rat.natCast_mul, natpow_cast a n, Rat.pow_succ]
theorem plG_small {x : Rat} (h0 : 0 ≤ x) (h1 : x ≤ 28) : -(6402373705728000 * pv plN x ^ 9) ≤ pv plG x * 10000000000000000 ∧ pv plG x * 10000000000000000 ≤ 6402373705728000 * pv plN x ^ 9 := by
  obtain ⟨k, k1, k2, k3⟩ := cells2 h0 13 (by rw [show ((13 : Nat) : Rat) = 13 from rfl]; grind)
  have hp := List.all_eq_true.1 pieces k (List.mem_range.2 (by omega))
  unfold pieceOk at hp
  rw [decide_eq_true_eq] at hp
  have ei : ((2 * (k : Int) + 1 : Int) : Rat) = 2 * (k : Rat) + 1 := by rw [Rat.intCast_add, Rat.intCast_mul, Rat.intCast_natCast]; rfl
  have ej : ((2 * (k : Int) + 1 - 1 : Int) : Rat) = 2 * (k : Rat) := by rw [show 2 * (k : Int) + 1 - 1 = 2 * (k : Int) by omega, Rat.intCast_mul, Rat.intCast_natCast]; rfl
  have sh := pv_pshift (2 * (k : Int) + 1) (x - (2 * (k : Rat) + 1)) plG
  rw [ei, show 2 * (k : Rat) + 1 + (x - (2 * (k : Rat) + 1)) = x by grind] at sh
  have bd := pv_bd (t := x - (2 * (k : Rat) + 1)) (by grind) (pshift (2 * (k : Int) + 1) plG)
  rw [sh] at bd
  have k0 := nat_nonneg k
  have mo := pv_mono (x := 2 * (k : Rat)) (y := x) (by grind) k2 plN plN_pos
  have vn := pv_pn (2 * (k : Int) + 1 - 1) plN
  rw [ej] at vn
  rw [vn] at mo
  generalize pshift (2 * (k : Int) + 1) plG = sg at *
  generalize pn plN (2 * (k : Int) + 1 - 1) = nn at *
  generalize pv plN x = n at *
  generalize pv plG x = g at *
  have en : pab [nn] = nn.natAbs := rfl
  rw [en] at hp
  have nn0 : 0 ≤ nn := by
    have := mo.1
    rw [← zero_cast] at this
    exact Rat.intCast_le_intCast.1 this
  have ec : (nn.natAbs : Rat) = (nn : Rat) := by
    have : ((nn.natAbs : Int) : Rat) = (nn : Rat) := by rw [show (nn.natAbs : Int) = nn by omega]
    rw [← this, Rat.intCast_natCast]
  have hq := Rat.natCast_le_natCast.2 hp
  rw [Rat.natCast_mul, Rat.natCast_mul, natpow_cast, ec] at hq
  have pw := (pow9_le mo.1 mo.2 9).2
  have e16 : ((10000000000000000 : Nat) : Rat) = 10000000000000000 := rfl
  have eK : ((6402373705728000 : Nat) : Rat) = 6402373705728000 := rfl
  rw [e16, eK] at hq
  clear hp sh vn ec nn0 en mo
  generalize (nn : Rat) ^ 9 = N9 at *
  generalize n ^ 9 = M9 at *
  generalize (pab sg : Rat) = B at *
  constructor <;> grind
end Go.Proofs.YtcopmgnfakjdhaaGreatDoor
/- How near the program's arcs are: the sine of the arc of Z is Z times its cosine. -/
namespace Go.Proofs.YtcopmgnfakjdhaaGreatDoor
set_option linter.unusedSimpArgs false
set_option linter.unusedVariables false
def sc0 : Rat := 9671406556917033397649408
theorem plQ_val (u : Rat) : pv plQ (64 * u) = sc0 * QA u := by
  simp only [pv, plQ]
  unfold QA sc0 aQ0 aQ1 aQ2 aQ3 aQ4
  simp
  grind
theorem plA_val (u : Rat) : pv plA (64 * u) = sc0 * (QA u + u * PA u) := by
  simp only [pv, plA]
  unfold QA PA sc0 aQ0 aQ1 aQ2 aQ3 aQ4 aP0 aP1 aP2 aP3 aP4
  simp
  grind
theorem hvS (x : Rat) : 6402373705728000 * ss (sf x) 19 = x * hv plS (x * x) := by
  rw [tayS]
  simp only [hv, plS]
  simp
  grind
theorem hvC (x : Rat) : 6402373705728000 * ss (cf x) 20 = hv plC (x * x) := by
  rw [tayC]
  simp only [hv, plC]
  simp
  grind
theorem plM_val (x : Rat) : pv plM x = x * (pv plA x * pv plA x) := by
  unfold plM; rw [pv, pv_pmul, zero_cast]; grind
theorem plN_val (x : Rat) : pv plN x = 64 * (pv plQ x * pv plQ x) := by
  unfold plN; rw [pv_psc, pv_pmul]; rfl
theorem plG_val {x v w : Rat} (hq : 0 < pv plQ x) (hw : pv plA x = w * pv plQ x) (hv' : 64 * v = x * (w * w)) : pv plG x = pv plN x ^ 9 * (w * hv plS v - hv plC v) := by
  have n0 : 0 < pv plN x := by rw [plN_val]; have := Rat.mul_pos hq hq; grind
  have hm : pv plM x = v * pv plN x := by rw [plM_val, plN_val, hw]; grind
  have s := hom_hv hm plS
  have c := hom_hv hm plC
  have ls : plS.length = 9 := rfl
  have lc : plC.length = 10 := rfl
  rw [ls] at s
  rw [lc, Rat.pow_succ] at c
  have g : pv plG x = 64 * (pv plA x * pv plQ x * pv (hom plM plN plS) x) - pv (hom plM plN plC) x := by
    unfold plG
    rw [pv_padd, pv_psc, pv_psc, pv_pmul, pv_pmul, show ((64 : Int) : Rat) = 64 from rfl, show ((-1 : Int) : Rat) = -1 from rfl]; grind
  have e : pv plN x = 64 * (pv plQ x * pv plQ x) := plN_val x
  apply rat_cancel n0
  rw [g, hw]
  generalize pv (hom plM plN plS) x = S at *
  generalize pv (hom plM plN plC) x = C at *
  generalize hv plS v = s' at *
  generalize hv plC v = c' at *
  generalize pv plN x ^ 9 = N9 at *
  generalize pv plQ x = q at *
  generalize pv plN x = n at *
  have e1 : n * (64 * (w * q * q * S) - C) = w * n * (n * S) - n * C := by rw [e]; grind
  rw [e1, s, c]
  grind
theorem QA_pos {u : Rat} (h : 0 ≤ u) : 194 ≤ QA u := qa_lo h bd_aQ0.1 bd_aQ1.1 bd_aQ2.1 bd_aQ3.1 bd_aQ4.1
theorem XA_div (Z : Rat) : XA Z = Z * ((QA (Z * Z) + Z * Z * PA (Z * Z)) / QA (Z * Z)) := by
  have h := QA_pos (zsq Z)
  unfold XA
  generalize QA (Z * Z) = q at *
  have q0 : q ≠ 0 := by grind
  grind
theorem arc_lin {Z : Rat} (h : Z * Z ≤ 28 / 64) : Near (ss (sf (XA Z)) 19) (Z * ss (cf (XA Z)) 20) (1 / 10000000000000000) := by
  have u0 := zsq Z
  have q0 := QA_pos u0
  obtain ⟨w, hw⟩ : ∃ w, w = (QA (Z * Z) + Z * Z * PA (Z * Z)) / QA (Z * Z) := ⟨_, rfl⟩
  have e := XA_div Z
  rw [← hw] at e
  have hq : 0 < pv plQ (64 * (Z * Z)) := by rw [plQ_val]; unfold sc0; grind
  have ha : pv plA (64 * (Z * Z)) = w * pv plQ (64 * (Z * Z)) := by
    rw [plQ_val, plA_val, hw]
    generalize QA (Z * Z) = q at *
    have : q ≠ 0 := by grind
    grind
  have g := plG_val (v := Z * Z * (w * w)) hq ha (by grind)
  have sm := plG_small (x := 64 * (Z * Z)) (by grind) (by grind)
  have n0 : 0 < pv plN (64 * (Z * Z)) := by rw [plN_val]; have := Rat.mul_pos hq hq; grind
  have n9 : 0 < pv plN (64 * (Z * Z)) ^ 9 := Rat.pow_pos n0
  rw [g] at sm
  have s := hvS (XA Z)
  have c := hvC (XA Z)
  have ev : XA Z * XA Z = Z * Z * (w * w) := by rw [e]; grind
  rw [ev] at s c
  generalize pv plN (64 * (Z * Z)) ^ 9 = N9 at *
  generalize hv plS (Z * Z * (w * w)) = s' at *
  generalize hv plC (Z * Z * (w * w)) = c' at *
  generalize ss (sf (XA Z)) 19 = S at *
  generalize ss (cf (XA Z)) 20 = C at *
  rw [e] at s
  obtain ⟨d, hd⟩ : ∃ d, d = w * s' - c' := ⟨_, rfl⟩
  have l1 : -(6402373705728000 / 10000000000000000) ≤ d := by
    apply Rat.not_lt.1
    intro hl
    have := Rat.mul_lt_mul_of_pos_left hl n9
    rw [← hd] at sm
    grind
  have l2 : d ≤ 6402373705728000 / 10000000000000000 := by
    apply Rat.not_lt.1
    intro hl
    have := Rat.mul_lt_mul_of_pos_left hl n9
    rw [← hd] at sm
    grind
  have hZ : -1 ≤ Z ∧ Z ≤ 1 := by
    constructor
    · apply Rat.not_lt.1
      intro hl
      have := Rat.mul_pos (show 0 < -Z - 1 by grind) (show 0 < -Z by grind)
      grind
    · apply Rat.not_lt.1
      intro hl
      have := Rat.mul_pos (show 0 < Z - 1 by grind) (show 0 < Z by grind)
      grind
  have m := rmul_bd hZ (show -(6402373705728000 / 10000000000000000) ≤ d ∧ d ≤ 6402373705728000 / 10000000000000000 from ⟨l1, l2⟩)
  have key : 6402373705728000 * (S - Z * C) = Z * d := by rw [hd]; grind
  unfold Near
  clear sm s c g ev e ha hw l1 l2 n9 n0 hq
  grind
theorem gapA : ss (pw (443 / 500)) NN - ss (pw (443 / 500)) 19 ≤ 1 / 100000000000000000 ∧ ss (pw (443 / 500)) NN - ss (pw (443 / 500)) 20 ≤ 1 / 100000000000000000 ∧ ss (pw (443 / 500)) NN - ss (pw (443 / 500)) 2 ≤ 54 / 100 := by
  have e1 : ss (pw (443 / 500)) NN = (er (443 / 500) NN).1 := by rw [er_eq]
  have e2 : ss (pw (443 / 500)) 19 = (er (443 / 500) 19).1 := by rw [er_eq]
  have e3 : ss (pw (443 / 500)) 20 = (er (443 / 500) 20).1 := by rw [er_eq]
  have e4 : ss (pw (443 / 500)) 2 = (er (443 / 500) 2).1 := by rw [er_eq]
  rw [e1, e2, e3, e4]
  decide +kernel
structure ArcOf (θ Z : Rat) (e : Rat) : Prop where
  lo : -(443 / 500) ≤ θ
  hi : θ ≤ 443 / 500
  near : Near (sn θ) (Z * cs θ) e
  pos : 46 / 100 ≤ cs θ
theorem xa_arc {Z : Rat} (h1 : -(661 / 1000) ≤ Z) (h2 : Z ≤ 661 / 1000) : ArcOf (XA Z) Z (3 / 10000000000000000) := by
  have z := rmul_bd (show -(661 / 1000) ≤ Z ∧ Z ≤ 661 / 1000 from ⟨h1, h2⟩) (show -(661 / 1000) ≤ Z ∧ Z ≤ 661 / 1000 from ⟨h1, h2⟩)
  have a := arc_lin (Z := Z) (by grind)
  have b := XA_bd (Z := Z) (c := 661 / 1000) h1 h2 (by grind)
  have bb : -(443 / 500) ≤ XA Z ∧ XA Z ≤ 443 / 500 := by grind
  obtain ⟨g1, g2, g3⟩ := gapA
  have s := ss_gap' (sf_bd bb) (show 19 ≤ NN by decide)
  have c := ss_gap' (cf_bd bb) (show 20 ≤ NN by decide)
  have d := ss_gap' (cf_bd bb) (show 2 ≤ NN by decide)
  have e2 : ss (cf (XA Z)) 2 = 1 := by simp [ss, cf, cc, pw]; grind
  have m := rmul_bd (a := Z) (b := ss (cf (XA Z)) NN - ss (cf (XA Z)) 20) (A := 1) (B := 1 / 100000000000000000) (by grind) (by grind)
  refine ⟨bb.1, bb.2, ?_, ?_⟩
  · unfold Near at *
    unfold sn cs
    clear d e2 b z bb
    grind
  · unfold cs
    rw [e2] at d
    grind
end Go.Proofs.YtcopmgnfakjdhaaGreatDoor
/- The arcs of all positive quotients; directions. -/
namespace Go.Proofs.YtcopmgnfakjdhaaGreatDoor
set_option linter.unusedSimpArgs false
set_option linter.unusedVariables false
theorem near_mulR {x a e X : Rat} (h : Near x a e) (hX : 0 ≤ X) : Near (X * x) (X * a) (X * e) := by
  unfold Near at *
  have m1 := Rat.mul_le_mul_of_nonneg_left h.1 hX
  have m2 := Rat.mul_le_mul_of_nonneg_left h.2 hX
  grind
structure Arc1 (θ X : Rat) : Prop where
  near : Near (sn θ) (X * cs θ) (1 / 2000000000000000 * (1 + X))
  pos : (1 + X) / 10 ≤ cs θ + X * sn θ
  lo : -(22 / 100) ≤ θ
  hi : θ ≤ 1571 / 1000
theorem hq_cs : Near (cs (aH + aM)) 0 (1 / 1000000000000000000000000000000) := by rw [cs_ev]; unfold Near aH aM; decide +kernel
theorem hq_sn : Near (sn (aH + aM)) 1 (1 / 1000000000000000000000000000000) := by rw [sn_ev]; unfold Near aH aM; decide +kernel
theorem fq_cs : 7 / 10 ≤ cs (aF + aN) ∧ cs (aF + aN) ≤ 71 / 100 := by rw [cs_ev]; unfold aF aN; decide +kernel
theorem fq_sn : Near (sn (aF + aN)) (cs (aF + aN)) (1 / 1000000000000000000000000000000) := by rw [sn_ev, cs_ev]; unfold Near aF aN; decide +kernel
theorem arc_low {X : Rat} (h0 : 0 < X) (h1 : X ≤ 661 / 1000) : Arc1 (XA X) X := by
  obtain ⟨a1, a2, a3, a4⟩ := xa_arc (show -(661 / 1000) ≤ X by grind) h1
  have b := XA_bd (Z := X) (c := 661 / 1000) (by grind) h1 (by grind)
  have m := Rat.mul_le_mul_of_nonneg_left a4 (show 0 ≤ X by grind)
  unfold Near at a3
  have s0 : -(1 / 1000000000000000) ≤ sn (XA X) := by grind
  have m2 := Rat.mul_le_mul_of_nonneg_left s0 (show 0 ≤ X by grind)
  refine ⟨?_, ?_, ?_, ?_⟩
  · unfold Near; grind
  · grind
  · -- the arc is not far below 0
    have u0 := zsq X
    have e := XA_div X
    have q0 := QA_pos u0
    have p := pq_bd u0 (zsq_le (by grind) (by grind)) bd_aP0 bd_aP1 bd_aP2 bd_aP3 bd_aP4 q0
    have r := rmul_bd (a := X) (A := 661 / 1000) (by grind) p
    unfold XA PA
    unfold QA at *
    grind
  · grind
theorem arc_high {X : Rat} (h0 : 241 / 100 ≤ X) : Arc1 (aH - XA (1 / X) + aM) X := by
  obtain ⟨Z, hZ⟩ : ∃ Z, Z = 1 / X := ⟨_, rfl⟩
  have hz : X * Z = 1 := by rw [hZ]; grind
  have z0 : 0 ≤ Z := by
    apply Rat.not_lt.1
    intro h
    have := Rat.mul_pos (show 0 < X by grind) (show 0 < -Z by grind)
    grind
  have z1 : Z ≤ 415 / 1000 := by
    apply Rat.not_lt.1
    intro h
    have m1 := Rat.mul_lt_mul_of_pos_left h (show 0 < X by grind)
    grind
  rw [← hZ]
  obtain ⟨a1, a2, a3, a4⟩ := xa_arc (show -(661 / 1000) ≤ Z by grind) (by grind)
  have b := XA_bd (Z := Z) (c := 415 / 1000) (by grind) z1 (by grind)
  have e : aH - XA Z + aM = (aH + aM) + -XA Z := by grind
  have bH := bd_aH; have bM := bd_aM
  rw [e]
  have s := sn_add (x := aH + aM) (y := -XA Z) (by grind) (by grind)
  have c := cs_add (x := aH + aM) (y := -XA Z) (by grind) (by grind)
  have cl := cs_le (x := XA Z) (by grind)
  have sl := sn_le (x := XA Z) (by grind)
  rw [sn_neg, cs_neg] at s c
  have hc := hq_cs; have hs := hq_sn
  have p1 := rmul_bd (a := sn (aH + aM) - 1) (b := cs (XA Z)) (A := 1 / 1000000000000000000000000000000) (B := 2) (by unfold Near at hs; grind) (by unfold ep at cl; grind)
  have p2 := rmul_bd (a := cs (aH + aM)) (b := sn (XA Z)) (A := 1 / 1000000000000000000000000000000) (B := 2) (by unfold Near at hc; grind) (by unfold ep at sl; grind)
  have p3 := rmul_bd (a := sn (aH + aM) - 1) (b := sn (XA Z)) (A := 1 / 1000000000000000000000000000000) (B := 2) (by unfold Near at hs; grind) (by unfold ep at sl; grind)
  have p4 := rmul_bd (a := cs (aH + aM)) (b := cs (XA Z)) (A := 1 / 1000000000000000000000000000000) (B := 2) (by unfold Near at hc; grind) (by unfold ep at cl; grind)
  have S : Near (sn (aH + aM + -XA Z)) (cs (XA Z)) (2 / 1000000000000000000000000000) := by
    unfold Near ep at *
    clear hc hs cl sl a3 c
    grind
  have C : Near (cs (aH + aM + -XA Z)) (sn (XA Z)) (2 / 1000000000000000000000000000) := by
    unfold Near ep at *
    clear hc hs cl sl a3 s S
    grind
  clear p1 p2 p3 p4 hc hs s c cl sl
  have lo : -(1 / 1000000000000000) ≤ XA Z := by
    have u0 := zsq Z
    have q0 := QA_pos u0
    have pq := pq_bd u0 (zsq_le (by grind) (by grind)) bd_aP0 bd_aP1 bd_aP2 bd_aP3 bd_aP4 q0
    have m := Rat.mul_le_mul_of_nonneg_left pq.1 z0
    unfold XA PA
    unfold QA at *
    grind
  suffices h : Near (sn (aH + aM + -XA Z)) (X * cs (aH + aM + -XA Z)) (1 / 2000000000000000 * (1 + X)) ∧ (1 + X) / 10 ≤ cs (aH + aM + -XA Z) + X * sn (aH + aM + -XA Z) from ⟨h.1, h.2, by grind, by grind⟩
  clear lo b bH bM e
  have XC := near_mulR C (show 0 ≤ X by grind)
  have XS := near_mulR S (show 0 ≤ X by grind)
  have XN := near_mulR a3 (show 0 ≤ X by grind)
  rw [← Rat.mul_assoc, hz] at XN
  have X4 := Rat.mul_le_mul_of_nonneg_left a4 (show 0 ≤ X by grind)
  have Z4 := Rat.mul_le_mul_of_nonneg_left a4 z0
  generalize sn (aH + aM + -XA Z) = s at *
  generalize cs (aH + aM + -XA Z) = c at *
  generalize sn (XA Z) = p at *
  generalize cs (XA Z) = q at *
  refine ⟨?_, ?_⟩
  · unfold Near at *; clear Z4 X4 a3 hz; grind
  · unfold Near at *; grind
theorem arc_mid {X : Rat} (h0 : 65 / 100 ≤ X) (h1 : X ≤ 242 / 100) : Arc1 (aF + XA ((X - 1) / (X + 1)) + aN) X := by
  obtain ⟨Z, hZ⟩ : ∃ Z, Z = (X - 1) / (X + 1) := ⟨_, rfl⟩
  have x1 : X + 1 ≠ 0 := by grind
  have hz : (X + 1) * Z = X - 1 := by rw [hZ]; grind
  have z := div_bd (a := X - 1) (b := X + 1) (B := 416 / 1000) (by grind) (by grind) (by grind)
  rw [← hZ] at z ⊢
  have z2 : -(213 / 1000) ≤ Z := by
    apply Rat.not_lt.1
    intro h
    have := Rat.mul_lt_mul_of_pos_left h (show 0 < X + 1 by grind)
    grind
  obtain ⟨a1, a2, a3, a4⟩ := xa_arc (show -(661 / 1000) ≤ Z by grind) (by grind)
  have b := XA_bd (Z := Z) (c := 416 / 1000) (by grind) z.2 (by grind)
  have e : aF + XA Z + aN = (aF + aN) + XA Z := by grind
  have bH := bd_aF; have bM := bd_aN
  rw [e]
  have s := sn_add (x := aF + aN) (y := XA Z) (by grind) (by grind)
  have c := cs_add (x := aF + aN) (y := XA Z) (by grind) (by grind)
  have cl := cs_le (x := XA Z) (by grind)
  have sl := sn_le (x := XA Z) (by grind)
  have fc := fq_cs; have fs := fq_sn
  obtain ⟨d, hd⟩ : ∃ d, d = sn (aF + aN) - cs (aF + aN) := ⟨_, rfl⟩
  have dd : -(1 / 1000000000000000000000000000000) ≤ d ∧ d ≤ 1 / 1000000000000000000000000000000 := by unfold Near at fs; grind
  have es : sn (aF + aN) = cs (aF + aN) + d := by grind
  rw [es] at s c
  have p1 := rmul_bd (a := d) (b := cs (XA Z)) (B := 2) dd (by unfold ep at cl; grind)
  have p2 := rmul_bd (a := d) (b := sn (XA Z)) (B := 2) dd (by unfold ep at sl; grind)
  clear hd es fs dd
  obtain ⟨g, hg⟩ : ∃ g, g = sn (XA Z) - Z * cs (XA Z) := ⟨_, rfl⟩
  have gd : -(3 / 10000000000000000) ≤ g ∧ g ≤ 3 / 10000000000000000 := by unfold Near at a3; grind
  have eg : sn (XA Z) = Z * cs (XA Z) + g := by grind
  have S : Near (sn (aF + aN + XA Z)) (cs (aF + aN) * (cs (XA Z) * (1 + Z) + g)) (2 / 1000000000000000000000000000) := by
    unfold Near ep at *
    rw [eg] at s p2
    clear cl sl a3 c hg eg
    grind
  have C : Near (cs (aF + aN + XA Z)) (cs (aF + aN) * (cs (XA Z) * (1 - Z) - g)) (2 / 1000000000000000000000000000) := by
    unfold Near ep at *
    rw [eg] at c p2
    clear cl sl a3 s S hg eg
    grind
  suffices h : Near (sn (aF + aN + XA Z)) (X * cs (aF + aN + XA Z)) (1 / 2000000000000000 * (1 + X)) ∧ (1 + X) / 10 ≤ cs (aF + aN + XA Z) + X * sn (aF + aN + XA Z) from ⟨h.1, h.2, by grind, by grind⟩
  clear b bH bM e
  clear p1 p2 s c eg hg a3
  have XC := near_mulR C (show 0 ≤ X by grind)
  have XS := near_mulR S (show 0 ≤ X by grind)
  have cl2 : cs (XA Z) ≤ 2 := by unfold ep at cl; grind
  clear cl sl
  have m0 := Rat.mul_le_mul_of_nonneg_left a4 (show 0 ≤ 1 - Z by grind)
  have m1 := Rat.mul_le_mul_of_nonneg_left a4 (show 0 ≤ 1 + Z by grind)
  generalize sn (aF + aN + XA Z) = s at *
  generalize cs (aF + aN + XA Z) = c at *
  generalize cs (XA Z) = q at *
  generalize cs (aF + aN) = f at *
  have n1 := rmul_bd (a := f) (b := g) (A := 71 / 100) (by grind) gd
  have k1 : 26 / 100 ≤ q * (1 - Z) - g := by grind
  have k2 : 36 / 100 ≤ q * (1 + Z) + g := by grind
  have f1 := Rat.mul_le_mul_of_nonneg_left k1 (show 0 ≤ f by grind)
  have f2 := Rat.mul_le_mul_of_nonneg_left k2 (show 0 ≤ f by grind)
  have key : f * (q * (1 + Z) + g) - X * (f * (q * (1 - Z) - g)) = f * g * (1 + X) := by
    have : q * (1 + Z) - X * (q * (1 - Z)) = 0 := by grind
    grind
  have n2 := Rat.mul_le_mul_of_nonneg_left n1.1 (show 0 ≤ 1 + X by grind)
  have n3 := Rat.mul_le_mul_of_nonneg_left n1.2 (show 0 ≤ 1 + X by grind)
  have f3 : 252 / 1000 ≤ f * (q * (1 + Z) + g) := by grind
  have f4 : 182 / 1000 ≤ f * (q * (1 - Z) - g) := by grind
  have X2 := Rat.mul_le_mul_of_nonneg_left f3 (show 0 ≤ X by grind)
  generalize f * (q * (1 + Z) + g) = u at *
  generalize f * (q * (1 - Z) - g) = v at *
  generalize f * g = fg at *
  refine ⟨?_, ?_⟩
  · unfold Near at *; clear m0 m1 k1 k2 f1 f2 X2 n1 gd; grind
  · unfold Near at *; clear m0 m1 k1 k2 n1 n2 n3 gd key f1 f2 hZ hz x1 z z2 a1 a2 a4; grind
theorem sat_arc {X : Rat} (h0 : 0 < X) : Arc1 (satV X) X := by
  have bT := bd_aT; have bL := bd_aL
  unfold satV
  by_cases c1 : X ≤ aL
  · rw [if_pos c1]; exact arc_low h0 (by grind)
  · rw [if_neg c1]
    by_cases c2 : aT < X
    · rw [if_pos c2]; exact arc_high (by grind)
    · rw [if_neg c2]; exact arc_mid (by grind) (by grind)
end Go.Proofs.YtcopmgnfakjdhaaGreatDoor
/- Directions of pairs of whole numbers: how near they are. -/
namespace Go.Proofs.YtcopmgnfakjdhaaGreatDoor
set_option linter.unusedSimpArgs false
set_option linter.unusedVariables false
theorem core_arc {a b Q : Rat} (ha : 1 ≤ a) (hb : 1 ≤ b) (hQ : Near (a * Q) b (b / 2251799813685248)) : Near (a * sn (satV Q)) (b * cs (satV Q)) (1 / 1000000000000000 * (a + b)) ∧ (a + b) / 11 ≤ a * cs (satV Q) + b * sn (satV Q) ∧ -(22 / 100) ≤ satV Q ∧ satV Q ≤ 1571 / 1000 := by
  unfold Near at hQ
  have q0 : 0 < Q := by
    apply Rat.not_le.1
    intro h
    have := Rat.mul_le_mul_of_nonneg_left h (show 0 ≤ a by grind)
    grind
  obtain ⟨n, p, l, u⟩ := sat_arc q0
  have sb := sn_le (x := satV Q) (by grind)
  have cb := cs_le (x := satV Q) (by grind)
  generalize satV Q = t at *
  unfold ep at sb cb
  have a0 : 0 ≤ a := by grind
  have n1 := near_mulR n a0
  have p1 := Rat.mul_le_mul_of_nonneg_left p a0
  have m1 := rmul_bd (a := a * Q - b) (b := cs t) (A := b / 2251799813685248) (B := 101 / 100) (by grind) (by grind)
  have m2 := rmul_bd (a := a * Q - b) (b := sn t) (A := b / 2251799813685248) (B := 101 / 100) (by grind) (by grind)
  suffices h : Near (a * sn t) (b * cs t) (1 / 1000000000000000 * (a + b)) ∧ (a + b) / 11 ≤ a * cs t + b * sn t from ⟨h.1, h.2, l, u⟩
  clear l u sb cb n p
  generalize sn t = s at *
  generalize cs t = c at *
  unfold Near at *
  have e1 : a * (Q * c) = a * Q * c := by grind
  have e2 : a * (c + Q * s) = a * c + a * Q * s := by grind
  have e3 : a * (1 / 2000000000000000 * (1 + Q)) = 1 / 2000000000000000 * (a + a * Q) := by grind
  have e4 : a * ((1 + Q) / 10) = (a + a * Q) / 10 := by grind
  have e5 : (a * Q - b) * c = a * Q * c - b * c := by grind
  have e6 : (a * Q - b) * s = a * Q * s - b * s := by grind
  rw [e1, e3] at n1
  rw [e2, e4] at p1
  rw [e5] at m1
  rw [e6] at m2
  clear e1 e2 e3 e4 e5 e6
  generalize a * Q * c = x1 at *
  generalize a * Q * s = x2 at *
  generalize a * Q = x3 at *
  refine ⟨⟨?_, ?_⟩, ?_⟩
  · clear p1 m2; grind
  · clear p1 m2; grind
  · clear n1 m1; grind
theorem pi_sn : Near (sn aPi) 0 (2 / 10000000000000000) := by rw [sn_ev]; unfold Near aPi; decide +kernel
theorem pi_cs : Near (cs aPi) (-1) (1 / 1000000000000000000000000) := by rw [cs_ev]; unfold Near aPi; decide +kernel
theorem lin_a {S s u v : Rat} (h : Near S (u + v) ep) (h1 : -(101 / 100 * (1 / 1000000000000000000000000)) ≤ u + s ∧ u + s ≤ 101 / 100 * (1 / 1000000000000000000000000)) (h2 : -(101 / 100 * (2 / 10000000000000000)) ≤ v ∧ v ≤ 101 / 100 * (2 / 10000000000000000)) : Near S (-s) (3 / 10000000000000000) := by
  unfold Near ep at *
  constructor <;> grind
theorem lin_b {S s u v : Rat} (h : Near S (u - v) ep) (h1 : -(101 / 100 * (1 / 1000000000000000000000000)) ≤ u + s ∧ u + s ≤ 101 / 100 * (1 / 1000000000000000000000000)) (h2 : -(101 / 100 * (2 / 10000000000000000)) ≤ v ∧ v ≤ 101 / 100 * (2 / 10000000000000000)) : Near S (-s) (3 / 10000000000000000) := by
  unfold Near ep at *
  constructor <;> grind
theorem pi_shift {t : Rat} (h : -2 ≤ t ∧ t ≤ 2) : (Near (sn (t + aPi)) (-sn t) (3 / 10000000000000000) ∧ Near (cs (t + aPi)) (-cs t) (3 / 10000000000000000)) ∧ (Near (sn (t - aPi)) (-sn t) (3 / 10000000000000000) ∧ Near (cs (t - aPi)) (-cs t) (3 / 10000000000000000)) := by
  have b := bd_aPi
  have s1 := sn_add (x := t) (y := aPi) (by grind) (by grind)
  have c1 := cs_add (x := t) (y := aPi) (by grind) (by grind)
  have s2 := sn_add (x := t) (y := -aPi) (by grind) (by grind)
  have c2 := cs_add (x := t) (y := -aPi) (by grind) (by grind)
  rw [sn_neg, cs_neg, show t + -aPi = t - aPi by grind] at s2 c2
  have sb := sn_le (x := t) (by grind)
  have cb := cs_le (x := t) (by grind)
  have p := pi_sn; have q := pi_cs
  have m1 := rmul_bd (a := sn t) (b := cs aPi + 1) (A := 101 / 100) (B := 1 / 1000000000000000000000000) (by unfold ep at sb; grind) (by unfold Near at q; grind)
  have m2 := rmul_bd (a := cs t) (b := sn aPi) (A := 101 / 100) (B := 2 / 10000000000000000) (by unfold ep at cb; grind) (by unfold Near at p; grind)
  have m3 := rmul_bd (a := cs t) (b := cs aPi + 1) (A := 101 / 100) (B := 1 / 1000000000000000000000000) (by unfold ep at cb; grind) (by unfold Near at q; grind)
  have m4 := rmul_bd (a := sn t) (b := sn aPi) (A := 101 / 100) (B := 2 / 10000000000000000) (by unfold ep at sb; grind) (by unfold Near at p; grind)
  clear sb cb p q b
  have m1' : -(101 / 100 * (1 / 1000000000000000000000000)) ≤ sn t * cs aPi + sn t ∧ sn t * cs aPi + sn t ≤ 101 / 100 * (1 / 1000000000000000000000000) := by rw [show sn t * cs aPi + sn t = sn t * (cs aPi + 1) by grind]; exact m1
  have m3' : -(101 / 100 * (1 / 1000000000000000000000000)) ≤ cs t * cs aPi + cs t ∧ cs t * cs aPi + cs t ≤ 101 / 100 * (1 / 1000000000000000000000000) := by rw [show cs t * cs aPi + cs t = cs t * (cs aPi + 1) by grind]; exact m3
  rw [show sn t * cs aPi + cs t * -sn aPi = sn t * cs aPi - cs t * sn aPi by grind] at s2
  rw [show cs t * cs aPi - sn t * -sn aPi = cs t * cs aPi + sn t * sn aPi by grind] at c2
  clear m1 m3 h
  generalize sn t * cs aPi = x1 at *
  generalize cs t * sn aPi = x2 at *
  generalize cs t * cs aPi = x3 at *
  generalize sn t * sn aPi = x4 at *
  generalize sn t = s at *
  generalize cs t = c at *
  exact ⟨⟨lin_a s1 m1' m2, lin_b c1 m3' m4⟩, lin_b s2 m1' m2, lin_a c2 m3' m4⟩
structure DirOk (t Y X R : Rat) : Prop where
  near : Near (X * sn t) (Y * cs t) (2 / 1000000000000000 * R)
  pos : R / 20 ≤ X * cs t + Y * sn t
  lo : -(337 / 100) ≤ t
  hi : t ≤ 337 / 100
def qV (q : Rat) : Rat := if 0 < q then satV q else -satV (-q)
def dirV (Y X : Int) : Rat :=
  if Y = 0 then (if X < 0 then aPi else 0)
  else if X = 0 then (if Y < 0 then -aH else aH)
  else if X < 0 then (if Y < 0 then qV (fv (fdiv (iw Y) (iw X))) - aPi else qV (fv (fdiv (iw Y) (iw X))) + aPi)
  else qV (fv (fdiv (iw Y) (iw X)))
theorem dir_pp {a b t : Rat} (ha : 1 ≤ a) (hb : 1 ≤ b) (n : Near (a * sn t) (b * cs t) (1 / 1000000000000000 * (a + b))) (p : (a + b) / 11 ≤ a * cs t + b * sn t) (l : -(22 / 100) ≤ t) (u : t ≤ 1571 / 1000) :
    DirOk t b a (a + b) ∧ DirOk (-t) (-b) a (a + b) ∧ DirOk (-t + aPi) b (-a) (a + b) ∧ DirOk (t - aPi) (-b) (-a) (a + b) := by
  have bp := bd_aPi
  obtain ⟨⟨s1, c1⟩, -⟩ := pi_shift (t := -t) (by grind)
  obtain ⟨-, s2, c2⟩ := pi_shift (t := t) (by grind)
  rw [sn_neg] at s1
  rw [cs_neg] at c1
  have as1 := near_mulR s1 (show 0 ≤ a by grind)
  have bc1 := near_mulR c1 (show 0 ≤ b by grind)
  have bs1 := near_mulR s1 (show 0 ≤ b by grind)
  have ac1 := near_mulR c1 (show 0 ≤ a by grind)
  have as2 := near_mulR s2 (show 0 ≤ a by grind)
  have bc2 := near_mulR c2 (show 0 ≤ b by grind)
  have bs2 := near_mulR s2 (show 0 ≤ b by grind)
  have ac2 := near_mulR c2 (show 0 ≤ a by grind)
  clear s1 c1 s2 c2
  unfold Near at *
  refine ⟨⟨?_, ?_, by grind, by grind⟩, ⟨?_, ?_, by grind, by grind⟩, ⟨?_, ?_, by grind, by grind⟩, ⟨?_, ?_, by grind, by grind⟩⟩
  · unfold Near; clear as1 bc1 bs1 ac1 as2 bc2 bs2 ac2; grind
  · clear as1 bc1 bs1 ac1 as2 bc2 bs2 ac2; grind
  · rw [sn_neg, cs_neg]; unfold Near; clear as1 bc1 bs1 ac1 as2 bc2 bs2 ac2; grind
  · rw [sn_neg, cs_neg]; clear as1 bc1 bs1 ac1 as2 bc2 bs2 ac2; grind
  · unfold Near; clear as2 bc2 bs2 ac2 bs1 ac1; grind
  · clear as2 bc2 bs2 ac2 as1 bc1; grind
  · unfold Near; clear as1 bc1 bs1 ac1 bs2 ac2; grind
  · clear as1 bc1 bs1 ac1 as2 bc2; grind
def szR (Y X : Int) : Rat := (X.natAbs : Rat) + (Y.natAbs : Rat)
theorem nA_pos {n : Int} (h : 0 < n) : (n.natAbs : Rat) = (n : Rat) := by
  have : ((n.natAbs : Int) : Rat) = (n : Rat) := by rw [show (n.natAbs : Int) = n by omega]
  rw [← this, Rat.intCast_natCast]
theorem nA_neg {n : Int} (h : n < 0) : (n.natAbs : Rat) = -(n : Rat) := by
  have : ((n.natAbs : Int) : Rat) = ((-n : Int) : Rat) := by rw [show (n.natAbs : Int) = -n by omega]
  rw [Rat.intCast_neg] at this
  rw [← this, Rat.intCast_natCast]
theorem quot_mul {Y X q : Rat} (hX : X ≠ 0) (h : Near q (Y / X) (Y / X / 2251799813685248)) (hx : 0 < X) : Near (X * q) Y (Y / 2251799813685248) := by
  have m := near_mulR h (Rat.le_of_lt hx)
  have e1 : X * (Y / X) = Y := by grind
  have e2 : X * (Y / X / 2251799813685248) = Y / 2251799813685248 := by grind
  rw [e1, e2] at m
  exact m
theorem ap_near {w : Nat} {v e B d : Rat} (A : Ap w v e B) (h : e ≤ d) : Near (fv w) v d := near_weak ⟨A.lo, A.hi⟩ h
theorem dq1 {Y X : Int} (hY : Sml Y) (hX : Sml X) (sy : 0 < Y) (sx : 0 < X) : DirOk (qV (fv (fdiv (iw Y) (iw X)))) (Y : Rat) (X : Rat) (szR Y X) ∧ Near (fv (atW (fdiv (iw Y) (iw X)))) (qV (fv (fdiv (iw Y) (iw X)))) (2 / 100000000000000) := by
  have x0 := int_pos sx; have y0 := int_pos sy
  have Q := quot_is hY hX (by omega) (by omega)
  obtain ⟨p1, p2, p3⟩ := Q.pos (.inl ⟨sy, sx⟩)
  have A := (atW_pos Q.fin (by grind) (by grind)).1
  have e : szR Y X = (X : Rat) + (Y : Rat) := by unfold szR; rw [nA_pos sx, nA_pos sy]
  have eV : qV (fv (fdiv (iw Y) (iw X))) = satV (fv (fdiv (iw Y) (iw X))) := if_pos (by grind)
  obtain ⟨k1, k2, k3, k4⟩ := core_arc (a := (X : Rat)) (b := (Y : Rat)) x0 y0 (quot_mul (by grind) p3 (by grind))
  rw [eV, e]
  exact ⟨(dir_pp x0 y0 k1 k2 k3 k4).1, ap_near A (by grind)⟩
theorem dq4 {Y X : Int} (hY : Sml Y) (hX : Sml X) (sy : Y < 0) (sx : 0 < X) : DirOk (qV (fv (fdiv (iw Y) (iw X)))) (Y : Rat) (X : Rat) (szR Y X) ∧ Near (fv (atW (fdiv (iw Y) (iw X)))) (qV (fv (fdiv (iw Y) (iw X)))) (2 / 100000000000000) := by
  have x0 := int_pos sx
  have y0 : 1 ≤ -(Y : Rat) := by have := int_neg sy; grind
  have Q := quot_is hY hX (by omega) (by omega)
  obtain ⟨p1, p2, p3⟩ := Q.neg (.inr ⟨sy, sx⟩)
  have A := (atW_neg Q.fin (by grind) (by grind)).1
  have e : szR Y X = (X : Rat) + -(Y : Rat) := by unfold szR; rw [nA_pos sx, nA_neg sy]
  have eV : qV (fv (fdiv (iw Y) (iw X))) = -satV (-fv (fdiv (iw Y) (iw X))) := if_neg (by grind)
  have eq : (Y : Rat) / (X : Rat) = -((-(Y : Rat)) / (X : Rat)) := by grind
  rw [eq] at p3
  have p4 : Near (-fv (fdiv (iw Y) (iw X))) ((-(Y : Rat)) / (X : Rat)) ((-(Y : Rat)) / (X : Rat) / 2251799813685248) := by unfold Near at *; clear p1 p2 A; grind
  obtain ⟨k1, k2, k3, k4⟩ := core_arc (a := (X : Rat)) (b := -(Y : Rat)) x0 y0 (quot_mul (by grind) p4 (by grind))
  have D := (dir_pp x0 y0 k1 k2 k3 k4).2.1
  rw [show - -(Y : Rat) = (Y : Rat) by grind] at D
  rw [eV, e]
  exact ⟨D, ap_near A (by grind)⟩
theorem dq2 {Y X : Int} (hY : Sml Y) (hX : Sml X) (sy : 0 < Y) (sx : X < 0) : DirOk (qV (fv (fdiv (iw Y) (iw X))) + aPi) (Y : Rat) (X : Rat) (szR Y X) ∧ Near (fv (fadd (atW (fdiv (iw Y) (iw X))) 4614256656552045848)) (qV (fv (fdiv (iw Y) (iw X))) + aPi) (2 / 100000000000000) := by
  have y0 := int_pos sy
  have x0 : 1 ≤ -(X : Rat) := by have := int_neg sx; grind
  have Q := quot_is hY hX (by omega) (by omega)
  obtain ⟨p1, p2, p3⟩ := Q.neg (.inl ⟨sy, sx⟩)
  have A := (atW_neg Q.fin (by grind) (by grind)).1
  have e : szR Y X = -(X : Rat) + (Y : Rat) := by unfold szR; rw [nA_neg sx, nA_pos sy]
  have eV : qV (fv (fdiv (iw Y) (iw X))) = -satV (-fv (fdiv (iw Y) (iw X))) := if_neg (by grind)
  have eq : (Y : Rat) / (X : Rat) = -((Y : Rat) / (-(X : Rat))) := by grind
  rw [eq] at p3
  have p4 : Near (-fv (fdiv (iw Y) (iw X))) ((Y : Rat) / (-(X : Rat))) ((Y : Rat) / (-(X : Rat)) / 2251799813685248) := by unfold Near at *; clear p1 p2 A; grind
  obtain ⟨k1, k2, k3, k4⟩ := core_arc (a := -(X : Rat)) (b := (Y : Rat)) x0 y0 (quot_mul (by grind) p4 (by grind))
  have D := (dir_pp x0 y0 k1 k2 k3 k4).2.2.1
  rw [show - -(X : Rat) = (X : Rat) by grind] at D
  rw [eV, e]
  clear eq p4 p3 p1 p2 k1 k2 e eV
  have bp := bd_aPi
  obtain ⟨-, B⟩ := Ap.add A ap_aPi (2 / 100000000000000) (69 / 10) 7 (mid_of (by grind) (by grind)) (by grind) (by grind) (by grind)
  exact ⟨D, ap_near B Rat.le_refl⟩
theorem dq3 {Y X : Int} (hY : Sml Y) (hX : Sml X) (sy : Y < 0) (sx : X < 0) : DirOk (qV (fv (fdiv (iw Y) (iw X))) - aPi) (Y : Rat) (X : Rat) (szR Y X) ∧ Near (fv (fsub (atW (fdiv (iw Y) (iw X))) 4614256656552045848)) (qV (fv (fdiv (iw Y) (iw X))) - aPi) (2 / 100000000000000) := by
  have y0 : 1 ≤ -(Y : Rat) := by have := int_neg sy; grind
  have x0 : 1 ≤ -(X : Rat) := by have := int_neg sx; grind
  have Q := quot_is hY hX (by omega) (by omega)
  obtain ⟨p1, p2, p3⟩ := Q.pos (.inr ⟨sy, sx⟩)
  have A := (atW_pos Q.fin (by grind) (by grind)).1
  have e : szR Y X = -(X : Rat) + -(Y : Rat) := by unfold szR; rw [nA_neg sx, nA_neg sy]
  have eV : qV (fv (fdiv (iw Y) (iw X))) = satV (fv (fdiv (iw Y) (iw X))) := if_pos (by grind)
  have eq : (Y : Rat) / (X : Rat) = (-(Y : Rat)) / (-(X : Rat)) := by grind
  rw [eq] at p3
  obtain ⟨k1, k2, k3, k4⟩ := core_arc (a := -(X : Rat)) (b := -(Y : Rat)) x0 y0 (quot_mul (by grind) p3 (by grind))
  have D := (dir_pp x0 y0 k1 k2 k3 k4).2.2.2
  rw [show - -(X : Rat) = (X : Rat) by grind, show - -(Y : Rat) = (Y : Rat) by grind] at D
  rw [eV, e]
  clear eq p3 p1 p2 k1 k2 e eV
  have bp := bd_aPi
  obtain ⟨-, B⟩ := Ap.sub A ap_aPi (2 / 100000000000000) (69 / 10) 7 (mid_of (by grind) (by grind)) (by grind) (by grind) (by grind)
  exact ⟨D, ap_near B Rat.le_refl⟩
theorem zero_nA : ((Int.natAbs 0 : Nat) : Rat) = 0 := rfl
theorem dy0n {X : Int} (c2 : X < 0) : DirOk aPi 0 (X : Rat) (szR 0 X) := by
  have bp := bd_aPi
  have x0 := int_neg c2
  have m1 := near_mulR pi_sn (show 0 ≤ -(X : Rat) by grind)
  have m2 := near_mulR (near_weak pi_cs (show _ ≤ 2 / 10000000000000000 by grind)) (show 0 ≤ -(X : Rat) by grind)
  have e : szR 0 X = -(X : Rat) := by unfold szR; rw [nA_neg c2, zero_nA]; grind
  rw [e]
  unfold Near at m1 m2
  refine ⟨?_, ?_, by clear m1 m2; grind, by clear m1 m2; grind⟩
  · unfold Near
    clear m2 bp
    generalize sn aPi = s at *
    generalize cs aPi = c at *
    grind
  · clear m1 bp
    generalize sn aPi = s at *
    generalize cs aPi = c at *
    grind
theorem dy0p {X : Int} (c2 : 0 < X) : DirOk 0 0 (X : Rat) (szR 0 X) := by
  have x0 := int_pos c2
  have e : szR 0 X = (X : Rat) := by unfold szR; rw [nA_pos c2, zero_nA]; grind
  rw [e]
  refine ⟨?_, ?_, by grind, by grind⟩
  · rw [sn_zero]; unfold Near; grind
  · rw [cs_zero]; grind
theorem h_sn : Near (sn aH) 1 (2 / 10000000000000000) := by rw [sn_ev]; unfold Near aH; decide +kernel
theorem h_cs : Near (cs aH) 0 (2 / 10000000000000000) := by rw [cs_ev]; unfold Near aH; decide +kernel
theorem dx0n {Y : Int} (c3 : Y < 0) : DirOk (-aH) (Y : Rat) 0 (szR Y 0) := by
  have bh := bd_aH
  have y0 := int_neg c3
  have m1 := near_mulR h_sn (show 0 ≤ -(Y : Rat) by grind)
  have m2 := near_mulR h_cs (show 0 ≤ -(Y : Rat) by grind)
  have e : szR Y 0 = -(Y : Rat) := by unfold szR; rw [nA_neg c3, zero_nA]; grind
  rw [e]
  unfold Near at m1 m2
  refine ⟨?_, ?_, by clear m1 m2; grind, by clear m1 m2; grind⟩
  · rw [sn_neg, cs_neg]
    unfold Near
    clear m1 bh
    generalize sn aH = s at *
    generalize cs aH = c at *
    grind
  · rw [sn_neg, cs_neg]
    clear m2 bh
    generalize sn aH = s at *
    generalize cs aH = c at *
    grind
theorem dx0p {Y : Int} (c3 : 0 < Y) : DirOk aH (Y : Rat) 0 (szR Y 0) := by
  have bh := bd_aH
  have y0 := int_pos c3
  have m1 := near_mulR h_sn (show 0 ≤ (Y : Rat) by grind)
  have m2 := near_mulR h_cs (show 0 ≤ (Y : Rat) by grind)
  have e : szR Y 0 = (Y : Rat) := by unfold szR; rw [nA_pos c3, zero_nA]; grind
  rw [e]
  unfold Near at m1 m2
  refine ⟨?_, ?_, by clear m1 m2; grind, by clear m1 m2; grind⟩
  · unfold Near
    clear m1 bh
    generalize sn aH = s at *
    generalize cs aH = c at *
    grind
  · clear m2 bh
    generalize sn aH = s at *
    generalize cs aH = c at *
    grind
theorem dir_main {Y X : Int} (hY : Sml Y) (hX : Sml X) (h0 : Y ≠ 0 ∨ X ≠ 0) : DirOk (dirV Y X) (Y : Rat) (X : Rat) (szR Y X) ∧ Near (fv (at2W Y X)) (dirV Y X) (2 / 100000000000000) := by
  unfold dirV at2W
  by_cases c1 : Y = 0
  · subst c1
    rw [if_pos rfl, if_pos rfl, zero_cast]
    by_cases c2 : X < 0
    · rw [if_pos c2, if_pos c2, ap_word ap_aPi]
      exact ⟨dy0n c2, near_refl _ (by grind)⟩
    · rw [if_neg c2, if_neg c2, fin_zero.2]
      exact ⟨dy0p (by omega), near_refl _ (by grind)⟩
  · rw [if_neg c1, if_neg c1]
    by_cases c2 : X = 0
    · subst c2
      rw [if_pos rfl, if_pos rfl, zero_cast]
      by_cases c3 : Y < 0
      · have e1 : 13833125093779451160 = fneg 4609753056924675352 := by decide
        rw [if_pos c3, if_pos c3, e1, (fneg_ok ap_aH.fin).2, ap_word ap_aH]
        exact ⟨dx0n c3, near_refl _ (by grind)⟩
      · rw [if_neg c3, if_neg c3, ap_word ap_aH]
        exact ⟨dx0p (by omega), near_refl _ (by grind)⟩
    · rw [if_neg c2, if_neg c2]
      by_cases sx : X < 0
      · rw [if_pos sx, if_pos sx]
        by_cases sy : Y < 0
        · rw [if_pos sy, if_pos sy]; exact dq3 hY hX sy sx
        · rw [if_neg sy, if_neg sy]; exact dq2 hY hX (by omega) sx
      · rw [if_neg sx, if_neg sx]
        by_cases sy : Y < 0
        · exact dq4 hY hX sy (by omega)
        · exact dq1 hY hX (by omega) (by omega)
end Go.Proofs.YtcopmgnfakjdhaaGreatDoor
/- What an arc over spans contains, plain. -/
namespace Go.Proofs.YtcopmgnfakjdhaaGreatDoor
set_option linter.unusedSimpArgs false
set_option linter.unusedVariables false
theorem box_min {a b c d x y A B m : Rat} (hy1 : a ≤ y) (hy2 : y ≤ b) (hx1 : c ≤ x) (hx2 : x ≤ d) (h1 : m ≤ c * A + a * B) (h2 : m ≤ d * A + a * B) (h3 : m ≤ c * A + b * B) (h4 : m ≤ d * A + b * B) : m ≤ x * A + y * B := by
  have p := (rlin_between (c := A) hx1 hx2).1
  have q := (rlin_between (c := B) hy1 hy2).1
  rcases p with p | p <;> rcases q with q | q <;> grind
theorem rot_sn {A B : Rat} (hA : -8 ≤ A ∧ A ≤ 8) (hB : -8 ≤ B ∧ B ≤ 8) : Near (sn (A - B)) (sn A * cs B - cs A * sn B) ep := by
  have h := sn_add hA (show -8 ≤ -B ∧ -B ≤ 8 by grind)
  rw [sn_neg, cs_neg, show A + -B = A - B by grind] at h
  rw [show sn A * cs B - cs A * sn B = sn A * cs B + cs A * -sn B by grind]
  exact h
theorem rot_cs {A B : Rat} (hA : -8 ≤ A ∧ A ≤ 8) (hB : -8 ≤ B ∧ B ≤ 8) : Near (cs (A - B)) (cs A * cs B + sn A * sn B) ep := by
  have h := cs_add hA (show -8 ≤ -B ∧ -B ≤ 8 by grind)
  rw [sn_neg, cs_neg, show A + -B = A - B by grind] at h
  rw [show cs A * cs B + sn A * sn B = cs A * cs B - sn A * -sn B by grind]
  exact h
theorem cs_sq {t M : Rat} (hM : -8 ≤ M ∧ M ≤ 8) (ht : -8 ≤ t ∧ t ≤ 8) : (-(102 / 100) ≤ sn t * cs M - cs t * sn M ∧ sn t * cs M - cs t * sn M ≤ 102 / 100) ∧ (-(102 / 100) ≤ cs t * cs M + sn t * sn M ∧ cs t * cs M + sn t * sn M ≤ 102 / 100) := by
  have p := pyth ht; have q := pyth hM
  have i : (sn t * cs M - cs t * sn M) * (sn t * cs M - cs t * sn M) + (cs t * cs M + sn t * sn M) * (cs t * cs M + sn t * sn M) = (cs t * cs t + sn t * sn t) * (cs M * cs M + sn M * sn M) := by grind
  have m := rmul_bd (a := cs t * cs t + sn t * sn t) (b := cs M * cs M + sn M * sn M) (A := 1 + ep) (B := 1 + ep) (by unfold Near ep at *; grind) (by unfold Near ep at *; grind)
  rw [← i] at m
  have u := sq_nonneg (sn t * cs M - cs t * sn M)
  have v := sq_nonneg (cs t * cs M + sn t * sn M)
  have e : (1 + ep) * (1 + ep) ≤ 1 + 1 / 100 := by unfold ep; grind
  have a := one_of_sq (c := sn t * cs M - cs t * sn M) (e := 1 / 100) (by grind) (by grind)
  have b := one_of_sq (c := cs t * cs M + sn t * sn M) (e := 1 / 100) (by grind) (by grind)
  exact ⟨⟨by grind, by grind⟩, by grind, by grind⟩
structure Seen (S C r R del : Rat) : Prop where
  s : Near S (r * sn del) (3 / 1000000000000000 * R)
  c : Near C (r * cs del) (3 / 1000000000000000 * R)
  r1 : R / 21 ≤ r
  r2 : r ≤ 3 * R
theorem seen_of' {t Y X R M : Rat} (n : Near (X * sn t) (Y * cs t) (21 / 10000000000000000 * R)) (p : R / 21 ≤ X * cs t + Y * sn t) (t8 : -8 ≤ t ∧ t ≤ 8) (hX : -R ≤ X ∧ X ≤ R) (hY : -R ≤ Y ∧ Y ≤ R) (hM : -8 ≤ M ∧ M ≤ 8) : Seen (Y * cs M - X * sn M) (X * cs M + Y * sn M) (X * cs t + Y * sn t) R (t - M) := by
  have R0 : 0 ≤ R := by grind
  have rs := rot_sn t8 hM
  have rc := rot_cs t8 hM
  have py := pyth t8
  have sb := sn_le t8; have cb := cs_le t8; have sM := sn_le hM; have cM := cs_le hM
  have iS : (Y * cs M - X * sn M) * (cs t * cs t + sn t * sn t) = (X * cs t + Y * sn t) * (sn t * cs M - cs t * sn M) - (X * sn t - Y * cs t) * (cs t * cs M + sn t * sn M) := by grind
  have iC : (X * cs M + Y * sn M) * (cs t * cs t + sn t * sn t) = (X * cs t + Y * sn t) * (cs t * cs M + sn t * sn M) + (X * sn t - Y * cs t) * (sn t * cs M - cs t * sn M) := by grind
  have two : (2 : Rat) = 2 := rfl
  have xs := rmul_bd (a := X) (b := sn M) (A := R) (B := 101 / 100) hX (by unfold ep at sM; grind)
  have xc := rmul_bd (a := X) (b := cs M) (A := R) (B := 101 / 100) hX (by unfold ep at cM; grind)
  have ys := rmul_bd (a := Y) (b := sn M) (A := R) (B := 101 / 100) hY (by unfold ep at sM; grind)
  have yc := rmul_bd (a := Y) (b := cs M) (A := R) (B := 101 / 100) hY (by unfold ep at cM; grind)
  have r1 := rmul_bd (a := X) (b := cs t) (A := R) (B := 101 / 100) hX (by unfold ep at cb; grind)
  have r2 := rmul_bd (a := Y) (b := sn t) (A := R) (B := 101 / 100) hY (by unfold ep at sb; grind)
  have e1 := rmul_bd (a := Y * cs M - X * sn M) (b := cs t * cs t + sn t * sn t - 1) (A := 202 / 100 * R) (B := ep) (by grind) (by unfold Near at py; grind)
  have e2 := rmul_bd (a := X * cs M + Y * sn M) (b := cs t * cs t + sn t * sn t - 1) (A := 202 / 100 * R) (B := ep) (by grind) (by unfold Near at py; grind)
  have g1 := rmul_bd (a := X * cs t + Y * sn t) (b := sn (t - M) - (sn t * cs M - cs t * sn M)) (A := 202 / 100 * R) (B := ep) (by grind) (by unfold Near at rs; grind)
  have g2 := rmul_bd (a := X * cs t + Y * sn t) (b := cs (t - M) - (cs t * cs M + sn t * sn M)) (A := 202 / 100 * R) (B := ep) (by grind) (by unfold Near at rc; grind)
  have sl := sn_le (x := t - M) ; have cl := cs_le (x := t - M)
  have b1 : -(102 / 100) ≤ sn t * cs M - cs t * sn M ∧ sn t * cs M - cs t * sn M ≤ 102 / 100 := by
    have m1 := cs_sq hM t8
    exact m1.1
  have b2 : -(102 / 100) ≤ cs t * cs M + sn t * sn M ∧ cs t * cs M + sn t * sn M ≤ 102 / 100 := by
    have m1 := cs_sq hM t8
    exact m1.2
  have f1 := rmul_bd (a := X * sn t - Y * cs t) (A := 21 / 10000000000000000 * R) (by unfold Near at n; grind) b2
  have f2 := rmul_bd (a := X * sn t - Y * cs t) (A := 21 / 10000000000000000 * R) (by unfold Near at n; grind) b1
  refine ⟨?_, ?_, by grind, by grind⟩
  · clear e2 g2 f2 iC b1 b2 sl cl xs xc ys yc r1 r2 sb cb sM cM py rs rc n p
    unfold Near ep at *
    generalize sn (t - M) = sd at *
    generalize cs t * cs t + sn t * sn t = o at *
    generalize Y * cs M - X * sn M = S at *
    generalize sn t * cs M - cs t * sn M = sp at *
    generalize cs t * cs M + sn t * sn M = cp at *
    generalize X * cs t + Y * sn t = r at *
    generalize X * sn t - Y * cs t = ee at *
    grind
  · clear e1 g1 f1 iS b1 b2 sl cl xs xc ys yc r1 r2 sb cb sM cM py rs rc n p
    unfold Near ep at *
    generalize cs (t - M) = cd at *
    generalize cs t * cs t + sn t * sn t = o at *
    generalize X * cs M + Y * sn M = C at *
    generalize sn t * cs M - cs t * sn M = sp at *
    generalize cs t * cs M + sn t * sn M = cp at *
    generalize X * cs t + Y * sn t = r at *
    generalize X * sn t - Y * cs t = ee at *
    grind
structure Crn (X Y M h rho : Rat) : Prop where
  seen : ∃ r R del, Seen (Y * cs M - X * sn M) (X * cs M + Y * sn M) r R del ∧ -h ≤ del ∧ del ≤ h ∧ 0 < R ∧ R ≤ 4 * rho
theorem crn_c {X Y M h rho : Rat} (H : Crn X Y M h rho) (hh : h ≤ 126 / 100) : 0 ≤ X * cs M + Y * sn M := by
  obtain ⟨r, R, del, ⟨s, c, r1, r2⟩, d1, d2, R0, R4⟩ := H.seen
  have l := cs_low (x := del) (by grind)
  have m := Rat.mul_le_mul_of_nonneg_left l (show 0 ≤ r by grind)
  unfold Near at c
  grind
theorem crn_s {X Y M h rho : Rat} (H : Crn X Y M h rho) (h0 : 0 ≤ h) (hh : h ≤ 126 / 100) : -(30 / 1000000000000000 * rho) ≤ (Y * cs M - X * sn M) * cs h + (X * cs M + Y * sn M) * sn h ∧ -(30 / 1000000000000000 * rho) ≤ -((Y * cs M - X * sn M) * cs h) + (X * cs M + Y * sn M) * sn h := by
  obtain ⟨r, R, del, ⟨s, c, r1, r2⟩, d1, d2, R0, R4⟩ := H.seen
  have q := qq_b9
  have a := sn_add (x := del) (y := h) (by grind) (by grind)
  have b := sn_add (x := -del) (y := h) (by grind) (by grind)
  have u := sn_upper (x := del + h) (by grind) (by grind)
  have v := sn_upper (x := -del + h) (by grind) (by grind)
  rw [sn_neg, cs_neg] at b
  have sh := sn_le (x := h) (by grind); have ch := cs_le (x := h) (by grind)
  generalize Y * cs M - X * sn M = S at *
  generalize X * cs M + Y * sn M = C at *
  have p1 := rmul_bd (a := S - r * sn del) (b := cs h) (A := 3 / 1000000000000000 * R) (B := 101 / 100) (by unfold Near at s; grind) (by unfold ep at ch; grind)
  have p2 := rmul_bd (a := C - r * cs del) (b := sn h) (A := 3 / 1000000000000000 * R) (B := 101 / 100) (by unfold Near at c; grind) (by unfold ep at sh; grind)
  have a' : -(1 / 100000000000000000000) ≤ sn del * cs h + cs del * sn h := by unfold Near ep at a; grind
  have b' : -(1 / 100000000000000000000) ≤ -sn del * cs h + cs del * sn h := by unfold Near ep at b; grind
  have m1 := Rat.mul_le_mul_of_nonneg_left a' (show 0 ≤ r by grind)
  have m2 := Rat.mul_le_mul_of_nonneg_left b' (show 0 ≤ r by grind)
  clear a b u v s c sh ch q a' b'
  generalize sn del = sd at *
  generalize cs del = cd at *
  generalize sn h = s at *
  generalize cs h = c at *
  constructor <;> grind
theorem arc_edge {t h : Rat} (ht : -(4 * qq) ≤ t ∧ t ≤ 4 * qq) (h0 : 0 ≤ h) (hh : h ≤ 126 / 100) (c0 : -(4 / 1000000000000000) ≤ cs t) (s0 : -(40 / 1000000000000000) ≤ sn t * cs h + cs t * sn h) : -h - 1 / 10000000000000 ≤ t := by
  have q := qq_b9
  have k := quarter_of ht (show (0 : Rat) ≤ 4 / 1000000000000000 by grind) c0
  unfold eq1 at k
  apply Rat.not_lt.1
  intro l
  have a := sn_add (x := t) (y := h) (by grind) (by grind)
  have s1 : -(41 / 1000000000000000) ≤ sn (t + h) := by unfold Near ep at a; grind
  have := low_of (x := t + h) (d := 41 / 1000000000000000) (by grind) s1 (by grind)
  grind
theorem arc_in {a b c d x y M h rho al : Rat} (h1 : Crn c a M h rho) (h2 : Crn d a M h rho) (h3 : Crn c b M h rho) (h4 : Crn d b M h rho) (hy1 : a ≤ y) (hy2 : y ≤ b) (hx1 : c ≤ x) (hx2 : x ≤ d)
    (hM : -6 ≤ M ∧ M ≤ 6) (h0 : 0 ≤ h) (hh : h ≤ 126 / 100) (rho0 : 0 < rho) (ha : 0 ≤ al ∧ al ≤ 64 / 10) (nx : Near x (rho * cs al) (rho / 1000000000000000)) (ny : Near y (rho * sn al) (rho / 1000000000000000)) :
    ∃ k : Int, -h - 1 / 10000000000000 ≤ al - M + 8 * qq * (k : Rat) ∧ al - M + 8 * qq * (k : Rat) ≤ h + 1 / 10000000000000 := by
  have C0 := box_min (A := cs M) (B := sn M) hy1 hy2 hx1 hx2 (crn_c h1 hh) (crn_c h2 hh) (crn_c h3 hh) (crn_c h4 hh)
  have f1 : ∀ X Y : Rat, (Y * cs M - X * sn M) * cs h + (X * cs M + Y * sn M) * sn h = X * (cs M * sn h - sn M * cs h) + Y * (cs M * cs h + sn M * sn h) := fun X Y => by grind
  have f2 : ∀ X Y : Rat, -((Y * cs M - X * sn M) * cs h) + (X * cs M + Y * sn M) * sn h = X * (cs M * sn h + sn M * cs h) + Y * (-(cs M * cs h) + sn M * sn h) := fun X Y => by grind
  have g1 := crn_s h1 h0 hh; have g2 := crn_s h2 h0 hh; have g3 := crn_s h3 h0 hh; have g4 := crn_s h4 h0 hh
  rw [f1, f2] at g1 g2 g3 g4
  have S1 := box_min hy1 hy2 hx1 hx2 g1.1 g2.1 g3.1 g4.1
  have S2 := box_min hy1 hy2 hx1 hx2 g1.2 g2.2 g3.2 g4.2
  rw [← f1] at S1
  rw [← f2] at S2
  clear f1 f2 g1 g2 g3 g4 h1 h2 h3 h4
  have M8 : -8 ≤ M ∧ M ≤ 8 := by grind
  have al8 : -8 ≤ al ∧ al ≤ 8 := by grind
  have rs := rot_sn al8 M8
  have rc := rot_cs al8 M8
  obtain ⟨k, k1, k2, ks, kc⟩ := to_half (z := al - M) (by grind)
  refine ⟨k, ?_⟩
  obtain ⟨t, ht⟩ : ∃ t, t = al - M + 8 * qq * (k : Rat) := ⟨_, rfl⟩
  rw [← ht] at k1 k2 ks kc ⊢
  have sM := sn_le M8; have cM := cs_le M8
  have sh := sn_le (x := h) (by grind); have ch := cs_le (x := h) (by grind)
  have p1 := rmul_bd (a := x - rho * cs al) (b := sn M) (A := rho / 1000000000000000) (B := 101 / 100) (by unfold Near at nx; grind) (by unfold ep at sM; grind)
  have p2 := rmul_bd (a := x - rho * cs al) (b := cs M) (A := rho / 1000000000000000) (B := 101 / 100) (by unfold Near at nx; grind) (by unfold ep at cM; grind)
  have p3 := rmul_bd (a := y - rho * sn al) (b := sn M) (A := rho / 1000000000000000) (B := 101 / 100) (by unfold Near at ny; grind) (by unfold ep at sM; grind)
  have p4 := rmul_bd (a := y - rho * sn al) (b := cs M) (A := rho / 1000000000000000) (B := 101 / 100) (by unfold Near at ny; grind) (by unfold ep at cM; grind)
  have ns : Near (sn t) (sn al * cs M - cs al * sn M) (1 / 100000000000000000000) := by
    unfold Near ep eq1 at *
    clear p1 p2 p3 p4 S1 S2 C0 kc rc sM cM sh ch nx ny
    grind
  have nc : Near (cs t) (cs al * cs M + sn al * sn M) (1 / 100000000000000000000) := by
    unfold Near ep eq1 at *
    clear p1 p2 p3 p4 S1 S2 C0 ks rs sM cM sh ch nx ny ns
    grind
  clear ks kc rs rc
  have qs := near_mulR ns (Rat.le_of_lt rho0)
  have qc := near_mulR nc (Rat.le_of_lt rho0)
  have es : Near (y * cs M - x * sn M) (rho * sn t) (3 / 1000000000000000 * rho) := by
    unfold Near at qs ⊢
    clear S1 S2 C0 nx ny ns nc qc p2 p3 sM cM sh ch
    generalize sn t = st at *
    generalize sn al = sa at *
    generalize cs al = ca at *
    generalize sn M = sm at *
    generalize cs M = cm at *
    grind
  have ec : Near (x * cs M + y * sn M) (rho * cs t) (3 / 1000000000000000 * rho) := by
    unfold Near at qc ⊢
    clear S1 S2 C0 nx ny ns nc qs p1 p4 sM cM sh ch es
    generalize cs t = ct at *
    generalize sn al = sa at *
    generalize cs al = ca at *
    generalize sn M = sm at *
    generalize cs M = cm at *
    grind
  clear p1 p2 p3 p4 qs qc ns nc nx ny
  generalize y * cs M - x * sn M = S at *
  generalize x * cs M + y * sn M = C at *
  have c0 : -(4 / 1000000000000000) ≤ cs t := by
    apply Rat.not_lt.1
    intro l
    have := Rat.mul_lt_mul_of_pos_left l rho0
    unfold Near at ec
    grind
  have m1 := rmul_bd (a := S - rho * sn t) (b := cs h) (A := 3 / 1000000000000000 * rho) (B := 101 / 100) (by unfold Near at es; grind) (by unfold ep at ch; grind)
  have m2 := rmul_bd (a := C - rho * cs t) (b := sn h) (A := 3 / 1000000000000000 * rho) (B := 101 / 100) (by unfold Near at ec; grind) (by unfold ep at sh; grind)
  clear es ec sM cM sh ch C0
  have s1 : -(40 / 1000000000000000) ≤ sn t * cs h + cs t * sn h := by
    apply Rat.not_lt.1
    intro l
    have := Rat.mul_lt_mul_of_pos_left l rho0
    clear S2
    generalize sn t = st at *
    generalize cs t = ct at *
    generalize sn h = s at *
    generalize cs h = c at *
    grind
  have s2 : -(40 / 1000000000000000) ≤ sn (-t) * cs h + cs (-t) * sn h := by
    rw [sn_neg, cs_neg]
    apply Rat.not_lt.1
    intro l
    have := Rat.mul_lt_mul_of_pos_left l rho0
    clear S1
    generalize sn t = st at *
    generalize cs t = ct at *
    generalize sn h = s at *
    generalize cs h = c at *
    grind
  have e1 := arc_edge ⟨k1, k2⟩ h0 hh c0 s1
  have e2 := arc_edge (t := -t) (by grind) h0 hh (by rw [cs_neg]; exact c0) s2
  clear m1 m2 s1 s2 S1 S2
  constructor
  · exact e1
  · grind
end Go.Proofs.YtcopmgnfakjdhaaGreatDoor
