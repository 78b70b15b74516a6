/- trig.Arc, plain: the words of directions, their differences, least and greatest. -/
import Derived.Test.YtcopmgnfakjdhaaDoorAtan2W
import Derived.Test.YtcopmgnfakjdhaaDoorSumP
import Derived.Test.YtcopmgnfakjdhaaDoorFloat
namespace Go.Proofs.YtcopmgnfakjdhaaDoor
open Go.RowKit
set_option linter.unusedSimpArgs false
set_option linter.unusedVariables false

theorem at2_fin {Y X : Int} (hY : Sml Y) (hX : Sml X) : Fin (at2W Y X) ∧ -7 ≤ fv (at2W Y X) ∧ fv (at2W Y X) ≤ 7 := by
  unfold at2W
  have p := bd_aPi; have h := bd_aH
  by_cases c1 : Y = 0
  · rw [if_pos c1]
    by_cases c2 : X < 0
    · rw [if_pos c2, ap_word ap_aPi]; exact ⟨ap_aPi.fin, by grind, by grind⟩
    · rw [if_neg c2, fin_zero.2]; exact ⟨fin_zero.1, by grind, by grind⟩
  · rw [if_neg c1]
    by_cases c2 : X = 0
    · rw [if_pos c2]
      by_cases c3 : Y < 0
      · rw [if_pos c3]
        have e : 13833125093779451160 = fneg 4609753056924675352 := by decide
        have f := fneg_ok ap_aH.fin
        rw [e, f.2, ap_word ap_aH]
        exact ⟨f.1, by grind, by grind⟩
      · rw [if_neg c3, ap_word ap_aH]; exact ⟨ap_aH.fin, by grind, by grind⟩
    · rw [if_neg c2]
      have Q := quot_is hY hX c1 c2
      have AA : ∃ v, Ap (atW (fdiv (iw Y) (iw X))) v (1 / 100000000000000) 3 := by
        by_cases c : (0 < Y ∧ 0 < X ∨ Y < 0 ∧ X < 0)
        · have := Q.pos c; exact ⟨_, (atW_pos Q.fin (by grind) (by grind)).1⟩
        · have := Q.neg (by omega); exact ⟨_, (atW_neg Q.fin (by grind) (by grind)).1⟩
      obtain ⟨v, A⟩ := AA
      have a1 := A.lo; have a2 := A.hi; have a3 := A.bl; have a4 := A.bh
      by_cases c3 : X < 0
      · rw [if_pos c3]
        by_cases c4 : Y < 0
        · rw [if_pos c4]
          obtain ⟨-, B⟩ := Ap.sub A ap_aPi (1 / 50000000000000) (69 / 10) (7) (mid_of (by grind) (by grind)) (by grind) (by grind) (by grind)
          have b1 := B.lo; have b2 := B.hi; have b3 := B.bl; have b4 := B.bh
          exact ⟨B.fin, by grind, by grind⟩
        · rw [if_neg c4]
          obtain ⟨-, B⟩ := Ap.add A ap_aPi (1 / 50000000000000) (69 / 10) (7) (mid_of (by grind) (by grind)) (by grind) (by grind) (by grind)
          have b1 := B.lo; have b2 := B.hi; have b3 := B.bl; have b4 := B.bh
          exact ⟨B.fin, by grind, by grind⟩
      · rw [if_neg c3]
        exact ⟨A.fin, by grind, by grind⟩
/-- The direction in units of angles. -/
def dirW (Y X : Int) : Nat := fmul (fdiv (at2W Y X) 4618760256179416344) 4741671816366391296
theorem dir_ok {Y X : Int} (hY : Sml Y) (hX : Sml X) : floatBits .quo .f64 (at2W Y X) 4618760256179416344 = some (fdiv (at2W Y X) 4618760256179416344) ∧
    floatBits .mul .f64 (fdiv (at2W Y X) 4618760256179416344) 4741671816366391296 = some (dirW Y X) ∧ Ap (dirW Y X) (fv (at2W Y X) / a2Pi * 1000000000) (1 / 1000000) 1200000000 := by
  obtain ⟨f, b1, b2⟩ := at2_fin hY hX
  have p := bd_a2Pi
  have q := div_bd (a := fv (at2W Y X)) (b := a2Pi) (B := 12 / 10) (by grind) (by grind) (by grind)
  obtain ⟨i1, a1⟩ := Ap.div (Ap.exact f b1 b2) ap_a2Pi 6 (6 / 10000000000000000) (12 / 10) (12 / 10) (mid_of (by grind) (by grind)) (by grind) (by grind) (by grind) q (by grind) (by grind)
  obtain ⟨i2, a2⟩ := Ap.mul a1 ap_turn (1 / 1000000) 1200000000 1200000001 (mid_of (by grind) (by grind)) (by grind) (by grind) (by grind)
  exact ⟨i1, i2, a2⟩
theorem dir_fin {Y X : Int} (hY : Sml Y) (hX : Sml X) : Fin (dirW Y X) ∧ -1200000001 ≤ fv (dirW Y X) ∧ fv (dirW Y X) ≤ 1200000001 := by
  obtain ⟨-, -, a⟩ := dir_ok hY hX
  exact ⟨a.fin, by have := a.lo; have := a.bl; grind, by have := a.hi; have := a.bh; grind⟩
theorem fv_half : Fin 4737168216739020800 ∧ fv 4737168216739020800 = 500000000 := by
  obtain ⟨f, v⟩ := fv_lit (w := 4737168216739020800) (s := false) (m := 8388608000000000) (k := 24) (by decide)
  refine ⟨f, v.trans ?_⟩
  have e : ((2 ^ 24 : Nat) : Rat) = 16777216 := rfl
  have e2 : ((8388608000000000 : Nat) : Rat) = 8388608000000000 := rfl
  rw [sg_f, e, e2]; grind
theorem fv_half_neg : Fin 13960540253593796608 ∧ fv 13960540253593796608 = -500000000 := by
  obtain ⟨f, v⟩ := fv_lit (w := 13960540253593796608) (s := true) (m := 8388608000000000) (k := 24) (by decide)
  refine ⟨f, v.trans ?_⟩
  have e : ((2 ^ 24 : Nat) : Rat) = 16777216 := rfl
  have e2 : ((8388608000000000 : Nat) : Rat) = 8388608000000000 := rfl
  rw [sg_t, e, e2]; grind
/-- The least and the greatest of two words. -/
def fminW (x y : Nat) : Nat := match Ieee.double.order x y with
  | some .lt => x
  | some .gt => y
  | some .eq => if (Ieee.double.read x).neg then x else y
  | none => 0
def fmaxW (x y : Nat) : Nat := match Ieee.double.order x y with
  | some .lt => y
  | some .gt => x
  | some .eq => if (Ieee.double.read x).neg then y else x
  | none => 0
theorem fmin_ok {x y : Nat} (hx : Fin x) (hy : Fin y) : Fin (fminW x y) ∧ fv (fminW x y) = min (fv x) (fv y) := by
  unfold fminW
  rcases leq_ord hx hy with ⟨o, h⟩ | ⟨o, h⟩ | ⟨o, h⟩
  · have o' : Ieee.double.order x y = some .lt := o
    rw [o']; exact ⟨hx, by grind⟩
  · have o' : Ieee.double.order x y = some .eq := o
    rw [o']; dsimp only
    split
    · exact ⟨hx, by grind⟩
    · exact ⟨hy, by grind⟩
  · have o' : Ieee.double.order x y = some .gt := o
    rw [o']; exact ⟨hy, by grind⟩
theorem fmax_ok {x y : Nat} (hx : Fin x) (hy : Fin y) : Fin (fmaxW x y) ∧ fv (fmaxW x y) = max (fv x) (fv y) := by
  unfold fmaxW
  rcases leq_ord hx hy with ⟨o, h⟩ | ⟨o, h⟩ | ⟨o, h⟩
  · have o' : Ieee.double.order x y = some .lt := o
    rw [o']; exact ⟨hy, by grind⟩
  · have o' : Ieee.double.order x y = some .eq := o
    rw [o']; dsimp only
    split
    · exact ⟨hy, by grind⟩
    · exact ⟨hx, by grind⟩
  · have o' : Ieee.double.order x y = some .gt := o
    rw [o']; exact ⟨hx, by grind⟩
theorem run_fmin {P : Program} (ts : Array TypeId) (t : TypeId) {x y : Nat} (hx : Fin x) (hy : Fin y) (w : World) : (Builtin.min_ ts t #[.float .f64 x, .float .f64 y]).run P w = .ok (.float .f64 (fminW x y)) w := by
  unfold fminW
  rcases leq_ord hx hy with ⟨o, h⟩ | ⟨o, h⟩ | ⟨o, h⟩
  · have o' : Ieee.double.order x y = some .lt := o
    rw [o']; simp [Builtin.min_, Builtin.min2, o]
  · have o' : Ieee.double.order x y = some .eq := o
    rw [o']; simp [Builtin.min_, Builtin.min2, o]; rfl
  · have o' : Ieee.double.order x y = some .gt := o
    rw [o']; simp [Builtin.min_, Builtin.min2, o]
theorem run_fmax {P : Program} (ts : Array TypeId) (t : TypeId) {x y : Nat} (hx : Fin x) (hy : Fin y) (w : World) : (Builtin.max_ ts t #[.float .f64 x, .float .f64 y]).run P w = .ok (.float .f64 (fmaxW x y)) w := by
  unfold fmaxW
  rcases leq_ord hx hy with ⟨o, h⟩ | ⟨o, h⟩ | ⟨o, h⟩
  · have o' : Ieee.double.order x y = some .lt := o
    rw [o']; simp [Builtin.max_, Builtin.max2, o]
  · have o' : Ieee.double.order x y = some .eq := o
    rw [o']; simp [Builtin.max_, Builtin.max2, o]; rfl
  · have o' : Ieee.double.order x y = some .gt := o
    rw [o']; simp [Builtin.max_, Builtin.max2, o]
/-- The difference to the first direction, brought between half turns. -/
def d0W (f : Nat) (Y X : Int) : Nat := fsub (dirW Y X) f
def d1W (d : Nat) : Nat := if 500000000 < fv d then fsub d 4741671816366391296 else d
def d2W (d : Nat) : Nat := if fv d < -500000000 then fadd d 4741671816366391296 else d
def arcD (f : Nat) (Y X : Int) : Nat := d2W (d1W (d0W f Y X))
/-- A word that stands for a number of moderate size. -/
structure Md (d : Nat) (B : Rat) : Prop where
  fin : Fin d
  lo : -B ≤ fv d
  hi : fv d ≤ B
theorem d0_ok {f : Nat} {Y X : Int} (hf : Md f 1200000001) (hY : Sml Y) (hX : Sml X) : floatBits .sub .f64 (dirW Y X) f = some (d0W f Y X) ∧ Md (d0W f Y X) 2400000003 := by
  obtain ⟨g, b1, b2⟩ := dir_fin hY hX
  obtain ⟨i, a⟩ := Ap.sub (Ap.exact g b1 b2) (Ap.exact hf.fin hf.lo hf.hi) 1 2400000002 2400000002 (mid_of (by grind) (by grind)) (by grind) (by grind) (by grind)
  unfold d0W
  exact ⟨i, a.fin, by have := a.lo; have := a.bl; grind, by have := a.hi; have := a.bh; grind⟩
theorem d1_ok {d : Nat} (hd : Md d 2400000003) : floatBits .sub .f64 d 4741671816366391296 = some (fsub d 4741671816366391296) ∧ Md (d1W d) 2400000003 := by
  obtain ⟨i, a⟩ := Ap.sub (Ap.exact hd.fin hd.lo hd.hi) ap_turn (1 / 2) 3400000003 3400000003 (mid_of (by grind) (by grind)) (by grind) (by grind) (by grind)
  refine ⟨i, ?_⟩
  unfold d1W
  by_cases c : 500000000 < fv d
  · rw [if_pos c]
    exact ⟨a.fin, by have := a.lo; grind, by have := a.hi; have := hd.hi; grind⟩
  · rw [if_neg c]; exact hd
theorem d2_ok {d : Nat} (hd : Md d 2400000003) : floatBits .add .f64 d 4741671816366391296 = some (fadd d 4741671816366391296) ∧ Md (d2W d) 2400000003 := by
  obtain ⟨i, a⟩ := Ap.add (Ap.exact hd.fin hd.lo hd.hi) ap_turn (1 / 2) 3400000003 3400000003 (mid_of (by grind) (by grind)) (by grind) (by grind) (by grind)
  refine ⟨i, ?_⟩
  unfold d2W
  by_cases c : fv d < -500000000
  · rw [if_pos c]
    exact ⟨a.fin, by have := a.lo; have := hd.lo; grind, by have := a.hi; grind⟩
  · rw [if_neg c]; exact hd
theorem d1_ord {d : Nat} (hd : Md d 2400000003) : (500000000 < fv d ∧ FloatKind.f64.format.order d 4737168216739020800 = some .gt ∧ d1W d = fsub d 4741671816366391296) ∨ ((FloatKind.f64.format.order d 4737168216739020800 == some .gt) = false ∧ d1W d = d) := by
  have o := leq_ord hd.fin fv_half.1
  rw [fv_half.2] at o
  unfold d1W
  rcases o with ⟨o, h⟩ | ⟨o, h⟩ | ⟨o, h⟩
  · exact .inr ⟨by rw [o]; rfl, if_neg (by grind)⟩
  · exact .inr ⟨by rw [o]; rfl, if_neg (by grind)⟩
  · exact .inl ⟨h, o, if_pos h⟩
theorem d2_ord {d : Nat} (hd : Md d 2400000003) : (fv d < -500000000 ∧ FloatKind.f64.format.order d 13960540253593796608 = some .lt ∧ d2W d = fadd d 4741671816366391296) ∨ ((FloatKind.f64.format.order d 13960540253593796608 == some .lt) = false ∧ d2W d = d) := by
  have o := leq_ord hd.fin fv_half_neg.1
  rw [fv_half_neg.2] at o
  unfold d2W
  rcases o with ⟨o, h⟩ | ⟨o, h⟩ | ⟨o, h⟩
  · exact .inl ⟨h, o, if_pos h⟩
  · exact .inr ⟨by rw [o]; rfl, if_neg (by grind)⟩
  · exact .inr ⟨by rw [o]; rfl, if_neg (by grind)⟩
/-- The least and the greatest difference, one after another. -/
def arcLs (f : Nat) (a b c d : Int) : Nat → Nat
  | 0 => 0
  | 1 => fminW 0 (arcD f a d)
  | 2 => fminW (fminW 0 (arcD f a d)) (arcD f b c)
  | _ => fminW (fminW (fminW 0 (arcD f a d)) (arcD f b c)) (arcD f b d)
def arcGr (f : Nat) (a b c d : Int) : Nat → Nat
  | 0 => 0
  | 1 => fmaxW 0 (arcD f a d)
  | 2 => fmaxW (fmaxW 0 (arcD f a d)) (arcD f b c)
  | _ => fmaxW (fmaxW (fmaxW 0 (arcD f a d)) (arcD f b c)) (arcD f b d)
theorem md_zero : Md 0 2400000003 := ⟨fin_zero.1, by rw [fin_zero.2]; grind, by rw [fin_zero.2]; grind⟩
theorem md_min {x y : Nat} {B : Rat} (hx : Md x B) (hy : Md y B) : Md (fminW x y) B := by
  obtain ⟨f, v⟩ := fmin_ok hx.fin hy.fin
  have a := hx.lo; have b := hx.hi; have c := hy.lo; have d := hy.hi
  exact ⟨f, by rw [v]; grind, by rw [v]; grind⟩
theorem md_max {x y : Nat} {B : Rat} (hx : Md x B) (hy : Md y B) : Md (fmaxW x y) B := by
  obtain ⟨f, v⟩ := fmax_ok hx.fin hy.fin
  have a := hx.lo; have b := hx.hi; have c := hy.lo; have d := hy.hi
  exact ⟨f, by rw [v]; grind, by rw [v]; grind⟩
theorem arcD_md {f : Nat} {Y X : Int} (hf : Md f 1200000001) (hY : Sml Y) (hX : Sml X) : Md (arcD f Y X) 2400000003 := (d2_ok (d1_ok (d0_ok hf hY hX).2).2).2
/-- The interval of an arc. -/
def arcLo (a b c d : Int) : Int := aLo (fadd (dirW a c) (arcLs (dirW a c) a b c d 3))
def arcHi (a b c d : Int) : Int := aHi (fadd (dirW a c) (arcGr (dirW a c) a b c d 3))
theorem arc_sum {f l : Nat} (hf : Md f 1200000001) (hl : Md l 2400000003) : floatBits .add .f64 f l = some (fadd f l) ∧ AroundOk (fadd f l) (fv f + fv l) (2 / 10000) := by
  obtain ⟨i, a⟩ := Ap.add (Ap.exact hf.fin hf.lo hf.hi) (Ap.exact hl.fin hl.lo hl.hi) (1 / 100000) 3600000004 3600000004 (mid_of (by grind) (by grind)) (by grind) (by grind) (by grind)
  have := around_near (a.weak Rat.le_refl (by grind)) (by grind)
  refine ⟨i, ?_⟩
  obtain ⟨s1, s2, s3, s4, s5, s6, s7, s8, s9, s10⟩ := this
  exact ⟨s1, s2, s3, s4, s5, s6, by grind, by grind, by grind, by grind⟩
end Go.Proofs.YtcopmgnfakjdhaaDoor
