/- Parity, squares, quarters of a turn: the polynomials of XVS. -/
import Derived.Test.YtdeoahgcppbmkaaDoorVSP
import Derived.Test.YtdeoahgcppbmkaaDoorSinAcc
namespace Go.Proofs.YtdeoahgcppbmkaaDoor
set_option linter.unusedSimpArgs false
set_option linter.unusedVariables false

theorem pw_neg (x : Rat) : ∀ k, pw (-x) k = if k % 2 = 0 then pw x k else -pw x k
  | 0 => rfl
  | k + 1 => by
    rw [pw, pw, pw_neg x k]
    rcases (by omega : k % 2 = 0 ∨ k % 2 = 1) with h | h
    · rw [if_pos h, if_neg (by omega)]; grind
    · rw [if_neg (by omega), if_pos (by omega)]; grind
theorem cc_odd {k : Nat} (h : ¬ k % 2 = 0) : cc k = 0 := by
  unfold cc
  rcases (by omega : k % 4 = 1 ∨ k % 4 = 3) with e | e <;> (rw [e]; rfl)
theorem sc_even {k : Nat} (h : k % 2 = 0) : sc k = 0 := by
  unfold sc
  rcases (by omega : k % 4 = 0 ∨ k % 4 = 2) with e | e <;> (rw [e]; rfl)
theorem cf_neg (x : Rat) (k : Nat) : cf (-x) k = cf x k := by
  unfold cf
  rw [pw_neg]
  split
  · rfl
  · rename_i h; rw [cc_odd h]; grind
theorem sf_neg (x : Rat) (k : Nat) : sf (-x) k = -1 * sf x k := by
  unfold sf
  rw [pw_neg]
  split
  · rename_i h; rw [sc_even h]; grind
  · grind
theorem cs_neg (x : Rat) : cs (-x) = cs x := ss_congr NN (fun i _ => cf_neg x i)
theorem sn_neg (x : Rat) : sn (-x) = -sn x := by
  unfold sn
  rw [ss_congr NN (fun i _ => sf_neg x i), ss_mul]
  grind
/-- Cosine, sine and power, reckoned once. -/
def ev (x : Rat) : Nat → Rat × Rat × Rat
  | 0 => (0, 0, 1)
  | k + 1 => let p := ev x k; (p.1 + cc k * p.2.2, p.2.1 + sc k * p.2.2, p.2.2 * x / ((k : Rat) + 1))
theorem ev_eq (x : Rat) : ∀ n, ev x n = (ss (cf x) n, ss (sf x) n, pw x n)
  | 0 => rfl
  | n + 1 => by rw [ev, ev_eq x n]; rfl
theorem cs_ev (x : Rat) : cs x = (ev x NN).1 := by rw [ev_eq]; rfl
theorem sn_ev (x : Rat) : sn x = (ev x NN).2.1 := by rw [ev_eq]; rfl
theorem cs_zero : cs 0 = 1 := by rw [cs_ev]; decide +kernel
theorem sn_zero : sn 0 = 0 := by rw [sn_ev]; decide +kernel
theorem cs_q : Near (cs (2 * qq)) 0 (1 / 1000000000000000000000000000000) := by rw [cs_ev]; unfold Near qq kA kB kC; decide +kernel
theorem sn_q : Near (sn (2 * qq)) 1 (1 / 1000000000000000000000000000000) := by rw [sn_ev]; unfold Near qq kA kB kC; decide +kernel
theorem pyth {x : Rat} (h : -8 ≤ x ∧ x ≤ 8) : Near (cs x * cs x + sn x * sn x) 1 ep := by
  have a := cs_add h (show -8 ≤ -x ∧ -x ≤ 8 by grind)
  rw [show x + -x = 0 by grind, cs_zero, cs_neg, sn_neg] at a
  unfold Near at *
  grind
theorem one_of_sq {c : Rat} {e : Rat} (he : 0 ≤ e) (h : c * c ≤ 1 + e) : -(1 + e) ≤ c ∧ c ≤ 1 + e := by
  have key : ∀ d : Rat, d * d ≤ 1 + e → d ≤ 1 + e := by
    intro d hd
    apply Rat.not_lt.1
    intro hl
    have := Rat.mul_lt_mul_of_pos_right hl (show 0 < d by grind)
    have := Rat.mul_lt_mul_of_pos_left hl (show 0 < 1 + e by grind)
    have := Rat.mul_nonneg he he
    grind
  have a := key c h
  have b := key (-c) (by grind)
  grind
theorem sq_nonneg (c : Rat) : 0 ≤ c * c := by
  rcases (Rat.le_total : (0 : Rat) ≤ c ∨ c ≤ 0) with p | p
  · exact Rat.mul_nonneg p p
  · have := Rat.mul_nonneg (show 0 ≤ -c by grind) (show 0 ≤ -c by grind)
    grind
theorem ep_pos : (0 : Rat) ≤ ep := by unfold ep; grind
theorem cs_le {x : Rat} (h : -8 ≤ x ∧ x ≤ 8) : -(1 + ep) ≤ cs x ∧ cs x ≤ 1 + ep := by
  have a := (pyth h).2
  have b := sq_nonneg (sn x)
  exact one_of_sq ep_pos (by grind)
theorem sn_le {x : Rat} (h : -8 ≤ x ∧ x ≤ 8) : -(1 + ep) ≤ sn x ∧ sn x ≤ 1 + ep := by
  have a := (pyth h).2
  have b := sq_nonneg (cs x)
  exact one_of_sq ep_pos (by grind)
/-- The error of a quarter. -/
def eq1 : Rat := 2 / 1000000000000000000000000000
theorem qq_8 : -8 ≤ 2 * qq ∧ 2 * qq ≤ 8 := by unfold qq kA kB kC; constructor <;> grind
theorem sn_quarter {x : Rat} (h : -8 ≤ x ∧ x ≤ 8) : Near (sn (x + 2 * qq)) (cs x) eq1 := by
  have a := sn_add h qq_8
  have b := sn_q; have c := cs_q
  have s := sn_le h; have t := cs_le h
  have m1 := rmul_bd s (show -(1 / 1000000000000000000000000000000) ≤ cs (2 * qq) ∧ cs (2 * qq) ≤ 1 / 1000000000000000000000000000000 by unfold Near at c; grind)
  have m2 := rmul_bd t (show -(1 / 1000000000000000000000000000000) ≤ sn (2 * qq) - 1 ∧ sn (2 * qq) - 1 ≤ 1 / 1000000000000000000000000000000 by unfold Near at b; grind)
  unfold Near at *
  generalize cs (2 * qq) = p at *
  generalize sn (2 * qq) = q at *
  generalize sn (x + 2 * qq) = r at *
  unfold eq1 ep at *
  grind
theorem cs_quarter {x : Rat} (h : -8 ≤ x ∧ x ≤ 8) : Near (cs (x + 2 * qq)) (-sn x) eq1 := by
  have a := cs_add h qq_8
  have b := sn_q; have c := cs_q
  have s := sn_le h; have t := cs_le h
  have m1 := rmul_bd t (show -(1 / 1000000000000000000000000000000) ≤ cs (2 * qq) ∧ cs (2 * qq) ≤ 1 / 1000000000000000000000000000000 by unfold Near at c; grind)
  have m2 := rmul_bd s (show -(1 / 1000000000000000000000000000000) ≤ sn (2 * qq) - 1 ∧ sn (2 * qq) - 1 ≤ 1 / 1000000000000000000000000000000 by unfold Near at b; grind)
  unfold Near at *
  generalize cs (2 * qq) = p at *
  generalize sn (2 * qq) = q at *
  generalize cs (x + 2 * qq) = r at *
  unfold eq1 ep at *
  grind
/-- The sine by quarters. -/
def sgnV (e : Nat) (t : Rat) : Rat := match e with | 0 => sn t | 2 => cs t | 4 => -sn t | 6 => -cs t | 8 => sn t | _ => 0
def sgnW (e : Nat) (t : Rat) : Rat := match e with | 0 => cs t | 2 => -sn t | 4 => -cs t | 6 => sn t | 8 => cs t | _ => 0
theorem qq_lo : 785 / 1000 ≤ qq ∧ qq ≤ 786 / 1000 := by unfold qq kA kB kC; constructor <;> grind
theorem near_trans {a b c d e : Rat} (h1 : Near a b d) (h2 : Near b c e) : Near a c (d + e) := by unfold Near at *; grind
theorem near_neg {a b d : Rat} (h : Near a b d) : Near (-a) (-b) d := by unfold Near at *; grind
theorem near_refl (a : Rat) {d : Rat} (h : 0 ≤ d) : Near a a d := by unfold Near; grind
theorem eq1_pos : (0 : Rat) ≤ eq1 := by unfold eq1; grind
theorem oct_sn {Z : Rat} {e : Nat} (h : -(393 / 500) ≤ Z ∧ Z ≤ 393 / 500) (he : e % 2 = 0) (h8 : e ≤ 8) : Near (sn (Z + (e : Rat) * qq)) (sgnV e Z) (4 * eq1) ∧ Near (cs (Z + (e : Rat) * qq)) (sgnW e Z) (4 * eq1) := by
  have q := qq_lo
  have z0 : -8 ≤ Z ∧ Z ≤ 8 := by grind
  have z1 : -8 ≤ Z + 2 * qq ∧ Z + 2 * qq ≤ 8 := by grind
  have z2 : -8 ≤ Z + 2 * qq + 2 * qq ∧ Z + 2 * qq + 2 * qq ≤ 8 := by grind
  have z3 : -8 ≤ Z + 2 * qq + 2 * qq + 2 * qq ∧ Z + 2 * qq + 2 * qq + 2 * qq ≤ 8 := by grind
  have p := eq1_pos
  have s1 := sn_quarter z0; have c1 := cs_quarter z0
  have s2 := near_trans (sn_quarter z1) c1; have c2 := near_trans (cs_quarter z1) (near_neg s1)
  have s3 := near_trans (sn_quarter z2) c2; have c3 := near_trans (cs_quarter z2) (near_neg s2)
  have s4 := near_trans (sn_quarter z3) c3; have c4 := near_trans (cs_quarter z3) (near_neg s3)
  clear z0 z1 z2 z3 q
  rcases (by omega : e = 0 ∨ e = 2 ∨ e = 4 ∨ e = 6 ∨ e = 8) with rfl | rfl | rfl | rfl | rfl
  · rw [show Z + ((0 : Nat) : Rat) * qq = Z by rw [show ((0 : Nat) : Rat) = 0 from rfl]; grind]
    exact ⟨near_refl _ (by grind), near_refl _ (by grind)⟩
  · rw [show Z + ((2 : Nat) : Rat) * qq = Z + 2 * qq by rw [show ((2 : Nat) : Rat) = 2 from rfl]]
    exact ⟨near_weak s1 (by grind), near_weak c1 (by grind)⟩
  · rw [show Z + ((4 : Nat) : Rat) * qq = Z + 2 * qq + 2 * qq by rw [show ((4 : Nat) : Rat) = 4 from rfl]; grind]
    exact ⟨near_weak s2 (by grind), near_weak c2 (by grind)⟩
  · rw [show Z + ((6 : Nat) : Rat) * qq = Z + 2 * qq + 2 * qq + 2 * qq by rw [show ((6 : Nat) : Rat) = 6 from rfl]; grind]
    refine ⟨near_weak s3 (by grind), near_weak (b := sgnW 6 Z) ?_ (e := eq1 + (eq1 + eq1)) (by grind)⟩
    unfold sgnW Near at *
    grind
  · rw [show Z + ((8 : Nat) : Rat) * qq = Z + 2 * qq + 2 * qq + 2 * qq + 2 * qq by rw [show ((8 : Nat) : Rat) = 8 from rfl]; grind]
    refine ⟨near_weak (b := sgnV 8 Z) ?_ (e := eq1 + (eq1 + (eq1 + eq1))) (by grind), near_weak (b := sgnW 8 Z) ?_ (e := eq1 + (eq1 + (eq1 + eq1))) (by grind)⟩
    · unfold sgnV Near at *
      grind
    · unfold sgnW Near at *
      grind
/-- Go's polynomials by octants are near. -/
theorem sgnP_near {Z : Rat} {e : Nat} (h : -(393 / 500) ≤ Z ∧ Z ≤ 393 / 500) (he : e % 2 = 0) (h8 : e ≤ 8) : Near (sgnP e Z) (sn (Z + (e : Rat) * qq)) (13 / 10000000000000000) := by
  have o := (oct_sn h he h8).1
  have s := nearS h; have c := nearC h
  unfold Near sgnV at *
  unfold sgnP eq1 at *
  rcases (by omega : e = 0 ∨ e = 2 ∨ e = 4 ∨ e = 6 ∨ e = 8) with rfl | rfl | rfl | rfl | rfl <;> ((try dsimp only at *); grind)
theorem sgnC_near {Z : Rat} {e : Nat} (h : -(393 / 500) ≤ Z ∧ Z ≤ 393 / 500) (he : e % 2 = 0) (h8 : e ≤ 8) : Near (sgnC e Z) (cs (Z + (e : Rat) * qq)) (13 / 10000000000000000) := by
  have o := (oct_sn h he h8).2
  have s := nearS h; have c := nearC h
  unfold Near sgnW at *
  unfold sgnC eq1 at *
  rcases (by omega : e = 0 ∨ e = 2 ∨ e = 4 ∨ e = 6 ∨ e = 8) with rfl | rfl | rfl | rfl | rfl <;> ((try dsimp only at *); grind)
/-- A whole turn. -/
theorem turn_sn {x : Rat} (h : -(15 / 10) ≤ x ∧ x ≤ 15 / 10) : Near (sn (x + 8 * qq)) (sn x) (4 * eq1) ∧ Near (cs (x + 8 * qq)) (cs x) (4 * eq1) := by
  have q := qq_lo
  have z0 : -8 ≤ x ∧ x ≤ 8 := by grind
  have z1 : -8 ≤ x + 2 * qq ∧ x + 2 * qq ≤ 8 := by grind
  have z2 : -8 ≤ x + 2 * qq + 2 * qq ∧ x + 2 * qq + 2 * qq ≤ 8 := by grind
  have z3 : -8 ≤ x + 2 * qq + 2 * qq + 2 * qq ∧ x + 2 * qq + 2 * qq + 2 * qq ≤ 8 := by grind
  have s1 := sn_quarter z0; have c1 := cs_quarter z0
  have s2 := near_trans (sn_quarter z1) c1; have c2 := near_trans (cs_quarter z1) (near_neg s1)
  have s3 := near_trans (sn_quarter z2) c2; have c3 := near_trans (cs_quarter z2) (near_neg s2)
  have s4 := near_trans (sn_quarter z3) c3; have c4 := near_trans (cs_quarter z3) (near_neg s3)
  rw [show x + 8 * qq = x + 2 * qq + 2 * qq + 2 * qq + 2 * qq by grind]
  clear z0 z1 z2 z3 q s1 c1 s2 c2 s3 c3
  unfold Near at *
  grind
theorem full_turn : Near (sn (8 * qq)) 0 (4 * eq1) ∧ Near (cs (8 * qq)) 1 (4 * eq1) := by
  have := turn_sn (x := 0) (by grind)
  rw [cs_zero, sn_zero, show (0 : Rat) + 8 * qq = 8 * qq by grind] at this
  exact this
theorem qq_88 : -8 ≤ 8 * qq ∧ 8 * qq ≤ 8 := by have := qq_lo; grind
/-- A turn more makes no difference. -/
theorem turn_any {x : Rat} (h : -8 ≤ x ∧ x ≤ 8) : Near (sn (x + 8 * qq)) (sn x) (20 * eq1) ∧ Near (cs (x + 8 * qq)) (cs x) (20 * eq1) := by
  have a := sn_add h qq_88
  have b := cs_add h qq_88
  have f := full_turn
  have s := sn_le h; have t := cs_le h
  obtain ⟨f1, f2⟩ := f
  have m1 := rmul_bd s (show -(4 * eq1) ≤ sn (8 * qq) ∧ sn (8 * qq) ≤ 4 * eq1 by unfold Near at f1; grind)
  have m2 := rmul_bd t (show -(4 * eq1) ≤ sn (8 * qq) ∧ sn (8 * qq) ≤ 4 * eq1 by unfold Near at f1; grind)
  have m3 := rmul_bd s (show -(4 * eq1) ≤ cs (8 * qq) - 1 ∧ cs (8 * qq) - 1 ≤ 4 * eq1 by unfold Near at f2; grind)
  have m4 := rmul_bd t (show -(4 * eq1) ≤ cs (8 * qq) - 1 ∧ cs (8 * qq) - 1 ≤ 4 * eq1 by unfold Near at f2; grind)
  unfold Near at *
  generalize cs (8 * qq) = p at *
  generalize sn (8 * qq) = q at *
  generalize sn (x + 8 * qq) = r1 at *
  generalize cs (x + 8 * qq) = r2 at *
  clear f1 f2
  unfold eq1 ep at *
  constructor <;> grind
end Go.Proofs.YtdeoahgcppbmkaaDoor
