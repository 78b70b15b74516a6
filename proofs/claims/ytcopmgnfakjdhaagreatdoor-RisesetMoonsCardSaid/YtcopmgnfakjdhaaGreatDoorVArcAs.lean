/- Merged by wip/tools/pack.py out of XRootW, XArcTK, XAsin. -/
import Derived.Test.YtcopmgnfakjdhaaGreatDoorVFloat
import Derived.Test.YtcopmgnfakjdhaaGreatDoorVMathW
import Derived.Test.YtcopmgnfakjdhaaGreatDoorVIval
import Derived.Test.YtcopmgnfakjdhaaGreatDoorVBasic
import Derived.Test.YtcopmgnfakjdhaaGreatDoorVArcsP
import Derived.Test.YtcopmgnfakjdhaaGreatDoorVArcW
/- math.Sqrt, whole.Root, trig.Root at this program. -/
namespace Go.Proofs.YtcopmgnfakjdhaaGreatDoor
open Go.RowKit
set_option linter.unusedSimpArgs false
set_option linter.unusedVariables false
theorem fsqrt_run {x : Nat} (h : Ieee.double.sqrt x = some (fsqrt x)) (w : World) : (callFunc 130 #[.float .f64 x]).run Tryz.prog w = .ok (.value (.float .f64 (fsqrt x))) w := by
  rw [run_callFunc_extern Tryz.func130 (by kernel_rfl) (by kernel_rfl) (by kernel_rfl) (e := Extern.MathSqrt.sqrt) (by kernel_rfl)]
  have h' : FloatKind.f64.format.sqrt x = some (fsqrt x) := h
  have e : Extern.MathSqrt.sqrt #[.float .f64 x] = pure (.float .f64 (fsqrt x)) := by
    show (match FloatKind.f64.format.sqrt x with
      | some r => (pure (Value.float .f64 r) : Sem Value)
      | none => do pure (Value.float .f64 (← choose (.nanBits .f64 x x)))) = _
    rw [h']
  rw [e]
  rfl
theorem Sqrt_ok {x : Nat} (h : Ieee.double.sqrt x = some (fsqrt x)) (w : World) : Calls Tryz.prog 113 #[.float .f64 x] w fun e w' => e = .returned (.float .f64 (fsqrt x)) ∧ w' = w := by
  have h2 := fsqrt_run h
  clear h
  generalize fsqrt x = r at *
  go_enter Tryz.func113, Tryz.ntmps113
  go_wp2
  go_ret
  exact ⟨rfl, rfl⟩
end Go.Proofs.YtcopmgnfakjdhaaGreatDoor
/- Merged by wip/tools/pack.py out of XArcT, XArcK. -/
/- trig.Arc, plain: the interval contains the angles of the points of the box. -/
namespace Go.Proofs.YtcopmgnfakjdhaaGreatDoor
set_option linter.unusedSimpArgs false
set_option linter.unusedVariables false
def ka : Rat := 8 * qq / 1000000000
theorem ka_bd : 62831848 / 10000000000000000 ≤ ka ∧ ka ≤ 62831856 / 10000000000000000 := by have := qq_b9; unfold ka; constructor <;> grind
theorem ang_ka (a : Int) : ang a = ka * (a : Rat) := by unfold ang ka; grind
theorem pi_near : Near (8 * qq) a2Pi (1 / 1000000000000000) := by unfold Near qq kA kB kC a2Pi; constructor <;> grind
theorem dir_rad {Y X : Int} (hY : Sml Y) (hX : Sml X) (h0 : Y ≠ 0 ∨ X ≠ 0) : Near (ka * fv (dirW Y X)) (dirV Y X) (5 / 100000000000000) := by
  obtain ⟨D, n⟩ := dir_main hY hX h0
  obtain ⟨-, -, a⟩ := dir_ok hY hX
  have p := bd_a2Pi; have k := ka_bd; have pn := pi_near
  have l := D.lo; have u := D.hi
  have al := a.lo; have au := a.hi
  clear a D
  unfold Near at n pn ⊢
  generalize fv (dirW Y X) = w at *
  generalize fv (at2W Y X) = v at *
  generalize dirV Y X = t at *
  have e : v / a2Pi * a2Pi = v := by grind
  obtain ⟨g, hg⟩ : ∃ g, g = v / a2Pi := ⟨_, rfl⟩
  rw [← hg] at e al au
  have gb := div_bd (a := v) (b := a2Pi) (B := 6 / 10) (by grind) (by grind) (by grind)
  rw [← hg] at gb
  have m := rmul_bd (a := g) (b := 8 * qq - a2Pi) (A := 6 / 10) (B := 1 / 1000000000000000) gb (by grind)
  have m2 := rmul_bd (a := ka) (b := w - g * 1000000000) (A := 62831856 / 10000000000000000) (B := 1 / 1000000) (by grind) (by grind)
  have e2 : ka * (g * 1000000000) = g * (8 * qq) := by unfold ka; grind
  clear hg gb p k
  have e3 : ka * (w - g * 1000000000) = ka * w - g * (8 * qq) := by rw [← e2]; grind
  rw [e3] at m2
  have e4 : g * (8 * qq - a2Pi) = g * (8 * qq) - v := by rw [← e]; grind
  rw [e4] at m
  clear e2 e3 e4 e
  generalize ka * w = kw at *
  generalize g * (8 * qq) = gq at *
  constructor <;> grind
theorem arcD_near {f : Nat} {Y X : Int} (hf : Md f 1200000001) (hY : Sml Y) (hX : Sml X) : ∃ j : Int, (j = 0 ∨ j = 1 ∨ j = -1) ∧ Near (fv (arcD f Y X)) (fv (dirW Y X) - fv f - 1000000000 * (j : Rat)) (3 / 1000000) := by
  obtain ⟨g, b1, b2⟩ := dir_fin hY hX
  have a0 := (Ap.sub (Ap.exact g b1 b2) (Ap.exact hf.fin hf.lo hf.hi) (1 / 1000000) 2400000002 2400000002 (mid_of (by grind) (by grind)) (by grind) (by grind) (by grind)).2
  have m0 := (d0_ok hf hY hX).2
  have m1 := (d1_ok m0).2
  have n0 : Near (fv (d0W f Y X)) (fv (dirW Y X) - fv f) (1 / 1000000) := ⟨a0.lo, a0.hi⟩
  have s1 := (Ap.sub (Ap.exact m0.fin m0.lo m0.hi) ap_turn (1 / 1000000) 3400000003 3400000003 (mid_of (by grind) (by grind)) (by grind) (by grind) (by grind)).2
  have s2 := (Ap.add (Ap.exact m1.fin m1.lo m1.hi) ap_turn (1 / 1000000) 3400000003 3400000003 (mid_of (by grind) (by grind)) (by grind) (by grind) (by grind)).2
  have t1 : Near (fv (fsub (d0W f Y X) 4741671816366391296)) (fv (d0W f Y X) - 1000000000) (1 / 1000000) := ⟨s1.lo, s1.hi⟩
  have t2 : Near (fv (fadd (d1W (d0W f Y X)) 4741671816366391296)) (fv (d1W (d0W f Y X)) + 1000000000) (1 / 1000000) := ⟨s2.lo, s2.hi⟩
  have z0 : ((0 : Int) : Rat) = 0 := rfl
  have z1 : ((1 : Int) : Rat) = 1 := rfl
  have z2 : ((-1 : Int) : Rat) = -1 := rfl
  have ml := m0.lo; have mh := m0.hi
  clear a0 s1 s2 m0 m1 b1 b2 g
  unfold arcD
  obtain ⟨x, hx⟩ : ∃ x, x = fv (d0W f Y X) := ⟨_, rfl⟩
  by_cases c1 : 500000000 < fv (d0W f Y X)
  · have e1 : d1W (d0W f Y X) = fsub (d0W f Y X) 4741671816366391296 := if_pos c1
    rw [e1] at t2 ⊢
    by_cases c2 : fv (fsub (d0W f Y X) 4741671816366391296) < -500000000
    · have e2 : d2W (fsub (d0W f Y X) 4741671816366391296) = fadd (fsub (d0W f Y X) 4741671816366391296) 4741671816366391296 := if_pos c2
      rw [e2]
      refine ⟨0, .inl rfl, ?_⟩
      rw [z0]
      clear c2 c1 hx e1 e2
      unfold Near at *
      constructor <;> grind
    · have e2 : d2W (fsub (d0W f Y X) 4741671816366391296) = fsub (d0W f Y X) 4741671816366391296 := if_neg c2
      rw [e2]
      refine ⟨1, .inr (.inl rfl), ?_⟩
      rw [z1]
      clear t2 c2 hx e1 e2
      unfold Near at *
      constructor <;> grind
  · have e1 : d1W (d0W f Y X) = d0W f Y X := if_neg c1
    rw [e1] at t2 ⊢
    by_cases c2 : fv (d0W f Y X) < -500000000
    · have e2 : d2W (d0W f Y X) = fadd (d0W f Y X) 4741671816366391296 := if_pos c2
      rw [e2]
      refine ⟨-1, .inr (.inr rfl), ?_⟩
      rw [z2]
      clear t1 c1 c2 hx e1 e2
      unfold Near at *
      constructor <;> grind
    · have e2 : d2W (d0W f Y X) = d0W f Y X := if_neg c2
      rw [e2]
      refine ⟨0, .inl rfl, ?_⟩
      rw [z0]
      clear t1 t2 c1 c2 hx e1 e2
      unfold Near at *
      constructor <;> grind
theorem dir_turn {t Y X R : Rat} (h : DirOk t Y X R) (hX : -R ≤ X ∧ X ≤ R) (hY : -R ≤ Y ∧ Y ≤ R) (j : Int) (hj : j = 0 ∨ j = 1 ∨ j = -1) (hp : -6 ≤ t - 8 * qq * (j : Rat) ∧ t - 8 * qq * (j : Rat) ≤ 6) {M : Rat} (hM : -8 ≤ M ∧ M ≤ 8) :
    ∃ r, Seen (Y * cs M - X * sn M) (X * cs M + Y * sn M) r R (t - 8 * qq * (j : Rat) - M) := by
  have q := qq_b9
  obtain ⟨n, p, l, u⟩ := h
  have R0 : 0 ≤ R := by grind
  have key : Near (sn (t - 8 * qq * (j : Rat))) (sn t) (20 * eq1) ∧ Near (cs (t - 8 * qq * (j : Rat))) (cs t) (20 * eq1) := by
    rcases hj with rfl | rfl | rfl
    · rw [show ((0 : Int) : Rat) = 0 from rfl, show t - 8 * qq * 0 = t by grind]
      exact ⟨near_refl _ (by unfold eq1; grind), near_refl _ (by unfold eq1; grind)⟩
    · rw [show ((1 : Int) : Rat) = 1 from rfl] at hp ⊢
      have e := turn_any (x := t - 8 * qq * 1) (by grind)
      rw [show t - 8 * qq * 1 + 8 * qq = t by grind] at e
      refine ⟨?_, ?_⟩ <;> (unfold Near at *; grind)
    · rw [show ((-1 : Int) : Rat) = -1 from rfl, show t - 8 * qq * -1 = t + 8 * qq by grind] at *
      exact turn_any (x := t) (by grind)
  obtain ⟨k1, k2⟩ := key
  have xs := rmul_bd (a := X) (b := sn (t - 8 * qq * (j : Rat)) - sn t) (A := R) (B := 20 * eq1) hX (by unfold Near at k1; grind)
  have ys := rmul_bd (a := Y) (b := sn (t - 8 * qq * (j : Rat)) - sn t) (A := R) (B := 20 * eq1) hY (by unfold Near at k1; grind)
  have xc := rmul_bd (a := X) (b := cs (t - 8 * qq * (j : Rat)) - cs t) (A := R) (B := 20 * eq1) hX (by unfold Near at k2; grind)
  have yc := rmul_bd (a := Y) (b := cs (t - 8 * qq * (j : Rat)) - cs t) (A := R) (B := 20 * eq1) hY (by unfold Near at k2; grind)
  have hs := seen_of' (t := t - 8 * qq * (j : Rat)) (Y := Y) (X := X) (R := R) (M := M) ?_ ?_ (by grind) hX hY hM
  · exact ⟨_, hs⟩
  · clear p k1 k2 q l u hp hX hY hM
    generalize sn (t - 8 * qq * (j : Rat)) = s' at *
    generalize cs (t - 8 * qq * (j : Rat)) = c' at *
    generalize sn t = s at *
    generalize cs t = c at *
    unfold Near eq1 at *
    constructor <;> grind
  · clear n k1 k2 q l u hp hX hY hM
    generalize sn (t - 8 * qq * (j : Rat)) = s' at *
    generalize cs (t - 8 * qq * (j : Rat)) = c' at *
    generalize sn t = s at *
    generalize cs t = c at *
    unfold eq1 at *
    grind
theorem sz_bd (Y X : Int) : (-szR Y X ≤ (X : Rat) ∧ (X : Rat) ≤ szR Y X) ∧ (-szR Y X ≤ (Y : Rat) ∧ (Y : Rat) ≤ szR Y X) := by
  have n : ∀ n : Int, -(n.natAbs : Rat) ≤ (n : Rat) ∧ (n : Rat) ≤ (n.natAbs : Rat) := fun n => by
    have h1 : -(n.natAbs : Int) ≤ n := by omega
    have h2 : n ≤ (n.natAbs : Int) := by omega
    replace h1 := Rat.intCast_le_intCast.2 h1
    replace h2 := Rat.intCast_le_intCast.2 h2
    rw [Rat.intCast_neg, Rat.intCast_natCast] at h1
    rw [Rat.intCast_natCast] at h2
    exact ⟨h1, h2⟩
  have a := n X; have b := n Y
  have c := nat_nonneg X.natAbs; have d := nat_nonneg Y.natAbs
  unfold szR
  grind
theorem sz_pos {Y X : Int} (h : Y ≠ 0 ∨ X ≠ 0) : 0 < szR Y X := by
  unfold szR
  rw [← Rat.natCast_add]
  have : ((0 : Nat) : Rat) < ((X.natAbs + Y.natAbs : Nat) : Rat) := Rat.natCast_lt_natCast.2 (by omega)
  exact this
theorem crn_of {Y X : Int} (hY : Sml Y) (hX : Sml X) (h0 : Y ≠ 0 ∨ X ≠ 0) {f L G D rho : Rat} {j : Int} (hj : j = 0 ∨ j = 1 ∨ j = -1) (nD : Near D (fv (dirW Y X) - f - 1000000000 * (j : Rat)) (3 / 1000000)) (l1 : L ≤ D) (l2 : D ≤ G) (l3 : G - L ≤ 400000000)
    (m1 : -(47 / 10) ≤ ka * (f + (L + G) / 2) ∧ ka * (f + (L + G) / 2) ≤ 47 / 10) (hr : szR Y X ≤ 4 * rho) : Crn (X : Rat) (Y : Rat) (ka * (f + (L + G) / 2)) (ka * ((G - L) / 2) + 1 / 10000000000000) rho := by
  have dr := dir_rad hY hX h0
  have dm := (dir_main hY hX h0).1
  obtain ⟨bx, by'⟩ := sz_bd Y X
  have sp := sz_pos h0
  have k := ka_bd
  have kj : ka * (1000000000 * (j : Rat)) = 8 * qq * (j : Rat) := by unfold ka; grind
  have b : -(ka * ((G - L) / 2) + 1 / 10000000000000) ≤ dirV Y X - 8 * qq * (j : Rat) - ka * (f + (L + G) / 2) ∧ dirV Y X - 8 * qq * (j : Rat) - ka * (f + (L + G) / 2) ≤ ka * ((G - L) / 2) + 1 / 10000000000000 := by
    unfold Near at nD dr
    have p1 := Rat.mul_le_mul_of_nonneg_left nD.1 (show 0 ≤ ka by grind)
    have p2 := Rat.mul_le_mul_of_nonneg_left nD.2 (show 0 ≤ ka by grind)
    have p3 := Rat.mul_le_mul_of_nonneg_left l1 (show 0 ≤ ka by grind)
    have p4 := Rat.mul_le_mul_of_nonneg_left l2 (show 0 ≤ ka by grind)
    rw [← kj]
    clear dm bx by' sp hr m1 l1 l2 l3 nD kj
    generalize dirV Y X = t at *
    generalize fv (dirW Y X) = w at *
    generalize (j : Rat) = j at *
    constructor <;> grind
  have hb : ka * ((G - L) / 2) ≤ 12567 / 10000 := by
    have := Rat.mul_le_mul_of_nonneg_left l3 (show 0 ≤ ka by grind)
    grind
  have key : ∀ t jj hh mm : Rat, (-(hh + 1 / 10000000000000) ≤ t - jj - mm ∧ t - jj - mm ≤ hh + 1 / 10000000000000) → hh ≤ 12567 / 10000 → (-(47 / 10) ≤ mm ∧ mm ≤ 47 / 10) → (-6 ≤ t - jj ∧ t - jj ≤ 6) ∧ (-8 ≤ mm ∧ mm ≤ 8) := fun t jj hh mm h1 h2 h3 => by
    refine ⟨⟨?_, ?_⟩, ?_, ?_⟩ <;> grind
  obtain ⟨y1, y2⟩ := key _ _ _ _ b hb m1
  obtain ⟨r, s⟩ := dir_turn dm bx by' j hj y1 (M := ka * (f + (L + G) / 2)) y2
  exact ⟨r, szR Y X, _, s, b.1, b.2, sp, hr⟩
end Go.Proofs.YtcopmgnfakjdhaaGreatDoor
/- Arcs over small boxes are narrow, plain. -/
namespace Go.Proofs.YtcopmgnfakjdhaaGreatDoor
set_option linter.unusedSimpArgs false
set_option linter.unusedVariables false
theorem to_half8 {z : Rat} (h : -8 ≤ z ∧ z ≤ 8) : ∃ k : Int, (k = 0 ∨ k = 1 ∨ k = -1) ∧ -(4 * qq) ≤ z + 8 * qq * (k : Rat) ∧ z + 8 * qq * (k : Rat) ≤ 4 * qq ∧ Near (sn (z + 8 * qq * (k : Rat))) (sn z) (40 * eq1) ∧ Near (cs (z + 8 * qq * (k : Rat))) (cs z) (40 * eq1) := by
  have b := qq_b9; have e := eq1_pos
  by_cases c1 : z < -(4 * qq)
  · refine ⟨1, .inr (.inl rfl), ?_⟩
    rw [show ((1 : Int) : Rat) = 1 from rfl, show z + 8 * qq * 1 = z + 8 * qq by grind]
    have t := turn_any (x := z) h
    exact ⟨by grind, by grind, near_weak t.1 (by grind), near_weak t.2 (by grind)⟩
  · by_cases c2 : z ≤ 4 * qq
    · refine ⟨0, .inl rfl, ?_⟩
      rw [show ((0 : Int) : Rat) = 0 from rfl, show z + 8 * qq * 0 = z by grind]
      exact ⟨by grind, c2, near_refl _ (by grind), near_refl _ (by grind)⟩
    · refine ⟨-1, .inr (.inr rfl), ?_⟩
      rw [show ((-1 : Int) : Rat) = -1 from rfl, show z + 8 * qq * -1 = z - 8 * qq by grind]
      have t := turn_any (x := z - 8 * qq) (by grind)
      rw [show z - 8 * qq + 8 * qq = z by grind] at t
      refine ⟨by grind, by grind, ?_, ?_⟩ <;> (unfold Near at *; grind)
theorem corner_tight {t Y X R A rho e : Rat} (D : DirOk t Y X R) (hX : -R ≤ X ∧ X ≤ R) (hY : -R ≤ Y ∧ Y ≤ R) (hR : R ≤ 4 * rho) (r0 : 0 < rho) (hA : -(34 / 10) ≤ A ∧ A ≤ 34 / 10) (he : e ≤ rho / 100) (nx : Near X (rho * cs A) e) (ny : Near Y (rho * sn A) e) :
    ∃ k : Int, (k = 0 ∨ k = 1 ∨ k = -1) ∧ Near (t - A + 8 * qq * (k : Rat)) 0 (5 * (e / rho) + 1 / 10000000000000) := by
  have t8 : -8 ≤ t ∧ t ≤ 8 := by have := D.lo; have := D.hi; grind
  have A8 : -8 ≤ A ∧ A ≤ 8 := by grind
  have q := qq_b9
  have se := seen_of' (near_weak D.near (by grind)) (by have := D.pos; grind) t8 hX hY A8
  obtain ⟨k, hk, k1, k2, ks, kc⟩ := to_half8 (z := t - A) (by have := D.lo; have := D.hi; grind)
  refine ⟨k, hk, ?_⟩
  have sA := sn_le A8; have cA := cs_le A8; have py := pyth A8
  have e0 : 0 ≤ e := by unfold Near at nx; grind
  have p1 := rmul_bd (a := X - rho * cs A) (b := sn A) (A := e) (B := 101 / 100) (by unfold Near at nx; grind) (by unfold ep at sA; grind)
  have p2 := rmul_bd (a := X - rho * cs A) (b := cs A) (A := e) (B := 101 / 100) (by unfold Near at nx; grind) (by unfold ep at cA; grind)
  have p3 := rmul_bd (a := Y - rho * sn A) (b := sn A) (A := e) (B := 101 / 100) (by unfold Near at ny; grind) (by unfold ep at sA; grind)
  have p4 := rmul_bd (a := Y - rho * sn A) (b := cs A) (A := e) (B := 101 / 100) (by unfold Near at ny; grind) (by unfold ep at cA; grind)
  have pr := near_mulR py (Rat.le_of_lt r0)
  have S1 : -(203 / 100 * e) ≤ Y * cs A - X * sn A ∧ Y * cs A - X * sn A ≤ 203 / 100 * e := by
    clear p2 p3 pr sA cA py se ks kc
    generalize sn A = s at *
    generalize cs A = c at *
    constructor <;> grind
  have C1 : 97 / 100 * rho ≤ X * cs A + Y * sn A := by
    clear p1 p4 sA cA py se ks kc
    unfold Near ep at pr
    generalize sn A = s at *
    generalize cs A = c at *
    grind
  clear p1 p2 p3 p4 pr sA cA py nx ny
  obtain ⟨s, c, r1, r2⟩ := se
  generalize Y * cs A - X * sn A = S at *
  generalize X * cs A + Y * sn A = C at *
  generalize X * cs t + Y * sn t = r at *
  have zb : -8 ≤ t - A + 8 * qq * (k : Rat) ∧ t - A + 8 * qq * (k : Rat) ≤ 8 := ⟨Rat.le_trans (show (-8 : Rat) ≤ -(4 * qq) by clear k1 k2 ks kc; grind) k1, Rat.le_trans k2 (show 4 * qq ≤ 8 by clear k1 k2 ks kc; grind)⟩
  obtain ⟨z, hz⟩ : ∃ z, z = t - A + 8 * qq * (k : Rat) := ⟨_, rfl⟩
  rw [← hz] at ks kc k1 k2 zb ⊢
  have cz := cs_le zb
  have rp : 0 < r := by
    apply Rat.not_le.1
    intro l
    have z0 : r = 0 := by grind
    rw [z0] at c
    unfold Near at c
    grind
  have n1 := near_mulR ks (Rat.le_of_lt rp)
  have n2 := near_mulR kc (Rat.le_of_lt rp)
  have m := rmul_bd (a := r) (b := cs z) (A := r) (B := 101 / 100) (by grind) (by unfold ep at cz; grind)
  have rb : 95 / 100 * rho ≤ r := by
    unfold Near eq1 at *
    clear n1 ks kc s cz
    grind
  have c0 : -(1 / 1000) ≤ cs z := by
    apply Rat.not_lt.1
    intro l
    have := Rat.mul_lt_mul_of_pos_left l rp
    unfold Near eq1 at *
    clear n1 ks kc s cz m
    grind
  have qz := quarter_of ⟨k1, k2⟩ (show (0 : Rat) ≤ 1 / 1000 by grind) c0
  unfold eq1 at qz
  have ee : e / rho * rho = e := by grind
  obtain ⟨g, hg⟩ : ∃ g, g = e / rho := ⟨_, rfl⟩
  rw [← hg] at ee ⊢
  clear hg n2 kc c C1 m c0 cz
  have up : ∀ u : Rat, 0 ≤ u → u ≤ 8 / 5 → r * sn u ≤ 204 / 100 * e + 15 / 1000000000000000 * rho → u ≤ 5 * g + 1 / 10000000000000 := fun u u0 u1 hu => by
    have h := sn_half u0 u1
    have a := Rat.mul_le_mul_of_nonneg_left h (Rat.le_of_lt rp)
    have b := Rat.mul_le_mul_of_nonneg_right rb (show 0 ≤ u / 2 by grind)
    apply Rat.not_lt.1
    intro l
    have d := Rat.mul_lt_mul_of_pos_left l r0
    clear s n1 ks qz zb k1 k2 hz S1
    generalize sn u = su at *
    grind
  have tiny : r * (40 * eq1) ≤ 1 / 1000000000000000 * rho := by unfold eq1; grind
  unfold Near at s n1
  unfold Near
  by_cases z0 : 0 ≤ z
  · have := up z z0 (by grind) (by grind)
    grind
  · have := up (-z) (by grind) (by grind) (by rw [sn_neg]; grind)
    grind
theorem arcD_half {f : Nat} {Y X : Int} (hf : Md f 540000000) (hd : -540000000 ≤ fv (dirW Y X) ∧ fv (dirW Y X) ≤ 540000000) (hY : Sml Y) (hX : Sml X) : -500000001 ≤ fv (arcD f Y X) ∧ fv (arcD f Y X) ≤ 500000001 := by
  obtain ⟨g, b1, b2⟩ := dir_fin hY hX
  have hf2 : Md f 1200000001 := ⟨hf.fin, by have := hf.lo; grind, by have := hf.hi; grind⟩
  have a0 := (Ap.sub (Ap.exact g b1 b2) (Ap.exact hf2.fin hf2.lo hf2.hi) (1 / 1000000) 2400000002 2400000002 (mid_of (by grind) (by grind)) (by grind) (by grind) (by grind)).2
  have m0 := (d0_ok hf2 hY hX).2
  have m1 := (d1_ok m0).2
  have n0 : Near (fv (d0W f Y X)) (fv (dirW Y X) - fv f) (1 / 1000000) := ⟨a0.lo, a0.hi⟩
  have s1 := (Ap.sub (Ap.exact m0.fin m0.lo m0.hi) ap_turn (1 / 1000000) 3400000003 3400000003 (mid_of (by grind) (by grind)) (by grind) (by grind) (by grind)).2
  have s2 := (Ap.add (Ap.exact m1.fin m1.lo m1.hi) ap_turn (1 / 1000000) 3400000003 3400000003 (mid_of (by grind) (by grind)) (by grind) (by grind) (by grind)).2
  have t1 : Near (fv (fsub (d0W f Y X) 4741671816366391296)) (fv (d0W f Y X) - 1000000000) (1 / 1000000) := ⟨s1.lo, s1.hi⟩
  have t2 : Near (fv (fadd (d1W (d0W f Y X)) 4741671816366391296)) (fv (d1W (d0W f Y X)) + 1000000000) (1 / 1000000) := ⟨s2.lo, s2.hi⟩
  have fl := hf.lo; have fh := hf.hi
  clear a0 s1 s2 m0 m1 b1 b2 g hf hf2
  unfold arcD
  by_cases c1 : 500000000 < fv (d0W f Y X)
  · have e1 : d1W (d0W f Y X) = fsub (d0W f Y X) 4741671816366391296 := if_pos c1
    rw [e1] at t2 ⊢
    by_cases c2 : fv (fsub (d0W f Y X) 4741671816366391296) < -500000000
    · have e2 : d2W (fsub (d0W f Y X) 4741671816366391296) = fadd (fsub (d0W f Y X) 4741671816366391296) 4741671816366391296 := if_pos c2
      rw [e2]
      clear e1 e2
      unfold Near at *
      constructor <;> grind
    · have e2 : d2W (fsub (d0W f Y X) 4741671816366391296) = fsub (d0W f Y X) 4741671816366391296 := if_neg c2
      rw [e2]
      clear t2 e1 e2
      unfold Near at *
      constructor <;> grind
  · have e1 : d1W (d0W f Y X) = d0W f Y X := if_neg c1
    rw [e1] at t2 ⊢
    by_cases c2 : fv (d0W f Y X) < -500000000
    · have e2 : d2W (d0W f Y X) = fadd (d0W f Y X) 4741671816366391296 := if_pos c2
      rw [e2]
      clear t1 e1 e2
      unfold Near at *
      constructor <;> grind
    · have e2 : d2W (d0W f Y X) = d0W f Y X := if_neg c2
      rw [e2]
      clear t1 t2 e1 e2
      unfold Near at *
      constructor <;> grind
theorem tight_one {f t1 t w D A eta : Rat} {k1 k j : Int} (hf : Near (ka * f) t1 (5 / 100000000000000)) (hw : Near (ka * w) t (5 / 100000000000000)) (hD : Near D (w - f - 1000000000 * (j : Rat)) (3 / 1000000)) (hb : -500000001 ≤ D ∧ D ≤ 500000001)
    (z1 : Near (t1 - A + 8 * qq * (k1 : Rat)) 0 eta) (z : Near (t - A + 8 * qq * (k : Rat)) 0 eta) (he : eta ≤ 6 / 100) : Near (ka * (f + D)) (A - 8 * qq * (k1 : Rat)) (eta + 1 / 10000000000000) := by
  have q := qq_b9; have kb := ka_bd
  have kj : ka * (1000000000 * (j : Rat)) = 8 * qq * (j : Rat) := by unfold ka; grind
  unfold Near at *
  have p1 := Rat.mul_le_mul_of_nonneg_left hD.1 (show 0 ≤ ka by grind)
  have p2 := Rat.mul_le_mul_of_nonneg_left hD.2 (show 0 ≤ ka by grind)
  have p3 := Rat.mul_le_mul_of_nonneg_left hb.1 (show 0 ≤ ka by grind)
  have p4 := Rat.mul_le_mul_of_nonneg_left hb.2 (show 0 ≤ ka by grind)
  rw [show ka * -500000001 = -(ka * 500000001) by grind] at p3
  have kq : ka * 500000001 ≤ 4 * qq + 1 / 100000000 := by unfold ka; grind
  have ks : ka * (3 / 1000000) ≤ 2 / 100000000000000 := by grind
  have em : ((k + j - k1 : Int) : Rat) = (k : Rat) + (j : Rat) - (k1 : Rat) := by rw [Rat.intCast_sub, Rat.intCast_add]
  have e1 : ka * (w - f - 1000000000 * (j : Rat) - 3 / 1000000) = ka * w - ka * f - 8 * qq * (j : Rat) - ka * (3 / 1000000) := by rw [← kj]; grind
  have e2 : ka * (w - f - 1000000000 * (j : Rat) + 3 / 1000000) = ka * w - ka * f - 8 * qq * (j : Rat) + ka * (3 / 1000000) := by rw [← kj]; grind
  rw [e1] at p1; rw [e2] at p2
  have m0 : k + j - k1 = 0 := by
    rcases (by omega : k + j - k1 = 0 ∨ 1 ≤ k + j - k1 ∨ k + j - k1 ≤ -1) with h | h | h
    · exact h
    · exfalso
      have r := int_pos (show 0 < k + j - k1 by omega)
      rw [em] at r
      have m := Rat.mul_le_mul_of_nonneg_left r (show 0 ≤ 8 * qq by grind)
      rw [show 8 * qq * ((k : Rat) + (j : Rat) - (k1 : Rat)) = 8 * qq * (k : Rat) + 8 * qq * (j : Rat) - 8 * qq * (k1 : Rat) by grind] at m
      clear kj em e1 e2 hD r kb
      generalize 8 * qq * (k : Rat) = a1 at *
      generalize 8 * qq * (j : Rat) = a2 at *
      generalize 8 * qq * (k1 : Rat) = a3 at *
      generalize ka * D = kd at *
      generalize ka * f = kf at *
      generalize ka * w = kw at *
      generalize ka * (3 / 1000000) = kk at *
      generalize ka * 500000001 = kl at *
      grind
    · exfalso
      have r := int_neg (show k + j - k1 < 0 by omega)
      rw [em] at r
      have m := Rat.mul_le_mul_of_nonneg_left r (show 0 ≤ 8 * qq by grind)
      rw [show 8 * qq * ((k : Rat) + (j : Rat) - (k1 : Rat)) = 8 * qq * (k : Rat) + 8 * qq * (j : Rat) - 8 * qq * (k1 : Rat) by grind] at m
      clear kj em e1 e2 hD r kb
      generalize 8 * qq * (k : Rat) = a1 at *
      generalize 8 * qq * (j : Rat) = a2 at *
      generalize 8 * qq * (k1 : Rat) = a3 at *
      generalize ka * D = kd at *
      generalize ka * f = kf at *
      generalize ka * w = kw at *
      generalize ka * (3 / 1000000) = kk at *
      generalize ka * 500000001 = kl at *
      grind
  have m1 : (k : Rat) + (j : Rat) - (k1 : Rat) = 0 := by rw [← em, m0]; rfl
  have m2 : 8 * qq * (k : Rat) + 8 * qq * (j : Rat) = 8 * qq * (k1 : Rat) := by
    have : 8 * qq * ((k : Rat) + (j : Rat) - (k1 : Rat)) = 0 := by rw [m1]; grind
    grind
  clear m0 m1 em kj e1 e2 hD p3 p4 kq
  have e3 : ka * (f + D) = ka * f + ka * D := by grind
  rw [e3]
  generalize 8 * qq * (k : Rat) = a1 at *
  generalize 8 * qq * (j : Rat) = a2 at *
  generalize 8 * qq * (k1 : Rat) = a3 at *
  generalize ka * D = kd at *
  generalize ka * f = kf at *
  generalize ka * w = kw at *
  constructor <;> grind
theorem arc_tight {a b c d : Int} (H : ArcIn a b c d) {A rho e : Rat} (r0 : 0 < rho) (hA : -(34 / 10) ≤ A ∧ A ≤ 34 / 10) (he : e ≤ rho / 100) (na : Near (a : Rat) (rho * sn A) e) (nb : Near (b : Rat) (rho * sn A) e) (nc : Near (c : Rat) (rho * cs A) e) (nd : Near (d : Rat) (rho * cs A) e)
    (r1 : szR a c ≤ 4 * rho) (r2 : szR a d ≤ 4 * rho) (r3 : szR b c ≤ 4 * rho) (r4 : szR b d ≤ 4 * rho) :
    ∃ K : Int, A - 8 * qq * (K : Rat) - (5 * (e / rho) + 2 / 10000000000000) ≤ ka * ((arcLo a b c d : Rat) + 2) ∧ ka * ((arcHi a b c d : Rat) - 2) ≤ A - 8 * qq * (K : Rat) + (5 * (e / rho) + 2 / 10000000000000) := by
  obtain ⟨n1, n2, n3, n4⟩ := H.ne
  have k := ka_bd
  have hd : ∀ {Y X : Int}, Sml Y → Sml X → (Y ≠ 0 ∨ X ≠ 0) → -540000000 ≤ fv (dirW Y X) ∧ fv (dirW Y X) ≤ 540000000 := fun hY hX h0 => by
    have dr := dir_rad hY hX h0
    have dm := (dir_main hY hX h0).1
    have l := dm.lo; have u := dm.hi
    unfold Near at dr
    clear dm
    constructor
    · apply Rat.not_lt.1
      intro h
      have := Rat.mul_lt_mul_of_pos_left h (show 0 < ka by grind)
      grind
    · apply Rat.not_lt.1
      intro h
      have := Rat.mul_lt_mul_of_pos_left h (show 0 < ka by grind)
      grind
  have d0 := hd H.sa H.sc' n1
  have hf : Md (dirW a c) 1200000001 := by obtain ⟨x, y, z⟩ := dir_fin H.sa H.sc'; exact ⟨x, y, z⟩
  have hf5 : Md (dirW a c) 540000000 := ⟨hf.fin, d0.1, d0.2⟩
  have q0 := arcD_md hf H.sa H.sd
  have q1 := arcD_md hf H.sb H.sc'
  have q2 := arcD_md hf H.sb H.sd
  obtain ⟨j0, -, e0⟩ := arcD_near hf H.sa H.sd
  obtain ⟨j1, -, e1⟩ := arcD_near hf H.sb H.sc'
  obtain ⟨j2, -, e2⟩ := arcD_near hf H.sb H.sd
  have b0 := arcD_half hf5 (hd H.sa H.sd n2) H.sa H.sd
  have b1 := arcD_half hf5 (hd H.sb H.sc' n3) H.sb H.sc'
  have b2 := arcD_half hf5 (hd H.sb H.sd n4) H.sb H.sd
  have w1 := dir_rad H.sa H.sc' n1; have w2 := dir_rad H.sa H.sd n2; have w3 := dir_rad H.sb H.sc' n3; have w4 := dir_rad H.sb H.sd n4
  obtain ⟨k1, -, z1⟩ := corner_tight (dir_main H.sa H.sc' n1).1 (sz_bd a c).1 (sz_bd a c).2 r1 r0 hA he nc na
  obtain ⟨k2, -, z2⟩ := corner_tight (dir_main H.sa H.sd n2).1 (sz_bd a d).1 (sz_bd a d).2 r2 r0 hA he nd na
  obtain ⟨k3, -, z3⟩ := corner_tight (dir_main H.sb H.sc' n3).1 (sz_bd b c).1 (sz_bd b c).2 r3 r0 hA he nc nb
  obtain ⟨k4, -, z4⟩ := corner_tight (dir_main H.sb H.sd n4).1 (sz_bd b d).1 (sz_bd b d).2 r4 r0 hA he nd nb
  have ee : 5 * (e / rho) + 1 / 10000000000000 ≤ 6 / 100 := by
    have x : e / rho * rho = e := by grind
    have : e / rho ≤ 1 / 100 := by
      apply Rat.not_lt.1
      intro h
      have := Rat.mul_lt_mul_of_pos_right h r0
      grind
    grind
  have o2 := tight_one w1 w2 e0 b0 z1 z2 ee
  have o3 := tight_one w1 w3 e1 b1 z1 z3 ee
  have o4 := tight_one w1 w4 e2 b2 z1 z4 ee
  have o1 := tight_one (j := 0) (D := 0) w1 w1 (by rw [zero_cast]; unfold Near; constructor <;> grind) (by constructor <;> grind) z1 z1 ee
  have l1 := md_min md_zero q0; have l2 := md_min l1 q1; have l3 := md_min l2 q2
  have g1 := md_max md_zero q0; have g2 := md_max g1 q1; have g3 := md_max g2 q2
  have v1 := (fmin_ok md_zero.fin q0.fin).2; have v2 := (fmin_ok l1.fin q1.fin).2; have v3 := (fmin_ok l2.fin q2.fin).2
  have u1 := (fmax_ok md_zero.fin q0.fin).2; have u2 := (fmax_ok g1.fin q1.fin).2; have u3 := (fmax_ok g2.fin q2.fin).2
  rw [fin_zero.2] at v1 u1
  obtain ⟨-, a1⟩ := arc_sum hf l3
  obtain ⟨-, a2⟩ := arc_sum hf g3
  have lo2 := a1.lo2; have hi2 := a2.hi2
  have eL : arcLo a b c d = aLo (fadd (dirW a c) (fminW (fminW (fminW 0 (arcD (dirW a c) a d)) (arcD (dirW a c) b c)) (arcD (dirW a c) b d))) := rfl
  have eH : arcHi a b c d = aHi (fadd (dirW a c) (fmaxW (fmaxW (fmaxW 0 (arcD (dirW a c) a d)) (arcD (dirW a c) b c)) (arcD (dirW a c) b d))) := rfl
  rw [← eL] at lo2
  rw [← eH] at hi2
  have ks : kSl ≤ 2 / 1000 := by unfold kSl; grind
  clear a1 a2 eL eH l1 l2 l3 g1 g2 g3 q0 q1 q2 z1 z2 z3 z4 w1 w2 w3 w4 e0 e1 e2 b0 b1 b2 hf hf5 d0 hd n1 n2 n3 n4 na nb nc nd r1 r2 r3 r4
  refine ⟨k1, ?_⟩
  generalize (arcLo a b c d : Rat) = lo at *
  generalize (arcHi a b c d : Rat) = hi at *
  generalize fv (fminW (fminW (fminW 0 (arcD (dirW a c) a d)) (arcD (dirW a c) b c)) (arcD (dirW a c) b d)) = L at *
  generalize fv (fmaxW (fmaxW (fmaxW 0 (arcD (dirW a c) a d)) (arcD (dirW a c) b c)) (arcD (dirW a c) b d)) = G at *
  generalize fv (fminW (fminW 0 (arcD (dirW a c) a d)) (arcD (dirW a c) b c)) = L2 at *
  generalize fv (fmaxW (fmaxW 0 (arcD (dirW a c) a d)) (arcD (dirW a c) b c)) = G2 at *
  generalize fv (fminW 0 (arcD (dirW a c) a d)) = L1 at *
  generalize fv (fmaxW 0 (arcD (dirW a c) a d)) = G1 at *
  generalize fv (arcD (dirW a c) a d) = D0 at *
  generalize fv (arcD (dirW a c) b c) = D1 at *
  generalize fv (arcD (dirW a c) b d) = D2 at *
  generalize fv (dirW a c) = f at *
  have hL : L = 0 ∨ L = D0 ∨ L = D1 ∨ L = D2 := by clear o1 o2 o3 o4 lo2 hi2; grind
  have hG : G = 0 ∨ G = D0 ∨ G = D1 ∨ G = D2 := by clear o1 o2 o3 o4 lo2 hi2; grind
  clear v1 v2 v3 u1 u2 u3
  have oL : Near (ka * (f + L)) (A - 8 * qq * (k1 : Rat)) (5 * (e / rho) + 1 / 10000000000000 + 1 / 10000000000000) := by
    rcases hL with rfl | rfl | rfl | rfl
    · exact o1
    · exact o2
    · exact o3
    · exact o4
  have oG : Near (ka * (f + G)) (A - 8 * qq * (k1 : Rat)) (5 * (e / rho) + 1 / 10000000000000 + 1 / 10000000000000) := by
    rcases hG with rfl | rfl | rfl | rfl
    · exact o1
    · exact o2
    · exact o3
    · exact o4
  clear o1 o2 o3 o4 hL hG
  have m1 := Rat.mul_le_mul_of_nonneg_left (show f + L ≤ lo + 2 by grind) (show 0 ≤ ka by grind)
  have m2 := Rat.mul_le_mul_of_nonneg_left (show hi - 2 ≤ f + G by grind) (show 0 ≤ ka by grind)
  unfold Near at oL oG
  clear lo2 hi2 ks ee k
  generalize ka * (f + L) = x1 at *
  generalize ka * (f + G) = x2 at *
  generalize ka * (lo + 2) = x3 at *
  generalize ka * (hi - 2) = x4 at *
  generalize 8 * qq * (k1 : Rat) = x5 at *
  generalize e / rho = g at *
  constructor <;> grind
end Go.Proofs.YtcopmgnfakjdhaaGreatDoor
/- Merged by wip/tools/pack.py out of XAsinW, XAsinP, XAsinL, XAsinM, XAsinU. -/
/- math.Atan2 at a root; trig.arcSine. -/
namespace Go.Proofs.YtcopmgnfakjdhaaGreatDoor
open Go.RowKit
set_option linter.unusedSimpArgs false
set_option linter.unusedVariables false
structure QuotW (Y : Int) (x : Nat) : Prop where
  is : floatBits .quo .f64 (iw Y) x = some (fdiv (iw Y) x)
  fin : Fin (fdiv (iw Y) x)
  pos : 0 < Y → 1 / 100000000000000000 ≤ fv (fdiv (iw Y) x) ∧ fv (fdiv (iw Y) x) ≤ 10000000000000000 ∧ Near (fv (fdiv (iw Y) x)) ((Y : Rat) / fv x) ((Y : Rat) / fv x / 2251799813685248)
  neg : Y < 0 → fv (fdiv (iw Y) x) ≤ -(1 / 100000000000000000) ∧ -10000000000000000 ≤ fv (fdiv (iw Y) x) ∧ Near (-fv (fdiv (iw Y) x)) (-(Y : Rat) / fv x) (-(Y : Rat) / fv x / 2251799813685248)
theorem quot_word {Y : Int} {x : Nat} (hY : Sml Y) (h0 : Y ≠ 0) (hx : Fin x) (x1 : 1 ≤ fv x) (x2 : fv x ≤ 9007199254740992) : QuotW Y x := by
  obtain ⟨f1, v1⟩ := iw_ok hY
  have b1 := sml_bd hY
  by_cases c1 : 0 < Y
  · have p1 := int_pos c1
    have q := rat_quot_pos p1 b1.2 x1 x2
    obtain ⟨o1, o2, o3⟩ := fdiv_ok f1 hx (by grind) ((Y : Rat) / fv x) (mid_of (by grind) (by grind)) (by rw [v1]; grind) (by rw [v1]; grind)
    rw [v1] at o3
    refine ⟨o1, o2, fun _ => ⟨?_, ?_, o3⟩, fun h => absurd h (by omega)⟩
    · unfold Near at o3; grind
    · unfold Near at o3; grind
  · have p1 := int_neg (show Y < 0 by omega)
    have q := rat_quot_pos (show 1 ≤ -(Y : Rat) by grind) (by grind) x1 x2
    have e : (Y : Rat) / fv x = -(-(Y : Rat) / fv x) := by grind
    obtain ⟨o1, o2, o3⟩ := fdiv_ok f1 hx (by grind) (-(Y : Rat) / fv x) (mid_of (by grind) (by grind)) (by rw [v1, e]; grind) (by rw [v1, e]; grind)
    rw [v1, e] at o3
    have o4 : Near (-fv (fdiv (iw Y) x)) (-(Y : Rat) / fv x) (-(Y : Rat) / fv x / 2251799813685248) := by
      clear q o1 o2 p1 b1 e
      generalize -(Y : Rat) / fv x = g at *
      unfold Near at *; grind
    clear o3
    refine ⟨o1, o2, fun h => absurd h (by omega), fun _ => ⟨?_, ?_, o4⟩⟩
    · unfold Near at o4; grind
    · unfold Near at o4; grind
set_option maxRecDepth 100000 in
set_option maxHeartbeats 4000000 in
theorem atan2_word (Y : Int) (x : Nat) (hY : Sml Y) (c1 : Y ≠ 0) (hx : Fin x) (x1 : 1 ≤ fv x) (x2 : fv x ≤ 9007199254740992) (w : World) : Calls Tryz.prog 125 #[.float .f64 (iw Y), .float .f64 x] w fun e w' => e = .returned (.float .f64 (atW (fdiv (iw Y) x))) ∧ w' = w := by
  obtain ⟨f1, v1⟩ := iw_ok hY
  have N1 := Lib.hid (isNaN_ok (iw Y) f1)
  have N2 := Lib.hid (isNaN_ok x hx)
  have oY := iw_ord hY
  have s1 := sml_bd hY
  have I1 := Lib.hid (isInf_big (iw Y) f1 (by rw [v1]; grind) (by rw [v1]; grind))
  have I2 := Lib.hid (isInf_big x hx (by grind) (by grind))
  have o1 : FloatKind.f64.format.order (iw Y) 0 = some .gt ∨ FloatKind.f64.format.order (iw Y) 0 = some .lt := by
    by_cases c : 0 < Y
    · exact .inl (oY.2.1 c)
    · exact .inr (oY.2.2 (by omega))
  have o1' : (FloatKind.f64.format.order (iw Y) 0 == some .eq) = false := by rcases o1 with h | h <;> rw [h] <;> rfl
  have o3 : FloatKind.f64.format.order x 0 = some .gt := by
    rcases leq_ord hx fin_zero.1 with ⟨o, h⟩ | ⟨o, h⟩ | ⟨o, h⟩
    · rw [fin_zero.2] at h; exfalso; grind
    · rw [fin_zero.2] at h; exfalso; grind
    · exact o
  have Q := quot_word hY c1 hx x1 x2
  have qi := fop Q.is
  have A := Lib.hid (fun w => Atan_ok Q.fin (by
    by_cases c : 0 < Y
    · have := (Q.pos c).1; grind
    · have := (Q.neg (by omega)).1; grind) (by
    by_cases c : 0 < Y
    · have := (Q.pos c).1; grind
    · have := (Q.neg (by omega)).2.1; grind) (by
    by_cases c : 0 < Y
    · have := (Q.pos c).2.1; grind
    · have := (Q.neg (by omega)).1; grind) w)
  clear Q
  generalize atW (fdiv (iw Y) x) = u at *
  generalize fdiv (iw Y) x = q at *
  generalize iw Y = y at *
  clear hY f1 v1 oY s1 c1 hx x1 x2
  go_enter Tryz.func125, Tryz.ntmps125
  go_wp2_with fail
  refine Calls.mono (N1.out _) ?_
  rintro e _ ⟨rfl, rfl⟩
  go_wp2_with fail
  refine Calls.mono (N2.out _) ?_
  rintro e _ ⟨rfl, rfl⟩
  go_wp2_with fail
  refine Calls.mono (I2.out _) ?_
  rintro e _ ⟨rfl, rfl⟩
  go_wp2_with fail
  refine Calls.mono (I1.out _) ?_
  rintro e _ ⟨rfl, rfl⟩
  go_wp2_with fail
  refine Calls.mono (A.out _) ?_
  rintro e _ ⟨rfl, rfl⟩
  go_wp2_with fail
  go_ret
  exact ⟨rfl, rfl⟩
theorem Atan2_word (Y : Int) (x : Nat) (hY : Sml Y) (c1 : Y ≠ 0) (hx : Fin x) (x1 : 1 ≤ fv x) (x2 : fv x ≤ 9007199254740992) (w : World) : Calls Tryz.prog 110 #[.float .f64 (iw Y), .float .f64 x] w fun e w' => e = .returned (.float .f64 (atW (fdiv (iw Y) x))) ∧ w' = w := by
  have H := Lib.hid (atan2_word Y x hY c1 hx x1 x2)
  clear hY c1 hx x1 x2
  generalize iw Y = y at *
  generalize atW (fdiv y x) = u at *
  go_enter Tryz.func110, Tryz.ntmps110
  go_wp2_with fail
  refine Calls.mono (H.out _) ?_
  rintro e _ ⟨rfl, rfl⟩
  go_wp2_with fail
  go_ret
  exact ⟨rfl, rfl⟩
end Go.Proofs.YtcopmgnfakjdhaaGreatDoor
/- trig.arcSine, plain: the root's word, the arc's word. -/
namespace Go.Proofs.YtcopmgnfakjdhaaGreatDoor
set_option linter.unusedSimpArgs false
set_option linter.unusedVariables false
def rx (n : Int) : Int := (1000000000 - n) * (1000000000 + n)
def rtW (n : Int) : Nat := fsqrt (floatOfInt .f64 (rx n))
theorem rx_bd {n : Int} (h1 : -1000000000 < n) (h2 : n < 1000000000) : 1999999999 ≤ rx n ∧ rx n ≤ 1000000000000000000 := by
  have e : rx n = 1000000000000000000 - n * n := by unfold rx; grind
  have m := Int.mul_nonneg (show 0 ≤ 999999999 - n by omega) (show 0 ≤ 999999999 + n by omega)
  have q : 0 ≤ n * n := by
    rcases Int.le_total 0 n with h | h
    · exact Int.mul_nonneg h h
    · have := Int.mul_nonneg (show 0 ≤ -n by omega) (show 0 ≤ -n by omega); grind
  have i : (999999999 - n) * (999999999 + n) = 999999998000000001 - n * n := by grind
  rw [e]
  omega
structure RtOk (n : Int) (X v D : Rat) : Prop where
  near : Near X v (3 / 10000000)
  sq : Near (v * v) (rx n : Rat) D
  big : D ≤ 2 ∧ 44000 ≤ v ∨ D ≤ 400 ∧ 90000000 ≤ v
  v0 : v ≤ 1000000001
theorem rt_ok {n : Int} (h1 : -1000000000 < n) (h2 : n < 1000000000) : Ieee.double.sqrt (floatOfInt .f64 (rx n)) = some (rtW n) ∧ Fin (rtW n) ∧ ∃ v D, RtOk n (fv (rtW n)) v D := by
  obtain ⟨b1, b2⟩ := rx_bd h1 h2
  unfold rtW
  have i1 : ((1999999999 : Int) : Rat) = 1999999999 := rfl
  have i2 : ((1000000000000000000 : Int) : Rat) = 1000000000000000000 := rfl
  have i3 : ((9007199254740992 : Int) : Rat) = 9007199254740992 := rfl
  have l : (1999999999 : Rat) ≤ (rx n : Rat) := by rw [← i1]; exact Rat.intCast_le_intCast.2 b1
  have u : (rx n : Rat) ≤ 1000000000000000000 := by rw [← i2]; exact Rat.intCast_le_intCast.2 b2
  obtain ⟨f, nr⟩ := fint_near (rx n) 1000000000000000000 (mid_of (by grind) (by grind)) (by grind) u
  obtain ⟨y, hy⟩ : ∃ y, y = fv (floatOfInt .f64 (rx n)) := ⟨_, rfl⟩
  have ys : (y = (rx n : Rat) ∧ (rx n : Rat) < 9007199254740992) ∨ (9007199254740992 ≤ (rx n : Rat) ∧ Near y (rx n : Rat) 112) := by
    by_cases c : rx n < 9007199254740992
    · left
      exact ⟨by rw [hy]; exact (fint_ok (rx n) (by omega) c).2, by rw [← i3]; exact Rat.intCast_lt_intCast.2 c⟩
    · right
      exact ⟨by rw [← i3]; exact Rat.intCast_le_intCast.2 (by omega), by rw [hy]; exact near_weak nr (by grind)⟩
  have y0 : 0 < y := by unfold Near at ys; grind
  have y1 : y * 2 ≤ 2000000000 * 2000000000 := by unfold Near at ys; grind
  rw [hy] at y0 y1
  obtain ⟨v, so, hs, fs, ns, s0⟩ := fsqrt_ok f y0 2000000000 (mid_of (by grind) (by grind)) y1 (by grind)
  refine ⟨hs, fs, ?_⟩
  obtain ⟨p1, p2, p3⟩ := so
  rw [← hy] at p2 p3
  clear hs fs s0 f nr y0 y1 hy
  have near := near_weak ns (show _ ≤ 3 / 10000000 by grind)
  generalize fv (fsqrt (floatOfInt .f64 (rx n))) = X at *
  have vu : v ≤ 1000000001 := by
    apply Rat.not_lt.1
    intro h
    have a1 := Rat.mul_lt_mul_of_pos_right h p1
    unfold Near at ys
    grind
  rcases ys with ⟨e, s⟩ | ⟨s, e⟩
  · subst e
    refine ⟨v, 2, near, ?_, .inl ⟨Rat.le_refl, ?_⟩, vu⟩
    · unfold Near; constructor <;> grind
    · apply Rat.not_lt.1
      intro h
      have a1 := Rat.mul_lt_mul_of_pos_right h p1
      grind
  · refine ⟨v, 400, near, ?_, .inr ⟨Rat.le_refl, ?_⟩, vu⟩
    · unfold Near at *; constructor <;> grind
    · apply Rat.not_lt.1
      intro h
      have a1 := Rat.mul_lt_mul_of_pos_right h p1
      unfold Near at e
      grind
theorem rt_range {n : Int} {X v D : Rat} (h : RtOk n X v D) : 43999 ≤ X ∧ X ≤ 1000000002 := by
  obtain ⟨a, b, c, d⟩ := h
  unfold Near at a
  grind
theorem rt_lo {n : Int} {X v D C : Rat} (h : RtOk n X v D) (hC : C * C ≤ (rx n : Rat) + 1) : C ≤ X + 1 / 10000 := by
  obtain ⟨a, b, c, d⟩ := h
  unfold Near at a b
  apply Rat.not_lt.1
  intro l
  have l2 : v + 99 / 1000000 < C := by grind
  have m := Rat.mul_lt_mul_of_pos_left l2 (show 0 < C by grind)
  have m2 := Rat.mul_lt_mul_of_pos_right l2 (show 0 < v by grind)
  grind
theorem rt_hi {n : Int} {X v D C : Rat} (h : RtOk n X v D) (C0 : 0 ≤ C) (hC : (rx n : Rat) - 1 ≤ C * C) : X ≤ C + 1 / 10000 := by
  obtain ⟨a, b, c, d⟩ := h
  unfold Near at a b
  apply Rat.not_lt.1
  intro l
  have l2 : C + 99 / 1000000 < v := by grind
  have m := Rat.mul_lt_mul_of_pos_left l2 (show 0 < v by grind)
  have m2 := Rat.mul_le_mul_of_nonneg_left (Rat.le_of_lt l2) C0
  grind
end Go.Proofs.YtcopmgnfakjdhaaGreatDoor
/- The law of the arc of a sine, plain. -/
namespace Go.Proofs.YtcopmgnfakjdhaaGreatDoor
set_option linter.unusedSimpArgs false
set_option linter.unusedVariables false
theorem rx_neg (n : Int) : rx (-n) = rx n := by unfold rx; grind
theorem RtOk.neg {n : Int} {X v D : Rat} (h : RtOk n X v D) : RtOk (-n) X v D := ⟨h.near, by rw [rx_neg]; exact h.sq, h.big, h.v0⟩
theorem DirOk.neg {t Y X R : Rat} (h : DirOk t Y X R) : DirOk (-t) (-Y) X R := by
  obtain ⟨n, p, l, u⟩ := h
  refine ⟨?_, ?_, by grind, by grind⟩
  · rw [sn_neg, cs_neg]; unfold Near at *; grind
  · rw [sn_neg, cs_neg]; grind
theorem rx_rat (n : Int) : (rx n : Rat) = 1000000000000000000 - (n : Rat) * (n : Rat) := by
  have e : rx n = 1000000000000000000 - n * n := by unfold rx; grind
  rw [e, Rat.intCast_sub, Rat.intCast_mul]; rfl
theorem dir_sign {t X R : Rat} {n : Int} (h : DirOk t (n : Rat) X R) (hn : n < 0) (hR : R ≤ 4000000000) (hX : 1 ≤ X) (ht : t ≤ 1571 / 1000) (ht2 : -(1571 / 1000) ≤ t) (hp : t ≤ 22 / 100) : t ≤ 0 := by
  have n0 := int_neg hn
  obtain ⟨nr, -, -, -⟩ := h
  apply Rat.not_lt.1
  intro l
  have s := sn_half (x := t) (by grind) (by grind)
  have c := cs_low (x := t) (by grind)
  have m1 := Rat.mul_nonneg (show 0 ≤ X by grind) (show 0 ≤ sn t by grind)
  have m2 := Rat.mul_le_mul_of_nonneg_left c (show 0 ≤ -(n : Rat) by grind)
  unfold Near at nr
  grind
theorem asin_fin {n : Int} {X v D t R be : Rat} (rt : RtOk n X v D) (dk : DirOk t (n : Rat) X R) (hR : R ≤ 4000000000) (hXR : -R ≤ X ∧ X ≤ R) (hnR : -R ≤ (n : Rat) ∧ (n : Rat) ≤ R) (hb : -8 ≤ be ∧ be ≤ 8) (h8 : t - be ≤ 8 / 5)
    (cross : (n : Rat) * cs be - X * sn be ≤ 12 / 100000) : t ≤ be + 1 / 1000000000000 := by
  have X1 := rt_range rt
  have rn := rx_rat n
  obtain ⟨a, b, c, d⟩ := rt
  have t8 : -8 ≤ t ∧ t ≤ 8 := by have := dk.lo; have := dk.hi; grind
  have R0 : 0 ≤ R := by grind
  have se := seen_of' (Y := (n : Rat)) (X := X) (near_weak dk.near (by grind)) (by have := dk.pos; grind) t8 hXR hnR hb
  have py := pyth t8
  have id : (X * cs t + (n : Rat) * sn t) * (X * cs t + (n : Rat) * sn t) + (X * sn t - (n : Rat) * cs t) * (X * sn t - (n : Rat) * cs t) = (X * X + (n : Rat) * (n : Rat)) * (cs t * cs t + sn t * sn t) := by grind
  have nr := dk.near
  have ps := dk.pos
  have e1 := rmul_bd (a := X * sn t - (n : Rat) * cs t) (b := X * sn t - (n : Rat) * cs t) (A := 1 / 100) (B := 1 / 100) (by unfold Near at nr; grind) (by unfold Near at nr; grind)
  have len : 999999999999990000 ≤ X * X + (n : Rat) * (n : Rat) := by
    unfold Near at a b
    have u : v - 3 / 10000000 ≤ X := by grind
    have m1 := Rat.mul_le_mul_of_nonneg_left u (show 0 ≤ X by grind)
    have m2 := Rat.mul_le_mul_of_nonneg_left u (show 0 ≤ v by grind)
    rw [rn] at b
    grind
  have m3 := rmul_bd (a := cs t * cs t + sn t * sn t - 1) (b := X * X + (n : Rat) * (n : Rat)) (A := ep) (B := 32000000000000000000) (by unfold Near at py; grind) (by
    have p1 := rmul_bd hXR hXR
    have p2 := rmul_bd hnR hnR
    have p3 := rmul_bd (a := R) (b := R) (A := 4000000000) (B := 4000000000) (by grind) (by grind)
    have q1 := sq_nonneg X; have q2 := sq_nonneg (n : Rat)
    grind)
  obtain ⟨r, hr⟩ : ∃ r, r = X * cs t + (n : Rat) * sn t := ⟨_, rfl⟩
  rw [← hr] at se id ps
  have rr : 999999999000000000 ≤ r * r := by unfold ep at m3; grind
  have rb : 990000000 ≤ r := by
    apply Rat.not_lt.1
    intro l
    have := Rat.mul_lt_mul_of_pos_left l (show 0 < r by
      apply Rat.not_le.1
      intro l2
      have z : r = 0 := by grind
      rw [z] at rr; grind)
    grind
  have ss := se.s
  apply Rat.not_lt.1
  intro l
  have h := sn_half (x := t - be) (by grind) (by grind)
  have m := Rat.mul_le_mul_of_nonneg_left h (show 0 ≤ r by grind)
  have m2 := Rat.mul_le_mul_of_nonneg_right rb (show 0 ≤ (t - be) / 2 by grind)
  unfold Near at ss
  grind
theorem asin_core {n : Int} {X v D t R be : Rat} (h1 : -1000000000 < n) (h2 : n < 1000000000) (hn : n ≠ 0) (rt : RtOk n X v D) (dk : DirOk t (n : Rat) X R) (hR : R ≤ 4000000000) (hXR : -R ≤ X ∧ X ≤ R) (hnR : -R ≤ (n : Rat) ∧ (n : Rat) ≤ R)
    (hpos : 0 < n → -(22 / 100) ≤ t ∧ t ≤ 1571 / 1000) (hneg : n < 0 → -(1571 / 1000) ≤ t ∧ t ≤ 22 / 100) (hb : -(2 * qq) ≤ be ∧ be ≤ 2 * qq) (hs : (n : Rat) ≤ 1000000000 * sn be + 2 / 10000000000) : t ≤ be + 1 / 1000000000000 := by
  have q := qq_b9
  have be8 : -8 ≤ be ∧ be ≤ 8 := by grind
  have X1 := rt_range rt
  have py := pyth be8
  have sb := sn_le be8; have cb := cs_le be8
  have c0 : -(2 / 1000000000000000000000000) ≤ cs be := by
    have := sn_upper (x := be + 2 * qq) (by grind) (by grind)
    have e := sn_quarter be8
    unfold Near eq1 at e
    grind
  have rn := rx_rat n
  have T2 : 1000000000 * cs be * (1000000000 * cs be) = 1000000000000000000 * (cs be * cs be) := by grind
  by_cases s0 : 0 ≤ sn be
  · by_cases n0 : n < 0
    · have h := dir_sign dk n0 hR (by grind) (by have := hneg n0; grind) (by have := hneg n0; grind) (by have := hneg n0; grind)
      have : -(1 / 1000000000000000) ≤ be := by
        apply Rat.not_lt.1
        intro l
        have := sn_half (x := -be) (by grind) (by grind)
        rw [sn_neg] at this
        grind
      grind
    · have np := int_pos (show 0 < n by omega)
      obtain ⟨t1, t2⟩ := hpos (by omega)
      have nn : (n : Rat) * (n : Rat) ≤ 1000000000000000000 * (sn be * sn be) + 42 / 100 := by
        have a := Rat.mul_le_mul_of_nonneg_left hs (show 0 ≤ (n : Rat) by grind)
        have b := Rat.mul_le_mul_of_nonneg_left hs (show 0 ≤ 1000000000 * sn be by grind)
        unfold ep at sb
        grind
      have C := rt_lo rt (C := 1000000000 * cs be) (by rw [T2, rn]; unfold Near ep at py; grind)
      have m1 := Rat.mul_le_mul_of_nonneg_left C s0
      have m2 := Rat.mul_le_mul_of_nonneg_left hs (show 0 ≤ cs be + 2 / 1000000000000000000000000 by grind)
      have cross : (n : Rat) * cs be - X * sn be ≤ 11 / 100000 := by
        unfold ep at sb cb
        have e : (n : Rat) * (2 / 1000000000000000000000000) ≥ 0 := by grind
        grind
      refine asin_fin rt dk hR hXR hnR be8 ?_ (by grind)
      have : -(1 / 1000000000000000) ≤ be := by
        apply Rat.not_lt.1
        intro l
        have := sn_half (x := -be) (by grind) (by grind)
        rw [sn_neg] at this
        grind
      grind
  · have b0 : be ≤ 0 := by
      apply Rat.not_lt.1
      intro l
      have := sn_half (x := be) (by grind) (by grind)
      grind
    have n0 : n < 0 := by
      have : n < 1 := by
        apply int_lt_of_rat
        rw [show ((1 : Int) : Rat) = 1 from rfl]
        grind
      omega
    have np := int_neg n0
    have h := dir_sign dk n0 hR (by grind) (by have := hneg n0; grind) (by have := hneg n0; grind) (by have := hneg n0; grind)
    have nn : 1000000000000000000 * (sn be * sn be) - 42 / 100 ≤ (n : Rat) * (n : Rat) := by
      have a := Rat.mul_le_mul_of_nonneg_left hs (show 0 ≤ -(n : Rat) by grind)
      have b := Rat.mul_le_mul_of_nonneg_left hs (show 0 ≤ -(1000000000 * sn be) by grind)
      have nb : -1000000000 ≤ (n : Rat) := by have := Rat.intCast_le_intCast.2 (Int.le_of_lt h1); exact this
      unfold ep at sb
      grind
    have xb := (rx_bd h1 h2).1
    have xr : (1999999999 : Rat) ≤ (rx n : Rat) := Rat.intCast_le_intCast.2 xb
    have cp : 0 ≤ cs be := by
      apply Rat.not_lt.1
      intro l
      have m := rmul_bd (a := cs be) (b := cs be) (A := 2 / 1000000000000000000000000) (B := 2 / 1000000000000000000000000) (by grind) (by grind)
      rw [rn] at xr
      unfold Near ep at py
      grind
    have C := rt_hi rt (C := 1000000000 * cs be) (by grind) (by rw [T2, rn]; unfold Near ep at py; grind)
    have m1 := Rat.mul_le_mul_of_nonneg_left C (show 0 ≤ -sn be by grind)
    have m2 := Rat.mul_le_mul_of_nonneg_left hs cp
    have cross : (n : Rat) * cs be - X * sn be ≤ 12 / 100000 := by
      unfold ep at sb cb
      clear py T2 nn rn xr xb
      grind
    exact asin_fin rt dk hR hXR hnR be8 (by grind) cross
end Go.Proofs.YtcopmgnfakjdhaaGreatDoor
/- trig.arcSine's word, and its law. -/
namespace Go.Proofs.YtcopmgnfakjdhaaGreatDoor
set_option linter.unusedSimpArgs false
set_option linter.unusedVariables false
def asW (n : Int) : Nat := if n = 1000000000 ∨ n = -1000000000 then at2W n 0 else if n = 0 then at2W 0 1000000000 else atW (fdiv (iw n) (rtW n))
def asV (n : Int) : Rat := if n = 1000000000 then aH else if n = -1000000000 then -aH else if n = 0 then 0 else qV (fv (fdiv (iw n) (rtW n)))
def asU (n : Int) : Nat := fmul (fdiv (asW n) 4618760256179416344) 4741671816366391296
structure AsIn (n : Int) : Prop where
  lo : -1000000000 < n
  hi : n < 1000000000
  ne : n ≠ 0
theorem AsIn.v {n : Int} (h : AsIn n) : asV n = qV (fv (fdiv (iw n) (rtW n))) ∧ asW n = atW (fdiv (iw n) (rtW n)) := by
  have a := h.lo; have b := h.hi; have c := h.ne
  unfold asV asW
  rw [if_neg (by omega), if_neg (by omega), if_neg c, if_neg (by omega), if_neg c]
  exact ⟨rfl, rfl⟩
theorem AsIn.dir {n : Int} (h : AsIn n) : ∃ v D, RtOk n (fv (rtW n)) v D ∧ DirOk (asV n) (n : Rat) (fv (rtW n)) (fv (rtW n) + (n.natAbs : Rat)) ∧ Near (fv (asW n)) (asV n) (2 / 100000000000000) ∧ (0 < n → -(22 / 100) ≤ asV n ∧ asV n ≤ 1571 / 1000) ∧ (n < 0 → -(1571 / 1000) ≤ asV n ∧ asV n ≤ 22 / 100) := by
  obtain ⟨e1, e2⟩ := h.v
  obtain ⟨-, f, v, D, rt⟩ := rt_ok h.lo h.hi
  have X1 := rt_range rt
  have hY : Sml n := ⟨by have := h.lo; omega, by have := h.hi; omega⟩
  have Q := quot_word hY h.ne f (by grind) (by grind)
  rw [e1, e2]
  refine ⟨v, D, rt, ?_⟩
  by_cases c : 0 < n
  · have y0 := int_pos c
    obtain ⟨p1, p2, p3⟩ := Q.pos c
    have A := (atW_pos Q.fin p1 (by grind)).1
    have eV : qV (fv (fdiv (iw n) (rtW n))) = satV (fv (fdiv (iw n) (rtW n))) := if_pos (by grind)
    obtain ⟨k1, k2, k3, k4⟩ := core_arc (a := fv (rtW n)) (b := (n : Rat)) (by grind) y0 (quot_mul (by grind) p3 (by grind))
    rw [eV, nA_pos c]
    exact ⟨(dir_pp (by grind) y0 k1 k2 k3 k4).1, ap_near A (by grind), fun _ => ⟨k3, k4⟩, fun l => absurd l (by omega)⟩
  · have c' : n < 0 := by have := h.ne; omega
    have y0 : 1 ≤ -(n : Rat) := by have := int_neg c'; grind
    obtain ⟨p1, p2, p3⟩ := Q.neg c'
    have A := (atW_neg Q.fin p1 (by grind)).1
    have eV : qV (fv (fdiv (iw n) (rtW n))) = -satV (-fv (fdiv (iw n) (rtW n))) := if_neg (by grind)
    obtain ⟨k1, k2, k3, k4⟩ := core_arc (a := fv (rtW n)) (b := -(n : Rat)) (by grind) y0 (quot_mul (by grind) p3 (by grind))
    have Dd := (dir_pp (by grind) y0 k1 k2 k3 k4).2.1
    rw [show - -(n : Rat) = (n : Rat) by grind] at Dd
    rw [eV, nA_neg c']
    exact ⟨Dd, ap_near A (by grind), fun l => absurd l (by omega), fun _ => ⟨by grind, by grind⟩⟩
theorem sn_signed {al : Int} (h : -500000000 ≤ al ∧ al ≤ 500000000) : Near (SN al) (sn (ka * (al : Rat))) (1 / 1000000000000000000000000) := by
  unfold SN
  by_cases c : 0 ≤ al
  · rw [show al % 1000000000 = al by omega, ang_ka]; exact near_refl _ (by grind)
  · rw [show al % 1000000000 = al + 1000000000 by omega, ang_add, ang_turn, ang_ka]
    have k := ka_bd
    have b1 : (-500000000 : Rat) ≤ (al : Rat) := Rat.intCast_le_intCast.2 h.1
    have b2 : (al : Rat) ≤ 0 := by rw [← zero_cast]; exact Rat.intCast_le_intCast.2 (by omega)
    have m1 := Rat.mul_le_mul_of_nonneg_left b1 (show 0 ≤ ka by grind)
    have m2 := Rat.mul_le_mul_of_nonneg_left b2 (show 0 ≤ ka by grind)
    exact near_weak (turn_any (x := ka * (al : Rat)) (by grind)).1 (by unfold eq1; grind)
theorem ka_quarter {al : Int} (h : -250000000 ≤ al ∧ al ≤ 250000000) : -(2 * qq) ≤ ka * (al : Rat) ∧ ka * (al : Rat) ≤ 2 * qq := by
  have k := ka_bd
  have b1 : (-250000000 : Rat) ≤ (al : Rat) := Rat.intCast_le_intCast.2 h.1
  have b2 : (al : Rat) ≤ 250000000 := Rat.intCast_le_intCast.2 h.2
  have m1 := Rat.mul_le_mul_of_nonneg_left b1 (show 0 ≤ ka by grind)
  have m2 := Rat.mul_le_mul_of_nonneg_left b2 (show 0 ≤ ka by grind)
  have e : ka * 250000000 = 2 * qq := by unfold ka; grind
  grind
theorem aH_near : Near aH (2 * qq) (1 / 1000000000000000) := by unfold Near qq kA kB kC aH; constructor <;> grind
theorem top_only {be : Rat} (h : -(2 * qq) ≤ be) (h2 : be ≤ 2 * qq - ka) (hs : 1 - 1 / 1000000000000000000 ≤ sn be) : False := by
  have q := qq_b9; have k := ka_bd
  by_cases c : be < 0
  · have := sn_half (x := -be) (by grind) (by grind)
    rw [sn_neg] at this
    grind
  · have e := sn_quarter (x := -be) (by grind)
    rw [cs_neg, show -be + 2 * qq = 2 * qq - be by grind] at e
    have l := sn_half (x := 2 * qq - be) (by grind) (by grind)
    have py := pyth (x := be) (by grind)
    have c1 : ka / 2 - 1 / 1000000000000000000000 ≤ cs be := by unfold Near eq1 at e; grind
    have c2 : 31 / 10000000000 ≤ cs be := by grind
    have m1 := rmul_bd (a := sn be - 1) (b := sn be - 1) (A := 0) (B := 0)
    have u1 := Rat.mul_le_mul_of_nonneg_left hs (show 0 ≤ sn be by grind)
    have u2 := Rat.mul_le_mul_of_nonneg_left c2 (show 0 ≤ cs be by grind)
    unfold Near ep at py
    grind
theorem asin_lo {n al : Int} (h : -1000000000 ≤ n ∧ n ≤ 1000000000) (ha : -250000000 ≤ al ∧ al ≤ 250000000) (hs : (n : Rat) ≤ 1000000000 * SN al + 1 / 10000000000) : asV n ≤ ka * (al : Rat) + 1 / 1000000000000 := by
  have S := sn_signed (al := al) (by omega)
  have B := ka_quarter ha
  have q := qq_b9; have k := ka_bd; have aq := aH_near
  have hs2 : (n : Rat) ≤ 1000000000 * sn (ka * (al : Rat)) + 2 / 10000000000 := by unfold Near at S; grind
  by_cases c1 : n = 1000000000
  · subst c1
    have e : asV 1000000000 = aH := rfl
    rw [e]
    have e2 : ((1000000000 : Int) : Rat) = 1000000000 := rfl
    rw [e2] at hs2
    by_cases c : al = 250000000
    · subst c
      have e3 : ka * ((250000000 : Int) : Rat) = 2 * qq := by unfold ka; rw [show ((250000000 : Int) : Rat) = 250000000 from rfl]; grind
      rw [e3]
      unfold Near at aq; grind
    · exfalso
      have b2 : (al : Rat) ≤ 249999999 := show (al : Rat) ≤ ((249999999 : Int) : Rat) from Rat.intCast_le_intCast.2 (by omega)
      have m2 := Rat.mul_le_mul_of_nonneg_left b2 (show 0 ≤ ka by grind)
      have e3 : ka * 249999999 = 2 * qq - ka := by unfold ka; grind
      exact top_only B.1 (by grind) (by grind)
  · by_cases c2 : n = -1000000000
    · subst c2
      have e : asV (-1000000000) = -aH := rfl
      rw [e]
      unfold Near at aq; grind
    · by_cases c3 : n = 0
      · subst c3
        have e : asV 0 = 0 := rfl
        rw [e]
        rw [zero_cast] at hs2
        apply Rat.not_lt.1
        intro l
        have := sn_half (x := -(ka * (al : Rat))) (by grind) (by grind)
        rw [sn_neg] at this
        grind
      · have I : AsIn n := ⟨by omega, by omega, c3⟩
        obtain ⟨v, D, rt, dk, -, p, ng⟩ := I.dir
        have X1 := rt_range rt
        have nb : (n.natAbs : Rat) ≤ 1000000000 := by
          have : ((n.natAbs : Nat) : Rat) ≤ ((1000000000 : Nat) : Rat) := Rat.natCast_le_natCast.2 (by omega)
          exact this
        have n0 := nat_nonneg n.natAbs
        have nn : -(n.natAbs : Rat) ≤ (n : Rat) ∧ (n : Rat) ≤ (n.natAbs : Rat) := by
          by_cases c : 0 < n
          · rw [nA_pos c]; have := int_pos c; grind
          · rw [nA_neg (by omega)]; have := int_neg (show n < 0 by omega); grind
        exact asin_core I.lo I.hi c3 rt dk (by grind) (by grind) (by grind) p ng B hs2
theorem asin_hi {n al : Int} (h : -1000000000 ≤ n ∧ n ≤ 1000000000) (ha : -250000000 ≤ al ∧ al ≤ 250000000) (hs : 1000000000 * SN al - 1 / 10000000000 ≤ (n : Rat)) : ka * (al : Rat) - 1 / 1000000000000 ≤ asV n := by
  have S := sn_signed (al := al) (by omega)
  have B := ka_quarter ha
  have q := qq_b9; have k := ka_bd; have aq := aH_near
  have hs2 : 1000000000 * sn (ka * (al : Rat)) - 2 / 10000000000 ≤ (n : Rat) := by unfold Near at S; grind
  by_cases c1 : n = 1000000000
  · subst c1
    have e : asV 1000000000 = aH := rfl
    rw [e]
    unfold Near at aq; grind
  · by_cases c2 : n = -1000000000
    · subst c2
      have e : asV (-1000000000) = -aH := rfl
      rw [e]
      have e2 : ((-1000000000 : Int) : Rat) = -1000000000 := rfl
      rw [e2] at hs2
      by_cases c : al = -250000000
      · subst c
        have e3 : ka * ((-250000000 : Int) : Rat) = -(2 * qq) := by unfold ka; rw [show ((-250000000 : Int) : Rat) = -250000000 from rfl]; grind
        rw [e3]
        unfold Near at aq; grind
      · exfalso
        have b2 : (-249999999 : Rat) ≤ (al : Rat) := show ((-249999999 : Int) : Rat) ≤ (al : Rat) from Rat.intCast_le_intCast.2 (by omega)
        have m2 := Rat.mul_le_mul_of_nonneg_left b2 (show 0 ≤ ka by grind)
        have e3 : ka * -249999999 = -(2 * qq) + ka := by unfold ka; grind
        exact top_only (be := -(ka * (al : Rat))) (by grind) (by grind) (by rw [sn_neg]; grind)
    · by_cases c3 : n = 0
      · subst c3
        have e : asV 0 = 0 := rfl
        rw [e]
        rw [zero_cast] at hs2
        apply Rat.not_lt.1
        intro l
        have := sn_half (x := ka * (al : Rat)) (by grind) (by grind)
        grind
      · have I : AsIn n := ⟨by omega, by omega, c3⟩
        obtain ⟨v, D, rt, dk, -, p, ng⟩ := I.dir
        have X1 := rt_range rt
        have nb : (n.natAbs : Rat) ≤ 1000000000 := by
          have : ((n.natAbs : Nat) : Rat) ≤ ((1000000000 : Nat) : Rat) := Rat.natCast_le_natCast.2 (by omega)
          exact this
        have n0 := nat_nonneg n.natAbs
        have nn : -(n.natAbs : Rat) ≤ (n : Rat) ∧ (n : Rat) ≤ (n.natAbs : Rat) := by
          by_cases c : 0 < n
          · rw [nA_pos c]; have := int_pos c; grind
          · rw [nA_neg (by omega)]; have := int_neg (show n < 0 by omega); grind
        have dk2 := dk.neg
        rw [← Rat.intCast_neg] at dk2
        have r := asin_core (n := -n) (t := -asV n) (be := -(ka * (al : Rat))) (by omega) (by omega) (by omega) rt.neg dk2 (by grind) (by grind) (by rw [Rat.intCast_neg]; grind) (fun l => by have := ng (by omega); grind) (fun l => by have := p (by omega); grind) (by grind) (by rw [sn_neg, Rat.intCast_neg]; grind)
        grind
end Go.Proofs.YtcopmgnfakjdhaaGreatDoor
/- trig.ArcSin, plain: the words and the bounds. -/
namespace Go.Proofs.YtcopmgnfakjdhaaGreatDoor
set_option linter.unusedSimpArgs false
set_option linter.unusedVariables false
theorem as_near {n : Int} (h : -1000000000 ≤ n ∧ n ≤ 1000000000) : Fin (asW n) ∧ Near (fv (asW n)) (asV n) (2 / 100000000000000) ∧ -(158 / 100) ≤ asV n ∧ asV n ≤ 158 / 100 := by
  have bh := bd_aH
  by_cases c1 : n = 1000000000
  · subst c1
    have e : asV 1000000000 = aH := rfl
    have e2 : asW 1000000000 = 4609753056924675352 := rfl
    rw [e, e2, ap_word ap_aH]
    exact ⟨ap_aH.fin, near_refl _ (by grind), by grind, by grind⟩
  · by_cases c2 : n = -1000000000
    · subst c2
      have e : asV (-1000000000) = -aH := rfl
      have e2 : asW (-1000000000) = 13833125093779451160 := rfl
      have e1 : 13833125093779451160 = fneg 4609753056924675352 := by decide
      rw [e, e2, e1, (fneg_ok ap_aH.fin).2, ap_word ap_aH]
      exact ⟨(fneg_ok ap_aH.fin).1, near_refl _ (by grind), by grind, by grind⟩
    · by_cases c3 : n = 0
      · subst c3
        have e : asV 0 = 0 := rfl
        have e2 : asW 0 = 0 := rfl
        rw [e, e2, fin_zero.2]
        exact ⟨fin_zero.1, near_refl _ (by grind), by grind, by grind⟩
      · have I : AsIn n := ⟨by omega, by omega, c3⟩
        obtain ⟨v, D, rt, dk, nr, p, ng⟩ := I.dir
        have f : Fin (asW n) := by
          obtain ⟨-, f, -⟩ := rt_ok I.lo I.hi
          have X1 := rt_range rt
          have hY : Sml n := ⟨by omega, by omega⟩
          have Q := quot_word hY c3 f (by grind) (by grind)
          rw [I.v.2]
          by_cases c : 0 < n
          · have q := Q.pos c
            exact (atW_pos Q.fin q.1 (by grind)).1.fin
          · have q := Q.neg (by omega)
            exact (atW_neg Q.fin q.1 (by grind)).1.fin
        refine ⟨f, nr, ?_, ?_⟩
        · by_cases c : 0 < n
          · have := p c; grind
          · have := ng (by omega); grind
        · by_cases c : 0 < n
          · have := p c; grind
          · have := ng (by omega); grind
theorem asU_ok {n : Int} (h : -1000000000 ≤ n ∧ n ≤ 1000000000) : floatBits .quo .f64 (asW n) 4618760256179416344 = some (fdiv (asW n) 4618760256179416344) ∧ floatBits .mul .f64 (fdiv (asW n) 4618760256179416344) 4741671816366391296 = some (asU n) ∧ Ap (asU n) (fv (asW n) / a2Pi * 1000000000) (1 / 1000000) 1200000000 := by
  obtain ⟨f, nr, b1, b2⟩ := as_near h
  unfold Near at nr
  have p := bd_a2Pi
  have q := div_bd (a := fv (asW n)) (b := a2Pi) (B := 12 / 10) (by grind) (by grind) (by grind)
  obtain ⟨i1, a1⟩ := Ap.div (Ap.exact f (B := 7) (by grind) (by grind)) ap_a2Pi 6 (6 / 10000000000000000) (12 / 10) (12 / 10) (mid_of (by grind) (by grind)) (by grind) (by grind) (by grind) q (by grind) (by grind)
  obtain ⟨i2, a2⟩ := Ap.mul a1 ap_turn (1 / 1000000) 1200000000 1200000001 (mid_of (by grind) (by grind)) (by grind) (by grind) (by grind)
  exact ⟨i1, i2, a2⟩
theorem unit_rad {w u : Nat} {t : Rat} (a : Ap u (fv w / a2Pi * 1000000000) (1 / 1000000) 1200000000) (n : Near (fv w) t (2 / 100000000000000)) (l : -(337 / 100) ≤ t) (ub : t ≤ 337 / 100) : Near (fv u) (fv w / a2Pi * 1000000000) (1 / 1000000) ∧ Near (ka * fv u) t (5 / 100000000000000) := by
  have p := bd_a2Pi; have k := ka_bd; have pn := pi_near
  have al := a.lo; have au := a.hi
  refine ⟨⟨al, au⟩, ?_⟩
  clear a
  unfold Near at n pn ⊢
  generalize fv u = w' at *
  generalize fv w = v at *
  have e : v / a2Pi * a2Pi = v := by grind
  obtain ⟨g, hg⟩ : ∃ g, g = v / a2Pi := ⟨_, rfl⟩
  rw [← hg] at e al au
  have gb := div_bd (a := v) (b := a2Pi) (B := 6 / 10) (by grind) (by grind) (by grind)
  rw [← hg] at gb
  have m := rmul_bd (a := g) (b := 8 * qq - a2Pi) (A := 6 / 10) (B := 1 / 1000000000000000) gb (by grind)
  have m2 := rmul_bd (a := ka) (b := w' - g * 1000000000) (A := 62831856 / 10000000000000000) (B := 1 / 1000000) (by grind) (by grind)
  have e2 : ka * (g * 1000000000) = g * (8 * qq) := by unfold ka; grind
  clear hg gb p k
  have e3 : ka * (w' - g * 1000000000) = ka * w' - g * (8 * qq) := by rw [← e2]; grind
  rw [e3] at m2
  have e4 : g * (8 * qq - a2Pi) = g * (8 * qq) - v := by rw [← e]; grind
  rw [e4] at m
  clear e2 e3 e4 e
  generalize ka * w' = kw at *
  generalize g * (8 * qq) = gq at *
  constructor <;> grind
theorem asU_around {n : Int} (h : -1000000000 ≤ n ∧ n ≤ 1000000000) : AroundOk (asU n) (fv (asW n) / a2Pi * 1000000000) (13 / 1000000) := by
  have a := (asU_ok h).2.2
  have := around_near (a.weak Rat.le_refl (by grind)) (by grind)
  obtain ⟨s1, s2, s3, s4, s5, s6, s7, s8, s9, s10⟩ := this
  exact ⟨s1, s2, s3, s4, s5, s6, by grind, by grind, by grind, by grind⟩
def asLo (n : Int) : Int := max (aLo (asU n)) (-250000000)
def asHi (n : Int) : Int := min (aHi (asU n)) 250000000
end Go.Proofs.YtcopmgnfakjdhaaGreatDoor
