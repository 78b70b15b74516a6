/- Merged by wip/tools/pack.py out of XArcT, XArcK. -/
import Derived.Test.YtcopmgnfakjdhaaDoorArcs
import Derived.Test.YtcopmgnfakjdhaaDoorArcW
/- trig.Arc, plain: the interval contains the angles of the points of the box. -/
namespace Go.Proofs.YtcopmgnfakjdhaaDoor
set_option linter.unusedSimpArgs false
set_option linter.unusedVariables false
/-- Radians of a unit of angles. -/
def ka : Rat := 8 * qq / 1000000000
theorem ka_bd : 62831848 / 10000000000000000 ≤ ka ∧ ka ≤ 62831856 / 10000000000000000 := by have := qq_b9; unfold ka; constructor <;> grind
theorem ang_ka (a : Int) : ang a = ka * (a : Rat) := by unfold ang ka; grind
theorem pi_near : Near (8 * qq) a2Pi (1 / 1000000000000000) := by unfold Near qq kA kB kC a2Pi; constructor <;> grind
theorem dir_rad {Y X : Int} (hY : Sml Y) (hX : Sml X) (h0 : Y ≠ 0 ∨ X ≠ 0) : Near (ka * fv (dirW Y X)) (dirV Y X) (5 / 100000000000000) := by
  obtain ⟨D, n⟩ := dir_main hY hX h0
  obtain ⟨-, -, a⟩ := dir_ok hY hX
  have p := bd_a2Pi; have k := ka_bd; have pn := pi_near
  have l := D.lo; have u := D.hi
  have al := a.lo; have au := a.hi
  clear a D
  unfold Near at n pn ⊢
  generalize fv (dirW Y X) = w at *
  generalize fv (at2W Y X) = v at *
  generalize dirV Y X = t at *
  have e : v / a2Pi * a2Pi = v := by grind
  obtain ⟨g, hg⟩ : ∃ g, g = v / a2Pi := ⟨_, rfl⟩
  rw [← hg] at e al au
  have gb := div_bd (a := v) (b := a2Pi) (B := 6 / 10) (by grind) (by grind) (by grind)
  rw [← hg] at gb
  have m := rmul_bd (a := g) (b := 8 * qq - a2Pi) (A := 6 / 10) (B := 1 / 1000000000000000) gb (by grind)
  have m2 := rmul_bd (a := ka) (b := w - g * 1000000000) (A := 62831856 / 10000000000000000) (B := 1 / 1000000) (by grind) (by grind)
  have e2 : ka * (g * 1000000000) = g * (8 * qq) := by unfold ka; grind
  clear hg gb p k
  have e3 : ka * (w - g * 1000000000) = ka * w - g * (8 * qq) := by rw [← e2]; grind
  rw [e3] at m2
  have e4 : g * (8 * qq - a2Pi) = g * (8 * qq) - v := by rw [← e]; grind
  rw [e4] at m
  clear e2 e3 e4 e
  generalize ka * w = kw at *
  generalize g * (8 * qq) = gq at *
  constructor <;> grind
/-- How the differences to the first direction are brought near it. -/
theorem arcD_near {f : Nat} {Y X : Int} (hf : Md f 1200000001) (hY : Sml Y) (hX : Sml X) : ∃ j : Int, (j = 0 ∨ j = 1 ∨ j = -1) ∧ Near (fv (arcD f Y X)) (fv (dirW Y X) - fv f - 1000000000 * (j : Rat)) (3 / 1000000) := by
  obtain ⟨g, b1, b2⟩ := dir_fin hY hX
  have a0 := (Ap.sub (Ap.exact g b1 b2) (Ap.exact hf.fin hf.lo hf.hi) (1 / 1000000) 2400000002 2400000002 (mid_of (by grind) (by grind)) (by grind) (by grind) (by grind)).2
  have m0 := (d0_ok hf hY hX).2
  have m1 := (d1_ok m0).2
  have n0 : Near (fv (d0W f Y X)) (fv (dirW Y X) - fv f) (1 / 1000000) := ⟨a0.lo, a0.hi⟩
  have s1 := (Ap.sub (Ap.exact m0.fin m0.lo m0.hi) ap_turn (1 / 1000000) 3400000003 3400000003 (mid_of (by grind) (by grind)) (by grind) (by grind) (by grind)).2
  have s2 := (Ap.add (Ap.exact m1.fin m1.lo m1.hi) ap_turn (1 / 1000000) 3400000003 3400000003 (mid_of (by grind) (by grind)) (by grind) (by grind) (by grind)).2
  have t1 : Near (fv (fsub (d0W f Y X) 4741671816366391296)) (fv (d0W f Y X) - 1000000000) (1 / 1000000) := ⟨s1.lo, s1.hi⟩
  have t2 : Near (fv (fadd (d1W (d0W f Y X)) 4741671816366391296)) (fv (d1W (d0W f Y X)) + 1000000000) (1 / 1000000) := ⟨s2.lo, s2.hi⟩
  have z0 : ((0 : Int) : Rat) = 0 := rfl
  have z1 : ((1 : Int) : Rat) = 1 := rfl
  have z2 : ((-1 : Int) : Rat) = -1 := rfl
  have ml := m0.lo; have mh := m0.hi
  clear a0 s1 s2 m0 m1 b1 b2 g
  unfold arcD
  obtain ⟨x, hx⟩ : ∃ x, x = fv (d0W f Y X) := ⟨_, rfl⟩
  by_cases c1 : 500000000 < fv (d0W f Y X)
  · have e1 : d1W (d0W f Y X) = fsub (d0W f Y X) 4741671816366391296 := if_pos c1
    rw [e1] at t2 ⊢
    by_cases c2 : fv (fsub (d0W f Y X) 4741671816366391296) < -500000000
    · have e2 : d2W (fsub (d0W f Y X) 4741671816366391296) = fadd (fsub (d0W f Y X) 4741671816366391296) 4741671816366391296 := if_pos c2
      rw [e2]
      refine ⟨0, .inl rfl, ?_⟩
      rw [z0]
      clear c2 c1 hx e1 e2
      unfold Near at *
      constructor <;> grind
    · have e2 : d2W (fsub (d0W f Y X) 4741671816366391296) = fsub (d0W f Y X) 4741671816366391296 := if_neg c2
      rw [e2]
      refine ⟨1, .inr (.inl rfl), ?_⟩
      rw [z1]
      clear t2 c2 hx e1 e2
      unfold Near at *
      constructor <;> grind
  · have e1 : d1W (d0W f Y X) = d0W f Y X := if_neg c1
    rw [e1] at t2 ⊢
    by_cases c2 : fv (d0W f Y X) < -500000000
    · have e2 : d2W (d0W f Y X) = fadd (d0W f Y X) 4741671816366391296 := if_pos c2
      rw [e2]
      refine ⟨-1, .inr (.inr rfl), ?_⟩
      rw [z2]
      clear t1 c1 c2 hx e1 e2
      unfold Near at *
      constructor <;> grind
    · have e2 : d2W (d0W f Y X) = d0W f Y X := if_neg c2
      rw [e2]
      refine ⟨0, .inl rfl, ?_⟩
      rw [z0]
      clear t1 t2 c1 c2 hx e1 e2
      unfold Near at *
      constructor <;> grind
theorem dir_turn {t Y X R : Rat} (h : DirOk t Y X R) (hX : -R ≤ X ∧ X ≤ R) (hY : -R ≤ Y ∧ Y ≤ R) (j : Int) (hj : j = 0 ∨ j = 1 ∨ j = -1) (hp : -6 ≤ t - 8 * qq * (j : Rat) ∧ t - 8 * qq * (j : Rat) ≤ 6) {M : Rat} (hM : -8 ≤ M ∧ M ≤ 8) :
    ∃ r, Seen (Y * cs M - X * sn M) (X * cs M + Y * sn M) r R (t - 8 * qq * (j : Rat) - M) := by
  have q := qq_b9
  obtain ⟨n, p, l, u⟩ := h
  have R0 : 0 ≤ R := by grind
  -- the functions of the turned angle
  have key : Near (sn (t - 8 * qq * (j : Rat))) (sn t) (20 * eq1) ∧ Near (cs (t - 8 * qq * (j : Rat))) (cs t) (20 * eq1) := by
    rcases hj with rfl | rfl | rfl
    · rw [show ((0 : Int) : Rat) = 0 from rfl, show t - 8 * qq * 0 = t by grind]
      exact ⟨near_refl _ (by unfold eq1; grind), near_refl _ (by unfold eq1; grind)⟩
    · rw [show ((1 : Int) : Rat) = 1 from rfl] at hp ⊢
      have e := turn_any (x := t - 8 * qq * 1) (by grind)
      rw [show t - 8 * qq * 1 + 8 * qq = t by grind] at e
      refine ⟨?_, ?_⟩ <;> (unfold Near at *; grind)
    · rw [show ((-1 : Int) : Rat) = -1 from rfl, show t - 8 * qq * -1 = t + 8 * qq by grind] at *
      exact turn_any (x := t) (by grind)
  obtain ⟨k1, k2⟩ := key
  have xs := rmul_bd (a := X) (b := sn (t - 8 * qq * (j : Rat)) - sn t) (A := R) (B := 20 * eq1) hX (by unfold Near at k1; grind)
  have ys := rmul_bd (a := Y) (b := sn (t - 8 * qq * (j : Rat)) - sn t) (A := R) (B := 20 * eq1) hY (by unfold Near at k1; grind)
  have xc := rmul_bd (a := X) (b := cs (t - 8 * qq * (j : Rat)) - cs t) (A := R) (B := 20 * eq1) hX (by unfold Near at k2; grind)
  have yc := rmul_bd (a := Y) (b := cs (t - 8 * qq * (j : Rat)) - cs t) (A := R) (B := 20 * eq1) hY (by unfold Near at k2; grind)
  have hs := seen_of' (t := t - 8 * qq * (j : Rat)) (Y := Y) (X := X) (R := R) (M := M) ?_ ?_ (by grind) hX hY hM
  · exact ⟨_, hs⟩
  · clear p k1 k2 q l u hp hX hY hM
    generalize sn (t - 8 * qq * (j : Rat)) = s' at *
    generalize cs (t - 8 * qq * (j : Rat)) = c' at *
    generalize sn t = s at *
    generalize cs t = c at *
    unfold Near eq1 at *
    constructor <;> grind
  · clear n k1 k2 q l u hp hX hY hM
    generalize sn (t - 8 * qq * (j : Rat)) = s' at *
    generalize cs (t - 8 * qq * (j : Rat)) = c' at *
    generalize sn t = s at *
    generalize cs t = c at *
    unfold eq1 at *
    grind
theorem sz_bd (Y X : Int) : (-szR Y X ≤ (X : Rat) ∧ (X : Rat) ≤ szR Y X) ∧ (-szR Y X ≤ (Y : Rat) ∧ (Y : Rat) ≤ szR Y X) := by
  have n : ∀ n : Int, -(n.natAbs : Rat) ≤ (n : Rat) ∧ (n : Rat) ≤ (n.natAbs : Rat) := fun n => by
    have h1 : -(n.natAbs : Int) ≤ n := by omega
    have h2 : n ≤ (n.natAbs : Int) := by omega
    replace h1 := Rat.intCast_le_intCast.2 h1
    replace h2 := Rat.intCast_le_intCast.2 h2
    rw [Rat.intCast_neg, Rat.intCast_natCast] at h1
    rw [Rat.intCast_natCast] at h2
    exact ⟨h1, h2⟩
  have a := n X; have b := n Y
  have c := nat_nonneg X.natAbs; have d := nat_nonneg Y.natAbs
  unfold szR
  grind
theorem sz_pos {Y X : Int} (h : Y ≠ 0 ∨ X ≠ 0) : 0 < szR Y X := by
  unfold szR
  rw [← Rat.natCast_add]
  have : ((0 : Nat) : Rat) < ((X.natAbs + Y.natAbs : Nat) : Rat) := Rat.natCast_lt_natCast.2 (by omega)
  exact this
/-- A corner of the program's arc. -/
theorem crn_of {Y X : Int} (hY : Sml Y) (hX : Sml X) (h0 : Y ≠ 0 ∨ X ≠ 0) {f L G D rho : Rat} {j : Int} (hj : j = 0 ∨ j = 1 ∨ j = -1) (nD : Near D (fv (dirW Y X) - f - 1000000000 * (j : Rat)) (3 / 1000000)) (l1 : L ≤ D) (l2 : D ≤ G) (l3 : G - L ≤ 400000000)
    (m1 : -(47 / 10) ≤ ka * (f + (L + G) / 2) ∧ ka * (f + (L + G) / 2) ≤ 47 / 10) (hr : szR Y X ≤ 4 * rho) : Crn (X : Rat) (Y : Rat) (ka * (f + (L + G) / 2)) (ka * ((G - L) / 2) + 1 / 10000000000000) rho := by
  have dr := dir_rad hY hX h0
  have dm := (dir_main hY hX h0).1
  obtain ⟨bx, by'⟩ := sz_bd Y X
  have sp := sz_pos h0
  have k := ka_bd
  have kj : ka * (1000000000 * (j : Rat)) = 8 * qq * (j : Rat) := by unfold ka; grind
  have b : -(ka * ((G - L) / 2) + 1 / 10000000000000) ≤ dirV Y X - 8 * qq * (j : Rat) - ka * (f + (L + G) / 2) ∧ dirV Y X - 8 * qq * (j : Rat) - ka * (f + (L + G) / 2) ≤ ka * ((G - L) / 2) + 1 / 10000000000000 := by
    unfold Near at nD dr
    have p1 := Rat.mul_le_mul_of_nonneg_left nD.1 (show 0 ≤ ka by grind)
    have p2 := Rat.mul_le_mul_of_nonneg_left nD.2 (show 0 ≤ ka by grind)
    have p3 := Rat.mul_le_mul_of_nonneg_left l1 (show 0 ≤ ka by grind)
    have p4 := Rat.mul_le_mul_of_nonneg_left l2 (show 0 ≤ ka by grind)
    rw [← kj]
    clear dm bx by' sp hr m1 l1 l2 l3 nD kj
    generalize dirV Y X = t at *
    generalize fv (dirW Y X) = w at *
    generalize (j : Rat) = j at *
    constructor <;> grind
  have hb : ka * ((G - L) / 2) ≤ 12567 / 10000 := by
    have := Rat.mul_le_mul_of_nonneg_left l3 (show 0 ≤ ka by grind)
    grind
  have key : ∀ t jj hh mm : Rat, (-(hh + 1 / 10000000000000) ≤ t - jj - mm ∧ t - jj - mm ≤ hh + 1 / 10000000000000) → hh ≤ 12567 / 10000 → (-(47 / 10) ≤ mm ∧ mm ≤ 47 / 10) → (-6 ≤ t - jj ∧ t - jj ≤ 6) ∧ (-8 ≤ mm ∧ mm ≤ 8) := fun t jj hh mm h1 h2 h3 => by
    refine ⟨⟨?_, ?_⟩, ?_, ?_⟩ <;> grind
  obtain ⟨y1, y2⟩ := key _ _ _ _ b hb m1
  obtain ⟨r, s⟩ := dir_turn dm bx by' j hj y1 (M := ka * (f + (L + G) / 2)) y2
  exact ⟨r, szR Y X, _, s, b.1, b.2, sp, hr⟩
theorem arc_contains {a b c d : Int} (H : ArcIn a b c d) (hw : ¬ 400000000 < arcHi a b c d - arcLo a b c d) (al : Int) {x y rho : Rat} (hy1 : (a : Rat) ≤ y) (hy2 : y ≤ (b : Rat)) (hx1 : (c : Rat) ≤ x) (hx2 : x ≤ (d : Rat)) (rho0 : 0 < rho)
    (r1 : szR a c ≤ 4 * rho) (r2 : szR a d ≤ 4 * rho) (r3 : szR b c ≤ 4 * rho) (r4 : szR b d ≤ 4 * rho) (nx : Near x (rho * CN al) (rho / 1000000000000000)) (ny : Near y (rho * SN al) (rho / 1000000000000000)) :
    ∃ k : Int, arcLo a b c d ≤ al % 1000000000 + 1000000000 * k ∧ al % 1000000000 + 1000000000 * k ≤ arcHi a b c d := by
  obtain ⟨n1, n2, n3, n4⟩ := H.ne
  have hf : Md (dirW a c) 1200000001 := by obtain ⟨x, y, z⟩ := dir_fin H.sa H.sc'; exact ⟨x, y, z⟩
  have q0 := arcD_md hf H.sa H.sd
  have q1 := arcD_md hf H.sb H.sc'
  have q2 := arcD_md hf H.sb H.sd
  obtain ⟨j0, i0, e0⟩ := arcD_near hf H.sa H.sd
  obtain ⟨j1, i1, e1⟩ := arcD_near hf H.sb H.sc'
  obtain ⟨j2, i2, e2⟩ := arcD_near hf H.sb H.sd
  have l1 := md_min md_zero q0; have l2 := md_min l1 q1; have l3 := md_min l2 q2
  have g1 := md_max md_zero q0; have g2 := md_max g1 q1; have g3 := md_max g2 q2
  have v1 := (fmin_ok md_zero.fin q0.fin).2; have v2 := (fmin_ok l1.fin q1.fin).2; have v3 := (fmin_ok l2.fin q2.fin).2
  have u1 := (fmax_ok md_zero.fin q0.fin).2; have u2 := (fmax_ok g1.fin q1.fin).2; have u3 := (fmax_ok g2.fin q2.fin).2
  rw [fin_zero.2] at v1 u1
  obtain ⟨-, a1⟩ := arc_sum hf l3
  obtain ⟨-, a2⟩ := arc_sum hf g3
  have lo1 := a1.lo1; have hi1 := a2.hi1
  have eL : arcLo a b c d = aLo (fadd (dirW a c) (fminW (fminW (fminW 0 (arcD (dirW a c) a d)) (arcD (dirW a c) b c)) (arcD (dirW a c) b d))) := rfl
  have eH : arcHi a b c d = aHi (fadd (dirW a c) (fmaxW (fmaxW (fmaxW 0 (arcD (dirW a c) a d)) (arcD (dirW a c) b c)) (arcD (dirW a c) b d))) := rfl
  rw [← eL] at lo1
  rw [← eH] at hi1
  clear a1 a2 eL eH l1 l2 l3 g1 g2 g3 q0 q1 q2
  have wr : (arcHi a b c d : Rat) ≤ (arcLo a b c d : Rat) + 400000000 := by
    have := Rat.intCast_le_intCast.2 (show arcHi a b c d ≤ arcLo a b c d + 400000000 by omega)
    rw [Rat.intCast_add] at this
    exact this
  have ks : kSl - 2 / 10000 ≥ 7 / 10000 := by unfold kSl; grind
  generalize arcLo a b c d = lo at *
  generalize arcHi a b c d = hi at *
  generalize fv (fminW (fminW (fminW 0 (arcD (dirW a c) a d)) (arcD (dirW a c) b c)) (arcD (dirW a c) b d)) = L at *
  generalize fv (fmaxW (fmaxW (fmaxW 0 (arcD (dirW a c) a d)) (arcD (dirW a c) b c)) (arcD (dirW a c) b d)) = G at *
  generalize fv (fminW (fminW 0 (arcD (dirW a c) a d)) (arcD (dirW a c) b c)) = L2 at *
  generalize fv (fmaxW (fmaxW 0 (arcD (dirW a c) a d)) (arcD (dirW a c) b c)) = G2 at *
  generalize fv (fminW 0 (arcD (dirW a c) a d)) = L1 at *
  generalize fv (fmaxW 0 (arcD (dirW a c) a d)) = G1 at *
  generalize fv (arcD (dirW a c) a d) = D0 at *
  generalize fv (arcD (dirW a c) b c) = D1 at *
  generalize fv (arcD (dirW a c) b d) = D2 at *
  have k := ka_bd
  have o0 : L ≤ 0 ∧ L ≤ D0 ∧ L ≤ D1 ∧ L ≤ D2 := by clear e0 e1 e2; grind
  have o1 : 0 ≤ G ∧ D0 ≤ G ∧ D1 ≤ G ∧ D2 ≤ G := by clear e0 e1 e2; grind
  have wd : G - L ≤ 400000000 := by clear e0 e1 e2 v1 v2 v3 u1 u2 u3; grind
  -- the middle
  have dr := dir_rad H.sa H.sc' n1
  have dm := (dir_main H.sa H.sc' n1).1
  have dl := dm.lo; have du := dm.hi
  have mb : -(47 / 10) ≤ ka * (fv (dirW a c) + (L + G) / 2) ∧ ka * (fv (dirW a c) + (L + G) / 2) ≤ 47 / 10 := by
    have p1 := Rat.mul_le_mul_of_nonneg_left (show (L + G) / 2 ≤ 200000000 by grind) (show 0 ≤ ka by grind)
    have p2 := Rat.mul_le_mul_of_nonneg_left (show -200000000 ≤ (L + G) / 2 by grind) (show 0 ≤ ka by grind)
    unfold Near at dr
    clear e0 e1 e2 v1 v2 v3 u1 u2 u3 lo1 hi1 wr ks dm
    generalize fv (dirW a c) = w at *
    generalize dirV a c = t at *
    constructor <;> grind
  have z0 : ((0 : Int) : Rat) = 0 := rfl
  have c1 := crn_of H.sa H.sc' n1 (f := fv (dirW a c)) (L := L) (G := G) (D := 0) (j := 0) (.inl rfl) (by rw [z0]; unfold Near; constructor <;> grind) o0.1 o1.1 wd mb r1
  have c2 := crn_of H.sa H.sd n2 (f := fv (dirW a c)) (L := L) (G := G) i0 e0 o0.2.1 o1.2.1 wd mb r2
  have c3 := crn_of H.sb H.sc' n3 (f := fv (dirW a c)) (L := L) (G := G) i1 e1 o0.2.2.1 o1.2.2.1 wd mb r3
  have c4 := crn_of H.sb H.sd n4 (f := fv (dirW a c)) (L := L) (G := G) i2 e2 o0.2.2.2 o1.2.2.2 wd mb r4
  have hb : 0 ≤ ka * ((G - L) / 2) ∧ ka * ((G - L) / 2) ≤ 12567 / 10000 := by
    have p1 := Rat.mul_le_mul_of_nonneg_left wd (show 0 ≤ ka by grind)
    have p2 := Rat.mul_nonneg (show 0 ≤ ka by grind) (show 0 ≤ G - L by grind)
    clear e0 e1 e2 v1 v2 v3 u1 u2 u3 lo1 hi1 wr ks dm dr
    constructor <;> grind
  have ab := ang_bd (a := al % 1000000000) (by omega) (by omega)
  obtain ⟨kk, k1, k2⟩ := arc_in c1 c2 c3 c4 hy1 hy2 hx1 hx2 (by grind) (by grind) (by grind) rho0 ⟨ab.1, by grind⟩ nx ny
  refine ⟨kk, ?_⟩
  rw [ang_ka, show 8 * qq * (kk : Rat) = ka * (1000000000 * (kk : Rat)) by unfold ka; grind] at k1 k2
  have ez : ((al % 1000000000 + 1000000000 * kk : Int) : Rat) = ((al % 1000000000 : Int) : Rat) + 1000000000 * (kk : Rat) := by rw [Rat.intCast_add, Rat.intCast_mul]; rfl
  clear c1 c2 c3 c4 e0 e1 e2 v1 v2 v3 u1 u2 u3 dm dr nx ny hb ab mb hy1 hy2 hx1 hx2 dl du r1 r2 r3 r4 n1 n2 n3 n4 hf z0
  generalize fv (dirW a c) = f at *
  have w1 : f + L - 5 / 100000 ≤ ((al % 1000000000 : Int) : Rat) + 1000000000 * (kk : Rat) := by
    apply Rat.not_lt.1
    intro l
    have := Rat.mul_lt_mul_of_pos_left l (show 0 < ka by grind)
    clear lo1 hi1 wr ks ez o0 o1 l
    generalize ((al % 1000000000 : Int) : Rat) = z at *
    generalize (kk : Rat) = kk at *
    grind
  have w2 : ((al % 1000000000 : Int) : Rat) + 1000000000 * (kk : Rat) ≤ f + G + 5 / 100000 := by
    apply Rat.not_lt.1
    intro l
    have := Rat.mul_lt_mul_of_pos_left l (show 0 < ka by grind)
    clear lo1 hi1 wr ks ez o0 o1 l w1
    generalize ((al % 1000000000 : Int) : Rat) = z at *
    generalize (kk : Rat) = kk at *
    grind
  rw [← ez] at w1 w2
  constructor
  · apply int_le_of_rat; grind
  · apply int_le_of_rat; grind
end Go.Proofs.YtcopmgnfakjdhaaDoor
/- Arcs over small boxes are narrow, plain. -/
namespace Go.Proofs.YtcopmgnfakjdhaaDoor
set_option linter.unusedSimpArgs false
set_option linter.unusedVariables false
theorem to_half8 {z : Rat} (h : -8 ≤ z ∧ z ≤ 8) : ∃ k : Int, (k = 0 ∨ k = 1 ∨ k = -1) ∧ -(4 * qq) ≤ z + 8 * qq * (k : Rat) ∧ z + 8 * qq * (k : Rat) ≤ 4 * qq ∧ Near (sn (z + 8 * qq * (k : Rat))) (sn z) (40 * eq1) ∧ Near (cs (z + 8 * qq * (k : Rat))) (cs z) (40 * eq1) := by
  have b := qq_b9; have e := eq1_pos
  by_cases c1 : z < -(4 * qq)
  · refine ⟨1, .inr (.inl rfl), ?_⟩
    rw [show ((1 : Int) : Rat) = 1 from rfl, show z + 8 * qq * 1 = z + 8 * qq by grind]
    have t := turn_any (x := z) h
    exact ⟨by grind, by grind, near_weak t.1 (by grind), near_weak t.2 (by grind)⟩
  · by_cases c2 : z ≤ 4 * qq
    · refine ⟨0, .inl rfl, ?_⟩
      rw [show ((0 : Int) : Rat) = 0 from rfl, show z + 8 * qq * 0 = z by grind]
      exact ⟨by grind, c2, near_refl _ (by grind), near_refl _ (by grind)⟩
    · refine ⟨-1, .inr (.inr rfl), ?_⟩
      rw [show ((-1 : Int) : Rat) = -1 from rfl, show z + 8 * qq * -1 = z - 8 * qq by grind]
      have t := turn_any (x := z - 8 * qq) (by grind)
      rw [show z - 8 * qq + 8 * qq = z by grind] at t
      refine ⟨by grind, by grind, ?_, ?_⟩ <;> (unfold Near at *; grind)
/-- A pair near a point has a direction near the point's. -/
theorem corner_tight {t Y X R A rho e : Rat} (D : DirOk t Y X R) (hX : -R ≤ X ∧ X ≤ R) (hY : -R ≤ Y ∧ Y ≤ R) (hR : R ≤ 4 * rho) (r0 : 0 < rho) (hA : -(34 / 10) ≤ A ∧ A ≤ 34 / 10) (he : e ≤ rho / 100) (nx : Near X (rho * cs A) e) (ny : Near Y (rho * sn A) e) :
    ∃ k : Int, (k = 0 ∨ k = 1 ∨ k = -1) ∧ Near (t - A + 8 * qq * (k : Rat)) 0 (5 * (e / rho) + 1 / 10000000000000) := by
  have t8 : -8 ≤ t ∧ t ≤ 8 := by have := D.lo; have := D.hi; grind
  have A8 : -8 ≤ A ∧ A ≤ 8 := by grind
  have q := qq_b9
  have se := seen_of' (near_weak D.near (by grind)) (by have := D.pos; grind) t8 hX hY A8
  obtain ⟨k, hk, k1, k2, ks, kc⟩ := to_half8 (z := t - A) (by have := D.lo; have := D.hi; grind)
  refine ⟨k, hk, ?_⟩
  have sA := sn_le A8; have cA := cs_le A8; have py := pyth A8
  have e0 : 0 ≤ e := by unfold Near at nx; grind
  have p1 := rmul_bd (a := X - rho * cs A) (b := sn A) (A := e) (B := 101 / 100) (by unfold Near at nx; grind) (by unfold ep at sA; grind)
  have p2 := rmul_bd (a := X - rho * cs A) (b := cs A) (A := e) (B := 101 / 100) (by unfold Near at nx; grind) (by unfold ep at cA; grind)
  have p3 := rmul_bd (a := Y - rho * sn A) (b := sn A) (A := e) (B := 101 / 100) (by unfold Near at ny; grind) (by unfold ep at sA; grind)
  have p4 := rmul_bd (a := Y - rho * sn A) (b := cs A) (A := e) (B := 101 / 100) (by unfold Near at ny; grind) (by unfold ep at cA; grind)
  have pr := near_mulR py (Rat.le_of_lt r0)
  have S1 : -(203 / 100 * e) ≤ Y * cs A - X * sn A ∧ Y * cs A - X * sn A ≤ 203 / 100 * e := by
    clear p2 p3 pr sA cA py se ks kc
    generalize sn A = s at *
    generalize cs A = c at *
    constructor <;> grind
  have C1 : 97 / 100 * rho ≤ X * cs A + Y * sn A := by
    clear p1 p4 sA cA py se ks kc
    unfold Near ep at pr
    generalize sn A = s at *
    generalize cs A = c at *
    grind
  clear p1 p2 p3 p4 pr sA cA py nx ny
  obtain ⟨s, c, r1, r2⟩ := se
  generalize Y * cs A - X * sn A = S at *
  generalize X * cs A + Y * sn A = C at *
  generalize X * cs t + Y * sn t = r at *
  have zb : -8 ≤ t - A + 8 * qq * (k : Rat) ∧ t - A + 8 * qq * (k : Rat) ≤ 8 := ⟨Rat.le_trans (show (-8 : Rat) ≤ -(4 * qq) by clear k1 k2 ks kc; grind) k1, Rat.le_trans k2 (show 4 * qq ≤ 8 by clear k1 k2 ks kc; grind)⟩
  obtain ⟨z, hz⟩ : ∃ z, z = t - A + 8 * qq * (k : Rat) := ⟨_, rfl⟩
  rw [← hz] at ks kc k1 k2 zb ⊢
  have cz := cs_le zb
  have rp : 0 < r := by
    apply Rat.not_le.1
    intro l
    have z0 : r = 0 := by grind
    rw [z0] at c
    unfold Near at c
    grind
  have n1 := near_mulR ks (Rat.le_of_lt rp)
  have n2 := near_mulR kc (Rat.le_of_lt rp)
  have m := rmul_bd (a := r) (b := cs z) (A := r) (B := 101 / 100) (by grind) (by unfold ep at cz; grind)
  have rb : 95 / 100 * rho ≤ r := by
    unfold Near eq1 at *
    clear n1 ks kc s cz
    grind
  have c0 : -(1 / 1000) ≤ cs z := by
    apply Rat.not_lt.1
    intro l
    have := Rat.mul_lt_mul_of_pos_left l rp
    unfold Near eq1 at *
    clear n1 ks kc s cz m
    grind
  have qz := quarter_of ⟨k1, k2⟩ (show (0 : Rat) ≤ 1 / 1000 by grind) c0
  unfold eq1 at qz
  have ee : e / rho * rho = e := by grind
  obtain ⟨g, hg⟩ : ∃ g, g = e / rho := ⟨_, rfl⟩
  rw [← hg] at ee ⊢
  clear hg n2 kc c C1 m c0 cz
  have up : ∀ u : Rat, 0 ≤ u → u ≤ 8 / 5 → r * sn u ≤ 204 / 100 * e + 15 / 1000000000000000 * rho → u ≤ 5 * g + 1 / 10000000000000 := fun u u0 u1 hu => by
    have h := sn_half u0 u1
    have a := Rat.mul_le_mul_of_nonneg_left h (Rat.le_of_lt rp)
    have b := Rat.mul_le_mul_of_nonneg_right rb (show 0 ≤ u / 2 by grind)
    apply Rat.not_lt.1
    intro l
    have d := Rat.mul_lt_mul_of_pos_left l r0
    clear s n1 ks qz zb k1 k2 hz S1
    generalize sn u = su at *
    grind
  have tiny : r * (40 * eq1) ≤ 1 / 1000000000000000 * rho := by unfold eq1; grind
  unfold Near at s n1
  unfold Near
  by_cases z0 : 0 ≤ z
  · have := up z z0 (by grind) (by grind)
    grind
  · have := up (-z) (by grind) (by grind) (by rw [sn_neg]; grind)
    grind
/-- A difference of directions is at most half a turn. -/
theorem arcD_half {f : Nat} {Y X : Int} (hf : Md f 540000000) (hd : -540000000 ≤ fv (dirW Y X) ∧ fv (dirW Y X) ≤ 540000000) (hY : Sml Y) (hX : Sml X) : -500000001 ≤ fv (arcD f Y X) ∧ fv (arcD f Y X) ≤ 500000001 := by
  obtain ⟨g, b1, b2⟩ := dir_fin hY hX
  have hf2 : Md f 1200000001 := ⟨hf.fin, by have := hf.lo; grind, by have := hf.hi; grind⟩
  have a0 := (Ap.sub (Ap.exact g b1 b2) (Ap.exact hf2.fin hf2.lo hf2.hi) (1 / 1000000) 2400000002 2400000002 (mid_of (by grind) (by grind)) (by grind) (by grind) (by grind)).2
  have m0 := (d0_ok hf2 hY hX).2
  have m1 := (d1_ok m0).2
  have n0 : Near (fv (d0W f Y X)) (fv (dirW Y X) - fv f) (1 / 1000000) := ⟨a0.lo, a0.hi⟩
  have s1 := (Ap.sub (Ap.exact m0.fin m0.lo m0.hi) ap_turn (1 / 1000000) 3400000003 3400000003 (mid_of (by grind) (by grind)) (by grind) (by grind) (by grind)).2
  have s2 := (Ap.add (Ap.exact m1.fin m1.lo m1.hi) ap_turn (1 / 1000000) 3400000003 3400000003 (mid_of (by grind) (by grind)) (by grind) (by grind) (by grind)).2
  have t1 : Near (fv (fsub (d0W f Y X) 4741671816366391296)) (fv (d0W f Y X) - 1000000000) (1 / 1000000) := ⟨s1.lo, s1.hi⟩
  have t2 : Near (fv (fadd (d1W (d0W f Y X)) 4741671816366391296)) (fv (d1W (d0W f Y X)) + 1000000000) (1 / 1000000) := ⟨s2.lo, s2.hi⟩
  have fl := hf.lo; have fh := hf.hi
  clear a0 s1 s2 m0 m1 b1 b2 g hf hf2
  unfold arcD
  by_cases c1 : 500000000 < fv (d0W f Y X)
  · have e1 : d1W (d0W f Y X) = fsub (d0W f Y X) 4741671816366391296 := if_pos c1
    rw [e1] at t2 ⊢
    by_cases c2 : fv (fsub (d0W f Y X) 4741671816366391296) < -500000000
    · have e2 : d2W (fsub (d0W f Y X) 4741671816366391296) = fadd (fsub (d0W f Y X) 4741671816366391296) 4741671816366391296 := if_pos c2
      rw [e2]
      clear e1 e2
      unfold Near at *
      constructor <;> grind
    · have e2 : d2W (fsub (d0W f Y X) 4741671816366391296) = fsub (d0W f Y X) 4741671816366391296 := if_neg c2
      rw [e2]
      clear t2 e1 e2
      unfold Near at *
      constructor <;> grind
  · have e1 : d1W (d0W f Y X) = d0W f Y X := if_neg c1
    rw [e1] at t2 ⊢
    by_cases c2 : fv (d0W f Y X) < -500000000
    · have e2 : d2W (d0W f Y X) = fadd (d0W f Y X) 4741671816366391296 := if_pos c2
      rw [e2]
      clear t1 e1 e2
      unfold Near at *
      constructor <;> grind
    · have e2 : d2W (d0W f Y X) = d0W f Y X := if_neg c2
      rw [e2]
      clear t1 t2 e1 e2
      unfold Near at *
      constructor <;> grind
/-- One corner: where first + difference lies. -/
theorem tight_one {f t1 t w D A eta : Rat} {k1 k j : Int} (hf : Near (ka * f) t1 (5 / 100000000000000)) (hw : Near (ka * w) t (5 / 100000000000000)) (hD : Near D (w - f - 1000000000 * (j : Rat)) (3 / 1000000)) (hb : -500000001 ≤ D ∧ D ≤ 500000001)
    (z1 : Near (t1 - A + 8 * qq * (k1 : Rat)) 0 eta) (z : Near (t - A + 8 * qq * (k : Rat)) 0 eta) (he : eta ≤ 6 / 100) : Near (ka * (f + D)) (A - 8 * qq * (k1 : Rat)) (eta + 1 / 10000000000000) := by
  have q := qq_b9; have kb := ka_bd
  have kj : ka * (1000000000 * (j : Rat)) = 8 * qq * (j : Rat) := by unfold ka; grind
  unfold Near at *
  have p1 := Rat.mul_le_mul_of_nonneg_left hD.1 (show 0 ≤ ka by grind)
  have p2 := Rat.mul_le_mul_of_nonneg_left hD.2 (show 0 ≤ ka by grind)
  have p3 := Rat.mul_le_mul_of_nonneg_left hb.1 (show 0 ≤ ka by grind)
  have p4 := Rat.mul_le_mul_of_nonneg_left hb.2 (show 0 ≤ ka by grind)
  rw [show ka * -500000001 = -(ka * 500000001) by grind] at p3
  have kq : ka * 500000001 ≤ 4 * qq + 1 / 100000000 := by unfold ka; grind
  have ks : ka * (3 / 1000000) ≤ 2 / 100000000000000 := by grind
  -- the turns agree
  have em : ((k + j - k1 : Int) : Rat) = (k : Rat) + (j : Rat) - (k1 : Rat) := by rw [Rat.intCast_sub, Rat.intCast_add]
  have e1 : ka * (w - f - 1000000000 * (j : Rat) - 3 / 1000000) = ka * w - ka * f - 8 * qq * (j : Rat) - ka * (3 / 1000000) := by rw [← kj]; grind
  have e2 : ka * (w - f - 1000000000 * (j : Rat) + 3 / 1000000) = ka * w - ka * f - 8 * qq * (j : Rat) + ka * (3 / 1000000) := by rw [← kj]; grind
  rw [e1] at p1; rw [e2] at p2
  have m0 : k + j - k1 = 0 := by
    rcases (by omega : k + j - k1 = 0 ∨ 1 ≤ k + j - k1 ∨ k + j - k1 ≤ -1) with h | h | h
    · exact h
    · exfalso
      have r := int_pos (show 0 < k + j - k1 by omega)
      rw [em] at r
      have m := Rat.mul_le_mul_of_nonneg_left r (show 0 ≤ 8 * qq by grind)
      rw [show 8 * qq * ((k : Rat) + (j : Rat) - (k1 : Rat)) = 8 * qq * (k : Rat) + 8 * qq * (j : Rat) - 8 * qq * (k1 : Rat) by grind] at m
      clear kj em e1 e2 hD r kb
      generalize 8 * qq * (k : Rat) = a1 at *
      generalize 8 * qq * (j : Rat) = a2 at *
      generalize 8 * qq * (k1 : Rat) = a3 at *
      generalize ka * D = kd at *
      generalize ka * f = kf at *
      generalize ka * w = kw at *
      generalize ka * (3 / 1000000) = kk at *
      generalize ka * 500000001 = kl at *
      grind
    · exfalso
      have r := int_neg (show k + j - k1 < 0 by omega)
      rw [em] at r
      have m := Rat.mul_le_mul_of_nonneg_left r (show 0 ≤ 8 * qq by grind)
      rw [show 8 * qq * ((k : Rat) + (j : Rat) - (k1 : Rat)) = 8 * qq * (k : Rat) + 8 * qq * (j : Rat) - 8 * qq * (k1 : Rat) by grind] at m
      clear kj em e1 e2 hD r kb
      generalize 8 * qq * (k : Rat) = a1 at *
      generalize 8 * qq * (j : Rat) = a2 at *
      generalize 8 * qq * (k1 : Rat) = a3 at *
      generalize ka * D = kd at *
      generalize ka * f = kf at *
      generalize ka * w = kw at *
      generalize ka * (3 / 1000000) = kk at *
      generalize ka * 500000001 = kl at *
      grind
  have m1 : (k : Rat) + (j : Rat) - (k1 : Rat) = 0 := by rw [← em, m0]; rfl
  have m2 : 8 * qq * (k : Rat) + 8 * qq * (j : Rat) = 8 * qq * (k1 : Rat) := by
    have : 8 * qq * ((k : Rat) + (j : Rat) - (k1 : Rat)) = 0 := by rw [m1]; grind
    grind
  clear m0 m1 em kj e1 e2 hD p3 p4 kq
  have e3 : ka * (f + D) = ka * f + ka * D := by grind
  rw [e3]
  generalize 8 * qq * (k : Rat) = a1 at *
  generalize 8 * qq * (j : Rat) = a2 at *
  generalize 8 * qq * (k1 : Rat) = a3 at *
  generalize ka * D = kd at *
  generalize ka * f = kf at *
  generalize ka * w = kw at *
  constructor <;> grind
theorem arc_tight {a b c d : Int} (H : ArcIn a b c d) {A rho e : Rat} (r0 : 0 < rho) (hA : -(34 / 10) ≤ A ∧ A ≤ 34 / 10) (he : e ≤ rho / 100) (na : Near (a : Rat) (rho * sn A) e) (nb : Near (b : Rat) (rho * sn A) e) (nc : Near (c : Rat) (rho * cs A) e) (nd : Near (d : Rat) (rho * cs A) e)
    (r1 : szR a c ≤ 4 * rho) (r2 : szR a d ≤ 4 * rho) (r3 : szR b c ≤ 4 * rho) (r4 : szR b d ≤ 4 * rho) :
    ∃ K : Int, A - 8 * qq * (K : Rat) - (5 * (e / rho) + 2 / 10000000000000) ≤ ka * ((arcLo a b c d : Rat) + 2) ∧ ka * ((arcHi a b c d : Rat) - 2) ≤ A - 8 * qq * (K : Rat) + (5 * (e / rho) + 2 / 10000000000000) := by
  obtain ⟨n1, n2, n3, n4⟩ := H.ne
  have k := ka_bd
  have hd : ∀ {Y X : Int}, Sml Y → Sml X → (Y ≠ 0 ∨ X ≠ 0) → -540000000 ≤ fv (dirW Y X) ∧ fv (dirW Y X) ≤ 540000000 := fun hY hX h0 => by
    have dr := dir_rad hY hX h0
    have dm := (dir_main hY hX h0).1
    have l := dm.lo; have u := dm.hi
    unfold Near at dr
    clear dm
    constructor
    · apply Rat.not_lt.1
      intro h
      have := Rat.mul_lt_mul_of_pos_left h (show 0 < ka by grind)
      grind
    · apply Rat.not_lt.1
      intro h
      have := Rat.mul_lt_mul_of_pos_left h (show 0 < ka by grind)
      grind
  have d0 := hd H.sa H.sc' n1
  have hf : Md (dirW a c) 1200000001 := by obtain ⟨x, y, z⟩ := dir_fin H.sa H.sc'; exact ⟨x, y, z⟩
  have hf5 : Md (dirW a c) 540000000 := ⟨hf.fin, d0.1, d0.2⟩
  have q0 := arcD_md hf H.sa H.sd
  have q1 := arcD_md hf H.sb H.sc'
  have q2 := arcD_md hf H.sb H.sd
  obtain ⟨j0, -, e0⟩ := arcD_near hf H.sa H.sd
  obtain ⟨j1, -, e1⟩ := arcD_near hf H.sb H.sc'
  obtain ⟨j2, -, e2⟩ := arcD_near hf H.sb H.sd
  have b0 := arcD_half hf5 (hd H.sa H.sd n2) H.sa H.sd
  have b1 := arcD_half hf5 (hd H.sb H.sc' n3) H.sb H.sc'
  have b2 := arcD_half hf5 (hd H.sb H.sd n4) H.sb H.sd
  have w1 := dir_rad H.sa H.sc' n1; have w2 := dir_rad H.sa H.sd n2; have w3 := dir_rad H.sb H.sc' n3; have w4 := dir_rad H.sb H.sd n4
  obtain ⟨k1, -, z1⟩ := corner_tight (dir_main H.sa H.sc' n1).1 (sz_bd a c).1 (sz_bd a c).2 r1 r0 hA he nc na
  obtain ⟨k2, -, z2⟩ := corner_tight (dir_main H.sa H.sd n2).1 (sz_bd a d).1 (sz_bd a d).2 r2 r0 hA he nd na
  obtain ⟨k3, -, z3⟩ := corner_tight (dir_main H.sb H.sc' n3).1 (sz_bd b c).1 (sz_bd b c).2 r3 r0 hA he nc nb
  obtain ⟨k4, -, z4⟩ := corner_tight (dir_main H.sb H.sd n4).1 (sz_bd b d).1 (sz_bd b d).2 r4 r0 hA he nd nb
  have ee : 5 * (e / rho) + 1 / 10000000000000 ≤ 6 / 100 := by
    have x : e / rho * rho = e := by grind
    have : e / rho ≤ 1 / 100 := by
      apply Rat.not_lt.1
      intro h
      have := Rat.mul_lt_mul_of_pos_right h r0
      grind
    grind
  have o2 := tight_one w1 w2 e0 b0 z1 z2 ee
  have o3 := tight_one w1 w3 e1 b1 z1 z3 ee
  have o4 := tight_one w1 w4 e2 b2 z1 z4 ee
  have o1 := tight_one (j := 0) (D := 0) w1 w1 (by rw [zero_cast]; unfold Near; constructor <;> grind) (by constructor <;> grind) z1 z1 ee
  have l1 := md_min md_zero q0; have l2 := md_min l1 q1; have l3 := md_min l2 q2
  have g1 := md_max md_zero q0; have g2 := md_max g1 q1; have g3 := md_max g2 q2
  have v1 := (fmin_ok md_zero.fin q0.fin).2; have v2 := (fmin_ok l1.fin q1.fin).2; have v3 := (fmin_ok l2.fin q2.fin).2
  have u1 := (fmax_ok md_zero.fin q0.fin).2; have u2 := (fmax_ok g1.fin q1.fin).2; have u3 := (fmax_ok g2.fin q2.fin).2
  rw [fin_zero.2] at v1 u1
  obtain ⟨-, a1⟩ := arc_sum hf l3
  obtain ⟨-, a2⟩ := arc_sum hf g3
  have lo2 := a1.lo2; have hi2 := a2.hi2
  have eL : arcLo a b c d = aLo (fadd (dirW a c) (fminW (fminW (fminW 0 (arcD (dirW a c) a d)) (arcD (dirW a c) b c)) (arcD (dirW a c) b d))) := rfl
  have eH : arcHi a b c d = aHi (fadd (dirW a c) (fmaxW (fmaxW (fmaxW 0 (arcD (dirW a c) a d)) (arcD (dirW a c) b c)) (arcD (dirW a c) b d))) := rfl
  rw [← eL] at lo2
  rw [← eH] at hi2
  have ks : kSl ≤ 2 / 1000 := by unfold kSl; grind
  clear a1 a2 eL eH l1 l2 l3 g1 g2 g3 q0 q1 q2 z1 z2 z3 z4 w1 w2 w3 w4 e0 e1 e2 b0 b1 b2 hf hf5 d0 hd n1 n2 n3 n4 na nb nc nd r1 r2 r3 r4
  refine ⟨k1, ?_⟩
  generalize (arcLo a b c d : Rat) = lo at *
  generalize (arcHi a b c d : Rat) = hi at *
  generalize fv (fminW (fminW (fminW 0 (arcD (dirW a c) a d)) (arcD (dirW a c) b c)) (arcD (dirW a c) b d)) = L at *
  generalize fv (fmaxW (fmaxW (fmaxW 0 (arcD (dirW a c) a d)) (arcD (dirW a c) b c)) (arcD (dirW a c) b d)) = G at *
  generalize fv (fminW (fminW 0 (arcD (dirW a c) a d)) (arcD (dirW a c) b c)) = L2 at *
  generalize fv (fmaxW (fmaxW 0 (arcD (dirW a c) a d)) (arcD (dirW a c) b c)) = G2 at *
  generalize fv (fminW 0 (arcD (dirW a c) a d)) = L1 at *
  generalize fv (fmaxW 0 (arcD (dirW a c) a d)) = G1 at *
  generalize fv (arcD (dirW a c) a d) = D0 at *
  generalize fv (arcD (dirW a c) b c) = D1 at *
  generalize fv (arcD (dirW a c) b d) = D2 at *
  generalize fv (dirW a c) = f at *
  have hL : L = 0 ∨ L = D0 ∨ L = D1 ∨ L = D2 := by clear o1 o2 o3 o4 lo2 hi2; grind
  have hG : G = 0 ∨ G = D0 ∨ G = D1 ∨ G = D2 := by clear o1 o2 o3 o4 lo2 hi2; grind
  clear v1 v2 v3 u1 u2 u3
  have oL : Near (ka * (f + L)) (A - 8 * qq * (k1 : Rat)) (5 * (e / rho) + 1 / 10000000000000 + 1 / 10000000000000) := by
    rcases hL with rfl | rfl | rfl | rfl
    · exact o1
    · exact o2
    · exact o3
    · exact o4
  have oG : Near (ka * (f + G)) (A - 8 * qq * (k1 : Rat)) (5 * (e / rho) + 1 / 10000000000000 + 1 / 10000000000000) := by
    rcases hG with rfl | rfl | rfl | rfl
    · exact o1
    · exact o2
    · exact o3
    · exact o4
  clear o1 o2 o3 o4 hL hG
  have m1 := Rat.mul_le_mul_of_nonneg_left (show f + L ≤ lo + 2 by grind) (show 0 ≤ ka by grind)
  have m2 := Rat.mul_le_mul_of_nonneg_left (show hi - 2 ≤ f + G by grind) (show 0 ≤ ka by grind)
  unfold Near at oL oG
  clear lo2 hi2 ks ee k
  generalize ka * (f + L) = x1 at *
  generalize ka * (f + G) = x2 at *
  generalize ka * (lo + 2) = x3 at *
  generalize ka * (hi - 2) = x4 at *
  generalize 8 * qq * (k1 : Rat) = x5 at *
  generalize e / rho = g at *
  constructor <;> grind
end Go.Proofs.YtcopmgnfakjdhaaDoor
