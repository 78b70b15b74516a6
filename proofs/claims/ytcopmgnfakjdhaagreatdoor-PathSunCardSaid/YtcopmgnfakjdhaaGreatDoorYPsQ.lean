/- PathSun, plain: the point of the shadow as a direction of length 1. -/
import Derived.Test.YtcopmgnfakjdhaaGreatDoorYPsP
namespace Go.Proofs.YtcopmgnfakjdhaaGreatDoor
set_option linter.unusedSimpArgs false
set_option linter.unusedVariables false
structure PsPt (t : Int) (F G H f g h : Rat) : Prop where
  f1 : (c1Lo t : Rat) ≤ f
  f2 : f ≤ (c1Hi t : Rat)
  nf : Near f (1000000000 * F) (6 / 100000000000)
  g1 : (c2Lo t : Rat) ≤ g
  g2 : g ≤ (c2Hi t : Rat)
  ng : Near g (1000000000 * G) (6 / 100000000000)
  h1 : (c3Lo t : Rat) ≤ h
  h2 : h ≤ (c3Hi t : Rat)
  nh : Near h (1000000000 * H) (6 / 100000000000)
  un : Near (F * F + G * G + H * H) 1 (2 / 10000000000000000000)
  up : -(1 / 1000000000000000000) ≤ F * qX (slLo t) 0 + G * qY (slLo t) 0 + H * qZ (slLo t) 0
  c1 : Near (c1Lo t : Rat) (1000000000 * F) 268700000
  c2 : Near (c1Hi t : Rat) (1000000000 * F) 268700000
  d1 : Near (c2Lo t : Rat) (1000000000 * G) 252600000
  d2 : Near (c2Hi t : Rat) (1000000000 * G) 252600000
theorem ps_wide {a b : Int} {x : Rat} {W : Int} (h1 : (a : Rat) ≤ x) (h2 : x ≤ (b : Rat)) (hw : b - a ≤ W) : Near (a : Rat) x (W : Rat) ∧ Near (b : Rat) x (W : Rat) := by
  have g := Rat.intCast_le_intCast.2 hw
  rw [Rat.intCast_sub] at g
  unfold Near
  constructor <;> constructor <;> grind
theorem ps_alg {Z X Y s c S C : Rat} (n : Near (Z * Z + X * X + Y * Y) 1 (1 / 10000000000000000000)) (p : Near (c * c + s * s) 1 ep) (q : Near (C * C + S * S) 1 ep) (Z0 : 0 ≤ Z) (Z1 : Z ≤ 1) (Zp : Z * Z ≤ 1) (hs : -(1 + ep) ≤ s ∧ s ≤ 1 + ep) (hc : -(1 + ep) ≤ c ∧ c ≤ 1 + ep) :
    Near ((Z * c - X * s) * (Z * c - X * s) + ((Z * s + X * c) * C - Y * S) * ((Z * s + X * c) * C - Y * S) + ((Z * s + X * c) * S + Y * C) * ((Z * s + X * c) * S + Y * C)) 1 (2 / 10000000000000000000)
    ∧ (-(10001 / 10000) ≤ Z * s + X * c ∧ Z * s + X * c ≤ 10001 / 10000)
    ∧ (-(10001 / 10000) ≤ Z * c - X * s ∧ Z * c - X * s ≤ 10001 / 10000)
    ∧ -(1 / 1000000000000000000) ≤ (Z * c - X * s) * c + ((Z * s + X * c) * C - Y * S) * (s * C) + ((Z * s + X * c) * S + Y * C) * (s * S) := by
  have zz := sq_nonneg Z; have xx := sq_nonneg X; have yy := sq_nonneg Y
  obtain ⟨v, hv⟩ : ∃ v, v = Z * s + X * c := ⟨_, rfl⟩
  obtain ⟨u, hu⟩ : ∃ u, u = Z * c - X * s := ⟨_, rfl⟩
  have id1 : v * v + u * u = (Z * Z + X * X) + (Z * Z + X * X) * (c * c + s * s - 1) := by rw [hv, hu]; grind
  have n1 : Z * Z + X * X ≤ 1 + 1 / 10000000000000000000 := by unfold Near at n; grind
  have n2 : Y * Y ≤ 1 + 1 / 10000000000000000000 := by unfold Near at n; grind
  have m1 := rmul_bd (a := Z * Z + X * X) (b := c * c + s * s - 1) (A := 2) (B := ep) (by constructor <;> grind) (by unfold Near at p; constructor <;> grind)
  have vv := sq_nonneg v; have uu := sq_nonneg u
  have v2 : v * v ≤ 10001 / 10000 := by
    clear hv hu n p q hs hc
    generalize (Z * Z + X * X) * (c * c + s * s - 1) = w1 at *
    unfold ep at m1
    grind
  have u2 : u * u ≤ 10001 / 10000 := by
    clear hv hu n p q hs hc
    generalize (Z * Z + X * X) * (c * c + s * s - 1) = w1 at *
    unfold ep at m1
    grind
  have vb := ps_sq v2; have ub := ps_sq u2
  have m2 := rmul_bd (a := v * v + Y * Y) (b := C * C + S * S - 1) (A := 3) (B := ep) (by constructor <;> grind) (by unfold Near at q; constructor <;> grind)
  rw [← hv, ← hu]
  refine ⟨?_, vb, ub, ?_⟩
  · have id2 : u * u + (v * C - Y * S) * (v * C - Y * S) + (v * S + Y * C) * (v * S + Y * C) = (v * v + u * u + Y * Y) + (v * v + Y * Y) * (C * C + S * S - 1) := by grind
    rw [id2, id1]
    clear hv hu p q hs hc id1 id2 v2 u2 vb ub vv uu
    generalize (Z * Z + X * X) * (c * c + s * s - 1) = w1 at *
    generalize (v * v + Y * Y) * (C * C + S * S - 1) = w2 at *
    generalize Z * Z = w3 at *
    generalize X * X = w4 at *
    generalize Y * Y = w5 at *
    unfold Near ep at *
    constructor <;> grind
  · have id3 : u * c + (v * C - Y * S) * (s * C) + (v * S + Y * C) * (s * S) = Z + Z * (c * c + s * s - 1) + v * s * (C * C + S * S - 1) := by rw [hv, hu]; grind
    rw [id3]
    have m3 := rmul_bd (a := Z) (b := c * c + s * s - 1) (A := 1) (B := ep) (by constructor <;> grind) (by unfold Near at p; constructor <;> grind)
    have m4 := rmul_bd (a := v) (b := s) (A := 10001 / 10000) (B := 1 + ep) vb hs
    have m5 := rmul_bd (a := v * s) (b := C * C + S * S - 1) (A := 2) (B := ep) (by unfold ep at m4; constructor <;> grind) (by unfold Near at q; constructor <;> grind)
    clear hv hu p q hs hc id1 id3 v2 u2 vb ub vv uu m4 m1 m2 n
    generalize Z * (c * c + s * s - 1) = w1 at *
    generalize v * s * (C * C + S * S - 1) = w2 at *
    unfold ep at *
    grind
theorem q_zero (la : Rat) : qX la 0 = CA la ∧ qY la 0 = SA la * CN 65109000 ∧ qZ la 0 = SA la * SN 65109000 := by
  unfold qX qY qZ
  rw [SA_0, CA_0]
  refine ⟨?_, ?_, ?_⟩ <;> grind
theorem ps_c1 : ((1000000000000000000 : Int) : Rat) = 1000000000000000000 := by rw [show (1000000000000000000 : Int) = 1000000000 * 1000000000 from rfl, Rat.intCast_mul, show ((1000000000 : Int) : Rat) = 1000000000 from rfl]; grind
set_option maxHeartbeats 1000000 in
theorem ps_pt {t : Int} (C : CeOk t) : ∃ F G H f g h : Rat, PsPt t F G H f g h := by
  have B := ce_bd (t := t) (by have := C.i.s2; omega)
  have zw := ps_zw (t := t) (by have := C.i.s2; omega)
  have x := ox_bd t; have y := oy_bd t
  have i := C.i
  have cx := ps_corner x.1; have cy := ps_corner y.1
  have sx := (sqr_bd x.1).2.2.1; have sy := (sqr_bd y.1).2.2.1
  have r1 := B.root.r1; have s1 := B.root.s1
  have z0 := B.z0; have z1 := B.z1; have z2 := B.z2
  have x1 := i.x1; have x2 := i.x2; have y1 := i.y1; have y2 := i.y2
  have eH : sqrHi (oxLo t) (oxHi t) + sqrHi (oyLo t) (oyHi t) = smHi t := rfl
  have eL : sqrLo (oxLo t) (oxHi t) + sqrLo (oyLo t) (oyHi t) = smLo t := rfl
  have N1 : zzLo t * zzLo t + oxLo t * oxLo t + oyLo t * oyLo t ≤ 1000000000000000000 := by omega
  have N2 : 1000000000000000000 ≤ zzHi t * zzHi t + oxLo t * oxLo t + oyLo t * oyLo t := by omega
  clear cx cy sx sy r1 s1 eH eL
  have il : 0 ≤ slLo t ∧ slLo t < 1000000000 ∧ slLo t ≤ slHi t ∧ slHi t ≤ 130000000000 := an_bd sun_in
  have lw := sl_width t
  have N1' := Rat.intCast_le_intCast.2 N1
  have N2' := Rat.intCast_le_intCast.2 N2
  rw [Rat.intCast_add, Rat.intCast_add, Rat.intCast_mul, Rat.intCast_mul, Rat.intCast_mul, ps_c1] at N1' N2'
  obtain ⟨z, za, zb, zn⟩ := ps_root (a := zzLo t) (b := zzHi t) (N := 1000000000000000000 - (oxLo t : Rat) * (oxLo t : Rat) - (oyLo t : Rat) * (oyLo t : Rat)) z0 z1 z2 (by grind) (by grind)
  clear N1 N2 N1' N2'
  obtain ⟨za', zb'⟩ := ps_wide za zb zw
  obtain ⟨xa', xb'⟩ := ps_wide (a := oxLo t) (b := oxHi t) (x := (oxLo t : Rat)) Rat.le_refl (Rat.intCast_le_intCast.2 x.1) x.2.1
  obtain ⟨ya', yb'⟩ := ps_wide (a := oyLo t) (b := oyHi t) (x := (oyLo t : Rat)) Rat.le_refl (Rat.intCast_le_intCast.2 y.1) y.2.1
  rw [show ((252000000 : Int) : Rat) = 252000000 from rfl] at za' zb'
  rw [show ((16591016 : Int) : Rat) = 16591016 from rfl] at xa' xb'
  rw [show ((15080754 : Int) : Rat) = 15080754 from rfl] at ya' yb'
  obtain ⟨ys, s1, s2, s3⟩ := so_in (a := slLo t) (b := slHi t) (x := (slLo t : Rat)) Rat.le_refl (Rat.intCast_le_intCast.2 il.2.2.1)
  obtain ⟨yc, c1, c2, c3⟩ := co_in (a := slLo t) (b := slHi t) (x := (slLo t : Rat)) Rat.le_refl (Rat.intCast_le_intCast.2 il.2.2.1) (by omega)
  obtain ⟨u, u1, u2, u3⟩ := s_pt 65109000
  obtain ⟨v, v1, v2, v3⟩ := c_pt 65109000
  obtain ⟨X, hX⟩ : ∃ X : Rat, (oxLo t : Rat) = 1000000000 * X := ⟨(oxLo t : Rat) / 1000000000, by grind⟩
  obtain ⟨Y, hY⟩ : ∃ X : Rat, (oyLo t : Rat) = 1000000000 * X := ⟨(oyLo t : Rat) / 1000000000, by grind⟩
  obtain ⟨Z, hZ⟩ : ∃ X : Rat, z = 1000000000 * X := ⟨z / 1000000000, by grind⟩
  have xh := Rat.intCast_le_intCast.2 x.1
  have yh := Rat.intCast_le_intCast.2 y.1
  have bX : -1 ≤ X ∧ X ≤ 1 := by
    have p := Rat.intCast_le_intCast.2 x1
    have q := Rat.intCast_le_intCast.2 (show oxLo t ≤ 1000000000 by omega)
    rw [show ((-1000000000 : Int) : Rat) = -1000000000 from rfl] at p
    rw [show ((1000000000 : Int) : Rat) = 1000000000 from rfl] at q
    constructor <;> grind
  have bY : -1 ≤ Y ∧ Y ≤ 1 := by
    have p := Rat.intCast_le_intCast.2 y1
    have q := Rat.intCast_le_intCast.2 (show oyLo t ≤ 1000000000 by omega)
    rw [show ((-1000000000 : Int) : Rat) = -1000000000 from rfl] at p
    rw [show ((1000000000 : Int) : Rat) = 1000000000 from rfl] at q
    constructor <;> grind
  have bZ : 0 ≤ Z ∧ Z ≤ 1 := by
    have p := Rat.intCast_le_intCast.2 z0
    have q := Rat.intCast_le_intCast.2 z2
    rw [show ((0 : Int) : Rat) = 0 from rfl] at p
    rw [show ((1000000000 : Int) : Rat) = 1000000000 from rfl] at q
    constructor <;> grind
  have un : Near (Z * Z + X * X + Y * Y) 1 (1 / 10000000000000000000) := by
    rw [hX, hY, hZ] at zn
    rw [show 1000000000 * Z * (1000000000 * Z) = 1000000000000000000 * (Z * Z) by grind, show 1000000000 * X * (1000000000 * X) = 1000000000000000000 * (X * X) by grind, show 1000000000 * Y * (1000000000 * Y) = 1000000000000000000 * (Y * Y) by grind] at zn
    clear za' zb' xa' xb' ya' yb' s1 s2 s3 c1 c2 c3 u1 u2 u3 v1 v2 v3
    unfold Near at *
    generalize Z * Z = w1 at *
    generalize X * X = w2 at *
    generalize Y * Y = w3 at *
    constructor <;> grind
  have zp : Z * Z ≤ 1 := by
    have := rmul_bd (a := Z) (b := Z) (A := 1) (B := 1) (by constructor <;> grind) (by constructor <;> grind)
    grind
  have bl := SA_1 (slLo t : Rat); have be := SN_1 65109000
  obtain ⟨A1, A2, A3, A4⟩ := ps_alg (Z := Z) (X := X) (Y := Y) (s := SA (slLo t : Rat)) (c := CA (slLo t : Rat)) (S := SN 65109000) (C := CN 65109000) un (SA_pyth _) (SN_pyth 65109000) bZ.1 bZ.2 zp (SA_le _) (CA_le _)
  have zN : Near z (1000000000 * Z) 0 := by unfold Near; constructor <;> grind
  have xN : Near (oxLo t : Rat) (1000000000 * X) 0 := by unfold Near; constructor <;> grind
  have yN : Near (oyLo t : Rat) (1000000000 * Y) 0 := by unfold Near; constructor <;> grind
  have wX : -(10001 / 10000) ≤ X ∧ X ≤ 10001 / 10000 := by constructor <;> grind
  have wY : -(10001 / 10000) ≤ Y ∧ Y ≤ 10001 / 10000 := by constructor <;> grind
  have wZ : -(10001 / 10000) ≤ Z ∧ Z ≤ 10001 / 10000 := by constructor <;> grind
  have t1 : (tmLo (zzLo t) (zzHi t) (sS1 t) (sS2 t) : Rat) ≤ z * ys / 1000000000 ∧ z * ys / 1000000000 ≤ (tmHi (zzLo t) (zzHi t) (sS1 t) (sS2 t) : Rat) := tm_pt za zb s1 s2
  have t2 : (tmLo (oxLo t) (oxHi t) (sC1 t) (sC2 t) : Rat) ≤ (oxLo t : Rat) * yc / 1000000000 ∧ (oxLo t : Rat) * yc / 1000000000 ≤ (tmHi (oxLo t) (oxHi t) (sC1 t) (sC2 t) : Rat) := tm_pt Rat.le_refl xh c1 c2
  have t3 : (tmLo (zzLo t) (zzHi t) (sC1 t) (sC2 t) : Rat) ≤ z * yc / 1000000000 ∧ z * yc / 1000000000 ≤ (tmHi (zzLo t) (zzHi t) (sC1 t) (sC2 t) : Rat) := tm_pt za zb c1 c2
  have t4 : (tmLo (oxLo t) (oxHi t) (sS1 t) (sS2 t) : Rat) ≤ (oxLo t : Rat) * ys / 1000000000 ∧ (oxLo t : Rat) * ys / 1000000000 ≤ (tmHi (oxLo t) (oxHi t) (sS1 t) (sS2 t) : Rat) := tm_pt Rat.le_refl xh s1 s2
  have n1 := pr_near zN s3 wZ bl.1 (by constructor <;> grind) (by constructor <;> grind)
  have n2 := pr_near xN c3 wX bl.2 (by constructor <;> grind) (by constructor <;> grind)
  have n3 := pr_near zN c3 wZ bl.2 (by constructor <;> grind) (by constructor <;> grind)
  have n4 := pr_near xN s3 wX bl.1 (by constructor <;> grind) (by constructor <;> grind)
  have eL : (vvLo t : Rat) = (tmLo (zzLo t) (zzHi t) (sS1 t) (sS2 t) : Rat) + (tmLo (oxLo t) (oxHi t) (sC1 t) (sC2 t) : Rat) := by unfold vvLo; exact Rat.intCast_add _ _
  have eH : (vvHi t : Rat) = (tmHi (zzLo t) (zzHi t) (sS1 t) (sS2 t) : Rat) + (tmHi (oxLo t) (oxHi t) (sC1 t) (sC2 t) : Rat) := by unfold vvHi; exact Rat.intCast_add _ _
  have fL : (c1Lo t : Rat) = (tmLo (zzLo t) (zzHi t) (sC1 t) (sC2 t) : Rat) - (tmHi (oxLo t) (oxHi t) (sS1 t) (sS2 t) : Rat) := by unfold c1Lo; exact Rat.intCast_sub _ _
  have fH : (c1Hi t : Rat) = (tmHi (zzLo t) (zzHi t) (sC1 t) (sC2 t) : Rat) - (tmLo (oxLo t) (oxHi t) (sS1 t) (sS2 t) : Rat) := by unfold c1Hi; exact Rat.intCast_sub _ _
  have gL : (c2Lo t : Rat) = (tmLo (vvLo t) (vvHi t) (cLo 65109000) (cHi 65109000) : Rat) - (tmHi (oyLo t) (oyHi t) (sLo 65109000) (sHi 65109000) : Rat) := by unfold c2Lo; exact Rat.intCast_sub _ _
  have gH : (c2Hi t : Rat) = (tmHi (vvLo t) (vvHi t) (cLo 65109000) (cHi 65109000) : Rat) - (tmLo (oyLo t) (oyHi t) (sLo 65109000) (sHi 65109000) : Rat) := by unfold c2Hi; exact Rat.intCast_sub _ _
  have hL : (c3Lo t : Rat) = (tmLo (vvLo t) (vvHi t) (sLo 65109000) (sHi 65109000) : Rat) + (tmLo (oyLo t) (oyHi t) (cLo 65109000) (cHi 65109000) : Rat) := by unfold c3Lo; exact Rat.intCast_add _ _
  have hH : (c3Hi t : Rat) = (tmHi (vvLo t) (vvHi t) (sLo 65109000) (sHi 65109000) : Rat) + (tmHi (oyLo t) (oyHi t) (cLo 65109000) (cHi 65109000) : Rat) := by unfold c3Hi; exact Rat.intCast_add _ _
  obtain ⟨V, hV⟩ : ∃ V : Rat, V = z * ys / 1000000000 + (oxLo t : Rat) * yc / 1000000000 := ⟨_, rfl⟩
  have V1 : (vvLo t : Rat) ≤ V := by rw [eL, hV]; grind
  have V2 : V ≤ (vvHi t : Rat) := by rw [eH, hV]; grind
  have nV : Near V (1000000000 * (Z * SA (slLo t : Rat) + X * CA (slLo t : Rat))) (26 / 1000000000000) := by
    rw [hV]
    clear un A1 A4 eL eH fL fH gL gH hL hH n3 n4 za' zb' xa' xb' ya' yb' zn
    unfold Near at *
    generalize z * ys / 1000000000 = w1 at *
    generalize (oxLo t : Rat) * yc / 1000000000 = w2 at *
    generalize Z * SA (slLo t : Rat) = w3 at *
    generalize X * CA (slLo t : Rat) = w4 at *
    constructor <;> grind
  have t5 := tm_pt V1 V2 v1 v2
  have t6 := tm_pt (a := oyLo t) (b := oyHi t) (x := (oyLo t : Rat)) Rat.le_refl yh u1 u2
  have t7 := tm_pt V1 V2 u1 u2
  have t8 := tm_pt (a := oyLo t) (b := oyHi t) (x := (oyLo t : Rat)) Rat.le_refl yh v1 v2
  have n5 := pr_near nV v3 A2 be.2 (by constructor <;> grind) (by constructor <;> grind)
  have n6 := pr_near yN u3 wY be.1 (by constructor <;> grind) (by constructor <;> grind)
  have n7 := pr_near nV u3 A2 be.1 (by constructor <;> grind) (by constructor <;> grind)
  have n8 := pr_near yN v3 wY be.2 (by constructor <;> grind) (by constructor <;> grind)
  obtain ⟨l1, l2⟩ := so_near (W := 4004) il.2.2.1 lw (by omega) (Int.le_refl _) il.2.2.1
  obtain ⟨m1, m2⟩ := co_near (W := 4004) il.2.2.1 lw (by omega) (Int.le_refl _) il.2.2.1
  rw [← SA_int] at l1 l2
  rw [← CA_int] at m1 m2
  have kb := kW_4
  have l1' : Near (sS1 t : Rat) (1000000000 * SA (slLo t : Rat)) 25172 := near_weak l1 (by grind)
  have l2' : Near (sS2 t : Rat) (1000000000 * SA (slLo t : Rat)) 25172 := near_weak l2 (by grind)
  have m1' : Near (sC1 t : Rat) (1000000000 * CA (slLo t : Rat)) 25172 := near_weak m1 (by grind)
  have m2' : Near (sC2 t : Rat) (1000000000 * CA (slLo t : Rat)) 25172 := near_weak m2 (by grind)
  clear l1 l2 m1 m2 kb s1 s2 s3 c1 c2 c3 u1 u2 u3 v1 v2 v3 za zb x1 x2 y1 y2
  obtain ⟨ti1, ti2, ti3, ti4⟩ := tilt_sc
  have se := sin_span 65109000; have ce := cos_span 65109000
  have se1 : Near (sLo 65109000 : Rat) (1000000000 * SN 65109000) (103 / 100) := by have := se.lo; have := se.lo2; clear un A1 A4; unfold Near; grind
  have se2 : Near (sHi 65109000 : Rat) (1000000000 * SN 65109000) (103 / 100) := by have := se.hi; have := se.hi2; clear un A1 A4; unfold Near; grind
  have ce1 : Near (cLo 65109000 : Rat) (1000000000 * CN 65109000) (103 / 100) := by have := ce.lo; have := ce.lo2; clear un A1 A4; unfold Near; grind
  have ce2 : Near (cHi 65109000 : Rat) (1000000000 * CN 65109000) (103 / 100) := by have := ce.hi; have := ce.hi2; clear un A1 A4; unfold Near; grind
  clear se ce
  have bz : -1200000000 ≤ z ∧ z ≤ 1200000000 := by constructor <;> grind
  have bx : -1200000000 ≤ (oxLo t : Rat) ∧ (oxLo t : Rat) ≤ 1200000000 := by constructor <;> grind
  have by' : -1200000000 ≤ (oyLo t : Rat) ∧ (oyLo t : Rat) ≤ 1200000000 := by constructor <;> grind
  have hs : -(1000000000 * (10001 / 10000)) ≤ 1000000000 * SA (slLo t : Rat) ∧ 1000000000 * SA (slLo t : Rat) ≤ 1000000000 * (10001 / 10000) := by constructor <;> grind
  have hc : -(1000000000 * (10001 / 10000)) ≤ 1000000000 * CA (slLo t : Rat) ∧ 1000000000 * CA (slLo t : Rat) ≤ 1000000000 * (10001 / 10000) := by constructor <;> grind
  have zs := te_tm (N := 10001 / 10000) (g := 252070000) za' zb' l1' l2' bz hs (by grind) (by grind) (by grind)
  have zc := te_tm (N := 10001 / 10000) (g := 252070000) za' zb' m1' m2' bz hc (by grind) (by grind) (by grind)
  have xs := te_tm (N := 10001 / 10000) (g := 16630000) xa' xb' l1' l2' bx hs (by grind) (by grind) (by grind)
  have xc := te_tm (N := 10001 / 10000) (g := 16630000) xa' xb' m1' m2' bx hc (by grind) (by grind) (by grind)
  have yS := te_tm (N := 3979 / 10000) (g := 6001000) ya' yb' se1 se2 by' (by constructor <;> grind) (by grind) (by grind) (by grind)
  clear l1' l2' m1' m2' za' zb' xa' xb' ya' yb' hs hc
  have e1 : ∀ a b : Rat, z * (1000000000 * a) / 1000000000 = 1000000000 * (Z * a) := fun a b => by rw [hZ]; grind
  have e2' : ∀ a b : Rat, (oxLo t : Rat) * (1000000000 * a) / 1000000000 = 1000000000 * (X * a) := fun a b => by rw [hX]; grind
  have e3 : ∀ a b : Rat, (oyLo t : Rat) * (1000000000 * a) / 1000000000 = 1000000000 * (Y * a) := fun a b => by rw [hY]; grind
  rw [e1 _ 0] at zs zc
  rw [e2' _ 0] at xs xc
  rw [e3 _ 0] at yS
  have W1 : Near (vvLo t : Rat) (1000000000 * (Z * SA (slLo t : Rat) + X * CA (slLo t : Rat))) 268700000 := by
    rw [eL]
    obtain ⟨p, -⟩ := zs; obtain ⟨q, -⟩ := xc
    clear un A1 A4 eL eH fL fH gL gH hL hH n1 n2 n3 n4 n5 n6 n7 n8 zn
    unfold Near at *
    generalize Z * SA (slLo t : Rat) = w3 at *
    generalize X * CA (slLo t : Rat) = w4 at *
    constructor <;> grind
  have W2 : Near (vvHi t : Rat) (1000000000 * (Z * SA (slLo t : Rat) + X * CA (slLo t : Rat))) 268700000 := by
    rw [eH]
    obtain ⟨-, p⟩ := zs; obtain ⟨-, q⟩ := xc
    clear un A1 A4 eL eH fL fH gL gH hL hH n1 n2 n3 n4 n5 n6 n7 n8 zn W1
    unfold Near at *
    generalize Z * SA (slLo t : Rat) = w3 at *
    generalize X * CA (slLo t : Rat) = w4 at *
    constructor <;> grind
  have vc := te_tm (N := 9176 / 10000) (g := 246560000) W1 W2 ce1 ce2 (by constructor <;> grind) (by constructor <;> grind) (by grind) (by grind) (by grind)
  have e4 : ∀ a b : Rat, 1000000000 * b * (1000000000 * a) / 1000000000 = 1000000000 * (b * a) := fun a b => by grind
  rw [e4] at vc
  have q0 := q_zero (slLo t : Rat)
  refine ⟨Z * CA (slLo t : Rat) - X * SA (slLo t : Rat), (Z * SA (slLo t : Rat) + X * CA (slLo t : Rat)) * CN 65109000 - Y * SN 65109000, (Z * SA (slLo t : Rat) + X * CA (slLo t : Rat)) * SN 65109000 + Y * CN 65109000,
    z * yc / 1000000000 - (oxLo t : Rat) * ys / 1000000000, V * v / 1000000000 - (oyLo t : Rat) * u / 1000000000, V * u / 1000000000 + (oyLo t : Rat) * v / 1000000000, ?_⟩
  clear bz bx by' se1 se2 ce1 ce2 xN yN zN bl be bX bY bZ zp un zn nV V1 V2 wX wY wZ A2 A3 e1 e2' e3 e4 hV hX hY hZ xh yh
  constructor
  · rw [fL]; clear n1 n2 n3 n4 n5 n6 n7 n8 zs zc xs xc vc yS W1 W2 A1 A4; grind
  · rw [fH]; clear n1 n2 n3 n4 n5 n6 n7 n8 zs zc xs xc vc yS W1 W2 A1 A4; grind
  · clear n1 n2 n5 n6 n7 n8 zs zc xs xc vc yS W1 W2 A1 A4 t1 t2 t3 t4 t5 t6 t7 t8 eL eH fL fH gL gH hL hH
    unfold Near at *
    generalize z * yc / 1000000000 = w1 at *
    generalize (oxLo t : Rat) * ys / 1000000000 = w2 at *
    generalize Z * CA (slLo t : Rat) = w3 at *
    generalize X * SA (slLo t : Rat) = w4 at *
    constructor <;> grind
  · rw [gL]; clear n1 n2 n3 n4 n5 n6 n7 n8 zs zc xs xc vc yS W1 W2 A1 A4; grind
  · rw [gH]; clear n1 n2 n3 n4 n5 n6 n7 n8 zs zc xs xc vc yS W1 W2 A1 A4; grind
  · clear n1 n2 n3 n4 n7 n8 zs zc xs xc vc yS W1 W2 A1 A4 t1 t2 t3 t4 t5 t6 t7 t8 eL eH fL fH gL gH hL hH
    unfold Near at *
    generalize V * v / 1000000000 = w1 at *
    generalize (oyLo t : Rat) * u / 1000000000 = w2 at *
    generalize (Z * SA (slLo t : Rat) + X * CA (slLo t : Rat)) * CN 65109000 = w3 at *
    generalize Y * SN 65109000 = w4 at *
    constructor <;> grind
  · rw [hL]; clear n1 n2 n3 n4 n5 n6 n7 n8 zs zc xs xc vc yS W1 W2 A1 A4; grind
  · rw [hH]; clear n1 n2 n3 n4 n5 n6 n7 n8 zs zc xs xc vc yS W1 W2 A1 A4; grind
  · clear n1 n2 n3 n4 n5 n6 zs zc xs xc vc yS W1 W2 A1 A4 t1 t2 t3 t4 t5 t6 t7 t8 eL eH fL fH gL gH hL hH
    unfold Near at *
    generalize V * u / 1000000000 = w1 at *
    generalize (oyLo t : Rat) * v / 1000000000 = w2 at *
    generalize (Z * SA (slLo t : Rat) + X * CA (slLo t : Rat)) * SN 65109000 = w3 at *
    generalize Y * CN 65109000 = w4 at *
    constructor <;> grind
  · exact near_weak A1 (by grind)
  · rw [q0.1, q0.2.1, q0.2.2]; exact A4
  · rw [fL]
    obtain ⟨p, -⟩ := zc; obtain ⟨-, q⟩ := xs
    clear n1 n2 n3 n4 n5 n6 n7 n8 zs xc vc yS W1 W2 A1 A4 t1 t2 t3 t4 t5 t6 t7 t8 eL eH fL fH gL gH hL hH
    unfold Near at *
    generalize Z * CA (slLo t : Rat) = w3 at *
    generalize X * SA (slLo t : Rat) = w4 at *
    constructor <;> grind
  · rw [fH]
    obtain ⟨-, p⟩ := zc; obtain ⟨q, -⟩ := xs
    clear n1 n2 n3 n4 n5 n6 n7 n8 zs xc vc yS W1 W2 A1 A4 t1 t2 t3 t4 t5 t6 t7 t8 eL eH fL fH gL gH hL hH
    unfold Near at *
    generalize Z * CA (slLo t : Rat) = w3 at *
    generalize X * SA (slLo t : Rat) = w4 at *
    constructor <;> grind
  · rw [gL]
    obtain ⟨p, -⟩ := vc; obtain ⟨-, q⟩ := yS
    clear n1 n2 n3 n4 n5 n6 n7 n8 zs zc xs xc W1 W2 A1 A4 t1 t2 t3 t4 t5 t6 t7 t8 eL eH fL fH gL gH hL hH
    unfold Near at *
    generalize (Z * SA (slLo t : Rat) + X * CA (slLo t : Rat)) * CN 65109000 = w3 at *
    generalize Y * SN 65109000 = w4 at *
    constructor <;> grind
  · rw [gH]
    obtain ⟨-, p⟩ := vc; obtain ⟨q, -⟩ := yS
    clear n1 n2 n3 n4 n5 n6 n7 n8 zs zc xs xc W1 W2 A1 A4 t1 t2 t3 t4 t5 t6 t7 t8 eL eH fL fH gL gH hL hH
    unfold Near at *
    generalize (Z * SA (slLo t : Rat) + X * CA (slLo t : Rat)) * CN 65109000 = w3 at *
    generalize Y * SN 65109000 = w4 at *
    constructor <;> grind
end Go.Proofs.YtcopmgnfakjdhaaGreatDoor
