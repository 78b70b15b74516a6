/- PathSun, plain: the height of the sun at the place in the middle of the spans. -/
import Derived.Test.YtcopmgnfakjdhaaGreatDoorYPsQ
namespace Go.Proofs.YtcopmgnfakjdhaaGreatDoor
set_option linter.unusedSimpArgs false
set_option linter.unusedVariables false
theorem as_top : asHi 1000000000 = 250000000 ∧ asLo (-1000000000) = -250000000 := by decide +kernel
theorem ca_72 : 309000000 ≤ cLo 200000000 := by decide +kernel
theorem ca_far {x : Rat} (h1 : -200000000 ≤ x) (h2 : x ≤ 200000000) : 3 / 10 ≤ CA x := by
  obtain ⟨y, y1, y2, y3⟩ := c_pt 200000000
  have k := Rat.intCast_le_intCast.2 ca_72
  rw [show ((309000000 : Int) : Rat) = 309000000 from rfl] at k
  rw [← CA_int, show ((200000000 : Int) : Rat) = 200000000 from rfl] at y3
  by_cases c : 0 ≤ x
  · have f := ca_fallT c h2 (by grind)
    unfold Near at y3
    grind
  · have f := ca_fallT (x := -x) (y := 200000000) (by grind) (by grind) (by grind)
    have n := (SCA_neg x).2
    unfold Near e2 at *
    grind
structure PsAng (F G H al de rho : Rat) : Prop where
  x0 : 0 ≤ al
  x1 : al < 1000000000
  nz : Near (SA de) H (1 / 50000000000000000000)
  d3 : 3 / 10 ≤ CA de
  r0 : 29 / 100 ≤ rho
  rc : Near rho (CA de) (1 / 100000000000000)
  nx : Near F (rho * CA al) (1 / 10000000000000000)
  ny : Near G (rho * SA al) (1 / 10000000000000000)
theorem ps_ang {F G H de : Rat} (un : Near (F * F + G * G + H * H) 1 (2 / 10000000000000000000)) (nz : Near (SA de) H (1 / 50000000000000000000)) (h1 : -200000000 ≤ de) (h2 : de ≤ 200000000) : ∃ al rho, PsAng F G H al de rho := by
  have d3 := ca_far h1 h2
  have pD := SA_pyth de; have bd := SA_1 de
  have FF := sq_nonneg F; have GG := sq_nonneg G; have HH := sq_nonneg H
  have Hb := ps_sq (x := H) (by unfold Near at un; grind)
  have Fb := ps_sq (x := F) (by unfold Near at un; grind)
  have Gb := ps_sq (x := G) (by unfold Near at un; grind)
  have e4 := rmul_bd (a := SA de - H) (b := SA de + H) (A := 1 / 50000000000000000000) (B := 3) (by unfold Near at nz; constructor <;> grind) (by constructor <;> grind)
  rw [show (SA de - H) * (SA de + H) = SA de * SA de - H * H by grind] at e4
  have c9 := Rat.mul_le_mul_of_nonneg_left d3 (show 0 ≤ CA de by grind)
  have fg : 8 / 100 ≤ F * F + G * G := by
    clear nz bd Hb Fb Gb FF GG HH
    unfold Near ep at *
    generalize F * F = w1 at *
    generalize G * G = w2 at *
    generalize H * H = w3 at *
    generalize SA de * SA de = w4 at *
    generalize CA de * CA de = w5 at *
    grind
  obtain ⟨R, al, rho, PL, rho4, R2⟩ := polar4 (X := F) (Y := G) (A := 10001 / 10000) Fb Gb (by
    by_cases c : F = 0
    · right; intro d; rw [c, d] at fg; grind
    · exact .inl c)
  have pA := SA_pyth al; have ba := SA_1 al
  have nx : Near F (rho * CA al) (3 / 100000000000000000) := near_weak PL.nx (by grind)
  have ny : Near G (rho * SA al) (3 / 100000000000000000) := near_weak PL.ny (by grind)
  have rp := PL.r0
  have m1 := rmul_bd (a := rho) (b := CA al) (A := 5) (B := 10001 / 10000) (by constructor <;> grind) ba.2
  have m2 := rmul_bd (a := rho) (b := SA al) (A := 5) (B := 10001 / 10000) (by constructor <;> grind) ba.1
  have e1 := rmul_bd (a := rho * CA al - F) (b := rho * CA al + F) (A := 3 / 100000000000000000) (B := 7) (by unfold Near at nx; constructor <;> grind) (by constructor <;> grind)
  have e2' := rmul_bd (a := rho * SA al - G) (b := rho * SA al + G) (A := 3 / 100000000000000000) (B := 7) (by unfold Near at ny; constructor <;> grind) (by constructor <;> grind)
  have rr := rmul_bd (a := rho) (b := rho) (A := 5) (B := 5) (by constructor <;> grind) (by constructor <;> grind)
  have e3 := rmul_bd (a := rho * rho) (b := CA al * CA al + SA al * SA al - 1) (A := 25) (B := ep) (by constructor <;> grind) (by unfold Near at pA; constructor <;> grind)
  rw [show (rho * CA al - F) * (rho * CA al + F) = rho * rho * (CA al * CA al) - F * F by grind] at e1
  rw [show (rho * SA al - G) * (rho * SA al + G) = rho * rho * (SA al * SA al) - G * G by grind] at e2'
  rw [show rho * rho * (CA al * CA al + SA al * SA al - 1) = rho * rho * (CA al * CA al) + rho * rho * (SA al * SA al) - rho * rho by grind] at e3
  have sqs : -(1 / 1000000000000000) ≤ rho * rho - CA de * CA de ∧ rho * rho - CA de * CA de ≤ 1 / 1000000000000000 := by
    clear nx ny nz PL m1 m2 pA ba bd Hb Fb Gb FF GG HH rr d3 h1 h2 fg rho4 R2
    unfold Near ep at *
    generalize rho * rho * (CA al * CA al) = w1 at *
    generalize rho * rho * (SA al * SA al) = w2 at *
    generalize F * F = w3 at *
    generalize G * G = w4 at *
    generalize H * H = w5 at *
    generalize rho * rho = w6 at *
    generalize SA de * SA de = w7 at *
    generalize CA de * CA de = w8 at *
    constructor <;> grind
  have id : rho * rho - CA de * CA de = (rho - CA de) * (rho + CA de) := by grind
  rw [id] at sqs
  have rc : Near rho (CA de) (4 / 1000000000000000) := by
    clear nx ny nz m1 m2 pA ba bd Hb Fb Gb FF GG HH rr h1 h2 fg rho4 R2 e1 e2' e3 e4 un pD c9 id
    unfold Near
    constructor
    · apply Rat.not_lt.1
      intro l
      have m := Rat.mul_le_mul_of_nonneg_left (show 3 / 10 ≤ rho + CA de by grind) (show 0 ≤ -(rho - CA de) by grind)
      rw [show -(rho - CA de) * (rho + CA de) = -((rho - CA de) * (rho + CA de)) by grind] at m
      generalize (rho - CA de) * (rho + CA de) = z at *
      grind
    · apply Rat.not_lt.1
      intro l
      have m := Rat.mul_le_mul_of_nonneg_left (show 3 / 10 ≤ rho + CA de by grind) (show 0 ≤ rho - CA de by grind)
      generalize (rho - CA de) * (rho + CA de) = z at *
      grind
  exact ⟨al, rho, PL.x0, PL.x1, nz, d3, by unfold Near at rc; grind, near_weak rc (by grind), near_weak nx (by grind), near_weak ny (by grind)⟩
theorem ps_nab {n : Int} {x e B : Rat} (h : Near (n : Rat) x e) (hx : -B ≤ x ∧ x ≤ B) : (n.natAbs : Rat) ≤ B + e := by
  unfold Near at h
  rcases nab_rat n with c | c <;> grind
def psL1 (t : Int) : Int := lsLo (cR1 t) (cR2 t) (sdLo 0 t) (sdHi 0 t)
def psL2 (t : Int) : Int := lsHi (cR1 t) (cR2 t) (sdLo 0 t) (sdHi 0 t)
structure PsIn (t : Int) (al de : Rat) : Prop where
  d1 : (asLo (clT (c3Lo t)) : Rat) ≤ de
  d2 : de ≤ (asHi (clT (c3Hi t)) : Rat)
  a : ∃ j : Int, (psL1 t : Rat) ≤ al - (sdLo 0 t : Rat) + 1000000000 * (j : Rat) ∧ al - (sdLo 0 t : Rat) + 1000000000 * (j : Rat) ≤ (psL2 t : Rat)
theorem ps_in {t : Int} (C : CeOk t) {F G H f g h : Rat} (P : PsPt t F G H f g h) (h1 : -200000000 ≤ asLo (clT (c3Lo t))) (h2 : asHi (clT (c3Hi t)) ≤ 200000000) : ∃ al de rho, PsAng F G H al de rho ∧ PsIn t al de := by
  have B := ce_bd (t := t) (by have := C.i.s2; omega)
  have o3 := B.f3.2.1
  have u1 : c3Hi t < 1000000000 := by
    apply Int.not_le.1
    intro l
    have e : clT (c3Hi t) = 1000000000 := by unfold clT; omega
    rw [e, as_top.1] at h2
    omega
  have u2 : -1000000000 < c3Lo t := by
    apply Int.not_le.1
    intro l
    have e : clT (c3Lo t) = -1000000000 := by unfold clT; omega
    rw [e, as_top.2] at h1
    omega
  have eL : clT (c3Lo t) = c3Lo t := by unfold clT; omega
  have eH : clT (c3Hi t) = c3Hi t := by unfold clT; omega
  have g1 := Rat.intCast_le_intCast.2 (show c3Hi t ≤ 999999999 by omega)
  have g2 := Rat.intCast_le_intCast.2 (show -999999999 ≤ c3Lo t by omega)
  rw [show ((999999999 : Int) : Rat) = 999999999 from rfl] at g1
  rw [show ((-999999999 : Int) : Rat) = -999999999 from rfl] at g2
  have p1 := P.h1; have p2 := P.h2; have p3 := P.nh
  obtain ⟨de, d1, d2, nz⟩ := asin_ex2 (v := H) (by unfold Near at p3; grind) (by unfold Near at p3; grind)
  have dl : (asLo (clT (c3Lo t)) : Rat) ≤ de := by
    rw [eL]
    refine asLo_leR (by omega) (by omega) d1 d2 ?_
    unfold Near at p3 nz
    grind
  have dh : de ≤ (asHi (clT (c3Hi t)) : Rat) := by
    rw [eH]
    refine asHi_geR (by omega) (by omega) d1 d2 ?_
    unfold Near at p3 nz
    grind
  have k1 := Rat.intCast_le_intCast.2 h1
  have k2 := Rat.intCast_le_intCast.2 h2
  rw [show ((-200000000 : Int) : Rat) = -200000000 from rfl] at k1
  rw [show ((200000000 : Int) : Rat) = 200000000 from rfl] at k2
  obtain ⟨al, rho, A⟩ := ps_ang P.un nz (by grind) (by grind)
  have AI := ce_arc (t := t) (by have := C.i.s2; omega) C.no
  have r0 := A.r0; have nx := A.nx; have ny := A.ny
  have ba := SA_1 al
  have rb : rho ≤ 11 / 10 := by
    have a := A.rc; have b := (SA_1 de).2
    unfold Near at a
    grind
  have m1 := rmul_bd (a := rho) (b := CA al) (A := rho) (B := 10001 / 10000) (by constructor <;> grind) ba.2
  have m2 := rmul_bd (a := rho) (b := SA al) (A := rho) (B := 10001 / 10000) (by constructor <;> grind) ba.1
  have Fb : -(1000000000 * rho * (10002 / 10000)) ≤ 1000000000 * F ∧ 1000000000 * F ≤ 1000000000 * rho * (10002 / 10000) := by unfold Near at nx; constructor <;> grind
  have Gb : -(1000000000 * rho * (10002 / 10000)) ≤ 1000000000 * G ∧ 1000000000 * G ≤ 1000000000 * rho * (10002 / 10000) := by unfold Near at ny; constructor <;> grind
  have s1 := ps_nab P.c1 Fb; have s2 := ps_nab P.c2 Fb; have s3 := ps_nab P.d1 Gb; have s4 := ps_nab P.d2 Gb
  have nX : Near f (1000000000 * rho * CA al) (1000000000 * rho / 1000000000000000) := by
    have p := P.nf
    clear ny m1 m2 Fb Gb s1 s2 s3 s4 P A
    unfold Near at *
    rw [show 1000000000 * rho * CA al = 1000000000 * (rho * CA al) by grind]
    generalize rho * CA al = w at *
    constructor <;> grind
  have nY : Near g (1000000000 * rho * SA al) (1000000000 * rho / 1000000000000000) := by
    have p := P.ng
    clear nx m1 m2 Fb Gb s1 s2 s3 s4 P A
    unfold Near at *
    rw [show 1000000000 * rho * SA al = 1000000000 * (rho * SA al) by grind]
    generalize rho * SA al = w at *
    constructor <;> grind
  obtain ⟨k, q1, q2⟩ := arc_containsR AI C.nw A.x0 A.x1 P.g1 P.g2 P.f1 P.f2 (rho := 1000000000 * rho) (by grind) (by unfold szR; grind) (by unfold szR; grind) (by unfold szR; grind) (by unfold szR; grind) nX nY
  have eA : arcLo (c2Lo t) (c2Hi t) (c1Lo t) (c1Hi t) = caLo t := rfl
  have eB : arcHi (c2Lo t) (c2Hi t) (c1Lo t) (c1Hi t) = caHi t := rfl
  rw [eA] at q1; rw [eB] at q2
  refine ⟨al, de, rho, A, dl, dh, ?_⟩
  have sd := sd_bd 0 t
  have i1 : psL1 t = caLo t - sdHi 0 t - 1000000000 * (caLo t / 1000000000 + (cR1 t - sdHi 0 t) / 1000000000) := by unfold psL1 lsLo cR1; omega
  have i2 : psL2 t = caHi t - sdLo 0 t - 1000000000 * (caLo t / 1000000000 + (cR1 t - sdHi 0 t) / 1000000000) := by unfold psL2 lsHi cR1 cR2; omega
  generalize caLo t / 1000000000 + (cR1 t - sdHi 0 t) / 1000000000 = j at *
  refine ⟨k - j, ?_⟩
  rw [i1, i2, Rat.intCast_sub, Rat.intCast_sub, Rat.intCast_sub, Rat.intCast_sub, Rat.intCast_mul, show ((1000000000 : Int) : Rat) = 1000000000 from rfl, Rat.intCast_sub]
  have sr := Rat.intCast_le_intCast.2 sd.2.2.1
  clear i1 i2 nX nY s1 s2 s3 s4 Fb Gb m1 m2 nx ny A P
  constructor <;> grind
theorem ps_sunup (lon lat t : Int) : ∃ y : Rat, (upLo lat (hhLo lon t (sRH t)) (hhHi lon t (sRL t)) (sDL t) (sDH t) : Rat) ≤ y ∧ y ≤ (upHi lat (hhLo lon t (sRH t)) (hhHi lon t (sRL t)) (sDL t) (sDH t) : Rat) ∧ Near y (1000000000 * upV lat (sdLo lon t : Rat) (slLo t : Rat) 0) (1 / 10000) := by
  have a : 0 ≤ slLo t ∧ slLo t < 1000000000 ∧ slLo t ≤ slHi t ∧ slHi t ≤ 130000000000 := an_bd sun_in
  have b := sl_width t
  have sd := sd_bd lon t
  have z0 : ((0 : Int) : Rat) = 0 := rfl
  exact up_in (b1 := 0) (b2 := 0) (be := 0) ⟨by omega, by omega, by omega⟩ (by omega) (by omega) (by omega) (by omega) (by omega) Rat.le_refl (Rat.intCast_le_intCast.2 a.2.2.1) (by rw [z0]; grind) (by rw [z0]; grind) Rat.le_refl (Rat.intCast_le_intCast.2 sd.2.2.1)
theorem ps_ra : 0 ≤ ra 5000001 ∧ ra 5000001 ≤ 314161 / 10000000 := by
  have q := qq_b9
  unfold ra
  generalize qq = p at *
  constructor <;> grind
theorem ps_near {F G H al de rho X Y Z b d : Rat} (A : PsAng F G H al de rho) (un : Near (X * X + Y * Y + Z * Z) 1 (1 / 10000000000000000000000000)) (up : -(1 / 1000000000000000000) ≤ F * X + G * Y + H * Z) (hb : -5000001 ≤ (b - de) / 2 ∧ (b - de) / 2 ≤ 5000001) (hd : -5000001 ≤ d / 2 ∧ d / 2 ≤ 5000001) :
    -(126 / 1000) ≤ SA b * Z + CA b * (CA (al + d) * X + SA (al + d) * Y) := by
  have XX := sq_nonneg X; have YY := sq_nonneg Y; have ZZ := sq_nonneg Z
  have Xb := ps_sq (x := X) (by unfold Near at un; grind)
  have Yb := ps_sq (x := Y) (by unfold Near at un; grind)
  have Zb := ps_sq (x := Z) (by unfold Near at un; grind)
  have pa := SA_pyth al; have ba := SA_1 al; have bb := SA_1 b; have bd := SA_1 de
  obtain ⟨M, hM⟩ : ∃ M, M = CA al * X + SA al * Y := ⟨_, rfl⟩
  obtain ⟨N, hN⟩ : ∃ M, M = CA al * Y - SA al * X := ⟨_, rfl⟩
  have id : M * M + N * N = (X * X + Y * Y) + (X * X + Y * Y) * (CA al * CA al + SA al * SA al - 1) := by rw [hM, hN]; grind
  have NN := sq_nonneg N
  have mm := rmul_bd (a := X * X + Y * Y) (b := CA al * CA al + SA al * SA al - 1) (A := 2) (B := ep) (by unfold Near at un; constructor <;> grind) (by unfold Near at pa; constructor <;> grind)
  have MZ : M * M + Z * Z ≤ 10001 / 10000 := by
    clear hM hN up hb hd ba bb bd pa Xb Yb Zb A
    generalize (X * X + Y * Y) * (CA al * CA al + SA al * SA al - 1) = w1 at *
    unfold Near ep at *
    grind
  have R1 := ps_rot (y := de) (d := b - de) (p := M) (q := Z) hb MZ
  have R2 := ps_rot (y := al) (d := d) (p := X) (q := Y) hd (by unfold Near at un; grind)
  rw [show de + (b - de) = b by grind] at R1
  rw [← hM] at R2
  have nz := A.nz; have rc := A.rc; have nx := A.nx; have ny := A.ny
  have k1 := rmul_bd (a := SA de - H) (b := Z) (A := 1 / 50000000000000000000) (B := 10001 / 10000) (by unfold Near at nz; constructor <;> grind) Zb
  have k2 := rmul_bd (a := F - rho * CA al) (b := X) (A := 1 / 10000000000000000) (B := 10001 / 10000) (by unfold Near at nx; constructor <;> grind) Xb
  have k3 := rmul_bd (a := G - rho * SA al) (b := Y) (A := 1 / 10000000000000000) (B := 10001 / 10000) (by unfold Near at ny; constructor <;> grind) Yb
  have Mb := ps_sq (x := M) (by grind)
  have k4 := rmul_bd (a := rho - CA de) (b := M) (A := 1 / 100000000000000) (B := 10001 / 10000) (by unfold Near at rc; constructor <;> grind) Mb
  have U0 : -(1 / 1000000000000) ≤ CA de * M + SA de * Z := by
    rw [show (SA de - H) * Z = SA de * Z - H * Z by grind] at k1
    rw [show (F - rho * CA al) * X = F * X - rho * (CA al * X) by grind] at k2
    rw [show (G - rho * SA al) * Y = G * Y - rho * (SA al * Y) by grind] at k3
    rw [show (rho - CA de) * M = rho * M - CA de * M by grind] at k4
    have e : rho * M = rho * (CA al * X) + rho * (SA al * Y) := by rw [hM]; grind
    rw [e] at k4
    clear hM hN id mm MZ R1 R2 nz rc nx ny A un XX YY ZZ Xb Yb Zb pa ba bb bd hb hd NN Mb e
    generalize CA de * M = w1 at *
    generalize SA de * Z = w2 at *
    generalize rho * (CA al * X) = w3 at *
    generalize rho * (SA al * Y) = w4 at *
    generalize F * X = w5 at *
    generalize G * Y = w6 at *
    generalize H * Z = w7 at *
    grind
  have rr := ps_ra
  obtain ⟨Q, hQ⟩ : ∃ Q, Q = CA (al + d) * X + SA (al + d) * Y := ⟨_, rfl⟩
  rw [← hQ] at R2 ⊢
  have k5 := rmul_bd (a := Q - M) (b := CA b) (A := 2001 / 1000 * (ra 5000001 + 1 / 100000000000000)) (B := 10001 / 10000) (by unfold Near at R2; constructor <;> grind) bb.2
  rw [show (Q - M) * CA b = CA b * Q - CA b * M by grind] at k5
  clear hM hN id mm MZ nz rc nx ny A un XX YY ZZ Xb Yb Zb pa ba bb bd hb hd NN Mb k1 k2 k3 k4 R2 hQ up
  unfold Near at R1
  generalize ra 5000001 = r at *
  generalize CA b * Q = w1 at *
  generalize CA b * M = w2 at *
  generalize SA b * Z = w3 at *
  generalize CA de * M = w4 at *
  generalize SA de * Z = w5 at *
  grind
theorem ps_law {t : Int} (C : CeOk t) (h1 : -200000000 ≤ asLo (clT (c3Lo t))) (h2 : asHi (clT (c3Hi t)) ≤ 200000000) (hw : psL2 t - psL1 t ≤ 20000000) (hb : asHi (clT (c3Hi t)) - asLo (clT (c3Lo t)) ≤ 20000000) {lon lat m : Int} (hlon : lon = (psL1 t + psL2 t) / 2 - 1000000000 * m) (l1 : asLo (clT (c3Lo t)) + asHi (clT (c3Hi t)) - 1 ≤ 2 * lat) (l2 : 2 * lat ≤ asLo (clT (c3Lo t)) + asHi (clT (c3Hi t)) + 1) :
    -150000000 < upHi lat (hhLo lon t (sRH t)) (hhHi lon t (sRL t)) (sDL t) (sDH t) := by
  obtain ⟨F, G, H, f, g, h, P⟩ := ps_pt C
  obtain ⟨al, de, rho, A, I⟩ := ps_in C P h1 h2
  obtain ⟨y, y1, y2, hy⟩ := ps_sunup lon lat t
  obtain ⟨j, j1, j2⟩ := I.a
  have d1 := I.d1; have d2 := I.d2
  obtain ⟨n, hn⟩ : ∃ n : Int, sdLo lon t = sdLo 0 t + lon + 1000000000 * n := by
    unfold sdLo
    exact ⟨(a0Lo 275313108 1002737909350806 0 t + 0) / 1000000000 - (a0Lo 275313108 1002737909350806 0 t + lon) / 1000000000, by omega⟩
  obtain ⟨c, hc⟩ : ∃ c : Int, c = (psL1 t + psL2 t) / 2 := ⟨_, rfl⟩
  have c1 : 2 * c ≤ psL1 t + psL2 t := by omega
  have c2 : psL1 t + psL2 t ≤ 2 * c + 1 := by omega
  rw [← hc] at hlon
  have th : (sdLo lon t : Rat) = al + ((c : Rat) - (al - (sdLo 0 t : Rat) + 1000000000 * (j : Rat))) + 1000000000 * ((j - m + n : Int) : Rat) := by
    rw [hn, hlon, Rat.intCast_add, Rat.intCast_add, Rat.intCast_sub, Rat.intCast_mul, Rat.intCast_mul, Rat.intCast_add, Rat.intCast_sub, show ((1000000000 : Int) : Rat) = 1000000000 from rfl]
    grind
  have r1 := Rat.intCast_le_intCast.2 c1
  have r2 := Rat.intCast_le_intCast.2 c2
  have r3 := Rat.intCast_le_intCast.2 hw
  have r4 := Rat.intCast_le_intCast.2 hb
  have r5 := Rat.intCast_le_intCast.2 l1
  have r6 := Rat.intCast_le_intCast.2 l2
  rw [Rat.intCast_mul, Rat.intCast_add, show ((2 : Int) : Rat) = 2 from rfl] at r1
  rw [Rat.intCast_add, Rat.intCast_add, Rat.intCast_mul, show ((2 : Int) : Rat) = 2 from rfl, show ((1 : Int) : Rat) = 1 from rfl] at r2
  rw [Rat.intCast_sub, show ((20000000 : Int) : Rat) = 20000000 from rfl] at r3 r4
  rw [Rat.intCast_sub, Rat.intCast_add, Rat.intCast_mul, show ((2 : Int) : Rat) = 2 from rfl, show ((1 : Int) : Rat) = 1 from rfl] at r5
  rw [Rat.intCast_mul, Rat.intCast_add, Rat.intCast_add, show ((2 : Int) : Rat) = 2 from rfl, show ((1 : Int) : Rat) = 1 from rfl] at r6
  have nb : -5000001 ≤ ((lat : Rat) - de) / 2 ∧ ((lat : Rat) - de) / 2 ≤ 5000001 := by
    clear r1 r2 r3 hy P A y1 y2 th
    constructor <;> grind
  have nd : -5000001 ≤ ((c : Rat) - (al - (sdLo 0 t : Rat) + 1000000000 * (j : Rat))) / 2 ∧ ((c : Rat) - (al - (sdLo 0 t : Rat) + 1000000000 * (j : Rat))) / 2 ≤ 5000001 := by
    clear r4 r5 r6 hy P A y1 y2 th d1 d2 nb
    constructor <;> grind
  have K := ps_near A (q_unit (slLo t : Rat) 0) P.up nb nd
  have e : upV lat (sdLo lon t : Rat) (slLo t : Rat) 0 = SA (lat : Rat) * qZ (slLo t : Rat) 0 + CA (lat : Rat) * (CA (al + ((c : Rat) - (al - (sdLo 0 t : Rat) + 1000000000 * (j : Rat)))) * qX (slLo t : Rat) 0 + SA (al + ((c : Rat) - (al - (sdLo 0 t : Rat) + 1000000000 * (j : Rat)))) * qY (slLo t : Rat) 0) := by
    unfold upV
    rw [th, SA_turn, CA_turn, SA_int, CA_int]
  rw [e] at hy
  apply int_lt_of_rat
  rw [show ((-150000000 : Int) : Rat) = -150000000 from rfl]
  clear r1 r2 r3 r4 r5 r6 P A e th nb nd d1 d2 j1 j2 y1
  unfold Near at hy
  generalize SA (lat : Rat) * qZ (slLo t : Rat) 0 + CA (lat : Rat) * (CA (al + ((c : Rat) - (al - (sdLo 0 t : Rat) + 1000000000 * (j : Rat)))) * qX (slLo t : Rat) 0 + SA (al + ((c : Rat) - (al - (sdLo 0 t : Rat) + 1000000000 * (j : Rat)))) * qY (slLo t : Rat) 0) = K0 at *
  grind
end Go.Proofs.YtcopmgnfakjdhaaGreatDoor
