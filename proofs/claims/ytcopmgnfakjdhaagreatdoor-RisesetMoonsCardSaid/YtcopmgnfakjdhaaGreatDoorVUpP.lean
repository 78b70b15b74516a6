/- The sine of a height, as place.look reckons it from what Equator hands back, holds the true one. Plain. -/
import Derived.Test.YtcopmgnfakjdhaaGreatDoorVUpA
import Derived.Test.YtcopmgnfakjdhaaGreatDoorVDecs
import Derived.Test.YtcopmgnfakjdhaaGreatDoorVPlaceParts
namespace Go.Proofs.YtcopmgnfakjdhaaGreatDoor
set_option linter.unusedSimpArgs false
set_option linter.unusedVariables false
def qX (la be : Rat) : Rat := CA be * CA la
def qY (la be : Rat) : Rat := CA be * SA la * CN 65109000 - SA be * SN 65109000
def qZ (la be : Rat) : Rat := CA be * SA la * SN 65109000 + SA be * CN 65109000
theorem q_unit (la be : Rat) : Near (qX la be * qX la be + qY la be * qY la be + qZ la be * qZ la be) 1 (1 / 10000000000000000000000000) := by
  have pl := SA_pyth la; have pb := SA_pyth be; have pe := SN_pyth 65109000
  have bl := SA_le la; have bb := SA_le be; have cb := CA_le be
  unfold qX qY qZ
  generalize SA la = sl at *
  generalize CA la = cl at *
  generalize SA be = sb at *
  generalize CA be = cb' at *
  generalize SN 65109000 = se at *
  generalize CN 65109000 = ce at *
  have id : (cb' * cl) * (cb' * cl) + (cb' * sl * ce - sb * se) * (cb' * sl * ce - sb * se) + (cb' * sl * se + sb * ce) * (cb' * sl * se + sb * ce) = 1 + cb' * cb' * (cl * cl + sl * sl - 1) + (cb' * sl * (cb' * sl) + sb * sb) * (ce * ce + se * se - 1) + (cb' * cb' + sb * sb - 1) := by grind
  rw [id]
  have q1 := rmul_bd cb cb
  have q2 := rmul_bd cb bl
  have q3 := rmul_bd (a := cb' * sl) (b := cb' * sl) (A := 2) (B := 2) (by unfold ep at q2; grind) (by unfold ep at q2; grind)
  have q4 := rmul_bd bb bb
  have r1 := rmul_bd (a := cb' * cb') (b := cl * cl + sl * sl - 1) (A := 2) (B := ep) (by unfold ep at q1; grind) (by unfold Near at pl; grind)
  have r2 := rmul_bd (a := cb' * sl * (cb' * sl) + sb * sb) (b := ce * ce + se * se - 1) (A := 6) (B := ep) (by unfold ep at q4; grind) (by unfold Near at pe; grind)
  clear id q1 q2 q3 q4 bl bb cb pl pe
  unfold Near ep at *
  generalize cb' * cb' * (cl * cl + sl * sl - 1) = z1 at *
  generalize (cb' * sl * (cb' * sl) + sb * sb) * (ce * ce + se * se - 1) = z2 at *
  constructor <;> grind
theorem q_le (la be : Rat) : (-(10001 / 10000) ≤ qX la be ∧ qX la be ≤ 10001 / 10000) ∧ (-(10001 / 10000) ≤ qY la be ∧ qY la be ≤ 10001 / 10000) ∧ (-(10001 / 10000) ≤ qZ la be ∧ qZ la be ≤ 10001 / 10000) := by
  obtain ⟨a, b, c⟩ := le1_of_sum (q_unit la be)
  refine ⟨⟨?_, ?_⟩, ⟨?_, ?_⟩, ⟨?_, ?_⟩⟩ <;> grind
theorem sb_smallR {be : Rat} (h : -15900000 ≤ be ∧ be ≤ 15900000) : -(1 / 10) ≤ SA be ∧ SA be ≤ 1 / 10 := by
  have l := (SA_lipD (y := 0) (d := be) (D := 15900000) h).1
  rw [show (0 : Rat) + be = be by grind, SA_0] at l
  have q := qq_b9
  unfold Near ra at l
  generalize qq = p at *
  constructor <;> grind
theorem qZ_bd {la be : Rat} (h : -15900000 ≤ be ∧ be ≤ 15900000) : -(49 / 100) ≤ qZ la be ∧ qZ la be ≤ 49 / 100 := by
  obtain ⟨t1, t2, t3, t4⟩ := tilt_sc
  have b := sb_smallR h
  have q := rmul_bd (CA_le be) (SA_le la)
  have r1 := rmul_bd (a := CA be * SA la) (b := SN 65109000) (A := 10001 / 10000) (B := 3979 / 10000) (by unfold ep at q; grind) (by grind)
  have r2 := rmul_bd (a := SA be) (b := CN 65109000) (A := 1 / 10) (B := 9176 / 10000) (by grind) (by grind)
  unfold qZ
  clear q b t1 t2 t3 t4
  generalize CA be * SA la * SN 65109000 = z1 at *
  generalize SA be * CN 65109000 = z2 at *
  constructor <;> grind
theorem SA_1 (x : Rat) : (-(10001 / 10000) ≤ SA x ∧ SA x ≤ 10001 / 10000) ∧ (-(10001 / 10000) ≤ CA x ∧ CA x ≤ 10001 / 10000) := by
  have a := SA_le x; have b := CA_le x
  unfold ep at *
  refine ⟨⟨?_, ?_⟩, ⟨?_, ?_⟩⟩ <;> grind
theorem SN_1 (x : Int) : (-(10001 / 10000) ≤ SN x ∧ SN x ≤ 10001 / 10000) ∧ (-(10001 / 10000) ≤ CN x ∧ CN x ≤ 10001 / 10000) := by
  have := SA_1 (x : Rat)
  rwa [SA_int, CA_int] at this
theorem asin_ex2 {v : Rat} (h1 : -(1 - 1 / 1000000000000000000000000) ≤ v) (h2 : v ≤ 1 - 1 / 1000000000000000000000000) : ∃ x : Rat, -250000000 ≤ x ∧ x ≤ 250000000 ∧ Near (SA x) v (1 / 50000000000000000000) := by
  obtain ⟨f, hf⟩ : ∃ f : Nat → Rat, f = fun i : Nat => SA (-250000000 + (i : Rat) * (1 / 1000000000000)) := ⟨_, rfl⟩
  have q1 := SN_q1; have q3 := SN_q3
  rw [← SA_int] at q1 q3
  have e0 : f 0 = SA 750000000 := by
    rw [hf]
    have := SA_turn (-250000000) 1
    rw [show ((1 : Int) : Rat) = 1 from rfl, show (-250000000 : Rat) + 1000000000 * 1 = 750000000 by grind] at this
    rw [this]
    show SA (-250000000 + ((0 : Nat) : Rat) * (1 / 1000000000000)) = _
    rw [show ((0 : Nat) : Rat) = 0 from rfl, show (-250000000 : Rat) + 0 * (1 / 1000000000000) = -250000000 by grind]
  have eN : f 500000000000000000000 = SA 250000000 := by
    rw [hf]
    show SA (-250000000 + ((500000000000000000000 : Nat) : Rat) * (1 / 1000000000000)) = _
    rw [show ((500000000000000000000 : Nat) : Rat) = 500000000000000000000 from rfl, show (-250000000 : Rat) + 500000000000000000000 * (1 / 1000000000000) = 250000000 by grind]
  rw [show ((750000000 : Int) : Rat) = 750000000 from rfl] at q3
  rw [show ((250000000 : Int) : Rat) = 250000000 from rfl] at q1
  rw [← e0] at q3
  rw [← eN] at q1
  unfold Near eq1 at q1 q3
  obtain ⟨i, i1, i2, i3⟩ := cross_at (f := f) (v := v) (by grind) 500000000000000000000 (by grind)
  have ib := Rat.natCast_le_natCast.2 i1
  rw [show ((500000000000000000000 : Nat) : Rat) = 500000000000000000000 from rfl] at ib
  have i0 := nat_nonneg i
  refine ⟨-250000000 + (i : Rat) * (1 / 1000000000000), by grind, by grind, ?_⟩
  have ef : f i = SA (-250000000 + (i : Rat) * (1 / 1000000000000)) := by rw [hf]
  have ef1 : f (i + 1) = SA (-250000000 + (i : Rat) * (1 / 1000000000000) + 1 / 1000000000000) := by
    rw [hf]
    show SA (-250000000 + ((i + 1 : Nat) : Rat) * (1 / 1000000000000)) = _
    rw [Rat.natCast_add, show ((1 : Nat) : Rat) = 1 from rfl]
    congr 1; grind
  have l := (SA_lip (y := -250000000 + (i : Rat) * (1 / 1000000000000)) (d := 1 / 1000000000000) (by grind)).1
  rw [← ef1, ← ef] at l
  rw [← ef]
  have qb := qq_b9
  unfold Near ra at *
  clear ef ef1 e0 eN hf q1 q3 h1 h2
  generalize qq = p at *
  generalize f i = y1 at *
  generalize f (i + 1) = y2 at *
  constructor <;> grind
structure EqPts (l1 l2 b1 b2 : Int) (X Y Z x y z : Rat) : Prop where
  x1 : (eqXL l1 l2 b1 b2 : Rat) ≤ x
  x2 : x ≤ (eqXH l1 l2 b1 b2 : Rat)
  nx : Near x (1000000000 * X) (6 / 100000000000)
  y1 : (eqYL l1 l2 b1 b2 : Rat) ≤ y
  y2 : y ≤ (eqYH l1 l2 b1 b2 : Rat)
  ny : Near y (1000000000 * Y) (6 / 100000000000)
  z1 : (eqZL l1 l2 b1 b2 : Rat) ≤ z
  z2 : z ≤ (eqZH l1 l2 b1 b2 : Rat)
  nz : Near z (1000000000 * Z) (6 / 100000000000)
theorem eq_pts {l1 l2 b1 b2 : Int} {la be : Rat} (hl : l2 - l1 ≤ 2000000000) (hb : b2 - b1 ≤ 2000000000) (la1 : (l1 : Rat) ≤ la) (la2 : la ≤ (l2 : Rat)) (be1 : (b1 : Rat) ≤ be) (be2 : be ≤ (b2 : Rat)) :
    ∃ x y z : Rat, EqPts l1 l2 b1 b2 (qX la be) (qY la be) (qZ la be) x y z := by
  obtain ⟨s, s1, s2, s3⟩ := so_in la1 la2
  obtain ⟨c, c1, c2, c3⟩ := co_in la1 la2 hl
  obtain ⟨p, p1, p2, p3⟩ := so_in be1 be2
  obtain ⟨q, q1, q2, q3⟩ := co_in be1 be2 hb
  obtain ⟨u, u1, u2, u3⟩ := s_pt 65109000
  obtain ⟨v, v1, v2, v3⟩ := c_pt 65109000
  have tA : (eqAL l1 l2 b1 b2 : Rat) ≤ q * s / 1000000000 ∧ q * s / 1000000000 ≤ (eqAH l1 l2 b1 b2 : Rat) := tm_pt q1 q2 s1 s2
  have tX : (eqXL l1 l2 b1 b2 : Rat) ≤ q * c / 1000000000 ∧ q * c / 1000000000 ≤ (eqXH l1 l2 b1 b2 : Rat) := tm_pt q1 q2 c1 c2
  have tAc := tm_pt tA.1 tA.2 v1 v2
  have tAs := tm_pt tA.1 tA.2 u1 u2
  have tBs := tm_pt p1 p2 u1 u2
  have tBc := tm_pt p1 p2 v1 v2
  have bl := SA_1 la; have bb := SA_1 be; have bt := SN_1 65109000
  have nA := pr_near q3 s3 bb.2 bl.1 (by constructor <;> grind) (by constructor <;> grind)
  have nX := pr_near q3 c3 bb.2 bl.2 (by constructor <;> grind) (by constructor <;> grind)
  have cs1 : -(10001 / 10000) ≤ CA be * SA la ∧ CA be * SA la ≤ 10001 / 10000 := by
    have := rmul_bd (CA_le be) (SA_le la)
    unfold ep at this
    constructor <;> grind
  have nAc := pr_near nA v3 cs1 bt.2 (by constructor <;> grind) (by constructor <;> grind)
  have nAs := pr_near nA u3 cs1 bt.1 (by constructor <;> grind) (by constructor <;> grind)
  have nBs := pr_near p3 u3 bb.1 bt.1 (by constructor <;> grind) (by constructor <;> grind)
  have nBc := pr_near p3 v3 bb.1 bt.2 (by constructor <;> grind) (by constructor <;> grind)
  clear s1 s2 s3 c1 c2 c3 p1 p2 p3 q1 q2 q3 u1 u2 u3 v1 v2 v3 bl bb bt cs1 nA tA
  refine ⟨q * c / 1000000000, q * s / 1000000000 * v / 1000000000 - p * u / 1000000000, q * s / 1000000000 * u / 1000000000 + p * v / 1000000000, tX.1, tX.2, near_weak nX (by grind), ?_, ?_, ?_, ?_, ?_, ?_⟩
  · unfold eqYL; rw [Rat.intCast_sub]; grind
  · unfold eqYH; rw [Rat.intCast_sub]; grind
  · unfold qY
    clear tX nX tAc tAs tBs tBc nAs nBc
    unfold Near at *
    generalize q * s / 1000000000 * v / 1000000000 = z1 at *
    generalize p * u / 1000000000 = z2 at *
    generalize CA be * SA la * CN 65109000 = z3 at *
    generalize SA be * SN 65109000 = z4 at *
    constructor <;> grind
  · unfold eqZL; rw [Rat.intCast_add]; grind
  · unfold eqZH; rw [Rat.intCast_add]; grind
  · unfold qZ
    clear tX nX tAc tAs tBs tBc nAc nBs
    unfold Near at *
    generalize q * s / 1000000000 * u / 1000000000 = z1 at *
    generalize p * v / 1000000000 = z2 at *
    generalize CA be * SA la * SN 65109000 = z3 at *
    generalize SA be * CN 65109000 = z4 at *
    constructor <;> grind
theorem ca_pos {x : Rat} (h1 : -250000000 ≤ x) (h2 : x ≤ 250000000) : -(1 / 1000000000000000000000) ≤ CA x := by
  by_cases c : 0 ≤ x
  · have := (quarter_pos c h2).2; grind
  · have := (quarter_pos (x := -x) (by grind) (by grind)).2
    have n := (SCA_neg x).2
    unfold Near e2 at n
    grind
structure EqAng (X Y Z al de : Rat) : Prop where
  d1 : -250000000 ≤ de
  d2 : de ≤ 250000000
  nz : Near (SA de) Z (1 / 50000000000000000000)
  nx : Near (CA de * CA al) X (1 / 100000000000000)
  ny : Near (CA de * SA al) Y (1 / 100000000000000)
theorem rad_close {r c e : Rat} (h : -e ≤ r * r - c * c ∧ r * r - c * c ≤ e) (hr : 8 / 10 ≤ r) (hc : -(1 / 1000) ≤ c) (he : 0 ≤ e) : -(2 * e) ≤ r - c ∧ r - c ≤ 2 * e := by
  have id : r * r - c * c = (r - c) * (r + c) := by grind
  rw [id] at h
  constructor
  · apply Rat.not_lt.1
    intro l
    have m := Rat.mul_le_mul_of_nonneg_left (show 7 / 10 ≤ r + c by grind) (show 0 ≤ -(r - c) by grind)
    generalize (r - c) * (r + c) = z at *
    have : -(r - c) * (r + c) = -((r - c) * (r + c)) := by grind
    grind
  · apply Rat.not_lt.1
    intro l
    have m := Rat.mul_le_mul_of_nonneg_left (show 7 / 10 ≤ r + c by grind) (show 0 ≤ r - c by grind)
    grind
theorem up_ang {l1 l2 b1 b2 : Int} {la be : Rat} (il : IvOk l1 l2) (hlw : l2 - l1 ≤ 40010) (hb : b1 ≤ b2) (hbw : b2 - b1 ≤ 40010) (h1 : -15900000 ≤ b1) (h2 : b2 ≤ 15900000) (la1 : (l1 : Rat) ≤ la) (la2 : la ≤ (l2 : Rat)) (be1 : (b1 : Rat) ≤ be) (be2 : be ≤ (b2 : Rat)) :
    ∃ al de : Rat, EqAng (qX la be) (qY la be) (qZ la be) al de ∧ (raLo l1 l2 b1 b2 : Rat) ≤ al ∧ al ≤ (raHi l1 l2 b1 b2 : Rat) ∧ (dcLo l1 l2 b1 b2 : Rat) ≤ de ∧ de ≤ (dcHi l1 l2 b1 b2 : Rat) := by
  have O := eq_ok il hlw hb hbw h1 h2
  obtain ⟨x, y, z, P⟩ := eq_pts (la := la) (be := be) (by omega) (by omega) la1 la2 be1 be2
  have hbe : -15900000 ≤ be ∧ be ≤ 15900000 := by
    have a := Rat.intCast_le_intCast.2 h1
    have b := Rat.intCast_le_intCast.2 h2
    rw [show ((-15900000 : Int) : Rat) = -15900000 from rfl] at a
    rw [show ((15900000 : Int) : Rat) = 15900000 from rfl] at b
    constructor <;> grind
  have zb := qZ_bd (la := la) hbe
  have un := q_unit la be
  obtain ⟨lx, ly, lz⟩ := q_le la be
  obtain ⟨de, d1, d2, nz⟩ := asin_ex2 (v := qZ la be) (by grind) (by grind)
  have xy : 75 / 100 ≤ qX la be * qX la be + qY la be * qY la be := by
    have := sq_le zb
    unfold Near at un
    grind
  obtain ⟨R, al, rho, PL, rho4, R2⟩ := polar4 (X := qX la be) (Y := qY la be) (A := 10001 / 10000) lx ly (by
    by_cases c : qX la be = 0
    · right; intro d; rw [c, d] at xy; grind
    · exact .inl c)
  have r0 := PL.r0; have Rr := PL.Rr; have nx := PL.nx; have ny := PL.ny
  have pA := SA_pyth al; have pD := SA_pyth de
  have ca := CA_le al; have sa := SA_le al
  have e1 := rmul_bd (a := rho * CA al - qX la be) (b := rho * CA al + qX la be) (A := 3 / 100000000000000000) (B := 6) (by unfold Near at nx; grind) (by unfold Near at nx; grind)
  have e2' := rmul_bd (a := rho * SA al - qY la be) (b := rho * SA al + qY la be) (A := 3 / 100000000000000000) (B := 6) (by unfold Near at ny; grind) (by unfold Near at ny; grind)
  have rr := rmul_bd (a := rho) (b := rho) (A := 5) (B := 5) (by grind) (by grind)
  have e3 := rmul_bd (a := rho * rho) (b := CA al * CA al + SA al * SA al - 1) (A := 25) (B := ep) (by grind) (by unfold Near at pA; grind)
  have bz := SA_le de
  have e4 := rmul_bd (a := SA de - qZ la be) (b := SA de + qZ la be) (A := 1 / 50000000000000000000) (B := 3) (by unfold Near at nz; grind) (by unfold ep at bz; grind)
  have sqs : -(1 / 1000000000000000) ≤ rho * rho - CA de * CA de ∧ rho * rho - CA de * CA de ≤ 1 / 1000000000000000 := by
    have i1 : (rho * CA al - qX la be) * (rho * CA al + qX la be) = rho * rho * (CA al * CA al) - qX la be * qX la be := by grind
    have i2 : (rho * SA al - qY la be) * (rho * SA al + qY la be) = rho * rho * (SA al * SA al) - qY la be * qY la be := by grind
    have i3 : rho * rho * (CA al * CA al + SA al * SA al - 1) = rho * rho * (CA al * CA al) + rho * rho * (SA al * SA al) - rho * rho := by grind
    have i4 : (SA de - qZ la be) * (SA de + qZ la be) = SA de * SA de - qZ la be * qZ la be := by grind
    rw [i1] at e1; rw [i2] at e2'; rw [i3] at e3; rw [i4] at e4
    clear i1 i2 i3 i4 nx ny nz P O
    unfold Near ep at *
    generalize rho * rho * (CA al * CA al) = w1 at *
    generalize rho * rho * (SA al * SA al) = w2 at *
    generalize qX la be * qX la be = w3 at *
    generalize qY la be * qY la be = w4 at *
    generalize qZ la be * qZ la be = w5 at *
    generalize rho * rho = w6 at *
    generalize SA de * SA de = w7 at *
    generalize CA de * CA de = w8 at *
    constructor <;> grind
  have cd := ca_pos d1 d2
  have r8 : 8 / 10 ≤ rho := by
    apply Rat.not_lt.1
    intro l
    have m := rmul_bd (a := rho) (b := rho) (A := 8 / 10) (B := 8 / 10) (by grind) (by grind)
    have i1 : (rho * CA al - qX la be) * (rho * CA al + qX la be) = rho * rho * (CA al * CA al) - qX la be * qX la be := by grind
    have i2 : (rho * SA al - qY la be) * (rho * SA al + qY la be) = rho * rho * (SA al * SA al) - qY la be * qY la be := by grind
    have i3 : rho * rho * (CA al * CA al + SA al * SA al - 1) = rho * rho * (CA al * CA al) + rho * rho * (SA al * SA al) - rho * rho := by grind
    rw [i1] at e1; rw [i2] at e2'; rw [i3] at e3
    clear i1 i2 i3 nx ny nz P O sqs e4
    unfold ep at *
    generalize rho * rho * (CA al * CA al) = w1 at *
    generalize rho * rho * (SA al * SA al) = w2 at *
    generalize qX la be * qX la be = w3 at *
    generalize qY la be * qY la be = w4 at *
    generalize rho * rho = w6 at *
    grind
  have cl := rad_close sqs r8 (by grind) (by grind)
  clear e1 e2' e3 e4 rr
  have X := eqX_bd l1 l2 b1 b2; have Y := eqY_bd l1 l2 b1 b2; have Z := eqZ_bd l1 l2 b1 b2
  obtain ⟨xl, xh, yl, yh, zl, zh⟩ := eq_near il.m hlw hb hbw (Int.le_refl l1) il.m (Int.le_refl b1) hb
  have zb' := dZ_bd (la := l1) (be := b1) ⟨h1, by omega⟩
  have H : ArcIn (eqYL l1 l2 b1 b2) (eqYH l1 l2 b1 b2) (eqXL l1 l2 b1 b2) (eqXH l1 l2 b1 b2) := ⟨⟨by omega, by omega⟩, ⟨by omega, by omega⟩, ⟨by omega, by omega⟩, ⟨by omega, by omega⟩, Y.2.1, X.2.1, O.no⟩
  have E1 : eqYH l1 l2 b1 b2 - eqYL l1 l2 b1 b2 ≤ 1600000 := by
    apply int_le_of_rat
    rw [Rat.intCast_sub, show ((1600000 : Int) : Rat) = 1600000 from rfl]
    unfold Near at yl yh
    grind
  have yb : -1002000000 ≤ eqYL l1 l2 b1 b2 ∧ eqYH l1 l2 b1 b2 ≤ 1002000000 := by
    have a1 := P.y1; have a2 := P.y2; have a3 := P.ny
    have E2 := Rat.intCast_le_intCast.2 E1
    rw [Rat.intCast_sub, show ((1600000 : Int) : Rat) = 1600000 from rfl] at E2
    have l := (le1_of_sum un).2.1
    clear xl xh yl yh zl zh nx ny nz un E1 cl sqs pA pD
    unfold Near at a3
    generalize qY la be = Y' at *
    constructor
    · apply int_le_of_rat; rw [show ((-1002000000 : Int) : Rat) = -1002000000 from rfl]; grind
    · apply int_le_of_rat; rw [show ((1002000000 : Int) : Rat) = 1002000000 from rfl]; grind
  have szc : ∀ {Y' X' : Int}, -1002000000 ≤ Y' → Y' ≤ 1002000000 → -1000000000 ≤ X' → X' ≤ 1000000000 → szR Y' X' ≤ 4 * (1000000000 * rho) := by
    intro Y' X' g1 g2 g3 g4
    unfold szR
    rw [← Rat.natCast_add]
    have : ((X'.natAbs + Y'.natAbs : Nat) : Rat) ≤ ((2002000000 : Nat) : Rat) := Rat.natCast_le_natCast.2 (by omega)
    rw [show ((2002000000 : Nat) : Rat) = 2002000000 from rfl] at this
    clear xl xh yl yh zl zh nx ny nz un cl sqs pA pD
    grind
  have nX : Near x (1000000000 * rho * CA al) (1000000000 * rho / 1000000000000000) := by
    have p := P.nx
    clear xl xh yl yh zl zh ny nz un cl sqs pA pD
    unfold Near at *
    generalize qX la be = X' at *
    rw [show 1000000000 * rho * CA al = 1000000000 * (rho * CA al) by grind]
    generalize rho * CA al = v at *
    constructor <;> grind
  have nY : Near y (1000000000 * rho * SA al) (1000000000 * rho / 1000000000000000) := by
    have p := P.ny
    clear xl xh yl yh zl zh nx nz un cl sqs pA pD
    unfold Near at *
    generalize qY la be = X' at *
    rw [show 1000000000 * rho * SA al = 1000000000 * (rho * SA al) by grind]
    generalize rho * SA al = v at *
    constructor <;> grind
  obtain ⟨k, k1, k2⟩ := arc_containsR H O.nw PL.x0 PL.x1 P.y1 P.y2 P.x1 P.x2 (by grind) (szc (by omega) (by omega) (by omega) (by omega)) (szc (by omega) (by omega) (by omega) (by omega)) (szc (by omega) (by omega) (by omega) (by omega)) (szc (by omega) (by omega) (by omega) (by omega)) nX nY
  have zH : eqZH l1 l2 b1 b2 ≤ 490800000 := by
    apply int_le_of_rat; rw [show ((490800000 : Int) : Rat) = 490800000 from rfl]; unfold Near at zh; clear nX nY nx ny nz un; grind
  have zL : -490800000 ≤ eqZL l1 l2 b1 b2 := by
    apply int_le_of_rat; rw [show ((-490800000 : Int) : Rat) = -490800000 from rfl]; unfold Near at zl; clear nX nY nx ny nz un; grind
  have dl : (dcLo l1 l2 b1 b2 : Rat) ≤ de := by
    unfold dcLo
    have e : clT (eqZL l1 l2 b1 b2) = eqZL l1 l2 b1 b2 := by unfold clT; omega
    rw [e]
    have p1 := P.z1; have p2 := P.nz
    refine asLo_leR (by omega) (by omega) d1 d2 ?_
    clear xl xh yl yh zl zh nx ny un cl sqs pA pD nX nY
    unfold Near at *
    generalize qZ la be = X' at *
    grind
  have dh : de ≤ (dcHi l1 l2 b1 b2 : Rat) := by
    unfold dcHi
    have e : clT (eqZH l1 l2 b1 b2) = eqZH l1 l2 b1 b2 := by unfold clT; omega
    rw [e]
    have p1 := P.z2; have p2 := P.nz
    refine asHi_geR (by omega) (by omega) d1 d2 ?_
    clear xl xh yl yh zl zh nx ny un cl sqs pA pD nX nY
    unfold Near at *
    generalize qZ la be = X' at *
    grind
  obtain ⟨A, hA⟩ : ∃ A, A = arcLo (eqYL l1 l2 b1 b2) (eqYH l1 l2 b1 b2) (eqXL l1 l2 b1 b2) (eqXH l1 l2 b1 b2) := ⟨_, rfl⟩
  obtain ⟨j, hj⟩ : ∃ j, j = A / 1000000000 := ⟨_, rfl⟩
  have ej : A % 1000000000 = A - 1000000000 * j := by omega
  have t := (show SA (al + 1000000000 * ((k - j : Int) : Rat)) = SA al from SA_turn al (k - j))
  have t2 := (show CA (al + 1000000000 * ((k - j : Int) : Rat)) = CA al from CA_turn al (k - j))
  have kj : ((k - j : Int) : Rat) = (k : Rat) - (j : Rat) := Rat.intCast_sub _ _
  refine ⟨al + 1000000000 * ((k - j : Int) : Rat), de, ⟨d1, d2, nz, ?_, ?_⟩, ?_, ?_, dl, dh⟩
  · rw [t2]
    have m := rmul_bd (a := rho - CA de) (b := CA al) (A := 2 / 1000000000000000) (B := 1 + ep) (by grind) ca
    clear xl xh yl yh zl zh ny nz un cl sqs pA pD nX nY k1 k2 dl dh
    rw [show (rho - CA de) * CA al = rho * CA al - CA de * CA al by grind] at m
    unfold Near ep at *
    generalize rho * CA al = v1 at *
    generalize CA de * CA al = v2 at *
    constructor <;> grind
  · rw [t]
    have m := rmul_bd (a := rho - CA de) (b := SA al) (A := 2 / 1000000000000000) (B := 1 + ep) (by grind) sa
    clear xl xh yl yh zl zh nx nz un cl sqs pA pD nX nY k1 k2 dl dh
    rw [show (rho - CA de) * SA al = rho * SA al - CA de * SA al by grind] at m
    unfold Near ep at *
    generalize rho * SA al = v1 at *
    generalize CA de * SA al = v2 at *
    constructor <;> grind
  · unfold raLo
    rw [← hA, ej, kj, Rat.intCast_sub, Rat.intCast_mul, show ((1000000000 : Int) : Rat) = 1000000000 from rfl]
    rw [← hA] at k1
    grind
  · unfold raHi
    rw [← hA, ej, kj, Rat.intCast_sub, Rat.intCast_add, Rat.intCast_sub, Rat.intCast_mul, show ((1000000000 : Int) : Rat) = 1000000000 from rfl]
    grind
def upV (lat : Int) (th la be : Rat) : Rat := SN lat * qZ la be + CN lat * (CA th * qX la be + SA th * qY la be)
theorem up_in {lon lat l1 l2 b1 b2 t : Int} {la be th : Rat} (il : IvOk l1 l2) (hlw : l2 - l1 ≤ 40010) (hb : b1 ≤ b2) (hbw : b2 - b1 ≤ 40010) (h1 : -15900000 ≤ b1) (h2 : b2 ≤ 15900000) (la1 : (l1 : Rat) ≤ la) (la2 : la ≤ (l2 : Rat)) (be1 : (b1 : Rat) ≤ be) (be2 : be ≤ (b2 : Rat)) (th1 : (sdLo lon t : Rat) ≤ th) (th2 : th ≤ (sdHi lon t : Rat)) :
    ∃ y : Rat, (upLo lat (hhLo lon t (raHi l1 l2 b1 b2)) (hhHi lon t (raLo l1 l2 b1 b2)) (dcLo l1 l2 b1 b2) (dcHi l1 l2 b1 b2) : Rat) ≤ y ∧ y ≤ (upHi lat (hhLo lon t (raHi l1 l2 b1 b2)) (hhHi lon t (raLo l1 l2 b1 b2)) (dcLo l1 l2 b1 b2) (dcHi l1 l2 b1 b2) : Rat) ∧ Near y (1000000000 * upV lat th la be) (1 / 10000) := by
  have O := eq_ok il hlw hb hbw h1 h2
  obtain ⟨al, de, E, a1, a2, c1, c2⟩ := up_ang il hlw hb hbw h1 h2 la1 la2 be1 be2
  obtain ⟨p1, p2, p3, p4, p5, p6⟩ := eq_lk il hlw hb hbw h1 h2
  have sd := sd_bd lon t
  have nw := O.nw
  have ew : hhHi lon t (raLo l1 l2 b1 b2) - hhLo lon t (raHi l1 l2 b1 b2) ≤ 2000000000 := by
    unfold hhHi hhLo raLo raHi
    generalize arcHi (eqYL l1 l2 b1 b2) (eqYH l1 l2 b1 b2) (eqXL l1 l2 b1 b2) (eqXH l1 l2 b1 b2) = u1 at *
    generalize arcLo (eqYL l1 l2 b1 b2) (eqYH l1 l2 b1 b2) (eqXL l1 l2 b1 b2) (eqXH l1 l2 b1 b2) = u2 at *
    omega
  have i1 : (hhLo lon t (raHi l1 l2 b1 b2) : Rat) ≤ th + -al := by unfold hhLo; rw [Rat.intCast_sub]; grind
  have i2 : th + -al ≤ (hhHi lon t (raLo l1 l2 b1 b2) : Rat) := by unfold hhHi; rw [Rat.intCast_sub]; grind
  generalize hhLo lon t (raHi l1 l2 b1 b2) = hl at *
  generalize hhHi lon t (raLo l1 l2 b1 b2) = hh at *
  generalize dcLo l1 l2 b1 b2 = dl at *
  generalize dcHi l1 l2 b1 b2 = dh at *
  obtain ⟨s, s1, s2, s3⟩ := so_in c1 c2
  obtain ⟨c, c1', c2', c3⟩ := co_in c1 c2 (by omega)
  obtain ⟨q, q1, q2, q3⟩ := co_in i1 i2 ew
  obtain ⟨a, a1', a2', a3⟩ := s_pt lat
  obtain ⟨b, b1', b2', b3⟩ := c_pt lat
  have bD := SA_1 de; have bH := SA_1 (th + -al); have bL := SN_1 lat
  have t2 := tm_pt c1' c2' q1 q2
  have n2 := pr_near c3 q3 bD.2 bH.2 (by constructor <;> grind) (by constructor <;> grind)
  have t3 := tm_pt a1' a2' s1 s2
  have n3 := pr_near a3 s3 bL.1 bD.1 (by constructor <;> grind) (by constructor <;> grind)
  have t4 : (tmLo (cLo lat) (cHi lat) (nrLo hl hh dl dh) (nrHi hl hh dl dh) : Rat) ≤ b * (c * q / 1000000000) / 1000000000 ∧ b * (c * q / 1000000000) / 1000000000 ≤ (tmHi (cLo lat) (cHi lat) (nrLo hl hh dl dh) (nrHi hl hh dl dh) : Rat) := tm_pt b1' b2' t2.1 t2.2
  have cb : -(10001 / 10000) ≤ CA de * CA (th + -al) ∧ CA de * CA (th + -al) ≤ 10001 / 10000 := by
    have := rmul_bd (CA_le de) (CA_le (th + -al))
    unfold ep at this
    constructor <;> grind
  have n4 := pr_near b3 n2 bL.2 cb (by constructor <;> grind) (by constructor <;> grind)
  have LU := look_unit (a := SN lat) (b := CN lat) (s := SA de) (c := CA de) (p := SA (th + -al)) (q := CA (th + -al)) (SN_pyth lat) (SA_pyth de) (SA_pyth (th + -al)) (SN_le lat) (SA_le de) (CA_le de) (CA_le (th + -al))
  have L1 := (le1_of_sum LU).1
  clear LU bD bH cb
  obtain ⟨y, y1, y2, y3⟩ := cl_pt (l := tmLo (sLo lat) (sHi lat) (soLo dl dh) (soHi dl dh) + tmLo (cLo lat) (cHi lat) (nrLo hl hh dl dh) (nrHi hl hh dl dh)) (u := tmHi (sLo lat) (sHi lat) (soLo dl dh) (soHi dl dh) + tmHi (cLo lat) (cHi lat) (nrLo hl hh dl dh) (nrHi hl hh dl dh)) (v := a * s / 1000000000 + b * (c * q / 1000000000) / 1000000000) (V := 1000000000 * (SN lat * SA de + CN lat * (CA de * CA (th + -al)))) (d := 70 / 1000000000000) (by rw [Rat.intCast_add]; grind) (by rw [Rat.intCast_add]; grind) (by unfold Near at *; grind) (by grind) (by grind) (by grind)
  refine ⟨y, y1, y2, ?_⟩
  clear t2 n2 t3 n3 t4 n4 L1 y1 y2 s1 s2 s3 c1' c2' c3 q1 q2 q3 a1' a2' a3 b1' b2' b3
  have D := (SCA_add th (-al)).2
  obtain ⟨g1, g2⟩ := SCA_neg al
  have st := SA_1 th; have sa := SA_1 al; have sd' := SA_1 de
  have nx := E.nx; have ny := E.ny; have nz := E.nz
  clear E O
  have m1 := rmul_bd (a := CA th) (b := CA (-al) - CA al) (A := 10001 / 10000) (B := e2) st.2 (by unfold Near at g2; grind)
  have m2 := rmul_bd (a := SA th) (b := SA (-al) - -SA al) (A := 10001 / 10000) (B := e2) st.1 (by unfold Near at g1; grind)
  have hH : -(1 / 1000000000000000000000000) ≤ CA (th + -al) - (CA th * CA al + SA th * SA al) ∧ CA (th + -al) - (CA th * CA al + SA th * SA al) ≤ 1 / 1000000000000000000000000 := by
    rw [show CA th * (CA (-al) - CA al) = CA th * CA (-al) - CA th * CA al by grind] at m1
    rw [show SA th * (SA (-al) - -SA al) = SA th * SA (-al) + SA th * SA al by grind] at m2
    clear nx ny nz y3 g1 g2 st sa sd' i1 i2 a1 a2
    unfold Near e2 at *
    generalize CA th * CA (-al) = v1 at *
    generalize CA th * CA al = v2 at *
    generalize SA th * SA (-al) = v3 at *
    generalize SA th * SA al = v4 at *
    constructor <;> grind
  have m3 := rmul_bd (a := CA de) (b := CA (th + -al) - (CA th * CA al + SA th * SA al)) (A := 10001 / 10000) (B := 1 / 1000000000000000000000000) sd'.2 hH
  have m4 := rmul_bd (a := CA th) (b := CA de * CA al - qX la be) (A := 10001 / 10000) (B := 1 / 100000000000000) st.2 (by unfold Near at nx; grind)
  have m5 := rmul_bd (a := SA th) (b := CA de * SA al - qY la be) (A := 10001 / 10000) (B := 1 / 100000000000000) st.1 (by unfold Near at ny; grind)
  have hC : -(3 / 100000000000000) ≤ CA de * CA (th + -al) - (CA th * qX la be + SA th * qY la be) ∧ CA de * CA (th + -al) - (CA th * qX la be + SA th * qY la be) ≤ 3 / 100000000000000 := by
    have i : CA de * CA (th + -al) - (CA th * qX la be + SA th * qY la be) = CA de * (CA (th + -al) - (CA th * CA al + SA th * SA al)) + CA th * (CA de * CA al - qX la be) + SA th * (CA de * SA al - qY la be) := by grind
    rw [i]
    clear i nx ny nz y3 g1 g2 st sa sd' i1 i2 a1 a2 m1 m2 hH
    constructor <;> grind
  have m6 := rmul_bd (a := CN lat) (b := CA de * CA (th + -al) - (CA th * qX la be + SA th * qY la be)) (A := 10001 / 10000) (B := 3 / 100000000000000) bL.2 hC
  have m7 := rmul_bd (a := SN lat) (b := SA de - qZ la be) (A := 10001 / 10000) (B := 1 / 50000000000000000000) bL.1 (by unfold Near at nz; grind)
  unfold upV
  rw [show CN lat * (CA de * CA (th + -al) - (CA th * qX la be + SA th * qY la be)) = CN lat * (CA de * CA (th + -al)) - CN lat * (CA th * qX la be + SA th * qY la be) by grind] at m6
  rw [show SN lat * (SA de - qZ la be) = SN lat * SA de - SN lat * qZ la be by grind] at m7
  clear m1 m2 m3 m4 m5 hC hH nx ny nz g1 g2 st sa sd' i1 i2 a1 a2
  unfold Near at *
  generalize CN lat * (CA de * CA (th + -al)) = v1 at *
  generalize CN lat * (CA th * qX la be + SA th * qY la be) = v2 at *
  generalize SN lat * SA de = v3 at *
  generalize SN lat * qZ la be = v4 at *
  constructor <;> grind
end Go.Proofs.YtcopmgnfakjdhaaGreatDoor
