/- RisesetMoons, plain: the height a day behind a rising, and some hours later. -/
import Derived.Test.YtcopmgnfakjdhaaGreatDoorVMdV
namespace Go.Proofs.YtcopmgnfakjdhaaGreatDoor
set_option linter.unusedSimpArgs false
set_option linter.unusedVariables false
theorem md_num3 : (171900000 ≤ sLo 27500000 ∧ 963300000 ≤ cLo 43200000) ∧ (sHi 40500000 ≤ 252000000 ∧ 967000000 ≤ cLo 40500000) ∧ (834000000 ≤ sLo 157000000 ∧ 834000000 ≤ sLo 168000000 ∧ 492500000 ≤ cLo 168000000) := by decide +kernel
theorem md_num4 : (1718 / 10000 ≤ SA 27500000 ∧ 9632 / 10000 ≤ CA 43200000) ∧ (SA 40500000 ≤ 2521 / 10000 ∧ 9669 / 10000 ≤ CA 40500000) ∧ (83399 / 100000 ≤ SA 157000000 ∧ 49249 / 100000 ≤ CA 168000000) := by
  obtain ⟨⟨a, b⟩, ⟨c, d⟩, e, -, f⟩ := md_num3
  have a' := Rat.intCast_le_intCast.2 a; have b' := Rat.intCast_le_intCast.2 b; have c' := Rat.intCast_le_intCast.2 c; have d' := Rat.intCast_le_intCast.2 d; have e' := Rat.intCast_le_intCast.2 e; have f' := Rat.intCast_le_intCast.2 f
  rw [show ((171900000 : Int) : Rat) = 171900000 from rfl] at a'
  rw [show ((963300000 : Int) : Rat) = 963300000 from rfl] at b'
  rw [show ((252000000 : Int) : Rat) = 252000000 from rfl] at c'
  rw [show ((967000000 : Int) : Rat) = 967000000 from rfl] at d'
  rw [show ((834000000 : Int) : Rat) = 834000000 from rfl] at e'
  rw [show ((492500000 : Int) : Rat) = 492500000 from rfl] at f'
  have h1 := (sa_lo 27500000).1; have h2 := (ca_lo 43200000).1; have h3 := (sa_lo 40500000).2; have h4 := (ca_lo 40500000).1; have h5 := (sa_lo 157000000).1; have h6 := (ca_lo 168000000).1
  rw [show ((27500000 : Int) : Rat) = 27500000 from rfl] at h1
  rw [show ((43200000 : Int) : Rat) = 43200000 from rfl] at h2
  rw [show ((40500000 : Int) : Rat) = 40500000 from rfl] at h3 h4
  rw [show ((157000000 : Int) : Rat) = 157000000 from rfl] at h5
  rw [show ((168000000 : Int) : Rat) = 168000000 from rfl] at h6
  refine ⟨⟨?_, ?_⟩, ⟨?_, ?_⟩, ?_, ?_⟩ <;> grind
theorem md_after {lat : Int} {th la be D d e : Rat} (hl : 809 / 1000 ≤ CN lat) (A : MdAt lat th la be) (hA : 2182 / 1000000 ≤ upV lat th la be) (S : MdStep D d e) (D0 : 1157000000 ≤ D) (D1 : D ≤ 1168000000) : 2182 / 1000000 + 275 / 10000 ≤ upV lat (th + D) (la + d) (be + e) := by
  obtain ⟨-, -, s15, c16⟩ := md_num4
  obtain ⟨v, hv⟩ : ∃ v, v = D - 1000000000 := ⟨_, rfl⟩
  have q := qq_b9
  have rD : ra D ≤ 7339 / 1000 := by
    unfold ra
    have a := Rat.mul_le_mul_of_nonneg_left D1 (show 0 ≤ qq by grind)
    generalize qq = p at *
    grind
  have t1 := SA_turn v 1; have t2 := CA_turn v 1
  rw [show ((1 : Int) : Rat) = 1 from rfl, show v + 1000000000 * 1 = D by grind] at t1 t2
  have sv := sa_growT (x := 157000000) (y := v) (by grind) (by grind) (by grind)
  have cv := ca_fallT (x := v) (y := 168000000) (by grind) (by grind) (by grind)
  have c1 : CA v ≤ 1 + ep := (CA_le v).2
  have mv := md_move (la := la) (be := be) (z_up lat (th + D)) (show 0 ≤ D by grind) S
  rw [← up_z, ← up_z] at mv
  have rt := (md_rot th D la be).1
  rw [t1, t2] at rt
  have Aw := A.w; have Ae := A.e
  have k1 := Rat.mul_le_mul_of_nonneg_left (show 83398 / 100000 ≤ SA v by grind) (show 0 ≤ -mW th la be by grind)
  have k2 := Rat.mul_le_mul_of_nonneg_right (show 78 / 100 ≤ -mW th la be by grind) (show (0 : Rat) ≤ 83398 / 100000 by grind)
  have k3 := rmul_bd (a := mE th la be) (b := 1 - CA v) (A := 371 / 1000) (B := 50752 / 100000) Ae (by unfold ep at c1; constructor <;> grind)
  rw [show mE th la be * (1 - CA v) = mE th la be - mE th la be * CA v by grind] at k3
  rw [show -mW th la be * SA v = -(mW th la be * SA v) by grind] at k1
  have dE : 4622 / 10000 ≤ mE (th + D) la be - mE th la be := by
    clear mv q rD sv cv c1 t1 t2 hv
    unfold Near at rt
    generalize mE th la be * CA v = w1 at *
    generalize mW th la be * SA v = w2 at *
    grind
  have m := Rat.mul_le_mul_of_nonneg_left dE (show 0 ≤ CN lat by grind)
  have m2 := Rat.mul_le_mul_of_nonneg_right hl (show (0 : Rat) ≤ 4622 / 10000 by grind)
  rw [show CN lat * (mE (th + D) la be - mE th la be) = CN lat * mE (th + D) la be - CN lat * mE th la be by grind] at m
  rw [up_E lat (th + D) la be] at mv
  rw [up_E lat th la be] at hA
  clear rt k1 k2 k3 dE Aw Ae A S t1 t2 sv cv c1
  unfold Near at mv
  generalize upV lat (th + D) (la + d) (be + e) = U at *
  generalize CN lat * mE (th + D) la be = w2 at *
  generalize CN lat * mE th la be = w3 at *
  generalize SN lat * qZ la be = w4 at *
  generalize ra D = r at *
  grind
structure MdEcl (r g : Rat) : Prop where
  r1 : -(99 / 1000) ≤ r ∧ r ≤ 99 / 1000
  g1 : g ≤ -(497 / 1000)
theorem cos_be {be : Rat} (hb : -15900000 ≤ be ∧ be ≤ 15900000) : 994 / 1000 ≤ CA be := by
  have s := sb_smallR hb
  have p := SA_pyth be
  have s2 := sq_le s
  have c0 := ca_pos (x := be) (by grind) (by grind)
  apply Rat.not_lt.1
  intro l
  have b2 : -(994 / 1000) ≤ CA be ∧ CA be ≤ 994 / 1000 := by constructor <;> grind
  have m := sq_le b2
  unfold Near ep at p
  grind
theorem md_ecl {lat : Int} {th la be : Rat} (hl : 809 / 1000 ≤ CN lat) (hs : -(588 / 1000) ≤ SN lat ∧ SN lat ≤ 588 / 1000) (hb : -15900000 ≤ be ∧ be ≤ 15900000) (A : MdAt lat th la be) :
    MdEcl (CN lat * CA th * CA la + (CN lat * SA th * CN 65109000 + SN lat * SN 65109000) * SA la) ((CN lat * SA th * CN 65109000 + SN lat * SN 65109000) * CA la - CN lat * CA th * SA la) := by
  obtain ⟨t1, t2, t3, t4⟩ := tilt_sc
  have An := A.n; have Aw := A.w
  have cb := cos_be hb
  have sb := sb_smallR hb
  rw [up_z, zL_ecl] at An
  have wI : CN lat * mW th la be = CA be * (CN 65109000 * ((CN lat * SA th * CN 65109000 + SN lat * SN 65109000) * CA la - CN lat * CA th * SA la) - SN 65109000 * CA la * (SN lat * CN 65109000 - CN lat * SA th * SN 65109000) - CA la * (CN lat * SA th) * (CN 65109000 * CN 65109000 + SN 65109000 * SN 65109000 - 1)) + CN lat * CA th * SA be * SN 65109000 := by unfold mW qX qY; grind
  have q := SN_pyth 65109000; have pl := SN_pyth lat; have pt := SA_pyth th; have pa := SA_pyth la
  have bt := SA_1 th; have bl := SN_1 lat; have ba := SA_1 la; have be1 := SA_1 be
  obtain ⟨S, hS⟩ : ∃ x, x = SN 65109000 := ⟨_, rfl⟩
  obtain ⟨C, hC⟩ : ∃ x, x = CN 65109000 := ⟨_, rfl⟩
  obtain ⟨s, hs'⟩ : ∃ x, x = SN lat := ⟨_, rfl⟩
  obtain ⟨c, hc⟩ : ∃ x, x = CN lat := ⟨_, rfl⟩
  rw [← hS, ← hC, ← hs', ← hc] at wI
  rw [← hS, ← hC, ← hs', ← hc] at An
  rw [← hS, ← hC] at q
  rw [← hs', ← hc] at pl bl
  rw [← hS] at t1 t2
  rw [← hC] at t3 t4
  rw [← hs'] at hs
  rw [← hc] at hl
  rw [← hS, ← hC, ← hs', ← hc]
  obtain ⟨z2, hz2⟩ : ∃ x, x = c * SA th * C + s * S := ⟨_, rfl⟩
  obtain ⟨z3, hz3⟩ : ∃ x, x = s * C - c * SA th * S := ⟨_, rfl⟩
  obtain ⟨z1, hz1⟩ : ∃ x, x = c * CA th := ⟨_, rfl⟩
  have cs1 := rmul_bd (a := c) (b := SA th) (A := 10001 / 10000) (B := 10001 / 10000) bl.2 bt.1
  have z3b : z3 * z3 ≤ 7424 / 10000 := by
    obtain ⟨σ, s0, s1, s2, s3⟩ := te_abs s
    have X1 := Rat.mul_le_mul_of_nonneg_left hl (show 0 ≤ C by grind)
    have X2 : σ ≤ 588 / 1000 := by
      apply Rat.not_lt.1
      intro l
      have m1 := rmul_bd hs hs
      have m2 := Rat.mul_lt_mul_of_pos_left l (show 0 < σ by grind)
      grind
    have X3 := Rat.mul_le_mul_of_nonneg_left X2 (show 0 ≤ S by grind)
    have X4 := Rat.mul_le_mul_of_nonneg_right t3 (show (0 : Rat) ≤ 809 / 1000 by grind)
    have X5 := Rat.mul_le_mul_of_nonneg_right t2 (show (0 : Rat) ≤ 588 / 1000 by grind)
    obtain ⟨X, hX⟩ : ∃ x, x = C * c - S * σ := ⟨_, rfl⟩
    obtain ⟨Y, hY⟩ : ∃ x, x = C * σ + S * c := ⟨_, rfl⟩
    have x5 : 508 / 1000 ≤ X := by rw [hX]; grind
    have id : X * X + Y * Y = (c * c + σ * σ) + (c * c + σ * σ) * (C * C + S * S - 1) := by rw [hX, hY]; grind
    have mm := rmul_bd (a := c * c + σ * σ) (b := C * C + S * S - 1) (A := 2) (B := ep) (by rw [s3]; unfold Near ep at pl; constructor <;> grind) (by unfold Near at q; constructor <;> grind)
    have xx := Rat.mul_le_mul_of_nonneg_left x5 (show 0 ≤ X by grind)
    have xx2 := Rat.mul_le_mul_of_nonneg_right x5 (show (0 : Rat) ≤ 508 / 1000 by grind)
    have y2 : Y * Y ≤ 742 / 1000 := by
      rw [s3] at id mm
      clear hX hY X1 X2 X3 X4 X5 s0 s1 s2
      unfold Near ep at *
      generalize (c * c + s * s) * (C * C + S * S - 1) = w1 at *
      grind
    have yb : -(8614 / 10000) ≤ Y ∧ Y ≤ 8614 / 10000 := by
      constructor
      · apply Rat.not_lt.1
        intro l
        have m := Rat.mul_lt_mul_of_pos_left (show 8614 / 10000 < -Y by grind) (show (0 : Rat) < -Y by grind)
        rw [show -Y * -Y = Y * Y by grind] at m
        grind
      · apply Rat.not_lt.1
        intro l
        have m := Rat.mul_lt_mul_of_pos_left l (show (0 : Rat) < Y by grind)
        grind
    have u1 := rmul_bd (a := s) (b := C) (A := σ) (B := C) ⟨s1, s2⟩ (by constructor <;> grind)
    have u2 := rmul_bd (a := c * SA th) (b := S) (A := c * (10001 / 10000)) (B := S) (by
      have := Rat.mul_le_mul_of_nonneg_left bt.1.1 (show 0 ≤ c by grind)
      have := Rat.mul_le_mul_of_nonneg_left bt.1.2 (show 0 ≤ c by grind)
      constructor <;> grind) (by constructor <;> grind)
    have u3 := rmul_bd (a := c) (b := S) (A := 10001 / 10000) (B := 3979 / 10000) bl.2 (by constructor <;> grind)
    have zb : -(8615 / 10000) ≤ z3 ∧ z3 ≤ 8615 / 10000 := by
      rw [hz3]
      rw [show c * (10001 / 10000) * S = 10001 / 10000 * (S * c) by grind] at u2
      rw [show c * S = S * c by grind] at u3
      rw [show σ * C = C * σ by grind] at u1
      clear X1 X2 X3 X4 X5 hX id mm xx xx2 y2 x5
      constructor <;> grind
    have := sq_le zb
    grind
  have z3l := ps_sq (x := z3) (by grind)
  have z3m : -(8617 / 10000) ≤ z3 ∧ z3 ≤ 8617 / 10000 := by
    constructor
    · apply Rat.not_lt.1
      intro l
      have m := Rat.mul_lt_mul_of_pos_left (show 8617 / 10000 < -z3 by grind) (show (0 : Rat) < -z3 by grind)
      rw [show -z3 * -z3 = z3 * z3 by grind] at m
      grind
    · apply Rat.not_lt.1
      intro l
      have m := Rat.mul_lt_mul_of_pos_left l (show (0 : Rat) < z3 by grind)
      grind
  rw [← hz3, ← hz2, ← hz1] at wI An
  rw [← hz2, ← hz1]
  obtain ⟨r, hr⟩ : ∃ x, x = z1 * CA la + z2 * SA la := ⟨_, rfl⟩
  obtain ⟨g, hg⟩ : ∃ x, x = z2 * CA la - z1 * SA la := ⟨_, rfl⟩
  rw [← hg] at wI
  rw [← hr] at An
  rw [← hr, ← hg]
  have un : 1 - 1 / 100000000000000000000 ≤ r * r + g * g + z3 * z3 := by
    have id : r * r + g * g + z3 * z3 = (z1 * z1 + z2 * z2) * (CA la * CA la + SA la * SA la - 1) + (z1 * z1 + z2 * z2 + z3 * z3) := by rw [hr, hg]; grind
    have id2 : z1 * z1 + z2 * z2 + z3 * z3 = c * c * (CA th * CA th + SA th * SA th - 1) + (c * SA th * (c * SA th) + s * s) * (C * C + S * S - 1) + (c * c + s * s) := by rw [hz1, hz2, hz3]; grind
    have cc := rmul_bd bl.2 bl.2
    have ss := rmul_bd bl.1 bl.1
    have cs2 := rmul_bd cs1 cs1
    have zz1 := sq_nonneg z3
    have m1 := rmul_bd (a := c * c) (b := CA th * CA th + SA th * SA th - 1) (A := 2) (B := ep) (by constructor <;> grind) (by unfold Near at pt; constructor <;> grind)
    have m2 := rmul_bd (a := c * SA th * (c * SA th) + s * s) (b := C * C + S * S - 1) (A := 4) (B := ep) (by constructor <;> grind) (by unfold Near at q; constructor <;> grind)
    have zs : z1 * z1 + z2 * z2 + z3 * z3 ≤ 2 ∧ 1 - 1 / 1000000000000000000000 ≤ z1 * z1 + z2 * z2 + z3 * z3 := by
      rw [id2]
      clear id id2 hr hg hz1 hz2 hz3
      unfold Near ep at *
      generalize c * c * (CA th * CA th + SA th * SA th - 1) = w1 at *
      generalize (c * SA th * (c * SA th) + s * s) * (C * C + S * S - 1) = w2 at *
      constructor <;> grind
    have z11 := sq_nonneg z1; have z22 := sq_nonneg z2
    have m3 := rmul_bd (a := z1 * z1 + z2 * z2) (b := CA la * CA la + SA la * SA la - 1) (A := 2) (B := ep) (by constructor <;> grind) (by unfold Near at pa; constructor <;> grind)
    rw [id]
    clear id id2 hr hg hz1 hz2 hz3 m1 m2
    unfold ep at m3
    generalize (z1 * z1 + z2 * z2) * (CA la * CA la + SA la * SA la - 1) = w at *
    grind
  have v1 := rmul_bd sb z3m
  have rb : -(99 / 1000) ≤ r ∧ r ≤ 99 / 1000 := by
    constructor
    · apply Rat.not_lt.1
      intro l
      have m := Rat.mul_le_mul_of_nonneg_right cb (show 0 ≤ -r by grind)
      rw [show CA be * -r = -(CA be * r) by grind] at m
      clear wI un hr hg hz1 hz2 hz3
      unfold Near at An
      generalize SA be * z3 = w at *
      generalize CA be * r = w2 at *
      grind
    · apply Rat.not_lt.1
      intro l
      have m := Rat.mul_le_mul_of_nonneg_right cb (show 0 ≤ r by grind)
      clear wI un hr hg hz1 hz2 hz3
      unfold Near at An
      generalize SA be * z3 = w at *
      generalize CA be * r = w2 at *
      grind
  have z1b := rmul_bd (a := c) (b := CA th) (A := 10001 / 10000) (B := 10001 / 10000) bl.2 bt.2
  rw [← hz1] at z1b
  have gn : g ≤ 0 := by
    apply Rat.not_lt.1
    intro l
    have a1 := Rat.mul_le_mul_of_nonneg_left (show 78 / 100 ≤ -mW th la be by grind) (show 0 ≤ c by grind)
    have a2 := Rat.mul_le_mul_of_nonneg_right hl (show (0 : Rat) ≤ 78 / 100 by grind)
    have a3 := rmul_bd (a := S) (b := CA la) (A := 3979 / 10000) (B := 10001 / 10000) (by constructor <;> grind) ba.2
    have a4 := rmul_bd (a := S * CA la) (b := z3) (A := 398 / 1000) (B := 8617 / 10000) (by constructor <;> grind) z3m
    have a5 := rmul_bd (a := CA be) (b := S * CA la * z3) (A := 10001 / 10000) (B := 34296 / 100000) be1.2 (by constructor <;> grind)
    have a6 := rmul_bd (a := CA la) (b := c * SA th) (A := 10001 / 10000) (B := 10003 / 10000) ba.2 (by constructor <;> grind)
    have a7 := rmul_bd (a := CA la * (c * SA th)) (b := C * C + S * S - 1) (A := 2) (B := ep) (by constructor <;> grind) (by unfold Near at q; constructor <;> grind)
    have a8 := rmul_bd (a := CA be) (b := CA la * (c * SA th) * (C * C + S * S - 1)) (A := 10001 / 10000) (B := 2 * ep) be1.2 a7
    have a9 := rmul_bd (a := z1) (b := SA be) (A := 10003 / 10000) (B := 1 / 10) (by constructor <;> grind) sb
    have a10 := rmul_bd (a := z1 * SA be) (b := S) (A := 10004 / 100000) (B := 3979 / 10000) (by constructor <;> grind) (by constructor <;> grind)
    have a11 := Rat.mul_nonneg (show 0 ≤ C by grind) (Rat.le_of_lt l)
    have a12 := Rat.mul_nonneg (show 0 ≤ CA be by grind) a11
    rw [show CA be * (C * g - S * CA la * z3 - CA la * (c * SA th) * (C * C + S * S - 1)) = CA be * (C * g) - CA be * (S * CA la * z3) - CA be * (CA la * (c * SA th) * (C * C + S * S - 1)) by grind] at wI
    rw [show c * -mW th la be = -(c * mW th la be) by grind] at a1
    clear a3 a4 a6 a7 a9 a11 un hr hg hz1 hz2 hz3 An z3b z3l z3m q pl pt pa rb v1 cs1 z1b
    unfold ep at a8
    generalize CA be * (C * g) = w1 at *
    generalize CA be * (S * CA la * z3) = w2 at *
    generalize CA be * (CA la * (c * SA th) * (C * C + S * S - 1)) = w3 at *
    generalize z1 * SA be * S = w4 at *
    generalize c * mW th la be = w5 at *
    grind
  refine ⟨rb, ?_⟩
  have r2 := sq_le rb
  apply Rat.not_lt.1
  intro l
  have gb := sq_le (x := g) (A := 497 / 1000) (by constructor <;> grind)
  clear wI hr hg hz1 hz2 hz3 An
  grind
theorem md_before {lat : Int} {th la be D d e : Rat} (hl : 809 / 1000 ≤ CN lat) (hs : -(588 / 1000) ≤ SN lat ∧ SN lat ≤ 588 / 1000) (hb : -15900000 ≤ be ∧ be ≤ 15900000) (A : MdAt lat th la be) (hA : upV lat th la be ≤ 2182 / 1000000) (S : MdStep D d e) (D0 : 919000000 ≤ D) (D1 : D ≤ 1002800000) (d0 : 27500000 ≤ d) (d1 : d ≤ 43200000) (e0 : -3720000 ≤ e) (e1 : e ≤ 3720000) : upV lat (th + D) (la + d) (be + e) ≤ 2182 / 1000000 - 38 / 1000 := by
  obtain ⟨⟨s27, c43⟩, ⟨s40, c40⟩, -⟩ := md_num4
  have q := qq_b9
  have EC := md_ecl hl hs hb A
  obtain ⟨r, hr⟩ : ∃ x, x = CN lat * CA th * CA la + (CN lat * SA th * CN 65109000 + SN lat * SN 65109000) * SA la := ⟨_, rfl⟩
  obtain ⟨g, hg⟩ : ∃ x, x = (CN lat * SA th * CN 65109000 + SN lat * SN 65109000) * CA la - CN lat * CA th * SA la := ⟨_, rfl⟩
  rw [← hr, ← hg] at EC
  have rb := EC.r1; have gb := EC.g1
  clear EC
  have cb := cos_be hb
  have cbu := (CA_le be).2
  have sd := sa_growT (x := 27500000) (y := d) (by grind) d0 (by grind)
  have cd := ca_fallT (x := d) (y := 43200000) (by grind) d1 (by grind)
  have cdu : CA d ≤ 1 + ep := (CA_le d).2
  have g1 := Rat.mul_le_mul_of_nonneg_left (show 17179 / 100000 ≤ SA d by grind) (show 0 ≤ -g by grind)
  have g2 := Rat.mul_le_mul_of_nonneg_right (show 497 / 1000 ≤ -g by grind) (show (0 : Rat) ≤ 17179 / 100000 by grind)
  have g3 := rmul_bd (a := r) (b := CA d - 1) (A := 99 / 1000) (B := 369 / 10000) rb (by unfold ep at cdu; constructor <;> grind)
  have dr : r * (CA d - 1) + g * SA d ≤ -(816 / 10000) := by
    rw [show -g * SA d = -(g * SA d) by grind] at g1
    clear hr hg
    generalize r * (CA d - 1) = w1 at *
    generalize g * SA d = w2 at *
    grind
  have dr2 := Rat.mul_le_mul_of_nonneg_right cb (show 0 ≤ -(r * (CA d - 1) + g * SA d) by grind)
  obtain ⟨a, b⟩ := SCA_add la d
  have bl := SN_1 lat; have bt := SA_1 th; have bT := SN_1 65109000; have bE := SA_1 be
  have z1b := rmul_bd bl.2 bt.2
  have z2a := rmul_bd bl.2 bt.1
  have z2b := rmul_bd (a := CN lat * SA th) (b := CN 65109000) (A := 2) (B := 10001 / 10000) (by constructor <;> grind) bT.2
  have z2c := rmul_bd bl.1 bT.1
  have h1 : upV lat th (la + d) be ≤ upV lat th la be - 811 / 10000 := by
    rw [up_z, up_z, zL_ecl, zL_ecl]
    obtain ⟨z2, hz2⟩ : ∃ x, x = CN lat * SA th * CN 65109000 + SN lat * SN 65109000 := ⟨_, rfl⟩
    obtain ⟨z1, hz1⟩ : ∃ x, x = CN lat * CA th := ⟨_, rfl⟩
    obtain ⟨z3, hz3⟩ : ∃ x, x = SN lat * CN 65109000 - CN lat * SA th * SN 65109000 := ⟨_, rfl⟩
    rw [← hz2, ← hz1] at hr hg
    rw [← hz1] at z1b
    rw [← hz2, ← hz1, ← hz3]
    have z2l : -4 ≤ z2 ∧ z2 ≤ 4 := by rw [hz2]; constructor <;> grind
    have m1 := rmul_bd (a := z1) (b := CA (la + d) - (CA la * CA d - SA la * SA d)) (A := 2) (B := e2) (by constructor <;> grind) (by unfold Near at b; constructor <;> grind)
    have m2 := rmul_bd (a := z2) (b := SA (la + d) - (SA la * CA d + CA la * SA d)) (A := 4) (B := e2) z2l (by unfold Near at a; constructor <;> grind)
    have id : z1 * CA (la + d) + z2 * SA (la + d) = r + (r * (CA d - 1) + g * SA d) + (z1 * (CA (la + d) - (CA la * CA d - SA la * SA d)) + z2 * (SA (la + d) - (SA la * CA d + CA la * SA d))) := by rw [hr, hg]; grind
    have m3 := rmul_bd (a := CA be) (b := z1 * (CA (la + d) - (CA la * CA d - SA la * SA d)) + z2 * (SA (la + d) - (SA la * CA d + CA la * SA d))) (A := 10001 / 10000) (B := 6 * e2) bE.2 (by constructor <;> grind)
    rw [id, ← hr]
    rw [show 994 / 1000 * -(r * (CA d - 1) + g * SA d) = -(994 / 1000 * (r * (CA d - 1) + g * SA d)) by grind, show CA be * -(r * (CA d - 1) + g * SA d) = -(CA be * (r * (CA d - 1) + g * SA d)) by grind] at dr2
    rw [show CA be * (r + (r * (CA d - 1) + g * SA d) + (z1 * (CA (la + d) - (CA la * CA d - SA la * SA d)) + z2 * (SA (la + d) - (SA la * CA d + CA la * SA d)))) = CA be * r + CA be * (r * (CA d - 1) + g * SA d) + CA be * (z1 * (CA (la + d) - (CA la * CA d - SA la * SA d)) + z2 * (SA (la + d) - (SA la * CA d + CA la * SA d))) by grind]
    clear id m1 m2 hr hg hz1 hz2 hz3 a b g1 g2 g3
    unfold e2 at m3
    generalize CA be * (z1 * (CA (la + d) - (CA la * CA d - SA la * SA d)) + z2 * (SA (la + d) - (SA la * CA d + CA la * SA d))) = w1 at *
    generalize CA be * (r * (CA d - 1) + g * SA d) = w2 at *
    generalize r * (CA d - 1) + g * SA d = w3 at *
    generalize CA be * r = w4 at *
    grind
  clear g1 g2 g3 dr dr2 a b z1b z2a z2b z2c hr hg
  have mb := zL_mvB (la := la + d) (be := be) (d := e) (D := 1860000) (z_up lat th) (by constructor <;> grind)
  rw [← up_z, ← up_z] at mb
  have rB : ra 1860000 ≤ 11688 / 1000000 := by unfold ra; generalize qq = p at *; grind
  have h2 : upV lat th (la + d) (be + e) ≤ 2182 / 1000000 - 577 / 10000 := by unfold Near at mb; grind
  have mEt := md_move (la := la) (be := be) (z_one th).1 (show 0 ≤ D by grind) S
  have mWt := md_move (la := la) (be := be) (z_one th).2 (show 0 ≤ D by grind) S
  rw [← mE_z, ← mE_z] at mEt
  rw [← mW_z, ← mW_z] at mWt
  have rD : ra D ≤ 6302 / 1000 := by
    unfold ra
    have a := Rat.mul_le_mul_of_nonneg_left D1 (show 0 ≤ qq by grind)
    generalize qq = p at *
    grind
  have Aw := A.w; have Ae := A.e
  have Wt : mW th (la + d) (be + e) ≤ -(48 / 100) := by unfold Near at mWt; grind
  have Et : -(67 / 100) ≤ mE th (la + d) (be + e) ∧ mE th (la + d) (be + e) ≤ 67 / 100 := by unfold Near at mEt; constructor <;> grind
  clear mEt mWt mb Aw Ae
  have eU := up_E lat (th + D) (la + d) (be + e)
  have eV := up_E lat th (la + d) (be + e)
  have c0 : CN lat ≤ 10001 / 10000 := bl.2.2
  by_cases c : D ≤ 1000000000
  · obtain ⟨v, hv⟩ : ∃ v, v = (1000000000 - D) / 2 := ⟨_, rfl⟩
    obtain ⟨m, hm⟩ : ∃ m, m = th - v := ⟨_, rfl⟩
    have hf := md_half m v (la + d) (be + e)
    have t : mE (th + D) (la + d) (be + e) = mE (m + -v) (la + d) (be + e) := by
      have t1 := SA_turn (m + -v) 1; have t2 := CA_turn (m + -v) 1
      rw [show ((1 : Int) : Rat) = 1 from rfl, show m + -v + 1000000000 * 1 = th + D by grind] at t1 t2
      unfold mE
      rw [t1, t2]
    rw [show m + v = th by grind, ← t] at hf
    have rt := (md_rot th (-v) (la + d) (be + e)).2
    rw [show th + -v = m by grind] at rt
    obtain ⟨n1, n2⟩ := SCA_neg v
    have fs := sa_growT (x := v) (y := 40500000) (by grind) (by grind) (by grind)
    have fc := ca_fallT (x := v) (y := 40500000) (by grind) (by grind) (by grind)
    have sm := (SA_small (h := v) (by grind) (by grind)).1
    have cl := md_le th (la + d) (be + e)
    have k1 := rmul_bd (a := mW th (la + d) (be + e)) (b := CA (-v) - CA v) (A := 10001 / 10000) (B := e2) cl.2 (by unfold Near at n2; constructor <;> grind)
    have k2 := rmul_bd (a := mE th (la + d) (be + e)) (b := SA (-v)) (A := 67 / 100) (B := 2522 / 10000) Et (by unfold Near e2 at n1; constructor <;> grind)
    have k3 := Rat.mul_le_mul_of_nonneg_left (show 9668 / 10000 ≤ CA v by grind) (show 0 ≤ -mW th (la + d) (be + e) by grind)
    have k4 := Rat.mul_le_mul_of_nonneg_right (show 48 / 100 ≤ -mW th (la + d) (be + e) by grind) (show (0 : Rat) ≤ 9668 / 10000 by grind)
    have Wm : mW m (la + d) (be + e) ≤ 0 := by
      rw [show mW th (la + d) (be + e) * (CA (-v) - CA v) = mW th (la + d) (be + e) * CA (-v) - mW th (la + d) (be + e) * CA v by grind] at k1
      rw [show -mW th (la + d) (be + e) * CA v = -(mW th (la + d) (be + e) * CA v) by grind] at k3
      clear hf n1 n2 t eU eV h1 h2
      unfold Near e2 at *
      generalize mW th (la + d) (be + e) * CA (-v) = w1 at *
      generalize mW th (la + d) (be + e) * CA v = w2 at *
      generalize mE th (la + d) (be + e) * SA (-v) = w3 at *
      grind
    have wb := (md_le m (la + d) (be + e)).2
    have k5 := Rat.mul_nonneg (show 0 ≤ -mW m (la + d) (be + e) by grind) (show 0 ≤ SA v + 1 / 1000000000000000000000000 by grind)
    have dE : mE (th + D) (la + d) (be + e) ≤ mE th (la + d) (be + e) + 1 / 1000000000 := by
      rw [show -mW m (la + d) (be + e) * (SA v + 1 / 1000000000000000000000000) = -(mW m (la + d) (be + e) * SA v) - mW m (la + d) (be + e) / 1000000000000000000000000 by grind] at k5
      clear k1 k2 k3 k4 rt n1 n2 t eU eV h1 h2
      unfold Near at hf
      generalize mW m (la + d) (be + e) * SA v = w at *
      grind
    have k6 := Rat.mul_le_mul_of_nonneg_left dE (show 0 ≤ CN lat by grind)
    rw [show CN lat * (mE th (la + d) (be + e) + 1 / 1000000000) = CN lat * mE th (la + d) (be + e) + CN lat * (1 / 1000000000) by grind] at k6
    clear k1 k2 k3 k4 k5 rt n1 n2 t hf h1
    grind
  · obtain ⟨v, hv⟩ : ∃ v, v = D - 1000000000 := ⟨_, rfl⟩
    have t : mE (th + D) (la + d) (be + e) = mE (th + v) (la + d) (be + e) := by
      have t1 := SA_turn (th + v) 1; have t2 := CA_turn (th + v) 1
      rw [show ((1 : Int) : Rat) = 1 from rfl, show th + v + 1000000000 * 1 = th + D by grind] at t1 t2
      unfold mE
      rw [t1, t2]
    have mt := (md_mvT (th := th) (la := la + d) (be := be + e) (d := v) (D := 1400000) (by constructor <;> grind)).1
    obtain ⟨-, -, r14⟩ := md_ra
    rw [← t] at mt
    have k := rmul_bd (a := CN lat) (b := mE (th + D) (la + d) (be + e) - mE th (la + d) (be + e)) (A := 10001 / 10000) (B := 1762 / 100000) (by constructor <;> grind) (by unfold Near at mt; constructor <;> grind)
    rw [show CN lat * (mE (th + D) (la + d) (be + e) - mE th (la + d) (be + e)) = CN lat * mE (th + D) (la + d) (be + e) - CN lat * mE th (la + d) (be + e) by grind] at k
    clear mt t h1
    grind
end Go.Proofs.YtcopmgnfakjdhaaGreatDoor
