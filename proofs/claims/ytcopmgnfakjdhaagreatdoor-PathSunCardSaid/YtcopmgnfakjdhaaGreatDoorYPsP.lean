/- PathSun, plain: where the shadow falls, the sun is high: the true direction, the place in the middle of the spans, the height there. -/
import Derived.Test.YtcopmgnfakjdhaaGreatDoorYTeN
import Derived.Test.YtcopmgnfakjdhaaGreatDoorYUpP
namespace Go.Proofs.YtcopmgnfakjdhaaGreatDoor
set_option linter.unusedSimpArgs false
set_option linter.unusedVariables false
theorem ps_root {a b : Int} {N : Rat} (h0 : 0 ≤ a) (hab : a ≤ b) (hb : b ≤ 1000000000) (h1 : (a : Rat) * (a : Rat) ≤ N) (h2 : N ≤ (b : Rat) * (b : Rat)) : ∃ z : Rat, (a : Rat) ≤ z ∧ z ≤ (b : Rat) ∧ Near (z * z) N (1 / 100) := by
  obtain ⟨f, hf⟩ : ∃ f : Nat → Rat, f = fun i : Nat => ((a : Rat) + (i : Rat) * (1 / 1000000000000)) * ((a : Rat) + (i : Rat) * (1 / 1000000000000)) := ⟨_, rfl⟩
  have fe : ∀ i : Nat, f i = ((a : Rat) + (i : Rat) * (1 / 1000000000000)) * ((a : Rat) + (i : Rat) * (1 / 1000000000000)) := fun i => by rw [hf]
  obtain ⟨m, hm⟩ : ∃ m : Nat, (m : Int) = b - a := ⟨(b - a).toNat, by omega⟩
  have mr : (m : Rat) = (b : Rat) - (a : Rat) := by
    have : ((m : Int) : Rat) = ((b - a : Int) : Rat) := by rw [hm]
    rw [Rat.intCast_natCast, Rat.intCast_sub] at this
    exact this
  have e0 : f 0 = (a : Rat) * (a : Rat) := by
    rw [fe, show ((0 : Nat) : Rat) = 0 from rfl]; grind
  have eN : f (m * 1000000000000) = (b : Rat) * (b : Rat) := by
    rw [fe, Rat.natCast_mul, mr, show ((1000000000000 : Nat) : Rat) = 1000000000000 from rfl]
    rw [show (a : Rat) + ((b : Rat) - (a : Rat)) * 1000000000000 * (1 / 1000000000000) = (b : Rat) by grind]
  obtain ⟨i, i1, i2, i3⟩ := cross_at (f := f) (v := N) (by rw [e0]; exact h1) (m * 1000000000000) (by rw [eN]; exact h2)
  have ib := Rat.natCast_le_natCast.2 i1
  rw [Rat.natCast_mul, mr, show ((1000000000000 : Nat) : Rat) = 1000000000000 from rfl] at ib
  have i0 := nat_nonneg i
  have ar : (0 : Rat) ≤ (a : Rat) := Rat.intCast_le_intCast.2 h0
  have br := Rat.intCast_le_intCast.2 hb
  rw [show ((1000000000 : Int) : Rat) = 1000000000 from rfl] at br
  rw [fe] at i2 i3
  rw [fe, Rat.natCast_add, show ((1 : Nat) : Rat) = 1 from rfl] at i3
  obtain ⟨z, hz⟩ : ∃ z : Rat, z = (a : Rat) + (i : Rat) * (1 / 1000000000000) := ⟨_, rfl⟩
  rw [← hz] at i2 i3
  rw [show (a : Rat) + ((i : Rat) + 1) * (1 / 1000000000000) = z + 1 / 1000000000000 by grind] at i3
  rw [show (z + 1 / 1000000000000) * (z + 1 / 1000000000000) = z * z + 2 / 1000000000000 * z + 1 / 1000000000000000000000000 by grind] at i3
  have zb : z ≤ (b : Rat) := by clear i2 i3 fe e0 eN h1 h2; grind
  have za : (a : Rat) ≤ z := by clear i2 i3 fe e0 eN h1 h2; grind
  refine ⟨z, za, zb, ?_⟩
  clear e0 eN fe hf h1 h2 hz ib i1 mr hm
  unfold Near
  generalize z * z = zz at *
  constructor
  · rcases i3 with g | g <;> grind
  · grind
theorem ps_corner {a b : Int} (h : a ≤ b) : sqrLo a b * 1000000000 ≤ a * a := by
  have n := sq_nonneg_i a
  unfold sqrLo
  split
  · omega
  · have : tmLo a b a b ≤ a * a / 1000000000 := by unfold tmLo pLo; omega
    omega
theorem ps_zw {t : Int} (h : ¬ 1000000000 < smHi t) : zzHi t - zzLo t ≤ 252000000 := by
  have B := ce_bd h
  have x := ox_bd t; have y := oy_bd t
  obtain ⟨q1, -⟩ := te_sq x.1 B.i.x1 B.i.x2
  obtain ⟨q2, -⟩ := te_sq y.1 B.i.y1 B.i.y2
  have R := B.root
  have r1 := R.r1; have r2 := R.r2; have s2 := R.s2
  have z0 := B.z0; have z1 := B.z1; have sL := B.i.s0
  have sW : smHi t - smLo t ≤ 63343550 := by unfold smHi smLo; omega
  clear R B q1 q2 x y
  generalize smHi t = p at *
  generalize smLo t = q at *
  generalize zzLo t = a at *
  generalize zzHi t = b at *
  apply Int.not_lt.1
  intro l
  have ea : (a + 1) * (a + 1) = a * a + 2 * a + 1 := by rw [Int.add_mul, Int.mul_add]; omega
  have eb : (b - 1) * (b - 1) = b * b - 2 * b + 1 := by rw [Int.sub_mul, Int.mul_sub]; omega
  have s3 : (b - 1) * (b - 1) < (1000000000 - q) * 1000000000 := by
    rcases s2 with s2 | s2
    · omega
    · exact s2
  have m := Int.mul_le_mul (show 251999999 ≤ b - a - 2 by omega) (show 252000001 ≤ b + a by omega) (by omega) (by omega)
  have e : (b - a - 2) * (b + a) = (b - 1) * (b - 1) - (a + 1) * (a + 1) := by
    rw [ea, eb, Int.sub_mul, Int.sub_mul, Int.mul_add, Int.mul_add, Int.mul_comm a b]; omega
  rw [e] at m
  omega
theorem ps_sq {x : Rat} (h : x * x ≤ 10001 / 10000) : -(10001 / 10000) ≤ x ∧ x ≤ 10001 / 10000 := by
  constructor
  · apply Rat.not_lt.1
    intro l
    have m := Rat.mul_lt_mul_of_pos_left (show 10001 / 10000 < -x by grind) (show (0 : Rat) < -x by grind)
    rw [show -x * -x = x * x by grind] at m
    grind
  · apply Rat.not_lt.1
    intro l
    have m := Rat.mul_lt_mul_of_pos_left l (show (0 : Rat) < x by grind)
    grind
theorem ps_rot {y d D p q : Rat} (hd : -D ≤ d / 2 ∧ d / 2 ≤ D) (pq : p * p + q * q ≤ 10001 / 10000) : Near (CA (y + d) * p + SA (y + d) * q) (CA y * p + SA y * q) (2001 / 1000 * (ra D + 1 / 100000000000000)) := by
  obtain ⟨m, hm⟩ : ∃ m, m = y + d / 2 := ⟨_, rfl⟩
  obtain ⟨e, he⟩ : ∃ e, e = d / 2 := ⟨_, rfl⟩
  rw [show y + d = m + e by grind, show y = m + -e by grind]
  rw [← he] at hd
  clear hm he
  have a1 := (SCA_add m e).1; have a2 := (SCA_add m e).2
  have b1 := (SCA_add m (-e)).1; have b2 := (SCA_add m (-e)).2
  obtain ⟨n1, n2⟩ := SCA_neg e
  have l := (SA_lipD (y := 0) (d := e) (D := D) hd).1
  rw [show (0 : Rat) + e = e by grind, SA_0] at l
  have sm := SA_1 m; have se := SA_1 e
  have sp := SA_pyth m
  have pp := sq_nonneg p; have qq' := sq_nonneg q
  have pb := ps_sq (x := p) (by clear a1 a2 b1 b2 n1 n2 sp l; grind)
  have qb := ps_sq (x := q) (by clear a1 a2 b1 b2 n1 n2 sp l; grind)
  obtain ⟨k, hk⟩ : ∃ k, k = CA m * q - SA m * p := ⟨_, rfl⟩
  obtain ⟨j, hj⟩ : ∃ j, j = CA m * p + SA m * q := ⟨_, rfl⟩
  have id : k * k + j * j = (p * p + q * q) + (p * p + q * q) * (CA m * CA m + SA m * SA m - 1) := by rw [hk, hj]; grind
  have mm := rmul_bd (a := p * p + q * q) (b := CA m * CA m + SA m * SA m - 1) (A := 2) (B := ep) (by constructor <;> grind) (by unfold Near at sp; grind)
  have kk := sq_nonneg k; have jj := sq_nonneg j
  have kb : -(1000101 / 1000000) ≤ k ∧ k ≤ 1000101 / 1000000 := by
    have k2 : k * k ≤ 100011 / 100000 := by
      clear a1 a2 b1 b2 n1 n2 sp hk hj l
      generalize (p * p + q * q) * (CA m * CA m + SA m * SA m - 1) = w1 at *
      unfold ep at mm
      generalize p * p = w2 at *
      generalize q * q = w3 at *
      generalize k * k = w4 at *
      generalize j * j = w5 at *
      grind
    clear a1 a2 b1 b2 n1 n2 sp hk hj l id mm
    constructor
    · apply Rat.not_lt.1
      intro l
      have h := Rat.mul_lt_mul_of_pos_left (show 1000101 / 1000000 < -k by grind) (show (0 : Rat) < -k by grind)
      rw [show -k * -k = k * k by grind] at h
      grind
    · apply Rat.not_lt.1
      intro l
      have h := Rat.mul_lt_mul_of_pos_left l (show (0 : Rat) < k by grind)
      grind
  have D1 : Near (SA (m + e) - SA (m + -e)) (2 * (SA e * CA m)) (1 / 10000000000000000000000) := by
    have r1 := rmul_bd (a := SA m) (b := CA (-e) - CA e) (A := 10001 / 10000) (B := e2) sm.1 (by unfold Near at n2; grind)
    have r2 := rmul_bd (a := CA m) (b := SA (-e) - -SA e) (A := 10001 / 10000) (B := e2) sm.2 (by unfold Near at n1; grind)
    rw [show SA m * (CA (-e) - CA e) = SA m * CA (-e) - SA m * CA e by grind] at r1
    rw [show CA m * (SA (-e) - -SA e) = CA m * SA (-e) + SA e * CA m by grind] at r2
    rw [show CA m * SA e = SA e * CA m by grind] at a1
    clear a2 b2 n1 n2 sp hk hj id mm l
    unfold Near e2 at *
    generalize SA m * CA (-e) = w1 at *
    generalize SA m * CA e = w2 at *
    generalize CA m * SA (-e) = w3 at *
    generalize SA e * CA m = w4 at *
    generalize SA (m + e) = w5 at *
    generalize SA (m + -e) = w6 at *
    constructor <;> grind
  have D2 : Near (CA (m + e) - CA (m + -e)) (-(2 * (SA e * SA m))) (1 / 10000000000000000000000) := by
    have r1 := rmul_bd (a := CA m) (b := CA (-e) - CA e) (A := 10001 / 10000) (B := e2) sm.2 (by unfold Near at n2; grind)
    have r2 := rmul_bd (a := SA m) (b := SA (-e) - -SA e) (A := 10001 / 10000) (B := e2) sm.1 (by unfold Near at n1; grind)
    rw [show CA m * (CA (-e) - CA e) = CA m * CA (-e) - CA m * CA e by grind] at r1
    rw [show SA m * (SA (-e) - -SA e) = SA m * SA (-e) + SA e * SA m by grind] at r2
    rw [show SA m * SA e = SA e * SA m by grind] at a2
    clear a1 b1 n1 n2 sp hk hj id mm l D1
    unfold Near e2 at *
    generalize CA m * CA (-e) = w1 at *
    generalize CA m * CA e = w2 at *
    generalize SA m * SA (-e) = w3 at *
    generalize SA e * SA m = w4 at *
    generalize CA (m + e) = w5 at *
    generalize CA (m + -e) = w6 at *
    constructor <;> grind
  have x1 := rmul_bd (a := q) (b := SA (m + e) - SA (m + -e) - 2 * (SA e * CA m)) (A := 10001 / 10000) (B := 1 / 10000000000000000000000) qb (by unfold Near at D1; grind)
  have x2 := rmul_bd (a := p) (b := CA (m + e) - CA (m + -e) - -(2 * (SA e * SA m))) (A := 10001 / 10000) (B := 1 / 10000000000000000000000) pb (by unfold Near at D2; grind)
  have x3 := rmul_bd (a := SA e) (b := k) (A := ra D + 1 / 100000000000000000000) (B := 1000101 / 1000000) (by unfold Near at l; grind) kb
  rw [hk, show SA e * (CA m * q - SA m * p) = q * (SA e * CA m) - p * (SA e * SA m) by grind] at x3
  rw [show q * (SA (m + e) - SA (m + -e) - 2 * (SA e * CA m)) = SA (m + e) * q - SA (m + -e) * q - 2 * (q * (SA e * CA m)) by grind] at x1
  rw [show p * (CA (m + e) - CA (m + -e) - -(2 * (SA e * SA m))) = CA (m + e) * p - CA (m + -e) * p + 2 * (p * (SA e * SA m)) by grind] at x2
  have r0 : 0 ≤ ra D + 1 / 100000000000000000000 := by unfold Near at l; grind
  clear a1 a2 b1 b2 n1 n2 sp hk hj id mm l D1 D2 kb sm se pb qb pp qq' kk jj pq hd
  unfold Near
  generalize q * (SA e * CA m) = w1 at *
  generalize p * (SA e * SA m) = w2 at *
  generalize SA (m + e) * q = w3 at *
  generalize SA (m + -e) * q = w4 at *
  generalize CA (m + e) * p = w5 at *
  generalize CA (m + -e) * p = w6 at *
  generalize ra D = R at *
  constructor <;> grind
end Go.Proofs.YtcopmgnfakjdhaaGreatDoor
