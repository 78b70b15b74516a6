/- PathSun, plain: where the shadow falls, the sun is high: the true direction, the place in the middle of the spans, the height there. -/
import Derived.Test.YtcopmgnfakjdhaaGreatDoorVTeN
import Derived.Test.YtcopmgnfakjdhaaGreatDoorVUpP
namespace Go.Proofs.YtcopmgnfakjdhaaGreatDoor
set_option linter.unusedSimpArgs false
set_option linter.unusedVariables false
theorem ps_sq {x : Rat} (h : x * x ≤ 10001 / 10000) : -(10001 / 10000) ≤ x ∧ x ≤ 10001 / 10000 := by
  constructor
  · apply Rat.not_lt.1
    intro l
    have m := Rat.mul_lt_mul_of_pos_left (show 10001 / 10000 < -x by grind) (show (0 : Rat) < -x by grind)
    rw [show -x * -x = x * x by grind] at m
    grind
  · apply Rat.not_lt.1
    intro l
    have m := Rat.mul_lt_mul_of_pos_left l (show (0 : Rat) < x by grind)
    grind
theorem ps_rot {y d D p q : Rat} (hd : -D ≤ d / 2 ∧ d / 2 ≤ D) (pq : p * p + q * q ≤ 10001 / 10000) : Near (CA (y + d) * p + SA (y + d) * q) (CA y * p + SA y * q) (2001 / 1000 * (ra D + 1 / 100000000000000)) := by
  obtain ⟨m, hm⟩ : ∃ m, m = y + d / 2 := ⟨_, rfl⟩
  obtain ⟨e, he⟩ : ∃ e, e = d / 2 := ⟨_, rfl⟩
  rw [show y + d = m + e by grind, show y = m + -e by grind]
  rw [← he] at hd
  clear hm he
  have a1 := (SCA_add m e).1; have a2 := (SCA_add m e).2
  have b1 := (SCA_add m (-e)).1; have b2 := (SCA_add m (-e)).2
  obtain ⟨n1, n2⟩ := SCA_neg e
  have l := (SA_lipD (y := 0) (d := e) (D := D) hd).1
  rw [show (0 : Rat) + e = e by grind, SA_0] at l
  have sm := SA_1 m; have se := SA_1 e
  have sp := SA_pyth m
  have pp := sq_nonneg p; have qq' := sq_nonneg q
  have pb := ps_sq (x := p) (by clear a1 a2 b1 b2 n1 n2 sp l; grind)
  have qb := ps_sq (x := q) (by clear a1 a2 b1 b2 n1 n2 sp l; grind)
  obtain ⟨k, hk⟩ : ∃ k, k = CA m * q - SA m * p := ⟨_, rfl⟩
  obtain ⟨j, hj⟩ : ∃ j, j = CA m * p + SA m * q := ⟨_, rfl⟩
  have id : k * k + j * j = (p * p + q * q) + (p * p + q * q) * (CA m * CA m + SA m * SA m - 1) := by rw [hk, hj]; grind
  have mm := rmul_bd (a := p * p + q * q) (b := CA m * CA m + SA m * SA m - 1) (A := 2) (B := ep) (by constructor <;> grind) (by unfold Near at sp; grind)
  have kk := sq_nonneg k; have jj := sq_nonneg j
  have kb : -(1000101 / 1000000) ≤ k ∧ k ≤ 1000101 / 1000000 := by
    have k2 : k * k ≤ 100011 / 100000 := by
      clear a1 a2 b1 b2 n1 n2 sp hk hj l
      generalize (p * p + q * q) * (CA m * CA m + SA m * SA m - 1) = w1 at *
      unfold ep at mm
      generalize p * p = w2 at *
      generalize q * q = w3 at *
      generalize k * k = w4 at *
      generalize j * j = w5 at *
      grind
    clear a1 a2 b1 b2 n1 n2 sp hk hj l id mm
    constructor
    · apply Rat.not_lt.1
      intro l
      have h := Rat.mul_lt_mul_of_pos_left (show 1000101 / 1000000 < -k by grind) (show (0 : Rat) < -k by grind)
      rw [show -k * -k = k * k by grind] at h
      grind
    · apply Rat.not_lt.1
      intro l
      have h := Rat.mul_lt_mul_of_pos_left l (show (0 : Rat) < k by grind)
      grind
  have D1 : Near (SA (m + e) - SA (m + -e)) (2 * (SA e * CA m)) (1 / 10000000000000000000000) := by
    have r1 := rmul_bd (a := SA m) (b := CA (-e) - CA e) (A := 10001 / 10000) (B := e2) sm.1 (by unfold Near at n2; grind)
    have r2 := rmul_bd (a := CA m) (b := SA (-e) - -SA e) (A := 10001 / 10000) (B := e2) sm.2 (by unfold Near at n1; grind)
    rw [show SA m * (CA (-e) - CA e) = SA m * CA (-e) - SA m * CA e by grind] at r1
    rw [show CA m * (SA (-e) - -SA e) = CA m * SA (-e) + SA e * CA m by grind] at r2
    rw [show CA m * SA e = SA e * CA m by grind] at a1
    clear a2 b2 n1 n2 sp hk hj id mm l
    unfold Near e2 at *
    generalize SA m * CA (-e) = w1 at *
    generalize SA m * CA e = w2 at *
    generalize CA m * SA (-e) = w3 at *
    generalize SA e * CA m = w4 at *
    generalize SA (m + e) = w5 at *
    generalize SA (m + -e) = w6 at *
    constructor <;> grind
  have D2 : Near (CA (m + e) - CA (m + -e)) (-(2 * (SA e * SA m))) (1 / 10000000000000000000000) := by
    have r1 := rmul_bd (a := CA m) (b := CA (-e) - CA e) (A := 10001 / 10000) (B := e2) sm.2 (by unfold Near at n2; grind)
    have r2 := rmul_bd (a := SA m) (b := SA (-e) - -SA e) (A := 10001 / 10000) (B := e2) sm.1 (by unfold Near at n1; grind)
    rw [show CA m * (CA (-e) - CA e) = CA m * CA (-e) - CA m * CA e by grind] at r1
    rw [show SA m * (SA (-e) - -SA e) = SA m * SA (-e) + SA e * SA m by grind] at r2
    rw [show SA m * SA e = SA e * SA m by grind] at a2
    clear a1 b1 n1 n2 sp hk hj id mm l D1
    unfold Near e2 at *
    generalize CA m * CA (-e) = w1 at *
    generalize CA m * CA e = w2 at *
    generalize SA m * SA (-e) = w3 at *
    generalize SA e * SA m = w4 at *
    generalize CA (m + e) = w5 at *
    generalize CA (m + -e) = w6 at *
    constructor <;> grind
  have x1 := rmul_bd (a := q) (b := SA (m + e) - SA (m + -e) - 2 * (SA e * CA m)) (A := 10001 / 10000) (B := 1 / 10000000000000000000000) qb (by unfold Near at D1; grind)
  have x2 := rmul_bd (a := p) (b := CA (m + e) - CA (m + -e) - -(2 * (SA e * SA m))) (A := 10001 / 10000) (B := 1 / 10000000000000000000000) pb (by unfold Near at D2; grind)
  have x3 := rmul_bd (a := SA e) (b := k) (A := ra D + 1 / 100000000000000000000) (B := 1000101 / 1000000) (by unfold Near at l; grind) kb
  rw [hk, show SA e * (CA m * q - SA m * p) = q * (SA e * CA m) - p * (SA e * SA m) by grind] at x3
  rw [show q * (SA (m + e) - SA (m + -e) - 2 * (SA e * CA m)) = SA (m + e) * q - SA (m + -e) * q - 2 * (q * (SA e * CA m)) by grind] at x1
  rw [show p * (CA (m + e) - CA (m + -e) - -(2 * (SA e * SA m))) = CA (m + e) * p - CA (m + -e) * p + 2 * (p * (SA e * SA m)) by grind] at x2
  have r0 : 0 ≤ ra D + 1 / 100000000000000000000 := by unfold Near at l; grind
  clear a1 a2 b1 b2 n1 n2 sp hk hj id mm l D1 D2 kb sm se pb qb pp qq' kk jj pq hd
  unfold Near
  generalize q * (SA e * CA m) = w1 at *
  generalize p * (SA e * SA m) = w2 at *
  generalize SA (m + e) * q = w3 at *
  generalize SA (m + -e) * q = w4 at *
  generalize CA (m + e) * p = w5 at *
  generalize CA (m + -e) * p = w6 at *
  generalize ra D = R at *
  constructor <;> grind
end Go.Proofs.YtcopmgnfakjdhaaGreatDoor
