/- RisesetMoons, plain: no rising from 4 to 20 hours behind a rising; the height a day behind it, and some hours later. -/
import Derived.Test.YtcopmgnfakjdhaaGreatDoorVMdS
namespace Go.Proofs.YtcopmgnfakjdhaaGreatDoor
set_option linter.unusedSimpArgs false
set_option linter.unusedVariables false
theorem md_far {lat : Int} {th la be D d e : Rat} (hl : 809 / 1000 ≤ CN lat) (hs : -(588 / 1000) ≤ SN lat ∧ SN lat ≤ 588 / 1000) (hb : -15900000 ≤ be ∧ be ≤ 15900000) (hb2 : -15900000 ≤ be + e ∧ be + e ≤ 15900000) (A : MdAt lat th la be) (B : MdAt lat (th + D) (la + d) (be + e)) (S : MdStep D d e) (D0 : 180000000 ≤ D) (D1 : D ≤ 835700000) : False := by
  obtain ⟨-, c18, c16⟩ := md_num2
  have q := qq_b9
  have rD : 0 ≤ ra D ∧ ra D ≤ 62832 / 10000000000000 * D ∧ 62831 / 10000000000000 * D ≤ ra D := by
    unfold ra
    have a := Rat.mul_le_mul_of_nonneg_right q.2 (show 0 ≤ D by grind)
    have b := Rat.mul_le_mul_of_nonneg_right q.1 (show 0 ≤ D by grind)
    generalize qq = p at *
    refine ⟨?_, ?_, ?_⟩ <;> grind
  have mE' := md_move (la := la) (be := be) (z_one th).1 (show 0 ≤ D by grind) S
  have mW' := md_move (la := la) (be := be) (z_one th).2 (show 0 ≤ D by grind) S
  have mZ' := md_move (la := la) (be := be) (x := 0) (y := 0) (z := 1) (by grind) (show 0 ≤ D by grind) S
  rw [← mE_z, ← mE_z] at mE'
  rw [← mW_z, ← mW_z] at mW'
  rw [← qZ_z, ← qZ_z] at mZ'
  have ea := md_east (th := th) (la := la) S (show 0 ≤ D by grind) (by grind) hb hb2
  obtain ⟨r1, r2⟩ := md_rot th D (la + d) (be + e)
  have An := A.n; have Aw := A.w; have Ae := A.e; have Bn := B.n; have Bw := B.w; have Be := B.e
  clear A B
  rw [up_E] at An Bn
  have ms := rmul_bd (a := SN lat) (b := qZ (la + d) (be + e) - qZ la be) (A := 588 / 1000) (B := 471 / 10000 * ra D + 3 / 10000000000000) hs (by unfold Near at mZ'; constructor <;> grind)
  rw [show SN lat * (qZ (la + d) (be + e) - qZ la be) = SN lat * qZ (la + d) (be + e) - SN lat * qZ la be by grind] at ms
  have ce : -(186 / 10000 + 588 / 1000 * (471 / 10000 * ra D + 3 / 10000000000000)) ≤ CN lat * (mE (th + D) (la + d) (be + e) - mE th la be) ∧ CN lat * (mE (th + D) (la + d) (be + e) - mE th la be) ≤ 186 / 10000 + 588 / 1000 * (471 / 10000 * ra D + 3 / 10000000000000) := by
    rw [show CN lat * (mE (th + D) (la + d) (be + e) - mE th la be) = CN lat * mE (th + D) (la + d) (be + e) - CN lat * mE th la be by grind]
    clear mE' mW' mZ' ea r1 r2
    unfold Near at *
    generalize CN lat * mE (th + D) (la + d) (be + e) = w1 at *
    generalize CN lat * mE th la be = w2 at *
    generalize SN lat * qZ (la + d) (be + e) = w3 at *
    generalize SN lat * qZ la be = w4 at *
    constructor <;> grind
  have rd5 : ra D ≤ 5251 / 1000 := by grind
  have eb : -(204 / 1000) ≤ mE (th + D) (la + d) (be + e) - mE th la be ∧ mE (th + D) (la + d) (be + e) - mE th la be ≤ 204 / 1000 := by
    constructor
    · apply Rat.not_lt.1
      intro l
      have k := Rat.mul_le_mul_of_nonneg_right hl (show 0 ≤ -(mE (th + D) (la + d) (be + e) - mE th la be) by grind)
      rw [show CN lat * -(mE (th + D) (la + d) (be + e) - mE th la be) = -(CN lat * (mE (th + D) (la + d) (be + e) - mE th la be)) by grind] at k
      clear mE' mW' mZ' ea r1 r2 An Bn ms
      generalize CN lat * (mE (th + D) (la + d) (be + e) - mE th la be) = w at *
      grind
    · apply Rat.not_lt.1
      intro l
      have k := Rat.mul_le_mul_of_nonneg_right hl (show 0 ≤ mE (th + D) (la + d) (be + e) - mE th la be by grind)
      clear mE' mW' mZ' ea r1 r2 An Bn ms
      generalize CN lat * (mE (th + D) (la + d) (be + e) - mE th la be) = w at *
      grind
  clear ce ms An Bn mZ'
  obtain ⟨E, hE⟩ : ∃ x, x = mE th la be := ⟨_, rfl⟩
  obtain ⟨W, hW⟩ : ∃ x, x = mW th la be := ⟨_, rfl⟩
  obtain ⟨E1, hE1⟩ : ∃ x, x = mE th (la + d) (be + e) := ⟨_, rfl⟩
  obtain ⟨W1, hW1⟩ : ∃ x, x = mW th (la + d) (be + e) := ⟨_, rfl⟩
  obtain ⟨E2, hE2⟩ : ∃ x, x = mE (th + D) (la + d) (be + e) := ⟨_, rfl⟩
  obtain ⟨W2, hW2⟩ : ∃ x, x = mW (th + D) (la + d) (be + e) := ⟨_, rfl⟩
  have bl := md_le th la be; have bl1 := md_le th (la + d) (be + e)
  rw [← hE, ← hW] at bl
  rw [← hE1, ← hW1] at bl1
  rw [← hE] at Ae mE' eb ea
  rw [← hW] at Aw mW' ea
  rw [← hE1] at mE' ea r1 r2
  rw [← hW1] at mW' ea r1 r2
  rw [← hE2] at r1 eb Be
  rw [← hW2] at r2 Bw
  have un := md_unit th la be
  rw [← hE, ← hW] at un
  have un1 := md_unit th (la + d) (be + e)
  rw [← hE1, ← hW1] at un1
  clear hE hW hE1 hW1 hE2 hW2
  have k1 := Rat.mul_le_mul_of_nonneg_left (show 78 / 100 ≤ -W2 by grind) (show 0 ≤ -W by grind)
  have k2 := Rat.mul_le_mul_of_nonneg_right (show 78 / 100 ≤ -W by grind) (show (0 : Rat) ≤ 78 / 100 by grind)
  have k3 := sq_nonneg (E + (E2 - E) / 2)
  have k4 := sq_le eb
  have lower : 597 / 1000 ≤ E * E2 + W * W2 := by
    have i1 : (E + (E2 - E) / 2) * (E + (E2 - E) / 2) = E * E2 + (E2 - E) * (E2 - E) / 4 := by grind
    have i2 : -W * -W2 = W * W2 := by grind
    rw [i1] at k3
    rw [i2] at k1
    clear i1 i2 mE' mW' ea r1 r2 un
    generalize (E2 - E) * (E2 - E) = w1 at *
    generalize E * E2 = w2 at *
    generalize W * W2 = w3 at *
    grind
  obtain ⟨c, hc⟩ : ∃ x, x = E * E1 + W * W1 := ⟨_, rfl⟩
  obtain ⟨s, hs'⟩ : ∃ x, x = W * E1 - E * W1 := ⟨_, rfl⟩
  rw [← hs'] at ea
  have cD := SA_1 D
  have g1 := rmul_bd (a := E) (b := E2 - (E1 * CA D - W1 * SA D)) (A := 10001 / 10000) (B := 1 / 1000000000000000000000) bl.1 (by unfold Near at r1; constructor <;> grind)
  have g2 := rmul_bd (a := W) (b := W2 - (W1 * CA D + E1 * SA D)) (A := 10001 / 10000) (B := 1 / 1000000000000000000000) bl.2 (by unfold Near at r2; constructor <;> grind)
  have id : E * (E2 - (E1 * CA D - W1 * SA D)) + W * (W2 - (W1 * CA D + E1 * SA D)) = E * E2 + W * W2 - (c * CA D + s * SA D) := by rw [hc, hs']; grind
  have up : 596 / 1000 ≤ c * CA D + s * SA D := by
    clear mE' mW' ea r1 r2 un k1 k2 k3 k4 hc hs'
    generalize E * (E2 - (E1 * CA D - W1 * SA D)) = w1 at *
    generalize W * (W2 - (W1 * CA D + E1 * SA D)) = w2 at *
    generalize E * E2 + W * W2 = w3 at *
    generalize c * CA D + s * SA D = w4 at *
    grind
  clear g1 g2 id k1 k3 k4 lower r1 r2 eb
  have zz := sq_nonneg (qZ la be)
  have ee := sq_nonneg E; have ww := sq_nonneg W
  have h1 := rmul_bd (a := E) (b := E1 - E) (A := 371 / 1000) (B := 471 / 10000 * ra D + 3 / 10000000000000) Ae (by unfold Near at mE'; constructor <;> grind)
  have h2 := rmul_bd (a := W) (b := W1 - W) (A := 10001 / 10000) (B := 471 / 10000 * ra D + 3 / 10000000000000) bl.2 (by unfold Near at mW'; constructor <;> grind)
  have h3 := rmul_bd (a := W) (b := E1 - E) (A := 10001 / 10000) (B := 471 / 10000 * ra D + 3 / 10000000000000) bl.2 (by unfold Near at mE'; constructor <;> grind)
  have h4 := rmul_bd (a := E) (b := W1 - W) (A := 371 / 1000) (B := 471 / 10000 * ra D + 3 / 10000000000000) Ae (by unfold Near at mW'; constructor <;> grind)
  have k5 := Rat.mul_le_mul_of_nonneg_right (show 78 / 100 ≤ -W by grind) (show 0 ≤ -W by grind)
  have c0 : 0 ≤ c := by
    rw [hc, show E * E1 + W * W1 = E * E + W * W + (E * (E1 - E) + W * (W1 - W)) by grind]
    rw [show -W * -W = W * W by grind] at k5
    clear h3 h4 up ea un mE' mW'
    generalize E * (E1 - E) = w1 at *
    generalize W * (W1 - W) = w2 at *
    generalize E * E = w3 at *
    generalize W * W = w4 at *
    grind
  have c1 : c ≤ 10003 / 10000 := by
    have a1 := sq_nonneg (E - E1); have a2 := sq_nonneg (W - W1)
    have zz1 := sq_nonneg (qZ (la + d) (be + e))
    rw [hc]
    rw [show (E - E1) * (E - E1) = E * E - 2 * (E * E1) + E1 * E1 by grind] at a1
    rw [show (W - W1) * (W - W1) = W * W - 2 * (W * W1) + W1 * W1 by grind] at a2
    clear h1 h2 h3 h4 up ea mE' mW' k5 hc hs'
    unfold Near at un un1
    generalize E * E1 = w1 at *
    generalize W * W1 = w2 at *
    generalize E * E = w3 at *
    generalize W * W = w4 at *
    generalize E1 * E1 = w5 at *
    generalize W1 * W1 = w6 at *
    grind
  have sb : -(646 / 10000 * ra D + 1 / 1000000000000) ≤ s ∧ s ≤ 646 / 10000 * ra D + 1 / 1000000000000 := by
    rw [hs', show W * E1 - E * W1 = W * (E1 - E) - E * (W1 - W) by grind]
    clear h1 h2 up ea un un1 mE' mW' k5 hc hs' c0 c1
    generalize W * (E1 - E) = w1 at *
    generalize E * (W1 - W) = w2 at *
    generalize ra D = r at *
    constructor <;> grind
  clear h1 h2 h3 h4 un un1 mE' mW' k5 hc hs' zz ee ww bl bl1 Ae Aw Be Bw hs hl
  by_cases q1 : D ≤ 250000000
  · have f := ca_fall2 (x := 180000000) (y := D) (by grind) D0 (by grind)
    have m1 : c * CA D ≤ 4263 / 10000 := by
      by_cases z : 0 ≤ CA D
      · have k := Rat.mul_le_mul_of_nonneg_right c1 z
        grind
      · have k := Rat.mul_nonneg c0 (show 0 ≤ -CA D by grind)
        rw [show c * -CA D = -(c * CA D) by grind] at k
        grind
    have m2 := rmul_bd (a := s) (b := SA D) (A := 102 / 1000) (B := 10001 / 10000) (by constructor <;> grind) cD.1
    grind
  · by_cases q2 : D ≤ 500000000
    · have f := ca_fall2 (x := 250000000) (y := D) (by grind) (by grind) q2
      have z := (SA_q).2
      have m1 : c * CA D ≤ 1 / 1000000 := by
        by_cases z : 0 ≤ CA D
        · have k := Rat.mul_le_mul_of_nonneg_right c1 z
          unfold Near eq1 at *
          grind
        · have k := Rat.mul_nonneg c0 (show 0 ≤ -CA D by grind)
          rw [show c * -CA D = -(c * CA D) by grind] at k
          grind
      have m2 := rmul_bd (a := s) (b := SA D) (A := 204 / 1000) (B := 10001 / 10000) (by constructor <;> grind) cD.1
      grind
    · obtain ⟨v, hv⟩ : ∃ v, v = 1000000000 - D := ⟨_, rfl⟩
      have f := ca_fall2 (x := 164300000) (y := v) (by grind) (by grind) (by grind)
      have w := ca_whole v
      rw [show 1000000000 - v = D by grind] at w
      have t := SA_turn (-v) 1
      rw [show ((1 : Int) : Rat) = 1 from rfl, show -v + 1000000000 * 1 = D by grind] at t
      have n := (SCA_neg v).1
      rw [← t] at n
      have sm := (SA_small (h := v) (by grind) (by grind)).1
      have sD : SA D ≤ 1 / 1000000000000000000000 := by unfold Near e2 at n; grind
      have cc : CA D ≤ 51303 / 100000 := by unfold Near e2 at w; grind
      have m1 : c * CA D ≤ 514 / 1000 := by
        by_cases z : 0 ≤ CA D
        · have k := Rat.mul_le_mul_of_nonneg_right c1 z
          grind
        · have k := Rat.mul_nonneg c0 (show 0 ≤ -CA D by grind)
          rw [show c * -CA D = -(c * CA D) by grind] at k
          grind
      have m2 := Rat.mul_le_mul_of_nonneg_left sD (show 0 ≤ s + 1 / 1000000000000 by grind)
      have m3 := rmul_bd (a := (1 / 1000000000000 : Rat)) (b := SA D) (A := 1 / 1000000000000) (B := 10001 / 10000) (by constructor <;> grind) cD.1
      rw [show (s + 1 / 1000000000000) * SA D = s * SA D + 1 / 1000000000000 * SA D by grind] at m2
      clear f w t n sm sD cc
      generalize s * SA D = w1 at *
      generalize c * CA D = w2 at *
      generalize 1 / 1000000000000 * SA D = w3 at *
      grind
end Go.Proofs.YtcopmgnfakjdhaaGreatDoor
