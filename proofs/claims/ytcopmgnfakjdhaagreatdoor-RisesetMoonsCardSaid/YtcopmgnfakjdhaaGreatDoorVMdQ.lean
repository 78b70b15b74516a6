/- RisesetMoons, plain: a rising of the moon as a direction. -/
import Derived.Test.YtcopmgnfakjdhaaGreatDoorVMdP
namespace Go.Proofs.YtcopmgnfakjdhaaGreatDoor
set_option linter.unusedSimpArgs false
set_option linter.unusedVariables false
structure MdStep (D d e : Rat) : Prop where
  d1 : 30 / 1000 * D ≤ d
  d2 : d ≤ 43 / 1000 * D
  e1 : -(4 / 1000 * D) ≤ e
  e2 : e ≤ 4 / 1000 * D
structure MdAt (lat : Int) (th la be : Rat) : Prop where
  n : Near (upV lat th la be) (2182 / 1000000) (93 / 10000)
  w : mW th la be ≤ -(78 / 100)
  e : -(371 / 1000) ≤ mE th la be ∧ mE th la be ≤ 371 / 1000
theorem ra_mul {k u : Rat} : ra (k * u) = k * ra u := by
  unfold ra
  generalize qq = p
  grind
theorem ra_pos {u : Rat} (h : 0 ≤ u) : 0 ≤ ra u := by
  have q := qq_b9
  unfold ra
  generalize qq = p at *
  have := Rat.mul_nonneg (show 0 ≤ p by grind) h
  grind
theorem md_move {x y z la be D d e : Rat} (h : x * x + y * y + z * z ≤ 100001 / 100000) (D0 : 0 ≤ D) (S : MdStep D d e) : Near (zL x y z (la + d) (be + e)) (zL x y z la be) (471 / 10000 * ra D + 3 / 10000000000000) := by
  have m := zL_mv (la := la) (be := be) (d := d) (e := e) (D := 43 / 2000 * D) (E := 4 / 2000 * D) h (by have := S.d1; have := S.d2; constructor <;> grind) (by have := S.e1; have := S.e2; constructor <;> grind)
  rw [ra_mul, ra_mul] at m
  have r := ra_pos D0
  exact near_weak m (by grind)
theorem md_E {lat : Int} {th la be e : Rat} (hl : 809 / 1000 ≤ CN lat) (hs : -(588 / 1000) ≤ SN lat ∧ SN lat ≤ 588 / 1000) (hz : -(49 / 100) ≤ qZ la be ∧ qZ la be ≤ 49 / 100) (h : Near (upV lat th la be) (2182 / 1000000) e) :
    809 / 1000 * mE th la be ≤ 2904 / 10000 + e ∧ -(2904 / 10000 + e) ≤ 809 / 1000 * mE th la be := by
  have m := rmul_bd hs hz
  rw [up_E] at h
  have e0 : 0 ≤ e := by unfold Near at h; grind
  generalize SN lat * qZ la be = w at *
  constructor
  · apply Rat.not_lt.1
    intro l
    have k := Rat.mul_le_mul_of_nonneg_right hl (show 0 ≤ mE th la be by grind)
    unfold Near at h
    grind
  · apply Rat.not_lt.1
    intro l
    have k := Rat.mul_le_mul_of_nonneg_right hl (show 0 ≤ -mE th la be by grind)
    rw [show CN lat * -mE th la be = -(CN lat * mE th la be) by grind] at k
    unfold Near at h
    grind
theorem md_ra : ra 700000 ≤ 43983 / 10000000 ∧ ra 350000 ≤ 22 / 10000 ∧ ra 1400000 ≤ 88 / 10000 := by
  have q := qq_b9
  unfold ra
  generalize qq = p at *
  refine ⟨?_, ?_, ?_⟩ <;> grind
theorem md_ends {D d e th la be : Rat} {lat : Int} (hl : 809 / 1000 ≤ CN lat) (hb : -(588 / 1000) ≤ SN lat ∧ SN lat ≤ 588 / 1000) (hz : -(49 / 100) ≤ qZ la be ∧ qZ la be ≤ 49 / 100) (hz2 : -(49 / 100) ≤ qZ (la + d) (be + e) ∧ qZ (la + d) (be + e) ≤ 49 / 100) (D0 : 1 ≤ D) (D1 : D ≤ 1400000) (S : MdStep D d e)
    (h1 : upV lat th la be < 2182 / 1000000) (h2 : 2182 / 1000000 < upV lat (th + D) (la + d) (be + e)) : MdAt lat th la be ∧ MdAt lat (th + D) (la + d) (be + e) := by
  obtain ⟨a1, a2, a3⟩ := md_ra
  obtain ⟨u, hu⟩ : ∃ u, u = D / 2 := ⟨_, rfl⟩
  obtain ⟨m, hm⟩ : ∃ m, m = th + u := ⟨_, rfl⟩
  have rD : ra u ≤ 43983 / 10000000 := Rat.le_trans (ra_mono (show u ≤ 700000 by grind)) a1
  have rq : ra (u / 2) ≤ 22 / 10000 := Rat.le_trans (ra_mono (show u / 2 ≤ 350000 by grind)) a2
  have rD2 : ra D = 2 * ra u := by rw [← ra_mul]; congr 1; grind
  have ru1 : 3 / 1000000000 ≤ ra u := by
    have q := qq_b9
    unfold ra
    have b := Rat.mul_le_mul_of_nonneg_left (show 1 / 2 ≤ u by grind) (show 0 ≤ qq by grind)
    generalize qq = p at *
    grind
  have mv := md_move (la := la) (be := be) (z_up lat (th + D)) (show 0 ≤ D by grind) S
  rw [← up_z, ← up_z, rD2] at mv
  have hf := md_half m u la be
  rw [show m + u = th + D by grind, show m + -u = th by grind] at hf
  have e1 := up_E lat (th + D) la be
  have e2' := up_E lat th la be
  have cl := (SN_1 lat).2
  have dm := rmul_bd (a := CN lat) (b := mE (th + D) la be - mE th la be - -(2 * (mW m la be * SA u))) (A := 10001 / 10000) (B := 1 / 100000000000000000000) cl (by unfold Near at hf; constructor <;> grind)
  rw [show CN lat * (mE (th + D) la be - mE th la be - -(2 * (mW m la be * SA u))) = CN lat * mE (th + D) la be - CN lat * mE th la be + 2 * (CN lat * (mW m la be * SA u)) by grind] at dm
  have cr : mW m la be ≤ 12 / 100 := by
    have sh := sa_half' (u := u) (by grind) (by grind)
    apply Rat.not_lt.1
    intro l
    have su0 : 0 ≤ SA u := by grind
    have g1 := Rat.mul_le_mul_of_nonneg_right (Rat.le_of_lt l) su0
    have g2 := Rat.mul_le_mul_of_nonneg_left g1 (show 0 ≤ CN lat by grind)
    have g3 := Rat.mul_le_mul_of_nonneg_right hl (show 0 ≤ 12 / 100 * SA u by grind)
    rw [e1] at mv
    rw [e2'] at h1
    clear hf cl g1 hm hu e1 e2' hz hz2 hb S a1 a2 a3 rD2 rq
    unfold Near at mv
    generalize upV lat (th + D) (la + d) (be + e) = U at *
    generalize CN lat * (mW m la be * SA u) = w1 at *
    generalize CN lat * mE (th + D) la be = w2 at *
    generalize CN lat * mE th la be = w3 at *
    generalize SN lat * qZ la be = w4 at *
    generalize CN lat * (12 / 100 * SA u) = w5 at *
    generalize SA u = su at *
    generalize ra u = r at *
    grind
  have v2 := (md_mvT (th := th) (la := la) (be := be) (d := D) (D := u) (by constructor <;> grind)).1
  have k1 := rmul_bd (a := CN lat) (b := mE (th + D) la be - mE th la be) (A := 10001 / 10000) (B := 2001 / 1000 * (ra u + 1 / 100000000000000)) cl (by unfold Near at v2; constructor <;> grind)
  rw [show CN lat * (mE (th + D) la be - mE th la be) = CN lat * mE (th + D) la be - CN lat * mE th la be by grind] at k1
  have near : Near (upV lat (th + D) (la + d) (be + e)) (upV lat th la be) (93 / 10000) := by
    rw [e1] at mv
    rw [e2']
    clear hf v2 cr h1 h2 cl dm e1 e2' hz hz2 hb S a1 a2 a3 rD2 rq hl hm hu
    unfold Near at *
    generalize CN lat * mE (th + D) la be = w1 at *
    generalize CN lat * mE th la be = w2 at *
    generalize SN lat * qZ la be = w3 at *
    generalize upV lat (th + D) (la + d) (be + e) = w4 at *
    generalize ra u = r1 at *
    constructor <;> grind
  have n1 : Near (upV lat th la be) (2182 / 1000000) (93 / 10000) := by
    clear mv hf v2 cr cl dm k1 e1 e2'
    unfold Near at *
    constructor <;> grind
  have n2 : Near (upV lat (th + D) (la + d) (be + e)) (2182 / 1000000) (93 / 10000) := by
    clear mv hf v2 cr cl dm k1 e1 e2'
    unfold Near at *
    constructor <;> grind
  have v3 := md_mvT (th := th) (la := la) (be := be) (d := u) (D := u / 2) (by constructor <;> grind)
  rw [← hm] at v3
  have k2 := rmul_bd (a := CN lat) (b := mE m la be - mE th la be) (A := 10001 / 10000) (B := 2001 / 1000 * (ra (u / 2) + 1 / 100000000000000)) cl (by have := v3.1; unfold Near at this; constructor <;> grind)
  rw [show CN lat * (mE m la be - mE th la be) = CN lat * mE m la be - CN lat * mE th la be by grind] at k2
  have nm : Near (upV lat m la be) (2182 / 1000000) (14 / 1000) := by
    rw [e2'] at n1
    rw [up_E lat m la be]
    clear mv hf v2 cr cl dm k1 e1 e2' near n2 h1 h2 v3
    unfold Near at *
    generalize CN lat * mE m la be = w1 at *
    generalize CN lat * mE th la be = w2 at *
    generalize SN lat * qZ la be = w3 at *
    generalize ra (u / 2) = r1 at *
    constructor <;> grind
  have Em := md_E hl hb hz nm
  have E1 := md_E hl hb hz n1
  have E2 := md_E hl hb hz2 n2
  have Wm : mW m la be ≤ -(785 / 1000) := by
    have un := md_unit m la be
    have z2 := sq_le hz
    have e2 := sq_le (x := mE m la be) (A := 377 / 1000) (by constructor <;> grind)
    apply Rat.not_lt.1
    intro l
    have b := sq_le (x := mW m la be) (A := 785 / 1000) (by constructor <;> grind)
    clear mv hf v2 cl dm k1 k2 e1 e2' near n1 n2 h1 h2 v3 nm Em E1 E2
    unfold Near at un
    grind
  have v4 := (md_mvT (th := m) (la := la) (be := be) (d := u) (D := u / 2) (by constructor <;> grind)).2
  rw [show m + u = th + D by grind] at v4
  have v5 := md_move (la := la) (be := be) (z_one (th + D)).2 (show 0 ≤ D by grind) S
  rw [← mW_z, ← mW_z, rD2] at v5
  have w1 := v3.2
  clear mv hf v2 cl dm k1 k2 e1 e2' near h1 h2 v3 nm Em cr
  refine ⟨⟨n1, ?_, ?_⟩, ⟨n2, ?_, ?_⟩⟩
  · unfold Near at w1
    generalize ra (u / 2) = r1 at *
    grind
  · clear w1 v4 v5; constructor <;> grind
  · unfold Near at v4 v5
    generalize ra (u / 2) = r1 at *
    generalize ra u = r2 at *
    grind
  · clear w1 v4 v5; constructor <;> grind
end Go.Proofs.YtcopmgnfakjdhaaGreatDoor
