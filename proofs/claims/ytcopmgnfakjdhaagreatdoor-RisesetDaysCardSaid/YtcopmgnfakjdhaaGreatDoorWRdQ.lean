/- RisesetDays, plain: risings and settings as directions; from a rising to a setting; the middle. -/
import Derived.Test.YtcopmgnfakjdhaaGreatDoorWRdP
namespace Go.Proofs.YtcopmgnfakjdhaaGreatDoor
set_option linter.unusedSimpArgs false
set_option linter.unusedVariables false
structure RdAt (s : Rat) (lat : Int) (th la : Rat) : Prop where
  n : Near (upV lat th la 0) (-(14543900 / 1000000000)) (89 / 10000)
  w : s * dW th la ≤ -(68 / 100)
theorem rd_r1 : 0 ≤ ra 700000 ∧ ra 700000 ≤ 43983 / 10000000 ∧ ra 2100 ≤ 1320 / 100000000 ∧ ra 350000 ≤ 22 / 10000 ∧ ra 1420000 ≤ 8923 / 1000000 ∧ ra 3 ≤ 1 / 10000000 := by
  have q := qq_b9
  unfold ra
  generalize qq = p at *
  refine ⟨?_, ?_, ?_, ?_, ?_, ?_⟩ <;> grind
theorem qz_40 (la : Rat) : -(398 / 1000) ≤ qZ la 0 ∧ qZ la 0 ≤ 398 / 1000 := by
  obtain ⟨t1, t2, t3, t4⟩ := tilt_sc
  have s := SA_1 la
  have m := rmul_bd (a := SA la) (b := SN 65109000) (A := 10001 / 10000) (B := 3979 / 10000) s.1 (by constructor <;> grind)
  rw [(rd_q la).2.2]
  generalize SA la * SN 65109000 = z at *
  constructor <;> grind
theorem rd_E {lat : Int} {th la e : Rat} (hl : 587 / 1000 ≤ CN lat) (hs : -(81 / 100) ≤ SN lat ∧ SN lat ≤ 81 / 100) (h : Near (upV lat th la 0) (-(14543900 / 1000000000)) e) (e0 : 0 ≤ e) (e1 : e ≤ 14 / 1000) : -(598 / 1000) ≤ dE th la ∧ dE th la ≤ 598 / 1000 := by
  have z := qz_40 la
  have m := rmul_bd hs z
  rw [rd_H] at h
  generalize SN lat * qZ la 0 = w at *
  constructor
  · apply Rat.not_lt.1
    intro l
    have k := Rat.mul_le_mul_of_nonneg_right hl (show 0 ≤ -dE th la by grind)
    rw [show CN lat * -dE th la = -(CN lat * dE th la) by grind] at k
    unfold Near at h
    grind
  · apply Rat.not_lt.1
    intro l
    have k := Rat.mul_le_mul_of_nonneg_right hl (show 0 ≤ dE th la by grind)
    unfold Near at h
    grind
theorem rd_W {th la x : Rat} (h : -(598 / 1000) ≤ dE th la ∧ dE th la ≤ 598 / 1000) (hx : x = 1 ∨ x = -1) (w : x * dW th la ≤ 2 / 100) : x * dW th la ≤ -(69 / 100) := by
  have u := rd_unit th la
  have z := sq_le (qz_40 la)
  have e := sq_le h
  apply Rat.not_lt.1
  intro l
  have b : -(69 / 100) ≤ x * dW th la ∧ x * dW th la ≤ 69 / 100 := by constructor <;> grind
  have k := sq_le b
  have i : x * dW th la * (x * dW th la) = dW th la * dW th la := by rcases hx with rfl | rfl <;> grind
  rw [i] at k
  unfold Near at u
  generalize dW th la * dW th la = w1 at *
  generalize dE th la * dE th la = w2 at *
  generalize qZ la 0 * qZ la 0 = w3 at *
  grind
theorem rd_ends {s D d th la : Rat} {lat : Int} (hs : s = 1 ∨ s = -1) (hl : 587 / 1000 ≤ CN lat) (hb : -(81 / 100) ≤ SN lat ∧ SN lat ≤ 81 / 100) (D0 : 1 ≤ D) (D1 : D ≤ 1400000) (d0 : 0 ≤ d) (d1 : d ≤ 3 / 1000 * D) (h1 : s * upV lat th la 0 < s * -(14543900 / 1000000000)) (h2 : s * -(14543900 / 1000000000) < s * upV lat (th + D) (la + d) 0) : RdAt s lat th la ∧ RdAt s lat (th + D) (la + d) := by
  have cr := rd_cross (th := th) hs (show 58 / 100 ≤ CN lat by grind) D0 D1 d0 d1 (by rw [show s * (upV lat (th + D) (la + d) 0 - upV lat th la 0) = s * upV lat (th + D) (la + d) 0 - s * upV lat th la 0 by grind]; grind)
  obtain ⟨a0, a1, a2, a3, -, -⟩ := rd_r1
  have rD : ra (D / 2) ≤ 43983 / 10000000 := Rat.le_trans (ra_mono (show D / 2 ≤ 700000 by grind)) a1
  have rd : ra (d / 2) ≤ 1320 / 100000000 := Rat.le_trans (ra_mono (show d / 2 ≤ 2100 by grind)) a2
  have rq : ra (D / 2 / 2) ≤ 22 / 10000 := Rat.le_trans (ra_mono (show D / 2 / 2 ≤ 350000 by grind)) a3
  have v1 := rd_mvH (lat := lat) (th := th + D) (la := la) (d := d) (D := d / 2) (by constructor <;> grind)
  have v2 := (rd_mvT (th := th) (la := la) (d := D) (D := D / 2) (by constructor <;> grind)).1
  have v3 := rd_mvT (th := th) (la := la) (d := D / 2) (D := D / 2 / 2) (by constructor <;> grind)
  have v4 := rd_mvT (th := th + D / 2) (la := la) (d := D / 2) (D := D / 2 / 2) (by constructor <;> grind)
  have v5 := (rd_mv (th := th + D) (la := la) (d := d) (D := d / 2) (by constructor <;> grind)).2.1
  rw [show th + D / 2 + D / 2 = th + D by grind] at v4
  have cb := (SN_1 lat).2
  have c1 : CN lat ≤ 1 + ep := (CN_le lat).2
  have k1 := rmul_bd (a := CN lat) (b := dE (th + D) la - dE th la) (A := 10001 / 10000) (B := 2001 / 1000 * (ra (D / 2) + 1 / 100000000000000)) cb (by unfold Near at v2; constructor <;> grind)
  rw [show CN lat * (dE (th + D) la - dE th la) = CN lat * dE (th + D) la - CN lat * dE th la by grind] at k1
  have e1 := rd_H lat (th + D) la
  have e2' := rd_H lat th la
  have near : Near (upV lat (th + D) (la + d) 0) (upV lat th la 0) (885 / 100000) := by
    rw [e1] at v1
    rw [e2']
    clear v2 v3 v4 v5 cr h1 h2 cb c1
    unfold Near at *
    generalize CN lat * dE (th + D) la = w1 at *
    generalize CN lat * dE th la = w2 at *
    generalize SN lat * qZ la 0 = w3 at *
    generalize upV lat (th + D) (la + d) 0 = w4 at *
    generalize ra (D / 2) = r1 at *
    generalize ra (d / 2) = r2 at *
    constructor <;> grind
  have n1 : Near (upV lat th la 0) (-(14543900 / 1000000000)) (89 / 10000) := by
    clear v1 v2 v3 v4 v5 cr cb c1 k1 e1 e2'
    unfold Near at *
    rcases hs with rfl | rfl <;> constructor <;> grind
  have n2 : Near (upV lat (th + D) (la + d) 0) (-(14543900 / 1000000000)) (89 / 10000) := by
    clear v1 v2 v3 v4 v5 cr cb c1 k1 e1 e2'
    unfold Near at *
    rcases hs with rfl | rfl <;> constructor <;> grind
  have k2 := rmul_bd (a := CN lat) (b := dE (th + D / 2) la - dE th la) (A := 10001 / 10000) (B := 2001 / 1000 * (ra (D / 2 / 2) + 1 / 100000000000000)) cb (by have := v3.1; unfold Near at this; constructor <;> grind)
  rw [show CN lat * (dE (th + D / 2) la - dE th la) = CN lat * dE (th + D / 2) la - CN lat * dE th la by grind] at k2
  have nm : Near (upV lat (th + D / 2) la 0) (-(14543900 / 1000000000)) (14 / 1000) := by
    rw [e2'] at n1
    rw [rd_H lat (th + D / 2) la]
    clear v1 v2 v3 v4 v5 cr cb c1 k1 e1 e2' near n2 h1 h2
    unfold Near at *
    generalize CN lat * dE (th + D / 2) la = w1 at *
    generalize CN lat * dE th la = w2 at *
    generalize SN lat * qZ la 0 = w3 at *
    generalize ra (D / 2 / 2) = r1 at *
    constructor <;> grind
  have Eb := rd_E hl hb nm (by grind) (by grind)
  have Wb := rd_W Eb hs cr
  have w1 := v3.2; have w2 := v4.2
  clear v1 v2 v3 v4 k1 k2 nm Eb cr e1 e2' near h1 h2
  refine ⟨⟨n1, ?_⟩, ⟨n2, ?_⟩⟩
  · unfold Near at w1
    generalize ra (D / 2 / 2) = r1 at *
    rcases hs with rfl | rfl <;> grind
  · unfold Near at w2 v5
    generalize ra (D / 2 / 2) = r1 at *
    generalize ra (d / 2) = r2 at *
    rcases hs with rfl | rfl <;> grind
structure RdDay (th D la : Rat) : Prop where
  c : CA D ≤ -(4 / 100)
  w : -(48 / 1000) ≤ dW (th + D / 2) la ∧ dW (th + D / 2) la ≤ 48 / 1000
  e : 66 / 100 ≤ dE (th + D / 2) la
theorem rd_day {lat : Int} {th D la d : Rat} (hl : 587 / 1000 ≤ CN lat) (hb : -(81 / 100) ≤ SN lat ∧ SN lat ≤ 81 / 100) (D0 : 0 ≤ D) (D1 : D ≤ 1003000000) (d0 : 0 ≤ d) (d1 : d ≤ 2840000) (A : RdAt 1 lat th la) (B : RdAt (-1) lat (th + D) (la + d)) : RdDay th D la := by
  obtain ⟨-, -, -, -, a4, -⟩ := rd_r1
  have rd : ra (d / 2) ≤ 8923 / 1000000 := Rat.le_trans (ra_mono (show d / 2 ≤ 1420000 by grind)) a4
  have v1 := rd_mvH (lat := lat) (th := th + D) (la := la) (d := d) (D := d / 2) (by constructor <;> grind)
  have v5 := (rd_mv (th := th + D) (la := la) (d := d) (D := d / 2) (by constructor <;> grind)).2.1
  have Ea := rd_E hl hb A.n (by grind) (by grind)
  have An := A.n; have Bn := B.n; have Aw := A.w; have Bw := B.w
  have Wb : 66 / 100 ≤ dW (th + D) la := by clear v1 An Bn; unfold Near at v5; grind
  have Wa : dW th la ≤ -(68 / 100) := by grind
  have hh : Near (upV lat (th + D) la 0) (upV lat th la 0) (357 / 10000) := by
    clear v5 Aw Bw Wb Wa Ea
    unfold Near at *
    constructor <;> grind
  rw [rd_H, rd_H] at hh
  have eb : -(609 / 10000) ≤ dE (th + D) la - dE th la ∧ dE (th + D) la - dE th la ≤ 609 / 10000 := by
    constructor
    · apply Rat.not_lt.1
      intro l
      have k := Rat.mul_le_mul_of_nonneg_right hl (show 0 ≤ -(dE (th + D) la - dE th la) by grind)
      rw [show CN lat * -(dE (th + D) la - dE th la) = CN lat * dE th la - CN lat * dE (th + D) la by grind] at k
      unfold Near at hh
      grind
    · apply Rat.not_lt.1
      intro l
      have k := Rat.mul_le_mul_of_nonneg_right hl (show 0 ≤ dE (th + D) la - dE th la by grind)
      rw [show CN lat * (dE (th + D) la - dE th la) = CN lat * dE (th + D) la - CN lat * dE th la by grind] at k
      unfold Near at hh
      grind
  clear v1 v5 An Bn Aw Bw hh A B
  obtain ⟨la1, la2⟩ := rd_le th la
  obtain ⟨lb1, lb2⟩ := rd_le (th + D) la
  have cD := SA_1 D
  refine (fun c h => ⟨c, h.1, h.2⟩ : (CA D ≤ -(4 / 100)) → ((-(48 / 1000) ≤ dW (th + D / 2) la ∧ dW (th + D / 2) la ≤ 48 / 1000) ∧ 66 / 100 ≤ dE (th + D / 2) la) → RdDay th D la) ?_ ?_
  · -- the cosine of the turn
    obtain ⟨r1, r2⟩ := rd_rot th D la
    have u := rd_unit th la
    have zz := sq_nonneg (qZ la 0)
    have g1 := rmul_bd (a := dE th la) (b := dE (th + D) la - (dE th la * CA D - dW th la * SA D)) (A := 10001 / 10000) (B := 1 / 1000000000000000000000) la1 (by unfold Near at r1; constructor <;> grind)
    have g2 := rmul_bd (a := dW th la) (b := dW (th + D) la - (dW th la * CA D + dE th la * SA D)) (A := 10001 / 10000) (B := 1 / 1000000000000000000000) la2 (by unfold Near at r2; constructor <;> grind)
    have g3 := rmul_bd (a := dE th la) (b := dE (th + D) la - dE th la) (A := 598 / 1000) (B := 609 / 10000) Ea eb
    have g4 := sq_le Ea
    have g5 := Rat.mul_le_mul_of_nonneg_left Wb (show 0 ≤ -dW th la by grind)
    have g6 := Rat.mul_le_mul_of_nonneg_right (show 68 / 100 ≤ -dW th la by grind) (show (0 : Rat) ≤ 66 / 100 by grind)
    apply Rat.not_lt.1
    intro l
    have ee := sq_nonneg (dE th la); have ww := sq_nonneg (dW th la)
    have g7 := Rat.mul_le_mul_of_nonneg_right (Rat.le_of_lt l) (show 0 ≤ dE th la * dE th la + dW th la * dW th la by grind)
    have i1 : dE th la * (dE (th + D) la - (dE th la * CA D - dW th la * SA D)) + dW th la * (dW (th + D) la - (dW th la * CA D + dE th la * SA D)) = dE th la * dE (th + D) la + dW th la * dW (th + D) la - CA D * (dE th la * dE th la + dW th la * dW th la) := by grind
    have i2 : dE th la * (dE (th + D) la - dE th la) = dE th la * dE (th + D) la - dE th la * dE th la := by grind
    have i3 : -dW th la * dW (th + D) la = -(dW th la * dW (th + D) la) := by grind
    rw [i2] at g3
    rw [i3] at g5
    clear r1 r2 i2 i3 eb Ea la1 la2 lb1 lb2 cD l hl hb
    unfold Near at u
    generalize dE th la * (dE (th + D) la - (dE th la * CA D - dW th la * SA D)) = w1 at *
    generalize dW th la * (dW (th + D) la - (dW th la * CA D + dE th la * SA D)) = w2 at *
    generalize CA D * (dE th la * dE th la + dW th la * dW th la) = w3 at *
    generalize dE th la * dE (th + D) la = w4 at *
    generalize dW th la * dW (th + D) la = w5 at *
    generalize dE th la * dE th la = w6 at *
    generalize dW th la * dW th la = w7 at *
    generalize qZ la 0 * qZ la 0 = w8 at *
    grind
  · -- half way
    obtain ⟨u, hu⟩ : ∃ u, u = D / 2 := ⟨_, rfl⟩
    rw [← hu]
    obtain ⟨m, hm⟩ : ∃ m, m = th + u := ⟨_, rfl⟩
    rw [← hm]
    obtain ⟨r1, r2⟩ := rd_rot m u la
    obtain ⟨r3, r4⟩ := rd_rot m (-u) la
    rw [show m + u = th + D by grind] at r1 r2
    rw [show m + -u = th by grind] at r3 r4
    obtain ⟨n1, n2⟩ := SCA_neg u
    obtain ⟨lm1, lm2⟩ := rd_le m la
    have su := SA_1 u
    have c1 := rmul_bd (a := dE m la) (b := CA (-u) - CA u) (A := 10001 / 10000) (B := e2) lm1 (by unfold Near at n2; constructor <;> grind)
    have c2 := rmul_bd (a := dW m la) (b := SA (-u) - -SA u) (A := 10001 / 10000) (B := e2) lm2 (by unfold Near at n1; constructor <;> grind)
    have c3 := rmul_bd (a := dW m la) (b := CA (-u) - CA u) (A := 10001 / 10000) (B := e2) lm2 (by unfold Near at n2; constructor <;> grind)
    have c4 := rmul_bd (a := dE m la) (b := SA (-u) - -SA u) (A := 10001 / 10000) (B := e2) lm1 (by unfold Near at n1; constructor <;> grind)
    have E2 : 134 / 100 - 1 / 1000000 ≤ 2 * (dE m la * SA u) := by
      rw [show dW m la * (CA (-u) - CA u) = dW m la * CA (-u) - dW m la * CA u by grind] at c3
      rw [show dE m la * (SA (-u) - -SA u) = dE m la * SA (-u) + dE m la * SA u by grind] at c4
      clear c1 c2 r1 r3 n1 n2 su lm1 lm2 eb Ea la1 la2 lb1 lb2 cD
      unfold Near e2 at *
      generalize dW m la * CA (-u) = w1 at *
      generalize dW m la * CA u = w2 at *
      generalize dE m la * SA (-u) = w3 at *
      generalize dE m la * SA u = w4 at *
      grind
    have W2 : -(617 / 10000) ≤ 2 * (dW m la * SA u) ∧ 2 * (dW m la * SA u) ≤ 617 / 10000 := by
      rw [show dE m la * (CA (-u) - CA u) = dE m la * CA (-u) - dE m la * CA u by grind] at c1
      rw [show dW m la * (SA (-u) - -SA u) = dW m la * SA (-u) + dW m la * SA u by grind] at c2
      clear c3 c4 r2 r4 n1 n2 su lm1 lm2 Ea la1 la2 lb1 lb2 cD E2
      unfold Near e2 at *
      generalize dE m la * CA (-u) = w1 at *
      generalize dE m la * CA u = w2 at *
      generalize dW m la * SA (-u) = w3 at *
      generalize dW m la * SA u = w4 at *
      constructor <;> grind
    clear c1 c2 c3 c4 r1 r2 r3 r4 n1 n2 eb Ea la1 la2 lb1 lb2 cD Wa Wb
    have hu0 : 0 ≤ u := by grind
    have hu1 : u ≤ 501500000 := by grind
    have sn0 : -(1 / 100) ≤ SA u := by
      by_cases c : u ≤ 500000000
      · have := (SA_small hu0 c).1; grind
      · have l := (SA_lipD (y := 500000000) (d := u - 500000000) (D := 1500000) (by constructor <;> grind)).1
        rw [show (500000000 : Rat) + (u - 500000000) = u by grind] at l
        have z := (SA_small (h := 500000000) (by grind) (by grind)).1
        have q := qq_b9
        have r : ra 1500000 ≤ 95 / 10000 := by unfold ra; generalize qq = p at *; grind
        unfold Near at l
        grind
    have sp : 66 / 100 ≤ SA u := by
      apply Rat.not_lt.1
      intro l
      have b : -(66 / 100) ≤ SA u ∧ SA u ≤ 66 / 100 := by constructor <;> grind
      have k := rmul_bd lm1 b
      grind
    have E0 : 66 / 100 ≤ dE m la := by
      apply Rat.not_lt.1
      intro l
      by_cases c : 0 ≤ dE m la
      · have k := rmul_bd (a := dE m la) (b := SA u) (A := 66 / 100) (B := 10001 / 10000) (by constructor <;> grind) su.1
        grind
      · have k := Rat.mul_nonneg (show 0 ≤ -dE m la by grind) (show 0 ≤ SA u by grind)
        rw [show -dE m la * SA u = -(dE m la * SA u) by grind] at k
        grind
    refine ⟨⟨?_, ?_⟩, E0⟩
    · apply Rat.not_lt.1
      intro l
      have k := Rat.mul_le_mul_of_nonneg_right (show 48 / 1000 ≤ -dW m la by grind) (show 0 ≤ SA u by grind)
      rw [show -dW m la * SA u = -(dW m la * SA u) by grind] at k
      grind
    · apply Rat.not_lt.1
      intro l
      have k := Rat.mul_le_mul_of_nonneg_right (show 48 / 1000 ≤ dW m la by grind) (show 0 ≤ SA u by grind)
      grind
theorem rd_turn {D : Rat} (D0 : 0 ≤ D) (D1 : D ≤ 1003000000) (c : CA D ≤ -(4 / 100)) : 252000000 < D ∧ D < 748000000 := by
  have k : -(2 / 100) ≤ CA 252000000 := by
    have l := (SA_lipD (y := 250000000) (d := 2000000) (D := 2000000) (by constructor <;> grind)).2
    rw [show (250000000 : Rat) + 2000000 = 252000000 by grind] at l
    have q := qq_b9
    have r : ra 2000000 ≤ 1257 / 100000 := by unfold ra; generalize qq = p at *; grind
    have z := (SA_q).2
    unfold Near eq1 at *
    grind
  constructor
  · apply Rat.not_le.1
    intro l
    have f := ca_fall2 (x := D) (y := 252000000) D0 l (by grind)
    grind
  · apply Rat.not_le.1
    intro l
    by_cases h : D ≤ 1000000000
    · have f := ca_fall2 (x := 1000000000 - D) (y := 252000000) (by grind) (by grind) (by grind)
      have w := ca_whole D
      unfold Near e2 at w
      grind
    · have f := ca_fall2 (x := D - 1000000000) (y := 252000000) (by grind) (by grind) (by grind)
      have w := CA_turn (D - 1000000000) 1
      rw [show ((1 : Int) : Rat) = 1 from rfl, show D - 1000000000 + 1000000000 * 1 = D by grind] at w
      grind
end Go.Proofs.YtcopmgnfakjdhaaGreatDoor
