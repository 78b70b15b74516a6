/- RisesetMoons, plain: behind a rising there is no other one for 20 hours. -/
import Derived.Test.YtcopmgnfakjdhaaGreatDoorVMdQ
namespace Go.Proofs.YtcopmgnfakjdhaaGreatDoor
set_option linter.unusedSimpArgs false
set_option linter.unusedVariables false
theorem md_nums : (843000000 ≤ cLo 90000000 ∧ sHi 90000000 ≤ 537000000) ∧ (cHi 180000000 ≤ 426000000 ∧ cHi 164300000 ≤ 513000000) := by decide +kernel
theorem ca_lo (n : Int) : (cLo n : Rat) - 1 / 100 ≤ 1000000000 * CA (n : Rat) ∧ 1000000000 * CA (n : Rat) ≤ (cHi n : Rat) + 1 / 100 := by
  obtain ⟨y, y1, y2, y3⟩ := c_pt n
  rw [← CA_int] at y3
  unfold Near at y3
  constructor <;> grind
theorem sa_lo (n : Int) : (sLo n : Rat) - 1 / 100 ≤ 1000000000 * SA (n : Rat) ∧ 1000000000 * SA (n : Rat) ≤ (sHi n : Rat) + 1 / 100 := by
  obtain ⟨y, y1, y2, y3⟩ := s_pt n
  rw [← SA_int] at y3
  unfold Near at y3
  constructor <;> grind
theorem md_num2 : (84299 / 100000 ≤ CA 90000000 ∧ SA 90000000 ≤ 53701 / 100000) ∧ (CA 180000000 ≤ 42601 / 100000 ∧ CA 164300000 ≤ 51301 / 100000) := by
  obtain ⟨⟨a, b⟩, c, d⟩ := md_nums
  have a' := Rat.intCast_le_intCast.2 a; have b' := Rat.intCast_le_intCast.2 b; have c' := Rat.intCast_le_intCast.2 c; have d' := Rat.intCast_le_intCast.2 d
  rw [show ((843000000 : Int) : Rat) = 843000000 from rfl] at a'
  rw [show ((537000000 : Int) : Rat) = 537000000 from rfl] at b'
  rw [show ((426000000 : Int) : Rat) = 426000000 from rfl] at c'
  rw [show ((513000000 : Int) : Rat) = 513000000 from rfl] at d'
  have h1 := (ca_lo 90000000).1; have h2 := (sa_lo 90000000).2; have h3 := (ca_lo 180000000).2; have h4 := (ca_lo 164300000).2
  rw [show ((90000000 : Int) : Rat) = 90000000 from rfl] at h1 h2
  rw [show ((180000000 : Int) : Rat) = 180000000 from rfl] at h3
  rw [show ((164300000 : Int) : Rat) = 164300000 from rfl] at h4
  refine ⟨⟨?_, ?_⟩, ?_, ?_⟩ <;> grind
theorem md_soon {lat : Int} {th la be D d e : Rat} (hl : 809 / 1000 ≤ CN lat) (A : MdAt lat th la be) (S : MdStep D d e) (D0 : 1 ≤ D) (D1 : D ≤ 180000000) : upV lat th la be < upV lat (th + D) (la + d) (be + e) := by
  obtain ⟨u, hu⟩ : ∃ u, u = D / 2 := ⟨_, rfl⟩
  obtain ⟨⟨c9, s9⟩, -⟩ := md_num2
  have fc := ca_fallT (x := u) (y := 90000000) (by grind) (by grind) (by grind)
  have fs := sa_growT (x := u) (y := 90000000) (by grind) (by grind) (by grind)
  have sh := sa_half' (u := u) (by grind) (by grind)
  have rD2 : ra D = 2 * ra u := by rw [← ra_mul]; congr 1; grind
  have ru1 : 3 / 1000000000 ≤ ra u := by
    have q := qq_b9
    unfold ra
    have b := Rat.mul_le_mul_of_nonneg_left (show 1 / 2 ≤ u by grind) (show 0 ≤ qq by grind)
    generalize qq = p at *
    grind
  have su0 : 0 ≤ SA u := by grind
  have mv := md_move (la := la) (be := be) (z_up lat (th + D)) (show 0 ≤ D by grind) S
  rw [← up_z, ← up_z, rD2] at mv
  have hf := md_half (th + u) u la be
  rw [show th + u + u = th + D by grind, show th + u + -u = th by grind] at hf
  have rt := (md_rot th u la be).2
  have Aw := A.w; have Ae := A.e
  have k1 := Rat.mul_le_mul_of_nonneg_right (show 78 / 100 ≤ -mW th la be by grind) (show 0 ≤ CA u by grind)
  have k2 := Rat.mul_le_mul_of_nonneg_right Ae.2 su0
  have k3 := Rat.mul_le_mul_of_nonneg_left (show SA u ≤ 53702 / 100000 by grind) (show (0 : Rat) ≤ 371 / 1000 by grind)
  have k4 := Rat.mul_le_mul_of_nonneg_left (show 84298 / 100000 ≤ CA u by grind) (show (0 : Rat) ≤ 78 / 100 by grind)
  have Wm : mW (th + u) la be ≤ -(45 / 100) := by
    rw [show -mW th la be * CA u = -(mW th la be * CA u) by grind] at k1
    clear mv hf sh fc fs ru1 rD2
    unfold Near at rt
    generalize mW th la be * CA u = w1 at *
    generalize mE th la be * SA u = w2 at *
    grind
  have cl := (SN_1 lat).2
  have dm := rmul_bd (a := CN lat) (b := mE (th + D) la be - mE th la be - -(2 * (mW (th + u) la be * SA u))) (A := 10001 / 10000) (B := 1 / 100000000000000000000) cl (by unfold Near at hf; constructor <;> grind)
  rw [show CN lat * (mE (th + D) la be - mE th la be - -(2 * (mW (th + u) la be * SA u))) = CN lat * mE (th + D) la be - CN lat * mE th la be + 2 * (CN lat * (mW (th + u) la be * SA u)) by grind] at dm
  have g1 := Rat.mul_le_mul_of_nonneg_right (show 45 / 100 ≤ -mW (th + u) la be by grind) su0
  have g2 := Rat.mul_le_mul_of_nonneg_left g1 (show 0 ≤ CN lat by grind)
  have g3 := Rat.mul_le_mul_of_nonneg_right hl (show 0 ≤ 45 / 100 * SA u by grind)
  rw [show CN lat * (-mW (th + u) la be * SA u) = -(CN lat * (mW (th + u) la be * SA u)) by grind] at g2
  rw [up_E lat (th + D) la be] at mv
  rw [up_E lat th la be]
  clear hf rt A Aw Ae k1 k2 k3 k4 Wm cl g1 fc fs c9 s9 hu S rD2
  unfold Near at mv
  generalize upV lat (th + D) (la + d) (be + e) = U at *
  generalize CN lat * (mW (th + u) la be * SA u) = w1 at *
  generalize CN lat * mE (th + D) la be = w2 at *
  generalize CN lat * mE th la be = w3 at *
  generalize SN lat * qZ la be = w4 at *
  generalize CN lat * (45 / 100 * SA u) = w5 at *
  generalize SA u = su at *
  generalize ra u = r at *
  grind
theorem md_east {th la be D d e : Rat} (S : MdStep D d e) (D0 : 0 ≤ D) (D1 : D ≤ 900000000) (hb : -15900000 ≤ be ∧ be ≤ 15900000) (hb2 : -15900000 ≤ be + e ∧ be + e ≤ 15900000) : -(1 / 10000000000000) ≤ mW th la be * mE th (la + d) (be + e) - mE th la be * mW th (la + d) (be + e) := by
  obtain ⟨t1, t2, t3, t4⟩ := tilt_sc
  have d1 := S.d1; have d2 := S.d2; have e1 := S.e1; have e2' := S.e2
  have p := SA_pyth th
  have id : mW th la be * mE th (la + d) (be + e) - mE th la be * mW th (la + d) (be + e) = (qX la be * qY (la + d) (be + e) - qY la be * qX (la + d) (be + e)) + (qX la be * qY (la + d) (be + e) - qY la be * qX (la + d) (be + e)) * (CA th * CA th + SA th * SA th - 1) := by unfold mW mE; grind
  obtain ⟨a1, a2, -⟩ := q_le la be
  obtain ⟨b1, b2, -⟩ := q_le (la + d) (be + e)
  have x1 := rmul_bd a1 b2; have x2 := rmul_bd a2 b1
  have m := rmul_bd (a := qX la be * qY (la + d) (be + e) - qY la be * qX (la + d) (be + e)) (b := CA th * CA th + SA th * SA th - 1) (A := 3) (B := ep) (by constructor <;> grind) (by unfold Near at p; constructor <;> grind)
  have id2 : qX la be * qY (la + d) (be + e) - qY la be * qX (la + d) (be + e) = CN 65109000 * (CA be * CA (be + e)) * (CA la * SA (la + d) - SA la * CA (la + d)) - SN 65109000 * (CA la * (CA be * SA (be + e) - SA be * CA (be + e)) + SA be * CA (be + e) * (CA la - CA (la + d))) := by unfold qX qY; grind
  have sd := (SCA_add (la + d) (-la)).1
  rw [show la + d + -la = d by grind] at sd
  have se := (SCA_add (be + e) (-be)).1
  rw [show be + e + -be = e by grind] at se
  obtain ⟨n1, n2⟩ := SCA_neg la
  obtain ⟨n3, n4⟩ := SCA_neg be
  have l1 := SA_1 la; have l2 := SA_1 (la + d); have g1 := SA_1 be; have g2 := SA_1 (be + e)
  have y1 := rmul_bd (a := SA (la + d)) (b := CA (-la) - CA la) (A := 10001 / 10000) (B := e2) l2.1 (by unfold Near at n2; constructor <;> grind)
  have y2 := rmul_bd (a := CA (la + d)) (b := SA (-la) - -SA la) (A := 10001 / 10000) (B := e2) l2.2 (by unfold Near at n1; constructor <;> grind)
  have y3 := rmul_bd (a := SA (be + e)) (b := CA (-be) - CA be) (A := 10001 / 10000) (B := e2) g2.1 (by unfold Near at n4; constructor <;> grind)
  have y4 := rmul_bd (a := CA (be + e)) (b := SA (-be) - -SA be) (A := 10001 / 10000) (B := e2) g2.2 (by unfold Near at n3; constructor <;> grind)
  have hd : Near (CA la * SA (la + d) - SA la * CA (la + d)) (SA d) (1 / 1000000000000000000000000) := by
    rw [show SA (la + d) * (CA (-la) - CA la) = SA (la + d) * CA (-la) - CA la * SA (la + d) by grind] at y1
    rw [show CA (la + d) * (SA (-la) - -SA la) = CA (la + d) * SA (-la) + SA la * CA (la + d) by grind] at y2
    clear id id2 m x1 x2 a1 a2 b1 b2 n1 n2 n3 n4 y3 y4 se p
    unfold Near e2 at *
    generalize SA (la + d) * CA (-la) = w1 at *
    generalize CA la * SA (la + d) = w2 at *
    generalize CA (la + d) * SA (-la) = w3 at *
    generalize SA la * CA (la + d) = w4 at *
    constructor <;> grind
  have he : Near (CA be * SA (be + e) - SA be * CA (be + e)) (SA e) (1 / 1000000000000000000000000) := by
    rw [show SA (be + e) * (CA (-be) - CA be) = SA (be + e) * CA (-be) - CA be * SA (be + e) by grind] at y3
    rw [show CA (be + e) * (SA (-be) - -SA be) = CA (be + e) * SA (-be) + SA be * CA (be + e) by grind] at y4
    clear id id2 m x1 x2 a1 a2 b1 b2 n1 n2 n3 n4 y1 y2 sd p hd
    unfold Near e2 at *
    generalize SA (be + e) * CA (-be) = w1 at *
    generalize CA be * SA (be + e) = w2 at *
    generalize CA (be + e) * SA (-be) = w3 at *
    generalize SA be * CA (be + e) = w4 at *
    constructor <;> grind
  clear sd se n1 n2 n3 n4 y1 y2 y3 y4
  have r0 := ra_pos D0
  have sh := sa_half' (u := d) (by grind) (by grind)
  have rd : 30 / 1000 * ra D ≤ ra d := by rw [← ra_mul]; exact ra_mono d1
  have rd2 : ra d ≤ 43 / 1000 * ra D := by rw [← ra_mul]; exact ra_mono d2
  have le := (SA_lipD (y := 0) (d := e) (D := 4 / 1000 * D) ⟨by grind, by grind⟩).1
  rw [show (0 : Rat) + e = e by grind, SA_0, ra_mul] at le
  have lc := (SA_lipD (y := la) (d := d) (D := 43 / 1000 * D) ⟨by grind, by grind⟩).2
  rw [ra_mul] at lc
  have sb := sb_smallR hb
  have cc : ∀ x : Rat, -15900000 ≤ x ∧ x ≤ 15900000 → 99 / 100 ≤ CA x := fun x hx => by
    have s := sb_smallR hx
    have p := SA_pyth x
    have s2 := sq_le s
    have c0 := ca_pos (x := x) (by grind) (by grind)
    apply Rat.not_lt.1
    intro l
    have b2 : -(99 / 100) ≤ CA x ∧ CA x ≤ 99 / 100 := by constructor <;> grind
    have m := sq_le b2
    unfold Near ep at p
    grind
  have cb := cc be hb; have cb2 := cc (be + e) hb2
  have kc := Rat.mul_le_mul_of_nonneg_left cb2 (show 0 ≤ CA be by grind)
  have kc2 := Rat.mul_le_mul_of_nonneg_right cb (show (0 : Rat) ≤ 99 / 100 by grind)
  have kd := Rat.mul_le_mul_of_nonneg_left (show 98 / 100 ≤ CA be * CA (be + e) by grind) (show 0 ≤ CN 65109000 by grind)
  have kp : 89 / 100 ≤ CN 65109000 * (CA be * CA (be + e)) := by grind
  have kq : CN 65109000 * (CA be * CA (be + e)) ≤ 2 := by
    have k := rmul_bd g1.2 g2.2
    have k' := rmul_bd (a := CN 65109000) (b := CA be * CA (be + e)) (A := 1) (B := 2) (by constructor <;> grind) (by constructor <;> grind)
    grind
  have f1 := Rat.mul_le_mul_of_nonneg_right kp (show 0 ≤ ra d / 2 by grind)
  have f2 := rmul_bd (a := CN 65109000 * (CA be * CA (be + e))) (b := CA la * SA (la + d) - SA la * CA (la + d) - SA d) (A := 2) (B := 1 / 1000000000000000000000000) (by constructor <;> grind) (by unfold Near at hd; constructor <;> grind)
  have f3 := Rat.mul_le_mul_of_nonneg_left (show ra d / 2 - 1 / 100000000000000000000000 ≤ SA d from sh) (show 0 ≤ CN 65109000 * (CA be * CA (be + e)) by grind)
  have f4 := Rat.mul_le_mul_of_nonneg_left kq (show (0 : Rat) ≤ 1 / 100000000000000000000000 by grind)
  have v1 := rmul_bd (a := CA la) (b := CA be * SA (be + e) - SA be * CA (be + e)) (A := 10001 / 10000) (B := 4 / 1000 * ra D + 2 / 100000000000000000000) l1.2 (by unfold Near at he le; constructor <;> grind)
  have v2 := rmul_bd (a := SA be) (b := CA (be + e)) (A := 1 / 10) (B := 10001 / 10000) sb g2.2
  have v3 := rmul_bd (a := SA be * CA (be + e)) (b := CA la - CA (la + d)) (A := 1001 / 10000) (B := 43 / 1000 * ra D + 1 / 100000000000000000000) (by constructor <;> grind) (by unfold Near at lc; constructor <;> grind)
  have v4 := rmul_bd (a := SN 65109000) (b := CA la * (CA be * SA (be + e) - SA be * CA (be + e)) + SA be * CA (be + e) * (CA la - CA (la + d))) (A := 4 / 10) (B := 9 / 1000 * ra D + 1 / 1000000000000000000) (by constructor <;> grind) (by constructor <;> grind)
  rw [id, id2]
  rw [id2] at m
  clear id id2 hd he le lc sb cb cb2 kc kc2 kd a1 a2 b1 b2 x1 x2 v1 v2 v3 cc l1 l2 g1 g2 p t1 t2 t3 t4 S
  rw [show CN 65109000 * (CA be * CA (be + e)) * (CA la * SA (la + d) - SA la * CA (la + d) - SA d) = CN 65109000 * (CA be * CA (be + e)) * (CA la * SA (la + d) - SA la * CA (la + d)) - CN 65109000 * (CA be * CA (be + e)) * SA d by grind] at f2
  rw [show CN 65109000 * (CA be * CA (be + e)) * (ra d / 2 - 1 / 100000000000000000000000) = CN 65109000 * (CA be * CA (be + e)) * (ra d / 2) - 1 / 100000000000000000000000 * (CN 65109000 * (CA be * CA (be + e))) by grind] at f3
  generalize CN 65109000 * (CA be * CA (be + e)) * (CA la * SA (la + d) - SA la * CA (la + d)) = w1 at *
  generalize SN 65109000 * (CA la * (CA be * SA (be + e) - SA be * CA (be + e)) + SA be * CA (be + e) * (CA la - CA (la + d))) = w2 at *
  generalize (w1 - w2) * (CA th * CA th + SA th * SA th - 1) = w3 at *
  generalize CN 65109000 * (CA be * CA (be + e)) * SA d = w4 at *
  generalize CN 65109000 * (CA be * CA (be + e)) * (ra d / 2) = w5 at *
  generalize CN 65109000 * (CA be * CA (be + e)) = w6 at *
  generalize ra D = R at *
  generalize ra d = r at *
  unfold ep at m
  clear kq kp
  grind
end Go.Proofs.YtcopmgnfakjdhaaGreatDoor
