/- RisesetDays, plain: the sun's height as a function of its longitude and of the sidereal angle; how it moves. -/
import Derived.Test.YtcopmgnfakjdhaaGreatDoorWPsP
namespace Go.Proofs.YtcopmgnfakjdhaaGreatDoor
set_option linter.unusedSimpArgs false
set_option linter.unusedVariables false
def dE (th la : Rat) : Rat := CA th * qX la 0 + SA th * qY la 0
def dW (th la : Rat) : Rat := SA th * qX la 0 - CA th * qY la 0
theorem rd_q (la : Rat) : qX la 0 = CA la ∧ qY la 0 = SA la * CN 65109000 ∧ qZ la 0 = SA la * SN 65109000 := by
  unfold qX qY qZ
  rw [SA_0, CA_0]
  refine ⟨?_, ?_, ?_⟩ <;> grind
theorem rd_H (lat : Int) (th la : Rat) : upV lat th la 0 = SN lat * qZ la 0 + CN lat * dE th la := by unfold upV dE; rfl
theorem rd_unit (th la : Rat) : Near (dE th la * dE th la + dW th la * dW th la + qZ la 0 * qZ la 0) 1 (1 / 1000000000000000000000000) := by
  have u := q_unit la 0
  have p := SA_pyth th
  have id : dE th la * dE th la + dW th la * dW th la = (qX la 0 * qX la 0 + qY la 0 * qY la 0) + (qX la 0 * qX la 0 + qY la 0 * qY la 0) * (CA th * CA th + SA th * SA th - 1) := by unfold dE dW; grind
  rw [id]
  have xx := sq_nonneg (qX la 0); have yy := sq_nonneg (qY la 0); have zz := sq_nonneg (qZ la 0)
  have m := rmul_bd (a := qX la 0 * qX la 0 + qY la 0 * qY la 0) (b := CA th * CA th + SA th * SA th - 1) (A := 2) (B := ep) (by unfold Near at u; constructor <;> grind) (by unfold Near at p; constructor <;> grind)
  clear id p
  unfold Near ep at *
  generalize (qX la 0 * qX la 0 + qY la 0 * qY la 0) * (CA th * CA th + SA th * SA th - 1) = w at *
  constructor <;> grind
theorem rd_le (th la : Rat) : (-(10001 / 10000) ≤ dE th la ∧ dE th la ≤ 10001 / 10000) ∧ (-(10001 / 10000) ≤ dW th la ∧ dW th la ≤ 10001 / 10000) := by
  have u := rd_unit th la
  have a := sq_nonneg (dE th la); have b := sq_nonneg (dW th la); have c := sq_nonneg (qZ la 0)
  exact ⟨ps_sq (by unfold Near at u; grind), ps_sq (by unfold Near at u; grind)⟩
theorem rd_rot (th D la : Rat) : Near (dE (th + D) la) (dE th la * CA D - dW th la * SA D) (1 / 1000000000000000000000) ∧ Near (dW (th + D) la) (dW th la * CA D + dE th la * SA D) (1 / 1000000000000000000000) := by
  obtain ⟨a, b⟩ := SCA_add th D
  obtain ⟨x, y, -⟩ := q_le la 0
  have m1 := rmul_bd (a := SA (th + D) - (SA th * CA D + CA th * SA D)) (b := qY la 0) (A := e2) (B := 10001 / 10000) (by unfold Near at a; constructor <;> grind) y
  have m2 := rmul_bd (a := CA (th + D) - (CA th * CA D - SA th * SA D)) (b := qX la 0) (A := e2) (B := 10001 / 10000) (by unfold Near at b; constructor <;> grind) x
  have m3 := rmul_bd (a := SA (th + D) - (SA th * CA D + CA th * SA D)) (b := qX la 0) (A := e2) (B := 10001 / 10000) (by unfold Near at a; constructor <;> grind) x
  have m4 := rmul_bd (a := CA (th + D) - (CA th * CA D - SA th * SA D)) (b := qY la 0) (A := e2) (B := 10001 / 10000) (by unfold Near at b; constructor <;> grind) y
  have i1 : dE (th + D) la - (dE th la * CA D - dW th la * SA D) = (CA (th + D) - (CA th * CA D - SA th * SA D)) * qX la 0 + (SA (th + D) - (SA th * CA D + CA th * SA D)) * qY la 0 := by unfold dE dW; grind
  have i2 : dW (th + D) la - (dW th la * CA D + dE th la * SA D) = (SA (th + D) - (SA th * CA D + CA th * SA D)) * qX la 0 - (CA (th + D) - (CA th * CA D - SA th * SA D)) * qY la 0 := by unfold dE dW; grind
  clear a b x y
  generalize (CA (th + D) - (CA th * CA D - SA th * SA D)) * qX la 0 = w1 at *
  generalize (SA (th + D) - (SA th * CA D + CA th * SA D)) * qY la 0 = w2 at *
  generalize (SA (th + D) - (SA th * CA D + CA th * SA D)) * qX la 0 = w3 at *
  generalize (CA (th + D) - (CA th * CA D - SA th * SA D)) * qY la 0 = w4 at *
  generalize dE th la * CA D - dW th la * SA D = w5 at *
  generalize dW th la * CA D + dE th la * SA D = w6 at *
  unfold Near e2 at *
  constructor <;> constructor <;> grind
theorem rd_mv {th la d D : Rat} (hd : -D ≤ d / 2 ∧ d / 2 ≤ D) : Near (dE th (la + d)) (dE th la) (2001 / 1000 * (ra D + 1 / 100000000000000)) ∧ Near (dW th (la + d)) (dW th la) (2001 / 1000 * (ra D + 1 / 100000000000000)) ∧ Near (qZ (la + d) 0) (qZ la 0) (2001 / 1000 * (ra D + 1 / 100000000000000)) := by
  obtain ⟨x1, y1, z1⟩ := rd_q la
  obtain ⟨x2, y2, z2⟩ := rd_q (la + d)
  have p := SA_pyth th; have q := SN_pyth 65109000
  obtain ⟨t1, t2, t3, t4⟩ := tilt_sc
  have ss := sq_nonneg (SA th); have cc := sq_nonneg (CA th)
  have C2 : CN 65109000 * CN 65109000 ≤ 1 := by
    have := rmul_bd (a := CN 65109000) (b := CN 65109000) (A := 1) (B := 1) (by constructor <;> grind) (by constructor <;> grind)
    grind
  have S2 : SN 65109000 * SN 65109000 ≤ 1 := by
    have := rmul_bd (a := SN 65109000) (b := SN 65109000) (A := 1) (B := 1) (by constructor <;> grind) (by constructor <;> grind)
    grind
  have m1 := Rat.mul_le_mul_of_nonneg_right C2 ss
  have m2 := Rat.mul_le_mul_of_nonneg_right C2 cc
  have n1 : CA th * CA th + CN 65109000 * SA th * (CN 65109000 * SA th) ≤ 10001 / 10000 := by
    rw [show CN 65109000 * SA th * (CN 65109000 * SA th) = CN 65109000 * CN 65109000 * (SA th * SA th) by grind]
    unfold Near ep at p
    grind
  have n2 : SA th * SA th + -(CN 65109000 * CA th) * -(CN 65109000 * CA th) ≤ 10001 / 10000 := by
    rw [show -(CN 65109000 * CA th) * -(CN 65109000 * CA th) = CN 65109000 * CN 65109000 * (CA th * CA th) by grind]
    unfold Near ep at p
    grind
  have r1 := ps_rot (y := la) (p := CA th) (q := CN 65109000 * SA th) hd n1
  have r2 := ps_rot (y := la) (p := SA th) (q := -(CN 65109000 * CA th)) hd n2
  have r3 := ps_rot (y := la) (p := 0) (q := SN 65109000) hd (by grind)
  refine ⟨?_, ?_, ?_⟩
  · unfold dE
    rw [x1, y1, x2, y2]
    rw [show CA th * CA (la + d) + SA th * (SA (la + d) * CN 65109000) = CA (la + d) * CA th + SA (la + d) * (CN 65109000 * SA th) by grind, show CA th * CA la + SA th * (SA la * CN 65109000) = CA la * CA th + SA la * (CN 65109000 * SA th) by grind]
    exact r1
  · unfold dW
    rw [x1, y1, x2, y2]
    rw [show SA th * CA (la + d) - CA th * (SA (la + d) * CN 65109000) = CA (la + d) * SA th + SA (la + d) * -(CN 65109000 * CA th) by grind, show SA th * CA la - CA th * (SA la * CN 65109000) = CA la * SA th + SA la * -(CN 65109000 * CA th) by grind]
    exact r2
  · rw [z1, z2]
    rw [show SA (la + d) * SN 65109000 = CA (la + d) * 0 + SA (la + d) * SN 65109000 by grind, show SA la * SN 65109000 = CA la * 0 + SA la * SN 65109000 by grind]
    exact r3
theorem rd_mvH {lat : Int} {th la d D : Rat} (hd : -D ≤ d / 2 ∧ d / 2 ≤ D) : Near (upV lat th (la + d) 0) (upV lat th la 0) (2001 / 1000 * (ra D + 1 / 100000000000000)) := by
  obtain ⟨x1, y1, z1⟩ := rd_q la
  obtain ⟨x2, y2, z2⟩ := rd_q (la + d)
  have p := SA_pyth th; have q := SN_pyth 65109000; have r := SN_pyth lat
  have bC := SN_1 lat; have bS := SA_1 th; have bT := SN_1 65109000
  obtain ⟨s, hs⟩ : ∃ s, s = SN lat := ⟨_, rfl⟩
  obtain ⟨c, hc⟩ : ∃ s, s = CN lat := ⟨_, rfl⟩
  obtain ⟨S, hS⟩ : ∃ s, s = SN 65109000 := ⟨_, rfl⟩
  obtain ⟨C, hC⟩ : ∃ s, s = CN 65109000 := ⟨_, rfl⟩
  obtain ⟨st, hst⟩ : ∃ s, s = SA th := ⟨_, rfl⟩
  obtain ⟨ct, hct⟩ : ∃ s, s = CA th := ⟨_, rfl⟩
  unfold upV
  rw [x1, y1, z1, x2, y2, z2]
  rw [← hs, ← hc] at r bC
  rw [← hS, ← hC] at q bT
  rw [← hst, ← hct] at p bS
  rw [← hs, ← hc, ← hS, ← hC, ← hst, ← hct]
  have id : c * ct * (c * ct) + (s * S + c * (C * st)) * (s * S + c * (C * st)) + (s * C - c * (S * st)) * (s * C - c * (S * st)) = 1 + c * c * (ct * ct + st * st - 1) + (s * s + c * c * (st * st)) * (C * C + S * S - 1) + (c * c + s * s - 1) := by grind
  have k1 := rmul_bd bC.2 bC.2
  have k2 := rmul_bd bC.1 bC.1
  have k3 := rmul_bd bS.1 bS.1
  have k4 := rmul_bd (a := c * c) (b := st * st) (A := 2) (B := 2) (by constructor <;> grind) (by constructor <;> grind)
  have m1 := rmul_bd (a := c * c) (b := ct * ct + st * st - 1) (A := 2) (B := ep) (by constructor <;> grind) (by unfold Near at p; constructor <;> grind)
  have m2 := rmul_bd (a := s * s + c * c * (st * st)) (b := C * C + S * S - 1) (A := 10) (B := ep) (by constructor <;> grind) (by unfold Near at q; constructor <;> grind)
  have e3 := sq_nonneg (s * C - c * (S * st))
  have n : c * ct * (c * ct) + (s * S + c * (C * st)) * (s * S + c * (C * st)) ≤ 10001 / 10000 := by
    clear k1 k2 k3 k4 x1 y1 z1 x2 y2 z2 p q hs hc hS hC hst hct bC bS bT
    unfold Near ep at *
    generalize c * c * (ct * ct + st * st - 1) = w1 at *
    generalize (s * s + c * c * (st * st)) * (C * C + S * S - 1) = w2 at *
    generalize (s * C - c * (S * st)) * (s * C - c * (S * st)) = w3 at *
    generalize c * ct * (c * ct) + (s * S + c * (C * st)) * (s * S + c * (C * st)) = w4 at *
    generalize c * c + s * s = w5 at *
    grind
  have R := ps_rot (y := la) (p := c * ct) (q := s * S + c * (C * st)) hd n
  rw [show s * (SA (la + d) * S) + c * (ct * CA (la + d) + st * (SA (la + d) * C)) = CA (la + d) * (c * ct) + SA (la + d) * (s * S + c * (C * st)) by grind, show s * (SA la * S) + c * (ct * CA la + st * (SA la * C)) = CA la * (c * ct) + SA la * (s * S + c * (C * st)) by grind]
  exact R
theorem rd_mvT {th la d D : Rat} (hd : -D ≤ d / 2 ∧ d / 2 ≤ D) : Near (dE (th + d) la) (dE th la) (2001 / 1000 * (ra D + 1 / 100000000000000)) ∧ Near (dW (th + d) la) (dW th la) (2001 / 1000 * (ra D + 1 / 100000000000000)) := by
  have u := q_unit la 0
  have xx := sq_nonneg (qX la 0); have yy := sq_nonneg (qY la 0); have zz := sq_nonneg (qZ la 0)
  have r1 := ps_rot (y := th) (p := qX la 0) (q := qY la 0) hd (by unfold Near at u; grind)
  have r2 := ps_rot (y := th) (p := -qY la 0) (q := qX la 0) hd (by unfold Near at u; rw [show -qY la 0 * -qY la 0 = qY la 0 * qY la 0 by grind]; grind)
  refine ⟨r1, ?_⟩
  unfold dW
  rw [show SA (th + d) * qX la 0 - CA (th + d) * qY la 0 = CA (th + d) * -qY la 0 + SA (th + d) * qX la 0 by grind, show SA th * qX la 0 - CA th * qY la 0 = CA th * -qY la 0 + SA th * qX la 0 by grind]
  exact r2
theorem sa_half' {u : Rat} (h0 : 0 ≤ u) (h1 : u ≤ 200000000) : ra u / 2 - 1 / 100000000000000000000000 ≤ SA u := by
  have n := SA_rad (x := u) (by grind) (by grind)
  have q := qq_b9
  have e : ka * u = ra u := by unfold ka ra; grind
  rw [e] at n
  have r := ra_bd h0 (by grind)
  have r2 : ra u ≤ 8 / 5 := by
    unfold ra at *
    have m := Rat.mul_le_mul_of_nonneg_right h1 (show 0 ≤ qq by grind)
    generalize qq = p at *
    grind
  have s := sn_half r.1 r2
  unfold Near at n
  grind
theorem rd_cross {s D d th la : Rat} {lat : Int} (hs : s = 1 ∨ s = -1) (hl : 58 / 100 ≤ CN lat) (D0 : 1 ≤ D) (D1 : D ≤ 1400000) (d0 : 0 ≤ d) (d1 : d ≤ 3 / 1000 * D) (h : 0 < s * (upV lat (th + D) (la + d) 0 - upV lat th la 0)) : s * dW (th + D / 2) la ≤ 2 / 100 := by
  have mv := rd_mvH (lat := lat) (th := th + D) (la := la) (d := d) (D := d / 2) (by constructor <;> grind)
  obtain ⟨m, hm⟩ : ∃ m, m = th + D / 2 := ⟨_, rfl⟩
  obtain ⟨u, hu⟩ : ∃ u, u = D / 2 := ⟨_, rfl⟩
  have r1 := (rd_rot m u la).1
  have r2 := (rd_rot m (-u) la).1
  rw [show m + u = th + D by grind] at r1
  rw [show m + -u = th by grind] at r2
  rw [← hm]
  obtain ⟨n1, n2⟩ := SCA_neg u
  have bb := rd_le m la
  have c1 := rmul_bd (a := dE m la) (b := CA (-u) - CA u) (A := 10001 / 10000) (B := e2) bb.1 (by unfold Near at n2; constructor <;> grind)
  have c2 := rmul_bd (a := dW m la) (b := SA (-u) - -SA u) (A := 10001 / 10000) (B := e2) bb.2 (by unfold Near at n1; constructor <;> grind)
  have sh := sa_half' (u := u) (by grind) (by grind)
  have ru : 0 ≤ ra (d / 2) ∧ ra (d / 2) ≤ 3 / 1000 * ra u := by
    have q := qq_b9
    unfold ra
    have a := Rat.mul_le_mul_of_nonneg_left (show d / 2 ≤ 3 / 1000 * u by grind) (show 0 ≤ qq by grind)
    have b := Rat.mul_nonneg (show 0 ≤ qq by grind) (show 0 ≤ d / 2 by grind)
    generalize qq = p at *
    constructor <;> grind
  have ru1 : 3 / 1000000000 ≤ ra u := by
    have q := qq_b9
    unfold ra
    have b := Rat.mul_le_mul_of_nonneg_left (show 1 / 2 ≤ u by grind) (show 0 ≤ qq by grind)
    generalize qq = p at *
    grind
  rw [rd_H lat th la] at h
  rw [rd_H lat (th + D) la] at mv
  have dd : Near (dE (th + D) la - dE th la) (-(2 * (dW m la * SA u))) (1 / 100000000000000000000) := by
    rw [show dE m la * (CA (-u) - CA u) = dE m la * CA (-u) - dE m la * CA u by grind] at c1
    rw [show dW m la * (SA (-u) - -SA u) = dW m la * SA (-u) + dW m la * SA u by grind] at c2
    clear mv n1 n2 sh ru ru1 bb h
    unfold Near e2 at *
    generalize dE m la * CA (-u) = w1 at *
    generalize dE m la * CA u = w2 at *
    generalize dW m la * SA (-u) = w3 at *
    generalize dW m la * SA u = w4 at *
    constructor <;> grind
  have cl := (SN_1 lat).2
  have dm := rmul_bd (a := CN lat) (b := dE (th + D) la - dE th la - -(2 * (dW m la * SA u))) (A := 10001 / 10000) (B := 1 / 100000000000000000000) cl (by unfold Near at dd; constructor <;> grind)
  apply Rat.not_lt.1
  intro l
  have su0 : 0 ≤ SA u := by grind
  have g1 := Rat.mul_le_mul_of_nonneg_right (Rat.le_of_lt l) su0
  have g2 := Rat.mul_le_mul_of_nonneg_left g1 (show 0 ≤ CN lat by grind)
  have g3 := Rat.mul_le_mul_of_nonneg_right hl (show 0 ≤ 2 / 100 * SA u by grind)
  rw [show CN lat * (dE (th + D) la - dE th la - -(2 * (dW m la * SA u))) = CN lat * dE (th + D) la - CN lat * dE th la + 2 * (CN lat * (dW m la * SA u)) by grind] at dm
  rw [show CN lat * (s * dW m la * SA u) = s * (CN lat * (dW m la * SA u)) by grind] at g2
  clear r1 r2 n1 n2 c1 c2 dd bb cl g1 hm hu
  unfold Near at mv
  generalize upV lat (th + D) (la + d) 0 = U at *
  generalize CN lat * (dW m la * SA u) = w1 at *
  generalize CN lat * dE (th + D) la = w2 at *
  generalize CN lat * dE th la = w3 at *
  generalize SN lat * qZ la 0 = w4 at *
  generalize CN lat * (2 / 100 * SA u) = w5 at *
  generalize SA u = su at *
  generalize ra (d / 2) = rd at *
  generalize ra u = r at *
  rcases hs with rfl | rfl
  · grind
  · grind
end Go.Proofs.YtcopmgnfakjdhaaGreatDoor
