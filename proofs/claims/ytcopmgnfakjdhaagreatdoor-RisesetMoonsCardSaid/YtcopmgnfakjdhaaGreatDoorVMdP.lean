/- RisesetMoons, plain: how a part of a direction moves with its longitude, latitude and with the earth's turn. -/
import Derived.Test.YtcopmgnfakjdhaaGreatDoorVRdP
namespace Go.Proofs.YtcopmgnfakjdhaaGreatDoor
set_option linter.unusedSimpArgs false
set_option linter.unusedVariables false
def zL (x y z la be : Rat) : Rat := x * qX la be + y * qY la be + z * qZ la be
theorem zL_ecl (x y z la be : Rat) : zL x y z la be = CA be * (x * CA la + (y * CN 65109000 + z * SN 65109000) * SA la) + SA be * (z * CN 65109000 - y * SN 65109000) := by
  unfold zL qX qY qZ; grind
theorem ecl_unit {x y z : Rat} (h : x * x + y * y + z * z ≤ 100001 / 100000) : x * x + (y * CN 65109000 + z * SN 65109000) * (y * CN 65109000 + z * SN 65109000) + (z * CN 65109000 - y * SN 65109000) * (z * CN 65109000 - y * SN 65109000) ≤ 100002 / 100000 := by
  have q := SN_pyth 65109000
  have xx := sq_nonneg x; have yy := sq_nonneg y; have zz := sq_nonneg z
  have m := rmul_bd (a := y * y + z * z) (b := CN 65109000 * CN 65109000 + SN 65109000 * SN 65109000 - 1) (A := 2) (B := ep) (by constructor <;> grind) (by unfold Near at q; constructor <;> grind)
  have id : (y * CN 65109000 + z * SN 65109000) * (y * CN 65109000 + z * SN 65109000) + (z * CN 65109000 - y * SN 65109000) * (z * CN 65109000 - y * SN 65109000) = (y * y + z * z) + (y * y + z * z) * (CN 65109000 * CN 65109000 + SN 65109000 * SN 65109000 - 1) := by grind
  clear q
  unfold ep at m
  generalize (y * y + z * z) * (CN 65109000 * CN 65109000 + SN 65109000 * SN 65109000 - 1) = w at *
  grind
theorem zL_mvL {x y z la be d D : Rat} (h : x * x + y * y + z * z ≤ 100001 / 100000) (hd : -D ≤ d / 2 ∧ d / 2 ≤ D) : Near (zL x y z (la + d) be) (zL x y z la be) (2001 / 1000 * (ra D + 1 / 100000000000000)) := by
  have u := ecl_unit h
  rw [zL_ecl, zL_ecl]
  obtain ⟨e, he⟩ : ∃ e, e = y * CN 65109000 + z * SN 65109000 := ⟨_, rfl⟩
  obtain ⟨f, hf⟩ : ∃ e, e = z * CN 65109000 - y * SN 65109000 := ⟨_, rfl⟩
  rw [← he, ← hf] at u ⊢
  have p := SA_pyth be
  have ss := sq_nonneg (SA be); have xx := sq_nonneg x; have ee := sq_nonneg e; have ff := sq_nonneg f
  have c1 : CA be * CA be ≤ 1 + ep := by unfold Near at p; grind
  have m1 := Rat.mul_le_mul_of_nonneg_right c1 (show 0 ≤ x * x + e * e by grind)
  have n : CA be * x * (CA be * x) + CA be * e * (CA be * e) ≤ 10001 / 10000 := by
    rw [show CA be * x * (CA be * x) + CA be * e * (CA be * e) = CA be * CA be * (x * x + e * e) by grind]
    have k : (1 + ep) * (x * x + e * e) ≤ 10001 / 10000 := by unfold ep; grind
    exact Rat.le_trans m1 k
  have r := ps_rot (y := la) (p := CA be * x) (q := CA be * e) hd n
  clear he hf u p m1 n
  rw [show CA be * (x * CA (la + d) + e * SA (la + d)) + SA be * f = CA (la + d) * (CA be * x) + SA (la + d) * (CA be * e) + SA be * f by grind, show CA be * (x * CA la + e * SA la) + SA be * f = CA la * (CA be * x) + SA la * (CA be * e) + SA be * f by grind]
  unfold Near at *
  generalize CA (la + d) * (CA be * x) + SA (la + d) * (CA be * e) = w1 at *
  generalize CA la * (CA be * x) + SA la * (CA be * e) = w2 at *
  generalize SA be * f = w3 at *
  constructor <;> grind
theorem zL_mvB {x y z la be d D : Rat} (h : x * x + y * y + z * z ≤ 100001 / 100000) (hd : -D ≤ d / 2 ∧ d / 2 ≤ D) : Near (zL x y z la (be + d)) (zL x y z la be) (2001 / 1000 * (ra D + 1 / 100000000000000)) := by
  have u := ecl_unit h
  rw [zL_ecl, zL_ecl]
  obtain ⟨e, he⟩ : ∃ e, e = y * CN 65109000 + z * SN 65109000 := ⟨_, rfl⟩
  obtain ⟨f, hf⟩ : ∃ e, e = z * CN 65109000 - y * SN 65109000 := ⟨_, rfl⟩
  rw [← he, ← hf] at u ⊢
  have p := SA_pyth la
  have xx := sq_nonneg x; have ee := sq_nonneg e; have ff := sq_nonneg f
  have w := sq_nonneg (x * SA la - e * CA la)
  have id : (x * CA la + e * SA la) * (x * CA la + e * SA la) + (x * SA la - e * CA la) * (x * SA la - e * CA la) = (x * x + e * e) + (x * x + e * e) * (CA la * CA la + SA la * SA la - 1) := by grind
  have m := rmul_bd (a := x * x + e * e) (b := CA la * CA la + SA la * SA la - 1) (A := 2) (B := ep) (by constructor <;> grind) (by unfold Near at p; constructor <;> grind)
  have n : (x * CA la + e * SA la) * (x * CA la + e * SA la) + f * f ≤ 10001 / 10000 := by
    clear he hf p
    unfold ep at m
    generalize (x * x + e * e) * (CA la * CA la + SA la * SA la - 1) = w1 at *
    generalize (x * CA la + e * SA la) * (x * CA la + e * SA la) = w2 at *
    grind
  exact ps_rot (y := be) (p := x * CA la + e * SA la) (q := f) hd n
theorem zL_mv {x y z la be d e D E : Rat} (h : x * x + y * y + z * z ≤ 100001 / 100000) (hd : -D ≤ d / 2 ∧ d / 2 ≤ D) (he : -E ≤ e / 2 ∧ e / 2 ≤ E) : Near (zL x y z (la + d) (be + e)) (zL x y z la be) (2001 / 1000 * (ra D + ra E + 1 / 10000000000000)) := by
  have a := zL_mvL (la := la) (be := be + e) h hd
  have b := zL_mvB (la := la) (be := be) h he
  unfold Near at *
  generalize ra D = r1 at *
  generalize ra E = r2 at *
  constructor <;> grind
def mE (th la be : Rat) : Rat := CA th * qX la be + SA th * qY la be
def mW (th la be : Rat) : Rat := SA th * qX la be - CA th * qY la be
theorem mE_z (th la be : Rat) : mE th la be = zL (CA th) (SA th) 0 la be := by unfold mE zL; grind
theorem mW_z (th la be : Rat) : mW th la be = zL (SA th) (-CA th) 0 la be := by unfold mW zL; grind
theorem qZ_z (la be : Rat) : qZ la be = zL 0 0 1 la be := by unfold zL; grind
theorem up_z (lat : Int) (th la be : Rat) : upV lat th la be = zL (CN lat * CA th) (CN lat * SA th) (SN lat) la be := by unfold upV zL; grind
theorem up_E (lat : Int) (th la be : Rat) : upV lat th la be = SN lat * qZ la be + CN lat * mE th la be := by unfold upV mE; rfl
theorem z_one (th : Rat) : CA th * CA th + SA th * SA th + 0 * 0 ≤ 100001 / 100000 ∧ SA th * SA th + -CA th * -CA th + 0 * 0 ≤ 100001 / 100000 := by
  have p := SA_pyth th
  unfold Near ep at p
  rw [show -CA th * -CA th = CA th * CA th by grind]
  constructor <;> grind
theorem z_up (lat : Int) (th : Rat) : CN lat * CA th * (CN lat * CA th) + CN lat * SA th * (CN lat * SA th) + SN lat * SN lat ≤ 100001 / 100000 := by
  have p := SA_pyth th; have q := SN_pyth lat
  have b := SN_1 lat
  have cc := rmul_bd b.2 b.2
  have m := rmul_bd (a := CN lat * CN lat) (b := CA th * CA th + SA th * SA th - 1) (A := 2) (B := ep) (by constructor <;> grind) (by unfold Near at p; constructor <;> grind)
  rw [show CN lat * CA th * (CN lat * CA th) + CN lat * SA th * (CN lat * SA th) = CN lat * CN lat + CN lat * CN lat * (CA th * CA th + SA th * SA th - 1) by grind]
  unfold Near ep at *
  generalize CN lat * CN lat * (CA th * CA th + SA th * SA th - 1) = w at *
  grind
theorem md_unit (th la be : Rat) : Near (mE th la be * mE th la be + mW th la be * mW th la be + qZ la be * qZ la be) 1 (1 / 1000000000000000000000000) := by
  have u := q_unit la be
  have p := SA_pyth th
  have id : mE th la be * mE th la be + mW th la be * mW th la be = (qX la be * qX la be + qY la be * qY la be) + (qX la be * qX la be + qY la be * qY la be) * (CA th * CA th + SA th * SA th - 1) := by unfold mE mW; grind
  rw [id]
  have xx := sq_nonneg (qX la be); have yy := sq_nonneg (qY la be); have zz := sq_nonneg (qZ la be)
  have m := rmul_bd (a := qX la be * qX la be + qY la be * qY la be) (b := CA th * CA th + SA th * SA th - 1) (A := 2) (B := ep) (by unfold Near at u; constructor <;> grind) (by unfold Near at p; constructor <;> grind)
  clear id p
  unfold Near ep at *
  generalize (qX la be * qX la be + qY la be * qY la be) * (CA th * CA th + SA th * SA th - 1) = w at *
  constructor <;> grind
theorem md_le (th la be : Rat) : (-(10001 / 10000) ≤ mE th la be ∧ mE th la be ≤ 10001 / 10000) ∧ (-(10001 / 10000) ≤ mW th la be ∧ mW th la be ≤ 10001 / 10000) := by
  have u := md_unit th la be
  have a := sq_nonneg (mE th la be); have b := sq_nonneg (mW th la be); have c := sq_nonneg (qZ la be)
  exact ⟨ps_sq (by unfold Near at u; grind), ps_sq (by unfold Near at u; grind)⟩
theorem md_rot (th D la be : Rat) : Near (mE (th + D) la be) (mE th la be * CA D - mW th la be * SA D) (1 / 1000000000000000000000) ∧ Near (mW (th + D) la be) (mW th la be * CA D + mE th la be * SA D) (1 / 1000000000000000000000) := by
  obtain ⟨a, b⟩ := SCA_add th D
  obtain ⟨x, y, -⟩ := q_le la be
  have m1 := rmul_bd (a := SA (th + D) - (SA th * CA D + CA th * SA D)) (b := qY la be) (A := e2) (B := 10001 / 10000) (by unfold Near at a; constructor <;> grind) y
  have m2 := rmul_bd (a := CA (th + D) - (CA th * CA D - SA th * SA D)) (b := qX la be) (A := e2) (B := 10001 / 10000) (by unfold Near at b; constructor <;> grind) x
  have m3 := rmul_bd (a := SA (th + D) - (SA th * CA D + CA th * SA D)) (b := qX la be) (A := e2) (B := 10001 / 10000) (by unfold Near at a; constructor <;> grind) x
  have m4 := rmul_bd (a := CA (th + D) - (CA th * CA D - SA th * SA D)) (b := qY la be) (A := e2) (B := 10001 / 10000) (by unfold Near at b; constructor <;> grind) y
  have i1 : mE (th + D) la be - (mE th la be * CA D - mW th la be * SA D) = (CA (th + D) - (CA th * CA D - SA th * SA D)) * qX la be + (SA (th + D) - (SA th * CA D + CA th * SA D)) * qY la be := by unfold mE mW; grind
  have i2 : mW (th + D) la be - (mW th la be * CA D + mE th la be * SA D) = (SA (th + D) - (SA th * CA D + CA th * SA D)) * qX la be - (CA (th + D) - (CA th * CA D - SA th * SA D)) * qY la be := by unfold mE mW; grind
  clear a b x y
  generalize (CA (th + D) - (CA th * CA D - SA th * SA D)) * qX la be = w1 at *
  generalize (SA (th + D) - (SA th * CA D + CA th * SA D)) * qY la be = w2 at *
  generalize (SA (th + D) - (SA th * CA D + CA th * SA D)) * qX la be = w3 at *
  generalize (CA (th + D) - (CA th * CA D - SA th * SA D)) * qY la be = w4 at *
  generalize mE th la be * CA D - mW th la be * SA D = w5 at *
  generalize mW th la be * CA D + mE th la be * SA D = w6 at *
  unfold Near e2 at *
  constructor <;> constructor <;> grind
theorem md_mvT {th la be d D : Rat} (hd : -D ≤ d / 2 ∧ d / 2 ≤ D) : Near (mE (th + d) la be) (mE th la be) (2001 / 1000 * (ra D + 1 / 100000000000000)) ∧ Near (mW (th + d) la be) (mW th la be) (2001 / 1000 * (ra D + 1 / 100000000000000)) := by
  have u := q_unit la be
  have xx := sq_nonneg (qX la be); have yy := sq_nonneg (qY la be); have zz := sq_nonneg (qZ la be)
  have r1 := ps_rot (y := th) (p := qX la be) (q := qY la be) hd (by unfold Near at u; grind)
  have r2 := ps_rot (y := th) (p := -qY la be) (q := qX la be) hd (by unfold Near at u; rw [show -qY la be * -qY la be = qY la be * qY la be by grind]; grind)
  refine ⟨r1, ?_⟩
  unfold mW
  rw [show SA (th + d) * qX la be - CA (th + d) * qY la be = CA (th + d) * -qY la be + SA (th + d) * qX la be by grind, show SA th * qX la be - CA th * qY la be = CA th * -qY la be + SA th * qX la be by grind]
  exact r2
theorem md_half (m u la be : Rat) : Near (mE (m + u) la be - mE (m + -u) la be) (-(2 * (mW m la be * SA u))) (1 / 100000000000000000000) := by
  have r1 := (md_rot m u la be).1
  have r2 := (md_rot m (-u) la be).1
  obtain ⟨n1, n2⟩ := SCA_neg u
  have bb := md_le m la be
  have c1 := rmul_bd (a := mE m la be) (b := CA (-u) - CA u) (A := 10001 / 10000) (B := e2) bb.1 (by unfold Near at n2; constructor <;> grind)
  have c2 := rmul_bd (a := mW m la be) (b := SA (-u) - -SA u) (A := 10001 / 10000) (B := e2) bb.2 (by unfold Near at n1; constructor <;> grind)
  rw [show mE m la be * (CA (-u) - CA u) = mE m la be * CA (-u) - mE m la be * CA u by grind] at c1
  rw [show mW m la be * (SA (-u) - -SA u) = mW m la be * SA (-u) + mW m la be * SA u by grind] at c2
  clear n1 n2 bb
  unfold Near e2 at *
  generalize mE m la be * CA (-u) = w1 at *
  generalize mE m la be * CA u = w2 at *
  generalize mW m la be * SA (-u) = w3 at *
  generalize mW m la be * SA u = w4 at *
  constructor <;> grind
end Go.Proofs.YtcopmgnfakjdhaaGreatDoor
