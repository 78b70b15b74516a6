/- Merged by wip/tools/pack.py out of XEqP, XDec, XAsinR, XPolar, XParts. -/
import Derived.Test.YtcopmgnfakjdhaaGreatDoorZArcAs
import Derived.Test.YtcopmgnfakjdhaaGreatDoorZTrigOs
import Derived.Test.YtcopmgnfakjdhaaGreatDoorZReals
import Derived.Test.YtcopmgnfakjdhaaGreatDoorZEqus
import Derived.Test.YtcopmgnfakjdhaaGreatDoorZMoons
import Derived.Test.YtcopmgnfakjdhaaGreatDoorZTrigA
import Derived.Test.YtcopmgnfakjdhaaGreatDoorZLookPs
/- Merged by wip/tools/pack.py out of XNarrow, XEquP. -/
/- Narrow boxes have narrow arcs; spans over short spans of angles lie near their sines; products of spans that lie near numbers. Plain. -/
namespace Go.Proofs.YtcopmgnfakjdhaaGreatDoor
set_option linter.unusedSimpArgs false
set_option linter.unusedVariables false
theorem polar {Y X : Int} (hY : Sml Y) (hX : Sml X) (h0 : Y ≠ 0 ∨ X ≠ 0) : ∃ t rho : Rat, -(337 / 100) ≤ t ∧ t ≤ 337 / 100 ∧ 0 < rho ∧ szR Y X ≤ 201 / 100 * rho ∧ Near (X : Rat) (rho * cs t) (1 / 100000000000000 * szR Y X) ∧ Near (Y : Rat) (rho * sn t) (1 / 100000000000000 * szR Y X) := by
  have D := (dir_main hY hX h0).1
  obtain ⟨bx, by'⟩ := sz_bd Y X
  have sp := sz_pos h0
  obtain ⟨n, p, l, u⟩ := D
  have t8 : -8 ≤ dirV Y X ∧ dirV Y X ≤ 8 := by grind
  have py := pyth t8
  have sA := sn_le t8; have cA := cs_le t8
  have nx : ∀ n : Int, (n.natAbs : Rat) = (n : Rat) ∨ (n.natAbs : Rat) = -(n : Rat) := fun n => by
    rcases (by omega : (n.natAbs : Int) = n ∨ (n.natAbs : Int) = -n) with h | h
    · left
      have := congrArg (fun k : Int => (k : Rat)) h
      (try dsimp only at this)
      rwa [Rat.intCast_natCast] at this
    · right
      have := congrArg (fun k : Int => (k : Rat)) h
      (try dsimp only at this)
      rwa [Rat.intCast_natCast, Rat.intCast_neg] at this
  have a1 := nx X; have a2 := nx Y
  have es : szR Y X = (X.natAbs : Rat) + (Y.natAbs : Rat) := rfl
  generalize dirV Y X = t at *
  generalize (X : Rat) = x at *
  generalize (Y : Rat) = y at *
  generalize (X.natAbs : Rat) = xa at *
  generalize (Y.natAbs : Rat) = ya at *
  generalize szR Y X = R at *
  have R0 : 0 ≤ R := by grind
  have m1 := rmul_bd (a := x * sn t - y * cs t) (b := sn t) (A := 2 / 1000000000000000 * R) (B := 101 / 100) (by unfold Near at n; grind) (by unfold ep at sA; grind)
  have m2 := rmul_bd (a := x * sn t - y * cs t) (b := cs t) (A := 2 / 1000000000000000 * R) (B := 101 / 100) (by unfold Near at n; grind) (by unfold ep at cA; grind)
  have q1 := rmul_bd (a := x) (b := cs t * cs t + sn t * sn t - 1) (A := R) (B := ep) bx (by unfold Near at py; grind)
  have q2 := rmul_bd (a := y) (b := cs t * cs t + sn t * sn t - 1) (A := R) (B := ep) by' (by unfold Near at py; grind)
  have rp : 0 < x * cs t + y * sn t := by grind
  have nX : Near x ((x * cs t + y * sn t) * cs t) (1 / 100000000000000 * R) := by
    have e : x - (x * cs t + y * sn t) * cs t = (x * sn t - y * cs t) * sn t - x * (cs t * cs t + sn t * sn t - 1) := by grind
    unfold Near
    unfold ep at q1
    generalize (x * sn t - y * cs t) * sn t = u1 at *
    generalize x * (cs t * cs t + sn t * sn t - 1) = u2 at *
    generalize (x * cs t + y * sn t) * cs t = u3 at *
    clear m2 q2 py sA cA n a1 a2
    constructor <;> grind
  have nY : Near y ((x * cs t + y * sn t) * sn t) (1 / 100000000000000 * R) := by
    have e : y - (x * cs t + y * sn t) * sn t = -((x * sn t - y * cs t) * cs t) - y * (cs t * cs t + sn t * sn t - 1) := by grind
    unfold Near
    unfold ep at q2
    generalize (x * sn t - y * cs t) * cs t = u1 at *
    generalize y * (cs t * cs t + sn t * sn t - 1) = u2 at *
    generalize (x * cs t + y * sn t) * sn t = u3 at *
    clear m1 q1 py sA cA n a1 a2
    constructor <;> grind
  refine ⟨t, x * cs t + y * sn t, l, u, rp, ?_, nX, nY⟩
  generalize x * cs t + y * sn t = rho at *
  have b1 := rmul_bd (a := rho) (b := cs t) (A := rho) (B := 1 + ep) (by grind) cA
  have b2 := rmul_bd (a := rho) (b := sn t) (A := rho) (B := 1 + ep) (by grind) sA
  clear m1 m2 q1 q2 py n p
  unfold Near ep at *
  generalize rho * cs t = u1 at *
  generalize rho * sn t = u2 at *
  grind
theorem sz_le {Y X Y' X' E : Int} (hE : 0 ≤ E) (h1 : -E ≤ Y' - Y ∧ Y' - Y ≤ E) (h2 : -E ≤ X' - X ∧ X' - X ≤ E) : szR Y' X' ≤ szR Y X + 2 * (E : Rat) := by
  have : ((X'.natAbs + Y'.natAbs : Nat) : Int) ≤ ((X.natAbs + Y.natAbs : Nat) : Int) + 2 * E := by omega
  have := Rat.intCast_le_intCast.2 this
  rw [Rat.intCast_add, Rat.intCast_mul, Rat.intCast_natCast, Rat.intCast_natCast, Rat.natCast_add, Rat.natCast_add, show ((2 : Int) : Rat) = 2 from rfl] at this
  unfold szR
  exact this
end Go.Proofs.YtcopmgnfakjdhaaGreatDoor
/- sun.Equator, plain: near which directions its spans lie; that it never fails where the spans are short. -/
namespace Go.Proofs.YtcopmgnfakjdhaaGreatDoor
set_option linter.unusedSimpArgs false
set_option linter.unusedVariables false
theorem tilt_num : 397700000 ≤ sLo 65109000 ∧ sHi 65109000 ≤ 397850000 ∧ 917400000 ≤ cLo 65109000 ∧ cHi 65109000 ≤ 917550000 := by decide +kernel
theorem tilt_sc : 3976 / 10000 ≤ SN 65109000 ∧ SN 65109000 ≤ 3979 / 10000 ∧ 9173 / 10000 ≤ CN 65109000 ∧ CN 65109000 ≤ 9176 / 10000 := by
  obtain ⟨h1, h2, h3, h4⟩ := tilt_num
  replace h1 := Rat.intCast_le_intCast.2 h1
  replace h2 := Rat.intCast_le_intCast.2 h2
  replace h3 := Rat.intCast_le_intCast.2 h3
  replace h4 := Rat.intCast_le_intCast.2 h4
  rw [show ((397700000 : Int) : Rat) = 397700000 from rfl] at h1
  rw [show ((397850000 : Int) : Rat) = 397850000 from rfl] at h2
  rw [show ((917400000 : Int) : Rat) = 917400000 from rfl] at h3
  rw [show ((917550000 : Int) : Rat) = 917550000 from rfl] at h4
  have s := sin_span 65109000; have c := cos_span 65109000
  have a1 := s.lo; have a2 := s.hi; have b1 := c.lo; have b2 := c.hi
  clear s c
  refine ⟨?_, ?_, ?_, ?_⟩ <;> grind
theorem nab_bd' (n : Int) : -(n.natAbs : Rat) ≤ (n : Rat) ∧ (n : Rat) ≤ (n.natAbs : Rat) := by
  have h1 : -(n.natAbs : Int) ≤ n := by omega
  have h2 : n ≤ (n.natAbs : Int) := by omega
  replace h1 := Rat.intCast_le_intCast.2 h1
  replace h2 := Rat.intCast_le_intCast.2 h2
  rw [Rat.intCast_neg, Rat.intCast_natCast] at h1
  rw [Rat.intCast_natCast] at h2
  exact ⟨h1, h2⟩
theorem sq_le {x A : Rat} (h : -A ≤ x ∧ x ≤ A) : x * x ≤ A * A := (rmul_bd h h).2
end Go.Proofs.YtcopmgnfakjdhaaGreatDoor
/- Merged by wip/tools/pack.py out of XSkyAt, XDecP. -/
/- sun.At, moon.At. -/
namespace Go.Proofs.YtcopmgnfakjdhaaGreatDoor
open Go.RowKit
set_option linter.unusedSimpArgs false
set_option linter.unusedVariables false
theorem lt_of_rat {a b c : Int} {x y : Rat} (h1 : (a : Rat) ≤ x) (h2 : y ≤ (b : Rat)) (h : x - y < (c : Rat) + 1) : a - b ≤ c := by
  have : a - b < c + 1 := by
    apply int_lt_of_rat
    rw [Rat.intCast_sub, Rat.intCast_add, show ((1 : Int) : Rat) = 1 from rfl]
    grind
  omega
theorem sl_width (t : Int) : slHi t - slLo t ≤ 4004 := by
  obtain ⟨k, a1, a2, a3, a4⟩ := sun_at t
  exact lt_of_rat (x := sunT (t : Rat) + 2000 + 2003 / 1000 - 1000000000 * (k : Rat)) (y := sunT (t : Rat) - 2000 - 2003 / 1000 - 1000000000 * (k : Rat)) (by grind) (by grind) (by rw [show ((4004 : Int) : Rat) = 4004 from rfl]; grind)
def mlatT (t : Rat) : Rat := svT moonBZ 3 t
theorem mlat_at (t : Int) : SumAt (mbLo t) (mbHi t) (mlatT (t : Rat)) 20000 := by
  have h := sum_at (mean := 0) (rest := 20000) (t := t) (n := 3) (zs := moonBZ) (by omega) moonB_in.tm
  rw [show ((0 : Int) : Rat) + svT moonBZ 3 (t : Rat) = mlatT (t : Rat) by unfold mlatT; rw [show ((0 : Int) : Rat) = 0 from rfl]; grind] at h
  exact h
theorem mb_width (t : Int) : mbLo t ≤ mbHi t ∧ mbHi t - mbLo t ≤ 40002 := by
  obtain ⟨a1, a2, a3, a4⟩ := mlat_at t
  rw [show ((20000 : Int) : Rat) = 20000 from rfl] at a1 a2 a3 a4
  refine ⟨int_le_of_rat (by grind), ?_⟩
  exact lt_of_rat (x := mlatT (t : Rat) + 20000 + 1002 / 1000) (y := mlatT (t : Rat) - 20000 - 1002 / 1000) (by grind) (by grind) (by rw [show ((40002 : Int) : Rat) = 40002 from rfl]; grind)
theorem mb_tri (t : Rat) : -15796000 ≤ mlatT t ∧ mlatT t ≤ 15796000 := by
  have e : mlatT t = 0 + tmV moonBZ t 0 + tmV moonBZ t 1 + tmV moonBZ t 2 := rfl
  have t0 : tmV moonBZ t 0 = 14244783 * SA (phT 648500531 36748195111111 t) := rfl
  have t1 : tmV moonBZ t 1 = 779450 * SA (phT 747884547 73039842194444 t) := rfl
  have t2 : tmV moonBZ t 2 = 771369 * SA (phT 450883485 (-456548027778) t) := rfl
  have s0 := SA_le (phT 648500531 36748195111111 t); have s1 := SA_le (phT 747884547 73039842194444 t); have s2 := SA_le (phT 450883485 (-456548027778) t)
  rw [e, t0, t1, t2]
  unfold ep at *
  constructor <;> grind
theorem mb_bd (t : Int) : -15820000 ≤ mbLo t ∧ mbHi t ≤ 15820000 := by
  obtain ⟨a1, a2, a3, a4⟩ := mlat_at t
  have b := mb_tri (t : Rat)
  rw [show ((20000 : Int) : Rat) = 20000 from rfl] at a1 a2 a3 a4
  constructor
  · apply int_le_of_rat; rw [show ((-15820000 : Int) : Rat) = -15820000 from rfl]; grind
  · apply int_le_of_rat; rw [show ((15820000 : Int) : Rat) = 15820000 from rfl]; grind
end Go.Proofs.YtcopmgnfakjdhaaGreatDoor
/- How near the arc of a sine lies; the declinations of the sun and the moon. Plain. -/
namespace Go.Proofs.YtcopmgnfakjdhaaGreatDoor
set_option linter.unusedSimpArgs false
set_option linter.unusedVariables false
end Go.Proofs.YtcopmgnfakjdhaaGreatDoor
/- trig.ArcSin, plain: angles of any sine; bounds by rational angles; its bounds are in order. -/
namespace Go.Proofs.YtcopmgnfakjdhaaGreatDoor
set_option linter.unusedSimpArgs false
set_option linter.unusedVariables false
end Go.Proofs.YtcopmgnfakjdhaaGreatDoor
/- The polar form of a point with rational parts; arcs contain the angle of each point of their boxes. Plain. -/
namespace Go.Proofs.YtcopmgnfakjdhaaGreatDoor
set_option linter.unusedSimpArgs false
set_option linter.unusedVariables false
theorem arc_order {a b c d : Int} (H : ArcIn a b c d) : arcLo a b c d ≤ arcHi a b c d := by
  have hf : Md (dirW a c) 1200000001 := by obtain ⟨x, y, z⟩ := dir_fin H.sa H.sc'; exact ⟨x, y, z⟩
  have q0 := arcD_md hf H.sa H.sd
  have q1 := arcD_md hf H.sb H.sc'
  have q2 := arcD_md hf H.sb H.sd
  have l1 := md_min md_zero q0; have l2 := md_min l1 q1; have l3 := md_min l2 q2
  have g1 := md_max md_zero q0; have g2 := md_max g1 q1; have g3 := md_max g2 q2
  have v1 := (fmin_ok md_zero.fin q0.fin).2; have v2 := (fmin_ok l1.fin q1.fin).2; have v3 := (fmin_ok l2.fin q2.fin).2
  have u1 := (fmax_ok md_zero.fin q0.fin).2; have u2 := (fmax_ok g1.fin q1.fin).2; have u3 := (fmax_ok g2.fin q2.fin).2
  rw [fin_zero.2] at v1 u1
  obtain ⟨-, a1⟩ := arc_sum hf l3
  obtain ⟨-, a2⟩ := arc_sum hf g3
  have lo1 := a1.lo1; have hi1 := a2.hi1
  have eL : arcLo a b c d = aLo (fadd (dirW a c) (fminW (fminW (fminW 0 (arcD (dirW a c) a d)) (arcD (dirW a c) b c)) (arcD (dirW a c) b d))) := rfl
  have eH : arcHi a b c d = aHi (fadd (dirW a c) (fmaxW (fmaxW (fmaxW 0 (arcD (dirW a c) a d)) (arcD (dirW a c) b c)) (arcD (dirW a c) b d))) := rfl
  rw [← eL] at lo1
  rw [← eH] at hi1
  clear a1 a2 eL eH l1 l2 l3 g1 g2 g3 q0 q1 q2
  have ks : kSl - 2 / 10000 ≥ 7 / 10000 := by unfold kSl; grind
  generalize fv (fminW (fminW (fminW 0 (arcD (dirW a c) a d)) (arcD (dirW a c) b c)) (arcD (dirW a c) b d)) = L at *
  generalize fv (fmaxW (fmaxW (fmaxW 0 (arcD (dirW a c) a d)) (arcD (dirW a c) b c)) (arcD (dirW a c) b d)) = G at *
  generalize fv (fminW (fminW 0 (arcD (dirW a c) a d)) (arcD (dirW a c) b c)) = L2 at *
  generalize fv (fmaxW (fmaxW 0 (arcD (dirW a c) a d)) (arcD (dirW a c) b c)) = G2 at *
  generalize fv (fminW 0 (arcD (dirW a c) a d)) = L1 at *
  generalize fv (fmaxW 0 (arcD (dirW a c) a d)) = G1 at *
  generalize fv (arcD (dirW a c) a d) = D0 at *
  generalize fv (arcD (dirW a c) b c) = D1 at *
  generalize fv (arcD (dirW a c) b d) = D2 at *
  apply int_le_of_rat
  grind
end Go.Proofs.YtcopmgnfakjdhaaGreatDoor
/- Merged by wip/tools/pack.py out of XInvP, XPartsP. -/
/- TrigInverts, plain. -/
namespace Go.Proofs.YtcopmgnfakjdhaaGreatDoor
set_option linter.unusedSimpArgs false
set_option linter.unusedVariables false
end Go.Proofs.YtcopmgnfakjdhaaGreatDoor
/- PlaceParts, plain: the parts of a direction, as place.look reckons them, are those of a vector of length 1. -/
namespace Go.Proofs.YtcopmgnfakjdhaaGreatDoor
set_option linter.unusedSimpArgs false
set_option linter.unusedVariables false
end Go.Proofs.YtcopmgnfakjdhaaGreatDoor
