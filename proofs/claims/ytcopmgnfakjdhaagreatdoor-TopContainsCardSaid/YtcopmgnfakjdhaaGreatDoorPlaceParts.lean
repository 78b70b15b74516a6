import Derived.Test.YtcopmgnfakjdhaaGreatDoorDecs
import Derived.Test.YtcopmgnfakjdhaaGreatDoorLooks
/- PlaceParts: the parts of a direction are those of a vector of length 1. -/
namespace Go.Proofs.YtcopmgnfakjdhaaGreatDoor
open Go.RowKit
set_option linter.unusedSimpArgs false
set_option linter.unusedVariables false
/-- What Equator hands back may be looked at. -/
theorem eq_lk {l1 l2 b1 b2 : Int} (il : IvOk l1 l2) (hlw : l2 - l1 ≤ 40010) (hb : b1 ≤ b2) (hbw : b2 - b1 ≤ 40010) (h1 : -15900000 ≤ b1) (h2 : b2 ≤ 15900000) :
    0 ≤ raLo l1 l2 b1 b2 ∧ raLo l1 l2 b1 b2 ≤ raHi l1 l2 b1 b2 ∧ raHi l1 l2 b1 b2 ≤ 3000000000 ∧ -250000000 ≤ dcLo l1 l2 b1 b2 ∧ dcLo l1 l2 b1 b2 ≤ dcHi l1 l2 b1 b2 ∧ dcHi l1 l2 b1 b2 ≤ 250000000 := by
  have O := eq_ok il hlw hb hbw h1 h2
  obtain ⟨-, -, -, -, zl, zh⟩ := eq_near il.m hlw hb hbw (Int.le_refl l1) il.m (Int.le_refl b1) hb
  have zb := dZ_bd (la := l1) (be := b1) ⟨h1, by omega⟩
  have Z := eqZ_bd l1 l2 b1 b2; have X := eqX_bd l1 l2 b1 b2; have Y := eqY_bd l1 l2 b1 b2
  have ao := arc_order (a := eqYL l1 l2 b1 b2) (b := eqYH l1 l2 b1 b2) (c := eqXL l1 l2 b1 b2) (d := eqXH l1 l2 b1 b2) ⟨⟨by omega, by omega⟩, ⟨by omega, by omega⟩, ⟨by omega, by omega⟩, ⟨by omega, by omega⟩, Y.2.1, X.2.1, O.no⟩
  have nw := O.nw
  unfold Near at zl zh
  have H : eqZH l1 l2 b1 b2 ≤ 490800000 := by
    apply int_le_of_rat; rw [show ((490800000 : Int) : Rat) = 490800000 from rfl]; grind
  have L : -490800000 ≤ eqZL l1 l2 b1 b2 := by
    apply int_le_of_rat; rw [show ((-490800000 : Int) : Rat) = -490800000 from rfl]; grind
  unfold raLo raHi dcLo dcHi
  clear O zl zh zb X Y
  generalize eqZL l1 l2 b1 b2 = zL at *
  generalize eqZH l1 l2 b1 b2 = zH at *
  generalize arcLo (eqYL l1 l2 b1 b2) (eqYH l1 l2 b1 b2) (eqXL l1 l2 b1 b2) (eqXH l1 l2 b1 b2) = p at *
  generalize arcHi (eqYL l1 l2 b1 b2) (eqYH l1 l2 b1 b2) (eqXL l1 l2 b1 b2) (eqXH l1 l2 b1 b2) = q at *
  have a := as_order (m := clT zL) (n := clT zH) (by unfold clT; omega) (by unfold clT; omega) (by unfold clT; omega)
  refine ⟨by omega, by omega, by omega, a.1, a.2.1, a.2.2⟩
theorem sun_lk (t : Int) {lon lat : Int} (h : PlOk lon lat) (ht : instOk t = true) : LkOk lon lat (sRL t) (sRH t) (sDL t) (sDH t) t := by
  have a : 0 ≤ slLo t ∧ slLo t < 1000000000 ∧ slLo t ≤ slHi t ∧ slHi t ≤ 130000000000 := an_bd sun_in
  have b := sl_width t
  unfold sRL sRH sDL sDH
  generalize slLo t = x at *
  generalize slHi t = y at *
  obtain ⟨p1, p2, p3, p4, p5, p6⟩ := eq_lk (l1 := x) (l2 := y) (b1 := 0) (b2 := 0) ⟨by omega, by omega, by omega⟩ (by omega) (by omega) (by omega) (by omega) (by omega)
  exact ⟨h, Int.le_trans (by decide) p1, p2, p3, p4, p5, p6, ht⟩
theorem moon_lk (t : Int) {lon lat : Int} (h : PlOk lon lat) (ht : instOk t = true) : LkOk lon lat (mRL t) (mRH t) (mDL t) (mDH t) t := by
  have a : 0 ≤ mlLo t ∧ mlLo t < 1000000000 ∧ mlLo t ≤ mlHi t ∧ mlHi t ≤ 130000000000 := an_bd moonL_in
  have b := ml_width t
  have c := mb_width t
  have d := mb_bd t
  unfold mRL mRH mDL mDH
  generalize mlLo t = x at *
  generalize mlHi t = y at *
  generalize mbLo t = x' at *
  generalize mbHi t = y' at *
  obtain ⟨p1, p2, p3, p4, p5, p6⟩ := eq_lk (l1 := x) (l2 := y) (b1 := x') (b2 := y') ⟨by omega, by omega, by omega⟩ (by omega) (by omega) (by omega) (by omega) (by omega)
  exact ⟨h, Int.le_trans (by decide) p1, p2, p3, p4, p5, p6, ht⟩
/-- Sums over three. -/
theorem PlBox.put {w : World} {b : Nat} {x y : Int} (h : PlBox w b x y) (u v : Int) : PlBox ((w.setCell ⟨b, 0, none⟩ (.int .i64 u)).setCell ⟨b, 1, none⟩ (.int .i64 v)) b u v :=
  ((World.rowIs.set h 0 (.int .i64 u)).set 1 (.int .i64 v)).congr (fun i hi => by
    match i, hi with
    | 0, _ => rfl
    | 1, _ => rfl)
def acc3 (a b c : Int) (j : Nat) : Int := if j = 0 then 0 else if j = 1 then a else if j = 2 then a + b else a + b + c
theorem cl_bd (a : Int) : (-1000000000 ≤ clLo a ∧ clLo a ≤ 1000000000) ∧ (-1000000000 ≤ clHi a ∧ clHi a ≤ 1000000000) := by unfold clLo clHi; omega
theorem sq_bd9 {x : Int} (h : -1000000000 ≤ x ∧ x ≤ 1000000000) : 0 ≤ x * x ∧ x * x ≤ 1000000000000000000 := by
  have m := mul_bound h.1 h.2 h.1 h.2
  have : 0 ≤ x * x := by
    rcases (by omega : 0 ≤ x ∨ x ≤ 0) with c | c
    · exact Int.mul_nonneg c c
    · exact Int.mul_nonneg_of_nonpos_of_nonpos c c
  omega
/-- What a round of the sums reckons. -/
def RdF (l u x y x' y' : Int) : Prop := wrap64 (l * l) = l * l ∧ wrap64 (u * u) = u * u ∧ wrap64 (y + max (l * l) (u * u)) = y' ∧ y' = y + max (l * l) (u * u) ∧ True ∧ (0 < l ∨ u < 0 → wrap64 (x + min (l * l) (u * u)) = x') ∧ (¬ 0 < l → ¬ u < 0 → x = x')
structure PartsFin (ul uh el eh nl nh : Int) (L H : Nat → Int) : Prop where
  l0 : L 0 = 0
  h0 : H 0 = 0
  r0 : RdF ul uh (L 0) (H 0) (L 1) (H 1)
  r1 : RdF el eh (L 1) (H 1) (L 2) (H 2)
  r2 : RdF nl nh (L 2) (H 2) (L 3) (H 3)
  lo : L 3 ≤ 1000000000000000000
  hi : 1000000000000000000 ≤ H 3
theorem rdF {l u x y : Int} (hl : -1000000000 ≤ l ∧ l ≤ 1000000000) (hu : -1000000000 ≤ u ∧ u ≤ 1000000000) (hx : 0 ≤ x ∧ x ≤ 2000000000000000000) (hy : 0 ≤ y ∧ y ≤ 2000000000000000000) : RdF l u x y (x + sqL l u) (y + sqH l u) := by
  have a := sq_bd9 hl; have b := sq_bd9 hu
  unfold RdF sqL sqH
  generalize l * l = A at *
  generalize u * u = B at *
  refine ⟨IntWalk.wrap64_in _ (by omega), IntWalk.wrap64_in _ (by omega), IntWalk.wrap64_in _ (by omega), rfl, trivial, fun h => ?_, fun h1 h2 => ?_⟩
  · rw [if_pos h]; exact IntWalk.wrap64_in _ (by omega)
  · rw [if_neg (by omega)]; omega
theorem sq_bd8 {l u : Int} (hl : -1000000000 ≤ l ∧ l ≤ 1000000000) (hu : -1000000000 ≤ u ∧ u ≤ 1000000000) : (0 ≤ sqL l u ∧ sqL l u ≤ 1000000000000000000) ∧ (0 ≤ sqH l u ∧ sqH l u ≤ 1000000000000000000) := by
  have a := sq_bd9 hl; have b := sq_bd9 hu
  unfold sqL sqH
  generalize l * l = A at *
  generalize u * u = B at *
  split <;> omega
theorem parts_fin {ul uh el eh nl nh : Int} (h : sqL ul uh + sqL el eh + sqL nl nh ≤ 1000000000000000000 ∧ 1000000000000000000 ≤ sqH ul uh + sqH el eh + sqH nl nh) (ub : (-1000000000 ≤ ul ∧ ul ≤ 1000000000) ∧ (-1000000000 ≤ uh ∧ uh ≤ 1000000000)) (eb : (-1000000000 ≤ el ∧ el ≤ 1000000000) ∧ (-1000000000 ≤ eh ∧ eh ≤ 1000000000)) (nb : (-1000000000 ≤ nl ∧ nl ≤ 1000000000) ∧ (-1000000000 ≤ nh ∧ nh ≤ 1000000000)) :
    PartsFin ul uh el eh nl nh (acc3 (sqL ul uh) (sqL el eh) (sqL nl nh)) (acc3 (sqH ul uh) (sqH el eh) (sqH nl nh)) := by
  have a := sq_bd8 ub.1 ub.2; have b := sq_bd8 eb.1 eb.2; have c := sq_bd8 nb.1 nb.2
  refine ⟨rfl, rfl, ?_, ?_, ?_, h.1, h.2⟩
  · have r := rdF ub.1 ub.2 (x := 0) (y := 0) (by omega) (by omega)
    rw [Int.zero_add, Int.zero_add] at r
    exact r
  · exact rdF eb.1 eb.2 (x := sqL ul uh) (y := sqH ul uh) (by omega) (by omega)
  · exact rdF nb.1 nb.2 (x := sqL ul uh + sqL el eh) (y := sqH ul uh + sqH el eh) (by omega) (by omega)
end Go.Proofs.YtcopmgnfakjdhaaGreatDoor
