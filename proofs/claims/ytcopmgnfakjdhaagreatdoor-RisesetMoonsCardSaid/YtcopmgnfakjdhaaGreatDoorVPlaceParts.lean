import Derived.Test.YtcopmgnfakjdhaaGreatDoorVDecs
import Derived.Test.YtcopmgnfakjdhaaGreatDoorVLooks
/- PlaceParts: the parts of a direction are those of a vector of length 1. -/
namespace Go.Proofs.YtcopmgnfakjdhaaGreatDoor
open Go.RowKit
set_option linter.unusedSimpArgs false
set_option linter.unusedVariables false
theorem eq_lk {l1 l2 b1 b2 : Int} (il : IvOk l1 l2) (hlw : l2 - l1 ≤ 40010) (hb : b1 ≤ b2) (hbw : b2 - b1 ≤ 40010) (h1 : -15900000 ≤ b1) (h2 : b2 ≤ 15900000) :
    0 ≤ raLo l1 l2 b1 b2 ∧ raLo l1 l2 b1 b2 ≤ raHi l1 l2 b1 b2 ∧ raHi l1 l2 b1 b2 ≤ 3000000000 ∧ -250000000 ≤ dcLo l1 l2 b1 b2 ∧ dcLo l1 l2 b1 b2 ≤ dcHi l1 l2 b1 b2 ∧ dcHi l1 l2 b1 b2 ≤ 250000000 := by
  have O := eq_ok il hlw hb hbw h1 h2
  obtain ⟨-, -, -, -, zl, zh⟩ := eq_near il.m hlw hb hbw (Int.le_refl l1) il.m (Int.le_refl b1) hb
  have zb := dZ_bd (la := l1) (be := b1) ⟨h1, by omega⟩
  have Z := eqZ_bd l1 l2 b1 b2; have X := eqX_bd l1 l2 b1 b2; have Y := eqY_bd l1 l2 b1 b2
  have ao := arc_order (a := eqYL l1 l2 b1 b2) (b := eqYH l1 l2 b1 b2) (c := eqXL l1 l2 b1 b2) (d := eqXH l1 l2 b1 b2) ⟨⟨by omega, by omega⟩, ⟨by omega, by omega⟩, ⟨by omega, by omega⟩, ⟨by omega, by omega⟩, Y.2.1, X.2.1, O.no⟩
  have nw := O.nw
  unfold Near at zl zh
  have H : eqZH l1 l2 b1 b2 ≤ 490800000 := by
    apply int_le_of_rat; rw [show ((490800000 : Int) : Rat) = 490800000 from rfl]; grind
  have L : -490800000 ≤ eqZL l1 l2 b1 b2 := by
    apply int_le_of_rat; rw [show ((-490800000 : Int) : Rat) = -490800000 from rfl]; grind
  unfold raLo raHi dcLo dcHi
  clear O zl zh zb X Y
  generalize eqZL l1 l2 b1 b2 = zL at *
  generalize eqZH l1 l2 b1 b2 = zH at *
  generalize arcLo (eqYL l1 l2 b1 b2) (eqYH l1 l2 b1 b2) (eqXL l1 l2 b1 b2) (eqXH l1 l2 b1 b2) = p at *
  generalize arcHi (eqYL l1 l2 b1 b2) (eqYH l1 l2 b1 b2) (eqXL l1 l2 b1 b2) (eqXH l1 l2 b1 b2) = q at *
  have a := as_order (m := clT zL) (n := clT zH) (by unfold clT; omega) (by unfold clT; omega) (by unfold clT; omega)
  refine ⟨by omega, by omega, by omega, a.1, a.2.1, a.2.2⟩
theorem sun_lk (t : Int) {lon lat : Int} (h : PlOk lon lat) (ht : instOk t = true) : LkOk lon lat (sRL t) (sRH t) (sDL t) (sDH t) t := by
  have a : 0 ≤ slLo t ∧ slLo t < 1000000000 ∧ slLo t ≤ slHi t ∧ slHi t ≤ 130000000000 := an_bd sun_in
  have b := sl_width t
  unfold sRL sRH sDL sDH
  generalize slLo t = x at *
  generalize slHi t = y at *
  obtain ⟨p1, p2, p3, p4, p5, p6⟩ := eq_lk (l1 := x) (l2 := y) (b1 := 0) (b2 := 0) ⟨by omega, by omega, by omega⟩ (by omega) (by omega) (by omega) (by omega) (by omega)
  exact ⟨h, Int.le_trans (by decide) p1, p2, p3, p4, p5, p6, ht⟩
theorem moon_lk (t : Int) {lon lat : Int} (h : PlOk lon lat) (ht : instOk t = true) : LkOk lon lat (mRL t) (mRH t) (mDL t) (mDH t) t := by
  have a : 0 ≤ mlLo t ∧ mlLo t < 1000000000 ∧ mlLo t ≤ mlHi t ∧ mlHi t ≤ 130000000000 := an_bd moonL_in
  have b := ml_width t
  have c := mb_width t
  have d := mb_bd t
  unfold mRL mRH mDL mDH
  generalize mlLo t = x at *
  generalize mlHi t = y at *
  generalize mbLo t = x' at *
  generalize mbHi t = y' at *
  obtain ⟨p1, p2, p3, p4, p5, p6⟩ := eq_lk (l1 := x) (l2 := y) (b1 := x') (b2 := y') ⟨by omega, by omega, by omega⟩ (by omega) (by omega) (by omega) (by omega) (by omega)
  exact ⟨h, Int.le_trans (by decide) p1, p2, p3, p4, p5, p6, ht⟩
theorem PlBox.put {w : World} {b : Nat} {x y : Int} (h : PlBox w b x y) (u v : Int) : PlBox ((w.setCell ⟨b, 0, none⟩ (.int .i64 u)).setCell ⟨b, 1, none⟩ (.int .i64 v)) b u v :=
  ((World.rowIs.set h 0 (.int .i64 u)).set 1 (.int .i64 v)).congr (fun i hi => by
    match i, hi with
    | 0, _ => rfl
    | 1, _ => rfl)
end Go.Proofs.YtcopmgnfakjdhaaGreatDoor
