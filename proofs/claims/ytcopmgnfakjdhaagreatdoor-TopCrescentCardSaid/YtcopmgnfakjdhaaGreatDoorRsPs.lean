/- Merged by wip/tools/pack.py out of XPlaceParts, XRsP, XCrP, XCrG. -/
import Derived.Test.YtcopmgnfakjdhaaGreatDoorDecs
import Derived.Test.YtcopmgnfakjdhaaGreatDoorLooks
import Derived.Test.YtcopmgnfakjdhaaGreatDoorPhs
import Derived.Test.YtcopmgnfakjdhaaGreatDoorReals
/- PlaceParts: the parts of a direction are those of a vector of length 1. -/
namespace Go.Proofs.YtcopmgnfakjdhaaGreatDoor
open Go.RowKit
set_option linter.unusedSimpArgs false
set_option linter.unusedVariables false
/-- What Equator hands back may be looked at. -/
theorem eq_lk {l1 l2 b1 b2 : Int} (il : IvOk l1 l2) (hlw : l2 - l1 ≤ 40010) (hb : b1 ≤ b2) (hbw : b2 - b1 ≤ 40010) (h1 : -15900000 ≤ b1) (h2 : b2 ≤ 15900000) :
    0 ≤ raLo l1 l2 b1 b2 ∧ raLo l1 l2 b1 b2 ≤ raHi l1 l2 b1 b2 ∧ raHi l1 l2 b1 b2 ≤ 3000000000 ∧ -250000000 ≤ dcLo l1 l2 b1 b2 ∧ dcLo l1 l2 b1 b2 ≤ dcHi l1 l2 b1 b2 ∧ dcHi l1 l2 b1 b2 ≤ 250000000 := by
  have O := eq_ok il hlw hb hbw h1 h2
  obtain ⟨-, -, -, -, zl, zh⟩ := eq_near il.m hlw hb hbw (Int.le_refl l1) il.m (Int.le_refl b1) hb
  have zb := dZ_bd (la := l1) (be := b1) ⟨h1, by omega⟩
  have Z := eqZ_bd l1 l2 b1 b2; have X := eqX_bd l1 l2 b1 b2; have Y := eqY_bd l1 l2 b1 b2
  have ao := arc_order (a := eqYL l1 l2 b1 b2) (b := eqYH l1 l2 b1 b2) (c := eqXL l1 l2 b1 b2) (d := eqXH l1 l2 b1 b2) ⟨⟨by omega, by omega⟩, ⟨by omega, by omega⟩, ⟨by omega, by omega⟩, ⟨by omega, by omega⟩, Y.2.1, X.2.1, O.no⟩
  have nw := O.nw
  unfold Near at zl zh
  have H : eqZH l1 l2 b1 b2 ≤ 490800000 := by
    apply int_le_of_rat; rw [show ((490800000 : Int) : Rat) = 490800000 from rfl]; grind
  have L : -490800000 ≤ eqZL l1 l2 b1 b2 := by
    apply int_le_of_rat; rw [show ((-490800000 : Int) : Rat) = -490800000 from rfl]; grind
  unfold raLo raHi dcLo dcHi
  clear O zl zh zb X Y
  generalize eqZL l1 l2 b1 b2 = zL at *
  generalize eqZH l1 l2 b1 b2 = zH at *
  generalize arcLo (eqYL l1 l2 b1 b2) (eqYH l1 l2 b1 b2) (eqXL l1 l2 b1 b2) (eqXH l1 l2 b1 b2) = p at *
  generalize arcHi (eqYL l1 l2 b1 b2) (eqYH l1 l2 b1 b2) (eqXL l1 l2 b1 b2) (eqXH l1 l2 b1 b2) = q at *
  have a := as_order (m := clT zL) (n := clT zH) (by unfold clT; omega) (by unfold clT; omega) (by unfold clT; omega)
  refine ⟨by omega, by omega, by omega, a.1, a.2.1, a.2.2⟩
theorem sun_lk (t : Int) {lon lat : Int} (h : PlOk lon lat) (ht : instOk t = true) : LkOk lon lat (sRL t) (sRH t) (sDL t) (sDH t) t := by
  have a : 0 ≤ slLo t ∧ slLo t < 1000000000 ∧ slLo t ≤ slHi t ∧ slHi t ≤ 130000000000 := an_bd sun_in
  have b := sl_width t
  unfold sRL sRH sDL sDH
  generalize slLo t = x at *
  generalize slHi t = y at *
  obtain ⟨p1, p2, p3, p4, p5, p6⟩ := eq_lk (l1 := x) (l2 := y) (b1 := 0) (b2 := 0) ⟨by omega, by omega, by omega⟩ (by omega) (by omega) (by omega) (by omega) (by omega)
  exact ⟨h, Int.le_trans (by decide) p1, p2, p3, p4, p5, p6, ht⟩
theorem moon_lk (t : Int) {lon lat : Int} (h : PlOk lon lat) (ht : instOk t = true) : LkOk lon lat (mRL t) (mRH t) (mDL t) (mDH t) t := by
  have a : 0 ≤ mlLo t ∧ mlLo t < 1000000000 ∧ mlLo t ≤ mlHi t ∧ mlHi t ≤ 130000000000 := an_bd moonL_in
  have b := ml_width t
  have c := mb_width t
  have d := mb_bd t
  unfold mRL mRH mDL mDH
  generalize mlLo t = x at *
  generalize mlHi t = y at *
  generalize mbLo t = x' at *
  generalize mbHi t = y' at *
  obtain ⟨p1, p2, p3, p4, p5, p6⟩ := eq_lk (l1 := x) (l2 := y) (b1 := x') (b2 := y') ⟨by omega, by omega, by omega⟩ (by omega) (by omega) (by omega) (by omega) (by omega)
  exact ⟨h, Int.le_trans (by decide) p1, p2, p3, p4, p5, p6, ht⟩
/-- Sums over three. -/
theorem PlBox.put {w : World} {b : Nat} {x y : Int} (h : PlBox w b x y) (u v : Int) : PlBox ((w.setCell ⟨b, 0, none⟩ (.int .i64 u)).setCell ⟨b, 1, none⟩ (.int .i64 v)) b u v :=
  ((World.rowIs.set h 0 (.int .i64 u)).set 1 (.int .i64 v)).congr (fun i hi => by
    match i, hi with
    | 0, _ => rfl
    | 1, _ => rfl)
def acc3 (a b c : Int) (j : Nat) : Int := if j = 0 then 0 else if j = 1 then a else if j = 2 then a + b else a + b + c
theorem cl_bd (a : Int) : (-1000000000 ≤ clLo a ∧ clLo a ≤ 1000000000) ∧ (-1000000000 ≤ clHi a ∧ clHi a ≤ 1000000000) := by unfold clLo clHi; omega
theorem sq_bd9 {x : Int} (h : -1000000000 ≤ x ∧ x ≤ 1000000000) : 0 ≤ x * x ∧ x * x ≤ 1000000000000000000 := by
  have m := mul_bound h.1 h.2 h.1 h.2
  have : 0 ≤ x * x := by
    rcases (by omega : 0 ≤ x ∨ x ≤ 0) with c | c
    · exact Int.mul_nonneg c c
    · exact Int.mul_nonneg_of_nonpos_of_nonpos c c
  omega
/-- What a round of the sums reckons. -/
def RdF (l u x y x' y' : Int) : Prop := wrap64 (l * l) = l * l ∧ wrap64 (u * u) = u * u ∧ wrap64 (y + max (l * l) (u * u)) = y' ∧ y' = y + max (l * l) (u * u) ∧ True ∧ (0 < l ∨ u < 0 → wrap64 (x + min (l * l) (u * u)) = x') ∧ (¬ 0 < l → ¬ u < 0 → x = x')
structure PartsFin (ul uh el eh nl nh : Int) (L H : Nat → Int) : Prop where
  l0 : L 0 = 0
  h0 : H 0 = 0
  r0 : RdF ul uh (L 0) (H 0) (L 1) (H 1)
  r1 : RdF el eh (L 1) (H 1) (L 2) (H 2)
  r2 : RdF nl nh (L 2) (H 2) (L 3) (H 3)
  lo : L 3 ≤ 1000000000000000000
  hi : 1000000000000000000 ≤ H 3
theorem rdF {l u x y : Int} (hl : -1000000000 ≤ l ∧ l ≤ 1000000000) (hu : -1000000000 ≤ u ∧ u ≤ 1000000000) (hx : 0 ≤ x ∧ x ≤ 2000000000000000000) (hy : 0 ≤ y ∧ y ≤ 2000000000000000000) : RdF l u x y (x + sqL l u) (y + sqH l u) := by
  have a := sq_bd9 hl; have b := sq_bd9 hu
  unfold RdF sqL sqH
  generalize l * l = A at *
  generalize u * u = B at *
  refine ⟨IntWalk.wrap64_in _ (by omega), IntWalk.wrap64_in _ (by omega), IntWalk.wrap64_in _ (by omega), rfl, trivial, fun h => ?_, fun h1 h2 => ?_⟩
  · rw [if_pos h]; exact IntWalk.wrap64_in _ (by omega)
  · rw [if_neg (by omega)]; omega
theorem sq_bd8 {l u : Int} (hl : -1000000000 ≤ l ∧ l ≤ 1000000000) (hu : -1000000000 ≤ u ∧ u ≤ 1000000000) : (0 ≤ sqL l u ∧ sqL l u ≤ 1000000000000000000) ∧ (0 ≤ sqH l u ∧ sqH l u ≤ 1000000000000000000) := by
  have a := sq_bd9 hl; have b := sq_bd9 hu
  unfold sqL sqH
  generalize l * l = A at *
  generalize u * u = B at *
  split <;> omega
theorem parts_fin {ul uh el eh nl nh : Int} (h : sqL ul uh + sqL el eh + sqL nl nh ≤ 1000000000000000000 ∧ 1000000000000000000 ≤ sqH ul uh + sqH el eh + sqH nl nh) (ub : (-1000000000 ≤ ul ∧ ul ≤ 1000000000) ∧ (-1000000000 ≤ uh ∧ uh ≤ 1000000000)) (eb : (-1000000000 ≤ el ∧ el ≤ 1000000000) ∧ (-1000000000 ≤ eh ∧ eh ≤ 1000000000)) (nb : (-1000000000 ≤ nl ∧ nl ≤ 1000000000) ∧ (-1000000000 ≤ nh ∧ nh ≤ 1000000000)) :
    PartsFin ul uh el eh nl nh (acc3 (sqL ul uh) (sqL el eh) (sqL nl nh)) (acc3 (sqH ul uh) (sqH el eh) (sqH nl nh)) := by
  have a := sq_bd8 ub.1 ub.2; have b := sq_bd8 eb.1 eb.2; have c := sq_bd8 nb.1 nb.2
  refine ⟨rfl, rfl, ?_, ?_, ?_, h.1, h.2⟩
  · have r := rdF ub.1 ub.2 (x := 0) (y := 0) (by omega) (by omega)
    rw [Int.zero_add, Int.zero_add] at r
    exact r
  · exact rdF eb.1 eb.2 (x := sqL ul uh) (y := sqH ul uh) (by omega) (by omega)
  · exact rdF nb.1 nb.2 (x := sqL ul uh + sqL el eh) (y := sqH ul uh + sqH el eh) (by omega) (by omega)
end Go.Proofs.YtcopmgnfakjdhaaGreatDoor
/- riseset, plain: above or below; what Find hands back. -/
namespace Go.Proofs.YtcopmgnfakjdhaaGreatDoor
set_option linter.unusedSimpArgs false
set_option linter.unusedVariables false
def rsHL (lon lat b t : Int) : Int := if b = 0 then upLo lat (hhLo lon t (sRH t)) (hhHi lon t (sRL t)) (sDL t) (sDH t) else upLo lat (hhLo lon t (mRH t)) (hhHi lon t (mRL t)) (mDL t) (mDH t)
def rsHH (lon lat b t : Int) : Int := if b = 0 then upHi lat (hhLo lon t (sRH t)) (hhHi lon t (sRL t)) (sDL t) (sDH t) else upHi lat (hhLo lon t (mRH t)) (hhHi lon t (mRL t)) (mDL t) (mDH t)
def rsLim (b : Int) : Int := if b = 0 then -14543900 else 2182000
/-- Above (1), below (-1), undecided. -/
def abF (lon lat b t : Int) : Int := if rsLim b < rsHL lon lat b t then 1 else if rsHH lon lat b t < rsLim b then -1 else 0
theorem ab_3 (lon lat b t : Int) : abF lon lat b t = 1 ∨ abF lon lat b t = -1 ∨ abF lon lat b t = 0 := by
  unfold abF
  split
  · exact .inl rfl
  · split
    · exact .inr (.inl rfl)
    · exact .inr (.inr rfl)
def rsR (r : Int × Int) : Int × Int × Int := if r.2 - r.1 ≤ 120000 then (r.1, r.2, 0) else (0, 0, 11)
/-- The steps of a day. -/
def rfL (sd : Int → Int) (base : Int) : Nat → Int → Bool → Int → Int → Int × Int × Int
  | 0, _, op, _, _ => (0, 0, if op then 11 else 6)
  | m + 1, k, op, bf, ws => if sd (base + k * 900000) = 0 then rfL sd base m (k + 1) true bf ws
      else if ws = -1 ∧ sd (base + k * 900000) = 1 then rsR (nrwF sd 120000 64 bf (base + k * 900000))
      else rfL sd base m (k + 1) op (base + k * 900000) (sd (base + k * 900000))
/-- What Find hands back; sg: 1 for a rising, -1 for a setting. -/
def rsF (lon lat b d sg : Int) : Int × Int × Int := rfL (fun t => sg * abF lon lat b t) (d * 86400000) 97 0 false 0 0
theorem lastF_bd (h : Int → Bool) : ∀ (k : Nat) (lo hi : Int), lo ≤ hi → lo ≤ lastF h k lo hi ∧ lastF h k lo hi ≤ hi
  | 0, lo, hi, e => ⟨Int.le_refl _, e⟩
  | k + 1, lo, hi, e => by
    rw [lastF_step]
    split
    · have m : (hi - lo).tdiv 2 = (hi - lo) / 2 := half_of (by omega)
      split
      · have := lastF_bd h k (lo + (hi - lo).tdiv 2) hi (by omega); omega
      · have := lastF_bd h k lo (lo + (hi - lo).tdiv 2) (by omega); omega
    · exact ⟨Int.le_refl _, e⟩
theorem nrwF_bd (sd : Int → Int) (width : Int) (hw : 0 ≤ width) : ∀ (k : Nat) (lo hi : Int), lo ≤ hi → lo ≤ (nrwF sd width k lo hi).1 ∧ (nrwF sd width k lo hi).1 ≤ (nrwF sd width k lo hi).2 ∧ (nrwF sd width k lo hi).2 ≤ hi
  | 0, lo, hi, e => ⟨Int.le_refl _, e, Int.le_refl _⟩
  | k + 1, lo, hi, e => by
    rw [nrwF_step]
    split
    · have m : (hi - lo).tdiv 2 = (hi - lo) / 2 := half_of (by omega)
      split
      · have := nrwF_bd sd width hw k (lo + (hi - lo).tdiv 2) hi (by omega); omega
      · split
        · have := nrwF_bd sd width hw k lo (lo + (hi - lo).tdiv 2) (by omega); omega
        · have a := lastF_bd (fun x => decide (sd x = -1)) 64 lo (lo + (hi - lo).tdiv 2) (by omega)
          have b := lastF_bd (fun x => decide (sd (-x) = 1)) 64 (-hi) (-(lo + (hi - lo).tdiv 2)) (by omega)
          dsimp only
          omega
    · exact ⟨Int.le_refl _, e, Int.le_refl _⟩
/-- An interval of the day, or nothing. -/
theorem rfL_bd (sd : Int → Int) (base : Int) : ∀ (m : Nat) (k : Int) (op : Bool) (bf ws : Int), 0 ≤ k → k + m ≤ 97 → (ws = -1 → base ≤ bf ∧ bf ≤ base + k * 900000) → (rfL sd base m k op bf ws).2.2 = 0 → base ≤ (rfL sd base m k op bf ws).1 ∧ (rfL sd base m k op bf ws).1 ≤ (rfL sd base m k op bf ws).2.1 ∧ (rfL sd base m k op bf ws).2.1 ≤ base + 86400000
  | 0, k, op, bf, ws, _, _, _, e => by
    cases op
    · exact absurd (show (6 : Int) = 0 from e) (by omega)
    · exact absurd (show (11 : Int) = 0 from e) (by omega)
  | m + 1, k, op, bf, ws, k0, k1, hb, e => by
    unfold rfL at e ⊢
    split
    · rename_i c
      rw [if_pos c] at e
      exact rfL_bd sd base m (k + 1) true bf ws (by omega) (by omega) (fun h => by have := hb h; omega) e
    · rename_i c
      rw [if_neg c] at e
      split
      · rename_i d
        rw [if_pos d] at e
        have q := hb d.1
        have n := nrwF_bd sd 120000 (by omega) 64 bf (base + k * 900000) q.2
        generalize nrwF sd 120000 64 bf (base + k * 900000) = r at *
        unfold rsR at e ⊢
        split
        · dsimp only; omega
        · rename_i f; rw [if_neg f] at e; exact absurd e (by decide)
      · rename_i d
        rw [if_neg d] at e
        exact rfL_bd sd base m (k + 1) op (base + k * 900000) _ (by omega) (by omega) (fun _ => by omega) e
theorem rsF_bd (lon lat b d sg : Int) (e : (rsF lon lat b d sg).2.2 = 0) : d * 86400000 ≤ (rsF lon lat b d sg).1 ∧ (rsF lon lat b d sg).1 ≤ (rsF lon lat b d sg).2.1 ∧ (rsF lon lat b d sg).2.1 ≤ d * 86400000 + 86400000 :=
  rfL_bd _ _ 97 0 false 0 0 (by omega) (by omega) (fun h => absurd h (by omega)) e
theorem rsR_e (r : Int × Int) : (rsR r).2.2 = 0 ∨ ((rsR r).2.2 = 11 ∧ (rsR r).1 = 0 ∧ (rsR r).2.1 = 0) := by
  unfold rsR
  split
  · exact .inl rfl
  · exact .inr ⟨rfl, rfl, rfl⟩
theorem rfL_e (sd : Int → Int) (base : Int) : ∀ (m : Nat) (k : Int) (op : Bool) (bf ws : Int), (rfL sd base m k op bf ws).2.2 = 0 ∨ (((rfL sd base m k op bf ws).2.2 = 11 ∨ (rfL sd base m k op bf ws).2.2 = 6) ∧ (rfL sd base m k op bf ws).1 = 0 ∧ (rfL sd base m k op bf ws).2.1 = 0)
  | 0, k, op, bf, ws => by
    cases op
    · exact .inr ⟨.inr rfl, rfl, rfl⟩
    · exact .inr ⟨.inl rfl, rfl, rfl⟩
  | m + 1, k, op, bf, ws => by
    unfold rfL
    split
    · exact rfL_e sd base m _ _ _ _
    · split
      · rcases rsR_e (nrwF sd 120000 64 bf (base + k * 900000)) with h | ⟨h1, h2, h3⟩
        · exact .inl h
        · exact .inr ⟨.inl h1, h2, h3⟩
      · exact rfL_e sd base m _ _ _ _
end Go.Proofs.YtcopmgnfakjdhaaGreatDoor
/- crescent, plain: what is seen; how much of a young moon is lit. -/
namespace Go.Proofs.YtcopmgnfakjdhaaGreatDoor
set_option linter.unusedSimpArgs false
set_option linter.unusedVariables false
/-- Surely seen (1), surely not (-1), undecided. -/
def crS (lon lat t : Int) : Int := if 27777778 < elLo t ∧ elHi t < 250000000 ∧ 87155743 < rsHL lon lat 1 t then 1
  else if elHi t < 27777778 ∨ (250000000 < elLo t ∧ elHi t < 1000000000) ∨ rsHH lon lat 1 t < 87155743 then -1 else 0
/-- What Seen hands back. -/
def seN (lon lat d : Int) : Int := if (rsF lon lat 0 d (-1)).2.2 = 0 ∧ crS lon lat (rsF lon lat 0 d (-1)).1 = 1 ∧ crS lon lat (rsF lon lat 0 d (-1)).2.1 = 1 then 1 else 0
def seE (lon lat d : Int) : Int := if (rsF lon lat 0 d (-1)).2.2 = 0 then
    (if crS lon lat (rsF lon lat 0 d (-1)).1 = 1 ∧ crS lon lat (rsF lon lat 0 d (-1)).2.1 = 1 then 0 else if crS lon lat (rsF lon lat 0 d (-1)).1 = -1 ∧ crS lon lat (rsF lon lat 0 d (-1)).2.1 = -1 then 0 else 11)
  else (rsF lon lat 0 d (-1)).2.2
theorem crS_one {lon lat t : Int} (h : crS lon lat t = 1) : 27777778 < elLo t ∧ elHi t < 250000000 := by
  unfold crS at h
  by_cases c : 27777778 < elLo t ∧ elHi t < 250000000 ∧ 87155743 < rsHL lon lat 1 t
  · exact ⟨c.1, c.2.1⟩
  · rw [if_neg c] at h
    split at h <;> omega
theorem seN_one {lon lat d : Int} (h : seN lon lat d = 1) : (rsF lon lat 0 d (-1)).2.2 = 0 ∧ crS lon lat (rsF lon lat 0 d (-1)).1 = 1 := by
  unfold seN at h
  by_cases c : (rsF lon lat 0 d (-1)).2.2 = 0 ∧ crS lon lat (rsF lon lat 0 d (-1)).1 = 1 ∧ crS lon lat (rsF lon lat 0 d (-1)).2.1 = 1
  · exact ⟨c.1, c.2.1⟩
  · rw [if_neg c] at h; omega
theorem cr_num : sHi 222222222 ≤ 984808000 := by decide +kernel
/-- A young moon that is seen is less than half lit, but surely lit. -/
theorem young_lit {t : Int} (h1 : 27777778 < elLo t) (h2 : elHi t < 250000000) : liHi t < 500200000 ∧ 5000000 < liLo t := by
  have bd := el_bd t
  obtain ⟨-, n2, n3, -⟩ := li_near t
  have g1 := Rat.intCast_lt_intCast.2 h1
  have g2 := Rat.intCast_lt_intCast.2 (show elLo t < 250000000 by omega)
  rw [show ((27777778 : Int) : Rat) = 27777778 from rfl] at g1
  rw [show ((250000000 : Int) : Rat) = 250000000 from rfl] at g2
  have p := (sa_pos (x := (elLo t : Rat)) (by grind) (by grind)).2
  have f := ca_fall (x := 27777778) (y := (elLo t : Rat)) (by grind) (by grind) (by grind)
  have k := ca_back 27777778
  rw [show (250000000 : Rat) - 27777778 = 222222222 by grind] at k
  have s := (sa_num 222222222).2
  rw [show ((222222222 : Int) : Rat) = 222222222 from rfl] at s
  have g := Rat.intCast_le_intCast.2 cr_num
  rw [show ((984808000 : Int) : Rat) = 984808000 from rfl] at g
  rw [CA_int] at p f
  unfold Near e2 at k
  constructor
  · apply int_lt_of_rat
    rw [show ((500200000 : Int) : Rat) = 500200000 from rfl]
    clear f k s g n2
    grind
  · apply int_lt_of_rat
    rw [show ((5000000 : Int) : Rat) = 5000000 from rfl]
    clear p n3
    grind
end Go.Proofs.YtcopmgnfakjdhaaGreatDoor
/- riseset: a part of the steps of a day. -/
namespace Go.Proofs.YtcopmgnfakjdhaaGreatDoor
/-- What stands behind n steps that find nothing. -/
def rsGo (sd : Int → Int) (base : Int) : Nat → Int → Bool → Int → Int → Option (Bool × Int × Int)
  | 0, _, op, bf, ws => some (op, bf, ws)
  | n + 1, k, op, bf, ws => if sd (base + k * 900000) = 0 then rsGo sd base n (k + 1) true bf ws
      else if ws = -1 ∧ sd (base + k * 900000) = 1 then none
      else rsGo sd base n (k + 1) op (base + k * 900000) (sd (base + k * 900000))
theorem rsGo_part {sd : Int → Int} {base : Int} : ∀ (n m : Nat) (k : Int) (op : Bool) (bf ws : Int) (s : Bool × Int × Int), rsGo sd base n k op bf ws = some s → rfL sd base (m + n) k op bf ws = rfL sd base m (k + n) s.1 s.2.1 s.2.2
  | 0, m, k, op, bf, ws, s, h => by
    unfold rsGo at h
    obtain rfl := Option.some.inj h
    rw [show k + ((0 : Nat) : Int) = k by omega]
    rfl
  | n + 1, m, k, op, bf, ws, s, h => by
    unfold rsGo at h
    rw [show m + (n + 1) = (m + n) + 1 by omega, show k + ((n + 1 : Nat) : Int) = (k + 1) + (n : Int) by omega]
    conv => lhs; unfold rfL
    split at h
    · rename_i a
      rw [if_pos a]
      exact rsGo_part n m _ _ _ _ _ h
    · rename_i a
      rw [if_neg a]
      split at h
      · exact absurd h (by simp)
      · rename_i b
        rw [if_neg b]
        exact rsGo_part n m _ _ _ _ _ h
/-- The setting of the sun, at the place of the example. -/
def exS (t : Int) : Int := (-1) * abF 0 100000000 0 t
theorem ex_eq (d : Int) : rsF 0 100000000 0 d (-1) = rfL exS (d * 86400000) 97 0 false 0 0 := rfl
end Go.Proofs.YtcopmgnfakjdhaaGreatDoor
