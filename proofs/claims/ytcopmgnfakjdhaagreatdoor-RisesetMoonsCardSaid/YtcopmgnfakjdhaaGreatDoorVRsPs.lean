/- Merged by wip/tools/pack.py out of XRsP, XCrP, XCrG. -/
import Derived.Test.YtcopmgnfakjdhaaGreatDoorVPlaceParts
import Derived.Test.YtcopmgnfakjdhaaGreatDoorVPhs
import Derived.Test.YtcopmgnfakjdhaaGreatDoorVReals
/- riseset, plain: above or below; what Find hands back. -/
namespace Go.Proofs.YtcopmgnfakjdhaaGreatDoor
set_option linter.unusedSimpArgs false
set_option linter.unusedVariables false
def rsHL (lon lat b t : Int) : Int := if b = 0 then upLo lat (hhLo lon t (sRH t)) (hhHi lon t (sRL t)) (sDL t) (sDH t) else upLo lat (hhLo lon t (mRH t)) (hhHi lon t (mRL t)) (mDL t) (mDH t)
def rsHH (lon lat b t : Int) : Int := if b = 0 then upHi lat (hhLo lon t (sRH t)) (hhHi lon t (sRL t)) (sDL t) (sDH t) else upHi lat (hhLo lon t (mRH t)) (hhHi lon t (mRL t)) (mDL t) (mDH t)
def rsLim (b : Int) : Int := if b = 0 then -14543900 else 2182000
def abF (lon lat b t : Int) : Int := if rsLim b < rsHL lon lat b t then 1 else if rsHH lon lat b t < rsLim b then -1 else 0
theorem ab_3 (lon lat b t : Int) : abF lon lat b t = 1 ∨ abF lon lat b t = -1 ∨ abF lon lat b t = 0 := by
  unfold abF
  split
  · exact .inl rfl
  · split
    · exact .inr (.inl rfl)
    · exact .inr (.inr rfl)
def rsR (r : Int × Int) : Int × Int × Int := if r.2 - r.1 ≤ 120000 then (r.1, r.2, 0) else (0, 0, 11)
def rfL (sd : Int → Int) (base : Int) : Nat → Int → Bool → Int → Int → Int × Int × Int
  | 0, _, op, _, _ => (0, 0, if op then 11 else 6)
  | m + 1, k, op, bf, ws => if sd (base + k * 900000) = 0 then rfL sd base m (k + 1) true bf ws
      else if ws = -1 ∧ sd (base + k * 900000) = 1 then rsR (nrwF sd 120000 64 bf (base + k * 900000))
      else rfL sd base m (k + 1) op (base + k * 900000) (sd (base + k * 900000))
def rsF (lon lat b d sg : Int) : Int × Int × Int := rfL (fun t => sg * abF lon lat b t) (d * 86400000) 97 0 false 0 0
theorem lastF_bd (h : Int → Bool) : ∀ (k : Nat) (lo hi : Int), lo ≤ hi → lo ≤ lastF h k lo hi ∧ lastF h k lo hi ≤ hi
  | 0, lo, hi, e => ⟨Int.le_refl _, e⟩
  | k + 1, lo, hi, e => by
    rw [lastF_step]
    split
    · have m : (hi - lo).tdiv 2 = (hi - lo) / 2 := half_of (by omega)
      split
      · have := lastF_bd h k (lo + (hi - lo).tdiv 2) hi (by omega); omega
      · have := lastF_bd h k lo (lo + (hi - lo).tdiv 2) (by omega); omega
    · exact ⟨Int.le_refl _, e⟩
theorem nrwF_bd (sd : Int → Int) (width : Int) (hw : 0 ≤ width) : ∀ (k : Nat) (lo hi : Int), lo ≤ hi → lo ≤ (nrwF sd width k lo hi).1 ∧ (nrwF sd width k lo hi).1 ≤ (nrwF sd width k lo hi).2 ∧ (nrwF sd width k lo hi).2 ≤ hi
  | 0, lo, hi, e => ⟨Int.le_refl _, e, Int.le_refl _⟩
  | k + 1, lo, hi, e => by
    rw [nrwF_step]
    split
    · have m : (hi - lo).tdiv 2 = (hi - lo) / 2 := half_of (by omega)
      split
      · have := nrwF_bd sd width hw k (lo + (hi - lo).tdiv 2) hi (by omega); omega
      · split
        · have := nrwF_bd sd width hw k lo (lo + (hi - lo).tdiv 2) (by omega); omega
        · have a := lastF_bd (fun x => decide (sd x = -1)) 64 lo (lo + (hi - lo).tdiv 2) (by omega)
          have b := lastF_bd (fun x => decide (sd (-x) = 1)) 64 (-hi) (-(lo + (hi - lo).tdiv 2)) (by omega)
          dsimp only
          omega
    · exact ⟨Int.le_refl _, e, Int.le_refl _⟩
theorem rfL_bd (sd : Int → Int) (base : Int) : ∀ (m : Nat) (k : Int) (op : Bool) (bf ws : Int), 0 ≤ k → k + m ≤ 97 → (ws = -1 → base ≤ bf ∧ bf ≤ base + k * 900000) → (rfL sd base m k op bf ws).2.2 = 0 → base ≤ (rfL sd base m k op bf ws).1 ∧ (rfL sd base m k op bf ws).1 ≤ (rfL sd base m k op bf ws).2.1 ∧ (rfL sd base m k op bf ws).2.1 ≤ base + 86400000
  | 0, k, op, bf, ws, _, _, _, e => by
    cases op
    · exact absurd (show (6 : Int) = 0 from e) (by omega)
    · exact absurd (show (11 : Int) = 0 from e) (by omega)
  | m + 1, k, op, bf, ws, k0, k1, hb, e => by
    unfold rfL at e ⊢
    split
    · rename_i c
      rw [if_pos c] at e
      exact rfL_bd sd base m (k + 1) true bf ws (by omega) (by omega) (fun h => by have := hb h; omega) e
    · rename_i c
      rw [if_neg c] at e
      split
      · rename_i d
        rw [if_pos d] at e
        have q := hb d.1
        have n := nrwF_bd sd 120000 (by omega) 64 bf (base + k * 900000) q.2
        generalize nrwF sd 120000 64 bf (base + k * 900000) = r at *
        unfold rsR at e ⊢
        split
        · dsimp only; omega
        · rename_i f; rw [if_neg f] at e; exact absurd e (by decide)
      · rename_i d
        rw [if_neg d] at e
        exact rfL_bd sd base m (k + 1) op (base + k * 900000) _ (by omega) (by omega) (fun _ => by omega) e
theorem rsF_bd (lon lat b d sg : Int) (e : (rsF lon lat b d sg).2.2 = 0) : d * 86400000 ≤ (rsF lon lat b d sg).1 ∧ (rsF lon lat b d sg).1 ≤ (rsF lon lat b d sg).2.1 ∧ (rsF lon lat b d sg).2.1 ≤ d * 86400000 + 86400000 :=
  rfL_bd _ _ 97 0 false 0 0 (by omega) (by omega) (fun h => absurd h (by omega)) e
end Go.Proofs.YtcopmgnfakjdhaaGreatDoor
/- crescent, plain: what is seen; how much of a young moon is lit. -/
namespace Go.Proofs.YtcopmgnfakjdhaaGreatDoor
set_option linter.unusedSimpArgs false
set_option linter.unusedVariables false
end Go.Proofs.YtcopmgnfakjdhaaGreatDoor
/- riseset: a part of the steps of a day. -/
namespace Go.Proofs.YtcopmgnfakjdhaaGreatDoor
def rsGo (sd : Int → Int) (base : Int) : Nat → Int → Bool → Int → Int → Option (Bool × Int × Int)
  | 0, _, op, bf, ws => some (op, bf, ws)
  | n + 1, k, op, bf, ws => if sd (base + k * 900000) = 0 then rsGo sd base n (k + 1) true bf ws
      else if ws = -1 ∧ sd (base + k * 900000) = 1 then none
      else rsGo sd base n (k + 1) op (base + k * 900000) (sd (base + k * 900000))
theorem rsGo_part {sd : Int → Int} {base : Int} : ∀ (n m : Nat) (k : Int) (op : Bool) (bf ws : Int) (s : Bool × Int × Int), rsGo sd base n k op bf ws = some s → rfL sd base (m + n) k op bf ws = rfL sd base m (k + n) s.1 s.2.1 s.2.2
  | 0, m, k, op, bf, ws, s, h => by
    unfold rsGo at h
    obtain rfl := Option.some.inj h
    rw [show k + ((0 : Nat) : Int) = k by omega]
    rfl
  | n + 1, m, k, op, bf, ws, s, h => by
    unfold rsGo at h
    rw [show m + (n + 1) = (m + n) + 1 by omega, show k + ((n + 1 : Nat) : Int) = (k + 1) + (n : Int) by omega]
    conv => lhs; unfold rfL
    split at h
    · rename_i a
      rw [if_pos a]
      exact rsGo_part n m _ _ _ _ _ h
    · rename_i a
      rw [if_neg a]
      split at h
      · exact absurd h (by simp)
      · rename_i b
        rw [if_neg b]
        exact rsGo_part n m _ _ _ _ _ h
end Go.Proofs.YtcopmgnfakjdhaaGreatDoor
