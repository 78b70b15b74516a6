/- Merged by wip/tools/pack.py out of XNarP, XPhP, XPhD, XPhQ, XPhL. -/
import Derived.ProofKit
import Derived.Test.YtcopmgnfakjdhaaGreatDoorVMoons
import Derived.Test.YtcopmgnfakjdhaaGreatDoorVReals
/- series.Narrow in plain words: what it computes, and where the result lies. Nothing of the program. -/
namespace Go.Proofs.YtcopmgnfakjdhaaGreatDoor
set_option linter.unusedSimpArgs false
set_option linter.unusedVariables false
def lastF (h : Int → Bool) : Nat → Int → Int → Int
  | 0, lo, _ => lo
  | k + 1, lo, hi => if 1 < hi - lo then (if h (lo + (hi - lo).tdiv 2) then lastF h k (lo + (hi - lo).tdiv 2) hi else lastF h k lo (lo + (hi - lo).tdiv 2)) else lo
def nrwF (sd : Int → Int) (width : Int) : Nat → Int → Int → Int × Int
  | 0, lo, hi => (lo, hi)
  | k + 1, lo, hi => if width < hi - lo then
      (if sd (lo + (hi - lo).tdiv 2) = -1 then nrwF sd width k (lo + (hi - lo).tdiv 2) hi
       else if sd (lo + (hi - lo).tdiv 2) = 1 then nrwF sd width k lo (lo + (hi - lo).tdiv 2)
       else (lastF (fun x => decide (sd x = -1)) 64 lo (lo + (hi - lo).tdiv 2), -lastF (fun x => decide (sd (-x) = 1)) 64 (-hi) (-(lo + (hi - lo).tdiv 2))))
      else (lo, hi)
theorem half_of {a : Int} (h : 0 ≤ a) : a.tdiv 2 = a / 2 := Int.tdiv_eq_ediv_of_nonneg h
theorem lastF_step (h : Int → Bool) (k : Nat) (lo hi : Int) : lastF h (k + 1) lo hi = if 1 < hi - lo then (if h (lo + (hi - lo).tdiv 2) then lastF h k (lo + (hi - lo).tdiv 2) hi else lastF h k lo (lo + (hi - lo).tdiv 2)) else lo := rfl
theorem lastF_end (h : Int → Bool) : ∀ (k : Nat) (lo hi : Int), hi - lo ≤ 1 → lastF h k lo hi = lo
  | 0, _, _, _ => rfl
  | k + 1, lo, hi, e => by unfold lastF; rw [if_neg (by omega)]
structure LastIn (h : Int → Bool) (lo hi r : Int) : Prop where
  a : lo ≤ r
  b : r < hi
  c : r = lo ∨ h r = true
  d : r + 1 = hi ∨ h (r + 1) = false
theorem lastF_in (h : Int → Bool) : ∀ (k : Nat) (lo hi : Int), lo < hi → hi - lo ≤ ((2 ^ k : Nat) : Int) → LastIn h lo hi (lastF h k lo hi) := by
  suffices H : ∀ (k : Nat) (l0 h0 lo hi : Int), l0 ≤ lo → hi ≤ h0 → lo < hi → hi - lo ≤ ((2 ^ k : Nat) : Int) → (lo = l0 ∨ h lo = true) → (hi = h0 ∨ h hi = false) → LastIn h l0 h0 (lastF h k lo hi) from
    fun k lo hi l e => H k lo hi lo hi (Int.le_refl _) (Int.le_refl _) l e (.inl rfl) (.inl rfl)
  intro k
  induction k with
  | zero =>
    intro l0 h0 lo hi a b l e c d
    have e' : hi - lo ≤ 1 := by simpa using e
    have : hi = lo + 1 := by omega
    exact ⟨a, by show lo < h0; omega, c, by show lo + 1 = h0 ∨ h (lo + 1) = false; rw [← this]; exact d⟩
  | succ k ih =>
    intro l0 h0 lo hi a b l e c d
    have e2 : ((2 ^ (k + 1) : Nat) : Int) = 2 * ((2 ^ k : Nat) : Int) := by rw [Nat.pow_succ]; omega
    rw [e2] at e
    rw [lastF_step]
    by_cases g : 1 < hi - lo
    · rw [if_pos g]
      have m := half_of (a := hi - lo) (by omega)
      rw [m]
      by_cases q : h (lo + (hi - lo) / 2) = true
      · rw [if_pos q]
        exact ih l0 h0 _ hi (by omega) b (by omega) (by omega) (.inr q) d
      · rw [if_neg q]
        exact ih l0 h0 lo _ a (by omega) (by omega) (by omega) c (.inr (by simpa using q))
    · rw [if_neg g]
      have : hi = lo + 1 := by omega
      exact ⟨a, by omega, c, by rw [← this]; exact d⟩
structure Cross (sd : Int → Int) (lo hi c D : Int) : Prop where
  a : ∀ x, lo ≤ x → x ≤ hi → sd x = -1 → x < c
  b : ∀ x, lo ≤ x → x ≤ hi → sd x = 1 → c ≤ x
  a' : ∀ x, lo ≤ x → x ≤ hi → x ≤ c - D → sd x = -1
  b' : ∀ x, lo ≤ x → x ≤ hi → c + D ≤ x → sd x = 1
theorem nrwF_step (sd : Int → Int) (width : Int) (k : Nat) (lo hi : Int) : nrwF sd width (k + 1) lo hi = if width < hi - lo then
      (if sd (lo + (hi - lo).tdiv 2) = -1 then nrwF sd width k (lo + (hi - lo).tdiv 2) hi
       else if sd (lo + (hi - lo).tdiv 2) = 1 then nrwF sd width k lo (lo + (hi - lo).tdiv 2)
       else (lastF (fun x => decide (sd x = -1)) 64 lo (lo + (hi - lo).tdiv 2), -lastF (fun x => decide (sd (-x) = 1)) 64 (-hi) (-(lo + (hi - lo).tdiv 2))))
      else (lo, hi) := rfl
theorem nrwF_end (sd : Int → Int) (width : Int) : ∀ (k : Nat) (lo hi : Int), ¬ width < hi - lo → nrwF sd width k lo hi = (lo, hi)
  | 0, _, _, _ => rfl
  | k + 1, lo, hi, e => by rw [nrwF_step, if_neg e]
def sideF (lo hi target : Int) : Int := if (lo - target) % 1000000000 = 0 ∨ 1000000000 ≤ (lo - target) % 1000000000 + (hi - lo) then 0
  else if (lo - target) % 1000000000 ≤ 500000000 ∧ 500000000 ≤ (lo - target) % 1000000000 + (hi - lo) then 2
  else if (lo - target) % 1000000000 < 500000000 then 1 else -1
end Go.Proofs.YtcopmgnfakjdhaaGreatDoor
/- The phases of the moon, plain: the true elongation at and around the mean times of phases. -/
namespace Go.Proofs.YtcopmgnfakjdhaaGreatDoor
set_option linter.unusedSimpArgs false
set_option linter.unusedVariables false
theorem el_move (t : Rat) {d : Rat} (hd : 0 ≤ d) : 27800000 * (d / 86400000) - 1 / 100000000 ≤ elT (t + d) - elT t ∧ elT (t + d) - elT t ≤ 39900000 * (d / 86400000) + 1 / 100000000 := by
  have m := anT_move (mean := 392048814) (rate := 36601101305556) moonL_in.tm t hd
  have s := anT_move (mean := 775342092) (rate := 2737909333333) sun_in.tm t hd
  rw [sl_moon] at m
  rw [sl_sun] at s
  have q := qq_b9
  unfold elT moonT sunT
  unfold Near ra at *
  rw [show ((36601101305556 : Int) : Rat) = 36601101305556 from rfl, show ((6 : Nat) : Rat) = 6 from rfl] at m
  rw [show ((2737909333333 : Int) : Rat) = 2737909333333 from rfl, show ((2 : Nat) : Rat) = 2 from rfl] at s
  have q1 := Rat.mul_le_mul_of_nonneg_right q.2 (show 0 ≤ d / 86400000000000 by grind)
  have e1 : 8 * qq * (936885529393895316817 * (d / 86400000000000) / 1000000000) = 936885529393895316817 * 8 / 1000000000 * (qq * (d / 86400000000000)) := by grind
  have e2 : 8 * qq * (14864525005099857516 * (d / 86400000000000) / 1000000000) = 14864525005099857516 * 8 / 1000000000 * (qq * (d / 86400000000000)) := by grind
  rw [e1] at m
  rw [e2] at s
  generalize anT 392048814 36601101305556 moonLZ 6 (t + d) = x1 at *
  generalize anT 392048814 36601101305556 moonLZ 6 t = x2 at *
  generalize anT 775342092 2737909333333 sunZ 2 (t + d) = x3 at *
  generalize anT 775342092 2737909333333 sunZ 2 t = x4 at *
  generalize qq * (d / 86400000000000) = z at *
  clear e1 e2 q
  constructor <;> grind
def phM (k q : Int) : Int := 977949455 + 2551442878 * k + 637860719 * q
def phSd (q : Int) (x : Int) : Int := sideF (elLo x) (elHi x) (250000000 * q)
structure PhCross (k q c : Int) : Prop where
  lo : phM k q - 172800000 < c
  hi : c ≤ phM k q + 172800000
  b : elT ((c - 1 : Int) : Rat) < 250000000 * (q : Rat) + 1000000000 * (k : Rat)
  a : 250000000 * (q : Rat) + 1000000000 * (k : Rat) ≤ elT (c : Rat)
  cr : Cross (phSd q) (phM k q - 172800000) (phM k q + 172800000) c 70500
end Go.Proofs.YtcopmgnfakjdhaaGreatDoor
/- How far the true elongation moves over some times (printed by wip/tools/gen-ph.py). Plain. -/
namespace Go.Proofs.YtcopmgnfakjdhaaGreatDoor
set_option linter.unusedSimpArgs false
set_option linter.unusedVariables false
end Go.Proofs.YtcopmgnfakjdhaaGreatDoor
/- How far apart phases are, plain. -/
namespace Go.Proofs.YtcopmgnfakjdhaaGreatDoor
set_option linter.unusedSimpArgs false
set_option linter.unusedVariables false
theorem PhCross.at' {k q c : Int} (h : PhCross k q c) : elT (c : Rat) ≤ 250000000 * (q : Rat) + 1000000000 * (k : Rat) + 1 := by
  have b := h.b
  have m := (el_move ((c - 1 : Int) : Rat) (d := 1) (by grind)).2
  rw [show ((c - 1 : Int) : Rat) + 1 = (c : Rat) by rw [Rat.intCast_sub]; show (c : Rat) - 1 + 1 = _; grind] at m
  generalize elT ((c - 1 : Int) : Rat) = u at *
  generalize elT (c : Rat) = v at *
  grind
end Go.Proofs.YtcopmgnfakjdhaaGreatDoor
/- How much of the moon is lit at a phase, plain. -/
namespace Go.Proofs.YtcopmgnfakjdhaaGreatDoor
set_option linter.unusedSimpArgs false
set_option linter.unusedVariables false
end Go.Proofs.YtcopmgnfakjdhaaGreatDoor
