/- What intervals agree on, plain. No program in sight. -/
import Derived.Test.YtocdboopmfgkpaaDoorPlain
namespace Go.Proofs.YtocdboopmfgkpaaDoor
set_option linter.unusedVariables false

/-- In how many of the first k intervals a number is. -/
def dep (zs : List Int) (t : Int) : Nat → Nat
  | 0 => 0
  | k + 1 => dep zs t k + if ix zs (k * 2) ≤ t ∧ t ≤ ix zs (k * 2 + 1) then 1 else 0

theorem dep_le (zs : List Int) (t : Int) (k : Nat) : dep zs t k ≤ k := by
  induction k with
  | zero => simp [dep]
  | succ k ih => simp only [dep]; split <;> omega
theorem dep_pos {zs : List Int} {t : Int} {n j : Nat} (hj : j < n) (h : ix zs (j * 2) ≤ t ∧ t ≤ ix zs (j * 2 + 1)) : 1 ≤ dep zs t n := by
  induction n with
  | zero => omega
  | succ n ih =>
    simp only [dep]
    rcases Nat.lt_or_eq_of_le (Nat.le_of_lt_succ hj) with h1 | rfl
    · have := ih h1; omega
    · rw [if_pos h]; omega

/-- The best so far. -/
structure Best where
  lo : Int
  hi : Int
  k : Nat

def mB (zs : List Int) (n : Nat) : Nat → Best
  | 0 => ⟨0, 0, 0⟩
  | j + 1 => if (mB zs n j).k < dep zs (ix zs (j * 2)) n ∨ (dep zs (ix zs (j * 2)) n = (mB zs n j).k ∧ ix zs (j * 2) < (mB zs n j).lo) then ⟨ix zs (j * 2), ix zs (j * 2 + 1), dep zs (ix zs (j * 2)) n⟩ else mB zs n j
/-- The end of the interval that begins at b. -/
def mH (zs : List Int) (b h0 : Int) : Nat → Int
  | 0 => h0
  | j + 1 => if ix zs (j * 2) ≤ b ∧ b ≤ ix zs (j * 2 + 1) then min (mH zs b h0 j) (ix zs (j * 2 + 1)) else mH zs b h0 j

/-- The hull so far. -/
structure Hull where
  is : Bool
  lo : Int
  hi : Int

def hStep (zs : List Int) (n : Nat) (need : Int) (s : Hull) (t : Int) : Hull :=
  if (dep zs t n : Int) < need then s else if s.is then ⟨true, min s.lo t, max s.hi t⟩ else ⟨true, t, t⟩
def wH (zs : List Int) (n : Nat) (need : Int) : Nat → Hull
  | 0 => ⟨false, 0, 0⟩
  | j + 1 => hStep zs n need (hStep zs n need (wH zs n need j) (ix zs (j * 2))) (ix zs (j * 2 + 1))

end Go.Proofs.YtocdboopmfgkpaaDoor
