/- leaps: the table of leaps that the laws make of what comes in. -/
import Derived.Test.YtocdboopmfgkpaaDoorAt
import Derived.Test.YtocdboopmfgkpaaDoorOpen
namespace Go.Proofs.YtocdboopmfgkpaaDoor
open Go.RowKit
set_option linter.unusedSimpArgs false
set_option linter.unusedVariables false

/-- The day of the k-th leap (counted from 1), its shift (counted from 0), and the table's cells. -/
def dayAt (zs : List Int) : Nat → Int
  | 0 => 0
  | k + 1 => dayAt zs k + (2 + ix zs k % 400)
def shiftAt (zs : List Int) (k : Nat) : Int := 1 - 2 * (ix zs k % 3 / 2)
def leapNums (zs : List Int) : Nat → List Int
  | 0 => []
  | k + 1 => leapNums zs k ++ [dayAt zs (k + 1), shiftAt zs k]

theorem leapNums_len (zs : List Int) (k : Nat) : (leapNums zs k).length = k * 2 := by
  induction k with
  | zero => rfl
  | succ k ih => simp [leapNums, ih]; omega

theorem dayAt_bounds (zs : List Int) (k : Nat) : 0 ≤ dayAt zs k ∧ dayAt zs k ≤ 401 * k := by
  induction k with
  | zero => simp [dayAt]
  | succ k ih =>
    simp only [dayAt]
    have h1 := Int.emod_nonneg (ix zs k) (show (400 : Int) ≠ 0 by omega)
    have h2 := Int.emod_lt_of_pos (ix zs k) (show (0 : Int) < 400 by omega)
    omega

def LeapsPost (zs : List Int) (k : Nat) (w : World) (e : Ending) (w' : World) : Prop :=
  ∃ v, e = .returned v ∧ w'.ownsRow w.heap.size 72 2 v k ((leapNums zs k).map (Value.int .i64)) ∧ Below w.heap.size w w'

theorem Tryd.infoLeap : (Tryd.prog.info? 72).map (fun i => (i.zero, i.size, i.bytes)) = some (some (.agg #[.int .i64 0, .int .i64 0]), 2, 16) := by kernel_rfl


end Go.Proofs.YtocdboopmfgkpaaDoor
