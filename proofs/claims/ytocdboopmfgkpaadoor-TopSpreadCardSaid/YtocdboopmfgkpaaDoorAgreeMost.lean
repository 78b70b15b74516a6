/- The contract of agree.most and agree.Most. -/
import Derived.Test.YtocdboopmfgkpaaDoorAgree
namespace Go.Proofs.YtocdboopmfgkpaaDoor
open Go.RowKit
set_option linter.unusedSimpArgs false
set_option linter.unusedVariables false

theorem mB_bounds {zs : List Int} {n : Nat} (hS : SpOk zs n) (k : Nat) (hk : k ≤ n) : -500000000000000000 ≤ (mB zs n k).lo ∧ (mB zs n k).lo ≤ 500000000000000000 ∧ -500000000000000000 ≤ (mB zs n k).hi ∧ (mB zs n k).hi ≤ 500000000000000000 ∧ (mB zs n k).k ≤ 40 := by
  induction k with
  | zero => simp [mB]
  | succ k ih =>
    have h1 := ih (by omega)
    have h2 := hS.each k (by omega)
    have h3 := dep_le zs (ix zs (k * 2)) n
    have h4 := hS.few
    simp only [mB]
    split
    · dsimp only; omega
    · exact h1
theorem mH_bounds {zs : List Int} {n : Nat} (hS : SpOk zs n) (b h0 : Int) (hh : -500000000000000000 ≤ h0 ∧ h0 ≤ 500000000000000000) (k : Nat) (hk : k ≤ n) : -500000000000000000 ≤ mH zs b h0 k ∧ mH zs b h0 k ≤ 500000000000000000 := by
  induction k with
  | zero => simpa [mH] using hh
  | succ k ih =>
    have h1 := ih (by omega)
    have h2 := hS.each k (by omega)
    simp only [mH]
    split <;> omega

/-- What most tells. -/
def mostV (zs : List Int) (n : Nat) : Value := .tuple #[.agg #[.int .i64 (mB zs n n).lo, .int .i64 (mH zs (mB zs n n).lo (mB zs n n).hi n)], .int .i64 (mB zs n n).k]


end Go.Proofs.YtocdboopmfgkpaaDoor
