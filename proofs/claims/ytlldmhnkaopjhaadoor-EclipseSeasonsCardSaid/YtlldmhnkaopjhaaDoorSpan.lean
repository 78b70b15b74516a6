/- The contracts of the laws' own helpers on intervals: cut, plus, holds. -/
import Derived.Test.YtlldmhnkaopjhaaDoorAt
namespace Go.Proofs.YtlldmhnkaopjhaaDoor
open Go.RowKit
set_option linter.unusedSimpArgs false

theorem cut_bounds (lo hi m : Int) (h0 : 0 ≤ m) : -m ≤ min (lo.tmod (m + 1)) (hi.tmod (m + 1)) ∧ min (lo.tmod (m + 1)) (hi.tmod (m + 1)) ≤ max (lo.tmod (m + 1)) (hi.tmod (m + 1)) ∧ max (lo.tmod (m + 1)) (hi.tmod (m + 1)) ≤ m := by
  have q1 := Int.lt_tmod_of_pos lo (show 0 < m + 1 by omega)
  have q2 := Int.tmod_lt_of_pos lo (show 0 < m + 1 by omega)
  have q3 := Int.lt_tmod_of_pos hi (show 0 < m + 1 by omega)
  have q4 := Int.tmod_lt_of_pos hi (show 0 < m + 1 by omega)
  omega




end Go.Proofs.YtlldmhnkaopjhaaDoor
