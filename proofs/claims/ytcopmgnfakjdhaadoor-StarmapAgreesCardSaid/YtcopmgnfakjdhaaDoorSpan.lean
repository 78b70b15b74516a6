/- The contracts of the laws' own helpers on intervals: cut, plus, holds. -/
import Derived.Test.YtcopmgnfakjdhaaDoorAt
namespace Go.Proofs.YtcopmgnfakjdhaaDoor
open Go.RowKit
set_option linter.unusedSimpArgs false

theorem cut_bounds (lo hi m : Int) (h0 : 0 ≤ m) : -m ≤ min (lo.tmod (m + 1)) (hi.tmod (m + 1)) ∧ min (lo.tmod (m + 1)) (hi.tmod (m + 1)) ≤ max (lo.tmod (m + 1)) (hi.tmod (m + 1)) ∧ max (lo.tmod (m + 1)) (hi.tmod (m + 1)) ≤ m := by
  have q1 := Int.lt_tmod_of_pos lo (show 0 < m + 1 by omega)
  have q2 := Int.tmod_lt_of_pos lo (show 0 < m + 1 by omega)
  have q3 := Int.lt_tmod_of_pos hi (show 0 < m + 1 by omega)
  have q4 := Int.tmod_lt_of_pos hi (show 0 < m + 1 by omega)
  omega


set_option maxHeartbeats 400000 in
theorem plus_any (a b c d : Int) (w : World) (h1 : -4000000000000000000 ≤ a ∧ a ≤ 4000000000000000000) (h2 : -4000000000000000000 ≤ b ∧ b ≤ 4000000000000000000) (h3 : -4000000000000000000 ≤ c ∧ c ≤ 4000000000000000000) (h4 : -4000000000000000000 ≤ d ∧ d ≤ 4000000000000000000) :
    Calls Tryd.prog 12 #[.agg #[.int .i64 a, .int .i64 b], .agg #[.int .i64 c, .int .i64 d]] w fun e w' => e = .returned (.agg #[.int .i64 (a + c), .int .i64 (b + d)]) ∧ Below w.heap.size w w' := by
  go_enter Tryd.func12, Tryd.ntmps12
  go_wp2
  go_returns
  exact ⟨rfl, by repeat' (first | (with_reducible refine below_drewN ?_ _) | go_grown)⟩


end Go.Proofs.YtcopmgnfakjdhaaDoor
