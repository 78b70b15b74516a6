/- The contracts of the laws' own helpers on intervals: cut, plus, holds. -/
import Derived.Test.YtdeoahgcppbmkaaDoorAt
namespace Go.Proofs.YtdeoahgcppbmkaaDoor
open Go.RowKit
set_option linter.unusedSimpArgs false

theorem cut_bounds (lo hi m : Int) (h0 : 0 ≤ m) : -m ≤ min (lo.tmod (m + 1)) (hi.tmod (m + 1)) ∧ min (lo.tmod (m + 1)) (hi.tmod (m + 1)) ≤ max (lo.tmod (m + 1)) (hi.tmod (m + 1)) ∧ max (lo.tmod (m + 1)) (hi.tmod (m + 1)) ≤ m := by
  have q1 := Int.lt_tmod_of_pos lo (show 0 < m + 1 by omega)
  have q2 := Int.tmod_lt_of_pos lo (show 0 < m + 1 by omega)
  have q3 := Int.lt_tmod_of_pos hi (show 0 < m + 1 by omega)
  have q4 := Int.tmod_lt_of_pos hi (show 0 < m + 1 by omega)
  omega

set_option maxHeartbeats 400000 in
theorem cut_any (lo hi m : Int) (w : World) (h0 : 0 ≤ m) (h1 : m ≤ 1000000000000000000) :
    Calls Tryd.prog 21 #[.agg #[.int .i64 lo, .int .i64 hi], .int .i64 m] w fun e w' => e = .returned (.agg #[.int .i64 (min (lo.tmod (m + 1)) (hi.tmod (m + 1))), .int .i64 (max (lo.tmod (m + 1)) (hi.tmod (m + 1)))]) ∧ Below w.heap.size w w' := by
  have e1 : IntKind.i64.wrap (m + 1) = m + 1 := IntWalk.i64_in _ (by omega)
  have e2 : (m + 1 == 0) = false := by simp; omega
  go_enter Tryd.func21, Tryd.ntmps21
  go_wp2
  go_quiet (fail)
  go_wp2
  go_returns
  exact ⟨rfl, (by repeat' (first | (with_reducible refine below_drewN ?_ _) | go_grown))⟩

set_option maxHeartbeats 400000 in
theorem plus_any (a b c d : Int) (w : World) (h1 : -4000000000000000000 ≤ a ∧ a ≤ 4000000000000000000) (h2 : -4000000000000000000 ≤ b ∧ b ≤ 4000000000000000000) (h3 : -4000000000000000000 ≤ c ∧ c ≤ 4000000000000000000) (h4 : -4000000000000000000 ≤ d ∧ d ≤ 4000000000000000000) :
    Calls Tryd.prog 19 #[.agg #[.int .i64 a, .int .i64 b], .agg #[.int .i64 c, .int .i64 d]] w fun e w' => e = .returned (.agg #[.int .i64 (a + c), .int .i64 (b + d)]) ∧ Below w.heap.size w w' := by
  go_enter Tryd.func19, Tryd.ntmps19
  go_wp2
  go_returns
  exact ⟨rfl, by repeat' (first | (with_reducible refine below_drewN ?_ _) | go_grown)⟩

set_option maxHeartbeats 400000 in
theorem holds_any (a b c d : Int) (w : World) :
    Calls Tryd.prog 26 #[.agg #[.int .i64 a, .int .i64 b], .agg #[.int .i64 c, .int .i64 d]] w fun e w' => e = .returned (.bool (decide (a ≤ c ∧ d ≤ b))) ∧ Below w.heap.size w w' := by
  go_enter Tryd.func26, Tryd.ntmps26
  go_wp2
  all_goals go_returns
  all_goals exact ⟨ret_bool (by simp; try omega), (by repeat' (first | (with_reducible refine below_drewN ?_ _) | go_grown))⟩

theorem holds_true (a b c d : Int) (w : World) (h1 : a ≤ c) (h2 : d ≤ b) :
    Calls Tryd.prog 26 #[.agg #[.int .i64 a, .int .i64 b], .agg #[.int .i64 c, .int .i64 d]] w fun e w' => e = .returned (.bool true) ∧ Below w.heap.size w w' :=
  (holds_any a b c d w).mono fun e w' h => ⟨by rw [h.1, decide_eq_true ⟨h1, h2⟩], h.2⟩

end Go.Proofs.YtdeoahgcppbmkaaDoor
