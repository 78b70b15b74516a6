/- What the laws of the sky use: has, same, meets, instant. -/
import Derived.Test.YtlldmhnkaopjhaaDoorAt
import Derived.Test.YtlldmhnkaopjhaaDoorWhole
namespace Go.Proofs.YtlldmhnkaopjhaaDoor
open Go.RowKit
set_option linter.unusedSimpArgs false
set_option linter.unusedVariables false

set_option maxHeartbeats 1000000 in
theorem has_true (a b v n : Int) (w : World) (h1 : a ≤ v) (h2 : v ≤ b) (h3 : b - a ≤ n) (h4 : -4000000000000000000 ≤ a ∧ b ≤ 4000000000000000000) :
    Calls Tryd.prog 32 #[.agg #[.int .i64 a, .int .i64 b], .int .i64 v, .int .i64 n] w fun e w' => e = .returned (.bool true) ∧ Below w.heap.size w w' := by
  have e1 : wrap64 (b - a) = b - a := IntWalk.wrap64_in _ (by omega)
  clear h4
  go_enter Tryd.func32, Tryd.ntmps32
  go_wp2
  go_returns
  exact ⟨rfl, (by repeat' (first | (with_reducible refine below_drewN ?_ _) | go_grown))⟩
set_option maxHeartbeats 1000000 in
theorem meets_true (a b c d : Int) (w : World) (h1 : a ≤ d) (h2 : c ≤ b) :
    Calls Tryd.prog 27 #[.agg #[.int .i64 a, .int .i64 b], .agg #[.int .i64 c, .int .i64 d]] w fun e w' => e = .returned (.bool true) ∧ Below w.heap.size w w' := by
  go_enter Tryd.func27, Tryd.ntmps27
  go_wp2
  go_returns
  exact ⟨rfl, (by repeat' (first | (with_reducible refine below_drewN ?_ _) | go_grown))⟩
end Go.Proofs.YtlldmhnkaopjhaaDoor
