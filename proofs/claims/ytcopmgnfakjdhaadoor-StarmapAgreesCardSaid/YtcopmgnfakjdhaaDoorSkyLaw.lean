/- What the laws of the sky use: has, same, meets, instant. -/
import Derived.Test.YtcopmgnfakjdhaaDoorAt
import Derived.Test.YtcopmgnfakjdhaaDoorWhole
namespace Go.Proofs.YtcopmgnfakjdhaaDoor
open Go.RowKit
set_option linter.unusedSimpArgs false
set_option linter.unusedVariables false

set_option maxHeartbeats 1000000 in
theorem has_true (a b v n : Int) (w : World) (h1 : a ≤ v) (h2 : v ≤ b) (h3 : b - a ≤ n) (h4 : -4000000000000000000 ≤ a ∧ b ≤ 4000000000000000000) :
    Calls Tryd.prog 19 #[.agg #[.int .i64 a, .int .i64 b], .int .i64 v, .int .i64 n] w fun e w' => e = .returned (.bool true) ∧ Below w.heap.size w w' := by
  have e1 : wrap64 (b - a) = b - a := IntWalk.wrap64_in _ (by omega)
  clear h4
  go_enter Tryd.func19, Tryd.ntmps19
  go_wp2
  go_returns
  exact ⟨rfl, (by repeat' (first | (with_reducible refine below_drewN ?_ _) | go_grown))⟩
set_option maxHeartbeats 1000000 in
theorem meets_true (a b c d : Int) (w : World) (h1 : a ≤ d) (h2 : c ≤ b) :
    Calls Tryd.prog 11 #[.agg #[.int .i64 a, .int .i64 b], .agg #[.int .i64 c, .int .i64 d]] w fun e w' => e = .returned (.bool true) ∧ Below w.heap.size w w' := by
  go_enter Tryd.func11, Tryd.ntmps11
  go_wp2
  go_returns
  exact ⟨rfl, (by repeat' (first | (with_reducible refine below_drewN ?_ _) | go_grown))⟩
set_option maxHeartbeats 1000000 in
theorem instant_ok (t : Int) (w : World) : Calls Tryd.prog 15 #[.int .i64 t] w fun e w' => e = .returned (.int .i64 (t % 604800000000000 - 302400000000000)) ∧ w' = w := by
  have A := Lib.hid (fun w => at_any t 604800000000000 w (by omega) (by omega))
  have b1 : 0 ≤ t % 604800000000000 := by omega
  have b2 : t % 604800000000000 < 604800000000000 := by omega
  generalize t % 604800000000000 = x at *
  go_enter Tryd.func15, Tryd.ntmps15
  go_wp2_with fail
  refine Calls.mono (A.out _) ?_
  rintro e _ ⟨rfl, rfl⟩
  go_wp2_with fail
  go_ret
  exact ⟨rfl, rfl⟩
theorem instant_in (t : Int) : instOk (t % 604800000000000 - 302400000000000) = true := by
  unfold instOk dayOk
  exact decide_eq_true (by omega)
end Go.Proofs.YtcopmgnfakjdhaaDoor
