/- The contracts of 'at' and of interval.Check. -/
import Derived.Test.YtcopmgnfakjdhaaDoorRows
import Derived.Test.YtcopmgnfakjdhaaDoorPlain
import Derived.Deep.QuietTactic
import Derived.BigQuiet
namespace Go.Proofs.YtcopmgnfakjdhaaDoor
open Go.RowKit

set_option maxHeartbeats 400000 in
theorem at_any (k n : Int) (w : World) (hn : 1 ≤ n) (hn' : n ≤ 4611686018427387904) :
    Calls Tryd.prog 8 #[.int .i64 k, .int .i64 n] w fun e w' => e = .returned (.int .i64 (k % n)) ∧ w = w' := by
  go_enter Tryd.func8, Tryd.ntmps8
  go_wp2
  go_ret
  exact ⟨ret_int (at_eq k n hn hn'), rfl⟩

def chk (lo hi : Int) : Int :=
  if lo < -1000000000000000000 ∨ 1000000000000000000 < lo ∨ hi < -1000000000000000000 ∨ 1000000000000000000 < hi then 3 else if hi < lo then 9 else 0

set_option maxHeartbeats 400000 in
theorem check_any (lo hi : Int) (w : World) :
    Calls Tryd.prog 54 #[.agg #[.int .i64 lo, .int .i64 hi]] w fun e w' => e = .returned (.int .i64 (chk lo hi)) ∧ Below w.heap.size w w' := by
  have i0 : ∀ w, (Instr.index 99 (.agg #[.int .i64 lo, .int .i64 hi]) (.int .i64 0)).run Tryd.prog w = .ok (.int .i64 lo) w := fun _ => by kernel_rfl
  have i1 : ∀ w, (Instr.index 99 (.agg #[.int .i64 lo, .int .i64 hi]) (.int .i64 1)).run Tryd.prog w = .ok (.int .i64 hi) w := fun _ => by kernel_rfl
  go_enter Tryd.func54, Tryd.ntmps54
  go_wp2
  go_rounds 3
  all_goals go_returns
  all_goals exact ⟨ret_int (by unfold chk; (repeat' split) <;> omega), by go_grown⟩

end Go.Proofs.YtcopmgnfakjdhaaDoor
