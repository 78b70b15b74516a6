/- Package ephemeristop: sSite. -/
import Derived.Test.YtcopmgnfakjdhaaGreatDoorLooks
import Derived.Test.YtcopmgnfakjdhaaGreatDoorTopSky
namespace Go.Proofs.YtcopmgnfakjdhaaGreatDoor
open Go.RowKit
set_option linter.unusedSimpArgs false
set_option linter.unusedVariables false
theorem ssite_ok (x y : Int) (w : World) : Calls Tryz.prog 27 #[.agg #[.int .i64 x, .int .i64 y]] w fun e w' => e = .returned (.agg #[.int .i64 (x.tmod 500000001), .int .i64 (y.tmod 220000001)]) ∧ Below w.heap.size w w' := by
  go_enter Tryz.func27, Tryz.ntmps27
  go_wp2_with fail
  refine bodyPost_ret (v := .agg #[.int .i64 (x.tmod 500000001), .int .i64 (y.tmod 220000001)]) ?_ rfl ⟨rfl, (by repeat' (first | (with_reducible refine below_drewN ?_ _) | go_grown))⟩
  simp [results, Tryz.results27, go_sem, *]
end Go.Proofs.YtcopmgnfakjdhaaGreatDoor
