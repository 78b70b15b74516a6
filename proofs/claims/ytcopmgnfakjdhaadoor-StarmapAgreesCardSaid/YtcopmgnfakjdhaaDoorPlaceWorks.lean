/- placeWorks, site. -/
import Derived.Test.YtcopmgnfakjdhaaDoorHeight
import Derived.Test.YtcopmgnfakjdhaaDoorSkyLaw
namespace Go.Proofs.YtcopmgnfakjdhaaDoor
open Go.RowKit
set_option linter.unusedSimpArgs false
set_option linter.unusedVariables false
theorem pwSid : sdLo 0 0 = 275313108 ∧ sdHi 0 0 = 275313108 := by decide +kernel
theorem pwUp : upLo 125000000 (hhLo 0 0 275313108) (hhHi 0 0 275313108) 125000000 125000000 ≤ 1000000000 ∧ upHi 125000000 (hhLo 0 0 275313108) (hhHi 0 0 275313108) 125000000 125000000 = 1000000000 ∧ 1000000000 - 30 ≤ upLo 125000000 (hhLo 0 0 275313108) (hhHi 0 0 275313108) 125000000 125000000 := by decide +kernel
set_option maxHeartbeats 1000000 in
theorem site_ok (x y : Int) (w : World) : Calls Tryd.prog 14 #[.agg #[.int .i64 x, .int .i64 y]] w fun e w' => e = .returned (.agg #[.int .i64 (x.tmod 500000001), .int .i64 (y.tmod 220000001)]) ∧ Below w.heap.size w w' := by
  go_enter Tryd.func14, Tryd.ntmps14
  go_wp2_with fail
  refine bodyPost_ret (v := .agg #[.int .i64 (x.tmod 500000001), .int .i64 (y.tmod 220000001)]) ?_ rfl ⟨rfl, (by repeat' (first | (with_reducible refine below_drewN ?_ _) | go_grown))⟩
  simp [results, Tryd.results14, go_sem, *]
theorem site_pl (x y : Int) : PlOk (x.tmod 500000001) (y.tmod 220000001) := by
  have h1 := Int.lt_tmod_of_pos x (show (0 : Int) < 500000001 by omega)
  have h2 := Int.tmod_lt_of_pos x (show (0 : Int) < 500000001 by omega)
  have h3 := Int.lt_tmod_of_pos y (show (0 : Int) < 220000001 by omega)
  have h4 := Int.tmod_lt_of_pos y (show (0 : Int) < 220000001 by omega)
  exact ⟨by omega, by omega, by omega, by omega⟩
end Go.Proofs.YtcopmgnfakjdhaaDoor
