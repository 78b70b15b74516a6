/- The contracts of the small functions. -/
import Derived.Test.YtocdboopmfgkpaaDoorRows
import Derived.Test.YtocdboopmfgkpaaDoorAt
import Derived.Deep.QuietTactic
import Derived.BigQuiet
import Derived.Deep.RegionWith
import Derived.StillTailTactics
namespace Go.Proofs.YtocdboopmfgkpaaDoor
open Go.RowKit

def timesF (lo hi : Int) : Int :=
  if lo < -100000000000000000 ∨ 100000000000000000 < hi then 3 else chk lo hi


set_option maxHeartbeats 400000 in
theorem div_any (a b : Int) (w : World) (hb : 1 ≤ b) (ha : -9000000000000000000 ≤ a) (ha' : a ≤ 9000000000000000000) (hb' : b ≤ 9000000000000000000) :
    Calls Tryd.prog 41 #[.int .i64 a, .int .i64 b] w fun e w' => e = .returned (.tuple #[.int .i64 (a / b), .int .i64 (a % b), .int .i64 0]) ∧ ∃ n, w' = w.drewN n := by
  have q1 : -9000000000000000000 ≤ a.tdiv b ∧ a.tdiv b ≤ 9000000000000000000 := tdiv_bounds a b ha ha'
  have hw : IntKind.i64.wrap (a.tdiv b) = a.tdiv b := IntWalk.i64_in _ (by omega)
  have r1 : -b < a.tmod b := Int.lt_tmod_of_pos a (by omega)
  have r2 : a.tmod b < b := Int.tmod_lt_of_pos a (by omega)
  go_enter Tryd.func41, Tryd.ntmps41
  go_wp2
  go_quiet (fail)
  have hb0 : decide (b < 0) = false := decide_eq_false (by omega)
  by_cases h0 : a.tmod b < 0
  · have h1 : (a.tmod b != 0) = true := by rw [bne_iff_ne]; omega
    go_wp2
    go_returns
    have key := tdiv_key a b hb
    exact ⟨ret_tup3 (key.2 h0).1 (key.2 h0).2 rfl, _, rfl⟩
  · go_wp2
    all_goals go_returns
    all_goals have key := tdiv_key a b hb
    all_goals exact ⟨ret_tup3 (key.1 (by omega)).1 (by have := (key.1 (by omega)).2; omega) rfl, _, rfl⟩

set_option maxHeartbeats 400000 in
theorem down_any (a b : Int) (w : World) (hb : 1 ≤ b) (ha : -9000000000000000000 ≤ a) (ha' : a ≤ 9000000000000000000) (hb' : b ≤ 9000000000000000000) :
    Calls Tryd.prog 49 #[.int .i64 a, .int .i64 b] w fun e w' => e = .returned (.int .i64 (a / b)) ∧ ∃ n, w' = w.drewN n := by
  go_enter Tryd.func49, Tryd.ntmps49
  go_wp2_with (go_at_call 41; refine (div_any _ _ _ hb ha ha' hb').mono ?_; rintro e w1 ⟨rfl, n, rfl⟩)
  go_returns
  exact ⟨rfl, _, rfl⟩

set_option maxHeartbeats 400000 in
theorem up_any (a b : Int) (w : World) (hb : 1 ≤ b) (ha : -9000000000000000000 ≤ a) (ha' : a ≤ 9000000000000000000) (hb' : b ≤ 9000000000000000000) :
    Calls Tryd.prog 46 #[.int .i64 a, .int .i64 b] w fun e w' => e = .returned (.int .i64 (upQ a b)) ∧ ∃ n, w' = w.drewN n := by
  have q1 : -9000000000000000000 ≤ (-a) / b ∧ (-a) / b ≤ 9000000000000000000 := ediv_bounds (-a) b hb (by omega) (by omega)
  go_enter Tryd.func46, Tryd.ntmps46
  go_wp2_with (go_at_call 49; refine (down_any _ _ _ hb (by omega) (by omega) hb').mono ?_; rintro e w1 ⟨rfl, n, rfl⟩)
  go_returns
  exact ⟨rfl, _, rfl⟩

set_option maxHeartbeats 400000 in
theorem isDrift_any (n : Int) (w : World) :
    Calls Tryd.prog 44 #[.int .i64 n] w fun e w' => e = .returned (.bool (decide (0 ≤ n ∧ n ≤ 100000))) ∧ w = w' := by
  go_enter Tryd.func44, Tryd.ntmps44
  go_wp2
  all_goals go_returns
  all_goals exact ⟨ret_bool (by simp; try omega), rfl⟩

set_option maxHeartbeats 400000 in
theorem isTick_any (n : Int) (w : World) :
    Calls Tryd.prog 45 #[.int .i64 n] w fun e w' => e = .returned (.bool (decide (0 ≤ n ∧ n ≤ 1000000000000))) ∧ w = w' := by
  go_enter Tryd.func45, Tryd.ntmps45
  go_wp2
  all_goals go_returns
  all_goals exact ⟨ret_bool (by simp; try omega), rfl⟩

def elLo (d t : Int) : Int := t * 1000000 / (1000000 + d)
def elHi (d t : Int) : Int := upQ (t * 1000000) (1000000 - d)

set_option maxHeartbeats 400000 in
theorem elapsed_any (d t : Int) (w : World) (h0 : 0 ≤ d) (h1 : d ≤ 100000) (h2 : 0 ≤ t) (h3 : t ≤ 1000000000000) :
    Calls Tryd.prog 35 #[.int .i64 d, .int .i64 t] w fun e w' => e = .returned (.tuple #[.agg #[.int .i64 (elLo d t), .int .i64 (elHi d t)], .int .i64 0]) ∧ Below w.heap.size w w' := by
  go_enter Tryd.func35, Tryd.ntmps35
  go_wp2_with (first
    | (go_at_call 44; refine (isDrift_any _ _).mono ?_; rintro e w1 ⟨rfl, rfl⟩)
    | (go_at_call 45; refine (isTick_any _ _).mono ?_; rintro e w1 ⟨rfl, rfl⟩))
  have q0 : 0 ≤ t * 1000000 / (1000000 + d) ∧ t * 1000000 / (1000000 + d) ≤ 1000000000000000000 := by
    have := ediv_bounds (t * 1000000) (1000000 + d) (m := 1000000000000000000) (by omega) (by omega) (by omega)
    have h2 := Int.ediv_nonneg (show 0 ≤ t * 1000000 by omega) (show 0 ≤ 1000000 + d by omega)
    omega
  have e1 : IntKind.i64.wrap (1000000 + d) = 1000000 + d := IntWalk.i64_in _ (by omega)
  have e2 : IntKind.i64.wrap (1000000 - d) = 1000000 - d := IntWalk.i64_in _ (by omega)
  have e3 : (1000000 + d == 0) = false := by simp; omega
  have e4 : (t * 1000000).tdiv (1000000 + d) = t * 1000000 / (1000000 + d) := Int.tdiv_eq_ediv_of_nonneg (by omega)
  have e5 : IntKind.i64.wrap (t * 1000000 / (1000000 + d)) = t * 1000000 / (1000000 + d) := IntWalk.i64_in _ (by omega)
  go_region_with ((go_at_call 46; refine (up_any _ _ _ (by omega) (by omega) (by omega) (by omega)).mono ?_; rintro e w1 ⟨rfl, n, rfl⟩))
  all_goals go_wp2
  all_goals go_returns
  all_goals exact ⟨rfl, by repeat' (first | (with_reducible refine below_drewN ?_ _) | go_grown)⟩

end Go.Proofs.YtocdboopmfgkpaaDoor
