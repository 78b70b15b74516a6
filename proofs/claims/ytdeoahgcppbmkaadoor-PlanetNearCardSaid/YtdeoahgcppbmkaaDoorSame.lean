/- Two intervals of angles that have a number in common. -/
import Derived.Test.YtdeoahgcppbmkaaDoorSkyLaw
import Derived.Test.YtdeoahgcppbmkaaDoorAt
namespace Go.Proofs.YtdeoahgcppbmkaaDoor
open Go.RowKit
set_option linter.unusedSimpArgs false
set_option linter.unusedVariables false
/-- Two angles whose intervals have a number in common. -/
theorem same_pt {a b c d m : Int} (h1 : c + 1000000000 * m ≤ b) (h2 : a ≤ d + 1000000000 * m) : (c - a) % 1000000000 ≤ b - a ∨ 1000000000 - (d - c) ≤ (c - a) % 1000000000 := by omega
theorem same_any (a b c d : Int) (w : World) (h1 : -1000000000000000000 ≤ a ∧ a ≤ 1000000000000000000) (h2 : -1000000000000000000 ≤ c ∧ c ≤ 1000000000000000000) (h3 : -1000000000000000000 ≤ b ∧ b ≤ 1000000000000000000) (h4 : -1000000000000000000 ≤ d ∧ d ≤ 1000000000000000000) (h : (c - a) % 1000000000 ≤ b - a ∨ 1000000000 - (d - c) ≤ (c - a) % 1000000000) :
    Calls Tryd.prog 27 #[.agg #[.int .i64 a, .int .i64 b], .agg #[.int .i64 c, .int .i64 d]] w fun e w' => e = .returned (.bool true) ∧ Below w.heap.size w w' := by
  by_cases g : (c - a) % 1000000000 ≤ b - a
  · exact same_true a b c d w (by omega) (by omega) (by omega) g
  · have A := Lib.hid (fun w => at_any (c - a) 1000000000 w (by omega) (by omega))
    have b1 : 0 ≤ (c - a) % 1000000000 := by omega
    have h' : 1000000000 - (d - c) ≤ (c - a) % 1000000000 := by omega
    obtain ⟨h11, h12⟩ := h1; obtain ⟨h21, h22⟩ := h2; obtain ⟨h31, h32⟩ := h3; obtain ⟨h41, h42⟩ := h4
    clear h
    generalize (c - a) % 1000000000 = x at *
    go_enter Tryd.func27, Tryd.ntmps27
    go_wp2_with fail
    refine Calls.mono (A.out _) ?_
    rintro e _ ⟨rfl, rfl⟩
    go_wp2_with fail
    go_returns
    exact ⟨rfl, (by repeat' (first | (with_reducible refine below_drewN ?_ _) | go_grown))⟩
end Go.Proofs.YtdeoahgcppbmkaaDoor
