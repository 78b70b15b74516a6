/- What Fit tells, in one shape: either errno, the fit a function of the sums. -/
import Derived.Test.YtmeppcoekmoofaaFit
namespace Go.Proofs.Ytmeppcoekmoofaa
open Go.RowKit
set_option linter.unusedSimpArgs false
set_option linter.unusedVariables false
def resE (n : Nat) (M : Gm) : Int := if detF n M = 0 then 6 else 0
def resD (n : Nat) (M : Gm) (r : Nat → Int) : Int := if detF n M = 0 then 0 else (detF n M).tdiv (fitG (detF n M) (detN n M r) n)
def resL (n : Nat) (M : Gm) (r : Nat → Int) : List Int := if detF n M = 0 then [] else facts n M r
theorem resL_len (n : Nat) (M : Gm) (r : Nat → Int) : (resL n M r).length ≤ n := by unfold resL facts; split <;> simp
theorem fit_res {n : Nat} {M : Gm} {r : Nat → Int} {w w' : World} {e : Ending} (h : SolvePost n M r w e w') :
    Below w.heap.size w w' ∧ ∃ v, e = .returned (.tuple #[.agg #[v, .int .i64 (resD n M r)], .int .i64 (resE n M)]) ∧ w'.ownsRow w.heap.size 3 1 v (resL n M r).length ((resL n M r).map (Value.int .i64)) := by
  obtain ⟨hb, ⟨hz, rfl⟩ | ⟨hne, v, rfl, hown⟩⟩ := h
  · refine ⟨hb, .slice none 0 0, ?_, ?_⟩
    · unfold resD resE; rw [if_pos hz, if_pos hz]
    · unfold resL; rw [if_pos hz]; exact World.ownsRow_nil _ _ _ _
  · refine ⟨hb, v, ?_, ?_⟩
    · unfold resD resE; rw [if_neg hne, if_neg hne]
    · unfold resL; rw [if_neg hne]
      have e : (facts n M r).length = n := by unfold facts; simp
      rw [e]; exact hown
end Go.Proofs.Ytmeppcoekmoofaa
