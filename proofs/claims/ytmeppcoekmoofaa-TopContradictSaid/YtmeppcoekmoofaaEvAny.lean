/- events, of whatever came in: one contract. -/
import Derived.Test.YtmeppcoekmoofaaEvLaw
namespace Go.Proofs.Ytmeppcoekmoofaa
open Go.RowKit
set_option linter.unusedVariables false

/-- How many constraints events makes. -/
def evQ (nd ml : Nat) : Nat := if nd < 2 then 0 else min ml 20
theorem evQ_facts (nd ml : Nat) : evQ nd ml ≤ 20 ∧ (2 ≤ min nd 8 ∨ evQ nd ml = 0) := by
  unfold evQ
  split
  · exact ⟨by omega, Or.inr rfl⟩
  · exact ⟨by omega, Or.inl (by omega)⟩

theorem events_any (Ad : Option Addr) (nd capd : Nat) (zd : List Int) (Al : Option Addr) (ml capl : Nat) (zl : List Int) (w : World) (hd : FlatSl w 1 Ad nd capd zd) (hl : FlatSl w 4 Al ml capl zl) :
    Calls Try.prog 16 #[.slice Ad nd capd, .slice Al ml capl] w (EvPost zd zl (min nd 8) (evQ nd ml) w) := by
  by_cases h : nd < 2
  · have e1 : min nd 8 = nd := by omega
    have e2 : evQ nd ml = 0 := by unfold evQ; rw [if_pos h]
    rw [e1, e2]
    exact events_few Ad nd capd zd Al ml capl zl w hl h
  · have e2 : evQ nd ml = min ml 20 := by unfold evQ; rw [if_neg h]
    rw [e2]
    exact events_many Ad nd capd zd Al ml capl zl w hd hl (by omega)

theorem evL_zero (zd zl : List Int) (n : Nat) : evL zd zl n 0 = [] := rfl
theorem evA_ok (zd zl : List Int) {n q : Nat} (h1 : 1 ≤ n) (h8 : n ≤ 8) (hq : q ≤ 20) (hh : 2 ≤ n ∨ q = 0) : ChronOk n (evL zd zl n q) := by
  rcases hh with hh | rfl
  · exact evL_ok zd zl hh h8 hq
  · exact ⟨h1, by omega, by simp [evL_zero], by simp [evL_zero]⟩
theorem evA_sat (zd zl : List Int) {n q : Nat} (hh : 2 ≤ n ∨ q = 0) : ∀ c, c ∈ evL zd zl n q → Sat (evD zd) c := by
  rcases hh with hh | rfl
  · exact fun c hc => (ev_each zd zl n q hh c hc).2.1
  · simp [evL_zero]
theorem evA_free (zd zl : List Int) {n q : Nat} (hh : 2 ≤ n ∨ q = 0) : Free n (evL zd zl n q) ∧ Leq n (Pot (evD zd)) (fin n (evL zd zl n q)) :=
  sat_free (fun i j _ _ => evD_far zd i j) (evA_sat zd zl hh)
theorem evA_within (zd zl : List Int) {n q : Nat} (hh : 2 ≤ n ∨ q = 0) : Within n 20100 (evL zd zl n q) := by
  rcases hh with hh | rfl
  · exact evL_within zd zl hh
  · exact ⟨by omega, by unfold far; omega, by simp [evL_zero]⟩
theorem evA_closed (zd zl : List Int) {n q : Nat} (h8 : n ≤ 8) (hh : 2 ≤ n ∨ q = 0) : Cl n (fin n (evL zd zl n q)) :=
  fin_closed (evA_within zd zl hh) (evL_pow h8 20100 (by omega) (by omega)) (evA_free zd zl hh).1

end Go.Proofs.Ytmeppcoekmoofaa
