/- How an array of two integers that came in by value is opened. -/
import Derived.Test.YtmeppcoekmoofaaOpen
namespace Go.Proofs.Ytmeppcoekmoofaa
open Go.RowKit Go.ChangeShapes Go.WideShapes Go.ChangeAt Go.Deep
set_option linter.unusedSimpArgs false
set_option linter.unusedVariables false
section
variable {H : Type} {enc : TypeId × Value → H} {P : Program} {w : World} {base : Nat} {spare : Nat → Bool} {held : Bool}
theorem open_flat_arr2 {r : Reach} {b0 : Nat} {t e : TypeId} {n : Nat} {v : Value} {d : DataW H} {p : List MemPlace} (hs : P.underlying t = some (.array n e)) (hF : Flat P t) (hc : P.cellsOf t = 2)
    (hv : Value.okWide P w r b0 t v) (h : DataW.Trod enc P w base spare held t v d p) : ∃ x y, v = .agg #[.int .i64 x, .int .i64 y] := by
  obtain ⟨cs, rfl, hsz⟩ : ∃ cs, v = .agg cs ∧ cs.size = P.cellsOf t := by
    simp only [Value.okWide, hs] at hv
    obtain ⟨cs, h1, h2, _⟩ := hv
    exact ⟨cs, h1, h2⟩
  obtain ⟨fuel, hf⟩ := h
  obtain ⟨hl, hz⟩ := hF H enc w base spare held fuel _ _ hf
  have hl' : cs.toList.length = 2 := by rw [Array.length_toList, hsz, hc]
  have hz' : ∀ j, j < cs.toList.length → ∃ z, cs.toList[j]? = some (.int .i64 z) := by simpa [Value.cells] using hz
  obtain ⟨l⟩ := cs
  match l, hl' with
  | [u, v], _ =>
    obtain ⟨x, hx⟩ := hz' 0 (by simp)
    obtain ⟨y, hy⟩ := hz' 1 (by simp)
    simp at hx hy
    subst hx; subst hy
    exact ⟨x, y, rfl⟩
end
end Go.Proofs.Ytmeppcoekmoofaa
