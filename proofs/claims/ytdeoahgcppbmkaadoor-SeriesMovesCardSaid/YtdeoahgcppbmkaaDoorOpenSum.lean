/- How what comes in is opened: a sum of a series by value. -/
import Derived.Test.YtdeoahgcppbmkaaDoorOpen
import Derived.Lib.SmallJoins
namespace Go.Proofs.YtdeoahgcppbmkaaDoor
open Go.RowKit Go.ChangeShapes Go.WideShapes Go.ChangeAt Go.Deep Go.Joins
set_option linter.unusedSimpArgs false
set_option linter.unusedVariables false
set_option maxRecDepth 100000

section
variable {H : Type} {enc : TypeId × Value → H} {P : Program} {w : World} {base : Nat} {held : Bool}
/-- A slice of elements of integers, by its cells. -/
theorem flat_cellsS {t e : TypeId} {sz fuel : Nat} {cs : List Value} {d : DataW H × List MemPlace} (ht : P.underlying t = some (.slice e)) (hF : Flat P e) (hsz : P.cellsOf e = sz) (h0 : 0 < sz)
    (hf : DataW.trod enc P w base (fun _ => true) held fuel t cs = some d) : ∃ a n cap zs, cs = [.slice a n cap] ∧ FlatSl w sz a n cap zs := by
  subst hsz
  rcases open_slice ht hf with ⟨hcs, _⟩ | ⟨x, l, c, m, k, D, Pl, hcs, _, hl, hm, hmm, _, hx⟩
  · exact ⟨none, 0, 0, [], hcs, by omega, by simp [maxLen], by simp, fun h => absurd h (by omega)⟩
  · simp only [if_true] at hmm
    subst hmm
    have key : ∀ j, j < l * P.cellsOf e → ∃ z, w.cell? (x.add j) = some (.int .i64 z) := by
      intro j hj
      have hi : j / P.cellsOf e < l := by rw [Nat.div_lt_iff_lt_mul h0]; omega
      obtain ⟨cs', h1, h2⟩ := hx (j / P.cellsOf e) (by omega)
      obtain ⟨_, hcl, hat⟩ := World.cells?_some h1
      obtain ⟨_, hz⟩ := hF H enc w base (fun _ => true) held _ _ _ h2
      have hmod := Nat.div_add_mod j (P.cellsOf e)
      have hlt := Nat.mod_lt j h0
      obtain ⟨z, hz⟩ := hz (j % P.cellsOf e) (by omega)
      refine ⟨z, ?_⟩
      have := hat (j % P.cellsOf e) hlt
      rw [Go.Deep.add_add, hz, show j / P.cellsOf e * P.cellsOf e + j % P.cellsOf e = j by rw [Nat.mul_comm]; exact hmod] at this
      exact this
    obtain ⟨f, hf⟩ := choose_lt key
    refine ⟨some x, l, m, (List.range (l * P.cellsOf e)).map f, hcs, hl, hm, by simp, fun hn => ?_⟩
    have h00 := hf 0 (Nat.mul_pos hn h0)
    obtain ⟨b, off, spot⟩ := x
    have hspot : spot = none := by simpa [Addr.add] using World.cell?_spot h00
    subst hspot
    refine ⟨b, off, rfl, fun j hj => ?_⟩
    have := hf j hj
    rw [add_plain] at this
    rw [this]
    simp [ix, List.getD, hj]

end
theorem flatTerm : Flat Tryd.prog 87 :=
  flat_struct Tryd.underlying87 (by intro i f hf; match i, hf with | 0, hf => (cases hf; exact flatInt) | 1, hf => (cases hf; exact flatInt) | 2, hf => (cases hf; exact flatInt) | (n + 3), hf => (simp at hf)) (by kernel_rfl)
section
variable {H : Type} {enc : TypeId × Value → H} {w : World} {base : Nat} {held : Bool}
theorem open_sum {r : Reach} {b0 : Nat} {v : Value} {d : DataW H} {p : List MemPlace} (hv : Value.okWide Tryd.prog w r b0 46 v) (h : DataW.Trod enc Tryd.prog w base (fun _ => true) held 46 v d p) :
    ∃ (m q z : Int) (A : Option Addr) (n cap : Nat) (zs : List Int), v = .agg #[.int .i64 m, .int .i64 q, .slice A n cap, .int .i64 z] ∧ FlatSl w 3 A n cap zs := by
  obtain ⟨v0, v1, v2, v3, y0, y1, y2, y3, k, rfl, _, _, h0, h1, h2, h3⟩ := open_agg4 Tryd.underlying46 (by kernel_rfl) (by kernel_rfl) hv h
  obtain ⟨m, e0, _, _⟩ := DataW.trod_int Tryd.underlying3 h0
  obtain ⟨q, e1, _, _⟩ := DataW.trod_int Tryd.underlying3 h1
  obtain ⟨A, n, cap, zs, e2, hf⟩ := flat_cellsS Tryd.underlying44 flatTerm (by kernel_rfl : Tryd.prog.cellsOf 87 = 3) (by decide) h2
  obtain ⟨z, e3, _, _⟩ := DataW.trod_int Tryd.underlying3 h3
  simp only [List.cons.injEq, and_true] at e0 e1 e2 e3
  subst e0 e1 e2 e3
  exact ⟨m, q, z, A, n, cap, zs, rfl, hf⟩
end
end Go.Proofs.YtdeoahgcppbmkaaDoor
