/- How what comes in is opened: structs and slices whose cells are integers. -/
import Derived.Test.YtcopmgnfakjdhaaDoorRows
import Derived.Test.YtcopmgnfakjdhaaDoorPlain
import Derived.ProofKit
import Derived.OpenShut
import Derived.Deep.Slices
import Derived.ChangeSame
namespace Go.Proofs.YtcopmgnfakjdhaaDoor
open Go.RowKit Go.ChangeShapes Go.WideShapes Go.ChangeAt Go.Deep
set_option linter.unusedSimpArgs false
set_option linter.unusedVariables false

section
variable {H : Type} {enc : TypeId × Value → H} {P : Program} {w : World} {base : Nat} {spare : Nat → Bool} {held : Bool}

/-- A type all of whose cells are integers (of kind i64), whatever its make. -/
def Flat (P : Program) (t : TypeId) : Prop :=
  ∀ (H : Type) (enc : TypeId × Value → H) (w : World) (base : Nat) (spare : Nat → Bool) (held : Bool) (fuel : Nat) (cs : List Value) (x : DataW H × List MemPlace),
    DataW.trod enc P w base spare held fuel t cs = some x → cs.length = P.cellsOf t ∧ ∀ j, j < cs.length → ∃ z, cs[j]? = some (.int .i64 z)

theorem flat_int {P : Program} {t : TypeId} (ht : P.underlying t = some (.int .i64)) (hc : P.cellsOf t = 1) : Flat P t := by
  intro H enc w base spare held fuel cs x h
  obtain ⟨n, rfl, _, _⟩ := DataW.trod_int ht h
  refine ⟨by simp [hc], fun j hj => ?_⟩
  simp at hj
  subst hj
  exact ⟨n, rfl⟩

theorem flat_struct {P : Program} {t : TypeId} {fs : Array Field} (ht : P.underlying t = some (.struct fs)) (hf : ∀ (i : Nat) (f : Field), fs[i]? = some f → Flat P f.type)
    (hcov : ((List.range (P.cellsOf t)).all fun j => fs.toList.any fun f => decide (f.offset ≤ j) && decide (j < f.offset + P.cellsOf f.type)) = true) : Flat P t := by
  intro H enc w base spare held fuel cs x h
  obtain ⟨xs, n, _, _, hl, hxl, hx⟩ := DataW.trod_struct ht h
  refine ⟨hl, fun j hj => ?_⟩
  rw [List.all_eq_true] at hcov
  have := hcov j (by rw [List.mem_range]; omega)
  rw [List.any_eq_true] at this
  obtain ⟨f, hfm, hb⟩ := this
  simp only [Bool.and_eq_true, decide_eq_true_eq] at hb
  obtain ⟨i, hi⟩ := List.mem_iff_getElem?.1 hfm
  have hi' : fs[i]? = some f := by simpa using hi
  have h1 := hx i f hi'
  have hil : i < xs.length := by rw [hxl]; exact (Array.getElem?_eq_some_iff.1 hi').1
  rw [List.getElem?_eq_getElem hil] at h1
  obtain ⟨hl2, hz⟩ := hf i f hi' H enc w base spare held _ _ _ h1
  obtain ⟨z, hz⟩ := hz (j - f.offset) (by omega)
  refine ⟨z, ?_⟩
  rw [List.getElem?_take, if_pos (by omega), List.getElem?_drop, show f.offset + (j - f.offset) = j by omega] at hz
  exact hz

theorem flat_array {P : Program} {t e : TypeId} {n : Nat} (ht : P.underlying t = some (.array n e)) (he : Flat P e) (hc : P.cellsOf t = n * P.cellsOf e) (h0 : 0 < P.cellsOf e) : Flat P t := by
  intro H enc w base spare held fuel cs x h
  obtain ⟨xs, m, _, _, hl, hxl, hx⟩ := DataW.trod_array ht h
  refine ⟨hl, fun j hj => ?_⟩
  have hi : j / P.cellsOf e < n := by rw [Nat.div_lt_iff_lt_mul h0]; omega
  have h1 := hx (j / P.cellsOf e) hi
  rw [List.getElem?_eq_getElem (by omega)] at h1
  obtain ⟨hl2, hz⟩ := he H enc w base spare held _ _ _ h1
  have hm := Nat.div_add_mod j (P.cellsOf e)
  have hlt := Nat.mod_lt j h0
  obtain ⟨z, hz⟩ := hz (j % P.cellsOf e) (by omega)
  refine ⟨z, ?_⟩
  rw [List.getElem?_take, if_pos (by omega), List.getElem?_drop, Nat.mul_comm, hm] at hz
  exact hz

/-- A struct of integers by value: its cells. -/
theorem open_flat {r : Reach} {b0 : Nat} {t : TypeId} {fs : Array Field} {v : Value} {d : DataW H} {p : List MemPlace} (hs : P.underlying t = some (.struct fs)) (hF : Flat P t)
    (hv : Value.okWide P w r b0 t v) (h : DataW.Trod enc P w base spare held t v d p) : ∃ zs : List Int, zs.length = P.cellsOf t ∧ v = .agg (zs.map (Value.int .i64)).toArray := by
  obtain ⟨cs, rfl, hsz⟩ := okWide_struct hs hv
  obtain ⟨fuel, hf⟩ := h
  obtain ⟨hl, hz⟩ := hF H enc w base spare held fuel _ _ hf
  have hl' : cs.toList.length = P.cellsOf t := by simpa [Value.cells] using hl
  have hz' : ∀ j, j < cs.toList.length → ∃ z, cs.toList[j]? = some (.int .i64 z) := by simpa [Value.cells] using hz
  obtain ⟨f, hf⟩ := choose_lt hz'
  refine ⟨(List.range (P.cellsOf t)).map f, by simp, ?_⟩
  congr 1
  apply Array.ext'
  apply List.ext_getElem?
  intro j
  by_cases hj : j < cs.toList.length
  · rw [hf j hj]
    simp only [List.map_map]
    rw [List.getElem?_map, List.getElem?_range (by omega)]
    rfl
  · rw [List.getElem?_eq_none (by omega), List.getElem?_eq_none (by simp; omega)]

theorem open_flat2 {r : Reach} {b0 : Nat} {t : TypeId} {fs : Array Field} {v : Value} {d : DataW H} {p : List MemPlace} (hs : P.underlying t = some (.struct fs)) (hF : Flat P t) (hc : P.cellsOf t = 2)
    (hv : Value.okWide P w r b0 t v) (h : DataW.Trod enc P w base spare held t v d p) : ∃ x y, v = .agg #[.int .i64 x, .int .i64 y] := by
  obtain ⟨zs, hl, rfl⟩ := open_flat hs hF hv h
  rw [hc] at hl
  match zs, hl with
  | [x, y], _ => exact ⟨x, y, rfl⟩
theorem open_flat3 {r : Reach} {b0 : Nat} {t : TypeId} {fs : Array Field} {v : Value} {d : DataW H} {p : List MemPlace} (hs : P.underlying t = some (.struct fs)) (hF : Flat P t) (hc : P.cellsOf t = 3)
    (hv : Value.okWide P w r b0 t v) (h : DataW.Trod enc P w base spare held t v d p) : ∃ x y z, v = .agg #[.int .i64 x, .int .i64 y, .int .i64 z] := by
  obtain ⟨zs, hl, rfl⟩ := open_flat hs hF hv h
  rw [hc] at hl
  match zs, hl with
  | [x, y, z], _ => exact ⟨x, y, z, rfl⟩
theorem open_flat4 {r : Reach} {b0 : Nat} {t : TypeId} {fs : Array Field} {v : Value} {d : DataW H} {p : List MemPlace} (hs : P.underlying t = some (.struct fs)) (hF : Flat P t) (hc : P.cellsOf t = 4)
    (hv : Value.okWide P w r b0 t v) (h : DataW.Trod enc P w base spare held t v d p) : ∃ x y z u, v = .agg #[.int .i64 x, .int .i64 y, .int .i64 z, .int .i64 u] := by
  obtain ⟨zs, hl, rfl⟩ := open_flat hs hF hv h
  rw [hc] at hl
  match zs, hl with
  | [x, y, z, u], _ => exact ⟨x, y, z, u, rfl⟩

/-- A slice of elements of sz integers each, as the walk is told of it: n elements, their numbers in a row. -/
structure FlatSl (w : World) (sz : Nat) (a : Option Addr) (n cap : Nat) (zs : List Int) : Prop where
  le : n ≤ cap
  most : cap ≤ maxLen
  len : zs.length = n * sz
  at' : 0 < n → ∃ b off, a = some ⟨b, off, none⟩ ∧ ∀ j, j < n * sz → w.cell? ⟨b, off + j, none⟩ = some (.int .i64 (ix zs j))

theorem open_flat_slice {t e : TypeId} {sz : Nat} {a : Option Addr} {n cap : Nat} {d : DataW H} {p : List MemPlace} (ht : P.underlying t = some (.slice e)) (hF : Flat P e) (hsz : P.cellsOf e = sz) (h0 : 0 < sz)
    (h : DataW.Trod enc P w base (fun _ => true) held t (.slice a n cap) d p) : ∃ zs, FlatSl w sz a n cap zs := by
  subst hsz
  obtain ⟨fuel, hf⟩ := h
  rcases open_slice ht hf with ⟨hcs, _⟩ | ⟨x, l, c, m, k, D, Pl, hcs, _, hl, hm, hmm, _, hx⟩
  · simp [Value.cells] at hcs
    obtain ⟨rfl, rfl, rfl⟩ := hcs
    exact ⟨[], by omega, by simp [maxLen], by simp, fun h => absurd h (by omega)⟩
  · simp [Value.cells] at hcs
    obtain ⟨rfl, rfl, rfl⟩ := hcs
    simp only [if_true] at hmm
    subst hmm
    have key : ∀ j, j < n * P.cellsOf e → ∃ z, w.cell? (x.add j) = some (.int .i64 z) := by
      intro j hj
      have hi : j / P.cellsOf e < n := by rw [Nat.div_lt_iff_lt_mul h0]; omega
      obtain ⟨cs', h1, h2⟩ := hx (j / P.cellsOf e) (by omega)
      obtain ⟨_, hcl, hat⟩ := World.cells?_some h1
      obtain ⟨_, hz⟩ := hF H enc w base (fun _ => true) held _ _ _ h2
      have hmod := Nat.div_add_mod j (P.cellsOf e)
      have hlt := Nat.mod_lt j h0
      obtain ⟨z, hz⟩ := hz (j % P.cellsOf e) (by omega)
      refine ⟨z, ?_⟩
      have := hat (j % P.cellsOf e) hlt
      rw [Go.Deep.add_add, hz, show j / P.cellsOf e * P.cellsOf e + j % P.cellsOf e = j by rw [Nat.mul_comm]; exact hmod] at this
      exact this
    obtain ⟨f, hf⟩ := choose_lt key
    refine ⟨(List.range (n * P.cellsOf e)).map f, hl, hm, by simp, fun hn => ?_⟩
    have h00 := hf 0 (Nat.mul_pos hn h0)
    obtain ⟨b, off, spot⟩ := x
    have hspot : spot = none := by simpa [Addr.add] using World.cell?_spot h00
    subst hspot
    refine ⟨b, off, rfl, fun j hj => ?_⟩
    have := hf j hj
    rw [add_plain] at this
    rw [this]
    simp [ix, List.getD, hj]
end

theorem flatInt : Flat Tryd.prog 3 := flat_int Tryd.underlying3 (by kernel_rfl)

end Go.Proofs.YtcopmgnfakjdhaaDoor
