/- From what a row lists of package variables (plain data) to the cells. -/
import Derived.Test.YtdifeoahaegjbaaGreatDoorRows
import Derived.Lib.LaidTab
import Derived.ChangeArms
import Derived.FnLit
import Derived.LaidMore
import Derived.OpenShut
namespace Go.Proofs.YtdifeoahaegjbaaGreatDoor
set_option linter.unusedSimpArgs false
set_option linter.unusedVariables false

/-- Fields one behind the other. -/
def contig (P : Program) : List Field → Nat → Nat → Bool
  | [], o, n => o == n
  | f :: fs, o, n => f.offset == o && contig P fs (o + P.cellsOf f.type) n
/-- A type of plain data. -/
def okTy (P : Program) : Nat → TypeId → Bool
  | 0, _ => false
  | k + 1, t => match P.underlying t with
    | some .bool => true
    | some (.int _) => true
    | some (.float _) => true
    | some .string => true
    | some (.struct fs) => contig P fs.toList 0 (P.cellsOf t) && fs.toList.all fun f => okTy P k f.type
    | some (.array n e) => P.cellsOf t == n * P.cellsOf e && okTy P k e
    | _ => false
mutual
def flatD {H : Type} : DataW H → List Value
  | .lit l => [l.value]
  | .agg ds => flatAllD ds
  | _ => []
def flatAllD {H : Type} : List (DataW H) → List Value
  | [] => []
  | d :: ds => flatD d ++ flatAllD ds
end
theorem flatAllD_map {H α : Type} (f : α → DataW H) (l : List α) : flatAllD (l.map f) = l.flatMap fun x => flatD (f x) := by
  induction l with
  | nil => rfl
  | cons x l ih => show flatD (f x) ++ flatAllD (l.map f) = _; rw [ih]; rfl
theorem chunks {cs : List Value} (k : Nat) : ∀ (n o : Nat), cs.length = o + n * k → cs.drop o = (List.range n).flatMap fun i => (cs.drop (o + i * k)).take k
  | 0, o, h => by simp at h; simp [h]
  | n + 1, o, h => by
    have ih := chunks (cs := cs) k n (o + k) (by rw [h, Nat.add_mul]; omega)
    have e : cs.drop o = (cs.drop o).take k ++ cs.drop (o + k) := by rw [← List.drop_drop, List.take_append_drop]
    rw [e, ih, List.range_succ_eq_map, List.flatMap_cons]
    simp only [Nat.zero_mul, Nat.add_zero, List.flatMap_map]
    congr 1
    congr 1
    funext i
    have : o + k + i * k = o + (i + 1) * k := by rw [Nat.add_mul]; omega
    rw [this]
theorem fields_chunks {P : Program} {cs : List Value} : ∀ (fs : List Field) (o : Nat), contig P fs o cs.length = true → cs.drop o = fs.flatMap fun f => (cs.drop f.offset).take (P.cellsOf f.type)
  | [], o, h => by
    have : o = cs.length := by simpa [contig] using h
    simp [this]
  | f :: fs, o, h => by
    simp only [contig, Bool.and_eq_true, beq_iff_eq] at h
    have ih := fields_chunks (cs := cs) fs _ h.2
    rw [List.flatMap_cons, ← ih, h.1, ← List.drop_drop, List.take_append_drop]
theorem flat_zip {α β : Type} {g : α → List Value} {q : β → List Value} : ∀ {l : List α} {r : List β}, l.length = r.length → (∀ (i : Nat) (a : α) (b : β), l[i]? = some a → r[i]? = some b → g a = q b) → l.flatMap g = r.flatMap q
  | [], [], _, _ => rfl
  | [], _ :: _, h, _ => by simp at h
  | _ :: _, [], h, _ => by simp at h
  | a :: l, b :: r, h, hg => by
    rw [List.flatMap_cons, List.flatMap_cons, hg 0 a b (by simp) (by simp), flat_zip (by simpa using h) (fun i a b ha hb => hg (i + 1) a b (by simpa using ha) (by simpa using hb))]
theorem DataW.trod_bool' {H : Type} {enc : TypeId × Value → H} {P : Program} {w : World} {base : Nat} {spare : Nat → Bool} {held : Bool} {fuel : Nat} {t : TypeId} {cs : List Value} {x : DataW H × List MemPlace} (ht : P.underlying t = some .bool) (h : DataW.trod enc P w base spare held fuel t cs = some x) : ∃ b, cs = [.bool b] ∧ x = (.lit (.bool b), []) := by
  cases fuel with
  | zero => simp [DataW.trod] at h
  | succ n =>
    unfold DataW.trod at h
    rw [ht] at h
    split at h <;> simp_all
theorem DataW.trod_float' {H : Type} {enc : TypeId × Value → H} {P : Program} {w : World} {base : Nat} {spare : Nat → Bool} {held : Bool} {fuel : Nat} {t : TypeId} {k : FloatKind} {cs : List Value} {x : DataW H × List MemPlace} (ht : P.underlying t = some (.float k)) (h : DataW.trod enc P w base spare held fuel t cs = some x) : ∃ b, cs = [.float k b] ∧ x = (.lit (.float k b), []) := by
  cases fuel with
  | zero => simp [DataW.trod] at h
  | succ n =>
    unfold DataW.trod at h
    rw [ht] at h
    split at h <;> simp_all
theorem plain_cells {H : Type} {enc : TypeId × Value → H} {P : Program} {w : World} {base : Nat} {sp : Nat → Bool} {held : Bool} : ∀ (k : Nat) (fuel : Nat) (t : TypeId) (cs : List Value) (d : DataW H) (p : List MemPlace),
    okTy P k t = true → DataW.trod enc P w base sp held fuel t cs = some (d, p) → cs = flatD d
  | 0, _, _, _, _, _, h, _ => by simp [okTy] at h
  | k + 1, fuel, t, cs, d, p, hk, h => by
    unfold okTy at hk
    cases hu : P.underlying t with
    | none => rw [hu] at hk; simp at hk
    | some u =>
      rw [hu] at hk
      cases u with
      | bool => obtain ⟨b, rfl, hx⟩ := DataW.trod_bool' hu h; cases hx; rfl
      | int ki => obtain ⟨n, rfl, hx, _⟩ := DataW.trod_int hu h; cases hx; rfl
      | float kf => obtain ⟨n, rfl, hx⟩ := DataW.trod_float' hu h; cases hx; rfl
      | string =>
        obtain ⟨s, rfl, hx, _⟩ := DataW.trod_string hu h; cases hx
        show [Value.string s] = [(Lit.string s.data.toList).value]
        rw [Lit.value_string_data]
      | struct fs =>
        obtain ⟨xs, n, rfl, hx, hl, hxl, hf⟩ := DataW.trod_struct hu h
        cases hx
        simp only [Bool.and_eq_true, List.all_eq_true] at hk
        have hc := fields_chunks (P := P) (cs := cs) fs.toList 0 (by rw [hl]; exact hk.1)
        rw [List.drop_zero] at hc
        show cs = flatAllD (xs.map (·.1))
        rw [flatAllD_map, hc]
        refine flat_zip (by simp [hxl]) (fun i f x hfi hxi => ?_)
        have h1 := hf i f (by simpa using hfi)
        rw [hxi] at h1
        exact plain_cells k n f.type _ x.1 x.2 (hk.2 f (List.mem_of_getElem? hfi)) h1
      | array n e =>
        obtain ⟨xs, m, rfl, hx, hl, hxl, hf⟩ := DataW.trod_array hu h
        cases hx
        simp only [Bool.and_eq_true, beq_iff_eq] at hk
        have hc := chunks (cs := cs) (P.cellsOf e) n 0 (by rw [hl, hk.1]; omega)
        rw [List.drop_zero] at hc
        show cs = flatAllD (xs.map (·.1))
        rw [flatAllD_map, hc]
        refine flat_zip (by simp [hxl]) (fun i j x hij hxi => ?_)
        have hin : i < n := by
          rcases Nat.lt_or_ge i n with c | c
          · exact c
          · rw [List.getElem?_eq_none (by simpa using c)] at hij; cases hij
        have hji : j = i := by rw [List.getElem?_range hin] at hij; cases hij; rfl
        subst hji
        have h1 := hf j hin
        rw [hxi] at h1
        have e0 : 0 + j * P.cellsOf e = j * P.cellsOf e := by omega
        rw [e0]
        exact plain_cells k m e _ x.1 x.2 hk.2 h1
      | _ => simp at hk
/-- A listed variable of plain data holds these cells. -/
theorem var_cells {P : Program} {W : World} {name : String} {g : Nat} {t : TypeId} {d : DataW Unit} {cs : Array Value} {fuel : Nat} {p : List MemPlace} {base : Nat} {sp : Nat → Bool} {held : Bool} {enc : TypeId × Value → Unit}
    (hg : P.globalNamed name = some g) (hv : W.var? P name = some cs) (hd : DataW.trod enc P W base sp held fuel t cs.toList = some (d, p)) (k : Nat) (hk : okTy P k t = true) : ∃ tt fr, W.heap[g]? = some (.cells (flatD d).toArray tt fr) := by
  have h1 := plain_cells k fuel t _ d p hk hd
  unfold World.var? at hv
  rw [hg] at hv
  simp only [Option.bind_some] at hv
  split at hv
  · rename_i cs' tt fr hh
    cases hv
    refine ⟨tt, fr, ?_⟩
    rw [hh, ← h1]
  · cases hv
end Go.Proofs.YtdifeoahaegjbaaGreatDoor
