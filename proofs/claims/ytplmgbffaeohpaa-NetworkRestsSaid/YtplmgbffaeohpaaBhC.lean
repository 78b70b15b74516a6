/- Goroutine 0 beside goroutines that only leave: a region that asks the tape for its order. -/
import Derived.Test.YtplmgbffaeohpaaBhB
set_option linter.unusedSimpArgs false
set_option linter.unusedVariables false
namespace Go.Beh
open Go.Conc
open Go.Crew (waitsOn setBlk pushBlk lt_of_some)

section
variable {B : Base} {fn : FuncId} {ops : Array Oper} {Q : Exit → Act → M → Prop} {md : Region.Mode} {S : M → Prop} {L : Nat}

/-- A read. -/
def YieldB (B : Base) (fn : FuncId) (s : Sem Next) (v : Value) (x : M) : Prop :=
  ∀ w, Wd B x w → (s.run B.P w = .ok (.value v) w ∨ (s.run B.P w = .ok .skip w ∧ v = undef)) ∧ ∀ e ∈ seen B.P fn (s.events B.P w #[]), EvB x e

theorem actB_read {s : Sem Next} {v : Value} {x : M} {Kt : Value → M → Prop} (h : YieldB B fn s v x) (hk : Kt v x) : ActB B fn s Kt x :=
  actB_step fun w hw => ⟨v, w, x, (h w hw).1, hw, rfl, Nat.le_refl _, (h w hw).2, hk⟩

/-- Operation number i comes up. -/
def OpB (B : Base) (fn : FuncId) (ops : Array Oper) (i : Nat) (Kt : Act → M → Prop) (a : Act) (x : M) : Prop :=
  match ops[i]? with
  | none => False
  | some o => if Region.wanted o (yielded ops a.tmps) then ActB B fn (execOp a.eval o) (fun v x' => Kt (a.put o.dst v) x') x else Kt (a.put o.dst undef) x

theorem opB_mono {i : Nat} {a : Act} {x : M} {Kt Kt' : Act → M → Prop} (h : ∀ a x, Kt a x → Kt' a x) (hh : OpB B fn ops i Kt a x) : OpB B fn ops i Kt' a x := by
  unfold OpB at *
  split
  · simp_all
  · rename_i o ho
    simp only [ho] at hh
    split
    · rename_i hw; simp only [hw, if_true] at hh; exact hh.mono fun v x' y => h _ _ y
    · rename_i hw; simp only [hw] at hh; exact h _ _ hh

theorem opsB_of_opB {i : Nat} {rest : List Nat} {a : Act} {x : M} (h : OpB B fn ops i (fun a' x' => OpsB B fn ops rest Q a' x') a x) : OpsB B fn ops (i :: rest) Q a x := by
  unfold OpB at h
  split at h
  · exact h.elim
  · rename_i o ho
    split at h
    · rename_i hw
      exact opsB_act ho hw h fun v x' hv => hv
    · rename_i hw
      exact opsB_unwanted ho (by simpa using hw) h

/-- In state a, IN EVERY MEMORY THAT MEETS S, operation o is a read that leaves v. -/
def YieldIfB (B : Base) (fn : FuncId) (ops : Array Oper) (S : M → Prop) (o : Oper) (v : Value) (a : Act) : Prop :=
  (Region.wanted o (yielded ops a.tmps) = true ∧ ∀ x, S x → YieldB B fn (execOp a.eval o) v x) ∨ (Region.wanted o (yielded ops a.tmps) = false ∧ v = undef)

theorem YieldIfB.of_same {o : Oper} {v : Value} {a a' : Act} (hy : YieldIfB B fn ops S o v a) (he : execOp a'.eval o = execOp a.eval o)
    (hw : Region.wanted o (yielded ops a'.tmps) = Region.wanted o (yielded ops a.tmps)) : YieldIfB B fn ops S o v a' := by
  unfold YieldIfB at *
  rw [he, hw]
  exact hy

theorem YieldIfB.opB {i : Nat} {o : Oper} {v : Value} {a : Act} (hi : ops[i]? = some o) (hy : YieldIfB B fn ops S o v a) {Kt : Act → M → Prop} {x : M} (hS : S x) (h : Kt (a.put o.dst v) x) : OpB B fn ops i Kt a x := by
  unfold OpB
  simp only [hi]
  rcases hy with ⟨hw, hv⟩ | ⟨hw, rfl⟩
  · simp only [hw, if_true]
    exact actB_read (hv x hS) h
  · simp only [hw, Bool.false_eq_true, if_false]; exact h

def AnyB (B : Base) (fn : FuncId) (md : Region.Mode) (ops : Array Oper) (Q : Exit → Act → M → Prop) (S : M → Prop) (L : Nat) : Nat → Array Bool → Act → M → Prop
  | 0, listed, a, x => Region.ready md ops listed = [] ∧ Q .normal a x
  | fuel + 1, listed, a, x => (Region.ready md ops listed = [] → Q .normal a x) ∧
    ∀ i ∈ Region.ready md ops listed, OpB B fn ops i (fun a' x' => (S x' ∨ i = L) ∧ AnyB B fn md ops Q S L fuel (listed.setIfInBounds i true) a' x') a x

theorem anyB_sound : ∀ (fuel t : Nat) (listed : Array Bool) (a : Act) (x : M), AnyB B fn md ops Q S L fuel listed a x →
    OpsB B fn ops (Region.linearise.go md ops fuel t listed []) Q a x := by
  intro fuel
  induction fuel with
  | zero => intro t listed a x h; simpa [Region.linearise.go] using opsB_nil h.2
  | succ fuel ih =>
    intro t listed a x h
    obtain ⟨h₀, h₁⟩ := h
    simp only [Region.linearise.go]
    change OpsB B fn ops (match (Region.ready md ops listed)[t % (Region.ready md ops listed).length]? with
      | some i => Region.linearise.go md ops fuel (t / (Region.ready md ops listed).length) (listed.setIfInBounds i true) [i]
      | none => [].reverse) Q a x
    cases hi : (Region.ready md ops listed)[t % (Region.ready md ops listed).length]? with
    | none =>
      have hnil : Region.ready md ops listed = [] := by
        cases hr : Region.ready md ops listed with
        | nil => rfl
        | cons y ys =>
          rw [hr] at hi
          have hlt : t % (y :: ys).length < (y :: ys).length := Nat.mod_lt _ (by simp)
          simp at hi
          simp at hlt
          omega
      simpa using opsB_nil (h₀ hnil)
    | some i =>
      simp only []
      rw [linearise_go_acc, List.reverse_singleton, List.singleton_append]
      exact opsB_of_opB (opB_mono (fun a' x' y => ih _ _ a' x' y.2) (h₁ i (List.mem_of_getElem? hi)))

theorem opB_putIf {j : Nat} {oi oj : Oper} {v : Value} (hj : ops[j]? = some oj) (hap : oi.apart ops oj = true)
    (hsi : ∀ cs b, oi.op ≠ .select cs b) (hsj : ∀ cs b, oj.op ≠ .select cs b) {Kt : Act → M → Prop} {a : Act} {x : M}
    (hy : YieldIfB B fn ops S oi v a) (h : OpB B fn ops j Kt (a.put oi.dst v) x) :
    OpB B fn ops j (fun a' x' => YieldIfB B fn ops S oi v a' ∧ Kt (a'.put oi.dst v) x') a x := by
  obtain ⟨h1, h2, h3⟩ := Oper.apart_spec hap
  have keep : ∀ (a : Act), YieldIfB B fn ops S oi v a → ∀ u, YieldIfB B fn ops S oi v (a.put oj.dst u) := fun a hy u =>
    hy.of_same (execOp_put oi hsi a oj.dst u h3) (wanted_put oi a oj.dst u h3)
  unfold OpB at *
  simp only [hj] at *
  rw [wanted_put oj a oi.dst v h1] at h
  split
  · rename_i hw
    simp only [hw, if_true] at h
    rw [execOp_put oj hsj a oi.dst v h1] at h
    refine h.mono fun u x' y => ⟨keep a hy u, ?_⟩
    rw [← Act.put_comm a v u h2]
    exact y
  · rename_i hw
    simp only [hw] at h
    exact ⟨keep a hy _, by rw [← Act.put_comm a v undef h2]; exact h⟩

theorem anyB_first {i : Nat} {oi : Oper} {v : Value} (hi : ops[i]? = some oi)
    (hsel : ∀ (j : Nat) (o : Oper) cs b, ops[j]? = some o → o.op ≠ .select cs b) (hL : waitsOn md ops L i = true) :
    ∀ (fuel : Nat) (listed : Array Bool) (a : Act) (x : M),
      (∀ j oj, ops[j]? = some oj → j ≠ i → listed.getD j true = false → (∀ e ∈ oj.after, Region.binds md e = true → e.on ≠ i) → oi.apart ops oj = true) →
      i ∈ Region.ready md ops listed → YieldIfB B fn ops S oi v a → S x →
      AnyB B fn md ops Q S L fuel (listed.setIfInBounds i true) (a.put oi.dst v) x → AnyB B fn md ops Q S L (fuel + 1) listed a x := by
  intro fuel
  induction fuel with
  | zero =>
    intro listed a x _ hr hy hS H
    refine ⟨fun h => (by rw [h] at hr; cases hr), fun j hj => ?_⟩
    by_cases hji : j = i
    · subst hji; exact hy.opB hi hS ⟨.inl hS, H⟩
    · have := ready_mono hj hji
      rw [H.1] at this
      cases this
  | succ fuel ih =>
    intro listed a x hfree hr hy hS H
    refine ⟨fun h => (by rw [h] at hr; cases hr), fun j hj => ?_⟩
    by_cases hji : j = i
    · subst hji; exact hy.opB hi hS ⟨.inl hS, H⟩
    · have h1 := H.2 j (ready_mono hj hji)
      obtain ⟨hjun, oj, hoj, hall⟩ := mem_ready.1 hj
      have hnot : ∀ e ∈ oj.after, Region.binds md e = true → e.on ≠ i := fun e he hb heq => by
        have h1 := hall e he hb
        have h0 := (mem_ready.1 hr).1
        rw [heq] at h1
        rcases Nat.lt_or_ge i listed.size with h' | h'
        · simp [h'] at h0 h1; rw [h0] at h1; cases h1
        · simp [Array.getElem?_eq_none h'] at h1
      have h2 := opB_putIf hoj (hfree j oj hoj hji hjun hnot) (fun cs b => hsel i oi cs b hi) (fun cs b => hsel j oj cs b hoj) hy h1
      have hfree' : ∀ k ok, ops[k]? = some ok → k ≠ i → (listed.setIfInBounds j true).getD k true = false →
          (∀ e ∈ ok.after, Region.binds md e = true → e.on ≠ i) → oi.apart ops ok = true := fun k ok hk hki hun hno => by
        refine hfree k ok hk hki ?_ hno
        by_cases hjk : j = k
        · subst hjk; exact hjun
        · rw [getD_set_ne true hjk] at hun; exact hun
      have hjL : j ≠ L := by
        intro e
        subst e
        unfold waitsOn at hL
        simp only [hoj] at hL
        obtain ⟨z, hz, hh⟩ := Array.any_eq_true'.1 hL
        simp only [Bool.and_eq_true, beq_iff_eq] at hh
        exact hnot z hz hh.1 hh.2
      refine opB_mono (fun a' x' h3 => ⟨.inl (h3.2.1.resolve_right hjL), ih (listed.setIfInBounds j true) a' x' hfree' (ready_mono hr (Ne.symm hji)) h3.1 (h3.2.1.resolve_right hjL) ?_⟩) h2
      rw [Array.setIfInBounds_comm _ _ hji]
      exact h3.2.2

/-- Take number i first. -/
theorem anyB_take {i : Nat} {oi : Oper} (v : Value) {fuel : Nat} {listed : Array Bool} {a : Act} {x : M} (hi : ops[i]? = some oi)
    (hs : Region.noSelect ops = true) (hf : Region.free md ops listed i = true) (hr : (Region.ready md ops listed).contains i = true) (hL : waitsOn md ops L i = true)
    (hw : Region.wanted oi (yielded ops a.tmps) = true) (hy : ∀ x, S x → YieldB B fn (execOp a.eval oi) v x) (hS : S x) (h : AnyB B fn md ops Q S L fuel (listed.setIfInBounds i true) (a.put oi.dst v) x) : AnyB B fn md ops Q S L (fuel + 1) listed a x :=
  anyB_first hi (Region.noSelect_spec hs) hL fuel listed a x (Region.free_spec hi hf) (by simpa using hr) (.inl ⟨hw, hy⟩) hS h
theorem anyB_skip {i : Nat} {oi : Oper} {fuel : Nat} {listed : Array Bool} {a : Act} {x : M} (hi : ops[i]? = some oi)
    (hs : Region.noSelect ops = true) (hf : Region.free md ops listed i = true) (hr : (Region.ready md ops listed).contains i = true) (hL : waitsOn md ops L i = true)
    (hw : Region.wanted oi (yielded ops a.tmps) = false) (hS : S x) (h : AnyB B fn md ops Q S L fuel (listed.setIfInBounds i true) (a.put oi.dst undef) x) : AnyB B fn md ops Q S L (fuel + 1) listed a x :=
  anyB_first hi (Region.noSelect_spec hs) hL fuel listed a x (Region.free_spec hi hf) (by simpa using hr) (.inr ⟨hw, rfl⟩) hS h
theorem anyB_all {rs : List Nat} {fuel : Nat} {listed : Array Bool} {a : Act} {x : M} (hr : Region.ready md ops listed = rs) (hne : rs ≠ [])
    (h : ∀ i ∈ rs, OpB B fn ops i (fun a' x' => (S x' ∨ i = L) ∧ AnyB B fn md ops Q S L fuel (listed.setIfInBounds i true) a' x') a x) : AnyB B fn md ops Q S L (fuel + 1) listed a x :=
  ⟨fun h0 => absurd (hr ▸ h0) hne, hr ▸ h⟩
/-- The one that must come. -/
theorem anyB_one {i : Nat} {o : Oper} {fuel : Nat} {listed : Array Bool} {a : Act} {x : M} (hr : Region.ready md ops listed = [i]) (ho : ops[i]? = some o) (hw : Region.wanted o (yielded ops a.tmps) = true)
    (h : ActB B fn (execOp a.eval o) (fun v x' => (S x' ∨ i = L) ∧ AnyB B fn md ops Q S L fuel (listed.setIfInBounds i true) (a.put o.dst v) x') x) : AnyB B fn md ops Q S L (fuel + 1) listed a x :=
  anyB_all hr (by simp) fun j hj => by
    obtain rfl : j = i := by simpa using hj
    unfold OpB
    simp only [ho, hw, if_true]
    exact h
/-- Two may come. -/
theorem anyB_two {i j : Nat} {o p : Oper} {fuel : Nat} {listed : Array Bool} {a : Act} {x : M} (hr : Region.ready md ops listed = [i, j]) (ho : ops[i]? = some o) (hp : ops[j]? = some p) (hwo : Region.wanted o (yielded ops a.tmps) = true) (hwp : Region.wanted p (yielded ops a.tmps) = true)
    (h : ActB B fn (execOp a.eval o) (fun v x' => (S x' ∨ i = L) ∧ AnyB B fn md ops Q S L fuel (listed.setIfInBounds i true) (a.put o.dst v) x') x)
    (h' : ActB B fn (execOp a.eval p) (fun v x' => (S x' ∨ j = L) ∧ AnyB B fn md ops Q S L fuel (listed.setIfInBounds j true) (a.put p.dst v) x') x) : AnyB B fn md ops Q S L (fuel + 1) listed a x :=
  anyB_all hr (by simp) fun m hm => by
    simp only [List.mem_cons, List.not_mem_nil, or_false] at hm
    rcases hm with rfl | rfl
    · unfold OpB
      simp only [ho, hwo, if_true]
      exact h
    · unfold OpB
      simp only [hp, hwp, if_true]
      exact h'
theorem anyB_done {listed : Array Bool} {a : Act} {x : M} (hr : Region.ready md ops listed = []) (h : Q .normal a x) : ∀ fuel, AnyB B fn md ops Q S L fuel listed a x
  | 0 => ⟨hr, h⟩
  | _ + 1 => ⟨fun _ => h, fun i hi => by rw [hr] at hi; cases hi⟩

/-- THE BEGINNING. -/
theorem wpB_region_held (S : M → Prop) (L : Nat) {id : Nat} {a : Act} {x : M} (hm : B.P.follows .mixedOrders = true)
    (h : AnyB B fn .any ops Q S L ops.size (Array.replicate ops.size false) a x) : WpB B fn (.region id ops true) Q a x := by
  intro b k cs hb hk hc
  refine .step rfl fun w hw => ?_
  have hst := stepG_region_draw (P := B.P) (main := true) (b := b) (a := a) (k := k) (cs := cs) (w := w) (id := id) (ops := ops)
  have hsch : Region.schedule (B.P.follows .mixedOrders) ops (w.tape w.drawn (.order b.fn id)) = Region.linearise.go .any ops ops.size (w.tape w.drawn (.order b.fn id)) (Array.replicate ops.size false) [] := by
    simp only [Region.schedule, hm, Bool.true_or, if_true]
    rfl
  rw [hsch] at hst
  exact ⟨_, _, #[], x, hst, hw.at _, rfl, Nat.le_refl _, by simp, anyB_sound ops.size (w.tape w.drawn (.order b.fn id)) _ a _ h b k cs hb hk hc⟩
end

/-! ### The rules in the shape in which a text uses them -/
theorem HasB.cell {x : M} {b : Nat} {cs : Array Value} {e : TypeId} {f : Nat × Nat} (h : HasB x b (.cells cs e f)) {B : Base} {w : World} (hw : Wd B x w) {o : Nat} {v : Value} (hv : cs[o]? = some v) : w.cell? ⟨b, o, none⟩ = some v :=
  Go.Crew.cell_of (by rw [hw.h]; exact h.at_) hv
theorem HasB.heap {x : M} {b : Nat} {o : Obj} (h : HasB x b o) {B : Base} {w : World} (hw : Wd B x w) : w.heap[b]? = some o := by rw [hw.h]; exact h.at_

section
variable {B : Base} {fn : FuncId} {Q : Exit → Act → M → Prop} {a : Act} {x : M} {ops : Array Oper} {i : Nat} {rest : List Nat} {o : Oper} {s : Sem Next} {Kt : Value → M → Prop}

theorem actB_rd {v : Value} (hrun : ∀ w, Wd B x w → ∀ Kc : Result Next → Prop, Kc (.ok (.value v) w) → Kc (s.run B.P w)) (hev : ∀ w, Wd B x w → ∀ e ∈ s.events B.P w #[], EvB x e) (hk : Kt v x) : ActB B fn s Kt x :=
  actB_read (fun w hw => ⟨.inl (hrun w hw (· = .ok (.value v) w) rfl), fun e he => hev w hw e (mem_seen he)⟩) hk
theorem actB_rs (hrun : ∀ w, Wd B x w → ∀ Kc : Result Next → Prop, Kc (.ok .skip w) → Kc (s.run B.P w)) (hev : ∀ w, Wd B x w → ∀ e ∈ s.events B.P w #[], EvB x e) (hk : Kt undef x) : ActB B fn s Kt x :=
  actB_read (fun w hw => ⟨.inr ⟨hrun w hw (· = .ok .skip w) rfl, rfl⟩, fun e he => hev w hw e (mem_seen he)⟩) hk
theorem actB_nw (v : Nat → Value) {ob : Obj} (hrun : ∀ w, Wd B x w → ∀ Kc : Result Next → Prop, Kc (.ok (.value (v w.heap.size)) (w.alloc ob)) → Kc (s.run B.P w)) (hev : ∀ w, Wd B x w → ∀ e ∈ s.events B.P w #[], EvB x e)
    (hk : ∀ x' m, x.h.size = m → Ext x x' → HasB x' m ob → x'.h.size = m + 1 → x'.S = x.S → Kt (v m) x') : ActB B fn s Kt x :=
  actB_step fun w hw => by
    have h1 := hrun w hw (· = .ok (.value (v w.heap.size)) (w.alloc ob)) rfl
    rw [hw.h] at h1
    exact ⟨_, _, x.push ob, .inl h1, hw.push, rfl, by simp [M.push], fun e he => by
      obtain ⟨a1, a2, a3, a4⟩ := hev w hw e (mem_seen he)
      exact ⟨a1, a2, a3, MemAct.low_mono (by simp [M.push]) a4⟩, hk _ _ rfl (Ext.push _ _) (HasB.push _ _) (by simp [M.push]) rfl⟩
theorem actB_wr {b : Nat} {ob ob' : Obj} (hb : HasB x b ob) (hrun : ∀ w, Wd B x w → w.heap[b]? = some ob → ∀ Kc : Result Next → Prop, (∀ w', w' = setBlk w b ob' → Kc (.ok .skip w')) → Kc (s.run B.P w))
    (hev : ∀ w, Wd B x w → w.heap[b]? = some ob → ∀ e ∈ s.events B.P w #[], EvB x e) (hk : ∀ x', Chg b x x' → HasB x' b ob' → Kt undef x') : ActB B fn s Kt x :=
  actB_step fun w hw => by
    have h1 := hrun w hw (hb.heap hw) (· = .ok .skip (setBlk w b ob')) fun w' e => by rw [e]
    exact ⟨_, _, x.set b ob', .inr ⟨h1, rfl⟩, hw.set, rfl, by simp [M.set], fun e he => by
      have := hev w hw (hb.heap hw) e (mem_seen he)
      unfold EvB at this ⊢
      simpa [M.set] using this, hk _ (Chg.set _ _ _) hb.set⟩

theorem opsB_rd {v : Value} (ho : ops[i]? = some o) (hw : Region.wanted o (yielded ops a.tmps) = true)
    (hrun : ∀ w, Wd B x w → ∀ Kc : Result Next → Prop, Kc (.ok (.value v) w) → Kc ((execOp a.eval o).run B.P w)) (hev : ∀ w, Wd B x w → ∀ e ∈ (execOp a.eval o).events B.P w #[], EvB x e)
    (hn : OpsB B fn ops rest Q (a.put o.dst v) x) : OpsB B fn ops (i :: rest) Q a x :=
  opsB_act (Kt := fun v' x' => v' = v ∧ x' = x) ho hw (actB_rd hrun hev ⟨rfl, rfl⟩) (by rintro _ _ ⟨rfl, rfl⟩; exact hn)
theorem opsB_rs (ho : ops[i]? = some o) (hw : Region.wanted o (yielded ops a.tmps) = true)
    (hrun : ∀ w, Wd B x w → ∀ Kc : Result Next → Prop, Kc (.ok .skip w) → Kc ((execOp a.eval o).run B.P w)) (hev : ∀ w, Wd B x w → ∀ e ∈ (execOp a.eval o).events B.P w #[], EvB x e)
    (hn : OpsB B fn ops rest Q (a.put o.dst undef) x) : OpsB B fn ops (i :: rest) Q a x :=
  opsB_act (Kt := fun v' x' => v' = undef ∧ x' = x) ho hw (actB_rs hrun hev ⟨rfl, rfl⟩) (by rintro _ _ ⟨rfl, rfl⟩; exact hn)
theorem opsB_nw {ob : Obj} (v : Nat → Value) (ho : ops[i]? = some o) (hw : Region.wanted o (yielded ops a.tmps) = true)
    (hrun : ∀ w, Wd B x w → ∀ Kc : Result Next → Prop, Kc (.ok (.value (v w.heap.size)) (w.alloc ob)) → Kc ((execOp a.eval o).run B.P w)) (hev : ∀ w, Wd B x w → ∀ e ∈ (execOp a.eval o).events B.P w #[], EvB x e)
    (hn : ∀ x' m, x.h.size = m → Ext x x' → HasB x' m ob → x'.h.size = m + 1 → x'.S = x.S → OpsB B fn ops rest Q (a.put o.dst (v m)) x') : OpsB B fn ops (i :: rest) Q a x :=
  opsB_act (Kt := fun v' x' => OpsB B fn ops rest Q (a.put o.dst v') x') ho hw (actB_nw v hrun hev hn) (fun _ _ h => h)
theorem opsB_wr {b : Nat} {ob ob' : Obj} (hb : HasB x b ob) (ho : ops[i]? = some o) (hw : Region.wanted o (yielded ops a.tmps) = true)
    (hrun : ∀ w, Wd B x w → w.heap[b]? = some ob → ∀ Kc : Result Next → Prop, (∀ w', w' = setBlk w b ob' → Kc (.ok .skip w')) → Kc ((execOp a.eval o).run B.P w))
    (hev : ∀ w, Wd B x w → w.heap[b]? = some ob → ∀ e ∈ (execOp a.eval o).events B.P w #[], EvB x e) (hn : ∀ x', Chg b x x' → HasB x' b ob' → OpsB B fn ops rest Q (a.put o.dst undef) x') : OpsB B fn ops (i :: rest) Q a x :=
  opsB_act (Kt := fun v' x' => OpsB B fn ops rest Q (a.put o.dst v') x') ho hw (actB_wr hb hrun hev hn) (fun _ _ h => h)

theorem anyB_rd {md : Region.Mode} {S : M → Prop} {L : Nat} {v : Value} {fuel : Nat} {listed : Array Bool} (i : Nat) (hi : ops[i]? = some o)
    (hs : Region.noSelect ops = true) (hf : Region.free md ops listed i = true) (hr : (Region.ready md ops listed).contains i = true) (hL : waitsOn md ops L i = true)
    (hw : Region.wanted o (yielded ops a.tmps) = true)
    (hrun : ∀ y, S y → ∀ w, Wd B y w → ∀ Kc : Result Next → Prop, Kc (.ok (.value v) w) → Kc ((execOp a.eval o).run B.P w))
    (hev : ∀ y, S y → ∀ w, Wd B y w → ∀ e ∈ (execOp a.eval o).events B.P w #[], EvB y e)
    (hS : S x) (h : AnyB B fn md ops Q S L fuel (listed.setIfInBounds i true) (a.put o.dst v) x) : AnyB B fn md ops Q S L (fuel + 1) listed a x :=
  anyB_take v hi hs hf hr hL hw (fun y hy w hw => ⟨.inl (hrun y hy w hw (· = .ok (.value v) w) rfl), fun e he => hev y hy w hw e (mem_seen he)⟩) hS h

theorem wpB_to {c : Code} (M' : Act → M → Prop) {Nx : Act → M → Prop} (hx : WpB B fn c (BThen M' Q) a x) (hy : ∀ a' x', M' a' x' → Nx a' x') : WpB B fn c (BThen Nx Q) a x :=
  wpB_mono hx fun e a' x' q => by cases e <;> first | exact hy _ _ q | exact q
end
end Go.Beh
