/- The walk of one goroutine in its crew: a region that asks the tape for its order. -/
import Derived.Test.YtplmgbffaeohpaaCoD
import Derived.OrdersHeld
set_option linter.unusedSimpArgs false
set_option linter.unusedVariables false
namespace Go.Crew
open Go.Conc

section
variable {K : Crew} {ρ : Role} {fn : FuncId} {ops : Array Oper} {Q : Exit → Act → Sx → Prop} {md : Region.Mode} {S : Sx → Prop} {C L : Nat}

/-- What the carrying out of s does: it leaves a value and a state that satisfy Kt, within c steps. -/
def Act1 (K : Crew) (ρ : Role) (fn : FuncId) (s : Sem Next) (c : Nat) (Kt : Value → Sx → Prop) (x : Sx) : Prop :=
  ∀ (b : Frame) (a : Act) (ops : Array Oper) (i : Nat) (rest : List Nat) (o : Oper) (k : List Item) (cs : List Frame) (m : Nat), ops[i]? = some o → Region.wanted o (yielded ops a.tmps) = true → b.fn = fn → b.kind ≠ .early → execOp a.eval o = s →
    (∀ v x', Kt v x' → LGo K ρ m (G (b.at (a.put o.dst v) (.inRegion ops rest :: k)) cs) x') → LGo K ρ (m + c) (G (b.at a (.inRegion ops (i :: rest) :: k)) cs) x

theorem Act1.mono {s : Sem Next} {c c' : Nat} {Kt Kt' : Value → Sx → Prop} {x : Sx} (h : Act1 K ρ fn s c Kt x) (hc : c ≤ c') (hk : ∀ v x, Kt v x → Kt' v x) : Act1 K ρ fn s c' Kt' x :=
  fun b a ops i rest o k cs m h1 h2 h3 h4 h5 hn => (h b a ops i rest o k cs m h1 h2 h3 h4 h5 fun v x' hv => hn v x' (hk v x' hv)).mono (by omega)

/-- A read. -/
def YieldS (K : Crew) (ρ : Role) (fn : FuncId) (s : Sem Next) (v : Value) (x : Sx) : Prop :=
  ∀ x₁, R K ρ.i x x₁ → Inv K x₁ → (s.run K.P x₁.w = .ok (.value v) x₁.w ∨ (s.run K.P x₁.w = .ok .skip x₁.w ∧ v = undef)) ∧ ∀ e ∈ seen K.P fn (s.events K.P x₁.w #[]), EvOk K ρ.i x₁ x₁.w.heap.size e

theorem act1_read {s : Sem Next} {v : Value} {x : Sx} {Kt : Value → Sx → Prop} (h : YieldS K ρ fn s v x) (hk : Kt v x) : Act1 K ρ fn s 1 Kt x := by
  intro b a ops i rest o k cs m ho hw hb hke hs hn
  refine .reads rfl rfl (fun x₁ r hi => ?_) (hn v x hk)
  obtain ⟨h1, h2⟩ := h x₁ r hi
  rw [← hs] at h1 h2
  rcases h1 with h1 | ⟨h1, rfl⟩
  · exact ⟨_, stepG_value ho hw hke h1, by rw [hb]; exact h2⟩
  · exact ⟨_, stepG_none ho hw hke h1, by rw [hb]; exact h2⟩

/-- Operation number i comes up. -/
def OpX (K : Crew) (ρ : Role) (fn : FuncId) (ops : Array Oper) (C : Nat) (i : Nat) (Kt : Act → Sx → Prop) (a : Act) (x : Sx) : Prop :=
  match ops[i]? with
  | none => False
  | some o => if Region.wanted o (yielded ops a.tmps) then Act1 K ρ fn (execOp a.eval o) C (fun v x' => Kt (a.put o.dst v) x') x else Kt (a.put o.dst undef) x

theorem opX_mono {i : Nat} {a : Act} {x : Sx} {Kt Kt' : Act → Sx → Prop} (h : ∀ a x, Kt a x → Kt' a x) (hh : OpX K ρ fn ops C i Kt a x) : OpX K ρ fn ops C i Kt' a x := by
  unfold OpX at *
  split
  · simp_all
  · rename_i o ho
    simp only [ho] at hh
    split
    · rename_i hw; simp only [hw, if_true] at hh; exact hh.mono (Nat.le_refl _) fun v x' y => h _ _ y
    · rename_i hw; simp only [hw] at hh; exact h _ _ hh

theorem opsX_of_opX {i : Nat} {rest : List Nat} {n : Nat} {a : Act} {x : Sx} (hC : 1 ≤ C) (h : OpX K ρ fn ops C i (fun a' x' => OpsX K ρ fn ops rest n Q a' x') a x) : OpsX K ρ fn ops (i :: rest) (n + C) Q a x := by
  unfold OpX at h
  split at h
  · exact h.elim
  · rename_i o ho
    split at h
    · rename_i hw
      intro b k cs m hb hk hc
      have := h b a ops i rest o k cs (m + n) ho hw hb hk rfl fun v x' hv => hv b k cs m hb hk hc
      rwa [Nat.add_assoc] at this
    · rename_i hw
      exact opsX_more (opsX_unwanted ho (by simpa using hw) h) (by omega)

/-- In state a, IN EVERY STATE THAT MEETS S, operation o is a read that leaves v. -/
def YieldIf (K : Crew) (ρ : Role) (fn : FuncId) (ops : Array Oper) (S : Sx → Prop) (o : Oper) (v : Value) (a : Act) : Prop :=
  (Region.wanted o (yielded ops a.tmps) = true ∧ ∀ x, S x → YieldS K ρ fn (execOp a.eval o) v x) ∨ (Region.wanted o (yielded ops a.tmps) = false ∧ v = undef)

theorem YieldIf.of_same {o : Oper} {v : Value} {a a' : Act} (hy : YieldIf K ρ fn ops S o v a) (he : execOp a'.eval o = execOp a.eval o)
    (hw : Region.wanted o (yielded ops a'.tmps) = Region.wanted o (yielded ops a.tmps)) : YieldIf K ρ fn ops S o v a' := by
  unfold YieldIf at *
  rw [he, hw]
  exact hy

theorem YieldIf.opX (hC : 1 ≤ C) {i : Nat} {o : Oper} {v : Value} {a : Act} (hi : ops[i]? = some o) (hy : YieldIf K ρ fn ops S o v a) {Kt : Act → Sx → Prop} {x : Sx} (hS : S x) (h : Kt (a.put o.dst v) x) : OpX K ρ fn ops C i Kt a x := by
  unfold OpX
  simp only [hi]
  rcases hy with ⟨hw, hv⟩ | ⟨hw, rfl⟩
  · simp only [hw, if_true]
    exact (act1_read (hv x hS) h).mono hC fun _ _ y => y
  · simp only [hw, Bool.false_eq_true, if_false]; exact h

def AnyX (K : Crew) (ρ : Role) (fn : FuncId) (md : Region.Mode) (ops : Array Oper) (C : Nat) (Q : Exit → Act → Sx → Prop) (S : Sx → Prop) (L : Nat) : Nat → Array Bool → Act → Sx → Prop
  | 0, listed, a, x => Region.ready md ops listed = [] ∧ Q .normal a x
  | fuel + 1, listed, a, x => (Region.ready md ops listed = [] → Q .normal a x) ∧
    ∀ i ∈ Region.ready md ops listed, OpX K ρ fn ops C i (fun a' x' => (S x' ∨ i = L) ∧ AnyX K ρ fn md ops C Q S L fuel (listed.setIfInBounds i true) a' x') a x

theorem anyX_sound (hC : 1 ≤ C) : ∀ (fuel t : Nat) (listed : Array Bool) (a : Act) (x : Sx), AnyX K ρ fn md ops C Q S L fuel listed a x →
    OpsX K ρ fn ops (Region.linearise.go md ops fuel t listed []) (fuel * C + 1) Q a x := by
  intro fuel
  induction fuel with
  | zero => intro t listed a x h; simpa [Region.linearise.go] using opsX_nil h.2
  | succ fuel ih =>
    intro t listed a x h
    obtain ⟨h₀, h₁⟩ := h
    simp only [Region.linearise.go]
    change OpsX K ρ fn ops (match (Region.ready md ops listed)[t % (Region.ready md ops listed).length]? with
      | some i => Region.linearise.go md ops fuel (t / (Region.ready md ops listed).length) (listed.setIfInBounds i true) [i]
      | none => [].reverse) ((fuel + 1) * C + 1) Q a x
    cases hi : (Region.ready md ops listed)[t % (Region.ready md ops listed).length]? with
    | none =>
      have hnil : Region.ready md ops listed = [] := by
        cases hr : Region.ready md ops listed with
        | nil => rfl
        | cons y ys =>
          rw [hr] at hi
          have hlt : t % (y :: ys).length < (y :: ys).length := Nat.mod_lt _ (by simp)
          simp at hi
          simp at hlt
          omega
      exact opsX_more (by simpa using opsX_nil (h₀ hnil)) (by omega)
    | some i =>
      simp only []
      rw [linearise_go_acc, List.reverse_singleton, List.singleton_append]
      refine opsX_more (opsX_of_opX (n := fuel * C + 1) hC (opX_mono (fun a' x' y => ih _ _ a' x' y.2) (h₁ i (List.mem_of_getElem? hi)))) (by rw [Nat.succ_mul]; omega)

/-- Number L waits for number i. -/
def waitsOn (md : Region.Mode) (ops : Array Oper) (L i : Nat) : Bool :=
  match ops[L]? with
  | none => true
  | some o => o.after.any fun e => Region.binds md e && e.on == i

/-- One operation oj, apart from oi. -/
theorem opX_putIf {j : Nat} {oi oj : Oper} {v : Value} (hj : ops[j]? = some oj) (hap : oi.apart ops oj = true)
    (hsi : ∀ cs b, oi.op ≠ .select cs b) (hsj : ∀ cs b, oj.op ≠ .select cs b) {Kt : Act → Sx → Prop} {a : Act} {x : Sx}
    (hy : YieldIf K ρ fn ops S oi v a) (h : OpX K ρ fn ops C j Kt (a.put oi.dst v) x) :
    OpX K ρ fn ops C j (fun a' x' => YieldIf K ρ fn ops S oi v a' ∧ Kt (a'.put oi.dst v) x') a x := by
  obtain ⟨h1, h2, h3⟩ := Oper.apart_spec hap
  have keep : ∀ (a : Act), YieldIf K ρ fn ops S oi v a → ∀ u, YieldIf K ρ fn ops S oi v (a.put oj.dst u) := fun a hy u =>
    hy.of_same (execOp_put oi hsi a oj.dst u h3) (wanted_put oi a oj.dst u h3)
  unfold OpX at *
  simp only [hj] at *
  rw [wanted_put oj a oi.dst v h1] at h
  split
  · rename_i hw
    simp only [hw, if_true] at h
    rw [execOp_put oj hsj a oi.dst v h1] at h
    refine h.mono (Nat.le_refl _) fun u x' y => ⟨keep a hy u, ?_⟩
    rw [← Act.put_comm a v u h2]
    exact y
  · rename_i hw
    simp only [hw] at h
    exact ⟨keep a hy _, by rw [← Act.put_comm a v undef h2]; exact h⟩

theorem anyX_first (hC : 1 ≤ C) {i : Nat} {oi : Oper} {v : Value} (hi : ops[i]? = some oi)
    (hsel : ∀ (j : Nat) (o : Oper) cs b, ops[j]? = some o → o.op ≠ .select cs b) (hL : waitsOn md ops L i = true) :
    ∀ (fuel : Nat) (listed : Array Bool) (a : Act) (x : Sx),
      (∀ j oj, ops[j]? = some oj → j ≠ i → listed.getD j true = false → (∀ e ∈ oj.after, Region.binds md e = true → e.on ≠ i) → oi.apart ops oj = true) →
      i ∈ Region.ready md ops listed → YieldIf K ρ fn ops S oi v a → S x →
      AnyX K ρ fn md ops C Q S L fuel (listed.setIfInBounds i true) (a.put oi.dst v) x → AnyX K ρ fn md ops C Q S L (fuel + 1) listed a x := by
  intro fuel
  induction fuel with
  | zero =>
    intro listed a x _ hr hy hS H
    refine ⟨fun h => (by rw [h] at hr; cases hr), fun j hj => ?_⟩
    by_cases hji : j = i
    · subst hji; exact hy.opX hC hi hS ⟨.inl hS, H⟩
    · have := ready_mono hj hji
      rw [H.1] at this
      cases this
  | succ fuel ih =>
    intro listed a x hfree hr hy hS H
    refine ⟨fun h => (by rw [h] at hr; cases hr), fun j hj => ?_⟩
    by_cases hji : j = i
    · subst hji; exact hy.opX hC hi hS ⟨.inl hS, H⟩
    · have h1 := H.2 j (ready_mono hj hji)
      obtain ⟨hjun, oj, hoj, hall⟩ := mem_ready.1 hj
      have hnot : ∀ e ∈ oj.after, Region.binds md e = true → e.on ≠ i := fun e he hb heq => by
        have h1 := hall e he hb
        have h0 := (mem_ready.1 hr).1
        rw [heq] at h1
        rcases Nat.lt_or_ge i listed.size with h' | h'
        · simp [h'] at h0 h1; rw [h0] at h1; cases h1
        · simp [Array.getElem?_eq_none h'] at h1
      have h2 := opX_putIf hoj (hfree j oj hoj hji hjun hnot) (fun cs b => hsel i oi cs b hi) (fun cs b => hsel j oj cs b hoj) hy h1
      have hfree' : ∀ k ok, ops[k]? = some ok → k ≠ i → (listed.setIfInBounds j true).getD k true = false →
          (∀ e ∈ ok.after, Region.binds md e = true → e.on ≠ i) → oi.apart ops ok = true := fun k ok hk hki hun hno => by
        refine hfree k ok hk hki ?_ hno
        by_cases hjk : j = k
        · subst hjk; exact hjun
        · rw [getD_set_ne true hjk] at hun; exact hun
      have hjL : j ≠ L := by
        intro e
        subst e
        unfold waitsOn at hL
        simp only [hoj] at hL
        obtain ⟨z, hz, hh⟩ := Array.any_eq_true'.1 hL
        simp only [Bool.and_eq_true, beq_iff_eq] at hh
        exact hnot z hz hh.1 hh.2
      refine opX_mono (fun a' x' h3 => ⟨.inl (h3.2.1.resolve_right hjL), ih (listed.setIfInBounds j true) a' x' hfree' (ready_mono hr (Ne.symm hji)) h3.1 (h3.2.1.resolve_right hjL) ?_⟩) h2
      rw [Array.setIfInBounds_comm _ _ hji]
      exact h3.2.2

/-- Take number i first. -/
theorem anyX_take (hC : 1 ≤ C) {i : Nat} {oi : Oper} (v : Value) {fuel : Nat} {listed : Array Bool} {a : Act} {x : Sx} (hi : ops[i]? = some oi)
    (hs : Region.noSelect ops = true) (hf : Region.free md ops listed i = true) (hr : (Region.ready md ops listed).contains i = true) (hL : waitsOn md ops L i = true)
    (hw : Region.wanted oi (yielded ops a.tmps) = true) (hy : ∀ x, S x → YieldS K ρ fn (execOp a.eval oi) v x) (hS : S x) (h : AnyX K ρ fn md ops C Q S L fuel (listed.setIfInBounds i true) (a.put oi.dst v) x) : AnyX K ρ fn md ops C Q S L (fuel + 1) listed a x :=
  anyX_first hC hi (Region.noSelect_spec hs) hL fuel listed a x (Region.free_spec hi hf) (by simpa using hr) (.inl ⟨hw, hy⟩) hS h
theorem anyX_all {rs : List Nat} {fuel : Nat} {listed : Array Bool} {a : Act} {x : Sx} (hr : Region.ready md ops listed = rs) (hne : rs ≠ [])
    (h : ∀ i ∈ rs, OpX K ρ fn ops C i (fun a' x' => (S x' ∨ i = L) ∧ AnyX K ρ fn md ops C Q S L fuel (listed.setIfInBounds i true) a' x') a x) : AnyX K ρ fn md ops C Q S L (fuel + 1) listed a x :=
  ⟨fun h0 => absurd (hr ▸ h0) hne, hr ▸ h⟩
/-- The last one. -/
theorem anyX_one {i : Nat} {o : Oper} {fuel : Nat} {listed : Array Bool} {a : Act} {x : Sx} (hr : Region.ready md ops listed = [i]) (ho : ops[i]? = some o) (hw : Region.wanted o (yielded ops a.tmps) = true)
    (h : Act1 K ρ fn (execOp a.eval o) C (fun v x' => (S x' ∨ i = L) ∧ AnyX K ρ fn md ops C Q S L fuel (listed.setIfInBounds i true) (a.put o.dst v) x') x) : AnyX K ρ fn md ops C Q S L (fuel + 1) listed a x :=
  anyX_all hr (by simp) fun j hj => by
    obtain rfl : j = i := by simpa using hj
    unfold OpX
    simp only [ho, hw, if_true]
    exact h
theorem anyX_done {listed : Array Bool} {a : Act} {x : Sx} (hr : Region.ready md ops listed = []) (h : Q .normal a x) : ∀ fuel, AnyX K ρ fn md ops C Q S L fuel listed a x
  | 0 => ⟨hr, h⟩
  | _ + 1 => ⟨fun _ => h, fun i hi => by rw [hr] at hi; cases hi⟩

/-- THE BEGINNING. -/
theorem wpX_region_held (L : Nat) (hC : 1 ≤ C) {id : Nat} {a : Act} {x : Sx} (hm : K.P.follows .mixedOrders = true) (hS : S x) (keep : ∀ x', R K ρ.i x x' → S x')
    (h : ∀ x', S x' → AnyX K ρ fn .any ops C Q S L ops.size (Array.replicate ops.size false) a x') : WpX K ρ fn (.region id ops true) (ops.size * C + 1 + 1) Q a x := by
  intro b k cs m hb hk hc hbusy
  refine .inr ⟨rfl, fun x₁ r hi => ?_⟩
  have hst := stepG_region_draw (P := K.P) (main := (ρ.i == 0)) (b := b) (a := a) (k := k) (cs := cs) (w := x₁.w) (id := id) (ops := ops)
  have hsch : Region.schedule (K.P.follows .mixedOrders) ops (x₁.w.tape x₁.w.drawn (.order b.fn id)) = Region.linearise.go .any ops ops.size (x₁.w.tape x₁.w.drawn (.order b.fn id)) (Array.replicate ops.size false) [] := by
    simp only [Region.schedule, hm, Bool.true_or, if_true]
    rfl
  rw [hsch] at hst
  have r2 := r.trans (R.at K ρ.i x₁ (x₁.w.drawn + 1))
  have hb1 := hbusy.rely r2
  have hgo := anyX_sound hC ops.size (x₁.w.tape x₁.w.drawn (.order b.fn id)) _ a _ (h _ (keep _ r2)) b k cs m hb hk hc hb1
  exact .inl ⟨_, _, #[], x₁.at (x₁.w.drawn + 1), hst, rfl, by simp [Sx.at, MemOp.ofEvents], rfl, hi.at _, fun j _ _ => R.at K j x₁ _, fun e1 e2 => absurd e1 e2, rfl, .inl ⟨hgo, busy_ne hb1⟩⟩

/-! ### What may come up in such a region -/
theorem act1_write {s : Sem Next} {x : Sx} {b : Nat} {ob ob' : Obj} {Kt : Value → Sx → Prop} (hm : x.cls b = .mine ρ.i) (hb0 : x.w.heap[b]? = some ob)
    (h : ∀ x₁, R K ρ.i x x₁ → Inv K x₁ → x₁.w.heap[b]? = some ob → x₁.cls b = .mine ρ.i → s.run K.P x₁.w = .ok .skip (setBlk x₁.w b ob') ∧ ∀ e ∈ seen K.P fn (s.events K.P x₁.w #[]), EvOk K ρ.i x₁ x₁.w.heap.size e)
    (hn : ∀ x', Rb K ρ.i b x x' → x'.cls b = .mine ρ.i → x'.w.heap[b]? = some ob' → Kt undef x') : Act1 K ρ fn s 1 Kt x := by
  intro b' a ops i rest o k cs m ho hw hb hk hs hc
  refine .write rfl rfl hm hb0 (fun x₁ r hi ho1 => ?_) (fun x' h1 h2 h3 => hc undef x' (hn x' h1 h2 h3))
  obtain ⟨h1, h2⟩ := h x₁ r hi ho1 (r.mine b hm (lt_of_some hb0)).2
  rw [← hs] at h1 h2
  exact ⟨_, stepG_none ho hw hk h1, by rw [hb]; exact h2⟩

theorem act1_row {s : Sem Next} {x : Sx} {Kt : Value → Sx → Prop} (h0 : ρ.i ≠ 0) {cs0 : Array Value} {e : TypeId} {f : Nat × Nat} (hc : x.w.heap[K.C]? = some (.cells cs0 e f)) (new : Nat → Option Value)
    (h : ∀ x₁ cs, R K ρ.i x x₁ → Inv K x₁ → x₁.w.heap[K.C]? = some (.cells cs e f) → cs.size = cs0.size → (∀ o, K.own ρ.i o → cs[o]? = cs0[o]?) → x₁.cls K.C = .row → Started K.toCfg x₁.num ρ.i →
      ∃ cs', s.run K.P x₁.w = .ok .skip (setBlk x₁.w K.C (.cells cs' e f)) ∧ cs'.size = cs.size ∧ (∀ o, ¬ K.own ρ.i o → cs'[o]? = cs[o]?) ∧ (∀ o, K.own ρ.i o → cs'[o]? = new o) ∧ ∀ ev ∈ seen K.P fn (s.events K.P x₁.w #[]), EvOk K ρ.i x₁ x₁.w.heap.size ev)
    (hn : ∀ x' cs', Rb K ρ.i K.C x x' → x'.w.heap[K.C]? = some (.cells cs' e f) → cs'.size = cs0.size → (∀ o, K.own ρ.i o → cs'[o]? = new o) → Kt undef x') : Act1 K ρ fn s 1 Kt x := by
  intro b' a ops i rest o k cs m ho hw hb hk hs hq
  refine .row rfl rfl h0 hc new (fun _ _ => .inr trivial) (fun x₁ cs1 r hi h1 h2 h3 h4 h5 => ?_) (fun x' cs' h1 h2 h3 h4 => hq undef x' (hn x' cs' h1 h2 h3 h4))
  obtain ⟨cs', g1, g2, g3, g4, g5⟩ := h x₁ cs1 r hi h1 h2 h3 h4 h5
  rw [← hs] at g1 g5
  exact ⟨cs', _, stepG_none ho hw hk g1, g2, g3, g4, by rw [hb]; exact g5⟩

theorem act1_wr {s : Sem Next} {x : Sx} {b : Nat} {ob ob' : Obj} {Kt : Value → Sx → Prop} (hm : x.cls b = .mine ρ.i) (hb0 : x.w.heap[b]? = some ob)
    (hrun : ∀ x₁, R K ρ.i x x₁ → Inv K x₁ → x₁.w.heap[b]? = some ob → ∀ Kc : Result Next → Prop, (∀ w', w' = setBlk x₁.w b ob' → Kc (.ok .skip w')) → Kc (s.run K.P x₁.w))
    (hev : ∀ x₁, R K ρ.i x x₁ → Inv K x₁ → x₁.w.heap[b]? = some ob → ∀ e ∈ s.events K.P x₁.w #[], ∃ ad, e = ⟨.cell ad, true, false⟩ ∧ ad.block = b)
    (hn : ∀ x', Rb K ρ.i b x x' → x'.cls b = .mine ρ.i → x'.w.heap[b]? = some ob' → Kt undef x') : Act1 K ρ fn s 1 Kt x :=
  act1_write hm hb0 (fun x₁ r hi h1 h2 => ⟨hrun x₁ r hi h1 (· = .ok .skip (setBlk x₁.w b ob')) fun w' e => by rw [e], fun e he => by
    obtain ⟨ad, rfl, hb⟩ := hev x₁ r hi h1 e (mem_seen he)
    exact .write h2 (lt_of_some h1) hb⟩) hn

theorem act1_rw {s : Sem Next} {x : Sx} {Kt : Value → Sx → Prop} (h0 : ρ.i ≠ 0) {cs0 : Array Value} {e : TypeId} {f : Nat × Nat} (hc : x.w.heap[K.C]? = some (.cells cs0 e f)) (new : Nat → Option Value) (F : Array Value → Array Value)
    (hsz : ∀ cs, (F cs).size = cs.size) (hoth : ∀ cs o, ¬ K.own ρ.i o → (F cs)[o]? = cs[o]?) (hnew : ∀ cs, cs.size = cs0.size → (∀ o, K.own ρ.i o → cs[o]? = cs0[o]?) → ∀ o, K.own ρ.i o → (F cs)[o]? = new o)
    (hrun : ∀ x₁ cs, R K ρ.i x x₁ → Inv K x₁ → x₁.w.heap[K.C]? = some (.cells cs e f) → cs.size = cs0.size → ∀ Kc : Result Next → Prop, (∀ w', w' = setBlk x₁.w K.C (.cells (F cs) e f) → Kc (.ok .skip w')) → Kc (s.run K.P x₁.w))
    (hev : ∀ x₁ cs, R K ρ.i x x₁ → Inv K x₁ → x₁.w.heap[K.C]? = some (.cells cs e f) → cs.size = cs0.size → ∀ ev ∈ s.events K.P x₁.w #[], ∃ ad, ev = ⟨.cell ad, true, false⟩ ∧ ad.block = K.C ∧ K.own ρ.i ad.off)
    (hn : ∀ x' cs', Rb K ρ.i K.C x x' → x'.w.heap[K.C]? = some (.cells cs' e f) → cs'.size = cs0.size → (∀ o, K.own ρ.i o → cs'[o]? = new o) → Kt undef x') : Act1 K ρ fn s 1 Kt x :=
  act1_row h0 hc new (fun x₁ cs r hi h1 h2 h3 h4 h5 => ⟨F cs, hrun x₁ cs r hi h1 h2 (· = .ok .skip (setBlk x₁.w K.C (.cells (F cs) e f))) fun w' e => by rw [e], hsz cs, hoth cs, hnew cs h2 h3, fun ev he => by
    obtain ⟨ad, rfl, hb, ho⟩ := hev x₁ cs r hi h1 h2 ev (mem_seen he)
    exact .cell h5 h4 (lt_of_some h1) hb ho true⟩) hn

/-- A call by a callee's contract: s is 'enter f args'. -/
theorem act1_call {s : Sem Next} {x : Sx} {f : FuncId} {args : Array Value} {nf : Nat} {Post Kt : Value → Sx → Prop} (hs : ∀ w, s.run K.P w = .ok (.enter f args) w ∧ seen K.P fn (s.events K.P w #[]) = #[])
    (hcall : CallX K ρ f #[] args nf x Post) (hk : ∀ v x', Post v x' → Kt v x') : Act1 K ρ fn s (nf + 3) Kt x := by
  intro b a ops i rest o k cs m ho hw hb hke he hn
  obtain ⟨fnn, c, hf, hname, hbody, hwp⟩ := hcall
  have hfin : ∀ v, (b.at a (.inRegion ops (i :: rest) :: k)).finish v = b.at (a.put o.dst v) (.inRegion ops rest :: k) := fun v => by rw [Frame.finish_at, ho]; rfl
  simp only [Array.empty_append] at hwp
  have := LGo.body (K := K) (ρ := ρ) (m := m) (fr := b.at a (.inRegion ops (i :: rest) :: k)) (cs := cs) hf hwp fun v x' hp => by rw [hfin]; exact hn v x' (hk v x' hp)
  have e : m + (nf + 3) = (m + 2 + nf) + 1 := by omega
  rw [e]
  have hgo : ∀ w, stepG K.P (ρ.i == 0) (G (b.at a (.inRegion ops (i :: rest) :: k)) cs) w = .go (G ((base f).at { tmps := args ++ Array.replicate (fnn.ntmps - args.size) undef, defers := [] } [.code c]) (b.at a (.inRegion ops (i :: rest) :: k) :: cs)) w #[] := fun w => by
    obtain ⟨h1, h2⟩ := hs w
    rw [← he] at h1 h2
    rw [stepG_enter ho hw hke h1, enter_at _ hf hbody]
    have hl : listed K.P b.fn a o w = #[] := by unfold listed; rw [hb]; exact h2
    rw [hl]
  exact .ctl rfl rfl hgo this
theorem act1_callF {a : Act} {o : Oper} {x : Sx} {f : FuncId} {args : Array Operand} {ats : Array TypeId} {nf : Nat} {Post Kt : Value → Sx → Prop} (hop : o.op = .call { callee := .value (.func f), args, argTypes := ats })
    (hcall : CallX K ρ f #[] (args.map a.eval) nf x Post) (hk : ∀ v x', Post v x' → Kt v x') : Act1 K ρ fn (execOp a.eval o) (nf + 3) Kt x := by
  obtain ⟨fnn, c, hf, hname, hbody, hwp⟩ := id hcall
  have hb' : fnn.body.isNone = false := by rw [hbody]; rfl
  exact act1_call (fun w => ⟨run_call_body hop hf hname hb', by rw [events_call_body hop hf hname hb']; exact seen_none K.P _⟩) hcall hk
theorem act1_callV {a : Act} {o : Oper} {x : Sx} {f : FuncId} {args : Array Operand} {ats : Array TypeId} {nf : Nat} {vals : Array Value} {Post Kt : Value → Sx → Prop} (hop : o.op = .call { callee := .value (.func f), args, argTypes := ats })
    (hv : args.map a.eval = vals) (hcall : CallX K ρ f #[] vals nf x Post) (hk : ∀ v x', Post v x' → Kt v x') : Act1 K ρ fn (execOp a.eval o) (nf + 3) Kt x := by
  subst hv
  exact act1_callF hop hcall hk
theorem opsX_act1 {ops : Array Oper} {i : Nat} {rest : List Nat} {o : Oper} {n c : Nat} {a : Act} {x : Sx} {Kt : Value → Sx → Prop} (ho : ops[i]? = some o) (hw : Region.wanted o (yielded ops a.tmps) = true)
    (h : Act1 K ρ fn (execOp a.eval o) c Kt x) (hn : ∀ v x', Kt v x' → OpsX K ρ fn ops rest n Q (a.put o.dst v) x') : OpsX K ρ fn ops (i :: rest) (n + c) Q a x := by
  intro b k cs m hb hk hc
  have := h b a ops i rest o k cs (m + n) ho hw hb hk rfl fun v x' hv => hn v x' hv b k cs m hb hk hc
  rwa [Nat.add_assoc] at this

/-- A deferred call is noted. -/
theorem stepG_deferV {P : Program} {main : Bool} {b : Frame} {a : Act} {k : List Item} {cs : List Frame} {w : World} {ops : Array Oper} {i : Nat} {rest : List Nat} {o : Oper} {d : Deferred} (ho : ops[i]? = some o) (hw : Region.wanted o (yielded ops a.tmps) = true) (hk : b.kind ≠ .early)
    (hr : (execOp a.eval o).run P w = .ok (.defer d) w) (he : listed P b.fn a o w = #[]) :
    stepG P main (G (b.at a (.inRegion ops (i :: rest) :: k)) cs) w = .go (G (b.at (Act.put ⟨a.tmps, d :: a.defers⟩ o.dst undef) (.inRegion ops rest :: k)) cs) w #[] := by
  have hfin : ({ b.at a (.inRegion ops (i :: rest) :: k) with defers := d :: a.defers } : Frame).finish undef = b.at (Act.put ⟨a.tmps, d :: a.defers⟩ o.dst undef) (.inRegion ops rest :: k) := by
    rw [show ({ b.at a (.inRegion ops (i :: rest) :: k) with defers := d :: a.defers } : Frame) = b.at ⟨a.tmps, d :: a.defers⟩ (.inRegion ops (i :: rest) :: k) from rfl, Frame.finish_at, ho]
    rfl
  have hk' : (b.kind == CallKind.early) = false := by simpa using hk
  rw [stepG_oper ho hw, ← hfin]
  unfold listed at he
  simp [stepG.apply, hr, G, Frame.at, hk', GStep.after, he]
theorem opsX_defer {ops : Array Oper} {i : Nat} {rest : List Nat} {o : Oper} {n : Nat} {a : Act} {x : Sx} {d : Deferred} (ho : ops[i]? = some o) (hw : Region.wanted o (yielded ops a.tmps) = true)
    (hr : ∀ w, (execOp a.eval o).run K.P w = .ok (.defer d) w) (he : ∀ w, listed K.P fn a o w = #[]) (hn : OpsX K ρ fn ops rest n Q (Act.put ⟨a.tmps, d :: a.defers⟩ o.dst undef) x) : OpsX K ρ fn ops (i :: rest) (n + 1) Q a x :=
  fun b k cs m hb hk hc => .ctl rfl rfl (fun w => stepG_deferV ho hw hk (hr w) (by rw [hb]; exact he w)) (hn b k cs m hb hk hc)
/-- recover, where the caller does not panic. -/
theorem stepG_recoverV {P : Program} {main : Bool} {b : Frame} {a : Act} {k : List Item} {c : Frame} {cs : List Frame} {w : World} {ops : Array Oper} {i : Nat} {rest : List Nat} {o : Oper} (ho : ops[i]? = some o) (hw : Region.wanted o (yielded ops a.tmps) = true) (hk : b.kind = .deferred)
    (hro : b.roundOf = none) (hc : c.mode = .returning) (hr : (execOp a.eval o).run P w = .ok .recover w) (he : listed P b.fn a o w = #[]) :
    stepG P main (G (b.at a (.inRegion ops (i :: rest) :: k)) (c :: cs)) w = .go (G (b.at (a.put o.dst .nilIface) (.inRegion ops rest :: k)) (c :: cs)) w #[] := by
  have hfin : (b.at a (.inRegion ops (i :: rest) :: k)).finish .nilIface = b.at (a.put o.dst .nilIface) (.inRegion ops rest :: k) := by rw [Frame.finish_at, ho]; rfl
  rw [stepG_oper ho hw, ← hfin]
  unfold listed at he
  simp [stepG.apply, hr, G, Frame.at, hk, hro, tryRecover, hc, GStep.after, he]
/-- A deferred call of a function with what it has captured is made. -/
theorem stepG_unwindC {P : Program} {main : Bool} {b : Frame} {a : Act} {cs : List Frame} {w : World} {todo : List Item} {fn : Func} {f : FuncId} {cap : Array Value} {ds : List Deferred} {c : Code} (hd : a.defers = { target := .fn (.func f) cap, args := #[] } :: ds) (hf : P.funcs[f]? = some fn) (hname : (fn.name == "runtime.NumGoroutine") = false) (hb : fn.body = some c) :
    stepG P main (G { b.at a todo with mode := .returning } cs) w =
      .go (G ((baseD f).at { tmps := cap ++ Array.replicate (fn.ntmps - cap.size) undef, defers := [] } [.code c]) ({ b.at ⟨a.tmps, ds⟩ todo with mode := .returning } :: cs)) w #[] := by
  have h1 : ¬ fn.name = "runtime.NumGoroutine" := by simpa using hname
  rw [← enter_atD cap hf hb]
  simp [G, stepG, unwind, callDeferred, Frame.at, hd, invoke, callFunc, hf, h1, hb, GStep.after, seen_none]
end
end Go.Crew
