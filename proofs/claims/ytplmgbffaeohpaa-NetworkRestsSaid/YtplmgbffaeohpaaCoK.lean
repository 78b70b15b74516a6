/- What the starter holds of memory; its rules for Add, go, Wait. -/
import Derived.Test.YtplmgbffaeohpaaCoWait
set_option linter.unusedSimpArgs false
set_option linter.unusedVariables false
namespace Go.Crew
open Go.Conc Go.Conc.Lib

/-- A block that goroutine 0 has made (and handed on). -/
def Z (x : Sx) (b : Nat) (o : Obj) : Prop := (x.cls b = .mine 0 ∨ ∃ j, x.cls b = .gift j ∧ j ≤ x.num) ∧ x.w.heap[b]? = some o
/-- The row has this many cells. -/
def RowSz (K : Crew) (ety : TypeId) (len : Nat) (x : Sx) : Prop := ∃ cs, x.w.heap[K.C]? = some (.cells cs ety (0, 0)) ∧ cs.size = len

section
variable {K : Crew} {ρ : Role} {x y : Sx} {b : Nat} {o : Obj}
theorem Z.rt (h : Z x b o) (r : RT K 0 x y) : Z y b o := by
  obtain ⟨h1 | ⟨j, h1, h3⟩, h2⟩ := h
  · obtain ⟨a1, a2⟩ := r.mine b h1 (lt_of_some h2)
    exact ⟨.inl a2, a1.trans h2⟩
  · obtain ⟨a1, a2⟩ := r.gift b j h1 (.inl rfl) (lt_of_some h2)
    exact ⟨.inr ⟨j, a2, by rw [r.num0 rfl]; exact h3⟩, a1.trans h2⟩
theorem Z.rb {c : Nat} (h : Z x b o) (r : Rb K 0 c x y) (hne : b ≠ c) : Z y b o := by
  obtain ⟨h1 | ⟨j, h1, h3⟩, h2⟩ := h
  · obtain ⟨a1, a2⟩ := r.mine b hne h1 (lt_of_some h2)
    exact ⟨.inl a2, a1.trans h2⟩
  · obtain ⟨a1, a2⟩ := r.gift b j h1 (.inl rfl) (lt_of_some h2)
    exact ⟨.inr ⟨j, a2, by rw [r.num0 rfl]; exact h3⟩, a1.trans h2⟩
theorem Z.nw (h : Z x b o) (r : ∀ c, Rb K 0 c x y) : Z y b o := h.rb (r (b + 1)) (by omega)
theorem Z.has (h : Z x b o) : Has K 0 x b o := by
  obtain ⟨h1 | ⟨j, h1, h3⟩, h2⟩ := h
  · exact .inl ⟨h1, h2⟩
  · exact .inr (.inl ⟨j, h1, .inl rfl, h2⟩)
theorem Z.lt (h : Z x b o) : b < x.w.heap.size := lt_of_some h.2
theorem Z.mine (h : Mine 0 x b o) : Z x b o := ⟨.inl h.1, h.2⟩
theorem RowSz.rt {ety : TypeId} {len : Nat} (h : RowSz K ety len x) (r : RT K 0 x y) : RowSz K ety len y := by
  obtain ⟨cs, h1, h2⟩ := h
  obtain ⟨cs', e1, e2⟩ := r.row cs ety (0, 0) h1
  exact ⟨cs', e1, e2.trans h2⟩
theorem RowSz.rb {ety : TypeId} {len c : Nat} (h : RowSz K ety len x) (r : Rb K 0 c x y) (hne : c ≠ K.C) : RowSz K ety len y := by
  obtain ⟨cs, h1, h2⟩ := h
  obtain ⟨cs', e1, e2, _⟩ := r.row hne cs ety (0, 0) h1
  exact ⟨cs', e1, e2.trans h2⟩
theorem RowSz.nw {ety : TypeId} {len : Nat} (h : RowSz K ety len x) (r : ∀ c, Rb K 0 c x y) : RowSz K ety len y := h.rb (r (K.C + 1)) (by omega)

/-- Behind a go statement. -/
structure Born (K : Crew) (x x' : Sx) : Prop where
  mine : ∀ b o, x.cls b = .mine 0 → x.w.heap[b]? = some o → x'.cls b = .gift x.num ∧ x'.w.heap[b]? = some o
  gift : ∀ b k o, x.cls b = .gift k → x.w.heap[b]? = some o → x'.cls b = .gift k ∧ x'.w.heap[b]? = some o
  row : ∀ cs e f, x.w.heap[K.C]? = some (.cells cs e f) → ∃ cs', x'.w.heap[K.C]? = some (.cells cs' e f) ∧ cs'.size = cs.size
  size : x.w.heap.size ≤ x'.w.heap.size
  tag : x'.tag = .opn
  num : x'.num = x.num + 1
  stg : x'.stg x.num = 7
  dN : Deaf x'.t x.num = 0
  d0 : Deaf x'.t 0 = 0
theorem Z.born (h : Z x b o) (r : Born K x y) : Z y b o ∧ HasG K x.num y b o := by
  obtain ⟨h1 | ⟨j, h1, h3⟩, h2⟩ := h
  · obtain ⟨a1, a2⟩ := r.mine b o h1 h2
    exact ⟨⟨.inr ⟨x.num, a1, by rw [r.num]; omega⟩, a2⟩, .inl ⟨x.num, a1, .inr (Nat.le_refl _), a2⟩⟩
  · obtain ⟨a1, a2⟩ := r.gift b j o h1 h2
    exact ⟨⟨.inr ⟨j, a1, by rw [r.num]; omega⟩, a2⟩, .inl ⟨j, a1, .inr h3, a2⟩⟩
theorem RowSz.born {ety : TypeId} {len : Nat} (h : RowSz K ety len x) (r : Born K x y) : RowSz K ety len y ∧ ∀ k, RowTo K k ety len 0 y := by
  obtain ⟨cs, h1, h2⟩ := h
  obtain ⟨cs', e1, e2⟩ := r.row cs ety (0, 0) h1
  exact ⟨⟨cs', e1, e2.trans h2⟩, fun k => ⟨cs', e1, e2.trans h2, fun o _ ho => absurd ho (by omega)⟩⟩

variable {L : WgLink} {fn : FuncId} {Q : Exit → Act → Sx → Prop} {a : Act} {ops : Array Oper} {i n : Nat} {rest : List Nat} {op : Oper}
/-- wg.Add(1). -/
theorem opsX_add1 (hρ : ρ.i = 0) (H : WgLib K.P L) (hty : K.ty = L.tWg) (hKn : K.n ≤ 1000) {args : Array Operand} {ats : Array TypeId} (ho : ops[i]? = some op) (hw : Region.wanted op (yielded ops a.tmps) = true)
    (hop : op.op = .call { callee := .value (.func L.add), args, argTypes := ats }) (hargs : args.map a.eval = #[.pointer (some ⟨K.Wg, 0, none⟩), .int .i64 1]) (htag : x.tag = .opn) (hd : Deaf x.t 0 = 0)
    (hn : ∀ x', RT K 0 x x' → x'.tag = .pend → Deaf x'.t 0 = 0 → OpsX K ρ fn ops rest n Q (a.put op.dst (.tuple #[])) x') : OpsX K ρ fn ops (i :: rest) (n + 1001) Q a x := by
  intro b k cs m hb hk hc
  obtain ⟨cd, hcd⟩ : ∃ cd, (addFn L).body = some cd := ⟨_, rfl⟩
  have hb' : (addFn L).body.isNone = false := by rw [hcd]; rfl
  have hname : ((addFn L).name == "runtime.NumGoroutine") = false := Go.ConcR.Gen.nm_add L
  have hgo : ∀ w, stepG K.P (ρ.i == 0) (G (b.at a (.inRegion ops (i :: rest) :: k)) cs) w = .go (G ((base L.add).at { tmps := args.map a.eval ++ Array.replicate ((addFn L).ntmps - (args.map a.eval).size) undef, defers := [] } [.code cd]) (b.at a (.inRegion ops (i :: rest) :: k) :: cs)) w #[] := fun w => by
    have hl : listed K.P b.fn a op w = #[] := by unfold listed; rw [events_call_body hop H.f_add hname hb']; exact seen_none K.P _
    rw [stepG_enter ho hw hk (run_call_body hop H.f_add hname hb'), enter_at _ H.f_add hcd, hl]
  rw [show m + (n + 1001) = (m + n + 1000) + 1 by omega]
  refine .ctl rfl rfl hgo fun hbz => ?_
  rw [hargs]
  refine addPosU K ρ hρ H hty hKn (qt := m + n) htag hd (fun x' r1 r2 r3 => ?_) rfl hcd
  have := hn x' r1 r2 r3 b k cs m hb hk hc (.inl hρ)
  rw [ho]
  exact this

/-- A go statement. -/
theorem opsX_go (hρ : ρ.i = 0) {d : Deferred} {f : Fn} {c : Array Value} (ho : ops[i]? = some op) (hw : Region.wanted op (yielded ops a.tmps) = true) (hr : ∀ w, (execOp a.eval op).run K.P w = .ok (.spawn d) w) (he : ∀ w, listed K.P fn a op w = #[]) (hdt : d.target = .fn f c)
    (htag : x.tag = .pend) (hd : Deaf x.t 0 = 0) (hroom : x.num < K.c + K.n)
    (hn : ∀ x', Born K x x' → ρ.Child x.num (born K.P d) x' ∧ OpsX K ρ fn ops rest n Q (a.put op.dst undef) x') : OpsX K ρ fn ops (i :: rest) (n + 1) Q a x := by
  intro b k cs m hb hk hc hbz
  refine GoX.spawn (child := born K.P d) (g' := G (b.at (a.put op.dst undef) (.inRegion ops rest :: k)) cs) hρ (n := m + n) rfl rfl (by rfl) htag hd hroom (fun w => ?_) (fun x' h1 h2 h3 h4 h5 h6 h7 h8 h9 => ?_)
  · rw [stepG_spawn ho hw hk (hr w) hdt, hb, he w]
  · obtain ⟨g1, g2⟩ := hn x' ⟨h1, h2, h3, h4, h5, h6, h7, h8, h9⟩
    exact ⟨g1, g2 b k cs m hb hk hc (.inl hρ)⟩
end
end Go.Crew
