/- The walk of one goroutine in its crew: code, regions, operations, calls. -/
import Derived.Test.YtplmgbffaeohpaaCoC
import Derived.Conc.CompanyMem
import Derived.Conc.CompanyCalls
set_option linter.unusedSimpArgs false
set_option linter.unusedVariables false
namespace Go.Crew
open Go.Conc
open Go.ConcN (fork_knows sumTo upd sumTo_upd upd_ne upd_same)
open Go.ConcR (stA smA WgAt KK rd wr mk)

section
variable {K : Crew} {ρ : Role}

theorem busy_ne {x : Sx} {i : Nat} (h : Busy K i x) : i = 0 ∨ x.stg i ≠ 1 := h.imp id fun y => by rw [y.2]; omega

/-- A working goroutine's walk. -/
def LGo (K : Crew) (ρ : Role) (n : Nat) (g : Goroutine) (x : Sx) : Prop := Busy K ρ.i x → GoX K ρ n g x

theorem LGo.rely {n : Nat} {g : Goroutine} {x y : Sx} (h : LGo K ρ n g x) (r : R K ρ.i x y) (hb : Busy K ρ.i x) : GoX K ρ n g y := (h hb).rely r
theorem LGo.mono {n n' : Nat} {g : Goroutine} {x : Sx} (h : LGo K ρ n g x) (hn : n ≤ n') : LGo K ρ n' g x := fun hb => (h hb).mono hn

/-- One ordinary step that reads at most: whatever the others have done, one goes on from the state in which one stood. -/
theorem LGo.reads {n : Nat} {g g' : Goroutine} {x : Sx} (hs : g.status = .running) (hs' : g'.status = .running)
    (h : ∀ x₁, R K ρ.i x x₁ → Inv K x₁ → ∃ es, stepG K.P (ρ.i == 0) g x₁.w = .go g' x₁.w es ∧ ∀ e ∈ es, EvOk K ρ.i x₁ x₁.w.heap.size e) (hn : LGo K ρ n g' x) : LGo K ρ (n + 1) g x := by
  intro hb
  refine .inr ⟨hs, fun x₁ r hi => ?_⟩
  obtain ⟨es, hst, hes⟩ := h x₁ r hi
  have hb1 := hb.rely r
  obtain ⟨a1, a2, a3⟩ := own_read hi hb1 (fn := g.frame.fn) (pos := g.frame.place) hes
  exact .inl ⟨g', x₁.w, es, { x₁ with t := x₁.t ++ MemOp.ofEvents ρ.i g.frame.fn g.frame.place es }, hst, rfl, rfl, rfl, a1, a2, fun e1 e2 => absurd e1 e2, hs', .inl ⟨(hn hb).rely (r.trans a3), busy_ne hb1⟩⟩

theorem LGo.ctl {n : Nat} {g g' : Goroutine} {x : Sx} (hs : g.status = .running) (hs' : g'.status = .running) (h : ∀ w, stepG K.P (ρ.i == 0) g w = .go g' w #[]) (hn : LGo K ρ n g' x) : LGo K ρ (n + 1) g x :=
  .reads hs hs' (fun x₁ _ _ => ⟨#[], h x₁.w, by simp⟩) hn

/-- One writes one's own block b. -/
theorem LGo.write {n : Nat} {g g' : Goroutine} {x : Sx} {b : Nat} {o o' : Obj} (hs : g.status = .running) (hs' : g'.status = .running) (hm : x.cls b = .mine ρ.i) (ho : x.w.heap[b]? = some o)
    (h : ∀ x₁, R K ρ.i x x₁ → Inv K x₁ → x₁.w.heap[b]? = some o → ∃ es, stepG K.P (ρ.i == 0) g x₁.w = .go g' (setBlk x₁.w b o') es ∧ ∀ e ∈ es, EvOk K ρ.i x₁ x₁.w.heap.size e)
    (hn : ∀ x', Rb K ρ.i b x x' → x'.cls b = .mine ρ.i → x'.w.heap[b]? = some o' → LGo K ρ n g' x') : LGo K ρ (n + 1) g x := by
  intro hb
  refine .inr ⟨hs, fun x₁ r hi => ?_⟩
  obtain ⟨e1, e2⟩ := r.mine b hm (lt_of_some ho)
  obtain ⟨es, hst, hes⟩ := h x₁ r hi (e1.trans ho)
  have hb1 := hb.rely r
  have hbl : b < x₁.w.heap.size := lt_of_some (e1.trans ho)
  obtain ⟨a1, a2, a3⟩ := own_write hi hb1 (o := o') e2 hbl (fn := g.frame.fn) (pos := g.frame.place) hes
  have a4 := Rb.of r a3
  exact .inl ⟨g', _, es, { x₁ with w := setBlk x₁.w b o', t := x₁.t ++ MemOp.ofEvents ρ.i g.frame.fn g.frame.place es }, hst, rfl, rfl, rfl, a1, a2, fun e1 e2 => absurd e1 e2, hs', .inl ⟨hn _ a4 e2 (setBlk_self hbl) (hb.rb a4), busy_ne hb1⟩⟩

/-- One makes a block. -/
theorem LGo.new {n : Nat} {g : Goroutine} {g' : Nat → Goroutine} {x : Sx} {o : Obj} (hs : g.status = .running) (hs' : ∀ m, (g' m).status = .running) (c : Cls) (hc : c = .mine ρ.i ∨ (x.tag = .pre ∧ ρ.i = 0 ∧ (c = .row ∨ c = .grp)))
    (h : ∀ x₁, R K ρ.i x x₁ → Inv K x₁ → ∃ es, stepG K.P (ρ.i == 0) g x₁.w = .go (g' x₁.w.heap.size) (pushBlk x₁.w o) es ∧ ∀ e ∈ es, EvOk K ρ.i x₁ x₁.w.heap.size e)
    (hn : ∀ m x', (∀ b, Rb K ρ.i b x x') → x.w.heap.size ≤ m → x'.cls m = c → x'.w.heap[m]? = some o → x'.w.heap.size = m + 1 → (ρ.i = 0 → x.num = K.c → m = x.w.heap.size ∧ ∀ b, b < m → x'.cls b = x.cls b ∧ x'.w.heap[b]? = x.w.heap[b]?) → LGo K ρ n (g' m) x') : LGo K ρ (n + 1) g x := by
  intro hb
  refine .inr ⟨hs, fun x₁ r hi => ?_⟩
  obtain ⟨es, hst, hes⟩ := h x₁ r hi
  have hb1 := hb.rely r
  have hc1 : c = .mine ρ.i ∨ (x₁.tag = .pre ∧ (c = .row ∨ c = .grp)) := hc.imp id fun y => ⟨by
    have := (r.tag y.2.1).1
    rw [y.1] at this
    exact this, y.2.2⟩
  obtain ⟨a1, a2, a3⟩ := own_new hi hb1 (o := o) hc1 (fn := g.frame.fn) (pos := g.frame.place) hes
  refine .inl ⟨g' x₁.w.heap.size, _, es, { x₁ with w := pushBlk x₁.w o, t := x₁.t ++ MemOp.ofEvents ρ.i g.frame.fn g.frame.place es, cls := newCls x₁.cls x₁.w.heap.size c }, hst, rfl, rfl, rfl, a1, a2, fun e1 e2 => absurd e1 e2, hs' _, .inl ⟨hn x₁.w.heap.size _ (fun b => Rb.of r (a3 b)) r.size (if_pos rfl) (pushBlk_new _ _) (pushBlk_size _ _) (fun h0 hnum => ?_) (hb.rb (Rb.of r (a3 0))), busy_ne hb1⟩⟩
  obtain ⟨e1, e2⟩ := r.lone h0 hnum
  refine ⟨by rw [e1], fun b hbl => ⟨?_, ?_⟩⟩
  · show newCls x₁.cls x₁.w.heap.size c b = x.cls b
    unfold newCls
    rw [if_neg (by omega), e2]
  · show (pushBlk x₁.w o).heap[b]? = _
    rw [pushBlk_old hbl, e1]

/-- A worker writes its cells of the row. -/
theorem LGo.row {n : Nat} {g g' : Goroutine} {x : Sx} (hs : g.status = .running) (hs' : g'.status = .running) (h0 : ρ.i ≠ 0) {cs0 : Array Value} {e : TypeId} {f : Nat × Nat} (hc : x.w.heap[K.C]? = some (.cells cs0 e f)) (new : Nat → Option Value)
    (hnew : ∀ o, K.own ρ.i o → new o = none ∨ True)
    (h : ∀ x₁ cs, R K ρ.i x x₁ → Inv K x₁ → x₁.w.heap[K.C]? = some (.cells cs e f) → cs.size = cs0.size → (∀ o, K.own ρ.i o → cs[o]? = cs0[o]?) → x₁.cls K.C = .row → Started K.toCfg x₁.num ρ.i →
      ∃ cs' es, stepG K.P (ρ.i == 0) g x₁.w = .go g' (setBlk x₁.w K.C (.cells cs' e f)) es ∧ cs'.size = cs.size ∧ (∀ o, ¬ K.own ρ.i o → cs'[o]? = cs[o]?) ∧ (∀ o, K.own ρ.i o → cs'[o]? = new o) ∧ ∀ ev ∈ es, EvOk K ρ.i x₁ x₁.w.heap.size ev)
    (hn : ∀ x' cs', Rb K ρ.i K.C x x' → x'.w.heap[K.C]? = some (.cells cs' e f) → cs'.size = cs0.size → (∀ o, K.own ρ.i o → cs'[o]? = new o) → LGo K ρ n g' x') : LGo K ρ (n + 1) g x := by
  intro hb
  refine .inr ⟨hs, fun x₁ r hi => ?_⟩
  have hb1 := hb.rely r
  obtain ⟨hst1, h7⟩ := hb1.resolve_left h0
  obtain ⟨cs, hcs, hsz, hown⟩ := r.row cs0 e f hc
  have hgrp := hi.grp
  have hp : x₁.tag ≠ .pre := fun hp => by simp only [Group, hp] at hgrp; have := hst1.1; have := hst1.2; omega
  have hcl := hi.cls hp
  obtain ⟨cs', es, hst, s1, s2, s3, hes⟩ := h x₁ cs r hi hcs hsz hown hcl.2.1 hst1
  obtain ⟨a1, a2, a3⟩ := own_row hi hst1 h7 hcs s1 s2 (fn := g.frame.fn) (pos := g.frame.place) hes
  have a4 := Rb.of r a3
  exact .inl ⟨g', _, es, { x₁ with w := setBlk x₁.w K.C (.cells cs' e f), t := x₁.t ++ MemOp.ofEvents ρ.i g.frame.fn g.frame.place es }, hst, rfl, rfl, rfl, a1, a2, fun e1 e2 => absurd e1 e2, hs', .inl ⟨hn _ cs' a4 (setBlk_self hcl.2.2) (s1.trans hsz) s3 (hb.rb a4), busy_ne hb1⟩⟩

/-! ### The judgement -/
def AfterX (K : Crew) (ρ : Role) (m : Nat) (b : Frame) (k : List Item) (cs : List Frame) : Exit → Act → Sx → Prop
  | .normal, a, x => LGo K ρ m (G (b.at a k) cs) x
  | .exit id, a, x => ∃ k', exitTo id k = some k' ∧ LGo K ρ m (G (b.at a k') cs) x
  | .ret, a, x => ∀ todo, LGo K ρ m (G { b.at a todo with mode := .returning } cs) x
  | _, _, _ => False

theorem AfterX.mono {m m' : Nat} {b : Frame} {k : List Item} {cs : List Frame} {e : Exit} {a : Act} {x : Sx} (h : AfterX K ρ m b k cs e a x) (hm : m ≤ m') : AfterX K ρ m' b k cs e a x := by
  cases e with
  | normal => exact LGo.mono h hm
  | exit id => obtain ⟨k', hk, hg⟩ := h; exact ⟨k', hk, hg.mono hm⟩
  | ret => exact fun todo => (h todo).mono hm
  | goto l => exact h
  | panic ch => exact h
  | outgrown => exact h

theorem AfterX.push {m : Nat} {b : Frame} {it : Item} {k : List Item} {cs : List Frame} {e : Exit} {a : Act} {x : Sx} (hx : it.plain = true) (he : e ≠ .normal) (h : AfterX K ρ m b k cs e a x) : AfterX K ρ m b (it :: k) cs e a x := by
  cases e with
  | normal => exact absurd rfl he
  | exit id => obtain ⟨k', hk, hg⟩ := h; exact ⟨k', by cases it <;> simp_all [exitTo, Item.plain], hg⟩
  | ret => exact h
  | goto l => exact h
  | panic ch => exact h
  | outgrown => exact h

def XThen (next : Act → Sx → Prop) (Q : Exit → Act → Sx → Prop) : Exit → Act → Sx → Prop
  | .normal, a, x => next a x
  | e, a, x => Q e a x
def XBlock (id : Nat) (Q : Exit → Act → Sx → Prop) : Exit → Act → Sx → Prop
  | .exit id', a, x => if id' = id then Q .normal a x else Q (.exit id') a x
  | e, a, x => Q e a x

def WpX (K : Crew) (ρ : Role) (fn : FuncId) (c : Code) (n : Nat) (Q : Exit → Act → Sx → Prop) (a : Act) (x : Sx) : Prop :=
  ∀ (b : Frame) (k : List Item) (cs : List Frame) (m : Nat), b.fn = fn → b.kind ≠ .early → (∀ e a' x', Q e a' x' → AfterX K ρ m b k cs e a' x') → LGo K ρ (m + n) (G (b.at a (.code c :: k)) cs) x
def OpsX (K : Crew) (ρ : Role) (fn : FuncId) (ops : Array Oper) (todo : List Nat) (n : Nat) (Q : Exit → Act → Sx → Prop) (a : Act) (x : Sx) : Prop :=
  ∀ (b : Frame) (k : List Item) (cs : List Frame) (m : Nat), b.fn = fn → b.kind ≠ .early → (∀ e a' x', Q e a' x' → AfterX K ρ m b k cs e a' x') → LGo K ρ (m + n) (G (b.at a (.inRegion ops todo :: k)) cs) x

variable {fn : FuncId} {Q : Exit → Act → Sx → Prop} {a : Act} {x : Sx}

theorem wpX_more {c : Code} {n n' : Nat} (h : WpX K ρ fn c n Q a x) (hn : n ≤ n') : WpX K ρ fn c n' Q a x :=
  fun b k cs m hb hk hc => (h b k cs m hb hk hc).mono (by omega)
theorem wpX_mono {c : Code} {n : Nat} {Q' : Exit → Act → Sx → Prop} (h : WpX K ρ fn c n Q a x) (hq : ∀ e a x, Q e a x → Q' e a x) : WpX K ρ fn c n Q' a x :=
  fun b k cs m hb hk hc => h b k cs m hb hk fun e a' x' q => hc e a' x' (hq e a' x' q)
theorem wpX_skip (h : Q .normal a x) : WpX K ρ fn .skip 1 Q a x := fun b k cs m _ _ hc => .ctl rfl rfl (fun w => stepG_skip) (hc _ _ _ h)
theorem wpX_label {l : Nat} (h : Q .normal a x) : WpX K ρ fn (.label l) 1 Q a x := fun b k cs m _ _ hc => .ctl rfl rfl (fun w => stepG_label) (hc _ _ _ h)
theorem wpX_ret (h : Q .ret a x) : WpX K ρ fn .ret 1 Q a x := fun b k cs m _ _ hc => .ctl rfl rfl (fun w => stepG_ret') (hc _ _ _ h _)
theorem wpX_exit {id : Nat} (h : Q (.exit id) a x) : WpX K ρ fn (.exit id) 1 Q a x := fun b k cs m _ _ hc => by
  obtain ⟨k', hk', hg⟩ := hc _ _ _ h
  exact .ctl rfl rfl (fun w => stepG_exit hk') hg
theorem wpX_seq {c d : Code} {n₁ n₂ : Nat} (h : WpX K ρ fn c n₁ (XThen (fun a' x' => WpX K ρ fn d n₂ Q a' x') Q) a x) : WpX K ρ fn (.seq c d) (n₁ + n₂ + 1) Q a x := by
  intro b k cs m hb hk hc
  have hx : LGo K ρ (m + n₂ + n₁) (G (b.at a (.code c :: .code d :: k)) cs) x := by
    refine h b (.code d :: k) cs (m + n₂) hb hk fun e a' x' q => ?_
    cases e with
    | normal => exact q b k cs m hb hk hc
    | exit id => exact ((hc _ _ _ q).mono (Nat.le_add_right _ _)).push rfl (by simp)
    | ret => exact ((hc _ _ _ q).mono (Nat.le_add_right _ _)).push (it := .code d) rfl (by simp)
    | goto l => exact hc _ _ _ q
    | panic ch => exact hc _ _ _ q
    | outgrown => exact hc _ _ _ q
  have e : m + (n₁ + n₂ + 1) = (m + n₂ + n₁) + 1 := by omega
  rw [e]
  exact .ctl rfl rfl (fun w => stepG_seq) hx
theorem wpX_cond {c : Operand} {d d' : Code} {t : Bool} {n : Nat} (hc : a.eval c = .bool t) (h : WpX K ρ fn (if t then d else d') n Q a x) : WpX K ρ fn (.cond c d d') (n + 1) Q a x :=
  fun b k cs m hb hk hq => .ctl rfl rfl (fun w => stepG_cond hc) (h b k cs m hb hk hq)
/-- A test with both roads open: the greater count serves both. -/
theorem wpX_split {c : Operand} {d d' : Code} {t : Bool} {n₁ n₂ : Nat} (hc : a.eval c = .bool t) (ht : t = true → WpX K ρ fn d n₁ Q a x) (hf : t = false → WpX K ρ fn d' n₂ Q a x) : WpX K ρ fn (.cond c d d') (max n₁ n₂ + 1) Q a x := by
  refine wpX_cond hc ?_
  cases t with
  | true => exact wpX_more (ht rfl) (Nat.le_max_left _ _)
  | false => exact wpX_more (hf rfl) (Nat.le_max_right _ _)
theorem wpX_block {id : Nat} {c : Code} {n : Nat} (h : WpX K ρ fn c n (XBlock id Q) a x) : WpX K ρ fn (.block id c) (n + 2) Q a x := by
  intro b k cs m hb hk hc
  have hx : LGo K ρ (m + 1 + n) (G (b.at a (.code c :: .inBlock id :: k)) cs) x := by
    refine h b (.inBlock id :: k) cs (m + 1) hb hk fun e a' x' q => ?_
    cases e with
    | normal => exact .ctl rfl rfl (fun w => stepG_inBlock) (hc _ _ _ q)
    | exit id' =>
      by_cases hid : id' = id
      · simp only [XBlock, hid, if_true] at q
        exact ⟨k, by simp [exitTo, hid], (show LGo K ρ m _ _ from hc _ _ _ q).mono (Nat.le_succ m)⟩
      · simp only [XBlock, hid, if_false] at q
        obtain ⟨k', hk', hg⟩ := hc _ _ _ q
        have : (id == id') = false := by simp; exact fun h => hid h.symm
        exact ⟨k', by simp [exitTo, this, hk'], hg.mono (Nat.le_succ m)⟩
    | ret => exact fun todo => (hc _ _ _ q todo).mono (Nat.le_succ m)
    | goto l => exact hc _ _ _ q
    | panic ch => exact hc _ _ _ q
    | outgrown => exact hc _ _ _ q
  have e : m + (n + 2) = (m + 1 + n) + 1 := by omega
  rw [e]
  exact .ctl rfl rfl (fun w => stepG_block) hx
/-- A LOOP: an invariant, a measure that each round lowers, one bound on a round's steps. -/
theorem wpX_loop {c : Code} (I : Act → Sx → Prop) (μ : Act → Sx → Nat) (r N : Nat) (h₀ : I a x) (hN : μ a x ≤ N)
    (round : ∀ a x, I a x → WpX K ρ fn c r (XThen (fun a' x' => I a' x' ∧ μ a' x' < μ a x) Q) a x) : WpX K ρ fn (.loop c) ((N + 1) * (r + 1) + 1) Q a x := by
  intro b k cs m hb hk hc
  have key : ∀ N a x, μ a x ≤ N → I a x → LGo K ρ (m + (N + 1) * (r + 1)) (G (b.at a (.code c :: .inLoop c :: k)) cs) x := by
    intro N
    induction N with
    | zero =>
      intro a x hμ hI
      have := round a x hI b (.inLoop c :: k) cs (m + 1) hb hk fun e a' x' q => by
        cases e with
        | normal => exact absurd q.2 (by omega)
        | exit id => exact ((hc _ _ _ q).mono (Nat.le_add_right _ _)).push rfl (by simp)
        | ret => exact ((hc _ _ _ q).mono (Nat.le_add_right _ _)).push (it := .inLoop c) rfl (by simp)
        | goto l => exact hc _ _ _ q
        | panic ch => exact hc _ _ _ q
        | outgrown => exact hc _ _ _ q
      exact this.mono (by simp; omega)
    | succ N ih =>
      intro a x hμ hI
      have := round a x hI b (.inLoop c :: k) cs (m + (N + 1) * (r + 1) + 1) hb hk fun e a' x' q => by
        cases e with
        | normal => exact .ctl rfl rfl (fun w => stepG_inLoop) (ih a' x' (by have := q.2; omega) q.1)
        | exit id => exact ((hc _ _ _ q).mono (by omega)).push rfl (by simp)
        | ret => exact ((hc _ _ _ q).mono (by omega)).push (it := .inLoop c) rfl (by simp)
        | goto l => exact hc _ _ _ q
        | panic ch => exact hc _ _ _ q
        | outgrown => exact hc _ _ _ q
      refine this.mono ?_
      have : (N + 1 + 1) * (r + 1) = (N + 1) * (r + 1) + (r + 1) := by rw [Nat.succ_mul]
      omega
  have e : m + ((N + 1) * (r + 1) + 1) = (m + (N + 1) * (r + 1)) + 1 := by omega
  rw [e]
  exact .ctl rfl rfl (fun w => stepG_loop) (key N a x hN h₀)

/-! ### Regions -/
theorem wpX_region {id : Nat} {ops : Array Oper} {n : Nat} (h : OpsX K ρ fn ops (List.range ops.size) n Q a x) : WpX K ρ fn (.region id ops false) (n + 1) Q a x :=
  fun b k cs m hb hk hc => .ctl rfl rfl (fun w => stepG_region) (h b k cs m hb hk hc)
theorem opsX_nil {ops : Array Oper} (h : Q .normal a x) : OpsX K ρ fn ops [] 1 Q a x := fun b k cs m _ _ hc =>
  .ctl rfl rfl (fun w => stepG_region_end) (hc _ _ _ h)
theorem opsX_more {ops : Array Oper} {todo : List Nat} {n n' : Nat} (h : OpsX K ρ fn ops todo n Q a x) (hn : n ≤ n') : OpsX K ρ fn ops todo n' Q a x :=
  fun b k cs m hb hk hc => (h b k cs m hb hk hc).mono (by omega)

/-- Operation o yields v, whatever the others have done, turns nothing, and lists reads at most. -/
def YieldX (K : Crew) (ρ : Role) (fn : FuncId) (x : Sx) (o : Oper) (a : Act) (v : Value) : Prop :=
  ∀ x₁, R K ρ.i x x₁ → Inv K x₁ → ((execOp a.eval o).run K.P x₁.w = .ok (.value v) x₁.w ∨ ((execOp a.eval o).run K.P x₁.w = .ok .skip x₁.w ∧ v = undef)) ∧ ∀ e ∈ listed K.P fn a o x₁.w, EvOk K ρ.i x₁ x₁.w.heap.size e

theorem opsX_read {ops : Array Oper} {i : Nat} {rest : List Nat} {o : Oper} {n : Nat} (v : Value) (ho : ops[i]? = some o) (hw : Region.wanted o (yielded ops a.tmps) = true) (h : YieldX K ρ fn x o a v)
    (hn : OpsX K ρ fn ops rest n Q (a.put o.dst v) x) : OpsX K ρ fn ops (i :: rest) (n + 1) Q a x := by
  intro b k cs m hb hk hc
  refine .reads rfl rfl (fun x₁ r hi => ?_) (hn b k cs m hb hk hc)
  obtain ⟨h1, h2⟩ := h x₁ r hi
  rcases h1 with h1 | ⟨h1, rfl⟩
  · exact ⟨_, stepG_value ho hw hk h1, by rw [hb]; exact h2⟩
  · exact ⟨_, stepG_none ho hw hk h1, by rw [hb]; exact h2⟩
theorem opsX_unwanted {ops : Array Oper} {i : Nat} {rest : List Nat} {o : Oper} {n : Nat} (ho : ops[i]? = some o) (hw : Region.wanted o (yielded ops a.tmps) = false)
    (hn : OpsX K ρ fn ops rest n Q (a.put o.dst undef) x) : OpsX K ρ fn ops (i :: rest) (n + 1) Q a x :=
  fun b k cs m hb hk hc => .ctl rfl rfl (fun _ => stepG_unwanted ho hw) (hn b k cs m hb hk hc)

/-- .. writes one's own block .. -/
theorem opsX_write {ops : Array Oper} {i : Nat} {rest : List Nat} {o : Oper} {n : Nat} {b : Nat} {ob ob' : Obj} (ho : ops[i]? = some o) (hw : Region.wanted o (yielded ops a.tmps) = true) (hm : x.cls b = .mine ρ.i) (hb0 : x.w.heap[b]? = some ob)
    (h : ∀ x₁, R K ρ.i x x₁ → Inv K x₁ → x₁.w.heap[b]? = some ob → x₁.cls b = .mine ρ.i → (execOp a.eval o).run K.P x₁.w = .ok .skip (setBlk x₁.w b ob') ∧ ∀ e ∈ listed K.P fn a o x₁.w, EvOk K ρ.i x₁ x₁.w.heap.size e)
    (hn : ∀ x', Rb K ρ.i b x x' → x'.cls b = .mine ρ.i → x'.w.heap[b]? = some ob' → OpsX K ρ fn ops rest n Q (a.put o.dst undef) x') : OpsX K ρ fn ops (i :: rest) (n + 1) Q a x := by
  intro b' k cs m hb hk hc
  refine .write rfl rfl hm hb0 (fun x₁ r hi ho1 => ?_) (fun x' h1 h2 h3 => hn x' h1 h2 h3 b' k cs m hb hk hc)
  obtain ⟨h1, h2⟩ := h x₁ r hi ho1 (r.mine b hm (lt_of_some hb0)).2
  exact ⟨_, stepG_none ho hw hk h1, by rw [hb]; exact h2⟩

/-- .. makes a block .. -/
theorem opsX_new {ops : Array Oper} {i : Nat} {rest : List Nat} {o : Oper} {n : Nat} {ob : Obj} (v : Nat → Value) (ho : ops[i]? = some o) (hw : Region.wanted o (yielded ops a.tmps) = true) (c : Cls) (hc : c = .mine ρ.i ∨ (x.tag = .pre ∧ ρ.i = 0 ∧ (c = .row ∨ c = .grp)))
    (h : ∀ x₁, R K ρ.i x x₁ → Inv K x₁ → (execOp a.eval o).run K.P x₁.w = .ok (.value (v x₁.w.heap.size)) (pushBlk x₁.w ob) ∧ ∀ e ∈ listed K.P fn a o x₁.w, EvOk K ρ.i x₁ x₁.w.heap.size e)
    (hn : ∀ m x', (∀ b, Rb K ρ.i b x x') → x.w.heap.size ≤ m → x'.cls m = c → x'.w.heap[m]? = some ob → x'.w.heap.size = m + 1 → (ρ.i = 0 → x.num = K.c → m = x.w.heap.size ∧ ∀ b, b < m → x'.cls b = x.cls b ∧ x'.w.heap[b]? = x.w.heap[b]?) → OpsX K ρ fn ops rest n Q (a.put o.dst (v m)) x') : OpsX K ρ fn ops (i :: rest) (n + 1) Q a x := by
  intro b' k cs m hb hk hq
  refine .new (g' := fun n => G (b'.at (a.put o.dst (v n)) (.inRegion ops rest :: k)) cs) rfl (fun _ => rfl) c hc (fun x₁ r hi => ?_) (fun m' x' h1 h2 h3 h4 h5 h6 => hn m' x' h1 h2 h3 h4 h5 h6 b' k cs m hb hk hq)
  obtain ⟨h1, h2⟩ := h x₁ r hi
  exact ⟨_, stepG_value ho hw hk h1, by rw [hb]; exact h2⟩

/-- .. writes one's cells of the row. -/
theorem opsX_row {ops : Array Oper} {i : Nat} {rest : List Nat} {o : Oper} {n : Nat} (h0 : ρ.i ≠ 0) {cs0 : Array Value} {e : TypeId} {f : Nat × Nat} (ho : ops[i]? = some o) (hw : Region.wanted o (yielded ops a.tmps) = true) (hc : x.w.heap[K.C]? = some (.cells cs0 e f)) (new : Nat → Option Value)
    (h : ∀ x₁ cs, R K ρ.i x x₁ → Inv K x₁ → x₁.w.heap[K.C]? = some (.cells cs e f) → cs.size = cs0.size → (∀ o, K.own ρ.i o → cs[o]? = cs0[o]?) → x₁.cls K.C = .row → Started K.toCfg x₁.num ρ.i →
      ∃ cs', (execOp a.eval o).run K.P x₁.w = .ok .skip (setBlk x₁.w K.C (.cells cs' e f)) ∧ cs'.size = cs.size ∧ (∀ o, ¬ K.own ρ.i o → cs'[o]? = cs[o]?) ∧ (∀ o, K.own ρ.i o → cs'[o]? = new o) ∧ ∀ ev ∈ listed K.P fn a o x₁.w, EvOk K ρ.i x₁ x₁.w.heap.size ev)
    (hn : ∀ x' cs', Rb K ρ.i K.C x x' → x'.w.heap[K.C]? = some (.cells cs' e f) → cs'.size = cs0.size → (∀ o, K.own ρ.i o → cs'[o]? = new o) → OpsX K ρ fn ops rest n Q (a.put o.dst undef) x') : OpsX K ρ fn ops (i :: rest) (n + 1) Q a x := by
  intro b' k cs m hb hk hq
  refine .row rfl rfl h0 hc new (fun _ _ => .inr trivial) (fun x₁ cs1 r hi h1 h2 h3 h4 h5 => ?_) (fun x' cs' h1 h2 h3 h4 => hn x' cs' h1 h2 h3 h4 b' k cs m hb hk hq)
  obtain ⟨cs', g1, g2, g3, g4, g5⟩ := h x₁ cs1 r hi h1 h2 h3 h4 h5
  exact ⟨cs', _, stepG_none ho hw hk g1, g2, g3, g4, by rw [hb]; exact g5⟩

/-! ### A callee's contract -/
/-- The results are read: nothing is turned, reads at most are listed. -/
def ResX (K : Crew) (ρ : Role) (f : FuncId) (fn : Func) (tmps : Array Value) (x : Sx) (v : Value) : Prop :=
  ∀ x₁, R K ρ.i x x₁ → Inv K x₁ → (results fn tmps).run K.P x₁.w = .ok v x₁.w ∧ ∀ e ∈ seen K.P f ((results fn tmps).events K.P x₁.w #[]), EvOk K ρ.i x₁ x₁.w.heap.size e
def BodyX (K : Crew) (ρ : Role) (f : FuncId) (fn : Func) (Post : Value → Sx → Prop) : Exit → Act → Sx → Prop
  | .normal, a, x | .ret, a, x => a.defers = [] ∧ ∃ v, ResX K ρ f fn a.tmps x v ∧ Post v x
  | _, _, _ => False
def CallX (K : Crew) (ρ : Role) (f : FuncId) (captured args : Array Value) (n : Nat) (x : Sx) (Post : Value → Sx → Prop) : Prop :=
  ∃ fn c, K.P.funcs[f]? = some fn ∧ (fn.name == "runtime.NumGoroutine") = false ∧ fn.body = some c ∧
    WpX K ρ f c n (BodyX K ρ f fn Post) { tmps := (captured ++ args) ++ Array.replicate (fn.ntmps - (captured ++ args).size) undef, defers := [] } x

theorem stepG_leaveE {P : Program} {main : Bool} {b : Frame} {a : Act} {cs : List Frame} {w : World} {fn : Func} {todo : List Item} {c : Frame} {v : Value} (hn : b.kind = .normal) (hd : a.defers = []) (hf : P.funcs[b.fn]? = some fn)
    (hr : (results fn a.tmps).run P w = .ok v w) :
    stepG P main (G { b.at a todo with mode := .returning } (c :: cs)) w = .go (G (c.finish v) cs) w (seen P b.fn ((results fn a.tmps).events P w #[])) := by
  simp [G, stepG, unwind, doReturn, Frame.at, hn, hd, hf, hr, GStep.after]

theorem LGo.body {f : FuncId} {fnn : Func} {c : Code} {nf m : Nat} {Post : Value → Sx → Prop} {tmps : Array Value} {fr : Frame} {cs : List Frame} (hf : K.P.funcs[f]? = some fnn) 
    (hwp : WpX K ρ f c nf (BodyX K ρ f fnn Post) { tmps := tmps, defers := [] } x) (hnext : ∀ v x', Post v x' → LGo K ρ m (G (fr.finish v) cs) x') :
    LGo K ρ (m + 2 + nf) (G ((base f).at { tmps := tmps, defers := [] } [.code c]) (fr :: cs)) x := by
  have hleave : ∀ (a' : Act) (x' : Sx) (todo : List Item), (a'.defers = [] ∧ ∃ v, ResX K ρ f fnn a'.tmps x' v ∧ Post v x') → LGo K ρ (m + 1) (G { (base f).at a' todo with mode := .returning } (fr :: cs)) x' := by
    rintro a' x' todo ⟨hd, v, hr, hp⟩
    refine .reads rfl rfl (fun x₁ r hi => ?_) (hnext v x' hp)
    obtain ⟨h1, h2⟩ := hr x₁ r hi
    exact ⟨_, stepG_leaveE (b := base f) rfl hd hf h1, h2⟩
  refine hwp (base f) [] _ (m + 2) rfl (by simp [base]) fun e a' x' q => ?_
  cases e with
  | normal => exact .ctl rfl rfl (fun w => stepG_end) (hleave a' x' [] q)
  | ret => exact fun todo => (hleave a' x' todo q).mono (by omega)
  | exit id => exact q.elim
  | goto l => exact q.elim
  | panic ch => exact q.elim
  | outgrown => exact q.elim

theorem opsX_call {ops : Array Oper} {i : Nat} {rest : List Nat} {o : Oper} {f : FuncId} {args : Array Operand} {ats : Array TypeId} {nf n : Nat} {Post : Value → Sx → Prop}
    (ho : ops[i]? = some o) (hw : Region.wanted o (yielded ops a.tmps) = true) (hop : o.op = .call { callee := .value (.func f), args, argTypes := ats })
    (hcall : CallX K ρ f #[] (args.map a.eval) nf x Post) (hnext : ∀ v x', Post v x' → OpsX K ρ fn ops rest n Q (a.put o.dst v) x') : OpsX K ρ fn ops (i :: rest) (n + nf + 3) Q a x := by
  intro b k cs m hb hk hc
  obtain ⟨fnn, c, hf, hname, hbody, hwp⟩ := hcall
  have hfin : ∀ v, (b.at a (.inRegion ops (i :: rest) :: k)).finish v = b.at (a.put o.dst v) (.inRegion ops rest :: k) := fun v => by rw [Frame.finish_at, ho]; rfl
  simp only [Array.empty_append] at hwp
  have := LGo.body (K := K) (ρ := ρ) (m := m + n) (fr := b.at a (.inRegion ops (i :: rest) :: k)) (cs := cs) hf hwp fun v x' hp => by rw [hfin]; exact hnext v x' hp b k cs m hb hk hc
  have e : m + (n + nf + 3) = (m + n + 2 + nf) + 1 := by omega
  rw [e]
  have hgo : ∀ w, stepG K.P (ρ.i == 0) (G (b.at a (.inRegion ops (i :: rest) :: k)) cs) w = .go (G ((base f).at { tmps := args.map a.eval ++ Array.replicate (fnn.ntmps - (args.map a.eval).size) undef, defers := [] } [.code c]) (b.at a (.inRegion ops (i :: rest) :: k) :: cs)) w #[] := fun w => by
    have hb' : fnn.body.isNone = false := by rw [hbody]; rfl
    have hl : listed K.P b.fn a o w = #[] := by unfold listed; rw [events_call_body hop hf hname hb']; exact seen_none K.P _
    rw [stepG_enter ho hw hk (run_call_body hop hf hname hb'), enter_at _ hf hbody, hl]
  exact .ctl rfl rfl hgo this
end
end Go.Crew
