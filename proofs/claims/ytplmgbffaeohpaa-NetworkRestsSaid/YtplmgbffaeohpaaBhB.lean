/- Goroutine 0 beside goroutines that only leave: the walk: code, regions, operations, calls. -/
import Derived.Test.YtplmgbffaeohpaaBhA
import Derived.Test.YtplmgbffaeohpaaCoF
set_option linter.unusedSimpArgs false
set_option linter.unusedVariables false
namespace Go.Beh
open Go.Conc
open Go.Crew (stepG_leaveE stepG_deferV setBlk pushBlk lt_of_some)

/-- Block b holds o, and may be touched. -/
structure HasB (x : M) (b : Nat) (o : Obj) : Prop where
  at_ : x.h[b]? = some o
  ok : ¬ x.S b

def EvB (x : M) (e : Event) : Prop := EvL (shun x.S) x.h.size e

theorem HasB.lt {x : M} {b : Nat} {o : Obj} (h : HasB x b o) : b < x.h.size := lt_of_some h.at_
theorem EvB.cell {x : M} {b : Nat} {o : Obj} (h : HasB x b o) {ad : Addr} (e : ad.block = b) (wr : Bool) : EvB x ⟨.cell ad, wr, false⟩ :=
  evL_cell ad wr (fun ⟨a, ha, hs⟩ => by cases ha; exact h.ok (e ▸ hs)) (e ▸ h.lt)

/-- Memory with a block more; with a block turned. -/
def M.push (x : M) (o : Obj) : M := ⟨x.h.push o, x.S, fun b hb => by simp; have := x.lt b hb; omega⟩
def M.set (x : M) (b : Nat) (o : Obj) : M := ⟨x.h.setIfInBounds b o, x.S, fun b' hb => by simp; exact x.lt b' hb⟩

/-- What was there is there still; what nobody may touch is that or new. -/
structure Ext (x y : M) : Prop where
  size : x.h.size ≤ y.h.size
  old : ∀ b, b < x.h.size → y.h[b]? = x.h[b]?
  S : ∀ b, b < x.h.size → y.S b → x.S b

/-- The like, but for block b. -/
structure Chg (b : Nat) (x y : M) : Prop where
  size : y.h.size = x.h.size
  old : ∀ c, c ≠ b → y.h[c]? = x.h[c]?
  S : y.S = x.S

section
variable {x y z : M} {b c : Nat} {o : Obj}
theorem Ext.refl (x : M) : Ext x x := ⟨Nat.le_refl _, fun _ _ => rfl, fun _ _ h => h⟩
theorem Ext.trans (h : Ext x y) (h' : Ext y z) : Ext x z :=
  ⟨Nat.le_trans h.size h'.size, fun b hb => (h'.old b (Nat.lt_of_lt_of_le hb h.size)).trans (h.old b hb), fun b hb hs => h.S b hb (h'.S b (Nat.lt_of_lt_of_le hb h.size) hs)⟩
theorem Ext.chg (h : Ext x y) (h' : Chg b y z) (hb : x.h.size ≤ b) : Ext x z :=
  ⟨by rw [h'.size]; exact h.size, fun c hc => (h'.old c (by omega)).trans (h.old c hc), fun c hc hs => h.S c hc (h'.S ▸ hs)⟩
theorem Ext.push (x : M) (o : Obj) : Ext x (x.push o) :=
  ⟨by simp [M.push], fun b hb => by simp only [M.push]; rw [Array.getElem?_push_lt hb]; exact (Array.getElem?_eq_getElem hb).symm, fun b _ h => h⟩
theorem HasB.ext (h : HasB x b o) (r : Ext x y) : HasB y b o := ⟨(r.old b h.lt).trans h.at_, fun hs => h.ok (r.S b h.lt hs)⟩
theorem HasB.chg (h : HasB x b o) (r : Chg c x y) (hne : b ≠ c) : HasB y b o := ⟨(r.old b hne).trans h.at_, fun hs => h.ok (r.S ▸ hs)⟩
theorem HasB.push (x : M) (o : Obj) : HasB (x.push o) x.h.size o := ⟨by simp [M.push], fun hs => absurd (x.lt _ hs) (Nat.lt_irrefl _)⟩
theorem Chg.set (x : M) (b : Nat) (o : Obj) : Chg b x (x.set b o) := ⟨by simp [M.set], fun c hc => by simp only [M.set]; rw [Array.getElem?_setIfInBounds_ne (Ne.symm hc)], rfl⟩
theorem HasB.set {o' : Obj} (h : HasB x b o) : HasB (x.set b o') b o' := ⟨by have := h.lt; simp [M.set, this], h.ok⟩
theorem Ext.sub {b : Nat} (h : Ext x y) (h' : Chg b x z) : True := trivial
end

section
variable {B : Base} {x x' : M} {g g' : Goroutine}

theorem Wd.push {w : World} {o : Obj} (h : Wd B x w) : Wd B (x.push o) (w.alloc o) := ⟨by simp [World.alloc, M.push, h.h], h.T, h.O, h.U⟩
theorem Wd.set {w : World} {b : Nat} {o : Obj} (h : Wd B x w) : Wd B (x.set b o) (setBlk w b o) := ⟨by simp [setBlk, M.set, h.h], h.T, h.O, h.U⟩

theorem Beh.reads (hs : g.status = .running) (h : ∀ w, Wd B x w → ∃ es, stepG B.P true g w = .go g' w es ∧ ∀ e ∈ es, EvB x e) (hn : Beh B g' x) : Beh B g x :=
  .step hs fun w hw => by
    obtain ⟨es, h1, h2⟩ := h w hw
    exact ⟨g', w, es, x, h1, hw, rfl, Nat.le_refl _, h2, hn⟩
theorem Beh.ctl (hs : g.status = .running) (h : ∀ w, stepG B.P true g w = .go g' w #[]) (hn : Beh B g' x) : Beh B g x :=
  .reads hs (fun w _ => ⟨#[], h w, by simp⟩) hn
theorem Beh.write {b : Nat} {o o' : Obj} (hs : g.status = .running) (ho : HasB x b o)
    (h : ∀ w, Wd B x w → ∃ es, stepG B.P true g w = .go g' (setBlk w b o') es ∧ ∀ e ∈ es, EvB x e) (hn : Beh B g' (x.set b o')) : Beh B g x :=
  .step hs fun w hw => by
    obtain ⟨es, h1, h2⟩ := h w hw
    exact ⟨g', _, es, x.set b o', h1, hw.set, rfl, by simp [M.set], fun e he => by have := h2 e he; unfold EvB at this; simpa [M.set] using this, hn⟩
theorem Beh.new {o : Obj} {g' : Nat → Goroutine} (hs : g.status = .running)
    (h : ∀ w, Wd B x w → ∃ es, stepG B.P true g w = .go (g' x.h.size) (w.alloc o) es ∧ ∀ e ∈ es, EvB x e) (hn : Beh B (g' x.h.size) (x.push o)) : Beh B g x :=
  .step hs fun w hw => by
    obtain ⟨es, h1, h2⟩ := h w hw
    exact ⟨_, _, es, x.push o, h1, hw.push, rfl, by simp [M.push], fun e he => by
      obtain ⟨a1, a2, a3, a4⟩ := h2 e he
      exact ⟨a1, a2, a3, MemAct.low_mono (by simp [M.push]) a4⟩, hn⟩

/-! ### The judgement -/
def AfterB (B : Base) (b : Frame) (k : List Item) (cs : List Frame) : Exit → Act → M → Prop
  | .normal, a, x => Beh B (G (b.at a k) cs) x
  | .exit id, a, x => ∃ k', exitTo id k = some k' ∧ Beh B (G (b.at a k') cs) x
  | .ret, a, x => ∀ todo, Beh B (G { b.at a todo with mode := .returning } cs) x
  | _, _, _ => False

theorem AfterB.push {b : Frame} {it : Item} {k : List Item} {cs : List Frame} {e : Exit} {a : Act} {x : M} (hx : it.plain = true) (he : e ≠ .normal) (h : AfterB B b k cs e a x) : AfterB B b (it :: k) cs e a x := by
  cases e with
  | normal => exact absurd rfl he
  | exit id => obtain ⟨k', hk, hg⟩ := h; exact ⟨k', by cases it <;> simp_all [exitTo, Item.plain], hg⟩
  | ret => exact h
  | goto l => exact h
  | panic ch => exact h
  | outgrown => exact h

def BThen (next : Act → M → Prop) (Q : Exit → Act → M → Prop) : Exit → Act → M → Prop
  | .normal, a, x => next a x
  | e, a, x => Q e a x
def BBlock (id : Nat) (Q : Exit → Act → M → Prop) : Exit → Act → M → Prop
  | .exit id', a, x => if id' = id then Q .normal a x else Q (.exit id') a x
  | e, a, x => Q e a x

def WpB (B : Base) (fn : FuncId) (c : Code) (Q : Exit → Act → M → Prop) (a : Act) (x : M) : Prop :=
  ∀ (b : Frame) (k : List Item) (cs : List Frame), b.fn = fn → b.kind ≠ .early → (∀ e a' x', Q e a' x' → AfterB B b k cs e a' x') → Beh B (G (b.at a (.code c :: k)) cs) x
def OpsB (B : Base) (fn : FuncId) (ops : Array Oper) (todo : List Nat) (Q : Exit → Act → M → Prop) (a : Act) (x : M) : Prop :=
  ∀ (b : Frame) (k : List Item) (cs : List Frame), b.fn = fn → b.kind ≠ .early → (∀ e a' x', Q e a' x' → AfterB B b k cs e a' x') → Beh B (G (b.at a (.inRegion ops todo :: k)) cs) x

variable {fn : FuncId} {Q : Exit → Act → M → Prop} {a : Act}

theorem wpB_mono {c : Code} {Q' : Exit → Act → M → Prop} (h : WpB B fn c Q a x) (hq : ∀ e a x, Q e a x → Q' e a x) : WpB B fn c Q' a x :=
  fun b k cs hb hk hc => h b k cs hb hk fun e a' x' q => hc e a' x' (hq e a' x' q)
theorem wpB_skip (h : Q .normal a x) : WpB B fn .skip Q a x := fun b k cs _ _ hc => .ctl rfl (fun w => stepG_skip) (hc _ _ _ h)
theorem wpB_label {l : Nat} (h : Q .normal a x) : WpB B fn (.label l) Q a x := fun b k cs _ _ hc => .ctl rfl (fun w => stepG_label) (hc _ _ _ h)
theorem wpB_ret (h : Q .ret a x) : WpB B fn .ret Q a x := fun b k cs _ _ hc => .ctl rfl (fun w => stepG_ret') (hc _ _ _ h _)
theorem wpB_exit {id : Nat} (h : Q (.exit id) a x) : WpB B fn (.exit id) Q a x := fun b k cs _ _ hc => by
  obtain ⟨k', hk', hg⟩ := hc _ _ _ h
  exact .ctl rfl (fun w => stepG_exit hk') hg
theorem wpB_seq {c d : Code} (h : WpB B fn c (BThen (fun a' x' => WpB B fn d Q a' x') Q) a x) : WpB B fn (.seq c d) Q a x := by
  intro b k cs hb hk hc
  have hx : Beh B (G (b.at a (.code c :: .code d :: k)) cs) x := by
    refine h b (.code d :: k) cs hb hk fun e a' x' q => ?_
    cases e with
    | normal => exact q b k cs hb hk hc
    | exit id => exact (hc _ _ _ q).push rfl (by simp)
    | ret => exact (hc _ _ _ q).push (it := .code d) rfl (by simp)
    | goto l => exact hc _ _ _ q
    | panic ch => exact hc _ _ _ q
    | outgrown => exact hc _ _ _ q
  exact .ctl rfl (fun w => stepG_seq) hx
theorem wpB_cond {c : Operand} {d d' : Code} {t : Bool} (hc : a.eval c = .bool t) (h : WpB B fn (if t then d else d') Q a x) : WpB B fn (.cond c d d') Q a x :=
  fun b k cs hb hk hq => .ctl rfl (fun w => stepG_cond hc) (h b k cs hb hk hq)
theorem wpB_split {c : Operand} {d d' : Code} {t : Bool} (hc : a.eval c = .bool t) (ht : t = true → WpB B fn d Q a x) (hf : t = false → WpB B fn d' Q a x) : WpB B fn (.cond c d d') Q a x := by
  refine wpB_cond hc ?_
  cases t with
  | true => exact ht rfl
  | false => exact hf rfl
theorem wpB_block {id : Nat} {c : Code} (h : WpB B fn c (BBlock id Q) a x) : WpB B fn (.block id c) Q a x := by
  intro b k cs hb hk hc
  have hx : Beh B (G (b.at a (.code c :: .inBlock id :: k)) cs) x := by
    refine h b (.inBlock id :: k) cs hb hk fun e a' x' q => ?_
    cases e with
    | normal => exact .ctl rfl (fun w => stepG_inBlock) (hc _ _ _ q)
    | exit id' =>
      by_cases hid : id' = id
      · simp only [BBlock, hid, if_true] at q
        exact ⟨k, by simp [exitTo, hid], hc _ _ _ q⟩
      · simp only [BBlock, hid, if_false] at q
        obtain ⟨k', hk', hg⟩ := hc _ _ _ q
        have : (id == id') = false := by simp; exact fun h => hid h.symm
        exact ⟨k', by simp [exitTo, this, hk'], hg⟩
    | ret => exact fun todo => hc _ _ _ q todo
    | goto l => exact hc _ _ _ q
    | panic ch => exact hc _ _ _ q
    | outgrown => exact hc _ _ _ q
  exact .ctl rfl (fun w => stepG_block) hx
/-- A LOOP: an invariant, a measure that each round lowers. -/
theorem wpB_loop {c : Code} (I : Act → M → Prop) (μ : Act → M → Nat) (h₀ : I a x)
    (round : ∀ a x, I a x → WpB B fn c (BThen (fun a' x' => I a' x' ∧ μ a' x' < μ a x) Q) a x) : WpB B fn (.loop c) Q a x := by
  intro b k cs hb hk hc
  have key : ∀ N a x, μ a x ≤ N → I a x → Beh B (G (b.at a (.code c :: .inLoop c :: k)) cs) x := by
    intro N
    induction N with
    | zero =>
      intro a x hμ hI
      exact round a x hI b (.inLoop c :: k) cs hb hk fun e a' x' q => by
        cases e with
        | normal => exact absurd q.2 (by omega)
        | exit id => exact (hc _ _ _ q).push rfl (by simp)
        | ret => exact (hc _ _ _ q).push (it := .inLoop c) rfl (by simp)
        | goto l => exact hc _ _ _ q
        | panic ch => exact hc _ _ _ q
        | outgrown => exact hc _ _ _ q
    | succ N ih =>
      intro a x hμ hI
      exact round a x hI b (.inLoop c :: k) cs hb hk fun e a' x' q => by
        cases e with
        | normal => exact .ctl rfl (fun w => stepG_inLoop) (ih a' x' (by have := q.2; omega) q.1)
        | exit id => exact (hc _ _ _ q).push rfl (by simp)
        | ret => exact (hc _ _ _ q).push (it := .inLoop c) rfl (by simp)
        | goto l => exact hc _ _ _ q
        | panic ch => exact hc _ _ _ q
        | outgrown => exact hc _ _ _ q
  exact .ctl rfl (fun w => stepG_loop) (key (μ a x) a x (Nat.le_refl _) h₀)

/-! ### Regions -/
theorem wpB_region {id : Nat} {ops : Array Oper} (h : OpsB B fn ops (List.range ops.size) Q a x) : WpB B fn (.region id ops false) Q a x :=
  fun b k cs hb hk hc => .ctl rfl (fun w => stepG_region) (h b k cs hb hk hc)
theorem opsB_nil {ops : Array Oper} (h : Q .normal a x) : OpsB B fn ops [] Q a x := fun b k cs _ _ hc =>
  .ctl rfl (fun w => stepG_region_end) (hc _ _ _ h)
theorem opsB_unwanted {ops : Array Oper} {i : Nat} {rest : List Nat} {o : Oper} (ho : ops[i]? = some o) (hw : Region.wanted o (yielded ops a.tmps) = false)
    (hn : OpsB B fn ops rest Q (a.put o.dst undef) x) : OpsB B fn ops (i :: rest) Q a x :=
  fun b k cs hb hk hc => .ctl rfl (fun _ => stepG_unwanted ho hw) (hn b k cs hb hk hc)

/-- What the carrying out of s does: it leaves a value and memory that satisfy Kt. -/
def ActB (B : Base) (fn : FuncId) (s : Sem Next) (Kt : Value → M → Prop) (x : M) : Prop :=
  ∀ (b : Frame) (a : Act) (ops : Array Oper) (i : Nat) (rest : List Nat) (o : Oper) (k : List Item) (cs : List Frame), ops[i]? = some o → Region.wanted o (yielded ops a.tmps) = true → b.fn = fn → b.kind ≠ .early → execOp a.eval o = s →
    (∀ v x', Kt v x' → Beh B (G (b.at (a.put o.dst v) (.inRegion ops rest :: k)) cs) x') → Beh B (G (b.at a (.inRegion ops (i :: rest) :: k)) cs) x

theorem ActB.mono {s : Sem Next} {Kt Kt' : Value → M → Prop} {x : M} (h : ActB B fn s Kt x) (hk : ∀ v x, Kt v x → Kt' v x) : ActB B fn s Kt' x :=
  fun b a ops i rest o k cs h1 h2 h3 h4 h5 hn => h b a ops i rest o k cs h1 h2 h3 h4 h5 fun v x' hv => hn v x' (hk v x' hv)

/-- One step that yields a value, whatever it does to memory. -/
theorem actB_step {s : Sem Next} {Kt : Value → M → Prop}
    (h : ∀ w, Wd B x w → ∃ v w' x', (s.run B.P w = .ok (.value v) w' ∨ (s.run B.P w = .ok .skip w' ∧ v = undef)) ∧ Wd B x' w' ∧ x'.S = x.S ∧ x.h.size ≤ x'.h.size ∧ (∀ e ∈ seen B.P fn (s.events B.P w #[]), EvB x' e) ∧ Kt v x') : ActB B fn s Kt x := by
  intro b a ops i rest o k cs ho hw hb hke hs hn
  refine .step rfl fun w hw' => ?_
  obtain ⟨v, w', x', h1, h2, h3, h4, h5, h6⟩ := h w hw'
  rw [← hs] at h1 h5
  rcases h1 with h1 | ⟨h1, rfl⟩
  · exact ⟨_, _, _, x', stepG_value ho hw hke h1, h2, h3, h4, (by unfold listed; rw [hb]; exact h5), hn _ _ h6⟩
  · exact ⟨_, _, _, x', stepG_none ho hw hke h1, h2, h3, h4, (by unfold listed; rw [hb]; exact h5), hn _ _ h6⟩

theorem opsB_act {ops : Array Oper} {i : Nat} {rest : List Nat} {o : Oper} {Kt : Value → M → Prop} (ho : ops[i]? = some o) (hw : Region.wanted o (yielded ops a.tmps) = true)
    (h : ActB B fn (execOp a.eval o) Kt x) (hn : ∀ v x', Kt v x' → OpsB B fn ops rest Q (a.put o.dst v) x') : OpsB B fn ops (i :: rest) Q a x :=
  fun b k cs hb hk hc => h b a ops i rest o k cs ho hw hb hk rfl fun v x' hv => hn v x' hv b k cs hb hk hc

/-! ### A callee's contract -/
def ResB (B : Base) (f : FuncId) (fn : Func) (tmps : Array Value) (x : M) (v : Value) : Prop :=
  ∀ w, Wd B x w → (results fn tmps).run B.P w = .ok v w ∧ ∀ e ∈ seen B.P f ((results fn tmps).events B.P w #[]), EvB x e
def BodyB (B : Base) (f : FuncId) (fn : Func) (Post : Value → M → Prop) : Exit → Act → M → Prop
  | .normal, a, x | .ret, a, x => a.defers = [] ∧ ∃ v, ResB B f fn a.tmps x v ∧ Post v x
  | _, _, _ => False
def CallB (B : Base) (f : FuncId) (captured args : Array Value) (x : M) (Post : Value → M → Prop) : Prop :=
  ∃ fn c, B.P.funcs[f]? = some fn ∧ (fn.name == "runtime.NumGoroutine") = false ∧ fn.body = some c ∧
    WpB B f c (BodyB B f fn Post) { tmps := (captured ++ args) ++ Array.replicate (fn.ntmps - (captured ++ args).size) undef, defers := [] } x

theorem CallB.mono {f : FuncId} {captured args : Array Value} {Post Post' : Value → M → Prop} (h : CallB B f captured args x Post) (hp : ∀ v x', Post v x' → Post' v x') : CallB B f captured args x Post' := by
  obtain ⟨fn, c, h1, h2, h3, h4⟩ := h
  refine ⟨fn, c, h1, h2, h3, wpB_mono h4 fun e a x q => ?_⟩
  cases e with
  | normal => obtain ⟨hd, v, hr, hq⟩ := q; exact ⟨hd, v, hr, hp _ _ hq⟩
  | ret => obtain ⟨hd, v, hr, hq⟩ := q; exact ⟨hd, v, hr, hp _ _ hq⟩
  | exit id => exact q
  | goto l => exact q
  | panic ch => exact q
  | outgrown => exact q

theorem Beh.body {f : FuncId} {fnn : Func} {c : Code} {Post : Value → M → Prop} {tmps : Array Value} {fr : Frame} {cs : List Frame} (hf : B.P.funcs[f]? = some fnn)
    (hwp : WpB B f c (BodyB B f fnn Post) { tmps := tmps, defers := [] } x) (hnext : ∀ v x', Post v x' → Beh B (G (fr.finish v) cs) x') :
    Beh B (G ((base f).at { tmps := tmps, defers := [] } [.code c]) (fr :: cs)) x := by
  have hleave : ∀ (a' : Act) (x' : M) (todo : List Item), (a'.defers = [] ∧ ∃ v, ResB B f fnn a'.tmps x' v ∧ Post v x') → Beh B (G { (base f).at a' todo with mode := .returning } (fr :: cs)) x' := by
    rintro a' x' todo ⟨hd, v, hr, hp⟩
    refine .reads rfl (fun w hw => ?_) (hnext v x' hp)
    obtain ⟨h1, h2⟩ := hr w hw
    exact ⟨_, stepG_leaveE (b := base f) rfl hd hf h1, h2⟩
  refine hwp (base f) [] _ rfl (by simp [base]) fun e a' x' q => ?_
  cases e with
  | normal => exact .ctl rfl (fun w => stepG_end) (hleave a' x' [] q)
  | ret => exact fun todo => hleave a' x' todo q
  | exit id => exact q.elim
  | goto l => exact q.elim
  | panic ch => exact q.elim
  | outgrown => exact q.elim

/-- A call by a callee's contract: s is 'enter f args'. -/
theorem actB_call {s : Sem Next} {f : FuncId} {cap args : Array Value} {Post Kt : Value → M → Prop} (hs : ∀ w, s.run B.P w = .ok (.enter f (cap ++ args)) w ∧ seen B.P fn (s.events B.P w #[]) = #[])
    (hcall : CallB B f cap args x Post) (hk : ∀ v x', Post v x' → Kt v x') : ActB B fn s Kt x := by
  intro b a ops i rest o k cs ho hw hb hke he hn
  obtain ⟨fnn, c, hf, hname, hbody, hwp⟩ := hcall
  have hfin : ∀ v, (b.at a (.inRegion ops (i :: rest) :: k)).finish v = b.at (a.put o.dst v) (.inRegion ops rest :: k) := fun v => by rw [Frame.finish_at, ho]; rfl
  have := Beh.body (fr := b.at a (.inRegion ops (i :: rest) :: k)) (cs := cs) hf hwp fun v x' hp => by rw [hfin]; exact hn v x' (hk v x' hp)
  have hgo : ∀ w, stepG B.P true (G (b.at a (.inRegion ops (i :: rest) :: k)) cs) w = .go (G ((base f).at { tmps := (cap ++ args) ++ Array.replicate (fnn.ntmps - (cap ++ args).size) undef, defers := [] } [.code c]) (b.at a (.inRegion ops (i :: rest) :: k) :: cs)) w #[] := fun w => by
    obtain ⟨h1, h2⟩ := hs w
    rw [← he] at h1 h2
    rw [stepG_enter ho hw hke h1, enter_at _ hf hbody]
    have hl : listed B.P b.fn a o w = #[] := by unfold listed; rw [hb]; exact h2
    rw [hl]
  exact .ctl rfl hgo this
theorem actB_callV {a : Act} {o : Oper} {f : FuncId} {args : Array Operand} {ats : Array TypeId} {vals : Array Value} {Post Kt : Value → M → Prop} (hop : o.op = .call { callee := .value (.func f), args, argTypes := ats })
    (hv : args.map a.eval = vals) (hcall : CallB B f #[] vals x Post) (hk : ∀ v x', Post v x' → Kt v x') : ActB B fn (execOp a.eval o) Kt x := by
  subst hv
  obtain ⟨fnn, c, hf, hname, hbody, hwp⟩ := id hcall
  have hb' : fnn.body.isNone = false := by rw [hbody]; rfl
  exact actB_call (fun w => ⟨by rw [run_call_body hop hf hname hb']; simp, by rw [events_call_body hop hf hname hb']; exact seen_none B.P _⟩) hcall hk
end
end Go.Beh
