/- What one goroutine's own steps do to what is held of all: reads, writes of its own blocks, new blocks, cells of the row. -/
import Derived.Test.YtplmgbffaeohpaaCoB
set_option linter.unusedSimpArgs false
set_option linter.unusedVariables false
namespace Go.Crew
open Go.Conc
open Go.ConcN (fork_knows sumTo upd sumTo_upd upd_ne upd_same)
open Go.ConcR (stA smA WgAt KK rd wr mk)

/-- Goroutine i may read block b, which holds o, and nobody else turns it. -/
def Has (K : Crew) (i : Nat) (x : Sx) (b : Nat) (o : Obj) : Prop :=
  (x.cls b = .mine i ∧ x.w.heap[b]? = some o) ∨ (∃ k, x.cls b = .gift k ∧ (i = 0 ∨ k ≤ i) ∧ x.w.heap[b]? = some o) ∨ (b < K.w0.heap.size ∧ ¬ K.nob b ∧ K.w0.heap[b]? = some o)

def Busy (K : Crew) (i : Nat) (x : Sx) : Prop := i = 0 ∨ (Started K.toCfg x.num i ∧ x.stg i = 7)

section
variable {K : Crew} {i : Nat} {x y : Sx}

theorem lt_of_some {α : Type} {xs : Array α} {j : Nat} {v : α} (h : xs[j]? = some v) : j < xs.size := (Array.getElem?_eq_some_iff.1 h).1

theorem Has.rely {b : Nat} {o : Obj} (h : Has K i x b o) (r : R K i x y) : Has K i y b o := by
  rcases h with ⟨h1, h2⟩ | ⟨k, h1, h3, h2⟩ | h
  · obtain ⟨e1, e2⟩ := r.mine b h1 (lt_of_some h2)
    exact .inl ⟨e2, e1.trans h2⟩
  · obtain ⟨e1, e2⟩ := r.gift b k h1 h3 (lt_of_some h2)
    exact .inr (.inl ⟨k, e2, h3, e1.trans h2⟩)
  · exact .inr (.inr h)

theorem Has.at {b : Nat} {o : Obj} (h : Has K i x b o) (hi : Inv K x) : x.w.heap[b]? = some o := by
  rcases h with ⟨_, h2⟩ | ⟨k, _, _, h2⟩ | ⟨h1, _, h2⟩
  · exact h2
  · exact h2
  · rw [hi.low b h1]; exact h2

theorem Has.okT {b : Nat} {o : Obj} (h : Has K i x b o) (hi : Inv K x) (a : Touch) (ad : Addr) (hl : a.loc = .cell ad) (hb : ad.block = b) (hw : a.write = false) : OkT K.toCfg x.cls x.num i a := by
  refine ⟨ad, hl, ?_⟩
  rw [hb]
  rcases h with ⟨h1, _⟩ | ⟨k, h1, h2, _⟩ | ⟨h1, h2, _⟩
  · simp only [h1]
  · simp only [h1]; exact ⟨hw, h2⟩
  · rcases hi.lcls b h1 with ⟨e, _⟩ | ⟨_, e⟩
    · exact absurd e h2
    · simp only [e]; exact hw

theorem Busy.rely (h : Busy K i x) (r : R K i x y) : Busy K i y := by
  rcases h with h | ⟨h1, h2⟩
  · exact .inl h
  · exact .inr ⟨⟨h1.1, Nat.lt_of_lt_of_le h1.2 r.num⟩, r.stg.trans h2⟩

theorem Busy.place (h : Busy K i x) : i = 0 ∨ Started K.toCfg x.num i := h.imp id (·.1)

/-- An access that a working goroutine may list. -/
structure EvOk (K : Crew) (i : Nat) (x : Sx) (sz : Nat) (e : Event) : Prop where
  ok : ∀ b, (MemAct.ofEvent e).touch? = some b → OkT K.toCfg x.cls x.num i b
  low : (MemAct.ofEvent e).low sz
  still : ∀ m, e.loc = .mark m → (m ≠ .disable ∧ m ≠ .enable ∧ m ≠ .release (stA K.Wg))

theorem loc_of_mark {e : Event} {m : Mark} (h : MemAct.ofEvent e = .mark m) : e.loc = .mark m := by
  obtain ⟨loc, wr, sy⟩ := e
  cases loc <;> cases wr <;> cases sy <;> simp_all [MemAct.ofEvent]

theorem evs_add {sz : Nat} {fn : FuncId} {pos : String} {es : Array Event} (h : ∀ e ∈ es, EvOk K i x sz e) : ∀ op ∈ MemOp.ofEvents i fn pos es, Add1 K.toCfg sz x.cls x.num i op := by
  intro op hop
  obtain ⟨e, he, rfl⟩ := mem_evs hop
  exact ⟨rfl, (h e he).ok, (h e he).low, fun hr => ((h e he).still _ (loc_of_mark hr)).2.2 rfl⟩

theorem evs_deaf {sz : Nat} {es : Array Event} (h : ∀ e ∈ es, EvOk K i x sz e) (t : Trace) (fn : FuncId) (pos : String) : Deaf (t ++ MemOp.ofEvents i fn pos es) i = Deaf t i := by
  rw [Deaf_own]
  exact deafBehind_still (fun e he => ⟨fun hm => ((h e he).still _ hm).1 rfl, fun hm => ((h e he).still _ hm).2.1 rfl⟩) _

/-- A read of a block that one has. -/
theorem EvOk.read {b : Nat} {o : Obj} (h : Has K i x b o) (hi : Inv K x) {ad : Addr} (hb : ad.block = b) : EvOk K i x x.w.heap.size ⟨.cell ad, false, false⟩ :=
  ⟨fun a ha => by
    simp only [MemAct.ofEvent, MemAct.touch?, Option.some.injEq] at ha
    subst ha
    exact h.okT hi _ ad rfl hb rfl, by
    show ad.block < x.w.heap.size
    rw [hb]; exact lt_of_some (h.at hi), fun m hm => by cases hm⟩

theorem EvOk.write {b : Nat} (h : x.cls b = .mine i) (hb : b < x.w.heap.size) {ad : Addr} (e : ad.block = b) : EvOk K i x x.w.heap.size ⟨.cell ad, true, false⟩ :=
  ⟨fun a ha => by
    simp only [MemAct.ofEvent, MemAct.touch?, Option.some.injEq] at ha
    subst ha
    refine ⟨ad, rfl, ?_⟩
    rw [e]; simp only [h], by
    show ad.block < x.w.heap.size
    rw [e]; exact hb, fun m hm => by cases hm⟩

theorem EvOk.cell (hi : Started K.toCfg x.num i) (h : x.cls K.C = .row) (hb : K.C < x.w.heap.size) {ad : Addr} (e : ad.block = K.C) (ho : K.own i ad.off) (wr : Bool) : EvOk K i x x.w.heap.size ⟨.cell ad, wr, false⟩ :=
  ⟨fun a ha => by
    have : a = ⟨.cell ad, wr, .plain⟩ := by cases wr <;> simpa [MemAct.ofEvent, MemAct.touch?, eq_comm] using ha
    subst this
    refine ⟨ad, rfl, ?_⟩
    rw [e]; simp only [h]; exact ⟨ho, hi⟩, by
    have : (MemAct.ofEvent ⟨.cell ad, wr, false⟩).low x.w.heap.size = (ad.block < x.w.heap.size) := by cases wr <;> rfl
    rw [this, e]; exact hb, fun m hm => by cases hm⟩

def setBlk (w : World) (b : Nat) (o : Obj) : World := { w with heap := w.heap.setIfInBounds b o }
def pushBlk (w : World) (o : Obj) : World := { w with heap := w.heap.push o }

theorem setBlk_self {w : World} {b : Nat} {o : Obj} (h : b < w.heap.size) : (setBlk w b o).heap[b]? = some o := by simp [setBlk, h]
theorem setBlk_ne {w : World} {b c : Nat} {o : Obj} (h : c ≠ b) : (setBlk w b o).heap[c]? = w.heap[c]? := by
  simp only [setBlk]; rw [Array.getElem?_setIfInBounds_ne (Ne.symm h)]
theorem setBlk_size (w : World) (b : Nat) (o : Obj) : (setBlk w b o).heap.size = w.heap.size := by simp [setBlk]
theorem pushBlk_new (w : World) (o : Obj) : (pushBlk w o).heap[w.heap.size]? = some o := by simp only [pushBlk]; rw [Array.getElem?_push_size]
theorem pushBlk_old {w : World} {o : Obj} {c : Nat} (h : c < w.heap.size) : (pushBlk w o).heap[c]? = w.heap[c]? := by
  simp only [pushBlk]; rw [Array.getElem?_push_lt h]; exact (Array.getElem?_eq_getElem h).symm
theorem pushBlk_size (w : World) (o : Obj) : (pushBlk w o).heap.size = w.heap.size + 1 := by simp [pushBlk]

theorem wgAt_of {ty : TypeId} {Wg : Nat} {w w' : World} {st sm : Int} (h : WgAt ty Wg w st sm) (e : w'.heap[Wg]? = w.heap[Wg]?) : WgAt ty Wg w' st sm := by
  unfold WgAt at *; rw [e]; exact h

theorem Group.wg (h : Group K x) (hp : x.tag ≠ .pre) : ∃ st sm, WgAt K.ty K.Wg x.w st sm := by
  unfold Group at h
  cases ht : x.tag with
  | pre => exact absurd ht hp
  | _ => simp only [ht] at h; exact ⟨_, _, h.1⟩

/-- The group stands where its cells stand and nobody's stage turns. -/
theorem Group.of {x x' : Sx} (h : Group K x) (ht : x'.tag = x.tag) (hn : x'.num = x.num) (hs : x'.stg = x.stg) (hw : x.tag ≠ .pre → x'.w.heap[K.Wg]? = x.w.heap[K.Wg]?) : Group K x' := by
  have ec : cnt K x' = cnt K x := by unfold cnt; rw [hn, hs]
  have e : ∀ st sm, x.tag ≠ .pre → WgAt K.ty K.Wg x.w st sm → WgAt K.ty K.Wg x'.w st sm := fun st sm hp hh => wgAt_of hh (hw hp)
  unfold Group Open AllGone at *
  rw [ht, ec, hn, hs]
  cases hx : x.tag with
  | pre => simp only [hx] at h; exact h
  | opn => simp only [hx] at h; exact ⟨e _ _ (by rw [hx]; simp) h.1, h.2⟩
  | pend => simp only [hx] at h; exact ⟨e _ _ (by rw [hx]; simp) h.1, h.2⟩
  | reg => simp only [hx] at h; exact ⟨e _ _ (by rw [hx]; simp) h.1, h.2⟩
  | last L => simp only [hx] at h; exact ⟨e _ _ (by rw [hx]; simp) h.1, h.2⟩
  | sema => simp only [hx] at h; exact ⟨e _ _ (by rw [hx]; simp) h.1, h.2⟩
  | fin => simp only [hx] at h; exact ⟨e _ _ (by rw [hx]; simp) h.1, h.2⟩
  | done => simp only [hx] at h; exact ⟨e _ _ (by rw [hx]; simp) h.1, h.2⟩

/-- Nobody's release is unmade by a working goroutine's accesses. -/
theorem Inv.relApp (h : Inv K x) (hB : Busy K i x) {sz : Nat} {fn : FuncId} {pos : String} {es : Array Event} : ∀ k r, Started K.toCfg x.num k → x.stg k ≤ 6 → RelB K.Wg x.t k r → RelB K.Wg (x.t ++ MemOp.ofEvents i fn pos es) k r := by
  intro k r hk h6 hr
  refine hr.other (g := i) (fun e => ?_) evs_g
  rcases hB with h0 | ⟨_, h7⟩
  · have := hk.1; have := K.one; omega
  · rw [e] at h7; omega

theorem Inv.allGone (h : Inv K x) (ht : x.tag = .done) : AllGone K x := by
  have := h.grp
  simp only [Group, ht] at this
  exact this.2

/-- READS (and steps that list nothing). -/
theorem own_read (h : Inv K x) (hB : Busy K i x) {fn : FuncId} {pos : String} {es : Array Event} (hes : ∀ e ∈ es, EvOk K i x x.w.heap.size e) :
    Inv K { x with t := x.t ++ MemOp.ofEvents i fn pos es } ∧ Others K i x { x with t := x.t ++ MemOp.ofEvents i fn pos es } ∧ R K i x { x with t := x.t ++ MemOp.ofEvents i fn pos es } := by
  refine ⟨⟨h.ti.app hB.place (evs_add hes), h.tape, h.os, h.output, h.size, h.low, h.lcls, h.most, fun k hk hs => ?_, h.grp, h.cls, fun e => (h.acq e).app fun k r hk hr => h.relApp hB (sz := x.w.heap.size) k r hk (by rw [h.allGone e k hk]; omega) hr, h.owner, h.gifted⟩, fun j hj _ => ?_, ?_⟩
  · obtain ⟨⟨r, hr⟩, hv⟩ := h.rel k hk hs
    exact ⟨⟨r, h.relApp hB (sz := x.w.heap.size) k r hk hs hr⟩, hv⟩
  · exact ⟨Nat.le_refl _, fun _ h _ => ⟨rfl, h⟩, fun _ _ h _ _ => ⟨rfl, h⟩, fun cs e f h => ⟨cs, h, rfl, fun _ _ => rfl⟩, ⟨⟨_, rfl⟩, Deaf_others _ _ _ fun op hop => by rw [evs_g op hop]; exact Ne.symm hj⟩, rfl, Nat.le_refl _, fun _ => rfl, fun _ _ => ⟨rfl, rfl⟩, fun _ => ⟨TagR.refl _, Nat.le_refl _⟩, id⟩
  · exact ⟨Nat.le_refl _, fun _ h _ => ⟨rfl, h⟩, fun _ _ h _ _ => ⟨rfl, h⟩, fun cs e f h => ⟨cs, h, rfl, fun _ _ => rfl⟩, ⟨⟨_, rfl⟩, evs_deaf hes _ _ _⟩, rfl, Nat.le_refl _, fun _ => rfl, fun _ _ => ⟨rfl, rfl⟩, fun _ => ⟨TagR.refl _, Nat.le_refl _⟩, id⟩

/-- What one suffers of oneself when one turns one's own block b. -/
structure Rb (K : Crew) (i b : Nat) (x x₁ : Sx) : Prop where
  size : x.w.heap.size ≤ x₁.w.heap.size
  mine : ∀ c, c ≠ b → x.cls c = .mine i → c < x.w.heap.size → x₁.w.heap[c]? = x.w.heap[c]? ∧ x₁.cls c = .mine i
  gift : ∀ c k, x.cls c = .gift k → i = 0 ∨ k ≤ i → c < x.w.heap.size → x₁.w.heap[c]? = x.w.heap[c]? ∧ x₁.cls c = .gift k
  row : b ≠ K.C → ∀ cs e f, x.w.heap[K.C]? = some (.cells cs e f) → ∃ cs', x₁.w.heap[K.C]? = some (.cells cs' e f) ∧ cs'.size = cs.size ∧ ∀ o, K.own i o → cs'[o]? = cs[o]?
  tr : Deaf x₁.t i = Deaf x.t i
  stg : x₁.stg i = x.stg i
  num : x.num ≤ x₁.num
  num0 : i = 0 → x₁.num = x.num
  tag : i = 0 → TagR x.tag x₁.tag ∧ cnt K x₁ ≤ cnt K x
  tagW : x.tag ≠ .pre → x₁.tag ≠ .pre

theorem Has.rb {b c : Nat} {o : Obj} (h : Has K i x c o) (hne : c ≠ b) (r : Rb K i b x y) : Has K i y c o := by
  rcases h with ⟨h1, h2⟩ | ⟨k, h1, h3, h2⟩ | h
  · obtain ⟨e1, e2⟩ := r.mine c hne h1 (lt_of_some h2)
    exact .inl ⟨e2, e1.trans h2⟩
  · obtain ⟨e1, e2⟩ := r.gift c k h1 h3 (lt_of_some h2)
    exact .inr (.inl ⟨k, e2, h3, e1.trans h2⟩)
  · exact .inr (.inr h)

theorem Busy.rb {b : Nat} (h : Busy K i x) (r : Rb K i b x y) : Busy K i y := by
  rcases h with h | ⟨h1, h2⟩
  · exact .inl h
  · exact .inr ⟨⟨h1.1, Nat.lt_of_lt_of_le h1.2 r.num⟩, r.stg.trans h2⟩

theorem Rb.of {b : Nat} {z : Sx} (h : R K i x y) (h' : Rb K i b y z) : Rb K i b x z := by
  refine ⟨Nat.le_trans h.size h'.size, fun c hne hb hl => ?_, fun c k hb hk hl => ?_, fun hne cs e f hc => ?_, h'.tr.trans h.deaf, h'.stg.trans h.stg, Nat.le_trans h.num h'.num, fun e => (h'.num0 e).trans (h.num0 e), fun e => ⟨(h.tag e).1.trans (h'.tag e).1, Nat.le_trans (h'.tag e).2 (h.tag e).2⟩, fun hp => h'.tagW (h.tagW hp)⟩
  · obtain ⟨a1, a2⟩ := h.mine c hb hl
    obtain ⟨b1, b2⟩ := h'.mine c hne a2 (Nat.lt_of_lt_of_le hl h.size)
    exact ⟨b1.trans a1, b2⟩
  · obtain ⟨a1, a2⟩ := h.gift c k hb hk hl
    obtain ⟨b1, b2⟩ := h'.gift c k a2 hk (Nat.lt_of_lt_of_le hl h.size)
    exact ⟨b1.trans a1, b2⟩
  · obtain ⟨c1, e1, s1, o1⟩ := h.row cs e f hc
    obtain ⟨c2, e2, s2, o2⟩ := h'.row hne c1 e f e1
    exact ⟨c2, e2, s2.trans s1, fun o ho => (o2 o ho).trans (o1 o ho)⟩

theorem Inv.mineHigh (h : Inv K x) {b g : Nat} (hm : x.cls b = .mine g) : K.w0.heap.size ≤ b := by
  rcases Nat.lt_or_ge b K.w0.heap.size with hl | hl
  · rcases h.lcls b hl with ⟨_, e⟩ | ⟨_, e⟩ <;> rw [hm] at e <;> cases e
  · exact hl

/-- A WRITE OF ONE'S OWN BLOCK. -/
theorem own_write (h : Inv K x) (hB : Busy K i x) {b : Nat} {o : Obj} (hm : x.cls b = .mine i) (hb : b < x.w.heap.size) {fn : FuncId} {pos : String} {es : Array Event} (hes : ∀ e ∈ es, EvOk K i x x.w.heap.size e) :
    Inv K { x with w := setBlk x.w b o, t := x.t ++ MemOp.ofEvents i fn pos es } ∧ Others K i x { x with w := setBlk x.w b o, t := x.t ++ MemOp.ofEvents i fn pos es } ∧ Rb K i b x { x with w := setBlk x.w b o, t := x.t ++ MemOp.ofEvents i fn pos es } := by
  have hWg : x.tag ≠ .pre → K.Wg ≠ b := fun hp e => by have := (h.cls hp).1; rw [e, hm] at this; cases this
  have hC : x.tag ≠ .pre → K.C ≠ b := fun hp e => by have := (h.cls hp).2.1; rw [e, hm] at this; cases this
  have hgrp := h.grp
  have hpre : ∀ k, Started K.toCfg x.num k → x.tag ≠ .pre := fun k hk hp => by simp only [Group, hp] at hgrp; have := hk.1; have := hk.2; omega
  refine ⟨⟨?_, h.tape, h.os, h.output, by rw [setBlk_size]; exact h.size, fun c hc => ?_, h.lcls, h.most, fun k hk hs => ?_, hgrp.of rfl rfl rfl fun hp => setBlk_ne (hWg hp), fun hp => by rw [setBlk_size]; exact h.cls hp, fun e => (h.acq e).app fun k r hk hr => h.relApp hB (sz := x.w.heap.size) k r hk (by rw [h.allGone e k hk]; omega) hr, h.owner, h.gifted⟩, fun j hj hjs => ?_, ?_⟩
  · rw [setBlk_size]; exact h.ti.app hB.place (evs_add hes)
  · rw [setBlk_ne (by have := h.mineHigh hm; omega)]; exact h.low c hc
  · obtain ⟨⟨r, hr⟩, hv⟩ := h.rel k hk hs
    refine ⟨⟨r, h.relApp hB (sz := x.w.heap.size) k r hk hs hr⟩, fun o' ho => ?_⟩
    have := hv o' ho
    unfold World.cell? at this ⊢
    simp only at this ⊢
    rw [setBlk_ne (hC (hpre k hk))]
    exact this
  · refine ⟨by rw [setBlk_size]; exact Nat.le_refl _, fun c hc _ => ⟨setBlk_ne fun e => ?_, hc⟩, fun c k hc _ _ => ⟨setBlk_ne fun e => ?_, hc⟩, fun cs e f hc => ⟨cs, (setBlk_ne ?_).trans hc, rfl, fun _ _ => rfl⟩, ⟨⟨_, rfl⟩, Deaf_others _ _ _ fun op hop => by rw [evs_g op hop]; exact Ne.symm hj⟩, rfl, Nat.le_refl _, fun _ => rfl, fun e hn => ?_, fun _ => ⟨TagR.refl _, Nat.le_refl _⟩, id⟩
    · rw [e, hm] at hc; exact hj (Cls.mine.inj hc).symm
    · rw [e, hm] at hc; cases hc
    · rcases hjs with hj0 | hjs
      · -- goroutine 0 suffers a worker's write: the row is the row already
        rcases hB with h0 | ⟨hs, _⟩
        · exact absurd (hj0.trans h0.symm) hj
        · exact hC (hpre i hs)
      · exact hC (hpre j hjs)
    · exfalso
      rcases hB with h0 | ⟨hs, _⟩
      · exact hj (e.trans h0.symm)
      · have := hs.1; have := hs.2; omega
  · refine ⟨by rw [setBlk_size]; exact Nat.le_refl _, fun c hne hc _ => ⟨setBlk_ne hne, hc⟩, fun c k hc _ _ => ⟨setBlk_ne fun e => ?_, hc⟩, fun hne cs e f hc => ⟨cs, (setBlk_ne (Ne.symm hne)).trans hc, rfl, fun _ _ => rfl⟩, evs_deaf hes _ _ _, rfl, Nat.le_refl _, fun _ => rfl, fun _ => ⟨TagR.refl _, Nat.le_refl _⟩, id⟩
    rw [e, hm] at hc; cases hc

/-- A NEW BLOCK. -/
def newCls (cls : Nat → Cls) (n : Nat) (c : Cls) : Nat → Cls := fun b => if b = n then c else cls b

theorem own_new (h : Inv K x) (hB : Busy K i x) {o : Obj} {c : Cls} (hc : c = .mine i ∨ (x.tag = .pre ∧ (c = .row ∨ c = .grp))) {fn : FuncId} {pos : String} {es : Array Event} (hes : ∀ e ∈ es, EvOk K i x x.w.heap.size e) :
    Inv K { x with w := pushBlk x.w o, t := x.t ++ MemOp.ofEvents i fn pos es, cls := newCls x.cls x.w.heap.size c } ∧ Others K i x { x with w := pushBlk x.w o, t := x.t ++ MemOp.ofEvents i fn pos es, cls := newCls x.cls x.w.heap.size c } ∧
      ∀ b, Rb K i b x { x with w := pushBlk x.w o, t := x.t ++ MemOp.ofEvents i fn pos es, cls := newCls x.cls x.w.heap.size c } := by
  have hgrp := h.grp
  have hpre : ∀ k, Started K.toCfg x.num k → x.tag ≠ .pre := fun k hk hp => by simp only [Group, hp] at hgrp; have := hk.1; have := hk.2; omega
  have old : ∀ b, b < x.w.heap.size → newCls x.cls x.w.heap.size c b = x.cls b := fun b hb => if_neg (by omega)
  have hz : x.w.heap.size ≤ (pushBlk x.w o).heap.size := by rw [pushBlk_size]; omega
  have rowlt : ∀ cs e f, x.w.heap[K.C]? = some (.cells cs e f) → (pushBlk x.w o).heap[K.C]? = some (.cells cs e f) := fun cs e f hcs => (pushBlk_old (lt_of_some hcs)).trans hcs
  refine ⟨⟨?_, h.tape, h.os, h.output, Nat.le_trans h.size hz, fun b hb => ?_, fun b hb => ?_, h.most, fun k hk hs => ?_, hgrp.of rfl rfl rfl fun hp => ?_, fun hp => ?_, fun e => (h.acq e).app fun k r hk hr => h.relApp hB (sz := x.w.heap.size) k r hk (by rw [h.allGone e k hk]; omega) hr, fun b g hb => ?_, fun b k hb => ?_⟩, fun j hj hjs => ?_, fun b => ?_⟩
  · exact (h.ti.app hB.place (evs_add hes)).grow hz old
  · rw [pushBlk_old (Nat.lt_of_lt_of_le hb h.size)]; exact h.low b hb
  · show (_ ∧ newCls x.cls x.w.heap.size c b = _) ∨ _ ∧ newCls x.cls x.w.heap.size c b = _
    rw [old b (Nat.lt_of_lt_of_le hb h.size)]; exact h.lcls b hb
  · obtain ⟨⟨r, hr⟩, hv⟩ := h.rel k hk hs
    refine ⟨⟨r, h.relApp hB (sz := x.w.heap.size) k r hk hs hr⟩, fun o' ho => ?_⟩
    have h1 := hv o' ho
    unfold World.cell? at h1 ⊢
    simp only at h1 ⊢
    have hl : K.C < x.w.heap.size := by
      rcases Nat.lt_or_ge K.C x.w.heap.size with hl | hl
      · exact hl
      · rw [Array.getElem?_eq_none hl] at h1; cases h1
    rw [pushBlk_old hl]
    exact h1
  · obtain ⟨st, sm, hw⟩ := hgrp.wg hp
    exact pushBlk_old (lt_of_some hw)
  · have hc' := h.cls hp
    obtain ⟨st, sm, hw⟩ := hgrp.wg hp
    have hcm : c = .mine i := hc.resolve_right fun y => hp y.1
    exact ⟨(old _ (lt_of_some hw)).trans hc'.1, (old _ hc'.2.2).trans hc'.2.1, Nat.lt_of_lt_of_le hc'.2.2 hz⟩
  · by_cases hbn : b = x.w.heap.size
    · have hb' : newCls x.cls x.w.heap.size c b = .mine g := hb
      unfold newCls at hb'
      rw [if_pos hbn] at hb'
      rcases hc with hc | ⟨_, hc | hc⟩
      · rw [hc] at hb'
        rw [← Cls.mine.inj hb']
        exact hB.place
      · rw [hc] at hb'; cases hb'
      · rw [hc] at hb'; cases hb'
    · have hb' : newCls x.cls x.w.heap.size c b = .mine g := hb
      unfold newCls at hb'
      rw [if_neg hbn] at hb'
      exact h.owner b g hb'
  · by_cases hbn : b = x.w.heap.size
    · have hb' : newCls x.cls x.w.heap.size c b = .gift k := hb
      unfold newCls at hb'
      rw [if_pos hbn] at hb'
      rcases hc with hc | ⟨_, hc | hc⟩ <;> rw [hc] at hb' <;> cases hb'
    · have hb' : newCls x.cls x.w.heap.size c b = .gift k := hb
      unfold newCls at hb'
      rw [if_neg hbn] at hb'
      exact h.gifted b k hb'
  · refine ⟨hz, fun b hb hl => ⟨pushBlk_old hl, (old b hl).trans hb⟩, fun b k hb _ hl => ⟨pushBlk_old hl, (old b hl).trans hb⟩, fun cs e f hcs => ⟨cs, rowlt cs e f hcs, rfl, fun _ _ => rfl⟩, ⟨⟨_, rfl⟩, Deaf_others _ _ _ fun op hop => by rw [evs_g op hop]; exact Ne.symm hj⟩, rfl, Nat.le_refl _, fun _ => rfl, fun e hn => ?_, fun _ => ⟨TagR.refl _, Nat.le_refl _⟩, id⟩
    exfalso
    rcases hB with h0 | ⟨hs, _⟩
    · exact hj (e.trans h0.symm)
    · have := hs.1; have := hs.2; omega
  · exact ⟨hz, fun b _ hb hl => ⟨pushBlk_old hl, (old b hl).trans hb⟩, fun b k hb _ hl => ⟨pushBlk_old hl, (old b hl).trans hb⟩, fun _ cs e f hcs => ⟨cs, rowlt cs e f hcs, rfl, fun _ _ => rfl⟩, evs_deaf hes _ _ _, rfl, Nat.le_refl _, fun _ => rfl, fun _ => ⟨TagR.refl _, Nat.le_refl _⟩, id⟩

/-- A WRITE OF ONE'S CELLS OF THE ROW. -/
theorem own_row (h : Inv K x) (hs : Started K.toCfg x.num i) (h7 : x.stg i = 7) {cs cs' : Array Value} {e : TypeId} {f : Nat × Nat} (hc : x.w.heap[K.C]? = some (.cells cs e f)) (hsz : cs'.size = cs.size) (ho : ∀ o, ¬ K.own i o → cs'[o]? = cs[o]?)
    {fn : FuncId} {pos : String} {es : Array Event} (hes : ∀ e ∈ es, EvOk K i x x.w.heap.size e) :
    Inv K { x with w := setBlk x.w K.C (.cells cs' e f), t := x.t ++ MemOp.ofEvents i fn pos es } ∧ Others K i x { x with w := setBlk x.w K.C (.cells cs' e f), t := x.t ++ MemOp.ofEvents i fn pos es } ∧ Rb K i K.C x { x with w := setBlk x.w K.C (.cells cs' e f), t := x.t ++ MemOp.ofEvents i fn pos es } := by
  have hB : Busy K i x := .inr ⟨hs, h7⟩
  have hgrp := h.grp
  have hp : x.tag ≠ .pre := fun hp => by simp only [Group, hp] at hgrp; have := hs.1; have := hs.2; omega
  obtain ⟨c1, c2, c3⟩ := h.cls hp
  have hWg : K.Wg ≠ K.C := fun e => by rw [e, c2] at c1; cases c1
  refine ⟨⟨?_, h.tape, h.os, h.output, by rw [setBlk_size]; exact h.size, fun c hc' => ?_, h.lcls, h.most, fun k hk hs' => ?_, hgrp.of rfl rfl rfl fun _ => setBlk_ne hWg, fun hp => by rw [setBlk_size]; exact h.cls hp, fun e => (h.acq e).app fun k r hk hr => h.relApp hB (sz := x.w.heap.size) k r hk (by rw [h.allGone e k hk]; omega) hr, h.owner, h.gifted⟩, fun j hj hjs => ?_, ?_⟩
  · rw [setBlk_size]; exact h.ti.app hB.place (evs_add hes)
  · rw [setBlk_ne fun e => ?_]; exact h.low c hc'
    rcases h.lcls c hc' with ⟨_, y⟩ | ⟨_, y⟩ <;> rw [e, c2] at y <;> cases y
  · obtain ⟨⟨r, hr⟩, hv⟩ := h.rel k hk hs'
    refine ⟨⟨r, h.relApp hB (sz := x.w.heap.size) k r hk hs' hr⟩, fun o' ho' => ?_⟩
    have h1 := hv o' ho'
    unfold World.cell? at h1 ⊢
    simp only at h1 ⊢
    rw [setBlk_self c3]
    rw [hc] at h1
    simp only at h1 ⊢
    rw [ho o' fun hk' => ?_]
    · exact h1
    · have := K.inj k i o' ho' hk'
      rw [this, h7] at hs'
      omega
  · refine ⟨by rw [setBlk_size]; exact Nat.le_refl _, fun c hc' _ => ⟨setBlk_ne fun e => ?_, hc'⟩, fun c k hc' _ _ => ⟨setBlk_ne fun e => ?_, hc'⟩, fun cs2 e2 f2 hc2 => ?_, ⟨⟨_, rfl⟩, Deaf_others _ _ _ fun op hop => by rw [evs_g op hop]; exact Ne.symm hj⟩, rfl, Nat.le_refl _, fun _ => rfl, fun e hn => ?_, fun _ => ⟨TagR.refl _, Nat.le_refl _⟩, id⟩
    · rw [e, c2] at hc'; cases hc'
    · rw [e, c2] at hc'; cases hc'
    · rw [hc] at hc2
      cases hc2
      exact ⟨cs', setBlk_self c3, hsz, fun o ho2 => ho o fun hi => hj (K.inj j i o ho2 hi)⟩
    · exfalso
      have := hs.1; have := hs.2; omega
  · refine ⟨by rw [setBlk_size]; exact Nat.le_refl _, fun c hne hc' _ => ⟨setBlk_ne hne, hc'⟩, fun c k hc' _ _ => ⟨setBlk_ne fun e => ?_, hc'⟩, fun hne => absurd rfl hne, evs_deaf hes _ _ _, rfl, Nat.le_refl _, fun _ => rfl, fun _ => ⟨TagR.refl _, Nat.le_refl _⟩, id⟩
    rw [e, c2] at hc'; cases hc'
end
end Go.Crew
