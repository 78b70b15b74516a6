/- A crew of workers and their starter: what is held of all, what each suffers, and the judgement of one goroutine's own steps in that company. -/
import Derived.Test.YtplmgbffaeohpaaCoA
set_option linter.unusedSimpArgs false
set_option linter.unusedVariables false
namespace Go.Crew
open Go.Conc
open Go.ConcN (fork_knows sumTo upd sumTo_upd upd_ne upd_same)
open Go.ConcR (stA smA WgAt KK rd wr mk)

/-- Where the group stands. -/
inductive Tag where
  | pre
  | opn
  | pend
  | reg
  | last (L : Nat)
  | sema
  | fin
  | done

structure Sx where
  w : World
  t : Trace
  cls : Nat → Cls
  num : Nat
  stg : Nat → Nat
  tag : Tag

structure Crew extends Cfg where
  w0 : World
  ty : TypeId
  val : Nat → Value
  nob : Nat → Prop

def Sx.at (x : Sx) (d : Nat) : Sx := { x with w := x.w.at d }

def cnt (K : Crew) (x : Sx) : Nat := sumTo (x.num - K.c) fun i => if 5 ≤ x.stg (K.c + i) then 1 else 0

/-- All are at work, or gone. -/
def Open (K : Crew) (x : Sx) : Prop := ∀ k, Started K.toCfg x.num k → x.stg k = 7 ∨ x.stg k = 6 ∨ x.stg k = 5 ∨ x.stg k = 1
def AllGone (K : Crew) (x : Sx) : Prop := ∀ k, Started K.toCfg x.num k → x.stg k = 1

def Group (K : Crew) (x : Sx) : Prop :=
  match x.tag with
  | .pre => x.num = K.c
  | .opn => WgAt K.ty K.Wg x.w ((cnt K x : Nat) * KK) 0 ∧ Open K x
  | .pend => WgAt K.ty K.Wg x.w ((cnt K x + 1 : Nat) * KK) 0 ∧ Open K x
  | .reg => WgAt K.ty K.Wg x.w ((cnt K x : Nat) * KK + 1) 0 ∧ Open K x ∧ 1 ≤ cnt K x
  | .last L => WgAt K.ty K.Wg x.w (if x.stg L = 2 then 0 else 1) 0 ∧ Started K.toCfg x.num L ∧ (x.stg L = 4 ∨ x.stg L = 3 ∨ x.stg L = 2) ∧ ∀ k, Started K.toCfg x.num k → k ≠ L → x.stg k = 1
  | .sema => WgAt K.ty K.Wg x.w 0 1 ∧ AllGone K x
  | .fin => WgAt K.ty K.Wg x.w 0 0 ∧ AllGone K x
  | .done => WgAt K.ty K.Wg x.w 0 0 ∧ AllGone K x

structure Inv (K : Crew) (x : Sx) : Prop where
  ti : TI K.toCfg x.t x.w.heap.size x.cls x.num
  tape : x.w.tape = K.w0.tape
  os : x.w.os = K.w0.os
  output : x.w.output = K.w0.output
  size : K.w0.heap.size ≤ x.w.heap.size
  low : ∀ b, b < K.w0.heap.size → x.w.heap[b]? = K.w0.heap[b]?
  lcls : ∀ b, b < K.w0.heap.size → (K.nob b ∧ x.cls b = .nobody) ∨ (¬ K.nob b ∧ x.cls b = .frozen)
  most : x.num ≤ K.c + K.n
  rel : ∀ k, Started K.toCfg x.num k → x.stg k ≤ 6 → (∃ r, RelB K.Wg x.t k r) ∧ ∀ o, K.own k o → x.w.cell? ⟨K.C, o, none⟩ = some (K.val o)
  grp : Group K x
  cls : x.tag ≠ .pre → x.cls K.Wg = .grp ∧ x.cls K.C = .row ∧ K.C < x.w.heap.size
  acq : x.tag = .done → AcqAll K.toCfg x.t x.num
  owner : ∀ b g, x.cls b = .mine g → g = 0 ∨ Started K.toCfg x.num g
  gifted : ∀ b k, x.cls b = .gift k → Started K.toCfg x.num k

def TagR : Tag → Tag → Prop
  | .pre, y => y = .pre
  | .opn, y => y = .opn
  | .pend, y => y = .pend
  | .reg, y => y = .reg ∨ (∃ L, y = .last L) ∨ y = .sema
  | .last _, y => (∃ L, y = .last L) ∨ y = .sema
  | .sema, y => y = .sema
  | .fin, y => y = .fin
  | .done, y => y = .done

theorem TagR.refl : ∀ a : Tag, TagR a a := by
  intro a
  cases a <;> simp [TagR]
theorem TagR.trans {a b c : Tag} (h : TagR a b) (h' : TagR b c) : TagR a c := by
  cases a <;> simp only [TagR] at h
  case reg =>
    rcases h with rfl | ⟨L, rfl⟩ | rfl
    · exact h'
    · simp only [TagR] at h' ⊢; exact .inr h'
    · simp only [TagR] at h' ⊢; exact .inr (.inr h')
  case last =>
    rcases h with ⟨L, rfl⟩ | rfl
    · exact h'
    · simp only [TagR] at h' ⊢; exact .inr h'
  all_goals (subst h; exact h')

/-- WHAT GOROUTINE i SUFFERS. -/
structure R (K : Crew) (i : Nat) (x x₁ : Sx) : Prop where
  size : x.w.heap.size ≤ x₁.w.heap.size
  mine : ∀ b, x.cls b = .mine i → b < x.w.heap.size → x₁.w.heap[b]? = x.w.heap[b]? ∧ x₁.cls b = .mine i
  gift : ∀ b k, x.cls b = .gift k → i = 0 ∨ k ≤ i → b < x.w.heap.size → x₁.w.heap[b]? = x.w.heap[b]? ∧ x₁.cls b = .gift k
  row : ∀ cs e f, x.w.heap[K.C]? = some (.cells cs e f) → ∃ cs', x₁.w.heap[K.C]? = some (.cells cs' e f) ∧ cs'.size = cs.size ∧ ∀ o, K.own i o → cs'[o]? = cs[o]?
  tr : (∃ u, x₁.t = x.t ++ u) ∧ Deaf x₁.t i = Deaf x.t i
  stg : x₁.stg i = x.stg i
  num : x.num ≤ x₁.num
  num0 : i = 0 → x₁.num = x.num
  lone : i = 0 → x.num = K.c → x₁.w.heap = x.w.heap ∧ x₁.cls = x.cls
  tag : i = 0 → TagR x.tag x₁.tag ∧ cnt K x₁ ≤ cnt K x
  tagW : x.tag ≠ .pre → x₁.tag ≠ .pre

theorem R.refl (K : Crew) (i : Nat) (x : Sx) : R K i x x :=
  ⟨Nat.le_refl _, fun _ h _ => ⟨rfl, h⟩, fun _ _ h _ _ => ⟨rfl, h⟩, fun cs e f h => ⟨cs, h, rfl, fun _ _ => rfl⟩, ⟨⟨#[], by simp⟩, rfl⟩, rfl, Nat.le_refl _, fun _ => rfl, fun _ _ => ⟨rfl, rfl⟩, fun _ => ⟨TagR.refl _, Nat.le_refl _⟩, id⟩

theorem R.trans {K : Crew} {i : Nat} {x y z : Sx} (h : R K i x y) (h' : R K i y z) : R K i x z := by
  refine ⟨Nat.le_trans h.size h'.size, fun b hb hl => ?_, fun b k hb hk hl => ?_, fun cs e f hc => ?_, ?_, h'.stg.trans h.stg, Nat.le_trans h.num h'.num, fun e => (h'.num0 e).trans (h.num0 e), fun e hn => ?_, fun e => ⟨(h.tag e).1.trans (h'.tag e).1, Nat.le_trans (h'.tag e).2 (h.tag e).2⟩, fun hp => h'.tagW (h.tagW hp)⟩
  · obtain ⟨a1, a2⟩ := h.mine b hb hl
    obtain ⟨b1, b2⟩ := h'.mine b a2 (Nat.lt_of_lt_of_le hl h.size)
    exact ⟨b1.trans a1, b2⟩
  · obtain ⟨a1, a2⟩ := h.gift b k hb hk hl
    obtain ⟨b1, b2⟩ := h'.gift b k a2 hk (Nat.lt_of_lt_of_le hl h.size)
    exact ⟨b1.trans a1, b2⟩
  · obtain ⟨c1, e1, s1, o1⟩ := h.row cs e f hc
    obtain ⟨c2, e2, s2, o2⟩ := h'.row c1 e f e1
    exact ⟨c2, e2, s2.trans s1, fun o ho => (o2 o ho).trans (o1 o ho)⟩
  · obtain ⟨⟨u, e1⟩, h1⟩ := h.tr
    obtain ⟨⟨v, e2⟩, h2⟩ := h'.tr
    exact ⟨⟨u ++ v, by rw [e2, e1]; simp⟩, h2.trans h1⟩
  · obtain ⟨a1, a2⟩ := h.lone e hn
    obtain ⟨b1, b2⟩ := h'.lone e ((h.num0 e).trans hn)
    exact ⟨b1.trans a1, b2.trans a2⟩

theorem R.at (K : Crew) (i : Nat) (x : Sx) (d : Nat) : R K i x (x.at d) :=
  ⟨Nat.le_refl _, fun _ h _ => ⟨rfl, h⟩, fun _ _ h _ _ => ⟨rfl, h⟩, fun cs e f h => ⟨cs, h, rfl, fun _ _ => rfl⟩, ⟨⟨#[], by simp [Sx.at]⟩, rfl⟩, rfl, Nat.le_refl _, fun _ => rfl, fun _ _ => ⟨rfl, rfl⟩, fun _ => ⟨TagR.refl _, Nat.le_refl _⟩, id⟩

theorem Inv.at {K : Crew} {x : Sx} (h : Inv K x) (d : Nat) : Inv K (x.at d) :=
  ⟨h.ti, h.tape, h.os, h.output, h.size, h.low, h.lcls, h.most, h.rel, by
    have := h.grp
    unfold Group at this ⊢
    exact this, h.cls, h.acq, h.owner, h.gifted⟩

/-- A goroutine's deafness is its own doing. -/
theorem Deaf_others (t : Trace) (g : Nat) (u : Trace) (hu : ∀ op ∈ u, op.g ≠ g) : Deaf (t ++ u) g = Deaf t g := by
  have key : ∀ (l : List MemOp) (d : Nat), (∀ op ∈ l, op.g ≠ g) → l.foldl (deafStep g) d = d := by
    intro l
    induction l with
    | nil => intro d _; rfl
    | cons y l ih =>
      intro d hl
      have hy : deafStep g d y = d := by
        unfold deafStep
        split <;> simp [hl y (by simp)]
      rw [List.foldl_cons, hy]
      exact ih d fun op hop => hl op (by simp [hop])
  have := Deaf_append t g u.toList
  simp only [Array.toArray_toList] at this
  rw [this]
  exact key _ _ fun op hop => hu op (Array.mem_toList_iff.1 hop)

theorem mem_evs {g : Nat} {fn : FuncId} {pos : String} {es : Array Event} {op : MemOp} (h : op ∈ MemOp.ofEvents g fn pos es) : ∃ e ∈ es, op = { g, fn, pos, act := .ofEvent e } := by
  rw [ofEvents_eq] at h
  obtain ⟨e, he, rfl⟩ := Array.mem_map.1 h
  exact ⟨e, he, rfl⟩

theorem evs_g {g : Nat} {fn : FuncId} {pos : String} {es : Array Event} : ∀ op ∈ MemOp.ofEvents g fn pos es, op.g = g := fun op hop => by
  obtain ⟨e, _, rfl⟩ := mem_evs hop
  rfl

theorem R.deaf {K : Crew} {i : Nat} {x y : Sx} (h : R K i x y) : Deaf y.t i = Deaf x.t i := h.tr.2

/-- What is asked of a step of goroutine i's for the others' sake. -/
def Others (K : Crew) (i : Nat) (x x' : Sx) : Prop := ∀ j, j ≠ i → j = 0 ∨ Started K.toCfg x.num j → R K j x x'

structure Role where
  i : Nat
  Child : Nat → Goroutine → Sx → Prop
  Stop : Goroutine → Sx → Prop

def worker (k : Nat) : Role := ⟨k, fun _ _ _ => False, fun _ _ => False⟩

/-- An ordinary step. -/
structure Went (K : Crew) (ρ : Role) (n : Nat) (g : Goroutine) (x₁ : Sx) (Next : Goroutine → Sx → Prop) (g' : Goroutine) (w' : World) (es : Array Event) (x' : Sx) : Prop where
  st : stepG K.P (ρ.i == 0) g x₁.w = .go g' w' es
  w : x'.w = w'
  t : x'.t = x₁.t ++ MemOp.ofEvents ρ.i g.frame.fn g.frame.place es
  num : x'.num = x₁.num
  inv : Inv K x'
  oth : Others K ρ.i x₁ x'
  wake : x'.tag = .sema → x₁.tag ≠ .sema → mayWake K.P g = true
  run : g'.status = .running
  next : (Next g' x' ∧ (ρ.i = 0 ∨ x'.stg ρ.i ≠ 1)) ∨ (ρ.i ≠ 0 ∧ x'.stg ρ.i = 1 ∧ QuitsD K.P n (Deaf x'.t ρ.i) g')

structure Spawned (K : Crew) (ρ : Role) (g : Goroutine) (x₁ : Sx) (Next : Goroutine → Sx → Prop) (g' child : Goroutine) (w' : World) (x' : Sx) : Prop where
  st : stepG K.P (ρ.i == 0) g x₁.w = .spawn g' child w' #[]
  zero : ρ.i = 0
  w : x'.w = w'
  t : x'.t = x₁.t ++ #[{ g := 0, fn := g.frame.fn, pos := g.frame.place, act := .go x₁.num }, { g := x₁.num, fn := child.frame.fn, pos := g.frame.place, act := .start }]
  num : x'.num = x₁.num + 1
  inv : Inv K x'
  oth : Others K 0 x₁ x'
  notag : x'.tag ≠ .sema
  run : g'.status = .running
  crun : child.status = .running
  stg : x'.stg x₁.num ≠ 1
  child : ρ.Child x₁.num child x'
  next : Next g' x'

def Move (K : Crew) (ρ : Role) (n : Nat) (g : Goroutine) (x₁ : Sx) (Next : Goroutine → Sx → Prop) : Prop :=
  (∃ g' w' es x', Went K ρ n g x₁ Next g' w' es x') ∨
  (stepG K.P (ρ.i == 0) g x₁.w = .go { g with status := .blocked } x₁.w #[] ∧ g.offers = none ∧ ρ.i = 0 ∧ (x₁.tag = .reg ∨ ∃ L, x₁.tag = .last L)) ∨
  (∃ g' child w' x', Spawned K ρ g x₁ Next g' child w' x')

/-- ONE GOROUTINE, AT MOST n OF ITS OWN STEPS FROM ITS STOP. -/
def GoX (K : Crew) (ρ : Role) : Nat → Goroutine → Sx → Prop
  | 0, g, x => ∀ x₁, R K ρ.i x x₁ → Inv K x₁ → ρ.Stop g x₁
  | n + 1, g, x => (∀ x₁, R K ρ.i x x₁ → Inv K x₁ → ρ.Stop g x₁) ∨ (g.status = .running ∧ ∀ x₁, R K ρ.i x x₁ → Inv K x₁ → Move K ρ n g x₁ (GoX K ρ n))

section
variable {K : Crew} {ρ : Role}
theorem GoX.rely : ∀ {n : Nat} {g : Goroutine} {x y : Sx}, GoX K ρ n g x → R K ρ.i x y → GoX K ρ n g y
  | 0, _, _, _, h, r => fun z hz => h z (r.trans hz)
  | _ + 1, _, _, _, h, r => h.imp (fun f z hz => f z (r.trans hz)) fun f => ⟨f.1, fun z hz => f.2 z (r.trans hz)⟩

theorem GoX.stop {n : Nat} {g : Goroutine} {x : Sx} (h : ∀ x₁, R K ρ.i x x₁ → Inv K x₁ → ρ.Stop g x₁) : GoX K ρ n g x := by
  cases n with
  | zero => exact h
  | succ n => exact .inl h

theorem QuitsD.more1 {P : Program} : ∀ {n d : Nat} {g : Goroutine}, QuitsD P n d g → QuitsD P (n + 1) d g
  | 0, _, _, h => .inl h
  | _ + 1, _, _, h => h.elim .inl fun ⟨hs, g', es, hm, hst, hq⟩ => .inr ⟨hs, g', es, hm, hst, QuitsD.more1 hq⟩

theorem GoX.more : ∀ {n : Nat} {g : Goroutine} {x : Sx}, GoX K ρ n g x → GoX K ρ (n + 1) g x
  | 0, _, _, h => .inl h
  | n + 1, _, _, h => h.elim .inl fun h => .inr ⟨h.1, fun y hy hi => by
      rcases h.2 y hy hi with ⟨g', w', es, x', hw⟩ | hb | ⟨g', child, w', x', hs⟩
      · exact .inl ⟨g', w', es, x', hw.st, hw.w, hw.t, hw.num, hw.inv, hw.oth, hw.wake, hw.run, hw.next.imp (fun a => ⟨GoX.more a.1, a.2⟩) fun a => ⟨a.1, a.2.1, QuitsD.more1 a.2.2⟩⟩
      · exact .inr (.inl hb)
      · exact .inr (.inr ⟨g', child, w', x', hs.st, hs.zero, hs.w, hs.t, hs.num, hs.inv, hs.oth, hs.notag, hs.run, hs.crun, hs.stg, hs.child, GoX.more hs.next⟩)⟩

theorem GoX.mono {n n' : Nat} {g : Goroutine} {x : Sx} (h : GoX K ρ n g x) (hn : n ≤ n') : GoX K ρ n' g x := by
  induction hn with
  | refl => exact h
  | step _ ih => exact ih.more
end
end Go.Crew
