/- The group's protocol: the starter's steps. -/
import Derived.Test.YtplmgbffaeohpaaCoI
set_option linter.unusedSimpArgs false
set_option linter.unusedVariables false
namespace Go.Crew
open Go.Conc
open Go.ConcN (fork_knows sumTo upd sumTo_upd upd_ne upd_same sumTo_congr le_sumTo sumTo_le)
open Go.ConcR (stA smA WgAt KK rd wr mk wgBlock)
open Go.ConcN (WgLive)

section
variable {K : Crew} {ρ : Role} {x y z : Sx}

theorem TagR.opn {a b : Tag} (h : TagR a b) (e : a = .opn) : b = .opn := by subst e; exact h
theorem TagR.pend {a b : Tag} (h : TagR a b) (e : a = .pend) : b = .pend := by subst e; exact h
theorem TagR.fin {a b : Tag} (h : TagR a b) (e : a = .fin) : b = .fin := by subst e; exact h
theorem TagR.done {a b : Tag} (h : TagR a b) (e : a = .done) : b = .done := by subst e; exact h
/-- The starter is registered. -/
def Reg : Tag → Prop
  | .reg => True
  | .last _ => True
  | .sema => True
  | _ => False
theorem TagR.reg {a b : Tag} (h : TagR a b) (e : Reg a) : Reg b := by
  cases a <;> simp only [Reg] at e <;> simp only [TagR] at h
  · rcases h with rfl | ⟨L, rfl⟩ | rfl <;> trivial
  · rcases h with ⟨L, rfl⟩ | rfl <;> trivial
  · subst h; trivial

theorem not_started (x : Sx) : ¬ Started K.toCfg x.num 0 := fun h => by have := h.1; have := K.one; omega
theorem cnt_bound (h : Inv K x) (hKn : K.n ≤ 1000) : cnt K x ≤ 1000 := by
  have h1 : cnt K x ≤ 1 * (x.num - K.c) := sumTo_le fun a _ => by split <;> omega
  have := h.most
  omega

/-- A step of goroutine 0's on the group: what it asks. -/
theorem zero_proto (hρ : ρ.i = 0) {n : Nat} {g g' : Goroutine} {x₁ x' : Sx} {w' : World} {es : Array Event} {o : Obj} (hi : Inv K x₁) (hp : x₁.tag ≠ .pre) (hp' : x'.tag ≠ .pre) (hns : x'.tag ≠ .sema ∨ x₁.tag = .sema)
    (hst : stepG K.P true g x₁.w = .go g' w' es) (hs' : g'.status = .running) (hw' : x'.w = w') (hw : x'.w = x₁.w ∨ x'.w = setBlk x₁.w K.Wg o) (ht : x'.t = x₁.t ++ MemOp.ofEvents 0 g.frame.fn g.frame.place es)
    (hc : x'.cls = x₁.cls) (hn : x'.num = x₁.num) (hs : x'.stg = x₁.stg) (hes : ∀ op ∈ MemOp.ofEvents 0 g.frame.fn g.frame.place es, Add1 K.toCfg x₁.w.heap.size x₁.cls x₁.num 0 op) (hg : Group K x')
    (hacq : x'.tag = .done → AcqAll K.toCfg x'.t x'.num) (hnext : GoX K ρ n g' x') : Move K ρ n g x₁ (GoX K ρ n) := by
  obtain ⟨a1, a2⟩ := own_proto (i := 0) hi (.inl rfl) x' hp hp' hw ht hc hn (fun k _ => by rw [hs]) hes hg (fun h => absurd h (not_started _)) hacq (fun h => absurd rfl h)
  refine .inl ⟨g', w', es, x', by rw [hρ]; exact hst, hw', by rw [hρ]; exact ht, hn, a1, by rw [hρ]; exact a2, fun e1 e2 => ?_, hs', .inl ⟨hnext, .inl hρ⟩⟩
  rcases hns with h | h
  · exact absurd e1 h
  · exact absurd h e2

/-- THE ADDITION. -/
theorem GoX.plus (hρ : ρ.i = 0) (hKn : K.n ≤ 1000) {n : Nat} {g : Goroutine} (hs : g.status = .running) (htag : x.tag = .opn)
    (hst : ∀ (w : World) (v : Nat), v < 2147483647 → WgAt K.ty K.Wg w ((v : Int) * KK) 0 → ∃ g', stepG K.P true g w = .go g' (w.setCell (stA K.Wg) (.int .u64 (((v + 1 : Nat) : Int) * KK))) #[rd (stA K.Wg), wr (stA K.Wg)] ∧ g'.status = .running ∧
      ∀ x', RT K 0 x x' → x'.tag = .pend → Deaf x'.t 0 = Deaf x.t 0 → GoX K ρ n g' x') : GoX K ρ (n + 1) g x := by
  refine .inr ⟨hs, fun x₁ r hi => ?_⟩
  rw [hρ] at r
  have ht1 := (r.tag rfl).1.opn htag
  have hgrp := hi.grp
  simp only [Group, ht1] at hgrp
  obtain ⟨hwg, hopen⟩ := hgrp
  have hcb := cnt_bound hi hKn
  have hp : x₁.tag ≠ .pre := by rw [ht1]; simp
  obtain ⟨g', hgo, hs', hn⟩ := hst x₁.w (cnt K x₁) (by omega) hwg
  obtain ⟨es1, es2⟩ := wg_st hwg (((cnt K x₁ + 1 : Nat) : Int) * KK)
  rw [es1] at hgo
  obtain ⟨c1, c2, c3⟩ := hi.cls hp
  obtain ⟨x', hx'⟩ : ∃ x' : Sx, x' = { x₁ with w := setBlk x₁.w K.Wg (wgBlock K.ty (((cnt K x₁ + 1 : Nat) : Int) * KK) 0), t := x₁.t ++ MemOp.ofEvents 0 g.frame.fn g.frame.place #[rd (stA K.Wg), wr (stA K.Wg)], tag := .pend } := ⟨_, rfl⟩
  have e1 : x'.w = setBlk x₁.w K.Wg (wgBlock K.ty (((cnt K x₁ + 1 : Nat) : Int) * KK) 0) := by rw [hx']
  have e2 : x'.tag = .pend := by rw [hx']
  have e3 : x'.num = x₁.num := by rw [hx']
  have e4 : x'.stg = x₁.stg := by rw [hx']
  have e5 : x'.t = x₁.t ++ MemOp.ofEvents 0 g.frame.fn g.frame.place #[rd (stA K.Wg), wr (stA K.Wg)] := by rw [hx']
  have ec : cnt K x' = cnt K x₁ := cnt_same e3 e4
  have e6 : x'.cls = x₁.cls := by rw [hx']
  refine zero_proto hρ hi hp (by rw [e2]; simp) (.inl (by rw [e2]; simp)) hgo hs' e1 (.inr e1) e5 e6 e3 e4 (add1_atomic c1 (wg_lt hwg) (ev_rw _)) ?_ (fun e => by rw [e2] at e; cases e)
    (hn x' ((RT.of r).trans (.grp hi hp (.inr e1) e6 e3)) e2 ?_)
  · unfold Group
    rw [e2]
    simp only
    refine ⟨by rw [e1, ec]; exact es2, fun k hk => by rw [e4]; rw [e3] at hk; exact hopen k hk⟩
  · rw [e5, Deaf_own, deaf_atomic (i := K.Wg) (ev_rw _), r.deaf]

/-- THE WAITER's FIRST LOOK. -/
theorem GoX.lookW (hρ : ρ.i = 0) (hKn : K.n ≤ 1000) {n : Nat} {g : Goroutine} (hs : g.status = .running) (htag : x.tag = .opn)
    (hst : ∀ (w : World) (v : Nat), v < 2147483647 → v ≤ cnt K x → WgAt K.ty K.Wg w ((v : Int) * KK) 0 → ∃ g', stepG K.P true g w = .go g' w #[rd (stA K.Wg)] ∧ g'.status = .running ∧
      (v = 0 → ∀ x', RT K 0 x x' → x'.tag = .fin → Deaf x'.t 0 = Deaf x.t 0 → GoX K ρ n g' x') ∧
      (v ≠ 0 → ∀ x', RT K 0 x x' → x'.tag = .opn → cnt K x' = v → Deaf x'.t 0 = Deaf x.t 0 → GoX K ρ n g' x')) : GoX K ρ (n + 1) g x := by
  refine .inr ⟨hs, fun x₁ r hi => ?_⟩
  rw [hρ] at r
  have ht1 := (r.tag rfl).1.opn htag
  have hgrp := hi.grp
  simp only [Group, ht1] at hgrp
  obtain ⟨hwg, hopen⟩ := hgrp
  have hcb := cnt_bound hi hKn
  have hp : x₁.tag ≠ .pre := by rw [ht1]; simp
  obtain ⟨g', hgo, hs', hz, hnz⟩ := hst x₁.w (cnt K x₁) (by omega) (r.tag rfl).2 hwg
  obtain ⟨c1, c2, c3⟩ := hi.cls hp
  obtain ⟨x', hx'⟩ : ∃ x' : Sx, x' = { x₁ with t := x₁.t ++ MemOp.ofEvents 0 g.frame.fn g.frame.place #[rd (stA K.Wg)], tag := if cnt K x₁ = 0 then .fin else .opn } := ⟨_, rfl⟩
  have e1 : x'.w = x₁.w := by rw [hx']
  have e2 : x'.tag = if cnt K x₁ = 0 then .fin else .opn := by rw [hx']
  have e3 : x'.num = x₁.num := by rw [hx']
  have e4 : x'.stg = x₁.stg := by rw [hx']
  have e5 : x'.t = x₁.t ++ MemOp.ofEvents 0 g.frame.fn g.frame.place #[rd (stA K.Wg)] := by rw [hx']
  have ec : cnt K x' = cnt K x₁ := cnt_same e3 e4
  have e6 : x'.cls = x₁.cls := by rw [hx']
  have hd : Deaf x'.t 0 = Deaf x.t 0 := by rw [e5, Deaf_own, deaf_atomic (i := K.Wg) (ev_rd _), r.deaf]
  have hrt : RT K 0 x x' := (RT.of r).trans (.grp (o := default) hi hp (.inl e1) e6 e3)
  by_cases hc0 : cnt K x₁ = 0
  · rw [if_pos hc0] at e2
    refine zero_proto hρ (o := default) hi hp (by rw [e2]; simp) (.inl (by rw [e2]; simp)) hgo hs' e1 (.inl e1) e5 e6 e3 e4 (add1_atomic c1 (wg_lt hwg) (ev_rd _)) ?_ (fun e => by rw [e2] at e; cases e) (hz hc0 x' hrt e2 hd)
    unfold Group
    rw [e2]
    simp only
    refine ⟨?_, fun k hk => ?_⟩
    · rw [e1]
      rw [hc0] at hwg
      simpa using hwg
    · rw [e4]; rw [e3] at hk; exact cnt_zero hopen hc0 k hk
  · rw [if_neg hc0] at e2
    refine zero_proto hρ (o := default) hi hp (by rw [e2]; simp) (.inl (by rw [e2]; simp)) hgo hs' e1 (.inl e1) e5 e6 e3 e4 (add1_atomic c1 (wg_lt hwg) (ev_rd _)) ?_ (fun e => by rw [e2] at e; cases e) (hnz hc0 x' hrt e2 ec hd)
    unfold Group
    rw [e2]
    simp only
    exact ⟨by rw [e1, ec]; exact hwg, fun k hk => by rw [e4]; rw [e3] at hk; exact hopen k hk⟩

/-- THE CompareAndSwap. -/
theorem GoX.cas (hρ : ρ.i = 0) (hKn : K.n ≤ 1000) {n : Nat} {g : Goroutine} (vs : Nat) (hv0 : vs ≠ 0) (hs : g.status = .running) (htag : x.tag = .opn) (hcn : cnt K x ≤ vs)
    (hst : ∀ (w : World) (v : Nat), v < 2147483647 → WgAt K.ty K.Wg w ((v : Int) * KK) 0 →
      (v = vs → ∃ g', stepG K.P true g w = .go g' (w.setCell (stA K.Wg) (.int .u64 ((v : Int) * KK + 1))) #[rd (stA K.Wg), wr (stA K.Wg)] ∧ g'.status = .running ∧ ∀ x', RT K 0 x x' → Reg x'.tag → Deaf x'.t 0 = Deaf x.t 0 → GoX K ρ n g' x') ∧
      (v ≠ vs → ∃ g', stepG K.P true g w = .go g' w #[rd (stA K.Wg)] ∧ g'.status = .running ∧ ∀ x', RT K 0 x x' → x'.tag = .opn → cnt K x' < vs → Deaf x'.t 0 = Deaf x.t 0 → GoX K ρ n g' x')) : GoX K ρ (n + 1) g x := by
  refine .inr ⟨hs, fun x₁ r hi => ?_⟩
  rw [hρ] at r
  have ht1 := (r.tag rfl).1.opn htag
  have hgrp := hi.grp
  simp only [Group, ht1] at hgrp
  obtain ⟨hwg, hopen⟩ := hgrp
  have hcb := cnt_bound hi hKn
  have hcr := (r.tag rfl).2
  have hp : x₁.tag ≠ .pre := by rw [ht1]; simp
  obtain ⟨hit, miss⟩ := hst x₁.w (cnt K x₁) (by omega) hwg
  obtain ⟨c1, c2, c3⟩ := hi.cls hp
  by_cases hv : cnt K x₁ = vs
  · obtain ⟨g', hgo, hs', hn⟩ := hit hv
    obtain ⟨es1, es2⟩ := wg_st hwg ((cnt K x₁ : Int) * KK + 1)
    rw [es1] at hgo
    obtain ⟨x', hx'⟩ : ∃ x' : Sx, x' = { x₁ with w := setBlk x₁.w K.Wg (wgBlock K.ty ((cnt K x₁ : Int) * KK + 1) 0), t := x₁.t ++ MemOp.ofEvents 0 g.frame.fn g.frame.place #[rd (stA K.Wg), wr (stA K.Wg)], tag := .reg } := ⟨_, rfl⟩
    have e1 : x'.w = setBlk x₁.w K.Wg (wgBlock K.ty ((cnt K x₁ : Int) * KK + 1) 0) := by rw [hx']
    have e2 : x'.tag = .reg := by rw [hx']
    have e3 : x'.num = x₁.num := by rw [hx']
    have e4 : x'.stg = x₁.stg := by rw [hx']
    have e5 : x'.t = x₁.t ++ MemOp.ofEvents 0 g.frame.fn g.frame.place #[rd (stA K.Wg), wr (stA K.Wg)] := by rw [hx']
    have ec : cnt K x' = cnt K x₁ := cnt_same e3 e4
    have e6 : x'.cls = x₁.cls := by rw [hx']
    refine zero_proto hρ hi hp (by rw [e2]; simp) (.inl (by rw [e2]; simp)) hgo hs' e1 (.inr e1) e5 e6 e3 e4 (add1_atomic c1 (wg_lt hwg) (ev_rw _)) ?_ (fun e => by rw [e2] at e; cases e)
      (hn x' ((RT.of r).trans (.grp hi hp (.inr e1) e6 e3)) (by rw [e2]; trivial) ?_)
    · unfold Group
      rw [e2]
      simp only
      exact ⟨by rw [e1, ec]; exact es2, fun k hk => (by rw [e4]; rw [e3] at hk; exact hopen k hk), by omega⟩
    · rw [e5, Deaf_own, deaf_atomic (i := K.Wg) (ev_rw _), r.deaf]
  · obtain ⟨g', hgo, hs', hn⟩ := miss hv
    obtain ⟨x', hx'⟩ : ∃ x' : Sx, x' = { x₁ with t := x₁.t ++ MemOp.ofEvents 0 g.frame.fn g.frame.place #[rd (stA K.Wg)] } := ⟨_, rfl⟩
    have e1 : x'.w = x₁.w := by rw [hx']
    have e2 : x'.tag = .opn := by rw [hx']; exact ht1
    have e3 : x'.num = x₁.num := by rw [hx']
    have e4 : x'.stg = x₁.stg := by rw [hx']
    have e5 : x'.t = x₁.t ++ MemOp.ofEvents 0 g.frame.fn g.frame.place #[rd (stA K.Wg)] := by rw [hx']
    have ec : cnt K x' = cnt K x₁ := cnt_same e3 e4
    have e6 : x'.cls = x₁.cls := by rw [hx']
    refine zero_proto hρ (o := default) hi hp (by rw [e2]; simp) (.inl (by rw [e2]; simp)) hgo hs' e1 (.inl e1) e5 e6 e3 e4 (add1_atomic c1 (wg_lt hwg) (ev_rd _)) ?_ (fun e => by rw [e2] at e; cases e)
      (hn x' ((RT.of r).trans (.grp (o := default) hi hp (.inl e1) e6 e3)) e2 (by omega) ?_)
    · unfold Group
      rw [e2]
      simp only
      exact ⟨by rw [e1, ec]; exact hwg, fun k hk => (by rw [e4]; rw [e3] at hk; exact hopen k hk)⟩
    · rw [e5, Deaf_own, deaf_atomic (i := K.Wg) (ev_rd _), r.deaf]

/-- THE SEMAPHORE: it waits, or takes it. -/
theorem GoX.sema (hρ : ρ.i = 0) {n : Nat} {g : Goroutine} (hs : g.status = .running) (hoff : g.offers = none) (htag : Reg x.tag)
    (hwait : ∀ w, (∃ st, WgAt K.ty K.Wg w st 0) → stepG K.P true g w = .go { g with status := .blocked } w #[])
    (hst : ∀ w, WgAt K.ty K.Wg w 0 1 → ∃ g', stepG K.P true g w = .go g' (w.setCell (smA K.Wg) (.int .u32 0)) (semEvents (smA K.Wg)) ∧ g'.status = .running ∧ ∀ x', RT K 0 x x' → x'.tag = .fin → Deaf x'.t 0 = Deaf x.t 0 → GoX K ρ n g' x') : GoX K ρ (n + 1) g x := by
  refine .inr ⟨hs, fun x₁ r hi => ?_⟩
  rw [hρ] at r
  have ht1 := (r.tag rfl).1.reg htag
  have hgrp := hi.grp
  have hp : x₁.tag ≠ .pre := fun e => by rw [e] at ht1; exact ht1
  have wait : (x₁.tag = .reg ∨ ∃ L, x₁.tag = .last L) → (∃ st, WgAt K.ty K.Wg x₁.w st 0) → Move K ρ n g x₁ (GoX K ρ n) := fun h1 h2 => .inr (.inl ⟨by rw [hρ]; exact hwait x₁.w h2, hoff, hρ, h1⟩)
  cases hT : x₁.tag with
  | reg => simp only [Group, hT] at hgrp; exact wait (.inl hT) ⟨_, hgrp.1⟩
  | last L => simp only [Group, hT] at hgrp; exact wait (.inr ⟨L, hT⟩) ⟨_, hgrp.1⟩
  | sema =>
    simp only [Group, hT] at hgrp
    obtain ⟨hwg, hall⟩ := hgrp
    obtain ⟨g', hgo, hs', hn⟩ := hst x₁.w hwg
    obtain ⟨es1, es2⟩ := wg_sm hwg 0
    rw [es1] at hgo
    obtain ⟨c1, c2, c3⟩ := hi.cls hp
    obtain ⟨x', hx'⟩ : ∃ x' : Sx, x' = { x₁ with w := setBlk x₁.w K.Wg (wgBlock K.ty 0 0), t := x₁.t ++ MemOp.ofEvents 0 g.frame.fn g.frame.place (semEvents (smA K.Wg)), tag := .fin } := ⟨_, rfl⟩
    have e1 : x'.w = setBlk x₁.w K.Wg (wgBlock K.ty 0 0) := by rw [hx']
    have e2 : x'.tag = .fin := by rw [hx']
    have e3 : x'.num = x₁.num := by rw [hx']
    have e4 : x'.stg = x₁.stg := by rw [hx']
    have e5 : x'.t = x₁.t ++ MemOp.ofEvents 0 g.frame.fn g.frame.place (semEvents (smA K.Wg)) := by rw [hx']
    have e6 : x'.cls = x₁.cls := by rw [hx']
    refine zero_proto hρ hi hp (by rw [e2]; simp) (.inl (by rw [e2]; simp)) hgo hs' e1 (.inr e1) e5 e6 e3 e4 (add1_sem c1 (wg_lt hwg)) ?_ (fun e => by rw [e2] at e; cases e)
      (hn x' ((RT.of r).trans (.grp hi hp (.inr e1) e6 e3)) e2 ?_)
    · unfold Group
      rw [e2]
      simp only
      exact ⟨by rw [e1]; exact es2, fun k hk => by rw [e4]; rw [e3] at hk; exact hall k hk⟩
    · rw [e5, Deaf_own, deaf_sem, r.deaf]
  | pre => rw [hT] at ht1; exact ht1.elim
  | opn => rw [hT] at ht1; exact ht1.elim
  | pend => rw [hT] at ht1; exact ht1.elim
  | fin => rw [hT] at ht1; exact ht1.elim
  | done => rw [hT] at ht1; exact ht1.elim

/-- THE WAITER LOOKS AGAIN. -/
theorem GoX.lookF (hρ : ρ.i = 0) {n : Nat} {g : Goroutine} (hs : g.status = .running) (htag : x.tag = .fin)
    (hst : ∀ w, WgAt K.ty K.Wg w 0 0 → ∃ g', stepG K.P true g w = .go g' w #[rd (stA K.Wg)] ∧ g'.status = .running ∧ ∀ x', RT K 0 x x' → x'.tag = .fin → Deaf x'.t 0 = Deaf x.t 0 → GoX K ρ n g' x') : GoX K ρ (n + 1) g x := by
  refine .inr ⟨hs, fun x₁ r hi => ?_⟩
  rw [hρ] at r
  have ht1 := (r.tag rfl).1.fin htag
  have hgrp := hi.grp
  simp only [Group, ht1] at hgrp
  obtain ⟨hwg, hall⟩ := hgrp
  have hp : x₁.tag ≠ .pre := by rw [ht1]; simp
  obtain ⟨g', hgo, hs', hn⟩ := hst x₁.w hwg
  obtain ⟨c1, c2, c3⟩ := hi.cls hp
  obtain ⟨x', hx'⟩ : ∃ x' : Sx, x' = { x₁ with t := x₁.t ++ MemOp.ofEvents 0 g.frame.fn g.frame.place #[rd (stA K.Wg)] } := ⟨_, rfl⟩
  have e1 : x'.w = x₁.w := by rw [hx']
  have e2 : x'.tag = .fin := by rw [hx']; exact ht1
  have e3 : x'.num = x₁.num := by rw [hx']
  have e4 : x'.stg = x₁.stg := by rw [hx']
  have e5 : x'.t = x₁.t ++ MemOp.ofEvents 0 g.frame.fn g.frame.place #[rd (stA K.Wg)] := by rw [hx']
  have e6 : x'.cls = x₁.cls := by rw [hx']
  refine zero_proto hρ (o := default) hi hp (by rw [e2]; simp) (.inl (by rw [e2]; simp)) hgo hs' e1 (.inl e1) e5 e6 e3 e4 (add1_atomic c1 (wg_lt hwg) (ev_rd _)) ?_ (fun e => by rw [e2] at e; cases e)
    (hn x' ((RT.of r).trans (.grp (o := default) hi hp (.inl e1) e6 e3)) e2 ?_)
  · unfold Group
    rw [e2]
    simp only
    exact ⟨by rw [e1]; exact hwg, fun k hk => by rw [e4]; rw [e3] at hk; exact hall k hk⟩
  · rw [e5, Deaf_own, deaf_atomic (i := K.Wg) (ev_rd _), r.deaf]

/-- .. AND ACQUIRES. -/
theorem GoX.acquire (hρ : ρ.i = 0) {n : Nat} {g g' : Goroutine} (hs : g.status = .running) (hs' : g'.status = .running) (htag : x.tag = .fin) (hd : Deaf x.t 0 = 0)
    (hst : ∀ w, stepG K.P true g w = .go g' w #[mk (.acquire (stA K.Wg))]) (hn : ∀ x', RT K 0 x x' → x'.tag = .done → Deaf x'.t 0 = 0 → GoX K ρ n g' x') : GoX K ρ (n + 1) g x := by
  refine .inr ⟨hs, fun x₁ r hi => ?_⟩
  rw [hρ] at r
  have ht1 := (r.tag rfl).1.fin htag
  have hd1 : Deaf x₁.t 0 = 0 := r.deaf.trans hd
  have hgrp := hi.grp
  simp only [Group, ht1] at hgrp
  obtain ⟨hwg, hall⟩ := hgrp
  have hp : x₁.tag ≠ .pre := by rw [ht1]; simp
  obtain ⟨x', hx'⟩ : ∃ x' : Sx, x' = { x₁ with t := x₁.t ++ MemOp.ofEvents 0 g.frame.fn g.frame.place #[mk (.acquire (stA K.Wg))], tag := .done } := ⟨_, rfl⟩
  have e1 : x'.w = x₁.w := by rw [hx']
  have e2 : x'.tag = .done := by rw [hx']
  have e3 : x'.num = x₁.num := by rw [hx']
  have e4 : x'.stg = x₁.stg := by rw [hx']
  have e5 : x'.t = x₁.t ++ MemOp.ofEvents 0 g.frame.fn g.frame.place #[mk (.acquire (stA K.Wg))] := by rw [hx']
  have e6 : x'.cls = x₁.cls := by rw [hx']
  refine zero_proto hρ (o := default) hi hp (by rw [e2]; simp) (.inl (by rw [e2]; simp)) (hst x₁.w) hs' e1 (.inl e1) e5 e6 e3 e4 (add1_mark _ (.inr (.inr ⟨stA K.Wg, .inr rfl, wg_lt hwg⟩))) ?_ (fun _ => ?_)
    (hn x' ((RT.of r).trans (.grp (o := default) hi hp (.inl e1) e6 e3)) e2 ?_)
  · unfold Group
    rw [e2]
    simp only
    exact ⟨by rw [e1]; exact hwg, fun k hk => by rw [e4]; rw [e3] at hk; exact hall k hk⟩
  · have ee : MemOp.ofEvents 0 g.frame.fn g.frame.place #[mk (.acquire (stA K.Wg))] = #[{ g := 0, fn := g.frame.fn, pos := g.frame.place, act := .mark (.acquire (stA K.Wg)) }] := by simp [MemOp.ofEvents, mk, MemAct.ofEvent]
    have hx : x'.t[x₁.t.size]? = some { g := 0, fn := g.frame.fn, pos := g.frame.place, act := .mark (.acquire (stA K.Wg)) } := by rw [e5, ee, Array.getElem?_append_right (Nat.le_refl _)]; simp
    refine ⟨x₁.t.size, by simp [Trace.act?, hx], by simp [Trace.g?, hx], ⟨0, by simp [Trace.g?, hx], by rw [e5, deaf_old (Nat.le_refl _)]; exact hd1⟩, fun k hk => ?_⟩
    rw [e3] at hk
    obtain ⟨⟨r', hr'⟩, _⟩ := hi.rel k hk (by rw [hall k hk]; omega)
    have hk0 : (0 : Nat) ≠ k := by have := hk.1; have := K.one; omega
    exact ⟨r', by rw [e5]; exact hr'.other hk0 evs_g, lt_of_act? hr'.act⟩
  · rw [e5, Deaf_own, hd1]; rfl

/-- A GO STATEMENT. -/
theorem GoX.spawn (hρ : ρ.i = 0) {n : Nat} {g g' child : Goroutine} (hs : g.status = .running) (hs' : g'.status = .running) (hcs : child.status = .running) (htag : x.tag = .pend) (hd : Deaf x.t 0 = 0) (hroom : x.num < K.c + K.n)
    (hst : ∀ w, stepG K.P true g w = .spawn g' child w #[])
    (hb : ∀ x', (∀ b o, x.cls b = .mine 0 → x.w.heap[b]? = some o → x'.cls b = .gift x.num ∧ x'.w.heap[b]? = some o) → (∀ b k o, x.cls b = .gift k → x.w.heap[b]? = some o → x'.cls b = .gift k ∧ x'.w.heap[b]? = some o) →
      (∀ cs e f, x.w.heap[K.C]? = some (.cells cs e f) → ∃ cs', x'.w.heap[K.C]? = some (.cells cs' e f) ∧ cs'.size = cs.size) → x.w.heap.size ≤ x'.w.heap.size →
      x'.tag = .opn → x'.num = x.num + 1 → x'.stg x.num = 7 → Deaf x'.t x.num = 0 → Deaf x'.t 0 = 0 → ρ.Child x.num child x' ∧ GoX K ρ n g' x') : GoX K ρ (n + 1) g x := by
  refine .inr ⟨hs, fun x₁ r hi => ?_⟩
  rw [hρ] at r
  have ht1 := (r.tag rfl).1.pend htag
  have hd1 : Deaf x₁.t 0 = 0 := r.deaf.trans hd
  have hnum : x₁.num = x.num := r.num0 rfl
  have hgrp := hi.grp
  simp only [Group, ht1] at hgrp
  obtain ⟨hwg, hopen⟩ := hgrp
  have hp : x₁.tag ≠ .pre := by rw [ht1]; simp
  obtain ⟨c1, c2, c3⟩ := hi.cls hp
  have h1c := K.one
  have hcn := hi.ti.pos
  obtain ⟨cls', hcls⟩ : ∃ cls' : Nat → Cls, cls' = fun b => match x₁.cls b with | .mine 0 => .gift x₁.num | c => c := ⟨_, rfl⟩
  have cm : ∀ b, x₁.cls b = .mine 0 → cls' b = .gift x₁.num := fun b h => by rw [hcls]; simp only [h]
  have cn : ∀ b, x₁.cls b ≠ .mine 0 → cls' b = x₁.cls b := fun b h => by
    rw [hcls]
    simp only
  obtain ⟨x', hx'⟩ : ∃ x' : Sx, x' = { x₁ with t := x₁.t ++ #[{ g := 0, fn := g.frame.fn, pos := g.frame.place, act := .go x₁.num }, { g := x₁.num, fn := child.frame.fn, pos := g.frame.place, act := .start }], cls := cls', num := x₁.num + 1, stg := setS x₁.stg x₁.num 7, tag := .opn } := ⟨_, rfl⟩
  have e1 : x'.w = x₁.w := by rw [hx']
  have e2 : x'.tag = .opn := by rw [hx']
  have e3 : x'.num = x₁.num + 1 := by rw [hx']
  have e4 : x'.stg = setS x₁.stg x₁.num 7 := by rw [hx']
  have e5 : x'.t = x₁.t ++ #[{ g := 0, fn := g.frame.fn, pos := g.frame.place, act := .go x₁.num }, { g := x₁.num, fn := child.frame.fn, pos := g.frame.place, act := .start }] := by rw [hx']
  have e6 : x'.cls = cls' := by rw [hx']
  have sN : x'.stg x₁.num = 7 := by rw [e4]; unfold setS; rw [if_pos rfl]
  have sO : ∀ k, k ≠ x₁.num → x'.stg k = x₁.stg k := fun k hk => by rw [e4]; unfold setS; rw [if_neg hk]
  have hTI : TI K.toCfg x'.t x'.w.heap.size x'.cls x'.num := by
    rw [e5, e1, e6, e3]
    refine hi.ti.fork ⟨rfl, rfl⟩ ⟨rfl, rfl⟩ hd1 (fun b => ?_) (fun b h => ?_)
    · by_cases h : x₁.cls b = .mine 0
      · exact .inl ⟨h, cm b h⟩
      · refine .inr ⟨fun k => ?_, cn b h⟩
        by_cases hk : k = 0
        · subst hk; exact .inl h
        · exact .inr hk
    · rcases hi.owner b _ h with e | e
      · omega
      · have := e.2; omega
  have hgo : ∀ op ∈ (#[{ g := 0, fn := g.frame.fn, pos := g.frame.place, act := .go x₁.num }, { g := x₁.num, fn := child.frame.fn, pos := g.frame.place, act := .start }] : Trace), op.g = 0 ∨ op.g = x₁.num := fun op hop => by
    simp only [List.mem_toArray, List.mem_cons, List.not_mem_nil, or_false] at hop
    rcases hop with rfl | rfl
    · exact .inl rfl
    · exact .inr rfl
  have hcnt : cnt K x' = cnt K x₁ + 1 := by
    unfold cnt
    rw [e3, show x₁.num + 1 - K.c = (x₁.num - K.c) + 1 by omega]
    simp only [sumTo]
    rw [show K.c + (x₁.num - K.c) = x₁.num by omega, sN, if_pos (by omega)]
    congr 1
    refine sumTo_congr fun a ha => ?_
    rw [sO _ (by omega)]
  have deafO : ∀ j, j ≠ 0 → j ≠ x₁.num → Deaf x'.t j = Deaf x₁.t j := fun j h0 hn => by
    rw [e5]
    exact Deaf_others _ _ _ fun op hop => by rcases hgo op hop with e | e <;> rw [e] <;> first | exact Ne.symm h0 | exact Ne.symm hn
  have deafZ : Deaf x'.t 0 = 0 := by
    have ee : x'.t = (x₁.t ++ #[{ g := 0, fn := g.frame.fn, pos := g.frame.place, act := .go x₁.num }]) ++ #[{ g := x₁.num, fn := child.frame.fn, pos := g.frame.place, act := .start }] := by rw [e5]; apply Array.ext'; simp
    rw [ee, Deaf_push, Deaf_push, hd1]
    simp [deafStep]
  have deafN : Deaf x'.t x₁.num = 0 := by
    have ee : x'.t = (x₁.t ++ #[{ g := 0, fn := g.frame.fn, pos := g.frame.place, act := .go x₁.num }]) ++ #[{ g := x₁.num, fn := child.frame.fn, pos := g.frame.place, act := .start }] := by rw [e5]; apply Array.ext'; simp
    rw [ee, Deaf_push, Deaf_push, hi.ti.above _ (Nat.le_refl _)]
    simp [deafStep]
  have hInv : Inv K x' := by
    refine ⟨hTI, by rw [e1]; exact hi.tape, by rw [e1]; exact hi.os, by rw [e1]; exact hi.output, by rw [e1]; exact hi.size, fun b hb => by rw [e1]; exact hi.low b hb, fun b hb => ?_, by rw [e3]; omega, fun k hk h6 => ?_, ?_, fun _ => ?_, fun e => (by rw [e2] at e; cases e), fun b g' hb => ?_, fun b k hb => ?_⟩
    · rw [e6]
      rcases hi.lcls b hb with ⟨h, e⟩ | ⟨h, e⟩
      · exact .inl ⟨h, (cn b (by rw [e]; simp)).trans e⟩
      · exact .inr ⟨h, (cn b (by rw [e]; simp)).trans e⟩
    · by_cases hkn : k = x₁.num
      · rw [hkn, sN] at h6; omega
      · have hk1 : Started K.toCfg x₁.num k := ⟨hk.1, by have := hk.2; rw [e3] at this; omega⟩
        rw [sO k hkn] at h6
        obtain ⟨⟨r', hr'⟩, hv⟩ := hi.rel k hk1 h6
        refine ⟨⟨r', ?_⟩, by rw [e1]; exact hv⟩
        rw [e5]
        refine hr'.app fun j hj hg a ha => ?_
        obtain ⟨y, hy, hya⟩ := touch_of ha
        rcases getElem?_append_cases hy with ⟨hl, _⟩ | ⟨_, hyu⟩
        · omega
        · have hyk : y.g = k := by simpa [Trace.g?, hy] using hg
          rcases hgo y hyu with e | e
          · have := hk.1; omega
          · omega
    · unfold Group
      rw [e2]
      simp only
      refine ⟨by rw [e1, hcnt]; exact hwg, fun k hk => ?_⟩
      by_cases hkn : k = x₁.num
      · exact .inl (by rw [hkn]; exact sN)
      · rw [sO k hkn]; exact hopen k ⟨hk.1, by have := hk.2; rw [e3] at this; omega⟩
    · rw [e6, e1]
      exact ⟨(cn _ (by rw [c1]; simp)).trans c1, (cn _ (by rw [c2]; simp)).trans c2, c3⟩
    · rw [e6] at hb
      by_cases h : x₁.cls b = .mine 0
      · rw [cm b h] at hb; cases hb
      · rw [cn b h] at hb
        rw [e3]
        exact (hi.owner b g' hb).imp id fun y => ⟨y.1, by have := y.2; omega⟩
    · rw [e6] at hb
      rw [e3]
      by_cases h : x₁.cls b = .mine 0
      · rw [cm b h] at hb
        obtain rfl : x₁.num = k := Cls.gift.inj hb
        exact ⟨hcn, by omega⟩
      · rw [cn b h] at hb
        have := hi.gifted b k hb
        exact ⟨this.1, by have := this.2; omega⟩
  have hoth : Others K 0 x₁ x' := fun j hj hjs => by
    have hjs := hjs.resolve_left hj
    have hjn : j ≠ x₁.num := by have := hjs.2; omega
    refine ⟨by rw [e1]; exact Nat.le_refl _, fun b hb _ => ⟨by rw [e1], by rw [e6]; exact (cn b (by rw [hb]; intro e; exact hj (Cls.mine.inj e))).trans hb⟩, fun b k hb _ _ => ⟨by rw [e1], by rw [e6]; exact (cn b (by rw [hb]; simp)).trans hb⟩,
      fun cs e f hc => ⟨cs, by rw [e1]; exact hc, rfl, fun _ _ => rfl⟩, ⟨⟨_, e5⟩, deafO j hj hjn⟩, sO j hjn, by omega, fun e => absurd e hj, fun e => absurd e hj, fun e => absurd e hj, fun _ => by rw [e2]; simp⟩
  obtain ⟨hchild, hnext⟩ := hb x' (fun b o hm ho => by
      obtain ⟨a1, a2⟩ := r.mine b hm (lt_of_some ho)
      exact ⟨by rw [e6, cm b a2, hnum], by rw [e1, a1]; exact ho⟩)
    (fun b k o hm ho => by
      obtain ⟨a1, a2⟩ := r.gift b k hm (.inl rfl) (lt_of_some ho)
      exact ⟨by rw [e6, cn b (by rw [a2]; simp)]; exact a2, by rw [e1, a1]; exact ho⟩)
    (fun cs e f hc => by
      obtain ⟨cs', a1, a2, _⟩ := r.row cs e f hc
      exact ⟨cs', by rw [e1]; exact a1, a2⟩)
    (by rw [e1]; exact r.size) e2 (by rw [e3, hnum]) (by rw [← hnum]; exact sN) (by rw [← hnum]; exact deafN) deafZ
  exact .inr (.inr ⟨g', child, x₁.w, x', by rw [hρ]; exact hst x₁.w, hρ, e1, e5, e3, hInv, hoth, by rw [e2]; simp, hs', hcs, by rw [sN]; omega, by rw [hnum]; exact hchild, hnext⟩)
end
end Go.Crew
