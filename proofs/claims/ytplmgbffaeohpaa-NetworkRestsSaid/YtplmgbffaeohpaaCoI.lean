/- The group's protocol, on: the last worker's way; the starter's. -/
import Derived.Test.YtplmgbffaeohpaaCoH
set_option linter.unusedSimpArgs false
set_option linter.unusedVariables false
namespace Go.Crew
open Go.Conc
open Go.ConcN (fork_knows sumTo upd sumTo_upd upd_ne upd_same sumTo_congr le_sumTo)
open Go.ConcR (stA smA WgAt KK rd wr mk wgBlock)
open Go.ConcN (WgLive)

section
variable {K : Crew} {ρ : Role} {i k : Nat} {x y z : Sx}

theorem Group.of_last (h : Group K x) (hi : Started K.toCfg x.num k) (hs : x.stg k = 4 ∨ x.stg k = 2) : x.tag = .last k ∧ WgAt K.ty K.Wg x.w (if x.stg k = 2 then 0 else 1) 0 ∧ ∀ j, Started K.toCfg x.num j → j ≠ k → x.stg j = 1 := by
  unfold Group at h
  cases ht : x.tag with
  | pre => simp only [ht] at h; have := hi.1; have := hi.2; omega
  | opn => simp only [ht] at h; have := h.2 k hi; omega
  | pend => simp only [ht] at h; have := h.2 k hi; omega
  | reg => simp only [ht] at h; have := h.2.1 k hi; omega
  | last L =>
    simp only [ht] at h
    by_cases e : k = L
    · subst e; exact ⟨rfl, h.1, h.2.2.2⟩
    · have := h.2.2.2 k hi e; omega
  | sema => simp only [ht] at h; have := h.2 k hi; omega
  | fin => simp only [ht] at h; have := h.2 k hi; omega
  | done => simp only [ht] at h; have := h.2 k hi; omega

theorem ev_rd (Wg : Nat) : ∀ e ∈ #[rd (stA Wg)], ∃ a w, e = (⟨.cell a, w, true⟩ : Event) ∧ a.block = Wg := by
  intro e he
  simp only [List.mem_toArray, List.mem_singleton] at he
  subst he
  exact ⟨stA Wg, false, rfl, rfl⟩
theorem ev_wr (Wg : Nat) : ∀ e ∈ #[wr (stA Wg)], ∃ a w, e = (⟨.cell a, w, true⟩ : Event) ∧ a.block = Wg := by
  intro e he
  simp only [List.mem_toArray, List.mem_singleton] at he
  subst he
  exact ⟨stA Wg, true, rfl, rfl⟩
theorem ev_rw (Wg : Nat) : ∀ e ∈ #[rd (stA Wg), wr (stA Wg)], ∃ a w, e = (⟨.cell a, w, true⟩ : Event) ∧ a.block = Wg := by
  intro e he
  simp only [List.mem_toArray, List.mem_cons, List.not_mem_nil, or_false] at he
  rcases he with rfl | rfl
  · exact ⟨stA Wg, false, rfl, rfl⟩
  · exact ⟨stA Wg, true, rfl, rfl⟩
theorem deaf_atomic {d : Nat} {es : Array Event} (h : ∀ e ∈ es, ∃ a w, e = (⟨.cell a, w, true⟩ : Event) ∧ a.block = i) : deafBehind d es = d :=
  deafBehind_still (fun e he => by obtain ⟨a, w, rfl, _⟩ := h e he; exact ⟨by simp, by simp⟩) d

/-- What 'semEvents' lists. -/
theorem add1_sem (hW : x.cls K.Wg = .grp) (hs : K.Wg < x.w.heap.size) {fn : FuncId} {pos : String} : ∀ op ∈ MemOp.ofEvents i fn pos (semEvents (smA K.Wg)), Add1 K.toCfg x.w.heap.size x.cls x.num i op := by
  intro op hop
  obtain ⟨e, he, rfl⟩ := mem_evs hop
  simp only [semEvents, List.mem_toArray, List.mem_cons, List.not_mem_nil, or_false] at he
  rcases he with rfl | rfl | rfl | rfl
  · exact ⟨rfl, fun b hb => by simp [MemAct.ofEvent, MemAct.touch?] at hb, trivial, by simp [MemAct.ofEvent]⟩
  · refine ⟨rfl, fun b hb => ?_, hs, by simp [MemAct.ofEvent]⟩
    simp only [MemAct.ofEvent, MemAct.touch?, Option.some.injEq] at hb
    subst hb
    exact ⟨smA K.Wg, rfl, by simp [smA, hW]⟩
  · refine ⟨rfl, fun b hb => ?_, hs, by simp [MemAct.ofEvent]⟩
    simp only [MemAct.ofEvent, MemAct.touch?, Option.some.injEq] at hb
    subst hb
    exact ⟨smA K.Wg, rfl, by simp [smA, hW]⟩
  · exact ⟨rfl, fun b hb => by simp [MemAct.ofEvent, MemAct.touch?] at hb, trivial, by simp [MemAct.ofEvent]⟩
theorem deaf_sem (d : Nat) (a : Addr) : deafBehind d (semEvents a) = d := by simp [semEvents, deafBehind]

/-- What one does behind one's release, deaf, on the semaphore. -/
theorem RelB.sem {t : Trace} {Wg k r : Nat} (h : RelB Wg t k r) (hd : 0 < Deaf t k) {fn : FuncId} {pos : String} : RelB Wg (t ++ MemOp.ofEvents k fn pos (semEvents (smA Wg))) k r := by
  have e : t ++ MemOp.ofEvents k fn pos (semEvents (smA Wg)) = ((t ++ MemOp.ofEvents k fn pos #[Go.ConcR.mk .disable]) ++ MemOp.ofEvents k fn pos #[rd (smA Wg), wr (smA Wg)]) ++ MemOp.ofEvents k fn pos #[Go.ConcR.mk .enable] := by
    simp [MemOp.ofEvents, semEvents, Go.ConcR.mk, rd, wr]
  rw [e]
  have h1 : RelB Wg (t ++ MemOp.ofEvents k fn pos #[Go.ConcR.mk .disable]) k r := h.own (.inl fun e he => by
    simp only [List.mem_toArray, List.mem_singleton] at he
    subst he
    simp [Go.ConcR.mk, MemAct.ofEvent, MemAct.touch?])
  have h2 : RelB Wg ((t ++ MemOp.ofEvents k fn pos #[Go.ConcR.mk .disable]) ++ MemOp.ofEvents k fn pos #[rd (smA Wg), wr (smA Wg)]) k r := h1.own (.inr ⟨by rw [Deaf_own]; simp [deafBehind, Go.ConcR.mk], fun e he => by
    simp only [List.mem_toArray, List.mem_cons, List.not_mem_nil, or_false] at he
    rcases he with rfl | rfl
    · exact ⟨smA Wg, false, rfl, rfl⟩
    · exact ⟨smA Wg, true, rfl, rfl⟩⟩)
  exact h2.own (.inl fun e he => by
    simp only [List.mem_toArray, List.mem_singleton] at he
    subst he
    simp [Go.ConcR.mk, MemAct.ofEvent, MemAct.touch?])

/-- THE LAST ONE LOOKS AGAIN. -/
theorem GoX.look4 (hk0 : k ≠ 0) {n : Nat} {g : Goroutine} (hs : g.status = .running) (hB : Started K.toCfg x.num k) (h4 : x.stg k = 4) (hd : Deaf x.t k = 1)
    (hst : ∀ w, WgAt K.ty K.Wg w 1 0 → ∃ g', stepG K.P false g w = .go g' w #[rd (stA K.Wg)] ∧ g'.status = .running ∧ ∀ x', x'.stg k = 4 → Deaf x'.t k = 1 → Started K.toCfg x'.num k → x'.tag ≠ .pre → GoX K (worker k) n g' x') : GoX K (worker k) (n + 1) g x := by
  refine .inr ⟨hs, fun x₁ r hi => ?_⟩
  have hB1 : Started K.toCfg x₁.num k := ⟨hB.1, Nat.lt_of_lt_of_le hB.2 r.num⟩
  have h41 : x₁.stg k = 4 := r.stg.trans h4
  have hd1 : Deaf x₁.t k = 1 := r.deaf.trans hd
  have hk0' : (k == 0) = false := by simpa using hk0
  obtain ⟨ht, hwg, hoth⟩ := hi.grp.of_last hB1 (.inl h41)
  rw [h41, if_neg (by omega)] at hwg
  have htag : x₁.tag ≠ .pre := by rw [ht]; simp
  obtain ⟨g', hgo, hs', hn⟩ := hst x₁.w hwg
  obtain ⟨c1, c2, c3⟩ := hi.cls htag
  have hrel : ∀ j r, RelB K.Wg x₁.t j r → RelB K.Wg (x₁.t ++ MemOp.ofEvents k g.frame.fn g.frame.place #[rd (stA K.Wg)]) j r := fun j r hr => by
    by_cases e : j = k
    · subst e; exact hr.own (.inr ⟨by omega, ev_rd _⟩)
    · exact hr.other (Ne.symm e) evs_g
  obtain ⟨a1, a2⟩ := own_proto hi (.inr hB1) { x₁ with t := x₁.t ++ MemOp.ofEvents k g.frame.fn g.frame.place #[rd (stA K.Wg)] } (o := default) htag htag (.inl rfl) rfl rfl rfl (fun _ _ => rfl)
    (add1_atomic c1 (wg_lt hwg) (ev_rd _)) (hi.grp.of rfl rfl rfl fun _ => rfl) (fun hst h6 => by
      obtain ⟨⟨r, hr⟩, hv⟩ := hi.rel k hst h6
      exact ⟨⟨r, hrel _ r hr⟩, hv⟩) (fun e => by rw [show x₁.tag = .done from e] at ht; cases ht) (fun _ => ⟨TagR.refl _, Nat.le_refl _⟩)
  refine .inl ⟨g', x₁.w, _, { x₁ with t := x₁.t ++ MemOp.ofEvents k g.frame.fn g.frame.place #[rd (stA K.Wg)] }, by show stepG K.P (k == 0) g x₁.w = _; rw [hk0']; exact hgo, rfl, rfl, rfl, a1, a2, fun e1 e2 => absurd e1 e2, hs', .inl ⟨hn _ h41 ?_ hB1 htag, .inr (by show x₁.stg k ≠ 1; omega)⟩⟩
  show Deaf (x₁.t ++ _) k = 1
  rw [Deaf_own, hd1]
  exact deaf_atomic (i := K.Wg) (ev_rd _)

/-- .. AND STORES NOUGHT. -/
theorem GoX.store0 (hk0 : k ≠ 0) {n : Nat} {g : Goroutine} (hs : g.status = .running) (hB : Started K.toCfg x.num k) (h4 : x.stg k = 4) (hd : Deaf x.t k = 1)
    (hst : ∀ w, WgAt K.ty K.Wg w 1 0 → ∃ g', stepG K.P false g w = .go g' (w.setCell (stA K.Wg) (.int .u64 0)) #[wr (stA K.Wg)] ∧ g'.status = .running ∧ ∀ x', x'.stg k = 2 → Deaf x'.t k = 1 → Started K.toCfg x'.num k → x'.tag ≠ .pre → GoX K (worker k) n g' x') : GoX K (worker k) (n + 1) g x := by
  refine .inr ⟨hs, fun x₁ r hi => ?_⟩
  have hB1 : Started K.toCfg x₁.num k := ⟨hB.1, Nat.lt_of_lt_of_le hB.2 r.num⟩
  have h41 : x₁.stg k = 4 := r.stg.trans h4
  have hd1 : Deaf x₁.t k = 1 := r.deaf.trans hd
  have hk0' : (k == 0) = false := by simpa using hk0
  obtain ⟨ht, hwg, hoth⟩ := hi.grp.of_last hB1 (.inl h41)
  rw [h41, if_neg (by omega)] at hwg
  have htag : x₁.tag ≠ .pre := by rw [ht]; simp
  obtain ⟨g', hgo, hs', hn⟩ := hst x₁.w hwg
  obtain ⟨c1, c2, c3⟩ := hi.cls htag
  obtain ⟨es1, es2⟩ := wg_st hwg 0
  rw [es1] at hgo
  obtain ⟨x', hx'⟩ : ∃ x' : Sx, x' = { x₁ with w := setBlk x₁.w K.Wg (wgBlock K.ty 0 0), t := x₁.t ++ MemOp.ofEvents k g.frame.fn g.frame.place #[wr (stA K.Wg)], stg := setS x₁.stg k 2 } := ⟨_, rfl⟩
  have e1 : x'.w = setBlk x₁.w K.Wg (wgBlock K.ty 0 0) := by rw [hx']
  have e2 : x'.tag = .last k := by rw [hx']; exact ht
  have e3 : x'.num = x₁.num := by rw [hx']
  have e4 : x'.stg = setS x₁.stg k 2 := by rw [hx']
  have e5 : x'.t = x₁.t ++ MemOp.ofEvents k g.frame.fn g.frame.place #[wr (stA K.Wg)] := by rw [hx']
  have ek : x'.stg k = 2 := by rw [e4]; unfold setS; rw [if_pos rfl]
  have eo : ∀ j, j ≠ k → x'.stg j = x₁.stg j := fun j hj => by rw [e4]; unfold setS; rw [if_neg hj]
  have hcnt : cnt K x' = cnt K x₁ := by
    have := cnt_set (K := K) e3 e4 hB1
    rw [if_neg (by omega), if_neg (by omega)] at this
    omega
  have hg : Group K x' := by
    unfold Group
    rw [e2]
    simp only
    refine ⟨by rw [e1, ek, if_pos rfl]; exact es2, by rw [e3]; exact hB1, .inr (.inr ek), fun j hj hne => by rw [e3] at hj; rw [eo j hne]; exact hoth j hj hne⟩
  obtain ⟨a1, a2⟩ := own_proto hi (.inr hB1) x' (o := wgBlock K.ty 0 0) htag (by rw [e2]; simp) (.inr e1) e5 (by rw [hx']) e3 eo (add1_atomic c1 (wg_lt hwg) (ev_wr _)) hg
    (fun _ _ => by
      obtain ⟨⟨r, hr⟩, hvv⟩ := hi.rel k hB1 (by omega)
      exact ⟨⟨r, by rw [e5]; exact hr.own (.inr ⟨by omega, ev_wr _⟩)⟩, hvv⟩)
    (fun e => by rw [e2] at e; cases e) (fun _ => ⟨by rw [e2, ht]; exact TagR.refl _, by omega⟩)
  refine .inl ⟨g', _, _, x', by show stepG K.P (k == 0) g x₁.w = _; rw [hk0']; exact hgo, e1, e5, e3, a1, a2, fun y1 _ => (by rw [e2] at y1; cases y1), hs', .inl ⟨hn x' ek ?_ ⟨hB1.1, by rw [e3]; exact hB1.2⟩ (by rw [e2]; simp), .inr (by show x'.stg k ≠ 1; omega)⟩⟩
  rw [e5, Deaf_own, hd1]
  exact deaf_atomic (i := K.Wg) (ev_wr _)

/-- .. AND RAISES THE SEMAPHORE. -/
theorem GoX.raise (hk0 : k ≠ 0) {n : Nat} {g : Goroutine} (hs : g.status = .running) (hB : Started K.toCfg x.num k) (h2 : x.stg k = 2) (hd : Deaf x.t k = 1) (hmay : mayWake K.P g = true)
    (hst : ∀ w, WgAt K.ty K.Wg w 0 0 → ∃ g', stepG K.P false g w = .go g' (w.setCell (smA K.Wg) (.int .u32 1)) (semEvents (smA K.Wg)) ∧ g'.status = .running ∧ QuitsD K.P n 1 g') : GoX K (worker k) (n + 1) g x := by
  refine .inr ⟨hs, fun x₁ r hi => ?_⟩
  have hB1 : Started K.toCfg x₁.num k := ⟨hB.1, Nat.lt_of_lt_of_le hB.2 r.num⟩
  have h21 : x₁.stg k = 2 := r.stg.trans h2
  have hd1 : Deaf x₁.t k = 1 := r.deaf.trans hd
  have hk0' : (k == 0) = false := by simpa using hk0
  obtain ⟨ht, hwg, hoth⟩ := hi.grp.of_last hB1 (.inr h21)
  rw [h21, if_pos rfl] at hwg
  have htag : x₁.tag ≠ .pre := by rw [ht]; simp
  obtain ⟨g', hgo, hs', hq⟩ := hst x₁.w hwg
  obtain ⟨c1, c2, c3⟩ := hi.cls htag
  obtain ⟨es1, es2⟩ := wg_sm hwg 1
  rw [es1] at hgo
  obtain ⟨x', hx'⟩ : ∃ x' : Sx, x' = { x₁ with w := setBlk x₁.w K.Wg (wgBlock K.ty 0 1), t := x₁.t ++ MemOp.ofEvents k g.frame.fn g.frame.place (semEvents (smA K.Wg)), stg := setS x₁.stg k 1, tag := .sema } := ⟨_, rfl⟩
  have e1 : x'.w = setBlk x₁.w K.Wg (wgBlock K.ty 0 1) := by rw [hx']
  have e2 : x'.tag = .sema := by rw [hx']
  have e3 : x'.num = x₁.num := by rw [hx']
  have e4 : x'.stg = setS x₁.stg k 1 := by rw [hx']
  have e5 : x'.t = x₁.t ++ MemOp.ofEvents k g.frame.fn g.frame.place (semEvents (smA K.Wg)) := by rw [hx']
  have ek : x'.stg k = 1 := by rw [e4]; unfold setS; rw [if_pos rfl]
  have eo : ∀ j, j ≠ k → x'.stg j = x₁.stg j := fun j hj => by rw [e4]; unfold setS; rw [if_neg hj]
  have hcnt : cnt K x' = cnt K x₁ := by
    have := cnt_set (K := K) e3 e4 hB1
    rw [if_neg (by omega), if_neg (by omega)] at this
    omega
  have hg : Group K x' := by
    unfold Group
    rw [e2]
    simp only
    refine ⟨by rw [e1]; exact es2, fun j hj => ?_⟩
    rw [e3] at hj
    by_cases e : j = k
    · subst e; exact ek
    · rw [eo j e]; exact hoth j hj e
  obtain ⟨a1, a2⟩ := own_proto hi (.inr hB1) x' (o := wgBlock K.ty 0 1) htag (by rw [e2]; simp) (.inr e1) e5 (by rw [hx']) e3 eo (add1_sem c1 (wg_lt hwg)) hg
    (fun _ _ => by
      obtain ⟨⟨r, hr⟩, hvv⟩ := hi.rel k hB1 (by omega)
      exact ⟨⟨r, by rw [e5]; exact hr.sem (by omega)⟩, hvv⟩)
    (fun e => by rw [e2] at e; cases e) (fun _ => ⟨by rw [e2, ht]; exact .inr rfl, by omega⟩)
  exact .inl ⟨g', _, _, x', by show stepG K.P (k == 0) g x₁.w = _; rw [hk0']; exact hgo, e1, e5, e3, a1, a2, fun _ _ => hmay, hs', .inr ⟨hk0, ek, by show QuitsD K.P n (Deaf x'.t k) g'; rw [e5, Deaf_own, hd1, deaf_sem]; exact hq⟩⟩
end
end Go.Crew
