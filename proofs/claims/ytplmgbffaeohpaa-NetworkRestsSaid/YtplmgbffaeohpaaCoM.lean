/- The machine: goroutine 0 beside its crew and beside those that are only leaving comes to its stop, whatever the tape says. -/
import Derived.Test.YtplmgbffaeohpaaCoB
set_option linter.unusedSimpArgs false
set_option linter.unusedVariables false
namespace Go.Crew
open Go.Conc
open Go.ConcN (fork_knows sumTo upd sumTo_upd upd_ne upd_same le_sumTo)
open Go.ConcR (stA smA WgAt KK rd wr mk)

def Gone (K : Crew) (x : Sx) (i f : Nat) (g : Goroutine) : Prop := ∃ q, QuitsD K.P q (Deaf x.t i) g ∧ f = 2 * q

def Sit0 (K : Crew) (ρ : Role) (M : Nat) (x : Sx) (f : Nat) (a : Goroutine) : Prop :=
  (a.status = .running ∧ ∃ n, GoX K ρ n a x ∧ f = n * M + 1) ∨
  (∃ n g, a = { g with status := .blocked } ∧ g.offers = none ∧ g.status = .running ∧ GoX K ρ n g x ∧ f = n * M ∧ (x.tag = .reg ∨ ∃ L, x.tag = .last L))

def SitW (K : Crew) (x : Sx) (k f : Nat) (g : Goroutine) : Prop :=
  (x.stg k ≠ 1 ∧ g.status = .running ∧ ∃ m, GoX K (worker k) m g x ∧ f = 2 * m + 2) ∨ (x.stg k = 1 ∧ Gone K x k f g)

structure MI (K : Crew) (ρ : Role) (M : Nat) (gs : Array Goroutine) (x : Sx) (f : Nat → Nat) : Prop where
  inv : Inv K x
  size : gs.size = x.num
  zero : ∃ a, gs[0]? = some a ∧ Sit0 K ρ M x (f 0) a
  old : ∀ i, 0 < i → i < K.c → ∃ g, gs[i]? = some g ∧ Gone K x i (f i) g
  work : ∀ k, Started K.toCfg x.num k → ∃ g, gs[k]? = some g ∧ SitW K x k (f k) g

section
variable {K : Crew} {ρ : Role} {M : Nat} {gs : Array Goroutine} {x : Sx} {f : Nat → Nat}

theorem MI.at (hρ : ρ.i = 0) (h : MI K ρ M gs x f) (d : Nat) : MI K ρ M gs (x.at d) f := by
  refine ⟨h.inv.at d, h.size, ?_, h.old, fun k hk => ?_⟩
  · obtain ⟨a, ha, hs⟩ := h.zero
    refine ⟨a, ha, ?_⟩
    rcases hs with ⟨hr, n, hg, e⟩ | ⟨n, g, e1, e2, e3, hg, e4, e5⟩
    · exact .inl ⟨hr, n, hg.rely (R.at K _ x d), e⟩
    · exact .inr ⟨n, g, e1, e2, e3, hg.rely (R.at K _ x d), e4, e5⟩
  · obtain ⟨g, hg, hs⟩ := h.work k hk
    refine ⟨g, hg, ?_⟩
    rcases hs with ⟨h1, h2, m, hm, e⟩ | hs
    · exact .inl ⟨h1, h2, m, hm.rely (R.at K _ x d), e⟩
    · exact .inr hs

theorem Gone.status {i v : Nat} {g : Goroutine} (h : Gone K x i v g) : g.status = .running ∨ g.status = .finished := by
  obtain ⟨q, hq, _⟩ := h
  exact hq.status

theorem Sit0.awake {v : Nat} {a : Goroutine} (h : Sit0 K ρ M x v a) : awake a := by
  rcases h with ⟨hr, _⟩ | ⟨n, g, rfl, _⟩
  · exact awake_of (.inl hr)
  · exact awake_of (.inr (.inl rfl))

theorem MI.place (h : MI K ρ M gs x f) {i : Nat} (hi : i < gs.size) : i = 0 ∨ (0 < i ∧ i < K.c) ∨ Started K.toCfg x.num i := by
  have := h.size
  rcases Nat.eq_zero_or_pos i with e | e
  · exact .inl e
  · rcases Nat.lt_or_ge i K.c with e2 | e2
    · exact .inr (.inl ⟨e, e2⟩)
    · exact .inr (.inr ⟨e2, by omega⟩)

theorem MI.awake (h : MI K ρ M gs x f) : ∀ g ∈ gs, awake g := by
  intro g hg
  obtain ⟨i, hi, rfl⟩ := Array.mem_iff_getElem.1 hg
  have e := Array.getElem?_eq_getElem hi
  rcases h.place hi with rfl | ⟨h1, h2⟩ | hs
  · obtain ⟨a, ha, hs⟩ := h.zero
    rw [e] at ha
    rw [Option.some.inj ha]
    exact hs.awake
  · obtain ⟨g, hg, hs⟩ := h.old i h1 h2
    rw [e] at hg
    rw [Option.some.inj hg]
    exact awake_of (hs.status.elim .inl fun x => .inr (.inr x))
  · obtain ⟨g, hg, hs⟩ := h.work i hs
    rw [e] at hg
    rw [Option.some.inj hg]
    rcases hs with ⟨_, h2, _⟩ | ⟨_, hs⟩
    · exact awake_of (.inl h2)
    · exact awake_of (hs.status.elim .inl fun x => .inr (.inr x))

theorem cnt_pos (h : 1 ≤ cnt K x) : ∃ k, Started K.toCfg x.num k ∧ 5 ≤ x.stg k := by
  have key : ∀ (j : Nat) (φ : Nat → Nat), 1 ≤ sumTo j φ → ∃ i, i < j ∧ 1 ≤ φ i := by
    intro j φ
    induction j with
    | zero => intro h; simp [sumTo] at h
    | succ j ih =>
      intro h
      simp only [sumTo] at h
      by_cases hj : 1 ≤ φ j
      · exact ⟨j, by omega, hj⟩
      · obtain ⟨i, hi, hp⟩ := ih (by omega)
        exact ⟨i, by omega, hp⟩
  obtain ⟨i, hi, hp⟩ := key _ _ h
  refine ⟨K.c + i, ⟨by omega, by omega⟩, ?_⟩
  by_cases e : 5 ≤ x.stg (K.c + i)
  · exact e
  · simp only [if_neg e] at hp; omega

/-- Somebody can go on. -/
theorem MI.alive (h : MI K ρ M gs x f) : ∃ (i : Nat) (g : Goroutine), gs[i]? = some g ∧ g.status = .running := by
  obtain ⟨a, ha, hs⟩ := h.zero
  rcases hs with ⟨hr, _⟩ | ⟨n, g, rfl, _, _, _, _, ht⟩
  · exact ⟨0, a, ha, hr⟩
  · have hg := h.inv.grp
    have : ∃ k, Started K.toCfg x.num k ∧ x.stg k ≠ 1 := by
      rcases ht with e | ⟨L, e⟩
      · simp only [Group, e] at hg
        obtain ⟨k, hk, h5⟩ := cnt_pos hg.2.2
        exact ⟨k, hk, by omega⟩
      · simp only [Group, e] at hg
        exact ⟨L, hg.2.1, by omega⟩
    obtain ⟨k, hk, hne⟩ := this
    obtain ⟨g, hg, hs⟩ := h.work k hk
    rcases hs with ⟨_, h2, _⟩ | ⟨h1, _⟩
    · exact ⟨k, g, hg, h2⟩
    · exact absurd h1 hne

theorem again_of_blocked {g : Goroutine} (w : World) (hr : g.status = .running) (ho : g.offers = none) : ({ g with status := .blocked } : Goroutine).again w = g := by
  obtain ⟨fr, cs, st, dy, off⟩ := g
  simp only at hr ho
  subst hr
  subst ho
  simp [Goroutine.again]

theorem woken_of_running {g g' a : Goroutine} {w' : World} (h : a.status = .running ∨ a.status = .finished) : woken K.P g g' w' a = a := by
  unfold woken
  split
  · exact again_running _ h
  · rfl

/-- A step of number i: what stands behind it. -/
theorem MI.keep (hρ : ρ.i = 0) (h : MI K ρ M gs x f) {i : Nat} {x' : Sx} {g g' : Goroutine} {u : Trace} (hinv : Inv K x') (hnum : x'.num = x.num) (hO : Others K i x x')
    (htr : x'.t = x.t ++ u) (hu : ∀ op ∈ u, op.g = i) (hsema : x'.tag = .sema → x.tag ≠ .sema → mayWake K.P g = true ∧ g'.status = .running) (hi : i < gs.size) (vi : Nat)
    (n0 : i = 0 → Sit0 K ρ M x' vi g') (nO : 0 < i → i < K.c → Gone K x' i vi g') (nW : Started K.toCfg x.num i → SitW K x' i vi g') :
    ∃ f', MI K ρ M ((gs.map (woken K.P g g' x'.w)).setIfInBounds i g') x' f' ∧ f' i = vi ∧ (∀ j, j ≠ i → j ≠ 0 → f' j = f j) ∧ (i ≠ 0 → f' 0 ≤ f 0 + 1) := by
  have hsz : ((gs.map (woken K.P g g' x'.w)).setIfInBounds i g').size = gs.size := by simp
  have self : ((gs.map (woken K.P g g' x'.w)).setIfInBounds i g')[i]? = some g' := by simp [hi]
  have other : ∀ j a, j ≠ i → gs[j]? = some a → ((gs.map (woken K.P g g' x'.w)).setIfInBounds i g')[j]? = some (woken K.P g g' x'.w a) := by
    intro j a hj ha
    rw [Array.getElem?_setIfInBounds_ne (Ne.symm hj), Array.getElem?_map, ha]
    rfl
  have dOf : ∀ j, j ≠ i → Deaf x'.t j = Deaf x.t j := fun j hj => by
    rw [htr]
    exact Deaf_others _ _ _ fun op hop => by rw [hu op hop]; exact Ne.symm hj
  have gone : ∀ j v a, j ≠ i → Gone K x j v a → Gone K x' j v a := fun j v a hj ⟨q, hq, e⟩ => ⟨q, by rw [dOf j hj]; exact hq, e⟩
  have hold : ∀ (f' : Nat → Nat), (∀ j, j ≠ i → j ≠ 0 → f' j = f j) → f' i = vi → ∀ j, 0 < j → j < K.c → ∃ a, ((gs.map (woken K.P g g' x'.w)).setIfInBounds i g')[j]? = some a ∧ Gone K x' j (f' j) a := by
    intro f' hf hfi j hj hjc
    by_cases e : j = i
    · subst e; exact ⟨g', self, by rw [hfi]; exact nO hj hjc⟩
    · obtain ⟨a, ha, hs⟩ := h.old j hj hjc
      refine ⟨_, other j a e ha, ?_⟩
      rw [woken_of_running hs.status, hf j e (by omega)]
      exact gone j _ _ e hs
  have hwork : ∀ (f' : Nat → Nat), (∀ j, j ≠ i → j ≠ 0 → f' j = f j) → f' i = vi → ∀ k, Started K.toCfg x'.num k → ∃ a, ((gs.map (woken K.P g g' x'.w)).setIfInBounds i g')[k]? = some a ∧ SitW K x' k (f' k) a := by
    intro f' hf hfi k hk
    rw [hnum] at hk
    have h0 : k ≠ 0 := by have := hk.1; have := K.one; omega
    by_cases e : k = i
    · subst e; exact ⟨g', self, by rw [hfi]; exact nW hk⟩
    · obtain ⟨a, ha, hs⟩ := h.work k hk
      have hR := hO k e (.inr hk)
      refine ⟨_, other k a e ha, ?_⟩
      rw [hf k e h0]
      rcases hs with ⟨h1, h2, m, hm, e2⟩ | ⟨h1, hs⟩
      · rw [woken_of_running (.inl h2)]
        exact .inl ⟨by rw [hR.stg]; exact h1, h2, m, hm.rely hR, e2⟩
      · rw [woken_of_running hs.status]
        exact .inr ⟨by rw [hR.stg]; exact h1, gone k _ _ e hs⟩
  by_cases hi0 : i = 0
  · subst hi0
    exact ⟨upd f 0 vi, ⟨hinv, by rw [hsz, h.size, hnum], ⟨g', self, by rw [upd_same]; exact n0 rfl⟩, hold _ (fun j hj _ => upd_ne f vi hj) (upd_same ..), hwork _ (fun j hj _ => upd_ne f vi hj) (upd_same ..)⟩, upd_same .., fun j hj _ => upd_ne f vi hj, fun hx => absurd rfl hx⟩
  · obtain ⟨a, ha, hs⟩ := h.zero
    have hR := hO 0 (Ne.symm hi0) (.inl rfl)
    have : ∃ v0, Sit0 K ρ M x' v0 (woken K.P g g' x'.w a) ∧ v0 ≤ f 0 + 1 := by
      rcases hs with ⟨hr, n, hg, e⟩ | ⟨n, g0, rfl, e2, e3, hg, e4, e5⟩
      · exact ⟨f 0, by rw [woken_of_running (.inl hr)]; exact .inl ⟨hr, n, hg.rely (by rw [hρ]; exact hR), e⟩, by omega⟩
      · by_cases hw : (mayWake K.P g && g'.status != .blocked && g'.status != .waiting) = true
        · refine ⟨n * M + 1, ?_, by omega⟩
          have : woken K.P g g' x'.w { g0 with status := .blocked } = g0 := by
            unfold woken
            rw [if_pos hw]
            exact again_of_blocked _ e3 e2
          rw [this]
          exact .inl ⟨e3, n, hg.rely (by rw [hρ]; exact hR), rfl⟩
        · refine ⟨n * M, ?_, by omega⟩
          have e6 : woken K.P g g' x'.w { g0 with status := .blocked } = { g0 with status := .blocked } := by
            unfold woken
            rw [if_neg hw]
          rw [e6]
          refine .inr ⟨n, g0, rfl, e2, e3, hg.rely (by rw [hρ]; exact hR), rfl, ?_⟩
          have ht := (hR.tag rfl).1
          have hns : x.tag ≠ .sema := by
            rcases e5 with e | ⟨L, e⟩ <;> rw [e] <;> intro hx <;> cases hx
          have fin : x'.tag = .sema → False := fun hx => by
            obtain ⟨hm, hst⟩ := hsema hx hns
            apply hw
            rw [hm, hst]
            rfl
          rcases e5 with e | ⟨L, e⟩
          · rw [e] at ht
            simp only [TagR] at ht
            rcases ht with ht | ht | ht
            · exact .inl ht
            · exact .inr ht
            · exact (fin ht).elim
          · rw [e] at ht
            simp only [TagR] at ht
            rcases ht with ht | ht
            · exact .inr ht
            · exact (fin ht).elim
    obtain ⟨v0, hS, hv⟩ := this
    have hff : ∀ j, j ≠ i → j ≠ 0 → upd (upd f i vi) 0 v0 j = f j := fun j hj hj0 => by rw [upd_ne _ _ hj0, upd_ne _ _ hj]
    have hfi : upd (upd f i vi) 0 v0 i = vi := by rw [upd_ne _ _ hi0, upd_same]
    refine ⟨upd (upd f i vi) 0 v0, ⟨hinv, by rw [hsz, h.size, hnum], ⟨_, other 0 a (Ne.symm hi0) ha, by rw [upd_same]; exact hS⟩, hold _ hff hfi, hwork _ hff hfi⟩, hfi, hff, fun _ => by rw [upd_same]; exact hv⟩

theorem sum_less {f f' : Nat → Nat} {i n : Nat} (hi : i < n) (hn : 0 < n) (hoth : ∀ j, j ≠ i → j ≠ 0 → f' j = f j) (h0 : i ≠ 0 → f' 0 ≤ f 0 + 1) (hv : if i = 0 then f' i < f i else f' i + 2 ≤ f i) : sumTo n f' < sumTo n f := by
  have e : ∀ j, f' j = upd (upd f i (f' i)) 0 (f' 0) j := by
    intro j
    by_cases hj0 : j = 0
    · subst hj0; rw [upd_same]
    · rw [upd_ne _ _ hj0]
      by_cases hj : j = i
      · subst hj; rw [upd_same]
      · rw [upd_ne _ _ hj]; exact hoth j hj hj0
  have e1 : sumTo n f' = sumTo n (upd (upd f i (f' i)) 0 (f' 0)) := by congr 1; funext j; exact e j
  have s1 := sumTo_upd f (f' i) id hi
  have s2 := sumTo_upd (upd f i (f' i)) (f' 0) id hn
  simp only [id] at s1 s2
  have s3 : sumTo n (fun a => upd (upd f i (f' i)) 0 (f' 0) a) = sumTo n f' := e1.symm
  rw [s3] at s2
  by_cases hi0 : i = 0
  · subst hi0
    rw [upd_same] at s2
    simp only [if_true] at hv
    have : sumTo n (fun a => upd f 0 (f' 0) a) = sumTo n (upd f 0 (f' 0)) := rfl
    have : sumTo n (fun a => f a) = sumTo n f := rfl
    omega
  · simp only [if_neg hi0] at hv
    have h0' := h0 hi0
    rw [upd_ne f (f' i) (Ne.symm hi0)] at s2
    have : sumTo n (fun a => upd f i (f' i) a) = sumTo n (upd f i (f' i)) := rfl
    have : sumTo n (fun a => f a) = sumTo n f := rfl
    omega

theorem sum_pos {f : Nat → Nat} : ∀ {n i : Nat}, i < n → f i ≤ sumTo n f := fun h => le_sumTo h

theorem act_of_mute {e : Event} (h : e.mute = true) : MemAct.ofEvent e = .mark .disable ∨ MemAct.ofEvent e = .mark .enable := by
  obtain ⟨loc, wr, sy⟩ := e
  cases loc <;> simp_all [Event.mute]
  rename_i m
  cases m <;> simp_all [MemAct.ofEvent]

/-- A leaver's step turns nothing. -/
theorem Inv.slip (h : Inv K x) {i : Nat} (hi : i < x.num) {fn : FuncId} {pos : String} {es : Array Event} (hm : ∀ e ∈ es, e.mute = true) : Inv K { x with t := x.t ++ MemOp.ofEvents i fn pos es } := by
  have hu : ∀ op ∈ MemOp.ofEvents i fn pos es, op.g = i ∧ op.act.touch? = none ∧ op.act.low x.w.heap.size ∧ op.act ≠ .mark (.release (stA K.Wg)) := by
    intro op hop
    obtain ⟨e, he, rfl⟩ := mem_evs hop
    refine ⟨rfl, touch_mute (hm e he), low_mute (hm e he) _, fun hr => ?_⟩
    rcases act_of_mute (hm e he) with h1 | h1 <;> (simp only at hr; rw [h1] at hr; cases hr)
  have relApp : ∀ k r, RelB K.Wg x.t k r → RelB K.Wg (x.t ++ MemOp.ofEvents i fn pos es) k r := fun k r hr => hr.app fun j hj hg a ha => by
    obtain ⟨y, hy, hya⟩ := touch_of ha
    rcases getElem?_append_cases hy with ⟨hl, _⟩ | ⟨_, hyu⟩
    · omega
    · rw [(hu y hyu).2.1] at hya; cases hya
  refine ⟨h.ti.appMute hi hu, h.tape, h.os, h.output, h.size, h.low, h.lcls, h.most, fun k hk hs => ?_, h.grp, h.cls, fun e => (h.acq e).app fun k r _ hr => relApp k r hr, h.owner, h.gifted⟩
  obtain ⟨⟨r, hr⟩, hv⟩ := h.rel k hk hs
  exact ⟨⟨r, relApp k r hr⟩, hv⟩

theorem Others.slip {i : Nat} {fn : FuncId} {pos : String} {es : Array Event} : Others K i x { x with t := x.t ++ MemOp.ofEvents i fn pos es } := fun j hj _ =>
  ⟨Nat.le_refl _, fun _ h _ => ⟨rfl, h⟩, fun _ _ h _ _ => ⟨rfl, h⟩, fun cs e f h => ⟨cs, h, rfl, fun _ _ => rfl⟩, ⟨⟨_, rfl⟩, Deaf_others _ _ _ fun op hop => by rw [evs_g op hop]; exact Ne.symm hj⟩, rfl, Nat.le_refl _, fun _ => rfl, fun _ _ => ⟨rfl, rfl⟩, fun _ => ⟨TagR.refl _, Nat.le_refl _⟩, id⟩

/-- ONE STEP OF THE MACHINE: goroutine 0 is at its stop, or all goes on and something is less. -/
theorem MI.step (hρ : ρ.i = 0) (hM1 : 1 ≤ M) (hC : ∀ k g x, ρ.Child k g x → ∃ m, 2 * m + 3 ≤ M ∧ GoX K (worker k) m g x) (h : MI K ρ M gs x f) (sl : Option (Nat × Nat)) :
    (∃ a, gs[0]? = some a ∧ ρ.Stop a x) ∨
    ∃ gs' x' f' sl' ops, stepT K.P (crowd gs x.w sl) = (.next (crowd gs' x'.w sl'), ops) ∧ x'.t = x.t ++ ops ∧ MI K ρ M gs' x' f' ∧ sumTo gs'.size f' < sumTo gs.size f := by
  obtain ⟨i, g, d, sl', hi, hrun, hst⟩ := crowd_pick (P := K.P) (w := x.w) (sl := sl) h.awake h.alive
  have hlt : i < gs.size := (Array.getElem?_eq_some_iff.1 hi).1
  have hd := h.at hρ d
  have hpos : 0 < gs.size := by omega
  have h1c := K.one
  have leave : ∀ {v : Nat}, i ≠ 0 → Gone K (x.at d) i v g → f i = v → (∀ hW : Started K.toCfg x.num i, x.stg i = 1) →
      ∃ gs' x' f' sl' ops, stepT K.P (crowd gs x.w sl) = (.next (crowd gs' x'.w sl'), ops) ∧ x'.t = x.t ++ ops ∧ MI K ρ M gs' x' f' ∧ sumTo gs'.size f' < sumTo gs.size f := by
    intro v hi0 hgone hfi hstg
    obtain ⟨q, hq, hv⟩ := hgone
    cases q with
    | zero => rw [hq.1] at hrun; cases hrun
    | succ k =>
      rcases hq with ⟨hf, _⟩ | ⟨_, g', es, hm, hstp, hq'⟩
      · rw [hf] at hrun; cases hrun
      have hib : (i == 0) = false := by simp; omega
      have hrunT := runT_crowd_go (P := K.P) (sl := sl') (i := i) hi (by rw [hib]; exact hstp (x.w.at d))
      have hil : i < (x.at d).num := by have := h.size; show i < x.num; omega
      have hgone' : Gone K { x.at d with t := x.t ++ MemOp.ofEvents i g.frame.fn g.frame.place es } i (2 * k) g' := ⟨k, by
        show QuitsD K.P k (Deaf (x.t ++ MemOp.ofEvents i g.frame.fn g.frame.place es) i) g'
        rw [Deaf_own]; exact hq', rfl⟩
      obtain ⟨f', hM, hf0, hfo, hfz⟩ := hd.keep hρ (x' := { x.at d with t := x.t ++ MemOp.ofEvents i g.frame.fn g.frame.place es }) (g := g) (g' := g') (u := MemOp.ofEvents i g.frame.fn g.frame.place es)
        (hd.inv.slip hil hm) rfl Others.slip rfl evs_g (fun e1 e2 => absurd e1 e2) hlt (2 * k)
        (fun y => absurd y hi0) (fun _ _ => hgone') (fun hW => .inr ⟨hstg hW, hgone'⟩)
      refine ⟨_, { x.at d with t := x.t ++ MemOp.ofEvents i g.frame.fn g.frame.place es }, f', sl', _, hst.trans hrunT, rfl, hM, ?_⟩
      have hsz : ((gs.map (woken K.P g g' (x.w.at d))).setIfInBounds i g').size = gs.size := by simp
      show sumTo ((gs.map (woken K.P g g' (x.w.at d))).setIfInBounds i g').size f' < _
      rw [hsz]
      refine sum_less hlt hpos hfo hfz ?_
      rw [if_neg hi0, hf0]
      omega
  rcases h.place hlt with rfl | ⟨h1, h2⟩ | hs
  · -- goroutine 0
    obtain ⟨a, ha, hz⟩ := hd.zero
    obtain rfl : g = a := by rw [hi] at ha; exact Option.some.inj ha
    rcases hz with ⟨_, n, hg, e⟩ | ⟨n, g0, rfl, _⟩
    · have cases2 : (∀ y, R K ρ.i (x.at d) y → Inv K y → ρ.Stop g y) ∨ ∃ n', n = n' + 1 ∧ ∀ y, R K ρ.i (x.at d) y → Inv K y → Move K ρ n' g y (GoX K ρ n') := by
        cases n with
        | zero => exact .inl hg
        | succ n' => exact hg.imp id fun y => ⟨n', rfl, y.2⟩
      rcases cases2 with hstop' | ⟨n', rfl, hmv⟩
      · have hback : R K ρ.i (x.at d) x := ⟨Nat.le_refl _, fun _ h _ => ⟨rfl, h⟩, fun _ _ h _ _ => ⟨rfl, h⟩, fun cs e f h => ⟨cs, h, rfl, fun _ _ => rfl⟩, ⟨⟨#[], by simp [Sx.at]⟩, rfl⟩, rfl, Nat.le_refl _, fun _ => rfl, fun _ _ => ⟨rfl, rfl⟩, fun _ => ⟨TagR.refl _, Nat.le_refl _⟩, id⟩
        exact .inl ⟨g, hi, hstop' x hback h.inv⟩
      · have hMM : (n' + 1) * M = n' * M + M := Nat.succ_mul ..
        rcases hmv (x.at d) (R.refl ..) hd.inv with ⟨g', w', es, x', hw⟩ | ⟨hb, ho, _, htag⟩ | ⟨g', child, w', x', hsp⟩
        · have hgo : stepG K.P ((0 : Nat) == 0) g (x.w.at d) = .go g' x'.w es := by have := hw.st; rw [hρ] at this; rw [hw.w]; exact this
          have hrunT := runT_crowd_go (P := K.P) (sl := sl') (i := 0) hi hgo
          obtain ⟨f', hM, hf0, hfo, hfz⟩ := hd.keep hρ (x' := x') (g := g) (g' := g') (u := MemOp.ofEvents 0 g.frame.fn g.frame.place es) hw.inv hw.num (by have := hw.oth; rwa [hρ] at this)
            (by have := hw.t; rw [hρ] at this; exact this) evs_g (fun e1 e2 => ⟨hw.wake e1 e2, hw.run⟩) hlt (n' * M + 1)
            (fun _ => .inl ⟨hw.run, n', (by rcases hw.next with y | y; exact y.1; exact absurd hρ y.1), rfl⟩) (fun y _ => absurd y (by omega)) (fun y => absurd y.1 (by omega))
          refine .inr ⟨_, x', f', sl', _, hst.trans hrunT, (by have := hw.t; rw [hρ] at this; exact this), hM, ?_⟩
          have hsz : ((gs.map (woken K.P g g' x'.w)).setIfInBounds 0 g').size = gs.size := by simp
          rw [hsz]
          refine sum_less hlt hpos hfo hfz ?_
          simp only [if_true]
          rw [hf0, e]
          omega
        · have hgo : stepG K.P ((0 : Nat) == 0) g (x.w.at d) = .go { g with status := .blocked } (x.at d).w #[] := by rw [hρ] at hb; exact hb
          have hrunT := runT_crowd_go (P := K.P) (sl := sl') (i := 0) hi hgo
          obtain ⟨f', hM, hf0, hfo, hfz⟩ := hd.keep hρ (x' := x.at d) (g := g) (g' := { g with status := .blocked }) (u := MemOp.ofEvents 0 g.frame.fn g.frame.place #[]) hd.inv rfl (fun j _ _ => R.refl ..)
            (by simp [Sx.at, MemOp.ofEvents]) evs_g (fun e1 e2 => absurd e1 e2) hlt ((n' + 1) * M)
            (fun _ => .inr ⟨n' + 1, g, rfl, ho, hrun, hg, rfl, htag⟩) (fun y _ => absurd y (by omega)) (fun y => absurd y.1 (by omega))
          refine .inr ⟨_, x.at d, f', sl', _, hst.trans hrunT, by simp [Sx.at, MemOp.ofEvents], hM, ?_⟩
          have hsz : ((gs.map (woken K.P g { g with status := .blocked } (x.at d).w)).setIfInBounds 0 { g with status := .blocked }).size = gs.size := by simp
          rw [hsz]
          refine sum_less hlt hpos hfo hfz ?_
          simp only [if_true]
          rw [hf0, e]
          omega
        · -- a worker is born
          have hgo : stepG K.P ((0 : Nat) == 0) g (x.w.at d) = .spawn g' child x'.w #[] := by have := hsp.st; rw [hρ] at this; rw [hsp.w]; exact this
          have hrunT := runT_crowd_spawn (P := K.P) (sl := sl') (i := 0) hi hgo
          have hnum : (x.at d).num = gs.size := h.size.symm
          have hops : (((MemOp.ofEvents 0 g.frame.fn g.frame.place #[]).push { g := 0, fn := g.frame.fn, pos := g.frame.place, act := .go gs.size }).push { g := gs.size, fn := child.frame.fn, pos := g.frame.place, act := .start }) =
              #[{ g := 0, fn := g.frame.fn, pos := g.frame.place, act := .go (x.at d).num }, { g := (x.at d).num, fn := child.frame.fn, pos := g.frame.place, act := .start }] := by
            rw [hnum]; simp [MemOp.ofEvents]
          obtain ⟨m, hm, hchild⟩ := hC _ _ _ hsp.child
          have hsz : ((gs.setIfInBounds 0 g').push child).size = gs.size + 1 := by simp
          have get0 : ((gs.setIfInBounds 0 g').push child)[0]? = some g' := by
            rw [Array.getElem?_push_lt (by simpa using hpos)]
            simp [hpos]
          have getJ : ∀ j a, j ≠ 0 → gs[j]? = some a → ((gs.setIfInBounds 0 g').push child)[j]? = some a := by
            intro j a hj ha
            have hjl : j < gs.size := (Array.getElem?_eq_some_iff.1 ha).1
            rw [Array.getElem?_push, if_neg (by simp; omega), Array.getElem?_setIfInBounds_ne (Ne.symm hj)]
            exact ha
          have getN : ((gs.setIfInBounds 0 g').push child)[gs.size]? = some child := by
            rw [Array.getElem?_push, if_pos (by simp)]
          have dOf : ∀ j, j ≠ 0 → j < gs.size → Deaf x'.t j = Deaf x.t j := fun j hj hjl => by
            rw [hsp.t]
            refine Deaf_others _ _ _ fun op hop => ?_
            simp only [List.mem_toArray, List.mem_cons, List.not_mem_nil, or_false] at hop
            rcases hop with rfl | rfl
            · exact Ne.symm hj
            · show (x.at d).num ≠ j
              rw [hnum]; omega
          refine .inr ⟨_, x', upd (upd f 0 (n' * M + 1)) gs.size (2 * m + 2), sl', _, hst.trans hrunT, by rw [hops]; exact hsp.t, ⟨hsp.inv, by rw [hsz, hsp.num, hnum], ⟨g', get0, ?_⟩, fun j hj hjc => ?_, fun k hk => ?_⟩, ?_⟩
          · rw [upd_ne _ _ (by omega), upd_same]
            exact .inl ⟨hsp.run, n', hsp.next, rfl⟩
          · obtain ⟨a, ha, hs⟩ := h.old j hj hjc
            have hjl : j < gs.size := (Array.getElem?_eq_some_iff.1 ha).1
            refine ⟨a, getJ j a (by omega) ha, ?_⟩
            rw [upd_ne _ _ (by omega), upd_ne _ _ (by omega)]
            obtain ⟨q, hq, e2⟩ := hs
            exact ⟨q, by rw [dOf j (by omega) hjl]; exact hq, e2⟩
          · by_cases hk' : k = gs.size
            · subst hk'
              refine ⟨child, getN, ?_⟩
              rw [upd_same]
              have := hsp.stg
              rw [hnum] at this hchild
              exact .inl ⟨this, hsp.crun, m, hchild, rfl⟩
            · have hk2 : Started K.toCfg x.num k := ⟨hk.1, by have := hk.2; rw [hsp.num] at this; have := h.size; have : (x.at d).num = x.num := rfl; omega⟩
              obtain ⟨a, ha, hs⟩ := h.work k hk2
              have hkl : k < gs.size := (Array.getElem?_eq_some_iff.1 ha).1
              have hk0 : k ≠ 0 := by have := hk.1; omega
              have hR := hsp.oth k hk0 (.inr hk2)
              have hR' : R K k x x' := (R.at K k x d).trans hR
              refine ⟨a, getJ k a hk0 ha, ?_⟩
              rw [upd_ne _ _ hk', upd_ne _ _ hk0]
              rcases hs with ⟨h3, h4, m', hm', e2⟩ | ⟨h3, q, hq, e2⟩
              · exact .inl ⟨by rw [hR'.stg]; exact h3, h4, m', hm'.rely hR', e2⟩
              · exact .inr ⟨by rw [hR'.stg]; exact h3, q, by rw [dOf k hk0 hkl]; exact hq, e2⟩
          · rw [hsz]
            simp only [sumTo, upd_same]
            have s1 := sumTo_upd f (n' * M + 1) id hpos
            have s2 : sumTo gs.size (upd (upd f 0 (n' * M + 1)) gs.size (2 * m + 2)) = sumTo gs.size (upd f 0 (n' * M + 1)) :=
              Go.ConcN.sumTo_congr fun a ha => upd_ne _ _ (by omega)
            have s3 : sumTo gs.size (fun a => id (upd f 0 (n' * M + 1) a)) = sumTo gs.size (upd f 0 (n' * M + 1)) := rfl
            have s4 : sumTo gs.size (fun a => id (f a)) = sumTo gs.size f := rfl
            rw [s3, s4] at s1
            simp only [id] at s1
            rw [s2]
            omega
    · cases hrun
  · obtain ⟨g2, hg2, hs⟩ := h.old i h1 h2
    obtain rfl : g = g2 := by rw [hi] at hg2; exact Option.some.inj hg2
    exact .inr (leave (by omega) hs rfl fun hW => absurd hW.1 (by omega))
  · obtain ⟨g2, hg2, hs'⟩ := hd.work i hs
    obtain rfl : g = g2 := by rw [hi] at hg2; exact Option.some.inj hg2
    have hi0 : i ≠ 0 := by have := hs.1; omega
    have hib : (i == 0) = false := by simp; omega
    rcases hs' with ⟨hne, _, m, hg, e⟩ | ⟨h1, hs'⟩
    · have cases2 : ∃ m', m = m' + 1 ∧ ∀ y, R K i (x.at d) y → Inv K y → Move K (worker i) m' g y (GoX K (worker i) m') := by
        cases m with
        | zero => exact (hg _ (R.refl ..) hd.inv).elim
        | succ m' =>
          rcases hg with hg | hg
          · exact (hg _ (R.refl ..) hd.inv).elim
          · exact ⟨m', rfl, hg.2⟩
      obtain ⟨m', rfl, hmv⟩ := cases2
      rcases hmv (x.at d) (R.refl ..) hd.inv with ⟨g', w', es, x', hw⟩ | ⟨_, _, hz, _⟩ | ⟨g', child, w', x', hsp⟩
      · have hgo : stepG K.P (i == 0) g (x.w.at d) = .go g' x'.w es := by have := hw.st; rw [hw.w]; exact this
        have hrunT := runT_crowd_go (P := K.P) (sl := sl') (i := i) hi hgo
        have hor : ∃ v, v + 2 ≤ f i ∧ SitW K x' i v g' := by
          rcases hw.next with ⟨y, z⟩ | ⟨_, y, z⟩
          · exact ⟨2 * m' + 2, by omega, .inl ⟨z.resolve_left hi0, hw.run, m', y, rfl⟩⟩
          · exact ⟨2 * m', by omega, .inr ⟨y, m', z, rfl⟩⟩
        obtain ⟨v, hv, hSW⟩ := hor
        obtain ⟨f', hM, hf0, hfo, hfz⟩ := hd.keep (i := i) hρ (x' := x') (g := g) (g' := g') (u := MemOp.ofEvents i g.frame.fn g.frame.place es) hw.inv hw.num hw.oth hw.t evs_g (fun e1 e2 => ⟨hw.wake e1 e2, hw.run⟩) hlt v
          (fun y => absurd y hi0) (fun _ y => absurd hs.1 (by omega)) (fun _ => hSW)
        refine .inr ⟨_, x', f', sl', _, hst.trans hrunT, hw.t, hM, ?_⟩
        have hsz : ((gs.map (woken K.P g g' x'.w)).setIfInBounds i g').size = gs.size := by simp
        rw [hsz]
        refine sum_less hlt hpos hfo hfz ?_
        rw [if_neg hi0, hf0]
        exact hv
      · exact absurd hz hi0
      · exact absurd hsp.zero hi0
    · exact .inr (leave hi0 hs' rfl fun _ => h1)

/-- TO THE STOP. -/
theorem MI.run (hρ : ρ.i = 0) (hM1 : 1 ≤ M) (hC : ∀ k g x, ρ.Child k g x → ∃ m, 2 * m + 3 ≤ M ∧ GoX K (worker k) m g x) :
    ∀ (μ : Nat) (gs : Array Goroutine) (x : Sx) (f : Nat → Nat) (sl : Option (Nat × Nat)), MI K ρ M gs x f → sumTo gs.size f ≤ μ →
      ∃ N gs' sl' x' f' a, runNT K.P N (crowd gs x.w sl) x.t = (.next (crowd gs' x'.w sl'), x'.t) ∧ MI K ρ M gs' x' f' ∧ gs'[0]? = some a ∧ ρ.Stop a x' := by
  intro μ
  induction μ with
  | zero =>
    intro gs x f sl h hμ
    rcases h.step hρ hM1 hC sl with ⟨a, ha, hs⟩ | ⟨gs', x', f', sl', ops, _, _, _, hl⟩
    · exact ⟨0, gs, sl, x, f, a, rfl, h, ha, hs⟩
    · omega
  | succ μ ih =>
    intro gs x f sl h hμ
    rcases h.step hρ hM1 hC sl with ⟨a, ha, hs⟩ | ⟨gs', x', f', sl', ops, hst, ht, hM, hl⟩
    · exact ⟨0, gs, sl, x, f, a, rfl, h, ha, hs⟩
    · obtain ⟨N, gs2, sl2, x2, f2, a, hr, hM2, ha, hs⟩ := ih gs' x' f' sl' hM (by omega)
      exact ⟨N + 1, gs2, sl2, x2, f2, a, by rw [runNT_succ_next hst, ← ht]; exact hr, hM2, ha, hs⟩
end
end Go.Crew
