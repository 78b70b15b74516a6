/- The group's protocol: what a step on the group's cells does to what is held of all. -/
import Derived.Test.YtplmgbffaeohpaaCoF
import Derived.Conc.WgGenN3
set_option linter.unusedSimpArgs false
set_option linter.unusedVariables false
namespace Go.Crew
open Go.Conc
open Go.ConcN (fork_knows sumTo upd sumTo_upd upd_ne upd_same sumTo_congr le_sumTo)
open Go.ConcR (stA smA WgAt KK rd wr mk wgBlock)
open Go.ConcN (WgLive)

section
variable {K : Crew} {i : Nat} {x : Sx}

/-- What a step on the group's block alone asks and gives. -/
theorem own_proto (h : Inv K x) (hi : i = 0 ∨ Started K.toCfg x.num i) (x' : Sx) {fn : FuncId} {pos : String} {es : Array Event} {o : Obj}
    (hp : x.tag ≠ .pre) (hp' : x'.tag ≠ .pre)
    (hw : x'.w = x.w ∨ x'.w = setBlk x.w K.Wg o) (ht : x'.t = x.t ++ MemOp.ofEvents i fn pos es) (hc : x'.cls = x.cls) (hn : x'.num = x.num) (hs : ∀ k, k ≠ i → x'.stg k = x.stg k)
    (hes : ∀ op ∈ MemOp.ofEvents i fn pos es, Add1 K.toCfg x.w.heap.size x.cls x.num i op) (hg : Group K x')
    (hri : Started K.toCfg x.num i → x'.stg i ≤ 6 → (∃ r, RelB K.Wg x'.t i r) ∧ ∀ o, K.own i o → x.w.cell? ⟨K.C, o, none⟩ = some (K.val o))
    (hacq : x'.tag = .done → AcqAll K.toCfg x'.t x'.num) (h0 : i ≠ 0 → TagR x.tag x'.tag ∧ cnt K x' ≤ cnt K x) : Inv K x' ∧ Others K i x x' := by
  obtain ⟨c1, c2, c3⟩ := h.cls hp
  have hne : K.C ≠ K.Wg := fun e => by rw [e, c1] at c2; cases c2
  have hsz : x'.w.heap.size = x.w.heap.size := by rcases hw with e | e <;> rw [e]; exact setBlk_size ..
  have hblk : ∀ b, b ≠ K.Wg → x'.w.heap[b]? = x.w.heap[b]? := fun b hb => by rcases hw with e | e <;> rw [e]; exact setBlk_ne hb
  have hoth : x'.w.tape = x.w.tape ∧ x'.w.os = x.w.os ∧ x'.w.output = x.w.output := by rcases hw with e | e <;> rw [e] <;> exact ⟨rfl, rfl, rfl⟩
  have hWg : ∀ b, x.cls b ≠ .grp → b ≠ K.Wg := fun b hb e => hb (by rw [e]; exact c1)
  refine ⟨⟨?_, hoth.1.trans h.tape, hoth.2.1.trans h.os, hoth.2.2.trans h.output, by rw [hsz]; exact h.size, fun b hb => ?_, fun b hb => ?_, by rw [hn]; exact h.most, fun k hk hs6 => ?_, hg, fun _ => by rw [hc, hsz]; exact ⟨c1, c2, c3⟩, hacq, fun b g hb => ?_, fun b k hb => ?_⟩, fun j hj hjs => ?_⟩
  · rw [ht, hsz, hc, hn]; exact h.ti.app hi hes
  · rw [hblk b fun e => ?_]; exact h.low b hb
    rcases h.lcls b hb with ⟨_, y⟩ | ⟨_, y⟩ <;> rw [e, c1] at y <;> cases y
  · rw [hc]; exact h.lcls b hb
  · rw [hn] at hk
    have hcell : ∀ o, x'.w.cell? ⟨K.C, o, none⟩ = x.w.cell? ⟨K.C, o, none⟩ := fun o => by
      unfold World.cell?
      simp only
      rw [hblk _ hne]
    by_cases e : k = i
    · subst e
      obtain ⟨a1, a2⟩ := hri hk hs6
      exact ⟨a1, fun o ho => (hcell o).trans (a2 o ho)⟩
    · rw [hs k e] at hs6
      obtain ⟨⟨r, hr⟩, hv⟩ := h.rel k hk hs6
      exact ⟨⟨r, by rw [ht]; exact hr.other (Ne.symm e) evs_g⟩, fun o ho => (hcell o).trans (hv o ho)⟩
  · rw [hc] at hb; rw [hn]; exact h.owner b g hb
  · rw [hc] at hb; rw [hn]; exact h.gifted b k hb
  · refine ⟨by omega, fun b hb _ => ⟨hblk b (hWg b (by rw [hb]; simp)), by rw [hc]; exact hb⟩, fun b k hb _ _ => ⟨hblk b (hWg b (by rw [hb]; simp)), by rw [hc]; exact hb⟩, fun cs e f hcs => ⟨cs, (hblk _ hne).trans hcs, rfl, fun _ _ => rfl⟩,
      ⟨⟨_, ht⟩, by rw [ht]; exact Deaf_others _ _ _ fun op hop => by rw [evs_g op hop]; exact Ne.symm hj⟩, hs j hj, by omega, fun _ => hn, fun e hl => ?_, fun e => h0 (by omega), fun _ => hp'⟩
    exfalso
    rcases hi with hi | hi
    · exact hj (e.trans hi.symm)
    · have := hi.1; have := hi.2; omega

/-- The events of the protocol. -/
theorem add1_mark (m : Mark) (h : m = .disable ∨ m = .enable ∨ (∃ a, (m = .releaseMerge a ∨ m = .acquire a) ∧ a.block < x.w.heap.size)) {fn : FuncId} {pos : String} : ∀ op ∈ MemOp.ofEvents i fn pos #[mk m], Add1 K.toCfg x.w.heap.size x.cls x.num i op := by
  intro op hop
  obtain ⟨e, he, rfl⟩ := mem_evs hop
  simp only [List.mem_toArray, List.mem_singleton] at he
  subst he
  rcases h with rfl | rfl | ⟨a, h, ha⟩
  · exact ⟨rfl, fun b hb => by simp [mk, MemAct.ofEvent, MemAct.touch?] at hb, trivial, by simp [mk, MemAct.ofEvent]⟩
  · exact ⟨rfl, fun b hb => by simp [mk, MemAct.ofEvent, MemAct.touch?] at hb, trivial, by simp [mk, MemAct.ofEvent]⟩
  · rcases h with rfl | rfl
    · exact ⟨rfl, fun b hb => by simp [mk, MemAct.ofEvent, MemAct.touch?] at hb, ha, by simp [mk, MemAct.ofEvent]⟩
    · exact ⟨rfl, fun b hb => by simp [mk, MemAct.ofEvent, MemAct.touch?] at hb, ha, by simp [mk, MemAct.ofEvent]⟩

theorem add1_atomic {es : Array Event} (hW : x.cls K.Wg = .grp) (hs : K.Wg < x.w.heap.size) (h : ∀ e ∈ es, ∃ a wr, e = ⟨.cell a, wr, true⟩ ∧ a.block = K.Wg) {fn : FuncId} {pos : String} : ∀ op ∈ MemOp.ofEvents i fn pos es, Add1 K.toCfg x.w.heap.size x.cls x.num i op := by
  intro op hop
  obtain ⟨e, he, rfl⟩ := mem_evs hop
  obtain ⟨a, w, rfl, ha⟩ := h e he
  refine ⟨rfl, fun b hb => ?_, ?_, ?_⟩
  · have : b = ⟨.cell a, w, .atomic⟩ := by cases w <;> simpa [MemAct.ofEvent, MemAct.touch?, eq_comm] using hb
    subst this
    refine ⟨a, rfl, ?_⟩
    rw [ha, hW]
    simp
  · cases w <;> (show a.block < _; rw [ha]; exact hs)
  · cases w <;> simp [MemAct.ofEvent]

/-- A release that is said hearing. -/
theorem RelB.fresh {t : Trace} {Wg k : Nat} (hd : Deaf t k = 0) {fn : FuncId} {pos : String} : RelB Wg (t ++ MemOp.ofEvents k fn pos #[Go.ConcR.mk (.releaseMerge (stA Wg))]) k t.size := by
  have e : MemOp.ofEvents k fn pos #[Go.ConcR.mk (.releaseMerge (stA Wg))] = #[{ g := k, fn, pos, act := .mark (.releaseMerge (stA Wg)) }] := by simp [MemOp.ofEvents, Go.ConcR.mk, MemAct.ofEvent]
  rw [e]
  have hx : (t ++ #[({ g := k, fn, pos, act := .mark (.releaseMerge (stA Wg)) } : MemOp)])[t.size]? = some { g := k, fn, pos, act := .mark (.releaseMerge (stA Wg)) } := by rw [Array.getElem?_append_right (Nat.le_refl _)]; simp
  refine ⟨by simp [Trace.act?, hx], by simp [Trace.g?, hx], ⟨k, by simp [Trace.g?, hx], by rw [deaf_old (Nat.le_refl _)]; exact hd⟩, fun j hj hg a ha => ?_⟩
  obtain ⟨y, hy, _⟩ := touch_of ha
  have := lt_size_of_getElem? hy
  simp at this
  omega

/-- What one does behind one's release, deaf: atomic touches of the group, or none. -/
theorem RelB.own {t : Trace} {Wg k r : Nat} (h : RelB Wg t k r) {fn : FuncId} {pos : String} {es : Array Event}
    (hes : (∀ e ∈ es, (MemAct.ofEvent e).touch? = none) ∨ (0 < Deaf t k ∧ ∀ e ∈ es, ∃ a wr, e = ⟨.cell a, wr, true⟩ ∧ a.block = Wg)) : RelB Wg (t ++ MemOp.ofEvents k fn pos es) k r := by
  refine h.app fun j hj hg a ha => ?_
  obtain ⟨y, hy, hya⟩ := touch_of ha
  rcases getElem?_append_cases hy with ⟨hl, _⟩ | ⟨_, hyu⟩
  · omega
  · obtain ⟨e, he, rfl⟩ := mem_evs hyu
    rcases hes with hes | ⟨hd, hes⟩
    · simp only at hya; rw [hes e he] at hya; cases hya
    · obtain ⟨ad, w, rfl, hb⟩ := hes e he
      have hya' : (MemAct.ofEvent ⟨.cell ad, w, true⟩).touch? = some a := hya
      have : a = ⟨.cell ad, w, .atomic⟩ := by cases w <;> simpa [MemAct.ofEvent, MemAct.touch?, eq_comm] using hya'
      subst this
      refine ⟨⟨ad, rfl, hb⟩, rfl, ?_⟩
      rintro ⟨g', hg', hd'⟩
      rw [hg] at hg'
      obtain rfl := Option.some.inj hg'
      have hjl := lt_size_of_getElem? hy
      have hsz : (MemOp.ofEvents k fn pos es).size = es.size := by rw [ofEvents_eq]; simp
      simp only [Array.size_append, hsz] at hjl
      have := deaf_inside t k fn pos es (j - t.size) (by omega)
      rw [show t.size + (j - t.size) = j by omega] at this
      rw [this] at hd'
      have still : ∀ (l : List Event) (d : Nat), (∀ e ∈ l, ∃ a wr, e = (⟨.cell a, wr, true⟩ : Event) ∧ a.block = Wg) → l.foldl (fun d e => match e.loc with | .mark .disable => d + 1 | .mark .enable => d - 1 | _ => d) d = d := by
        intro l
        induction l with
        | nil => intro d _; rfl
        | cons y l ih =>
          intro d hl
          obtain ⟨a, w, rfl, _⟩ := hl y (by simp)
          rw [List.foldl_cons]
          exact ih d fun e he => hl e (by simp [he])
      have : deafBehind (Deaf t k) (es.extract 0 (j - t.size)) = Deaf t k := by
        unfold deafBehind
        rw [← Array.foldl_toList]
        exact still _ _ fun e he => hes e (by
          rw [Array.mem_toList_iff] at he
          obtain ⟨q, hq, hqe⟩ := Array.mem_iff_getElem.1 he
          rw [← hqe, Array.getElem_extract]
          exact Array.getElem_mem _)
      rw [this] at hd'
      omega
end

/-- The stages, one of them turned. -/
def setS (s : Nat → Nat) (i v : Nat) : Nat → Nat := fun k => if k = i then v else s k

section
variable {K : Crew} {i : Nat} {x x' : Sx}
theorem cnt_set {v : Nat} (hn : x'.num = x.num) (hs : x'.stg = setS x.stg i v) (hi : Started K.toCfg x.num i) :
    cnt K x' + (if 5 ≤ x.stg i then 1 else 0) = cnt K x + (if 5 ≤ v then 1 else 0) := by
  unfold cnt
  rw [hn]
  have h1 := hi.1
  have h2 := hi.2
  have := sumTo_upd (j := x.num - K.c) (i := i - K.c) (fun a => if 5 ≤ x.stg (K.c + a) then 1 else 0) (if 5 ≤ v then 1 else 0) id (by omega)
  simp only [id] at this
  rw [show K.c + (i - K.c) = i by omega] at this
  rw [← this]
  congr 1
  refine sumTo_congr fun a ha => ?_
  by_cases e : a = i - K.c
  · subst e
    have e2 : K.c + (i - K.c) = i := by omega
    simp only [upd_same, hs, setS, e2, if_true]
  · have e2 : ¬ (K.c + a = i) := by omega
    rw [upd_ne _ _ e]
    simp only [hs, setS, e2, if_false]
theorem cnt_same (hn : x'.num = x.num) (hs : x'.stg = x.stg) : cnt K x' = cnt K x := by unfold cnt; rw [hn, hs]
theorem cnt_zero (h : Open K x) (hc : cnt K x = 0) : AllGone K x := by
  intro k hk
  have h1 := hk.1
  have h2 := hk.2
  have := le_sumTo (j := x.num - K.c) (i := k - K.c) (f := fun a => if 5 ≤ x.stg (K.c + a) then 1 else 0) (by omega)
  unfold cnt at hc
  rw [hc] at this
  simp only [show K.c + (k - K.c) = k by omega] at this
  rcases h k hk with e | e | e | e
  · rw [e] at this; simp at this
  · rw [e] at this; simp at this
  · rw [e] at this; simp at this
  · exact e
theorem Group.of_busy (h : Group K x) (hi : Started K.toCfg x.num i) (h5 : 5 ≤ x.stg i) : (x.tag = .opn ∧ WgAt K.ty K.Wg x.w ((cnt K x : Nat) * KK) 0 ∧ Open K x) ∨ (x.tag = .pend ∧ WgAt K.ty K.Wg x.w ((cnt K x + 1 : Nat) * KK) 0 ∧ Open K x) ∨ (x.tag = .reg ∧ WgAt K.ty K.Wg x.w ((cnt K x : Nat) * KK + 1) 0 ∧ Open K x ∧ 1 ≤ cnt K x) := by
  unfold Group at h
  cases ht : x.tag with
  | pre => simp only [ht] at h; have := hi.1; have := hi.2; omega
  | opn => simp only [ht] at h; exact .inl ⟨rfl, h⟩
  | pend => simp only [ht] at h; exact .inr (.inl ⟨rfl, h⟩)
  | reg => simp only [ht] at h; exact .inr (.inr ⟨rfl, h⟩)
  | last L =>
    simp only [ht] at h
    by_cases e : i = L
    · subst e; have := h.2.2.1; omega
    · have := h.2.2.2 i hi e; omega
  | sema => simp only [ht] at h; have := h.2 i hi; omega
  | fin => simp only [ht] at h; have := h.2 i hi; omega
  | done => simp only [ht] at h; have := h.2 i hi; omega
theorem Inv.live (h : Inv K x) (hp : x.tag ≠ .pre) : WgLive K.ty K.Wg x.w := by
  obtain ⟨st, sm, hw⟩ := h.grp.wg hp
  exact ⟨st, sm, hw⟩
end

/-! ### Walks that look at nothing, out of the library's words -/
theorem goX_of_goes {K : Crew} {ρ : Role} {m : Nat} {x : Sx} (htag : x.tag ≠ .pre) (hl : ρ.i = 0 ∨ x.stg ρ.i ≠ 1) : ∀ {n : Nat} {g : Goroutine} {w : World},
    Goes K.P (ρ.i == 0) (fun _ w₁ => WgLive K.ty K.Wg w₁) Go.ConcR.DC0 (fun g _ => g.status = .running ∧ GoX K ρ m g x) n g w → GoX K ρ (m + n) g x := by
  intro n
  induction n with
  | zero =>
    intro g w h
    by_cases hx : ∃ x₁, R K ρ.i x x₁ ∧ Inv K x₁
    · obtain ⟨x₁, r, hi⟩ := hx
      exact (h x₁.w (hi.live (r.tagW htag))).2
    · exact GoX.stop fun x₁ r hi => absurd ⟨x₁, r, hi⟩ hx
  | succ n ih =>
    intro g w h
    rcases h with h | ⟨hs, h⟩
    · by_cases hx : ∃ x₁, R K ρ.i x x₁ ∧ Inv K x₁
      · obtain ⟨x₁, r, hi⟩ := hx
        exact (h x₁.w (hi.live (r.tagW htag))).2.mono (by omega)
      · exact GoX.stop fun x₁ r hi => absurd ⟨x₁, r, hi⟩ hx
    · refine .inr ⟨hs, fun x₁ r hi => ?_⟩
      obtain ⟨g', w', es, hgo, ⟨rfl, rfl⟩, hG⟩ := goes_elim (h x₁.w (hi.live (r.tagW htag)))
      have hr' : g'.status = .running := Goes.running (fun _ _ y => y.1) x₁.w (hi.live (r.tagW htag)) hG
      refine .inl ⟨g', x₁.w, #[], x₁, hgo, rfl, by simp [MemOp.ofEvents], rfl, hi, fun j _ _ => R.refl .., fun e1 e2 => absurd e1 e2, hr', .inl ⟨(ih hG).rely r, ?_⟩⟩
      rw [r.stg]
      exact hl
end Go.Crew
