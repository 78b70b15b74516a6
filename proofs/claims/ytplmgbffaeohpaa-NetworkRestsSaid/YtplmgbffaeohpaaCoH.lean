/- The group's protocol: a worker's release, its subtraction, the last one's store and release of the semaphore. -/
import Derived.Test.YtplmgbffaeohpaaCoG
set_option linter.unusedSimpArgs false
set_option linter.unusedVariables false
namespace Go.Crew
open Go.Conc
open Go.ConcN (fork_knows sumTo upd sumTo_upd upd_ne upd_same sumTo_congr le_sumTo)
open Go.ConcR (stA smA WgAt KK rd wr mk wgBlock)
open Go.ConcN (WgLive)

/-- What is kept of memory. -/
structure RT (K : Crew) (i : Nat) (x x₁ : Sx) : Prop where
  size : x.w.heap.size ≤ x₁.w.heap.size
  mine : ∀ c, x.cls c = .mine i → c < x.w.heap.size → x₁.w.heap[c]? = x.w.heap[c]? ∧ x₁.cls c = .mine i
  gift : ∀ c k, x.cls c = .gift k → i = 0 ∨ k ≤ i → c < x.w.heap.size → x₁.w.heap[c]? = x.w.heap[c]? ∧ x₁.cls c = .gift k
  row : ∀ cs e f, x.w.heap[K.C]? = some (.cells cs e f) → ∃ cs', x₁.w.heap[K.C]? = some (.cells cs' e f) ∧ cs'.size = cs.size
  num : x.num ≤ x₁.num
  num0 : i = 0 → x₁.num = x.num

section
variable {K : Crew} {ρ : Role} {i : Nat} {x y z : Sx}
theorem RT.refl (K : Crew) (i : Nat) (x : Sx) : RT K i x x := ⟨Nat.le_refl _, fun _ h _ => ⟨rfl, h⟩, fun _ _ h _ _ => ⟨rfl, h⟩, fun cs e f h => ⟨cs, h, rfl⟩, Nat.le_refl _, fun _ => rfl⟩
theorem RT.of (h : R K i x y) : RT K i x y := ⟨h.size, h.mine, h.gift, fun cs e f hc => let ⟨c, a, b, _⟩ := h.row cs e f hc; ⟨c, a, b⟩, h.num, h.num0⟩
theorem RT.trans (h : RT K i x y) (h' : RT K i y z) : RT K i x z := by
  refine ⟨Nat.le_trans h.size h'.size, fun b hb hl => ?_, fun b k hb hk hl => ?_, fun cs e f hc => ?_, Nat.le_trans h.num h'.num, fun e => (h'.num0 e).trans (h.num0 e)⟩
  · obtain ⟨a1, a2⟩ := h.mine b hb hl
    obtain ⟨b1, b2⟩ := h'.mine b a2 (Nat.lt_of_lt_of_le hl h.size)
    exact ⟨b1.trans a1, b2⟩
  · obtain ⟨a1, a2⟩ := h.gift b k hb hk hl
    obtain ⟨b1, b2⟩ := h'.gift b k a2 hk (Nat.lt_of_lt_of_le hl h.size)
    exact ⟨b1.trans a1, b2⟩
  · obtain ⟨c1, e1, s1⟩ := h.row cs e f hc
    obtain ⟨c2, e2, s2⟩ := h'.row c1 e f e1
    exact ⟨c2, e2, s2.trans s1⟩
theorem Has.rt {b : Nat} {o : Obj} (h : Has K i x b o) (r : RT K i x y) : Has K i y b o := by
  rcases h with ⟨h1, h2⟩ | ⟨k, h1, h3, h2⟩ | h
  · obtain ⟨e1, e2⟩ := r.mine b h1 (lt_of_some h2)
    exact .inl ⟨e2, e1.trans h2⟩
  · obtain ⟨e1, e2⟩ := r.gift b k h1 h3 (lt_of_some h2)
    exact .inr (.inl ⟨k, e2, h3, e1.trans h2⟩)
  · exact .inr (.inr h)

/-- A step that turns the group's block at most keeps the rest. -/
theorem RT.grp {x x' : Sx} {o : Obj} (h : Inv K x) (hp : x.tag ≠ .pre) (hw : x'.w = x.w ∨ x'.w = setBlk x.w K.Wg o) (hc : x'.cls = x.cls) (hn : x'.num = x.num) : RT K i x x' := by
  obtain ⟨c1, c2, c3⟩ := h.cls hp
  have hsz : x'.w.heap.size = x.w.heap.size := by rcases hw with e | e <;> rw [e]; exact setBlk_size ..
  have hblk : ∀ b, b ≠ K.Wg → x'.w.heap[b]? = x.w.heap[b]? := fun b hb => by rcases hw with e | e <;> rw [e]; exact setBlk_ne hb
  have hWg : ∀ b, x.cls b ≠ .grp → b ≠ K.Wg := fun b hb e => hb (by rw [e]; exact c1)
  exact ⟨by omega, fun b hb _ => ⟨hblk b (hWg b (by rw [hb]; simp)), by rw [hc]; exact hb⟩, fun b k hb _ _ => ⟨hblk b (hWg b (by rw [hb]; simp)), by rw [hc]; exact hb⟩,
    fun cs e f hcs => ⟨cs, (hblk _ (hWg _ (by rw [c2]; simp))).trans hcs, rfl⟩, by omega, fun _ => hn⟩

theorem wg_lt {ty : TypeId} {Wg : Nat} {w : World} {st sm : Int} (h : WgAt ty Wg w st sm) : Wg < w.heap.size := lt_of_some h
theorem wg_st {ty : TypeId} {Wg : Nat} {w : World} {st sm : Int} (h : WgAt ty Wg w st sm) (v : Int) : w.setCell (stA Wg) (.int .u64 v) = setBlk w Wg (wgBlock ty v sm) ∧ WgAt ty Wg (setBlk w Wg (wgBlock ty v sm)) v sm := by
  refine ⟨?_, setBlk_self (wg_lt h)⟩
  have h' : w.heap[Wg]? = some (.cells #[.int .u64 st, .int .u32 sm] ty) := h
  unfold stA
  rw [setCell_blk h']
  rfl
theorem wg_sm {ty : TypeId} {Wg : Nat} {w : World} {st sm : Int} (h : WgAt ty Wg w st sm) (v : Int) : w.setCell (smA Wg) (.int .u32 v) = setBlk w Wg (wgBlock ty st v) ∧ WgAt ty Wg (setBlk w Wg (wgBlock ty st v)) st v := by
  refine ⟨?_, setBlk_self (wg_lt h)⟩
  have h' : w.heap[Wg]? = some (.cells #[.int .u64 st, .int .u32 sm] ty) := h
  unfold smA
  rw [setCell_blk h']
  rfl

theorem acq_app (h : Inv K x) {i : Nat} {fn : FuncId} {pos : String} {es : Array Event} (ht : x.tag = .done) (hi : ∀ k r, Started K.toCfg x.num k → RelB K.Wg x.t k r → RelB K.Wg (x.t ++ MemOp.ofEvents i fn pos es) k r) : AcqAll K.toCfg (x.t ++ MemOp.ofEvents i fn pos es) x.num :=
  (h.acq ht).app hi

/-- 'disable', 'enable'. -/
theorem GoX.mark {n : Nat} {g g' : Goroutine} {m : Mark} (hm : m = .disable ∨ m = .enable) (hs : g.status = .running) (hs' : g'.status = .running) (hl : ρ.i = 0 ∨ (Started K.toCfg x.num ρ.i ∧ x.stg ρ.i ≠ 1)) (htag : x.tag ≠ .pre)
    (hst : ∀ w, stepG K.P (ρ.i == 0) g w = .go g' w #[mk m])
    (hn : ∀ x', RT K ρ.i x x' → x'.stg ρ.i = x.stg ρ.i → Deaf x'.t ρ.i = deafBehind (Deaf x.t ρ.i) #[mk m] → (ρ.i = 0 → TagR x.tag x'.tag ∧ cnt K x' ≤ cnt K x) → x'.tag ≠ .pre → GoX K ρ n g' x') : GoX K ρ (n + 1) g x := by
  refine .inr ⟨hs, fun x₁ r hi => ?_⟩
  have htag1 := r.tagW htag
  have hl1 : ρ.i = 0 ∨ (Started K.toCfg x₁.num ρ.i ∧ x₁.stg ρ.i ≠ 1) := hl.imp id fun y => ⟨⟨y.1.1, Nat.lt_of_lt_of_le y.1.2 r.num⟩, by rw [r.stg]; exact y.2⟩
  have hnone : ∀ e ∈ #[mk m], (MemAct.ofEvent e).touch? = none := by
    intro e he
    simp only [List.mem_toArray, List.mem_singleton] at he
    subst he
    rcases hm with rfl | rfl <;> simp [mk, MemAct.ofEvent, MemAct.touch?]
  have hrel : ∀ k r, RelB K.Wg x₁.t k r → RelB K.Wg (x₁.t ++ MemOp.ofEvents ρ.i g.frame.fn g.frame.place #[mk m]) k r := fun k r hr => by
    by_cases e : k = ρ.i
    · subst e; exact hr.own (.inl hnone)
    · exact hr.other (Ne.symm e) evs_g
  obtain ⟨a1, a2⟩ := own_proto hi (hl1.imp id (·.1)) { x₁ with t := x₁.t ++ MemOp.ofEvents ρ.i g.frame.fn g.frame.place #[mk m] } (o := default) htag1 htag1 (.inl rfl) rfl rfl rfl (fun _ _ => rfl)
    (add1_mark m (hm.imp id fun y => .inl y)) (hi.grp.of rfl rfl rfl fun _ => rfl) (fun hst h6 => by
      obtain ⟨⟨r, hr⟩, hv⟩ := hi.rel ρ.i hst h6
      exact ⟨⟨r, hrel _ r hr⟩, hv⟩) (fun e => acq_app hi e fun k r _ hr => hrel k r hr) (fun _ => ⟨TagR.refl _, Nat.le_refl _⟩)
  refine .inl ⟨g', x₁.w, #[mk m], { x₁ with t := x₁.t ++ MemOp.ofEvents ρ.i g.frame.fn g.frame.place #[mk m] }, hst x₁.w, rfl, rfl, rfl, a1, a2, fun e1 e2 => absurd e1 e2, hs', .inl ⟨hn _ ((RT.of r).trans (.grp (o := default) hi htag1 (.inl rfl) rfl rfl)) r.stg ?_ (fun e => r.tag e) htag1, hl1.imp id (·.2)⟩⟩
  show Deaf (x₁.t ++ _) ρ.i = _
  rw [Deaf_own, r.deaf]

variable {k : Nat}
/-- A WORKER's RELEASE. -/
theorem GoX.release (hk0 : k ≠ 0) {n : Nat} {g g' : Goroutine} (hs : g.status = .running) (hs' : g'.status = .running) (hB : Started K.toCfg x.num k) (h7 : x.stg k = 7) (hd : Deaf x.t k = 0)
    (hrow : ∀ y, R K k x y → ∀ o, K.own k o → y.w.cell? ⟨K.C, o, none⟩ = some (K.val o)) (hst : ∀ w, stepG K.P false g w = .go g' w #[mk (.releaseMerge (stA K.Wg))])
    (hn : ∀ x', x'.stg k = 6 → Deaf x'.t k = 0 → Started K.toCfg x'.num k → x'.tag ≠ .pre → GoX K (worker k) n g' x') : GoX K (worker k) (n + 1) g x := by
  refine .inr ⟨hs, fun x₁ r hi => ?_⟩
  have hB1 : Started K.toCfg x₁.num k := ⟨hB.1, Nat.lt_of_lt_of_le hB.2 r.num⟩
  have h71 : x₁.stg k = 7 := r.stg.trans h7
  have hd1 : Deaf x₁.t k = 0 := r.deaf.trans hd
  have hbusy := hi.grp.of_busy hB1 (by omega)
  have htag : x₁.tag ≠ .pre := by rcases hbusy with ⟨e, _⟩ | ⟨e, _⟩ | ⟨e, _⟩ <;> rw [e] <;> simp
  obtain ⟨st, sm, hwg⟩ := hi.grp.wg htag
  have hk0' : (k == 0) = false := by simpa using hk0
  obtain ⟨x', hx'⟩ : ∃ x' : Sx, x' = { x₁ with t := x₁.t ++ MemOp.ofEvents k g.frame.fn g.frame.place #[mk (.releaseMerge (stA K.Wg))], stg := setS x₁.stg k 6 } := ⟨_, rfl⟩
  have e1 : x'.w = x₁.w := by rw [hx']
  have e2 : x'.tag = x₁.tag := by rw [hx']
  have e3 : x'.num = x₁.num := by rw [hx']
  have e4 : x'.stg = setS x₁.stg k 6 := by rw [hx']
  have e5 : x'.t = x₁.t ++ MemOp.ofEvents k g.frame.fn g.frame.place #[mk (.releaseMerge (stA K.Wg))] := by rw [hx']
  have ek : x'.stg k = 6 := by rw [e4]; unfold setS; rw [if_pos rfl]
  have eo : ∀ j, j ≠ k → x'.stg j = x₁.stg j := fun j hj => by rw [e4]; unfold setS; rw [if_neg hj]
  have hcnt : cnt K x' = cnt K x₁ := by
    have := cnt_set (K := K) e3 e4 hB1
    rw [if_pos (by omega), if_pos (by omega)] at this
    omega
  have hopen : Open K x₁ → Open K x' := fun ho j hj => by
    rw [e3] at hj
    by_cases e : j = k
    · subst e; exact .inr (.inl ek)
    · rw [eo j e]; exact ho j hj
  have hg : Group K x' := by
    unfold Group
    rw [e2, e1, hcnt]
    rcases hbusy with ⟨e, h1, h2⟩ | ⟨e, h1, h2⟩ | ⟨e, h1, h2, h3⟩ <;> rw [e]
    · exact ⟨h1, hopen h2⟩
    · exact ⟨h1, hopen h2⟩
    · exact ⟨h1, hopen h2, h3⟩
  obtain ⟨a1, a2⟩ := own_proto hi (.inr hB1) x' (o := default) htag (by rw [e2]; exact htag) (.inl e1) e5 (by rw [hx']) e3 eo
    (add1_mark _ (.inr (.inr ⟨stA K.Wg, .inl rfl, (wg_lt hwg)⟩))) hg (fun _ _ => ⟨⟨_, by rw [e5]; exact RelB.fresh hd1⟩, fun o ho => hrow x₁ r o ho⟩)
    (fun e => by rw [e2] at e; rcases hbusy with ⟨y, _⟩ | ⟨y, _⟩ | ⟨y, _⟩ <;> rw [y] at e <;> cases e) (fun _ => ⟨by rw [e2]; exact TagR.refl _, by omega⟩)
  refine .inl ⟨g', x₁.w, _, x', by show stepG K.P (k == 0) g x₁.w = _; rw [hk0']; exact hst x₁.w, e1, e5, e3, a1, a2, fun y1 y2 => by rw [e2] at y1; exact absurd y1 y2, hs', .inl ⟨hn x' ek ?_ ⟨hB1.1, by rw [e3]; exact hB1.2⟩ (by rw [e2]; exact htag), .inr (by show x'.stg k ≠ 1; omega)⟩⟩
  rw [e5, Deaf_own, hd1]
  simp [deafBehind, mk]

/-- THE SUBTRACTION. -/
theorem GoX.subtract (hk0 : k ≠ 0) (hKn : K.n ≤ 1000) {n : Nat} {g : Goroutine} (hs : g.status = .running) (hB : Started K.toCfg x.num k) (h6 : x.stg k = 6) (hd : Deaf x.t k = 1)
    (hst : ∀ (w : World) (v wt : Nat), wt ≤ 1 → v < 2147483647 → WgAt K.ty K.Wg w (((v + 1 : Nat) : Int) * KK + wt) 0 → ∃ g', stepG K.P false g w = .go g' (w.setCell (stA K.Wg) (.int .u64 ((v : Int) * KK + wt))) #[rd (stA K.Wg), wr (stA K.Wg)] ∧ g'.status = .running ∧
      (v = 0 ∧ wt = 1 → ∀ x', x'.stg k = 4 → Deaf x'.t k = 1 → Started K.toCfg x'.num k → x'.tag ≠ .pre → GoX K (worker k) n g' x') ∧ (¬ (v = 0 ∧ wt = 1) → QuitsD K.P n 1 g')) : GoX K (worker k) (n + 1) g x := by
  refine .inr ⟨hs, fun x₁ r hi => ?_⟩
  have hB1 : Started K.toCfg x₁.num k := ⟨hB.1, Nat.lt_of_lt_of_le hB.2 r.num⟩
  have h61 : x₁.stg k = 6 := r.stg.trans h6
  have hd1 : Deaf x₁.t k = 1 := r.deaf.trans hd
  have hk0' : (k == 0) = false := by simpa using hk0
  have hcp : 1 ≤ cnt K x₁ := by
    have := le_sumTo (j := x₁.num - K.c) (i := k - K.c) (f := fun a => if 5 ≤ x₁.stg (K.c + a) then 1 else 0) (by have := hB1.1; have := hB1.2; omega)
    simp only [show K.c + (k - K.c) = k by have := hB1.1; omega, h61] at this
    exact this
  have hcb : cnt K x₁ ≤ 1000 := by
    have h1 : cnt K x₁ ≤ 1 * (x₁.num - K.c) := Go.ConcN.sumTo_le fun a _ => by split <;> omega
    have := hi.most
    omega
  have hbusy := hi.grp.of_busy hB1 (by omega)
  have htag : x₁.tag ≠ .pre := by rcases hbusy with ⟨e, _⟩ | ⟨e, _⟩ | ⟨e, _⟩ <;> rw [e] <;> simp
  -- what the word holds
  obtain ⟨v, wt, hwt, hv, hwg, hshape⟩ : ∃ v wt : Nat, wt ≤ 1 ∧ v < 2147483647 ∧ WgAt K.ty K.Wg x₁.w (((v + 1 : Nat) : Int) * KK + wt) 0 ∧ ((x₁.tag = .opn ∧ v + 1 = cnt K x₁ ∧ wt = 0) ∨ (x₁.tag = .pend ∧ v = cnt K x₁ ∧ wt = 0) ∨ (x₁.tag = .reg ∧ v + 1 = cnt K x₁ ∧ wt = 1)) := by
    rcases hbusy with ⟨e, h1, h2⟩ | ⟨e, h1, h2⟩ | ⟨e, h1, h2, h3⟩
    · exact ⟨cnt K x₁ - 1, 0, by omega, by omega, by rw [show cnt K x₁ - 1 + 1 = cnt K x₁ by omega]; simpa using h1, .inl ⟨e, by omega, rfl⟩⟩
    · exact ⟨cnt K x₁, 0, by omega, by omega, by simpa using h1, .inr (.inl ⟨e, rfl, rfl⟩)⟩
    · exact ⟨cnt K x₁ - 1, 1, by omega, by omega, by rw [show cnt K x₁ - 1 + 1 = cnt K x₁ by omega]; simpa using h1, .inr (.inr ⟨e, by omega, rfl⟩)⟩
  obtain ⟨g', hgo, hs', hlast, hquit⟩ := hst x₁.w v wt hwt hv hwg
  obtain ⟨es1, es2⟩ := wg_st hwg ((v : Int) * KK + wt)
  rw [es1] at hgo
  have hopen : Open K x₁ := by rcases hbusy with ⟨_, _, h2⟩ | ⟨_, _, h2⟩ | ⟨_, _, h2, _⟩ <;> exact h2
  have hev : ∀ e ∈ #[rd (stA K.Wg), wr (stA K.Wg)], ∃ a w, e = (⟨.cell a, w, true⟩ : Event) ∧ a.block = K.Wg := by
    intro e he
    simp only [List.mem_toArray, List.mem_cons, List.not_mem_nil, or_false] at he
    rcases he with rfl | rfl
    · exact ⟨stA K.Wg, false, rfl, rfl⟩
    · exact ⟨stA K.Wg, true, rfl, rfl⟩
  obtain ⟨c1, c2, c3⟩ := hi.cls htag
  have hdeaf : Deaf (x₁.t ++ MemOp.ofEvents k g.frame.fn g.frame.place #[rd (stA K.Wg), wr (stA K.Wg)]) k = 1 := by
    rw [Deaf_own, hd1]
    simp [deafBehind, rd, wr]
  by_cases hl : v = 0 ∧ wt = 1
  · -- the last one, and the starter waits
    have htr : x₁.tag = .reg ∧ cnt K x₁ = 1 := by
      rcases hshape with ⟨e, h1, h2⟩ | ⟨e, h1, h2⟩ | ⟨e, h1, h2⟩
      · omega
      · omega
      · exact ⟨e, by omega⟩
    obtain ⟨x', hx'⟩ : ∃ x' : Sx, x' = { x₁ with w := setBlk x₁.w K.Wg (wgBlock K.ty ((v : Int) * KK + wt) 0), t := x₁.t ++ MemOp.ofEvents k g.frame.fn g.frame.place #[rd (stA K.Wg), wr (stA K.Wg)], stg := setS x₁.stg k 4, tag := .last k } := ⟨_, rfl⟩
    have e1 : x'.w = setBlk x₁.w K.Wg (wgBlock K.ty ((v : Int) * KK + wt) 0) := by rw [hx']
    have e2 : x'.tag = .last k := by rw [hx']
    have e3 : x'.num = x₁.num := by rw [hx']
    have e4 : x'.stg = setS x₁.stg k 4 := by rw [hx']
    have e5 : x'.t = x₁.t ++ MemOp.ofEvents k g.frame.fn g.frame.place #[rd (stA K.Wg), wr (stA K.Wg)] := by rw [hx']
    have ek : x'.stg k = 4 := by rw [e4]; unfold setS; rw [if_pos rfl]
    have eo : ∀ j, j ≠ k → x'.stg j = x₁.stg j := fun j hj => by rw [e4]; unfold setS; rw [if_neg hj]
    have hcnt : cnt K x' = 0 := by
      have := cnt_set (K := K) e3 e4 hB1
      rw [if_pos (by omega), if_neg (by omega)] at this
      omega
    have hothers : ∀ j, Started K.toCfg x'.num j → j ≠ k → x'.stg j = 1 := by
      have ho' : ∀ j, Started K.toCfg x'.num j → j ≠ k → (x'.stg j = 7 ∨ x'.stg j = 6 ∨ x'.stg j = 5 ∨ x'.stg j = 1) := fun j hj hne => by
        rw [e3] at hj; rw [eo j hne]; exact hopen j hj
      intro j hj hne
      have hz := hcnt
      unfold cnt at hz
      have := le_sumTo (j := x'.num - K.c) (i := j - K.c) (f := fun a => if 5 ≤ x'.stg (K.c + a) then 1 else 0) (by have := hj.1; have := hj.2; omega)
      rw [hz] at this
      simp only [show K.c + (j - K.c) = j by have := hj.1; omega] at this
      rcases ho' j hj hne with e | e | e | e
      · rw [e] at this; simp at this
      · rw [e] at this; simp at this
      · rw [e] at this; simp at this
      · exact e
    have hg : Group K x' := by
      unfold Group
      rw [e2]
      simp only
      refine ⟨?_, by rw [e3]; exact hB1, .inl ek, hothers⟩
      rw [e1, ek, if_neg (by omega)]
      have : ((v : Int) * KK + wt) = 1 := by rw [hl.1, hl.2]; simp
      rw [this] at es2 ⊢
      exact es2
    obtain ⟨a1, a2⟩ := own_proto hi (.inr hB1) x' (o := wgBlock K.ty ((v : Int) * KK + wt) 0) htag (by rw [e2]; simp) (.inr e1) e5 (by rw [hx']) e3 eo (add1_atomic c1 (wg_lt hwg) hev) hg
      (fun _ _ => by
        obtain ⟨⟨r, hr⟩, hvv⟩ := hi.rel k hB1 (by omega)
        exact ⟨⟨r, by rw [e5]; exact hr.own (.inr ⟨by omega, hev⟩)⟩, hvv⟩)
      (fun e => by rw [e2] at e; cases e) (fun _ => ⟨by rw [e2, htr.1]; exact .inr (.inl ⟨k, rfl⟩), by omega⟩)
    exact .inl ⟨g', _, _, x', by show stepG K.P (k == 0) g x₁.w = _; rw [hk0']; exact hgo, e1, e5, e3, a1, a2, fun y1 _ => (by rw [e2] at y1; cases y1), hs',
      .inl ⟨hlast hl x' ek (by rw [e5]; exact hdeaf) ⟨hB1.1, by rw [e3]; exact hB1.2⟩ (by rw [e2]; simp), .inr (by show x'.stg k ≠ 1; omega)⟩⟩
  · obtain ⟨x', hx'⟩ : ∃ x' : Sx, x' = { x₁ with w := setBlk x₁.w K.Wg (wgBlock K.ty ((v : Int) * KK + wt) 0), t := x₁.t ++ MemOp.ofEvents k g.frame.fn g.frame.place #[rd (stA K.Wg), wr (stA K.Wg)], stg := setS x₁.stg k 1 } := ⟨_, rfl⟩
    have e1 : x'.w = setBlk x₁.w K.Wg (wgBlock K.ty ((v : Int) * KK + wt) 0) := by rw [hx']
    have e2 : x'.tag = x₁.tag := by rw [hx']
    have e3 : x'.num = x₁.num := by rw [hx']
    have e4 : x'.stg = setS x₁.stg k 1 := by rw [hx']
    have e5 : x'.t = x₁.t ++ MemOp.ofEvents k g.frame.fn g.frame.place #[rd (stA K.Wg), wr (stA K.Wg)] := by rw [hx']
    have ek : x'.stg k = 1 := by rw [e4]; unfold setS; rw [if_pos rfl]
    have eo : ∀ j, j ≠ k → x'.stg j = x₁.stg j := fun j hj => by rw [e4]; unfold setS; rw [if_neg hj]
    have hcnt : cnt K x' + 1 = cnt K x₁ := by
      have := cnt_set (K := K) e3 e4 hB1
      rw [if_pos (by omega), if_neg (by omega)] at this
      omega
    have hopen' : Open K x' := fun j hj => by
      rw [e3] at hj
      by_cases e : j = k
      · subst e; exact .inr (.inr (.inr ek))
      · rw [eo j e]; exact hopen j hj
    have hg : Group K x' := by
      unfold Group
      rw [e2]
      rcases hshape with ⟨e, h1, h2⟩ | ⟨e, h1, h2⟩ | ⟨e, h1, h2⟩ <;> rw [e] <;> simp only
      · refine ⟨?_, hopen'⟩
        rw [e1, show cnt K x' = v by omega]
        rw [h2] at es2 ⊢
        simpa using es2
      · refine ⟨?_, hopen'⟩
        rw [e1, show cnt K x' + 1 = v by omega]
        rw [h2] at es2 ⊢
        simpa using es2
      · refine ⟨?_, hopen', by omega⟩
        rw [e1, show cnt K x' = v by omega]
        rw [h2] at es2 ⊢
        simpa using es2
    obtain ⟨a1, a2⟩ := own_proto hi (.inr hB1) x' (o := wgBlock K.ty ((v : Int) * KK + wt) 0) htag (by rw [e2]; exact htag) (.inr e1) e5 (by rw [hx']) e3 eo (add1_atomic c1 (wg_lt hwg) hev) hg
      (fun _ _ => by
        obtain ⟨⟨r, hr⟩, hvv⟩ := hi.rel k hB1 (by omega)
        exact ⟨⟨r, by rw [e5]; exact hr.own (.inr ⟨by omega, hev⟩)⟩, hvv⟩)
      (fun e => by rw [e2] at e; rcases hbusy with ⟨y, _⟩ | ⟨y, _⟩ | ⟨y, _⟩ <;> rw [y] at e <;> cases e) (fun _ => ⟨by rw [e2]; exact TagR.refl _, by omega⟩)
    exact .inl ⟨g', _, _, x', by show stepG K.P (k == 0) g x₁.w = _; rw [hk0']; exact hgo, e1, e5, e3, a1, a2, fun y1 y2 => by rw [e2] at y1; exact absurd y1 y2, hs',
      .inr ⟨hk0, ek, by show QuitsD K.P n (Deaf x'.t k) g'; rw [e5, hdeaf]; exact hquit hl⟩⟩
end
end Go.Crew
