/- The starter: the group's birth, Wait, code behind code. -/
import Derived.Test.YtplmgbffaeohpaaCoK
set_option linter.unusedSimpArgs false
set_option linter.unusedVariables false
namespace Go.Crew
open Go.Conc Go.Conc.Lib
open Go.ConcN (sumTo)
open Go.ConcR (stA smA WgAt KK rd wr mk)

theorem sumTo_le_one (f : Nat → Nat) (h : ∀ i, f i ≤ 1) : ∀ n, sumTo n f ≤ n
  | 0 => Nat.le_refl _
  | n + 1 => by
    have := sumTo_le_one f h n
    have := h n
    simp only [sumTo]
    omega
theorem cnt_le (K : Crew) (x : Sx) : cnt K x ≤ x.num - K.c := sumTo_le_one _ (fun i => by split <;> omega) _

section
variable {K : Crew} {ρ : Role} {fn : FuncId} {Q : Exit → Act → Sx → Prop} {a : Act} {x : Sx} {ops : Array Oper} {i n m : Nat} {rest : List Nat} {op : Oper}

theorem LGo.seqW {c d : Code} {b : Frame} {k : List Item} {cs : List Frame} (hk : b.kind ≠ .early) (hw : WpX K ρ b.fn c n (fun e a' x' => e = .normal ∧ LGo K ρ m (G (b.at a' (.code d :: k)) cs) x') a x) :
    LGo K ρ (m + n + 1) (G (b.at a (.code (.seq c d) :: k)) cs) x :=
  .ctl rfl rfl (fun w => stepG_seq) (hw b (.code d :: k) cs m rfl hk fun e a' x' q => by obtain ⟨rfl, q⟩ := q; exact q)

/-- The group is born. -/
theorem LGo.openG {g g' : Goroutine} (hs : g.status = .running) (hs' : g'.status = .running) (h : ∀ w, stepG K.P (ρ.i == 0) g w = .go g' w #[]) (hρ : ρ.i = 0) (hnum : x.num = K.c) (htag : x.tag = .pre)
    (hWg : x.cls K.Wg = .grp) (hC : x.cls K.C = .row) (hCl : K.C < x.w.heap.size) (hat : WgAt K.ty K.Wg x.w 0 0)
    (hn : ∀ x', x'.w.heap = x.w.heap → x'.cls = x.cls → x'.num = x.num → x'.tag = .opn → Deaf x'.t 0 = Deaf x.t 0 → LGo K ρ n g' x') : LGo K ρ (n + 1) g x := by
  intro hb
  refine .inr ⟨hs, fun x₁ r hi => ?_⟩
  obtain ⟨e1, e2⟩ := r.lone hρ hnum
  have hnum1 : x₁.num = K.c := (r.num0 hρ).trans hnum
  have none : ∀ k, ¬ Started K.toCfg x₁.num k := fun k hk => by have := hk.1; have := hk.2; omega
  have hcnt : cnt K x₁ = 0 := by have := cnt_le K x₁; omega
  have hd1 : Deaf x₁.t 0 = Deaf x.t 0 := by rw [← hρ]; exact r.deaf
  have hst := h x₁.w
  refine .inl ⟨g', x₁.w, #[], { x₁ with tag := .opn, t := x₁.t ++ MemOp.ofEvents ρ.i g.frame.fn g.frame.place #[] }, hst, rfl, rfl, rfl, ?_, ?_, by simp, hs', .inl ⟨?_, .inl hρ⟩⟩
  · have et : x₁.t ++ MemOp.ofEvents ρ.i g.frame.fn g.frame.place #[] = x₁.t := by simp [MemOp.ofEvents]
    rw [et]
    refine ⟨hi.ti, hi.tape, hi.os, hi.output, hi.size, hi.low, hi.lcls, hi.most, fun k hk => absurd hk (none k), ?_, fun _ => ⟨by rw [show ({ x₁ with tag := Tag.opn, t := x₁.t } : Sx).cls = x.cls from e2]; exact hWg, by rw [show ({ x₁ with tag := Tag.opn, t := x₁.t } : Sx).cls = x.cls from e2]; exact hC, ?_⟩, fun h => by simp at h, hi.owner, hi.gifted⟩
    · show WgAt K.ty K.Wg x₁.w ((cnt K x₁ : Nat) * KK) 0 ∧ _
      rw [hcnt]
      refine ⟨?_, fun k hk => absurd hk (none k)⟩
      unfold WgAt at hat ⊢
      rw [e1]
      simpa using hat
    · show K.C < x₁.w.heap.size
      rw [e1]; exact hCl
  · intro j hj hjs
    rcases hjs with rfl | hjs
    · exact absurd hρ.symm hj
    · exact absurd hjs (none j)
  · refine hn _ e1 e2 (r.num0 hρ) rfl ?_ (.inl hρ)
    simp [MemOp.ofEvents]
    exact hd1

theorem opsX_open (hρ : ρ.i = 0) (hnum : x.num = K.c) (htag : x.tag = .pre)
    (hWg : x.cls K.Wg = .grp) (hC : x.cls K.C = .row) (hCl : K.C < x.w.heap.size) (hat : WgAt K.ty K.Wg x.w 0 0)
    (hn : ∀ x', x'.w.heap = x.w.heap → x'.cls = x.cls → x'.num = x.num → x'.tag = .opn → Deaf x'.t 0 = Deaf x.t 0 → Q .normal a x') : OpsX K ρ fn ops [] 1 Q a x := fun b k cs m _ _ hc =>
  .openG rfl rfl (fun w => stepG_region_end) hρ hnum htag hWg hC hCl hat fun x' h1 h2 h3 h4 h5 => hc _ _ _ (hn x' h1 h2 h3 h4 h5)

/-- One writes one's own block while one is alone. -/
theorem LGo.write0 {g g' : Goroutine} {b : Nat} {o o' : Obj} (hρ : ρ.i = 0) (hnum : x.num = K.c) (hs : g.status = .running) (hs' : g'.status = .running) (hm : x.cls b = .mine ρ.i) (ho : x.w.heap[b]? = some o)
    (h : ∀ x₁, R K ρ.i x x₁ → Inv K x₁ → x₁.w.heap[b]? = some o → ∃ es, stepG K.P (ρ.i == 0) g x₁.w = .go g' (setBlk x₁.w b o') es ∧ ∀ e ∈ es, EvOk K ρ.i x₁ x₁.w.heap.size e)
    (hn : ∀ x', Rb K ρ.i b x x' → x'.cls = x.cls → x'.w.heap[b]? = some o' → x'.w.heap.size = x.w.heap.size → (∀ c, c ≠ b → x'.w.heap[c]? = x.w.heap[c]?) → LGo K ρ n g' x') : LGo K ρ (n + 1) g x := by
  intro hb
  refine .inr ⟨hs, fun x₁ r hi => ?_⟩
  obtain ⟨e1, e2⟩ := r.mine b hm (lt_of_some ho)
  obtain ⟨es, hst, hes⟩ := h x₁ r hi (e1.trans ho)
  have hb1 := hb.rely r
  have hbl : b < x₁.w.heap.size := lt_of_some (e1.trans ho)
  obtain ⟨a1, a2, a3⟩ := own_write hi hb1 (o := o') e2 hbl (fn := g.frame.fn) (pos := g.frame.place) hes
  have a4 := Rb.of r a3
  obtain ⟨l1, l2⟩ := r.lone hρ hnum
  exact .inl ⟨g', _, es, { x₁ with w := setBlk x₁.w b o', t := x₁.t ++ MemOp.ofEvents ρ.i g.frame.fn g.frame.place es }, hst, rfl, rfl, rfl, a1, a2, fun e1 e2 => absurd e1 e2, hs', .inl ⟨hn _ a4 l2 (setBlk_self hbl) (by rw [← l1]; exact setBlk_size ..) (fun c hc => by rw [← l1]; exact setBlk_ne hc) (hb.rb a4), busy_ne hb1⟩⟩

theorem opsX_wr0 (hρ : ρ.i = 0) (hnum : x.num = K.c) {b : Nat} {ob ob' : Obj} (hm : x.cls b = .mine ρ.i) (hb0 : x.w.heap[b]? = some ob) (ho : ops[i]? = some op) (hw : Region.wanted op (yielded ops a.tmps) = true)
    (hrun : ∀ x₁, R K ρ.i x x₁ → Inv K x₁ → x₁.w.heap[b]? = some ob → ∀ Kc : Result Next → Prop, (∀ w', w' = setBlk x₁.w b ob' → Kc (.ok .skip w')) → Kc ((execOp a.eval op).run K.P x₁.w))
    (hev : ∀ x₁, R K ρ.i x x₁ → Inv K x₁ → x₁.w.heap[b]? = some ob → ∀ e ∈ listed K.P fn a op x₁.w, ∃ ad, e = ⟨.cell ad, true, false⟩ ∧ ad.block = b)
    (hn : ∀ x', Rb K ρ.i b x x' → x'.cls = x.cls → x'.w.heap[b]? = some ob' → x'.w.heap.size = x.w.heap.size → (∀ c, c ≠ b → x'.w.heap[c]? = x.w.heap[c]?) → OpsX K ρ fn ops rest n Q (a.put op.dst undef) x') : OpsX K ρ fn ops (i :: rest) (n + 1) Q a x := by
  intro b' k cs m hb hk hc
  refine .write0 hρ hnum rfl rfl hm hb0 (fun x₁ r hi ho1 => ?_) (fun x' h1 h2 h3 h4 h5 => hn x' h1 h2 h3 h4 h5 b' k cs m hb hk hc)
  have h1 := hrun x₁ r hi ho1 (· = .ok .skip (setBlk x₁.w b ob')) fun w' e => by rw [e]
  have h2 := hev x₁ r hi ho1
  have h3 := (r.mine b hm (lt_of_some hb0)).2
  exact ⟨_, stepG_none ho hw hk h1, fun e he => by
    rw [hb] at he
    obtain ⟨ad, rfl, hb⟩ := h2 e he
    exact .write h3 (lt_of_some ho1) hb⟩

/-- A new block of whatever class. -/
theorem opsX_nc (c : Cls) (hc : c = .mine ρ.i ∨ (x.tag = .pre ∧ ρ.i = 0 ∧ (c = .row ∨ c = .grp))) (v : Nat → Value) {ob : Obj} (ho : ops[i]? = some op) (hw : Region.wanted op (yielded ops a.tmps) = true)
    (hrun : ∀ x₁, R K ρ.i x x₁ → Inv K x₁ → ∀ Kc : Result Next → Prop, Kc (.ok (.value (v x₁.w.heap.size)) (x₁.w.alloc ob)) → Kc ((execOp a.eval op).run K.P x₁.w))
    (hev : ∀ x₁, R K ρ.i x x₁ → Inv K x₁ → ∀ e ∈ listed K.P fn a op x₁.w, EvOk K ρ.i x₁ x₁.w.heap.size e)
    (hn : ∀ m x', (∀ b, Rb K ρ.i b x x') → x.w.heap.size ≤ m → x'.cls m = c → x'.w.heap[m]? = some ob → x'.w.heap.size = m + 1 → (ρ.i = 0 → x.num = K.c → m = x.w.heap.size ∧ ∀ b, b < m → x'.cls b = x.cls b ∧ x'.w.heap[b]? = x.w.heap[b]?) → OpsX K ρ fn ops rest n Q (a.put op.dst (v m)) x') : OpsX K ρ fn ops (i :: rest) (n + 1) Q a x :=
  opsX_new v ho hw c hc (fun x₁ r hi => ⟨hrun x₁ r hi (· = .ok (.value (v x₁.w.heap.size)) (pushBlk x₁.w ob)) rfl, hev x₁ r hi⟩) hn

variable {L : WgLink}
/-- wg.Wait(). -/
theorem LGo.wait (hρ : ρ.i = 0) (H : WgLib K.P L) (hty : K.ty = L.tWg) (hKn : K.n ≤ 1000) {b : Frame} {k : List Item} {cs : List Frame} (hk : b.kind ≠ .early) {args : Array Operand} {ats : Array TypeId} (ho : ops[i]? = some op) (hw : Region.wanted op (yielded ops a.tmps) = true)
    (hop : op.op = .call { callee := .value (.func L.wait), args, argTypes := ats }) (hargs : args.map a.eval = #[.pointer (some ⟨K.Wg, 0, none⟩)]) (htag : x.tag = .opn) (hd : Deaf x.t 0 = 0) (V : Nat) (hV : cnt K x ≤ V)
    (hn : ∀ x', RT K 0 x x' → x'.tag = .done → Deaf x'.t 0 = 0 → LGo K ρ n (G (b.at (a.put op.dst (.tuple #[])) (.inRegion ops rest :: k)) cs) x') : LGo K ρ (n + 600 * V + 700 + 1) (G (b.at a (.inRegion ops (i :: rest) :: k)) cs) x := by
  obtain ⟨cd, hcd⟩ : ∃ cd, (waitFn L).body = some cd := ⟨_, rfl⟩
  have hb' : (waitFn L).body.isNone = false := by rw [hcd]; rfl
  have hname : ((waitFn L).name == "runtime.NumGoroutine") = false := Go.ConcR.Gen.nm_wait L
  have hgo : ∀ w, stepG K.P (ρ.i == 0) (G (b.at a (.inRegion ops (i :: rest) :: k)) cs) w = .go (G ((base L.wait).at { tmps := args.map a.eval ++ Array.replicate ((waitFn L).ntmps - (args.map a.eval).size) undef, defers := [] } [.code cd]) (b.at a (.inRegion ops (i :: rest) :: k) :: cs)) w #[] := fun w => by
    have hl : listed K.P b.fn a op w = #[] := by unfold listed; rw [events_call_body hop H.f_wait hname hb']; exact seen_none K.P _
    rw [stepG_enter ho hw hk (run_call_body hop H.f_wait hname hb'), enter_at _ H.f_wait hcd, hl]
  refine .ctl rfl rfl hgo fun hbz => ?_
  rw [hargs]
  refine wait_ok K ρ hρ H hty hKn htag hd V hV (fun x' r1 r2 r3 => ?_) (by simp [waitFn]) (by simp [waitFn]) hcd
  have := hn x' r1 r2 r3 (.inl hρ)
  rw [ho]
  exact this
end
end Go.Crew
