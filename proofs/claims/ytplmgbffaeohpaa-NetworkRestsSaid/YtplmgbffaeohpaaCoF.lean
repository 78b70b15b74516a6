/- The walk of one goroutine in its crew: the rules in the shape in which a text uses them. -/
import Derived.Test.YtplmgbffaeohpaaCoE
import Derived.WalkKit
set_option linter.unusedSimpArgs false
set_option linter.unusedVariables false
namespace Go.Crew
open Go.Conc

theorem cell_of {w : World} {b o : Nat} {cs : Array Value} {e : TypeId} {f : Nat × Nat} {v : Value} (h : w.heap[b]? = some (.cells cs e f)) (hv : cs[o]? = some v) : w.cell? ⟨b, o, none⟩ = some v := by
  unfold World.cell?
  simp only [h]
  exact hv

theorem setCell_blk {w : World} {b o : Nat} {cs : Array Value} {e : TypeId} {f : Nat × Nat} {v : Value} (h : w.heap[b]? = some (.cells cs e f)) : w.setCell ⟨b, o, none⟩ v = setBlk w b (.cells (cs.setIfInBounds o v) e f) := by
  unfold World.setCell setBlk
  congr 1
  obtain ⟨hl, he⟩ := Array.getElem?_eq_some_iff.1 h
  apply Array.ext_getElem?
  intro j
  rw [Array.getElem?_modify]
  by_cases hj : b = j
  · subst hj
    simp [hl, he]
  · simp [hj]

theorem setBlk_setBlk (w : World) (b : Nat) (o o' : Obj) : setBlk (setBlk w b o) b o' = setBlk w b o' := by
  unfold setBlk
  simp

/-- A frame's slots, one by one. -/
theorem frame_lit {T : Array Value} {n : Nat} (h : T.size = n) : ∃ u : Nat → Value, T = ((List.range n).map u).toArray ∧ ∀ s, u s = T.getD s undef := by
  refine ⟨fun s => T.getD s undef, ?_, fun _ => rfl⟩
  apply Array.ext
  · simp [h]
  · intro j h1 h2
    simp [Array.getD, h1]

def slotI (a : Act) (s : Nat) : Int := match a.tmps.getD s undef with | .int _ v => v | _ => 0

/-- What one suffers of oneself and of the others while one makes blocks and writes those alone. -/
structure RN (K : Crew) (i : Nat) (x x₁ : Sx) : Prop where
  size : x.w.heap.size ≤ x₁.w.heap.size
  mine : ∀ c, x.cls c = .mine i → c < x.w.heap.size → x₁.w.heap[c]? = x.w.heap[c]? ∧ x₁.cls c = .mine i
  gift : ∀ c k, x.cls c = .gift k → i = 0 ∨ k ≤ i → c < x.w.heap.size → x₁.w.heap[c]? = x.w.heap[c]? ∧ x₁.cls c = .gift k
  row : ∀ cs e f, x.w.heap[K.C]? = some (.cells cs e f) → ∃ cs', x₁.w.heap[K.C]? = some (.cells cs' e f) ∧ cs'.size = cs.size ∧ ∀ o, K.own i o → cs'[o]? = cs[o]?
  tr : Deaf x₁.t i = Deaf x.t i
  stg : x₁.stg i = x.stg i
  num : x.num ≤ x₁.num
  num0 : i = 0 → x₁.num = x.num
  tag : i = 0 → TagR x.tag x₁.tag ∧ cnt K x₁ ≤ cnt K x
  tagW : x.tag ≠ .pre → x₁.tag ≠ .pre

section
variable {K : Crew} {i : Nat} {x y z : Sx}
theorem RN.of (h : R K i x y) : RN K i x y := ⟨h.size, h.mine, h.gift, h.row, h.deaf, h.stg, h.num, h.num0, h.tag, h.tagW⟩
/-- One's own block. -/
def Mine (i : Nat) (x : Sx) (b : Nat) (o : Obj) : Prop := x.cls b = .mine i ∧ x.w.heap[b]? = some o
theorem Mine.rn {b : Nat} {o : Obj} (h : Mine i x b o) (r : RN K i x y) : Mine i y b o := by
  obtain ⟨a1, a2⟩ := r.mine b h.1 (lt_of_some h.2)
  exact ⟨a2, a1.trans h.2⟩
theorem Mine.rb {b c : Nat} {o : Obj} (h : Mine i x c o) (r : Rb K i b x y) (hne : c ≠ b) : Mine i y c o := by
  obtain ⟨a1, a2⟩ := r.mine c hne h.1 (lt_of_some h.2)
  exact ⟨a2, a1.trans h.2⟩
theorem Mine.nw {c : Nat} {o : Obj} (h : Mine i x c o) (r : ∀ b, Rb K i b x y) : Mine i y c o := h.rb (r (c + 1)) (by omega)
theorem Mine.rely {b : Nat} {o : Obj} (h : Mine i x b o) (r : R K i x y) : Mine i y b o := by
  obtain ⟨a1, a2⟩ := r.mine b h.1 (lt_of_some h.2)
  exact ⟨a2, a1.trans h.2⟩
theorem Mine.has {b : Nat} {o : Obj} (h : Mine i x b o) : Has K i x b o := .inl h
theorem Mine.lt {b : Nat} {o : Obj} (h : Mine i x b o) : b < x.w.heap.size := lt_of_some h.2
theorem RN.refl (K : Crew) (i : Nat) (x : Sx) : RN K i x x :=
  ⟨Nat.le_refl _, fun _ h _ => ⟨rfl, h⟩, fun _ _ h _ _ => ⟨rfl, h⟩, fun cs e f h => ⟨cs, h, rfl, fun _ _ => rfl⟩, rfl, rfl, Nat.le_refl _, fun _ => rfl, fun _ => ⟨TagR.refl _, Nat.le_refl _⟩, id⟩
theorem RN.trans (h : RN K i x y) (h' : RN K i y z) : RN K i x z := by
  refine ⟨Nat.le_trans h.size h'.size, fun b hb hl => ?_, fun b k hb hk hl => ?_, fun cs e f hc => ?_, h'.tr.trans h.tr, h'.stg.trans h.stg, Nat.le_trans h.num h'.num, fun e => (h'.num0 e).trans (h.num0 e), fun e => ⟨(h.tag e).1.trans (h'.tag e).1, Nat.le_trans (h'.tag e).2 (h.tag e).2⟩, fun hp => h'.tagW (h.tagW hp)⟩
  · obtain ⟨a1, a2⟩ := h.mine b hb hl
    obtain ⟨b1, b2⟩ := h'.mine b a2 (Nat.lt_of_lt_of_le hl h.size)
    exact ⟨b1.trans a1, b2⟩
  · obtain ⟨a1, a2⟩ := h.gift b k hb hk hl
    obtain ⟨b1, b2⟩ := h'.gift b k a2 hk (Nat.lt_of_lt_of_le hl h.size)
    exact ⟨b1.trans a1, b2⟩
  · obtain ⟨c1, e1, s1, o1⟩ := h.row cs e f hc
    obtain ⟨c2, e2, s2, o2⟩ := h'.row c1 e f e1
    exact ⟨c2, e2, s2.trans s1, fun o ho => (o2 o ho).trans (o1 o ho)⟩
/-- .. by a new block .. -/
theorem RN.new (h : RN K i x y) (r : ∀ b, Rb K i b y z) : RN K i x z :=
  h.trans ⟨(r 0).size, fun c hc hl => (r (c + 1)).mine c (by omega) hc hl, (r 0).gift, (r (K.C + 1)).row (by omega), (r 0).tr, (r 0).stg, (r 0).num, (r 0).num0, (r 0).tag, (r 0).tagW⟩
/-- .. by a write of a block that was not there yet .. -/
theorem RN.write (h : RN K i x y) {b : Nat} (r : Rb K i b y z) (hb : x.w.heap.size ≤ b) (hC : K.C < x.w.heap.size) : RN K i x z := by
  have hne : b ≠ K.C := by omega
  refine ⟨Nat.le_trans h.size r.size, fun c hc hl => ?_, fun c k hc hk hl => ?_, fun cs e f hc => ?_, r.tr.trans h.tr, r.stg.trans h.stg, Nat.le_trans h.num r.num, fun e => (r.num0 e).trans (h.num0 e), fun e => ⟨(h.tag e).1.trans (r.tag e).1, Nat.le_trans (r.tag e).2 (h.tag e).2⟩, fun hp => r.tagW (h.tagW hp)⟩
  · obtain ⟨a1, a2⟩ := h.mine c hc hl
    obtain ⟨b1, b2⟩ := r.mine c (by omega) a2 (Nat.lt_of_lt_of_le hl h.size)
    exact ⟨b1.trans a1, b2⟩
  · obtain ⟨a1, a2⟩ := h.gift c k hc hk hl
    obtain ⟨b1, b2⟩ := r.gift c k a2 hk (Nat.lt_of_lt_of_le hl h.size)
    exact ⟨b1.trans a1, b2⟩
  · obtain ⟨c1, e1, s1, o1⟩ := h.row cs e f hc
    obtain ⟨c2, e2, s2, o2⟩ := r.row hne c1 e f e1
    exact ⟨c2, e2, s2.trans s1, fun o ho => (o2 o ho).trans (o1 o ho)⟩
theorem Has.rn {b : Nat} {o : Obj} (h : Has K i x b o) (r : RN K i x y) : Has K i y b o := by
  rcases h with ⟨h1, h2⟩ | ⟨k, h1, h3, h2⟩ | h
  · obtain ⟨e1, e2⟩ := r.mine b h1 (lt_of_some h2)
    exact .inl ⟨e2, e1.trans h2⟩
  · obtain ⟨e1, e2⟩ := r.gift b k h1 h3 (lt_of_some h2)
    exact .inr (.inl ⟨k, e2, h3, e1.trans h2⟩)
  · exact .inr (.inr h)
end

/-- A block that is handed to i, or that all may read. -/
def HasG (K : Crew) (i : Nat) (x : Sx) (b : Nat) (o : Obj) : Prop :=
  (∃ k, x.cls b = .gift k ∧ (i = 0 ∨ k ≤ i) ∧ x.w.heap[b]? = some o) ∨ (b < K.w0.heap.size ∧ ¬ K.nob b ∧ K.w0.heap[b]? = some o)
/-- What a worker suffers while it works: of the row it speaks elsewhere. -/
structure RM (K : Crew) (i : Nat) (x x₁ : Sx) : Prop where
  size : x.w.heap.size ≤ x₁.w.heap.size
  gift : ∀ c k, x.cls c = .gift k → i = 0 ∨ k ≤ i → c < x.w.heap.size → x₁.w.heap[c]? = x.w.heap[c]? ∧ x₁.cls c = .gift k
  tr : Deaf x₁.t i = Deaf x.t i
  stg : x₁.stg i = x.stg i
  num : x.num ≤ x₁.num
  tagW : x.tag ≠ .pre → x₁.tag ≠ .pre
section
variable {K : Crew} {i : Nat} {x y z : Sx}
theorem RM.refl (K : Crew) (i : Nat) (x : Sx) : RM K i x x := ⟨Nat.le_refl _, fun _ _ h _ _ => ⟨rfl, h⟩, rfl, rfl, Nat.le_refl _, id⟩
theorem RM.trans (h : RM K i x y) (h' : RM K i y z) : RM K i x z := by
  refine ⟨Nat.le_trans h.size h'.size, fun b k hb hk hl => ?_, h'.tr.trans h.tr, h'.stg.trans h.stg, Nat.le_trans h.num h'.num, fun hp => h'.tagW (h.tagW hp)⟩
  obtain ⟨a1, a2⟩ := h.gift b k hb hk hl
  obtain ⟨b1, b2⟩ := h'.gift b k a2 hk (Nat.lt_of_lt_of_le hl h.size)
  exact ⟨b1.trans a1, b2⟩
theorem RM.of (h : R K i x y) : RM K i x y := ⟨h.size, h.gift, h.deaf, h.stg, h.num, h.tagW⟩
theorem RM.ofN (h : RN K i x y) : RM K i x y := ⟨h.size, h.gift, h.tr, h.stg, h.num, h.tagW⟩
theorem RM.ofB {b : Nat} (h : Rb K i b x y) : RM K i x y := ⟨h.size, h.gift, h.tr, h.stg, h.num, h.tagW⟩
theorem HasG.rm {b : Nat} {o : Obj} (h : HasG K i x b o) (r : RM K i x y) : HasG K i y b o := by
  rcases h with ⟨k, h1, h3, h2⟩ | h
  · obtain ⟨e1, e2⟩ := r.gift b k h1 h3 (lt_of_some h2)
    exact .inl ⟨k, e2, h3, e1.trans h2⟩
  · exact .inr h
theorem HasG.has {b : Nat} {o : Obj} (h : HasG K i x b o) : Has K i x b o := h.elim (fun y => .inr (.inl y)) fun y => .inr (.inr y)
/-- How far worker i has come with its cells of the row. -/
def RowTo (K : Crew) (i : Nat) (ety : TypeId) (len lim : Nat) (x : Sx) : Prop :=
  ∃ cs, x.w.heap[K.C]? = some (.cells cs ety (0, 0)) ∧ cs.size = len ∧ ∀ o, K.own i o → o < lim → cs[o]? = some (K.val o)
theorem RowTo.rely {ety : TypeId} {len lim : Nat} (h : RowTo K i ety len lim x) (r : R K i x y) : RowTo K i ety len lim y := by
  obtain ⟨cs, h1, h2, h3⟩ := h
  obtain ⟨cs', e1, e2, e3⟩ := r.row cs ety (0, 0) h1
  exact ⟨cs', e1, e2.trans h2, fun o ho hl => (e3 o ho).trans (h3 o ho hl)⟩
theorem RowTo.rn {ety : TypeId} {len lim : Nat} (h : RowTo K i ety len lim x) (r : RN K i x y) : RowTo K i ety len lim y := by
  obtain ⟨cs, h1, h2, h3⟩ := h
  obtain ⟨cs', e1, e2, e3⟩ := r.row cs ety (0, 0) h1
  exact ⟨cs', e1, e2.trans h2, fun o ho hl => (e3 o ho).trans (h3 o ho hl)⟩
end

section
variable {K : Crew} {ρ : Role} {fn : FuncId} {Q : Exit → Act → Sx → Prop} {a : Act} {x : Sx} {ops : Array Oper} {i n : Nat} {rest : List Nat} {o : Oper}

theorem Has.cell {b : Nat} {cs : Array Value} {e : TypeId} {f : Nat × Nat} (h : Has K ρ.i x b (.cells cs e f)) {x₁ : Sx} (r : R K ρ.i x x₁) (hi : Inv K x₁) {o : Nat} {v : Value} (hv : cs[o]? = some v) : x₁.w.cell? ⟨b, o, none⟩ = some v :=
  cell_of ((h.rely r).at hi) hv

/-- The way on from whatever state meets M. -/
theorem wpX_seq_mid {c d : Code} {n₁ n₂ : Nat} (M : Act → Sx → Prop) (hx : WpX K ρ fn c n₁ (XThen M Q) a x) (hy : ∀ a' x', M a' x' → WpX K ρ fn d n₂ Q a' x') : WpX K ρ fn (.seq c d) (n₁ + n₂ + 1) Q a x :=
  wpX_seq (wpX_mono hx fun e a' x' q => by cases e <;> first | exact hy _ _ q | exact q)

theorem wpX_to {c : Code} {n : Nat} (M : Act → Sx → Prop) {Nx : Act → Sx → Prop} (hx : WpX K ρ fn c n (XThen M Q) a x) (hy : ∀ a' x', M a' x' → Nx a' x') : WpX K ρ fn c n (XThen Nx Q) a x :=
  wpX_mono hx fun e a' x' q => by cases e <;> first | exact hy _ _ q | exact q

theorem wpX_toN {c : Code} {n : Nat} (M : Act → Sx → Prop) (hx : WpX K ρ fn c n (XThen M Q) a x) (hy : ∀ a' x', M a' x' → Q .normal a' x') : WpX K ρ fn c n Q a x :=
  wpX_mono hx fun e a' x' q => by cases e <;> first | exact hy _ _ q | exact q

/-- A read: the value is found by reckoning. -/
theorem opsX_rd {v : Value} (ho : ops[i]? = some o) (hw : Region.wanted o (yielded ops a.tmps) = true)
    (hrun : ∀ x₁, R K ρ.i x x₁ → Inv K x₁ → ∀ Kc : Result Next → Prop, Kc (.ok (.value v) x₁.w) → Kc ((execOp a.eval o).run K.P x₁.w))
    (hev : ∀ x₁, R K ρ.i x x₁ → Inv K x₁ → ∀ e ∈ listed K.P fn a o x₁.w, EvOk K ρ.i x₁ x₁.w.heap.size e)
    (hn : OpsX K ρ fn ops rest n Q (a.put o.dst v) x) : OpsX K ρ fn ops (i :: rest) (n + 1) Q a x :=
  opsX_read v ho hw (fun x₁ r hi => ⟨.inl (hrun x₁ r hi (· = .ok (.value v) x₁.w) rfl), hev x₁ r hi⟩) hn
/-- .. that leaves nothing. -/
theorem opsX_rs (ho : ops[i]? = some o) (hw : Region.wanted o (yielded ops a.tmps) = true)
    (hrun : ∀ x₁, R K ρ.i x x₁ → Inv K x₁ → ∀ Kc : Result Next → Prop, Kc (.ok .skip x₁.w) → Kc ((execOp a.eval o).run K.P x₁.w))
    (hev : ∀ x₁, R K ρ.i x x₁ → Inv K x₁ → ∀ e ∈ listed K.P fn a o x₁.w, EvOk K ρ.i x₁ x₁.w.heap.size e)
    (hn : OpsX K ρ fn ops rest n Q (a.put o.dst undef) x) : OpsX K ρ fn ops (i :: rest) (n + 1) Q a x :=
  opsX_read undef ho hw (fun x₁ r hi => ⟨.inr ⟨hrun x₁ r hi (· = .ok .skip x₁.w) rfl, rfl⟩, hev x₁ r hi⟩) hn
/-- A new block, one's own; a pointer to it. -/
theorem opsX_nw {ob : Obj} (ho : ops[i]? = some o) (hw : Region.wanted o (yielded ops a.tmps) = true)
    (hrun : ∀ x₁, R K ρ.i x x₁ → Inv K x₁ → ∀ Kc : Result Next → Prop, Kc (.ok (.value (.pointer (some ⟨x₁.w.heap.size, 0, none⟩))) (x₁.w.alloc ob)) → Kc ((execOp a.eval o).run K.P x₁.w))
    (hev : ∀ x₁, R K ρ.i x x₁ → Inv K x₁ → ∀ e ∈ listed K.P fn a o x₁.w, EvOk K ρ.i x₁ x₁.w.heap.size e)
    (hn : ∀ m x', (∀ b, Rb K ρ.i b x x') → x.w.heap.size ≤ m → x'.cls m = .mine ρ.i → x'.w.heap[m]? = some ob → x'.w.heap.size = m + 1 → (ρ.i = 0 → x.num = K.c → m = x.w.heap.size ∧ ∀ b, b < m → x'.cls b = x.cls b ∧ x'.w.heap[b]? = x.w.heap[b]?) → OpsX K ρ fn ops rest n Q (a.put o.dst (.pointer (some ⟨m, 0, none⟩))) x') : OpsX K ρ fn ops (i :: rest) (n + 1) Q a x :=
  opsX_new (fun n => .pointer (some ⟨n, 0, none⟩)) ho hw (.mine ρ.i) (.inl rfl) (fun x₁ r hi => ⟨hrun x₁ r hi (· = .ok (.value (.pointer (some ⟨x₁.w.heap.size, 0, none⟩))) (pushBlk x₁.w ob)) rfl, hev x₁ r hi⟩) hn
/-- One's own block is written. -/
theorem opsX_wr {b : Nat} {ob ob' : Obj} (hm : x.cls b = .mine ρ.i) (hb0 : x.w.heap[b]? = some ob) (ho : ops[i]? = some o) (hw : Region.wanted o (yielded ops a.tmps) = true)
    (hrun : ∀ x₁, R K ρ.i x x₁ → Inv K x₁ → x₁.w.heap[b]? = some ob → ∀ Kc : Result Next → Prop, (∀ w', w' = setBlk x₁.w b ob' → Kc (.ok .skip w')) → Kc ((execOp a.eval o).run K.P x₁.w))
    (hev : ∀ x₁, R K ρ.i x x₁ → Inv K x₁ → x₁.w.heap[b]? = some ob → ∀ e ∈ listed K.P fn a o x₁.w, ∃ ad, e = ⟨.cell ad, true, false⟩ ∧ ad.block = b)
    (hn : ∀ x', Rb K ρ.i b x x' → x'.cls b = .mine ρ.i → x'.w.heap[b]? = some ob' → OpsX K ρ fn ops rest n Q (a.put o.dst undef) x') : OpsX K ρ fn ops (i :: rest) (n + 1) Q a x :=
  opsX_write ho hw hm hb0 (fun x₁ r hi h1 h2 => ⟨hrun x₁ r hi h1 (· = .ok .skip (setBlk x₁.w b ob')) fun w' e => by rw [e], fun e he => by
    obtain ⟨ad, rfl, hb⟩ := hev x₁ r hi h1 e he
    exact .write h2 (lt_of_some h1) hb⟩) hn

/-- The same in a region that draws. -/
theorem anyX_rd {md : Region.Mode} {S : Sx → Prop} {C L : Nat} {v : Value} {fuel : Nat} {listed : Array Bool} (hC : 1 ≤ C) (i : Nat) (hi : ops[i]? = some o)
    (hs : Region.noSelect ops = true) (hf : Region.free md ops listed i = true) (hr : (Region.ready md ops listed).contains i = true) (hL : waitsOn md ops L i = true)
    (hw : Region.wanted o (yielded ops a.tmps) = true)
    (hrun : ∀ x, S x → ∀ x₁, R K ρ.i x x₁ → Inv K x₁ → ∀ Kc : Result Next → Prop, Kc (.ok (.value v) x₁.w) → Kc ((execOp a.eval o).run K.P x₁.w))
    (hev : ∀ x, S x → ∀ x₁, R K ρ.i x x₁ → Inv K x₁ → ∀ e ∈ Go.Conc.listed K.P fn a o x₁.w, EvOk K ρ.i x₁ x₁.w.heap.size e)
    (hS : S x) (h : AnyX K ρ fn md ops C Q S L fuel (listed.setIfInBounds i true) (a.put o.dst v) x) : AnyX K ρ fn md ops C Q S L (fuel + 1) listed a x :=
  anyX_take hC v hi hs hf hr hL hw (fun y hy x₁ r hi => ⟨.inl (hrun y hy x₁ r hi (· = .ok (.value v) x₁.w) rfl), hev y hy x₁ r hi⟩) hS h
end
end Go.Crew
