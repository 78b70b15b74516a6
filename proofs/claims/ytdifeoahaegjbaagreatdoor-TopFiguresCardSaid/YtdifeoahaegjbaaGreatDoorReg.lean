/- Merged by wip/tools/pack.py out of XRegF, XRegG, XRegH. -/
import Derived.WalkKit
import Derived.OrdersHeld
import Derived.StillTail
import Derived.Deep.RegionHeld
/- A region that draws its order, whose last operations turn what its loads have read: what is held of the world (F) is asked only as long as operation n has not come up. -/
namespace Go.Proofs.YtdifeoahaegjbaaGreatDoor
set_option linter.unusedVariables false
section
variable {P : Program} {ops : Array Oper} {Q : Exit → Act → World → Prop} {F : World → Prop} {n : Nat}

/-- Whatever order is picked from here on; F holds behind each operation ahead of number n. -/
def wpF (P : Program) (ops : Array Oper) (Q : Exit → Act → World → Prop) (F : World → Prop) (n : Nat) : Nat → Array Bool → Act → World → Prop
  | 0, l, a, w => Region.ready .any ops l = [] ∧ Q .normal a w
  | f + 1, l, a, w => (Region.ready .any ops l = [] → Q .normal a w) ∧ ∀ i ∈ Region.ready .any ops l, wpOp P ops Q i (fun a' w' => ((l.setIfInBounds i true).getD n false = false → F w') ∧ wpF P ops Q F n f (l.setIfInBounds i true) a' w') a w
theorem wpAny_of_F : ∀ (f : Nat) (l : Array Bool) (a : Act) (w : World), wpF P ops Q F n f l a w → wpAny P .any ops Q f l a w
  | 0, _, _, _, h => h
  | f + 1, _, _, _, h => ⟨h.1, fun i hi => wpOp_mono (fun a' w' h' => wpAny_of_F f _ a' w' h'.2) (h.2 i hi)⟩

theorem wpF_first {i : Nat} {oi : Oper} {v : Value} (hi : ops[i]? = some oi) (hsel : ∀ (j : Nat) (o : Oper) cs b, ops[j]? = some o → o.op ≠ .select cs b)
    (hQ : ∀ c a w, Q (.panic c) (a.put oi.dst v) w → Q (.panic c) a w) (hni : n ≠ i) (hwait : ∃ on, ops[n]? = some on ∧ ∃ e ∈ on.after, Region.binds .any e = true ∧ e.on = i) :
    ∀ (fuel : Nat) (l : Array Bool) (a : Act) (w : World),
      (∀ j oj, ops[j]? = some oj → j ≠ i → l.getD j true = false → (∀ e ∈ oj.after, Region.binds .any e = true → e.on ≠ i) → oi.apart ops oj = true) →
      i ∈ Region.ready .any ops l → l.getD n false = false → YieldsIf P ops F oi v a → F w →
      wpF P ops Q F n fuel (l.setIfInBounds i true) (a.put oi.dst v) w → wpF P ops Q F n (fuel + 1) l a w := by
  intro fuel
  induction fuel with
  | zero =>
    intro l a w _ hr hn hy hF H
    refine ⟨fun h => (by rw [h] at hr; cases hr), fun j hj => ?_⟩
    by_cases hji : j = i
    · subst hji; exact hy.wpOp hi hF ⟨fun _ => hF, H⟩
    · have := ready_mono hj hji
      rw [H.1] at this
      cases this
  | succ fuel ih =>
    intro l a w hfree hr hn hy hF H
    refine ⟨fun h => (by rw [h] at hr; cases hr), fun j hj => ?_⟩
    by_cases hji : j = i
    · subst hji; exact hy.wpOp hi hF ⟨fun _ => hF, H⟩
    · have h1 := H.2 j (ready_mono hj hji)
      obtain ⟨hjun, oj, hoj, hall⟩ := mem_ready.1 hj
      have hun := (mem_ready.1 hr).1
      have hnot : ∀ e ∈ oj.after, Region.binds .any e = true → e.on ≠ i := fun e he hb heq => by
        have h1 := hall e he hb
        rw [heq, getD_both hun] at h1
        cases h1
      have hnj : j ≠ n := fun e => by
        subst e
        obtain ⟨on, hon, e, he, hb, hei⟩ := hwait
        have : on = oj := Option.some.inj (hon.symm.trans hoj)
        subst this
        exact hnot e he hb hei
      have hnl : (l.setIfInBounds j true).getD n false = false := by rw [getD_set_ne false hnj]; exact hn
      have h2 := wpOp_putIf hoj (hfree j oj hoj hji hjun hnot) (fun cs b => hsel i oi cs b hi) (fun cs b => hsel j oj cs b hoj) hQ hy h1
      have hfree' : ∀ k ok, ops[k]? = some ok → k ≠ i → (l.setIfInBounds j true).getD k true = false →
          (∀ e ∈ ok.after, Region.binds .any e = true → e.on ≠ i) → oi.apart ops ok = true := fun k ok hk hki hun hno => by
        refine hfree k ok hk hki ?_ hno
        by_cases hjk : j = k
        · subst hjk; exact hjun
        · rw [getD_set_ne true hjk] at hun; exact hun
      refine wpOp_mono (fun a' w' h3 => ?_) h2
      have hF' : F w' := h3.2.1 (by rw [getD_set_ne false hnj, getD_set_ne false (Ne.symm hni)]; exact hn)
      refine ⟨fun _ => hF', ih (l.setIfInBounds j true) a' w' hfree' (ready_mono hr (Ne.symm hji)) hnl h3.1 hF' ?_⟩
      rw [Array.setIfInBounds_comm _ _ hji]
      exact h3.2.2

/-- Take number i first: it yields v in every world of which F holds; operation n waits for it. -/
theorem wpF_take (i : Nat) {oi : Oper} {v : Value} {fuel : Nat} {l : Array Bool} {a : Act} {w : World} (hi : ops[i]? = some oi)
    (hc : (Region.noSelect ops && Region.free .any ops l i && (Region.ready .any ops l).contains i && Region.waitsFor .any ops n i && !(n == i) && !(l.getD n false)) = true)
    (hQ : ∀ c a w, Q (.panic c) (a.put oi.dst v) w → Q (.panic c) a w) (hF : F w) (hw : Region.wanted oi (yielded ops a.tmps) = true) (hy : ∀ w, F w → (execOp a.eval oi).run P w = .ok (.value v) w)
    (h : wpF P ops Q F n fuel (l.setIfInBounds i true) (a.put oi.dst v) w) : wpF P ops Q F n (fuel + 1) l a w := by
  simp only [Bool.and_eq_true, Bool.not_eq_true', beq_eq_false_iff_ne] at hc
  obtain ⟨⟨⟨⟨⟨h1, h2⟩, h3⟩, h4⟩, h5⟩, h6⟩ := hc
  exact wpF_first hi (Region.noSelect_spec h1) hQ h5 (Region.waitsFor_spec h4) fuel l a w (Region.free_spec hi h2) (by simpa using h3) h6 (.inl ⟨hw, hy⟩) hF h

/-- Number i alone may come up: it is carried out; behind it F is to be shown anew, as long as n has not come up. -/
theorem wpF_step (i : Nat) {oi : Oper} {fuel : Nat} {l : Array Bool} {a : Act} {w : World} (hi : ops[i]? = some oi) (hr : Region.ready .any ops l = [i])
    (h : ∀ K' : Act → World → Prop, Shut (∀ a w, ((l.setIfInBounds i true).getD n false = false → F w) → (((l.setIfInBounds i true).getD n false = false → F w) → wpF P ops Q F n fuel (l.setIfInBounds i true) a w) → K' a w) → if Region.wanted oi (yielded ops a.tmps) = true then Oper.wp P oi a w K' Q else K' (a.put oi.dst undef) w) :
    wpF P ops Q F n (fuel + 1) l a w := by
  refine ⟨fun h0 => (by rw [hr] at h0; cases h0), fun j hj => ?_⟩
  rw [hr] at hj
  obtain rfl : j = i := by simpa using hj
  exact wpOp_step hi (fun K' hK => h K' (fun a w hS hW => hK a w ⟨hS, hW hS⟩))
theorem wpF_done {l : Array Bool} {a : Act} {w : World} (hr : Region.ready .any ops l = []) (h : Q .normal a w) : ∀ fuel, wpF P ops Q F n fuel l a w
  | 0 => ⟨hr, h⟩
  | _ + 1 => ⟨fun _ => h, by rw [hr]; simp⟩
theorem wp_region_F (F : World → Prop) (n : Nat) {id : Nat} {a : Act} {w : World} (hm : P.follows .mixedOrders = true) (h : wpF P ops Q F n ops.size (Array.replicate ops.size false) a w.drew) : (Code.region id ops true).wp P Q a w :=
  wp_region_any hm (wpAny_of_F _ _ _ _ h)
end
end Go.Proofs.YtdifeoahaegjbaaGreatDoor
/- A region that draws its order, some of whose operations turn what its loads have read: of each condition it is said up to which operation it is asked. (XRegF for a list of conditions.) -/
namespace Go.Proofs.YtdifeoahaegjbaaGreatDoor
set_option linter.unusedVariables false
section
variable {P : Program} {ops : Array Oper} {Q : Exit → Act → World → Prop} {C : List (Nat × (World → Prop))}

/-- What is held of the world while the operations l have come up. -/
def HeldC (C : List (Nat × (World → Prop))) (l : Array Bool) (w : World) : Prop := ∀ c, c ∈ C → l.getD c.1 false = false → c.2 w
def wpG (P : Program) (ops : Array Oper) (Q : Exit → Act → World → Prop) (C : List (Nat × (World → Prop))) : Nat → Array Bool → Act → World → Prop
  | 0, l, a, w => Region.ready .any ops l = [] ∧ Q .normal a w
  | f + 1, l, a, w => (Region.ready .any ops l = [] → Q .normal a w) ∧ ∀ i ∈ Region.ready .any ops l, wpOp P ops Q i (fun a' w' => HeldC C (l.setIfInBounds i true) w' ∧ wpG P ops Q C f (l.setIfInBounds i true) a' w') a w
theorem wpAny_of_G : ∀ (f : Nat) (l : Array Bool) (a : Act) (w : World), wpG P ops Q C f l a w → wpAny P .any ops Q f l a w
  | 0, _, _, _, h => h
  | f + 1, _, _, _, h => ⟨h.1, fun i hi => wpOp_mono (fun a' w' h' => wpAny_of_G f _ a' w' h'.2) (h.2 i hi)⟩

theorem heldC_same {l : Array Bool} {w : World} (h : HeldC C l w) (i : Nat) : HeldC C (l.setIfInBounds i true) w := fun c hc hl => h c hc (by
  by_cases e : i = c.1
  · rcases Nat.lt_or_ge i l.size with h' | h'
    · rw [← e] at hl; simp [h'] at hl
    · rw [← e]; simp [Array.getElem?_eq_none h']
  · rwa [getD_set_ne false e] at hl)

theorem wpG_first {i n : Nat} {F : World → Prop} (hC : (n, F) ∈ C) {oi : Oper} {v : Value} (hi : ops[i]? = some oi) (hsel : ∀ (j : Nat) (o : Oper) cs b, ops[j]? = some o → o.op ≠ .select cs b)
    (hQ : ∀ c a w, Q (.panic c) (a.put oi.dst v) w → Q (.panic c) a w) (hni : n ≠ i) (hwait : ∃ on, ops[n]? = some on ∧ ∃ e ∈ on.after, Region.binds .any e = true ∧ e.on = i)
    (hC2 : ∀ c, c ∈ C → c.1 ≠ i) :
    ∀ (fuel : Nat) (l : Array Bool) (a : Act) (w : World),
      (∀ j oj, ops[j]? = some oj → j ≠ i → l.getD j true = false → (∀ e ∈ oj.after, Region.binds .any e = true → e.on ≠ i) → oi.apart ops oj = true) →
      i ∈ Region.ready .any ops l → l.getD n false = false → YieldsIf P ops F oi v a → HeldC C l w →
      wpG P ops Q C fuel (l.setIfInBounds i true) (a.put oi.dst v) w → wpG P ops Q C (fuel + 1) l a w := by
  intro fuel
  induction fuel with
  | zero =>
    intro l a w _ hr hn hy hF H
    refine ⟨fun h => (by rw [h] at hr; cases hr), fun j hj => ?_⟩
    by_cases hji : j = i
    · subst hji; exact hy.wpOp hi (hF _ hC hn) ⟨heldC_same hF _, H⟩
    · have := ready_mono hj hji
      rw [H.1] at this
      cases this
  | succ fuel ih =>
    intro l a w hfree hr hn hy hF H
    refine ⟨fun h => (by rw [h] at hr; cases hr), fun j hj => ?_⟩
    by_cases hji : j = i
    · subst hji; exact hy.wpOp hi (hF _ hC hn) ⟨heldC_same hF _, H⟩
    · have h1 := H.2 j (ready_mono hj hji)
      obtain ⟨hjun, oj, hoj, hall⟩ := mem_ready.1 hj
      have hun := (mem_ready.1 hr).1
      have hnot : ∀ e ∈ oj.after, Region.binds .any e = true → e.on ≠ i := fun e he hb heq => by
        have h1 := hall e he hb
        rw [heq, getD_both hun] at h1
        cases h1
      have hnj : j ≠ n := fun e => by
        subst e
        obtain ⟨on, hon, e, he, hb, hei⟩ := hwait
        have : on = oj := Option.some.inj (hon.symm.trans hoj)
        subst this
        exact hnot e he hb hei
      have hnl : (l.setIfInBounds j true).getD n false = false := by rw [getD_set_ne false hnj]; exact hn
      have h2 := wpOp_putIf hoj (hfree j oj hoj hji hjun hnot) (fun cs b => hsel i oi cs b hi) (fun cs b => hsel j oj cs b hoj) hQ hy h1
      have hfree' : ∀ k ok, ops[k]? = some ok → k ≠ i → (l.setIfInBounds j true).getD k true = false →
          (∀ e ∈ ok.after, Region.binds .any e = true → e.on ≠ i) → oi.apart ops ok = true := fun k ok hk hki hun hno => by
        refine hfree k ok hk hki ?_ hno
        by_cases hjk : j = k
        · subst hjk; exact hjun
        · rw [getD_set_ne true hjk] at hun; exact hun
      refine wpOp_mono (fun a' w' h3 => ?_) h2
      have hH : HeldC C (l.setIfInBounds j true) w' := fun c hc hl => h3.2.1 c hc (by
        rw [Array.setIfInBounds_comm _ _ (Ne.symm hji), getD_set_ne false (Ne.symm (hC2 c hc))]; exact hl)
      refine ⟨hH, ih (l.setIfInBounds j true) a' w' hfree' (ready_mono hr (Ne.symm hji)) hnl h3.1 hH ?_⟩
      rw [Array.setIfInBounds_comm _ _ hji]
      exact h3.2.2

/-- Take number i first: it yields v in every world of which F holds; operation n, up to which F is asked, waits for it. -/
theorem wpG_take (i n : Nat) {F : World → Prop} {oi : Oper} {v : Value} {fuel : Nat} {l : Array Bool} {a : Act} {w : World} (hi : ops[i]? = some oi) (hC : (n, F) ∈ C)
    (hc : (Region.noSelect ops && Region.free .any ops l i && (Region.ready .any ops l).contains i && Region.waitsFor .any ops n i && !(n == i) && !(l.getD n false) && C.all (fun c => !(c.1 == i))) = true)
    (hQ : ∀ c a w, Q (.panic c) (a.put oi.dst v) w → Q (.panic c) a w) (hF : HeldC C l w) (hw : Region.wanted oi (yielded ops a.tmps) = true) (hy : ∀ w, F w → (execOp a.eval oi).run P w = .ok (.value v) w)
    (h : HeldC C (l.setIfInBounds i true) w → wpG P ops Q C fuel (l.setIfInBounds i true) (a.put oi.dst v) w) : wpG P ops Q C (fuel + 1) l a w := by
  simp only [Bool.and_eq_true, Bool.not_eq_true', beq_eq_false_iff_ne] at hc
  obtain ⟨⟨⟨⟨⟨⟨h1, h2⟩, h3⟩, h4⟩, h5⟩, h6⟩, h7⟩ := hc
  refine wpG_first hC hi (Region.noSelect_spec h1) hQ h5 (Region.waitsFor_spec h4) (fun c hc => ?_) fuel l a w (Region.free_spec hi h2) (by simpa using h3) h6 (.inl ⟨hw, hy⟩) hF (h (heldC_same hF _))
  have := List.all_eq_true.1 h7 c hc
  simpa using this

/-- Those that may come up: each is carried out; behind it the conditions are to be shown anew. -/
theorem wpG_ready {rs : List Nat} {fuel : Nat} {l : Array Bool} {a : Act} {w : World} (hr : Region.ready .any ops l = rs) (hne : rs ≠ [])
    (h : ∀ i, i ∈ rs → wpOp P ops Q i (fun a' w' => HeldC C (l.setIfInBounds i true) w' ∧ wpG P ops Q C fuel (l.setIfInBounds i true) a' w') a w) : wpG P ops Q C (fuel + 1) l a w :=
  ⟨fun h0 => absurd (hr.symm.trans h0) hne, by rw [hr]; exact h⟩
theorem wpOp_hand {i : Nat} {oi : Oper} {fuel : Nat} {l : Array Bool} {a : Act} {w : World} (hi : ops[i]? = some oi)
    (h : ∀ K' : Act → World → Prop, Shut (∀ a w, HeldC C (l.setIfInBounds i true) w → (HeldC C (l.setIfInBounds i true) w → wpG P ops Q C fuel (l.setIfInBounds i true) a w) → K' a w) → if Region.wanted oi (yielded ops a.tmps) = true then Oper.wp P oi a w K' Q else K' (a.put oi.dst undef) w) :
    wpOp P ops Q i (fun a' w' => HeldC C (l.setIfInBounds i true) w' ∧ wpG P ops Q C fuel (l.setIfInBounds i true) a' w') a w :=
  wpOp_step hi (fun K' hK => h K' (fun a w hS hW => hK a w ⟨hS, hW hS⟩))
theorem wpG_done {l : Array Bool} {a : Act} {w : World} (hr : Region.ready .any ops l = []) (h : Q .normal a w) : ∀ fuel, wpG P ops Q C fuel l a w
  | 0 => ⟨hr, h⟩
  | _ + 1 => ⟨fun _ => h, by rw [hr]; simp⟩
theorem wp_region_G (C : List (Nat × (World → Prop))) {id : Nat} {a : Act} {w : World} (hm : P.follows .mixedOrders = true) (hF : HeldC C (Array.replicate ops.size false) w.drew)
    (h : HeldC C (Array.replicate ops.size false) w.drew → wpG P ops Q C ops.size (Array.replicate ops.size false) a w.drew) : (Code.region id ops true).wp P Q a w :=
  wp_region_any hm (wpAny_of_G _ _ _ _ (h hF))
theorem all_one {p : Nat → Prop} {a : Nat} (h : p a) : ∀ i, i ∈ [a] → p i := fun i hi => by
  obtain rfl : i = a := by simpa using hi
  exact h
theorem all_two {p : Nat → Prop} {a b : Nat} (h : p a) (g : p b) : ∀ i, i ∈ [a, b] → p i := fun i hi => by
  rcases (by simpa using hi : i = a ∨ i = b) with rfl | rfl
  · exact h
  · exact g
theorem heldC_two {n1 n2 : Nat} {F1 F2 : World → Prop} {l : Array Bool} {w : World} (h1 : l.getD n1 false = false → F1 w) (h2 : l.getD n2 false = false → F2 w) : HeldC [(n1, F1), (n2, F2)] l w := fun c hc => by
  rcases (by simpa using hc : c = (n1, F1) ∨ c = (n2, F2)) with rfl | rfl
  · exact h1
  · exact h2
end
end Go.Proofs.YtdifeoahaegjbaaGreatDoor
/- A region that draws its order: an operation may be taken first if the one up to which the condition is asked waits for it through a chain of others. -/
namespace Go.Proofs.YtdifeoahaegjbaaGreatDoor
set_option linter.unusedVariables false
set_option linter.unusedSimpArgs false
section
variable {P : Program} {ops : Array Oper} {Q : Exit → Act → World → Prop} {C : List (Nat × (World → Prop))}
theorem wpG_firstC {i n : Nat} {c : List Nat} {F : World → Prop} (hC : (n, F) ∈ C) {oi : Oper} {v : Value} (hi : ops[i]? = some oi) (hsel : ∀ (j : Nat) (o : Oper) cs b, ops[j]? = some o → o.op ≠ .select cs b)
    (hQ : ∀ c a w, Q (.panic c) (a.put oi.dst v) w → Q (.panic c) a w) (hnc : n ∈ c) (hch : ∀ x, x ∈ c → x ≠ i ∧ ∃ ox, ops[x]? = some ox ∧ ∃ e ∈ ox.after, Region.binds .any e = true ∧ (e.on = i ∨ e.on ∈ c))
    (hC2 : ∀ c, c ∈ C → c.1 ≠ i) :
    ∀ (fuel : Nat) (l : Array Bool) (a : Act) (w : World),
      (∀ j oj, ops[j]? = some oj → j ≠ i → l.getD j true = false → (∀ e ∈ oj.after, Region.binds .any e = true → e.on ≠ i) → oi.apart ops oj = true) →
      i ∈ Region.ready .any ops l → (∀ x, x ∈ c → l.getD x false = false) → YieldsIf P ops F oi v a → HeldC C l w →
      wpG P ops Q C fuel (l.setIfInBounds i true) (a.put oi.dst v) w → wpG P ops Q C (fuel + 1) l a w := by
  intro fuel
  induction fuel with
  | zero =>
    intro l a w _ hr hn hy hF H
    refine ⟨fun h => (by rw [h] at hr; cases hr), fun j hj => ?_⟩
    by_cases hji : j = i
    · subst hji; exact hy.wpOp hi (hF _ hC (hn n hnc)) ⟨heldC_same hF _, H⟩
    · have := ready_mono hj hji
      rw [H.1] at this
      cases this
  | succ fuel ih =>
    intro l a w hfree hr hn hy hF H
    refine ⟨fun h => (by rw [h] at hr; cases hr), fun j hj => ?_⟩
    by_cases hji : j = i
    · subst hji; exact hy.wpOp hi (hF _ hC (hn n hnc)) ⟨heldC_same hF _, H⟩
    · have h1 := H.2 j (ready_mono hj hji)
      obtain ⟨hjun, oj, hoj, hall⟩ := mem_ready.1 hj
      have hun := (mem_ready.1 hr).1
      have hnot : ∀ e ∈ oj.after, Region.binds .any e = true → e.on ≠ i := fun e he hb heq => by
        have h1 := hall e he hb
        rw [heq, getD_both hun] at h1
        cases h1
      have hjc : ¬ j ∈ c := fun hjc => by
        obtain ⟨_, ox, hox, e, he, hb, hei⟩ := hch j hjc
        have : ox = oj := Option.some.inj (hox.symm.trans hoj)
        subst this
        rcases hei with hei | hei
        · exact hnot e he hb hei
        · have h1 := hall e he hb
          rw [hn _ hei] at h1
          cases h1
      have hnl : ∀ x, x ∈ c → (l.setIfInBounds j true).getD x false = false := fun x hx => by rw [getD_set_ne false (fun e => hjc (by rw [e]; exact hx))]; exact hn x hx
      have h2 := wpOp_putIf hoj (hfree j oj hoj hji hjun hnot) (fun cs b => hsel i oi cs b hi) (fun cs b => hsel j oj cs b hoj) hQ hy h1
      have hfree' : ∀ k ok, ops[k]? = some ok → k ≠ i → (l.setIfInBounds j true).getD k true = false →
          (∀ e ∈ ok.after, Region.binds .any e = true → e.on ≠ i) → oi.apart ops ok = true := fun k ok hk hki hun hno => by
        refine hfree k ok hk hki ?_ hno
        by_cases hjk : j = k
        · subst hjk; exact hjun
        · rw [getD_set_ne true hjk] at hun; exact hun
      refine wpOp_mono (fun a' w' h3 => ?_) h2
      have hH : HeldC C (l.setIfInBounds j true) w' := fun c hc hl => h3.2.1 c hc (by
        rw [Array.setIfInBounds_comm _ _ (Ne.symm hji), getD_set_ne false (Ne.symm (hC2 c hc))]; exact hl)
      refine ⟨hH, ih (l.setIfInBounds j true) a' w' hfree' (ready_mono hr (Ne.symm hji)) hnl h3.1 hH ?_⟩
      rw [Array.setIfInBounds_comm _ _ hji]
      exact h3.2.2

/-- The chain c leads from operation n to operation i: each waits for the next one, the last for i; none of them has come up. -/
def chainOk (ops : Array Oper) (l : Array Bool) (i : Nat) : List Nat → Bool
  | [] => true
  | [x] => Region.waitsFor .any ops x i && !(x == i) && !(l.getD x false)
  | x :: y :: c => Region.waitsFor .any ops x y && !(x == i) && !(l.getD x false) && chainOk ops l i (y :: c)
theorem chain_spec (ops : Array Oper) (l : Array Bool) (i : Nat) : ∀ c, chainOk ops l i c = true → (∀ x, x ∈ c → x ≠ i ∧ ∃ ox, ops[x]? = some ox ∧ ∃ e ∈ ox.after, Region.binds .any e = true ∧ (e.on = i ∨ e.on ∈ c)) ∧ ∀ x, x ∈ c → l.getD x false = false
  | [], _ => ⟨fun x hx => (nomatch hx), fun x hx => (nomatch hx)⟩
  | [y], h => by
    simp only [chainOk, Bool.and_eq_true, Bool.not_eq_true', beq_eq_false_iff_ne] at h
    obtain ⟨⟨h1, h2⟩, h3⟩ := h
    obtain ⟨ox, hox, e, he, hb, hei⟩ := Region.waitsFor_spec h1
    refine ⟨fun x hx => ?_, fun x hx => ?_⟩
    · obtain rfl : x = y := by simpa using hx
      exact ⟨h2, ox, hox, e, he, hb, .inl hei⟩
    · obtain rfl : x = y := by simpa using hx
      exact h3
  | y :: z :: c, h => by
    simp only [chainOk, Bool.and_eq_true, Bool.not_eq_true', beq_eq_false_iff_ne] at h
    obtain ⟨⟨⟨h1, h2⟩, h3⟩, h4⟩ := h
    obtain ⟨g1, g2⟩ := chain_spec ops l i (z :: c) h4
    obtain ⟨ox, hox, e, he, hb, hei⟩ := Region.waitsFor_spec h1
    refine ⟨fun x hx => ?_, fun x hx => ?_⟩
    · rcases List.mem_cons.1 hx with rfl | hx
      · exact ⟨h2, ox, hox, e, he, hb, .inr (by rw [hei]; exact List.mem_cons_of_mem _ (List.mem_cons_self ..))⟩
      · obtain ⟨q1, q2, q3, e', q4, q5, q6⟩ := g1 x hx
        exact ⟨q1, q2, q3, e', q4, q5, q6.elim .inl (fun q => .inr (List.mem_cons_of_mem _ q))⟩
    · rcases List.mem_cons.1 hx with rfl | hx
      · exact h3
      · exact g2 x hx
/-- Take number i first, where the operation n up to which F is asked waits for it through a chain. -/
theorem wpG_takeC (i n : Nat) (c : List Nat) {F : World → Prop} {oi : Oper} {v : Value} {fuel : Nat} {l : Array Bool} {a : Act} {w : World} (hi : ops[i]? = some oi) (hC : (n, F) ∈ C)
    (hc : (Region.noSelect ops && Region.free .any ops l i && (Region.ready .any ops l).contains i && chainOk ops l i (n :: c) && C.all (fun c => !(c.1 == i))) = true)
    (hQ : ∀ c a w, Q (.panic c) (a.put oi.dst v) w → Q (.panic c) a w) (hF : HeldC C l w) (hw : Region.wanted oi (yielded ops a.tmps) = true) (hy : ∀ w, F w → (execOp a.eval oi).run P w = .ok (.value v) w)
    (h : HeldC C (l.setIfInBounds i true) w → wpG P ops Q C fuel (l.setIfInBounds i true) (a.put oi.dst v) w) : wpG P ops Q C (fuel + 1) l a w := by
  simp only [Bool.and_eq_true] at hc
  obtain ⟨⟨⟨⟨h1, h2⟩, h3⟩, h4⟩, h7⟩ := hc
  obtain ⟨g1, g2⟩ := chain_spec ops l i _ h4
  refine wpG_firstC hC hi (Region.noSelect_spec h1) hQ (List.mem_cons_self ..) g1 (fun c hc => ?_) fuel l a w (Region.free_spec hi h2) (by simpa using h3) g2 (.inl ⟨hw, hy⟩) hF (h (heldC_same hF _))
  have := List.all_eq_true.1 h7 c hc
  simpa using this
theorem heldC_one {n1 : Nat} {F1 : World → Prop} {l : Array Bool} {w : World} (h1 : l.getD n1 false = false → F1 w) : HeldC [(n1, F1)] l w := fun c hc => by
  obtain rfl : c = (n1, F1) := by simpa using hc
  exact h1
end
end Go.Proofs.YtdifeoahaegjbaaGreatDoor
