/- A region that draws its order, whose last operations turn what its loads have read: what is held of the world (F) is asked only as long as operation n has not come up. -/
import Derived.WalkKit
import Derived.OrdersHeld
import Derived.StillTail
import Derived.Deep.RegionHeld
namespace Go.Proofs.YtdeoahgcppbmkaaDoor
set_option linter.unusedVariables false
section
variable {P : Program} {ops : Array Oper} {Q : Exit → Act → World → Prop} {F : World → Prop} {n : Nat}

/-- Whatever order is picked from here on; F holds behind each operation ahead of number n. -/
def wpF (P : Program) (ops : Array Oper) (Q : Exit → Act → World → Prop) (F : World → Prop) (n : Nat) : Nat → Array Bool → Act → World → Prop
  | 0, l, a, w => Region.ready .any ops l = [] ∧ Q .normal a w
  | f + 1, l, a, w => (Region.ready .any ops l = [] → Q .normal a w) ∧ ∀ i ∈ Region.ready .any ops l, wpOp P ops Q i (fun a' w' => ((l.setIfInBounds i true).getD n false = false → F w') ∧ wpF P ops Q F n f (l.setIfInBounds i true) a' w') a w
theorem wpAny_of_F : ∀ (f : Nat) (l : Array Bool) (a : Act) (w : World), wpF P ops Q F n f l a w → wpAny P .any ops Q f l a w
  | 0, _, _, _, h => h
  | f + 1, _, _, _, h => ⟨h.1, fun i hi => wpOp_mono (fun a' w' h' => wpAny_of_F f _ a' w' h'.2) (h.2 i hi)⟩

theorem wpF_first {i : Nat} {oi : Oper} {v : Value} (hi : ops[i]? = some oi) (hsel : ∀ (j : Nat) (o : Oper) cs b, ops[j]? = some o → o.op ≠ .select cs b)
    (hQ : ∀ c a w, Q (.panic c) (a.put oi.dst v) w → Q (.panic c) a w) (hni : n ≠ i) (hwait : ∃ on, ops[n]? = some on ∧ ∃ e ∈ on.after, Region.binds .any e = true ∧ e.on = i) :
    ∀ (fuel : Nat) (l : Array Bool) (a : Act) (w : World),
      (∀ j oj, ops[j]? = some oj → j ≠ i → l.getD j true = false → (∀ e ∈ oj.after, Region.binds .any e = true → e.on ≠ i) → oi.apart ops oj = true) →
      i ∈ Region.ready .any ops l → l.getD n false = false → YieldsIf P ops F oi v a → F w →
      wpF P ops Q F n fuel (l.setIfInBounds i true) (a.put oi.dst v) w → wpF P ops Q F n (fuel + 1) l a w := by
  intro fuel
  induction fuel with
  | zero =>
    intro l a w _ hr hn hy hF H
    refine ⟨fun h => (by rw [h] at hr; cases hr), fun j hj => ?_⟩
    by_cases hji : j = i
    · subst hji; exact hy.wpOp hi hF ⟨fun _ => hF, H⟩
    · have := ready_mono hj hji
      rw [H.1] at this
      cases this
  | succ fuel ih =>
    intro l a w hfree hr hn hy hF H
    refine ⟨fun h => (by rw [h] at hr; cases hr), fun j hj => ?_⟩
    by_cases hji : j = i
    · subst hji; exact hy.wpOp hi hF ⟨fun _ => hF, H⟩
    · have h1 := H.2 j (ready_mono hj hji)
      obtain ⟨hjun, oj, hoj, hall⟩ := mem_ready.1 hj
      have hun := (mem_ready.1 hr).1
      have hnot : ∀ e ∈ oj.after, Region.binds .any e = true → e.on ≠ i := fun e he hb heq => by
        have h1 := hall e he hb
        rw [heq, getD_both hun] at h1
        cases h1
      have hnj : j ≠ n := fun e => by
        subst e
        obtain ⟨on, hon, e, he, hb, hei⟩ := hwait
        have : on = oj := Option.some.inj (hon.symm.trans hoj)
        subst this
        exact hnot e he hb hei
      have hnl : (l.setIfInBounds j true).getD n false = false := by rw [getD_set_ne false hnj]; exact hn
      have h2 := wpOp_putIf hoj (hfree j oj hoj hji hjun hnot) (fun cs b => hsel i oi cs b hi) (fun cs b => hsel j oj cs b hoj) hQ hy h1
      have hfree' : ∀ k ok, ops[k]? = some ok → k ≠ i → (l.setIfInBounds j true).getD k true = false →
          (∀ e ∈ ok.after, Region.binds .any e = true → e.on ≠ i) → oi.apart ops ok = true := fun k ok hk hki hun hno => by
        refine hfree k ok hk hki ?_ hno
        by_cases hjk : j = k
        · subst hjk; exact hjun
        · rw [getD_set_ne true hjk] at hun; exact hun
      refine wpOp_mono (fun a' w' h3 => ?_) h2
      have hF' : F w' := h3.2.1 (by rw [getD_set_ne false hnj, getD_set_ne false (Ne.symm hni)]; exact hn)
      refine ⟨fun _ => hF', ih (l.setIfInBounds j true) a' w' hfree' (ready_mono hr (Ne.symm hji)) hnl h3.1 hF' ?_⟩
      rw [Array.setIfInBounds_comm _ _ hji]
      exact h3.2.2

/-- Take number i first: it yields v in every world of which F holds; operation n waits for it. -/
theorem wpF_take (i : Nat) {oi : Oper} {v : Value} {fuel : Nat} {l : Array Bool} {a : Act} {w : World} (hi : ops[i]? = some oi)
    (hc : (Region.noSelect ops && Region.free .any ops l i && (Region.ready .any ops l).contains i && Region.waitsFor .any ops n i && !(n == i) && !(l.getD n false)) = true)
    (hQ : ∀ c a w, Q (.panic c) (a.put oi.dst v) w → Q (.panic c) a w) (hF : F w) (hw : Region.wanted oi (yielded ops a.tmps) = true) (hy : ∀ w, F w → (execOp a.eval oi).run P w = .ok (.value v) w)
    (h : wpF P ops Q F n fuel (l.setIfInBounds i true) (a.put oi.dst v) w) : wpF P ops Q F n (fuel + 1) l a w := by
  simp only [Bool.and_eq_true, Bool.not_eq_true', beq_eq_false_iff_ne] at hc
  obtain ⟨⟨⟨⟨⟨h1, h2⟩, h3⟩, h4⟩, h5⟩, h6⟩ := hc
  exact wpF_first hi (Region.noSelect_spec h1) hQ h5 (Region.waitsFor_spec h4) fuel l a w (Region.free_spec hi h2) (by simpa using h3) h6 (.inl ⟨hw, hy⟩) hF h

/-- Number i alone may come up: it is carried out; behind it F is to be shown anew, as long as n has not come up. -/
theorem wpF_step (i : Nat) {oi : Oper} {fuel : Nat} {l : Array Bool} {a : Act} {w : World} (hi : ops[i]? = some oi) (hr : Region.ready .any ops l = [i])
    (h : ∀ K' : Act → World → Prop, Shut (∀ a w, ((l.setIfInBounds i true).getD n false = false → F w) → (((l.setIfInBounds i true).getD n false = false → F w) → wpF P ops Q F n fuel (l.setIfInBounds i true) a w) → K' a w) → if Region.wanted oi (yielded ops a.tmps) = true then Oper.wp P oi a w K' Q else K' (a.put oi.dst undef) w) :
    wpF P ops Q F n (fuel + 1) l a w := by
  refine ⟨fun h0 => (by rw [hr] at h0; cases h0), fun j hj => ?_⟩
  rw [hr] at hj
  obtain rfl : j = i := by simpa using hj
  exact wpOp_step hi (fun K' hK => h K' (fun a w hS hW => hK a w ⟨hS, hW hS⟩))
theorem wpF_done {l : Array Bool} {a : Act} {w : World} (hr : Region.ready .any ops l = []) (h : Q .normal a w) : ∀ fuel, wpF P ops Q F n fuel l a w
  | 0 => ⟨hr, h⟩
  | _ + 1 => ⟨fun _ => h, by rw [hr]; simp⟩
theorem wp_region_F (F : World → Prop) (n : Nat) {id : Nat} {a : Act} {w : World} (hm : P.follows .mixedOrders = true) (h : wpF P ops Q F n ops.size (Array.replicate ops.size false) a w.drew) : (Code.region id ops true).wp P Q a w :=
  wp_region_any hm (wpAny_of_F _ _ _ _ h)
end
end Go.Proofs.YtdeoahgcppbmkaaDoor
