/- A region that draws its order: an operation may be taken first if the one up to which the condition is asked waits for it through a chain of others. -/
import Derived.Test.YtdeoahgcppbmkaaDoorRegG
namespace Go.Proofs.YtdeoahgcppbmkaaDoor
set_option linter.unusedVariables false
set_option linter.unusedSimpArgs false
section
variable {P : Program} {ops : Array Oper} {Q : Exit → Act → World → Prop} {C : List (Nat × (World → Prop))}
theorem wpG_firstC {i n : Nat} {c : List Nat} {F : World → Prop} (hC : (n, F) ∈ C) {oi : Oper} {v : Value} (hi : ops[i]? = some oi) (hsel : ∀ (j : Nat) (o : Oper) cs b, ops[j]? = some o → o.op ≠ .select cs b)
    (hQ : ∀ c a w, Q (.panic c) (a.put oi.dst v) w → Q (.panic c) a w) (hnc : n ∈ c) (hch : ∀ x, x ∈ c → x ≠ i ∧ ∃ ox, ops[x]? = some ox ∧ ∃ e ∈ ox.after, Region.binds .any e = true ∧ (e.on = i ∨ e.on ∈ c))
    (hC2 : ∀ c, c ∈ C → c.1 ≠ i) :
    ∀ (fuel : Nat) (l : Array Bool) (a : Act) (w : World),
      (∀ j oj, ops[j]? = some oj → j ≠ i → l.getD j true = false → (∀ e ∈ oj.after, Region.binds .any e = true → e.on ≠ i) → oi.apart ops oj = true) →
      i ∈ Region.ready .any ops l → (∀ x, x ∈ c → l.getD x false = false) → YieldsIf P ops F oi v a → HeldC C l w →
      wpG P ops Q C fuel (l.setIfInBounds i true) (a.put oi.dst v) w → wpG P ops Q C (fuel + 1) l a w := by
  intro fuel
  induction fuel with
  | zero =>
    intro l a w _ hr hn hy hF H
    refine ⟨fun h => (by rw [h] at hr; cases hr), fun j hj => ?_⟩
    by_cases hji : j = i
    · subst hji; exact hy.wpOp hi (hF _ hC (hn n hnc)) ⟨heldC_same hF _, H⟩
    · have := ready_mono hj hji
      rw [H.1] at this
      cases this
  | succ fuel ih =>
    intro l a w hfree hr hn hy hF H
    refine ⟨fun h => (by rw [h] at hr; cases hr), fun j hj => ?_⟩
    by_cases hji : j = i
    · subst hji; exact hy.wpOp hi (hF _ hC (hn n hnc)) ⟨heldC_same hF _, H⟩
    · have h1 := H.2 j (ready_mono hj hji)
      obtain ⟨hjun, oj, hoj, hall⟩ := mem_ready.1 hj
      have hun := (mem_ready.1 hr).1
      have hnot : ∀ e ∈ oj.after, Region.binds .any e = true → e.on ≠ i := fun e he hb heq => by
        have h1 := hall e he hb
        rw [heq, getD_both hun] at h1
        cases h1
      have hjc : ¬ j ∈ c := fun hjc => by
        obtain ⟨_, ox, hox, e, he, hb, hei⟩ := hch j hjc
        have : ox = oj := Option.some.inj (hox.symm.trans hoj)
        subst this
        rcases hei with hei | hei
        · exact hnot e he hb hei
        · have h1 := hall e he hb
          rw [hn _ hei] at h1
          cases h1
      have hnl : ∀ x, x ∈ c → (l.setIfInBounds j true).getD x false = false := fun x hx => by rw [getD_set_ne false (fun e => hjc (by rw [e]; exact hx))]; exact hn x hx
      have h2 := wpOp_putIf hoj (hfree j oj hoj hji hjun hnot) (fun cs b => hsel i oi cs b hi) (fun cs b => hsel j oj cs b hoj) hQ hy h1
      have hfree' : ∀ k ok, ops[k]? = some ok → k ≠ i → (l.setIfInBounds j true).getD k true = false →
          (∀ e ∈ ok.after, Region.binds .any e = true → e.on ≠ i) → oi.apart ops ok = true := fun k ok hk hki hun hno => by
        refine hfree k ok hk hki ?_ hno
        by_cases hjk : j = k
        · subst hjk; exact hjun
        · rw [getD_set_ne true hjk] at hun; exact hun
      refine wpOp_mono (fun a' w' h3 => ?_) h2
      have hH : HeldC C (l.setIfInBounds j true) w' := fun c hc hl => h3.2.1 c hc (by
        rw [Array.setIfInBounds_comm _ _ (Ne.symm hji), getD_set_ne false (Ne.symm (hC2 c hc))]; exact hl)
      refine ⟨hH, ih (l.setIfInBounds j true) a' w' hfree' (ready_mono hr (Ne.symm hji)) hnl h3.1 hH ?_⟩
      rw [Array.setIfInBounds_comm _ _ hji]
      exact h3.2.2

/-- The chain c leads from operation n to operation i: each waits for the next one, the last for i; none of them has come up. -/
def chainOk (ops : Array Oper) (l : Array Bool) (i : Nat) : List Nat → Bool
  | [] => true
  | [x] => Region.waitsFor .any ops x i && !(x == i) && !(l.getD x false)
  | x :: y :: c => Region.waitsFor .any ops x y && !(x == i) && !(l.getD x false) && chainOk ops l i (y :: c)
theorem chain_spec (ops : Array Oper) (l : Array Bool) (i : Nat) : ∀ c, chainOk ops l i c = true → (∀ x, x ∈ c → x ≠ i ∧ ∃ ox, ops[x]? = some ox ∧ ∃ e ∈ ox.after, Region.binds .any e = true ∧ (e.on = i ∨ e.on ∈ c)) ∧ ∀ x, x ∈ c → l.getD x false = false
  | [], _ => ⟨fun x hx => (nomatch hx), fun x hx => (nomatch hx)⟩
  | [y], h => by
    simp only [chainOk, Bool.and_eq_true, Bool.not_eq_true', beq_eq_false_iff_ne] at h
    obtain ⟨⟨h1, h2⟩, h3⟩ := h
    obtain ⟨ox, hox, e, he, hb, hei⟩ := Region.waitsFor_spec h1
    refine ⟨fun x hx => ?_, fun x hx => ?_⟩
    · obtain rfl : x = y := by simpa using hx
      exact ⟨h2, ox, hox, e, he, hb, .inl hei⟩
    · obtain rfl : x = y := by simpa using hx
      exact h3
  | y :: z :: c, h => by
    simp only [chainOk, Bool.and_eq_true, Bool.not_eq_true', beq_eq_false_iff_ne] at h
    obtain ⟨⟨⟨h1, h2⟩, h3⟩, h4⟩ := h
    obtain ⟨g1, g2⟩ := chain_spec ops l i (z :: c) h4
    obtain ⟨ox, hox, e, he, hb, hei⟩ := Region.waitsFor_spec h1
    refine ⟨fun x hx => ?_, fun x hx => ?_⟩
    · rcases List.mem_cons.1 hx with rfl | hx
      · exact ⟨h2, ox, hox, e, he, hb, .inr (by rw [hei]; exact List.mem_cons_of_mem _ (List.mem_cons_self ..))⟩
      · obtain ⟨q1, q2, q3, e', q4, q5, q6⟩ := g1 x hx
        exact ⟨q1, q2, q3, e', q4, q5, q6.elim .inl (fun q => .inr (List.mem_cons_of_mem _ q))⟩
    · rcases List.mem_cons.1 hx with rfl | hx
      · exact h3
      · exact g2 x hx
/-- Take number i first, where the operation n up to which F is asked waits for it through a chain. -/
theorem wpG_takeC (i n : Nat) (c : List Nat) {F : World → Prop} {oi : Oper} {v : Value} {fuel : Nat} {l : Array Bool} {a : Act} {w : World} (hi : ops[i]? = some oi) (hC : (n, F) ∈ C)
    (hc : (Region.noSelect ops && Region.free .any ops l i && (Region.ready .any ops l).contains i && chainOk ops l i (n :: c) && C.all (fun c => !(c.1 == i))) = true)
    (hQ : ∀ c a w, Q (.panic c) (a.put oi.dst v) w → Q (.panic c) a w) (hF : HeldC C l w) (hw : Region.wanted oi (yielded ops a.tmps) = true) (hy : ∀ w, F w → (execOp a.eval oi).run P w = .ok (.value v) w)
    (h : HeldC C (l.setIfInBounds i true) w → wpG P ops Q C fuel (l.setIfInBounds i true) (a.put oi.dst v) w) : wpG P ops Q C (fuel + 1) l a w := by
  simp only [Bool.and_eq_true] at hc
  obtain ⟨⟨⟨⟨h1, h2⟩, h3⟩, h4⟩, h7⟩ := hc
  obtain ⟨g1, g2⟩ := chain_spec ops l i _ h4
  refine wpG_firstC hC hi (Region.noSelect_spec h1) hQ (List.mem_cons_self ..) g1 (fun c hc => ?_) fuel l a w (Region.free_spec hi h2) (by simpa using h3) g2 (.inl ⟨hw, hy⟩) hF (h (heldC_same hF _))
  have := List.all_eq_true.1 h7 c hc
  simpa using this
theorem heldC_one {n1 : Nat} {F1 : World → Prop} {l : Array Bool} {w : World} (h1 : l.getD n1 false = false → F1 w) : HeldC [(n1, F1)] l w := fun c hc => by
  obtain rfl : c = (n1, F1) := by simpa using hc
  exact h1
end
end Go.Proofs.YtdeoahgcppbmkaaDoor
