/- Goroutine 0 beside goroutines that only leave: what comes of it, said of memory alone. -/
import Derived.Test.YtplmgbffaeohpaaCoM
set_option linter.unusedSimpArgs false
set_option linter.unusedVariables false
namespace Go.Beh
open Go.Conc
open Go.ConcN (sumTo upd sumTo_upd upd_ne upd_same)

/-- What stands fixed for a run: the program, what the end must be, and what of the world no step turns. -/
structure Base where
  P : Program
  Post : Value → World → Prop
  T : Nat → Question → Nat
  O : Os
  U : Array (Nat × ByteArray)

/-- Memory, and the blocks that nobody may touch plainly any more. -/
structure M where
  h : Array Obj
  S : Nat → Prop
  lt : ∀ b, S b → b < h.size

def shun (S : Nat → Prop) : Loc → Prop := fun l => ∃ ad, l = .cell ad ∧ S ad.block

structure Wd (B : Base) (x : M) (w : World) : Prop where
  h : w.heap = x.h
  T : w.tape = B.T
  O : w.os = B.O
  U : w.output = B.U

theorem Wd.at {B : Base} {x : M} {w : World} (h : Wd B x w) (d : Nat) : Wd B x (w.at d) := ⟨h.h, h.T, h.O, h.U⟩

/-- The run ends, well. -/
def Ends (B : Base) (gs : Array Goroutine) (w : World) (sl : Option (Nat × Nat)) (t : Trace) : Prop :=
  ∃ N last o w' t', runNT B.P (N + 1) (crowd gs w sl) t = (.ended o w', t') ∧ runN B.P N (crowd gs w sl) = .next last ∧ Go.step B.P last = .ended o w' ∧ Good B.P B.Post last o w' t'

/-- WHATEVER STANDS BESIDE IT, SO LONG AS IT ONLY LEAVES: with goroutine 0 at g and memory x the run ends well. -/
def Beh (B : Base) (g : Goroutine) (x : M) : Prop :=
  ∀ (w : World) (gs : Array Goroutine) (sl : Option (Nat × Nat)) (t : Trace) (q : Nat → Nat), Wd B x w → gs[0]? = some g → Leavers B.P t gs q → Past (shun x.S) x.h.size t → Ends B gs w sl t

section
variable {B : Base} {x x' : M} {g g' : Goroutine}

theorem Ends.run {n : Nat} {gs gs' : Array Goroutine} {w w' : World} {sl sl' : Option (Nat × Nat)} {t t' : Trace} (hst : runNT B.P n (crowd gs w sl) t = (.next (crowd gs' w' sl'), t')) (h : Ends B gs' w' sl' t') : Ends B gs w sl t := by
  obtain ⟨N, last, o, w2, t2, h1, h2, h3, h4⟩ := h
  refine ⟨n + N, last, o, w2, t2, ?_, ?_, h3, h4⟩
  · rw [Nat.add_assoc, runNT_add, hst]; exact h1
  · rw [runN_add, ← runNT_fst B.P n _ t, hst]; exact h2

theorem Ends.step {gs gs' : Array Goroutine} {w w' : World} {sl sl' : Option (Nat × Nat)} {t ops : Trace} (hst : stepT B.P (crowd gs w sl) = (.next (crowd gs' w' sl'), ops)) (h : Ends B gs' w' sl' (t ++ ops)) : Ends B gs w sl t :=
  .run (n := 1) (by simp only [runNT, hst]) h

/-- ONE STEP. -/
theorem Beh.step (hs : g.status = .running)
    (h : ∀ w, Wd B x w → ∃ g' w' es x', stepG B.P true g w = .go g' w' es ∧ Wd B x' w' ∧ x'.S = x.S ∧ x.h.size ≤ x'.h.size ∧ (∀ e ∈ es, EvL (shun x'.S) x'.h.size e) ∧ Beh B g' x') : Beh B g x := by
  intro w gs sl t q
  induction hμ : sumTo gs.size q using Nat.strongRecOn generalizing w gs sl t q with
  | _ μ ih =>
  intro hw h0 hL hP
  have haw : ∀ g ∈ gs, awake g := by
    intro g2 hg
    obtain ⟨i, hi, rfl⟩ := Array.mem_iff_getElem.1 hg
    rcases Nat.eq_zero_or_pos i with rfl | hpos
    · have : gs[0] = g := by simpa [Array.getElem?_eq_getElem hi] using h0
      rw [this]; exact awake_of (.inl hs)
    · exact awake_of ((hL.old i _ hpos (Array.getElem?_eq_getElem hi)).status.elim .inl fun x => .inr (.inr x))
  obtain ⟨i, g2, d, sl', hi, hg, hst⟩ := crowd_pick (P := B.P) (w := w) (sl := sl) haw ⟨0, g, h0, hs⟩
  rcases Nat.eq_zero_or_pos i with rfl | hpos
  · obtain rfl : g2 = g := by rw [h0] at hi; exact (Option.some.inj hi).symm
    obtain ⟨g', w', es, x', hgo, hw', hS, hsz, hes, hn⟩ := h (w.at d) (hw.at d)
    have hrunT := runT_crowd_go (P := B.P) (sl := sl') (i := 0) hi (show stepG B.P (0 == 0) g2 (w.at d) = _ from hgo)
    have hlt : 0 < gs.size := (Array.getElem?_eq_some_iff.1 h0).1
    refine Ends.step (hst.trans hrunT) (hn w' _ sl' _ q hw' (by simp [hlt]) ⟨fun j y hj hy => ?_, fun j hj => ?_⟩ (hS ▸ (hP.mono hsz).own (hS ▸ hes)))
    · have hne : 0 ≠ j := by omega
      rw [Array.getElem?_setIfInBounds_ne hne, Array.getElem?_map] at hy
      obtain ⟨z, hz, rfl⟩ := Option.map_eq_some_iff.1 hy
      have hq := hL.old j z hj hz
      rw [woken_quitsD hq, Deaf_other t (by omega) _ (fun op hop => by obtain ⟨e, _, rfl⟩ := Go.Conc.mem_ofEvents hop; rfl)]
      exact hq
    · rw [Deaf_other t (g' := 0) (by simp at hj; omega) _ (fun op hop => by obtain ⟨e, _, rfl⟩ := Go.Conc.mem_ofEvents hop; rfl)]
      exact hL.above j (by simpa using hj)
  · have hq := hL.old i g2 hpos hi
    have hi0 : (i == 0) = false := by simp; omega
    have hlt : i < gs.size := (Array.getElem?_eq_some_iff.1 hi).1
    cases hqi : q i with
    | zero => rw [hqi] at hq; rw [hq.1] at hg; cases hg
    | succ k =>
      rw [hqi] at hq
      rcases hq with ⟨hf, _⟩ | ⟨_, g', es, hm, hstp, hq'⟩
      · rw [hf] at hg; cases hg
      have hrunT := runT_crowd_go (P := B.P) (sl := sl') (i := i) hi (by rw [hi0]; exact hstp (w.at d))
      have hsz : ((gs.map (woken B.P g2 g' (w.at d))).setIfInBounds i g').size = gs.size := by simp
      have hsum : sumTo gs.size (upd q i k) + (k + 1) = sumTo gs.size q + k := by
        have := sumTo_upd q k id hlt
        simpa [hqi] using this
      refine Ends.step (hst.trans hrunT) (ih (sumTo gs.size (upd q i k)) (by omega) (w.at d) _ sl' _ (upd q i k) (by rw [hsz]) (hw.at d) ?_ ⟨fun j y hj hy => ?_, fun j hj => ?_⟩ (hP.mute (by omega) hm))
      · have hne : i ≠ 0 := by omega
        rw [Array.getElem?_setIfInBounds_ne hne, Array.getElem?_map, h0]
        simp [woken_run hs]
      · by_cases hji : i = j
        · subst hji
          rw [Array.getElem?_setIfInBounds_self_of_lt (by simpa using hlt)] at hy
          obtain rfl := Option.some.inj hy
          rw [upd_same, Deaf_own]
          exact hq'
        · rw [Array.getElem?_setIfInBounds_ne hji, Array.getElem?_map] at hy
          obtain ⟨z, hz, rfl⟩ := Option.map_eq_some_iff.1 hy
          have hqj := hL.old j z hj hz
          rw [woken_quitsD hqj, upd_ne q k (Ne.symm hji), Deaf_other t hji _ (fun op hop => by obtain ⟨e, _, rfl⟩ := Go.Conc.mem_ofEvents hop; rfl)]
          exact hqj
      · rw [Deaf_other t (g' := i) (by simp at hj; omega) _ (fun op hop => by obtain ⟨e, _, rfl⟩ := Go.Conc.mem_ofEvents hop; rfl)]
        exact hL.above j (by simpa using hj)

/-- THE END. -/
theorem Beh.done (hs : g.status = .running) (h : ∀ w, Wd B x w → ∃ v es, stepG B.P true g w = .ended (.done v) w es ∧ (∀ e ∈ es, EvL (shun x.S) x.h.size e) ∧ B.Post v w) : Beh B g x := by
  intro w gs sl t q hw h0 hL hP
  refine beside_ends (D := fun _ _ _ => False) (n := 0) (fun _ _ _ h => h.elim) h0 hL hP (fun w₁ hw₁ => ⟨hs, ?_⟩)
  obtain ⟨d, rfl⟩ := hw₁
  exact h _ (hw.at d)

/-- THE BEGINNING. -/
theorem Beh.begins {w : World} (h : Beh B g x) (hw : Wd B x w) (hS : x.S = fun _ => False) :
    ∃ N last o w' t', runNT B.P (N + 1) (solo g w) #[] = (.ended o w', t') ∧ runN B.P N (solo g w) = .next last ∧ Go.step B.P last = .ended o w' ∧ Good B.P B.Post last o w' t' := by
  have e : shun x.S = fun _ => False := by funext l; simp [shun, hS]
  exact h w #[g] none #[] (fun _ => 0) hw rfl (leavers_one B.P g) (by rw [e]; exact past_nil.mono (Nat.zero_le _))
end
end Go.Beh
