/- From goroutine 0 beside leavers into a crew, and back. -/
import Derived.Test.YtplmgbffaeohpaaBhC
set_option linter.unusedSimpArgs false
set_option linter.unusedVariables false
namespace Go.Beh
open Go.Conc Go.Crew
open Go.ConcN (sumTo upd)
open Go.ConcR (stA)

section
variable {B : Base} {x : M} {g : Goroutine}

/-- The state in which a crew begins. -/
noncomputable def fresh (x : M) (w : World) (t : Trace) (c : Nat) : Sx := by
  classical
  exact { w := w, t := t, cls := fun b => if x.S b then .nobody else .frozen, num := c, stg := fun _ => 0, tag := .pre }

theorem fresh_cls (x : M) (w : World) (t : Trace) (c b : Nat) : (x.S b ∧ (fresh x w t c).cls b = .nobody) ∨ (¬ x.S b ∧ (fresh x w t c).cls b = .frozen) := by
  classical
  unfold fresh
  by_cases h : x.S b
  · exact .inl ⟨h, by simp [h]⟩
  · exact .inr ⟨h, by simp [h]⟩

theorem fresh_inv {w : World} {t : Trace} {K : Crew} (hw : Wd B x w) (ht : K.t0 = t) (hw0 : K.w0 = w) (hn : K.nob = x.S) (hWg : x.h.size ≤ K.Wg) (hP : Past (shun x.S) x.h.size t) (ha : ∀ j, K.c ≤ j → Deaf t j = 0) : Inv K (fresh x w t K.c) := by
  have hsz : w.heap.size = x.h.size := by rw [hw.h]
  have none : ∀ k, ¬ Started K.toCfg (fresh x w t K.c).num k := fun k hk => absurd hk.1 (Nat.not_le.2 hk.2)
  refine ⟨?_, by rw [hw0]; rfl, by rw [hw0]; rfl, by rw [hw0]; rfl, by rw [hw0]; exact Nat.le_refl _, fun b _ => by rw [hw0]; rfl, fun b _ => by rw [hn]; exact fresh_cls ..,
    (Nat.le_add_right K.c K.n : K.c ≤ K.c + K.n), fun k hk => absurd hk (none k), rfl, fun h => absurd rfl h, fun h => (by cases h), fun b k hb => ?_, fun b k hb => ?_⟩
  · show TI K.toCfg t w.heap.size _ K.c
    rw [hsz]
    refine TI.begin K.toCfg t ht hP hWg ha _ (fun b _ => ?_) (fun ad hs _ => ?_)
    · rcases fresh_cls x w t K.c b with h | h
      · exact .inr h.2
      · exact .inl h.2
    · obtain ⟨a, e, hs⟩ := hs
      cases e
      rcases fresh_cls x w t K.c ad.block with h | h
      · exact h.2
      · exact absurd hs h.1
  · rcases fresh_cls x w t K.c b with h | h <;> rw [h.2] at hb <;> cases hb
  · rcases fresh_cls x w t K.c b with h | h <;> rw [h.2] at hb <;> cases hb

/-- INTO A CREW. -/
theorem into_crew (hs : g.status = .running)
    (mk : ∀ (w : World) (t : Trace) (c : Nat), Wd B x w → 1 ≤ c → Deaf t 0 = 0 → ∃ (K : Crew) (ρ : Role) (M n : Nat), K.P = B.P ∧ K.c = c ∧ K.t0 = t ∧ K.w0 = w ∧ K.nob = x.S ∧ x.h.size ≤ K.Wg ∧ ρ.i = 0 ∧ 1 ≤ M ∧
      (∀ k g x, ρ.Child k g x → ∃ m, 2 * m + 3 ≤ M ∧ GoX K (worker k) m g x) ∧ GoX K ρ n g (fresh x w t K.c) ∧
      ∀ a x', Inv K x' → ρ.Stop a x' → x'.tag = .done ∧ Deaf x'.t 0 = 0 ∧ ∃ y : Go.Beh.M, y.h = x'.w.heap ∧ (∀ b, y.S b ↔ (x.S b ∨ b = K.Wg)) ∧ Beh B a y) : Beh B g x := by
  intro w gs sl t q hw h0 hL hP
  have hlt : 0 < gs.size := (Array.getElem?_eq_some_iff.1 h0).1
  obtain ⟨K, ρ, M, n, hKP, hKc, hKt, hKw, hKn, hKg, hρ, hM, hC, hG, hstop⟩ := mk w t gs.size hw hlt hP.hears
  have hinv := fresh_inv hw hKt hKw hKn hKg hP (fun j hj => hL.above j (by omega))
  obtain ⟨f, hf⟩ : ∃ f : Nat → Nat, f = upd (fun i => 2 * q i) 0 (n * M + 1) := ⟨_, rfl⟩
  have hMI : MI K ρ M gs (fresh x w t K.c) f := by
    refine ⟨hinv, hKc.symm, ⟨g, h0, .inl ⟨hs, n, hG, ?_⟩⟩, fun i h1 h2 => ?_, fun k hk => absurd hk.1 (Nat.not_le.2 hk.2)⟩
    · rw [hf, Go.ConcN.upd_same]
    · have hi : i < gs.size := by omega
      refine ⟨gs[i], Array.getElem?_eq_getElem hi, q i, ?_, ?_⟩
      · rw [hKP]; exact hL.old i _ h1 (Array.getElem?_eq_getElem hi)
      · rw [hf, Go.ConcN.upd_ne _ _ (by omega)]
  obtain ⟨N, gs', sl', x', f', a, hrun, hMI', ha, hS⟩ := MI.run hρ hM hC _ gs (fresh x w t K.c) f sl hMI (Nat.le_refl _)
  obtain ⟨htag, hd0, y, hy, hyS, hB⟩ := hstop a x' hMI'.inv hS
  rw [hKP] at hrun
  refine Ends.run hrun ?_
  have hall := hMI'.inv.allGone htag
  have hinv' := hMI'.inv
  have hsy : ∀ l, shun y.S l ↔ (shun x.S l ∨ ∃ ad, l = .cell ad ∧ ad.block = K.Wg) := fun l => by
    constructor
    · rintro ⟨ad, e, hs⟩
      rcases (hyS _).1 hs with h | h
      · exact .inl ⟨ad, e, h⟩
      · exact .inr ⟨ad, e, h⟩
    · rintro (⟨ad, e, hs⟩ | ⟨ad, e, hs⟩)
      · exact ⟨ad, e, (hyS _).2 (.inl hs)⟩
      · exact ⟨ad, e, (hyS _).2 (.inr hs)⟩
  have hpast := hinv'.ti.past (Shun := shun x.S) (by rw [hKt]; exact hP) (hinv'.acq htag) hd0
  rw [← show shun y.S = _ from funext fun l => propext (hsy l), ← hy] at hpast
  refine hB x'.w gs' sl' x'.t (fun i => f' i) ⟨hy.symm, by rw [hinv'.tape, hKw]; exact hw.T, by rw [hinv'.os, hKw]; exact hw.O, by rw [hinv'.output, hKw]; exact hw.U⟩ ha ⟨fun i g2 hi hg => ?_, fun j hj => ?_⟩ hpast
  · have hil : i < gs'.size := (Array.getElem?_eq_some_iff.1 hg).1
    have quit : ∀ v, Gone K x' i v g2 → QuitsD B.P v (Deaf x'.t i) g2 := by
      rintro v ⟨p, hp, rfl⟩
      rw [hKP] at hp
      have : ∀ k n d (g : Goroutine), QuitsD B.P n d g → QuitsD B.P (n + k) d g := by
        intro k
        induction k with
        | zero => exact fun n d g h => h
        | succ k ih => exact fun n d g h => QuitsD.more1 (ih n d g h)
      have h2 := this p p _ _ hp
      rw [show 2 * p = p + p by omega]
      exact h2
    rcases hMI'.place hil with h | ⟨h1, h2⟩ | h
    · omega
    · obtain ⟨g3, h3, hgone⟩ := hMI'.old i h1 h2
      obtain rfl : g2 = g3 := by rw [hg] at h3; exact Option.some.inj h3
      exact quit _ hgone
    · obtain ⟨g3, h3, hsit⟩ := hMI'.work i h
      obtain rfl : g2 = g3 := by rw [hg] at h3; exact Option.some.inj h3
      rcases hsit with ⟨hne, _⟩ | ⟨_, hgone⟩
      · exact absurd (hall i h) hne
      · exact quit _ hgone
  · exact hinv'.ti.above j (by rw [← hMI'.size]; exact hj)
end
end Go.Beh
