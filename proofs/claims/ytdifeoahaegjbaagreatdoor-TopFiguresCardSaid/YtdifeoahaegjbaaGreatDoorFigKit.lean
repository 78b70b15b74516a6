/- What the figures' laws share: whole, a figure beside a fresh box. -/
import Derived.Test.YtdifeoahaegjbaaGreatDoorMap
import Derived.Test.YtdifeoahaegjbaaGreatDoorText
import Derived.Test.YtdifeoahaegjbaaGreatDoorReg
namespace Go.Proofs.YtdifeoahaegjbaaGreatDoor
open Go.RowKit
set_option linter.unusedSimpArgs false
set_option linter.unusedVariables false

theorem cell_set_far (w : World) {b q o : Nat} (h : q ≠ b) (x y : Value) : ((w.setCell ⟨b, 0, none⟩ x).setCell ⟨b, 1, none⟩ y).cell? ⟨q, o, none⟩ = w.cell? ⟨q, o, none⟩ :=
  (World.cell?_setCell_other _ _ _ _ (by intro e; injection e with e; exact h e.symm)).trans (World.cell?_setCell_other _ _ _ _ (by intro e; injection e with e; exact h e.symm))
theorem fgBox_int {w : World} {b o : Nat} {A B : Option Addr} {i j k l : Nat} {z : Int} (h : FgBox w b (.slice A i j) (.slice B k l)) : w.cell? ⟨b, o, none⟩ ≠ some (.int .i64 z) := by
  intro e
  rcases (by omega : o = 0 ∨ o = 1 ∨ 2 ≤ o) with rfl | rfl | ho
  · rw [h.c0] at e; cases e
  · rw [h.c1] at e; cases e
  · obtain ⟨cs, hc, hs, _⟩ := h
    have : w.cell? ⟨b, o, none⟩ = none := by
      simp only [World.cell?, hc]
      exact Array.getElem?_eq_none (by omega)
    rw [this] at e; cases e
theorem figW_set {w : World} {A : Option Addr} {n c : Nat} {zs : List Int} {B : Option Addr} {m bc b : Nat} (h : FigW w A n c zs B m bc) (hb : FgBox w b (.slice none 0 0) (.slice none 0 0)) (x y : Value) :
    FigW ((w.setCell ⟨b, 0, none⟩ x).setCell ⟨b, 1, none⟩ y) A n c zs B m bc := by
  refine ⟨⟨h.pts.le, h.pts.most, h.pts.len, fun hn => ?_⟩, h.n60, h.fx, h.fy, h.m1, h.mb, h.n2, fun hm => ?_⟩
  · obtain ⟨q, o, hA, hc⟩ := h.pts.at' hn
    have hq : q ≠ b := fun e => by
      have h0 := hc 0 (by omega)
      rw [e] at h0
      exact fgBox_int hb h0
    exact ⟨q, o, hA, fun j hj => (cell_set_far w hq x y).trans (hc j hj)⟩
  · obtain ⟨bl, g, gc, h1, h2, h3, h4, h5⟩ := h.lin hm
    have hbl : bl ≠ b := fun e => by
      rw [e, hb.c0] at h2
      injection h2 with h2
      injection h2 with h2
      cases h2
    have hg : g ≠ b := fun e => by
      rw [e] at h4
      exact fgBox_int hb h4
    exact ⟨bl, g, gc, h1, (cell_set_far w hbl x y).trans h2, h3, (cell_set_far w hg x y).trans h4, (cell_set_far w hg x y).trans h5⟩
end Go.Proofs.YtdifeoahaegjbaaGreatDoor
