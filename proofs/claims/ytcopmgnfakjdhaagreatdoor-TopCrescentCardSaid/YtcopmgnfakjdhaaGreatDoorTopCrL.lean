/- The lunation of a young moon, plain. -/
import Derived.Test.YtcopmgnfakjdhaaGreatDoorPhs
namespace Go.Proofs.YtcopmgnfakjdhaaGreatDoor
set_option linter.unusedSimpArgs false
set_option linter.unusedVariables false
/-- What is known of the lunation of an instant at which the moon is young. -/
structure YoungK (x k : Int) : Prop where
  n0 : (x - 977949455) / 2551442878 ≤ k
  n1 : k ≤ (x - 977949455) / 2551442878 + 1
  b : -99000 ≤ k ∧ k ≤ 99000
  a : (phF k 0).2 < x
  l : x - (phF k 0).1 < 777600000
  p : (phF k 0).1 ≤ (phF k 0).2
  g : x < (phF (k + 1) 0).1
theorem young_k {x : Int} (x0 : -250700000000000 ≤ x) (x1 : x ≤ 250700000000000) (h1 : 27777778 < elLo x) (h2 : elHi x < 250000000) : ∃ k, YoungK x k := by
  obtain ⟨k, a1, a2, a3, a4⟩ := el_at x
  obtain ⟨n, hn⟩ : ∃ n, n = (x - 977949455) / 2551442878 := ⟨_, rfl⟩
  have nb : -99000 < n ∧ n < 98999 := by omega
  have m0 : phM n 0 ≤ x := by unfold phM; omega
  have m1 : x ≤ phM (n + 1) 0 := by unfold phM; omega
  have e0 := (el_mid (k := n) (q := 0) (by omega) (by omega) (by omega) (by omega)).1
  have e1 := (el_mid (k := n + 1) (q := 0) (by omega) (by omega) (by omega) (by omega)).2
  have f0 := el_le m0
  have f1 := el_le m1
  have g1 := Rat.intCast_lt_intCast.2 h1
  have g2 := Rat.intCast_lt_intCast.2 h2
  rw [show ((27777778 : Int) : Rat) = 27777778 from rfl] at g1
  rw [show ((250000000 : Int) : Rat) = 250000000 from rfl] at g2
  have z0 : ((0 : Int) : Rat) = 0 := rfl
  rw [z0] at e0 e1
  rw [Rat.intCast_add, show ((1 : Int) : Rat) = 1 from rfl] at e1
  have X0 : 27790000 + 1000000000 * (k : Rat) ≤ elT (x : Rat) := by
    clear e0 e1 f0 f1 a2 a3 a4; grind
  have X1 : elT (x : Rat) ≤ 249990000 + 1000000000 * (k : Rat) := by
    clear e0 e1 f0 f1 a1 a2 a4; grind
  clear a1 a2 a3 a4 g1 g2
  have k0 : n ≤ k := by
    apply Int.not_lt.1
    intro l
    have l := Rat.intCast_le_intCast.2 (show k ≤ n - 1 by omega)
    rw [Rat.intCast_sub, show ((1 : Int) : Rat) = 1 from rfl] at l
    clear e1 f1 X0
    generalize elT ((phM n 0 : Int) : Rat) = u at *
    generalize elT (x : Rat) = v at *
    grind
  have k1 : k ≤ n + 1 := by
    apply Int.not_lt.1
    intro l
    have l := Rat.intCast_le_intCast.2 (show n + 2 ≤ k by omega)
    rw [Rat.intCast_add, show ((2 : Int) : Rat) = 2 from rfl] at l
    clear e0 f0 X1
    generalize elT ((phM (n + 1) 0 : Int) : Rat) = u at *
    generalize elT (x : Rat) = v at *
    grind
  clear e0 e1 f0 f1 m0 m1
  obtain ⟨c, C⟩ := ph_in (k := k) (q := 0) (by omega) (by omega) (by omega) (by omega)
  obtain ⟨c', C'⟩ := ph_in (k := k + 1) (q := 0) (by omega) (by omega) (by omega) (by omega)
  have ca := C.x.a
  have cb := C.x.at'
  have da := C'.x.a
  rw [z0] at ca cb da
  rw [Rat.intCast_add, show ((1 : Int) : Rat) = 1 from rfl] at da
  have w1 := C.w; have w2 := C.b; have w3 := C.c
  have v1 := C'.w; have v2 := C'.b; have v3 := C'.c
  clear C C'
  refine ⟨k, by omega, by omega, by omega, ?_, ?_, by omega, ?_⟩
  · apply Int.not_le.1
    intro l
    have f := el_le (show x ≤ c + 600000 by omega)
    have m := (el_move (c : Rat) (d := 600000) (by grind)).2
    rw [Rat.intCast_add, show ((600000 : Int) : Rat) = 600000 from rfl] at f
    clear X1 ca da
    generalize elT ((c : Rat) + 600000) = u at *
    generalize elT (c : Rat) = v at *
    generalize elT (x : Rat) = y at *
    grind
  · apply Int.not_le.1
    intro l
    have f := el_le (show c + 776399999 ≤ x by omega)
    have m := (el_b (c : Rat)).1
    rw [Rat.intCast_add, show ((776399999 : Int) : Rat) = 776399999 from rfl] at f
    clear X0 cb da
    generalize elT ((c : Rat) + 776399999) = u at *
    generalize elT (c : Rat) = v at *
    generalize elT (x : Rat) = y at *
    grind
  · apply Int.not_le.1
    intro l
    have f := el_le (show c' ≤ x + 600000 by omega)
    have m := (el_move (x : Rat) (d := 600000) (by grind)).2
    rw [Rat.intCast_add, show ((600000 : Int) : Rat) = 600000 from rfl] at f
    clear X0 cb ca
    generalize elT ((x : Rat) + 600000) = u at *
    generalize elT (c' : Rat) = v at *
    generalize elT (x : Rat) = y at *
    grind
end Go.Proofs.YtcopmgnfakjdhaaGreatDoor
