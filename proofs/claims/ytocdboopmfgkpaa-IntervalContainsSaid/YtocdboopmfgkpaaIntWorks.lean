/- The package's example, as the laws ask of it. -/
import Derived.Test.YtocdboopmfgkpaaIntDiv
namespace Go.Proofs.Ytocdboopmfgkpaa
open Go.RowKit
set_option linter.unusedSimpArgs false
set_option linter.unusedVariables false

set_option maxHeartbeats 1000000 in
theorem intervalWorks_ok (w : World) :
    Calls Try.prog 8 #[] w fun e w' => e = .returned (.bool true) ∧ Below w.heap.size w w' := by
  have m0 : pLo (-2) 3 4 5 1 = -10 := by decide
  have m1 : pHi (-2) 3 4 5 1 = 15 := by decide
  have m2 : dLo 7 (2 : Nat) (4 : Nat) = 1 := by decide
  have m3 : dHi 10 (2 : Nat) (4 : Nat) = 5 := by decide
  have m4 : pLo 1 2 (-3) (-3) (2 : Nat) = -3 := by decide
  have m5 : pHi 1 2 (-3) (-3) (2 : Nat) = -1 := by decide
  have m6 : signV (-2) (-1) = -1 := by decide
  have m7 : signE (-2) (-1) = 0 := by decide
  have M0 := Lib.hid m0; have M1 := Lib.hid m1; have M2 := Lib.hid m2; have M3 := Lib.hid m3; have M4 := Lib.hid m4; have M5 := Lib.hid m5; have M6 := Lib.hid m6; have M7 := Lib.hid m7
  clear m0 m1 m2 m3 m4 m5 m6 m7
  have q0 := fun w => mul_ok (-2) 3 4 5 w ⟨by omega, by omega, by omega⟩ ⟨by omega, by omega, by omega⟩ ⟨by decide, by decide, by decide, by decide⟩ ⟨by decide, by decide, by decide⟩
  have q1 := fun w => div_pos 7 10 2 4 w ⟨by omega, by omega, by omega⟩ ⟨by omega, by omega, by omega⟩ (by omega)
  have q2 := fun w => scale_ok 1 2 (-3) 2 w ⟨by omega, by omega, by omega⟩ (by omega) (by omega) (by omega) ⟨by decide, by decide, by decide, by decide⟩ ⟨by decide, by decide, by decide⟩
  have q3 := fun w => sign_ok (-2) (-1) w ⟨by omega, by omega, by omega⟩
  have q4 := fun w => add_ok 1 2 3 5 w ⟨by omega, by omega, by omega⟩ ⟨by omega, by omega, by omega⟩ ⟨by omega, by omega, by omega⟩
  have Q0 := Lib.hid q0; have Q1 := Lib.hid q1; have Q2 := Lib.hid q2; have Q3 := Lib.hid q3; have Q4 := Lib.hid q4
  clear q0 q1 q2 q3 q4
  go_enter Try.func8, Try.ntmps8
  go_wp2_with fail
  refine Calls.mono (Q0.out _) ?_
  rintro e w1 ⟨rfl, hb⟩
  obtain ⟨hb1, hz1, hc1, hf1⟩ := took (w := w) (by repeat' (first | (with_reducible refine below_drewN ?_ _) | go_grown)) (by first | (simp only [World.size_alloc, World.size_setCell, World.size_drew, size_drewN]; done) | (simp only [World.size_alloc, World.size_setCell, World.size_drew, size_drewN]; rfl) | rfl) hb; clear hb
  rw [M0.out, M1.out]
  go_wp2_with fail
  refine Calls.mono (Q1.out _) ?_
  rintro e w2 ⟨rfl, hb⟩
  obtain ⟨hb2, hz2, hc2, hf2⟩ := took (w := w) (by repeat' (first | (with_reducible refine below_drewN ?_ _) | go_grown)) (by first | (simp only [World.size_alloc, World.size_setCell, World.size_drew, size_drewN]; done) | (simp only [World.size_alloc, World.size_setCell, World.size_drew, size_drewN]; rfl) | rfl) hb; clear hb
  rw [M2.out, M3.out]
  have z1 : w1.heap.size < w2.heap.size := by omega
  go_wp2_with fail
  refine Calls.mono (Q2.out _) ?_
  rintro e w3 ⟨rfl, hb⟩
  obtain ⟨hb3, hz3, hc3, hf3⟩ := took (w := w) (by repeat' (first | (with_reducible refine below_drewN ?_ _) | go_grown)) (by first | (simp only [World.size_alloc, World.size_setCell, World.size_drew, size_drewN]; done) | (simp only [World.size_alloc, World.size_setCell, World.size_drew, size_drewN]; rfl) | rfl) hb; clear hb
  rw [M4.out, M5.out]
  have z2 : w1.heap.size < w3.heap.size := by omega
  have z3 : w2.heap.size < w3.heap.size := by omega
  go_wp2_with fail
  refine Calls.mono (Q3.out _) ?_
  rintro e w4 ⟨rfl, hb⟩
  obtain ⟨hb4, hz4, hc4, hf4⟩ := took (w := w) (by repeat' (first | (with_reducible refine below_drewN ?_ _) | go_grown)) (by first | (simp only [World.size_alloc, World.size_setCell, World.size_drew, size_drewN]; done) | (simp only [World.size_alloc, World.size_setCell, World.size_drew, size_drewN]; rfl) | rfl) hb; clear hb
  rw [M6.out, M7.out]
  have z4 : w1.heap.size < w4.heap.size := by omega
  have z5 : w2.heap.size < w4.heap.size := by omega
  have z6 : w3.heap.size < w4.heap.size := by omega
  go_wp2_with fail
  refine Calls.mono (Q4.out _) ?_
  rintro e w5 ⟨rfl, hb⟩
  obtain ⟨hb5, hz5, hc5, hf5⟩ := took (w := w) (by repeat' (first | (with_reducible refine below_drewN ?_ _) | go_grown)) (by first | (simp only [World.size_alloc, World.size_setCell, World.size_drew, size_drewN]; done) | (simp only [World.size_alloc, World.size_setCell, World.size_drew, size_drewN]; rfl) | rfl) hb; clear hb
  have z7 : w1.heap.size < w5.heap.size := by omega
  have z8 : w2.heap.size < w5.heap.size := by omega
  have z9 : w3.heap.size < w5.heap.size := by omega
  go_wp2_with fail
  go_returns
  exact ⟨rfl, by repeat' (first | (with_reducible refine below_drewN ?_ _) | go_grown)⟩

end Go.Proofs.Ytocdboopmfgkpaa
