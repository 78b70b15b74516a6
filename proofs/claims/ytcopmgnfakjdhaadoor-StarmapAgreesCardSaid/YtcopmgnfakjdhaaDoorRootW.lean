/- math.Sqrt, whole.Root, trig.Root at this program. -/
import Derived.Test.YtcopmgnfakjdhaaDoorFloat
import Derived.Test.YtcopmgnfakjdhaaDoorSinW
import Derived.Test.YtcopmgnfakjdhaaDoorIval
import Derived.Test.YtcopmgnfakjdhaaDoorBox
namespace Go.Proofs.YtcopmgnfakjdhaaDoor
open Go.RowKit
set_option linter.unusedSimpArgs false
set_option linter.unusedVariables false
theorem root_start {n : Int} (h0 : 0 ≤ n) (h1 : n ≤ 1000000000000000000) : Ieee.double.sqrt (floatOfInt .f64 n) = some (fsqrt (floatOfInt .f64 n)) ∧ ∃ s : Int, floatToIntVal .f64 (fsqrt (floatOfInt .f64 n)) .i64 = some s ∧ 0 ≤ s ∧ s ≤ 4000000000 := by
  by_cases hz : n = 0
  · subst hz
    have e : floatOfInt .f64 0 = 0 := by decide
    rw [e, fsqrt_zero.2]
    exact ⟨fsqrt_zero.1, 0, by decide, by omega, by omega⟩
  · have i0 : ((1 : Int) : Rat) = 1 := rfl
    have l : (1 : Rat) ≤ (n : Rat) := by rw [← i0]; exact Rat.intCast_le_intCast.2 (by omega)
    have i1 : ((1000000000000000000 : Int) : Rat) = 1000000000000000000 := rfl
    have u : (n : Rat) ≤ 1000000000000000000 := by rw [← i1]; exact Rat.intCast_le_intCast.2 h1
    obtain ⟨f, nr⟩ := fint_near n 1000000000000000000 (mid_of (by grind) (by grind)) (by grind) u
    unfold Near at nr
    have x0 : 0 < fv (floatOfInt .f64 n) := by
      by_cases c : n < 9007199254740992
      · rw [(fint_ok n (by omega) c).2]; grind
      · have i2 : ((9007199254740992 : Int) : Rat) = 9007199254740992 := rfl
        have : (9007199254740992 : Rat) ≤ (n : Rat) := by rw [← i2]; exact Rat.intCast_le_intCast.2 (by omega)
        grind
    obtain ⟨v, so, hs, fs, ns, s0⟩ := fsqrt_ok f x0 2000000000 (mid_of (by grind) (by grind)) (by grind) (by grind)
    refine ⟨hs, ?_⟩
    obtain ⟨k, tk, tp, -⟩ := toInt_ok fs
    obtain ⟨k1, k2, k3⟩ := tp s0
    unfold Near at ns
    have vM : v ≤ 2000000001 := by
      apply Rat.not_lt.1
      intro hl
      have p1 := so.pos; have p3 := so.hi
      have a1 := Rat.mul_lt_mul_of_pos_right hl p1
      grind
    have kb : k ≤ 4000000000 := by
      apply int_le_of_rat
      have i3 : ((4000000000 : Int) : Rat) = 4000000000 := rfl
      rw [i3]; grind
    refine ⟨k, ?_, k3, kb⟩
    exact i64_val tk (by omega) (by omega)
theorem sq_lt_sq {s t : Int} (ht : 0 ≤ t) (h : s * s < t * t) : s < t := by
  apply Int.not_le.1
  intro c
  have := Int.mul_self_le_mul_self ht c
  omega
theorem sq_le_iff {s q n : Int} (hs : 0 < s) (hq : q = n / s) : s ≤ q ↔ s * s ≤ n := by rw [hq]; exact Int.le_ediv_iff_mul_le hs
/-- What the root of a span is. -/
structure RootIs (a b r s : Int) : Prop where
  a0 : 0 ≤ a
  ab : a ≤ b
  b1 : b ≤ 1000000000000000000
  r0 : 0 ≤ r
  r1 : r * r ≤ a
  r2 : a < (r + 1) * (r + 1)
  s0 : 0 ≤ s
  s1 : b ≤ s * s
  s2 : s = 0 ∨ (s - 1) * (s - 1) < b
end Go.Proofs.YtcopmgnfakjdhaaDoor
