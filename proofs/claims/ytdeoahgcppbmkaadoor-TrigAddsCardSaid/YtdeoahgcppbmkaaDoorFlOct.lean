/- The sine's octants in plain Lean: which octant, which polynomial. -/
import Derived.Test.YtdeoahgcppbmkaaDoorFlSin
set_option linter.unusedSimpArgs false
set_option linter.unusedVariables false
namespace Go.Proofs.YtdeoahgcppbmkaaDoor
open Ieee

/-- The octant of a word. -/
def sinJ (x : Nat) : Nat := (((double.read (fmul x 4608412980311869571)).toInt .zero).getD 0).toNat
def evJ (j : Nat) : Nat := j + j % 2
def sinR (e z : Nat) : Nat := match e with | 0 => wS z | 2 => wC z | 4 => fneg (wS z) | 6 => fneg (wC z) | 8 => wS z | _ => 0
def cosR (e z : Nat) : Nat := match e with | 0 => wC z | 2 => fneg (wS z) | 4 => fneg (wC z) | 6 => wS z | 8 => wC z | _ => 0
def redZ (x : Nat) : Nat := octz x (floatOfInt .f64 ((evJ (sinJ x) : Nat) : Int))
/-- The sine of a word from 0 to 7. -/
def sinB (x : Nat) : Nat := if double.order x 0 = some .eq then x else sinR (evJ (sinJ x)) (redZ x)
/-- The cosine of a word from 0 to 7. -/
def cosB (x : Nat) : Nat := cosR (evJ (sinJ x)) (redZ x)

theorem floatBits_mul (x y : Nat) : floatBits .mul .f64 x y = double.mul x y := rfl
structure OctJ (x : Nat) (X : Rat) (j : Nat) : Prop where
  le : j ≤ 8
  eq : sinJ x = j
  mul : floatBits .mul .f64 x 4608412980311869571 = some (fmul x 4608412980311869571)
  int : floatToIntVal .f64 (fmul x 4608412980311869571) .u64 = some (j : Int)
  lo : (j : Rat) - 2 / 1000000000000000 ≤ X * kP
  hi : X * kP ≤ (j : Rat) + 1 + 2 / 1000000000000000
theorem octJ_ok {x : Nat} (hf : Fin x) (h0 : 0 ≤ fv x) (h7 : fv x ≤ 7) : ∃ j, OctJ x (fv x) j := by
  have hx : Ap x (fv x) 0 7 := Ap.exact hf (by grind) h7
  obtain ⟨i1, s1⟩ := Ap.mul hx ap_kP (1 / 1000000000000000) (9) (9) (mid_of (by grind) (by grind)) (by grind) (by grind) (by grind)
  have hp0 : 0 ≤ fv x * kP := Rat.mul_nonneg h0 (by unfold kP; grind)
  have hp9 : fv x * kP ≤ 7 * (127324 / 100000) := by
    unfold kP
    grind
  have l1 := s1.lo; have l2 := s1.hi
  obtain ⟨k, hk, k1, k2⟩ := toInt_ok s1.fin
  have hki : 0 ≤ k ∧ k ≤ 8 ∧ (k : Rat) - 2 / 1000000000000000 ≤ fv x * kP ∧ fv x * kP ≤ (k : Rat) + 1 + 2 / 1000000000000000 := by
    rcases Rat.le_total (a := 0) (b := fv (fmul x 4608412980311869571)) with c | c
    · obtain ⟨a1, a2, a3⟩ := k1 c
      refine ⟨a3, ?_, by grind, by grind⟩
      have : (k : Rat) < ((9 : Int) : Rat) := by
        have e9 : ((9 : Int) : Rat) = 9 := rfl
        rw [e9]; grind
      have : k < 9 := by exact_mod_cast this
      omega
    · obtain ⟨a1, a2, a3⟩ := k2 c
      have : ((-1 : Int) : Rat) < (k : Rat) := by
        have e9 : ((-1 : Int) : Rat) = -1 := rfl
        rw [e9]; grind
      have : -1 < k := by exact_mod_cast this
      have hk0 : k = 0 := by omega
      subst hk0
      have e0 : ((0 : Int) : Rat) = 0 := rfl
      rw [e0]
      exact ⟨by omega, by omega, by grind, by grind⟩
  obtain ⟨b1, b2, b3, b4⟩ := hki
  obtain ⟨j, rfl⟩ := Int.eq_ofNat_of_zero_le b1
  refine ⟨j, by omega, ?_, i1, ?_, ?_, ?_⟩
  · unfold sinJ; rw [hk]; simp
  · unfold floatToIntVal
    have : (FloatKind.f64.decode (fmul x 4608412980311869571)).toInt .zero = some (j : Int) := hk
    rw [this]
    dsimp only
    rw [if_pos]
    have m1 : IntKind.u64.min = 0 := rfl
    have m2 : IntKind.u64.max = 18446744073709551615 := rfl
    rw [m1, m2]; omega
  · have : ((j : Nat) : Int) = (j : Int) := rfl
    rw [Rat.intCast_natCast] at b3; exact b3
  · rw [Rat.intCast_natCast] at b4; exact b4

/-- The reduced word: how it comes about, and what it stands for. -/
structure OctZ (x : Nat) (e : Nat) (yw z : Nat) : Prop where
  eq : z = redZ x
  steps : ∃ r1 r2 r3 r4 r5 : Nat, floatBits .mul .f64 yw 4605249456957292544 = some r1 ∧ floatBits .sub .f64 x r1 = some r2 ∧ floatBits .mul .f64 yw 4495793288086814720 = some r3 ∧ floatBits .sub .f64 r2 r3 = some r4 ∧ floatBits .mul .f64 yw 4388835458085048688 = some r5 ∧ floatBits .sub .f64 r4 r5 = some z
  ap : Ap z (fv x - (e : Rat) * qq) (2 / 1000000000000000) (393 / 500)
theorem yw_ok (e : Nat) (he : e ≤ 8) : Ap (floatOfInt .f64 (e : Int)) (e : Rat) 0 8 := by
  obtain ⟨f, v⟩ := fint_ok (e : Int) (by omega) (by omega)
  rw [Rat.intCast_natCast] at v
  have h1 := nat_nonneg e
  have h2 : (e : Rat) ≤ ((8 : Nat) : Rat) := by exact_mod_cast he
  have e8 : ((8 : Nat) : Rat) = 8 := rfl
  rw [e8] at h2
  rw [← v]
  exact Ap.exact f (by rw [v]; grind) (by rw [v]; grind)
theorem octZ_ok {x : Nat} (hf : Fin x) (h0 : 0 ≤ fv x) (h7 : fv x ≤ 7) {j : Nat} (h : OctJ x (fv x) j) : ∃ z, OctZ x (evJ j) (floatOfInt .f64 ((evJ j : Nat) : Int)) z := by
  have hx : Ap x (fv x) 0 7 := Ap.exact hf (by grind) h7
  have he : evJ j ≤ 8 := by unfold evJ; have := h.le; omega
  have hy := yw_ok (evJ j) he
  obtain ⟨E, hE⟩ : ∃ E : Rat, E = ((evJ j : Nat) : Rat) := ⟨_, rfl⟩
  have hl := h.lo; have hh := h.hi
  have hj0 := nat_nonneg j
  have hj8 : (j : Rat) ≤ 8 := by
    have : (j : Rat) ≤ ((8 : Nat) : Rat) := by exact_mod_cast h.le
    have e8 : ((8 : Nat) : Rat) = 8 := rfl
    rw [e8] at this; exact this
  have hJ : E = (j : Rat) ∨ E = (j : Rat) + 1 := by
    rw [hE]; unfold evJ
    rcases Nat.mod_two_eq_zero_or_one j with c | c
    · left; rw [c]; rfl
    · right; rw [c, Rat.natCast_add]; rfl
  rw [← hE] at hy
  have h1 : -(1571 / 2000) ≤ fv x - E * kA ∧ fv x - E * kA ≤ 1571 / 2000 := by
    unfold kA; unfold kP at hl hh
    rcases hJ with c | c <;> rw [c] <;> constructor <;> grind
  have h2 : -(1571 / 2000) ≤ fv x - E * kA - E * kB ∧ fv x - E * kA - E * kB ≤ 1571 / 2000 := by
    unfold kA kB; unfold kP at hl hh
    rcases hJ with c | c <;> rw [c] <;> constructor <;> grind
  have h3 : -(1571 / 2000) ≤ fv x - E * kA - E * kB - E * kC ∧ fv x - E * kA - E * kB - E * kC ≤ 1571 / 2000 := by
    unfold kA kB kC; unfold kP at hl hh
    rcases hJ with c | c <;> rw [c] <;> constructor <;> grind
  obtain ⟨r1, r2, r3, r4, r5, r6, i1, i2, i3, i4, i5, i6, hz, ap⟩ := octz_ok hx hy h1 h2 h3
  refine ⟨r6, ?_, ⟨r1, r2, r3, r4, r5, i1, i2, i3, i4, i5, i6⟩, ?_⟩
  · rw [hz]; unfold redZ; rw [h.eq]
  · have e : fv x - E * kA - E * kB - E * kC = fv x - ((evJ j : Nat) : Rat) * qq := by rw [← hE]; unfold qq; grind
    rw [← e]
    exact ap.weak (by grind) (by grind)
end Go.Proofs.YtdeoahgcppbmkaaDoor
