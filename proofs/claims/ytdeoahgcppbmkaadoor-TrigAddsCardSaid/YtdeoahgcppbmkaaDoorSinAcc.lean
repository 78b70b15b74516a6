/- How far the words of sines and cosines are from the polynomials. Plain. -/
import Derived.Test.YtdeoahgcppbmkaaDoorFlOct
set_option linter.unusedSimpArgs false
set_option linter.unusedVariables false
namespace Go.Proofs.YtdeoahgcppbmkaaDoor
open Ieee

/-- The sine and the cosine at t behind the e-th eighth of a turn. -/
def sgnP (e : Nat) (t : Rat) : Rat := match e with | 0 => PS t | 2 => PC t | 4 => -PS t | 6 => -PC t | 8 => PS t | _ => 0
def sgnC (e : Nat) (t : Rat) : Rat := match e with | 0 => PC t | 2 => -PS t | 4 => -PC t | 6 => PS t | 8 => PC t | _ => 0
theorem wS_ap {z : Nat} {Z : Rat} (h : Ap z Z (1 / 100000000000000) (393 / 500)) : Ap (wS z) (PS Z) (14 / 1000000000000000) (133 / 100) := by
  obtain ⟨r1, r2, r3, r4, r5, r6, r7, r8, r9, r10, r11, r12, r13, r14, _, _, _, _, _, _, _, _, _, _, _, _, _, _, e, a⟩ := wS_ok h
  rw [← e]; exact a.weak (by grind) (by grind)
theorem wC_ap {z : Nat} {Z : Rat} (h : Ap z Z (1 / 100000000000000) (393 / 500)) : Ap (wC z) (PC Z) (14 / 1000000000000000) (133 / 100) := by
  obtain ⟨r1, r2, r3, r4, r5, r6, r7, r8, r9, r10, r11, r12, r13, r14, r15, r16, _, _, _, _, _, _, _, _, _, _, _, _, _, _, _, _, e, a⟩ := wC_ok h
  rw [← e]; exact a.weak (by grind) (by grind)
theorem sinR_ap {z e : Nat} {Z : Rat} (h : Ap z Z (1 / 100000000000000) (393 / 500)) (he : e % 2 = 0) (h8 : e ≤ 8) : Ap (sinR e z) (sgnP e Z) (14 / 1000000000000000) (133 / 100) := by
  rcases (by omega : e = 0 ∨ e = 2 ∨ e = 4 ∨ e = 6 ∨ e = 8) with rfl | rfl | rfl | rfl | rfl
  · exact wS_ap h
  · exact wC_ap h
  · exact (wS_ap h).neg
  · exact (wC_ap h).neg
  · exact wS_ap h
theorem cosR_ap {z e : Nat} {Z : Rat} (h : Ap z Z (1 / 100000000000000) (393 / 500)) (he : e % 2 = 0) (h8 : e ≤ 8) : Ap (cosR e z) (sgnC e Z) (14 / 1000000000000000) (133 / 100) := by
  rcases (by omega : e = 0 ∨ e = 2 ∨ e = 4 ∨ e = 6 ∨ e = 8) with rfl | rfl | rfl | rfl | rfl
  · exact wC_ap h
  · exact (wS_ap h).neg
  · exact (wC_ap h).neg
  · exact wS_ap h
  · exact wC_ap h
/-- The octant of a word, and the reduced word with respect to an angle near to it. -/
theorem oct_near {x : Nat} (hf : Fin x) (h0 : 0 ≤ fv x) (h7 : fv x ≤ 7) {θ : Rat} (h1 : fv x - 7 / 1000000000000000 ≤ θ) (h2 : θ ≤ fv x + 7 / 1000000000000000) :
    ∃ e : Nat, e = evJ (sinJ x) ∧ e % 2 = 0 ∧ e ≤ 8 ∧ Ap (redZ x) (θ - (e : Rat) * qq) (1 / 100000000000000) (393 / 500) ∧ ((e : Rat) - 1) * qq - 1 / 10000000000000 ≤ θ ∧ θ ≤ ((e : Rat) + 1) * qq + 1 / 10000000000000 := by
  obtain ⟨j, hj⟩ := octJ_ok hf h0 h7
  obtain ⟨z, hz⟩ := octZ_ok hf h0 h7 hj
  have he : evJ j % 2 = 0 ∧ evJ j ≤ 8 := by unfold evJ; have := hj.le; omega
  refine ⟨evJ j, by rw [hj.eq], he.1, he.2, ?_, ?_⟩
  · rw [← hz.eq]
    have a := hz.ap
    have b1 := a.lo; have b2 := a.hi; have f := a.fin
    have hl := hj.lo; have hh := hj.hi
    have hE := hz.ap.bl; have hE2 := hz.ap.bh
    obtain ⟨E, hE3⟩ : ∃ E : Rat, E = ((evJ j : Nat) : Rat) := ⟨_, rfl⟩
    have hJ : E = (j : Rat) ∨ E = (j : Rat) + 1 := by
      rw [hE3]; unfold evJ
      rcases Nat.mod_two_eq_zero_or_one j with c | c
      · left; rw [c]; rfl
      · right; rw [c, Rat.natCast_add]; rfl
    have hj8 : (j : Rat) ≤ 8 := by
      have : (j : Rat) ≤ ((8 : Nat) : Rat) := by exact_mod_cast hj.le
      have e8 : ((8 : Nat) : Rat) = 8 := rfl
      rw [e8] at this; exact this
    have hj0 := nat_nonneg j
    rw [← hE3] at b1 b2 ⊢
    have t : -(7855 / 10000) ≤ fv x - E * qq ∧ fv x - E * qq ≤ 7855 / 10000 := by
      clear b1 b2 hE hE2 a h1 h2 hE3
      unfold qq kA kB kC; unfold kP at hl hh
      rcases hJ with c | c <;> rw [c] <;> constructor <;> grind
    obtain ⟨t1, t2⟩ := t
    clear hE hE2 a hl hh hJ hE3 hj8 hj0 hz hj he
    generalize E * qq = Y at *
    exact ⟨f, by grind, by grind, by grind, by grind⟩
  · have hl := hj.lo; have hh := hj.hi
    have hj8 : (j : Rat) ≤ 8 := by
      have : (j : Rat) ≤ ((8 : Nat) : Rat) := by exact_mod_cast hj.le
      have e8 : ((8 : Nat) : Rat) = 8 := rfl
      rw [e8] at this; exact this
    have hj0 := nat_nonneg j
    obtain ⟨E, hE3⟩ : ∃ E : Rat, E = ((evJ j : Nat) : Rat) := ⟨_, rfl⟩
    have hJ : E = (j : Rat) ∨ E = (j : Rat) + 1 := by
      rw [hE3]; unfold evJ
      rcases Nat.mod_two_eq_zero_or_one j with c | c
      · left; rw [c]; rfl
      · right; rw [c, Rat.natCast_add]; rfl
    rw [← hE3]
    unfold qq kA kB kC; unfold kP at hl hh
    rcases hJ with c | c <;> rw [c] <;> constructor <;> grind
/-- The sine of a word near to an angle. -/
theorem sinB_near {x : Nat} (hf : Fin x) (h0 : 0 ≤ fv x) (h7 : fv x ≤ 7) {θ : Rat} (h1 : fv x - 7 / 1000000000000000 ≤ θ) (h2 : θ ≤ fv x + 7 / 1000000000000000) :
    ∃ e : Nat, e % 2 = 0 ∧ e ≤ 8 ∧ Ap (sinB x) (sgnP e (θ - (e : Rat) * qq)) (14 / 1000000000000000) (133 / 100) ∧ -(393 / 500) ≤ θ - (e : Rat) * qq ∧ θ - (e : Rat) * qq ≤ 393 / 500 ∧ ((e : Rat) - 1) * qq - 1 / 10000000000000 ≤ θ ∧ θ ≤ ((e : Rat) + 1) * qq + 1 / 10000000000000 := by
  obtain ⟨e, ee, he, h8, a, b1, b2⟩ := oct_near hf h0 h7 h1 h2
  by_cases hz : double.order x 0 = some .eq
  · have hx0 : fv x = 0 := by
      have fz : Fin 0 ∧ fv 0 = 0 := by
        have hr : double.read 0 = .number false 0 (-1074) := by decide
        refine ⟨⟨_, _, _, hr⟩, ?_⟩
        rw [fv_fin hr]; show _ * (0 : Rat) * _ = 0; grind
      by_cases c : fv x = 0
      · exact c
      · have := ford_gt hf fz.1 (by rw [fz.2]; grind)
        rw [this] at hz; cases hz
    have fz : Fin 0 ∧ fv 0 = 0 := by
      have hr : double.read 0 = .number false 0 (-1074) := by decide
      refine ⟨⟨_, _, _, hr⟩, ?_⟩
      rw [fv_fin hr]; show _ * (0 : Rat) * _ = 0; grind
    have e1 : sinB x = x := by unfold sinB; rw [if_pos hz]
    have a0 : Ap 0 θ (1 / 100000000000000) (393 / 500) := ⟨fz.1, by rw [fz.2]; grind, by rw [fz.2]; grind, by grind, by grind⟩
    have w0 : wS 0 = 0 := by decide +kernel
    have a1 := wS_ap a0
    rw [w0] at a1
    have l1 := a1.lo; have l2 := a1.hi; have l3 := a1.bl; have l4 := a1.bh
    rw [fz.2] at l1 l2
    have e0 : ((0 : Nat) : Rat) = 0 := rfl
    refine ⟨0, rfl, by omega, ?_, ?_⟩
    · rw [e1, e0]
      have e3 : θ - 0 * qq = θ := by grind
      rw [e3]
      show Ap x (PS θ) _ _
      exact ⟨hf, by rw [hx0]; exact l1, by rw [hx0]; exact l2, l3, l4⟩
    · rw [e0]
      have := a.bl
      unfold qq kA kB kC
      refine ⟨by grind, by grind, by grind, by grind⟩
  · have e1 : sinB x = sinR e (redZ x) := by unfold sinB; rw [if_neg hz, ← ee]
    rw [e1]
    exact ⟨e, he, h8, sinR_ap a he h8, a.bl, a.bh, b1, b2⟩
theorem cosB_near {x : Nat} (hf : Fin x) (h0 : 0 ≤ fv x) (h7 : fv x ≤ 7) {θ : Rat} (h1 : fv x - 7 / 1000000000000000 ≤ θ) (h2 : θ ≤ fv x + 7 / 1000000000000000) :
    ∃ e : Nat, e % 2 = 0 ∧ e ≤ 8 ∧ Ap (cosB x) (sgnC e (θ - (e : Rat) * qq)) (14 / 1000000000000000) (133 / 100) ∧ -(393 / 500) ≤ θ - (e : Rat) * qq ∧ θ - (e : Rat) * qq ≤ 393 / 500 ∧ ((e : Rat) - 1) * qq - 1 / 10000000000000 ≤ θ ∧ θ ≤ ((e : Rat) + 1) * qq + 1 / 10000000000000 := by
  obtain ⟨e, ee, he, h8, a, b1, b2⟩ := oct_near hf h0 h7 h1 h2
  have e1 : cosB x = cosR e (redZ x) := by unfold cosB; rw [← ee]
  rw [e1]
  exact ⟨e, he, h8, cosR_ap a he h8, a.bl, a.bh, b1, b2⟩
end Go.Proofs.YtdeoahgcppbmkaaDoor
