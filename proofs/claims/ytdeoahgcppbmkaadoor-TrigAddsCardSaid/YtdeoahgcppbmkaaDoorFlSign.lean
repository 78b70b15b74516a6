/- Floats: signs are kept. Plain. -/
import Derived.Test.YtdeoahgcppbmkaaDoorTrigP
set_option linter.unusedSimpArgs false
set_option linter.unusedVariables false
namespace Go.Proofs.YtdeoahgcppbmkaaDoor
open Ieee

theorem write_nonneg (s : Bool) (m : Nat) (p : Int) (M : Rat) (h : Mid M) (h1 : -M ≤ dv (.number s m p)) (h2 : dv (.number s m p) ≤ M) (h0 : 0 ≤ dv (.number s m p)) : 0 ≤ fv (double.write (.number s m p)) := by
  rw [dv_number] at h0 h1 h2
  have hm : (m : Rat) * (2 : Rat) ^ p ≤ M := by
    rw [Rat.mul_assoc] at h1 h2
    generalize (m : Rat) * (2 : Rat) ^ p = v at *
    cases s
    · rw [sg_f] at h2; grind
    · rw [sg_t] at h1; grind
  obtain ⟨m', p', hr, hn⟩ := nearest_near s m p M hm h
  have hp := p2_pos p
  have hm0 := nat_nonneg m
  have h3 : 0 ≤ (m' : Rat) * (2 : Rat) ^ p' := Rat.mul_nonneg (nat_nonneg m') (Rat.le_of_lt (p2_pos p'))
  show 0 ≤ fv (double.nearest s m p)
  cases s
  · rw [fv_fin hr, Rat.mul_assoc, sg_f]; grind
  · have hz : m = 0 := by
      rcases Nat.eq_zero_or_pos m with c | c
      · exact c
      · exfalso
        have c1 : (0 : Rat) < (m : Rat) := by exact_mod_cast c
        have := Rat.mul_pos c1 hp
        rw [Rat.mul_assoc, sg_t] at h0
        generalize (m : Rat) * (2 : Rat) ^ p = v at *
        grind
    subst hz
    obtain ⟨m2, p2, hr2, hv2⟩ := nearest_zero true p
    rw [fv_fin hr2, Rat.mul_assoc, hv2]
    have : sg true * 0 = 0 := by grind
    rw [this]; exact Rat.le_refl
theorem fadd_nonneg {x y : Nat} (hx : Fin x) (hy : Fin y) (M : Rat) (h : Mid M) (h0 : 0 ≤ fv x + fv y) (h2 : fv x + fv y ≤ M) : 0 ≤ fv (fadd x y) := by
  obtain ⟨s, m, i, hx⟩ := hx
  obtain ⟨t, n, j, hy⟩ := hy
  obtain ⟨s', m', p', hs, hd⟩ := sum_val s t m n i j
  have e : double.add x y = some (double.write (.number s' m' p')) := by unfold Format.add; rw [hx, hy, hs]; rfl
  have e2 : fadd x y = double.write (.number s' m' p') := by unfold fadd; rw [e]; rfl
  have e3 : fv x + fv y = dv (.number s' m' p') := by rw [hd]; unfold fv; rw [hx, hy]
  rw [e2]
  rw [e3] at h0 h2
  exact write_nonneg s' m' p' M h (by grind) h2 h0
theorem fmul_nonneg {x y : Nat} (hx : Fin x) (hy : Fin y) (M : Rat) (h : Mid M) (h0 : 0 ≤ fv x * fv y) (h2 : fv x * fv y ≤ M) : 0 ≤ fv (fmul x y) := by
  obtain ⟨s, m, i, hx⟩ := hx
  obtain ⟨t, n, j, hy⟩ := hy
  have e : double.mul x y = some (double.write (.number (s ^^ t) (m * n) (i + j))) := by
    unfold Format.mul; rw [hx, hy]; rfl
  have e2 : fmul x y = double.write (.number (s ^^ t) (m * n) (i + j)) := by unfold fmul; rw [e]; rfl
  have e3 : fv x * fv y = dv (.number (s ^^ t) (m * n) (i + j)) := by rw [prod_val]; unfold fv; rw [hx, hy]
  rw [e2]
  rw [e3] at h0 h2
  exact write_nonneg _ _ _ M h (by grind) h2 h0
theorem fdiv_nonneg {x y : Nat} (hx : Fin x) (hy : Fin y) (hx0 : 0 ≤ fv x) (hy0 : 0 < fv y) (M : Rat) (h : Mid (2 * M)) (h2 : fv x / fv y ≤ M) : 0 ≤ fv (fdiv x y) := by
  have hq := rdiv_nonneg hx0 hy0
  obtain ⟨s, m, i, hx⟩ := hx
  obtain ⟨t, n, j, hy⟩ := hy
  have hn : n ≠ 0 := fun e => by rw [fv_fin hy, e] at hy0; have e0 : sg t * ((0 : Nat) : Rat) * (2 : Rat) ^ j = 0 := by show _ * (0 : Rat) * _ = 0; grind
                                 rw [e0] at hy0; grind
  have ht : t = false := by
    cases t
    · rfl
    · exfalso
      rw [fv_fin hy, sg_t, Rat.mul_assoc] at hy0
      have := Rat.mul_nonneg (nat_nonneg n) (Rat.le_of_lt (p2_pos j))
      generalize (n : Rat) * (2 : Rat) ^ j = v at *
      grind
  have hs : s = false ∨ m = 0 := by
    cases s
    · exact .inl rfl
    · right
      rcases Nat.eq_zero_or_pos m with c | c
      · exact c
      · exfalso
        have c1 : (0 : Rat) < (m : Rat) := by exact_mod_cast c
        have := Rat.mul_pos c1 (p2_pos i)
        rw [fv_fin hx, sg_t, Rat.mul_assoc] at hx0
        generalize (m : Rat) * (2 : Rat) ^ i = v at *
        grind
  obtain ⟨s', m', p', hs', e, he, hd⟩ := quot_val s t m n i j hn
  have e1 : double.div x y = some (double.write (.number s' m' p')) := by
    unfold Format.div; rw [hx, hy]; show ((Datum.quotient 54 _ _).map _) = _; rw [hs']; rfl
  have e2 : fdiv x y = double.write (.number s' m' p') := by unfold fdiv; rw [e1]; rfl
  have e3 : fv x / fv y = e := by rw [fv_num hx, fv_num hy]; exact he
  rw [e3] at h2 hq
  have hM := hd M (by grind) h2
  unfold Near at hM
  have hnn : 0 ≤ dv (.number s' m' p') := by
    unfold Datum.quotient at hs'
    dsimp only at hs'
    rw [if_neg hn] at hs'
    cases hs'
    rw [dv_number, Rat.mul_assoc]
    have hp := Rat.mul_nonneg (nat_nonneg (2 * (m <<< (54 + n.log2 - m.log2) / n) + (m <<< (54 + n.log2 - m.log2) % n != 0).toNat)) (Rat.le_of_lt (p2_pos (i - j - ((54 + n.log2 - m.log2 : Nat) : Int) - 1)))
    rcases hs with c | c
    · rw [c, ht]
      show 0 ≤ sg false * _
      rw [sg_f]; grind
    · subst c
      have ez : (2 * (0 <<< (54 + n.log2 - Nat.log2 0) / n) + (0 <<< (54 + n.log2 - Nat.log2 0) % n != 0).toNat) = 0 := by simp
      rw [ez]
      show 0 ≤ sg _ * ((0 : Rat) * _)
      grind
  rw [e2]
  exact write_nonneg s' m' p' (2 * M) h (by grind) (by grind) hnn
end Go.Proofs.YtdeoahgcppbmkaaDoor
