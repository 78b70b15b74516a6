/- trig.ArcSin, plain: angles of any sine; bounds by rational angles; its bounds are in order. -/
import Derived.Test.YtdeoahgcppbmkaaDoorDec
namespace Go.Proofs.YtdeoahgcppbmkaaDoor
set_option linter.unusedSimpArgs false
set_option linter.unusedVariables false
theorem cross_at {f : Nat → Rat} {v : Rat} (h0 : f 0 ≤ v) : ∀ n, v ≤ f n → ∃ i, i ≤ n ∧ f i ≤ v ∧ (v ≤ f (i + 1) ∨ v ≤ f i)
  | 0, h => ⟨0, Nat.le_refl 0, h0, .inr h⟩
  | n + 1, h => by
    by_cases c : v ≤ f n
    · obtain ⟨i, i1, i2, i3⟩ := cross_at h0 n c
      exact ⟨i, by omega, i2, i3⟩
    · exact ⟨n, by omega, by grind, .inl h⟩
/-- Each number has an angle whose sine it is. -/
theorem asin_ex {v : Rat} (h1 : -(1 - 1 / 1000000000000000000000000) ≤ v) (h2 : v ≤ 1 - 1 / 1000000000000000000000000) : ∃ x : Rat, -250000000 ≤ x ∧ x ≤ 250000000 ∧ Near (SA x) v (1 / 20000000000000000000) := by
  obtain ⟨f, hf⟩ : ∃ f : Nat → Rat, f = fun i : Nat => SA (-250000000 + (i : Rat) * (1 / 1000000000000)) := ⟨_, rfl⟩
  have q1 := SN_q1; have q3 := SN_q3
  rw [← SA_int] at q1 q3
  have e0 : f 0 = SA 750000000 := by
    rw [hf]
    have := SA_turn (-250000000) 1
    rw [show ((1 : Int) : Rat) = 1 from rfl, show (-250000000 : Rat) + 1000000000 * 1 = 750000000 by grind] at this
    rw [this]
    show SA (-250000000 + ((0 : Nat) : Rat) * (1 / 1000000000000)) = _
    rw [show ((0 : Nat) : Rat) = 0 from rfl, show (-250000000 : Rat) + 0 * (1 / 1000000000000) = -250000000 by grind]
  have eN : f 500000000000000000000 = SA 250000000 := by
    rw [hf]
    show SA (-250000000 + ((500000000000000000000 : Nat) : Rat) * (1 / 1000000000000)) = _
    rw [show ((500000000000000000000 : Nat) : Rat) = 500000000000000000000 from rfl, show (-250000000 : Rat) + 500000000000000000000 * (1 / 1000000000000) = 250000000 by grind]
  rw [show ((750000000 : Int) : Rat) = 750000000 from rfl] at q3
  rw [show ((250000000 : Int) : Rat) = 250000000 from rfl] at q1
  rw [← e0] at q3
  rw [← eN] at q1
  unfold Near eq1 at q1 q3
  obtain ⟨i, i1, i2, i3⟩ := cross_at (f := f) (v := v) (by grind) 500000000000000000000 (by grind)
  have ib := Rat.natCast_le_natCast.2 i1
  rw [show ((500000000000000000000 : Nat) : Rat) = 500000000000000000000 from rfl] at ib
  have i0 := nat_nonneg i
  refine ⟨-250000000 + (i : Rat) * (1 / 1000000000000), by grind, by grind, ?_⟩
  have ef : f i = SA (-250000000 + (i : Rat) * (1 / 1000000000000)) := by rw [hf]
  have ef1 : f (i + 1) = SA (-250000000 + (i : Rat) * (1 / 1000000000000) + 1 / 1000000000000) := by
    rw [hf]
    show SA (-250000000 + ((i + 1 : Nat) : Rat) * (1 / 1000000000000)) = _
    rw [Rat.natCast_add, show ((1 : Nat) : Rat) = 1 from rfl]
    congr 1; grind
  have l := (SA_lip (y := -250000000 + (i : Rat) * (1 / 1000000000000)) (d := 1 / 1000000000000) (by grind)).1
  rw [← ef1, ← ef] at l
  rw [← ef]
  have qb := qq_b9
  unfold Near ra at *
  clear ef ef1 e0 eN hf q1 q3 h1 h2
  generalize qq = p at *
  generalize f i = y1 at *
  generalize f (i + 1) = y2 at *
  constructor <;> grind
theorem SA_rad {x : Rat} (h1 : -500000000 ≤ x) (h2 : x ≤ 500000000) : Near (SA x) (sn (ka * x)) (1 / 100000000000000000000000) := by
  have ek : ∀ x, ra x = ka * x := fun x => by unfold ra ka; grind
  by_cases c : 0 ≤ x
  · unfold SA
    rw [redu_id c (by grind), ek]
    exact near_refl _ (by grind)
  · have e : redu x = x + 1000000000 := redu_of (k := -1) (by rw [show ((-1 : Int) : Rat) = -1 from rfl]; grind) (by grind) (by grind)
    have b := ra_bd (x := -x) (by grind) (by grind)
    have en : ra (-x) = -ra x := by unfold ra; grind
    have t := (turn_any (x := ra x) (by grind)).1
    unfold SA
    rw [e, ra_add, ra_turn, ← ek]
    exact near_weak t (by unfold eq1; grind)
theorem asin_loR {n : Int} {be : Rat} (h1 : -1000000000 < n) (h2 : n < 1000000000) (B : -(2 * qq) ≤ be ∧ be ≤ 2 * qq) (hs2 : (n : Rat) ≤ 1000000000 * sn be + 2 / 10000000000) : asV n ≤ be + 1 / 1000000000000 := by
  have q := qq_b9
  by_cases c3 : n = 0
  · subst c3
    have e : asV 0 = 0 := rfl
    rw [e]
    rw [zero_cast] at hs2
    apply Rat.not_lt.1
    intro l
    have := sn_half (x := -be) (by grind) (by grind)
    rw [sn_neg] at this
    grind
  · have I : AsIn n := ⟨by omega, by omega, c3⟩
    obtain ⟨v, D, rt, dk, -, p, ng⟩ := I.dir
    have X1 := rt_range rt
    have nb : (n.natAbs : Rat) ≤ 1000000000 := by
      have : ((n.natAbs : Nat) : Rat) ≤ ((1000000000 : Nat) : Rat) := Rat.natCast_le_natCast.2 (by omega)
      exact this
    have n0 := nat_nonneg n.natAbs
    have nn : -(n.natAbs : Rat) ≤ (n : Rat) ∧ (n : Rat) ≤ (n.natAbs : Rat) := nab_bd' n
    exact asin_core I.lo I.hi c3 rt dk (by grind) (by grind) (by grind) p ng B hs2
theorem asV_neg' {n : Int} (h1 : -1000000000 < n) (h2 : n < 1000000000) {be : Rat} (B : -(2 * qq) ≤ be ∧ be ≤ 2 * qq) (hs2 : 1000000000 * sn be - 2 / 10000000000 ≤ (n : Rat)) : be - 1 / 1000000000000 ≤ asV n := by
  have q := qq_b9
  by_cases c3 : n = 0
  · subst c3
    have e : asV 0 = 0 := rfl
    rw [e]
    rw [zero_cast] at hs2
    apply Rat.not_lt.1
    intro l
    have := sn_half (x := be) (by grind) (by grind)
    grind
  · have I : AsIn n := ⟨by omega, by omega, c3⟩
    obtain ⟨v, D, rt, dk, -, p, ng⟩ := I.dir
    have X1 := rt_range rt
    have nb : (n.natAbs : Rat) ≤ 1000000000 := by
      have : ((n.natAbs : Nat) : Rat) ≤ ((1000000000 : Nat) : Rat) := Rat.natCast_le_natCast.2 (by omega)
      exact this
    have n0 := nat_nonneg n.natAbs
    have nn : -(n.natAbs : Rat) ≤ (n : Rat) ∧ (n : Rat) ≤ (n.natAbs : Rat) := nab_bd' n
    have dk2 := dk.neg
    rw [← Rat.intCast_neg] at dk2
    have r := asin_core (n := -n) (t := -asV n) (be := -be) (by omega) (by omega) (by omega) rt.neg dk2 (by grind) (by grind) (by rw [Rat.intCast_neg]; grind) (fun l => by have := ng (by omega); grind) (fun l => by have := p (by omega); grind) (by grind) (by rw [Rat.intCast_neg, sn_neg]; grind)
    grind
/-- Bounds of the arc's interval, by rational angles. -/
theorem asLo_leR {n : Int} {x : Rat} (h1 : -1000000000 < n) (h2 : n < 1000000000) (hx1 : -250000000 ≤ x) (hx2 : x ≤ 250000000) (hs : (n : Rat) ≤ 1000000000 * SA x + 1 / 10000000000) : (asLo n : Rat) ≤ x := by
  have hn : -1000000000 ≤ n ∧ n ≤ 1000000000 := ⟨by omega, by omega⟩
  obtain ⟨f, nr, b1, b2⟩ := as_near hn
  obtain ⟨u1, u2⟩ := unit_rad (asU_ok hn).2.2 nr (by grind) (by grind)
  have S := SA_rad (x := x) (by grind) (by grind)
  have k := ka_bd
  have B : -(2 * qq) ≤ ka * x ∧ ka * x ≤ 2 * qq := by
    have m1 := Rat.mul_le_mul_of_nonneg_left hx1 (show 0 ≤ ka by grind)
    have m2 := Rat.mul_le_mul_of_nonneg_left hx2 (show 0 ≤ ka by grind)
    have e3 : ka * 250000000 = 2 * qq := by unfold ka; grind
    have e4 : ka * -250000000 = -(2 * qq) := by unfold ka; grind
    rw [e3] at m2; rw [e4] at m1
    exact ⟨m1, m2⟩
  have lw := asin_loR h1 h2 B (by unfold Near at S; grind)
  have A := (asU_around hn).lo1
  have ks : kSl = 1152921504606847 / 1152921504606846976 := rfl
  have key : fv (asU n) ≤ x + 5 / 10000 := by
    apply Rat.not_lt.1
    intro l
    have := Rat.mul_lt_mul_of_pos_left l (show 0 < ka by grind)
    unfold Near at u2
    clear u1 A ks nr S B
    grind
  have h3 : (aLo (asU n) : Rat) ≤ x := by
    unfold Near at u1
    clear u2 lw k nr S B
    grind
  unfold asLo
  rcases (by omega : max (aLo (asU n)) (-250000000) = aLo (asU n) ∨ max (aLo (asU n)) (-250000000) = -250000000) with h | h
  · rw [h]; exact h3
  · rw [h, show ((-250000000 : Int) : Rat) = -250000000 from rfl]; exact hx1
theorem asHi_geR {n : Int} {x : Rat} (h1 : -1000000000 < n) (h2 : n < 1000000000) (hx1 : -250000000 ≤ x) (hx2 : x ≤ 250000000) (hs : 1000000000 * SA x - 1 / 10000000000 ≤ (n : Rat)) : x ≤ (asHi n : Rat) := by
  have hn : -1000000000 ≤ n ∧ n ≤ 1000000000 := ⟨by omega, by omega⟩
  obtain ⟨f, nr, b1, b2⟩ := as_near hn
  obtain ⟨u1, u2⟩ := unit_rad (asU_ok hn).2.2 nr (by grind) (by grind)
  have S := SA_rad (x := x) (by grind) (by grind)
  have k := ka_bd
  have B : -(2 * qq) ≤ ka * x ∧ ka * x ≤ 2 * qq := by
    have m1 := Rat.mul_le_mul_of_nonneg_left hx1 (show 0 ≤ ka by grind)
    have m2 := Rat.mul_le_mul_of_nonneg_left hx2 (show 0 ≤ ka by grind)
    have e3 : ka * 250000000 = 2 * qq := by unfold ka; grind
    have e4 : ka * -250000000 = -(2 * qq) := by unfold ka; grind
    rw [e3] at m2; rw [e4] at m1
    exact ⟨m1, m2⟩
  have lw := asV_neg' h1 h2 B (by unfold Near at S; grind)
  have A := (asU_around hn).hi1
  have ks : kSl = 1152921504606847 / 1152921504606846976 := rfl
  have key : x - 5 / 10000 ≤ fv (asU n) := by
    apply Rat.not_lt.1
    intro l
    have := Rat.mul_lt_mul_of_pos_left l (show 0 < ka by grind)
    unfold Near at u2
    clear u1 A ks nr S B
    grind
  have h3 : x ≤ (aHi (asU n) : Rat) := by
    unfold Near at u1
    clear u2 lw k nr S B
    grind
  unfold asHi
  rcases (by omega : min (aHi (asU n)) 250000000 = aHi (asU n) ∨ min (aHi (asU n)) 250000000 = 250000000) with h | h
  · rw [h]; exact h3
  · rw [h, show ((250000000 : Int) : Rat) = 250000000 from rfl]; exact hx2
theorem as_order {m n : Int} (h1 : -1000000000 < m) (h2 : n < 1000000000) (h : m ≤ n) : -250000000 ≤ asLo m ∧ asLo m ≤ asHi n ∧ asHi n ≤ 250000000 := by
  have r1 := Rat.intCast_le_intCast.2 (show -999999999 ≤ m by omega)
  have r2 := Rat.intCast_le_intCast.2 (show m ≤ 999999999 by omega)
  have r3 := Rat.intCast_le_intCast.2 h
  rw [show ((-999999999 : Int) : Rat) = -999999999 from rfl] at r1
  rw [show ((999999999 : Int) : Rat) = 999999999 from rfl] at r2
  obtain ⟨x, x1, x2, x3⟩ := asin_ex (v := (m : Rat) / 1000000000) (by grind) (by grind)
  unfold Near at x3
  have a := asLo_leR (n := m) (x := x) h1 (by omega) x1 x2 (by grind)
  have b := asHi_geR (n := n) (x := x) (by omega) h2 x1 x2 (by grind)
  refine ⟨by unfold asLo; omega, int_le_of_rat (by grind), by unfold asHi; omega⟩
end Go.Proofs.YtdeoahgcppbmkaaDoor
