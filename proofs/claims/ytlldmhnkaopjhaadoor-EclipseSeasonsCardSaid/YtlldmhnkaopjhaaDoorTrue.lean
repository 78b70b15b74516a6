/- What a sum of periodic terms truly is; how its intervals lie around it; how far it moves. Plain. -/
import Derived.Test.YtlldmhnkaopjhaaDoorSer
import Derived.Test.YtlldmhnkaopjhaaDoorRealA
namespace Go.Proofs.YtlldmhnkaopjhaaDoor
set_option linter.unusedSimpArgs false
set_option linter.unusedVariables false
/-- The place of a term in its period. -/
def phT (P R : Int) (t : Rat) : Rat := (P : Rat) + (R : Rat) * t / 86400000000000
theorem partV_redu (P R t : Int) : redu (phT P R (t : Rat)) = partV P R t := by
  have hm : 0 ≤ (P + R * t / 86400000000000) % 1000000000 := by omega
  have hm2 : (P + R * t / 86400000000000) % 1000000000 ≤ 999999999 := by omega
  have hr : 0 ≤ R * t % 86400000000000 := by omega
  have hr2 : R * t % 86400000000000 ≤ 86399999999999 := by omega
  have e1 : P + R * t / 86400000000000 = (P + R * t / 86400000000000) % 1000000000 + 1000000000 * ((P + R * t / 86400000000000) / 1000000000) := by omega
  have e2 : R * t = R * t % 86400000000000 + 86400000000000 * (R * t / 86400000000000) := by omega
  obtain ⟨q, hq⟩ : ∃ q, q = R * t / 86400000000000 := ⟨_, rfl⟩
  obtain ⟨r, hr'⟩ : ∃ r, r = R * t % 86400000000000 := ⟨_, rfl⟩
  rw [← hq] at e1 e2 hm hm2
  rw [← hr'] at e2 hr hr2
  obtain ⟨m, hm'⟩ : ∃ m, m = (P + q) % 1000000000 := ⟨_, rfl⟩
  obtain ⟨k, hk⟩ : ∃ k, k = (P + q) / 1000000000 := ⟨_, rfl⟩
  rw [← hm', ← hk] at e1
  rw [← hm'] at hm hm2
  have f1 := congrArg (fun n : Int => (n : Rat)) e1
  have f2 := congrArg (fun n : Int => (n : Rat)) e2
  (try dsimp only at f1 f2)
  rw [Rat.intCast_add, Rat.intCast_add, Rat.intCast_mul] at f1
  rw [Rat.intCast_mul, Rat.intCast_add, Rat.intCast_mul] at f2
  rw [show ((1000000000 : Int) : Rat) = 1000000000 from rfl] at f1
  rw [show ((86400000000000 : Int) : Rat) = 86400000000000 from rfl] at f2
  obtain ⟨b1, b2⟩ := int_bd hm hm2
  obtain ⟨b3, b4⟩ := int_bd hr hr2
  rw [show ((0 : Int) : Rat) = 0 from rfl] at b1 b3
  rw [show ((999999999 : Int) : Rat) = 999999999 from rfl] at b2
  rw [show ((86399999999999 : Int) : Rat) = 86399999999999 from rfl] at b4
  have ep : partV P R t = (m : Rat) + (r : Rat) / 86400000000000 := by unfold partV; rw [← hq, ← hr', ← hm']
  rw [ep]
  unfold phT
  refine redu_of (k := k) ?_ ?_ ?_
  · rw [f2]
    generalize (m : Rat) = mm at *
    generalize (r : Rat) = rr at *
    generalize (q : Rat) = q' at *
    generalize (k : Rat) = kk at *
    clear ep e1 e2 f2
    grind
  · grind
  · grind
theorem part_near (A P R t : Int) (hA : -1000000000 ≤ A ∧ A ≤ 1000000000) : Near (fv (partW A P R t)) ((A : Rat) * SA (phT P R (t : Rat))) (17 / 1000000) := by
  obtain ⟨e, h⟩ := part_ok A P R t hA
  have n := sgnP_near ⟨h.z1, h.z2⟩ h.even h.le
  have a1 := h.ap.lo; have a2 := h.ap.hi
  obtain ⟨b1, b2⟩ := int_bd hA.1 hA.2
  rw [show ((-1000000000 : Int) : Rat) = -1000000000 from rfl] at b1
  rw [show ((1000000000 : Int) : Rat) = 1000000000 from rfl] at b2
  clear h
  have e3 : SA (phT P R (t : Rat)) = sn (8 * qq * (partV P R t / 1000000000)) := by unfold SA ra; rw [partV_redu]
  rw [e3]
  rw [show 8 * qq * (partV P R t / 1000000000) - (e : Rat) * qq + (e : Rat) * qq = 8 * qq * (partV P R t / 1000000000) by grind] at n
  generalize 8 * qq * (partV P R t / 1000000000) = x at *
  have m := rmul_bd (a := (A : Rat)) (b := sgnP e (x - (e : Rat) * qq) - sn x) (A := 1000000000) (B := 13 / 10000000000000000) ⟨b1, b2⟩ (by unfold Near at n; grind)
  unfold Near
  generalize sgnP e (x - (e : Rat) * qq) = s at *
  generalize sn x = s2 at *
  generalize fv (partW A P R t) = v at *
  clear n e3 b1 b2
  constructor <;> grind
/-- The true terms of a sum, and their sum. -/
def tmV (zs : List Int) (t : Rat) (i : Nat) : Rat := (ix zs (i * 3) : Rat) * SA (phT (ix zs (i * 3 + 1)) (ix zs (i * 3 + 2)) t)
def svT (zs : List Int) (n : Nat) (t : Rat) : Rat := ss (tmV zs t) n
theorem rsum_near {zs : List Int} {n : Nat} (t : Int) (hz : ∀ i, i < n → TmOk zs i) : ∀ k, k ≤ n → Near (rsum (tmW zs t) k) (svT zs k (t : Rat)) ((k : Rat) * (17 / 1000000))
  | 0, _ => by
    show Near (0 : Rat) (0 : Rat) _
    unfold Near
    rw [show ((0 : Nat) : Rat) = 0 from rfl]; grind
  | k + 1, hk => by
    have ih := rsum_near t hz k (by omega)
    have h := part_near (ix zs (k * 3)) (ix zs (k * 3 + 1)) (ix zs (k * 3 + 2)) t ⟨(hz k (by omega)).a1, (hz k (by omega)).a2⟩
    have h2 : Near (fv (tmW zs t k)) (tmV zs (t : Rat) k) (17 / 1000000) := h
    show Near (rsum (tmW zs t) k + fv (tmW zs t k)) (svT zs k (t : Rat) + tmV zs (t : Rat) k) _
    have e : (((k + 1 : Nat)) : Rat) = (k : Rat) + 1 := by rw [Rat.natCast_add]; rfl
    rw [e]
    clear h
    generalize fv (tmW zs t k) = x1 at *
    generalize tmV zs (t : Rat) k = x2 at *
    generalize rsum (tmW zs t) k = x3 at *
    generalize svT zs k (t : Rat) = x4 at *
    unfold Near at *
    constructor <;> grind
theorem nat_le12 {k : Nat} (h : k ≤ 12) : (k : Rat) ≤ 12 := by
  have : (k : Rat) ≤ ((12 : Nat) : Rat) := Rat.natCast_le_natCast.2 h
  rw [show ((12 : Nat) : Rat) = 12 from rfl] at this; exact this
/-- The interval of a sum's value around the true one. -/
structure SumAt (lo hi : Int) (V : Rat) (rest : Int) : Prop where
  l1 : (lo : Rat) ≤ V - (rest : Rat)
  l2 : V - (rest : Rat) - 1002 / 1000 ≤ (lo : Rat)
  h1 : V + (rest : Rat) ≤ (hi : Rat)
  h2 : (hi : Rat) ≤ V + (rest : Rat) + 1002 / 1000
theorem sum_at {mean rest t : Int} {n : Nat} {zs : List Int} (hn : n ≤ 12) (hz : ∀ i, i < n → TmOk zs i) : SumAt (vLo mean rest zs n t) (vHi mean rest zs n t) ((mean : Rat) + svT zs n (t : Rat)) rest := by
  rcases Nat.eq_zero_or_pos n with rfl | hpos
  · have e1 : vLo mean rest zs 0 t = mean - rest := rfl
    have e2 : vHi mean rest zs 0 t = mean + rest := rfl
    have e3 : svT zs 0 (t : Rat) = 0 := rfl
    rw [e1, e2, e3]
    refine ⟨?_, ?_, ?_, ?_⟩
    all_goals (first | rw [Rat.intCast_sub] | rw [Rat.intCast_add])
    all_goals grind
  · have hmod : ∀ i, i < n → Mod' (tmW zs t i) := fun i hi => tm_mod (hz i hi) t
    have AR := sum_around (by omega) hmod
    have R := rsum_near t hz n (Nat.le_refl _)
    have c := nat_le12 hn
    have c0 := nat_nonneg n
    have k := ksl_bd
    have a1 := AR.lo1; have a2 := AR.lo2; have a3 := AR.hi1; have a4 := AR.hi2
    clear AR
    unfold Near at R
    unfold vLo vHi
    rw [if_neg (by omega), if_neg (by omega)]
    generalize rsum (tmW zs t) n = v at *
    generalize svT zs n (t : Rat) = V at *
    refine ⟨?_, ?_, ?_, ?_⟩
    all_goals (first | rw [Rat.intCast_sub, Rat.intCast_add] | rw [Rat.intCast_add, Rat.intCast_add])
    all_goals grind
/-- The true angle of a sum, with all its turns. -/
def anT (mean rate : Int) (zs : List Int) (n : Nat) (t : Rat) : Rat := phT mean rate t + svT zs n t
/-- An interval of angles around a true one. -/
def AngAt (lo hi : Int) (X r : Rat) : Prop := ∃ k : Int, (lo : Rat) + 1000000000 * (k : Rat) ≤ X - r ∧ X - r - 2003 / 1000 ≤ (lo : Rat) + 1000000000 * (k : Rat) ∧ X + r ≤ (hi : Rat) + 1000000000 * (k : Rat) ∧ (hi : Rat) + 1000000000 * (k : Rat) ≤ X + r + 2003 / 1000
theorem ang_at {mean rate rest t : Int} {n : Nat} {zs : List Int} (hn : n ≤ 12) (hz : ∀ i, i < n → TmOk zs i) : AngAt (anLo mean rate rest zs n t) (anHi mean rate rest zs n t) (anT mean rate zs n (t : Rat)) (rest : Rat) := by
  have S := sum_at (mean := mean) (rest := rest) (t := t) hn hz
  obtain ⟨s1, s2, s3, s4⟩ := S
  have hr : 0 ≤ rate * t % 86400000000000 := by omega
  have hr2 : rate * t % 86400000000000 ≤ 86399999999999 := by omega
  have e2 : rate * t = rate * t % 86400000000000 + 86400000000000 * (rate * t / 86400000000000) := by omega
  unfold anT phT anHi anLo
  generalize vLo mean rest zs n t = lo at *
  generalize vHi mean rest zs n t = hi at *
  generalize svT zs n (t : Rat) = V at *
  obtain ⟨q, hq⟩ : ∃ q, q = rate * t / 86400000000000 := ⟨_, rfl⟩
  obtain ⟨r, hr'⟩ : ∃ r, r = rate * t % 86400000000000 := ⟨_, rfl⟩
  rw [← hq, ← hr'] at e2
  rw [← hr'] at hr hr2
  rw [← hq, ← hr']
  have f2 := congrArg (fun n : Int => (n : Rat)) e2
  (try dsimp only at f2)
  rw [Rat.intCast_mul, Rat.intCast_add, Rat.intCast_mul, show ((86400000000000 : Int) : Rat) = 86400000000000 from rfl] at f2
  obtain ⟨b3, b4⟩ := int_bd hr hr2
  rw [show ((0 : Int) : Rat) = 0 from rfl] at b3
  rw [show ((86399999999999 : Int) : Rat) = 86399999999999 from rfl] at b4
  have ex : (rate : Rat) * (t : Rat) / 86400000000000 = (q : Rat) + (r : Rat) / 86400000000000 := by rw [f2]; grind
  rw [ex]
  have u1 : 0 ≤ (r : Rat) / 86400000000000 := by grind
  have u2 : (r : Rat) / 86400000000000 ≤ 1 := by grind
  obtain ⟨k, hk⟩ : ∃ k : Int, (lo + q % 1000000000) % 1000000000 + 1000000000 * k = lo + q := ⟨(lo + q % 1000000000) / 1000000000 + q / 1000000000, by omega⟩
  refine ⟨k, ?_⟩
  have g1 := congrArg (fun n : Int => (n : Rat)) hk
  (try dsimp only at g1)
  rw [Rat.intCast_add, Rat.intCast_mul, Rat.intCast_add, show ((1000000000 : Int) : Rat) = 1000000000 from rfl] at g1
  generalize (lo + q % 1000000000) % 1000000000 = y at *
  by_cases h0 : 0 < r
  · rw [if_pos h0]
    rw [Rat.intCast_add, Rat.intCast_add, Rat.intCast_sub, show ((1 : Int) : Rat) = 1 from rfl]
    generalize (r : Rat) / 86400000000000 = u at *
    clear f2 ex e2 hk hq hr'
    refine ⟨?_, ?_, ?_, ?_⟩ <;> grind
  · rw [if_neg h0]
    have r0 : r = 0 := by omega
    have z : (r : Rat) / 86400000000000 = 0 := by rw [r0, show ((0 : Int) : Rat) = 0 from rfl]; grind
    rw [z]
    rw [Rat.intCast_add, Rat.intCast_add, Rat.intCast_sub, show ((0 : Int) : Rat) = 0 from rfl]
    clear f2 ex e2 hk hq hr' z u1 u2
    refine ⟨?_, ?_, ?_, ?_⟩ <;> grind
theorem an_range (mean rate rest : Int) (zs : List Int) (n : Nat) (t : Int) : 0 ≤ anLo mean rate rest zs n t ∧ anLo mean rate rest zs n t < 1000000000 := by unfold anLo; omega
/-- The greatest speed of a term, in parts of a day's millionth. -/
def spd (zs : List Int) (i : Nat) : Rat := ((ix zs (i * 3)).natAbs : Rat) * ((ix zs (i * 3 + 2)).natAbs : Rat)
theorem nab_bd (n : Int) : -(n.natAbs : Rat) ≤ (n : Rat) ∧ (n : Rat) ≤ (n.natAbs : Rat) := by
  have h1 : -(n.natAbs : Int) ≤ n := by omega
  have h2 : n ≤ (n.natAbs : Int) := by omega
  replace h1 := Rat.intCast_le_intCast.2 h1
  replace h2 := Rat.intCast_le_intCast.2 h2
  rw [Rat.intCast_neg, Rat.intCast_natCast] at h1
  rw [Rat.intCast_natCast] at h2
  exact ⟨h1, h2⟩
theorem tm_move {zs : List Int} {i : Nat} (hz : TmOk zs i) (t : Rat) {d : Rat} (hd : 0 ≤ d) : Near (tmV zs (t + d) i) (tmV zs t i) (ra (spd zs i * (d / 86400000000000)) + 1 / 10000000000) := by
  have hA : ((ix zs (i * 3)).natAbs : Int) ≤ 1000000000 := by have := hz.a1; have := hz.a2; omega
  have hA2 := Rat.intCast_le_intCast.2 hA
  rw [Rat.intCast_natCast, show ((1000000000 : Int) : Rat) = 1000000000 from rfl] at hA2
  have bA := nab_bd (ix zs (i * 3))
  have bR := nab_bd (ix zs (i * 3 + 2))
  have nA := nat_nonneg (ix zs (i * 3)).natAbs
  have nR := nat_nonneg (ix zs (i * 3 + 2)).natAbs
  unfold tmV spd
  generalize (ix zs (i * 3) : Rat) = A at *
  generalize ((ix zs (i * 3)).natAbs : Rat) = a at *
  generalize ix zs (i * 3 + 1) = P at *
  have ep : phT P (ix zs (i * 3 + 2)) (t + d) = phT P (ix zs (i * 3 + 2)) t + (ix zs (i * 3 + 2) : Rat) * (d / 86400000000000) := by unfold phT; grind
  rw [ep]
  generalize phT P (ix zs (i * 3 + 2)) t = y at *
  generalize (ix zs (i * 3 + 2) : Rat) = R at *
  generalize ((ix zs (i * 3 + 2)).natAbs : Rat) = r at *
  have d0 : 0 ≤ d / 86400000000000 := by grind
  generalize d / 86400000000000 = u at *
  have p1 := Rat.mul_le_mul_of_nonneg_right bR.1 d0
  have p2 := Rat.mul_le_mul_of_nonneg_right bR.2 d0
  have l := (SA_lipD (y := y) (d := R * u) (D := r * u) (by grind)).1
  have e : ra (a * r * u) = a * ra (r * u) := by unfold ra; grind
  rw [e]
  have rn : 0 ≤ ra (r * u) := by
    have q := qq_b9
    have := Rat.mul_nonneg nR d0
    unfold ra
    exact Rat.mul_nonneg (by grind) (by grind)
  have m := rmul_bd (a := A) (b := SA (y + R * u) - SA y) (A := a) (B := ra (r * u) + 1 / 100000000000000000000) (by grind) (by unfold Near at l; grind)
  unfold Near
  generalize ra (r * u) = g at *
  generalize SA (y + R * u) = s1 at *
  generalize SA y = s2 at *
  clear l e p1 p2 ep
  have ez : a * (1 / 100000000000000000000) ≤ 1 / 10000000000 := by grind
  constructor <;> grind
/-- A bound of how far a sum moves. -/
def slS (zs : List Int) (n : Nat) : Rat := ss (spd zs) n
theorem sv_move {zs : List Int} {n : Nat} (hz : ∀ i, i < n → TmOk zs i) (t : Rat) {d : Rat} (hd : 0 ≤ d) : ∀ k, k ≤ n → Near (svT zs k (t + d)) (svT zs k t) (ra (slS zs k * (d / 86400000000000)) + (k : Rat) * (1 / 10000000000))
  | 0, _ => by
    show Near (0 : Rat) (0 : Rat) (ra ((0 : Rat) * _) + _)
    unfold Near ra
    rw [show ((0 : Nat) : Rat) = 0 from rfl]; grind
  | k + 1, hk => by
    have ih := sv_move hz t hd k (by omega)
    have h := tm_move (hz k (by omega)) t hd
    show Near (svT zs k (t + d) + tmV zs (t + d) k) (svT zs k t + tmV zs t k) (ra ((slS zs k + spd zs k) * (d / 86400000000000)) + _)
    have e : (((k + 1 : Nat)) : Rat) = (k : Rat) + 1 := by rw [Rat.natCast_add]; rfl
    have e2 : ra ((slS zs k + spd zs k) * (d / 86400000000000)) = ra (slS zs k * (d / 86400000000000)) + ra (spd zs k * (d / 86400000000000)) := by rw [← ra_add]; congr 1; grind
    rw [e, e2]
    unfold Near at *
    grind
end Go.Proofs.YtlldmhnkaopjhaaDoor
