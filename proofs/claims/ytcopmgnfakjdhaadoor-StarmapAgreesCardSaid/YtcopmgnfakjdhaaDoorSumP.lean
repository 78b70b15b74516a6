/- Sums of words, and what lies around them. Plain. -/
import Derived.Test.YtcopmgnfakjdhaaDoorFloat
set_option linter.unusedSimpArgs false
set_option linter.unusedVariables false
namespace Go.Proofs.YtcopmgnfakjdhaaDoor
open Ieee

/-- The sum of the first k words, as it is added up. -/
def fsum (f : Nat → Nat) : Nat → Nat
  | 0 => 0
  | k + 1 => fadd (fsum f k) (f k)
def rsum (f : Nat → Nat) : Nat → Rat
  | 0 => 0
  | k + 1 => rsum f k + fv (f k)
theorem fsum_congr {f g : Nat → Nat} : ∀ k, (∀ i, i < k → f i = g i) → fsum f k = fsum g k
  | 0, _ => rfl
  | k + 1, h => by unfold fsum; rw [fsum_congr k (fun i hi => h i (by omega)), h k (by omega)]
theorem rsum_congr {f g : Nat → Nat} : ∀ k, (∀ i, i < k → f i = g i) → rsum f k = rsum g k
  | 0, _ => rfl
  | k + 1, h => by unfold rsum; rw [rsum_congr k (fun i hi => h i (by omega)), h k (by omega)]
theorem rsum_app {f g h : Nat → Nat} (n : Nat) (h1 : ∀ i, i < n → h i = f i) : ∀ m, (∀ j, j < m → h (n + j) = g j) → rsum h (n + m) = rsum f n + rsum g m
  | 0, _ => by rw [Nat.add_zero, rsum_congr n h1]; show _ = _ + (0 : Rat); grind
  | m + 1, h2 => by
    have ih := rsum_app n h1 m (fun j hj => h2 j (by omega))
    show rsum h (n + m) + fv (h (n + m)) = rsum f n + (rsum g m + fv (g m))
    rw [ih, h2 m (by omega)]; grind
/-- A word of moderate size. -/
structure Mod' (x : Nat) : Prop where
  fin : Fin x
  lo : -1340000000 ≤ fv x
  hi : fv x ≤ 1340000000
theorem fin_zero' : Fin 0 ∧ fv 0 = 0 := by
  have hr : double.read 0 = .number false 0 (-1074) := by decide
  refine ⟨⟨_, _, _, hr⟩, ?_⟩
  rw [fv_fin hr]
  show _ * (0 : Rat) * _ = 0
  grind
structure SumOk (f : Nat → Nat) (k : Nat) : Prop where
  fin : Fin (fsum f k)
  lo : rsum f k - (k : Rat) / 100000 ≤ fv (fsum f k)
  hi : fv (fsum f k) ≤ rsum f k + (k : Rat) / 100000
  bl : -(1340000000 * (k : Rat)) ≤ rsum f k
  bh : rsum f k ≤ 1340000000 * (k : Rat)
theorem nat_le40 {k : Nat} (h : k ≤ 40) : (k : Rat) ≤ 40 := by
  have : (k : Rat) ≤ ((40 : Nat) : Rat) := Rat.natCast_le_natCast.2 h
  have e : ((40 : Nat) : Rat) = 40 := rfl
  rw [e] at this; exact this
theorem sum_step {f : Nat → Nat} {k : Nat} (hk : k + 1 ≤ 40) (h : SumOk f k) (hm : Mod' (f k)) : floatBits .add .f64 (fsum f k) (f k) = some (fsum f (k + 1)) ∧ SumOk f (k + 1) := by
  obtain ⟨a1, a2, a3, a4, a5⟩ := h
  obtain ⟨b1, b2, b3⟩ := hm
  have k0 := nat_nonneg k
  have k4 := nat_le40 (k := k) (by omega)
  have ek : (((k + 1 : Nat)) : Rat) = (k : Rat) + 1 := by rw [Rat.natCast_add]; rfl
  obtain ⟨i, ff, n⟩ := fadd_ok a1 b1 60000000000 (mid_of (by grind) (by grind)) (by grind) (by grind)
  unfold Near at n
  obtain ⟨n1, n2⟩ := n
  have e1 : fsum f (k + 1) = fadd (fsum f k) (f k) := rfl
  have e2 : rsum f (k + 1) = rsum f k + fv (f k) := rfl
  rw [e1]
  refine ⟨i, ff, ?_, ?_, ?_, ?_⟩
  all_goals rw [ek]
  all_goals (try rw [e1])
  all_goals (try rw [e2])
  all_goals clear e1 e2 ek i ff
  all_goals generalize fv (fadd (fsum f k) (f k)) = x at *
  all_goals grind
theorem sum_zero (f : Nat → Nat) : SumOk f 0 := by
  have e0 : ((0 : Nat) : Rat) = 0 := rfl
  refine ⟨fin_zero'.1, ?_, ?_, ?_, ?_⟩
  all_goals rw [e0]
  · show (0 : Rat) - _ ≤ fv 0; rw [fin_zero'.2]; grind
  · show fv 0 ≤ (0 : Rat) + _; rw [fin_zero'.2]; grind
  · show _ ≤ (0 : Rat); grind
  · show (0 : Rat) ≤ _; grind
theorem sum_ok {f : Nat → Nat} {n : Nat} (hn : n ≤ 40) (hm : ∀ i, i < n → Mod' (f i)) : ∀ k, k ≤ n → SumOk f k
  | 0, _ => sum_zero f
  | k + 1, hk => (sum_step (by omega) (sum_ok hn hm k (by omega)) (hm k (by omega))).2
theorem SumOk.ap {f : Nat → Nat} {k : Nat} (h : SumOk f k) (hk : k ≤ 40) : Ap (fsum f k) (rsum f k) (4 / 10000) 60000000000 := by
  obtain ⟨a1, a2, a3, a4, a5⟩ := h
  have k0 := nat_nonneg k
  have k4 := nat_le40 hk
  exact ⟨a1, by grind, by grind, by grind, by grind⟩
/-- Around a word of size at most 10^11. -/
theorem around_near {v : Nat} {V e : Rat} (h : Ap v V e 100000000000) (he : e ≤ 1 / 1000) : AroundOk v V (e + 12 / 1000000) := by
  obtain ⟨i1, a1⟩ := Ap.sub h ap_sl (e + 12 / 1000000) (100000000001) (100000000002) (mid_of (by grind) (by grind)) (by grind) (by grind) (by grind)
  obtain ⟨i2, a2⟩ := Ap.add h ap_sl (e + 12 / 1000000) (100000000001) (100000000002) (mid_of (by grind) (by grind)) (by grind) (by grind) (by grind)
  have b1 := a1.lo; have b2 := a1.hi; have b3 := a1.bl; have b4 := a1.bh
  have c1 := a2.lo; have c2 := a2.hi; have c3 := a2.bl; have c4 := a2.bh
  obtain ⟨k, fk, vk, k1, k2, tk⟩ := ffloor_ok a1.fin (by grind) (by grind)
  obtain ⟨n, fn, vn, n1, n2, tn⟩ := fceil_ok a2.fin (by grind) (by grind)
  have ek : aLo v = k := by unfold aLo; rw [tk]; rfl
  have en : aHi v = n := by unfold aHi; rw [tn]; rfl
  have e1 : ((9000000000000000000 : Int) : Rat) = 9000000000000000000 := rfl
  have e2 : ((-9000000000000000000 : Int) : Rat) = -9000000000000000000 := rfl
  refine ⟨i1, i2, a1.fin, a2.fin, ?_, ?_, ?_, ?_, ?_, ?_⟩
  · rw [ek]; exact i64_val tk (int_le_of_rat (by rw [e2]; grind)) (int_le_of_rat (by rw [e1]; grind))
  · rw [en]; exact i64_val tn (int_le_of_rat (by rw [e2]; grind)) (int_le_of_rat (by rw [e1]; grind))
  all_goals first | rw [ek] | rw [en]
  all_goals grind
theorem ksl_bd : 9999 / 10000000 ≤ kSl ∧ kSl ≤ 10001 / 10000000 := by unfold kSl; constructor <;> grind
/-- The sum's interval. -/
theorem sum_around {f : Nat → Nat} {n : Nat} (hn : n ≤ 40) (hm : ∀ i, i < n → Mod' (f i)) : AroundOk (fsum f n) (rsum f n) (42 / 100000) := by
  have h := around_near (((sum_ok hn hm n (Nat.le_refl _)).ap hn).weak Rat.le_refl (by grind)) (by grind)
  obtain ⟨h1, h2, h3, h4, h5, h6, h7, h8, h9, h10⟩ := h
  exact ⟨h1, h2, h3, h4, h5, h6, by grind, by grind, by grind, by grind⟩
theorem around_order {v : Nat} {V E : Rat} (h : AroundOk v V E) (hE : E ≤ 9 / 10000) : aLo v ≤ aHi v ∧ aHi v - aLo v ≤ 2 := by
  have a1 := h.lo1; have a2 := h.lo2; have a3 := h.hi1; have a4 := h.hi2
  have k := ksl_bd
  constructor
  · exact int_le_of_rat (by grind)
  · have e : ((aHi v - aLo v : Int) : Rat) = (aHi v : Rat) - (aLo v : Rat) := Rat.intCast_sub _ _
    have e3 : ((3 : Int) : Rat) = 3 := rfl
    have : aHi v - aLo v < 3 := int_lt_of_rat (by rw [e, e3]; grind)
    omega
/-- What is around a sum meets the sum of what is around its parts. -/
theorem around_adds {u v x : Nat} {U V E : Rat} (hu : AroundOk u U E) (hv : AroundOk v V E) (hx : AroundOk x (U + V) E) (hE : E ≤ 9 / 10000) : aLo x ≤ aHi u + aHi v ∧ aLo u + aLo v ≤ aHi x := by
  have a1 := hx.lo1; have a3 := hx.hi1
  have b1 := hu.lo1; have b3 := hu.hi1
  have c1 := hv.lo1; have c3 := hv.hi1
  have k := ksl_bd
  constructor
  · refine int_le_of_rat ?_
    rw [Rat.intCast_add]; grind
  · refine int_le_of_rat ?_
    rw [Rat.intCast_add]; grind
theorem around_bd {v : Nat} {V E : Rat} (h : AroundOk v V E) (hE : E ≤ 9 / 10000) (h1 : -60000000000 ≤ V) (h2 : V ≤ 60000000000) : -60000000002 ≤ aLo v ∧ aLo v ≤ 60000000002 ∧ -60000000002 ≤ aHi v ∧ aHi v ≤ 60000000002 := by
  have a1 := h.lo1; have a2 := h.lo2; have a3 := h.hi1; have a4 := h.hi2
  have k := ksl_bd
  have e1 : ((-60000000002 : Int) : Rat) = -60000000002 := rfl
  have e2 : ((60000000002 : Int) : Rat) = 60000000002 := rfl
  refine ⟨int_le_of_rat ?_, int_le_of_rat ?_, int_le_of_rat ?_, int_le_of_rat ?_⟩
  all_goals first | rw [e1] | rw [e2]
  all_goals grind
end Go.Proofs.YtcopmgnfakjdhaaDoor
