/- Merged by wip/tools/pack.py out of XPlanP, XPlanQ. -/
import Derived.Test.YtdeoahgcppbmkaaDoorPlanA
import Derived.Test.YtdeoahgcppbmkaaDoorEqP
import Derived.Test.YtdeoahgcppbmkaaDoorParts
import Derived.Test.YtdeoahgcppbmkaaDoorPolar
import Derived.Test.YtdeoahgcppbmkaaDoorAt
/- Package planet, plain: the direction is never near the origin; the arc is narrow. -/
namespace Go.Proofs.YtdeoahgcppbmkaaDoor
set_option linter.unusedSimpArgs false
set_option linter.unusedVariables false
theorem he_w (i : Nat) (hi : i < 5) (t : Int) : heHi i t - heLo i t ≤ 10004 := by
  obtain ⟨k, a1, a2, a3, a4⟩ := ang_at (mean := pnMean i) (rate := pnRate i) (rest := 5000) (t := t) (n := 0) (zs := []) (by omega) (pn_sum i hi).tm
  have e1 : heLo i t = anLo (pnMean i) (pnRate i) 5000 [] 0 t := rfl
  have e2 : heHi i t = anHi (pnMean i) (pnRate i) 5000 [] 0 t := rfl
  rw [← e1] at a1 a2
  rw [← e2] at a3 a4
  have : heHi i t - heLo i t < 10005 := by
    apply int_lt_of_rat
    rw [Rat.intCast_sub, show ((10005 : Int) : Rat) = 10005 from rfl]
    rw [show ((5000 : Int) : Rat) = 5000 from rfl] at *
    grind
  omega
theorem sl_w (t : Int) : slHi t - slLo t ≤ 4004 := by
  obtain ⟨k, a1, a2, a3, a4⟩ := sun_at t
  have : slHi t - slLo t < 4005 := by
    apply int_lt_of_rat
    rw [Rat.intCast_sub, show ((4005 : Int) : Rat) = 4005 from rfl]
    grind
  omega
theorem kW_he : 0 ≤ kW 10004 ∧ kW 10004 ≤ 62860 := by
  have q := qq_b9
  unfold kW ra
  rw [show ((10004 : Int) : Rat) = 10004 from rfl]
  generalize qq = p at *
  constructor <;> grind
theorem kW_sl : 0 ≤ kW 4004 ∧ kW 4004 ≤ 25160 := by
  have q := qq_b9
  unfold kW ra
  rw [show ((4004 : Int) : Rat) = 4004 from rfl]
  generalize qq = p at *
  constructor <;> grind
/-- The direction of two longitudes. -/
def gX (r : Rat) (p s : Int) : Rat := 1000000000 * (r * CN p + 1000 * CN s)
def gY (r : Rat) (p s : Int) : Rat := 1000000000 * (r * SN p + 1000 * SN s)
/-- A sum of two multiples that lie near. -/
theorem sum_near {u v r : Int} {a b e f g : Rat} (hu : Near (u : Rat) (1000000000 * a) e) (hv : Near (v : Rat) (1000000000 * b) f) (hr : 0 ≤ (r : Rat)) (hg : (r : Rat) * e + 1000 * f ≤ g) : Near ((u * r + v * 1000 : Int) : Rat) (1000000000 * ((r : Rat) * a + 1000 * b)) g := by
  rw [Rat.intCast_add, Rat.intCast_mul, Rat.intCast_mul, show ((1000 : Int) : Rat) = 1000 from rfl]
  unfold Near at *
  have m1 := Rat.mul_le_mul_of_nonneg_right hu.1 hr
  have m2 := Rat.mul_le_mul_of_nonneg_right hu.2 hr
  constructor <;> grind
structure GNear (i : Nat) (t : Int) (p s : Int) (g : Rat) : Prop where
  yl : Near (gYL i t : Rat) (gY (pnRad i) p s) g
  yh : Near (gYH i t : Rat) (gY (pnRad i) p s) g
  xl : Near (gXL i t : Rat) (gX (pnRad i) p s) g
  xh : Near (gXH i t : Rat) (gX (pnRad i) p s) g
theorem g_near (i : Nat) (hi : i < 5) (t : Int) : GNear i t (heLo i t) (slLo t) ((pnRad i : Rat) * 62862 + 25162000) := by
  have h1 := he_iv i hi t
  have h2 : 0 ≤ slLo t ∧ slLo t < 1000000000 ∧ slLo t ≤ slHi t ∧ slHi t ≤ 130000000000 := an_bd sun_in
  have w1 := he_w i hi t
  have w2 := sl_w t
  have k1 := kW_he; have k2 := kW_sl
  obtain ⟨a1, a2⟩ := so_near (a := heLo i t) (b := heHi i t) (x := heLo i t) (W := 10004) h1.2.2.1 w1 (by omega) (Int.le_refl _) h1.2.2.1
  obtain ⟨a3, a4⟩ := co_near (a := heLo i t) (b := heHi i t) (x := heLo i t) (W := 10004) h1.2.2.1 w1 (by omega) (Int.le_refl _) h1.2.2.1
  obtain ⟨b1, b2⟩ := so_near (a := slLo t) (b := slHi t) (x := slLo t) (W := 4004) h2.2.2.1 w2 (by omega) (Int.le_refl _) h2.2.2.1
  obtain ⟨b3, b4⟩ := co_near (a := slLo t) (b := slHi t) (x := slLo t) (W := 4004) h2.2.2.1 w2 (by omega) (Int.le_refl _) h2.2.2.1
  have r0 : (0 : Rat) ≤ (pnRad i : Rat) := by
    have := Rat.intCast_le_intCast.2 (show 0 ≤ pnRad i by have := pn_bd i hi; omega)
    rwa [show ((0 : Int) : Rat) = 0 from rfl] at this
  have G : (pnRad i : Rat) * 62862 + 1000 * 25162 ≤ (pnRad i : Rat) * 62862 + 25162000 := by grind
  have wk : ∀ {u : Rat} {v : Rat} {e : Rat}, Near u v (e + 102 / 100) → e ≤ 62860 → Near u v 62862 := fun h g => near_weak h (by grind)
  have wk3 : ∀ {u : Rat} {v : Rat} {e : Rat}, Near u v (e + 103 / 100) → e ≤ 62860 → Near u v 62862 := fun h g => near_weak h (by grind)
  have wl : ∀ {u : Rat} {v : Rat} {e : Rat}, Near u v (e + 102 / 100) → e ≤ 25160 → Near u v 25162 := fun h g => near_weak h (by grind)
  have wl3 : ∀ {u : Rat} {v : Rat} {e : Rat}, Near u v (e + 103 / 100) → e ≤ 25160 → Near u v 25162 := fun h g => near_weak h (by grind)
  exact ⟨sum_near (wk a1 k1.2) (wl b1 k2.2) r0 G, sum_near (wk a2 k1.2) (wl b2 k2.2) r0 G, sum_near (wk3 a3 k1.2) (wl3 b3 k2.2) r0 G, sum_near (wk3 a4 k1.2) (wl3 b4 k2.2) r0 G⟩
theorem g_far {r d : Rat} (r0 : 0 ≤ r) (r1 : r ≤ 10000) (d0 : 1 ≤ d) (hd : d * d ≤ (r - 1000) * (r - 1000)) (p s : Int) {A B : Rat} (hA : -A ≤ gX r p s ∧ gX r p s ≤ A) (hB : -B ≤ gY r p s ∧ gY r p s ≤ B) : 1000000000 * (d - 1 / 10) ≤ A + B := by
  apply Rat.not_lt.1
  intro l
  have pp := SN_pyth p; have ps := SN_pyth s
  unfold gX at hA
  unfold gY at hB
  unfold Near ep at pp ps
  generalize CN p = c at *
  generalize SN p = q at *
  generalize CN s = c' at *
  generalize SN s = q' at *
  have a := sq_le (x := r * c + 1000 * c') (A := A / 1000000000) (by grind)
  have b := sq_le (x := r * q + 1000 * q') (A := B / 1000000000) (by grind)
  have A0 : 0 ≤ A / 1000000000 := by grind
  have B0 : 0 ≤ B / 1000000000 := by grind
  have ab := Rat.mul_nonneg A0 B0
  have l' : A / 1000000000 + B / 1000000000 ≤ d - 1 / 10 := by grind
  have sq := sq_le (x := A / 1000000000 + B / 1000000000) (A := d - 1 / 10) (by grind)
  have z1 := sq_nonneg (c + c'); have z2 := sq_nonneg (q + q')
  -- the sum of the squares
  have e : (r * c + 1000 * c') * (r * c + 1000 * c') + (r * q + 1000 * q') * (r * q + 1000 * q') = r * r * (c * c + q * q) + 1000000 * (c' * c' + q' * q') + 1000 * r * ((c + c') * (c + c') + (q + q') * (q + q') - (c * c + q * q) - (c' * c' + q' * q')) := by grind
  have m1 := Rat.mul_nonneg (Rat.mul_nonneg (show (0 : Rat) ≤ 1000 by grind) r0) (show 0 ≤ (c + c') * (c + c') + (q + q') * (q + q') by grind)
  have m2 := Rat.mul_le_mul_of_nonneg_left pp.1 (Rat.mul_nonneg r0 r0)
  have m3 := Rat.mul_le_mul_of_nonneg_left pp.2 r0
  have m4 := Rat.mul_le_mul_of_nonneg_left ps.2 r0
  have rr := Rat.mul_le_mul_of_nonneg_left r1 r0
  generalize A / 1000000000 = A' at *
  generalize B / 1000000000 = B' at *
  clear hA hB l l' z1 z2 A0 B0
  generalize (c + c') * (c + c') + (q + q') * (q + q') = T at *
  generalize c * c + q * q = P at *
  generalize c' * c' + q' * q' = Q at *
  rw [show (A' + B') * (A' + B') = A' * A' + B' * B' + 2 * (A' * B') by grind] at sq
  generalize A' * B' = AB at *
  generalize A' * A' = AA at *
  generalize B' * B' = BB at *
  generalize (r * c + 1000 * c') * (r * c + 1000 * c') = X2 at *
  generalize (r * q + 1000 * q') * (r * q + 1000 * q') = Y2 at *
  have hd' : d * d ≤ r * r - 2000 * r + 1000000 := by clear m1 m2 m3 m4 sq a b e; grind
  have sq' : AA + BB + 2 * AB ≤ d * d - d / 5 + 1 / 100 := by clear m1 m2 m3 m4 a b e hd'; grind
  have e' : X2 + Y2 = r * r * P + 1000000 * Q + 1000 * (r * T) - 1000 * (r * P) - 1000 * (r * Q) := by rw [e]; grind
  have m1' : 0 ≤ 1000 * (r * T) := by clear e m2 m3 m4 sq sq' hd'; grind
  clear hd sq e m1
  generalize r * r * P = RP at *
  generalize r * r = R at *
  generalize r * T = rT at *
  generalize r * P = rP at *
  generalize r * Q = rQ at *
  generalize d * d = D at *
  grind
theorem nab_sum {a c : Int} {n : Nat} (h : n = c.natAbs + a.natAbs) : (n : Rat) = (c.natAbs : Rat) + (a.natAbs : Rat) := by rw [h, Rat.natCast_add]
theorem pg_ok (i : Nat) (hi : i < 5) (t : Int) : PgOk i t := by
  obtain ⟨d, d1, d2, d3⟩ : ∃ d : Int, 1 ≤ d ∧ d * d ≤ (pnRad i - 1000) * (pnRad i - 1000) ∧ 401 * (125724 * pnRad i + 50324000) + 100000000 ≤ 1000000000 * d := by
    rcases (by omega : i = 0 ∨ i = 1 ∨ i = 2 ∨ i = 3 ∨ i = 4) with rfl | rfl | rfl | rfl | rfl
    · exact ⟨613, by decide⟩
    · exact ⟨277, by decide⟩
    · exact ⟨524, by decide⟩
    · exact ⟨4203, by decide⟩
    · exact ⟨8537, by decide⟩
  have bd := pn_bd i hi
  obtain ⟨yl, yh, xl, xh⟩ := g_near i hi t
  have t1 := so_tms (heLo i t) (heHi i t); have t2 := co_tms (heLo i t) (heHi i t); have t3 := so_tms (slLo t) (slHi t); have t4 := co_tms (slLo t) (slHi t)
  have r0 : (0 : Rat) ≤ (pnRad i : Rat) := by
    have := Rat.intCast_le_intCast.2 (show 0 ≤ pnRad i by omega)
    rwa [show ((0 : Int) : Rat) = 0 from rfl] at this
  have r1 : (pnRad i : Rat) ≤ 10000 := by
    have := Rat.intCast_le_intCast.2 (show pnRad i ≤ 10000 by omega)
    rwa [show ((10000 : Int) : Rat) = 10000 from rfl] at this
  have dq : (1 : Rat) ≤ (d : Rat) := by
    have := Rat.intCast_le_intCast.2 d1
    rwa [show ((1 : Int) : Rat) = 1 from rfl] at this
  have dd : (d : Rat) * (d : Rat) ≤ ((pnRad i : Rat) - 1000) * ((pnRad i : Rat) - 1000) := by
    have := Rat.intCast_le_intCast.2 d2
    rwa [Rat.intCast_mul, Rat.intCast_mul, Rat.intCast_sub, show ((1000 : Int) : Rat) = 1000 from rfl] at this
  have far := fun {A B : Rat} => g_far (A := A) (B := B) r0 r1 dq dd (heLo i t) (slLo t)
  -- the bounds of the box
  have m : ∀ x : Int, -1000000000 ≤ x → x ≤ 1000000000 → -10000000000000 ≤ x * pnRad i ∧ x * pnRad i ≤ 10000000000000 := fun x h1 h2 => by
    have := mul_bd (a := x) (b := pnRad i) (A := 1000000000) (B := 10000) ⟨by omega, by omega⟩ ⟨by omega, by omega⟩
    omega
  have y1 : -11000000000000 ≤ gYL i t ∧ gYL i t ≤ gYH i t ∧ gYH i t ≤ 11000000000000 := by
    have a := m (soLo (heLo i t) (heHi i t)) (by omega) (by omega)
    have b := m (soHi (heLo i t) (heHi i t)) (by omega) (by omega)
    have c := Int.mul_le_mul_of_nonneg_right t1.2.1 (show 0 ≤ pnRad i by omega)
    unfold gYL gYH
    generalize soLo (heLo i t) (heHi i t) * pnRad i = z1 at *
    generalize soHi (heLo i t) (heHi i t) * pnRad i = z2 at *
    omega
  have x1 : -11000000000000 ≤ gXL i t ∧ gXL i t ≤ gXH i t ∧ gXH i t ≤ 11000000000000 := by
    have a := m (coLo (heLo i t) (heHi i t)) (by omega) (by omega)
    have b := m (coHi (heLo i t) (heHi i t)) (by omega) (by omega)
    have c := Int.mul_le_mul_of_nonneg_right t2.2.1 (show 0 ≤ pnRad i by omega)
    unfold gXL gXH
    generalize coLo (heLo i t) (heHi i t) * pnRad i = z1 at *
    generalize coHi (heLo i t) (heHi i t) * pnRad i = z2 at *
    omega
  clear t1 t2 t3 t4 m
  have q1 : gaL i t = arcLo (gYL i t) (gYH i t) (gXL i t) (gXH i t) := rfl
  have q2 : gaH i t = arcHi (gYL i t) (gYH i t) (gXL i t) (gXH i t) := rfl
  suffices h : ArcIn (gYL i t) (gYH i t) (gXL i t) (gXH i t) ∧ arcHi (gYL i t) (gYH i t) (gXL i t) (gXH i t) - arcLo (gYL i t) (gYH i t) (gXL i t) (gXH i t) ≤ 20000000 from ⟨h.1, by rw [q1, q2]; omega⟩
  clear q1 q2
  generalize gYL i t = a at *
  generalize gYH i t = b at *
  generalize gXL i t = c at *
  generalize gXH i t = e at *
  generalize gX (pnRad i) (heLo i t) (slLo t) = X at *
  generalize gY (pnRad i) (heLo i t) (slLo t) = Y at *
  generalize pnRad i = r at *
  have wy : b - a ≤ 125724 * r + 50324000 := by
    apply int_le_of_rat
    rw [Rat.intCast_sub, Rat.intCast_add, Rat.intCast_mul, show ((125724 : Int) : Rat) = 125724 from rfl, show ((50324000 : Int) : Rat) = 50324000 from rfl]
    unfold Near at yl yh
    clear far xl xh dd
    grind
  have wx : e - c ≤ 125724 * r + 50324000 := by
    apply int_le_of_rat
    rw [Rat.intCast_sub, Rat.intCast_add, Rat.intCast_mul, show ((125724 : Int) : Rat) = 125724 from rfl, show ((50324000 : Int) : Rat) = 50324000 from rfl]
    unfold Near at xl xh
    clear far yl yh dd
    grind
  have n1 := nab_bd' a; have n2 := nab_bd' c
  have F := far (A := (c.natAbs : Rat) + ((r : Rat) * 62862 + 25162000)) (B := (a.natAbs : Rat) + ((r : Rat) * 62862 + 25162000)) (by unfold Near at xl; clear far yl yh xh dd; constructor <;> grind) (by unfold Near at yl; clear far yh xl xh dd; constructor <;> grind)
  have S : 1000000000 * d - 100000000 - (125724 * r + 50324000) ≤ ((c.natAbs + a.natAbs : Nat) : Int) := by
    apply int_le_of_rat
    rw [Rat.intCast_sub, Rat.intCast_sub, Rat.intCast_add, Rat.intCast_mul, Rat.intCast_mul, Rat.intCast_natCast, Rat.natCast_add, show ((125724 : Int) : Rat) = 125724 from rfl, show ((50324000 : Int) : Rat) = 50324000 from rfl, show ((1000000000 : Int) : Rat) = 1000000000 from rfl, show ((100000000 : Int) : Rat) = 100000000 from rfl]
    clear far yl yh xl xh dd n1 n2
    grind
  clear F far yl yh xl xh dd n1 n2 d2 r0 r1 dq
  have H : ArcIn a b c e := ⟨⟨by omega, by omega⟩, ⟨by omega, by omega⟩, ⟨by omega, by omega⟩, ⟨by omega, by omega⟩, by omega, by omega, fun h => by omega⟩
  exact ⟨H, arc_narrow H (E := 125724 * r + 50324000) (by omega) wy wx (by omega)⟩
end Go.Proofs.YtdeoahgcppbmkaaDoor
/- planet.Elongation, planetWorks. -/
namespace Go.Proofs.YtdeoahgcppbmkaaDoor
open Go.RowKit
set_option linter.unusedSimpArgs false
set_option linter.unusedVariables false
theorem pwH : heLo 2 0 ≤ 214414189 ∧ 214414189 ≤ heHi 2 0 ∧ heHi 2 0 - heLo 2 0 ≤ 10001 ∧ 0 ≤ heLo 2 0 := by decide +kernel
set_option maxRecDepth 100000 in
set_option maxHeartbeats 4000000 in
theorem planetWorks_ok (w : World) (hT : SinT w) (hP : PlanT w) : Calls Tryd.prog 52 #[] w fun e w' => e = .returned (.bool true) ∧ Below w.heap.size w w' := by
  have H := Lib.hid (fun W (hT : SinT W) (h : PlanT W) => Helio_ok 2 (by omega) 0 W hT h (by decide))
  have R := Lib.hid (fun W (h : PlanT W) => Radius_ok 2 (by omega) W h)
  have N := Lib.hid (fun W h => pNames_ok W h)
  have en : pnN 2 = ⟨#[109, 97, 114, 115]⟩ := rfl
  have er : pnRad 2 = 1524 := rfl
  rw [en] at H R
  rw [er] at R
  obtain ⟨a1, a2, a3, a4⟩ := pwH
  have HT := Lib.hid hT; have HP := Lib.hid hP
  clear en er hT hP
  generalize heLo 2 0 = a at *
  generalize heHi 2 0 = b at *
  have H1 := Lib.hid (fun w => has_true a b 214414189 10001 w a1 a2 a3 ⟨by omega, by omega⟩)
  clear a1 a2 a3 a4
  go_enter Tryd.func52, Tryd.ntmps52
  have HB := Lib.hid (Below.refl w.heap.size w)
  go_wp2_with fail
  refine Calls.mono (H.out _ (HT.out.below HB.out) (HP.out.below HB.out)) ?_
  rintro e wn1 ⟨rfl, hb⟩
  have HB1 := HB.out.trans (hb.mono HB.out.size)
  clear hb
  have Hkl1 := Lib.hid HB1.size; replace HB := Lib.hid (HB1.alloc HB1.size (.cells #[.int .i64 (a), .int .i64 (b)] 24))
  clear HB1
  have s1 := Lib.hid (SpBox.new wn1 (a) (b))
  obtain ⟨k1, hk1⟩ : ∃ x, x = wn1.heap.size := ⟨_, rfl⟩
  rw [← hk1] at s1 Hkl1
  go_upto_region 2 with fail
  rw [← hk1]
  obtain ⟨X1, hX1⟩ : ∃ X, X = wn1.alloc (.cells #[.int .i64 (a), .int .i64 (b)] 24) := ⟨_, rfl⟩
  rw [← hX1] at s1 HB ⊢
  clear hk1 hX1
  go_wp2_with fail
  refine Calls.mono (R.out _ (HP.out.below HB.out)) ?_
  rintro e wc1 ⟨rfl, hb⟩
  replace s1 := Lib.hid (s1.out.below hb)
  replace HB := Lib.hid (HB.out.trans (hb.mono HB.out.size))
  clear hb
  have sc1_0 := s1.out.c0; have sc1_1 := s1.out.c1; have sc1_l := s1.out.lt
  go_wp2_with fail
  refine Calls.mono (H1.out _) ?_
  rintro e wc2 ⟨rfl, hb⟩
  replace s1 := Lib.hid (s1.out.below hb)
  replace HB := Lib.hid (HB.out.trans (hb.mono HB.out.size))
  clear sc1_0 sc1_1 sc1_l
  clear hb
  go_wp2_with fail
  refine Calls.mono (N.out _ (HP.out.below HB.out)) ?_
  rintro e w2 ⟨v, rfl, hn, hb⟩
  replace HB := Lib.hid (HB.out.trans (hb.mono HB.out.size))
  obtain ⟨g, cap, rfl, hc5, hcm, hcell, hlt⟩ := hn.form
  clear hn hb hcell
  go_wp2_with fail
  go_ret
  exact ⟨rfl, HB.out⟩
/-- The elongation of a planet. -/
def geLo (i : Nat) (t : Int) : Int := lsLo (pgLo i t) (pgHi i t) (slLo t) (slHi t)
def geHi (i : Nat) (t : Int) : Int := lsHi (pgLo i t) (pgHi i t) (slLo t) (slHi t)
theorem pg_bd (i : Nat) (hi : i < 5) (t : Int) : 0 ≤ pgLo i t ∧ pgLo i t < 1000000000 ∧ -1000000000 ≤ pgHi i t ∧ pgHi i t ≤ 2000000000 := by
  have h := pg_ok i hi t
  have nw := h.nw
  have lo := h.arc
  have b := arc_order lo
  have q1 : gaL i t = arcLo (gYL i t) (gYH i t) (gXL i t) (gXH i t) := rfl
  have q2 : gaH i t = arcHi (gYL i t) (gYH i t) (gXL i t) (gXH i t) := rfl
  rw [← q1, ← q2] at b
  unfold pgHi pgLo
  clear q1 q2
  generalize gaL i t = x at *
  generalize gaH i t = y at *
  omega
set_option maxRecDepth 100000 in
set_option maxHeartbeats 8000000 in
theorem pElong_ok (i : Nat) (hi : i < 5) (t : Int) (w : World) (hT : SinT w) (hP : PlanT w) (hin : instOk t = true) : Calls Tryd.prog 56 #[.string (pnN i), .int .i64 t] w fun e w' => e = .returned (.tuple #[.agg #[.int .i64 (geLo i t), .int .i64 (geHi i t)], .int .i64 0]) ∧ Below w.heap.size w w' := by
  have L := Lib.hid (fun W (hT : SinT W) (h : PlanT W) => pLong_ok i hi t W hT h hin (pg_ok i hi t))
  have S := Lib.hid (fun W (hT : SinT W) => sunLong_ok t W hT hin)
  have bs : 0 ≤ slLo t ∧ slLo t < 1000000000 ∧ slLo t ≤ slHi t ∧ slHi t ≤ 130000000000 := an_bd sun_in
  have bp := pg_bd i hi t
  have E := Lib.hid (fun w => less_ok (pgLo i t) (pgHi i t) (slLo t) (slHi t) w (by omega) (by omega))
  have e1 : geLo i t = lsLo (pgLo i t) (pgHi i t) (slLo t) (slHi t) := rfl
  have e2 : geHi i t = lsHi (pgLo i t) (pgHi i t) (slLo t) (slHi t) := rfl
  rw [← e1, ← e2] at E
  have HT := Lib.hid hT; have HP := Lib.hid hP
  clear e1 e2 hT hP bs bp hin
  generalize geLo i t = lo at *
  generalize geHi i t = hi' at *
  generalize pgLo i t = p1 at *
  generalize pgHi i t = p2 at *
  generalize slLo t = q1 at *
  generalize slHi t = q2 at *
  generalize pnN i = nm at *
  go_enter Tryd.func56, Tryd.ntmps56
  have HB := Lib.hid (Below.refl w.heap.size w)
  obtain ⟨k1, hk1⟩ : ∃ x, x = w.heap.size := ⟨_, rfl⟩
  have s1 := SpBox.new w (0) (0)
  rw [← hk1] at s1
  have Hkl1 := Lib.hid (show w.heap.size ≤ k1 by rw [hk1]; omega)
  go_upto_region 1 with fail
  rw [← hk1]
  have HBn := show Below w.heap.size w (w.alloc (.cells #[.int .i64 (0), .int .i64 (0)] 24)) from (by repeat' (first | (with_reducible refine below_drewN ?_ _) | go_grown))
  obtain ⟨X1, hX1⟩ : ∃ X, X = (w.alloc (.cells #[.int .i64 (0), .int .i64 (0)] 24)) := ⟨_, rfl⟩
  rw [← hX1] at s1 HBn ⊢
  clear hX1  HB
  replace s1 := Lib.hid s1
  have HB := Lib.hid HBn; have HK1 := Lib.hid hk1; clear HBn hk1
  go_wp2_with fail
  refine Calls.mono (L.out _ (HT.out.below HB.out) (HP.out.below HB.out)) ?_
  rintro e wn2 ⟨rfl, hb⟩
  replace s1 := Lib.hid ((s1.out.below hb).alloc (.cells #[.int .i64 (p1), .int .i64 (p2)] 24))
  have HB2 := HB.out.trans (hb.mono HB.out.size)
  clear hb
  have Hkl2 := Lib.hid HB2.size; replace HB := Lib.hid (HB2.alloc HB2.size (.cells #[.int .i64 (p1), .int .i64 (p2)] 24))
  clear HB2
  have s2 := Lib.hid (SpBox.new wn2 (p1) (p2))
  obtain ⟨k2, hk2⟩ : ∃ x, x = wn2.heap.size := ⟨_, rfl⟩
  rw [← hk2] at s2 Hkl2
  go_upto_region 2 with fail
  rw [← hk2]
  obtain ⟨X2, hX2⟩ : ∃ X, X = wn2.alloc (.cells #[.int .i64 (p1), .int .i64 (p2)] 24) := ⟨_, rfl⟩
  rw [← hX2] at s1 s2 HB ⊢
  clear hk2 hX2
  go_upto_region 4 with fail
  go_wp2_with fail
  refine Calls.mono (S.out _ (HT.out.below HB.out)) ?_
  rintro e wn3 ⟨rfl, hb⟩
  replace s1 := Lib.hid ((s1.out.below hb).alloc (.cells #[.int .i64 (q1), .int .i64 (q2)] 24))
  replace s2 := Lib.hid ((s2.out.below hb).alloc (.cells #[.int .i64 (q1), .int .i64 (q2)] 24))
  have HB3 := HB.out.trans (hb.mono HB.out.size)
  clear hb
  have Hkl3 := Lib.hid HB3.size; replace HB := Lib.hid (HB3.alloc HB3.size (.cells #[.int .i64 (q1), .int .i64 (q2)] 24))
  clear HB3
  have s3 := Lib.hid (SpBox.new wn3 (q1) (q2))
  obtain ⟨k3, hk3⟩ : ∃ x, x = wn3.heap.size := ⟨_, rfl⟩
  rw [← hk3] at s3 Hkl3
  go_upto_region 5 with fail
  rw [← hk3]
  obtain ⟨X3, hX3⟩ : ∃ X, X = wn3.alloc (.cells #[.int .i64 (q1), .int .i64 (q2)] 24) := ⟨_, rfl⟩
  rw [← hX3] at s1 s2 s3 HB ⊢
  clear hk3 hX3
  have sc2_0 := s2.out.c0; have sc2_1 := s2.out.c1; have sc2_l := s2.out.lt
  have sc3_0 := s3.out.c0; have sc3_1 := s3.out.c1; have sc3_l := s3.out.lt
  go_wp2_with fail
  refine Calls.mono (E.out _) ?_
  rintro e wf ⟨rfl, hb⟩
  replace s1 := Lib.hid (s1.out.below hb)
  replace HB := Lib.hid (HB.out.trans (hb.mono HB.out.size))
  clear sc2_0 sc2_1 sc2_l sc3_0 sc3_1 sc3_l hb
  have c1_0 := s1.out.c0; have c1_1 := s1.out.c1; have c1_f := s1.out.free 0; have c1_g := s1.out.free 1; have c1_l := s1.out.lt; have c1_k := Hkl1.out
  go_wp2_with fail
  refine bodyPost_ret (v := .tuple #[.agg #[.int .i64 lo, .int .i64 hi'], .int .i64 0]) ?_ rfl ⟨rfl, ?_⟩
  · simp [results, Tryd.results56, go_sem, *]
  · exact (HB.out.setCell (p := ⟨k1, 0, none⟩) c1_k _).setCell (p := ⟨k1, 1, none⟩) c1_k _
end Go.Proofs.YtdeoahgcppbmkaaDoor
