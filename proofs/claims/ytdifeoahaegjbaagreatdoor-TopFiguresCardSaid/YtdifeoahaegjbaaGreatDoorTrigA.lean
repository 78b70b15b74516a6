/- Merged by wip/tools/pack.py out of XWhole, XSkyLaw, XTrigW, XSumP, XTrigS, XTrigV, XTrigN. -/
import Derived.Test.YtdifeoahaegjbaaGreatDoorChecked
import Derived.Test.YtdifeoahaegjbaaGreatDoorBasic
import Derived.Deep.QuietTactic
import Derived.BigQuiet
import Derived.Deep.DeepCutAuto
import Derived.Test.YtdifeoahaegjbaaGreatDoorMathW
import Derived.Test.YtdifeoahaegjbaaGreatDoorFloat
import Derived.Test.YtdifeoahaegjbaaGreatDoorSines
import Derived.Test.YtdifeoahaegjbaaGreatDoorIval
/- whole.Div, Down, Mod; line.Is, IsInstant. -/
namespace Go.Proofs.YtdifeoahaegjbaaGreatDoor
open Go.RowKit
set_option linter.unusedSimpArgs false
set_option linter.unusedVariables false

theorem tdiv_half (a b : Int) (hb : 2 ≤ b) (ha : -9223372036854775808 ≤ a) (ha' : a ≤ 9223372036854775807) : -4611686018427387904 ≤ a.tdiv b ∧ a.tdiv b ≤ 4611686018427387904 := by
  have h : (a.tdiv b).natAbs ≤ 4611686018427387904 := by
    rw [Int.natAbs_tdiv]
    exact Nat.le_trans (Nat.div_le_div_left (c := 2) (by omega) (by omega)) (by omega)
  omega

set_option maxHeartbeats 1000000 in
theorem div_all (a b : Int) (w : World) (hb : 2 ≤ b) (ha : -9223372036854775808 ≤ a) (ha' : a ≤ 9223372036854775807) (hb' : b ≤ 4000000000000000000) :
    Calls Tryz.prog 69 #[.int .i64 a, .int .i64 b] w fun e w' => e = .returned (.tuple #[.int .i64 (a / b), .int .i64 (a % b), .int .i64 0]) ∧ Below w.heap.size w w' := by
  have q1 := tdiv_half a b hb ha ha'
  have hw : IntKind.i64.wrap (a.tdiv b) = a.tdiv b := IntWalk.i64_in _ (by omega)
  have r1 : -b < a.tmod b := Int.lt_tmod_of_pos a (by omega)
  have r2 : a.tmod b < b := Int.tmod_lt_of_pos a (by omega)
  have hb1 : ¬ b = -1 := by omega
  have hb2 : (b == -1) = false := by simp [hb1]
  have hb3 : (b == 0) = false := by simp; omega
  have hb0 : decide (b < 0) = false := decide_eq_false (by omega)
  have key := Lib.hid (tdiv_key a b (by omega))
  obtain ⟨q, hq⟩ : ∃ q, (a == -9223372036854775808) = q := ⟨_, rfl⟩
  have HA := Lib.hid (And.intro ha ha')
  clear ha ha'
  cases q
  all_goals
    go_enter Tryz.func69, Tryz.ntmps69
    go_wp2
    go_quiet (fail)
    by_cases h0 : a.tmod b < 0
    · have h1 : (a.tmod b != 0) = true := by rw [bne_iff_ne]; omega
      go_wp2
      go_returns
      exact ⟨ret_tup3 (key.out.2 h0).1 (key.out.2 h0).2 rfl, (by repeat' (first | (with_reducible refine below_drewN ?_ _) | go_grown))⟩
    · go_wp2
      all_goals go_returns
      all_goals exact ⟨ret_tup3 (key.out.1 (by omega)).1 (by have := (key.out.1 (by omega)).2; omega) rfl, (by repeat' (first | (with_reducible refine below_drewN ?_ _) | go_grown))⟩

set_option maxHeartbeats 400000 in
theorem down_all (a b : Int) (w : World) (hb : 2 ≤ b) (ha : -9223372036854775808 ≤ a) (ha' : a ≤ 9223372036854775807) (hb' : b ≤ 4000000000000000000) :
    Calls Tryz.prog 50 #[.int .i64 a, .int .i64 b] w fun e w' => e = .returned (.int .i64 (a / b)) ∧ Below w.heap.size w w' := by
  go_enter Tryz.func50, Tryz.ntmps50
  go_wp2_with fail
  refine Calls.mono (div_all a b _ hb ha ha' hb') ?_
  rintro e w1 ⟨rfl, hbl⟩
  go_wp2_with fail
  go_ret
  exact ⟨rfl, hbl⟩
set_option maxHeartbeats 400000 in
theorem mod_all (a b : Int) (w : World) (hb : 2 ≤ b) (ha : -9223372036854775808 ≤ a) (ha' : a ≤ 9223372036854775807) (hb' : b ≤ 4000000000000000000) :
    Calls Tryz.prog 48 #[.int .i64 a, .int .i64 b] w fun e w' => e = .returned (.int .i64 (a % b)) ∧ Below w.heap.size w w' := by
  go_enter Tryz.func48, Tryz.ntmps48
  go_wp2_with fail
  refine Calls.mono (div_all a b _ hb ha ha' hb') ?_
  rintro e w1 ⟨rfl, hbl⟩
  go_wp2_with fail
  go_ret
  exact ⟨rfl, hbl⟩

def dayOk (n : Int) : Bool := decide (-4000000 ≤ n ∧ n ≤ 4000000)
def instOk (n : Int) : Bool := dayOk (n / 86400000)
set_option maxHeartbeats 1000000 in
theorem lineIs_ok (n : Int) (w : World) : Calls Tryz.prog 65 #[.int .i64 n] w fun e w' => e = .returned (.bool (dayOk n)) ∧ w' = w := by
  by_cases h1 : -4000000 ≤ n
  · by_cases h2 : n ≤ 4000000
    · have hd : dayOk n = true := decide_eq_true ⟨h1, h2⟩
      rw [hd]
      clear hd
      go_enter Tryz.func65, Tryz.ntmps65
      go_wp2_with fail
      go_ret
      exact ⟨rfl, rfl⟩
    · have hd : dayOk n = false := decide_eq_false (fun h => h2 h.2)
      rw [hd]
      clear hd
      go_enter Tryz.func65, Tryz.ntmps65
      go_wp2_with fail
      go_ret
      exact ⟨rfl, rfl⟩
  · have hd : dayOk n = false := decide_eq_false (fun h => h1 h.1)
    rw [hd]
    clear hd
    go_enter Tryz.func65, Tryz.ntmps65
    go_wp2_with fail
    go_ret
    exact ⟨rfl, rfl⟩
set_option maxHeartbeats 1000000 in
theorem isInst_ok (n : Int) (w : World) (h0 : -9223372036854775808 ≤ n) (h1 : n ≤ 9223372036854775807) : Calls Tryz.prog 44 #[.int .i64 n] w fun e w' => e = .returned (.bool (instOk n)) ∧ Below w.heap.size w w' := by
  go_enter Tryz.func44, Tryz.ntmps44
  go_wp2_with fail
  refine Calls.mono (down_all n 86400000 _ (by omega) h0 h1 (by omega)) ?_
  rintro e w1 ⟨rfl, hbl⟩
  go_wp2_with fail
  refine Calls.mono (lineIs_ok _ _) ?_
  rintro e _ ⟨rfl, rfl⟩
  go_wp2_with fail
  go_ret
  exact ⟨rfl, hbl⟩
end Go.Proofs.YtdifeoahaegjbaaGreatDoor
/- What the laws of the sky use: has, same, meets, instant. -/
namespace Go.Proofs.YtdifeoahaegjbaaGreatDoor
open Go.RowKit
set_option linter.unusedSimpArgs false
set_option linter.unusedVariables false

end Go.Proofs.YtdifeoahaegjbaaGreatDoor
/- Package trig: Around, radians, clip, sine, Sin, Cos. -/
namespace Go.Proofs.YtdifeoahaegjbaaGreatDoor
open Go.RowKit
set_option linter.unusedSimpArgs false
set_option linter.unusedVariables false

theorem fconvI {x : Nat} {n : Int} (h : floatToIntVal .f64 x .i64 = some n) : ∀ w : World, (convert 92 3 (.float .f64 x)).run Tryz.prog w = .ok (.int .i64 n) w := fun w => run_convert_float_int w 92 3 .f64 .i64 x n (by kernel_rfl) Tryz.underlying3 h
/-- An interval in memory. -/
def agg2 (a b : Int) : Value := .agg #[.int .i64 a, .int .i64 b]
set_option maxHeartbeats 1000000 in
theorem Around_ok {v : Nat} {V E : Rat} (h : AroundOk v V E) (w : World) : Calls Tryz.prog 92 #[.float .f64 v] w fun e w' => e = .returned (.agg #[.int .i64 (aLo v), .int .i64 (aHi v)]) ∧ Below w.heap.size w w' := by
  have q1 := fop h.sub; have q2 := fop h.add
  have hf := Lib.hid (fun w => floor_ok (fsub v 4562254508917369340) h.fs w)
  have hc := Lib.hid (fun w => ceil_ok (fadd v 4562254508917369340) h.fa w)
  have q3 := fconvI h.ilo; have q4 := fconvI h.ihi
  generalize aLo v = lo at *
  generalize aHi v = hi at *
  generalize fsub v 4562254508917369340 = r1 at *
  generalize fadd v 4562254508917369340 = r2 at *
  clear h
  generalize ffloor r1 = r3 at *
  generalize fceil r2 = r4 at *
  go_enter Tryz.func92, Tryz.ntmps92
  go_wp2_with fail
  refine Calls.mono (hf.out _) ?_
  rintro e _ ⟨rfl, rfl⟩
  go_wp2_with fail
  refine Calls.mono (hc.out _) ?_
  rintro e _ ⟨rfl, rfl⟩
  go_wp2_with fail
  go_returns
  exact ⟨rfl, (by repeat' (first | (with_reducible refine below_drewN ?_ _) | go_grown))⟩
def clLo (a : Int) : Int := min (max a (-1000000000)) 1000000000
def clHi (a : Int) : Int := max (min a 1000000000) (-1000000000)
/-- The sine's word times the turn. -/
def tsin (a : Int) : Nat := fmul 4741671816366391296 (sinB (radW (floatOfInt .f64 a)))
theorem radA {a : Int} (h0 : 0 < a) (h1 : a < 1000000000) : Ap (floatOfInt .f64 a) (a : Rat) 0 1000000000 := by
  obtain ⟨f, v⟩ := fint_ok a (by omega) (by omega)
  have l : (0 : Rat) < (a : Rat) := by exact_mod_cast h0
  have e1 : ((1000000000 : Int) : Rat) = 1000000000 := rfl
  have u : (a : Rat) < 1000000000 := by rw [← e1]; exact Rat.intCast_lt_intCast.2 h1
  exact ⟨f, by rw [v]; grind, by rw [v]; grind, by grind, by grind⟩
/-- The angle of a. -/
def ang (a : Int) : Rat := 8 * qq * ((a : Rat) / 1000000000)
theorem rad_bd {a : Int} (h0 : 0 < a) (h1 : a < 1000000000) : Fin (radW (floatOfInt .f64 a)) ∧ 0 ≤ fv (radW (floatOfInt .f64 a)) ∧ fv (radW (floatOfInt .f64 a)) ≤ 7 ∧ fv (radW (floatOfInt .f64 a)) - 7 / 1000000000000000 ≤ ang a ∧ ang a ≤ fv (radW (floatOfInt .f64 a)) + 7 / 1000000000000000 := by
  obtain ⟨r1, r2, r3, _, _, _, e, ap⟩ := radW_ok (radA h0 h1)
  rw [← e]
  have e0 : ((1 : Int) : Rat) = 1 := rfl
  have l : (1 : Rat) ≤ (a : Rat) := by rw [← e0]; exact Rat.intCast_le_intCast.2 h0
  have e1 : ((1000000000 : Int) : Rat) = 1000000000 := rfl
  have u : (a : Rat) < 1000000000 := by rw [← e1]; exact Rat.intCast_lt_intCast.2 h1
  have b1 := ap.lo; have b2 := ap.hi; have f := ap.fin
  clear ap
  have ea : ang a = 8 * qq * ((a : Rat) / 1000000000) := rfl
  rw [← ea] at b1 b2
  have c1 : 1 / 1000000000 ≤ ang a ∧ ang a ≤ 63 / 10 := by
    rw [ea]; unfold qq kA kB kC; constructor <;> grind
  obtain ⟨c1, c2⟩ := c1
  clear ea e
  generalize ang a = t at *
  exact ⟨f, by grind, by grind, by grind, by grind⟩
structure TsinOk (a : Int) (e : Nat) : Prop where
  mul : floatBits .mul .f64 4741671816366391296 (sinB (radW (floatOfInt .f64 a))) = some (tsin a)
  even : e % 2 = 0
  le : e ≤ 8
  ap : Ap (tsin a) (1000000000 * sgnP e (ang a - (e : Rat) * qq)) (15 / 1000000) 1330000000
  z1 : -(393 / 500) ≤ ang a - (e : Rat) * qq
  z2 : ang a - (e : Rat) * qq ≤ 393 / 500
  o1 : ((e : Rat) - 1) * qq - 1 / 10000000000000 ≤ ang a
  o2 : ang a ≤ ((e : Rat) + 1) * qq + 1 / 10000000000000
theorem tsin_ok {a : Int} (h0 : 0 < a) (h1 : a < 1000000000) : ∃ e, TsinOk a e := by
  obtain ⟨f, a0, a7, b1, b2⟩ := rad_bd h0 h1
  obtain ⟨e, e2, e8, ap, c1, c2, c3, c4⟩ := sinB_near f a0 a7 b1 b2
  obtain ⟨i, ap2⟩ := Ap.mul ap_turn ap (15 / 1000000) 1330000000 1340000000 (mid_of (by grind) (by grind)) (by grind) (by grind) (by grind)
  exact ⟨e, i, e2, e8, ap2, c1, c2, c3, c4⟩
def sLo (a : Int) : Int := if a % 1000000000 = 0 then 0 else if a % 1000000000 = 500000000 then 0 else if a % 1000000000 = 250000000 then 1000000000 else if a % 1000000000 = 750000000 then -1000000000 else clLo (aLo (tsin (a % 1000000000)))
def sHi (a : Int) : Int := if a % 1000000000 = 0 then 0 else if a % 1000000000 = 500000000 then 0 else if a % 1000000000 = 250000000 then 1000000000 else if a % 1000000000 = 750000000 then -1000000000 else clHi (aHi (tsin (a % 1000000000)))
end Go.Proofs.YtdifeoahaegjbaaGreatDoor
/- Sums of words, and what lies around them. Plain. -/
set_option linter.unusedSimpArgs false
set_option linter.unusedVariables false
namespace Go.Proofs.YtdifeoahaegjbaaGreatDoor
open Ieee

/-- The sum of the first k words, as it is added up. -/
def fsum (f : Nat → Nat) : Nat → Nat
  | 0 => 0
  | k + 1 => fadd (fsum f k) (f k)
def rsum (f : Nat → Nat) : Nat → Rat
  | 0 => 0
  | k + 1 => rsum f k + fv (f k)
theorem fsum_congr {f g : Nat → Nat} : ∀ k, (∀ i, i < k → f i = g i) → fsum f k = fsum g k
  | 0, _ => rfl
  | k + 1, h => by unfold fsum; rw [fsum_congr k (fun i hi => h i (by omega)), h k (by omega)]
theorem rsum_congr {f g : Nat → Nat} : ∀ k, (∀ i, i < k → f i = g i) → rsum f k = rsum g k
  | 0, _ => rfl
  | k + 1, h => by unfold rsum; rw [rsum_congr k (fun i hi => h i (by omega)), h k (by omega)]
theorem rsum_app {f g h : Nat → Nat} (n : Nat) (h1 : ∀ i, i < n → h i = f i) : ∀ m, (∀ j, j < m → h (n + j) = g j) → rsum h (n + m) = rsum f n + rsum g m
  | 0, _ => by rw [Nat.add_zero, rsum_congr n h1]; show _ = _ + (0 : Rat); grind
  | m + 1, h2 => by
    have ih := rsum_app n h1 m (fun j hj => h2 j (by omega))
    show rsum h (n + m) + fv (h (n + m)) = rsum f n + (rsum g m + fv (g m))
    rw [ih, h2 m (by omega)]; grind
/-- A word of moderate size. -/
structure Mod' (x : Nat) : Prop where
  fin : Fin x
  lo : -1340000000 ≤ fv x
  hi : fv x ≤ 1340000000
theorem fin_zero' : Fin 0 ∧ fv 0 = 0 := by
  have hr : double.read 0 = .number false 0 (-1074) := by decide
  refine ⟨⟨_, _, _, hr⟩, ?_⟩
  rw [fv_fin hr]
  show _ * (0 : Rat) * _ = 0
  grind
structure SumOk (f : Nat → Nat) (k : Nat) : Prop where
  fin : Fin (fsum f k)
  lo : rsum f k - (k : Rat) / 100000 ≤ fv (fsum f k)
  hi : fv (fsum f k) ≤ rsum f k + (k : Rat) / 100000
  bl : -(1340000000 * (k : Rat)) ≤ rsum f k
  bh : rsum f k ≤ 1340000000 * (k : Rat)
theorem nat_le40 {k : Nat} (h : k ≤ 40) : (k : Rat) ≤ 40 := by
  have : (k : Rat) ≤ ((40 : Nat) : Rat) := Rat.natCast_le_natCast.2 h
  have e : ((40 : Nat) : Rat) = 40 := rfl
  rw [e] at this; exact this
theorem sum_step {f : Nat → Nat} {k : Nat} (hk : k + 1 ≤ 40) (h : SumOk f k) (hm : Mod' (f k)) : floatBits .add .f64 (fsum f k) (f k) = some (fsum f (k + 1)) ∧ SumOk f (k + 1) := by
  obtain ⟨a1, a2, a3, a4, a5⟩ := h
  obtain ⟨b1, b2, b3⟩ := hm
  have k0 := nat_nonneg k
  have k4 := nat_le40 (k := k) (by omega)
  have ek : (((k + 1 : Nat)) : Rat) = (k : Rat) + 1 := by rw [Rat.natCast_add]; rfl
  obtain ⟨i, ff, n⟩ := fadd_ok a1 b1 60000000000 (mid_of (by grind) (by grind)) (by grind) (by grind)
  unfold Near at n
  obtain ⟨n1, n2⟩ := n
  have e1 : fsum f (k + 1) = fadd (fsum f k) (f k) := rfl
  have e2 : rsum f (k + 1) = rsum f k + fv (f k) := rfl
  rw [e1]
  refine ⟨i, ff, ?_, ?_, ?_, ?_⟩
  all_goals rw [ek]
  all_goals (try rw [e1])
  all_goals (try rw [e2])
  all_goals clear e1 e2 ek i ff
  all_goals generalize fv (fadd (fsum f k) (f k)) = x at *
  all_goals grind
theorem sum_zero (f : Nat → Nat) : SumOk f 0 := by
  have e0 : ((0 : Nat) : Rat) = 0 := rfl
  refine ⟨fin_zero'.1, ?_, ?_, ?_, ?_⟩
  all_goals rw [e0]
  · show (0 : Rat) - _ ≤ fv 0; rw [fin_zero'.2]; grind
  · show fv 0 ≤ (0 : Rat) + _; rw [fin_zero'.2]; grind
  · show _ ≤ (0 : Rat); grind
  · show (0 : Rat) ≤ _; grind
theorem sum_ok {f : Nat → Nat} {n : Nat} (hn : n ≤ 40) (hm : ∀ i, i < n → Mod' (f i)) : ∀ k, k ≤ n → SumOk f k
  | 0, _ => sum_zero f
  | k + 1, hk => (sum_step (by omega) (sum_ok hn hm k (by omega)) (hm k (by omega))).2
theorem SumOk.ap {f : Nat → Nat} {k : Nat} (h : SumOk f k) (hk : k ≤ 40) : Ap (fsum f k) (rsum f k) (4 / 10000) 60000000000 := by
  obtain ⟨a1, a2, a3, a4, a5⟩ := h
  have k0 := nat_nonneg k
  have k4 := nat_le40 hk
  exact ⟨a1, by grind, by grind, by grind, by grind⟩
/-- Around a word of size at most 10^11. -/
theorem around_near {v : Nat} {V e : Rat} (h : Ap v V e 100000000000) (he : e ≤ 1 / 1000) : AroundOk v V (e + 12 / 1000000) := by
  obtain ⟨i1, a1⟩ := Ap.sub h ap_sl (e + 12 / 1000000) (100000000001) (100000000002) (mid_of (by grind) (by grind)) (by grind) (by grind) (by grind)
  obtain ⟨i2, a2⟩ := Ap.add h ap_sl (e + 12 / 1000000) (100000000001) (100000000002) (mid_of (by grind) (by grind)) (by grind) (by grind) (by grind)
  have b1 := a1.lo; have b2 := a1.hi; have b3 := a1.bl; have b4 := a1.bh
  have c1 := a2.lo; have c2 := a2.hi; have c3 := a2.bl; have c4 := a2.bh
  obtain ⟨k, fk, vk, k1, k2, tk⟩ := ffloor_ok a1.fin (by grind) (by grind)
  obtain ⟨n, fn, vn, n1, n2, tn⟩ := fceil_ok a2.fin (by grind) (by grind)
  have ek : aLo v = k := by unfold aLo; rw [tk]; rfl
  have en : aHi v = n := by unfold aHi; rw [tn]; rfl
  have e1 : ((9000000000000000000 : Int) : Rat) = 9000000000000000000 := rfl
  have e2 : ((-9000000000000000000 : Int) : Rat) = -9000000000000000000 := rfl
  refine ⟨i1, i2, a1.fin, a2.fin, ?_, ?_, ?_, ?_, ?_, ?_⟩
  · rw [ek]; exact i64_val tk (int_le_of_rat (by rw [e2]; grind)) (int_le_of_rat (by rw [e1]; grind))
  · rw [en]; exact i64_val tn (int_le_of_rat (by rw [e2]; grind)) (int_le_of_rat (by rw [e1]; grind))
  all_goals first | rw [ek] | rw [en]
  all_goals grind
theorem ksl_bd : 9999 / 10000000 ≤ kSl ∧ kSl ≤ 10001 / 10000000 := by unfold kSl; constructor <;> grind
/-- The sum's interval. -/
theorem sum_around {f : Nat → Nat} {n : Nat} (hn : n ≤ 40) (hm : ∀ i, i < n → Mod' (f i)) : AroundOk (fsum f n) (rsum f n) (42 / 100000) := by
  have h := around_near (((sum_ok hn hm n (Nat.le_refl _)).ap hn).weak Rat.le_refl (by grind)) (by grind)
  obtain ⟨h1, h2, h3, h4, h5, h6, h7, h8, h9, h10⟩ := h
  exact ⟨h1, h2, h3, h4, h5, h6, by grind, by grind, by grind, by grind⟩
theorem around_order {v : Nat} {V E : Rat} (h : AroundOk v V E) (hE : E ≤ 9 / 10000) : aLo v ≤ aHi v ∧ aHi v - aLo v ≤ 2 := by
  have a1 := h.lo1; have a2 := h.lo2; have a3 := h.hi1; have a4 := h.hi2
  have k := ksl_bd
  constructor
  · exact int_le_of_rat (by grind)
  · have e : ((aHi v - aLo v : Int) : Rat) = (aHi v : Rat) - (aLo v : Rat) := Rat.intCast_sub _ _
    have e3 : ((3 : Int) : Rat) = 3 := rfl
    have : aHi v - aLo v < 3 := int_lt_of_rat (by rw [e, e3]; grind)
    omega
/-- What is around a sum meets the sum of what is around its parts. -/
theorem around_adds {u v x : Nat} {U V E : Rat} (hu : AroundOk u U E) (hv : AroundOk v V E) (hx : AroundOk x (U + V) E) (hE : E ≤ 9 / 10000) : aLo x ≤ aHi u + aHi v ∧ aLo u + aLo v ≤ aHi x := by
  have a1 := hx.lo1; have a3 := hx.hi1
  have b1 := hu.lo1; have b3 := hu.hi1
  have c1 := hv.lo1; have c3 := hv.hi1
  have k := ksl_bd
  constructor
  · refine int_le_of_rat ?_
    rw [Rat.intCast_add]; grind
  · refine int_le_of_rat ?_
    rw [Rat.intCast_add]; grind
theorem around_bd {v : Nat} {V E : Rat} (h : AroundOk v V E) (hE : E ≤ 9 / 10000) (h1 : -60000000000 ≤ V) (h2 : V ≤ 60000000000) : -60000000002 ≤ aLo v ∧ aLo v ≤ 60000000002 ∧ -60000000002 ≤ aHi v ∧ aHi v ≤ 60000000002 := by
  have a1 := h.lo1; have a2 := h.lo2; have a3 := h.hi1; have a4 := h.hi2
  have k := ksl_bd
  have e1 : ((-60000000002 : Int) : Rat) = -60000000002 := rfl
  have e2 : ((60000000002 : Int) : Rat) = 60000000002 := rfl
  refine ⟨int_le_of_rat ?_, int_le_of_rat ?_, int_le_of_rat ?_, int_le_of_rat ?_⟩
  all_goals first | rw [e1] | rw [e2]
  all_goals grind
end Go.Proofs.YtdifeoahaegjbaaGreatDoor
/- trig.inRange, trig.Sin, trig.Cos. -/
namespace Go.Proofs.YtdifeoahaegjbaaGreatDoor
open Go.RowKit
set_option linter.unusedSimpArgs false
set_option linter.unusedVariables false
/-- The interval of a cosine. -/
def cLo (a : Int) : Int := sLo (a % 1000000000 + 250000000)
def cHi (a : Int) : Int := sHi (a % 1000000000 + 250000000)
end Go.Proofs.YtdifeoahaegjbaaGreatDoor
/- The program's sines of whole angles: how they lie around the polynomials of a high degree; the theorem of addition. -/
namespace Go.Proofs.YtdifeoahaegjbaaGreatDoor
set_option linter.unusedSimpArgs false
set_option linter.unusedVariables false

theorem tsin_near {a : Int} (h0 : 0 < a) (h1 : a < 1000000000) : Ap (tsin a) (1000000000 * sn (ang a)) (17 / 1000000) 1330000001 := by
  obtain ⟨e, -, e2, e8, ap, z1, z2, o1, o2⟩ := tsin_ok h0 h1
  have n := sgnP_near ⟨z1, z2⟩ e2 e8
  rw [show ang a - (e : Rat) * qq + (e : Rat) * qq = ang a by grind] at n
  have a1 := ap.lo; have a2 := ap.hi; have f := ap.fin; have a3 := ap.bl; have a4 := ap.bh
  clear ap
  unfold Near at n
  generalize sgnP e (ang a - (e : Rat) * qq) = p at *
  generalize sn (ang a) = q at *
  exact ⟨f, by grind, by grind, by grind, by grind⟩
/-- The sine and the cosine of a whole angle. -/
def SN (a : Int) : Rat := sn (ang (a % 1000000000))
def CN (a : Int) : Rat := cs (ang (a % 1000000000))
theorem ang_bd {a : Int} (h0 : 0 ≤ a) (h1 : a < 1000000000) : 0 ≤ ang a ∧ ang a ≤ 63 / 10 := by
  have e0 : ((0 : Int) : Rat) = 0 := rfl
  have l : (0 : Rat) ≤ (a : Rat) := by rw [← e0]; exact Rat.intCast_le_intCast.2 h0
  have e1 : ((1000000000 : Int) : Rat) = 1000000000 := rfl
  have u : (a : Rat) < 1000000000 := by rw [← e1]; exact Rat.intCast_lt_intCast.2 h1
  unfold ang qq kA kB kC
  constructor <;> grind
theorem ang_8 (a : Int) : -8 ≤ ang (a % 1000000000) ∧ ang (a % 1000000000) ≤ 8 := by
  have := ang_bd (a := a % 1000000000) (by omega) (by omega)
  grind
theorem SN_mod (a k : Int) : SN (a + 1000000000 * k) = SN a := by unfold SN; rw [Int.add_mul_emod_self_left]
theorem CN_mod (a k : Int) : CN (a + 1000000000 * k) = CN a := by unfold CN; rw [Int.add_mul_emod_self_left]
theorem SN_le (a : Int) : -(1 + ep) ≤ SN a ∧ SN a ≤ 1 + ep := sn_le (ang_8 a)
theorem CN_le (a : Int) : -(1 + ep) ≤ CN a ∧ CN a ≤ 1 + ep := cs_le (ang_8 a)
theorem SN_pyth (a : Int) : Near (CN a * CN a + SN a * SN a) 1 ep := pyth (ang_8 a)
theorem ang_add (a b : Int) : ang (a + b) = ang a + ang b := by
  unfold ang
  rw [Rat.intCast_add]
  grind
theorem ang_turn : ang 1000000000 = 8 * qq := by
  unfold ang
  rw [show ((1000000000 : Int) : Rat) = 1000000000 from rfl]
  grind
/-- The error of these laws. -/
def e2 : Rat := 50 / 1000000000000000000000000000
theorem sum_cases (a b : Int) : (∃ k : Int, (k = 0 ∨ k = 1) ∧ (a + b) % 1000000000 + 1000000000 * k = a % 1000000000 + b % 1000000000) := by
  by_cases h : a % 1000000000 + b % 1000000000 < 1000000000
  · exact ⟨0, .inl rfl, by omega⟩
  · exact ⟨1, .inr rfl, by omega⟩
theorem SC_add (a b : Int) : Near (SN (a + b)) (SN a * CN b + CN a * SN b) e2 ∧ Near (CN (a + b)) (CN a * CN b - SN a * SN b) e2 := by
  obtain ⟨k, hk, e⟩ := sum_cases a b
  have s := sn_add (ang_8 a) (ang_8 b)
  have c := cs_add (ang_8 a) (ang_8 b)
  rw [← ang_add, ← e] at s c
  unfold SN CN
  have t := turn_any (ang_8 (a + b))
  rw [← ang_turn, ← ang_add] at t
  rcases hk with rfl | rfl
  · rw [show (a + b) % 1000000000 + 1000000000 * 0 = (a + b) % 1000000000 by omega] at s c
    unfold Near e2 ep at *
    grind
  · rw [show (a + b) % 1000000000 + 1000000000 * 1 = (a + b) % 1000000000 + 1000000000 by omega] at s c
    obtain ⟨t1, t2⟩ := t
    unfold Near e2 ep eq1 at *
    generalize sn (ang ((a + b) % 1000000000 + 1000000000)) = p1 at *
    generalize cs (ang ((a + b) % 1000000000 + 1000000000)) = p2 at *
    generalize sn (ang ((a + b) % 1000000000)) = p3 at *
    generalize cs (ang ((a + b) % 1000000000)) = p4 at *
    generalize sn (ang (a % 1000000000)) * cs (ang (b % 1000000000)) + cs (ang (a % 1000000000)) * sn (ang (b % 1000000000)) = p5 at *
    generalize cs (ang (a % 1000000000)) * cs (ang (b % 1000000000)) - sn (ang (a % 1000000000)) * sn (ang (b % 1000000000)) = p6 at *
    grind
theorem SN_add (a b : Int) : Near (SN (a + b)) (SN a * CN b + CN a * SN b) e2 := (SC_add a b).1
theorem CN_add (a b : Int) : Near (CN (a + b)) (CN a * CN b - SN a * SN b) e2 := (SC_add a b).2
theorem SC_neg (a : Int) : Near (SN (-a)) (-SN a) e2 ∧ Near (CN (-a)) (CN a) e2 := by
  unfold SN CN
  have b8 := ang_8 a
  by_cases h : a % 1000000000 = 0
  · rw [h, show (-a) % 1000000000 = 0 by omega]
    have : ang 0 = 0 := by unfold ang; rw [show ((0 : Int) : Rat) = 0 from rfl]; grind
    rw [this, sn_zero, cs_zero]
    unfold Near e2; grind
  · rw [show (-a) % 1000000000 = -(a % 1000000000) + 1000000000 by omega, ang_add, ang_turn]
    have e : ang (-(a % 1000000000)) = -ang (a % 1000000000) := by
      unfold ang; rw [Rat.intCast_neg]; grind
    rw [e]
    have t := turn_any (x := -ang (a % 1000000000)) (by grind)
    rw [sn_neg, cs_neg] at t
    exact ⟨near_weak t.1 (by unfold e2 eq1; grind), near_weak t.2 (by unfold e2 eq1; grind)⟩
theorem ang_q (k : Nat) : ang (250000000 * (k : Int)) = 0 + ((2 * k : Nat) : Rat) * qq := by
  unfold ang
  rw [Rat.intCast_mul, Rat.natCast_mul, Rat.intCast_natCast, show ((250000000 : Int) : Rat) = 250000000 from rfl, show ((2 : Nat) : Rat) = 2 from rfl]
  grind
theorem SC_quarter (k : Nat) (h : k ≤ 3) : Near (SN (250000000 * (k : Int))) (sgnV (2 * k) 0) (4 * eq1) ∧ Near (CN (250000000 * (k : Int))) (sgnW (2 * k) 0) (4 * eq1) := by
  have := oct_sn (Z := 0) (e := 2 * k) (by grind) (by omega) (by omega)
  unfold SN CN
  rw [show 250000000 * (k : Int) % 1000000000 = 250000000 * (k : Int) by omega, ang_q]
  exact this
theorem SN_q1 : Near (SN 250000000) 1 (4 * eq1) := by have := (SC_quarter 1 (by omega)).1; unfold sgnV at this; simp only [cs_zero] at this; exact this
theorem CN_q1 : Near (CN 250000000) 0 (4 * eq1) := by have := (SC_quarter 1 (by omega)).2; unfold sgnW at this; simp only [sn_zero] at this; unfold Near at *; grind
theorem SN_q2 : Near (SN 500000000) 0 (4 * eq1) := by have := (SC_quarter 2 (by omega)).1; unfold sgnV at this; simp only [sn_zero] at this; unfold Near at *; grind
theorem CN_q2 : Near (CN 500000000) (-1) (4 * eq1) := by have := (SC_quarter 2 (by omega)).2; unfold sgnW at this; simp only [cs_zero] at this; unfold Near at *; grind
theorem SN_q3 : Near (SN 750000000) (-1) (4 * eq1) := by have := (SC_quarter 3 (by omega)).1; unfold sgnV at this; simp only [cs_zero] at this; unfold Near at *; grind
theorem SN_0 : SN 0 = 0 := by
  have : ang 0 = 0 := by unfold ang; rw [show ((0 : Int) : Rat) = 0 from rfl]; grind
  unfold SN; rw [show (0 : Int) % 1000000000 = 0 from rfl, this, sn_zero]
theorem CN_0 : CN 0 = 1 := by
  have : ang 0 = 0 := by unfold ang; rw [show ((0 : Int) : Rat) = 0 from rfl]; grind
  unfold CN; rw [show (0 : Int) % 1000000000 = 0 from rfl, this, cs_zero]
/-- The cosine is the sine a quarter later. -/
theorem CN_SN (a : Int) : Near (SN (a + 250000000)) (CN a) (2 * e2) := by
  have h := SN_add a 250000000
  have b := SN_le a; have c := CN_le a
  have q1 := SN_q1; have q2 := CN_q1
  have m1 := rmul_bd b (show -(4 * eq1) ≤ CN 250000000 ∧ CN 250000000 ≤ 4 * eq1 by unfold Near at q2; grind)
  have m2 := rmul_bd c (show -(4 * eq1) ≤ SN 250000000 - 1 ∧ SN 250000000 - 1 ≤ 4 * eq1 by unfold Near at q1; grind)
  unfold Near at *
  generalize SN (a + 250000000) = x at *
  generalize SN 250000000 = y at *
  generalize CN 250000000 = z at *
  clear q1 q2 b c
  unfold e2 eq1 ep at *
  grind
/-- The program's interval of a sine. -/
structure SinIn (a : Int) : Prop where
  lo : (sLo a : Rat) ≤ 1000000000 * SN a + 1 / 100000000000
  hi : 1000000000 * SN a - 1 / 100000000000 ≤ (sHi a : Rat)
  lo2 : 1000000000 * SN a - 101 / 100 ≤ (sLo a : Rat)
  hi2 : (sHi a : Rat) ≤ 1000000000 * SN a + 101 / 100
  bl : -1000000000 ≤ sLo a
  bh : sHi a ≤ 1000000000
  le : sLo a ≤ sHi a
theorem sine_mod (a : Int) : sLo a = sLo (a % 1000000000) ∧ sHi a = sHi (a % 1000000000) ∧ SN a = SN (a % 1000000000) := by
  unfold sLo sHi SN
  rw [Int.emod_emod]
  exact ⟨rfl, rfl, rfl⟩
theorem int_rat (n : Int) : ((n + 1 : Int) : Rat) = (n : Rat) + 1 := by rw [Rat.intCast_add]; rfl
theorem sine_in (a : Int) : SinIn a := by
  have hm := sine_mod a
  have r1 : (0 : Int) ≤ a % 1000000000 := by omega
  have r2 : a % 1000000000 < 1000000000 := by omega
  obtain ⟨m1, m2, m3⟩ := hm
  suffices h : SinIn (a % 1000000000) by
    obtain ⟨h1, h2, h3, h4, h5, h6, h7⟩ := h
    rw [← m1, ← m3] at h1; rw [← m2, ← m3] at h2; rw [← m1, ← m3] at h3; rw [← m2, ← m3] at h4; rw [← m1] at h5; rw [← m2] at h6; rw [← m1, ← m2] at h7
    exact ⟨h1, h2, h3, h4, h5, h6, h7⟩
  clear m1 m2 m3
  generalize a % 1000000000 = b at *
  have i0 : ((0 : Int) : Rat) = 0 := rfl
  have i1 : ((1000000000 : Int) : Rat) = 1000000000 := rfl
  have i2 : ((-1000000000 : Int) : Rat) = -1000000000 := rfl
  by_cases c0 : b = 0
  · subst c0
    have e1 : sLo 0 = 0 := rfl
    have e2 : sHi 0 = 0 := rfl
    exact ⟨by rw [e1, SN_0, i0]; grind, by rw [e2, SN_0, i0]; grind, by rw [e1, SN_0, i0]; grind, by rw [e2, SN_0, i0]; grind, by rw [e1]; decide, by rw [e2]; decide, by rw [e1, e2]; decide⟩
  by_cases c1 : b = 500000000
  · subst c1
    have e1 : sLo 500000000 = 0 := rfl
    have e2 : sHi 500000000 = 0 := rfl
    have q := SN_q2
    unfold Near eq1 at q
    exact ⟨by rw [e1, i0]; grind, by rw [e2, i0]; grind, by rw [e1, i0]; grind, by rw [e2, i0]; grind, by rw [e1]; decide, by rw [e2]; decide, by rw [e1, e2]; decide⟩
  by_cases c2 : b = 250000000
  · subst c2
    have e1 : sLo 250000000 = 1000000000 := rfl
    have e2 : sHi 250000000 = 1000000000 := rfl
    have q := SN_q1
    unfold Near eq1 at q
    exact ⟨by rw [e1, i1]; grind, by rw [e2, i1]; grind, by rw [e1, i1]; grind, by rw [e2, i1]; grind, by rw [e1]; decide, by rw [e2]; decide, by rw [e1, e2]; decide⟩
  by_cases c3 : b = 750000000
  · subst c3
    have e1 : sLo 750000000 = -1000000000 := rfl
    have e2 : sHi 750000000 = -1000000000 := rfl
    have q := SN_q3
    unfold Near eq1 at q
    exact ⟨by rw [e1, i2]; grind, by rw [e2, i2]; grind, by rw [e1, i2]; grind, by rw [e2, i2]; grind, by rw [e1]; decide, by rw [e2]; decide, by rw [e1, e2]; decide⟩
  have em : b % 1000000000 = b := by omega
  have l : sLo b = clLo (aLo (tsin b)) := by unfold sLo; rw [em, if_neg c0, if_neg c1, if_neg c2, if_neg c3]
  have h : sHi b = clHi (aHi (tsin b)) := by unfold sHi; rw [em, if_neg c0, if_neg c1, if_neg c2, if_neg c3]
  have s : SN b = sn (ang b) := by unfold SN; rw [em]
  have t := tsin_near (a := b) (by omega) (by omega)
  rw [← s] at t
  have A := around_near (t.weak (Rat.le_refl) (by grind)) (by grind)
  have K := ksl_bd
  have B := SN_le b
  obtain ⟨-, -, -, -, -, -, A1, A2, A3, A4⟩ := A
  clear t s
  unfold ep at B
  generalize aLo (tsin b) = p at *
  generalize aHi (tsin b) = q at *
  have o : p ≤ q := by
    apply int_le_of_rat; grind
  have o1 : p < 1000000000 + 1 := by
    apply int_lt_of_rat; rw [int_rat, i1]; grind
  have o2 : -1000000000 - 1 < q := by
    apply int_lt_of_rat; rw [show ((-1000000000 - 1 : Int) : Rat) = -1000000001 from rfl]; grind
  refine ⟨?_, ?_, ?_, ?_, by rw [l]; unfold clLo; omega, by rw [h]; unfold clHi; omega, by rw [l, h]; unfold clLo clHi; omega⟩
  · rw [l]
    by_cases c : p < -1000000000
    · rw [show clLo p = -1000000000 by unfold clLo; omega, i2]; grind
    · rw [show clLo p = p by unfold clLo; omega]; grind
  · rw [h]
    by_cases c : 1000000000 < q
    · rw [show clHi q = 1000000000 by unfold clHi; omega, i1]; grind
    · rw [show clHi q = q by unfold clHi; omega]; grind
  · rw [l]
    have : p ≤ clLo p := by unfold clLo; omega
    have := Rat.intCast_le_intCast.2 this
    grind
  · rw [h]
    have : clHi q ≤ q := by unfold clHi; omega
    have := Rat.intCast_le_intCast.2 this
    grind
end Go.Proofs.YtdifeoahaegjbaaGreatDoor
/- Spans of sines and cosines, as they lie around numbers; their products. No walk here. -/
namespace Go.Proofs.YtdifeoahaegjbaaGreatDoor
set_option linter.unusedSimpArgs false
set_option linter.unusedVariables false
/-- A span around a number. -/
structure SpanIn (l u : Int) (x : Rat) : Prop where
  lo : (l : Rat) ≤ x + 1 / 10000000000
  hi : x - 1 / 10000000000 ≤ (u : Rat)
  lo2 : x - 102 / 100 ≤ (l : Rat)
  hi2 : (u : Rat) ≤ x + 102 / 100
  bl : -1000000000 ≤ l
  bh : u ≤ 1000000000
  le : l ≤ u
theorem sin_span (a : Int) : SpanIn (sLo a) (sHi a) (1000000000 * SN a) := by
  obtain ⟨h1, h2, h3, h4, h5, h6, h7⟩ := sine_in a
  exact ⟨by grind, by grind, by grind, by grind, h5, h6, h7⟩
theorem cos_sine (a : Int) : cLo a = sLo (a + 250000000) ∧ cHi a = sHi (a + 250000000) := by
  unfold cLo cHi sLo sHi
  have : (a % 1000000000 + 250000000) % 1000000000 = (a + 250000000) % 1000000000 := by omega
  rw [this]; exact ⟨rfl, rfl⟩
theorem cos_span (a : Int) : SpanIn (cLo a) (cHi a) (1000000000 * CN a) := by
  obtain ⟨e1, e2⟩ := cos_sine a
  rw [e1, e2]
  obtain ⟨h1, h2, h3, h4, h5, h6, h7⟩ := sine_in (a + 250000000)
  have n := CN_SN a
  unfold Near Go.Proofs.YtdifeoahaegjbaaGreatDoor.e2 at n
  exact ⟨by grind, by grind, by grind, by grind, h5, h6, h7⟩
theorem SpanIn.pt {lo hi : Int} {x : Rat} (h : SpanIn lo hi x) : ∃ y : Rat, (lo : Rat) ≤ y ∧ y ≤ (hi : Rat) ∧ Near y x (1 / 10000000000) := by
  have l := Rat.intCast_le_intCast.2 h.le
  have a := h.lo; have b := h.hi
  unfold Near
  by_cases c : x < (lo : Rat)
  · exact ⟨lo, by grind, l, by grind, by grind⟩
  · by_cases d : (hi : Rat) < x
    · exact ⟨hi, l, by grind, by grind, by grind⟩
    · exact ⟨x, by grind, by grind, by grind, by grind⟩
/-- Products of numbers that are near. -/
theorem near_mul {x y a b A B d : Rat} (hx : Near x a d) (hy : Near y b d) (ha : -A ≤ a ∧ a ≤ A) (hb : -B ≤ b ∧ b ≤ B) (hd : 0 ≤ d) (hA : 0 ≤ A) (hB : 0 ≤ B) : Near (x * y) (a * b) (d * (A + B + d)) := by
  have e : x * y - a * b = (x - a) * b + a * (y - b) + (x - a) * (y - b) := by grind
  unfold Near at *
  have m1 := Go.Proofs.YtdifeoahaegjbaaGreatDoor.rmul_bd (show -d ≤ x - a ∧ x - a ≤ d by grind) hb
  have m2 := Go.Proofs.YtdifeoahaegjbaaGreatDoor.rmul_bd ha (show -d ≤ y - b ∧ y - b ≤ d by grind)
  have m3 := Go.Proofs.YtdifeoahaegjbaaGreatDoor.rmul_bd (show -d ≤ x - a ∧ x - a ≤ d by grind) (show -d ≤ y - b ∧ y - b ≤ d by grind)
  grind
theorem SN_9 (a : Int) : -1000000001 ≤ 1000000000 * SN a ∧ 1000000000 * SN a ≤ 1000000001 := by have := SN_le a; unfold ep at this; grind
theorem CN_9 (a : Int) : -1000000001 ≤ 1000000000 * CN a ∧ 1000000000 * CN a ≤ 1000000001 := by have := CN_le a; unfold ep at this; grind
theorem SpanIn.mul {a b c d : Int} {x y : Rat} (h : SpanIn a b x) (g : SpanIn c d y) (hx : -1000000001 ≤ x ∧ x ≤ 1000000001) (hy : -1000000001 ≤ y ∧ y ≤ 1000000001) : (pLo a b c d 1 : Rat) ≤ x * y + 21 / 100 ∧ x * y - 21 / 100 ≤ (pHi a b c d 1 : Rat) := by
  obtain ⟨p, p1, p2, p3⟩ := h.pt
  obtain ⟨q, q1, q2, q3⟩ := g.pt
  have m := near_mul p3 q3 hx hy (by grind) (by grind) (by grind)
  have r := rp_contains p1 p2 q1 q2
  unfold Near at m
  grind
theorem rat_le_int {p q : Int} (h : (p : Rat) ≤ (q : Rat) + 1 / 2) : p ≤ q := by
  have : p < q + 1 := by
    apply int_lt_of_rat
    rw [int_rat]
    grind
  omega
theorem span_mulOk {a b c d : Int} {x y : Rat} (h : SpanIn a b x) (g : SpanIn c d y) : MulOk a b c d ∧ IvOk a b ∧ IvOk c d ∧ -1000000000000000000 ≤ pLo a b c d 1 ∧ pLo a b c d 1 ≤ pHi a b c d 1 ∧ pHi a b c d 1 ≤ 1000000000000000000 := by
  have m := mulOk_of h.bl h.le h.bh g.bl g.le g.bh (by omega)
  have b := p_bounds h.bl h.le h.bh g.bl g.le g.bh
  obtain ⟨h1, h2, h3⟩ := And.intro h.bl (And.intro h.le h.bh)
  obtain ⟨g1, g2, g3⟩ := And.intro g.bl (And.intro g.le g.bh)
  exact ⟨m, ⟨by omega, by omega, by omega⟩, ⟨by omega, by omega, by omega⟩, by omega, by omega, by omega⟩
theorem pyth_law (a : Int) : pLo (sLo a) (sHi a) (sLo a) (sHi a) 1 + pLo (cLo a) (cHi a) (cLo a) (cHi a) 1 ≤ 1000000000000000000 ∧ 1000000000000000000 ≤ pHi (sLo a) (sHi a) (sLo a) (sHi a) 1 + pHi (cLo a) (cHi a) (cLo a) (cHi a) 1 := by
  have s := (sin_span a).mul (sin_span a) (SN_9 a) (SN_9 a)
  have c := (cos_span a).mul (cos_span a) (CN_9 a) (CN_9 a)
  have p := SN_pyth a
  have i1 : ((1000000000000000000 : Int) : Rat) = 1000000000000000000 := rfl
  unfold Near ep at p
  constructor
  · apply rat_le_int
    rw [Rat.intCast_add, i1]
    generalize (pLo (sLo a) (sHi a) (sLo a) (sHi a) 1 : Rat) = u at *
    generalize (pLo (cLo a) (cHi a) (cLo a) (cHi a) 1 : Rat) = v at *
    have e1 : 1000000000 * SN a * (1000000000 * SN a) = 1000000000000000000 * (SN a * SN a) := by grind
    have e2 : 1000000000 * CN a * (1000000000 * CN a) = 1000000000000000000 * (CN a * CN a) := by grind
    rw [e1] at s; rw [e2] at c
    generalize SN a * SN a = x at *
    generalize CN a * CN a = y at *
    grind
  · apply rat_le_int
    rw [Rat.intCast_add, i1]
    generalize (pHi (sLo a) (sHi a) (sLo a) (sHi a) 1 : Rat) = u at *
    generalize (pHi (cLo a) (cHi a) (cLo a) (cHi a) 1 : Rat) = v at *
    have e1 : 1000000000 * SN a * (1000000000 * SN a) = 1000000000000000000 * (SN a * SN a) := by grind
    have e2 : 1000000000 * CN a * (1000000000 * CN a) = 1000000000000000000 * (CN a * CN a) := by grind
    rw [e1] at s; rw [e2] at c
    generalize SN a * SN a = x at *
    generalize CN a * CN a = y at *
    grind
end Go.Proofs.YtdifeoahaegjbaaGreatDoor
