/- Merged by wip/tools/pack.py out of XDiv64, XGrown, XAngle0. -/
import Derived.Test.YtdifeoahaegjbaaGreatDoorShelf
import Derived.Test.YtdifeoahaegjbaaGreatDoorBasic
import Derived.Deep.QuietTactic
import Derived.BigQuiet
import Derived.Test.YtdifeoahaegjbaaGreatDoorTrigA
/- math/bits.Div64 by the number of milliseconds in a million days. -/
namespace Go.Proofs.YtdifeoahaegjbaaGreatDoor
open Go.RowKit
set_option linter.unusedSimpArgs false
set_option linter.unusedVariables false

set_option maxRecDepth 100000 in
theorem u64_in (n : Nat) (h : n < 18446744073709551616) : IntKind.u64.wrap (n : Int) = (n : Int) := by
  unfold IntKind.wrap
  simp [IntKind.signed, IntKind.bits]
  omega
set_option maxRecDepth 100000 in
theorem u64_mod (n : Nat) : IntKind.u64.wrap (n : Int) = ((n % 18446744073709551616 : Nat) : Int) := by
  unfold IntKind.wrap
  simp [IntKind.signed, IntKind.bits]
set_option maxRecDepth 100000 in
theorem ofInt_nat (a : Nat) (h : a < 18446744073709551616) : (BitVec.ofInt 64 (a : Int)).toNat = a := by
  have : (BitVec.ofInt 64 (a : Int)).toNat = a % 2 ^ 64 := by simp
  rw [this]; exact Nat.mod_eq_of_lt h
set_option maxRecDepth 100000 in
theorem bits_and32 (a : Nat) (h : a < 18446744073709551616) : bits .and .u64 (a : Int) 4294967295 = ((a % 4294967296 : Nat) : Int) := by
  show IntKind.u64.wrap ((BitVec.ofInt 64 (a : Int) &&& BitVec.ofInt 64 4294967295).toNat : Nat) = _
  have e : (BitVec.ofInt 64 4294967295).toNat = 2 ^ 32 - 1 := by decide
  rw [BitVec.toNat_and, ofInt_nat a h, e, Nat.and_two_pow_sub_one_eq_mod, u64_in _ (by omega)]
set_option maxRecDepth 100000 in
theorem bits_or17 (a b : Nat) (hb : b < 131072) (h : a * 131072 + b < 18446744073709551616) : bits .or .u64 ((a * 131072 : Nat) : Int) (b : Int) = ((a * 131072 + b : Nat) : Int) := by
  show IntKind.u64.wrap ((BitVec.ofInt 64 ((a * 131072 : Nat) : Int) ||| BitVec.ofInt 64 (b : Int)).toNat : Nat) = _
  have g1 : a * 131072 < 18446744073709551616 := Nat.lt_of_le_of_lt (Nat.le_add_right _ _) h
  have g2 : b < 18446744073709551616 := Nat.lt_trans hb (by decide)
  rw [BitVec.toNat_or, ofInt_nat (a * 131072) g1, ofInt_nat b g2]
  have e : a * 131072 + b = a * 131072 ||| b := by
    have := Nat.shiftLeft_add_eq_or_of_lt (i := 17) (b := b) (by omega) a
    rw [Nat.shiftLeft_eq] at this
    exact this
  rw [← e, u64_in _ h]

theorem div64_plain (hi lo : Nat) (h2 : hi < 86400000000000) (h3 : lo < 18446744073709551616) :
    (hi * 131072 + lo / 140737488355328) / 2636718750 * 4294967296 + ((hi * 131072 + lo / 140737488355328) % 2636718750 * 4294967296 + lo * 131072 % 18446744073709551616 / 4294967296) / 2636718750 = (hi * 18446744073709551616 + lo) / 86400000000000 ∧
    (((hi * 131072 + lo / 140737488355328) % 2636718750 * 4294967296 + lo * 131072 % 18446744073709551616 / 4294967296) % 2636718750 * 4294967296 + lo * 131072 % 18446744073709551616 % 4294967296) / 131072 = (hi * 18446744073709551616 + lo) % 86400000000000 := by
  omega
/-- The numbers that Div64 reckons with. -/
structure DivN (hi lo : Nat) (y2 n1 n0 hs ls u l10 l1 l0 q1 m1 r1 t1 t2 v1 v2 v3 x q0 m0 r0 k1 k2 z1 z2 z3 z4 f : Int) : Prop where
  e1 : IntKind.u64.wrap ((86400000000000 : Int) * 131072) = y2
  e2 : y2 / 4294967296 = n1
  e3 : bits .and .u64 y2 4294967295 = n0
  e4 : IntKind.u64.wrap ((hi : Int) * 131072) = hs
  e5 : (lo : Int) / 140737488355328 = ls
  e6 : bits .or .u64 hs ls = u
  e7 : IntKind.u64.wrap ((lo : Int) * 131072) = l10
  e8 : l10 / 4294967296 = l1
  e9 : bits .and .u64 l10 4294967295 = l0
  e10 : IntKind.u64.wrap (u.tdiv n1) = q1
  e11 : IntKind.u64.wrap (q1 * n1) = m1
  e12 : IntKind.u64.wrap (u - m1) = r1
  g1 : decide (4294967296 ≤ q1) = false
  e13 : IntKind.u64.wrap (q1 * n0) = 0
  e14 : IntKind.u64.wrap (4294967296 * r1) = t1
  e15 : IntKind.u64.wrap (t1 + l1) = t2
  g2 : decide (t2 < 0) = false
  e16 : IntKind.u64.wrap (u * 4294967296) = v1
  e17 : IntKind.u64.wrap (v1 + l1) = v2
  e18 : IntKind.u64.wrap (q1 * y2) = v3
  e19 : IntKind.u64.wrap (v2 - v3) = x
  e20 : IntKind.u64.wrap (x.tdiv n1) = q0
  e21 : IntKind.u64.wrap (q0 * n1) = m0
  e22 : IntKind.u64.wrap (x - m0) = r0
  g3 : decide (4294967296 ≤ q0) = false
  e23 : IntKind.u64.wrap (q0 * n0) = 0
  e24 : IntKind.u64.wrap (4294967296 * r0) = k1
  e25 : IntKind.u64.wrap (k1 + l0) = k2
  g4 : decide (k2 < 0) = false
  e26 : IntKind.u64.wrap (q1 * 4294967296) = z1
  e27 : IntKind.u64.wrap (z1 + q0) = ((hi * 18446744073709551616 + lo) / 86400000000000 : Nat)
  e28 : IntKind.u64.wrap (x * 4294967296) = z2
  e29 : IntKind.u64.wrap (z2 + l0) = z3
  e30 : IntKind.u64.wrap (q0 * y2) = z4
  e31 : IntKind.u64.wrap (z3 - z4) = f
  e32 : f / 131072 = ((hi * 18446744073709551616 + lo) % 86400000000000 : Nat)
theorem mod3 (a b c m : Int) : ((a % m + b) % m - c % m) % m = (a + b - c) % m := by
  simp only [Int.emod_add_emod, Int.emod_sub_emod, Int.sub_emod_emod]
theorem u64_emod (n : Int) : IntKind.u64.wrap n = n % 18446744073709551616 := by
  unfold IntKind.wrap
  simp [IntKind.signed, IntKind.bits]
set_option maxRecDepth 100000 in
theorem divN_ok (hi lo : Nat) (h1 : 0 < hi) (h2 : hi < 86400000000000) (h3 : lo < 18446744073709551616) : ∃ y2 n1 n0 hs ls u l10 l1 l0 q1 m1 r1 t1 t2 v1 v2 v3 x q0 m0 r0 k1 k2 z1 z2 z3 z4 f : Int, DivN hi lo y2 n1 n0 hs ls u l10 l1 l0 q1 m1 r1 t1 t2 v1 v2 v3 x q0 m0 r0 k1 k2 z1 z2 z3 z4 f := by
  have hp := div64_plain hi lo h2 h3
  obtain ⟨U, hU⟩ : ∃ U, U = hi * 131072 + lo / 140737488355328 := ⟨_, rfl⟩
  obtain ⟨L, hL⟩ : ∃ U, U = lo * 131072 % 18446744073709551616 := ⟨_, rfl⟩
  rw [← hU, ← hL] at hp
  obtain ⟨hp1, hp2⟩ := hp
  obtain ⟨Q1, hQ1⟩ : ∃ Q, Q = U / 2636718750 := ⟨_, rfl⟩
  obtain ⟨R1, hR1⟩ : ∃ Q, Q = U % 2636718750 := ⟨_, rfl⟩
  rw [← hR1] at hp1 hp2
  rw [← hQ1] at hp1
  obtain ⟨X, hX⟩ : ∃ X, X = R1 * 4294967296 + L / 4294967296 := ⟨_, rfl⟩
  rw [← hX] at hp1 hp2
  refine ⟨11324620800000000000, 2636718750, 0, ((hi * 131072 : Nat) : Int), ((lo / 140737488355328 : Nat) : Int), (U : Int), (L : Int), ((L / 4294967296 : Nat) : Int), ((L % 4294967296 : Nat) : Int), (Q1 : Int), ((Q1 * 2636718750 : Nat) : Int), (R1 : Int), ((R1 * 4294967296 : Nat) : Int), (X : Int), _, _, _, (X : Int), ((X / 2636718750 : Nat) : Int), ((X / 2636718750 * 2636718750 : Nat) : Int), ((X % 2636718750 : Nat) : Int), ((X % 2636718750 * 4294967296 : Nat) : Int), _, _, _, _, _, _,
    ⟨?_, ?_, ?_, ?_, ?_, ?_, ?_, ?_, ?_, ?_, ?_, ?_, ?_, ?_, ?_, ?_, ?_, rfl, rfl, rfl, ?_, ?_, ?_, ?_, ?_, ?_, ?_, rfl, ?_, rfl, ?_, rfl, rfl, rfl, rfl, ?_⟩⟩
  · decide
  · decide
  · decide
  · rw [u64_emod]; omega
  · omega
  · rw [bits_or17 hi _ (by omega) (by omega), ← hU]
  · clear hp1 hp2 hX hR1 hQ1; rw [u64_emod]; omega
  · clear hp1 hp2 hX hR1 hQ1; omega
  · exact bits_and32 L (by clear hp1 hp2 hX hR1 hQ1; omega)
  · rw [IntWalk.u64_quo _ _ (by clear hp1 hp2 hX hR1 hQ1 hL; omega)]; clear hp1 hp2 hX hR1 hL hU; omega
  · clear hp1 hp2 hX hR1 hL
    have : Q1 * 2636718750 < 18446744073709551616 := by omega
    clear hQ1 hU
    rw [u64_emod]; exact Int.emod_eq_of_lt (by omega) (by omega)
  · have e : (U : Int) - ((Q1 * 2636718750 : Nat) : Int) = (R1 : Int) := by clear hp1 hp2 hX hL hU; omega
    rw [u64_emod, e]
    clear hp1 hp2 hX hL hU hQ1 e
    exact Int.emod_eq_of_lt (by omega) (by omega)
  · have : Q1 < 4294967296 := by clear hp1 hp2 hX hL hR1; omega
    exact decide_eq_false (by omega)
  · rw [Int.mul_zero]; rfl
  · clear hp1 hp2 hX hL hU hQ1
    rw [u64_emod]
    have : R1 * 4294967296 < 18446744073709551616 := by omega
    have e : 4294967296 * (R1 : Int) = ((R1 * 4294967296 : Nat) : Int) := by omega
    rw [e]
    exact Int.emod_eq_of_lt (by omega) (by omega)
  · have hR : R1 < 2636718750 := by rw [hR1]; exact Nat.mod_lt _ (by decide)
    have hL9 : L < 18446744073709551616 := by rw [hL]; exact Nat.mod_lt _ (by decide)
    clear hp1 hp2 hL hU hQ1 hR1
    rw [u64_emod]
    have : X < 18446744073709551616 := by omega
    have e : ((R1 * 4294967296 : Nat) : Int) + ((L / 4294967296 : Nat) : Int) = (X : Int) := by omega
    rw [e]
    exact Int.emod_eq_of_lt (by omega) (by omega)
  · exact decide_eq_false (by clear hp1 hp2 hX hL hU hQ1 hR1; omega)
  · rw [u64_emod, u64_emod, u64_emod, u64_emod, mod3]
    have hR : R1 < 2636718750 := by rw [hR1]; exact Nat.mod_lt _ (by decide)
    have hL9 : L < 18446744073709551616 := by rw [hL]; exact Nat.mod_lt _ (by decide)
    clear hp1 hp2 hL hU
    have e : (U : Int) * 4294967296 + ((L / 4294967296 : Nat) : Int) - (Q1 : Int) * 11324620800000000000 = (X : Int) := by omega
    rw [e]
    clear hQ1 hR1 e
    have : X < 18446744073709551616 := by omega
    exact Int.emod_eq_of_lt (by omega) (by omega)
  · have hR : R1 < 2636718750 := by rw [hR1]; exact Nat.mod_lt _ (by decide)
    have hL9 : L < 18446744073709551616 := by rw [hL]; exact Nat.mod_lt _ (by decide)
    clear hp1 hp2 hL hU hQ1 hR1
    have : X < 11324620800000000000 := by omega
    clear hX
    rw [IntWalk.u64_quo _ _ (by omega)]; omega
  · have hR : R1 < 2636718750 := by rw [hR1]; exact Nat.mod_lt _ (by decide)
    have hL9 : L < 18446744073709551616 := by rw [hL]; exact Nat.mod_lt _ (by decide)
    clear hp1 hp2 hL hU hQ1 hR1
    have : X < 11324620800000000000 := by omega
    clear hX
    rw [u64_emod]
    exact Int.emod_eq_of_lt (by omega) (by omega)
  · clear hp1 hp2 hL hU hQ1 hR1 hX
    have e : (X : Int) - ((X / 2636718750 * 2636718750 : Nat) : Int) = ((X % 2636718750 : Nat) : Int) := by omega
    rw [u64_emod, e]
    exact Int.emod_eq_of_lt (by omega) (by omega)
  · have hR : R1 < 2636718750 := by rw [hR1]; exact Nat.mod_lt _ (by decide)
    have hL9 : L < 18446744073709551616 := by rw [hL]; exact Nat.mod_lt _ (by decide)
    clear hp1 hp2 hL hU hQ1 hR1
    have : X < 11324620800000000000 := by omega
    exact decide_eq_false (by omega)
  · rw [Int.mul_zero]; rfl
  · clear hp1 hp2 hL hU hQ1 hR1 hX
    have e : 4294967296 * ((X % 2636718750 : Nat) : Int) = ((X % 2636718750 * 4294967296 : Nat) : Int) := by omega
    have : X % 2636718750 * 4294967296 < 18446744073709551616 := by omega
    rw [u64_emod, e]
    exact Int.emod_eq_of_lt (by omega) (by omega)
  · clear hp1 hp2 hL hU hQ1 hR1 hX
    exact decide_eq_false (by rw [u64_emod]; omega)
  · have hR : R1 < 2636718750 := by rw [hR1]; exact Nat.mod_lt _ (by decide)
    have hL9 : L < 18446744073709551616 := by rw [hL]; exact Nat.mod_lt _ (by decide)
    have hQ : Q1 < 4294967296 := by clear hp1 hp2 hX hL hR1; omega
    have hX9 : X < 11324620800000000000 := by clear hp1 hp2 hL hU hQ1 hR1; omega
    rw [← hp1]
    clear hp1 hp2 hL hU hQ1 hR1 hX
    rw [u64_emod, u64_emod, Int.emod_add_emod]
    have e : (Q1 : Int) * 4294967296 + ((X / 2636718750 : Nat) : Int) = ((Q1 * 4294967296 + X / 2636718750 : Nat) : Int) := by omega
    have : Q1 * 4294967296 + X / 2636718750 < 18446744073709551616 := by omega
    rw [e]
    exact Int.emod_eq_of_lt (by omega) (by omega)
  · rw [u64_emod, u64_emod, u64_emod, u64_emod, mod3, ← hp2]
    clear hp1 hp2 hL hU hQ1 hR1 hX
    have e : (X : Int) * 4294967296 + ((L % 4294967296 : Nat) : Int) - ((X / 2636718750 : Nat) : Int) * 11324620800000000000 = ((X % 2636718750 * 4294967296 + L % 4294967296 : Nat) : Int) := by omega
    rw [e]
    have h9 : X % 2636718750 * 4294967296 + L % 4294967296 < 18446744073709551616 := by omega
    rw [Int.emod_eq_of_lt (by omega) (by omega)]
    omega

set_option maxRecDepth 100000 in
set_option maxHeartbeats 4000000 in
theorem div64_hi (y : Int) (hy : y = 86400000000000) (hi lo : Nat) (h1 : 0 < hi) (h2 : hi < 86400000000000) (h3 : lo < 18446744073709551616) (q r : Nat) (hq : (hi * 18446744073709551616 + lo) / 86400000000000 = q) (hr : (hi * 18446744073709551616 + lo) % 86400000000000 = r) (w : World) :
    Calls Tryz.prog 95 #[.int .u64 hi, .int .u64 lo, .int .u64 y] w fun e w' => e = .returned (.tuple #[.int .u64 q, .int .u64 r]) ∧ w' = w := by
  have HL := Lib.hid (fun w => Tryz.bits_LeadingZeros64 y w (by omega) (by omega))
  have HB := Lib.hid (show (64 - (Lib.bitLen y.toNat : Int)) = 17 by rw [hy]; decide)
  obtain ⟨y2, n1, n0, hs, ls, u, l10, l1, l0, q1, m1, r1, t1, t2, v1, v2, v3, x, q0, m0, r0, k1, k2, z1, z2, z3, z4, f, hD⟩ := divN_ok hi lo h1 h2 h3
  have d27 := hD.e27; have d32 := hD.e32
  rw [hq] at d27
  rw [hr] at d32
  have d1 := hD.e1
  rw [← hy] at d1
  have a0 : 0 < y := by omega
  have a1 : (0 : Int) < (hi : Int) := by omega
  have a4 : ¬ (hi : Int) = 0 := by omega
  have a5 : ((hi : Int) == 0) = false := by simp; omega
  have a6 : (hi == 0) = false := by simp; omega
  have a7 : (y == 0) = false := by simp; omega
  have a8 : decide (y ≤ (hi : Int)) = false := decide_eq_false (by omega)
  have d2 := hD.e2; have d3 := hD.e3; have d4 := hD.e4; have d5 := hD.e5; have d6 := hD.e6; have d7 := hD.e7; have d8 := hD.e8; have d9 := hD.e9; have d10 := hD.e10; have d11 := hD.e11; have d12 := hD.e12; have d13 := hD.e13; have d14 := hD.e14; have d15 := hD.e15; have d16 := hD.e16; have d17 := hD.e17; have d18 := hD.e18; have d19 := hD.e19; have d20 := hD.e20; have d21 := hD.e21; have d22 := hD.e22; have d23 := hD.e23; have d24 := hD.e24; have d25 := hD.e25; have d26 := hD.e26; have d28 := hD.e28; have d29 := hD.e29; have d30 := hD.e30; have d31 := hD.e31
  have g1 := hD.g1; have g2 := hD.g2; have g3 := hD.g3; have g4 := hD.g4
  have b1 : ¬ n1 = 0 := by
    have : n1 ≠ 0 := by
      have e1 := hD.e1; have e2 := hD.e2
      rw [← e2, ← e1]; decide
    exact this
  clear hq hr hy h1 h2 h3 hD
  go_enter Tryz.func95, Tryz.ntmps95
  go_wp2_with fail
  refine Calls.mono (HL.out _) ?_
  rintro e _ ⟨rfl, rfl⟩
  rw [HB.out]
  go_wp2_with fail
  go_loop [15, 16] (fun s15 s16 => s15 = .int .u64 q1 ∧ s16 = .int .u64 r1) (fun _ _ => 0)
  case atStart => exact ⟨rfl, rfl⟩
  case round =>
    obtain ⟨rfl, rfl⟩ := hrel
    go_wp2_with fail
    go_loop [16, 18] (fun s16 s18 => s16 = .int .u64 r0 ∧ s18 = .int .u64 q0) (fun _ _ => 0)
    case atStart => exact ⟨rfl, rfl⟩
    case round =>
      obtain ⟨rfl, rfl⟩ := hrel
      go_wp2_with fail
      go_ret2
      exact ⟨rfl, rfl⟩
set_option maxRecDepth 100000 in
set_option maxHeartbeats 1000000 in
theorem div64_zero (y : Int) (hy : y = 86400000000000) (lo : Nat) (h3 : lo < 18446744073709551616) (w : World) :
    Calls Tryz.prog 95 #[.int .u64 0, .int .u64 lo, .int .u64 y] w fun e w' => e = .returned (.tuple #[.int .u64 ((lo : Int) / y), .int .u64 ((lo : Int) % y)]) ∧ Below w.heap.size w w' := by
  have e1 : IntKind.u64.wrap ((lo : Int).tdiv y) = (lo : Int) / y := IntWalk.u64_quo _ _ (by omega)
  have e2 : (lo : Int).tmod y = (lo : Int) % y := Int.tmod_eq_emod_of_nonneg (by omega)
  have e3 : IntKind.u64.wrap ((lo : Int) % y) = (lo : Int) % y := IntWalk.u64_in _ (by rw [hy]; omega)
  have e4 : IntKind.u64.wrap ((lo : Int) / y) = (lo : Int) / y := IntWalk.u64_in _ (by rw [hy]; omega)
  obtain ⟨q, hq⟩ : ∃ q, (lo : Int) / y = q := ⟨_, rfl⟩
  obtain ⟨r, hr⟩ : ∃ r, (lo : Int) % y = r := ⟨_, rfl⟩
  have e5 : IntKind.u64.wrap q = q := by rw [← hq]; exact e4
  rw [hq] at e1 ⊢
  clear e4
  have HQ := hq
  rw [hr] at e2 e3 ⊢
  have a7 : (y == 0) = false := by simp; omega
  have a9 : ¬ y = 0 := by omega
  have a8 : decide (y ≤ 0) = false := decide_eq_false (by omega)
  have a10 : ¬ y ≤ 0 := by omega
  clear hr hy h3 hq
  go_enter Tryz.func95, Tryz.ntmps95
  go_wp2_with fail
  go_quiet (fail)
  go_wp2_with fail
  go_ret2
  exact ⟨rfl, (by repeat' (first | (with_reducible refine below_drewN ?_ _) | go_grown))⟩
/-- Div64 at a whole number of 128 digits. -/
theorem div64_ok (y : Int) (hy : y = 86400000000000) (V : Nat) (hV : V < 1593793287968424591360000000000000) (hi lo : Int) (h1 : hi = ((V / 18446744073709551616 : Nat) : Int)) (h2 : lo = ((V % 18446744073709551616 : Nat) : Int)) (q r : Int) (hq : (V : Int) / 86400000000000 = q) (hr : (V : Int) % 86400000000000 = r) (w : World) :
    Calls Tryz.prog 95 #[.int .u64 hi, .int .u64 lo, .int .u64 y] w fun e w' => e = .returned (.tuple #[.int .u64 q, .int .u64 r]) ∧ Below w.heap.size w w' := by
  subst h1 h2
  have hlo : V % 18446744073709551616 < 18446744073709551616 := Nat.mod_lt _ (by decide)
  have hv : V / 18446744073709551616 * 18446744073709551616 + V % 18446744073709551616 = V := by omega
  rcases Nat.eq_zero_or_pos (V / 18446744073709551616) with hz | hp
  · rw [hz]
    refine (div64_zero y hy _ hlo w).mono ?_
    rintro e w' ⟨rfl, hb⟩
    refine ⟨?_, hb⟩
    have : V % 18446744073709551616 = V := by omega
    rw [this, hy, hq, hr]
  · have hhi : V / 18446744073709551616 < 86400000000000 := by omega
    refine (div64_hi y hy _ _ hp hhi hlo (V / 86400000000000) (V % 86400000000000) (by rw [hv]) (by rw [hv]) w).mono ?_
    rintro e w' ⟨rfl, rfl⟩
    refine ⟨?_, Below.refl _ _⟩
    rw [← hq, ← hr]
    rfl
end Go.Proofs.YtdifeoahaegjbaaGreatDoor
/- series.size, series.grown. -/
namespace Go.Proofs.YtdifeoahaegjbaaGreatDoor
open Go.RowKit
set_option linter.unusedSimpArgs false
set_option linter.unusedVariables false

theorem size_ok (n : Int) (w : World) (h : -9000000000000000000 ≤ n ∧ n ≤ 9000000000000000000) : Calls Tryz.prog 94 #[.int .i64 n] w fun e w' => e = .returned (.int .i64 (n.natAbs : Int)) ∧ w' = w := by
  have e1 : wrap64 (-n) = -n := IntWalk.wrap64_in _ (by omega)
  have e2 : max n (-n) = (n.natAbs : Int) := by omega
  have H := Lib.hid e2
  clear e2 h
  go_enter Tryz.func94, Tryz.ntmps94
  go_wp2
  go_ret
  exact ⟨ret_int H.out, rfl⟩
theorem grown_plain (a b : Int) (V : Nat) (hV : V = a.natAbs * b.natAbs) : ((a < 0 ↔ b < 0) → a * b = (V : Int)) ∧ (¬ (a < 0 ↔ b < 0) → a * b = -(V : Int)) := by
  have e : (V : Int) = ((a * b).natAbs : Int) := by rw [hV, Int.natAbs_mul]
  constructor
  · intro h
    have : 0 ≤ a * b := by
      by_cases ha : a < 0
      · exact Int.mul_nonneg_of_nonpos_of_nonpos (by omega) (by have := h.1 ha; omega)
      · exact Int.mul_nonneg (by omega) (by have : ¬ b < 0 := fun c => ha (h.2 c); omega)
    omega
  · intro h
    have : a * b ≤ 0 := by
      by_cases ha : a < 0
      · have hb : ¬ b < 0 := fun c => h ⟨fun _ => c, fun _ => ha⟩
        exact Int.mul_nonpos_of_nonpos_of_nonneg (by omega) (by omega)
      · have hb : b < 0 := by
          by_cases c : b < 0
          · exact c
          · exact absurd ⟨fun x => absurd x ha, fun x => absurd x c⟩ h
        exact Int.mul_nonpos_of_nonneg_of_nonpos (by omega) (by omega)
    omega
set_option maxRecDepth 100000 in
set_option maxHeartbeats 4000000 in
theorem grown_ok (a b : Int) (w : World) (ha : -4000000000000000 ≤ a ∧ a ≤ 4000000000000000) (hb : -350000000000000 ≤ b ∧ b ≤ 350000000000000) :
    Calls Tryz.prog 67 #[.int .i64 a, .int .i64 b] w fun e w' => e = .returned (.tuple #[.int .i64 (a * b / 86400000000000), .int .i64 (a * b % 86400000000000)]) ∧ Below w.heap.size w w' := by
  have S1 := Lib.hid (fun w => size_ok a w (by omega))
  have S2 := Lib.hid (fun w => size_ok b w (by omega))
  obtain ⟨A, hA⟩ : ∃ A, A = a.natAbs := ⟨_, rfl⟩
  obtain ⟨B, hB⟩ : ∃ B, B = b.natAbs := ⟨_, rfl⟩
  rw [← hA] at S1
  rw [← hB] at S2
  obtain ⟨V, hV⟩ : ∃ V, V = A * B := ⟨_, rfl⟩
  have hp := grown_plain a b V (by rw [hV, hA, hB])
  have A1 : A ≤ 4000000000000000 := by omega
  have B1 : B ≤ 350000000000000 := by omega
  have V1 : V ≤ 4000000000000000 * 350000000000000 := by rw [hV]; exact Nat.mul_le_mul A1 B1
  have M := Lib.hid (fun w => Tryz.bits_Mul64 A B (by omega) (by omega) w)
  rw [← hV] at M
  obtain ⟨hi, hhi⟩ : ∃ x : Int, x = ((V / 18446744073709551616 : Nat) : Int) := ⟨_, rfl⟩
  obtain ⟨lo, hlo⟩ : ∃ x : Int, x = ((V % 18446744073709551616 : Nat) : Int) := ⟨_, rfl⟩
  obtain ⟨q, hq⟩ : ∃ x : Int, (V : Int) / 86400000000000 = x := ⟨_, rfl⟩
  obtain ⟨r, hr⟩ : ∃ x : Int, (V : Int) % 86400000000000 = x := ⟨_, rfl⟩
  have D := Lib.hid (fun w => div64_ok 86400000000000 rfl V (by omega) hi lo hhi hlo q r hq hr w)
  rw [← hhi, ← hlo] at M
  have q0 : 0 ≤ q := by omega
  have q1 : q ≤ 20000000000000000 := by omega
  have r0 : 0 ≤ r := by omega
  have r1 : r < 86400000000000 := by omega
  obtain ⟨Q, hQ⟩ : ∃ x, x = a * b / 86400000000000 := ⟨_, rfl⟩
  obtain ⟨R, hR⟩ : ∃ x, x = a * b % 86400000000000 := ⟨_, rfl⟩
  rw [← hQ, ← hR]
  have w1 : IntKind.u64.wrap (A : Int) = (A : Int) := IntWalk.u64_in _ (by omega)
  have w2 : IntKind.u64.wrap (B : Int) = (B : Int) := IntWalk.u64_in _ (by omega)
  have same : (a < 0 ↔ b < 0) → Q = q ∧ R = r := fun h => by
    rw [hQ, hR, hp.1 h]; exact ⟨hq, hr⟩
  have diff : ¬ (a < 0 ↔ b < 0) → (r = 0 → Q = -q ∧ R = 0) ∧ (0 < r → Q = -q - 1 ∧ R = -r + 86400000000000) := fun h => by
    rw [hQ, hR, hp.2 h]
    omega
  clear hp hq hr hhi hlo hV V1 hA hB A1 B1 ha hb hQ hR
  have HS := Lib.hid same; have HD := Lib.hid diff
  clear same diff
  have fin1 : ∀ (e1 : Q = q) (e2 : R = r), Hid (Q = q ∧ R = r) := fun e1 e2 => Lib.hid ⟨e1, e2⟩
  have n1 : wrap64 (-q) = -q := IntWalk.wrap64_in _ (by omega)
  have n2 : wrap64 (-r) = -r := IntWalk.wrap64_in _ (by omega)
  have n3 : wrap64 (-q - 1) = -q - 1 := IntWalk.wrap64_in _ (by omega)
  have n4 : wrap64 (-r + 86400000000000) = -r + 86400000000000 := IntWalk.wrap64_in _ (by omega)
  clear fin1
  have fin : ∀ (x y : Int), Q = x → R = y → Hid (Q = x ∧ R = y) := fun x y h1 h2 => Lib.hid ⟨h1, h2⟩
  have HFIN := Lib.hid fin
  clear fin
  by_cases sa : a < 0
  · have da : decide (a < 0) = true := decide_eq_true sa
    by_cases sb : b < 0
    · have db : decide (b < 0) = true := decide_eq_true sb
      have HF := HFIN.out q r (HS.out ⟨fun _ => sb, fun _ => sa⟩).1 (HS.out ⟨fun _ => sb, fun _ => sa⟩).2
      have dr : decide (r < 0) = false := decide_eq_false (by omega)
      go_enter Tryz.func67, Tryz.ntmps67
      go_wp2_with fail
      refine Calls.mono (S1.out _) ?_
      rintro e _ ⟨rfl, rfl⟩
      go_wp2_with fail
      refine Calls.mono (S2.out _) ?_
      rintro e _ ⟨rfl, rfl⟩
      go_wp2_with fail
      refine Calls.mono (M.out _) ?_
      rintro e _ ⟨rfl, rfl⟩
      go_wp2_with fail
      refine Calls.mono (D.out _) ?_
      rintro e w1 ⟨rfl, hbl⟩
      go_wp2_with fail
      go_ret2
      exact ⟨ret_ints2 (HF.out).1.symm (HF.out).2.symm, hbl⟩
    · have db : decide (b < 0) = false := decide_eq_false sb
      have hno : ¬ (a < 0 ↔ b < 0) := fun h => sb (h.1 sa)
      by_cases hr : 0 < r
      · have HF := HFIN.out (-q - 1) (-r + 86400000000000) ((HD.out hno).2 hr).1 ((HD.out hno).2 hr).2
        have dr : decide (-r < 0) = true := decide_eq_true (by omega)
        clear hno
        go_enter Tryz.func67, Tryz.ntmps67
        go_wp2_with fail
        refine Calls.mono (S1.out _) ?_
        rintro e _ ⟨rfl, rfl⟩
        go_wp2_with fail
        refine Calls.mono (S2.out _) ?_
        rintro e _ ⟨rfl, rfl⟩
        go_wp2_with fail
        refine Calls.mono (M.out _) ?_
        rintro e _ ⟨rfl, rfl⟩
        go_wp2_with fail
        refine Calls.mono (D.out _) ?_
        rintro e w1 ⟨rfl, hbl⟩
        go_wp2_with fail
        go_ret2
        exact ⟨ret_ints2 (HF.out).1.symm (HF.out).2.symm, hbl⟩
      · obtain rfl : r = 0 := by omega
        have HF := HFIN.out (-q) 0 ((HD.out hno).1 rfl).1 ((HD.out hno).1 rfl).2
        clear hno
        go_enter Tryz.func67, Tryz.ntmps67
        go_wp2_with fail
        refine Calls.mono (S1.out _) ?_
        rintro e _ ⟨rfl, rfl⟩
        go_wp2_with fail
        refine Calls.mono (S2.out _) ?_
        rintro e _ ⟨rfl, rfl⟩
        go_wp2_with fail
        refine Calls.mono (M.out _) ?_
        rintro e _ ⟨rfl, rfl⟩
        go_wp2_with fail
        refine Calls.mono (D.out _) ?_
        rintro e w1 ⟨rfl, hbl⟩
        go_wp2_with fail
        go_ret2
        exact ⟨ret_ints2 (HF.out).1.symm (HF.out).2.symm, hbl⟩
  · have da : decide (a < 0) = false := decide_eq_false sa
    by_cases sb : b < 0
    · have db : decide (b < 0) = true := decide_eq_true sb
      have hno : ¬ (a < 0 ↔ b < 0) := fun h => sa (h.2 sb)
      by_cases hr : 0 < r
      · have HF := HFIN.out (-q - 1) (-r + 86400000000000) ((HD.out hno).2 hr).1 ((HD.out hno).2 hr).2
        have dr : decide (-r < 0) = true := decide_eq_true (by omega)
        clear hno
        go_enter Tryz.func67, Tryz.ntmps67
        go_wp2_with fail
        refine Calls.mono (S1.out _) ?_
        rintro e _ ⟨rfl, rfl⟩
        go_wp2_with fail
        refine Calls.mono (S2.out _) ?_
        rintro e _ ⟨rfl, rfl⟩
        go_wp2_with fail
        refine Calls.mono (M.out _) ?_
        rintro e _ ⟨rfl, rfl⟩
        go_wp2_with fail
        refine Calls.mono (D.out _) ?_
        rintro e w1 ⟨rfl, hbl⟩
        go_wp2_with fail
        go_ret2
        exact ⟨ret_ints2 (HF.out).1.symm (HF.out).2.symm, hbl⟩
      · obtain rfl : r = 0 := by omega
        have HF := HFIN.out (-q) 0 ((HD.out hno).1 rfl).1 ((HD.out hno).1 rfl).2
        clear hno
        go_enter Tryz.func67, Tryz.ntmps67
        go_wp2_with fail
        refine Calls.mono (S1.out _) ?_
        rintro e _ ⟨rfl, rfl⟩
        go_wp2_with fail
        refine Calls.mono (S2.out _) ?_
        rintro e _ ⟨rfl, rfl⟩
        go_wp2_with fail
        refine Calls.mono (M.out _) ?_
        rintro e _ ⟨rfl, rfl⟩
        go_wp2_with fail
        refine Calls.mono (D.out _) ?_
        rintro e w1 ⟨rfl, hbl⟩
        go_wp2_with fail
        go_ret2
        exact ⟨ret_ints2 (HF.out).1.symm (HF.out).2.symm, hbl⟩
    · have db : decide (b < 0) = false := decide_eq_false sb
      have HF := HFIN.out q r (HS.out ⟨fun h => absurd h sa, fun h => absurd h sb⟩).1 (HS.out ⟨fun h => absurd h sa, fun h => absurd h sb⟩).2
      have dr : decide (r < 0) = false := decide_eq_false (by omega)
      go_enter Tryz.func67, Tryz.ntmps67
      go_wp2_with fail
      refine Calls.mono (S1.out _) ?_
      rintro e _ ⟨rfl, rfl⟩
      go_wp2_with fail
      refine Calls.mono (S2.out _) ?_
      rintro e _ ⟨rfl, rfl⟩
      go_wp2_with fail
      refine Calls.mono (M.out _) ?_
      rintro e _ ⟨rfl, rfl⟩
      go_wp2_with fail
      refine Calls.mono (D.out _) ?_
      rintro e w1 ⟨rfl, hbl⟩
      go_wp2_with fail
      go_ret2
      exact ⟨ret_ints2 (HF.out).1.symm (HF.out).2.symm, hbl⟩
end Go.Proofs.YtdifeoahaegjbaaGreatDoor
/- trig.Norm; sums without terms: series.Check, value, angle, Angle. -/
namespace Go.Proofs.YtdifeoahaegjbaaGreatDoor
open Go.RowKit
set_option linter.unusedSimpArgs false
set_option linter.unusedVariables false

set_option maxHeartbeats 1000000 in
theorem norm_ok (lo hi : Int) (w : World) (h1 : -4000000000000000000 ≤ lo ∧ lo ≤ 4000000000000000000) (h2 : -4000000000000000000 ≤ hi ∧ hi ≤ 4000000000000000000) :
    Calls Tryz.prog 68 #[.agg #[.int .i64 lo, .int .i64 hi]] w fun e w' => e = .returned (.agg #[.int .i64 (lo % 1000000000), .int .i64 (lo % 1000000000 + hi - lo)]) ∧ Below w.heap.size w w' := by
  have hm := Lib.hid (fun w => mod_all lo 1000000000 w (by omega) (by omega) (by omega) (by omega))
  obtain ⟨m, hmm⟩ : ∃ m, m = lo % 1000000000 := ⟨_, rfl⟩
  rw [← hmm] at hm ⊢
  have m1 : 0 ≤ m := by omega
  have m2 : m < 1000000000 := by omega
  obtain ⟨a1, a2⟩ := h1
  obtain ⟨a3, a4⟩ := h2
  clear hmm
  go_enter Tryz.func68, Tryz.ntmps68
  go_wp2_with fail
  refine Calls.mono (hm.out _) ?_
  rintro e w1 ⟨rfl, hb⟩
  obtain ⟨hb1, hz1, hc1, hf1⟩ := took (w := w) (by repeat' (first | (with_reducible refine below_drewN ?_ _) | go_grown)) (by first | (simp only [World.size_alloc, World.size_setCell, World.size_drew, size_drewN]; done) | (simp only [World.size_alloc, World.size_setCell, World.size_drew, size_drewN]; rfl) | rfl) hb; clear hb
  have z1 : w.heap.size < w1.heap.size := by omega
  have z2 : w.heap.size + 1 < w1.heap.size := by omega
  go_wp2_with fail
  refine bodyPost_ret (v := .agg #[.int .i64 m, .int .i64 (m + hi - lo)]) ?_ rfl ⟨rfl, (by repeat' (first | (with_reducible refine below_drewN ?_ _) | go_grown))⟩
  simp [results, Tryz.results68, go_sem, *]
theorem inR_true (n m : Int) (w : World) (h : -m ≤ n ∧ n ≤ m) (hm : 0 ≤ m ∧ m ≤ 9000000000000000000) : Calls Tryz.prog 64 #[.int .i64 n, .int .i64 m] w fun e w' => e = .returned (.bool true) ∧ w' = w := by
  have e1 : wrap64 (-m) = -m := IntWalk.wrap64_in _ (by omega)
  obtain ⟨h1, h2⟩ := h
  go_enter Tryz.func64, Tryz.ntmps64
  go_wp2
  go_ret
  exact ⟨rfl, rfl⟩
/-- A sum without terms. -/
def sum0 (mean rate rest : Int) : Value := .agg #[.int .i64 mean, .int .i64 rate, .slice none 0 0, .int .i64 rest]
set_option maxHeartbeats 2000000 in
theorem check0_ok (mean rate rest : Int) (w : World) (h1 : -1000000000 ≤ mean ∧ mean ≤ 1000000000) (h2 : -4000000000000000 ≤ rate ∧ rate ≤ 4000000000000000) (h3 : 0 ≤ rest ∧ rest ≤ 100000000) :
    Calls Tryz.prog 43 #[.agg #[.int .i64 mean, .int .i64 rate, .slice none 0 0, .int .i64 rest]] w fun e w' => e = .returned (.int .i64 0) ∧ Below w.heap.size w w' := by
  have c1 := Lib.hid (fun w => inR_true mean 1000000000 w (by omega) (by omega))
  have c2 := Lib.hid (fun w => inR_true rate 4000000000000000 w (by omega) (by omega))
  have d1 : decide (rest < 0) = false := decide_eq_false (by omega)
  have d2 : decide (100000000 < rest) = false := decide_eq_false (by omega)
  clear h1 h2 h3
  go_enter Tryz.func43, Tryz.ntmps43
  go_wp2_with fail
  refine Calls.mono (c1.out _) ?_
  rintro e _ ⟨rfl, rfl⟩
  go_wp2_with fail
  refine Calls.mono (c2.out _) ?_
  rintro e _ ⟨rfl, rfl⟩
  go_wp2_with fail
  go_loop [32] (fun i => i = .int .i64 0) (fun _ => 0)
  case atStart => rfl
  case round =>
    obtain rfl := hrel
    go_wp2_with fail
    go_returns
    exact ⟨rfl, (by repeat' (first | (with_reducible refine below_drewN ?_ _) | go_grown))⟩
set_option maxHeartbeats 2000000 in
theorem value0_ok (mean rate rest t : Int) (w : World) (h1 : -1000000000 ≤ mean ∧ mean ≤ 1000000000) (h3 : 0 ≤ rest ∧ rest ≤ 100000000) :
    Calls Tryz.prog 66 #[.agg #[.int .i64 mean, .int .i64 rate, .slice none 0 0, .int .i64 rest], .int .i64 t] w fun e w' => e = .returned (.agg #[.int .i64 (mean - rest), .int .i64 (mean + rest)]) ∧ Below w.heap.size w w' := by
  obtain ⟨a1, a2⟩ := h1
  obtain ⟨a3, a4⟩ := h3
  go_enter Tryz.func66, Tryz.ntmps66
  go_wp2_with fail
  refine bodyPost_ret (v := .agg #[.int .i64 (mean - rest), .int .i64 (mean + rest)]) ?_ rfl ⟨rfl, (by repeat' (first | (with_reducible refine below_drewN ?_ _) | go_grown))⟩
  simp [results, Tryz.results66, go_sem, *]
theorem mul_bd {a b A B : Int} (h1 : -A ≤ a ∧ a ≤ A) (h2 : -B ≤ b ∧ b ≤ B) : -(A * B) ≤ a * b ∧ a * b ≤ A * B := by
  have e : ((a * b).natAbs : Int) = (a.natAbs : Int) * (b.natAbs : Int) := by rw [Int.natAbs_mul]; rfl
  have p1 : (a.natAbs : Int) ≤ A := by omega
  have p2 : (b.natAbs : Int) ≤ B := by omega
  have p3 : (a.natAbs : Int) * (b.natAbs : Int) ≤ A * B := Int.mul_le_mul p1 p2 (by omega) (by omega)
  omega
/-- The angle of a sum without terms. -/
def a0Lo (mean rate rest t : Int) : Int := (mean - rest + rate * t / 86400000000000 % 1000000000) % 1000000000
def a0Hi (mean rate rest t : Int) : Int := a0Lo mean rate rest t + (2 * rest + if 0 < rate * t % 86400000000000 then 1 else 0)
set_option maxHeartbeats 4000000 in
theorem angle0_ok (mean rate rest t : Int) (w : World) (h1 : -1000000000 ≤ mean ∧ mean ≤ 1000000000) (h2 : -4000000000000000 ≤ rate ∧ rate ≤ 4000000000000000) (h3 : 0 ≤ rest ∧ rest ≤ 100000000) (ht : -350000000000000 ≤ t ∧ t ≤ 350000000000000) :
    Calls Tryz.prog 45 #[.agg #[.int .i64 mean, .int .i64 rate, .slice none 0 0, .int .i64 rest], .int .i64 t] w fun e w' => e = .returned (.agg #[.int .i64 (a0Lo mean rate rest t), .int .i64 (a0Hi mean rate rest t)]) ∧ Below w.heap.size w w' := by
  have V := Lib.hid (fun w => value0_ok mean rate rest t w h1 h3)
  have G := Lib.hid (fun w => grown_ok rate t w h2 ht)
  obtain ⟨lo, hlo⟩ : ∃ x, x = a0Lo mean rate rest t := ⟨_, rfl⟩
  obtain ⟨hi, hhi⟩ : ∃ x, x = a0Hi mean rate rest t := ⟨_, rfl⟩
  rw [← hlo, ← hhi]
  unfold a0Hi at hhi
  rw [← hlo] at hhi
  unfold a0Lo at hlo
  have qb : -20000000000000000 ≤ rate * t / 86400000000000 ∧ rate * t / 86400000000000 ≤ 20000000000000000 := by
    have := mul_bd h2 ht
    omega
  generalize rate * t / 86400000000000 = q at *
  have hr0 : 0 ≤ rate * t % 86400000000000 := by omega
  generalize rate * t % 86400000000000 = r at *
  have M := Lib.hid (fun w => mod_all q 1000000000 w (by omega) (by omega) (by omega) (by omega))
  have qm0 : 0 ≤ q % 1000000000 ∧ q % 1000000000 < 1000000000 := by omega
  generalize q % 1000000000 = qm at *
  obtain ⟨m0, m1⟩ := qm0
  obtain ⟨x, hx⟩ : ∃ x, x = mean - rest := ⟨_, rfl⟩
  obtain ⟨y, hy⟩ : ∃ x, x = mean + rest := ⟨_, rfl⟩
  have xb : -1200000000 ≤ x ∧ x ≤ 1200000000 := by omega
  have yb : -1200000000 ≤ y ∧ y ≤ 1200000000 := by omega
  rw [← hx] at V hlo
  rw [← hy] at V
  by_cases hr : 0 < r
  · rw [if_pos hr] at hhi
    have N := Lib.hid (fun w => norm_ok (x + qm) (y + 1 + qm) w (by omega) (by omega))
    have ehi : (x + qm) % 1000000000 + (y + 1 + qm) - (x + qm) = hi := by rw [hhi, ← hlo]; omega
    rw [ehi, ← hlo] at N
    have d1 : decide (0 < r) = true := decide_eq_true hr
    obtain ⟨x1, x2⟩ := xb
    obtain ⟨y1, y2⟩ := yb
    clear h1 h2 h3 ht qb hlo hhi hx hy ehi hr
    go_enter Tryz.func45, Tryz.ntmps45
    go_wp2_with fail
    refine Calls.mono (V.out _) ?_
    rintro e w1 ⟨rfl, hb⟩
    obtain ⟨hb1, hz1, hc1, hf1⟩ := took (w := w) (by repeat' (first | (with_reducible refine below_drewN ?_ _) | go_grown)) (by first | (simp only [World.size_alloc, World.size_setCell, World.size_drew, size_drewN]; done) | (simp only [World.size_alloc, World.size_setCell, World.size_drew, size_drewN]; rfl) | rfl) hb; clear hb
    have z1 : w.heap.size < w1.heap.size := by omega
    have z1b : w.heap.size + 1 < w1.heap.size := by omega
    go_wp2_with fail
    refine Calls.mono (G.out _) ?_
    rintro e w2 ⟨rfl, hb⟩
    obtain ⟨hb2, hz2, hc2, hf2⟩ := took (w := w) (by repeat' (first | (with_reducible refine below_drewN ?_ _) | go_grown)) (by first | (simp only [World.size_alloc, World.size_setCell, World.size_drew, size_drewN]; done) | (simp only [World.size_alloc, World.size_setCell, World.size_drew, size_drewN]; rfl) | rfl) hb; clear hb
    have z2 : w.heap.size < w2.heap.size := by omega
    have z2b : w.heap.size + 1 < w2.heap.size := by omega
    have z2c : w1.heap.size < w2.heap.size := by omega
    go_wp2_with fail
    refine Calls.mono (M.out _) ?_
    rintro e w3 ⟨rfl, hb⟩
    obtain ⟨hb3, hz3, hc3, hf3⟩ := took (w := w) (by repeat' (first | (with_reducible refine below_drewN ?_ _) | go_grown)) (by first | (simp only [World.size_alloc, World.size_setCell, World.size_drew, size_drewN]; done) | (simp only [World.size_alloc, World.size_setCell, World.size_drew, size_drewN]; rfl) | rfl) hb; clear hb
    have z3 : w.heap.size < w3.heap.size := by omega
    have z3b : w.heap.size + 1 < w3.heap.size := by omega
    have z3c : w1.heap.size < w3.heap.size := by omega
    go_wp2_with fail
    refine Calls.mono (N.out _) ?_
    rintro e w4 ⟨rfl, hb⟩
    obtain ⟨hb4, hz4, hc4, hf4⟩ := took (w := w) (by repeat' (first | (with_reducible refine below_drewN ?_ _) | go_grown)) (by first | (simp only [World.size_alloc, World.size_setCell, World.size_drew, size_drewN]; done) | (simp only [World.size_alloc, World.size_setCell, World.size_drew, size_drewN]; rfl) | rfl) hb; clear hb
    have z4 : w.heap.size < w4.heap.size := by omega
    have z4b : w.heap.size + 1 < w4.heap.size := by omega
    have z4c : w1.heap.size < w4.heap.size := by omega
    go_wp2_with fail
    refine bodyPost_ret (v := .agg #[.int .i64 lo, .int .i64 hi]) ?_ rfl ⟨rfl, (by repeat' (first | (with_reducible refine below_drewN ?_ _) | go_grown))⟩
    simp [results, Tryz.results45, go_sem, *]
  · rw [if_neg hr] at hhi
    have N := Lib.hid (fun w => norm_ok (x + qm) (y + qm) w (by omega) (by omega))
    have ehi : (x + qm) % 1000000000 + (y + qm) - (x + qm) = hi := by rw [hhi, ← hlo]; omega
    rw [ehi, ← hlo] at N
    have d1 : decide (0 < r) = false := decide_eq_false hr
    obtain ⟨x1, x2⟩ := xb
    obtain ⟨y1, y2⟩ := yb
    clear h1 h2 h3 ht qb hlo hhi hx hy ehi hr
    go_enter Tryz.func45, Tryz.ntmps45
    go_wp2_with fail
    refine Calls.mono (V.out _) ?_
    rintro e w1 ⟨rfl, hb⟩
    obtain ⟨hb1, hz1, hc1, hf1⟩ := took (w := w) (by repeat' (first | (with_reducible refine below_drewN ?_ _) | go_grown)) (by first | (simp only [World.size_alloc, World.size_setCell, World.size_drew, size_drewN]; done) | (simp only [World.size_alloc, World.size_setCell, World.size_drew, size_drewN]; rfl) | rfl) hb; clear hb
    have z1 : w.heap.size < w1.heap.size := by omega
    have z1b : w.heap.size + 1 < w1.heap.size := by omega
    go_wp2_with fail
    refine Calls.mono (G.out _) ?_
    rintro e w2 ⟨rfl, hb⟩
    obtain ⟨hb2, hz2, hc2, hf2⟩ := took (w := w) (by repeat' (first | (with_reducible refine below_drewN ?_ _) | go_grown)) (by first | (simp only [World.size_alloc, World.size_setCell, World.size_drew, size_drewN]; done) | (simp only [World.size_alloc, World.size_setCell, World.size_drew, size_drewN]; rfl) | rfl) hb; clear hb
    have z2 : w.heap.size < w2.heap.size := by omega
    have z2b : w.heap.size + 1 < w2.heap.size := by omega
    have z2c : w1.heap.size < w2.heap.size := by omega
    go_wp2_with fail
    refine Calls.mono (M.out _) ?_
    rintro e w3 ⟨rfl, hb⟩
    obtain ⟨hb3, hz3, hc3, hf3⟩ := took (w := w) (by repeat' (first | (with_reducible refine below_drewN ?_ _) | go_grown)) (by first | (simp only [World.size_alloc, World.size_setCell, World.size_drew, size_drewN]; done) | (simp only [World.size_alloc, World.size_setCell, World.size_drew, size_drewN]; rfl) | rfl) hb; clear hb
    have z3 : w.heap.size < w3.heap.size := by omega
    have z3b : w.heap.size + 1 < w3.heap.size := by omega
    have z3c : w1.heap.size < w3.heap.size := by omega
    go_wp2_with fail
    refine Calls.mono (N.out _) ?_
    rintro e w4 ⟨rfl, hb⟩
    obtain ⟨hb4, hz4, hc4, hf4⟩ := took (w := w) (by repeat' (first | (with_reducible refine below_drewN ?_ _) | go_grown)) (by first | (simp only [World.size_alloc, World.size_setCell, World.size_drew, size_drewN]; done) | (simp only [World.size_alloc, World.size_setCell, World.size_drew, size_drewN]; rfl) | rfl) hb; clear hb
    have z4 : w.heap.size < w4.heap.size := by omega
    have z4b : w.heap.size + 1 < w4.heap.size := by omega
    have z4c : w1.heap.size < w4.heap.size := by omega
    go_wp2_with fail
    refine bodyPost_ret (v := .agg #[.int .i64 lo, .int .i64 hi]) ?_ rfl ⟨rfl, (by repeat' (first | (with_reducible refine below_drewN ?_ _) | go_grown))⟩
    simp [results, Tryz.results45, go_sem, *]
set_option maxHeartbeats 4000000 in
/-- series.Angle of a sum without terms. -/
theorem Angle0_ok (mean rate rest t : Int) (w : World) (h1 : -1000000000 ≤ mean ∧ mean ≤ 1000000000) (h2 : -4000000000000000 ≤ rate ∧ rate ≤ 4000000000000000) (h3 : 0 ≤ rest ∧ rest ≤ 100000000) (ht : instOk t = true) :
    Calls Tryz.prog 26 #[.agg #[.int .i64 mean, .int .i64 rate, .slice none 0 0, .int .i64 rest], .int .i64 t] w fun e w' => e = .returned (.tuple #[.agg #[.int .i64 (a0Lo mean rate rest t), .int .i64 (a0Hi mean rate rest t)], .int .i64 0]) ∧ Below w.heap.size w w' := by
  have htb : -345600000000000 ≤ t ∧ t ≤ 345686400000000 := by
    have h : dayOk (t / 86400000) = true := ht
    unfold dayOk at h
    have := of_decide_eq_true h
    omega
  have C := Lib.hid (fun w => check0_ok mean rate rest w h1 h2 h3)
  have I := Lib.hid (fun w => ht ▸ isInst_ok t w (by omega) (by omega))
  have A := Lib.hid (fun w => angle0_ok mean rate rest t w h1 h2 h3 (by omega))
  generalize a0Lo mean rate rest t = lo at *
  generalize a0Hi mean rate rest t = hi at *
  clear h1 h2 h3 ht htb
  go_enter Tryz.func26, Tryz.ntmps26
  go_wp2_with fail
  refine Calls.mono (C.out _) ?_
  rintro e w1 ⟨rfl, hb⟩
  obtain ⟨hb1, hz1, hc1, hf1⟩ := took (w := w) (by repeat' (first | (with_reducible refine below_drewN ?_ _) | go_grown)) (by first | (simp only [World.size_alloc, World.size_setCell, World.size_drew, size_drewN]; done) | (simp only [World.size_alloc, World.size_setCell, World.size_drew, size_drewN]; rfl) | rfl) hb; clear hb
  have z1 : w.heap.size < w1.heap.size := by omega
  have z1b : w.heap.size + 1 < w1.heap.size := by omega
  go_wp2_with fail
  refine Calls.mono (I.out _) ?_
  rintro e w2 ⟨rfl, hb⟩
  obtain ⟨hb2, hz2, hc2, hf2⟩ := took (w := w) (by repeat' (first | (with_reducible refine below_drewN ?_ _) | go_grown)) (by first | (simp only [World.size_alloc, World.size_setCell, World.size_drew, size_drewN]; done) | (simp only [World.size_alloc, World.size_setCell, World.size_drew, size_drewN]; rfl) | rfl) hb; clear hb
  have z2 : w.heap.size < w2.heap.size := by omega
  have z2b : w.heap.size + 1 < w2.heap.size := by omega
  go_wp2_with fail
  refine Calls.mono (A.out _) ?_
  rintro e w3 ⟨rfl, hb⟩
  obtain ⟨hb3, hz3, hc3, hf3⟩ := took (w := w) (by repeat' (first | (with_reducible refine below_drewN ?_ _) | go_grown)) (by first | (simp only [World.size_alloc, World.size_setCell, World.size_drew, size_drewN]; done) | (simp only [World.size_alloc, World.size_setCell, World.size_drew, size_drewN]; rfl) | rfl) hb; clear hb
  have z3 : w.heap.size < w3.heap.size := by omega
  have z3b : w.heap.size + 1 < w3.heap.size := by omega
  go_wp2_with fail
  refine bodyPost_ret (v := .tuple #[.agg #[.int .i64 lo, .int .i64 hi], .int .i64 0]) ?_ rfl ⟨rfl, (by repeat' (first | (with_reducible refine below_drewN ?_ _) | go_grown))⟩
  simp [results, Tryz.results26, go_sem, *]
end Go.Proofs.YtdifeoahaegjbaaGreatDoor
