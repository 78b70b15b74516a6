/- math/bits.Div64 by the number of milliseconds in a million days. -/
import Derived.Test.YtdeoahgcppbmkaaDoorShelf
import Derived.Test.YtdeoahgcppbmkaaDoorPlain
import Derived.Deep.QuietTactic
import Derived.BigQuiet
namespace Go.Proofs.YtdeoahgcppbmkaaDoor
open Go.RowKit
set_option linter.unusedSimpArgs false
set_option linter.unusedVariables false

set_option maxRecDepth 100000 in
theorem u64_in (n : Nat) (h : n < 18446744073709551616) : IntKind.u64.wrap (n : Int) = (n : Int) := by
  unfold IntKind.wrap
  simp [IntKind.signed, IntKind.bits]
  omega
set_option maxRecDepth 100000 in
theorem u64_mod (n : Nat) : IntKind.u64.wrap (n : Int) = ((n % 18446744073709551616 : Nat) : Int) := by
  unfold IntKind.wrap
  simp [IntKind.signed, IntKind.bits]
set_option maxRecDepth 100000 in
theorem ofInt_nat (a : Nat) (h : a < 18446744073709551616) : (BitVec.ofInt 64 (a : Int)).toNat = a := by
  have : (BitVec.ofInt 64 (a : Int)).toNat = a % 2 ^ 64 := by simp
  rw [this]; exact Nat.mod_eq_of_lt h
set_option maxRecDepth 100000 in
theorem bits_and32 (a : Nat) (h : a < 18446744073709551616) : bits .and .u64 (a : Int) 4294967295 = ((a % 4294967296 : Nat) : Int) := by
  show IntKind.u64.wrap ((BitVec.ofInt 64 (a : Int) &&& BitVec.ofInt 64 4294967295).toNat : Nat) = _
  have e : (BitVec.ofInt 64 4294967295).toNat = 2 ^ 32 - 1 := by decide
  rw [BitVec.toNat_and, ofInt_nat a h, e, Nat.and_two_pow_sub_one_eq_mod, u64_in _ (by omega)]
set_option maxRecDepth 100000 in
theorem bits_or17 (a b : Nat) (hb : b < 131072) (h : a * 131072 + b < 18446744073709551616) : bits .or .u64 ((a * 131072 : Nat) : Int) (b : Int) = ((a * 131072 + b : Nat) : Int) := by
  show IntKind.u64.wrap ((BitVec.ofInt 64 ((a * 131072 : Nat) : Int) ||| BitVec.ofInt 64 (b : Int)).toNat : Nat) = _
  have g1 : a * 131072 < 18446744073709551616 := Nat.lt_of_le_of_lt (Nat.le_add_right _ _) h
  have g2 : b < 18446744073709551616 := Nat.lt_trans hb (by decide)
  rw [BitVec.toNat_or, ofInt_nat (a * 131072) g1, ofInt_nat b g2]
  have e : a * 131072 + b = a * 131072 ||| b := by
    have := Nat.shiftLeft_add_eq_or_of_lt (i := 17) (b := b) (by omega) a
    rw [Nat.shiftLeft_eq] at this
    exact this
  rw [← e, u64_in _ h]

theorem div64_plain (hi lo : Nat) (h2 : hi < 86400000000000) (h3 : lo < 18446744073709551616) :
    (hi * 131072 + lo / 140737488355328) / 2636718750 * 4294967296 + ((hi * 131072 + lo / 140737488355328) % 2636718750 * 4294967296 + lo * 131072 % 18446744073709551616 / 4294967296) / 2636718750 = (hi * 18446744073709551616 + lo) / 86400000000000 ∧
    (((hi * 131072 + lo / 140737488355328) % 2636718750 * 4294967296 + lo * 131072 % 18446744073709551616 / 4294967296) % 2636718750 * 4294967296 + lo * 131072 % 18446744073709551616 % 4294967296) / 131072 = (hi * 18446744073709551616 + lo) % 86400000000000 := by
  omega
/-- The numbers that Div64 reckons with. -/
structure DivN (hi lo : Nat) (y2 n1 n0 hs ls u l10 l1 l0 q1 m1 r1 t1 t2 v1 v2 v3 x q0 m0 r0 k1 k2 z1 z2 z3 z4 f : Int) : Prop where
  e1 : IntKind.u64.wrap ((86400000000000 : Int) * 131072) = y2
  e2 : y2 / 4294967296 = n1
  e3 : bits .and .u64 y2 4294967295 = n0
  e4 : IntKind.u64.wrap ((hi : Int) * 131072) = hs
  e5 : (lo : Int) / 140737488355328 = ls
  e6 : bits .or .u64 hs ls = u
  e7 : IntKind.u64.wrap ((lo : Int) * 131072) = l10
  e8 : l10 / 4294967296 = l1
  e9 : bits .and .u64 l10 4294967295 = l0
  e10 : IntKind.u64.wrap (u.tdiv n1) = q1
  e11 : IntKind.u64.wrap (q1 * n1) = m1
  e12 : IntKind.u64.wrap (u - m1) = r1
  g1 : decide (4294967296 ≤ q1) = false
  e13 : IntKind.u64.wrap (q1 * n0) = 0
  e14 : IntKind.u64.wrap (4294967296 * r1) = t1
  e15 : IntKind.u64.wrap (t1 + l1) = t2
  g2 : decide (t2 < 0) = false
  e16 : IntKind.u64.wrap (u * 4294967296) = v1
  e17 : IntKind.u64.wrap (v1 + l1) = v2
  e18 : IntKind.u64.wrap (q1 * y2) = v3
  e19 : IntKind.u64.wrap (v2 - v3) = x
  e20 : IntKind.u64.wrap (x.tdiv n1) = q0
  e21 : IntKind.u64.wrap (q0 * n1) = m0
  e22 : IntKind.u64.wrap (x - m0) = r0
  g3 : decide (4294967296 ≤ q0) = false
  e23 : IntKind.u64.wrap (q0 * n0) = 0
  e24 : IntKind.u64.wrap (4294967296 * r0) = k1
  e25 : IntKind.u64.wrap (k1 + l0) = k2
  g4 : decide (k2 < 0) = false
  e26 : IntKind.u64.wrap (q1 * 4294967296) = z1
  e27 : IntKind.u64.wrap (z1 + q0) = ((hi * 18446744073709551616 + lo) / 86400000000000 : Nat)
  e28 : IntKind.u64.wrap (x * 4294967296) = z2
  e29 : IntKind.u64.wrap (z2 + l0) = z3
  e30 : IntKind.u64.wrap (q0 * y2) = z4
  e31 : IntKind.u64.wrap (z3 - z4) = f
  e32 : f / 131072 = ((hi * 18446744073709551616 + lo) % 86400000000000 : Nat)
theorem mod3 (a b c m : Int) : ((a % m + b) % m - c % m) % m = (a + b - c) % m := by
  simp only [Int.emod_add_emod, Int.emod_sub_emod, Int.sub_emod_emod]
theorem u64_emod (n : Int) : IntKind.u64.wrap n = n % 18446744073709551616 := by
  unfold IntKind.wrap
  simp [IntKind.signed, IntKind.bits]
set_option maxRecDepth 100000 in
theorem divN_ok (hi lo : Nat) (h1 : 0 < hi) (h2 : hi < 86400000000000) (h3 : lo < 18446744073709551616) : ∃ y2 n1 n0 hs ls u l10 l1 l0 q1 m1 r1 t1 t2 v1 v2 v3 x q0 m0 r0 k1 k2 z1 z2 z3 z4 f : Int, DivN hi lo y2 n1 n0 hs ls u l10 l1 l0 q1 m1 r1 t1 t2 v1 v2 v3 x q0 m0 r0 k1 k2 z1 z2 z3 z4 f := by
  have hp := div64_plain hi lo h2 h3
  obtain ⟨U, hU⟩ : ∃ U, U = hi * 131072 + lo / 140737488355328 := ⟨_, rfl⟩
  obtain ⟨L, hL⟩ : ∃ U, U = lo * 131072 % 18446744073709551616 := ⟨_, rfl⟩
  rw [← hU, ← hL] at hp
  obtain ⟨hp1, hp2⟩ := hp
  obtain ⟨Q1, hQ1⟩ : ∃ Q, Q = U / 2636718750 := ⟨_, rfl⟩
  obtain ⟨R1, hR1⟩ : ∃ Q, Q = U % 2636718750 := ⟨_, rfl⟩
  rw [← hR1] at hp1 hp2
  rw [← hQ1] at hp1
  obtain ⟨X, hX⟩ : ∃ X, X = R1 * 4294967296 + L / 4294967296 := ⟨_, rfl⟩
  rw [← hX] at hp1 hp2
  refine ⟨11324620800000000000, 2636718750, 0, ((hi * 131072 : Nat) : Int), ((lo / 140737488355328 : Nat) : Int), (U : Int), (L : Int), ((L / 4294967296 : Nat) : Int), ((L % 4294967296 : Nat) : Int), (Q1 : Int), ((Q1 * 2636718750 : Nat) : Int), (R1 : Int), ((R1 * 4294967296 : Nat) : Int), (X : Int), _, _, _, (X : Int), ((X / 2636718750 : Nat) : Int), ((X / 2636718750 * 2636718750 : Nat) : Int), ((X % 2636718750 : Nat) : Int), ((X % 2636718750 * 4294967296 : Nat) : Int), _, _, _, _, _, _,
    ⟨?_, ?_, ?_, ?_, ?_, ?_, ?_, ?_, ?_, ?_, ?_, ?_, ?_, ?_, ?_, ?_, ?_, rfl, rfl, rfl, ?_, ?_, ?_, ?_, ?_, ?_, ?_, rfl, ?_, rfl, ?_, rfl, rfl, rfl, rfl, ?_⟩⟩
  · decide
  · decide
  · decide
  · rw [u64_emod]; omega
  · omega
  · rw [bits_or17 hi _ (by omega) (by omega), ← hU]
  · clear hp1 hp2 hX hR1 hQ1; rw [u64_emod]; omega
  · clear hp1 hp2 hX hR1 hQ1; omega
  · exact bits_and32 L (by clear hp1 hp2 hX hR1 hQ1; omega)
  · rw [IntWalk.u64_quo _ _ (by clear hp1 hp2 hX hR1 hQ1 hL; omega)]; clear hp1 hp2 hX hR1 hL hU; omega
  · clear hp1 hp2 hX hR1 hL
    have : Q1 * 2636718750 < 18446744073709551616 := by omega
    clear hQ1 hU
    rw [u64_emod]; exact Int.emod_eq_of_lt (by omega) (by omega)
  · have e : (U : Int) - ((Q1 * 2636718750 : Nat) : Int) = (R1 : Int) := by clear hp1 hp2 hX hL hU; omega
    rw [u64_emod, e]
    clear hp1 hp2 hX hL hU hQ1 e
    exact Int.emod_eq_of_lt (by omega) (by omega)
  · have : Q1 < 4294967296 := by clear hp1 hp2 hX hL hR1; omega
    exact decide_eq_false (by omega)
  · rw [Int.mul_zero]; rfl
  · clear hp1 hp2 hX hL hU hQ1
    rw [u64_emod]
    have : R1 * 4294967296 < 18446744073709551616 := by omega
    have e : 4294967296 * (R1 : Int) = ((R1 * 4294967296 : Nat) : Int) := by omega
    rw [e]
    exact Int.emod_eq_of_lt (by omega) (by omega)
  · have hR : R1 < 2636718750 := by rw [hR1]; exact Nat.mod_lt _ (by decide)
    have hL9 : L < 18446744073709551616 := by rw [hL]; exact Nat.mod_lt _ (by decide)
    clear hp1 hp2 hL hU hQ1 hR1
    rw [u64_emod]
    have : X < 18446744073709551616 := by omega
    have e : ((R1 * 4294967296 : Nat) : Int) + ((L / 4294967296 : Nat) : Int) = (X : Int) := by omega
    rw [e]
    exact Int.emod_eq_of_lt (by omega) (by omega)
  · exact decide_eq_false (by clear hp1 hp2 hX hL hU hQ1 hR1; omega)
  · rw [u64_emod, u64_emod, u64_emod, u64_emod, mod3]
    have hR : R1 < 2636718750 := by rw [hR1]; exact Nat.mod_lt _ (by decide)
    have hL9 : L < 18446744073709551616 := by rw [hL]; exact Nat.mod_lt _ (by decide)
    clear hp1 hp2 hL hU
    have e : (U : Int) * 4294967296 + ((L / 4294967296 : Nat) : Int) - (Q1 : Int) * 11324620800000000000 = (X : Int) := by omega
    rw [e]
    clear hQ1 hR1 e
    have : X < 18446744073709551616 := by omega
    exact Int.emod_eq_of_lt (by omega) (by omega)
  · have hR : R1 < 2636718750 := by rw [hR1]; exact Nat.mod_lt _ (by decide)
    have hL9 : L < 18446744073709551616 := by rw [hL]; exact Nat.mod_lt _ (by decide)
    clear hp1 hp2 hL hU hQ1 hR1
    have : X < 11324620800000000000 := by omega
    clear hX
    rw [IntWalk.u64_quo _ _ (by omega)]; omega
  · have hR : R1 < 2636718750 := by rw [hR1]; exact Nat.mod_lt _ (by decide)
    have hL9 : L < 18446744073709551616 := by rw [hL]; exact Nat.mod_lt _ (by decide)
    clear hp1 hp2 hL hU hQ1 hR1
    have : X < 11324620800000000000 := by omega
    clear hX
    rw [u64_emod]
    exact Int.emod_eq_of_lt (by omega) (by omega)
  · clear hp1 hp2 hL hU hQ1 hR1 hX
    have e : (X : Int) - ((X / 2636718750 * 2636718750 : Nat) : Int) = ((X % 2636718750 : Nat) : Int) := by omega
    rw [u64_emod, e]
    exact Int.emod_eq_of_lt (by omega) (by omega)
  · have hR : R1 < 2636718750 := by rw [hR1]; exact Nat.mod_lt _ (by decide)
    have hL9 : L < 18446744073709551616 := by rw [hL]; exact Nat.mod_lt _ (by decide)
    clear hp1 hp2 hL hU hQ1 hR1
    have : X < 11324620800000000000 := by omega
    exact decide_eq_false (by omega)
  · rw [Int.mul_zero]; rfl
  · clear hp1 hp2 hL hU hQ1 hR1 hX
    have e : 4294967296 * ((X % 2636718750 : Nat) : Int) = ((X % 2636718750 * 4294967296 : Nat) : Int) := by omega
    have : X % 2636718750 * 4294967296 < 18446744073709551616 := by omega
    rw [u64_emod, e]
    exact Int.emod_eq_of_lt (by omega) (by omega)
  · clear hp1 hp2 hL hU hQ1 hR1 hX
    exact decide_eq_false (by rw [u64_emod]; omega)
  · have hR : R1 < 2636718750 := by rw [hR1]; exact Nat.mod_lt _ (by decide)
    have hL9 : L < 18446744073709551616 := by rw [hL]; exact Nat.mod_lt _ (by decide)
    have hQ : Q1 < 4294967296 := by clear hp1 hp2 hX hL hR1; omega
    have hX9 : X < 11324620800000000000 := by clear hp1 hp2 hL hU hQ1 hR1; omega
    rw [← hp1]
    clear hp1 hp2 hL hU hQ1 hR1 hX
    rw [u64_emod, u64_emod, Int.emod_add_emod]
    have e : (Q1 : Int) * 4294967296 + ((X / 2636718750 : Nat) : Int) = ((Q1 * 4294967296 + X / 2636718750 : Nat) : Int) := by omega
    have : Q1 * 4294967296 + X / 2636718750 < 18446744073709551616 := by omega
    rw [e]
    exact Int.emod_eq_of_lt (by omega) (by omega)
  · rw [u64_emod, u64_emod, u64_emod, u64_emod, mod3, ← hp2]
    clear hp1 hp2 hL hU hQ1 hR1 hX
    have e : (X : Int) * 4294967296 + ((L % 4294967296 : Nat) : Int) - ((X / 2636718750 : Nat) : Int) * 11324620800000000000 = ((X % 2636718750 * 4294967296 + L % 4294967296 : Nat) : Int) := by omega
    rw [e]
    have h9 : X % 2636718750 * 4294967296 + L % 4294967296 < 18446744073709551616 := by omega
    rw [Int.emod_eq_of_lt (by omega) (by omega)]
    omega

set_option maxRecDepth 100000 in
set_option maxHeartbeats 4000000 in
theorem div64_hi (y : Int) (hy : y = 86400000000000) (hi lo : Nat) (h1 : 0 < hi) (h2 : hi < 86400000000000) (h3 : lo < 18446744073709551616) (q r : Nat) (hq : (hi * 18446744073709551616 + lo) / 86400000000000 = q) (hr : (hi * 18446744073709551616 + lo) % 86400000000000 = r) (w : World) :
    Calls Tryd.prog 131 #[.int .u64 hi, .int .u64 lo, .int .u64 y] w fun e w' => e = .returned (.tuple #[.int .u64 q, .int .u64 r]) ∧ w' = w := by
  have HL := Lib.hid (fun w => Tryd.bits_LeadingZeros64 y w (by omega) (by omega))
  have HB := Lib.hid (show (64 - (Lib.bitLen y.toNat : Int)) = 17 by rw [hy]; decide)
  obtain ⟨y2, n1, n0, hs, ls, u, l10, l1, l0, q1, m1, r1, t1, t2, v1, v2, v3, x, q0, m0, r0, k1, k2, z1, z2, z3, z4, f, hD⟩ := divN_ok hi lo h1 h2 h3
  have d27 := hD.e27; have d32 := hD.e32
  rw [hq] at d27
  rw [hr] at d32
  have d1 := hD.e1
  rw [← hy] at d1
  have a0 : 0 < y := by omega
  have a1 : (0 : Int) < (hi : Int) := by omega
  have a4 : ¬ (hi : Int) = 0 := by omega
  have a5 : ((hi : Int) == 0) = false := by simp; omega
  have a6 : (hi == 0) = false := by simp; omega
  have a7 : (y == 0) = false := by simp; omega
  have a8 : decide (y ≤ (hi : Int)) = false := decide_eq_false (by omega)
  have d2 := hD.e2; have d3 := hD.e3; have d4 := hD.e4; have d5 := hD.e5; have d6 := hD.e6; have d7 := hD.e7; have d8 := hD.e8; have d9 := hD.e9; have d10 := hD.e10; have d11 := hD.e11; have d12 := hD.e12; have d13 := hD.e13; have d14 := hD.e14; have d15 := hD.e15; have d16 := hD.e16; have d17 := hD.e17; have d18 := hD.e18; have d19 := hD.e19; have d20 := hD.e20; have d21 := hD.e21; have d22 := hD.e22; have d23 := hD.e23; have d24 := hD.e24; have d25 := hD.e25; have d26 := hD.e26; have d28 := hD.e28; have d29 := hD.e29; have d30 := hD.e30; have d31 := hD.e31
  have g1 := hD.g1; have g2 := hD.g2; have g3 := hD.g3; have g4 := hD.g4
  have b1 : ¬ n1 = 0 := by
    have : n1 ≠ 0 := by
      have e1 := hD.e1; have e2 := hD.e2
      rw [← e2, ← e1]; decide
    exact this
  clear hq hr hy h1 h2 h3 hD
  go_enter Tryd.func131, Tryd.ntmps131
  go_wp2_with fail
  refine Calls.mono (HL.out _) ?_
  rintro e _ ⟨rfl, rfl⟩
  rw [HB.out]
  go_wp2_with fail
  go_loop [15, 16] (fun s15 s16 => s15 = .int .u64 q1 ∧ s16 = .int .u64 r1) (fun _ _ => 0)
  case atStart => exact ⟨rfl, rfl⟩
  case round =>
    obtain ⟨rfl, rfl⟩ := hrel
    go_wp2_with fail
    go_loop [16, 18] (fun s16 s18 => s16 = .int .u64 r0 ∧ s18 = .int .u64 q0) (fun _ _ => 0)
    case atStart => exact ⟨rfl, rfl⟩
    case round =>
      obtain ⟨rfl, rfl⟩ := hrel
      go_wp2_with fail
      go_ret2
      exact ⟨rfl, rfl⟩
set_option maxRecDepth 100000 in
set_option maxHeartbeats 1000000 in
theorem div64_zero (y : Int) (hy : y = 86400000000000) (lo : Nat) (h3 : lo < 18446744073709551616) (w : World) :
    Calls Tryd.prog 131 #[.int .u64 0, .int .u64 lo, .int .u64 y] w fun e w' => e = .returned (.tuple #[.int .u64 ((lo : Int) / y), .int .u64 ((lo : Int) % y)]) ∧ Below w.heap.size w w' := by
  have e1 : IntKind.u64.wrap ((lo : Int).tdiv y) = (lo : Int) / y := IntWalk.u64_quo _ _ (by omega)
  have e2 : (lo : Int).tmod y = (lo : Int) % y := Int.tmod_eq_emod_of_nonneg (by omega)
  have e3 : IntKind.u64.wrap ((lo : Int) % y) = (lo : Int) % y := IntWalk.u64_in _ (by rw [hy]; omega)
  have e4 : IntKind.u64.wrap ((lo : Int) / y) = (lo : Int) / y := IntWalk.u64_in _ (by rw [hy]; omega)
  obtain ⟨q, hq⟩ : ∃ q, (lo : Int) / y = q := ⟨_, rfl⟩
  obtain ⟨r, hr⟩ : ∃ r, (lo : Int) % y = r := ⟨_, rfl⟩
  have e5 : IntKind.u64.wrap q = q := by rw [← hq]; exact e4
  rw [hq] at e1 ⊢
  clear e4
  have HQ := hq
  rw [hr] at e2 e3 ⊢
  have a7 : (y == 0) = false := by simp; omega
  have a9 : ¬ y = 0 := by omega
  have a8 : decide (y ≤ 0) = false := decide_eq_false (by omega)
  have a10 : ¬ y ≤ 0 := by omega
  clear hr hy h3 hq
  go_enter Tryd.func131, Tryd.ntmps131
  go_wp2_with fail
  go_quiet (fail)
  go_wp2_with fail
  go_ret2
  exact ⟨rfl, (by repeat' (first | (with_reducible refine below_drewN ?_ _) | go_grown))⟩
/-- Div64 at a whole number of 128 digits. -/
theorem div64_ok (y : Int) (hy : y = 86400000000000) (V : Nat) (hV : V < 1593793287968424591360000000000000) (hi lo : Int) (h1 : hi = ((V / 18446744073709551616 : Nat) : Int)) (h2 : lo = ((V % 18446744073709551616 : Nat) : Int)) (q r : Int) (hq : (V : Int) / 86400000000000 = q) (hr : (V : Int) % 86400000000000 = r) (w : World) :
    Calls Tryd.prog 131 #[.int .u64 hi, .int .u64 lo, .int .u64 y] w fun e w' => e = .returned (.tuple #[.int .u64 q, .int .u64 r]) ∧ Below w.heap.size w w' := by
  subst h1 h2
  have hlo : V % 18446744073709551616 < 18446744073709551616 := Nat.mod_lt _ (by decide)
  have hv : V / 18446744073709551616 * 18446744073709551616 + V % 18446744073709551616 = V := by omega
  rcases Nat.eq_zero_or_pos (V / 18446744073709551616) with hz | hp
  · rw [hz]
    refine (div64_zero y hy _ hlo w).mono ?_
    rintro e w' ⟨rfl, hb⟩
    refine ⟨?_, hb⟩
    have : V % 18446744073709551616 = V := by omega
    rw [this, hy, hq, hr]
  · have hhi : V / 18446744073709551616 < 86400000000000 := by omega
    refine (div64_hi y hy _ _ hp hhi hlo (V / 86400000000000) (V % 86400000000000) (by rw [hv]) (by rw [hv]) w).mono ?_
    rintro e w' ⟨rfl, rfl⟩
    refine ⟨?_, Below.refl _ _⟩
    rw [← hq, ← hr]
    rfl
end Go.Proofs.YtdeoahgcppbmkaaDoor
