/- Seasons, plain: the wait, the passage, what Next hands back. -/
import Derived.Test.YtlldmhnkaopjhaaDoorPhP
namespace Go.Proofs.YtlldmhnkaopjhaaDoor
open Ieee
set_option linter.unusedSimpArgs false
set_option linter.unusedVariables false
def kY : Rat := 5879615451457126 / 2147483648
theorem ap_kY : Ap 4703134026798884454 kY 0 2737910 := by
  obtain ⟨f, v⟩ := fv_lit (w := 4703134026798884454) (s := false) (m := 5879615451457126) (k := 31) (by decide)
  have e : ((2 ^ 31 : Nat) : Rat) = 2147483648 := rfl
  have e2 : ((5879615451457126 : Nat) : Rat) = 5879615451457126 := rfl
  have v2 : fv 4703134026798884454 = kY := by rw [v, e]; (try rw [e2]); unfold kY; rw [sg_f]; grind
  rw [← v2]; exact Ap.exact f (by rw [v2]; unfold kY; grind) (by rw [v2]; unfold kY; grind)
theorem ap_dayF : Ap 4725570615333879808 86400000 0 86400000 := by
  obtain ⟨f, v⟩ := fv_lit (w := 4725570615333879808) (s := false) (m := 5798205849600000) (k := 26) (by decide)
  have e : ((2 ^ 26 : Nat) : Rat) = 67108864 := rfl
  have e2 : ((5798205849600000 : Nat) : Rat) = 5798205849600000 := rfl
  have v2 : fv 4725570615333879808 = 86400000 := by rw [v, e]; (try rw [e2]); rw [sg_f]; grind
  exact ⟨f, by grind, by grind, by grind, by grind⟩
/-- The time in which the sun would be there by its mean speed. -/
def waW (b : Int) : Nat := fmul (fdiv (floatOfInt .f64 b) 4703134026798884454) 4725570615333879808
def waI (b : Int) : Int := ((double.read (waW b)).toInt .zero).getD 0
structure WaOk (b : Int) : Prop where
  i1 : floatBits .quo .f64 (floatOfInt .f64 b) 4703134026798884454 = some (fdiv (floatOfInt .f64 b) 4703134026798884454)
  i2 : floatBits .mul .f64 (fdiv (floatOfInt .f64 b) 4703134026798884454) 4725570615333879808 = some (waW b)
  iv : floatToIntVal .f64 (waW b) .i64 = some (waI b)
  l : (b : Rat) / kY * 86400000 - 2 ≤ (waI b : Rat)
  u : (waI b : Rat) ≤ (b : Rat) / kY * 86400000 + 1
  n0 : 0 ≤ waI b
  n1 : waI b ≤ 31600000000
theorem kY_bd : 27379092 / 10 ≤ kY ∧ kY ≤ 27379094 / 10 := by unfold kY; constructor <;> grind
theorem wa_ok {b : Int} (h0 : 0 ≤ b) (h1 : b < 1000000000) : WaOk b := by
  obtain ⟨f, v⟩ := fint_ok b (by omega) (by omega)
  obtain ⟨b1, b2⟩ := int_bd h0 (show b ≤ 1000000000 by omega)
  rw [show ((0 : Int) : Rat) = 0 from rfl] at b1
  rw [show ((1000000000 : Int) : Rat) = 1000000000 from rfl] at b2
  have B : Ap (floatOfInt .f64 b) (b : Rat) 0 1000000000 := ⟨f, by grind, by grind, by grind, by grind⟩
  have ky := kY_bd
  have q0 : 0 ≤ (b : Rat) / kY := rdiv_nonneg b1 (by grind)
  have q1 : (b : Rat) / kY ≤ 36525 / 100 := by
    apply Rat.not_lt.1
    intro l
    have := Rat.mul_lt_mul_of_pos_right l (show 0 < kY by grind)
    have x : (b : Rat) / kY * kY = (b : Rat) := by grind
    rw [x] at this
    clear x q0 B f v
    generalize (b : Rat) = bb at *
    grind
  obtain ⟨i1, a1⟩ := Ap.div B ap_kY 2737909 (2 / 10000000000000) (36525 / 100) 370 (mid_of (by grind) (by grind)) (by grind) (by grind) (by grind) (by constructor <;> grind) (by grind) (by grind)
  obtain ⟨i2, a2⟩ := Ap.mul a1 ap_dayF (3 / 100000) 31560000000 32000000000 (mid_of (by grind) (by grind)) (by grind) (by grind) (by grind)
  have w1 : waW b = fmul (fdiv (floatOfInt .f64 b) 4703134026798884454) 4725570615333879808 := rfl
  rw [← w1] at i2 a2
  obtain ⟨k, tk, t1, t2⟩ := toInt_ok a2.fin
  have ek : waI b = k := by unfold waI; rw [tk]; rfl
  have l := a2.lo; have u := a2.hi
  clear a1 w1 B f v b1 b2
  have e1 : ((9000000000000000000 : Int) : Rat) = 9000000000000000000 := rfl
  have e2 : ((-9000000000000000000 : Int) : Rat) = -9000000000000000000 := rfl
  have K : (b : Rat) / kY * 86400000 - 2 ≤ (k : Rat) ∧ (k : Rat) ≤ (b : Rat) / kY * 86400000 + 1 ∧ 0 ≤ k := by
    by_cases c : 0 ≤ fv (waW b)
    · obtain ⟨x, y, z⟩ := t1 c
      exact ⟨by clear t1 t2; grind, by clear t1 t2; grind, z⟩
    · obtain ⟨x, y, z⟩ := t2 (by grind)
      have kk : -1 < k := by
        apply int_lt_of_rat
        rw [show ((-1 : Int) : Rat) = -1 from rfl]
        clear t1 t2; grind
      exact ⟨by clear t1 t2; grind, by clear t1 t2; grind, by omega⟩
  obtain ⟨k1, k2, k3⟩ := K
  have k4 : k ≤ 31600000000 := by
    apply int_le_of_rat
    rw [show ((31600000000 : Int) : Rat) = 31600000000 from rfl]
    clear t1 t2 l u; grind
  exact ⟨i1, i2, by rw [ek]; exact i64_val tk (by omega) (by omega), by rw [ek]; exact k1, by rw [ek]; exact k2, by rw [ek]; exact k3, by rw [ek]; exact k4⟩
/-- How fast the sun moves. -/
theorem su_move (t : Rat) {d : Rat} (hd : 0 ≤ d) : 2644000 * (d / 86400000) - 1 / 1000000000 ≤ sunT (t + d) - sunT t ∧ sunT (t + d) - sunT t ≤ 2832000 * (d / 86400000) + 1 / 1000000000 := by
  have s := anT_move (mean := 775342092) (rate := 2737909333333) sun_in.tm t hd
  rw [sl_sun] at s
  have q := qq_b9
  unfold sunT
  unfold Near ra at *
  rw [show ((2737909333333 : Int) : Rat) = 2737909333333 from rfl, show ((2 : Nat) : Rat) = 2 from rfl] at s
  have q1 := Rat.mul_le_mul_of_nonneg_right q.2 (show 0 ≤ d / 86400000000000 by grind)
  have e2 : 8 * qq * (14864525005099857516 * (d / 86400000000000) / 1000000000) = 14864525005099857516 * 8 / 1000000000 * (qq * (d / 86400000000000)) := by grind
  rw [e2] at s
  generalize anT 775342092 2737909333333 sunZ 2 (t + d) = x3 at *
  generalize anT 775342092 2737909333333 sunZ 2 t = x4 at *
  generalize qq * (d / 86400000000000) = z at *
  clear e2 q
  constructor <;> grind
theorem su_lt {x y : Int} (h : x < y) : sunT (x : Rat) + 306 / 10000 * ((y : Rat) - (x : Rat)) - 1 / 1000000000 ≤ sunT (y : Rat) := by
  have h' := Rat.intCast_lt_intCast.2 h
  have m := su_move (x : Rat) (d := (y : Rat) - (x : Rat)) (by grind)
  rw [show (x : Rat) + ((y : Rat) - (x : Rat)) = (y : Rat) by grind] at m
  generalize sunT (y : Rat) = a at *
  generalize sunT (x : Rat) = b at *
  grind
/-- The side of the sun. -/
def seSd (L : Int) (x : Int) : Int := sideF (slLo x) (slHi x) L
/-- How far the sun is before the target. -/
def seB (L x : Int) : Int := (L - slLo x) % 1000000000
def seLo (L x : Int) : Int := max x (x + waI (seB L x) - 691200000)
def seHi (L x : Int) : Int := x + waI (seB L x) + 691200000
def seF (L x : Int) : Int × Int := nrwF (seSd L) 600000 64 (seLo L x) (seHi L x)
structure SeIn (L x N c : Int) : Prop where
  x0 : sunT (x : Rat) + 1998 ≤ (L : Rat) + 1000000000 * (N : Rat)
  x1 : (L : Rat) + 1000000000 * (N : Rat) < sunT (x : Rat) + 1000000000
  b : sunT ((c - 1 : Int) : Rat) < (L : Rat) + 1000000000 * (N : Rat)
  a : (L : Rat) + 1000000000 * (N : Rat) ≤ sunT (c : Rat)
  cr : Cross (seSd L) (seLo L x) (seHi L x) c 66000
  l : seLo L x ≤ (seF L x).1
  i1 : (seF L x).1 < c
  i2 : c ≤ (seF L x).2
  u : (seF L x).2 ≤ seHi L x
  w : (seF L x).2 - (seF L x).1 ≤ 600000
theorem mean_sun (t d : Rat) : phT 775342092 2737909333333 (t + d) = phT 775342092 2737909333333 t + 2737909333333 * d / 86400000000000 := by
  unfold phT; rw [show ((2737909333333 : Int) : Rat) = 2737909333333 from rfl]; grind
theorem se_in {L x : Int} (L0 : 0 ≤ L) (L1 : L < 1000000000) (hb : 4000 < seB L x) : ∃ N c, SeIn L x N c := by
  obtain ⟨K, a1, a2, a3, a4⟩ := sun_at x
  have b0 : 0 ≤ seB L x := by unfold seB; omega
  have b1 : seB L x < 1000000000 := by unfold seB; omega
  obtain ⟨N, hN⟩ : ∃ N : Int, slLo x + seB L x + 1000000000 * K = L + 1000000000 * N := ⟨K - (L - slLo x) / 1000000000, by unfold seB; omega⟩
  obtain ⟨-, -, -, w1, w2, w3, w4⟩ := wa_ok b0 b1
  have ky := kY_bd
  -- the wait by the mean speed
  have kyv : kY = 5879615451457126 / 2147483648 := rfl
  obtain ⟨z, hz⟩ : ∃ z, z = (seB L x : Rat) / kY := ⟨_, rfl⟩
  have hzk : z * kY = (seB L x : Rat) := by rw [hz]; grind
  rw [← hz] at w1 w2
  have bq0 := Rat.intCast_le_intCast.2 b0
  have bq1 := Rat.intCast_lt_intCast.2 b1
  rw [show ((0 : Int) : Rat) = 0 from rfl] at bq0
  rw [show ((1000000000 : Int) : Rat) = 1000000000 from rfl] at bq1
  have hq := congrArg (fun n : Int => (n : Rat)) hN
  simp only [Rat.intCast_add, Rat.intCast_mul] at hq
  rw [show ((1000000000 : Int) : Rat) = 1000000000 from rfl] at hq
  obtain ⟨tq, htq⟩ : ∃ tq, tq = (L : Rat) + 1000000000 * (N : Rat) := ⟨_, rfl⟩
  rw [← htq] at hq
  have hb' := Rat.intCast_le_intCast.2 (show 4001 ≤ seB L x by omega)
  rw [show ((4001 : Int) : Rat) = 4001 from rfl] at hb'
  have X0 : sunT (x : Rat) + 1998 ≤ tq := by clear hz hzk w1 w2 kyv ky; grind
  have X1 : tq < sunT (x : Rat) + 1000000000 := by clear hz hzk w1 w2 kyv ky hb'; grind
  clear hb'
  have sx := svS_bd (x : Rat)
  have es : ∀ t, sunT t = phT 775342092 2737909333333 t + svT sunZ 2 t := fun _ => rfl
  obtain ⟨wt, hwt⟩ : ∃ wt, wt = waI (seB L x) := ⟨_, rfl⟩
  have elo : seLo L x = max x (x + wt - 691200000) := by unfold seLo; rw [← hwt]
  have ehi : seHi L x = x + wt + 691200000 := by unfold seHi; rw [← hwt]
  rw [← hwt] at w1 w2 w3 w4
  rw [kyv] at hzk
  -- behind the wait
  have eh := mean_sun (x : Rat) ((wt : Rat) + 691200000)
  have sh := svS_bd ((x : Rat) + ((wt : Rat) + 691200000))
  have H : tq ≤ sunT ((seHi L x : Int) : Rat) := by
    rw [ehi, show ((x + wt + 691200000 : Int) : Rat) = (x : Rat) + ((wt : Rat) + 691200000) by rw [Rat.intCast_add, Rat.intCast_add, show ((691200000 : Int) : Rat) = 691200000 from rfl]; grind, es, eh]
    rw [es] at a1 a2
    generalize phT 775342092 2737909333333 (x : Rat) = m at *
    generalize svT sunZ 2 (x : Rat) = v at *
    generalize svT sunZ 2 ((x : Rat) + ((wt : Rat) + 691200000)) = v2 at *
    clear es eh a3 a4 X0 X1 hz kyv ky
    grind
  have el := mean_sun (x : Rat) ((wt : Rat) - 691200000)
  have sl := svS_bd ((x : Rat) + ((wt : Rat) - 691200000))
  have Lw : sunT ((seLo L x : Int) : Rat) < tq := by
    rw [elo]
    rcases (by omega : max x (x + wt - 691200000) = x ∨ max x (x + wt - 691200000) = x + wt - 691200000) with e | e
    · rw [e]; grind
    · rw [e, show ((x + wt - 691200000 : Int) : Rat) = (x : Rat) + ((wt : Rat) - 691200000) by rw [Rat.intCast_sub, Rat.intCast_add, show ((691200000 : Int) : Rat) = 691200000 from rfl]; grind, es, el]
      rw [es] at a1 a2
      generalize phT 775342092 2737909333333 (x : Rat) = m at *
      generalize svT sunZ 2 (x : Rat) = v at *
      generalize svT sunZ 2 ((x : Rat) + ((wt : Rat) - 691200000)) = v2 at *
      clear es el a3 a4 X0 X1 hz kyv ky H eh sh
      grind
  have lh : seLo L x < seHi L x := by rw [elo, ehi]; omega
  have span : seHi L x - seLo L x ≤ 1382400000 := by rw [elo, ehi]; omega
  clear eh sh el sl es sx hz hzk w1 w2 a1 a2 a3 a4 elo ehi hwt bq0 bq1 hq
  obtain ⟨lo, hlo⟩ : ∃ lo, lo = seLo L x := ⟨_, rfl⟩
  obtain ⟨hi, hhi⟩ : ∃ hi, hi = seHi L x := ⟨_, rfl⟩
  rw [← hlo] at Lw lh span
  rw [← hhi] at H lh span
  obtain ⟨c, c1, c2, c3, c4⟩ := passes (P := fun y : Int => tq ≤ sunT (y : Rat)) (lo := lo) (hi := hi) lh (by exact Rat.not_le.2 Lw) H
  have c3' : sunT ((c - 1 : Int) : Rat) < tq := Rat.not_le.1 c3
  have cc : ((c - 1 : Int) : Rat) = (c : Rat) - 1 := by rw [Rat.intCast_sub]; rfl
  clear c3
  have S : ∀ y : Int, lo ≤ y → y ≤ hi → (seSd L y = 1 → tq < sunT (y : Rat)) ∧ (seSd L y = -1 → sunT (y : Rat) < tq) ∧ (tq + (2000 + 2003 / 1000) < sunT (y : Rat) → seSd L y = 1) ∧ (sunT (y : Rat) < tq - (2000 + 2003 / 1000) → seSd L y = -1) := fun y h1 h2 => by
    have h1' := Rat.intCast_le_intCast.2 h1
    have h2' := Rat.intCast_le_intCast.2 h2
    have sp := Rat.intCast_le_intCast.2 span
    rw [Rat.intCast_sub, show ((1382400000 : Int) : Rat) = 1382400000 from rfl] at sp
    have m1 := su_move (lo : Rat) (d := (y : Rat) - (lo : Rat)) (by grind)
    rw [show (lo : Rat) + ((y : Rat) - (lo : Rat)) = (y : Rat) by grind] at m1
    have m2 := su_move (y : Rat) (d := (hi : Rat) - (y : Rat)) (by grind)
    rw [show (y : Rat) + ((hi : Rat) - (y : Rat)) = (hi : Rat) by grind] at m2
    have m3 := su_move (lo : Rat) (d := (hi : Rat) - (lo : Rat)) (by grind)
    rw [show (lo : Rat) + ((hi : Rat) - (lo : Rat)) = (hi : Rat) by grind] at m3
    have bd : -200000000 ≤ sunT (y : Rat) - tq ∧ sunT (y : Rat) - tq ≤ 200000000 := by
      clear c3' c4
      generalize sunT (y : Rat) = a at *
      generalize sunT (lo : Rat) = b at *
      generalize sunT (hi : Rat) = e at *
      constructor <;> grind
    exact side_at (sun_at y) htq (by grind) (by grind) (by grind) bd.1 bd.2
  have CR : Cross (seSd L) lo hi c 66000 := by
    refine ⟨fun y h1 h2 e => ?_, fun y h1 h2 e => ?_, fun y h1 h2 e => ?_, fun y h1 h2 e => ?_⟩
    · have s := (S y h1 h2).2.1 e
      apply Int.not_le.1
      intro l
      rcases Int.lt_or_eq_of_le l with l | l
      · have g := su_lt l
        have d := int_sub1 l
        clear S cc
        generalize sunT (y : Rat) = a at *
        generalize sunT (c : Rat) = b at *
        grind
      · rw [← l] at s
        grind
    · have s := (S y h1 h2).1 e
      apply Int.not_lt.1
      intro l
      rcases Int.lt_or_eq_of_le (show y ≤ c - 1 by omega) with l | l
      · have g := su_lt l
        have d := int_sub1 l
        clear S cc
        generalize sunT (y : Rat) = a at *
        generalize sunT ((c - 1 : Int) : Rat) = b at *
        grind
      · rw [l] at s
        grind
    · apply (S y h1 h2).2.2.2
      have g := su_lt (show y < c - 1 by omega)
      have e' := Rat.intCast_le_intCast.2 e
      rw [Rat.intCast_sub, show ((66000 : Int) : Rat) = 66000 from rfl] at e'
      clear S
      rw [cc] at g c3'
      generalize sunT (y : Rat) = a at *
      generalize sunT ((c : Rat) - 1) = b at *
      grind
    · apply (S y h1 h2).2.2.1
      have g := su_lt (show c < y by omega)
      have e' := Rat.intCast_le_intCast.2 e
      rw [Rat.intCast_add, show ((66000 : Int) : Rat) = 66000 from rfl] at e'
      clear S
      generalize sunT (y : Rat) = a at *
      generalize sunT (c : Rat) = b at *
      grind
  have p64 : (1000000000000000000 : Int) ≤ ((2 ^ 64 : Nat) : Int) := by decide
  have Q := nrwF_in CR (width := 600000) (by omega) (by omega) c1 c2 (by omega) 64 (by omega)
  have eF : seF L x = nrwF (seSd L) 600000 64 lo hi := by unfold seF; rw [hlo, hhi]
  refine ⟨N, c, by rw [← htq]; exact X0, by rw [← htq]; exact X1, by rw [← htq]; exact c3', by rw [← htq]; exact c4, by rw [← hlo, ← hhi]; exact CR, ?_, ?_, ?_, ?_, ?_⟩
  all_goals rw [eF]
  · rw [← hlo]; exact Q.a
  · exact Q.b
  · exact Q.c
  · rw [← hhi]; exact Q.d
  · have := Q.w; omega
end Go.Proofs.YtlldmhnkaopjhaaDoor
