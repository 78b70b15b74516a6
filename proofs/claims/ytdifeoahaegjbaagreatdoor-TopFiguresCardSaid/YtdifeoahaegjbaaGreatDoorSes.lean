/- Merged by wip/tools/pack.py out of XSeP, XSeW, XSeD, XSeQ, XSeN. -/
import Derived.Test.YtdifeoahaegjbaaGreatDoorPhs
import Derived.Test.YtdifeoahaegjbaaGreatDoorNars
import Derived.Test.YtdifeoahaegjbaaGreatDoorTrigA
import Derived.Test.YtdifeoahaegjbaaGreatDoorBasic
/- Seasons, plain: the wait, the passage, what Next hands back. -/
namespace Go.Proofs.YtdifeoahaegjbaaGreatDoor
open Ieee
set_option linter.unusedSimpArgs false
set_option linter.unusedVariables false
def kY : Rat := 5879615451457126 / 2147483648
theorem ap_kY : Ap 4703134026798884454 kY 0 2737910 := by
  obtain ⟨f, v⟩ := fv_lit (w := 4703134026798884454) (s := false) (m := 5879615451457126) (k := 31) (by decide)
  have e : ((2 ^ 31 : Nat) : Rat) = 2147483648 := rfl
  have e2 : ((5879615451457126 : Nat) : Rat) = 5879615451457126 := rfl
  have v2 : fv 4703134026798884454 = kY := by rw [v, e]; (try rw [e2]); unfold kY; rw [sg_f]; grind
  rw [← v2]; exact Ap.exact f (by rw [v2]; unfold kY; grind) (by rw [v2]; unfold kY; grind)
theorem ap_dayF : Ap 4725570615333879808 86400000 0 86400000 := by
  obtain ⟨f, v⟩ := fv_lit (w := 4725570615333879808) (s := false) (m := 5798205849600000) (k := 26) (by decide)
  have e : ((2 ^ 26 : Nat) : Rat) = 67108864 := rfl
  have e2 : ((5798205849600000 : Nat) : Rat) = 5798205849600000 := rfl
  have v2 : fv 4725570615333879808 = 86400000 := by rw [v, e]; (try rw [e2]); rw [sg_f]; grind
  exact ⟨f, by grind, by grind, by grind, by grind⟩
/-- The time in which the sun would be there by its mean speed. -/
def waW (b : Int) : Nat := fmul (fdiv (floatOfInt .f64 b) 4703134026798884454) 4725570615333879808
def waI (b : Int) : Int := ((double.read (waW b)).toInt .zero).getD 0
structure WaOk (b : Int) : Prop where
  i1 : floatBits .quo .f64 (floatOfInt .f64 b) 4703134026798884454 = some (fdiv (floatOfInt .f64 b) 4703134026798884454)
  i2 : floatBits .mul .f64 (fdiv (floatOfInt .f64 b) 4703134026798884454) 4725570615333879808 = some (waW b)
  iv : floatToIntVal .f64 (waW b) .i64 = some (waI b)
  l : (b : Rat) / kY * 86400000 - 2 ≤ (waI b : Rat)
  u : (waI b : Rat) ≤ (b : Rat) / kY * 86400000 + 1
  n0 : 0 ≤ waI b
  n1 : waI b ≤ 31600000000
theorem kY_bd : 27379092 / 10 ≤ kY ∧ kY ≤ 27379094 / 10 := by unfold kY; constructor <;> grind
theorem wa_ok {b : Int} (h0 : 0 ≤ b) (h1 : b < 1000000000) : WaOk b := by
  obtain ⟨f, v⟩ := fint_ok b (by omega) (by omega)
  obtain ⟨b1, b2⟩ := int_bd h0 (show b ≤ 1000000000 by omega)
  rw [show ((0 : Int) : Rat) = 0 from rfl] at b1
  rw [show ((1000000000 : Int) : Rat) = 1000000000 from rfl] at b2
  have B : Ap (floatOfInt .f64 b) (b : Rat) 0 1000000000 := ⟨f, by grind, by grind, by grind, by grind⟩
  have ky := kY_bd
  have q0 : 0 ≤ (b : Rat) / kY := rdiv_nonneg b1 (by grind)
  have q1 : (b : Rat) / kY ≤ 36525 / 100 := by
    apply Rat.not_lt.1
    intro l
    have := Rat.mul_lt_mul_of_pos_right l (show 0 < kY by grind)
    have x : (b : Rat) / kY * kY = (b : Rat) := by grind
    rw [x] at this
    clear x q0 B f v
    generalize (b : Rat) = bb at *
    grind
  obtain ⟨i1, a1⟩ := Ap.div B ap_kY 2737909 (2 / 10000000000000) (36525 / 100) 370 (mid_of (by grind) (by grind)) (by grind) (by grind) (by grind) (by constructor <;> grind) (by grind) (by grind)
  obtain ⟨i2, a2⟩ := Ap.mul a1 ap_dayF (3 / 100000) 31560000000 32000000000 (mid_of (by grind) (by grind)) (by grind) (by grind) (by grind)
  have w1 : waW b = fmul (fdiv (floatOfInt .f64 b) 4703134026798884454) 4725570615333879808 := rfl
  rw [← w1] at i2 a2
  obtain ⟨k, tk, t1, t2⟩ := toInt_ok a2.fin
  have ek : waI b = k := by unfold waI; rw [tk]; rfl
  have l := a2.lo; have u := a2.hi
  clear a1 w1 B f v b1 b2
  have e1 : ((9000000000000000000 : Int) : Rat) = 9000000000000000000 := rfl
  have e2 : ((-9000000000000000000 : Int) : Rat) = -9000000000000000000 := rfl
  have K : (b : Rat) / kY * 86400000 - 2 ≤ (k : Rat) ∧ (k : Rat) ≤ (b : Rat) / kY * 86400000 + 1 ∧ 0 ≤ k := by
    by_cases c : 0 ≤ fv (waW b)
    · obtain ⟨x, y, z⟩ := t1 c
      exact ⟨by clear t1 t2; grind, by clear t1 t2; grind, z⟩
    · obtain ⟨x, y, z⟩ := t2 (by grind)
      have kk : -1 < k := by
        apply int_lt_of_rat
        rw [show ((-1 : Int) : Rat) = -1 from rfl]
        clear t1 t2; grind
      exact ⟨by clear t1 t2; grind, by clear t1 t2; grind, by omega⟩
  obtain ⟨k1, k2, k3⟩ := K
  have k4 : k ≤ 31600000000 := by
    apply int_le_of_rat
    rw [show ((31600000000 : Int) : Rat) = 31600000000 from rfl]
    clear t1 t2 l u; grind
  exact ⟨i1, i2, by rw [ek]; exact i64_val tk (by omega) (by omega), by rw [ek]; exact k1, by rw [ek]; exact k2, by rw [ek]; exact k3, by rw [ek]; exact k4⟩
/-- How fast the sun moves. -/
theorem su_move (t : Rat) {d : Rat} (hd : 0 ≤ d) : 2644000 * (d / 86400000) - 1 / 1000000000 ≤ sunT (t + d) - sunT t ∧ sunT (t + d) - sunT t ≤ 2832000 * (d / 86400000) + 1 / 1000000000 := by
  have s := anT_move (mean := 775342092) (rate := 2737909333333) sun_in.tm t hd
  rw [sl_sun] at s
  have q := qq_b9
  unfold sunT
  unfold Near ra at *
  rw [show ((2737909333333 : Int) : Rat) = 2737909333333 from rfl, show ((2 : Nat) : Rat) = 2 from rfl] at s
  have q1 := Rat.mul_le_mul_of_nonneg_right q.2 (show 0 ≤ d / 86400000000000 by grind)
  have e2 : 8 * qq * (14864525005099857516 * (d / 86400000000000) / 1000000000) = 14864525005099857516 * 8 / 1000000000 * (qq * (d / 86400000000000)) := by grind
  rw [e2] at s
  generalize anT 775342092 2737909333333 sunZ 2 (t + d) = x3 at *
  generalize anT 775342092 2737909333333 sunZ 2 t = x4 at *
  generalize qq * (d / 86400000000000) = z at *
  clear e2 q
  constructor <;> grind
theorem su_lt {x y : Int} (h : x < y) : sunT (x : Rat) + 306 / 10000 * ((y : Rat) - (x : Rat)) - 1 / 1000000000 ≤ sunT (y : Rat) := by
  have h' := Rat.intCast_lt_intCast.2 h
  have m := su_move (x : Rat) (d := (y : Rat) - (x : Rat)) (by grind)
  rw [show (x : Rat) + ((y : Rat) - (x : Rat)) = (y : Rat) by grind] at m
  generalize sunT (y : Rat) = a at *
  generalize sunT (x : Rat) = b at *
  grind
/-- The side of the sun. -/
def seSd (L : Int) (x : Int) : Int := sideF (slLo x) (slHi x) L
/-- How far the sun is before the target. -/
def seB (L x : Int) : Int := (L - slLo x) % 1000000000
def seLo (L x : Int) : Int := max x (x + waI (seB L x) - 691200000)
def seHi (L x : Int) : Int := x + waI (seB L x) + 691200000
def seF (L x : Int) : Int × Int := nrwF (seSd L) 600000 64 (seLo L x) (seHi L x)
structure SeIn (L x N c : Int) : Prop where
  x0 : sunT (x : Rat) + 1998 ≤ (L : Rat) + 1000000000 * (N : Rat)
  x1 : (L : Rat) + 1000000000 * (N : Rat) < sunT (x : Rat) + 1000000000
  b : sunT ((c - 1 : Int) : Rat) < (L : Rat) + 1000000000 * (N : Rat)
  a : (L : Rat) + 1000000000 * (N : Rat) ≤ sunT (c : Rat)
  cr : Cross (seSd L) (seLo L x) (seHi L x) c 66000
  l : seLo L x ≤ (seF L x).1
  i1 : (seF L x).1 < c
  i2 : c ≤ (seF L x).2
  u : (seF L x).2 ≤ seHi L x
  w : (seF L x).2 - (seF L x).1 ≤ 600000
theorem mean_sun (t d : Rat) : phT 775342092 2737909333333 (t + d) = phT 775342092 2737909333333 t + 2737909333333 * d / 86400000000000 := by
  unfold phT; rw [show ((2737909333333 : Int) : Rat) = 2737909333333 from rfl]; grind
theorem se_in {L x : Int} (L0 : 0 ≤ L) (L1 : L < 1000000000) (hb : 4000 < seB L x) : ∃ N c, SeIn L x N c := by
  obtain ⟨K, a1, a2, a3, a4⟩ := sun_at x
  have b0 : 0 ≤ seB L x := by unfold seB; omega
  have b1 : seB L x < 1000000000 := by unfold seB; omega
  obtain ⟨N, hN⟩ : ∃ N : Int, slLo x + seB L x + 1000000000 * K = L + 1000000000 * N := ⟨K - (L - slLo x) / 1000000000, by unfold seB; omega⟩
  obtain ⟨-, -, -, w1, w2, w3, w4⟩ := wa_ok b0 b1
  have ky := kY_bd
  -- the wait by the mean speed
  have kyv : kY = 5879615451457126 / 2147483648 := rfl
  obtain ⟨z, hz⟩ : ∃ z, z = (seB L x : Rat) / kY := ⟨_, rfl⟩
  have hzk : z * kY = (seB L x : Rat) := by rw [hz]; grind
  rw [← hz] at w1 w2
  have bq0 := Rat.intCast_le_intCast.2 b0
  have bq1 := Rat.intCast_lt_intCast.2 b1
  rw [show ((0 : Int) : Rat) = 0 from rfl] at bq0
  rw [show ((1000000000 : Int) : Rat) = 1000000000 from rfl] at bq1
  have hq := congrArg (fun n : Int => (n : Rat)) hN
  simp only [Rat.intCast_add, Rat.intCast_mul] at hq
  rw [show ((1000000000 : Int) : Rat) = 1000000000 from rfl] at hq
  obtain ⟨tq, htq⟩ : ∃ tq, tq = (L : Rat) + 1000000000 * (N : Rat) := ⟨_, rfl⟩
  rw [← htq] at hq
  have hb' := Rat.intCast_le_intCast.2 (show 4001 ≤ seB L x by omega)
  rw [show ((4001 : Int) : Rat) = 4001 from rfl] at hb'
  have X0 : sunT (x : Rat) + 1998 ≤ tq := by clear hz hzk w1 w2 kyv ky; grind
  have X1 : tq < sunT (x : Rat) + 1000000000 := by clear hz hzk w1 w2 kyv ky hb'; grind
  clear hb'
  have sx := svS_bd (x : Rat)
  have es : ∀ t, sunT t = phT 775342092 2737909333333 t + svT sunZ 2 t := fun _ => rfl
  obtain ⟨wt, hwt⟩ : ∃ wt, wt = waI (seB L x) := ⟨_, rfl⟩
  have elo : seLo L x = max x (x + wt - 691200000) := by unfold seLo; rw [← hwt]
  have ehi : seHi L x = x + wt + 691200000 := by unfold seHi; rw [← hwt]
  rw [← hwt] at w1 w2 w3 w4
  rw [kyv] at hzk
  -- behind the wait
  have eh := mean_sun (x : Rat) ((wt : Rat) + 691200000)
  have sh := svS_bd ((x : Rat) + ((wt : Rat) + 691200000))
  have H : tq ≤ sunT ((seHi L x : Int) : Rat) := by
    rw [ehi, show ((x + wt + 691200000 : Int) : Rat) = (x : Rat) + ((wt : Rat) + 691200000) by rw [Rat.intCast_add, Rat.intCast_add, show ((691200000 : Int) : Rat) = 691200000 from rfl]; grind, es, eh]
    rw [es] at a1 a2
    generalize phT 775342092 2737909333333 (x : Rat) = m at *
    generalize svT sunZ 2 (x : Rat) = v at *
    generalize svT sunZ 2 ((x : Rat) + ((wt : Rat) + 691200000)) = v2 at *
    clear es eh a3 a4 X0 X1 hz kyv ky
    grind
  have el := mean_sun (x : Rat) ((wt : Rat) - 691200000)
  have sl := svS_bd ((x : Rat) + ((wt : Rat) - 691200000))
  have Lw : sunT ((seLo L x : Int) : Rat) < tq := by
    rw [elo]
    rcases (by omega : max x (x + wt - 691200000) = x ∨ max x (x + wt - 691200000) = x + wt - 691200000) with e | e
    · rw [e]; grind
    · rw [e, show ((x + wt - 691200000 : Int) : Rat) = (x : Rat) + ((wt : Rat) - 691200000) by rw [Rat.intCast_sub, Rat.intCast_add, show ((691200000 : Int) : Rat) = 691200000 from rfl]; grind, es, el]
      rw [es] at a1 a2
      generalize phT 775342092 2737909333333 (x : Rat) = m at *
      generalize svT sunZ 2 (x : Rat) = v at *
      generalize svT sunZ 2 ((x : Rat) + ((wt : Rat) - 691200000)) = v2 at *
      clear es el a3 a4 X0 X1 hz kyv ky H eh sh
      grind
  have lh : seLo L x < seHi L x := by rw [elo, ehi]; omega
  have span : seHi L x - seLo L x ≤ 1382400000 := by rw [elo, ehi]; omega
  clear eh sh el sl es sx hz hzk w1 w2 a1 a2 a3 a4 elo ehi hwt bq0 bq1 hq
  obtain ⟨lo, hlo⟩ : ∃ lo, lo = seLo L x := ⟨_, rfl⟩
  obtain ⟨hi, hhi⟩ : ∃ hi, hi = seHi L x := ⟨_, rfl⟩
  rw [← hlo] at Lw lh span
  rw [← hhi] at H lh span
  obtain ⟨c, c1, c2, c3, c4⟩ := passes (P := fun y : Int => tq ≤ sunT (y : Rat)) (lo := lo) (hi := hi) lh (by exact Rat.not_le.2 Lw) H
  have c3' : sunT ((c - 1 : Int) : Rat) < tq := Rat.not_le.1 c3
  have cc : ((c - 1 : Int) : Rat) = (c : Rat) - 1 := by rw [Rat.intCast_sub]; rfl
  clear c3
  have S : ∀ y : Int, lo ≤ y → y ≤ hi → (seSd L y = 1 → tq < sunT (y : Rat)) ∧ (seSd L y = -1 → sunT (y : Rat) < tq) ∧ (tq + (2000 + 2003 / 1000) < sunT (y : Rat) → seSd L y = 1) ∧ (sunT (y : Rat) < tq - (2000 + 2003 / 1000) → seSd L y = -1) := fun y h1 h2 => by
    have h1' := Rat.intCast_le_intCast.2 h1
    have h2' := Rat.intCast_le_intCast.2 h2
    have sp := Rat.intCast_le_intCast.2 span
    rw [Rat.intCast_sub, show ((1382400000 : Int) : Rat) = 1382400000 from rfl] at sp
    have m1 := su_move (lo : Rat) (d := (y : Rat) - (lo : Rat)) (by grind)
    rw [show (lo : Rat) + ((y : Rat) - (lo : Rat)) = (y : Rat) by grind] at m1
    have m2 := su_move (y : Rat) (d := (hi : Rat) - (y : Rat)) (by grind)
    rw [show (y : Rat) + ((hi : Rat) - (y : Rat)) = (hi : Rat) by grind] at m2
    have m3 := su_move (lo : Rat) (d := (hi : Rat) - (lo : Rat)) (by grind)
    rw [show (lo : Rat) + ((hi : Rat) - (lo : Rat)) = (hi : Rat) by grind] at m3
    have bd : -200000000 ≤ sunT (y : Rat) - tq ∧ sunT (y : Rat) - tq ≤ 200000000 := by
      clear c3' c4
      generalize sunT (y : Rat) = a at *
      generalize sunT (lo : Rat) = b at *
      generalize sunT (hi : Rat) = e at *
      constructor <;> grind
    exact side_at (sun_at y) htq (by grind) (by grind) (by grind) bd.1 bd.2
  have CR : Cross (seSd L) lo hi c 66000 := by
    refine ⟨fun y h1 h2 e => ?_, fun y h1 h2 e => ?_, fun y h1 h2 e => ?_, fun y h1 h2 e => ?_⟩
    · have s := (S y h1 h2).2.1 e
      apply Int.not_le.1
      intro l
      rcases Int.lt_or_eq_of_le l with l | l
      · have g := su_lt l
        have d := int_sub1 l
        clear S cc
        generalize sunT (y : Rat) = a at *
        generalize sunT (c : Rat) = b at *
        grind
      · rw [← l] at s
        grind
    · have s := (S y h1 h2).1 e
      apply Int.not_lt.1
      intro l
      rcases Int.lt_or_eq_of_le (show y ≤ c - 1 by omega) with l | l
      · have g := su_lt l
        have d := int_sub1 l
        clear S cc
        generalize sunT (y : Rat) = a at *
        generalize sunT ((c - 1 : Int) : Rat) = b at *
        grind
      · rw [l] at s
        grind
    · apply (S y h1 h2).2.2.2
      have g := su_lt (show y < c - 1 by omega)
      have e' := Rat.intCast_le_intCast.2 e
      rw [Rat.intCast_sub, show ((66000 : Int) : Rat) = 66000 from rfl] at e'
      clear S
      rw [cc] at g c3'
      generalize sunT (y : Rat) = a at *
      generalize sunT ((c : Rat) - 1) = b at *
      grind
    · apply (S y h1 h2).2.2.1
      have g := su_lt (show c < y by omega)
      have e' := Rat.intCast_le_intCast.2 e
      rw [Rat.intCast_add, show ((66000 : Int) : Rat) = 66000 from rfl] at e'
      clear S
      generalize sunT (y : Rat) = a at *
      generalize sunT (c : Rat) = b at *
      grind
  have p64 : (1000000000000000000 : Int) ≤ ((2 ^ 64 : Nat) : Int) := by decide
  have Q := nrwF_in CR (width := 600000) (by omega) (by omega) c1 c2 (by omega) 64 (by omega)
  have eF : seF L x = nrwF (seSd L) 600000 64 lo hi := by unfold seF; rw [hlo, hhi]
  refine ⟨N, c, by rw [← htq]; exact X0, by rw [← htq]; exact X1, by rw [← htq]; exact c3', by rw [← htq]; exact c4, by rw [← hlo, ← hhi]; exact CR, ?_, ?_, ?_, ?_, ?_⟩
  all_goals rw [eF]
  · rw [← hlo]; exact Q.a
  · exact Q.b
  · exact Q.c
  · rw [← hhi]; exact Q.d
  · have := Q.w; omega
end Go.Proofs.YtdifeoahaegjbaaGreatDoor
/- season.Next. -/
namespace Go.Proofs.YtdifeoahaegjbaaGreatDoor
open Go.RowKit
set_option linter.unusedSimpArgs false
set_option linter.unusedVariables false
theorem sl_w4 (t : Int) : slHi t - slLo t ≤ 4004 := by
  obtain ⟨k, a1, a2, a3, a4⟩ := sun_at t
  have : slHi t - slLo t < 4005 := by
    apply int_lt_of_rat
    rw [Rat.intCast_sub, show ((4005 : Int) : Rat) = 4005 from rfl]
    grind
  omega
theorem seSd_ne {L x : Int} (hb : 4004 < seB L x) : seSd L x ≠ 0 := by
  have w := sl_w4 x
  have e : (slLo x - L) % 1000000000 = 1000000000 - seB L x := by unfold seB at hb ⊢; omega
  have b1 : seB L x < 1000000000 := by unfold seB; omega
  unfold seSd sideF
  rw [e]
  generalize seB L x = b at *
  generalize slHi x = hi at *
  generalize slLo x = lo at *
  split
  · omega
  · split
    · omega
    · split <;> omega
theorem enS : ∀ args w, (callFunc 46 args).run Tryz.prog w = .ok (.enter 46 args) w := enters_of Tryz.func46 (by kernel_rfl) rfl
set_option maxRecDepth 100000 in
set_option maxHeartbeats 4000000 in
theorem seSide_ok (L : Int) (hL : 0 ≤ L ∧ L < 1000000000) (lo hi : Int) (b : Nat) (w : World) (hT : SinT w) (hin : ∀ x, lo ≤ x → x ≤ hi → instOk x = true) (hb : IntBox w b L) :
    FnAt 46 #[.pointer (some ⟨b, 0, none⟩)] (fun x => .int .i64 (seSd L x)) lo hi w := by
  intro W x h1 h2 hbl
  show Calls Tryz.prog 46 #[.int .i64 x, .pointer (some ⟨b, 0, none⟩)] W fun e w' => e = .returned (.int .i64 (seSd L x)) ∧ Below W.heap.size W w'
  have E := Lib.hid (sunLong_ok x W (hT.below hbl) (hin x h1 h2))
  have bd : 0 ≤ slLo x ∧ slLo x < 1000000000 ∧ slLo x ≤ slHi x ∧ slHi x ≤ 130000000000 := an_bd sun_in
  have S := Lib.hid (fun w => Side_ok (slLo x) (slHi x) L w bd.1 bd.2.1 bd.2.2.1 (by omega) hL.1 hL.2)
  have eS : sideF (slLo x) (slHi x) L = seSd L x := rfl
  rw [eS] at S
  have HI := Lib.hid (hb.below hbl)
  generalize seSd L x = sd at *
  clear eS bd hT hin hb hbl
  generalize slLo x = lo' at *
  generalize slHi x = hi' at *
  have c0 := HI.out.c0
  go_enter Tryz.func46, Tryz.ntmps46
  go_wp2_with fail
  refine Calls.mono E.out ?_
  rintro e w1 ⟨rfl, hb1⟩
  have I1 := HI.out.below hb1
  have HB := Lib.hid (hb1.alloc hb1.size (.cells #[.int .i64 lo', .int .i64 hi'] 43))
  have I2 := I1.alloc (.cells #[.int .i64 lo', .int .i64 hi'] 43)
  have S1 := SpBox.new w1 lo' hi'
  obtain ⟨k, hk⟩ : ∃ k, k = w1.heap.size := ⟨_, rfl⟩
  rw [← hk] at S1
  clear c0 hb1
  go_upto_region 2 with fail
  rw [← hk]
  obtain ⟨X, hX⟩ : ∃ X, X = w1.alloc (.cells #[.int .i64 lo', .int .i64 hi'] 43) := ⟨_, rfl⟩
  rw [← hX] at S1 I2 HB ⊢
  clear hX hk
  have c0 := I2.c0; have c1 := S1.c0; have c2 := S1.c1
  go_wp2_with fail
  refine Calls.mono (S.out _) ?_
  rintro e w2 ⟨rfl, hb2⟩
  have HB2 := Lib.hid (HB.out.trans (hb2.mono HB.out.size))
  clear hb2 c0 c1 c2 S1 I2
  go_wp2_with fail
  go_ret
  exact ⟨rfl, HB2.out⟩
set_option maxRecDepth 100000 in
set_option maxHeartbeats 16000000 in
theorem Next_ok (L x : Int) (hL : 0 ≤ L ∧ L < 1000000000) (hx : -310000000000000 ≤ x ∧ x ≤ 310000000000000) (hb : 4004 < seB L x) (w : World) (hT : SinT w) : Calls Tryz.prog 29 #[.int .i64 L, .int .i64 x] w fun e w' => e = .returned (.tuple #[.agg #[.int .i64 (seF L x).1, .int .i64 (seF L x).2], .int .i64 0]) ∧ Below w.heap.size w w' := by
  have ix : ∀ y : Int, -312000000000000 ≤ y → y ≤ 345000000000000 → instOk y = true := fun y h1 h2 => by unfold instOk dayOk; exact decide_eq_true (by omega)
  obtain ⟨N, c, SI⟩ := se_in hL.1 hL.2 (show 4000 < seB L x by omega)
  have sw := SI.w
  have b0 : 0 ≤ seB L x := by omega
  have b1 : seB L x < 1000000000 := by unfold seB; omega
  have WA := wa_ok b0 b1
  have n0 := WA.n0; have n1 := WA.n1
  have j1 := WA.i1; have j2 := WA.i2; have j3 := WA.iv
  have elo : seLo L x = max x (x + waI (seB L x) - 691200000) := rfl
  have ehi : seHi L x = x + waI (seB L x) + 691200000 := rfl
  have ne := seSd_ne hb
  have i1 := ix x (by omega) (by omega)
  have i2 := ix (x - 1728000000) (by omega) (by omega)
  have i3 := ix (x + 34560000000) (by omega) (by omega)
  have I1 := Lib.hid (fun w => i1 ▸ isInst_ok x w (by omega) (by omega))
  have I2 := Lib.hid (fun w => i2 ▸ isInst_ok (x - 1728000000) w (by omega) (by omega))
  have I3 := Lib.hid (fun w => i3 ▸ isInst_ok (x + 34560000000) w (by omega) (by omega))
  have SD := Lib.hid (fun W b (hT : SinT W) (hb : IntBox W b L) => show Calls Tryz.prog 46 #[.int .i64 x, .pointer (some ⟨b, 0, none⟩)] W fun e w' => e = .returned (.int .i64 (seSd L x)) ∧ Below W.heap.size W w' from seSide_ok L hL x x b W hT (fun y h1 h2 => ix y (by omega) (by omega)) hb W x (by omega) (by omega) (Below.refl _ _))
  have SL := Lib.hid (fun W (hT : SinT W) => sunLong_ok x W hT (ix x (by omega) (by omega)))
  have bl : 0 ≤ slLo x ∧ slLo x < 1000000000 ∧ slLo x ≤ slHi x ∧ slHi x ≤ 130000000000 := an_bd sun_in
  have eB : (L - slLo x) % 1000000000 = seB L x := rfl
  have M := Lib.hid (fun w => eB ▸ mod_all (L - slLo x) 1000000000 w (by omega) (by omega) (by omega) (by omega))
  have NR := Lib.hid (fun W b (hT : SinT W) (hb : IntBox W b L) => narrow_ok 46 #[.pointer (some ⟨b, 0, none⟩)] enS (seSd L) (seLo L x) (seHi L x) 600000 W (seSide_ok L hL _ _ b W hT (fun y h1 h2 => ix y (by rw [elo] at h1; omega) (by rw [ehi] at h2; omega)) hb) (by rw [elo]; omega) (by rw [elo, ehi]; omega) (by rw [ehi]; omega) (by omega) (by omega))
  have eF : seF L x = nrwF (seSd L) 600000 64 (seLo L x) (seHi L x) := rfl
  rw [← eF] at NR
  have dd : decide ((seF L x).2 - (seF L x).1 ≤ 600000) = true := decide_eq_true sw
  rw [dd] at NR
  rw [elo, ehi] at NR
  obtain ⟨L0, L1⟩ := hL
  obtain ⟨x0, x1⟩ := hx
  clear SI WA sw b0 b1 elo ehi eB eF dd ix hb i1 i2 i3
  generalize (seF L x).1 = r1 at *
  generalize (seF L x).2 = r2 at *
  generalize slHi x = sh at *
  generalize slLo x = sl at *
  generalize waI (seB L x) = wt at *
  generalize seSd L x = sb at *
  have nsb : (sb == 0) = false := by simp [ne]
  generalize seB L x = bb at *
  obtain ⟨fB, hfB⟩ : ∃ y, floatOfInt .f64 bb = y := ⟨_, rfl⟩
  rw [hfB] at j1 j2
  generalize fdiv fB 4703134026798884454 = f1 at *
  generalize waW bb = f2 at *
  have k1 := fop j1; have k2 := fop j2; have k3 := fconvI j3
  have HT := Lib.hid hT
  have B1 := IntBox.new w L
  obtain ⟨b, hb⟩ : ∃ b, b = w.heap.size := ⟨_, rfl⟩
  have e1 : (w.alloc (.cells #[.int .i64 L] 3)).heap.size = b + 1 := by simp [hb]
  have B2 := SpBox.new (w.alloc (.cells #[.int .i64 L] 3)) 0 0
  rw [e1] at B2
  rw [← hb] at B1
  have B1' := Lib.hid (B1.alloc (.cells #[.int .i64 0, .int .i64 0] 43))
  have B2' := Lib.hid B2
  have BW := Lib.hid (show Below w.heap.size w ((w.alloc (.cells #[.int .i64 L] 3)).alloc (.cells #[.int .i64 0, .int .i64 0] 43)) from (by repeat' (first | (with_reducible refine below_drewN ?_ _) | go_grown)))
  clear B1 B2 e1 hT j1 j2 j3 ne
  go_enter Tryz.func29, Tryz.ntmps29
  go_upto_region 1 with fail
  rw [← hb]
  have HBB := Lib.hid hb
  clear hb
  obtain ⟨X, hX⟩ : ∃ X, X = ((w.alloc (.cells #[.int .i64 L] 3)).alloc (.cells #[.int .i64 0, .int .i64 0] 43)) := ⟨_, rfl⟩
  rw [← hX] at B1' B2' BW ⊢
  clear hX
  have c0 := B1'.out.c0
  go_wp2_with fail
  have B0 := B1'; have S0 := B2'; have W0 := BW
  clear B1' B2' BW c0
  refine Calls.mono (I1.out _) ?_
  rintro e v1 ⟨rfl, hb⟩
  have B1 := Lib.hid (B0.out.below hb); have S1 := Lib.hid (S0.out.below hb); have W1 := Lib.hid (W0.out.trans (hb.mono W0.out.size))
  clear hb B0 S0 W0
  go_wp2_with fail
  refine Calls.mono (I2.out _) ?_
  rintro e v2 ⟨rfl, hb⟩
  have B2 := Lib.hid (B1.out.below hb); have S2 := Lib.hid (S1.out.below hb); have W2 := Lib.hid (W1.out.trans (hb.mono W1.out.size))
  clear hb B1 S1 W1
  go_wp2_with fail
  refine Calls.mono (I3.out _) ?_
  rintro e v3 ⟨rfl, hb⟩
  have B3 := Lib.hid (B2.out.below hb); have S3 := Lib.hid (S2.out.below hb); have W3 := Lib.hid (W2.out.trans (hb.mono W2.out.size))
  clear hb B2 S2 W2
  have c0 := B3.out.c0
  go_wp2_with fail
  refine Calls.mono (SD.out _ _ (HT.out.below W3.out) B3.out) ?_
  rintro e v4 ⟨rfl, hb⟩
  have B4 := Lib.hid (B3.out.below hb); have S4 := Lib.hid (S3.out.below hb); have W4 := Lib.hid (W3.out.trans (hb.mono W3.out.size))
  clear c0 hb B3 S3 W3
  go_wp2_with fail
  refine Calls.mono (SL.out _ (HT.out.below W4.out)) ?_
  rintro e v5 ⟨rfl, hb⟩
  have V := W4.out.trans (hb.mono W4.out.size)
  have W5 := Lib.hid (V.alloc V.size (.cells #[.int .i64 sl, .int .i64 sh] 43))
  have B5 := Lib.hid ((B4.out.below hb).alloc (.cells #[.int .i64 sl, .int .i64 sh] 43))
  have S5 := Lib.hid ((S4.out.below hb).alloc (.cells #[.int .i64 sl, .int .i64 sh] 43))
  have T5 := SpBox.new v5 sl sh
  obtain ⟨kk, hkk⟩ : ∃ k, k = v5.heap.size := ⟨_, rfl⟩
  rw [← hkk] at T5
  clear hb V B4 S4 W4
  go_upto_region 9 with fail
  rw [← hkk]
  obtain ⟨Y, hY⟩ : ∃ Y, Y = v5.alloc (.cells #[.int .i64 sl, .int .i64 sh] 43) := ⟨_, rfl⟩
  rw [← hY] at B5 S5 W5 T5 ⊢
  clear hY hkk
  have c0 := B5.out.c0; have c1 := T5.c0
  go_wp2_with fail
  refine Calls.mono (M.out _) ?_
  rintro e v6 ⟨rfl, hb⟩
  have B6 := Lib.hid (B5.out.below hb); have S6 := Lib.hid (S5.out.below hb); have W6 := Lib.hid (W5.out.trans (hb.mono W5.out.size))
  clear c0 c1 T5 hb B5 S5 W5
  go_wp2_with fail
  refine Calls.mono (NR.out _ _ (HT.out.below W6.out) B6.out) ?_
  rintro e v7 ⟨rfl, hb⟩
  have V := W6.out.trans (hb.mono W6.out.size)
  have W7 := Lib.hid (V.alloc V.size (.cells #[.int .i64 r1, .int .i64 r2] 43))
  have S7 := Lib.hid ((S6.out.below hb).alloc (.cells #[.int .i64 r1, .int .i64 r2] 43))
  have T7 := Lib.hid (SpBox.new v7 r1 r2)
  obtain ⟨kk, hkk⟩ : ∃ k, k = v7.heap.size := ⟨_, rfl⟩
  rw [← hkk] at T7
  clear hb V B6 S6 W6
  go_upto_region 13 with fail
  rw [← hkk]
  obtain ⟨Z, hZ⟩ : ∃ Z, Z = v7.alloc (.cells #[.int .i64 r1, .int .i64 r2] 43) := ⟨_, rfl⟩
  rw [← hZ] at S7 W7 T7 ⊢
  clear hZ hkk
  have u0 := T7.out.c0; have u1 := T7.out.c1
  have z0 := S7.out.c0; have z1 := S7.out.c1; have zf0 := S7.out.free 0; have zf1 := S7.out.free 1; have zl := S7.out.lt
  go_wp2_with fail
  refine bodyPost_ret (v := .tuple #[.agg #[.int .i64 r1, .int .i64 r2], .int .i64 0]) ?_ rfl ⟨rfl, ?_⟩
  · simp [results, Tryz.results29, go_sem, *]
  · have hB := HBB.out
    refine Below.setCell (Below.setCell W7.out ?_ _) ?_ _
    all_goals (first | (simp only [World.size_setCell]; omega) | (dsimp only; omega))
end Go.Proofs.YtdifeoahaegjbaaGreatDoor
/- How far the true longitude of the sun moves over some times (printed by wip/tools/gen-su.py). Plain. -/
namespace Go.Proofs.YtdifeoahaegjbaaGreatDoor
set_option linter.unusedSimpArgs false
set_option linter.unusedVariables false
theorem su_na : (-686748306 ≤ sLo 120481269 ∧ sHi 120481269 ≤ 686748306) ∧ (-998388223 ≤ sLo 240962538 ∧ sHi 240962538 ≤ 998388223) := by decide +kernel
theorem su_a (t : Rat) : 233558433 ≤ sunT (t + 7604400001) - sunT t ∧ sunT (t + 7604400001) - sunT t ≤ 248389663 := by
  obtain ⟨n0, n1⟩ := su_na
  have c0 := tm_chord (5318339) 84888545 2737778555556 t (T := 7604400001) (n := 120481269) (M := 686748306) (mA := 5318339) (by rw [show ((2737778555556 : Int) : Rat) = 2737778555556 from rfl, show ((120481269 : Int) : Rat) = 120481269 from rfl]; grind) n0 (by omega) (by rw [show ((5318339 : Int) : Rat) = 5318339 from rfl]; grind)
  rw [show ((5318339 : Int) : Rat) = 5318339 from rfl, show ((686748306 : Int) : Rat) = 686748306 from rfl] at c0
  have c1 := tm_chord (55536) 169777090 5475557111112 t (T := 7604400001) (n := 240962538) (M := 998388223) (mA := 55536) (by rw [show ((5475557111112 : Int) : Rat) = 5475557111112 from rfl, show ((240962538 : Int) : Rat) = 240962538 from rfl]; grind) n1 (by omega) (by rw [show ((55536 : Int) : Rat) = 55536 from rfl]; grind)
  rw [show ((55536 : Int) : Rat) = 55536 from rfl, show ((998388223 : Int) : Rat) = 998388223 from rfl] at c1
  have ek : ∀ t, sunT t = phT 775342092 2737909333333 t + (0 + (5318339) * SA (phT 84888545 2737778555556 t) + (55536) * SA (phT 169777090 5475557111112 t)) := fun _ => rfl
  rw [ek, ek, mean_sun]
  clear ek n0 n1
  unfold Near at *
  generalize SA (phT 84888545 2737778555556 (t + 7604400001)) = x0 at *
  generalize SA (phT 84888545 2737778555556 t) = y0 at *
  generalize SA (phT 169777090 5475557111112 (t + 7604400001)) = x1 at *
  generalize SA (phT 169777090 5475557111112 t) = y1 at *
  generalize phT 775342092 2737909333333 t = u4 at *
  constructor <;> grind
theorem su_nb : (-729078167 ≤ sLo 130025469 ∧ sHi 130025469 ≤ 729078167) ∧ (-998006585 ≤ sLo 260050938 ∧ sHi 260050938 ≤ 998006585) := by decide +kernel
theorem su_b (t : Rat) : 252197538 ≤ sunT (t + 8206799999) - sunT t ∧ sunT (t + 8206799999) - sunT t ≤ 267929182 := by
  obtain ⟨n0, n1⟩ := su_nb
  have c0 := tm_chord (5318339) 84888545 2737778555556 t (T := 8206799999) (n := 130025469) (M := 729078167) (mA := 5318339) (by rw [show ((2737778555556 : Int) : Rat) = 2737778555556 from rfl, show ((130025469 : Int) : Rat) = 130025469 from rfl]; grind) n0 (by omega) (by rw [show ((5318339 : Int) : Rat) = 5318339 from rfl]; grind)
  rw [show ((5318339 : Int) : Rat) = 5318339 from rfl, show ((729078167 : Int) : Rat) = 729078167 from rfl] at c0
  have c1 := tm_chord (55536) 169777090 5475557111112 t (T := 8206799999) (n := 260050938) (M := 998006585) (mA := 55536) (by rw [show ((5475557111112 : Int) : Rat) = 5475557111112 from rfl, show ((260050938 : Int) : Rat) = 260050938 from rfl]; grind) n1 (by omega) (by rw [show ((55536 : Int) : Rat) = 55536 from rfl]; grind)
  rw [show ((55536 : Int) : Rat) = 55536 from rfl, show ((998006585 : Int) : Rat) = 998006585 from rfl] at c1
  have ek : ∀ t, sunT t = phT 775342092 2737909333333 t + (0 + (5318339) * SA (phT 84888545 2737778555556 t) + (55536) * SA (phT 169777090 5475557111112 t)) := fun _ => rfl
  rw [ek, ek, mean_sun]
  clear ek n0 n1
  unfold Near at *
  generalize SA (phT 84888545 2737778555556 (t + 8206799999)) = x0 at *
  generalize SA (phT 84888545 2737778555556 t) = y0 at *
  generalize SA (phT 169777090 5475557111112 (t + 8206799999)) = x1 at *
  generalize SA (phT 169777090 5475557111112 t) = y1 at *
  generalize phT 775342092 2737909333333 t = u4 at *
  constructor <;> grind
theorem su_nc : (-2113672 ≤ sLo 499663599 ∧ sHi 499663599 ≤ 2113672) ∧ (-4227331 ≤ sLo 999327198 ∧ sHi 999327198 ≤ 4227331) := by decide +kernel
theorem su_c (t : Rat) : 999351980 ≤ sunT (t + 31537200001) - sunT t ∧ sunT (t + 31537200001) - sunT t ≤ 999397887 := by
  obtain ⟨n0, n1⟩ := su_nc
  have c0 := tm_chord (5318339) 84888545 2737778555556 t (T := 31537200001) (n := 499663599) (M := 2113672) (mA := 5318339) (by rw [show ((2737778555556 : Int) : Rat) = 2737778555556 from rfl, show ((499663599 : Int) : Rat) = 499663599 from rfl]; grind) n0 (by omega) (by rw [show ((5318339 : Int) : Rat) = 5318339 from rfl]; grind)
  rw [show ((5318339 : Int) : Rat) = 5318339 from rfl, show ((2113672 : Int) : Rat) = 2113672 from rfl] at c0
  have c1 := tm_chord (55536) 169777090 5475557111112 t (T := 31537200001) (n := 999327198) (M := 4227331) (mA := 55536) (by rw [show ((5475557111112 : Int) : Rat) = 5475557111112 from rfl, show ((999327198 : Int) : Rat) = 999327198 from rfl]; grind) n1 (by omega) (by rw [show ((55536 : Int) : Rat) = 55536 from rfl]; grind)
  rw [show ((55536 : Int) : Rat) = 55536 from rfl, show ((4227331 : Int) : Rat) = 4227331 from rfl] at c1
  have ek : ∀ t, sunT t = phT 775342092 2737909333333 t + (0 + (5318339) * SA (phT 84888545 2737778555556 t) + (55536) * SA (phT 169777090 5475557111112 t)) := fun _ => rfl
  rw [ek, ek, mean_sun]
  clear ek n0 n1
  unfold Near at *
  generalize SA (phT 84888545 2737778555556 (t + 31537200001)) = x0 at *
  generalize SA (phT 84888545 2737778555556 t) = y0 at *
  generalize SA (phT 169777090 5475557111112 (t + 31537200001)) = x1 at *
  generalize SA (phT 169777090 5475557111112 t) = y1 at *
  generalize phT 775342092 2737909333333 t = u4 at *
  constructor <;> grind
theorem su_nd : (-6248358 ≤ sLo 500994463 ∧ sHi 500994463 ≤ 6248358) ∧ (-12496475 ≤ sLo 1001988927 ∧ sHi 1001988927 ≤ 12496475) := by decide +kernel
theorem su_d (t : Rat) : 1001968938 ≤ sunT (t + 31621199999) - sunT t ∧ sunT (t + 31621199999) - sunT t ≤ 1002104641 := by
  obtain ⟨n0, n1⟩ := su_nd
  have c0 := tm_chord (5318339) 84888545 2737778555556 t (T := 31621199999) (n := 500994463) (M := 6248358) (mA := 5318339) (by rw [show ((2737778555556 : Int) : Rat) = 2737778555556 from rfl, show ((500994463 : Int) : Rat) = 500994463 from rfl]; grind) n0 (by omega) (by rw [show ((5318339 : Int) : Rat) = 5318339 from rfl]; grind)
  rw [show ((5318339 : Int) : Rat) = 5318339 from rfl, show ((6248358 : Int) : Rat) = 6248358 from rfl] at c0
  have c1 := tm_chord (55536) 169777090 5475557111112 t (T := 31621199999) (n := 1001988927) (M := 12496475) (mA := 55536) (by rw [show ((5475557111112 : Int) : Rat) = 5475557111112 from rfl, show ((1001988927 : Int) : Rat) = 1001988927 from rfl]; grind) n1 (by omega) (by rw [show ((55536 : Int) : Rat) = 55536 from rfl]; grind)
  rw [show ((55536 : Int) : Rat) = 55536 from rfl, show ((12496475 : Int) : Rat) = 12496475 from rfl] at c1
  have ek : ∀ t, sunT t = phT 775342092 2737909333333 t + (0 + (5318339) * SA (phT 84888545 2737778555556 t) + (55536) * SA (phT 169777090 5475557111112 t)) := fun _ => rfl
  rw [ek, ek, mean_sun]
  clear ek n0 n1
  unfold Near at *
  generalize SA (phT 84888545 2737778555556 (t + 31621199999)) = x0 at *
  generalize SA (phT 84888545 2737778555556 t) = y0 at *
  generalize SA (phT 169777090 5475557111112 (t + 31621199999)) = x1 at *
  generalize SA (phT 169777090 5475557111112 t) = y1 at *
  generalize phT 775342092 2737909333333 t = u4 at *
  constructor <;> grind
end Go.Proofs.YtdifeoahaegjbaaGreatDoor
/- How far apart seasons are, plain. -/
namespace Go.Proofs.YtdifeoahaegjbaaGreatDoor
set_option linter.unusedSimpArgs false
set_option linter.unusedVariables false
/-- The first day of a year. -/
def newY (y : Int) : Int := 365 * (y - 1) + (y - 1) / 4 - (y - 1) / 100 + (y - 1) / 400 + 1
theorem newY_bd (y : Int) : 146097 * (y - 1) - 299 ≤ 400 * newY y ∧ 400 * newY y ≤ 146097 * (y - 1) + 796 := by unfold newY; omega
theorem sun_newY {y : Int} (h0 : -9100 ≤ y) (h1 : y ≤ 9100) : 1000000000 * ((y : Rat) - 1) + 759000000 ≤ sunT ((newY y * 86400000 : Int) : Rat) ∧ sunT ((newY y * 86400000 : Int) : Rat) ≤ 1000000000 * ((y : Rat) - 1) + 797000000 := by
  obtain ⟨a, b⟩ := newY_bd y
  have a' := Rat.intCast_le_intCast.2 a
  have b' := Rat.intCast_le_intCast.2 b
  have y0 := Rat.intCast_le_intCast.2 h0
  have y1 := Rat.intCast_le_intCast.2 h1
  simp only [Rat.intCast_add, Rat.intCast_sub, Rat.intCast_mul] at a' b'
  rw [show ((146097 : Int) : Rat) = 146097 from rfl, show ((299 : Int) : Rat) = 299 from rfl, show ((400 : Int) : Rat) = 400 from rfl, show ((1 : Int) : Rat) = 1 from rfl] at a'
  rw [show ((146097 : Int) : Rat) = 146097 from rfl, show ((796 : Int) : Rat) = 796 from rfl, show ((400 : Int) : Rat) = 400 from rfl, show ((1 : Int) : Rat) = 1 from rfl] at b'
  rw [show ((-9100 : Int) : Rat) = -9100 from rfl] at y0
  rw [show ((9100 : Int) : Rat) = 9100 from rfl] at y1
  have sx := svS_bd ((newY y * 86400000 : Int) : Rat)
  have es : ∀ t, sunT t = phT 775342092 2737909333333 t + svT sunZ 2 t := fun _ => rfl
  rw [es]
  generalize svT sunZ 2 ((newY y * 86400000 : Int) : Rat) = v at *
  clear es a b h0 h1
  unfold phT
  rw [Rat.intCast_mul, show ((86400000 : Int) : Rat) = 86400000 from rfl, show ((775342092 : Int) : Rat) = 775342092 from rfl, show ((2737909333333 : Int) : Rat) = 2737909333333 from rfl]
  generalize (newY y : Rat) = n at *
  generalize (y : Rat) = u at *
  constructor <;> grind
/-- The passage alone. -/
structure SeX (L N c : Int) : Prop where
  b : sunT ((c - 1 : Int) : Rat) < (L : Rat) + 1000000000 * (N : Rat)
  a : (L : Rat) + 1000000000 * (N : Rat) ≤ sunT (c : Rat)
theorem SeIn.x {L x N c : Int} (h : SeIn L x N c) : SeX L N c := ⟨h.b, h.a⟩
theorem su_le {x y : Int} (h : x ≤ y) : sunT (x : Rat) - 1 / 1000000000 ≤ sunT (y : Rat) := by
  rcases Int.lt_or_eq_of_le h with l | l
  · have g := su_lt l
    have d := int_sub1 l
    generalize sunT (x : Rat) = a at *
    generalize sunT (y : Rat) = b at *
    grind
  · rw [l]; grind
theorem SeX.at' {L N c : Int} (h : SeX L N c) : sunT (c : Rat) ≤ (L : Rat) + 1000000000 * (N : Rat) + 1 := by
  have b := h.b
  have m := (su_move ((c - 1 : Int) : Rat) (d := 1) (by grind)).2
  rw [show ((c - 1 : Int) : Rat) + 1 = (c : Rat) by rw [Rat.intCast_sub]; show (c : Rat) - 1 + 1 = _; grind] at m
  generalize sunT ((c - 1 : Int) : Rat) = u at *
  generalize sunT (c : Rat) = v at *
  grind
theorem sx_lo {L N L' N' c c' T g hi : Int} (P : SeX L N c) (P' : SeX L' N' c') (h : L' + 1000000000 * N' = L + 1000000000 * N + g) (hT : sunT ((c : Rat) + (T : Rat)) - sunT (c : Rat) ≤ (hi : Rat)) (hg : hi + 2 ≤ g) : c + T < c' := by
  apply Int.not_le.1
  intro l
  have e := su_le l
  rw [Rat.intCast_add] at e
  have a := P.at'
  have b := P'.a
  have hq := congrArg (fun x : Int => (x : Rat)) h
  simp only [Rat.intCast_add, Rat.intCast_mul] at hq
  rw [show ((1000000000 : Int) : Rat) = 1000000000 from rfl] at hq
  have hg' := Rat.intCast_le_intCast.2 hg
  rw [Rat.intCast_add, show ((2 : Int) : Rat) = 2 from rfl] at hg'
  generalize sunT ((c : Rat) + (T : Rat)) = x at *
  generalize sunT (c : Rat) = y at *
  generalize sunT (c' : Rat) = z at *
  grind
theorem sx_hi {L N L' N' c c' T g lo : Int} (P : SeX L N c) (P' : SeX L' N' c') (h : L' + 1000000000 * N' = L + 1000000000 * N + g) (hT : (lo : Rat) ≤ sunT ((c : Rat) + (T : Rat)) - sunT (c : Rat)) (hg : g + 1 ≤ lo) : c' ≤ c + T := by
  apply Int.not_lt.1
  intro l
  have e := su_le (show c + T ≤ c' - 1 by omega)
  rw [Rat.intCast_add] at e
  have a := P.a
  have b := P'.b
  have hq := congrArg (fun x : Int => (x : Rat)) h
  simp only [Rat.intCast_add, Rat.intCast_mul] at hq
  rw [show ((1000000000 : Int) : Rat) = 1000000000 from rfl] at hq
  have hg' := Rat.intCast_le_intCast.2 hg
  rw [Rat.intCast_add, show ((1 : Int) : Rat) = 1 from rfl] at hg'
  generalize sunT ((c : Rat) + (T : Rat)) = x at *
  generalize sunT (c : Rat) = y at *
  generalize sunT ((c' - 1 : Int) : Rat) = z at *
  grind
theorem SeX.uniq {L N c c' : Int} (P : SeX L N c) (P' : SeX L N c') : c = c' := by
  have key : ∀ c c' : Int, SeX L N c → SeX L N c' → ¬ c < c' := fun c c' P P' l => by
    have a := P.a; have b := P'.b
    rcases Int.lt_or_eq_of_le (show c ≤ c' - 1 by omega) with g | g
    · have e := su_lt g
      have d := int_sub1 g
      generalize sunT ((c' - 1 : Int) : Rat) = z at *
      generalize sunT (c : Rat) = y at *
      grind
    · rw [← g] at b; grind
  have := key c c' P P'; have := key c' c P' P
  omega
/-- From one season to the next. -/
theorem se_step {L x N c L' x' N' c' : Int} (P : SeIn L x N c) (P' : SeIn L' x' N' c') (h : L' + 1000000000 * N' = L + 1000000000 * N + 250000000) : 7603200000 ≤ (seF L' x').1 - (seF L x).2 ∧ (seF L' x').2 - (seF L x).1 ≤ 8208000000 := by
  have a := sx_lo (T := 7604400001) (hi := 248389663) P.x P'.x h (su_a (c : Rat)).2 (by omega)
  have b := sx_hi (T := 8206799999) (lo := 252197538) P.x P'.x h (su_b (c : Rat)).1 (by omega)
  have p1 := P.i1; have p2 := P.i2; have p3 := P.w
  have r1 := P'.i1; have r2 := P'.i2; have r3 := P'.w
  omega
/-- From one year to the next. -/
theorem se_year {L x N c x' c' : Int} (P : SeIn L x N c) (P' : SeIn L x' (N + 1) c') : 31536000000 < (seF L x').1 - (seF L x).2 ∧ (seF L x').2 - (seF L x).1 < 31622400000 := by
  have h : L + 1000000000 * (N + 1) = L + 1000000000 * N + 1000000000 := by omega
  have a := sx_lo (T := 31537200001) (hi := 999397887) P.x P'.x h (su_c (c : Rat)).2 (by omega)
  have b := sx_hi (T := 31621199999) (lo := 1001968938) P.x P'.x h (su_d (c : Rat)).1 (by omega)
  have p1 := P.i1; have p2 := P.i2; have p3 := P.w
  have r1 := P'.i1; have r2 := P'.i2; have r3 := P'.w
  omega
theorem seB_of {L x b lo hi : Int} (L0 : 0 ≤ L) (L1 : L < 1000000000) (h1 : (L : Rat) + 1000000000 * (b : Rat) + (lo : Rat) ≤ sunT (x : Rat)) (h2 : sunT (x : Rat) ≤ (L : Rat) + 1000000000 * (b : Rat) + (hi : Rat)) (hl : 10000 ≤ lo) (hh : hi ≤ 999990000) : 4004 < seB L x := by
  obtain ⟨K, a1, a2, -, -⟩ := sun_at x
  have u1 : L + 1000000000 * b + lo - 4004 < slLo x + 1000000000 * K := by
    apply int_lt_of_rat
    simp only [Rat.intCast_add, Rat.intCast_sub, Rat.intCast_mul]
    rw [show ((1000000000 : Int) : Rat) = 1000000000 from rfl, show ((4004 : Int) : Rat) = 4004 from rfl]
    generalize sunT (x : Rat) = z at *
    grind
  have u2 : slLo x + 1000000000 * K < L + 1000000000 * b + hi := by
    apply int_lt_of_rat
    simp only [Rat.intCast_add, Rat.intCast_sub, Rat.intCast_mul]
    rw [show ((1000000000 : Int) : Rat) = 1000000000 from rfl]
    generalize sunT (x : Rat) = z at *
    grind
  unfold seB
  omega
theorem se_N {L x N c b : Int} (P : SeIn L x N c) (h1 : (L : Rat) + 1000000000 * ((b : Rat) - 1) < sunT (x : Rat) + 1998) (h2 : sunT (x : Rat) ≤ (L : Rat) + 1000000000 * (b : Rat)) : N = b := by
  have x0 := P.x0; have x1 := P.x1
  have u1 : b - 1 < N := by
    apply int_lt_of_rat
    rw [Rat.intCast_sub, show ((1 : Int) : Rat) = 1 from rfl]
    generalize sunT (x : Rat) = z at *
    grind
  have u2 : N < b + 1 := by
    apply int_lt_of_rat
    rw [Rat.intCast_add, show ((1 : Int) : Rat) = 1 from rfl]
    generalize sunT (x : Rat) = z at *
    grind
  omega
/-- The season of a year. -/
def seY (q y : Int) : Int × Int := seF (250000000 * q) (newY y * 86400000)
theorem newY_ms {y : Int} (h0 : -9100 ≤ y) (h1 : y ≤ 9100) : -310000000000000 ≤ newY y * 86400000 ∧ newY y * 86400000 ≤ 310000000000000 := by
  have := newY_bd y
  omega
theorem se_find {q y : Int} (q0 : 0 ≤ q) (q1 : q ≤ 3) (h0 : -9100 ≤ y) (h1 : y ≤ 9100) : 4004 < seB (250000000 * q) (newY y * 86400000) ∧ ∃ c, SeIn (250000000 * q) (newY y * 86400000) y c := by
  obtain ⟨s0, s1⟩ := sun_newY h0 h1
  have hq0 := Rat.intCast_le_intCast.2 q0
  have hq1 := Rat.intCast_le_intCast.2 q1
  rw [show ((0 : Int) : Rat) = 0 from rfl] at hq0
  rw [show ((3 : Int) : Rat) = 3 from rfl] at hq1
  have eL : ((250000000 * q : Int) : Rat) = 250000000 * (q : Rat) := by rw [Rat.intCast_mul]; rfl
  have B : 4004 < seB (250000000 * q) (newY y * 86400000) := by
    refine seB_of (b := y - 1) (lo := 759000000 - 250000000 * q) (hi := 797000000 - 250000000 * q) (by omega) (by omega) ?_ ?_ (by omega) (by omega)
    · rw [eL, Rat.intCast_sub, Rat.intCast_sub, eL, show ((759000000 : Int) : Rat) = 759000000 from rfl, show ((1 : Int) : Rat) = 1 from rfl]
      grind
    · rw [eL, Rat.intCast_sub, Rat.intCast_sub, eL, show ((797000000 : Int) : Rat) = 797000000 from rfl, show ((1 : Int) : Rat) = 1 from rfl]
      grind
  obtain ⟨N, c, P⟩ := se_in (show 0 ≤ 250000000 * q by omega) (by omega) (show 4000 < seB (250000000 * q) (newY y * 86400000) by omega)
  have eN : N = y := se_N P (by rw [eL]; grind) (by rw [eL]; grind)
  rw [eN] at P
  exact ⟨B, c, P⟩
/-- A day behind a season: the next one is a year later. -/
theorem se_next {L x N c : Int} (L0 : 0 ≤ L) (L1 : L < 1000000000) (P : SeIn L x N c) : 4004 < seB L ((seF L x).2 + 86400000) ∧ ∃ c', SeIn L ((seF L x).2 + 86400000) (N + 1) c' := by
  have p1 := P.i1; have p2 := P.i2; have p3 := P.w
  have a := P.a
  have a' := P.x.at'
  generalize (seF L x).2 = h at *
  have e1 := Rat.intCast_le_intCast.2 p2
  have e2 := Rat.intCast_le_intCast.2 (show h ≤ c + 600000 by omega)
  rw [Rat.intCast_add, show ((600000 : Int) : Rat) = 600000 from rfl] at e2
  have m := su_move (c : Rat) (d := (h : Rat) - (c : Rat) + 86400000) (by grind)
  have e3 : ((h + 86400000 : Int) : Rat) = (c : Rat) + ((h : Rat) - (c : Rat) + 86400000) := by rw [Rat.intCast_add, show ((86400000 : Int) : Rat) = 86400000 from rfl]; grind
  rw [← e3] at m
  have s0 : (L : Rat) + 1000000000 * (N : Rat) + 2000000 ≤ sunT ((h + 86400000 : Int) : Rat) := by
    clear e3
    generalize sunT ((h + 86400000 : Int) : Rat) = z at *
    generalize sunT (c : Rat) = y at *
    grind
  have s1 : sunT ((h + 86400000 : Int) : Rat) ≤ (L : Rat) + 1000000000 * (N : Rat) + 3000000 := by
    clear e3
    generalize sunT ((h + 86400000 : Int) : Rat) = z at *
    generalize sunT (c : Rat) = y at *
    grind
  have B : 4004 < seB L (h + 86400000) := seB_of (b := N) (lo := 2000000) (hi := 3000000) L0 L1 s0 s1 (by omega) (by omega)
  obtain ⟨N', c', P'⟩ := se_in L0 L1 (show 4000 < seB L (h + 86400000) by omega)
  clear e3 m
  have eN : N' = N + 1 := by
    refine se_N P' ?_ ?_
    · generalize sunT ((h + 86400000 : Int) : Rat) = z at *; rw [Rat.intCast_add, show ((1 : Int) : Rat) = 1 from rfl]; grind
    · generalize sunT ((h + 86400000 : Int) : Rat) = z at *; rw [Rat.intCast_add, show ((1 : Int) : Rat) = 1 from rfl]; grind
  rw [eN] at P'
  exact ⟨B, c', P'⟩
end Go.Proofs.YtdifeoahaegjbaaGreatDoor
/- line.NewYear, season.Find, seasonWorks. -/
namespace Go.Proofs.YtdifeoahaegjbaaGreatDoor
open Go.RowKit
set_option linter.unusedSimpArgs false
set_option linter.unusedVariables false
set_option maxHeartbeats 4000000 in
theorem newYear_is (y : Int) (w : World) (h : -9100 ≤ y ∧ y ≤ 9100) : Calls Tryz.prog 30 #[.int .i64 y] w fun e w' => e = .returned (.int .i64 (newY y)) ∧ Below w.heap.size w w' := by
  obtain ⟨z, hz⟩ : ∃ z, z = y - 1 := ⟨_, rfl⟩
  have p0 : IntKind.i64.wrap (y - 1) = z := by rw [hz]; exact IntWalk.i64_in _ (by omega)
  have p1 : wrap64 (y - 1) = z := by rw [hz]; exact IntWalk.wrap64_in _ (by omega)
  have eN : newY y = 365 * z + z / 4 - z / 100 + z / 400 + 1 := by rw [hz]; rfl
  have zb : -10001 ≤ z ∧ z ≤ 9999 := by omega
  have D4 := Lib.hid (fun w => down_all z 4 w (by omega) (by omega) (by omega) (by omega))
  have D100 := Lib.hid (fun w => down_all z 100 w (by omega) (by omega) (by omega) (by omega))
  have D400 := Lib.hid (fun w => down_all z 400 w (by omega) (by omega) (by omega) (by omega))
  have ab : -3000 ≤ z / 4 ∧ z / 4 ≤ 3000 := by omega
  have bb : -3000 ≤ z / 100 ∧ z / 100 ≤ 3000 := by omega
  have cb : -3000 ≤ z / 400 ∧ z / 400 ≤ 3000 := by omega
  rw [eN]
  generalize z / 4 = a at *
  generalize z / 100 = b at *
  generalize z / 400 = c at *
  obtain ⟨zb1, zb2⟩ := zb
  obtain ⟨ab1, ab2⟩ := ab
  obtain ⟨bb1, bb2⟩ := bb
  obtain ⟨cb1, cb2⟩ := cb
  clear eN h hz
  go_enter Tryz.func30, Tryz.ntmps30
  go_wp2_with fail
  refine Calls.mono (D4.out _) ?_
  rintro e w1 ⟨rfl, hb1⟩
  have HB1 := Lib.hid hb1
  clear hb1
  go_wp2_with fail
  refine Calls.mono (D100.out _) ?_
  rintro e w2 ⟨rfl, hb⟩
  have HB2 := Lib.hid (HB1.out.trans (hb.mono HB1.out.size))
  clear hb
  go_wp2_with fail
  refine Calls.mono (D400.out _) ?_
  rintro e w3 ⟨rfl, hb⟩
  have HB3 := Lib.hid (HB2.out.trans (hb.mono HB2.out.size))
  clear hb
  go_wp2_with fail
  go_ret
  exact ⟨rfl, HB3.out⟩
set_option maxRecDepth 100000 in
set_option maxHeartbeats 8000000 in
theorem SFind_ok (q y : Int) (hq : 0 ≤ q ∧ q ≤ 3) (hy : -9100 ≤ y ∧ y ≤ 9100) (w : World) (hT : SinT w) : Calls Tryz.prog 12 #[.int .i64 q, .int .i64 y] w fun e w' => e = .returned (.tuple #[.agg #[.int .i64 (seY q y).1, .int .i64 (seY q y).2], .int .i64 0]) ∧ Below w.heap.size w w' := by
  have B := (se_find hq.1 hq.2 hy.1 hy.2).1
  obtain ⟨n0, n1⟩ := newY_ms hy.1 hy.2
  have F := fun W (hT : SinT W) => Next_ok (250000000 * q) (newY y * 86400000) (by omega) ⟨n0, n1⟩ B W hT
  have NY := Lib.hid (fun w => newYear_is y w hy)
  have eS : seF (250000000 * q) (newY y * 86400000) = seY q y := rfl
  rw [eS] at F
  have HT := Lib.hid hT
  obtain ⟨q1, q2⟩ := hq
  obtain ⟨y1, y2⟩ := hy
  generalize (seY q y).1 = r1 at *
  generalize (seY q y).2 = r2 at *
  generalize newY y = ny at *
  clear hT B eS
  rcases (by omega : q = 0 ∨ q = 1 ∨ q = 2 ∨ q = 3) with rfl | rfl | rfl | rfl
  all_goals
    simp only [Int.reduceMul] at F
    have HF := Lib.hid F
    clear F
    go_enter Tryz.func12, Tryz.ntmps12
    have HB := Lib.hid (Below.refl w.heap.size w)
    obtain ⟨k1, hk1⟩ : ∃ x, x = w.heap.size := ⟨_, rfl⟩
    have s1 := SpBox.new w (0) (0)
    rw [← hk1] at s1
    have Hkl1 := Lib.hid (show w.heap.size ≤ k1 by rw [hk1]; omega)
    go_upto_region 1 with fail
    rw [← hk1]
    have HBn := show Below w.heap.size w (w.alloc (.cells #[.int .i64 (0), .int .i64 (0)] 43)) from (by repeat' (first | (with_reducible refine below_drewN ?_ _) | go_grown))
    obtain ⟨X1, hX1⟩ : ∃ X, X = (w.alloc (.cells #[.int .i64 (0), .int .i64 (0)] 43)) := ⟨_, rfl⟩
    rw [← hX1] at s1 HBn ⊢
    clear hX1  HB
    replace s1 := Lib.hid s1
    have HB := Lib.hid HBn; have HK1 := Lib.hid hk1; clear HBn hk1
    go_wp2_with fail
    refine Calls.mono (NY.out _) ?_
    rintro e w1 ⟨rfl, hb⟩
    replace s1 := Lib.hid (s1.out.below hb)
    replace HB := Lib.hid (HB.out.trans (hb.mono HB.out.size))
    clear hb
    go_wp2_with fail
    refine Calls.mono (HF.out _ (HT.out.below HB.out)) ?_
    rintro e w2 ⟨rfl, hb⟩
    replace s1 := Lib.hid (s1.out.below hb)
    replace HB := Lib.hid (HB.out.trans (hb.mono HB.out.size))
    clear hb
    have c1_0 := s1.out.c0; have c1_1 := s1.out.c1; have c1_f := s1.out.free 0; have c1_g := s1.out.free 1; have c1_l := s1.out.lt; have c1_k := Hkl1.out
    go_wp2_with fail
    refine bodyPost_ret (v := .tuple #[.agg #[.int .i64 r1, .int .i64 r2], .int .i64 0]) ?_ rfl ⟨rfl, ?_⟩
    · simp [results, Tryz.results12, go_sem, *]
    · exact (HB.out.setCell (p := ⟨k1, 0, none⟩) c1_k _).setCell (p := ⟨k1, 1, none⟩) c1_k _
theorem sw0 : (seY 0 2000).1 ≤ 63089219834394 ∧ 63089219834394 ≤ (seY 0 2000).2 := by decide +kernel
end Go.Proofs.YtdifeoahaegjbaaGreatDoor
