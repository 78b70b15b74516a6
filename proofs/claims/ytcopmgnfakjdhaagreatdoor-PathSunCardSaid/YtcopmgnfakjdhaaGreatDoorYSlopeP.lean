/- What series.slope reckons, in words, and how near it is. Plain. -/
import Derived.Test.YtcopmgnfakjdhaaGreatDoorYMoons
namespace Go.Proofs.YtcopmgnfakjdhaaGreatDoor
open Ieee
set_option linter.unusedSimpArgs false
set_option linter.unusedVariables false
theorem ap_mil : Ap 4696837146684686336 1000000 0 1000000 := by
  obtain ⟨f, v⟩ := fv_lit (w := 4696837146684686336) (s := false) (m := 8589934592000000) (k := 33) (by decide)
  have e : ((2 ^ 33 : Nat) : Rat) = 8589934592 := rfl
  have e2 : ((8589934592000000 : Nat) : Rat) = 8589934592000000 := rfl
  have v2 : fv 4696837146684686336 = 1000000 := by rw [v, e]; (try rw [e2]); rw [sg_f]; grind
  exact ⟨f, by grind, by grind, by grind, by grind⟩
def kE : Rat := 4503599627375000 / 4503599627370496
theorem ap_kE : Ap 4607182418800021912 kE 0 (1000001 / 1000000) := by
  obtain ⟨f, v⟩ := fv_lit (w := 4607182418800021912) (s := false) (m := 4503599627375000) (k := 52) (by decide)
  have e : ((2 ^ 52 : Nat) : Rat) = 4503599627370496 := rfl
  have e2 : ((4503599627375000 : Nat) : Rat) = 4503599627375000 := rfl
  have v2 : fv 4607182418800021912 = kE := by rw [v, e]; (try rw [e2]); unfold kE; rw [sg_f]; grind
  rw [← v2]; exact Ap.exact f (by rw [v2]; unfold kE; grind) (by rw [v2]; unfold kE; grind)
theorem nabR (n : Int) : (n.natAbs : Rat) = (n : Rat) ∨ (n.natAbs : Rat) = -(n : Rat) := by
  have e : ((n.natAbs : Int) : Rat) = (n.natAbs : Rat) := Rat.intCast_natCast _
  rcases Int.natAbs_eq n with h | h
  · left; rw [← e, ← h]
  · right; rw [← e]; have := congrArg (fun x : Int => (x : Rat)) h; rw [Rat.intCast_neg] at this; grind
theorem fabs_int {n : Int} (h1 : -9007199254740992 < n) (h2 : n < 9007199254740992) : Fin (fabs (floatOfInt .f64 n)) ∧ fv (fabs (floatOfInt .f64 n)) = (n.natAbs : Rat) := by
  obtain ⟨f, v⟩ := fint_ok n h1 h2
  obtain ⟨a1, a2, a3, a4⟩ := fabs_ok f
  refine ⟨a1, ?_⟩
  have nb := nabR n
  have n0 := nat_nonneg n.natAbs
  rw [v] at a3 a4
  by_cases c : (0 : Rat) ≤ (n : Rat)
  · rw [a3 c]; grind
  · rw [a4 (by grind)]; grind
def slTW (a r : Int) : Nat := fmul (fmul (fdiv (fmul (fdiv (fabs (floatOfInt .f64 a)) 4741671816366391296) (fabs (floatOfInt .f64 r))) 4696837146684686336) 4611686018427387904) 4614256656552045848
structure SlT (wa wr : Nat) (u : Rat) (r1 r2 r3 r4 r5 : Nat) : Prop where
  i1 : floatBits .quo .f64 wa 4741671816366391296 = some r1
  i2 : floatBits .mul .f64 r1 wr = some r2
  i3 : floatBits .quo .f64 r2 4696837146684686336 = some r3
  i4 : floatBits .mul .f64 r3 4611686018427387904 = some r4
  i5 : floatBits .mul .f64 r4 4614256656552045848 = some r5
  e5 : r5 = fmul (fmul (fdiv (fmul (fdiv wa 4741671816366391296) wr) 4696837146684686336) 4611686018427387904) 4614256656552045848
  ap : Ap r5 (8 * qq * (u / 1000000000000000)) (6 / 100000) 25200000000
theorem slT_words {wa wr : Nat} {α β : Rat} (a0 : 0 ≤ α) (a1 : α ≤ 1000000000) (r0 : 0 ≤ β) (r1 : β ≤ 4000000000000000) (A : Ap wa α 0 1000000000) (R : Ap wr β 0 4000000000000000) : ∃ r1 r2 r3 r4 r5, SlT wa wr (α * β) r1 r2 r3 r4 r5 := by
  have T := ap_turn
  obtain ⟨i1, a1'⟩ := Ap.div A T 1000000000 (5 / 10000000000000000) 1 1 (mid_of (by grind) (by grind)) (by grind) (by grind) (by grind) (by constructor <;> grind) (by grind) (by grind)
  obtain ⟨i2, a2⟩ := Ap.mul a1' R 3 4000000000000000 4100000000000000 (mid_of (by grind) (by grind)) (by grind) (by grind) (by grind)
  have p0 := Rat.mul_nonneg (show 0 ≤ α / 1000000000 by grind) r0
  have p1 := Rat.mul_le_mul_of_nonneg_right (show α / 1000000000 ≤ 1 by grind) r0
  obtain ⟨i3, a3⟩ := Ap.div a2 ap_mil 1000000 (8 / 1000000) 4000000000 4100000000 (mid_of (by grind) (by grind)) (by grind) (by grind) (by grind) (by constructor <;> grind) (by grind) (by grind)
  obtain ⟨i4, a4⟩ := Ap.mul a3 ap_two (17 / 1000000) 8000000000 8300000000 (mid_of (by grind) (by grind)) (by grind) (by grind) (by grind)
  obtain ⟨i5, a5⟩ := Ap.mul a4 ap_pi (57 / 1000000) 25200000000 26000000000 (mid_of (by grind) (by grind)) (by grind) (by grind) (by grind)
  refine ⟨_, _, _, _, _, i1, i2, i3, i4, i5, rfl, ?_⟩
  clear i1 i2 i3 i4 i5 a1' a2 a3 a4 A R T
  obtain ⟨f, lo, hi, bl, bh⟩ := a5
  generalize fmul (fmul (fdiv (fmul (fdiv wa 4741671816366391296) wr) 4696837146684686336) 4611686018427387904) 4614256656552045848 = W at *
  have q := rad_q
  have kb : 0 ≤ kPi ∧ kPi ≤ 3142 / 1000 := by unfold kPi; constructor <;> grind
  have u0 : 0 ≤ α * β / 1000000000000000 := by grind
  have u1 : α * β / 1000000000000000 ≤ 4000000000 := by grind
  have e1 : α / 1000000000 * β / 1000000 * 2 * kPi = α * β / 1000000000000000 * (2 * kPi) := by grind
  rw [e1] at lo hi bl bh
  clear e1 p0 p1
  have qb := qq_b9
  generalize α * β / 1000000000000000 = u at *
  generalize kPi = pi at *
  generalize qq = q4 at *
  have m := prod_bd (s := 2 * pi - 8 * q4) (t := u) (S := 3 / 10000000000000000) (T := 4000000000) q.1 q.2 (by grind) u1
  have e2 : 8 * q4 * u = u * (2 * pi) - (2 * pi - 8 * q4) * u := by grind
  have m3 := prod_bd (s := 8 * q4) (t := u) (S := 6284 / 1000) (T := 4000000000) (by grind) (by grind) (by grind) u1
  have m4 := Rat.mul_nonneg (show 0 ≤ 8 * q4 by grind) u0
  rw [e2] at m3 m4 ⊢
  generalize (2 * pi - 8 * q4) * u = z at *
  generalize u * (2 * pi) = y at *
  clear e2
  exact ⟨f, by grind, by grind, by grind, by grind⟩
theorem slT_ok {a r : Int} (ha : -1000000000 ≤ a ∧ a ≤ 1000000000) (hr : -4000000000000000 ≤ r ∧ r ≤ 4000000000000000) : ∃ r1 r2 r3 r4, SlT (fabs (floatOfInt .f64 a)) (fabs (floatOfInt .f64 r)) ((a.natAbs : Rat) * (r.natAbs : Rat)) r1 r2 r3 r4 (slTW a r) := by
  obtain ⟨fa, va⟩ := fabs_int (n := a) (by omega) (by omega)
  obtain ⟨fr, vr⟩ := fabs_int (n := r) (by omega) (by omega)
  have a0 := nat_nonneg a.natAbs; have r0 := nat_nonneg r.natAbs
  have a1 : (a.natAbs : Rat) ≤ 1000000000 := by
    have : (a.natAbs : Rat) ≤ ((1000000000 : Nat) : Rat) := Rat.natCast_le_natCast.2 (by omega)
    exact this
  have r1 : (r.natAbs : Rat) ≤ 4000000000000000 := by
    have : (r.natAbs : Rat) ≤ ((4000000000000000 : Nat) : Rat) := Rat.natCast_le_natCast.2 (by omega)
    exact this
  have A : Ap (fabs (floatOfInt .f64 a)) (a.natAbs : Rat) 0 1000000000 := ⟨fa, by grind, by grind, by grind, by grind⟩
  have R : Ap (fabs (floatOfInt .f64 r)) (r.natAbs : Rat) 0 4000000000000000 := ⟨fr, by grind, by grind, by grind, by grind⟩
  obtain ⟨s1, s2, s3, s4, s5, S⟩ := slT_words a0 a1 r0 r1 A R
  have e : s5 = slTW a r := S.e5
  exact ⟨s1, s2, s3, s4, e ▸ S⟩
def slF (zs : List Int) (i : Nat) : Nat := slTW (ix zs (i * 3)) (ix zs (i * 3 + 2))
def slV (zs : List Int) (k : Nat) : Rat := 8 * qq * (slS zs k / 1000000000000000)
theorem slV_succ (zs : List Int) (k : Nat) : slV zs (k + 1) = slV zs k + 8 * qq * (((ix zs (k * 3)).natAbs : Rat) * ((ix zs (k * 3 + 2)).natAbs : Rat) / 1000000000000000) := by
  unfold slV
  show 8 * qq * ((slS zs k + spd zs k) / 1000000000000000) = _
  unfold spd; grind
theorem nat_le6 {k : Nat} (h : k ≤ 6) : (k : Rat) ≤ 6 := by
  have : (k : Rat) ≤ ((6 : Nat) : Rat) := Rat.natCast_le_natCast.2 h
  exact this
def SlSum (zs : List Int) (k : Nat) : Prop := Ap (fsum (slF zs) k) (slV zs k) ((k : Rat) * (8 / 100000)) ((k : Rat) * 25200000000) ∧ 0 ≤ slV zs k
theorem slSum_zero (zs : List Int) : SlSum zs 0 := by
  have e0 : ((0 : Nat) : Rat) = 0 := rfl
  have ev : slV zs 0 = 0 := by unfold slV; show 8 * qq * ((0 : Rat) / _) = 0; grind
  refine ⟨?_, by rw [ev]; exact Rat.le_refl⟩
  rw [e0, ev]
  exact ⟨fin_zero'.1, by show _ ≤ fv 0; rw [fin_zero'.2]; grind, by show fv 0 ≤ _; rw [fin_zero'.2]; grind, by grind, by grind⟩
theorem slSum_step {zs : List Int} {k : Nat} (hk : k < 6) (hz : TmOk zs k) (h : SlSum zs k) : floatBits .add .f64 (fsum (slF zs) k) (slF zs k) = some (fsum (slF zs) (k + 1)) ∧ SlSum zs (k + 1) := by
  obtain ⟨h, p⟩ := h
  obtain ⟨r1, r2, r3, r4, S⟩ := slT_ok (a := ix zs (k * 3)) (r := ix zs (k * 3 + 2)) ⟨hz.a1, hz.a2⟩ ⟨hz.r1, hz.r2⟩
  have ap := S.ap
  have n : 0 ≤ 8 * qq * (((ix zs (k * 3)).natAbs : Rat) * ((ix zs (k * 3 + 2)).natAbs : Rat) / 1000000000000000) := by
    have m := Rat.mul_nonneg (nat_nonneg (ix zs (k * 3)).natAbs) (nat_nonneg (ix zs (k * 3 + 2)).natAbs)
    have q := qq_b9
    exact Rat.mul_nonneg (by generalize qq = q at *; grind) (by grind)
  have ev := slV_succ zs k
  have k0 := nat_nonneg k
  have k6 := nat_le6 (k := k) (by omega)
  have ek : (((k + 1 : Nat)) : Rat) = (k : Rat) + 1 := by rw [Rat.natCast_add]; rfl
  have k5 : (k : Rat) + 1 ≤ 6 := by rw [← ek]; exact nat_le6 (by omega)
  clear S
  generalize 8 * qq * (((ix zs (k * 3)).natAbs : Rat) * ((ix zs (k * 3 + 2)).natAbs : Rat) / 1000000000000000) = t at *
  have e1 : fsum (slF zs) (k + 1) = fadd (fsum (slF zs) k) (slTW (ix zs (k * 3)) (ix zs (k * 3 + 2))) := rfl
  generalize slV zs k = V at *
  obtain ⟨i, a⟩ := Ap.add h ap (((k : Rat) + 1) * (8 / 100000)) (((k : Rat) + 1) * 25200000000) 160000000000 (mid_of (by grind) (by grind)) (by grind) (by grind) (by grind)
  refine ⟨i, ?_, ?_⟩
  · rw [ek, ev]; exact a
  · rw [ev]; grind
theorem slSum_ok {zs : List Int} {n : Nat} (hn : n ≤ 6) (hz : ∀ i, i < n → TmOk zs i) : ∀ k, k ≤ n → SlSum zs k
  | 0, _ => slSum_zero zs
  | k + 1, hk => (slSum_step (by omega) (hz k (by omega)) (slSum_ok hn hz k (by omega))).2
theorem around_mid {v : Nat} {V e : Rat} (h : Ap v V e 1000000000000) (he : e ≤ 1 / 1000) : AroundOk v V (e + 12 / 100000) := by
  obtain ⟨i1, a1⟩ := Ap.sub h ap_sl (e + 12 / 100000) (1000000000001) (1000000000002) (mid_of (by grind) (by grind)) (by grind) (by grind) (by grind)
  obtain ⟨i2, a2⟩ := Ap.add h ap_sl (e + 12 / 100000) (1000000000001) (1000000000002) (mid_of (by grind) (by grind)) (by grind) (by grind) (by grind)
  have b1 := a1.lo; have b2 := a1.hi; have b3 := a1.bl; have b4 := a1.bh
  have c1 := a2.lo; have c2 := a2.hi; have c3 := a2.bl; have c4 := a2.bh
  obtain ⟨k, fk, vk, k1, k2, tk⟩ := ffloor_ok a1.fin (by grind) (by grind)
  obtain ⟨n, fn, vn, n1, n2, tn⟩ := fceil_ok a2.fin (by grind) (by grind)
  have ek : aLo v = k := by unfold aLo; rw [tk]; rfl
  have en : aHi v = n := by unfold aHi; rw [tn]; rfl
  have e1 : ((9000000000000000000 : Int) : Rat) = 9000000000000000000 := rfl
  have e2 : ((-9000000000000000000 : Int) : Rat) = -9000000000000000000 := rfl
  refine ⟨i1, i2, a1.fin, a2.fin, ?_, ?_, ?_, ?_, ?_, ?_⟩
  · rw [ek]; exact i64_val tk (int_le_of_rat (by rw [e2]; grind)) (int_le_of_rat (by rw [e1]; grind))
  · rw [en]; exact i64_val tn (int_le_of_rat (by rw [e2]; grind)) (int_le_of_rat (by rw [e1]; grind))
  all_goals first | rw [ek] | rw [en]
  all_goals grind
def slM (rate : Int) : Nat := fdiv (floatOfInt .f64 rate) 4696837146684686336
def slW (zs : List Int) (n : Nat) : Nat := fmul (fsum (slF zs) n) 4607182418800021912
def spLo (rate : Int) (zs : List Int) (n : Nat) : Int := aLo (fsub (slM rate) (slW zs n))
def spHi (rate : Int) (zs : List Int) (n : Nat) : Int := aHi (fadd (slM rate) (slW zs n))
structure SlopeOk (rate : Int) (zs : List Int) (n : Nat) : Prop where
  i1 : floatBits .mul .f64 (fsum (slF zs) n) 4607182418800021912 = some (slW zs n)
  i2 : floatBits .quo .f64 (floatOfInt .f64 rate) 4696837146684686336 = some (slM rate)
  i3 : floatBits .sub .f64 (slM rate) (slW zs n) = some (fsub (slM rate) (slW zs n))
  i4 : floatBits .add .f64 (slM rate) (slW zs n) = some (fadd (slM rate) (slW zs n))
  a1 : ∃ V, AroundOk (fsub (slM rate) (slW zs n)) V (9 / 10000)
  a2 : ∃ V, AroundOk (fadd (slM rate) (slW zs n)) V (9 / 10000)
  l : (spLo rate zs n : Rat) ≤ (rate : Rat) / 1000000 - slV zs n - 1 / 10000
  u : (rate : Rat) / 1000000 + slV zs n + 1 / 10000 ≤ (spHi rate zs n : Rat)
  bl : -160000000000 ≤ spLo rate zs n ∧ spLo rate zs n ≤ 160000000000
  bh : -160000000000 ≤ spHi rate zs n ∧ spHi rate zs n ≤ 160000000000
theorem slope_law {rate : Int} {zs : List Int} {n : Nat} (hn : n ≤ 6) (hr : -4000000000000000 ≤ rate ∧ rate ≤ 4000000000000000) (hz : ∀ i, i < n → TmOk zs i) : SlopeOk rate zs n := by
  obtain ⟨s, p⟩ := slSum_ok hn hz n (Nat.le_refl _)
  obtain ⟨f, v⟩ := fint_ok rate (by omega) (by omega)
  obtain ⟨r1, r2⟩ := int_bd hr.1 hr.2
  rw [show ((-4000000000000000 : Int) : Rat) = -4000000000000000 from rfl] at r1
  rw [show ((4000000000000000 : Int) : Rat) = 4000000000000000 from rfl] at r2
  have n6 := nat_le6 hn
  have n0 := nat_nonneg n
  have s' := s.weak (e' := 48 / 100000) (B' := 151200000000) (by grind) (by grind)
  have R : Ap (floatOfInt .f64 rate) (rate : Rat) 0 4000000000000000 := ⟨f, by grind, by grind, by grind, by grind⟩
  clear s f v
  obtain ⟨i1, a1⟩ := Ap.mul s' ap_kE (50 / 100000) 151300000000 160000000000 (mid_of (by grind) (by grind)) (by grind) (by grind) (by grind)
  obtain ⟨i2, a2⟩ := Ap.div R ap_mil 1000000 (3 / 1000000) 4000000000 4100000000 (mid_of (by grind) (by grind)) (by grind) (by grind) (by grind) (by constructor <;> grind) (by grind) (by grind)
  have w1 : slW zs n = fmul (fsum (slF zs) n) 4607182418800021912 := rfl
  have w2 : slM rate = fdiv (floatOfInt .f64 rate) 4696837146684686336 := rfl
  rw [← w1] at i1 a1
  rw [← w2] at i2 a2
  obtain ⟨i3, a3⟩ := Ap.sub a2 a1 (54 / 100000) 155500000000 160000000000 (mid_of (by grind) (by grind)) (by grind) (by grind) (by grind)
  obtain ⟨i4, a4⟩ := Ap.add a2 a1 (54 / 100000) 155500000000 160000000000 (mid_of (by grind) (by grind)) (by grind) (by grind) (by grind)
  have A1 := around_mid (a3.weak Rat.le_refl (show (155500000000 : Rat) ≤ 1000000000000 by grind)) (by grind)
  have A2 := around_mid (a4.weak Rat.le_refl (show (155500000000 : Rat) ≤ 1000000000000 by grind)) (by grind)
  have k := ksl_bd
  have ke : 1 ≤ kE := by unfold kE; grind
  have m := Rat.mul_le_mul_of_nonneg_left ke p
  have b1 := a3.bl; have b2 := a3.bh; have b3 := a4.bl; have b4 := a4.bh
  have l1 := A1.lo1; have l2 := A1.lo2; have u1 := A2.hi1; have u2 := A2.hi2
  have e1 : spLo rate zs n = aLo (fsub (slM rate) (slW zs n)) := rfl
  have e2 : spHi rate zs n = aHi (fadd (slM rate) (slW zs n)) := rfl
  rw [← e1] at l1 l2
  rw [← e2] at u1 u2
  clear e1 e2 w1 w2 a1 a2 a3 a4
  have B1 : AroundOk (fsub (slM rate) (slW zs n)) ((rate : Rat) / 1000000 - slV zs n * kE) (9 / 10000) := by
    obtain ⟨h1, h2, h3, h4, h5, h6, h7, h8, h9, h10⟩ := A1
    exact ⟨h1, h2, h3, h4, h5, h6, by grind, by grind, by grind, by grind⟩
  have B2 : AroundOk (fadd (slM rate) (slW zs n)) ((rate : Rat) / 1000000 + slV zs n * kE) (9 / 10000) := by
    obtain ⟨h1, h2, h3, h4, h5, h6, h7, h8, h9, h10⟩ := A2
    exact ⟨h1, h2, h3, h4, h5, h6, by grind, by grind, by grind, by grind⟩
  clear A1 A2
  generalize slV zs n * kE = z at *
  have f1 : ((-160000000000 : Int) : Rat) = -160000000000 := rfl
  have f2 : ((160000000000 : Int) : Rat) = 160000000000 := rfl
  refine ⟨i1, i2, i3, i4, ⟨_, B1⟩, ⟨_, B2⟩, by clear B1 B2; grind, by clear B1 B2; grind, ⟨?_, ?_⟩, ⟨?_, ?_⟩⟩
  all_goals clear B1 B2 i1 i2 i3 i4 s'
  all_goals apply int_le_of_rat
  all_goals first | rw [f1] | rw [f2]
  all_goals grind
end Go.Proofs.YtcopmgnfakjdhaaGreatDoor
