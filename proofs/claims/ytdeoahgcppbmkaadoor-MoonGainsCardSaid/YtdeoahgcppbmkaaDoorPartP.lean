/- A periodic term in plain Lean: the words that series.Part reckons with. -/
import Derived.Test.YtdeoahgcppbmkaaDoorFloat
set_option linter.unusedSimpArgs false
set_option linter.unusedVariables false
namespace Go.Proofs.YtdeoahgcppbmkaaDoor
open Ieee

theorem ap_unit : Ap 4815374002031689728 86400000000000 0 86400000000000 := by
  obtain ⟨f, v⟩ := fv_lit (w := 4815374002031689728) (s := false) (m := 5529600000000000) (k := 6) (by decide)
  have e : ((2 ^ 6 : Nat) : Rat) = 64 := rfl
  have e2 : ((5529600000000000 : Nat) : Rat) = 5529600000000000 := rfl
  have v2 : fv 4815374002031689728 = 86400000000000 := by rw [v, e]; (try rw [e2]); rw [sg_f]; grind
  exact ⟨f, by grind, by grind, by grind, by grind⟩
/-- The radians of a word from 0 to a turn, and a little more. -/
theorem radW_pos {x : Nat} (hf : Fin x) (h0 : 0 ≤ fv x) (h1 : fv x ≤ 1000000001) : ∃ r1 r2 r3 : Nat, floatBits .quo .f64 x 4741671816366391296 = some r1 ∧ floatBits .mul .f64 r1 4611686018427387904 = some r2 ∧ floatBits .mul .f64 r2 4614256656552045848 = some r3 ∧ r3 = radW x ∧
    Fin r3 ∧ 0 ≤ fv r3 ∧ fv r3 ≤ 7 ∧ fv r3 - 61 / 10000000000000000 ≤ 8 * qq * (fv x / 1000000000) ∧ 8 * qq * (fv x / 1000000000) ≤ fv r3 + 61 / 10000000000000000 := by
  have hT := ap_turn
  have hTv : fv 4741671816366391296 = 1000000000 := by have := hT.lo; have := hT.hi; grind
  have d1 : 0 ≤ fv x / 1000000000 := by grind
  have d2 : fv x / 1000000000 ≤ 1000000001 / 1000000000 := by grind
  obtain ⟨i1, f1, n1⟩ := fdiv_ok hf hT.fin (by rw [hTv]; grind) (1000000001 / 1000000000) (mid_of (by grind) (by grind)) (by rw [hTv]; grind) (by rw [hTv]; grind)
  have p1 := fdiv_nonneg hf hT.fin h0 (by rw [hTv]; grind) (1000000001 / 1000000000) (mid_of (by grind) (by grind)) (by rw [hTv]; grind)
  unfold Near at n1
  rw [hTv] at n1
  clear h1 hT
  generalize fv x / 1000000000 = t at *
  have a1 : Ap (fdiv x 4741671816366391296) t (45 / 100000000000000000) (10001 / 10000) := ⟨f1, by grind, by grind, by grind, by grind⟩
  clear n1
  obtain ⟨i2, a2⟩ := Ap.mul a1 ap_two (114 / 100000000000000000) (20002 / 10000) (21 / 10) (mid_of (by grind) (by grind)) (by grind) (by grind) (by grind)
  have l1 := a1.hi; have l2 := a2.hi; have l3 := a2.bh
  have e2v : fv 4611686018427387904 = 2 := by have := ap_two.lo; have := ap_two.hi; grind
  have p2 := fmul_nonneg a1.fin ap_two.fin 3 (mid_of (by grind) (by grind)) (by rw [e2v]; grind) (by rw [e2v]; grind)
  obtain ⟨i3, a3⟩ := Ap.mul a2 ap_pi (46 / 10000000000000000) (62839 / 10000) (6284 / 1000) (mid_of (by grind) (by grind)) (by grind) (by grind) (by grind)
  have epv : fv 4614256656552045848 = kPi := by have := ap_pi.lo; have := ap_pi.hi; grind
  have kb : 0 ≤ kPi ∧ kPi ≤ 3142 / 1000 := by unfold kPi; constructor <;> grind
  have pm := prod_bd (s := fv (fmul (fdiv x 4741671816366391296) 4611686018427387904)) (t := kPi) (S := 2001 / 1000) (T := 3142 / 1000) (by grind) (by grind) (by grind) kb.2
  have p3 := fmul_nonneg a2.fin ap_pi.fin 7 (mid_of (by grind) (by grind)) (by rw [epv]; exact Rat.mul_nonneg p2 kb.1) (by rw [epv]; grind)
  refine ⟨_, _, _, i1, i2, i3, rfl, ?_⟩
  show Fin (radW x) ∧ _
  have b1 := a3.lo; have b2 := a3.hi; have f := a3.fin
  clear pm p1 p2 i1 i2 i3 a1 a2 a3 l1 l2 l3 f1 e2v epv
  have e1 : radW x = fmul (fmul (fdiv x 4741671816366391296) 4611686018427387904) 4614256656552045848 := rfl
  rw [← e1] at b1 b2 f p3
  show Fin (radW x) ∧ 0 ≤ fv (radW x) ∧ fv (radW x) ≤ 7 ∧ fv (radW x) - 61 / 10000000000000000 ≤ _ ∧ _ ≤ fv (radW x) + 61 / 10000000000000000
  generalize radW x = W at *
  have q1 := prod_bd (s := 2 * kPi - 8 * qq) (t := t) (S := 3 / 10000000000000000) (T := 10001 / 10000) rad_q.1 rad_q.2 (by grind) (by grind)
  have q2 := prod_bd (s := kPi) (t := t) (S := 3142 / 1000) (T := 10001 / 10000) (by grind) kb.2 (by grind) (by grind)
  have e3 : t * 2 * kPi = 2 * (kPi * t) := by grind
  have e4 : 8 * qq * t = 2 * (kPi * t) - (2 * kPi - 8 * qq) * t := by grind
  rw [e3] at b1 b2
  rw [e4]
  generalize (2 * kPi - 8 * qq) * t = u at *
  generalize kPi * t = v at *
  clear e1 e3 e4
  refine ⟨f, p3, by grind, by grind, by grind⟩

/-- The place of a term in its period, as a word and exactly. -/
def partA (P R t : Int) : Nat := fadd (floatOfInt .f64 ((P + R * t / 86400000000000) % 1000000000)) (fdiv (floatOfInt .f64 (R * t % 86400000000000)) 4815374002031689728)
def partV (P R t : Int) : Rat := (((P + R * t / 86400000000000) % 1000000000 : Int) : Rat) + ((R * t % 86400000000000 : Int) : Rat) / 86400000000000
def partW (A P R t : Int) : Nat := fmul (floatOfInt .f64 A) (sinB (radW (partA P R t)))
theorem int_bd {n lo hi : Int} (h1 : lo ≤ n) (h2 : n ≤ hi) : ((lo : Int) : Rat) ≤ (n : Rat) ∧ (n : Rat) ≤ ((hi : Int) : Rat) := ⟨Rat.intCast_le_intCast.2 h1, Rat.intCast_le_intCast.2 h2⟩
structure PartOk (A P R t : Int) (e : Nat) : Prop where
  i1 : floatBits .quo .f64 (floatOfInt .f64 (R * t % 86400000000000)) 4815374002031689728 = some (fdiv (floatOfInt .f64 (R * t % 86400000000000)) 4815374002031689728)
  i2 : floatBits .add .f64 (floatOfInt .f64 ((P + R * t / 86400000000000) % 1000000000)) (fdiv (floatOfInt .f64 (R * t % 86400000000000)) 4815374002031689728) = some (partA P R t)
  i3 : floatBits .quo .f64 (partA P R t) 4741671816366391296 = some (fdiv (partA P R t) 4741671816366391296)
  i4 : floatBits .mul .f64 (fdiv (partA P R t) 4741671816366391296) 4611686018427387904 = some (fmul (fdiv (partA P R t) 4741671816366391296) 4611686018427387904)
  i5 : floatBits .mul .f64 (fmul (fdiv (partA P R t) 4741671816366391296) 4611686018427387904) 4614256656552045848 = some (radW (partA P R t))
  rf : Fin (radW (partA P R t))
  r0 : 0 ≤ fv (radW (partA P R t))
  r7 : fv (radW (partA P R t)) ≤ 7
  i6 : floatBits .mul .f64 (floatOfInt .f64 A) (sinB (radW (partA P R t))) = some (partW A P R t)
  even : e % 2 = 0
  le : e ≤ 8
  ap : Ap (partW A P R t) ((A : Rat) * sgnP e (8 * qq * (partV P R t / 1000000000) - (e : Rat) * qq)) (15 / 1000000) 1330000000
  z1 : -(393 / 500) ≤ 8 * qq * (partV P R t / 1000000000) - (e : Rat) * qq
  z2 : 8 * qq * (partV P R t / 1000000000) - (e : Rat) * qq ≤ 393 / 500
  o1 : ((e : Rat) - 1) * qq - 1 / 10000000000000 ≤ 8 * qq * (partV P R t / 1000000000)
  o2 : 8 * qq * (partV P R t / 1000000000) ≤ ((e : Rat) + 1) * qq + 1 / 10000000000000
theorem part_ok (A P R t : Int) (hA : -1000000000 ≤ A ∧ A ≤ 1000000000) : ∃ e, PartOk A P R t e := by
  obtain ⟨m, hm⟩ : ∃ m, m = (P + R * t / 86400000000000) % 1000000000 := ⟨_, rfl⟩
  obtain ⟨r, hr⟩ : ∃ r, r = R * t % 86400000000000 := ⟨_, rfl⟩
  have m0 : 0 ≤ m := by omega
  have m1 : m ≤ 999999999 := by omega
  have r0 : 0 ≤ r := by omega
  have r1 : r ≤ 86399999999999 := by omega
  obtain ⟨fm, vm⟩ := fint_ok m (by omega) (by omega)
  obtain ⟨fr, vr⟩ := fint_ok r (by omega) (by omega)
  obtain ⟨fA, vA⟩ := fint_ok A (by omega) (by omega)
  obtain ⟨bm0, bm1⟩ := int_bd m0 m1
  obtain ⟨br0, br1⟩ := int_bd r0 r1
  obtain ⟨bA0, bA1⟩ := int_bd hA.1 hA.2
  have e1 : ((0 : Int) : Rat) = 0 := rfl
  have e2 : ((999999999 : Int) : Rat) = 999999999 := rfl
  have e3 : ((86399999999999 : Int) : Rat) = 86399999999999 := rfl
  have e4 : ((1000000000 : Int) : Rat) = 1000000000 := rfl
  have e5 : ((-1000000000 : Int) : Rat) = -1000000000 := rfl
  rw [e1] at bm0 br0
  rw [e2] at bm1
  rw [e3] at br1
  rw [e4] at bA1
  rw [e5] at bA0
  have uv : fv 4815374002031689728 = 86400000000000 := by have := ap_unit.lo; have := ap_unit.hi; grind
  have t0 : 0 ≤ (r : Rat) / 86400000000000 := by grind
  have t1 : (r : Rat) / 86400000000000 ≤ 1 := by grind
  obtain ⟨i1, f1, n1⟩ := fdiv_ok fr ap_unit.fin (by rw [uv]; grind) 1 (mid_of (by grind) (by grind)) (by rw [uv, vr]; grind) (by rw [uv, vr]; grind)
  have p1 := fdiv_nonneg fr ap_unit.fin (by rw [vr]; exact br0) (by rw [uv]; grind) 1 (mid_of (by grind) (by grind)) (by rw [uv, vr]; exact t1)
  unfold Near at n1
  rw [uv, vr] at n1
  obtain ⟨n1a, n1b⟩ := n1
  clear uv br1
  have hpv : partV P R t = (m : Rat) + (r : Rat) / 86400000000000 := by unfold partV; rw [← hm, ← hr]
  generalize (r : Rat) / 86400000000000 = u at *
  obtain ⟨i2, f2, n2⟩ := fadd_ok fm f1 1000000001 (mid_of (by grind) (by grind)) (by rw [vm]; grind) (by rw [vm]; grind)
  have p2 := fadd_nonneg fm f1 1000000001 (mid_of (by grind) (by grind)) (by rw [vm]; grind) (by rw [vm]; grind)
  unfold Near at n2
  rw [vm] at n2
  obtain ⟨n2a, n2b⟩ := n2
  have ea : partA P R t = fadd (floatOfInt .f64 m) (fdiv (floatOfInt .f64 r) 4815374002031689728) := by unfold partA; rw [← hm, ← hr]
  rw [← ea] at i2 f2 n2a n2b p2
  generalize fv (fdiv (floatOfInt .f64 r) 4815374002031689728) = d at *
  have c1 : partV P R t - 12 / 100000000 ≤ fv (partA P R t) := by rw [hpv]; clear hpv i1 i2 ea; grind
  have c2 : fv (partA P R t) ≤ partV P R t + 12 / 100000000 := by rw [hpv]; clear hpv i1 i2 ea; grind
  have c3 : fv (partA P R t) ≤ 1000000001 := by clear hpv i1 i2 ea c1 c2; grind
  obtain ⟨w1, w2, w3, j1, j2, j3, ej, jf, j0, j7, ja, jb⟩ := radW_pos f2 p2 c3
  have ew1 : w1 = fdiv (partA P R t) 4741671816366391296 := by
    have : floatBits .quo .f64 (partA P R t) 4741671816366391296 = Ieee.double.div (partA P R t) 4741671816366391296 := rfl
    rw [this] at j1; unfold fdiv; rw [j1]; rfl
  have ew2 : w2 = fmul w1 4611686018427387904 := by
    have : floatBits .mul .f64 w1 4611686018427387904 = Ieee.double.mul w1 4611686018427387904 := rfl
    rw [this] at j2; unfold fmul; rw [j2]; rfl
  subst ej
  have qb := qq_bd
  have h1 : fv (radW (partA P R t)) - 7 / 1000000000000000 ≤ 8 * qq * (partV P R t / 1000000000) ∧ 8 * qq * (partV P R t / 1000000000) ≤ fv (radW (partA P R t)) + 7 / 1000000000000000 := by
    have k1 : -(12 / 100000000000000000) ≤ (partV P R t - fv (partA P R t)) / 1000000000 := by clear j1 j2 j3 i1 i2 hpv ea; grind
    have k2 : (partV P R t - fv (partA P R t)) / 1000000000 ≤ 12 / 100000000000000000 := by clear j1 j2 j3 i1 i2 hpv ea; grind
    have k3 := prod_bd (s := qq) (t := (partV P R t - fv (partA P R t)) / 1000000000) (S := 79 / 100) (T := 12 / 100000000000000000) (by grind) qb.2 k1 k2
    have k4 : 8 * qq * (partV P R t / 1000000000) = 8 * qq * (fv (partA P R t) / 1000000000) + 8 * (qq * ((partV P R t - fv (partA P R t)) / 1000000000)) := by grind
    rw [k4]
    generalize qq * ((partV P R t - fv (partA P R t)) / 1000000000) = k5 at *
    generalize 8 * qq * (fv (partA P R t) / 1000000000) = k6 at *
    clear j1 j2 j3 i1 i2 hpv ea k4 k1 k2 c1 c2 c3 n1a n1b n2a n2b
    constructor <;> grind
  obtain ⟨e, g1, g2, g3, g4, g5, g6, g7⟩ := sinB_near jf j0 j7 h1.1 h1.2
  have apA : Ap (floatOfInt .f64 A) (A : Rat) 0 1000000000 := ⟨fA, by rw [vA]; grind, by rw [vA]; grind, by grind, bA1⟩
  obtain ⟨i6, ap⟩ := Ap.mul apA g3 (15 / 1000000) 1330000000 1340000000 (mid_of (by grind) (by grind)) (by grind) (by grind) (by grind)
  refine ⟨e, ?_, ?_, ?_, ?_, ?_, jf, j0, j7, i6, g1, g2, ap, g4, g5, g6, g7⟩
  · rw [← hr]; exact i1
  · rw [← hm, ← hr]; exact i2
  · rw [← ew1]; exact j1
  · rw [← ew1, ← ew2]; exact j2
  · rw [← ew1, ← ew2]; exact j3
end Go.Proofs.YtdeoahgcppbmkaaDoor
