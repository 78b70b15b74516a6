/- Merged by wip/tools/pack.py out of XSer, XTrue, XMoon. -/
import Derived.Test.YtdifeoahaegjbaaGreatDoorFloat
import Derived.Test.YtdifeoahaegjbaaGreatDoorTrigA
import Derived.Test.YtdifeoahaegjbaaGreatDoorGrow
import Derived.Test.YtdifeoahaegjbaaGreatDoorBasic
import Derived.Test.YtdifeoahaegjbaaGreatDoorReals
/- Merged by wip/tools/pack.py out of XPartP, XPartW, XValueW, XSeriesW, XAngleT. -/
/- A periodic term in plain Lean: the words that series.Part reckons with. -/
set_option linter.unusedSimpArgs false
set_option linter.unusedVariables false
namespace Go.Proofs.YtdifeoahaegjbaaGreatDoor
open Ieee

theorem ap_unit : Ap 4815374002031689728 86400000000000 0 86400000000000 := by
  obtain ⟨f, v⟩ := fv_lit (w := 4815374002031689728) (s := false) (m := 5529600000000000) (k := 6) (by decide)
  have e : ((2 ^ 6 : Nat) : Rat) = 64 := rfl
  have e2 : ((5529600000000000 : Nat) : Rat) = 5529600000000000 := rfl
  have v2 : fv 4815374002031689728 = 86400000000000 := by rw [v, e]; (try rw [e2]); rw [sg_f]; grind
  exact ⟨f, by grind, by grind, by grind, by grind⟩
/-- The radians of a word from 0 to a turn, and a little more. -/
theorem radW_pos {x : Nat} (hf : Fin x) (h0 : 0 ≤ fv x) (h1 : fv x ≤ 1000000001) : ∃ r1 r2 r3 : Nat, floatBits .quo .f64 x 4741671816366391296 = some r1 ∧ floatBits .mul .f64 r1 4611686018427387904 = some r2 ∧ floatBits .mul .f64 r2 4614256656552045848 = some r3 ∧ r3 = radW x ∧
    Fin r3 ∧ 0 ≤ fv r3 ∧ fv r3 ≤ 7 ∧ fv r3 - 61 / 10000000000000000 ≤ 8 * qq * (fv x / 1000000000) ∧ 8 * qq * (fv x / 1000000000) ≤ fv r3 + 61 / 10000000000000000 := by
  have hT := ap_turn
  have hTv : fv 4741671816366391296 = 1000000000 := by have := hT.lo; have := hT.hi; grind
  have d1 : 0 ≤ fv x / 1000000000 := by grind
  have d2 : fv x / 1000000000 ≤ 1000000001 / 1000000000 := by grind
  obtain ⟨i1, f1, n1⟩ := fdiv_ok hf hT.fin (by rw [hTv]; grind) (1000000001 / 1000000000) (mid_of (by grind) (by grind)) (by rw [hTv]; grind) (by rw [hTv]; grind)
  have p1 := fdiv_nonneg hf hT.fin h0 (by rw [hTv]; grind) (1000000001 / 1000000000) (mid_of (by grind) (by grind)) (by rw [hTv]; grind)
  unfold Near at n1
  rw [hTv] at n1
  clear h1 hT
  generalize fv x / 1000000000 = t at *
  have a1 : Ap (fdiv x 4741671816366391296) t (45 / 100000000000000000) (10001 / 10000) := ⟨f1, by grind, by grind, by grind, by grind⟩
  clear n1
  obtain ⟨i2, a2⟩ := Ap.mul a1 ap_two (114 / 100000000000000000) (20002 / 10000) (21 / 10) (mid_of (by grind) (by grind)) (by grind) (by grind) (by grind)
  have l1 := a1.hi; have l2 := a2.hi; have l3 := a2.bh
  have e2v : fv 4611686018427387904 = 2 := by have := ap_two.lo; have := ap_two.hi; grind
  have p2 := fmul_nonneg a1.fin ap_two.fin 3 (mid_of (by grind) (by grind)) (by rw [e2v]; grind) (by rw [e2v]; grind)
  obtain ⟨i3, a3⟩ := Ap.mul a2 ap_pi (46 / 10000000000000000) (62839 / 10000) (6284 / 1000) (mid_of (by grind) (by grind)) (by grind) (by grind) (by grind)
  have epv : fv 4614256656552045848 = kPi := by have := ap_pi.lo; have := ap_pi.hi; grind
  have kb : 0 ≤ kPi ∧ kPi ≤ 3142 / 1000 := by unfold kPi; constructor <;> grind
  have pm := prod_bd (s := fv (fmul (fdiv x 4741671816366391296) 4611686018427387904)) (t := kPi) (S := 2001 / 1000) (T := 3142 / 1000) (by grind) (by grind) (by grind) kb.2
  have p3 := fmul_nonneg a2.fin ap_pi.fin 7 (mid_of (by grind) (by grind)) (by rw [epv]; exact Rat.mul_nonneg p2 kb.1) (by rw [epv]; grind)
  refine ⟨_, _, _, i1, i2, i3, rfl, ?_⟩
  show Fin (radW x) ∧ _
  have b1 := a3.lo; have b2 := a3.hi; have f := a3.fin
  clear pm p1 p2 i1 i2 i3 a1 a2 a3 l1 l2 l3 f1 e2v epv
  have e1 : radW x = fmul (fmul (fdiv x 4741671816366391296) 4611686018427387904) 4614256656552045848 := rfl
  rw [← e1] at b1 b2 f p3
  show Fin (radW x) ∧ 0 ≤ fv (radW x) ∧ fv (radW x) ≤ 7 ∧ fv (radW x) - 61 / 10000000000000000 ≤ _ ∧ _ ≤ fv (radW x) + 61 / 10000000000000000
  generalize radW x = W at *
  have q1 := prod_bd (s := 2 * kPi - 8 * qq) (t := t) (S := 3 / 10000000000000000) (T := 10001 / 10000) rad_q.1 rad_q.2 (by grind) (by grind)
  have q2 := prod_bd (s := kPi) (t := t) (S := 3142 / 1000) (T := 10001 / 10000) (by grind) kb.2 (by grind) (by grind)
  have e3 : t * 2 * kPi = 2 * (kPi * t) := by grind
  have e4 : 8 * qq * t = 2 * (kPi * t) - (2 * kPi - 8 * qq) * t := by grind
  rw [e3] at b1 b2
  rw [e4]
  generalize (2 * kPi - 8 * qq) * t = u at *
  generalize kPi * t = v at *
  clear e1 e3 e4
  refine ⟨f, p3, by grind, by grind, by grind⟩

/-- The place of a term in its period, as a word and exactly. -/
def partA (P R t : Int) : Nat := fadd (floatOfInt .f64 ((P + R * t / 86400000000000) % 1000000000)) (fdiv (floatOfInt .f64 (R * t % 86400000000000)) 4815374002031689728)
def partV (P R t : Int) : Rat := (((P + R * t / 86400000000000) % 1000000000 : Int) : Rat) + ((R * t % 86400000000000 : Int) : Rat) / 86400000000000
def partW (A P R t : Int) : Nat := fmul (floatOfInt .f64 A) (sinB (radW (partA P R t)))
theorem int_bd {n lo hi : Int} (h1 : lo ≤ n) (h2 : n ≤ hi) : ((lo : Int) : Rat) ≤ (n : Rat) ∧ (n : Rat) ≤ ((hi : Int) : Rat) := ⟨Rat.intCast_le_intCast.2 h1, Rat.intCast_le_intCast.2 h2⟩
structure PartOk (A P R t : Int) (e : Nat) : Prop where
  i1 : floatBits .quo .f64 (floatOfInt .f64 (R * t % 86400000000000)) 4815374002031689728 = some (fdiv (floatOfInt .f64 (R * t % 86400000000000)) 4815374002031689728)
  i2 : floatBits .add .f64 (floatOfInt .f64 ((P + R * t / 86400000000000) % 1000000000)) (fdiv (floatOfInt .f64 (R * t % 86400000000000)) 4815374002031689728) = some (partA P R t)
  i3 : floatBits .quo .f64 (partA P R t) 4741671816366391296 = some (fdiv (partA P R t) 4741671816366391296)
  i4 : floatBits .mul .f64 (fdiv (partA P R t) 4741671816366391296) 4611686018427387904 = some (fmul (fdiv (partA P R t) 4741671816366391296) 4611686018427387904)
  i5 : floatBits .mul .f64 (fmul (fdiv (partA P R t) 4741671816366391296) 4611686018427387904) 4614256656552045848 = some (radW (partA P R t))
  rf : Fin (radW (partA P R t))
  r0 : 0 ≤ fv (radW (partA P R t))
  r7 : fv (radW (partA P R t)) ≤ 7
  i6 : floatBits .mul .f64 (floatOfInt .f64 A) (sinB (radW (partA P R t))) = some (partW A P R t)
  even : e % 2 = 0
  le : e ≤ 8
  ap : Ap (partW A P R t) ((A : Rat) * sgnP e (8 * qq * (partV P R t / 1000000000) - (e : Rat) * qq)) (15 / 1000000) 1330000000
  z1 : -(393 / 500) ≤ 8 * qq * (partV P R t / 1000000000) - (e : Rat) * qq
  z2 : 8 * qq * (partV P R t / 1000000000) - (e : Rat) * qq ≤ 393 / 500
  o1 : ((e : Rat) - 1) * qq - 1 / 10000000000000 ≤ 8 * qq * (partV P R t / 1000000000)
  o2 : 8 * qq * (partV P R t / 1000000000) ≤ ((e : Rat) + 1) * qq + 1 / 10000000000000
theorem part_ok (A P R t : Int) (hA : -1000000000 ≤ A ∧ A ≤ 1000000000) : ∃ e, PartOk A P R t e := by
  obtain ⟨m, hm⟩ : ∃ m, m = (P + R * t / 86400000000000) % 1000000000 := ⟨_, rfl⟩
  obtain ⟨r, hr⟩ : ∃ r, r = R * t % 86400000000000 := ⟨_, rfl⟩
  have m0 : 0 ≤ m := by omega
  have m1 : m ≤ 999999999 := by omega
  have r0 : 0 ≤ r := by omega
  have r1 : r ≤ 86399999999999 := by omega
  obtain ⟨fm, vm⟩ := fint_ok m (by omega) (by omega)
  obtain ⟨fr, vr⟩ := fint_ok r (by omega) (by omega)
  obtain ⟨fA, vA⟩ := fint_ok A (by omega) (by omega)
  obtain ⟨bm0, bm1⟩ := int_bd m0 m1
  obtain ⟨br0, br1⟩ := int_bd r0 r1
  obtain ⟨bA0, bA1⟩ := int_bd hA.1 hA.2
  have e1 : ((0 : Int) : Rat) = 0 := rfl
  have e2 : ((999999999 : Int) : Rat) = 999999999 := rfl
  have e3 : ((86399999999999 : Int) : Rat) = 86399999999999 := rfl
  have e4 : ((1000000000 : Int) : Rat) = 1000000000 := rfl
  have e5 : ((-1000000000 : Int) : Rat) = -1000000000 := rfl
  rw [e1] at bm0 br0
  rw [e2] at bm1
  rw [e3] at br1
  rw [e4] at bA1
  rw [e5] at bA0
  have uv : fv 4815374002031689728 = 86400000000000 := by have := ap_unit.lo; have := ap_unit.hi; grind
  have t0 : 0 ≤ (r : Rat) / 86400000000000 := by grind
  have t1 : (r : Rat) / 86400000000000 ≤ 1 := by grind
  obtain ⟨i1, f1, n1⟩ := fdiv_ok fr ap_unit.fin (by rw [uv]; grind) 1 (mid_of (by grind) (by grind)) (by rw [uv, vr]; grind) (by rw [uv, vr]; grind)
  have p1 := fdiv_nonneg fr ap_unit.fin (by rw [vr]; exact br0) (by rw [uv]; grind) 1 (mid_of (by grind) (by grind)) (by rw [uv, vr]; exact t1)
  unfold Near at n1
  rw [uv, vr] at n1
  obtain ⟨n1a, n1b⟩ := n1
  clear uv br1
  have hpv : partV P R t = (m : Rat) + (r : Rat) / 86400000000000 := by unfold partV; rw [← hm, ← hr]
  generalize (r : Rat) / 86400000000000 = u at *
  obtain ⟨i2, f2, n2⟩ := fadd_ok fm f1 1000000001 (mid_of (by grind) (by grind)) (by rw [vm]; grind) (by rw [vm]; grind)
  have p2 := fadd_nonneg fm f1 1000000001 (mid_of (by grind) (by grind)) (by rw [vm]; grind) (by rw [vm]; grind)
  unfold Near at n2
  rw [vm] at n2
  obtain ⟨n2a, n2b⟩ := n2
  have ea : partA P R t = fadd (floatOfInt .f64 m) (fdiv (floatOfInt .f64 r) 4815374002031689728) := by unfold partA; rw [← hm, ← hr]
  rw [← ea] at i2 f2 n2a n2b p2
  generalize fv (fdiv (floatOfInt .f64 r) 4815374002031689728) = d at *
  have c1 : partV P R t - 12 / 100000000 ≤ fv (partA P R t) := by rw [hpv]; clear hpv i1 i2 ea; grind
  have c2 : fv (partA P R t) ≤ partV P R t + 12 / 100000000 := by rw [hpv]; clear hpv i1 i2 ea; grind
  have c3 : fv (partA P R t) ≤ 1000000001 := by clear hpv i1 i2 ea c1 c2; grind
  obtain ⟨w1, w2, w3, j1, j2, j3, ej, jf, j0, j7, ja, jb⟩ := radW_pos f2 p2 c3
  have ew1 : w1 = fdiv (partA P R t) 4741671816366391296 := by
    have : floatBits .quo .f64 (partA P R t) 4741671816366391296 = Ieee.double.div (partA P R t) 4741671816366391296 := rfl
    rw [this] at j1; unfold fdiv; rw [j1]; rfl
  have ew2 : w2 = fmul w1 4611686018427387904 := by
    have : floatBits .mul .f64 w1 4611686018427387904 = Ieee.double.mul w1 4611686018427387904 := rfl
    rw [this] at j2; unfold fmul; rw [j2]; rfl
  subst ej
  have qb := qq_bd
  have h1 : fv (radW (partA P R t)) - 7 / 1000000000000000 ≤ 8 * qq * (partV P R t / 1000000000) ∧ 8 * qq * (partV P R t / 1000000000) ≤ fv (radW (partA P R t)) + 7 / 1000000000000000 := by
    have k1 : -(12 / 100000000000000000) ≤ (partV P R t - fv (partA P R t)) / 1000000000 := by clear j1 j2 j3 i1 i2 hpv ea; grind
    have k2 : (partV P R t - fv (partA P R t)) / 1000000000 ≤ 12 / 100000000000000000 := by clear j1 j2 j3 i1 i2 hpv ea; grind
    have k3 := prod_bd (s := qq) (t := (partV P R t - fv (partA P R t)) / 1000000000) (S := 79 / 100) (T := 12 / 100000000000000000) (by grind) qb.2 k1 k2
    have k4 : 8 * qq * (partV P R t / 1000000000) = 8 * qq * (fv (partA P R t) / 1000000000) + 8 * (qq * ((partV P R t - fv (partA P R t)) / 1000000000)) := by grind
    rw [k4]
    generalize qq * ((partV P R t - fv (partA P R t)) / 1000000000) = k5 at *
    generalize 8 * qq * (fv (partA P R t) / 1000000000) = k6 at *
    clear j1 j2 j3 i1 i2 hpv ea k4 k1 k2 c1 c2 c3 n1a n1b n2a n2b
    constructor <;> grind
  obtain ⟨e, g1, g2, g3, g4, g5, g6, g7⟩ := sinB_near jf j0 j7 h1.1 h1.2
  have apA : Ap (floatOfInt .f64 A) (A : Rat) 0 1000000000 := ⟨fA, by rw [vA]; grind, by rw [vA]; grind, by grind, bA1⟩
  obtain ⟨i6, ap⟩ := Ap.mul apA g3 (15 / 1000000) 1330000000 1340000000 (mid_of (by grind) (by grind)) (by grind) (by grind) (by grind)
  refine ⟨e, ?_, ?_, ?_, ?_, ?_, jf, j0, j7, i6, g1, g2, ap, g4, g5, g6, g7⟩
  · rw [← hr]; exact i1
  · rw [← hm, ← hr]; exact i2
  · rw [← ew1]; exact j1
  · rw [← ew1, ← ew2]; exact j2
  · rw [← ew1, ← ew2]; exact j3
end Go.Proofs.YtdifeoahaegjbaaGreatDoor
/- series.Part. -/
namespace Go.Proofs.YtdifeoahaegjbaaGreatDoor
open Go.RowKit
set_option linter.unusedSimpArgs false
set_option linter.unusedVariables false

theorem SinT.drewN {w : World} (h : SinT w) (n : Nat) : SinT (w.drewN n) := ⟨h.s0, h.s1, h.s2, h.s3, h.s4, h.s5, h.c0, h.c1, h.c2, h.c3, h.c4, h.c5⟩
set_option maxRecDepth 100000 in
set_option maxHeartbeats 4000000 in
theorem Part_ok (A P R t : Int) (w : World) (ht : SinT w) (hA : -1000000000 ≤ A ∧ A ≤ 1000000000) (hP : 0 ≤ P ∧ P ≤ 1000000000) (hR : -4000000000000000 ≤ R ∧ R ≤ 4000000000000000) (hT : -350000000000000 ≤ t ∧ t ≤ 350000000000000) :
    Calls Tryz.prog 91 #[.agg #[.int .i64 A, .int .i64 P, .int .i64 R], .int .i64 t] w fun e w' => e = .returned (.float .f64 (partW A P R t)) ∧ Below w.heap.size w w' := by
  obtain ⟨e, hp⟩ := part_ok A P R t hA
  have G := Lib.hid (fun w => grown_ok R t w hR hT)
  have qb : -20000000000000000 ≤ R * t / 86400000000000 ∧ R * t / 86400000000000 ≤ 20000000000000000 := by
    have := mul_bd hR hT
    omega
  have i1 := hp.i1; have i2 := hp.i2; have i3 := hp.i3; have i4 := hp.i4; have i5 := hp.i5; have i6 := hp.i6
  have S := Lib.hid (fun w ht => Sin_ok (radW (partA P R t)) hp.rf hp.r0 hp.r7 w ht)
  have rb : 0 ≤ R * t % 86400000000000 ∧ R * t % 86400000000000 < 86400000000000 := by omega
  generalize partA P R t = pa at *
  generalize R * t / 86400000000000 = q at *
  generalize R * t % 86400000000000 = r at *
  have M := Lib.hid (fun w => mod_all (P + q) 1000000000 w (by omega) (by omega) (by omega) (by omega))
  generalize (P + q) % 1000000000 = m at *
  obtain ⟨P0, P1⟩ := hP
  obtain ⟨q0, q1⟩ := qb
  obtain ⟨fm, hfm⟩ : ∃ y, floatOfInt .f64 m = y := ⟨_, rfl⟩
  obtain ⟨fr, hfr⟩ : ∃ y, floatOfInt .f64 r = y := ⟨_, rfl⟩
  obtain ⟨fA, hfA⟩ : ∃ y, floatOfInt .f64 A = y := ⟨_, rfl⟩
  rw [hfr] at i1 i2
  rw [hfm] at i2
  rw [hfA] at i6
  generalize fdiv fr 4815374002031689728 = x1 at *
  generalize fdiv pa 4741671816366391296 = x2 at *
  generalize fmul x2 4611686018427387904 = x3 at *
  generalize radW pa = x4 at *
  generalize sinB x4 = x5 at *
  generalize partW A P R t = x6 at *
  have j1 := fop i1; have j2 := fop i2; have j3 := fop i3; have j4 := fop i4; have j5 := fop i5; have j6 := fop i6
  have HT := Lib.hid ht
  clear hp i1 i2 i3 i4 i5 i6 hA hR hT ht rb
  go_enter Tryz.func91, Tryz.ntmps91
  go_wp2_with fail
  refine Calls.mono (G.out _) ?_
  rintro e w1 ⟨rfl, hb⟩
  obtain ⟨hb1, hz1, hc1, hf1⟩ := took (w := w) (by repeat' (first | (with_reducible refine below_drewN ?_ _) | go_grown)) (by first | (simp only [World.size_alloc, World.size_setCell, World.size_drew, size_drewN]; done) | (simp only [World.size_alloc, World.size_setCell, World.size_drew, size_drewN]; rfl) | rfl) hb; clear hb
  have z1 : w.heap.size < w1.heap.size := by omega
  go_wp2_with fail
  refine Calls.mono (M.out _) ?_
  rintro e w2 ⟨rfl, hb⟩
  obtain ⟨hb2, hz2, hc2, hf2⟩ := took (w := w) (by repeat' (first | (with_reducible refine below_drewN ?_ _) | go_grown)) (by first | (simp only [World.size_alloc, World.size_setCell, World.size_drew, size_drewN]; done) | (simp only [World.size_alloc, World.size_setCell, World.size_drew, size_drewN]; rfl) | rfl) hb; clear hb
  have z2 : w.heap.size < w2.heap.size := by omega
  have HB2 := Lib.hid hb2
  have T2 := Lib.hid (HT.out.below hb2)
  go_wp2_with fail
  go_quiet ((go_at_call 108; exact Calls.quiet_of_same (S.out _ (T2.out.drewN _))))
  go_wp2_with fail
  go_ret
  exact ⟨rfl, below_drewN HB2.out nq⟩
end Go.Proofs.YtdifeoahaegjbaaGreatDoor
/- series.Check and series.value of any permitted sum. -/
namespace Go.Proofs.YtdifeoahaegjbaaGreatDoor
open Go.RowKit
set_option linter.unusedSimpArgs false
set_option linter.unusedVariables false

theorem flat_below {w w' : World} {sz n cap : Nat} {A : Option Addr} {zs : List Int} (h : FlatSl w (sz + 1) A n cap zs) (hb : Below w.heap.size w w') : FlatSl w' (sz + 1) A n cap zs := by
  refine ⟨h.le, h.most, h.len, fun hn => ?_⟩
  obtain ⟨b, off, hA, hc⟩ := h.at' hn
  exact ⟨b, off, hA, fun j hj => (hb.cell (p := ⟨b, off + j, none⟩) (cell_below (hc j hj))).trans (hc j hj)⟩
def q4 (a b c d : Value) : Nat → Value := fun i => if i = 0 then a else if i = 1 then b else if i = 2 then c else d
/-- Block b holds a sum. -/
def SmBox (w : World) (b : Nat) (x y z u : Value) : Prop := w.rowIs b 74 4 (q4 x y z u)
section
variable {w w' : World} {b : Nat} {x y z u : Value}
theorem SmBox.c0 (h : SmBox w b x y z u) : w.cell? ⟨b, 0, none⟩ = some x := World.rowIs.cell h (i := 0) (by omega)
theorem SmBox.c1 (h : SmBox w b x y z u) : w.cell? ⟨b, 1, none⟩ = some y := World.rowIs.cell h (i := 1) (by omega)
theorem SmBox.c2 (h : SmBox w b x y z u) : w.cell? ⟨b, 2, none⟩ = some z := World.rowIs.cell h (i := 2) (by omega)
theorem SmBox.c3 (h : SmBox w b x y z u) : w.cell? ⟨b, 3, none⟩ = some u := World.rowIs.cell h (i := 3) (by omega)
theorem SmBox.free (h : SmBox w b x y z u) (i : Nat) : w.frozen? ⟨b, i, none⟩ = false := World.rowIs.frozen h i
theorem SmBox.lt (h : SmBox w b x y z u) : b < w.heap.size := World.rowIs.lt h
theorem SmBox.alloc (h : SmBox w b x y z u) (o : Obj) : SmBox (w.alloc o) b x y z u := World.rowIs.alloc h o
theorem SmBox.below (h : SmBox w b x y z u) (hb : Below w.heap.size w w') : SmBox w' b x y z u := World.rowIs.of_block h (hb.block b (World.rowIs.lt h))
theorem SmBox.new (w : World) (x y z u : Value) : SmBox (w.alloc (.cells #[x, y, z, u] 74)) w.heap.size x y z u :=
  World.rowIs_alloc w #[x, y, z, u] 74 (q4 x y z u) (fun i hi => by
    match i, hi with
    | 0, _ => rfl
    | 1, _ => rfl
    | 2, _ => rfl
    | 3, _ => rfl)
end
/-- Permitted terms. -/
structure TmOk (zs : List Int) (i : Nat) : Prop where
  a1 : -1000000000 ≤ ix zs (i * 3)
  a2 : ix zs (i * 3) ≤ 1000000000
  p1 : 0 ≤ ix zs (i * 3 + 1)
  p2 : ix zs (i * 3 + 1) < 1000000000
  r1 : -4000000000000000 ≤ ix zs (i * 3 + 2)
  r2 : ix zs (i * 3 + 2) ≤ 4000000000000000
def tmW (zs : List Int) (t : Int) (i : Nat) : Nat := partW (ix zs (i * 3)) (ix zs (i * 3 + 1)) (ix zs (i * 3 + 2)) t
theorem tm_mod {zs : List Int} {i : Nat} (h : TmOk zs i) (t : Int) : Mod' (tmW zs t i) := by
  obtain ⟨e, hp⟩ := part_ok (ix zs (i * 3)) (ix zs (i * 3 + 1)) (ix zs (i * 3 + 2)) t ⟨h.a1, h.a2⟩
  have a := hp.ap
  have a1 := a.lo; have a2 := a.bl; have a3 := a.hi; have a4 := a.bh; have f := a.fin
  clear a hp
  unfold tmW
  generalize partW (ix zs (i * 3)) (ix zs (i * 3 + 1)) (ix zs (i * 3 + 2)) t = x at *
  generalize ((ix zs (i * 3) : Int) : Rat) * sgnP e (8 * qq * (partV (ix zs (i * 3 + 1)) (ix zs (i * 3 + 2)) t / 1000000000) - (e : Rat) * qq) = y at *
  exact ⟨f, by grind, by grind⟩
/-- The interval of a sum's value. -/
def vLo (mean rest : Int) (zs : List Int) (n : Nat) (t : Int) : Int := (if n = 0 then mean else mean + aLo (fsum (tmW zs t) n)) - rest
def vHi (mean rest : Int) (zs : List Int) (n : Nat) (t : Int) : Int := (if n = 0 then mean else mean + aHi (fsum (tmW zs t) n)) + rest
set_option maxRecDepth 100000 in
set_option maxHeartbeats 8000000 in
theorem value_ok (mean rate rest t : Int) (A : Option Addr) (n cap : Nat) (zs : List Int) (w : World) (ht : SinT w) (hF : FlatSl w 3 A n cap zs) (hn : n ≤ 40) (hz : ∀ i, i < n → TmOk zs i) (h1 : -1000000000 ≤ mean ∧ mean ≤ 1000000000) (h3 : 0 ≤ rest ∧ rest ≤ 100000000) (hT : -350000000000000 ≤ t ∧ t ≤ 350000000000000) :
    Calls Tryz.prog 66 #[.agg #[.int .i64 mean, .int .i64 rate, .slice A n cap, .int .i64 rest], .int .i64 t] w fun e w' => e = .returned (.agg #[.int .i64 (vLo mean rest zs n t), .int .i64 (vHi mean rest zs n t)]) ∧ Below w.heap.size w w' := by
  rcases Nat.eq_zero_or_pos n with rfl | hpos
  · have e1 : vLo mean rest zs 0 t = mean - rest := rfl
    have e2 : vHi mean rest zs 0 t = mean + rest := rfl
    rw [e1, e2]
    obtain ⟨a1, a2⟩ := h1
    obtain ⟨a3, a4⟩ := h3
    clear hF hz hT ht e1 e2
    go_enter Tryz.func66, Tryz.ntmps66
    go_wp2_with fail
    refine bodyPost_ret (v := .agg #[.int .i64 (mean - rest), .int .i64 (mean + rest)]) ?_ rfl ⟨rfl, (by repeat' (first | (with_reducible refine below_drewN ?_ _) | go_grown))⟩
    simp [results, Tryz.results66, go_sem, *]
  · have hmod : ∀ i, i < n → Mod' (tmW zs t i) := fun i hi => tm_mod (hz i hi) t
    have AR := sum_around hn hmod
    have AB := around_bd AR (by grind) (by have := (sum_ok hn hmod n (Nat.le_refl _)).bl; have := nat_le40 hn; grind) (by have := (sum_ok hn hmod n (Nat.le_refl _)).bh; have := nat_le40 hn; grind)
    have HAR := Lib.hid (fun w => Around_ok AR w)
    have HSS := Lib.hid (fun k (hk : k < n) => (sum_step (f := tmW zs t) (k := k) (by omega) (sum_ok hn hmod k (by omega)) (hmod k hk)).1)
    have HP := Lib.hid (fun k (hk : k < n) w (ht : SinT w) => Part_ok (ix zs (k * 3)) (ix zs (k * 3 + 1)) (ix zs (k * 3 + 2)) t w ht ⟨(hz k hk).a1, (hz k hk).a2⟩ ⟨(hz k hk).p1, by have := (hz k hk).p2; omega⟩ ⟨(hz k hk).r1, (hz k hk).r2⟩ hT)
    obtain ⟨fs, hfs⟩ : ∃ fs, fs = fsum (tmW zs t) := ⟨_, rfl⟩
    rw [← hfs] at HAR HSS AB
    have e1 : vLo mean rest zs n t = mean + aLo (fs n) - rest := by unfold vLo; rw [if_neg (by omega), hfs]
    have e2 : vHi mean rest zs n t = mean + aHi (fs n) + rest := by unfold vHi; rw [if_neg (by omega), hfs]
    rw [e1, e2]
    have f0 : fs 0 = 0 := by rw [hfs]; rfl
    have HF0 := Lib.hid f0
    have HFS := Lib.hid hfs
    generalize aLo (fs n) = lo at *
    generalize aHi (fs n) = hi at *
    obtain ⟨b1, b2, b3, b4⟩ := AB
    obtain ⟨a1, a2⟩ := h1
    obtain ⟨a3, a4⟩ := h3
    have HT := Lib.hid ht
    have HF := Lib.hid hF
    have npos : (0 : Int) < (n : Int) := by omega
    have HB0 := Lib.hid (SmBox.new w (.int .i64 mean) (.int .i64 rate) (.slice A n cap) (.int .i64 rest))
    obtain ⟨b, hb⟩ : ∃ b, b = w.heap.size := ⟨_, rfl⟩
    have e5 : (w.alloc (.cells #[.int .i64 mean, .int .i64 rate, .slice A n cap, .int .i64 rest] 74)).heap.size = b + 1 := by simp [hb]
    have B4 := SpBox.new (w.alloc (.cells #[.int .i64 mean, .int .i64 rate, .slice A n cap, .int .i64 rest] 74)) 0 0
    have B5 := SpBox.new ((w.alloc (.cells #[.int .i64 mean, .int .i64 rate, .slice A n cap, .int .i64 rest] 74)).alloc (.cells #[.int .i64 0, .int .i64 0] 43)) mean mean
    have e6 : ((w.alloc (.cells #[.int .i64 mean, .int .i64 rate, .slice A n cap, .int .i64 rest] 74)).alloc (.cells #[.int .i64 0, .int .i64 0] 43)).heap.size = b + 1 + 1 := by simp [hb]
    rw [e5] at B4
    rw [e6] at B5
    have B4' := Lib.hid (B4.alloc (.cells #[.int .i64 mean, .int .i64 mean] 43))
    have B5' := Lib.hid B5
    have B2' := Lib.hid ((HB0.out.alloc (.cells #[.int .i64 0, .int .i64 0] 43)).alloc (.cells #[.int .i64 mean, .int .i64 mean] 43))
    rw [← hb] at B2'
    have BW := Lib.hid (show Below w.heap.size w (((w.alloc (.cells #[.int .i64 mean, .int .i64 rate, .slice A n cap, .int .i64 rest] 74)).alloc (.cells #[.int .i64 0, .int .i64 0] 43)).alloc (.cells #[.int .i64 mean, .int .i64 mean] 43)) from (by repeat' (first | (with_reducible refine below_drewN ?_ _) | go_grown)))
    clear HB0 B4 B5 e5 e6 AR hmod hz hF ht e1 e2 f0 hfs
    go_enter Tryz.func66, Tryz.ntmps66
    go_wp2_with fail
    rw [← hb]
    have HBB := Lib.hid hb
    clear hb
    go_loopw [6, 22] (fun v i wr => ∃ k : Nat, k ≤ n ∧ i = .int .i64 k ∧ v = .float .f64 (fs k) ∧ SmBox wr b (.int .i64 mean) (.int .i64 rate) (.slice A n cap) (.int .i64 rest) ∧ SpBox wr (b + 1) 0 0 ∧ SpBox wr (b + 1 + 1) mean mean ∧ Below w.heap.size w wr) (fun _ i _ => n - (intOf i).toNat)
    case atStart => exact ⟨0, by omega, rfl, by rw [HF0.out], B2'.out, B4'.out, B5'.out, BW.out⟩
    case round =>
      clear B2' B4' B5' BW
      obtain ⟨k, hk, rfl, rfl, hB2, hB4, hB5, hbl⟩ := hrel
      have hsz := hbl.size
      by_cases hlt : k < n
      · have i0 : (0 : Int) ≤ (k : Int) := by omega
        have i1 : (k : Int) < (n : Int) := by omega
        have i2 : (k : Int) < (cap : Int) := by have := HF.out.le; omega
        obtain ⟨q, o, hA, hc⟩ := HF.out.at' hpos
        have x0 := (hbl.cell (p := ⟨q, o + k * 3, none⟩) (cell_below (hc (k * 3) (by omega)))).trans (hc (k * 3) (by omega))
        have x1 := (hbl.cell (p := ⟨q, o + (k * 3 + 1), none⟩) (cell_below (hc (k * 3 + 1) (by omega)))).trans (hc (k * 3 + 1) (by omega))
        have x2 := (hbl.cell (p := ⟨q, o + (k * 3 + 2), none⟩) (cell_below (hc (k * 3 + 2) (by omega)))).trans (hc (k * 3 + 2) (by omega))
        rw [← Nat.add_assoc] at x1 x2
        subst hA
        have P := Lib.hid (fun w ht => HP.out k hlt w ht)
        have hs := HSS.out k hlt
        have hw : tmW zs t k = partW (ix zs (k * 3)) (ix zs (k * 3 + 1)) (ix zs (k * 3 + 2)) t := rfl
        rw [hw] at hs
        generalize partW (ix zs (k * 3)) (ix zs (k * 3 + 1)) (ix zs (k * 3 + 2)) t = pw at *
        generalize ix zs (k * 3) = ta at *
        generalize ix zs (k * 3 + 1) = tp at *
        generalize ix zs (k * 3 + 2) = tr at *
        obtain ⟨v', hv'⟩ : ∃ v', v' = fs (k + 1) := ⟨_, rfl⟩
        rw [← hv'] at hs
        have HV := Lib.hid hv'
        have hop := fop hs
        have bw := hbl.alloc hsz (.cells #[.int .i64 ta, .int .i64 tp, .int .i64 tr] 90)
        have g2 := Lib.hid (hB2.alloc (.cells #[.int .i64 ta, .int .i64 tp, .int .i64 tr] 90))
        have g4 := Lib.hid (hB4.alloc (.cells #[.int .i64 ta, .int .i64 tp, .int .i64 tr] 90))
        have g5 := Lib.hid (hB5.alloc (.cells #[.int .i64 ta, .int .i64 tp, .int .i64 tr] 90))
        have T9 := Lib.hid (HT.out.below bw)
        have gb := Lib.hid bw
        clear hc hw hs hv' bw hB2 hB4 hB5 hbl
        go_wp2_with fail
        refine Calls.mono (P.out _ T9.out) ?_
        rintro e w3 ⟨rfl, hb⟩
        have k2 := Lib.hid (g2.out.below hb); have k4 := Lib.hid (g4.out.below hb); have k5 := Lib.hid (g5.out.below hb); have kb := Lib.hid (gb.out.trans (hb.mono gb.out.size))
        clear hb x0 x1 x2
        go_wp2_with fail
        go_roundw
        case rel => exact ⟨k + 1, by omega, by go_num, by rw [HV.out], k2.out, k4.out, k5.out, kb.out⟩
        case measure => simp [intOf]; omega
      · obtain rfl : k = n := by omega
        have y0 := hB2.c0; have y1 := hB2.c1; have y2 := hB2.c2; have y3 := hB2.c3; have yl := hB2.lt
        have u0 := hB4.c0; have u1 := hB4.c1; have uf0 := hB4.free 0; have uf1 := hB4.free 1; have ul := hB4.lt
        have v0 := hB5.c0; have v1 := hB5.c1; have vf0 := hB5.free 0; have vf1 := hB5.free 1; have vl := hB5.lt
        have kb := Lib.hid hbl
        clear hB2 hB4 hB5 hbl
        go_wp2_with fail
        refine Calls.mono (HAR.out _) ?_
        rintro e w3 ⟨rfl, hb⟩
        obtain ⟨hc3, hf3⟩ := bcell hb
        have hz3 := hb.size
        have hbw3 := kb.out.trans (hb.mono kb.out.size)
        have z1 : b < w3.heap.size := by omega
        have z2 : b + 1 < w3.heap.size := by omega
        have z3 : b + 1 + 1 < w3.heap.size := by omega
        have HBW3 := Lib.hid hbw3
        clear hb hz3 hbw3
        go_wp2_with fail
        refine bodyPost_ret (v := .agg #[.int .i64 (mean + lo - rest), .int .i64 (mean + hi + rest)]) ?_ rfl ⟨rfl, ?_⟩
        · simp [results, Tryz.results66, go_sem, *]
        · have hB := HBB.out
          have := HBW3.out.size
          have hs9 := kb.out.size
          refine Below.alloc (Below.setCell (Below.setCell (Below.setCell (Below.setCell HBW3.out ?_ _) ?_ _) ?_ _) ?_ _) ?_ _
          all_goals (first | (simp only [World.size_setCell]; omega) | (dsimp only; omega))
end Go.Proofs.YtdifeoahaegjbaaGreatDoor
/- series.Check, Value, Bound of permitted sums. -/
namespace Go.Proofs.YtdifeoahaegjbaaGreatDoor
open Go.RowKit
set_option linter.unusedSimpArgs false
set_option linter.unusedVariables false

/-- A permitted sum. -/
structure SumIn (mean rate rest : Int) (n : Nat) (zs : List Int) : Prop where
  m1 : -1000000000 ≤ mean
  m2 : mean ≤ 1000000000
  r1 : -4000000000000000 ≤ rate
  r2 : rate ≤ 4000000000000000
  t1 : 0 ≤ rest
  t2 : rest ≤ 100000000
  n40 : n ≤ 40
  tm : ∀ i, i < n → TmOk zs i
set_option maxRecDepth 100000 in
set_option maxHeartbeats 8000000 in
theorem sCheck_ok (mean rate rest : Int) (A : Option Addr) (n cap : Nat) (zs : List Int) (w : World) (hF : FlatSl w 3 A n cap zs) (hs : SumIn mean rate rest n zs) :
    Calls Tryz.prog 43 #[.agg #[.int .i64 mean, .int .i64 rate, .slice A n cap, .int .i64 rest]] w fun e w' => e = .returned (.int .i64 0) ∧ Below w.heap.size w w' := by
  obtain ⟨m1, m2, r1, r2, t1, t2, n40, htm⟩ := hs
  have c1 := Lib.hid (fun w => inR_true mean 1000000000 w (by omega) (by omega))
  have c2 := Lib.hid (fun w => inR_true rate 4000000000000000 w (by omega) (by omega))
  have d1 : decide (rest < 0) = false := decide_eq_false (by omega)
  have d2 : decide (100000000 < rest) = false := decide_eq_false (by omega)
  have d3 : decide (40 < (n : Int)) = false := decide_eq_false (by omega)
  have d4 : ¬ (40 : Int) < (n : Int) := by omega
  have HF := Lib.hid hF
  have HTM := Lib.hid htm
  have HB := Lib.hid (SmBox.new w (.int .i64 mean) (.int .i64 rate) (.slice A n cap) (.int .i64 rest))
  have HW := Lib.hid (show Below w.heap.size w (w.alloc (.cells #[.int .i64 mean, .int .i64 rate, .slice A n cap, .int .i64 rest] 74)) from (by repeat' (first | (with_reducible refine below_drewN ?_ _) | go_grown)))
  obtain ⟨b, hb⟩ : ∃ b, b = w.heap.size := ⟨_, rfl⟩
  rw [← hb] at HB
  clear m1 m2 r1 r2 t1 t2 hF htm
  go_enter Tryz.func43, Tryz.ntmps43
  go_wp2_with fail
  refine Calls.mono (c1.out _) ?_
  rintro e _ ⟨rfl, rfl⟩
  go_wp2_with fail
  refine Calls.mono (c2.out _) ?_
  rintro e _ ⟨rfl, rfl⟩
  go_wp2_with fail
  rw [← hb]
  have HBB := Lib.hid hb
  clear hb
  (try rw [d3])
  (try rw [d1])
  (try rw [d2])
  clear d1 d2 d3 d4
  go_loopw [32] (fun i wr => ∃ k : Nat, k ≤ n ∧ i = .int .i64 k ∧ Below w.heap.size w wr) (fun i _ => n - (intOf i).toNat)
  case atStart => exact ⟨0, by omega, rfl, HW.out⟩
  case round =>
    obtain ⟨k, hk, rfl, hbl⟩ := hrel
    have hsz := hbl.size
    by_cases hlt : k < n
    · have i0 : (0 : Int) ≤ (k : Int) := by omega
      have i1 : (k : Int) < (n : Int) := by omega
      have i2 : (k : Int) < (cap : Int) := by have := HF.out.le; omega
      obtain ⟨q, o, hA, hc⟩ := HF.out.at' (by omega)
      have x0 := (hbl.cell (p := ⟨q, o + k * 3, none⟩) (cell_below (hc (k * 3) (by omega)))).trans (hc (k * 3) (by omega))
      have x1 := (hbl.cell (p := ⟨q, o + (k * 3 + 1), none⟩) (cell_below (hc (k * 3 + 1) (by omega)))).trans (hc (k * 3 + 1) (by omega))
      have x2 := (hbl.cell (p := ⟨q, o + (k * 3 + 2), none⟩) (cell_below (hc (k * 3 + 2) (by omega)))).trans (hc (k * 3 + 2) (by omega))
      rw [← Nat.add_assoc] at x1 x2
      subst hA
      obtain ⟨a1, a2, p1, p2, q1, q2⟩ := HTM.out k hlt
      generalize ix zs (k * 3) = ta at *
      generalize ix zs (k * 3 + 1) = tp at *
      generalize ix zs (k * 3 + 2) = tr at *
      have e1 := Lib.hid (fun w => inR_true ta 1000000000 w (by omega) (by omega))
      have e2 := Lib.hid (fun w => inR_true tr 4000000000000000 w (by omega) (by omega))
      have g1 : decide (tp < 0) = false := decide_eq_false (by omega)
      have g2 : decide (1000000000 ≤ tp) = false := decide_eq_false (by omega)
      have kb := Lib.hid (hbl.alloc hsz (.cells #[.int .i64 ta, .int .i64 tp, .int .i64 tr] 90))
      clear hc a1 a2 p1 p2 q1 q2 hbl
      go_wp2_with fail
      refine Calls.mono (e1.out _) ?_
      rintro e _ ⟨rfl, rfl⟩
      go_wp2_with fail
      refine Calls.mono (e2.out _) ?_
      rintro e _ ⟨rfl, rfl⟩
      go_wp2_with fail
      go_roundw
      case rel => exact ⟨k + 1, by omega, by go_num, kb.out⟩
      case measure => simp [intOf]; omega
    · obtain rfl : k = n := by omega
      go_wp2_with fail
      go_ret
      exact ⟨rfl, hbl⟩
/-- The greatest width, behind k terms. -/
def bndSr (rest : Int) (zs : List Int) : Nat → Int
  | 0 => 2 * rest
  | k + 1 => bndSr rest zs k + (2 + ((ix zs (k * 3)).natAbs : Int) / 100000000)
theorem bndS_bd {rest : Int} {zs : List Int} {n : Nat} (h0 : 0 ≤ rest ∧ rest ≤ 100000000) (hz : ∀ i, i < n → TmOk zs i) : ∀ k, k ≤ n → 2 * rest + 2 * (k : Int) ≤ bndSr rest zs k ∧ bndSr rest zs k ≤ 200000000 + 12 * (k : Int)
  | 0, _ => by unfold bndSr; omega
  | k + 1, hk => by
    have ih := bndS_bd h0 hz k (by omega)
    have ht := hz k (by omega)
    have h1 := ht.a1; have h2 := ht.a2
    unfold bndSr
    omega
end Go.Proofs.YtdifeoahaegjbaaGreatDoor
/- series.angle, series.Angle of any permitted sum. -/
namespace Go.Proofs.YtdifeoahaegjbaaGreatDoor
open Go.RowKit
set_option linter.unusedSimpArgs false
set_option linter.unusedVariables false

/-- The angle of a sum. -/
def anLo (mean rate rest : Int) (zs : List Int) (n : Nat) (t : Int) : Int := (vLo mean rest zs n t + rate * t / 86400000000000 % 1000000000) % 1000000000
def anHi (mean rate rest : Int) (zs : List Int) (n : Nat) (t : Int) : Int := anLo mean rate rest zs n t + (vHi mean rest zs n t - vLo mean rest zs n t + if 0 < rate * t % 86400000000000 then 1 else 0)
theorem v_bd {mean rest t : Int} {n : Nat} {zs : List Int} (hn : n ≤ 40) (hz : ∀ i, i < n → TmOk zs i) (h1 : -1000000000 ≤ mean ∧ mean ≤ 1000000000) (h3 : 0 ≤ rest ∧ rest ≤ 100000000) :
    -62000000000 ≤ vLo mean rest zs n t ∧ vLo mean rest zs n t ≤ vHi mean rest zs n t ∧ vHi mean rest zs n t ≤ 62000000000 := by
  rcases Nat.eq_zero_or_pos n with rfl | hpos
  · show -62000000000 ≤ mean - rest ∧ mean - rest ≤ mean + rest ∧ mean + rest ≤ 62000000000
    omega
  · have hmod : ∀ i, i < n → Mod' (tmW zs t i) := fun i hi => tm_mod (hz i hi) t
    have AR := sum_around hn hmod
    have O := around_order AR (by grind)
    have AB := around_bd AR (by grind) (by have := (sum_ok hn hmod n (Nat.le_refl _)).bl; have := nat_le40 hn; grind) (by have := (sum_ok hn hmod n (Nat.le_refl _)).bh; have := nat_le40 hn; grind)
    unfold vLo vHi
    rw [if_neg (by omega), if_neg (by omega)]
    omega
set_option maxHeartbeats 4000000 in
theorem angle_ok (mean rate rest t : Int) (A : Option Addr) (n cap : Nat) (zs : List Int) (w : World) (hT : SinT w) (hF : FlatSl w 3 A n cap zs) (hs : SumIn mean rate rest n zs) (ht : -350000000000000 ≤ t ∧ t ≤ 350000000000000) :
    Calls Tryz.prog 45 #[.agg #[.int .i64 mean, .int .i64 rate, .slice A n cap, .int .i64 rest], .int .i64 t] w fun e w' => e = .returned (.agg #[.int .i64 (anLo mean rate rest zs n t), .int .i64 (anHi mean rate rest zs n t)]) ∧ Below w.heap.size w w' := by
  have h1 := And.intro hs.m1 hs.m2
  have h2 := And.intro hs.r1 hs.r2
  have h3 := And.intro hs.t1 hs.t2
  have VB := v_bd (t := t) hs.n40 hs.tm h1 h3
  have V := Lib.hid (fun W (hT : SinT W) (h : FlatSl W 3 A n cap zs) => value_ok mean rate rest t A n cap zs W hT h hs.n40 hs.tm h1 h3 ht)
  have G := Lib.hid (fun w => grown_ok rate t w h2 ht)
  obtain ⟨lo, hlo⟩ : ∃ x, x = anLo mean rate rest zs n t := ⟨_, rfl⟩
  obtain ⟨hi, hhi⟩ : ∃ x, x = anHi mean rate rest zs n t := ⟨_, rfl⟩
  rw [← hlo, ← hhi]
  unfold anHi at hhi
  rw [← hlo] at hhi
  unfold anLo at hlo
  have qb : -20000000000000000 ≤ rate * t / 86400000000000 ∧ rate * t / 86400000000000 ≤ 20000000000000000 := by
    have := mul_bd h2 ht
    omega
  generalize rate * t / 86400000000000 = q at *
  have hr0 : 0 ≤ rate * t % 86400000000000 := by omega
  generalize rate * t % 86400000000000 = r at *
  have M := Lib.hid (fun w => mod_all q 1000000000 w (by omega) (by omega) (by omega) (by omega))
  have qm0 : 0 ≤ q % 1000000000 ∧ q % 1000000000 < 1000000000 := by omega
  generalize q % 1000000000 = qm at *
  obtain ⟨m0, m1⟩ := qm0
  obtain ⟨x, hx⟩ : ∃ x, x = vLo mean rest zs n t := ⟨_, rfl⟩
  obtain ⟨y, hy⟩ : ∃ x, x = vHi mean rest zs n t := ⟨_, rfl⟩
  rw [← hx] at V hlo hhi VB
  rw [← hy] at V hhi VB
  have xb : -62000000000 ≤ x ∧ x ≤ 62000000000 := by omega
  have yb : -62000000000 ≤ y ∧ y ≤ 62000000000 := by omega
  have E1 := show Below w.heap.size w ((w.alloc (.cells #[.int .i64 mean, .int .i64 rate, .slice A n cap, .int .i64 rest] 74)).alloc (.cells #[.int .i64 0, .int .i64 0] 43)) from (by repeat' (first | (with_reducible refine below_drewN ?_ _) | go_grown))
  have T1 := Lib.hid (hT.below E1)
  have F1 := Lib.hid (flat_below hF E1)
  by_cases hr : 0 < r
  · rw [if_pos hr] at hhi
    have N := Lib.hid (fun w => norm_ok (x + qm) (y + 1 + qm) w (by omega) (by omega))
    have ehi : (x + qm) % 1000000000 + (y + 1 + qm) - (x + qm) = hi := by rw [hhi, ← hlo]; omega
    rw [ehi, ← hlo] at N
    have d1 : decide (0 < r) = true := decide_eq_true hr
    obtain ⟨x1, x2⟩ := xb
    obtain ⟨y1, y2⟩ := yb
    clear h1 h2 h3 ht qb hlo hhi hx hy ehi hr hT hF hs VB E1
    go_enter Tryz.func45, Tryz.ntmps45
    go_wp2_with fail
    refine Calls.mono (V.out _ T1.out F1.out) ?_
    rintro e w1 ⟨rfl, hb⟩
    obtain ⟨hb1, hz1, hc1, hf1⟩ := took (w := w) (by repeat' (first | (with_reducible refine below_drewN ?_ _) | go_grown)) (by first | (simp only [World.size_alloc, World.size_setCell, World.size_drew, size_drewN]; done) | (simp only [World.size_alloc, World.size_setCell, World.size_drew, size_drewN]; rfl) | rfl) hb; clear hb
    have z1 : w.heap.size < w1.heap.size := by omega
    have z1b : w.heap.size + 1 < w1.heap.size := by omega
    go_wp2_with fail
    refine Calls.mono (G.out _) ?_
    rintro e w2 ⟨rfl, hb⟩
    obtain ⟨hb2, hz2, hc2, hf2⟩ := took (w := w) (by repeat' (first | (with_reducible refine below_drewN ?_ _) | go_grown)) (by first | (simp only [World.size_alloc, World.size_setCell, World.size_drew, size_drewN]; done) | (simp only [World.size_alloc, World.size_setCell, World.size_drew, size_drewN]; rfl) | rfl) hb; clear hb
    have z2 : w.heap.size < w2.heap.size := by omega
    have z2b : w.heap.size + 1 < w2.heap.size := by omega
    have z2c : w1.heap.size < w2.heap.size := by omega
    go_wp2_with fail
    refine Calls.mono (M.out _) ?_
    rintro e w3 ⟨rfl, hb⟩
    obtain ⟨hb3, hz3, hc3, hf3⟩ := took (w := w) (by repeat' (first | (with_reducible refine below_drewN ?_ _) | go_grown)) (by first | (simp only [World.size_alloc, World.size_setCell, World.size_drew, size_drewN]; done) | (simp only [World.size_alloc, World.size_setCell, World.size_drew, size_drewN]; rfl) | rfl) hb; clear hb
    have z3 : w.heap.size < w3.heap.size := by omega
    have z3b : w.heap.size + 1 < w3.heap.size := by omega
    have z3c : w1.heap.size < w3.heap.size := by omega
    go_wp2_with fail
    refine Calls.mono (N.out _) ?_
    rintro e w4 ⟨rfl, hb⟩
    obtain ⟨hb4, hz4, hc4, hf4⟩ := took (w := w) (by repeat' (first | (with_reducible refine below_drewN ?_ _) | go_grown)) (by first | (simp only [World.size_alloc, World.size_setCell, World.size_drew, size_drewN]; done) | (simp only [World.size_alloc, World.size_setCell, World.size_drew, size_drewN]; rfl) | rfl) hb; clear hb
    have z4 : w.heap.size < w4.heap.size := by omega
    have z4b : w.heap.size + 1 < w4.heap.size := by omega
    have z4c : w1.heap.size < w4.heap.size := by omega
    go_wp2_with fail
    refine bodyPost_ret (v := .agg #[.int .i64 lo, .int .i64 hi]) ?_ rfl ⟨rfl, (by repeat' (first | (with_reducible refine below_drewN ?_ _) | go_grown))⟩
    simp [results, Tryz.results45, go_sem, *]
  · rw [if_neg hr] at hhi
    have N := Lib.hid (fun w => norm_ok (x + qm) (y + qm) w (by omega) (by omega))
    have ehi : (x + qm) % 1000000000 + (y + qm) - (x + qm) = hi := by rw [hhi, ← hlo]; omega
    rw [ehi, ← hlo] at N
    have d1 : decide (0 < r) = false := decide_eq_false hr
    obtain ⟨x1, x2⟩ := xb
    obtain ⟨y1, y2⟩ := yb
    clear h1 h2 h3 ht qb hlo hhi hx hy ehi hr hT hF hs VB E1
    go_enter Tryz.func45, Tryz.ntmps45
    go_wp2_with fail
    refine Calls.mono (V.out _ T1.out F1.out) ?_
    rintro e w1 ⟨rfl, hb⟩
    obtain ⟨hb1, hz1, hc1, hf1⟩ := took (w := w) (by repeat' (first | (with_reducible refine below_drewN ?_ _) | go_grown)) (by first | (simp only [World.size_alloc, World.size_setCell, World.size_drew, size_drewN]; done) | (simp only [World.size_alloc, World.size_setCell, World.size_drew, size_drewN]; rfl) | rfl) hb; clear hb
    have z1 : w.heap.size < w1.heap.size := by omega
    have z1b : w.heap.size + 1 < w1.heap.size := by omega
    go_wp2_with fail
    refine Calls.mono (G.out _) ?_
    rintro e w2 ⟨rfl, hb⟩
    obtain ⟨hb2, hz2, hc2, hf2⟩ := took (w := w) (by repeat' (first | (with_reducible refine below_drewN ?_ _) | go_grown)) (by first | (simp only [World.size_alloc, World.size_setCell, World.size_drew, size_drewN]; done) | (simp only [World.size_alloc, World.size_setCell, World.size_drew, size_drewN]; rfl) | rfl) hb; clear hb
    have z2 : w.heap.size < w2.heap.size := by omega
    have z2b : w.heap.size + 1 < w2.heap.size := by omega
    have z2c : w1.heap.size < w2.heap.size := by omega
    go_wp2_with fail
    refine Calls.mono (M.out _) ?_
    rintro e w3 ⟨rfl, hb⟩
    obtain ⟨hb3, hz3, hc3, hf3⟩ := took (w := w) (by repeat' (first | (with_reducible refine below_drewN ?_ _) | go_grown)) (by first | (simp only [World.size_alloc, World.size_setCell, World.size_drew, size_drewN]; done) | (simp only [World.size_alloc, World.size_setCell, World.size_drew, size_drewN]; rfl) | rfl) hb; clear hb
    have z3 : w.heap.size < w3.heap.size := by omega
    have z3b : w.heap.size + 1 < w3.heap.size := by omega
    have z3c : w1.heap.size < w3.heap.size := by omega
    go_wp2_with fail
    refine Calls.mono (N.out _) ?_
    rintro e w4 ⟨rfl, hb⟩
    obtain ⟨hb4, hz4, hc4, hf4⟩ := took (w := w) (by repeat' (first | (with_reducible refine below_drewN ?_ _) | go_grown)) (by first | (simp only [World.size_alloc, World.size_setCell, World.size_drew, size_drewN]; done) | (simp only [World.size_alloc, World.size_setCell, World.size_drew, size_drewN]; rfl) | rfl) hb; clear hb
    have z4 : w.heap.size < w4.heap.size := by omega
    have z4b : w.heap.size + 1 < w4.heap.size := by omega
    have z4c : w1.heap.size < w4.heap.size := by omega
    go_wp2_with fail
    refine bodyPost_ret (v := .agg #[.int .i64 lo, .int .i64 hi]) ?_ rfl ⟨rfl, (by repeat' (first | (with_reducible refine below_drewN ?_ _) | go_grown))⟩
    simp [results, Tryz.results45, go_sem, *]
set_option maxHeartbeats 4000000 in
/-- series.Angle of a permitted sum. -/
theorem Angle_ok (mean rate rest t : Int) (A : Option Addr) (n cap : Nat) (zs : List Int) (w : World) (hT : SinT w) (hF : FlatSl w 3 A n cap zs) (hs : SumIn mean rate rest n zs) (ht : instOk t = true) :
    Calls Tryz.prog 26 #[.agg #[.int .i64 mean, .int .i64 rate, .slice A n cap, .int .i64 rest], .int .i64 t] w fun e w' => e = .returned (.tuple #[.agg #[.int .i64 (anLo mean rate rest zs n t), .int .i64 (anHi mean rate rest zs n t)], .int .i64 0]) ∧ Below w.heap.size w w' := by
  have htb : -345600000000000 ≤ t ∧ t ≤ 345686400000000 := by
    have h : dayOk (t / 86400000) = true := ht
    unfold dayOk at h
    have := of_decide_eq_true h
    omega
  have C := Lib.hid (fun W (h : FlatSl W 3 A n cap zs) => sCheck_ok mean rate rest A n cap zs W h hs)
  have I := Lib.hid (fun w => ht ▸ isInst_ok t w (by omega) (by omega))
  have G := Lib.hid (fun W (hT : SinT W) (h : FlatSl W 3 A n cap zs) => angle_ok mean rate rest t A n cap zs W hT h hs (by omega))
  have HF := Lib.hid hF
  have HT := Lib.hid hT
  have f1 := Lib.hid (flat_below hF (show Below w.heap.size w ((w.alloc (.cells #[.int .i64 mean, .int .i64 rate, .slice A n cap, .int .i64 rest] 74)).alloc (.cells #[.int .i64 0, .int .i64 0] 43)) from (by repeat' (first | (with_reducible refine below_drewN ?_ _) | go_grown))))
  generalize anLo mean rate rest zs n t = lo at *
  generalize anHi mean rate rest zs n t = hi at *
  clear hF hs hT ht htb
  go_enter Tryz.func26, Tryz.ntmps26
  go_wp2_with fail
  refine Calls.mono (C.out _ f1.out) ?_
  rintro e w1 ⟨rfl, hb⟩
  obtain ⟨hb1, hz1, hc1, hf1⟩ := took (w := w) (by repeat' (first | (with_reducible refine below_drewN ?_ _) | go_grown)) (by first | (simp only [World.size_alloc, World.size_setCell, World.size_drew, size_drewN]; done) | (simp only [World.size_alloc, World.size_setCell, World.size_drew, size_drewN]; rfl) | rfl) hb; clear hb
  have z1 : w.heap.size < w1.heap.size := by omega
  have z1b : w.heap.size + 1 < w1.heap.size := by omega
  go_wp2_with fail
  refine Calls.mono (I.out _) ?_
  rintro e w2 ⟨rfl, hb⟩
  obtain ⟨hb2, hz2, hc2, hf2⟩ := took (w := w) (by repeat' (first | (with_reducible refine below_drewN ?_ _) | go_grown)) (by first | (simp only [World.size_alloc, World.size_setCell, World.size_drew, size_drewN]; done) | (simp only [World.size_alloc, World.size_setCell, World.size_drew, size_drewN]; rfl) | rfl) hb; clear hb
  have z2 : w.heap.size < w2.heap.size := by omega
  have z2b : w.heap.size + 1 < w2.heap.size := by omega
  have f2 := Lib.hid (flat_below HF.out hb2)
  have T2 := Lib.hid (HT.out.below hb2)
  go_wp2_with fail
  refine Calls.mono (G.out _ T2.out f2.out) ?_
  rintro e w3 ⟨rfl, hb⟩
  obtain ⟨hb3, hz3, hc3, hf3⟩ := took (w := w) (by repeat' (first | (with_reducible refine below_drewN ?_ _) | go_grown)) (by first | (simp only [World.size_alloc, World.size_setCell, World.size_drew, size_drewN]; done) | (simp only [World.size_alloc, World.size_setCell, World.size_drew, size_drewN]; rfl) | rfl) hb; clear hb
  have z3 : w.heap.size < w3.heap.size := by omega
  have z3b : w.heap.size + 1 < w3.heap.size := by omega
  go_wp2_with fail
  refine bodyPost_ret (v := .tuple #[.agg #[.int .i64 lo, .int .i64 hi], .int .i64 0]) ?_ rfl ⟨rfl, (by repeat' (first | (with_reducible refine below_drewN ?_ _) | go_grown))⟩
  simp [results, Tryz.results26, go_sem, *]
end Go.Proofs.YtdifeoahaegjbaaGreatDoor
/- What a sum of periodic terms truly is; how its intervals lie around it; how far it moves. Plain. -/
namespace Go.Proofs.YtdifeoahaegjbaaGreatDoor
set_option linter.unusedSimpArgs false
set_option linter.unusedVariables false
/-- The place of a term in its period. -/
def phT (P R : Int) (t : Rat) : Rat := (P : Rat) + (R : Rat) * t / 86400000000000
theorem partV_redu (P R t : Int) : redu (phT P R (t : Rat)) = partV P R t := by
  have hm : 0 ≤ (P + R * t / 86400000000000) % 1000000000 := by omega
  have hm2 : (P + R * t / 86400000000000) % 1000000000 ≤ 999999999 := by omega
  have hr : 0 ≤ R * t % 86400000000000 := by omega
  have hr2 : R * t % 86400000000000 ≤ 86399999999999 := by omega
  have e1 : P + R * t / 86400000000000 = (P + R * t / 86400000000000) % 1000000000 + 1000000000 * ((P + R * t / 86400000000000) / 1000000000) := by omega
  have e2 : R * t = R * t % 86400000000000 + 86400000000000 * (R * t / 86400000000000) := by omega
  obtain ⟨q, hq⟩ : ∃ q, q = R * t / 86400000000000 := ⟨_, rfl⟩
  obtain ⟨r, hr'⟩ : ∃ r, r = R * t % 86400000000000 := ⟨_, rfl⟩
  rw [← hq] at e1 e2 hm hm2
  rw [← hr'] at e2 hr hr2
  obtain ⟨m, hm'⟩ : ∃ m, m = (P + q) % 1000000000 := ⟨_, rfl⟩
  obtain ⟨k, hk⟩ : ∃ k, k = (P + q) / 1000000000 := ⟨_, rfl⟩
  rw [← hm', ← hk] at e1
  rw [← hm'] at hm hm2
  have f1 := congrArg (fun n : Int => (n : Rat)) e1
  have f2 := congrArg (fun n : Int => (n : Rat)) e2
  (try dsimp only at f1 f2)
  rw [Rat.intCast_add, Rat.intCast_add, Rat.intCast_mul] at f1
  rw [Rat.intCast_mul, Rat.intCast_add, Rat.intCast_mul] at f2
  rw [show ((1000000000 : Int) : Rat) = 1000000000 from rfl] at f1
  rw [show ((86400000000000 : Int) : Rat) = 86400000000000 from rfl] at f2
  obtain ⟨b1, b2⟩ := int_bd hm hm2
  obtain ⟨b3, b4⟩ := int_bd hr hr2
  rw [show ((0 : Int) : Rat) = 0 from rfl] at b1 b3
  rw [show ((999999999 : Int) : Rat) = 999999999 from rfl] at b2
  rw [show ((86399999999999 : Int) : Rat) = 86399999999999 from rfl] at b4
  have ep : partV P R t = (m : Rat) + (r : Rat) / 86400000000000 := by unfold partV; rw [← hq, ← hr', ← hm']
  rw [ep]
  unfold phT
  refine redu_of (k := k) ?_ ?_ ?_
  · rw [f2]
    generalize (m : Rat) = mm at *
    generalize (r : Rat) = rr at *
    generalize (q : Rat) = q' at *
    generalize (k : Rat) = kk at *
    clear ep e1 e2 f2
    grind
  · grind
  · grind
theorem part_near (A P R t : Int) (hA : -1000000000 ≤ A ∧ A ≤ 1000000000) : Near (fv (partW A P R t)) ((A : Rat) * SA (phT P R (t : Rat))) (17 / 1000000) := by
  obtain ⟨e, h⟩ := part_ok A P R t hA
  have n := sgnP_near ⟨h.z1, h.z2⟩ h.even h.le
  have a1 := h.ap.lo; have a2 := h.ap.hi
  obtain ⟨b1, b2⟩ := int_bd hA.1 hA.2
  rw [show ((-1000000000 : Int) : Rat) = -1000000000 from rfl] at b1
  rw [show ((1000000000 : Int) : Rat) = 1000000000 from rfl] at b2
  clear h
  have e3 : SA (phT P R (t : Rat)) = sn (8 * qq * (partV P R t / 1000000000)) := by unfold SA ra; rw [partV_redu]
  rw [e3]
  rw [show 8 * qq * (partV P R t / 1000000000) - (e : Rat) * qq + (e : Rat) * qq = 8 * qq * (partV P R t / 1000000000) by grind] at n
  generalize 8 * qq * (partV P R t / 1000000000) = x at *
  have m := rmul_bd (a := (A : Rat)) (b := sgnP e (x - (e : Rat) * qq) - sn x) (A := 1000000000) (B := 13 / 10000000000000000) ⟨b1, b2⟩ (by unfold Near at n; grind)
  unfold Near
  generalize sgnP e (x - (e : Rat) * qq) = s at *
  generalize sn x = s2 at *
  generalize fv (partW A P R t) = v at *
  clear n e3 b1 b2
  constructor <;> grind
/-- The true terms of a sum, and their sum. -/
def tmV (zs : List Int) (t : Rat) (i : Nat) : Rat := (ix zs (i * 3) : Rat) * SA (phT (ix zs (i * 3 + 1)) (ix zs (i * 3 + 2)) t)
def svT (zs : List Int) (n : Nat) (t : Rat) : Rat := ss (tmV zs t) n
theorem rsum_near {zs : List Int} {n : Nat} (t : Int) (hz : ∀ i, i < n → TmOk zs i) : ∀ k, k ≤ n → Near (rsum (tmW zs t) k) (svT zs k (t : Rat)) ((k : Rat) * (17 / 1000000))
  | 0, _ => by
    show Near (0 : Rat) (0 : Rat) _
    unfold Near
    rw [show ((0 : Nat) : Rat) = 0 from rfl]; grind
  | k + 1, hk => by
    have ih := rsum_near t hz k (by omega)
    have h := part_near (ix zs (k * 3)) (ix zs (k * 3 + 1)) (ix zs (k * 3 + 2)) t ⟨(hz k (by omega)).a1, (hz k (by omega)).a2⟩
    have h2 : Near (fv (tmW zs t k)) (tmV zs (t : Rat) k) (17 / 1000000) := h
    show Near (rsum (tmW zs t) k + fv (tmW zs t k)) (svT zs k (t : Rat) + tmV zs (t : Rat) k) _
    have e : (((k + 1 : Nat)) : Rat) = (k : Rat) + 1 := by rw [Rat.natCast_add]; rfl
    rw [e]
    clear h
    generalize fv (tmW zs t k) = x1 at *
    generalize tmV zs (t : Rat) k = x2 at *
    generalize rsum (tmW zs t) k = x3 at *
    generalize svT zs k (t : Rat) = x4 at *
    unfold Near at *
    constructor <;> grind
theorem nat_le12 {k : Nat} (h : k ≤ 12) : (k : Rat) ≤ 12 := by
  have : (k : Rat) ≤ ((12 : Nat) : Rat) := Rat.natCast_le_natCast.2 h
  rw [show ((12 : Nat) : Rat) = 12 from rfl] at this; exact this
/-- The interval of a sum's value around the true one. -/
structure SumAt (lo hi : Int) (V : Rat) (rest : Int) : Prop where
  l1 : (lo : Rat) ≤ V - (rest : Rat)
  l2 : V - (rest : Rat) - 1002 / 1000 ≤ (lo : Rat)
  h1 : V + (rest : Rat) ≤ (hi : Rat)
  h2 : (hi : Rat) ≤ V + (rest : Rat) + 1002 / 1000
theorem sum_at {mean rest t : Int} {n : Nat} {zs : List Int} (hn : n ≤ 12) (hz : ∀ i, i < n → TmOk zs i) : SumAt (vLo mean rest zs n t) (vHi mean rest zs n t) ((mean : Rat) + svT zs n (t : Rat)) rest := by
  rcases Nat.eq_zero_or_pos n with rfl | hpos
  · have e1 : vLo mean rest zs 0 t = mean - rest := rfl
    have e2 : vHi mean rest zs 0 t = mean + rest := rfl
    have e3 : svT zs 0 (t : Rat) = 0 := rfl
    rw [e1, e2, e3]
    refine ⟨?_, ?_, ?_, ?_⟩
    all_goals (first | rw [Rat.intCast_sub] | rw [Rat.intCast_add])
    all_goals grind
  · have hmod : ∀ i, i < n → Mod' (tmW zs t i) := fun i hi => tm_mod (hz i hi) t
    have AR := sum_around (by omega) hmod
    have R := rsum_near t hz n (Nat.le_refl _)
    have c := nat_le12 hn
    have c0 := nat_nonneg n
    have k := ksl_bd
    have a1 := AR.lo1; have a2 := AR.lo2; have a3 := AR.hi1; have a4 := AR.hi2
    clear AR
    unfold Near at R
    unfold vLo vHi
    rw [if_neg (by omega), if_neg (by omega)]
    generalize rsum (tmW zs t) n = v at *
    generalize svT zs n (t : Rat) = V at *
    refine ⟨?_, ?_, ?_, ?_⟩
    all_goals (first | rw [Rat.intCast_sub, Rat.intCast_add] | rw [Rat.intCast_add, Rat.intCast_add])
    all_goals grind
/-- The true angle of a sum, with all its turns. -/
def anT (mean rate : Int) (zs : List Int) (n : Nat) (t : Rat) : Rat := phT mean rate t + svT zs n t
/-- An interval of angles around a true one. -/
def AngAt (lo hi : Int) (X r : Rat) : Prop := ∃ k : Int, (lo : Rat) + 1000000000 * (k : Rat) ≤ X - r ∧ X - r - 2003 / 1000 ≤ (lo : Rat) + 1000000000 * (k : Rat) ∧ X + r ≤ (hi : Rat) + 1000000000 * (k : Rat) ∧ (hi : Rat) + 1000000000 * (k : Rat) ≤ X + r + 2003 / 1000
theorem ang_at {mean rate rest t : Int} {n : Nat} {zs : List Int} (hn : n ≤ 12) (hz : ∀ i, i < n → TmOk zs i) : AngAt (anLo mean rate rest zs n t) (anHi mean rate rest zs n t) (anT mean rate zs n (t : Rat)) (rest : Rat) := by
  have S := sum_at (mean := mean) (rest := rest) (t := t) hn hz
  obtain ⟨s1, s2, s3, s4⟩ := S
  have hr : 0 ≤ rate * t % 86400000000000 := by omega
  have hr2 : rate * t % 86400000000000 ≤ 86399999999999 := by omega
  have e2 : rate * t = rate * t % 86400000000000 + 86400000000000 * (rate * t / 86400000000000) := by omega
  unfold anT phT anHi anLo
  generalize vLo mean rest zs n t = lo at *
  generalize vHi mean rest zs n t = hi at *
  generalize svT zs n (t : Rat) = V at *
  obtain ⟨q, hq⟩ : ∃ q, q = rate * t / 86400000000000 := ⟨_, rfl⟩
  obtain ⟨r, hr'⟩ : ∃ r, r = rate * t % 86400000000000 := ⟨_, rfl⟩
  rw [← hq, ← hr'] at e2
  rw [← hr'] at hr hr2
  rw [← hq, ← hr']
  have f2 := congrArg (fun n : Int => (n : Rat)) e2
  (try dsimp only at f2)
  rw [Rat.intCast_mul, Rat.intCast_add, Rat.intCast_mul, show ((86400000000000 : Int) : Rat) = 86400000000000 from rfl] at f2
  obtain ⟨b3, b4⟩ := int_bd hr hr2
  rw [show ((0 : Int) : Rat) = 0 from rfl] at b3
  rw [show ((86399999999999 : Int) : Rat) = 86399999999999 from rfl] at b4
  have ex : (rate : Rat) * (t : Rat) / 86400000000000 = (q : Rat) + (r : Rat) / 86400000000000 := by rw [f2]; grind
  rw [ex]
  have u1 : 0 ≤ (r : Rat) / 86400000000000 := by grind
  have u2 : (r : Rat) / 86400000000000 ≤ 1 := by grind
  obtain ⟨k, hk⟩ : ∃ k : Int, (lo + q % 1000000000) % 1000000000 + 1000000000 * k = lo + q := ⟨(lo + q % 1000000000) / 1000000000 + q / 1000000000, by omega⟩
  refine ⟨k, ?_⟩
  have g1 := congrArg (fun n : Int => (n : Rat)) hk
  (try dsimp only at g1)
  rw [Rat.intCast_add, Rat.intCast_mul, Rat.intCast_add, show ((1000000000 : Int) : Rat) = 1000000000 from rfl] at g1
  generalize (lo + q % 1000000000) % 1000000000 = y at *
  by_cases h0 : 0 < r
  · rw [if_pos h0]
    rw [Rat.intCast_add, Rat.intCast_add, Rat.intCast_sub, show ((1 : Int) : Rat) = 1 from rfl]
    generalize (r : Rat) / 86400000000000 = u at *
    clear f2 ex e2 hk hq hr'
    refine ⟨?_, ?_, ?_, ?_⟩ <;> grind
  · rw [if_neg h0]
    have r0 : r = 0 := by omega
    have z : (r : Rat) / 86400000000000 = 0 := by rw [r0, show ((0 : Int) : Rat) = 0 from rfl]; grind
    rw [z]
    rw [Rat.intCast_add, Rat.intCast_add, Rat.intCast_sub, show ((0 : Int) : Rat) = 0 from rfl]
    clear f2 ex e2 hk hq hr' z u1 u2
    refine ⟨?_, ?_, ?_, ?_⟩ <;> grind
theorem an_range (mean rate rest : Int) (zs : List Int) (n : Nat) (t : Int) : 0 ≤ anLo mean rate rest zs n t ∧ anLo mean rate rest zs n t < 1000000000 := by unfold anLo; omega
/-- The greatest speed of a term, in parts of a day's millionth. -/
def spd (zs : List Int) (i : Nat) : Rat := ((ix zs (i * 3)).natAbs : Rat) * ((ix zs (i * 3 + 2)).natAbs : Rat)
theorem nab_bd (n : Int) : -(n.natAbs : Rat) ≤ (n : Rat) ∧ (n : Rat) ≤ (n.natAbs : Rat) := by
  have h1 : -(n.natAbs : Int) ≤ n := by omega
  have h2 : n ≤ (n.natAbs : Int) := by omega
  replace h1 := Rat.intCast_le_intCast.2 h1
  replace h2 := Rat.intCast_le_intCast.2 h2
  rw [Rat.intCast_neg, Rat.intCast_natCast] at h1
  rw [Rat.intCast_natCast] at h2
  exact ⟨h1, h2⟩
theorem tm_move {zs : List Int} {i : Nat} (hz : TmOk zs i) (t : Rat) {d : Rat} (hd : 0 ≤ d) : Near (tmV zs (t + d) i) (tmV zs t i) (ra (spd zs i * (d / 86400000000000)) + 1 / 10000000000) := by
  have hA : ((ix zs (i * 3)).natAbs : Int) ≤ 1000000000 := by have := hz.a1; have := hz.a2; omega
  have hA2 := Rat.intCast_le_intCast.2 hA
  rw [Rat.intCast_natCast, show ((1000000000 : Int) : Rat) = 1000000000 from rfl] at hA2
  have bA := nab_bd (ix zs (i * 3))
  have bR := nab_bd (ix zs (i * 3 + 2))
  have nA := nat_nonneg (ix zs (i * 3)).natAbs
  have nR := nat_nonneg (ix zs (i * 3 + 2)).natAbs
  unfold tmV spd
  generalize (ix zs (i * 3) : Rat) = A at *
  generalize ((ix zs (i * 3)).natAbs : Rat) = a at *
  generalize ix zs (i * 3 + 1) = P at *
  have ep : phT P (ix zs (i * 3 + 2)) (t + d) = phT P (ix zs (i * 3 + 2)) t + (ix zs (i * 3 + 2) : Rat) * (d / 86400000000000) := by unfold phT; grind
  rw [ep]
  generalize phT P (ix zs (i * 3 + 2)) t = y at *
  generalize (ix zs (i * 3 + 2) : Rat) = R at *
  generalize ((ix zs (i * 3 + 2)).natAbs : Rat) = r at *
  have d0 : 0 ≤ d / 86400000000000 := by grind
  generalize d / 86400000000000 = u at *
  have p1 := Rat.mul_le_mul_of_nonneg_right bR.1 d0
  have p2 := Rat.mul_le_mul_of_nonneg_right bR.2 d0
  have l := (SA_lipD (y := y) (d := R * u) (D := r * u) (by grind)).1
  have e : ra (a * r * u) = a * ra (r * u) := by unfold ra; grind
  rw [e]
  have rn : 0 ≤ ra (r * u) := by
    have q := qq_b9
    have := Rat.mul_nonneg nR d0
    unfold ra
    exact Rat.mul_nonneg (by grind) (by grind)
  have m := rmul_bd (a := A) (b := SA (y + R * u) - SA y) (A := a) (B := ra (r * u) + 1 / 100000000000000000000) (by grind) (by unfold Near at l; grind)
  unfold Near
  generalize ra (r * u) = g at *
  generalize SA (y + R * u) = s1 at *
  generalize SA y = s2 at *
  clear l e p1 p2 ep
  have ez : a * (1 / 100000000000000000000) ≤ 1 / 10000000000 := by grind
  constructor <;> grind
/-- A bound of how far a sum moves. -/
def slS (zs : List Int) (n : Nat) : Rat := ss (spd zs) n
theorem sv_move {zs : List Int} {n : Nat} (hz : ∀ i, i < n → TmOk zs i) (t : Rat) {d : Rat} (hd : 0 ≤ d) : ∀ k, k ≤ n → Near (svT zs k (t + d)) (svT zs k t) (ra (slS zs k * (d / 86400000000000)) + (k : Rat) * (1 / 10000000000))
  | 0, _ => by
    show Near (0 : Rat) (0 : Rat) (ra ((0 : Rat) * _) + _)
    unfold Near ra
    rw [show ((0 : Nat) : Rat) = 0 from rfl]; grind
  | k + 1, hk => by
    have ih := sv_move hz t hd k (by omega)
    have h := tm_move (hz k (by omega)) t hd
    show Near (svT zs k (t + d) + tmV zs (t + d) k) (svT zs k t + tmV zs t k) (ra ((slS zs k + spd zs k) * (d / 86400000000000)) + _)
    have e : (((k + 1 : Nat)) : Rat) = (k : Rat) + 1 := by rw [Rat.natCast_add]; rfl
    have e2 : ra ((slS zs k + spd zs k) * (d / 86400000000000)) = ra (slS zs k * (d / 86400000000000)) + ra (spd zs k * (d / 86400000000000)) := by rw [← ra_add]; congr 1; grind
    rw [e, e2]
    unfold Near at *
    grind
end Go.Proofs.YtdifeoahaegjbaaGreatDoor
/- Merged by wip/tools/pack.py out of XSunW, XMoonW, XMoonB, XElong, XElT. -/
/- sun.Sum, sun.Longitude. -/
namespace Go.Proofs.YtdifeoahaegjbaaGreatDoor
open Go.RowKit
set_option linter.unusedSimpArgs false
set_option linter.unusedVariables false
def SumPost (mean rate rest : Int) (n : Nat) (zs : List Int) (w : World) (e : Ending) (w' : World) : Prop := ∃ A cap, e = .returned (.agg #[.int .i64 mean, .int .i64 rate, .slice A n cap, .int .i64 rest]) ∧ FlatSl w' 3 A n cap zs ∧ Below w.heap.size w w'
/-- The terms of ephemeris/sun.Sum. -/
def sunZ : List Int := [5318339, 84888545, 2737778555556, 55536, 169777090, 5475557111112]
theorem sun_in : SumIn 775342092 2737909333333 2000 2 sunZ := by
  refine ⟨by omega, by omega, by omega, by omega, by omega, by omega, by omega, fun i hi => ?_⟩
  rcases (by omega : i = 0 ∨ i = 1) with rfl | rfl <;> exact ⟨by decide, by decide, by decide, by decide, by decide, by decide⟩
set_option maxRecDepth 100000 in
set_option maxHeartbeats 4000000 in
theorem sunSum_ok (w : World) : Calls Tryz.prog 27 #[] w (SumPost 775342092 2737909333333 2000 2 sunZ w) := by
  go_enter Tryz.func27, Tryz.ntmps27
  go_wp2_with fail
  refine bodyPost_ret (v := .agg #[.int .i64 775342092, .int .i64 2737909333333, .slice (some ⟨w.heap.size + 1, 0, none⟩) 2 2, .int .i64 2000]) ?_ rfl ⟨some ⟨w.heap.size + 1, 0, none⟩, 2, rfl, ?_, (by repeat' (first | (with_reducible refine below_drewN ?_ _) | go_grown))⟩
  · simp [results, Tryz.results27, go_sem]
  · refine ⟨by omega, by unfold maxLen; omega, rfl, fun _ => ⟨w.heap.size + 1, 0, rfl, fun j hj => ?_⟩⟩
    rcases (by omega : j = 0 ∨ j = 1 ∨ j = 2 ∨ j = 3 ∨ j = 4 ∨ j = 5) with rfl | rfl | rfl | rfl | rfl | rfl <;> (simp [go_sem]; rfl)
/-- The sun's longitude. -/
def slLo (t : Int) : Int := anLo 775342092 2737909333333 2000 sunZ 2 t
def slHi (t : Int) : Int := anHi 775342092 2737909333333 2000 sunZ 2 t
set_option maxRecDepth 100000 in
set_option maxHeartbeats 4000000 in
theorem sunLong_ok (t : Int) (w : World) (hT : SinT w) (ht : instOk t = true) : Calls Tryz.prog 10 #[.int .i64 t] w fun e w' => e = .returned (.tuple #[.agg #[.int .i64 (slLo t), .int .i64 (slHi t)], .int .i64 0]) ∧ Below w.heap.size w w' := by
  have S := Lib.hid (fun w => sunSum_ok w)
  have G := Lib.hid (fun A cap W (hT : SinT W) (h : FlatSl W 3 A 2 cap sunZ) => Angle_ok 775342092 2737909333333 2000 t A 2 cap sunZ W hT h sun_in ht)
  have HT := Lib.hid hT
  unfold slLo slHi
  generalize anLo 775342092 2737909333333 2000 sunZ 2 t = lo at *
  generalize anHi 775342092 2737909333333 2000 sunZ 2 t = hi at *
  clear hT ht
  go_enter Tryz.func10, Tryz.ntmps10
  go_wp2_with fail
  refine Calls.mono (S.out _) ?_
  rintro e w1 ⟨A, cap, rfl, hF, hb⟩
  obtain ⟨hb1, hz1, hc1, hf1⟩ := took (w := w) (by repeat' (first | (with_reducible refine below_drewN ?_ _) | go_grown)) (by first | (simp only [World.size_alloc, World.size_setCell, World.size_drew, size_drewN]; done) | (simp only [World.size_alloc, World.size_setCell, World.size_drew, size_drewN]; rfl) | rfl) hb; clear hb
  have z1 : w.heap.size < w1.heap.size := by omega
  have HT1 := Lib.hid (HT.out.below hb1)
  go_wp2_with fail
  refine Calls.mono (G.out _ _ _ HT1.out hF) ?_
  rintro e w2 ⟨rfl, hb⟩
  obtain ⟨hb2, hz2, hc2, hf2⟩ := took (w := w) (by repeat' (first | (with_reducible refine below_drewN ?_ _) | go_grown)) (by first | (simp only [World.size_alloc, World.size_setCell, World.size_drew, size_drewN]; done) | (simp only [World.size_alloc, World.size_setCell, World.size_drew, size_drewN]; rfl) | rfl) hb; clear hb
  have z2 : w.heap.size < w2.heap.size := by omega
  go_wp2_with fail
  refine bodyPost_ret (v := .tuple #[.agg #[.int .i64 lo, .int .i64 hi], .int .i64 0]) ?_ rfl ⟨rfl, (by repeat' (first | (with_reducible refine below_drewN ?_ _) | go_grown))⟩
  simp [results, Tryz.results10, go_sem, *]
end Go.Proofs.YtdifeoahaegjbaaGreatDoor
/- moon.longitude, moon.Longitude. -/
namespace Go.Proofs.YtdifeoahaegjbaaGreatDoor
open Go.RowKit
set_option linter.unusedSimpArgs false
set_option linter.unusedVariables false
/-- The terms of ephemeris/moon.longitude. -/
def moonLZ : List Int := [17468817, 99384016, 36291647083333, 3538964, 134030564, 31434736861111, 1828650, 233414580, 67726383944444, 593383, 198768032, 72583294166666, -514211, 84888545, 2737778555556, -317589, 297001062, 73496390222222]
theorem moonL_in : SumIn 392048814 36601101305556 20000 6 moonLZ := by
  refine ⟨by omega, by omega, by omega, by omega, by omega, by omega, by omega, fun i hi => ?_⟩
  rcases (by omega : i = 0 ∨ i = 1 ∨ i = 2 ∨ i = 3 ∨ i = 4 ∨ i = 5) with rfl | rfl | rfl | rfl | rfl | rfl <;> exact ⟨by decide, by decide, by decide, by decide, by decide, by decide⟩
set_option maxRecDepth 100000 in
set_option maxHeartbeats 4000000 in
theorem moonLon_ok (w : World) : Calls Tryz.prog 28 #[] w (SumPost 392048814 36601101305556 20000 6 moonLZ w) := by
  go_enter Tryz.func28, Tryz.ntmps28
  go_wp2_with fail
  refine bodyPost_ret (v := .agg #[.int .i64 392048814, .int .i64 36601101305556, .slice (some ⟨w.heap.size + 1, 0, none⟩) 6 6, .int .i64 20000]) ?_ rfl ⟨some ⟨w.heap.size + 1, 0, none⟩, 6, rfl, ?_, (by repeat' (first | (with_reducible refine below_drewN ?_ _) | go_grown))⟩
  · simp [results, Tryz.results28, go_sem]
  · refine ⟨by omega, by unfold maxLen; omega, rfl, fun _ => ⟨w.heap.size + 1, 0, rfl, fun j hj => ?_⟩⟩
    rcases (by omega : j = 0 ∨ j = 1 ∨ j = 2 ∨ j = 3 ∨ j = 4 ∨ j = 5 ∨ j = 6 ∨ j = 7 ∨ j = 8 ∨ j = 9 ∨ j = 10 ∨ j = 11 ∨ j = 12 ∨ j = 13 ∨ j = 14 ∨ j = 15 ∨ j = 16 ∨ j = 17) with rfl | rfl | rfl | rfl | rfl | rfl | rfl | rfl | rfl | rfl | rfl | rfl | rfl | rfl | rfl | rfl | rfl | rfl <;> (simp [go_sem]; rfl)
/-- The longitude of the moon. -/
def mlLo (t : Int) : Int := anLo 392048814 36601101305556 20000 moonLZ 6 t
def mlHi (t : Int) : Int := anHi 392048814 36601101305556 20000 moonLZ 6 t
set_option maxRecDepth 100000 in
set_option maxHeartbeats 4000000 in
theorem moonLong_ok (t : Int) (w : World) (hT : SinT w) (ht : instOk t = true) : Calls Tryz.prog 11 #[.int .i64 t] w fun e w' => e = .returned (.tuple #[.agg #[.int .i64 (mlLo t), .int .i64 (mlHi t)], .int .i64 0]) ∧ Below w.heap.size w w' := by
  have S := Lib.hid (fun w => moonLon_ok w)
  have G := Lib.hid (fun A cap W (hT : SinT W) (h : FlatSl W 3 A 6 cap moonLZ) => Angle_ok 392048814 36601101305556 20000 t A 6 cap moonLZ W hT h moonL_in ht)
  have HT := Lib.hid hT
  unfold mlLo mlHi
  generalize anLo 392048814 36601101305556 20000 moonLZ 6 t = lo at *
  generalize anHi 392048814 36601101305556 20000 moonLZ 6 t = hi at *
  clear hT ht
  go_enter Tryz.func11, Tryz.ntmps11
  go_wp2_with fail
  refine Calls.mono (S.out _) ?_
  rintro e w1 ⟨A, cap, rfl, hF, hb⟩
  obtain ⟨hb1, hz1, hc1, hf1⟩ := took (w := w) (by repeat' (first | (with_reducible refine below_drewN ?_ _) | go_grown)) (by first | (simp only [World.size_alloc, World.size_setCell, World.size_drew, size_drewN]; done) | (simp only [World.size_alloc, World.size_setCell, World.size_drew, size_drewN]; rfl) | rfl) hb; clear hb
  have z1 : w.heap.size < w1.heap.size := by omega
  have HT1 := Lib.hid (HT.out.below hb1)
  go_wp2_with fail
  refine Calls.mono (G.out _ _ _ HT1.out hF) ?_
  rintro e w2 ⟨rfl, hb⟩
  obtain ⟨hb2, hz2, hc2, hf2⟩ := took (w := w) (by repeat' (first | (with_reducible refine below_drewN ?_ _) | go_grown)) (by first | (simp only [World.size_alloc, World.size_setCell, World.size_drew, size_drewN]; done) | (simp only [World.size_alloc, World.size_setCell, World.size_drew, size_drewN]; rfl) | rfl) hb; clear hb
  have z2 : w.heap.size < w2.heap.size := by omega
  go_wp2_with fail
  refine bodyPost_ret (v := .tuple #[.agg #[.int .i64 lo, .int .i64 hi], .int .i64 0]) ?_ rfl ⟨rfl, (by repeat' (first | (with_reducible refine below_drewN ?_ _) | go_grown))⟩
  simp [results, Tryz.results11, go_sem, *]
end Go.Proofs.YtdifeoahaegjbaaGreatDoor
/- moon.latitude, moon.Latitude. -/
namespace Go.Proofs.YtdifeoahaegjbaaGreatDoor
open Go.RowKit
set_option linter.unusedSimpArgs false
set_option linter.unusedVariables false
/-- The terms of ephemeris/moon.latitude. -/
def moonBZ : List Int := [14244783, 648500531, 36748195111111, 779450, 747884547, 73039842194444, 771369, 450883485, -456548027778]
theorem moonB_in : SumIn 0 0 20000 3 moonBZ := by
  refine ⟨by omega, by omega, by omega, by omega, by omega, by omega, by omega, fun i hi => ?_⟩
  rcases (by omega : i = 0 ∨ i = 1 ∨ i = 2) with rfl | rfl | rfl <;> exact ⟨by decide, by decide, by decide, by decide, by decide, by decide⟩
/-- The latitude of the moon. -/
def mbLo (t : Int) : Int := vLo 0 20000 moonBZ 3 t
def mbHi (t : Int) : Int := vHi 0 20000 moonBZ 3 t
end Go.Proofs.YtdifeoahaegjbaaGreatDoor
/- trig.Less, moon.Elongation, moonWorks. -/
namespace Go.Proofs.YtdifeoahaegjbaaGreatDoor
open Go.RowKit
set_option linter.unusedSimpArgs false
set_option linter.unusedVariables false
theorem an_bd {mean rate rest t : Int} {n : Nat} {zs : List Int} (h : SumIn mean rate rest n zs) : 0 ≤ anLo mean rate rest zs n t ∧ anLo mean rate rest zs n t < 1000000000 ∧ anLo mean rate rest zs n t ≤ anHi mean rate rest zs n t ∧ anHi mean rate rest zs n t ≤ 130000000000 := by
  have a : 0 ≤ anLo mean rate rest zs n t ∧ anLo mean rate rest zs n t < 1000000000 := by unfold anLo; omega
  have b := v_bd (t := t) h.n40 h.tm ⟨h.m1, h.m2⟩ ⟨h.t1, h.t2⟩
  refine ⟨a.1, a.2, ?_, ?_⟩
  · unfold anHi; split <;> omega
  · unfold anHi; split <;> omega
set_option maxHeartbeats 1000000 in
theorem lMinus_ok (a b c d : Int) (w : World) (h1 : -4000000000000000000 ≤ a - d ∧ a - d ≤ 4000000000000000000) (h2 : -4000000000000000000 ≤ b - c ∧ b - c ≤ 4000000000000000000) :
    Calls Tryz.prog 96 #[.agg #[.int .i64 a, .int .i64 b], .agg #[.int .i64 c, .int .i64 d]] w fun e w' => e = .returned (.agg #[.int .i64 (a - d), .int .i64 (b - c)]) ∧ Below w.heap.size w w' := by
  have e1 : wrap64 (a - d) = a - d := IntWalk.wrap64_in _ (by omega)
  have e2 : wrap64 (b - c) = b - c := IntWalk.wrap64_in _ (by omega)
  clear h1 h2
  go_enter Tryz.func96, Tryz.ntmps96
  go_wp2_with fail
  refine bodyPost_ret (v := .agg #[.int .i64 (a - d), .int .i64 (b - c)]) ?_ rfl ⟨rfl, (by repeat' (first | (with_reducible refine below_drewN ?_ _) | go_grown))⟩
  simp [results, Tryz.results96, go_sem, *]
/-- An interval of angles less another one. -/
def lsLo (a b c d : Int) : Int := (a - d) % 1000000000
def lsHi (a b c d : Int) : Int := (a - d) % 1000000000 + (b - c) - (a - d)
set_option maxHeartbeats 1000000 in
theorem less_ok (a b c d : Int) (w : World) (h1 : -1000000000000000000 ≤ a - d ∧ a - d ≤ 1000000000000000000) (h2 : -1000000000000000000 ≤ b - c ∧ b - c ≤ 1000000000000000000) :
    Calls Tryz.prog 73 #[.agg #[.int .i64 a, .int .i64 b], .agg #[.int .i64 c, .int .i64 d]] w fun e w' => e = .returned (.agg #[.int .i64 (lsLo a b c d), .int .i64 (lsHi a b c d)]) ∧ Below w.heap.size w w' := by
  have M := Lib.hid (fun w => lMinus_ok a b c d w (by omega) (by omega))
  have N := Lib.hid (fun w => norm_ok (a - d) (b - c) w (by omega) (by omega))
  unfold lsLo lsHi
  generalize (a - d) % 1000000000 + (b - c) - (a - d) = hi at *
  generalize (a - d) % 1000000000 = lo at *
  generalize a - d = x at *
  generalize b - c = y at *
  clear h1 h2
  go_enter Tryz.func73, Tryz.ntmps73
  go_wp2_with fail
  refine Calls.mono (M.out _) ?_
  rintro e w1 ⟨rfl, hb⟩
  obtain ⟨hb1, hz1, hc1, hf1⟩ := took (w := w) (by repeat' (first | (with_reducible refine below_drewN ?_ _) | go_grown)) (by first | (simp only [World.size_alloc, World.size_setCell, World.size_drew, size_drewN]; done) | (simp only [World.size_alloc, World.size_setCell, World.size_drew, size_drewN]; rfl) | rfl) hb; clear hb
  have z1 : w.heap.size < w1.heap.size := by omega
  have z1b : w.heap.size + 1 < w1.heap.size := by omega
  have z1c : w.heap.size + 1 + 1 < w1.heap.size := by omega
  go_wp2_with fail
  refine Calls.mono (N.out _) ?_
  rintro e w2 ⟨rfl, hb⟩
  obtain ⟨hb2, hz2, hc2, hf2⟩ := took (w := w) (by repeat' (first | (with_reducible refine below_drewN ?_ _) | go_grown)) (by first | (simp only [World.size_alloc, World.size_setCell, World.size_drew, size_drewN]; done) | (simp only [World.size_alloc, World.size_setCell, World.size_drew, size_drewN]; rfl) | rfl) hb; clear hb
  have z2 : w.heap.size < w2.heap.size := by omega
  have z2b : w.heap.size + 1 < w2.heap.size := by omega
  have z2d : w.heap.size + 1 + 1 < w2.heap.size := by omega
  go_wp2_with fail
  refine bodyPost_ret (v := .agg #[.int .i64 lo, .int .i64 hi]) ?_ rfl ⟨rfl, (by repeat' (first | (with_reducible refine below_drewN ?_ _) | go_grown))⟩
  simp [results, Tryz.results73, go_sem, *]
theorem ls_bd {a b c d : Int} (h1 : 0 ≤ a ∧ a < 1000000000 ∧ a ≤ b ∧ b ≤ 130000000000) (h2 : 0 ≤ c ∧ c < 1000000000 ∧ c ≤ d ∧ d ≤ 130000000000) : 0 ≤ lsLo a b c d ∧ lsLo a b c d < 1000000000 ∧ lsLo a b c d ≤ lsHi a b c d ∧ lsHi a b c d ≤ 400000000000 := by unfold lsLo lsHi; omega
/-- The elongation. -/
def elLo (t : Int) : Int := lsLo (mlLo t) (mlHi t) (slLo t) (slHi t)
def elHi (t : Int) : Int := lsHi (mlLo t) (mlHi t) (slLo t) (slHi t)
theorem el_bd (t : Int) : 0 ≤ elLo t ∧ elLo t < 1000000000 ∧ elLo t ≤ elHi t ∧ elHi t ≤ 400000000000 := ls_bd (an_bd moonL_in) (an_bd sun_in)
set_option maxHeartbeats 2000000 in
theorem elong_ok (t : Int) (w : World) (hT : SinT w) (ht : instOk t = true) : Calls Tryz.prog 52 #[.int .i64 t] w fun e w' => e = .returned (.tuple #[.agg #[.int .i64 (elLo t), .int .i64 (elHi t)], .int .i64 0]) ∧ Below w.heap.size w w' := by
  have M := Lib.hid (fun W (hT : SinT W) => moonLong_ok t W hT ht)
  have S := Lib.hid (fun W (hT : SinT W) => sunLong_ok t W hT ht)
  have b1 : 0 ≤ mlLo t ∧ mlLo t < 1000000000 ∧ mlLo t ≤ mlHi t ∧ mlHi t ≤ 130000000000 := an_bd moonL_in
  have b2 : 0 ≤ slLo t ∧ slLo t < 1000000000 ∧ slLo t ≤ slHi t ∧ slHi t ≤ 130000000000 := an_bd sun_in
  have L := Lib.hid (fun w => less_ok (mlLo t) (mlHi t) (slLo t) (slHi t) w (by omega) (by omega))
  unfold elLo elHi
  generalize lsLo (mlLo t) (mlHi t) (slLo t) (slHi t) = lo at *
  generalize lsHi (mlLo t) (mlHi t) (slLo t) (slHi t) = hi at *
  generalize mlLo t = a at *
  generalize mlHi t = b at *
  generalize slLo t = c at *
  generalize slHi t = d at *
  have HT := Lib.hid hT
  clear hT ht b1 b2
  go_enter Tryz.func52, Tryz.ntmps52
  have HB := Lib.hid (Below.refl w.heap.size w)
  go_upto_region 1 with fail
  have HB1 := HB.out
  replace HB := Lib.hid (HB1.alloc HB1.size (.cells #[.int .i64 (0), .int .i64 (0)] 43))
  clear HB1
  have s1 := Lib.hid (SpBox.new w (0) (0))
  obtain ⟨k1, hk1⟩ : ∃ x, x = w.heap.size := ⟨_, rfl⟩
  rw [← hk1] at s1
  have Hkl1 := Lib.hid (Nat.le_of_eq hk1.symm)
  rw [← hk1]
  obtain ⟨X1, hX1⟩ : ∃ X, X = w.alloc (.cells #[.int .i64 (0), .int .i64 (0)] 43) := ⟨_, rfl⟩
  rw [← hX1] at s1 HB ⊢
  clear hk1 hX1
  go_wp2_with fail
  refine Calls.mono (M.out _ (HT.out.below HB.out)) ?_
  rintro e wn2 ⟨rfl, hb⟩
  replace s1 := Lib.hid ((s1.out.below hb).alloc (.cells #[.int .i64 (a), .int .i64 (b)] 43))
  have HB2 := HB.out.trans (hb.mono HB.out.size)
  clear hb
  have Hkl2 := Lib.hid HB2.size; replace HB := Lib.hid (HB2.alloc HB2.size (.cells #[.int .i64 (a), .int .i64 (b)] 43))
  clear HB2
  have s2 := Lib.hid (SpBox.new wn2 (a) (b))
  obtain ⟨k2, hk2⟩ : ∃ x, x = wn2.heap.size := ⟨_, rfl⟩
  rw [← hk2] at s2 Hkl2
  go_upto_region 2 with fail
  rw [← hk2]
  obtain ⟨X2, hX2⟩ : ∃ X, X = wn2.alloc (.cells #[.int .i64 (a), .int .i64 (b)] 43) := ⟨_, rfl⟩
  rw [← hX2] at s1 s2 HB ⊢
  clear hk2 hX2
  go_wp2_with fail
  refine Calls.mono (S.out _ (HT.out.below HB.out)) ?_
  rintro e wn3 ⟨rfl, hb⟩
  replace s1 := Lib.hid ((s1.out.below hb).alloc (.cells #[.int .i64 (c), .int .i64 (d)] 43))
  replace s2 := Lib.hid ((s2.out.below hb).alloc (.cells #[.int .i64 (c), .int .i64 (d)] 43))
  have HB3 := HB.out.trans (hb.mono HB.out.size)
  clear hb
  have Hkl3 := Lib.hid HB3.size; replace HB := Lib.hid (HB3.alloc HB3.size (.cells #[.int .i64 (c), .int .i64 (d)] 43))
  clear HB3
  have s3 := Lib.hid (SpBox.new wn3 (c) (d))
  obtain ⟨k3, hk3⟩ : ∃ x, x = wn3.heap.size := ⟨_, rfl⟩
  rw [← hk3] at s3 Hkl3
  go_upto_region 5 with fail
  rw [← hk3]
  obtain ⟨X3, hX3⟩ : ∃ X, X = wn3.alloc (.cells #[.int .i64 (c), .int .i64 (d)] 43) := ⟨_, rfl⟩
  rw [← hX3] at s1 s2 s3 HB ⊢
  clear hk3 hX3
  have sc2_0 := s2.out.c0; have sc2_1 := s2.out.c1; have sc2_l := s2.out.lt
  have sc3_0 := s3.out.c0; have sc3_1 := s3.out.c1; have sc3_l := s3.out.lt
  go_wp2_with fail
  refine Calls.mono (L.out _) ?_
  rintro e wc1 ⟨rfl, hb⟩
  replace s1 := Lib.hid (s1.out.below hb)
  replace s2 := Lib.hid (s2.out.below hb)
  replace s3 := Lib.hid (s3.out.below hb)
  replace HB := Lib.hid (HB.out.trans (hb.mono HB.out.size))
  clear sc2_0 sc2_1 sc2_l sc3_0 sc3_1 sc3_l
  clear hb
  have rs0 := s1.out.c0; have rs1 := s1.out.c1; have rsf0 := s1.out.free 0; have rsf1 := s1.out.free 1; have rsl := s1.out.lt; have rsk := Hkl1.out
  go_wp2_with fail
  refine bodyPost_ret (v := .tuple #[.agg #[.int .i64 lo, .int .i64 hi], .int .i64 0]) ?_ rfl ⟨rfl, ?_⟩
  · simp [results, Tryz.results52, go_sem, *]
  · refine Below.setCell (Below.setCell HB.out ?_ _) ?_ _
    all_goals (first | (simp only [World.size_setCell]; omega) | (dsimp only; omega))
end Go.Proofs.YtdifeoahaegjbaaGreatDoor
/- The true longitudes of the sun and the moon, and the elongation: how fast they grow. Plain. -/
namespace Go.Proofs.YtdifeoahaegjbaaGreatDoor
set_option linter.unusedSimpArgs false
set_option linter.unusedVariables false
theorem anT_move {mean rate : Int} {zs : List Int} {n : Nat} (hz : ∀ i, i < n → TmOk zs i) (t : Rat) {d : Rat} (hd : 0 ≤ d) :
    Near (anT mean rate zs n (t + d)) (anT mean rate zs n t + (rate : Rat) * (d / 86400000000000)) (ra (slS zs n * (d / 86400000000000)) + (n : Rat) * (1 / 10000000000)) := by
  have h := sv_move hz t hd n (Nat.le_refl _)
  unfold anT
  have e : phT mean rate (t + d) = phT mean rate t + (rate : Rat) * (d / 86400000000000) := by unfold phT; grind
  rw [e]
  unfold Near at *
  generalize svT zs n (t + d) = x1 at *
  generalize svT zs n t = x2 at *
  generalize phT mean rate t = x3 at *
  generalize (rate : Rat) * (d / 86400000000000) = x4 at *
  generalize ra (slS zs n * (d / 86400000000000)) = x5 at *
  constructor <;> grind
/-- An interval of angles around a true one, with a slack. -/
def AngW (lo hi : Int) (X r s : Rat) : Prop := ∃ k : Int, (lo : Rat) + 1000000000 * (k : Rat) ≤ X - r ∧ X - r - s ≤ (lo : Rat) + 1000000000 * (k : Rat) ∧ X + r ≤ (hi : Rat) + 1000000000 * (k : Rat) ∧ (hi : Rat) + 1000000000 * (k : Rat) ≤ X + r + s
theorem angAt_W {lo hi : Int} {X r : Rat} (h : AngAt lo hi X r) : AngW lo hi X r (2003 / 1000) := h
theorem less_at {a b c d : Int} {X Y r s p q : Rat} (h : AngW a b X r p) (g : AngW c d Y s q) : AngW (lsLo a b c d) (lsHi a b c d) (X - Y) (r + s) (p + q) := by
  obtain ⟨k, h1, h2, h3, h4⟩ := h
  obtain ⟨j, g1, g2, g3, g4⟩ := g
  have e : lsLo a b c d = a - d + 1000000000 * -((a - d) / 1000000000) := by unfold lsLo; omega
  have e2 : lsHi a b c d = b - c + 1000000000 * -((a - d) / 1000000000) := by unfold lsHi; omega
  refine ⟨k - j + (a - d) / 1000000000, ?_⟩
  rw [e, e2]
  clear e e2
  generalize (a - d) / 1000000000 = z
  rw [Rat.intCast_add, Rat.intCast_add, Rat.intCast_add, Rat.intCast_mul, Rat.intCast_sub, Rat.intCast_sub, Rat.intCast_sub, Rat.intCast_neg, show ((1000000000 : Int) : Rat) = 1000000000 from rfl]
  refine ⟨?_, ?_, ?_, ?_⟩ <;> grind
/-- The true longitudes. -/
def sunT (t : Rat) : Rat := anT 775342092 2737909333333 sunZ 2 t
def moonT (t : Rat) : Rat := anT 392048814 36601101305556 moonLZ 6 t
def elT (t : Rat) : Rat := moonT t - sunT t
theorem sun_at (t : Int) : AngW (slLo t) (slHi t) (sunT (t : Rat)) 2000 (2003 / 1000) := ang_at (by omega) sun_in.tm
theorem moon_at (t : Int) : AngW (mlLo t) (mlHi t) (moonT (t : Rat)) 20000 (2003 / 1000) := ang_at (by omega) moonL_in.tm
theorem el_at (t : Int) : AngW (elLo t) (elHi t) (elT (t : Rat)) 22000 (4006 / 1000) := by
  have h := less_at (moon_at t) (sun_at t)
  rw [show (20000 : Rat) + 2000 = 22000 by grind, show (2003 / 1000 : Rat) + 2003 / 1000 = 4006 / 1000 by grind] at h
  exact h
theorem sl_sun : slS sunZ 2 = 14864525005099857516 := by unfold slS; decide +kernel
theorem sl_moon : slS moonLZ 6 = 936885529393895316817 := by unfold slS; decide +kernel
end Go.Proofs.YtdifeoahaegjbaaGreatDoor
