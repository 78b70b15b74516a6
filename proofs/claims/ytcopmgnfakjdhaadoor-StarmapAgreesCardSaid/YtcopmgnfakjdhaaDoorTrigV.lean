/- The program's sines of whole angles: how they lie around the polynomials of a high degree; the theorem of addition. -/
import Derived.Test.YtcopmgnfakjdhaaDoorSines
import Derived.Test.YtcopmgnfakjdhaaDoorTrigW
import Derived.Test.YtcopmgnfakjdhaaDoorSumP
namespace Go.Proofs.YtcopmgnfakjdhaaDoor
set_option linter.unusedSimpArgs false
set_option linter.unusedVariables false

theorem tsin_near {a : Int} (h0 : 0 < a) (h1 : a < 1000000000) : Ap (tsin a) (1000000000 * sn (ang a)) (17 / 1000000) 1330000001 := by
  obtain ⟨e, -, e2, e8, ap, z1, z2, o1, o2⟩ := tsin_ok h0 h1
  have n := sgnP_near ⟨z1, z2⟩ e2 e8
  rw [show ang a - (e : Rat) * qq + (e : Rat) * qq = ang a by grind] at n
  have a1 := ap.lo; have a2 := ap.hi; have f := ap.fin; have a3 := ap.bl; have a4 := ap.bh
  clear ap
  unfold Near at n
  generalize sgnP e (ang a - (e : Rat) * qq) = p at *
  generalize sn (ang a) = q at *
  exact ⟨f, by grind, by grind, by grind, by grind⟩
/-- The sine and the cosine of a whole angle. -/
def SN (a : Int) : Rat := sn (ang (a % 1000000000))
def CN (a : Int) : Rat := cs (ang (a % 1000000000))
theorem ang_bd {a : Int} (h0 : 0 ≤ a) (h1 : a < 1000000000) : 0 ≤ ang a ∧ ang a ≤ 63 / 10 := by
  have e0 : ((0 : Int) : Rat) = 0 := rfl
  have l : (0 : Rat) ≤ (a : Rat) := by rw [← e0]; exact Rat.intCast_le_intCast.2 h0
  have e1 : ((1000000000 : Int) : Rat) = 1000000000 := rfl
  have u : (a : Rat) < 1000000000 := by rw [← e1]; exact Rat.intCast_lt_intCast.2 h1
  unfold ang qq kA kB kC
  constructor <;> grind
theorem ang_8 (a : Int) : -8 ≤ ang (a % 1000000000) ∧ ang (a % 1000000000) ≤ 8 := by
  have := ang_bd (a := a % 1000000000) (by omega) (by omega)
  grind
theorem SN_mod (a k : Int) : SN (a + 1000000000 * k) = SN a := by unfold SN; rw [Int.add_mul_emod_self_left]
theorem CN_mod (a k : Int) : CN (a + 1000000000 * k) = CN a := by unfold CN; rw [Int.add_mul_emod_self_left]
theorem SN_le (a : Int) : -(1 + ep) ≤ SN a ∧ SN a ≤ 1 + ep := sn_le (ang_8 a)
theorem CN_le (a : Int) : -(1 + ep) ≤ CN a ∧ CN a ≤ 1 + ep := cs_le (ang_8 a)
theorem SN_pyth (a : Int) : Near (CN a * CN a + SN a * SN a) 1 ep := pyth (ang_8 a)
theorem ang_add (a b : Int) : ang (a + b) = ang a + ang b := by
  unfold ang
  rw [Rat.intCast_add]
  grind
theorem ang_turn : ang 1000000000 = 8 * qq := by
  unfold ang
  rw [show ((1000000000 : Int) : Rat) = 1000000000 from rfl]
  grind
/-- The error of these laws. -/
def e2 : Rat := 50 / 1000000000000000000000000000
theorem sum_cases (a b : Int) : (∃ k : Int, (k = 0 ∨ k = 1) ∧ (a + b) % 1000000000 + 1000000000 * k = a % 1000000000 + b % 1000000000) := by
  by_cases h : a % 1000000000 + b % 1000000000 < 1000000000
  · exact ⟨0, .inl rfl, by omega⟩
  · exact ⟨1, .inr rfl, by omega⟩
theorem SC_add (a b : Int) : Near (SN (a + b)) (SN a * CN b + CN a * SN b) e2 ∧ Near (CN (a + b)) (CN a * CN b - SN a * SN b) e2 := by
  obtain ⟨k, hk, e⟩ := sum_cases a b
  have s := sn_add (ang_8 a) (ang_8 b)
  have c := cs_add (ang_8 a) (ang_8 b)
  rw [← ang_add, ← e] at s c
  unfold SN CN
  have t := turn_any (ang_8 (a + b))
  rw [← ang_turn, ← ang_add] at t
  rcases hk with rfl | rfl
  · rw [show (a + b) % 1000000000 + 1000000000 * 0 = (a + b) % 1000000000 by omega] at s c
    unfold Near e2 ep at *
    grind
  · rw [show (a + b) % 1000000000 + 1000000000 * 1 = (a + b) % 1000000000 + 1000000000 by omega] at s c
    obtain ⟨t1, t2⟩ := t
    unfold Near e2 ep eq1 at *
    generalize sn (ang ((a + b) % 1000000000 + 1000000000)) = p1 at *
    generalize cs (ang ((a + b) % 1000000000 + 1000000000)) = p2 at *
    generalize sn (ang ((a + b) % 1000000000)) = p3 at *
    generalize cs (ang ((a + b) % 1000000000)) = p4 at *
    generalize sn (ang (a % 1000000000)) * cs (ang (b % 1000000000)) + cs (ang (a % 1000000000)) * sn (ang (b % 1000000000)) = p5 at *
    generalize cs (ang (a % 1000000000)) * cs (ang (b % 1000000000)) - sn (ang (a % 1000000000)) * sn (ang (b % 1000000000)) = p6 at *
    grind
theorem SN_add (a b : Int) : Near (SN (a + b)) (SN a * CN b + CN a * SN b) e2 := (SC_add a b).1
theorem CN_add (a b : Int) : Near (CN (a + b)) (CN a * CN b - SN a * SN b) e2 := (SC_add a b).2
theorem SC_neg (a : Int) : Near (SN (-a)) (-SN a) e2 ∧ Near (CN (-a)) (CN a) e2 := by
  unfold SN CN
  have b8 := ang_8 a
  by_cases h : a % 1000000000 = 0
  · rw [h, show (-a) % 1000000000 = 0 by omega]
    have : ang 0 = 0 := by unfold ang; rw [show ((0 : Int) : Rat) = 0 from rfl]; grind
    rw [this, sn_zero, cs_zero]
    unfold Near e2; grind
  · rw [show (-a) % 1000000000 = -(a % 1000000000) + 1000000000 by omega, ang_add, ang_turn]
    have e : ang (-(a % 1000000000)) = -ang (a % 1000000000) := by
      unfold ang; rw [Rat.intCast_neg]; grind
    rw [e]
    have t := turn_any (x := -ang (a % 1000000000)) (by grind)
    rw [sn_neg, cs_neg] at t
    exact ⟨near_weak t.1 (by unfold e2 eq1; grind), near_weak t.2 (by unfold e2 eq1; grind)⟩
theorem ang_q (k : Nat) : ang (250000000 * (k : Int)) = 0 + ((2 * k : Nat) : Rat) * qq := by
  unfold ang
  rw [Rat.intCast_mul, Rat.natCast_mul, Rat.intCast_natCast, show ((250000000 : Int) : Rat) = 250000000 from rfl, show ((2 : Nat) : Rat) = 2 from rfl]
  grind
theorem SC_quarter (k : Nat) (h : k ≤ 3) : Near (SN (250000000 * (k : Int))) (sgnV (2 * k) 0) (4 * eq1) ∧ Near (CN (250000000 * (k : Int))) (sgnW (2 * k) 0) (4 * eq1) := by
  have := oct_sn (Z := 0) (e := 2 * k) (by grind) (by omega) (by omega)
  unfold SN CN
  rw [show 250000000 * (k : Int) % 1000000000 = 250000000 * (k : Int) by omega, ang_q]
  exact this
theorem SN_q1 : Near (SN 250000000) 1 (4 * eq1) := by have := (SC_quarter 1 (by omega)).1; unfold sgnV at this; simp only [cs_zero] at this; exact this
theorem CN_q1 : Near (CN 250000000) 0 (4 * eq1) := by have := (SC_quarter 1 (by omega)).2; unfold sgnW at this; simp only [sn_zero] at this; unfold Near at *; grind
theorem SN_q2 : Near (SN 500000000) 0 (4 * eq1) := by have := (SC_quarter 2 (by omega)).1; unfold sgnV at this; simp only [sn_zero] at this; unfold Near at *; grind
theorem CN_q2 : Near (CN 500000000) (-1) (4 * eq1) := by have := (SC_quarter 2 (by omega)).2; unfold sgnW at this; simp only [cs_zero] at this; unfold Near at *; grind
theorem SN_q3 : Near (SN 750000000) (-1) (4 * eq1) := by have := (SC_quarter 3 (by omega)).1; unfold sgnV at this; simp only [cs_zero] at this; unfold Near at *; grind
theorem SN_0 : SN 0 = 0 := by
  have : ang 0 = 0 := by unfold ang; rw [show ((0 : Int) : Rat) = 0 from rfl]; grind
  unfold SN; rw [show (0 : Int) % 1000000000 = 0 from rfl, this, sn_zero]
theorem CN_0 : CN 0 = 1 := by
  have : ang 0 = 0 := by unfold ang; rw [show ((0 : Int) : Rat) = 0 from rfl]; grind
  unfold CN; rw [show (0 : Int) % 1000000000 = 0 from rfl, this, cs_zero]
/-- The cosine is the sine a quarter later. -/
theorem CN_SN (a : Int) : Near (SN (a + 250000000)) (CN a) (2 * e2) := by
  have h := SN_add a 250000000
  have b := SN_le a; have c := CN_le a
  have q1 := SN_q1; have q2 := CN_q1
  have m1 := rmul_bd b (show -(4 * eq1) ≤ CN 250000000 ∧ CN 250000000 ≤ 4 * eq1 by unfold Near at q2; grind)
  have m2 := rmul_bd c (show -(4 * eq1) ≤ SN 250000000 - 1 ∧ SN 250000000 - 1 ≤ 4 * eq1 by unfold Near at q1; grind)
  unfold Near at *
  generalize SN (a + 250000000) = x at *
  generalize SN 250000000 = y at *
  generalize CN 250000000 = z at *
  clear q1 q2 b c
  unfold e2 eq1 ep at *
  grind
/-- The program's interval of a sine. -/
structure SinIn (a : Int) : Prop where
  lo : (sLo a : Rat) ≤ 1000000000 * SN a + 1 / 100000000000
  hi : 1000000000 * SN a - 1 / 100000000000 ≤ (sHi a : Rat)
  lo2 : 1000000000 * SN a - 101 / 100 ≤ (sLo a : Rat)
  hi2 : (sHi a : Rat) ≤ 1000000000 * SN a + 101 / 100
  bl : -1000000000 ≤ sLo a
  bh : sHi a ≤ 1000000000
  le : sLo a ≤ sHi a
theorem sine_mod (a : Int) : sLo a = sLo (a % 1000000000) ∧ sHi a = sHi (a % 1000000000) ∧ SN a = SN (a % 1000000000) := by
  unfold sLo sHi SN
  rw [Int.emod_emod]
  exact ⟨rfl, rfl, rfl⟩
theorem int_rat (n : Int) : ((n + 1 : Int) : Rat) = (n : Rat) + 1 := by rw [Rat.intCast_add]; rfl
theorem sine_in (a : Int) : SinIn a := by
  have hm := sine_mod a
  have r1 : (0 : Int) ≤ a % 1000000000 := by omega
  have r2 : a % 1000000000 < 1000000000 := by omega
  obtain ⟨m1, m2, m3⟩ := hm
  suffices h : SinIn (a % 1000000000) by
    obtain ⟨h1, h2, h3, h4, h5, h6, h7⟩ := h
    rw [← m1, ← m3] at h1; rw [← m2, ← m3] at h2; rw [← m1, ← m3] at h3; rw [← m2, ← m3] at h4; rw [← m1] at h5; rw [← m2] at h6; rw [← m1, ← m2] at h7
    exact ⟨h1, h2, h3, h4, h5, h6, h7⟩
  clear m1 m2 m3
  generalize a % 1000000000 = b at *
  have i0 : ((0 : Int) : Rat) = 0 := rfl
  have i1 : ((1000000000 : Int) : Rat) = 1000000000 := rfl
  have i2 : ((-1000000000 : Int) : Rat) = -1000000000 := rfl
  by_cases c0 : b = 0
  · subst c0
    have e1 : sLo 0 = 0 := rfl
    have e2 : sHi 0 = 0 := rfl
    exact ⟨by rw [e1, SN_0, i0]; grind, by rw [e2, SN_0, i0]; grind, by rw [e1, SN_0, i0]; grind, by rw [e2, SN_0, i0]; grind, by rw [e1]; decide, by rw [e2]; decide, by rw [e1, e2]; decide⟩
  by_cases c1 : b = 500000000
  · subst c1
    have e1 : sLo 500000000 = 0 := rfl
    have e2 : sHi 500000000 = 0 := rfl
    have q := SN_q2
    unfold Near eq1 at q
    exact ⟨by rw [e1, i0]; grind, by rw [e2, i0]; grind, by rw [e1, i0]; grind, by rw [e2, i0]; grind, by rw [e1]; decide, by rw [e2]; decide, by rw [e1, e2]; decide⟩
  by_cases c2 : b = 250000000
  · subst c2
    have e1 : sLo 250000000 = 1000000000 := rfl
    have e2 : sHi 250000000 = 1000000000 := rfl
    have q := SN_q1
    unfold Near eq1 at q
    exact ⟨by rw [e1, i1]; grind, by rw [e2, i1]; grind, by rw [e1, i1]; grind, by rw [e2, i1]; grind, by rw [e1]; decide, by rw [e2]; decide, by rw [e1, e2]; decide⟩
  by_cases c3 : b = 750000000
  · subst c3
    have e1 : sLo 750000000 = -1000000000 := rfl
    have e2 : sHi 750000000 = -1000000000 := rfl
    have q := SN_q3
    unfold Near eq1 at q
    exact ⟨by rw [e1, i2]; grind, by rw [e2, i2]; grind, by rw [e1, i2]; grind, by rw [e2, i2]; grind, by rw [e1]; decide, by rw [e2]; decide, by rw [e1, e2]; decide⟩
  have em : b % 1000000000 = b := by omega
  have l : sLo b = clLo (aLo (tsin b)) := by unfold sLo; rw [em, if_neg c0, if_neg c1, if_neg c2, if_neg c3]
  have h : sHi b = clHi (aHi (tsin b)) := by unfold sHi; rw [em, if_neg c0, if_neg c1, if_neg c2, if_neg c3]
  have s : SN b = sn (ang b) := by unfold SN; rw [em]
  have t := tsin_near (a := b) (by omega) (by omega)
  rw [← s] at t
  have A := around_near (t.weak (Rat.le_refl) (by grind)) (by grind)
  have K := ksl_bd
  have B := SN_le b
  obtain ⟨-, -, -, -, -, -, A1, A2, A3, A4⟩ := A
  clear t s
  unfold ep at B
  generalize aLo (tsin b) = p at *
  generalize aHi (tsin b) = q at *
  have o : p ≤ q := by
    apply int_le_of_rat; grind
  have o1 : p < 1000000000 + 1 := by
    apply int_lt_of_rat; rw [int_rat, i1]; grind
  have o2 : -1000000000 - 1 < q := by
    apply int_lt_of_rat; rw [show ((-1000000000 - 1 : Int) : Rat) = -1000000001 from rfl]; grind
  refine ⟨?_, ?_, ?_, ?_, by rw [l]; unfold clLo; omega, by rw [h]; unfold clHi; omega, by rw [l, h]; unfold clLo clHi; omega⟩
  · rw [l]
    by_cases c : p < -1000000000
    · rw [show clLo p = -1000000000 by unfold clLo; omega, i2]; grind
    · rw [show clLo p = p by unfold clLo; omega]; grind
  · rw [h]
    by_cases c : 1000000000 < q
    · rw [show clHi q = 1000000000 by unfold clHi; omega, i1]; grind
    · rw [show clHi q = q by unfold clHi; omega]; grind
  · rw [l]
    have : p ≤ clLo p := by unfold clLo; omega
    have := Rat.intCast_le_intCast.2 this
    grind
  · rw [h]
    have : clHi q ≤ q := by unfold clHi; omega
    have := Rat.intCast_le_intCast.2 this
    grind
end Go.Proofs.YtcopmgnfakjdhaaDoor
