/- How much of the moon is lit at a phase, plain. -/
import Derived.Test.YtlldmhnkaopjhaaDoorPhQ
import Derived.Test.YtlldmhnkaopjhaaDoorSoNear
namespace Go.Proofs.YtlldmhnkaopjhaaDoor
set_option linter.unusedSimpArgs false
set_option linter.unusedVariables false
theorem kW_el : 0 ≤ kW 44010 ∧ kW 44010 ≤ 276600 := by
  have q := qq_b9
  unfold kW ra
  rw [show ((44010 : Int) : Rat) = 44010 from rfl]
  generalize qq = p at *
  constructor <;> grind
theorem kW_ph : 0 ≤ kW 310000 ∧ kW 310000 ≤ 1948000 := by
  have q := qq_b9
  unfold kW ra
  rw [show ((310000 : Int) : Rat) = 310000 from rfl]
  generalize qq = p at *
  constructor <;> grind
theorem el_w (x : Int) : elHi x - elLo x ≤ 44010 := by
  obtain ⟨k, a1, a2, a3, a4⟩ := el_at x
  have : elHi x - elLo x < 44011 := by
    apply int_lt_of_rat
    rw [Rat.intCast_sub, show ((44011 : Int) : Rat) = 44011 from rfl]
    grind
  omega
/-- The part that is lit. -/
def liLo (x : Int) : Int := (1000000000 - coHi (elLo x) (elHi x)) / 2
def liHi (x : Int) : Int := -(-(1000000000 - coLo (elLo x) (elHi x)) / 2)
/-- Where it lies, by the cosine of the interval's beginning. -/
theorem li_near (x : Int) : (liLo x : Rat) ≤ (1000000000 - 1000000000 * CN (elLo x) + 276602) / 2 ∧ (1000000000 - 1000000000 * CN (elLo x) - 276602) / 2 - 1 ≤ (liLo x : Rat) ∧ (liHi x : Rat) ≤ (1000000000 - 1000000000 * CN (elLo x) + 276602) / 2 + 1 ∧ (1000000000 - 1000000000 * CN (elLo x) - 276602) / 2 ≤ (liHi x : Rat) := by
  have b := el_bd x
  have k := kW_el
  obtain ⟨n1, n2⟩ := co_near (a := elLo x) (b := elHi x) (x := elLo x) (W := 44010) b.2.2.1 (el_w x) (by omega) (Int.le_refl _) b.2.2.1
  obtain ⟨p, hp⟩ : ∃ p, p = liLo x := ⟨_, rfl⟩
  obtain ⟨q, hq⟩ : ∃ q, q = liHi x := ⟨_, rfl⟩
  have e1 : 2 * p ≤ 1000000000 - coHi (elLo x) (elHi x) ∧ 1000000000 - coHi (elLo x) (elHi x) ≤ 2 * p + 1 := by rw [hp]; unfold liLo; omega
  have e2' : 1000000000 - coLo (elLo x) (elHi x) ≤ 2 * q ∧ 2 * q ≤ 1000000000 - coLo (elLo x) (elHi x) + 1 := by rw [hq]; unfold liHi; omega
  rw [← hp, ← hq]
  have f1 := Rat.intCast_le_intCast.2 e1.1
  have f2 := Rat.intCast_le_intCast.2 e1.2
  have f3 := Rat.intCast_le_intCast.2 e2'.1
  have f4 := Rat.intCast_le_intCast.2 e2'.2
  simp only [Rat.intCast_mul, Rat.intCast_sub, Rat.intCast_add] at f1 f2 f3 f4
  rw [show ((1000000000 : Int) : Rat) = 1000000000 from rfl, show ((2 : Int) : Rat) = 2 from rfl] at f1 f2 f3 f4
  rw [show ((1 : Int) : Rat) = 1 from rfl] at f2 f4
  clear e1 e2' hp hq b
  unfold Near at n1 n2
  generalize (coLo (elLo x) (elHi x) : Rat) = u at *
  generalize (coHi (elLo x) (elHi x) : Rat) = v at *
  generalize CN (elLo x) = c at *
  generalize kW 44010 = z at *
  refine ⟨?_, ?_, ?_, ?_⟩ <;> grind
theorem ph_quart : (999999990 ≤ cLo 0 ∧ cHi 0 ≤ 1000000010) ∧ (-10 ≤ cLo 250000000 ∧ cHi 250000000 ≤ 10) ∧ (-1000000010 ≤ cLo 500000000 ∧ cHi 500000000 ≤ -999999990) ∧ (-10 ≤ cLo 750000000 ∧ cHi 750000000 ≤ 10) := by decide +kernel
/-- What is wanted at a quarter. -/
def phWant (q : Int) : Int := if q = 0 then 0 else if q = 2 then 1000000000 else 500000000
theorem want_cos {q : Int} (q0 : 0 ≤ q) (q1 : q ≤ 3) : Near (1000000000 * CN (250000000 * q)) (1000000000 - 2 * (phWant q : Rat)) 11 := by
  obtain ⟨⟨a1, a2⟩, ⟨b1, b2⟩, ⟨c1, c2⟩, d1, d2⟩ := ph_quart
  have key : ∀ {n lo hi : Int}, lo ≤ cLo n → cHi n ≤ hi → (lo : Rat) - 1 / 1000 ≤ 1000000000 * CN n ∧ 1000000000 * CN n ≤ (hi : Rat) + 1 / 1000 := fun {n lo hi} h1 h2 => by
    have s := cos_span n
    have l := s.lo; have u := s.hi
    have h1' := Rat.intCast_le_intCast.2 h1
    have h2' := Rat.intCast_le_intCast.2 h2
    generalize CN n = z at *
    constructor <;> grind
  rcases (by omega : q = 0 ∨ q = 1 ∨ q = 2 ∨ q = 3) with rfl | rfl | rfl | rfl
  · have := key a1 a2
    rw [show ((phWant 0 : Int) : Rat) = 0 from rfl, show (250000000 : Int) * 0 = 0 from rfl]
    rw [show ((999999990 : Int) : Rat) = 999999990 from rfl, show ((1000000010 : Int) : Rat) = 1000000010 from rfl] at this
    unfold Near; generalize CN 0 = z at *; constructor <;> grind
  · have := key b1 b2
    rw [show ((phWant 1 : Int) : Rat) = 500000000 from rfl, show (250000000 : Int) * 1 = 250000000 from rfl]
    rw [show ((-10 : Int) : Rat) = -10 from rfl, show ((10 : Int) : Rat) = 10 from rfl] at this
    unfold Near; generalize CN 250000000 = z at *; constructor <;> grind
  · have := key c1 c2
    rw [show ((phWant 2 : Int) : Rat) = 1000000000 from rfl, show (250000000 : Int) * 2 = 500000000 from rfl]
    rw [show ((-1000000010 : Int) : Rat) = -1000000010 from rfl, show ((-999999990 : Int) : Rat) = -999999990 from rfl] at this
    unfold Near; generalize CN 500000000 = z at *; constructor <;> grind
  · have := key d1 d2
    rw [show ((phWant 3 : Int) : Rat) = 500000000 from rfl, show (250000000 : Int) * 3 = 750000000 from rfl]
    rw [show ((-10 : Int) : Rat) = -10 from rfl, show ((10 : Int) : Rat) = 10 from rfl] at this
    unfold Near; generalize CN 750000000 = z at *; constructor <;> grind
/-- At the beginning of a phase's interval. -/
theorem light_law {k q : Int} (k0 : -100000 ≤ k) (k1 : k ≤ 100000) (q0 : 0 ≤ q) (q1 : q ≤ 3) : liLo (phF k q).1 ≤ phWant q + 2000000 ∧ phWant q - 2000000 ≤ liHi (phF k q).1 ∧ liHi (phF k q).1 - liLo (phF k q).1 < 1000000 := by
  obtain ⟨c, C⟩ := ph_in (k := k) (q := q) (by omega) (by omega) q0 q1
  obtain ⟨X, -, p1, p2, -, p3⟩ := C
  obtain ⟨x, hx⟩ : ∃ x, x = (phF k q).1 := ⟨_, rfl⟩
  rw [← hx] at p1 p3 ⊢
  have L : c - 600000 ≤ x := by omega
  have lt := el_lt p1
  have ca := X.a; have cb := X.at'
  have mv := (el_move (x : Rat) (d := (c : Rat) - (x : Rat)) (by have := Rat.intCast_le_intCast.2 (show x ≤ c by omega); grind)).2
  rw [show (x : Rat) + ((c : Rat) - (x : Rat)) = (c : Rat) by grind] at mv
  have L' := Rat.intCast_le_intCast.2 L
  rw [Rat.intCast_sub, show ((600000 : Int) : Rat) = 600000 from rfl] at L'
  have d1 := int_sub1 p1
  obtain ⟨N, a1, a2, a3, a4⟩ := el_at x
  have n := li_near x
  have w := want_cos q0 q1
  -- the interval's beginning
  have near : Near (1000000000 * CN (elLo x)) (1000000000 * CN (250000000 * q)) (kW 310000) := by
    have h := (SN_move (a := 250000000 * q) (b := elLo x + 1000000000 * (N - k)) (W := 310000) ?_).2
    · rw [CN_mod] at h; exact h
    · constructor
      · apply int_le_of_rat
        rw [Rat.intCast_neg, Rat.intCast_sub, Rat.intCast_add, Rat.intCast_mul, Rat.intCast_mul, Rat.intCast_sub, show ((1000000000 : Int) : Rat) = 1000000000 from rfl, show ((250000000 : Int) : Rat) = 250000000 from rfl, show ((310000 : Int) : Rat) = 310000 from rfl]
        clear n w lt
        generalize elT (x : Rat) = u at *
        generalize elT (c : Rat) = v at *
        grind
      · apply int_le_of_rat
        rw [Rat.intCast_sub, Rat.intCast_add, Rat.intCast_mul, Rat.intCast_mul, Rat.intCast_sub, show ((1000000000 : Int) : Rat) = 1000000000 from rfl, show ((250000000 : Int) : Rat) = 250000000 from rfl, show ((310000 : Int) : Rat) = 310000 from rfl]
        clear n w mv
        generalize elT (x : Rat) = u at *
        generalize elT (c : Rat) = v at *
        grind
  have kp := kW_ph
  clear a1 a2 a3 a4 mv lt ca cb d1 L'
  obtain ⟨n1, n2, n3, n4⟩ := n
  unfold Near at near w
  generalize CN (elLo x) = u at *
  generalize CN (250000000 * q) = v at *
  generalize kW 310000 = z at *
  refine ⟨?_, ?_, ?_⟩
  · apply int_le_of_rat
    rw [Rat.intCast_add, show ((2000000 : Int) : Rat) = 2000000 from rfl]
    grind
  · apply int_le_of_rat
    rw [Rat.intCast_sub, show ((2000000 : Int) : Rat) = 2000000 from rfl]
    grind
  · apply int_lt_of_rat
    rw [Rat.intCast_sub, show ((1000000 : Int) : Rat) = 1000000 from rfl]
    grind
end Go.Proofs.YtlldmhnkaopjhaaDoor
