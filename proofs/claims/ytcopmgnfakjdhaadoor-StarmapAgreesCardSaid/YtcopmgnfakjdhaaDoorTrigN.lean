/- Spans of sines and cosines, as they lie around numbers; their products. No walk here. -/
import Derived.Test.YtcopmgnfakjdhaaDoorTrigV
import Derived.Test.YtcopmgnfakjdhaaDoorTrigS
import Derived.Test.YtcopmgnfakjdhaaDoorIval
namespace Go.Proofs.YtcopmgnfakjdhaaDoor
set_option linter.unusedSimpArgs false
set_option linter.unusedVariables false
/-- A span around a number. -/
structure SpanIn (l u : Int) (x : Rat) : Prop where
  lo : (l : Rat) ≤ x + 1 / 10000000000
  hi : x - 1 / 10000000000 ≤ (u : Rat)
  lo2 : x - 102 / 100 ≤ (l : Rat)
  hi2 : (u : Rat) ≤ x + 102 / 100
  bl : -1000000000 ≤ l
  bh : u ≤ 1000000000
  le : l ≤ u
theorem sin_span (a : Int) : SpanIn (sLo a) (sHi a) (1000000000 * SN a) := by
  obtain ⟨h1, h2, h3, h4, h5, h6, h7⟩ := sine_in a
  exact ⟨by grind, by grind, by grind, by grind, h5, h6, h7⟩
theorem cos_sine (a : Int) : cLo a = sLo (a + 250000000) ∧ cHi a = sHi (a + 250000000) := by
  unfold cLo cHi sLo sHi
  have : (a % 1000000000 + 250000000) % 1000000000 = (a + 250000000) % 1000000000 := by omega
  rw [this]; exact ⟨rfl, rfl⟩
theorem cos_span (a : Int) : SpanIn (cLo a) (cHi a) (1000000000 * CN a) := by
  obtain ⟨e1, e2⟩ := cos_sine a
  rw [e1, e2]
  obtain ⟨h1, h2, h3, h4, h5, h6, h7⟩ := sine_in (a + 250000000)
  have n := CN_SN a
  unfold Near Go.Proofs.YtcopmgnfakjdhaaDoor.e2 at n
  exact ⟨by grind, by grind, by grind, by grind, h5, h6, h7⟩
theorem SpanIn.pt {lo hi : Int} {x : Rat} (h : SpanIn lo hi x) : ∃ y : Rat, (lo : Rat) ≤ y ∧ y ≤ (hi : Rat) ∧ Near y x (1 / 10000000000) := by
  have l := Rat.intCast_le_intCast.2 h.le
  have a := h.lo; have b := h.hi
  unfold Near
  by_cases c : x < (lo : Rat)
  · exact ⟨lo, by grind, l, by grind, by grind⟩
  · by_cases d : (hi : Rat) < x
    · exact ⟨hi, l, by grind, by grind, by grind⟩
    · exact ⟨x, by grind, by grind, by grind, by grind⟩
/-- Products of numbers that are near. -/
theorem near_mul {x y a b A B d : Rat} (hx : Near x a d) (hy : Near y b d) (ha : -A ≤ a ∧ a ≤ A) (hb : -B ≤ b ∧ b ≤ B) (hd : 0 ≤ d) (hA : 0 ≤ A) (hB : 0 ≤ B) : Near (x * y) (a * b) (d * (A + B + d)) := by
  have e : x * y - a * b = (x - a) * b + a * (y - b) + (x - a) * (y - b) := by grind
  unfold Near at *
  have m1 := Go.Proofs.YtcopmgnfakjdhaaDoor.rmul_bd (show -d ≤ x - a ∧ x - a ≤ d by grind) hb
  have m2 := Go.Proofs.YtcopmgnfakjdhaaDoor.rmul_bd ha (show -d ≤ y - b ∧ y - b ≤ d by grind)
  have m3 := Go.Proofs.YtcopmgnfakjdhaaDoor.rmul_bd (show -d ≤ x - a ∧ x - a ≤ d by grind) (show -d ≤ y - b ∧ y - b ≤ d by grind)
  grind
theorem SN_9 (a : Int) : -1000000001 ≤ 1000000000 * SN a ∧ 1000000000 * SN a ≤ 1000000001 := by have := SN_le a; unfold ep at this; grind
theorem CN_9 (a : Int) : -1000000001 ≤ 1000000000 * CN a ∧ 1000000000 * CN a ≤ 1000000001 := by have := CN_le a; unfold ep at this; grind
theorem SpanIn.mul {a b c d : Int} {x y : Rat} (h : SpanIn a b x) (g : SpanIn c d y) (hx : -1000000001 ≤ x ∧ x ≤ 1000000001) (hy : -1000000001 ≤ y ∧ y ≤ 1000000001) : (pLo a b c d 1 : Rat) ≤ x * y + 21 / 100 ∧ x * y - 21 / 100 ≤ (pHi a b c d 1 : Rat) := by
  obtain ⟨p, p1, p2, p3⟩ := h.pt
  obtain ⟨q, q1, q2, q3⟩ := g.pt
  have m := near_mul p3 q3 hx hy (by grind) (by grind) (by grind)
  have r := rp_contains p1 p2 q1 q2
  unfold Near at m
  grind
theorem rat_le_int {p q : Int} (h : (p : Rat) ≤ (q : Rat) + 1 / 2) : p ≤ q := by
  have : p < q + 1 := by
    apply int_lt_of_rat
    rw [int_rat]
    grind
  omega
theorem span_mulOk {a b c d : Int} {x y : Rat} (h : SpanIn a b x) (g : SpanIn c d y) : MulOk a b c d ∧ IvOk a b ∧ IvOk c d ∧ -1000000000000000000 ≤ pLo a b c d 1 ∧ pLo a b c d 1 ≤ pHi a b c d 1 ∧ pHi a b c d 1 ≤ 1000000000000000000 := by
  have m := mulOk_of h.bl h.le h.bh g.bl g.le g.bh (by omega)
  have b := p_bounds h.bl h.le h.bh g.bl g.le g.bh
  obtain ⟨h1, h2, h3⟩ := And.intro h.bl (And.intro h.le h.bh)
  obtain ⟨g1, g2, g3⟩ := And.intro g.bl (And.intro g.le g.bh)
  exact ⟨m, ⟨by omega, by omega, by omega⟩, ⟨by omega, by omega, by omega⟩, by omega, by omega, by omega⟩
theorem pyth_law (a : Int) : pLo (sLo a) (sHi a) (sLo a) (sHi a) 1 + pLo (cLo a) (cHi a) (cLo a) (cHi a) 1 ≤ 1000000000000000000 ∧ 1000000000000000000 ≤ pHi (sLo a) (sHi a) (sLo a) (sHi a) 1 + pHi (cLo a) (cHi a) (cLo a) (cHi a) 1 := by
  have s := (sin_span a).mul (sin_span a) (SN_9 a) (SN_9 a)
  have c := (cos_span a).mul (cos_span a) (CN_9 a) (CN_9 a)
  have p := SN_pyth a
  have i1 : ((1000000000000000000 : Int) : Rat) = 1000000000000000000 := rfl
  unfold Near ep at p
  constructor
  · apply rat_le_int
    rw [Rat.intCast_add, i1]
    generalize (pLo (sLo a) (sHi a) (sLo a) (sHi a) 1 : Rat) = u at *
    generalize (pLo (cLo a) (cHi a) (cLo a) (cHi a) 1 : Rat) = v at *
    have e1 : 1000000000 * SN a * (1000000000 * SN a) = 1000000000000000000 * (SN a * SN a) := by grind
    have e2 : 1000000000 * CN a * (1000000000 * CN a) = 1000000000000000000 * (CN a * CN a) := by grind
    rw [e1] at s; rw [e2] at c
    generalize SN a * SN a = x at *
    generalize CN a * CN a = y at *
    grind
  · apply rat_le_int
    rw [Rat.intCast_add, i1]
    generalize (pHi (sLo a) (sHi a) (sLo a) (sHi a) 1 : Rat) = u at *
    generalize (pHi (cLo a) (cHi a) (cLo a) (cHi a) 1 : Rat) = v at *
    have e1 : 1000000000 * SN a * (1000000000 * SN a) = 1000000000000000000 * (SN a * SN a) := by grind
    have e2 : 1000000000 * CN a * (1000000000 * CN a) = 1000000000000000000 * (CN a * CN a) := by grind
    rw [e1] at s; rw [e2] at c
    generalize SN a * SN a = x at *
    generalize CN a * CN a = y at *
    grind
end Go.Proofs.YtcopmgnfakjdhaaDoor
