/- The latitude of the moon around a phase, plain: how fast it moves, what it is made of, what it says of eclipses. -/
import Derived.Test.YtcopmgnfakjdhaaGreatDoorYEcP
namespace Go.Proofs.YtcopmgnfakjdhaaGreatDoor
set_option linter.unusedSimpArgs false
set_option linter.unusedVariables false
theorem sl_lat : slS moonBZ 3 = 580753136993535547795 := by unfold slS; decide +kernel
theorem be_move (t : Rat) {d : Rat} (hd : 0 ≤ d) : Near (beT (t + d)) (beT t) (42235 / 1000000 * d + 1 / 1000000) := by
  have m := sv_move (zs := moonBZ) moonB_in.tm t hd 3 (Nat.le_refl _)
  rw [sl_lat] at m
  have q := qq_b9
  unfold beT
  unfold Near ra at *
  rw [show ((3 : Nat) : Rat) = 3 from rfl] at m
  have q1 := Rat.mul_le_mul_of_nonneg_right q.2 (show 0 ≤ d / 86400000000000 by grind)
  have e1 : 8 * qq * (580753136993535547795 * (d / 86400000000000) / 1000000000) = 580753136993535547795 * 8 / 1000000000 * (qq * (d / 86400000000000)) := by grind
  rw [e1] at m
  generalize svT moonBZ 3 (t + d) = x1 at *
  generalize svT moonBZ 3 t = x2 at *
  generalize qq * (d / 86400000000000) = z at *
  clear e1 q
  constructor <;> grind
theorem be_near {x y W : Int} (h : -W ≤ y - x ∧ y - x ≤ W) : Near (beT (y : Rat)) (beT (x : Rat)) (42235 / 1000000 * (W : Rat) + 1 / 1000000) := by
  have h1 := Rat.intCast_le_intCast.2 h.1
  have h2 := Rat.intCast_le_intCast.2 h.2
  rw [Rat.intCast_neg, Rat.intCast_sub] at h1
  rw [Rat.intCast_sub] at h2
  by_cases c : (x : Rat) ≤ (y : Rat)
  · have m := be_move (x : Rat) (d := (y : Rat) - (x : Rat)) (by grind)
    rw [show (x : Rat) + ((y : Rat) - (x : Rat)) = (y : Rat) by grind] at m
    unfold Near at *
    constructor <;> grind
  · have m := be_move (y : Rat) (d := (x : Rat) - (y : Rat)) (by grind)
    rw [show (y : Rat) + ((x : Rat) - (y : Rat)) = (x : Rat) by grind] at m
    unfold Near at *
    constructor <;> grind
structure LaAt (a b : Int) : Prop where
  l1 : (laLo a b : Rat) ≤ beT (a : Rat) - 20002
  h1 : beT (a : Rat) + 20002 ≤ (laHi a b : Rat)
  l2 : beT (a : Rat) - 20182 ≤ (laLo a b : Rat) ∨ beT (b : Rat) - 20182 ≤ (laLo a b : Rat)
  h2 : (laHi a b : Rat) ≤ beT (a : Rat) + 20182 ∨ (laHi a b : Rat) ≤ beT (b : Rat) + 20182
theorem la_at {a b : Int} (h : a ≤ b) (hw : b - a ≤ 600000) : LaAt a b := by
  have m := mo_ok (d := b - a) (by omega) (by omega)
  have m0 := m.n0; have m1 := m.n1
  clear m
  obtain ⟨p1, p2, p3, p4⟩ := be_at a
  obtain ⟨q1, q2, q3, q4⟩ := be_at b
  rw [show ((20000 : Int) : Rat) = 20000 from rfl] at p1 p2 p3 p4 q1 q2 q3 q4
  have f1 : laLo a b ≤ mbLo a - 2 := by unfold laLo; omega
  have f2 : mbHi a + 2 ≤ laHi a b := by unfold laHi; omega
  have f3 : mbLo a - 180 ≤ laLo a b ∨ mbLo b - 180 ≤ laLo a b := by unfold laLo; omega
  have f4 : laHi a b ≤ mbHi a + 180 ∨ laHi a b ≤ mbHi b + 180 := by unfold laHi; omega
  have g1 := Rat.intCast_le_intCast.2 f1
  have g2 := Rat.intCast_le_intCast.2 f2
  rw [Rat.intCast_sub, show ((2 : Int) : Rat) = 2 from rfl] at g1
  rw [Rat.intCast_add, show ((2 : Int) : Rat) = 2 from rfl] at g2
  clear m0 m1
  refine ⟨by clear f1 f2 f3 f4; grind, by clear f1 f2 f3 f4; grind, ?_, ?_⟩
  · clear f1 f2 f4
    rcases f3 with f | f
    · have g := Rat.intCast_le_intCast.2 f
      rw [Rat.intCast_sub, show ((180 : Int) : Rat) = 180 from rfl] at g
      left; grind
    · have g := Rat.intCast_le_intCast.2 f
      rw [Rat.intCast_sub, show ((180 : Int) : Rat) = 180 from rfl] at g
      right; grind
  · clear f1 f2 f3
    rcases f4 with f | f
    · have g := Rat.intCast_le_intCast.2 f
      rw [Rat.intCast_add, show ((180 : Int) : Rat) = 180 from rfl] at g
      left; grind
    · have g := Rat.intCast_le_intCast.2 f
      rw [Rat.intCast_add, show ((180 : Int) : Rat) = 180 from rfl] at g
      right; grind
def Quiet (k q : Int) : Prop := (ecF k q).e = 0 ∧ (ecF k q).k = 0
theorem quiet_iff (k q : Int) : Quiet k q ↔ ecPart q ≤ ecLeast (laLo (phF k q).1 (phF k q).2) (laHi (phF k q).1 (phF k q).2) := by
  unfold Quiet ecF
  generalize laLo (phF k q).1 (phF k q).2 = l
  generalize laHi (phF k q).1 (phF k q).2 = h
  unfold ecW
  constructor
  · intro ⟨e1, e2⟩
    by_cases c : ecPart q ≤ ecLeast l h
    · exact c
    · rw [if_neg c] at e1 e2
      by_cases d : ecMost l h < ecTot q
      · rw [if_pos d] at e2; exact absurd (show (2 : Int) = 0 from e2) (by omega)
      · rw [if_neg d] at e1 e2
        by_cases f : ecTot q ≤ ecLeast l h ∧ ecMost l h < ecPart q
        · rw [if_pos f] at e2; exact absurd (show (1 : Int) = 0 from e2) (by omega)
        · rw [if_neg f] at e1; exact absurd (show (11 : Int) = 0 from e1) (by omega)
  · intro c
    rw [if_pos c]
    exact ⟨rfl, rfl⟩
theorem quiet_of {k : Int} (hab : (phF k 0).1 ≤ (phF k 0).2) (hw : (phF k 0).2 - (phF k 0).1 ≤ 600000) (h : (4120200 ≤ beT ((phF k 0).1 : Rat) ∧ 4120200 ≤ beT ((phF k 0).2 : Rat)) ∨ (beT ((phF k 0).1 : Rat) ≤ -4120200 ∧ beT ((phF k 0).2 : Rat) ≤ -4120200)) : Quiet k 0 := by
  obtain ⟨-, -, l2, h2⟩ := la_at hab hw
  refine (quiet_iff k 0).2 ?_
  have e : ecPart 0 = 4100000 := by decide
  rw [e]
  generalize laLo (phF k 0).1 (phF k 0).2 = l at *
  generalize laHi (phF k 0).1 (phF k 0).2 = u at *
  unfold ecLeast
  rcases h with ⟨b1, b2⟩ | ⟨b1, b2⟩
  · have g : 4100000 ≤ l := by
      apply int_le_of_rat
      rw [show ((4100000 : Int) : Rat) = 4100000 from rfl]
      rcases l2 with c | c <;> grind
    omega
  · have g : u ≤ -4100000 := by
      apply int_le_of_rat
      rw [show ((-4100000 : Int) : Rat) = -4100000 from rfl]
      rcases h2 with c | c <;> grind
    omega
end Go.Proofs.YtcopmgnfakjdhaaGreatDoor
