/- PathDark, plain: where the shadow falls, the moon is new, and there is an eclipse. -/
import Derived.Test.YtcopmgnfakjdhaaGreatDoorZPaP
import Derived.Test.YtcopmgnfakjdhaaGreatDoorZEcB
import Derived.Test.YtcopmgnfakjdhaaGreatDoorZPhs
import Derived.Test.YtcopmgnfakjdhaaGreatDoorZReals
namespace Go.Proofs.YtcopmgnfakjdhaaGreatDoor
set_option linter.unusedSimpArgs false
set_option linter.unusedVariables false
structure CeOk (t : Int) : Prop where
  i : CeIn t
  no : ¬ ceNo t
  nw : ¬ 400000000 < caHi t - caLo t
  ef : ceF t = ⟨t, lsLo (cR1 t) (cR2 t) (sdLo 0 t) (sdHi 0 t), lsHi (cR1 t) (cR2 t) (sdLo 0 t) (sdHi 0 t), asLo (clT (c3Lo t)), asHi (clT (c3Hi t)), 0⟩
theorem ce_cases (t : Int) : CeOk t ∨ ∃ e : Int, (e = 6 ∨ e = 11) ∧ ceF t = paE e := by
  by_cases h : ceFar t
  · exact .inr ⟨6, .inl rfl, if_pos h⟩
  · by_cases h2 : 1000000000 < smLo t
    · exact .inr ⟨6, .inl rfl, by unfold ceF; rw [if_neg h, if_pos h2]⟩
    · by_cases h3 : 1000000000 < smHi t
      · exact .inr ⟨11, .inr rfl, by unfold ceF; rw [if_neg h, if_neg h2, if_pos h3]⟩
      · by_cases no : ceNo t
        · exact .inr ⟨11, .inr rfl, by unfold ceF; rw [if_neg h, if_neg h2, if_neg h3, if_pos no]⟩
        · by_cases wd : 400000000 < caHi t - caLo t
          · exact .inr ⟨11, .inr rfl, by unfold ceF; rw [if_neg h, if_neg h2, if_neg h3, if_neg no, if_pos wd]⟩
          · exact .inl ⟨ce_in h3, no, wd, by unfold ceF; rw [if_neg h, if_neg h2, if_neg h3, if_neg no, if_neg wd]⟩
theorem ca_small {d : Rat} (h1 : -2652530 ≤ d) (h2 : d ≤ 2652530) : 1 - 14 / 100000 ≤ CA d := by
  have a := (SCA_add (d / 2) (d / 2)).2
  rw [show d / 2 + d / 2 = d by grind] at a
  have p := SA_pyth (d / 2)
  have l := (SA_lipD (y := 0) (d := d / 2) (D := 1326265) (by constructor <;> grind)).1
  rw [show (0 : Rat) + d / 2 = d / 2 by grind, SA_0] at l
  have q := qq_b9
  have r : ra 1326265 ≤ 8334 / 1000000 := by unfold ra; generalize qq = p at *; grind
  have m := rmul_bd (a := SA (d / 2)) (b := SA (d / 2)) (A := 8335 / 1000000) (B := 8335 / 1000000) (by unfold Near at l; grind) (by unfold Near at l; grind)
  unfold Near e2 ep at *
  generalize CA d = u1 at *
  generalize CA (d / 2) * CA (d / 2) = u2 at *
  generalize SA (d / 2) * SA (d / 2) = u3 at *
  clear l r q h1 h2
  grind
theorem dark_lit {t : Int} (I : CeIn t) : liLo t < 1000000 := by
  have x1 := I.x1; have x2 := I.x2
  have xb := (ox_bd t).1
  have hd : -2652520 ≤ elLo t - oxO t ∧ elLo t - oxO t ≤ 2652520 := by
    have d1 : oxLo t = 377 * (elLo t - oxO t) := rfl
    have d2 : oxHi t = 377 * (elHi t - oxO t) := rfl
    generalize oxLo t = o1 at *
    generalize oxHi t = o2 at *
    generalize oxO t = O at *
    generalize elLo t = e1 at *
    omega
  have n := (li_near t).1
  have tO : CN (elLo t) = CA ((elLo t - oxO t : Int) : Rat) := by
    rw [← CA_int]
    unfold oxO
    split
    · have q := CA_turn ((elLo t : Rat) - 1000000000) 1
      have e : ((elLo t - 1000000000 : Int) : Rat) = (elLo t : Rat) - 1000000000 := by rw [Rat.intCast_sub]; rfl
      rw [e, ← q, show ((1 : Int) : Rat) = 1 from rfl, show (elLo t : Rat) - 1000000000 + 1000000000 * 1 = (elLo t : Rat) by grind]
    · rw [Int.sub_zero]
  rw [tO] at n
  have g1 := Rat.intCast_le_intCast.2 hd.1
  have g2 := Rat.intCast_le_intCast.2 hd.2
  rw [show ((-2652520 : Int) : Rat) = -2652520 from rfl] at g1
  rw [show ((2652520 : Int) : Rat) = 2652520 from rfl] at g2
  have c := ca_small (d := ((elLo t - oxO t : Int) : Rat)) (by grind) (by grind)
  apply int_lt_of_rat
  rw [show ((1000000 : Int) : Rat) = 1000000 from rfl]
  generalize CA ((elLo t - oxO t : Int) : Rat) = u at *
  clear tO g1 g2 x1 x2 xb hd
  grind
theorem dark_lat {t : Int} (I : CeIn t) : -2652530 ≤ beT (t : Rat) ∧ beT (t : Rat) ≤ 2652530 := by
  have y1 := I.y1; have y2 := I.y2
  obtain ⟨a1, a2, a3, a4⟩ := be_at t
  have d1 : oyLo t = 377 * mbLo t := rfl
  have d2 : oyHi t = 377 * mbHi t := rfl
  have l := Rat.intCast_le_intCast.2 (show -2652520 ≤ mbLo t by omega)
  have h := Rat.intCast_le_intCast.2 (show mbHi t ≤ 2652520 by omega)
  rw [show ((-2652520 : Int) : Rat) = -2652520 from rfl] at l
  rw [show ((2652520 : Int) : Rat) = 2652520 from rfl] at h
  rw [show ((20000 : Int) : Rat) = 20000 from rfl] at a1 a3
  constructor <;> grind
theorem dark_not {k t : Int} (I : CeIn t) (hab : (phF k 0).1 ≤ (phF k 0).2) (hw : (phF k 0).2 - (phF k 0).1 ≤ 600000) (ht : -14400000 ≤ t - (phF k 0).1 ∧ t - (phF k 0).1 ≤ 14400000) : ¬ Quiet k 0 := by
  intro Q
  have q := ec_quiet Q hab hw
  have n := be_near (x := (phF k 0).1) (y := t) (W := 14400000) (by omega)
  have b := dark_lat I
  rw [show ((14400000 : Int) : Rat) = 14400000 from rfl] at n
  unfold Near at n
  generalize beT ((phF k 0).1 : Rat) = u at *
  generalize beT (t : Rat) = v at *
  rcases q with q | q
  · grind
  · grind
end Go.Proofs.YtcopmgnfakjdhaaGreatDoor
