/- PathDark, plain: where the shadow falls, the moon is new, and there is an eclipse. -/
import Derived.Test.YtcopmgnfakjdhaaGreatDoorYPaP
import Derived.Test.YtcopmgnfakjdhaaGreatDoorYEcB
import Derived.Test.YtcopmgnfakjdhaaGreatDoorYPhs
import Derived.Test.YtcopmgnfakjdhaaGreatDoorYReals
namespace Go.Proofs.YtcopmgnfakjdhaaGreatDoor
set_option linter.unusedSimpArgs false
set_option linter.unusedVariables false
structure CeOk (t : Int) : Prop where
  i : CeIn t
  no : ¬ ceNo t
  nw : ¬ 400000000 < caHi t - caLo t
  ef : ceF t = ⟨t, lsLo (cR1 t) (cR2 t) (sdLo 0 t) (sdHi 0 t), lsHi (cR1 t) (cR2 t) (sdLo 0 t) (sdHi 0 t), asLo (clT (c3Lo t)), asHi (clT (c3Hi t)), 0⟩
theorem ce_cases (t : Int) : CeOk t ∨ ∃ e : Int, (e = 6 ∨ e = 11) ∧ ceF t = paE e := by
  by_cases h : ceFar t
  · exact .inr ⟨6, .inl rfl, if_pos h⟩
  · by_cases h2 : 1000000000 < smLo t
    · exact .inr ⟨6, .inl rfl, by unfold ceF; rw [if_neg h, if_pos h2]⟩
    · by_cases h3 : 1000000000 < smHi t
      · exact .inr ⟨11, .inr rfl, by unfold ceF; rw [if_neg h, if_neg h2, if_pos h3]⟩
      · by_cases no : ceNo t
        · exact .inr ⟨11, .inr rfl, by unfold ceF; rw [if_neg h, if_neg h2, if_neg h3, if_pos no]⟩
        · by_cases wd : 400000000 < caHi t - caLo t
          · exact .inr ⟨11, .inr rfl, by unfold ceF; rw [if_neg h, if_neg h2, if_neg h3, if_neg no, if_pos wd]⟩
          · exact .inl ⟨ce_in h3, no, wd, by unfold ceF; rw [if_neg h, if_neg h2, if_neg h3, if_neg no, if_neg wd]⟩
end Go.Proofs.YtcopmgnfakjdhaaGreatDoor
