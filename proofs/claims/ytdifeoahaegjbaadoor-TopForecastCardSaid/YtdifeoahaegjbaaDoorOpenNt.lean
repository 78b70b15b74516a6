/- How what comes in is opened: a notice by value. What the listed variables give. -/
import Derived.Test.YtdifeoahaegjbaaDoorNBase
import Derived.Test.YtdifeoahaegjbaaDoorBasic
import Derived.Lib.SmallJoins
import Derived.LaidMore
import Derived.MakeChecks
namespace Go.Proofs.YtdifeoahaegjbaaDoor
open Go.RowKit Go.ChangeShapes Go.WideShapes Go.ChangeAt Go.Deep Go.Joins
set_option linter.unusedVariables false

section
variable {H : Type} {enc : TypeId × Value → H} {w : World} {base : Nat} {spare : Nat → Bool} {held : Bool}
end

theorem tabTy : (Tryd.prog.globals[0]?).map (·.type) = some 108 := by kernel_rfl
theorem tabData' {H : Type} : (Rows.laid_internal_strconv_uint64pow10 : DataW H) = Lib.tabData .u64 Lib.pow10Tab := rfl
/-- From the row's condition to the table. -/
theorem tab_of_laid {W : World} (h : laidMetH Tryd.prog [("math/bits.deBruijn32tab", Rows.laid_math_bits_deBruijn32tab), ("math/bits.deBruijn64tab", Rows.laid_math_bits_deBruijn64tab), ("internal/strconv.uint64pow10", Rows.laid_internal_strconv_uint64pow10)] W) : Tab W := by
  rw [MakeChecks.laidMetH_plain _ _ _ (by kernel_rfl)] at h
  obtain ⟨ps, ⟨g0, t0, cs0, f0, p0, q0, hg0, ht0, hv0, hd0, ⟨g1, t1, cs1, f1, p1, q1, hg1, ht1, hv1, hd1, ⟨g2, t2, cs2, f2, p2, q2, hg2, ht2, hv2, hd2, _, _⟩, _⟩, _⟩, _, _⟩ := h
  obtain rfl := Option.some.inj (gTab.symm.trans hg2)
  obtain rfl := Option.some.inj (tabTy.symm.trans ht2)
  rw [tabData'] at hd2
  unfold Tab Lib.TabIs
  rw [hv2, ← Lib.cells_of_tab Tryd.underlying108 Tryd.underlying101 (by kernel_rfl) (by kernel_rfl) hd2]

end Go.Proofs.YtdifeoahaegjbaaDoor
