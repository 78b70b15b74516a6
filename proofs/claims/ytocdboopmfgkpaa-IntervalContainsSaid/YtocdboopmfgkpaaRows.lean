/-
  No cell of these rows narrows 'for every input' (looked for: loops, veiled, ifaces, maps, wideKeys, modest, calm, conditions, laid).
  DERIVED. THE GIVEN ROWS OF THIS SEAT. 5 by the template 'for every input the law returns true; each argument reads behind the call as it read before'; 0 by the template 'total and deterministic' (their statements: YtocdboopmfgkpaaTotals.lean).
  GIVEN WITH THE SEED: the statements are not yours to turn. If you find one false, say at which input.
  Laid BY PROGRAM, IN A SANDBOX (cutbox-rows.mjs): the forced cells as the released guide's own fill.sh prints them over the translation cdb5b24e27410eaa… (all of the seat's roots in one cut). By AI agents, Wed Nov 11 2026. No macro, syntax, notation, axiom, sorry.
-/
import Derived.Test.YtocdboopmfgkpaaChecked
import GoSem.Claim
import GoSem.ClaimJoined
import GoSem.ClaimMapViews
import Derived.JoinedTies
import Derived.KernelRfl
namespace Go.Proofs.Ytocdboopmfgkpaa
/- THE CELL 'sum', in the pinned program and in every row, IS THE sha256 OF THE DUMP (.gsa) THAT YtocdboopmfgkpaaProg.lean LOADS. Nothing in Lean hashes anything: it is a label: what it is worth is what the hold of that sum in a sandbox is worth. -/
noncomputable def Try.pinned : Pinned := { name := "ytocdboopmfgkpaa", sum := "cdb5b24e27410eaa262de0ca97851b02036394cf192a8c3d1743e00fd298860c", checked := Try.checked }
namespace Rows
def none {H : Type} : Left H := { results := [], args := [] }

/-- 'ephemeriskeep2.IntervalDistributes': WHATEVER THE INPUT: true; the input reads as it did. -/
def intervalDistributesSpec : ChangeSpec := { name := "intervalDistributes", fn := fun _ => fun
  | [d1, d2, d3] => { results := [.lit (.bool true)], args := [d1, d2, d3] }
  | _ => none }
def intervalDistributesRow : OpenClaim := { program := "ytocdboopmfgkpaa", sum := "cdb5b24e27410eaa262de0ca97851b02036394cf192a8c3d1743e00fd298860c", func := "ephemeris/ephemeriskeep2.IntervalDistributes", spec := "intervalDistributes", named := ["math/bits.divideError", "math/bits.overflowError"], apart := false }
def IntervalDistributesSaid : Prop := intervalDistributesRow.holds Try.pinned (OpenSpec.ofChange intervalDistributesSpec)

/-- ITS FALSE NEIGHBOUR: 'it returns false'. Refute it at one input. -/
def intervalDistributesWrong : ChangeSpec := { name := "intervalDistributes", fn := fun _ => fun
  | [d1, d2, d3] => { results := [.lit (.bool false)], args := [d1, d2, d3] }
  | _ => none }
def IntervalDistributesWrongFalsely : Prop := intervalDistributesRow.holds Try.pinned (OpenSpec.ofChange intervalDistributesWrong)

/-- 'ephemeriskeep2.IntervalUndoes': WHATEVER THE INPUT: true; the input reads as it did. -/
def intervalUndoesSpec : ChangeSpec := { name := "intervalUndoes", fn := fun _ => fun
  | [d1, d2, d3, d4] => { results := [.lit (.bool true)], args := [d1, d2, d3, d4] }
  | _ => none }
def intervalUndoesRow : OpenClaim := { program := "ytocdboopmfgkpaa", sum := "cdb5b24e27410eaa262de0ca97851b02036394cf192a8c3d1743e00fd298860c", func := "ephemeris/ephemeriskeep2.IntervalUndoes", spec := "intervalUndoes", named := ["math/bits.divideError", "math/bits.overflowError"], apart := false }
def IntervalUndoesSaid : Prop := intervalUndoesRow.holds Try.pinned (OpenSpec.ofChange intervalUndoesSpec)

/-- ITS FALSE NEIGHBOUR: 'it returns false'. Refute it at one input. -/
def intervalUndoesWrong : ChangeSpec := { name := "intervalUndoes", fn := fun _ => fun
  | [d1, d2, d3, d4] => { results := [.lit (.bool false)], args := [d1, d2, d3, d4] }
  | _ => none }
def IntervalUndoesWrongFalsely : Prop := intervalUndoesRow.holds Try.pinned (OpenSpec.ofChange intervalUndoesWrong)

/-- 'ephemeriskeep2.IntervalContains': WHATEVER THE INPUT: true; the input reads as it did. -/
def intervalContainsSpec : ChangeSpec := { name := "intervalContains", fn := fun _ => fun
  | [d1, d2, d3, d4, d5] => { results := [.lit (.bool true)], args := [d1, d2, d3, d4, d5] }
  | _ => none }
def intervalContainsRow : OpenClaim := { program := "ytocdboopmfgkpaa", sum := "cdb5b24e27410eaa262de0ca97851b02036394cf192a8c3d1743e00fd298860c", func := "ephemeris/ephemeriskeep2.IntervalContains", spec := "intervalContains", named := ["math/bits.divideError", "math/bits.overflowError"], apart := false }
def IntervalContainsSaid : Prop := intervalContainsRow.holds Try.pinned (OpenSpec.ofChange intervalContainsSpec)

/-- ITS FALSE NEIGHBOUR: 'it returns false'. Refute it at one input. -/
def intervalContainsWrong : ChangeSpec := { name := "intervalContains", fn := fun _ => fun
  | [d1, d2, d3, d4, d5] => { results := [.lit (.bool false)], args := [d1, d2, d3, d4, d5] }
  | _ => none }
def IntervalContainsWrongFalsely : Prop := intervalContainsRow.holds Try.pinned (OpenSpec.ofChange intervalContainsWrong)

/-- 'ephemeriskeep2.IntervalOrders': WHATEVER THE INPUT: true; the input reads as it did. -/
def intervalOrdersSpec : ChangeSpec := { name := "intervalOrders", fn := fun _ => fun
  | [d1, d2] => { results := [.lit (.bool true)], args := [d1, d2] }
  | _ => none }
def intervalOrdersRow : OpenClaim := { program := "ytocdboopmfgkpaa", sum := "cdb5b24e27410eaa262de0ca97851b02036394cf192a8c3d1743e00fd298860c", func := "ephemeris/ephemeriskeep2.IntervalOrders", spec := "intervalOrders", named := ["math/bits.divideError", "math/bits.overflowError"], apart := false }
def IntervalOrdersSaid : Prop := intervalOrdersRow.holds Try.pinned (OpenSpec.ofChange intervalOrdersSpec)

/-- ITS FALSE NEIGHBOUR: 'it returns false'. Refute it at one input. -/
def intervalOrdersWrong : ChangeSpec := { name := "intervalOrders", fn := fun _ => fun
  | [d1, d2] => { results := [.lit (.bool false)], args := [d1, d2] }
  | _ => none }
def IntervalOrdersWrongFalsely : Prop := intervalOrdersRow.holds Try.pinned (OpenSpec.ofChange intervalOrdersWrong)

/-- 'ephemeriskeep2.IntervalParts': WHATEVER THE INPUT: true; the input reads as it did. -/
def intervalPartsSpec : ChangeSpec := { name := "intervalParts", fn := fun _ => fun
  | [d1, d2, d3] => { results := [.lit (.bool true)], args := [d1, d2, d3] }
  | _ => none }
def intervalPartsRow : OpenClaim := { program := "ytocdboopmfgkpaa", sum := "cdb5b24e27410eaa262de0ca97851b02036394cf192a8c3d1743e00fd298860c", func := "ephemeris/ephemeriskeep2.IntervalParts", spec := "intervalParts", named := ["math/bits.divideError", "math/bits.overflowError"], apart := false }
def IntervalPartsSaid : Prop := intervalPartsRow.holds Try.pinned (OpenSpec.ofChange intervalPartsSpec)

/-- ITS FALSE NEIGHBOUR: 'it returns false'. Refute it at one input. -/
def intervalPartsWrong : ChangeSpec := { name := "intervalParts", fn := fun _ => fun
  | [d1, d2, d3] => { results := [.lit (.bool false)], args := [d1, d2, d3] }
  | _ => none }
def IntervalPartsWrongFalsely : Prop := intervalPartsRow.holds Try.pinned (OpenSpec.ofChange intervalPartsWrong)

/- THE SECOND FORM. 'bulk': how many values and letters a reading holds, each counted each time it is reached (what is shared counts as often as it is met; a slice's spare places count too). A statement '..UptoSaid' is the law's where the arguments, and the package variables that the reading takes, are together of bulk at most 1048576: NARROWER than '..Said'. Prove '..Said' where nothing that the law and all that it calls make is longer than what came in: it says more and counts as full. Else prove '..UptoSaid'. A law counts once. -/
mutual
def uptoBulk {H : Type} : DataW H → Nat
  | .lit (.string bytes) => bytes.length + 1
  | .lit _ => 1
  | .nil => 1
  | .ptr d => uptoBulk d + 1
  | .slice elems spare => uptoBulkAll elems + uptoBulkAll spare + 1
  | .agg parts => uptoBulkAll parts + 1
  | .iface _ d => uptoBulk d + 1
  | .map entries => uptoBulkEntries entries + 1
  | .held _ => 1
def uptoBulkAll {H : Type} : List (DataW H) → Nat
  | [] => 0
  | d :: r => uptoBulk d + uptoBulkAll r
def uptoBulkEntries {H : Type} : List (Lit × DataW H) → Nat
  | [] => 0
  | x :: r => uptoBulkEntry x + uptoBulkEntries r
def uptoBulkEntry {H : Type} : Lit × DataW H → Nat
  | (.string bytes, d) => bytes.length + uptoBulk d + 1
  | (_, d) => uptoBulk d + 1
 end
def uptoSmall : (H : Type) → List (DataW H) → Bool := fun _ ds => decide (uptoBulkAll ds ≤ 1048576)
def OpenSpec.upto (s : _root_.Go.ChangeSpec) : _root_.Go.OpenSpec := { _root_.Go.OpenSpec.ofChange s with cond := some uptoSmall }

/-- 'ephemeriskeep2.IntervalDistributes', WHERE WHAT IT READS IS OF BULK AT MOST 1048576: true; the input reads as it did. -/
def intervalDistributesUptoRow : OpenClaim := { program := "ytocdboopmfgkpaa", sum := "cdb5b24e27410eaa262de0ca97851b02036394cf192a8c3d1743e00fd298860c", func := "ephemeris/ephemeriskeep2.IntervalDistributes", spec := "intervalDistributes", named := ["math/bits.divideError", "math/bits.overflowError"], apart := false, narrowed := true }
def IntervalDistributesUptoSaid : Prop := intervalDistributesUptoRow.holds Try.pinned (OpenSpec.upto intervalDistributesSpec)

/-- 'ephemeriskeep2.IntervalUndoes', WHERE WHAT IT READS IS OF BULK AT MOST 1048576: true; the input reads as it did. -/
def intervalUndoesUptoRow : OpenClaim := { program := "ytocdboopmfgkpaa", sum := "cdb5b24e27410eaa262de0ca97851b02036394cf192a8c3d1743e00fd298860c", func := "ephemeris/ephemeriskeep2.IntervalUndoes", spec := "intervalUndoes", named := ["math/bits.divideError", "math/bits.overflowError"], apart := false, narrowed := true }
def IntervalUndoesUptoSaid : Prop := intervalUndoesUptoRow.holds Try.pinned (OpenSpec.upto intervalUndoesSpec)

/-- 'ephemeriskeep2.IntervalContains', WHERE WHAT IT READS IS OF BULK AT MOST 1048576: true; the input reads as it did. -/
def intervalContainsUptoRow : OpenClaim := { program := "ytocdboopmfgkpaa", sum := "cdb5b24e27410eaa262de0ca97851b02036394cf192a8c3d1743e00fd298860c", func := "ephemeris/ephemeriskeep2.IntervalContains", spec := "intervalContains", named := ["math/bits.divideError", "math/bits.overflowError"], apart := false, narrowed := true }
def IntervalContainsUptoSaid : Prop := intervalContainsUptoRow.holds Try.pinned (OpenSpec.upto intervalContainsSpec)

/-- 'ephemeriskeep2.IntervalOrders', WHERE WHAT IT READS IS OF BULK AT MOST 1048576: true; the input reads as it did. -/
def intervalOrdersUptoRow : OpenClaim := { program := "ytocdboopmfgkpaa", sum := "cdb5b24e27410eaa262de0ca97851b02036394cf192a8c3d1743e00fd298860c", func := "ephemeris/ephemeriskeep2.IntervalOrders", spec := "intervalOrders", named := ["math/bits.divideError", "math/bits.overflowError"], apart := false, narrowed := true }
def IntervalOrdersUptoSaid : Prop := intervalOrdersUptoRow.holds Try.pinned (OpenSpec.upto intervalOrdersSpec)

/-- 'ephemeriskeep2.IntervalParts', WHERE WHAT IT READS IS OF BULK AT MOST 1048576: true; the input reads as it did. -/
def intervalPartsUptoRow : OpenClaim := { program := "ytocdboopmfgkpaa", sum := "cdb5b24e27410eaa262de0ca97851b02036394cf192a8c3d1743e00fd298860c", func := "ephemeris/ephemeriskeep2.IntervalParts", spec := "intervalParts", named := ["math/bits.divideError", "math/bits.overflowError"], apart := false, narrowed := true }
def IntervalPartsUptoSaid : Prop := intervalPartsUptoRow.holds Try.pinned (OpenSpec.upto intervalPartsSpec)

end Rows
end Go.Proofs.Ytocdboopmfgkpaa
