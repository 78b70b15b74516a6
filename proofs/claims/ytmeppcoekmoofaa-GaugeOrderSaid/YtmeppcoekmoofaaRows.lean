/-
  No cell of these rows narrows 'for every input' (looked for: loops, veiled, ifaces, maps, wideKeys, modest, calm, conditions, laid).
  DERIVED. THE GIVEN ROWS OF THIS SEAT. 12 by the template 'for every input the law returns true; each argument reads behind the call as it read before'; 0 by the template 'total and deterministic' (their statements: YtmeppcoekmoofaaTotals.lean).
  GIVEN WITH THE SEED: the statements are not yours to turn. If you find one false, say at which input.
  Laid BY PROGRAM, IN A SANDBOX (cutbox-rows.mjs): the forced cells as the released guide's own fill.sh prints them over the translation 75fd4f6c857c95a9… (all of the seat's roots in one cut). By AI agents, Wed Nov 11 2026. No macro, syntax, notation, axiom, sorry.
-/
import Derived.Test.YtmeppcoekmoofaaChecked
import GoSem.Claim
import GoSem.ClaimJoined
import GoSem.ClaimMapViews
import Derived.JoinedTies
import Derived.KernelRfl
namespace Go.Proofs.Ytmeppcoekmoofaa
/- THE CELL 'sum', in the pinned program and in every row, IS THE sha256 OF THE DUMP (.gsa) THAT YtmeppcoekmoofaaProg.lean LOADS. Nothing in Lean hashes anything: it is a label: what it is worth is what the hold of that sum in a sandbox is worth. -/
noncomputable def Try.pinned : Pinned := { name := "ytmeppcoekmoofaa", sum := "75fd4f6c857c95a93f549b616a7696478d22ea47e400420ceb1270f0363f5e78", checked := Try.checked }
namespace Rows
def none {H : Type} : Left H := { results := [], args := [] }

/-- 'ephemeriskeep2.ChronContains': WHATEVER THE INPUT: true; the input reads as it did. -/
def chronContainsSpec : ChangeSpec := { name := "chronContains", fn := fun _ => fun
  | [d1, d2] => { results := [.lit (.bool true)], args := [d1, d2] }
  | _ => none }
def chronContainsRow : OpenClaim := { program := "ytmeppcoekmoofaa", sum := "75fd4f6c857c95a93f549b616a7696478d22ea47e400420ceb1270f0363f5e78", func := "ephemeris/ephemeriskeep2.ChronContains", spec := "chronContains", apart := false }
def ChronContainsSaid : Prop := chronContainsRow.holds Try.pinned (OpenSpec.ofChange chronContainsSpec)

/-- ITS FALSE NEIGHBOUR: 'it returns false'. Refute it at one input. -/
def chronContainsWrong : ChangeSpec := { name := "chronContains", fn := fun _ => fun
  | [d1, d2] => { results := [.lit (.bool false)], args := [d1, d2] }
  | _ => none }
def ChronContainsWrongFalsely : Prop := chronContainsRow.holds Try.pinned (OpenSpec.ofChange chronContainsWrong)

/-- 'ephemeriskeep2.ChronEarliest': WHATEVER THE INPUT: true; the input reads as it did. -/
def chronEarliestSpec : ChangeSpec := { name := "chronEarliest", fn := fun _ => fun
  | [d1, d2, d3] => { results := [.lit (.bool true)], args := [d1, d2, d3] }
  | _ => none }
def chronEarliestRow : OpenClaim := { program := "ytmeppcoekmoofaa", sum := "75fd4f6c857c95a93f549b616a7696478d22ea47e400420ceb1270f0363f5e78", func := "ephemeris/ephemeriskeep2.ChronEarliest", spec := "chronEarliest", apart := false }
def ChronEarliestSaid : Prop := chronEarliestRow.holds Try.pinned (OpenSpec.ofChange chronEarliestSpec)

/-- ITS FALSE NEIGHBOUR: 'it returns false'. Refute it at one input. -/
def chronEarliestWrong : ChangeSpec := { name := "chronEarliest", fn := fun _ => fun
  | [d1, d2, d3] => { results := [.lit (.bool false)], args := [d1, d2, d3] }
  | _ => none }
def ChronEarliestWrongFalsely : Prop := chronEarliestRow.holds Try.pinned (OpenSpec.ofChange chronEarliestWrong)

/-- 'ephemeriskeep2.SmearApart': WHATEVER THE INPUT: true; the input reads as it did. -/
def smearApartSpec : ChangeSpec := { name := "smearApart", fn := fun _ => fun
  | [d1, d2, d3] => { results := [.lit (.bool true)], args := [d1, d2, d3] }
  | _ => none }
def smearApartRow : OpenClaim := { program := "ytmeppcoekmoofaa", sum := "75fd4f6c857c95a93f549b616a7696478d22ea47e400420ceb1270f0363f5e78", func := "ephemeris/ephemeriskeep2.SmearApart", spec := "smearApart", apart := false }
def SmearApartSaid : Prop := smearApartRow.holds Try.pinned (OpenSpec.ofChange smearApartSpec)

/-- ITS FALSE NEIGHBOUR: 'it returns false'. Refute it at one input. -/
def smearApartWrong : ChangeSpec := { name := "smearApart", fn := fun _ => fun
  | [d1, d2, d3] => { results := [.lit (.bool false)], args := [d1, d2, d3] }
  | _ => none }
def SmearApartWrongFalsely : Prop := smearApartRow.holds Try.pinned (OpenSpec.ofChange smearApartWrong)

/-- 'ephemeriskeep2.GaugeExact': WHATEVER THE INPUT: true; the input reads as it did. -/
def gaugeExactSpec : ChangeSpec := { name := "gaugeExact", fn := fun _ => fun
  | [d1, d2] => { results := [.lit (.bool true)], args := [d1, d2] }
  | _ => none }
def gaugeExactRow : OpenClaim := { program := "ytmeppcoekmoofaa", sum := "75fd4f6c857c95a93f549b616a7696478d22ea47e400420ceb1270f0363f5e78", func := "ephemeris/ephemeriskeep2.GaugeExact", spec := "gaugeExact", recurses := true, apart := false }
def GaugeExactSaid : Prop := gaugeExactRow.holds Try.pinned (OpenSpec.ofChange gaugeExactSpec)

/-- ITS FALSE NEIGHBOUR: 'it returns false'. Refute it at one input. -/
def gaugeExactWrong : ChangeSpec := { name := "gaugeExact", fn := fun _ => fun
  | [d1, d2] => { results := [.lit (.bool false)], args := [d1, d2] }
  | _ => none }
def GaugeExactWrongFalsely : Prop := gaugeExactRow.holds Try.pinned (OpenSpec.ofChange gaugeExactWrong)

/-- 'ephemeriskeep2.GaugeLeast': WHATEVER THE INPUT: true; the input reads as it did. -/
def gaugeLeastSpec : ChangeSpec := { name := "gaugeLeast", fn := fun _ => fun
  | [d1, d2, d3] => { results := [.lit (.bool true)], args := [d1, d2, d3] }
  | _ => none }
def gaugeLeastRow : OpenClaim := { program := "ytmeppcoekmoofaa", sum := "75fd4f6c857c95a93f549b616a7696478d22ea47e400420ceb1270f0363f5e78", func := "ephemeris/ephemeriskeep2.GaugeLeast", spec := "gaugeLeast", recurses := true, apart := false }
def GaugeLeastSaid : Prop := gaugeLeastRow.holds Try.pinned (OpenSpec.ofChange gaugeLeastSpec)

/-- ITS FALSE NEIGHBOUR: 'it returns false'. Refute it at one input. -/
def gaugeLeastWrong : ChangeSpec := { name := "gaugeLeast", fn := fun _ => fun
  | [d1, d2, d3] => { results := [.lit (.bool false)], args := [d1, d2, d3] }
  | _ => none }
def GaugeLeastWrongFalsely : Prop := gaugeLeastRow.holds Try.pinned (OpenSpec.ofChange gaugeLeastWrong)

/-- 'ephemeriskeep2.GaugeOrder': WHATEVER THE INPUT: true; the input reads as it did. -/
def gaugeOrderSpec : ChangeSpec := { name := "gaugeOrder", fn := fun _ => fun
  | [d1, d2, d3] => { results := [.lit (.bool true)], args := [d1, d2, d3] }
  | _ => none }
def gaugeOrderRow : OpenClaim := { program := "ytmeppcoekmoofaa", sum := "75fd4f6c857c95a93f549b616a7696478d22ea47e400420ceb1270f0363f5e78", func := "ephemeris/ephemeriskeep2.GaugeOrder", spec := "gaugeOrder", recurses := true, apart := false }
def GaugeOrderSaid : Prop := gaugeOrderRow.holds Try.pinned (OpenSpec.ofChange gaugeOrderSpec)

/-- ITS FALSE NEIGHBOUR: 'it returns false'. Refute it at one input. -/
def gaugeOrderWrong : ChangeSpec := { name := "gaugeOrder", fn := fun _ => fun
  | [d1, d2, d3] => { results := [.lit (.bool false)], args := [d1, d2, d3] }
  | _ => none }
def GaugeOrderWrongFalsely : Prop := gaugeOrderRow.holds Try.pinned (OpenSpec.ofChange gaugeOrderWrong)

/-- 'ephemeriskeep2.ContradictLoose': WHATEVER THE INPUT: true; the input reads as it did. -/
def contradictLooseSpec : ChangeSpec := { name := "contradictLoose", fn := fun _ => fun
  | [d1, d2] => { results := [.lit (.bool true)], args := [d1, d2] }
  | _ => none }
def contradictLooseRow : OpenClaim := { program := "ytmeppcoekmoofaa", sum := "75fd4f6c857c95a93f549b616a7696478d22ea47e400420ceb1270f0363f5e78", func := "ephemeris/ephemeriskeep2.ContradictLoose", spec := "contradictLoose", apart := false }
def ContradictLooseSaid : Prop := contradictLooseRow.holds Try.pinned (OpenSpec.ofChange contradictLooseSpec)

/-- ITS FALSE NEIGHBOUR: 'it returns false'. Refute it at one input. -/
def contradictLooseWrong : ChangeSpec := { name := "contradictLoose", fn := fun _ => fun
  | [d1, d2] => { results := [.lit (.bool false)], args := [d1, d2] }
  | _ => none }
def ContradictLooseWrongFalsely : Prop := contradictLooseRow.holds Try.pinned (OpenSpec.ofChange contradictLooseWrong)

/-- 'ephemeriskeep2.ContradictNeeded': WHATEVER THE INPUT: true; the input reads as it did. -/
def contradictNeededSpec : ChangeSpec := { name := "contradictNeeded", fn := fun _ => fun
  | [d1, d2] => { results := [.lit (.bool true)], args := [d1, d2] }
  | _ => none }
def contradictNeededRow : OpenClaim := { program := "ytmeppcoekmoofaa", sum := "75fd4f6c857c95a93f549b616a7696478d22ea47e400420ceb1270f0363f5e78", func := "ephemeris/ephemeriskeep2.ContradictNeeded", spec := "contradictNeeded", apart := false }
def ContradictNeededSaid : Prop := contradictNeededRow.holds Try.pinned (OpenSpec.ofChange contradictNeededSpec)

/-- ITS FALSE NEIGHBOUR: 'it returns false'. Refute it at one input. -/
def contradictNeededWrong : ChangeSpec := { name := "contradictNeeded", fn := fun _ => fun
  | [d1, d2] => { results := [.lit (.bool false)], args := [d1, d2] }
  | _ => none }
def ContradictNeededWrongFalsely : Prop := contradictNeededRow.holds Try.pinned (OpenSpec.ofChange contradictNeededWrong)

/-- 'ephemeriskeep2.ContradictSpare': WHATEVER THE INPUT: true; the input reads as it did. -/
def contradictSpareSpec : ChangeSpec := { name := "contradictSpare", fn := fun _ => fun
  | [d1, d2] => { results := [.lit (.bool true)], args := [d1, d2] }
  | _ => none }
def contradictSpareRow : OpenClaim := { program := "ytmeppcoekmoofaa", sum := "75fd4f6c857c95a93f549b616a7696478d22ea47e400420ceb1270f0363f5e78", func := "ephemeris/ephemeriskeep2.ContradictSpare", spec := "contradictSpare", apart := false }
def ContradictSpareSaid : Prop := contradictSpareRow.holds Try.pinned (OpenSpec.ofChange contradictSpareSpec)

/-- ITS FALSE NEIGHBOUR: 'it returns false'. Refute it at one input. -/
def contradictSpareWrong : ChangeSpec := { name := "contradictSpare", fn := fun _ => fun
  | [d1, d2] => { results := [.lit (.bool false)], args := [d1, d2] }
  | _ => none }
def ContradictSpareWrongFalsely : Prop := contradictSpareRow.holds Try.pinned (OpenSpec.ofChange contradictSpareWrong)

/-- 'ephemeristop.TopContradict': WHATEVER THE INPUT: true; the input reads as it did. -/
def topContradictSpec : ChangeSpec := { name := "topContradict", fn := fun _ => fun
  | [d1, d2, d3, d4] => { results := [.lit (.bool true)], args := [d1, d2, d3, d4] }
  | _ => none }
def topContradictRow : OpenClaim := { program := "ytmeppcoekmoofaa", sum := "75fd4f6c857c95a93f549b616a7696478d22ea47e400420ceb1270f0363f5e78", func := "ephemeris/ephemeristop.TopContradict", spec := "topContradict", apart := false }
def TopContradictSaid : Prop := topContradictRow.holds Try.pinned (OpenSpec.ofChange topContradictSpec)

/-- ITS FALSE NEIGHBOUR: 'it returns false'. Refute it at one input. -/
def topContradictWrong : ChangeSpec := { name := "topContradict", fn := fun _ => fun
  | [d1, d2, d3, d4] => { results := [.lit (.bool false)], args := [d1, d2, d3, d4] }
  | _ => none }
def TopContradictWrongFalsely : Prop := topContradictRow.holds Try.pinned (OpenSpec.ofChange topContradictWrong)

/-- 'ephemeriskeep2.DisciplineHonest': WHATEVER THE INPUT: true; the input reads as it did. -/
def disciplineHonestSpec : ChangeSpec := { name := "disciplineHonest", fn := fun _ => fun
  | [d1, d2, d3, d4] => { results := [.lit (.bool true)], args := [d1, d2, d3, d4] }
  | _ => none }
def disciplineHonestRow : OpenClaim := { program := "ytmeppcoekmoofaa", sum := "75fd4f6c857c95a93f549b616a7696478d22ea47e400420ceb1270f0363f5e78", func := "ephemeris/ephemeriskeep2.DisciplineHonest", spec := "disciplineHonest", apart := false }
def DisciplineHonestSaid : Prop := disciplineHonestRow.holds Try.pinned (OpenSpec.ofChange disciplineHonestSpec)

/-- ITS FALSE NEIGHBOUR: 'it returns false'. Refute it at one input. -/
def disciplineHonestWrong : ChangeSpec := { name := "disciplineHonest", fn := fun _ => fun
  | [d1, d2, d3, d4] => { results := [.lit (.bool false)], args := [d1, d2, d3, d4] }
  | _ => none }
def DisciplineHonestWrongFalsely : Prop := disciplineHonestRow.holds Try.pinned (OpenSpec.ofChange disciplineHonestWrong)

/-- 'ephemeristop.TopClocks': WHATEVER THE INPUT: true; the input reads as it did. -/
def topClocksSpec : ChangeSpec := { name := "topClocks", fn := fun _ => fun
  | [d1, d2, d3, d4] => { results := [.lit (.bool true)], args := [d1, d2, d3, d4] }
  | _ => none }
def topClocksRow : OpenClaim := { program := "ytmeppcoekmoofaa", sum := "75fd4f6c857c95a93f549b616a7696478d22ea47e400420ceb1270f0363f5e78", func := "ephemeris/ephemeristop.TopClocks", spec := "topClocks", apart := false }
def TopClocksSaid : Prop := topClocksRow.holds Try.pinned (OpenSpec.ofChange topClocksSpec)

/-- ITS FALSE NEIGHBOUR: 'it returns false'. Refute it at one input. -/
def topClocksWrong : ChangeSpec := { name := "topClocks", fn := fun _ => fun
  | [d1, d2, d3, d4] => { results := [.lit (.bool false)], args := [d1, d2, d3, d4] }
  | _ => none }
def TopClocksWrongFalsely : Prop := topClocksRow.holds Try.pinned (OpenSpec.ofChange topClocksWrong)

/- THE SECOND FORM. 'bulk': how many values and letters a reading holds, each counted each time it is reached (what is shared counts as often as it is met; a slice's spare places count too). A statement '..UptoSaid' is the law's where the arguments, and the package variables that the reading takes, are together of bulk at most 1048576: NARROWER than '..Said'. Prove '..Said' where nothing that the law and all that it calls make is longer than what came in: it says more and counts as full. Else prove '..UptoSaid'. A law counts once. -/
mutual
def uptoBulk {H : Type} : DataW H → Nat
  | .lit (.string bytes) => bytes.length + 1
  | .lit _ => 1
  | .nil => 1
  | .ptr d => uptoBulk d + 1
  | .slice elems spare => uptoBulkAll elems + uptoBulkAll spare + 1
  | .agg parts => uptoBulkAll parts + 1
  | .iface _ d => uptoBulk d + 1
  | .map entries => uptoBulkEntries entries + 1
  | .held _ => 1
def uptoBulkAll {H : Type} : List (DataW H) → Nat
  | [] => 0
  | d :: r => uptoBulk d + uptoBulkAll r
def uptoBulkEntries {H : Type} : List (Lit × DataW H) → Nat
  | [] => 0
  | x :: r => uptoBulkEntry x + uptoBulkEntries r
def uptoBulkEntry {H : Type} : Lit × DataW H → Nat
  | (.string bytes, d) => bytes.length + uptoBulk d + 1
  | (_, d) => uptoBulk d + 1
 end
def uptoSmall : (H : Type) → List (DataW H) → Bool := fun _ ds => decide (uptoBulkAll ds ≤ 1048576)
def OpenSpec.upto (s : _root_.Go.ChangeSpec) : _root_.Go.OpenSpec := { _root_.Go.OpenSpec.ofChange s with cond := some uptoSmall }

/-- 'ephemeriskeep2.ChronContains', WHERE WHAT IT READS IS OF BULK AT MOST 1048576: true; the input reads as it did. -/
def chronContainsUptoRow : OpenClaim := { program := "ytmeppcoekmoofaa", sum := "75fd4f6c857c95a93f549b616a7696478d22ea47e400420ceb1270f0363f5e78", func := "ephemeris/ephemeriskeep2.ChronContains", spec := "chronContains", apart := false, narrowed := true }
def ChronContainsUptoSaid : Prop := chronContainsUptoRow.holds Try.pinned (OpenSpec.upto chronContainsSpec)

/-- 'ephemeriskeep2.ChronEarliest', WHERE WHAT IT READS IS OF BULK AT MOST 1048576: true; the input reads as it did. -/
def chronEarliestUptoRow : OpenClaim := { program := "ytmeppcoekmoofaa", sum := "75fd4f6c857c95a93f549b616a7696478d22ea47e400420ceb1270f0363f5e78", func := "ephemeris/ephemeriskeep2.ChronEarliest", spec := "chronEarliest", apart := false, narrowed := true }
def ChronEarliestUptoSaid : Prop := chronEarliestUptoRow.holds Try.pinned (OpenSpec.upto chronEarliestSpec)

/-- 'ephemeriskeep2.SmearApart', WHERE WHAT IT READS IS OF BULK AT MOST 1048576: true; the input reads as it did. -/
def smearApartUptoRow : OpenClaim := { program := "ytmeppcoekmoofaa", sum := "75fd4f6c857c95a93f549b616a7696478d22ea47e400420ceb1270f0363f5e78", func := "ephemeris/ephemeriskeep2.SmearApart", spec := "smearApart", apart := false, narrowed := true }
def SmearApartUptoSaid : Prop := smearApartUptoRow.holds Try.pinned (OpenSpec.upto smearApartSpec)

/-- 'ephemeriskeep2.GaugeExact', WHERE WHAT IT READS IS OF BULK AT MOST 1048576: true; the input reads as it did. -/
def gaugeExactUptoRow : OpenClaim := { program := "ytmeppcoekmoofaa", sum := "75fd4f6c857c95a93f549b616a7696478d22ea47e400420ceb1270f0363f5e78", func := "ephemeris/ephemeriskeep2.GaugeExact", spec := "gaugeExact", recurses := true, apart := false, narrowed := true }
def GaugeExactUptoSaid : Prop := gaugeExactUptoRow.holds Try.pinned (OpenSpec.upto gaugeExactSpec)

/-- 'ephemeriskeep2.GaugeLeast', WHERE WHAT IT READS IS OF BULK AT MOST 1048576: true; the input reads as it did. -/
def gaugeLeastUptoRow : OpenClaim := { program := "ytmeppcoekmoofaa", sum := "75fd4f6c857c95a93f549b616a7696478d22ea47e400420ceb1270f0363f5e78", func := "ephemeris/ephemeriskeep2.GaugeLeast", spec := "gaugeLeast", recurses := true, apart := false, narrowed := true }
def GaugeLeastUptoSaid : Prop := gaugeLeastUptoRow.holds Try.pinned (OpenSpec.upto gaugeLeastSpec)

/-- 'ephemeriskeep2.GaugeOrder', WHERE WHAT IT READS IS OF BULK AT MOST 1048576: true; the input reads as it did. -/
def gaugeOrderUptoRow : OpenClaim := { program := "ytmeppcoekmoofaa", sum := "75fd4f6c857c95a93f549b616a7696478d22ea47e400420ceb1270f0363f5e78", func := "ephemeris/ephemeriskeep2.GaugeOrder", spec := "gaugeOrder", recurses := true, apart := false, narrowed := true }
def GaugeOrderUptoSaid : Prop := gaugeOrderUptoRow.holds Try.pinned (OpenSpec.upto gaugeOrderSpec)

/-- 'ephemeriskeep2.ContradictLoose', WHERE WHAT IT READS IS OF BULK AT MOST 1048576: true; the input reads as it did. -/
def contradictLooseUptoRow : OpenClaim := { program := "ytmeppcoekmoofaa", sum := "75fd4f6c857c95a93f549b616a7696478d22ea47e400420ceb1270f0363f5e78", func := "ephemeris/ephemeriskeep2.ContradictLoose", spec := "contradictLoose", apart := false, narrowed := true }
def ContradictLooseUptoSaid : Prop := contradictLooseUptoRow.holds Try.pinned (OpenSpec.upto contradictLooseSpec)

/-- 'ephemeriskeep2.ContradictNeeded', WHERE WHAT IT READS IS OF BULK AT MOST 1048576: true; the input reads as it did. -/
def contradictNeededUptoRow : OpenClaim := { program := "ytmeppcoekmoofaa", sum := "75fd4f6c857c95a93f549b616a7696478d22ea47e400420ceb1270f0363f5e78", func := "ephemeris/ephemeriskeep2.ContradictNeeded", spec := "contradictNeeded", apart := false, narrowed := true }
def ContradictNeededUptoSaid : Prop := contradictNeededUptoRow.holds Try.pinned (OpenSpec.upto contradictNeededSpec)

/-- 'ephemeriskeep2.ContradictSpare', WHERE WHAT IT READS IS OF BULK AT MOST 1048576: true; the input reads as it did. -/
def contradictSpareUptoRow : OpenClaim := { program := "ytmeppcoekmoofaa", sum := "75fd4f6c857c95a93f549b616a7696478d22ea47e400420ceb1270f0363f5e78", func := "ephemeris/ephemeriskeep2.ContradictSpare", spec := "contradictSpare", apart := false, narrowed := true }
def ContradictSpareUptoSaid : Prop := contradictSpareUptoRow.holds Try.pinned (OpenSpec.upto contradictSpareSpec)

/-- 'ephemeristop.TopContradict', WHERE WHAT IT READS IS OF BULK AT MOST 1048576: true; the input reads as it did. -/
def topContradictUptoRow : OpenClaim := { program := "ytmeppcoekmoofaa", sum := "75fd4f6c857c95a93f549b616a7696478d22ea47e400420ceb1270f0363f5e78", func := "ephemeris/ephemeristop.TopContradict", spec := "topContradict", apart := false, narrowed := true }
def TopContradictUptoSaid : Prop := topContradictUptoRow.holds Try.pinned (OpenSpec.upto topContradictSpec)

/-- 'ephemeriskeep2.DisciplineHonest', WHERE WHAT IT READS IS OF BULK AT MOST 1048576: true; the input reads as it did. -/
def disciplineHonestUptoRow : OpenClaim := { program := "ytmeppcoekmoofaa", sum := "75fd4f6c857c95a93f549b616a7696478d22ea47e400420ceb1270f0363f5e78", func := "ephemeris/ephemeriskeep2.DisciplineHonest", spec := "disciplineHonest", apart := false, narrowed := true }
def DisciplineHonestUptoSaid : Prop := disciplineHonestUptoRow.holds Try.pinned (OpenSpec.upto disciplineHonestSpec)

/-- 'ephemeristop.TopClocks', WHERE WHAT IT READS IS OF BULK AT MOST 1048576: true; the input reads as it did. -/
def topClocksUptoRow : OpenClaim := { program := "ytmeppcoekmoofaa", sum := "75fd4f6c857c95a93f549b616a7696478d22ea47e400420ceb1270f0363f5e78", func := "ephemeris/ephemeristop.TopClocks", spec := "topClocks", apart := false, narrowed := true }
def TopClocksUptoSaid : Prop := topClocksUptoRow.holds Try.pinned (OpenSpec.upto topClocksSpec)

end Rows
end Go.Proofs.Ytmeppcoekmoofaa
