/-
  No cell of these rows narrows 'for every input' (looked for: loops, veiled, ifaces, maps, wideKeys, modest, calm, conditions, laid).
  DERIVED. THE GIVEN ROWS OF THIS SEAT. 12 by the template 'for every input the law returns true; each argument reads behind the call as it read before'; 0 by the template 'total and deterministic' (their statements: YtaemgglkdeklmaaTotals.lean).
  GIVEN WITH THE SEED: the statements are not yours to turn. If you find one false, say at which input.
  Laid BY PROGRAM, IN A SANDBOX (cutbox-rows.mjs): the forced cells as the released guide's own fill.sh prints them over the translation 866f8bc6c8e296da… (all of the seat's roots in one cut). By AI agents, Wed Nov 11 2026. No macro, syntax, notation, axiom, sorry.
-/
import Derived.Test.YtaemgglkdeklmaaChecked
import GoSem.Claim
import GoSem.ClaimJoined
import GoSem.ClaimMapViews
import Derived.JoinedTies
import Derived.KernelRfl
namespace Go.Proofs.Ytaemgglkdeklmaa
/- THE CELL 'sum', in the pinned program and in every row, IS THE sha256 OF THE DUMP (.gsa) THAT YtaemgglkdeklmaaProg.lean LOADS. Nothing in Lean hashes anything: it is a label: what it is worth is what the hold of that sum in a sandbox is worth. -/
noncomputable def Try.pinned : Pinned := { name := "ytaemgglkdeklmaa", sum := "866f8bc6c8e296da5448fe005e2f05c7df1e8546dbced695cd24e93168d0c23b", checked := Try.checked }
namespace Rows
def none {H : Type} : Left H := { results := [], args := [] }

/-- 'ephemeriskeep2.LinkHonest': WHATEVER THE INPUT: true; the input reads as it did. -/
def linkHonestSpec : ChangeSpec := { name := "linkHonest", fn := fun _ => fun
  | [d1, d2, d3, d4, d5] => { results := [.lit (.bool true)], args := [d1, d2, d3, d4, d5] }
  | _ => none }
def linkHonestRow : OpenClaim := { program := "ytaemgglkdeklmaa", sum := "866f8bc6c8e296da5448fe005e2f05c7df1e8546dbced695cd24e93168d0c23b", func := "ephemeris/ephemeriskeep2.LinkHonest", spec := "linkHonest", apart := false }
def LinkHonestSaid : Prop := linkHonestRow.holds Try.pinned (OpenSpec.ofChange linkHonestSpec)

/-- ITS FALSE NEIGHBOUR: 'it returns false'. Refute it at one input. -/
def linkHonestWrong : ChangeSpec := { name := "linkHonest", fn := fun _ => fun
  | [d1, d2, d3, d4, d5] => { results := [.lit (.bool false)], args := [d1, d2, d3, d4, d5] }
  | _ => none }
def LinkHonestWrongFalsely : Prop := linkHonestRow.holds Try.pinned (OpenSpec.ofChange linkHonestWrong)

/-- 'ephemeriskeep2.LinkBestHonest': WHATEVER THE INPUT: true; the input reads as it did. -/
def linkBestHonestSpec : ChangeSpec := { name := "linkBestHonest", fn := fun _ => fun
  | [d1, d2] => { results := [.lit (.bool true)], args := [d1, d2] }
  | _ => none }
def linkBestHonestRow : OpenClaim := { program := "ytaemgglkdeklmaa", sum := "866f8bc6c8e296da5448fe005e2f05c7df1e8546dbced695cd24e93168d0c23b", func := "ephemeris/ephemeriskeep2.LinkBestHonest", spec := "linkBestHonest", apart := false }
def LinkBestHonestSaid : Prop := linkBestHonestRow.holds Try.pinned (OpenSpec.ofChange linkBestHonestSpec)

/-- ITS FALSE NEIGHBOUR: 'it returns false'. Refute it at one input. -/
def linkBestHonestWrong : ChangeSpec := { name := "linkBestHonest", fn := fun _ => fun
  | [d1, d2] => { results := [.lit (.bool false)], args := [d1, d2] }
  | _ => none }
def LinkBestHonestWrongFalsely : Prop := linkBestHonestRow.holds Try.pinned (OpenSpec.ofChange linkBestHonestWrong)

/-- 'ephemeriskeep2.SourceSteps': WHATEVER THE INPUT: true; the input reads as it did. -/
def sourceStepsSpec : ChangeSpec := { name := "sourceSteps", fn := fun _ => fun
  | [d1, d2, d3, d4] => { results := [.lit (.bool true)], args := [d1, d2, d3, d4] }
  | _ => none }
def sourceStepsRow : OpenClaim := { program := "ytaemgglkdeklmaa", sum := "866f8bc6c8e296da5448fe005e2f05c7df1e8546dbced695cd24e93168d0c23b", func := "ephemeris/ephemeriskeep2.SourceSteps", spec := "sourceSteps", apart := false }
def SourceStepsSaid : Prop := sourceStepsRow.holds Try.pinned (OpenSpec.ofChange sourceStepsSpec)

/-- ITS FALSE NEIGHBOUR: 'it returns false'. Refute it at one input. -/
def sourceStepsWrong : ChangeSpec := { name := "sourceSteps", fn := fun _ => fun
  | [d1, d2, d3, d4] => { results := [.lit (.bool false)], args := [d1, d2, d3, d4] }
  | _ => none }
def SourceStepsWrongFalsely : Prop := sourceStepsRow.holds Try.pinned (OpenSpec.ofChange sourceStepsWrong)

/-- 'ephemeriskeep2.OscillAdds': WHATEVER THE INPUT: true; the input reads as it did. -/
def oscillAddsSpec : ChangeSpec := { name := "oscillAdds", fn := fun _ => fun
  | [d1, d2, d3] => { results := [.lit (.bool true)], args := [d1, d2, d3] }
  | _ => none }
def oscillAddsRow : OpenClaim := { program := "ytaemgglkdeklmaa", sum := "866f8bc6c8e296da5448fe005e2f05c7df1e8546dbced695cd24e93168d0c23b", func := "ephemeris/ephemeriskeep2.OscillAdds", spec := "oscillAdds", apart := false }
def OscillAddsSaid : Prop := oscillAddsRow.holds Try.pinned (OpenSpec.ofChange oscillAddsSpec)

/-- ITS FALSE NEIGHBOUR: 'it returns false'. Refute it at one input. -/
def oscillAddsWrong : ChangeSpec := { name := "oscillAdds", fn := fun _ => fun
  | [d1, d2, d3] => { results := [.lit (.bool false)], args := [d1, d2, d3] }
  | _ => none }
def OscillAddsWrongFalsely : Prop := oscillAddsRow.holds Try.pinned (OpenSpec.ofChange oscillAddsWrong)

/-- 'ephemeriskeep2.OscillHolds': WHATEVER THE INPUT: true; the input reads as it did. -/
def oscillHoldsSpec : ChangeSpec := { name := "oscillHolds", fn := fun _ => fun
  | [d1, d2, d3, d4, d5] => { results := [.lit (.bool true)], args := [d1, d2, d3, d4, d5] }
  | _ => none }
def oscillHoldsRow : OpenClaim := { program := "ytaemgglkdeklmaa", sum := "866f8bc6c8e296da5448fe005e2f05c7df1e8546dbced695cd24e93168d0c23b", func := "ephemeris/ephemeriskeep2.OscillHolds", spec := "oscillHolds", apart := false }
def OscillHoldsSaid : Prop := oscillHoldsRow.holds Try.pinned (OpenSpec.ofChange oscillHoldsSpec)

/-- ITS FALSE NEIGHBOUR: 'it returns false'. Refute it at one input. -/
def oscillHoldsWrong : ChangeSpec := { name := "oscillHolds", fn := fun _ => fun
  | [d1, d2, d3, d4, d5] => { results := [.lit (.bool false)], args := [d1, d2, d3, d4, d5] }
  | _ => none }
def OscillHoldsWrongFalsely : Prop := oscillHoldsRow.holds Try.pinned (OpenSpec.ofChange oscillHoldsWrong)

/-- 'ephemeriskeep2.ChronNarrows': WHATEVER THE INPUT: true; the input reads as it did. -/
def chronNarrowsSpec : ChangeSpec := { name := "chronNarrows", fn := fun _ => fun
  | [d1, d2] => { results := [.lit (.bool true)], args := [d1, d2] }
  | _ => none }
def chronNarrowsRow : OpenClaim := { program := "ytaemgglkdeklmaa", sum := "866f8bc6c8e296da5448fe005e2f05c7df1e8546dbced695cd24e93168d0c23b", func := "ephemeris/ephemeriskeep2.ChronNarrows", spec := "chronNarrows", apart := false }
def ChronNarrowsSaid : Prop := chronNarrowsRow.holds Try.pinned (OpenSpec.ofChange chronNarrowsSpec)

/-- ITS FALSE NEIGHBOUR: 'it returns false'. Refute it at one input. -/
def chronNarrowsWrong : ChangeSpec := { name := "chronNarrows", fn := fun _ => fun
  | [d1, d2] => { results := [.lit (.bool false)], args := [d1, d2] }
  | _ => none }
def ChronNarrowsWrongFalsely : Prop := chronNarrowsRow.holds Try.pinned (OpenSpec.ofChange chronNarrowsWrong)

/-- 'ephemeriskeep2.LeapBack': WHATEVER THE INPUT: true; the input reads as it did. -/
def leapBackSpec : ChangeSpec := { name := "leapBack", fn := fun _ => fun
  | [d1, d2] => { results := [.lit (.bool true)], args := [d1, d2] }
  | _ => none }
def leapBackRow : OpenClaim := { program := "ytaemgglkdeklmaa", sum := "866f8bc6c8e296da5448fe005e2f05c7df1e8546dbced695cd24e93168d0c23b", func := "ephemeris/ephemeriskeep2.LeapBack", spec := "leapBack", apart := false }
def LeapBackSaid : Prop := leapBackRow.holds Try.pinned (OpenSpec.ofChange leapBackSpec)

/-- ITS FALSE NEIGHBOUR: 'it returns false'. Refute it at one input. -/
def leapBackWrong : ChangeSpec := { name := "leapBack", fn := fun _ => fun
  | [d1, d2] => { results := [.lit (.bool false)], args := [d1, d2] }
  | _ => none }
def LeapBackWrongFalsely : Prop := leapBackRow.holds Try.pinned (OpenSpec.ofChange leapBackWrong)

/-- 'ephemeriskeep2.LeapGrows': WHATEVER THE INPUT: true; the input reads as it did. -/
def leapGrowsSpec : ChangeSpec := { name := "leapGrows", fn := fun _ => fun
  | [d1, d2, d3] => { results := [.lit (.bool true)], args := [d1, d2, d3] }
  | _ => none }
def leapGrowsRow : OpenClaim := { program := "ytaemgglkdeklmaa", sum := "866f8bc6c8e296da5448fe005e2f05c7df1e8546dbced695cd24e93168d0c23b", func := "ephemeris/ephemeriskeep2.LeapGrows", spec := "leapGrows", apart := false }
def LeapGrowsSaid : Prop := leapGrowsRow.holds Try.pinned (OpenSpec.ofChange leapGrowsSpec)

/-- ITS FALSE NEIGHBOUR: 'it returns false'. Refute it at one input. -/
def leapGrowsWrong : ChangeSpec := { name := "leapGrows", fn := fun _ => fun
  | [d1, d2, d3] => { results := [.lit (.bool false)], args := [d1, d2, d3] }
  | _ => none }
def LeapGrowsWrongFalsely : Prop := leapGrowsRow.holds Try.pinned (OpenSpec.ofChange leapGrowsWrong)

/-- 'ephemeriskeep2.AgreeMajority': WHATEVER THE INPUT: true; the input reads as it did. -/
def agreeMajoritySpec : ChangeSpec := { name := "agreeMajority", fn := fun _ => fun
  | [d1, d2] => { results := [.lit (.bool true)], args := [d1, d2] }
  | _ => none }
def agreeMajorityRow : OpenClaim := { program := "ytaemgglkdeklmaa", sum := "866f8bc6c8e296da5448fe005e2f05c7df1e8546dbced695cd24e93168d0c23b", func := "ephemeris/ephemeriskeep2.AgreeMajority", spec := "agreeMajority", apart := false }
def AgreeMajoritySaid : Prop := agreeMajorityRow.holds Try.pinned (OpenSpec.ofChange agreeMajoritySpec)

/-- ITS FALSE NEIGHBOUR: 'it returns false'. Refute it at one input. -/
def agreeMajorityWrong : ChangeSpec := { name := "agreeMajority", fn := fun _ => fun
  | [d1, d2] => { results := [.lit (.bool false)], args := [d1, d2] }
  | _ => none }
def AgreeMajorityWrongFalsely : Prop := agreeMajorityRow.holds Try.pinned (OpenSpec.ofChange agreeMajorityWrong)

/-- 'ephemeriskeep2.AgreeNested': WHATEVER THE INPUT: true; the input reads as it did. -/
def agreeNestedSpec : ChangeSpec := { name := "agreeNested", fn := fun _ => fun
  | [d1, d2] => { results := [.lit (.bool true)], args := [d1, d2] }
  | _ => none }
def agreeNestedRow : OpenClaim := { program := "ytaemgglkdeklmaa", sum := "866f8bc6c8e296da5448fe005e2f05c7df1e8546dbced695cd24e93168d0c23b", func := "ephemeris/ephemeriskeep2.AgreeNested", spec := "agreeNested", apart := false }
def AgreeNestedSaid : Prop := agreeNestedRow.holds Try.pinned (OpenSpec.ofChange agreeNestedSpec)

/-- ITS FALSE NEIGHBOUR: 'it returns false'. Refute it at one input. -/
def agreeNestedWrong : ChangeSpec := { name := "agreeNested", fn := fun _ => fun
  | [d1, d2] => { results := [.lit (.bool false)], args := [d1, d2] }
  | _ => none }
def AgreeNestedWrongFalsely : Prop := agreeNestedRow.holds Try.pinned (OpenSpec.ofChange agreeNestedWrong)

/-- 'ephemeriskeep2.AgreeTurned': WHATEVER THE INPUT: true; the input reads as it did. -/
def agreeTurnedSpec : ChangeSpec := { name := "agreeTurned", fn := fun _ => fun
  | [d1, d2] => { results := [.lit (.bool true)], args := [d1, d2] }
  | _ => none }
def agreeTurnedRow : OpenClaim := { program := "ytaemgglkdeklmaa", sum := "866f8bc6c8e296da5448fe005e2f05c7df1e8546dbced695cd24e93168d0c23b", func := "ephemeris/ephemeriskeep2.AgreeTurned", spec := "agreeTurned", apart := false }
def AgreeTurnedSaid : Prop := agreeTurnedRow.holds Try.pinned (OpenSpec.ofChange agreeTurnedSpec)

/-- ITS FALSE NEIGHBOUR: 'it returns false'. Refute it at one input. -/
def agreeTurnedWrong : ChangeSpec := { name := "agreeTurned", fn := fun _ => fun
  | [d1, d2] => { results := [.lit (.bool false)], args := [d1, d2] }
  | _ => none }
def AgreeTurnedWrongFalsely : Prop := agreeTurnedRow.holds Try.pinned (OpenSpec.ofChange agreeTurnedWrong)

/-- 'ephemeriskeep2.SmearGrows': WHATEVER THE INPUT: true; the input reads as it did. -/
def smearGrowsSpec : ChangeSpec := { name := "smearGrows", fn := fun _ => fun
  | [d1, d2, d3, d4] => { results := [.lit (.bool true)], args := [d1, d2, d3, d4] }
  | _ => none }
def smearGrowsRow : OpenClaim := { program := "ytaemgglkdeklmaa", sum := "866f8bc6c8e296da5448fe005e2f05c7df1e8546dbced695cd24e93168d0c23b", func := "ephemeris/ephemeriskeep2.SmearGrows", spec := "smearGrows", apart := false }
def SmearGrowsSaid : Prop := smearGrowsRow.holds Try.pinned (OpenSpec.ofChange smearGrowsSpec)

/-- ITS FALSE NEIGHBOUR: 'it returns false'. Refute it at one input. -/
def smearGrowsWrong : ChangeSpec := { name := "smearGrows", fn := fun _ => fun
  | [d1, d2, d3, d4] => { results := [.lit (.bool false)], args := [d1, d2, d3, d4] }
  | _ => none }
def SmearGrowsWrongFalsely : Prop := smearGrowsRow.holds Try.pinned (OpenSpec.ofChange smearGrowsWrong)

/- THE SECOND FORM. 'bulk': how many values and letters a reading holds, each counted each time it is reached (what is shared counts as often as it is met; a slice's spare places count too). A statement '..UptoSaid' is the law's where the arguments, and the package variables that the reading takes, are together of bulk at most 1048576: NARROWER than '..Said'. Prove '..Said' where nothing that the law and all that it calls make is longer than what came in: it says more and counts as full. Else prove '..UptoSaid'. A law counts once. -/
mutual
def uptoBulk {H : Type} : DataW H → Nat
  | .lit (.string bytes) => bytes.length + 1
  | .lit _ => 1
  | .nil => 1
  | .ptr d => uptoBulk d + 1
  | .slice elems spare => uptoBulkAll elems + uptoBulkAll spare + 1
  | .agg parts => uptoBulkAll parts + 1
  | .iface _ d => uptoBulk d + 1
  | .map entries => uptoBulkEntries entries + 1
  | .held _ => 1
def uptoBulkAll {H : Type} : List (DataW H) → Nat
  | [] => 0
  | d :: r => uptoBulk d + uptoBulkAll r
def uptoBulkEntries {H : Type} : List (Lit × DataW H) → Nat
  | [] => 0
  | x :: r => uptoBulkEntry x + uptoBulkEntries r
def uptoBulkEntry {H : Type} : Lit × DataW H → Nat
  | (.string bytes, d) => bytes.length + uptoBulk d + 1
  | (_, d) => uptoBulk d + 1
 end
def uptoSmall : (H : Type) → List (DataW H) → Bool := fun _ ds => decide (uptoBulkAll ds ≤ 1048576)
def OpenSpec.upto (s : _root_.Go.ChangeSpec) : _root_.Go.OpenSpec := { _root_.Go.OpenSpec.ofChange s with cond := some uptoSmall }

/-- 'ephemeriskeep2.LinkHonest', WHERE WHAT IT READS IS OF BULK AT MOST 1048576: true; the input reads as it did. -/
def linkHonestUptoRow : OpenClaim := { program := "ytaemgglkdeklmaa", sum := "866f8bc6c8e296da5448fe005e2f05c7df1e8546dbced695cd24e93168d0c23b", func := "ephemeris/ephemeriskeep2.LinkHonest", spec := "linkHonest", apart := false, narrowed := true }
def LinkHonestUptoSaid : Prop := linkHonestUptoRow.holds Try.pinned (OpenSpec.upto linkHonestSpec)

/-- 'ephemeriskeep2.LinkBestHonest', WHERE WHAT IT READS IS OF BULK AT MOST 1048576: true; the input reads as it did. -/
def linkBestHonestUptoRow : OpenClaim := { program := "ytaemgglkdeklmaa", sum := "866f8bc6c8e296da5448fe005e2f05c7df1e8546dbced695cd24e93168d0c23b", func := "ephemeris/ephemeriskeep2.LinkBestHonest", spec := "linkBestHonest", apart := false, narrowed := true }
def LinkBestHonestUptoSaid : Prop := linkBestHonestUptoRow.holds Try.pinned (OpenSpec.upto linkBestHonestSpec)

/-- 'ephemeriskeep2.SourceSteps', WHERE WHAT IT READS IS OF BULK AT MOST 1048576: true; the input reads as it did. -/
def sourceStepsUptoRow : OpenClaim := { program := "ytaemgglkdeklmaa", sum := "866f8bc6c8e296da5448fe005e2f05c7df1e8546dbced695cd24e93168d0c23b", func := "ephemeris/ephemeriskeep2.SourceSteps", spec := "sourceSteps", apart := false, narrowed := true }
def SourceStepsUptoSaid : Prop := sourceStepsUptoRow.holds Try.pinned (OpenSpec.upto sourceStepsSpec)

/-- 'ephemeriskeep2.OscillAdds', WHERE WHAT IT READS IS OF BULK AT MOST 1048576: true; the input reads as it did. -/
def oscillAddsUptoRow : OpenClaim := { program := "ytaemgglkdeklmaa", sum := "866f8bc6c8e296da5448fe005e2f05c7df1e8546dbced695cd24e93168d0c23b", func := "ephemeris/ephemeriskeep2.OscillAdds", spec := "oscillAdds", apart := false, narrowed := true }
def OscillAddsUptoSaid : Prop := oscillAddsUptoRow.holds Try.pinned (OpenSpec.upto oscillAddsSpec)

/-- 'ephemeriskeep2.OscillHolds', WHERE WHAT IT READS IS OF BULK AT MOST 1048576: true; the input reads as it did. -/
def oscillHoldsUptoRow : OpenClaim := { program := "ytaemgglkdeklmaa", sum := "866f8bc6c8e296da5448fe005e2f05c7df1e8546dbced695cd24e93168d0c23b", func := "ephemeris/ephemeriskeep2.OscillHolds", spec := "oscillHolds", apart := false, narrowed := true }
def OscillHoldsUptoSaid : Prop := oscillHoldsUptoRow.holds Try.pinned (OpenSpec.upto oscillHoldsSpec)

/-- 'ephemeriskeep2.ChronNarrows', WHERE WHAT IT READS IS OF BULK AT MOST 1048576: true; the input reads as it did. -/
def chronNarrowsUptoRow : OpenClaim := { program := "ytaemgglkdeklmaa", sum := "866f8bc6c8e296da5448fe005e2f05c7df1e8546dbced695cd24e93168d0c23b", func := "ephemeris/ephemeriskeep2.ChronNarrows", spec := "chronNarrows", apart := false, narrowed := true }
def ChronNarrowsUptoSaid : Prop := chronNarrowsUptoRow.holds Try.pinned (OpenSpec.upto chronNarrowsSpec)

/-- 'ephemeriskeep2.LeapBack', WHERE WHAT IT READS IS OF BULK AT MOST 1048576: true; the input reads as it did. -/
def leapBackUptoRow : OpenClaim := { program := "ytaemgglkdeklmaa", sum := "866f8bc6c8e296da5448fe005e2f05c7df1e8546dbced695cd24e93168d0c23b", func := "ephemeris/ephemeriskeep2.LeapBack", spec := "leapBack", apart := false, narrowed := true }
def LeapBackUptoSaid : Prop := leapBackUptoRow.holds Try.pinned (OpenSpec.upto leapBackSpec)

/-- 'ephemeriskeep2.LeapGrows', WHERE WHAT IT READS IS OF BULK AT MOST 1048576: true; the input reads as it did. -/
def leapGrowsUptoRow : OpenClaim := { program := "ytaemgglkdeklmaa", sum := "866f8bc6c8e296da5448fe005e2f05c7df1e8546dbced695cd24e93168d0c23b", func := "ephemeris/ephemeriskeep2.LeapGrows", spec := "leapGrows", apart := false, narrowed := true }
def LeapGrowsUptoSaid : Prop := leapGrowsUptoRow.holds Try.pinned (OpenSpec.upto leapGrowsSpec)

/-- 'ephemeriskeep2.AgreeMajority', WHERE WHAT IT READS IS OF BULK AT MOST 1048576: true; the input reads as it did. -/
def agreeMajorityUptoRow : OpenClaim := { program := "ytaemgglkdeklmaa", sum := "866f8bc6c8e296da5448fe005e2f05c7df1e8546dbced695cd24e93168d0c23b", func := "ephemeris/ephemeriskeep2.AgreeMajority", spec := "agreeMajority", apart := false, narrowed := true }
def AgreeMajorityUptoSaid : Prop := agreeMajorityUptoRow.holds Try.pinned (OpenSpec.upto agreeMajoritySpec)

/-- 'ephemeriskeep2.AgreeNested', WHERE WHAT IT READS IS OF BULK AT MOST 1048576: true; the input reads as it did. -/
def agreeNestedUptoRow : OpenClaim := { program := "ytaemgglkdeklmaa", sum := "866f8bc6c8e296da5448fe005e2f05c7df1e8546dbced695cd24e93168d0c23b", func := "ephemeris/ephemeriskeep2.AgreeNested", spec := "agreeNested", apart := false, narrowed := true }
def AgreeNestedUptoSaid : Prop := agreeNestedUptoRow.holds Try.pinned (OpenSpec.upto agreeNestedSpec)

/-- 'ephemeriskeep2.AgreeTurned', WHERE WHAT IT READS IS OF BULK AT MOST 1048576: true; the input reads as it did. -/
def agreeTurnedUptoRow : OpenClaim := { program := "ytaemgglkdeklmaa", sum := "866f8bc6c8e296da5448fe005e2f05c7df1e8546dbced695cd24e93168d0c23b", func := "ephemeris/ephemeriskeep2.AgreeTurned", spec := "agreeTurned", apart := false, narrowed := true }
def AgreeTurnedUptoSaid : Prop := agreeTurnedUptoRow.holds Try.pinned (OpenSpec.upto agreeTurnedSpec)

/-- 'ephemeriskeep2.SmearGrows', WHERE WHAT IT READS IS OF BULK AT MOST 1048576: true; the input reads as it did. -/
def smearGrowsUptoRow : OpenClaim := { program := "ytaemgglkdeklmaa", sum := "866f8bc6c8e296da5448fe005e2f05c7df1e8546dbced695cd24e93168d0c23b", func := "ephemeris/ephemeriskeep2.SmearGrows", spec := "smearGrows", apart := false, narrowed := true }
def SmearGrowsUptoSaid : Prop := smearGrowsUptoRow.holds Try.pinned (OpenSpec.upto smearGrowsSpec)

end Rows
end Go.Proofs.Ytaemgglkdeklmaa
