/-
  NARROWER THAN 'FOR EVERY INPUT', by the rows' own cells (each row's printed sentence says how): PhasesInOrder: laid · PhaseNumbersGrow: laid · PhaseLight: laid · EclipseRare: laid · EclipseSizes: laid · EclipseSeasons: laid · TopPhases: laid · SeasonsInOrder: laid · SeasonYears: laid · SharpenMeets: laid · SharpenAgrees: laid.
  DERIVED. THE GIVEN ROWS OF THIS SEAT. 11 by the template 'for every input the law returns true; each argument reads behind the call as it read before'; 0 by the template 'total and deterministic' (their statements: YtlldmhnkaopjhaaDoorTotals.lean).
  GIVEN WITH THE SEED: the statements are not yours to turn. If you find one false, say at which input.
  Laid BY PROGRAM, IN A SANDBOX (cutbox-rows.mjs): the forced cells as the released guide's own fill.sh prints them over the translation 20a6871f8cc55de7… (all of the seat's roots in one cut). By AI agents, Wed Nov 11 2026. No macro, syntax, notation, axiom, sorry.
-/
import Derived.Test.YtlldmhnkaopjhaaDoorChecked
import GoSem.Claim
import GoSem.ClaimJoined
import GoSem.ClaimMapViews
import Derived.JoinedTies
import Derived.KernelRfl
namespace Go.Proofs.YtlldmhnkaopjhaaDoor
/- THE CELL 'sum', in the pinned program and in every row, IS THE sha256 OF THE DUMP (.gsa) THAT YtlldmhnkaopjhaaDoorProg.lean LOADS. Nothing in Lean hashes anything: it is a label: what it is worth is what the hold of that sum in a sandbox is worth. -/
noncomputable def Tryd.pinned : Pinned := { name := "ytlldmhnkaopjhaadoor", sum := "20a6871f8cc55de7deb8177f10d4bd7a1a84b592a2a8a60569d21b10b45264ac", checked := Tryd.checked }
namespace Rows
def none {H : Type} : Left H := { results := [], args := [] }

/- WHAT THE LISTED PACKAGE-LEVEL VARIABLES READ AS WHEN THE CALL BEGINS. Each datum BY PROGRAM (the guide's laid-datum.mjs) off the statement by which the dump's own 'gosem.cut.vars' lays the variable. In a bare row this is a premise. The card (YtlldmhnkaopjhaaDoorCards.lean) ties it to the program's text. -/
def laid_math_sin {H : Type} : DataW H := .agg [.lit (.float .f64 4460209587652500685), .lit (.float .f64 13716528389658582877), .lit (.float .f64 4523617212962785441), .lit (.float .f64 13774824197404483331), .lit (.float .f64 4575957461383575504), .lit (.float .f64 13818544856648471880)]
def laid_math_cos {H : Type} : DataW H := .agg [.lit (.float .f64 13666448263388469915), .lit (.float .f64 4477121864728985349), .lit (.float .f64 13732177093698800582), .lit (.float .f64 4537941361668146421), .lit (.float .f64 13787419979223748497), .lit (.float .f64 4586165620538955083)]
def laid_math_mPi4 {H : Type} : DataW H := .agg [.lit (.int .u64 1), .lit (.int .u64 5040379952546458195), .lit (.int .u64 17892431488136887169), .lit (.int .u64 13169980181085364355), .lit (.int .u64 18204331823439776451), .lit (.int .u64 7946843935494350272), .lit (.int .u64 905889640498799673), .lit (.int .u64 18175356263134875261), .lit (.int .u64 15061281708168349961), .lit (.int .u64 15220161563773041794), .lit (.int .u64 8296664548579374057), .lit (.int .u64 4109744767560208502), .lit (.int .u64 4607516669194743839), .lit (.int .u64 16023283104648321598), .lit (.int .u64 15739233654134936430), .lit (.int .u64 11424645774684705882), .lit (.int .u64 16883842788696515318), .lit (.int .u64 8795094592981902804), .lit (.int .u64 15561835991111744016), .lit (.int .u64 12395701187267450711)]

/-- 'ephemeriskeep2.PhasesInOrder': WHATEVER THE INPUT: true; the input reads as it did. -/
def phasesInOrderSpec : ChangeSpec := { name := "phasesInOrder", fn := fun _ => fun
  | [d] => { results := [.lit (.bool true)], args := [d] }
  | _ => none }
def phasesInOrderRow : OpenClaim := { program := "ytlldmhnkaopjhaadoor", sum := "20a6871f8cc55de7deb8177f10d4bd7a1a84b592a2a8a60569d21b10b45264ac", func := "ephemeris/ephemeriskeep2.PhasesInOrder", spec := "phasesInOrder", inPlace := ["math.Float64bits", "math.Float64frombits", "math/bits.Add64", "math.archFloor", "math.archTrunc", "math.archCeil"], unfollowed := true, recurses := true, named := ["math/bits.divideError", "math/bits.overflowError", "math._cos", "math._sin", "math.mPi4"], apart := false, laid := [("math._sin", laid_math_sin), ("math._cos", laid_math_cos), ("math.mPi4", laid_math_mPi4)] }
def PhasesInOrderSaid : Prop := phasesInOrderRow.holds Tryd.pinned (OpenSpec.ofChange phasesInOrderSpec)

/-- ITS FALSE NEIGHBOUR: 'it returns false'. Refute it at one input. -/
def phasesInOrderWrong : ChangeSpec := { name := "phasesInOrder", fn := fun _ => fun
  | [d] => { results := [.lit (.bool false)], args := [d] }
  | _ => none }
def PhasesInOrderWrongFalsely : Prop := phasesInOrderRow.holds Tryd.pinned (OpenSpec.ofChange phasesInOrderWrong)

/-- 'ephemeriskeep2.PhaseNumbersGrow': WHATEVER THE INPUT: true; the input reads as it did. -/
def phaseNumbersGrowSpec : ChangeSpec := { name := "phaseNumbersGrow", fn := fun _ => fun
  | [d1, d2] => { results := [.lit (.bool true)], args := [d1, d2] }
  | _ => none }
def phaseNumbersGrowRow : OpenClaim := { program := "ytlldmhnkaopjhaadoor", sum := "20a6871f8cc55de7deb8177f10d4bd7a1a84b592a2a8a60569d21b10b45264ac", func := "ephemeris/ephemeriskeep2.PhaseNumbersGrow", spec := "phaseNumbersGrow", inPlace := ["math.Float64bits", "math.Float64frombits", "math/bits.Add64", "math.archFloor", "math.archTrunc", "math.archCeil"], unfollowed := true, recurses := true, named := ["math/bits.divideError", "math/bits.overflowError", "math._cos", "math._sin", "math.mPi4"], apart := false, laid := [("math._sin", laid_math_sin), ("math._cos", laid_math_cos), ("math.mPi4", laid_math_mPi4)] }
def PhaseNumbersGrowSaid : Prop := phaseNumbersGrowRow.holds Tryd.pinned (OpenSpec.ofChange phaseNumbersGrowSpec)

/-- ITS FALSE NEIGHBOUR: 'it returns false'. Refute it at one input. -/
def phaseNumbersGrowWrong : ChangeSpec := { name := "phaseNumbersGrow", fn := fun _ => fun
  | [d1, d2] => { results := [.lit (.bool false)], args := [d1, d2] }
  | _ => none }
def PhaseNumbersGrowWrongFalsely : Prop := phaseNumbersGrowRow.holds Tryd.pinned (OpenSpec.ofChange phaseNumbersGrowWrong)

/-- 'ephemeriskeep2.PhaseLight': WHATEVER THE INPUT: true; the input reads as it did. -/
def phaseLightSpec : ChangeSpec := { name := "phaseLight", fn := fun _ => fun
  | [d1, d2] => { results := [.lit (.bool true)], args := [d1, d2] }
  | _ => none }
def phaseLightRow : OpenClaim := { program := "ytlldmhnkaopjhaadoor", sum := "20a6871f8cc55de7deb8177f10d4bd7a1a84b592a2a8a60569d21b10b45264ac", func := "ephemeris/ephemeriskeep2.PhaseLight", spec := "phaseLight", inPlace := ["math.Float64bits", "math.Float64frombits", "math/bits.Add64", "math.archFloor", "math.archTrunc", "math.archCeil"], unfollowed := true, recurses := true, named := ["math/bits.divideError", "math/bits.overflowError", "math._cos", "math._sin", "math.mPi4"], apart := false, laid := [("math._sin", laid_math_sin), ("math._cos", laid_math_cos), ("math.mPi4", laid_math_mPi4)] }
def PhaseLightSaid : Prop := phaseLightRow.holds Tryd.pinned (OpenSpec.ofChange phaseLightSpec)

/-- ITS FALSE NEIGHBOUR: 'it returns false'. Refute it at one input. -/
def phaseLightWrong : ChangeSpec := { name := "phaseLight", fn := fun _ => fun
  | [d1, d2] => { results := [.lit (.bool false)], args := [d1, d2] }
  | _ => none }
def PhaseLightWrongFalsely : Prop := phaseLightRow.holds Tryd.pinned (OpenSpec.ofChange phaseLightWrong)

/-- 'ephemeriskeep2.EclipseRare': WHATEVER THE INPUT: true; the input reads as it did. -/
def eclipseRareSpec : ChangeSpec := { name := "eclipseRare", fn := fun _ => fun
  | [d] => { results := [.lit (.bool true)], args := [d] }
  | _ => none }
def eclipseRareRow : OpenClaim := { program := "ytlldmhnkaopjhaadoor", sum := "20a6871f8cc55de7deb8177f10d4bd7a1a84b592a2a8a60569d21b10b45264ac", func := "ephemeris/ephemeriskeep2.EclipseRare", spec := "eclipseRare", inPlace := ["math.Float64bits", "math.Float64frombits", "math/bits.Add64", "math.archFloor", "math.archTrunc", "math.archCeil"], unfollowed := true, recurses := true, named := ["math/bits.divideError", "math/bits.overflowError", "math._cos", "math._sin", "math.mPi4"], apart := false, laid := [("math._sin", laid_math_sin), ("math._cos", laid_math_cos), ("math.mPi4", laid_math_mPi4)] }
def EclipseRareSaid : Prop := eclipseRareRow.holds Tryd.pinned (OpenSpec.ofChange eclipseRareSpec)

/-- ITS FALSE NEIGHBOUR: 'it returns false'. Refute it at one input. -/
def eclipseRareWrong : ChangeSpec := { name := "eclipseRare", fn := fun _ => fun
  | [d] => { results := [.lit (.bool false)], args := [d] }
  | _ => none }
def EclipseRareWrongFalsely : Prop := eclipseRareRow.holds Tryd.pinned (OpenSpec.ofChange eclipseRareWrong)

/-- 'ephemeriskeep2.EclipseSizes': WHATEVER THE INPUT: true; the input reads as it did. -/
def eclipseSizesSpec : ChangeSpec := { name := "eclipseSizes", fn := fun _ => fun
  | [d1, d2] => { results := [.lit (.bool true)], args := [d1, d2] }
  | _ => none }
def eclipseSizesRow : OpenClaim := { program := "ytlldmhnkaopjhaadoor", sum := "20a6871f8cc55de7deb8177f10d4bd7a1a84b592a2a8a60569d21b10b45264ac", func := "ephemeris/ephemeriskeep2.EclipseSizes", spec := "eclipseSizes", inPlace := ["math.Float64bits", "math.Float64frombits", "math/bits.Add64", "math.archFloor", "math.archTrunc", "math.archCeil"], unfollowed := true, recurses := true, named := ["math/bits.divideError", "math/bits.overflowError", "math._cos", "math._sin", "math.mPi4"], apart := false, laid := [("math._sin", laid_math_sin), ("math._cos", laid_math_cos), ("math.mPi4", laid_math_mPi4)] }
def EclipseSizesSaid : Prop := eclipseSizesRow.holds Tryd.pinned (OpenSpec.ofChange eclipseSizesSpec)

/-- ITS FALSE NEIGHBOUR: 'it returns false'. Refute it at one input. -/
def eclipseSizesWrong : ChangeSpec := { name := "eclipseSizes", fn := fun _ => fun
  | [d1, d2] => { results := [.lit (.bool false)], args := [d1, d2] }
  | _ => none }
def EclipseSizesWrongFalsely : Prop := eclipseSizesRow.holds Tryd.pinned (OpenSpec.ofChange eclipseSizesWrong)

/-- 'ephemeriskeep2.EclipseSeasons': WHATEVER THE INPUT: true; the input reads as it did. -/
def eclipseSeasonsSpec : ChangeSpec := { name := "eclipseSeasons", fn := fun _ => fun
  | [d] => { results := [.lit (.bool true)], args := [d] }
  | _ => none }
def eclipseSeasonsRow : OpenClaim := { program := "ytlldmhnkaopjhaadoor", sum := "20a6871f8cc55de7deb8177f10d4bd7a1a84b592a2a8a60569d21b10b45264ac", func := "ephemeris/ephemeriskeep2.EclipseSeasons", spec := "eclipseSeasons", inPlace := ["math.Float64bits", "math.Float64frombits", "math/bits.Add64", "math.archFloor", "math.archTrunc", "math.archCeil"], unfollowed := true, recurses := true, named := ["math/bits.divideError", "math/bits.overflowError", "math._cos", "math._sin", "math.mPi4"], apart := false, laid := [("math._sin", laid_math_sin), ("math._cos", laid_math_cos), ("math.mPi4", laid_math_mPi4)] }
def EclipseSeasonsSaid : Prop := eclipseSeasonsRow.holds Tryd.pinned (OpenSpec.ofChange eclipseSeasonsSpec)

/-- ITS FALSE NEIGHBOUR: 'it returns false'. Refute it at one input. -/
def eclipseSeasonsWrong : ChangeSpec := { name := "eclipseSeasons", fn := fun _ => fun
  | [d] => { results := [.lit (.bool false)], args := [d] }
  | _ => none }
def EclipseSeasonsWrongFalsely : Prop := eclipseSeasonsRow.holds Tryd.pinned (OpenSpec.ofChange eclipseSeasonsWrong)

/-- 'ephemeristop.TopPhases': WHATEVER THE INPUT: true; the input reads as it did. -/
def topPhasesSpec : ChangeSpec := { name := "topPhases", fn := fun _ => fun
  | [d1, d2] => { results := [.lit (.bool true)], args := [d1, d2] }
  | _ => none }
def topPhasesRow : OpenClaim := { program := "ytlldmhnkaopjhaadoor", sum := "20a6871f8cc55de7deb8177f10d4bd7a1a84b592a2a8a60569d21b10b45264ac", func := "ephemeris/ephemeristop.TopPhases", spec := "topPhases", inPlace := ["math.Float64bits", "math.Float64frombits", "math/bits.Add64", "math.archFloor", "math.archTrunc", "math.archCeil"], unfollowed := true, recurses := true, named := ["math/bits.divideError", "math/bits.overflowError", "math._cos", "math._sin", "math.mPi4"], apart := false, laid := [("math._sin", laid_math_sin), ("math._cos", laid_math_cos), ("math.mPi4", laid_math_mPi4)] }
def TopPhasesSaid : Prop := topPhasesRow.holds Tryd.pinned (OpenSpec.ofChange topPhasesSpec)

/-- ITS FALSE NEIGHBOUR: 'it returns false'. Refute it at one input. -/
def topPhasesWrong : ChangeSpec := { name := "topPhases", fn := fun _ => fun
  | [d1, d2] => { results := [.lit (.bool false)], args := [d1, d2] }
  | _ => none }
def TopPhasesWrongFalsely : Prop := topPhasesRow.holds Tryd.pinned (OpenSpec.ofChange topPhasesWrong)

/-- 'ephemeriskeep2.SeasonsInOrder': WHATEVER THE INPUT: true; the input reads as it did. -/
def seasonsInOrderSpec : ChangeSpec := { name := "seasonsInOrder", fn := fun _ => fun
  | [d] => { results := [.lit (.bool true)], args := [d] }
  | _ => none }
def seasonsInOrderRow : OpenClaim := { program := "ytlldmhnkaopjhaadoor", sum := "20a6871f8cc55de7deb8177f10d4bd7a1a84b592a2a8a60569d21b10b45264ac", func := "ephemeris/ephemeriskeep2.SeasonsInOrder", spec := "seasonsInOrder", inPlace := ["math.Float64bits", "math.Float64frombits", "math/bits.Add64", "math.archFloor", "math.archTrunc", "math.archCeil"], unfollowed := true, recurses := true, named := ["math/bits.divideError", "math/bits.overflowError", "math._cos", "math._sin", "math.mPi4"], apart := false, laid := [("math._sin", laid_math_sin), ("math._cos", laid_math_cos), ("math.mPi4", laid_math_mPi4)] }
def SeasonsInOrderSaid : Prop := seasonsInOrderRow.holds Tryd.pinned (OpenSpec.ofChange seasonsInOrderSpec)

/-- ITS FALSE NEIGHBOUR: 'it returns false'. Refute it at one input. -/
def seasonsInOrderWrong : ChangeSpec := { name := "seasonsInOrder", fn := fun _ => fun
  | [d] => { results := [.lit (.bool false)], args := [d] }
  | _ => none }
def SeasonsInOrderWrongFalsely : Prop := seasonsInOrderRow.holds Tryd.pinned (OpenSpec.ofChange seasonsInOrderWrong)

/-- 'ephemeriskeep2.SeasonYears': WHATEVER THE INPUT: true; the input reads as it did. -/
def seasonYearsSpec : ChangeSpec := { name := "seasonYears", fn := fun _ => fun
  | [d1, d2] => { results := [.lit (.bool true)], args := [d1, d2] }
  | _ => none }
def seasonYearsRow : OpenClaim := { program := "ytlldmhnkaopjhaadoor", sum := "20a6871f8cc55de7deb8177f10d4bd7a1a84b592a2a8a60569d21b10b45264ac", func := "ephemeris/ephemeriskeep2.SeasonYears", spec := "seasonYears", inPlace := ["math.Float64bits", "math.Float64frombits", "math/bits.Add64", "math.archFloor", "math.archTrunc", "math.archCeil"], unfollowed := true, recurses := true, named := ["math/bits.divideError", "math/bits.overflowError", "math._cos", "math._sin", "math.mPi4"], apart := false, laid := [("math._sin", laid_math_sin), ("math._cos", laid_math_cos), ("math.mPi4", laid_math_mPi4)] }
def SeasonYearsSaid : Prop := seasonYearsRow.holds Tryd.pinned (OpenSpec.ofChange seasonYearsSpec)

/-- ITS FALSE NEIGHBOUR: 'it returns false'. Refute it at one input. -/
def seasonYearsWrong : ChangeSpec := { name := "seasonYears", fn := fun _ => fun
  | [d1, d2] => { results := [.lit (.bool false)], args := [d1, d2] }
  | _ => none }
def SeasonYearsWrongFalsely : Prop := seasonYearsRow.holds Tryd.pinned (OpenSpec.ofChange seasonYearsWrong)

/-- 'ephemeriskeep2.SharpenMeets': WHATEVER THE INPUT: true; the input reads as it did. -/
def sharpenMeetsSpec : ChangeSpec := { name := "sharpenMeets", fn := fun _ => fun
  | [d1, d2, d3, d4] => { results := [.lit (.bool true)], args := [d1, d2, d3, d4] }
  | _ => none }
def sharpenMeetsRow : OpenClaim := { program := "ytlldmhnkaopjhaadoor", sum := "20a6871f8cc55de7deb8177f10d4bd7a1a84b592a2a8a60569d21b10b45264ac", func := "ephemeris/ephemeriskeep2.SharpenMeets", spec := "sharpenMeets", inPlace := ["math.Float64bits", "math.Float64frombits", "math/bits.Add64", "math.archFloor", "math.archTrunc", "math.archCeil"], unfollowed := true, recurses := true, named := ["math/bits.divideError", "math/bits.overflowError", "math._cos", "math._sin", "math.mPi4"], apart := false, laid := [("math._sin", laid_math_sin), ("math._cos", laid_math_cos), ("math.mPi4", laid_math_mPi4)] }
def SharpenMeetsSaid : Prop := sharpenMeetsRow.holds Tryd.pinned (OpenSpec.ofChange sharpenMeetsSpec)

/-- ITS FALSE NEIGHBOUR: 'it returns false'. Refute it at one input. -/
def sharpenMeetsWrong : ChangeSpec := { name := "sharpenMeets", fn := fun _ => fun
  | [d1, d2, d3, d4] => { results := [.lit (.bool false)], args := [d1, d2, d3, d4] }
  | _ => none }
def SharpenMeetsWrongFalsely : Prop := sharpenMeetsRow.holds Tryd.pinned (OpenSpec.ofChange sharpenMeetsWrong)

/-- 'ephemeriskeep2.SharpenAgrees': WHATEVER THE INPUT: true; the input reads as it did. -/
def sharpenAgreesSpec : ChangeSpec := { name := "sharpenAgrees", fn := fun _ => fun
  | [d1, d2, d3] => { results := [.lit (.bool true)], args := [d1, d2, d3] }
  | _ => none }
def sharpenAgreesRow : OpenClaim := { program := "ytlldmhnkaopjhaadoor", sum := "20a6871f8cc55de7deb8177f10d4bd7a1a84b592a2a8a60569d21b10b45264ac", func := "ephemeris/ephemeriskeep2.SharpenAgrees", spec := "sharpenAgrees", inPlace := ["math.Float64bits", "math.Float64frombits", "math/bits.Add64", "math.archFloor", "math.archTrunc", "math.archCeil"], unfollowed := true, recurses := true, named := ["math/bits.divideError", "math/bits.overflowError", "math._cos", "math._sin", "math.mPi4"], apart := false, laid := [("math._sin", laid_math_sin), ("math._cos", laid_math_cos), ("math.mPi4", laid_math_mPi4)] }
def SharpenAgreesSaid : Prop := sharpenAgreesRow.holds Tryd.pinned (OpenSpec.ofChange sharpenAgreesSpec)

/-- ITS FALSE NEIGHBOUR: 'it returns false'. Refute it at one input. -/
def sharpenAgreesWrong : ChangeSpec := { name := "sharpenAgrees", fn := fun _ => fun
  | [d1, d2, d3] => { results := [.lit (.bool false)], args := [d1, d2, d3] }
  | _ => none }
def SharpenAgreesWrongFalsely : Prop := sharpenAgreesRow.holds Tryd.pinned (OpenSpec.ofChange sharpenAgreesWrong)

/- THE SECOND FORM. 'bulk': how many values and letters a reading holds, each counted each time it is reached (what is shared counts as often as it is met; a slice's spare places count too). A statement '..UptoSaid' is the law's where the arguments, and the package variables that the reading takes, are together of bulk at most 1048576: NARROWER than '..Said'. Prove '..Said' where nothing that the law and all that it calls make is longer than what came in: it says more and counts as full. Else prove '..UptoSaid'. A law counts once. -/
mutual
def uptoBulk {H : Type} : DataW H → Nat
  | .lit (.string bytes) => bytes.length + 1
  | .lit _ => 1
  | .nil => 1
  | .ptr d => uptoBulk d + 1
  | .slice elems spare => uptoBulkAll elems + uptoBulkAll spare + 1
  | .agg parts => uptoBulkAll parts + 1
  | .iface _ d => uptoBulk d + 1
  | .map entries => uptoBulkEntries entries + 1
  | .held _ => 1
def uptoBulkAll {H : Type} : List (DataW H) → Nat
  | [] => 0
  | d :: r => uptoBulk d + uptoBulkAll r
def uptoBulkEntries {H : Type} : List (Lit × DataW H) → Nat
  | [] => 0
  | x :: r => uptoBulkEntry x + uptoBulkEntries r
def uptoBulkEntry {H : Type} : Lit × DataW H → Nat
  | (.string bytes, d) => bytes.length + uptoBulk d + 1
  | (_, d) => uptoBulk d + 1
 end
def uptoSmall : (H : Type) → List (DataW H) → Bool := fun _ ds => decide (uptoBulkAll ds ≤ 1048576)
def OpenSpec.upto (s : _root_.Go.ChangeSpec) : _root_.Go.OpenSpec := { _root_.Go.OpenSpec.ofChange s with cond := some uptoSmall }

/-- 'ephemeriskeep2.PhasesInOrder', WHERE WHAT IT READS IS OF BULK AT MOST 1048576: true; the input reads as it did. -/
def phasesInOrderUptoRow : OpenClaim := { program := "ytlldmhnkaopjhaadoor", sum := "20a6871f8cc55de7deb8177f10d4bd7a1a84b592a2a8a60569d21b10b45264ac", func := "ephemeris/ephemeriskeep2.PhasesInOrder", spec := "phasesInOrder", inPlace := ["math.Float64bits", "math.Float64frombits", "math/bits.Add64", "math.archFloor", "math.archTrunc", "math.archCeil"], unfollowed := true, recurses := true, named := ["math/bits.divideError", "math/bits.overflowError", "math._cos", "math._sin", "math.mPi4"], apart := false, laid := [("math._sin", laid_math_sin), ("math._cos", laid_math_cos), ("math.mPi4", laid_math_mPi4)], narrowed := true }
def PhasesInOrderUptoSaid : Prop := phasesInOrderUptoRow.holds Tryd.pinned (OpenSpec.upto phasesInOrderSpec)

/-- 'ephemeriskeep2.PhaseNumbersGrow', WHERE WHAT IT READS IS OF BULK AT MOST 1048576: true; the input reads as it did. -/
def phaseNumbersGrowUptoRow : OpenClaim := { program := "ytlldmhnkaopjhaadoor", sum := "20a6871f8cc55de7deb8177f10d4bd7a1a84b592a2a8a60569d21b10b45264ac", func := "ephemeris/ephemeriskeep2.PhaseNumbersGrow", spec := "phaseNumbersGrow", inPlace := ["math.Float64bits", "math.Float64frombits", "math/bits.Add64", "math.archFloor", "math.archTrunc", "math.archCeil"], unfollowed := true, recurses := true, named := ["math/bits.divideError", "math/bits.overflowError", "math._cos", "math._sin", "math.mPi4"], apart := false, laid := [("math._sin", laid_math_sin), ("math._cos", laid_math_cos), ("math.mPi4", laid_math_mPi4)], narrowed := true }
def PhaseNumbersGrowUptoSaid : Prop := phaseNumbersGrowUptoRow.holds Tryd.pinned (OpenSpec.upto phaseNumbersGrowSpec)

/-- 'ephemeriskeep2.PhaseLight', WHERE WHAT IT READS IS OF BULK AT MOST 1048576: true; the input reads as it did. -/
def phaseLightUptoRow : OpenClaim := { program := "ytlldmhnkaopjhaadoor", sum := "20a6871f8cc55de7deb8177f10d4bd7a1a84b592a2a8a60569d21b10b45264ac", func := "ephemeris/ephemeriskeep2.PhaseLight", spec := "phaseLight", inPlace := ["math.Float64bits", "math.Float64frombits", "math/bits.Add64", "math.archFloor", "math.archTrunc", "math.archCeil"], unfollowed := true, recurses := true, named := ["math/bits.divideError", "math/bits.overflowError", "math._cos", "math._sin", "math.mPi4"], apart := false, laid := [("math._sin", laid_math_sin), ("math._cos", laid_math_cos), ("math.mPi4", laid_math_mPi4)], narrowed := true }
def PhaseLightUptoSaid : Prop := phaseLightUptoRow.holds Tryd.pinned (OpenSpec.upto phaseLightSpec)

/-- 'ephemeriskeep2.EclipseRare', WHERE WHAT IT READS IS OF BULK AT MOST 1048576: true; the input reads as it did. -/
def eclipseRareUptoRow : OpenClaim := { program := "ytlldmhnkaopjhaadoor", sum := "20a6871f8cc55de7deb8177f10d4bd7a1a84b592a2a8a60569d21b10b45264ac", func := "ephemeris/ephemeriskeep2.EclipseRare", spec := "eclipseRare", inPlace := ["math.Float64bits", "math.Float64frombits", "math/bits.Add64", "math.archFloor", "math.archTrunc", "math.archCeil"], unfollowed := true, recurses := true, named := ["math/bits.divideError", "math/bits.overflowError", "math._cos", "math._sin", "math.mPi4"], apart := false, laid := [("math._sin", laid_math_sin), ("math._cos", laid_math_cos), ("math.mPi4", laid_math_mPi4)], narrowed := true }
def EclipseRareUptoSaid : Prop := eclipseRareUptoRow.holds Tryd.pinned (OpenSpec.upto eclipseRareSpec)

/-- 'ephemeriskeep2.EclipseSizes', WHERE WHAT IT READS IS OF BULK AT MOST 1048576: true; the input reads as it did. -/
def eclipseSizesUptoRow : OpenClaim := { program := "ytlldmhnkaopjhaadoor", sum := "20a6871f8cc55de7deb8177f10d4bd7a1a84b592a2a8a60569d21b10b45264ac", func := "ephemeris/ephemeriskeep2.EclipseSizes", spec := "eclipseSizes", inPlace := ["math.Float64bits", "math.Float64frombits", "math/bits.Add64", "math.archFloor", "math.archTrunc", "math.archCeil"], unfollowed := true, recurses := true, named := ["math/bits.divideError", "math/bits.overflowError", "math._cos", "math._sin", "math.mPi4"], apart := false, laid := [("math._sin", laid_math_sin), ("math._cos", laid_math_cos), ("math.mPi4", laid_math_mPi4)], narrowed := true }
def EclipseSizesUptoSaid : Prop := eclipseSizesUptoRow.holds Tryd.pinned (OpenSpec.upto eclipseSizesSpec)

/-- 'ephemeriskeep2.EclipseSeasons', WHERE WHAT IT READS IS OF BULK AT MOST 1048576: true; the input reads as it did. -/
def eclipseSeasonsUptoRow : OpenClaim := { program := "ytlldmhnkaopjhaadoor", sum := "20a6871f8cc55de7deb8177f10d4bd7a1a84b592a2a8a60569d21b10b45264ac", func := "ephemeris/ephemeriskeep2.EclipseSeasons", spec := "eclipseSeasons", inPlace := ["math.Float64bits", "math.Float64frombits", "math/bits.Add64", "math.archFloor", "math.archTrunc", "math.archCeil"], unfollowed := true, recurses := true, named := ["math/bits.divideError", "math/bits.overflowError", "math._cos", "math._sin", "math.mPi4"], apart := false, laid := [("math._sin", laid_math_sin), ("math._cos", laid_math_cos), ("math.mPi4", laid_math_mPi4)], narrowed := true }
def EclipseSeasonsUptoSaid : Prop := eclipseSeasonsUptoRow.holds Tryd.pinned (OpenSpec.upto eclipseSeasonsSpec)

/-- 'ephemeristop.TopPhases', WHERE WHAT IT READS IS OF BULK AT MOST 1048576: true; the input reads as it did. -/
def topPhasesUptoRow : OpenClaim := { program := "ytlldmhnkaopjhaadoor", sum := "20a6871f8cc55de7deb8177f10d4bd7a1a84b592a2a8a60569d21b10b45264ac", func := "ephemeris/ephemeristop.TopPhases", spec := "topPhases", inPlace := ["math.Float64bits", "math.Float64frombits", "math/bits.Add64", "math.archFloor", "math.archTrunc", "math.archCeil"], unfollowed := true, recurses := true, named := ["math/bits.divideError", "math/bits.overflowError", "math._cos", "math._sin", "math.mPi4"], apart := false, laid := [("math._sin", laid_math_sin), ("math._cos", laid_math_cos), ("math.mPi4", laid_math_mPi4)], narrowed := true }
def TopPhasesUptoSaid : Prop := topPhasesUptoRow.holds Tryd.pinned (OpenSpec.upto topPhasesSpec)

/-- 'ephemeriskeep2.SeasonsInOrder', WHERE WHAT IT READS IS OF BULK AT MOST 1048576: true; the input reads as it did. -/
def seasonsInOrderUptoRow : OpenClaim := { program := "ytlldmhnkaopjhaadoor", sum := "20a6871f8cc55de7deb8177f10d4bd7a1a84b592a2a8a60569d21b10b45264ac", func := "ephemeris/ephemeriskeep2.SeasonsInOrder", spec := "seasonsInOrder", inPlace := ["math.Float64bits", "math.Float64frombits", "math/bits.Add64", "math.archFloor", "math.archTrunc", "math.archCeil"], unfollowed := true, recurses := true, named := ["math/bits.divideError", "math/bits.overflowError", "math._cos", "math._sin", "math.mPi4"], apart := false, laid := [("math._sin", laid_math_sin), ("math._cos", laid_math_cos), ("math.mPi4", laid_math_mPi4)], narrowed := true }
def SeasonsInOrderUptoSaid : Prop := seasonsInOrderUptoRow.holds Tryd.pinned (OpenSpec.upto seasonsInOrderSpec)

/-- 'ephemeriskeep2.SeasonYears', WHERE WHAT IT READS IS OF BULK AT MOST 1048576: true; the input reads as it did. -/
def seasonYearsUptoRow : OpenClaim := { program := "ytlldmhnkaopjhaadoor", sum := "20a6871f8cc55de7deb8177f10d4bd7a1a84b592a2a8a60569d21b10b45264ac", func := "ephemeris/ephemeriskeep2.SeasonYears", spec := "seasonYears", inPlace := ["math.Float64bits", "math.Float64frombits", "math/bits.Add64", "math.archFloor", "math.archTrunc", "math.archCeil"], unfollowed := true, recurses := true, named := ["math/bits.divideError", "math/bits.overflowError", "math._cos", "math._sin", "math.mPi4"], apart := false, laid := [("math._sin", laid_math_sin), ("math._cos", laid_math_cos), ("math.mPi4", laid_math_mPi4)], narrowed := true }
def SeasonYearsUptoSaid : Prop := seasonYearsUptoRow.holds Tryd.pinned (OpenSpec.upto seasonYearsSpec)

/-- 'ephemeriskeep2.SharpenMeets', WHERE WHAT IT READS IS OF BULK AT MOST 1048576: true; the input reads as it did. -/
def sharpenMeetsUptoRow : OpenClaim := { program := "ytlldmhnkaopjhaadoor", sum := "20a6871f8cc55de7deb8177f10d4bd7a1a84b592a2a8a60569d21b10b45264ac", func := "ephemeris/ephemeriskeep2.SharpenMeets", spec := "sharpenMeets", inPlace := ["math.Float64bits", "math.Float64frombits", "math/bits.Add64", "math.archFloor", "math.archTrunc", "math.archCeil"], unfollowed := true, recurses := true, named := ["math/bits.divideError", "math/bits.overflowError", "math._cos", "math._sin", "math.mPi4"], apart := false, laid := [("math._sin", laid_math_sin), ("math._cos", laid_math_cos), ("math.mPi4", laid_math_mPi4)], narrowed := true }
def SharpenMeetsUptoSaid : Prop := sharpenMeetsUptoRow.holds Tryd.pinned (OpenSpec.upto sharpenMeetsSpec)

/-- 'ephemeriskeep2.SharpenAgrees', WHERE WHAT IT READS IS OF BULK AT MOST 1048576: true; the input reads as it did. -/
def sharpenAgreesUptoRow : OpenClaim := { program := "ytlldmhnkaopjhaadoor", sum := "20a6871f8cc55de7deb8177f10d4bd7a1a84b592a2a8a60569d21b10b45264ac", func := "ephemeris/ephemeriskeep2.SharpenAgrees", spec := "sharpenAgrees", inPlace := ["math.Float64bits", "math.Float64frombits", "math/bits.Add64", "math.archFloor", "math.archTrunc", "math.archCeil"], unfollowed := true, recurses := true, named := ["math/bits.divideError", "math/bits.overflowError", "math._cos", "math._sin", "math.mPi4"], apart := false, laid := [("math._sin", laid_math_sin), ("math._cos", laid_math_cos), ("math.mPi4", laid_math_mPi4)], narrowed := true }
def SharpenAgreesUptoSaid : Prop := sharpenAgreesUptoRow.holds Tryd.pinned (OpenSpec.upto sharpenAgreesSpec)

end Rows
end Go.Proofs.YtlldmhnkaopjhaaDoor
