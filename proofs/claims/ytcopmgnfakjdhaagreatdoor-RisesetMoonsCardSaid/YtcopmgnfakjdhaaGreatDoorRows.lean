/-
  NARROWER THAN 'FOR EVERY INPUT', by the rows' own cells (each row's printed sentence says how): RisesetDays: laid · RisesetMoons: laid · CrescentYoung: laid · PathDark: laid · PathSun: laid · TopContains: laid · TopEclipse: laid · TopCrescent: laid.
  DERIVED. THE GIVEN ROWS OF THIS SEAT. 8 by the template 'for every input the law returns true; each argument reads behind the call as it read before'; 0 by the template 'total and deterministic' (their statements: YtcopmgnfakjdhaaGreatDoorTotals.lean).
  GIVEN WITH THE SEED: the statements are not yours to turn. If you find one false, say at which input.
  Laid BY PROGRAM, IN A SANDBOX (cutbox-rows.mjs): the forced cells as the released guide's own fill.sh prints them over the translation e42bee594400f5fb… (all of the seat's roots in one cut). By AI agents, Wed Nov 11 2026. No macro, syntax, notation, axiom, sorry.
-/
import Derived.Test.YtcopmgnfakjdhaaGreatDoorChecked
import GoSem.Claim
import GoSem.ClaimJoined
import GoSem.ClaimMapViews
import Derived.JoinedTies
import Derived.KernelRfl
namespace Go.Proofs.YtcopmgnfakjdhaaGreatDoor
/- THE CELL 'sum', in the pinned program and in every row, IS THE sha256 OF THE DUMP (.gsa) THAT YtcopmgnfakjdhaaGreatDoorProg.lean LOADS. Nothing in Lean hashes anything: it is a label: what it is worth is what the hold of that sum in a sandbox is worth. -/
noncomputable def Tryz.pinned : Pinned := { name := "ytcopmgnfakjdhaagreatdoor", sum := "e42bee594400f5fb7a3f3705264469dd2bc3cdf088159ce8bea7b92048894eb7", checked := Tryz.checked }
namespace Rows
def none {H : Type} : Left H := { results := [], args := [] }

/- WHAT THE LISTED PACKAGE-LEVEL VARIABLES READ AS WHEN THE CALL BEGINS. Each datum BY PROGRAM (the guide's laid-datum.mjs) off the statement by which the dump's own 'gosem.cut.vars' lays the variable. In a bare row this is a premise. The card (YtcopmgnfakjdhaaGreatDoorCards.lean) ties it to the program's text. -/
def laid_math_sin {H : Type} : DataW H := .agg [.lit (.float .f64 4460209587652500685), .lit (.float .f64 13716528389658582877), .lit (.float .f64 4523617212962785441), .lit (.float .f64 13774824197404483331), .lit (.float .f64 4575957461383575504), .lit (.float .f64 13818544856648471880)]
def laid_math_cos {H : Type} : DataW H := .agg [.lit (.float .f64 13666448263388469915), .lit (.float .f64 4477121864728985349), .lit (.float .f64 13732177093698800582), .lit (.float .f64 4537941361668146421), .lit (.float .f64 13787419979223748497), .lit (.float .f64 4586165620538955083)]
def laid_math_mPi4 {H : Type} : DataW H := .agg [.lit (.int .u64 1), .lit (.int .u64 5040379952546458195), .lit (.int .u64 17892431488136887169), .lit (.int .u64 13169980181085364355), .lit (.int .u64 18204331823439776451), .lit (.int .u64 7946843935494350272), .lit (.int .u64 905889640498799673), .lit (.int .u64 18175356263134875261), .lit (.int .u64 15061281708168349961), .lit (.int .u64 15220161563773041794), .lit (.int .u64 8296664548579374057), .lit (.int .u64 4109744767560208502), .lit (.int .u64 4607516669194743839), .lit (.int .u64 16023283104648321598), .lit (.int .u64 15739233654134936430), .lit (.int .u64 11424645774684705882), .lit (.int .u64 16883842788696515318), .lit (.int .u64 8795094592981902804), .lit (.int .u64 15561835991111744016), .lit (.int .u64 12395701187267450711)]
def laid_ephemeris_riseset_limits {H : Type} : DataW H := .agg [.lit (.int .i64 (-14543900)), .lit (.int .i64 2182000)]

/-- 'ephemeriskeep2.RisesetDays': WHATEVER THE INPUT: true; the input reads as it did. -/
def risesetDaysSpec : ChangeSpec := { name := "risesetDays", fn := fun _ => fun
  | [d1, d2] => { results := [.lit (.bool true)], args := [d1, d2] }
  | _ => none }
def risesetDaysRow : OpenClaim := { program := "ytcopmgnfakjdhaagreatdoor", sum := "e42bee594400f5fb7a3f3705264469dd2bc3cdf088159ce8bea7b92048894eb7", func := "ephemeris/ephemeriskeep2.RisesetDays", spec := "risesetDays", inPlace := ["math.Float64bits", "math.Float64frombits", "math/bits.Add64", "math.archFloor", "math.archTrunc", "math.archCeil", "math.sqrt"], unfollowed := true, recurses := true, named := ["ephemeris/riseset.limits", "math/bits.divideError", "math/bits.overflowError", "math._cos", "math._sin", "math.mPi4"], apart := false, laid := [("math._sin", laid_math_sin), ("math._cos", laid_math_cos), ("math.mPi4", laid_math_mPi4), ("ephemeris/riseset.limits", laid_ephemeris_riseset_limits)] }
def RisesetDaysSaid : Prop := risesetDaysRow.holds Tryz.pinned (OpenSpec.ofChange risesetDaysSpec)

/-- ITS FALSE NEIGHBOUR: 'it returns false'. Refute it at one input. -/
def risesetDaysWrong : ChangeSpec := { name := "risesetDays", fn := fun _ => fun
  | [d1, d2] => { results := [.lit (.bool false)], args := [d1, d2] }
  | _ => none }
def RisesetDaysWrongFalsely : Prop := risesetDaysRow.holds Tryz.pinned (OpenSpec.ofChange risesetDaysWrong)

/-- 'ephemeriskeep2.RisesetMoons': WHATEVER THE INPUT: true; the input reads as it did. -/
def risesetMoonsSpec : ChangeSpec := { name := "risesetMoons", fn := fun _ => fun
  | [d1, d2] => { results := [.lit (.bool true)], args := [d1, d2] }
  | _ => none }
def risesetMoonsRow : OpenClaim := { program := "ytcopmgnfakjdhaagreatdoor", sum := "e42bee594400f5fb7a3f3705264469dd2bc3cdf088159ce8bea7b92048894eb7", func := "ephemeris/ephemeriskeep2.RisesetMoons", spec := "risesetMoons", inPlace := ["math.Float64bits", "math.Float64frombits", "math/bits.Add64", "math.archFloor", "math.archTrunc", "math.archCeil", "math.sqrt"], unfollowed := true, recurses := true, named := ["ephemeris/riseset.limits", "math/bits.divideError", "math/bits.overflowError", "math._cos", "math._sin", "math.mPi4"], apart := false, laid := [("math._sin", laid_math_sin), ("math._cos", laid_math_cos), ("math.mPi4", laid_math_mPi4), ("ephemeris/riseset.limits", laid_ephemeris_riseset_limits)] }
def RisesetMoonsSaid : Prop := risesetMoonsRow.holds Tryz.pinned (OpenSpec.ofChange risesetMoonsSpec)

/-- ITS FALSE NEIGHBOUR: 'it returns false'. Refute it at one input. -/
def risesetMoonsWrong : ChangeSpec := { name := "risesetMoons", fn := fun _ => fun
  | [d1, d2] => { results := [.lit (.bool false)], args := [d1, d2] }
  | _ => none }
def RisesetMoonsWrongFalsely : Prop := risesetMoonsRow.holds Tryz.pinned (OpenSpec.ofChange risesetMoonsWrong)

/-- 'ephemeriskeep2.CrescentYoung': WHATEVER THE INPUT: true; the input reads as it did. -/
def crescentYoungSpec : ChangeSpec := { name := "crescentYoung", fn := fun _ => fun
  | [d1, d2] => { results := [.lit (.bool true)], args := [d1, d2] }
  | _ => none }
def crescentYoungRow : OpenClaim := { program := "ytcopmgnfakjdhaagreatdoor", sum := "e42bee594400f5fb7a3f3705264469dd2bc3cdf088159ce8bea7b92048894eb7", func := "ephemeris/ephemeriskeep2.CrescentYoung", spec := "crescentYoung", inPlace := ["math.Float64bits", "math.Float64frombits", "math/bits.Add64", "math.archFloor", "math.archTrunc", "math.archCeil", "math.sqrt"], unfollowed := true, recurses := true, named := ["ephemeris/riseset.limits", "math/bits.divideError", "math/bits.overflowError", "math._cos", "math._sin", "math.mPi4"], apart := false, laid := [("math._sin", laid_math_sin), ("math._cos", laid_math_cos), ("math.mPi4", laid_math_mPi4), ("ephemeris/riseset.limits", laid_ephemeris_riseset_limits)] }
def CrescentYoungSaid : Prop := crescentYoungRow.holds Tryz.pinned (OpenSpec.ofChange crescentYoungSpec)

/-- ITS FALSE NEIGHBOUR: 'it returns false'. Refute it at one input. -/
def crescentYoungWrong : ChangeSpec := { name := "crescentYoung", fn := fun _ => fun
  | [d1, d2] => { results := [.lit (.bool false)], args := [d1, d2] }
  | _ => none }
def CrescentYoungWrongFalsely : Prop := crescentYoungRow.holds Tryz.pinned (OpenSpec.ofChange crescentYoungWrong)

/-- 'ephemeriskeep2.PathDark': WHATEVER THE INPUT: true; the input reads as it did. -/
def pathDarkSpec : ChangeSpec := { name := "pathDark", fn := fun _ => fun
  | [d1, d2] => { results := [.lit (.bool true)], args := [d1, d2] }
  | _ => none }
def pathDarkRow : OpenClaim := { program := "ytcopmgnfakjdhaagreatdoor", sum := "e42bee594400f5fb7a3f3705264469dd2bc3cdf088159ce8bea7b92048894eb7", func := "ephemeris/ephemeriskeep2.PathDark", spec := "pathDark", inPlace := ["math.Float64bits", "math.Float64frombits", "math/bits.Add64", "math.archFloor", "math.archTrunc", "math.archCeil", "math.sqrt"], unfollowed := true, recurses := true, named := ["math/bits.divideError", "math/bits.overflowError", "math._cos", "math._sin", "math.mPi4"], apart := false, laid := [("math._sin", laid_math_sin), ("math._cos", laid_math_cos), ("math.mPi4", laid_math_mPi4)] }
def PathDarkSaid : Prop := pathDarkRow.holds Tryz.pinned (OpenSpec.ofChange pathDarkSpec)

/-- ITS FALSE NEIGHBOUR: 'it returns false'. Refute it at one input. -/
def pathDarkWrong : ChangeSpec := { name := "pathDark", fn := fun _ => fun
  | [d1, d2] => { results := [.lit (.bool false)], args := [d1, d2] }
  | _ => none }
def PathDarkWrongFalsely : Prop := pathDarkRow.holds Tryz.pinned (OpenSpec.ofChange pathDarkWrong)

/-- 'ephemeriskeep2.PathSun': WHATEVER THE INPUT: true; the input reads as it did. -/
def pathSunSpec : ChangeSpec := { name := "pathSun", fn := fun _ => fun
  | [d1, d2] => { results := [.lit (.bool true)], args := [d1, d2] }
  | _ => none }
def pathSunRow : OpenClaim := { program := "ytcopmgnfakjdhaagreatdoor", sum := "e42bee594400f5fb7a3f3705264469dd2bc3cdf088159ce8bea7b92048894eb7", func := "ephemeris/ephemeriskeep2.PathSun", spec := "pathSun", inPlace := ["math.Float64bits", "math.Float64frombits", "math/bits.Add64", "math.archFloor", "math.archTrunc", "math.archCeil", "math.sqrt"], unfollowed := true, recurses := true, named := ["math/bits.divideError", "math/bits.overflowError", "math._cos", "math._sin", "math.mPi4"], apart := false, laid := [("math._sin", laid_math_sin), ("math._cos", laid_math_cos), ("math.mPi4", laid_math_mPi4)] }
def PathSunSaid : Prop := pathSunRow.holds Tryz.pinned (OpenSpec.ofChange pathSunSpec)

/-- ITS FALSE NEIGHBOUR: 'it returns false'. Refute it at one input. -/
def pathSunWrong : ChangeSpec := { name := "pathSun", fn := fun _ => fun
  | [d1, d2] => { results := [.lit (.bool false)], args := [d1, d2] }
  | _ => none }
def PathSunWrongFalsely : Prop := pathSunRow.holds Tryz.pinned (OpenSpec.ofChange pathSunWrong)

/-- 'ephemeristop.TopContains': WHATEVER THE INPUT: true; the input reads as it did. -/
def topContainsSpec : ChangeSpec := { name := "topContains", fn := fun _ => fun
  | [d1, d2] => { results := [.lit (.bool true)], args := [d1, d2] }
  | _ => none }
def topContainsRow : OpenClaim := { program := "ytcopmgnfakjdhaagreatdoor", sum := "e42bee594400f5fb7a3f3705264469dd2bc3cdf088159ce8bea7b92048894eb7", func := "ephemeris/ephemeristop.TopContains", spec := "topContains", inPlace := ["math.Float64bits", "math.Float64frombits", "math/bits.Add64", "math.archFloor", "math.archTrunc", "math.archCeil", "math.sqrt"], unfollowed := true, recurses := true, named := ["math/bits.divideError", "math/bits.overflowError", "math._cos", "math._sin", "math.mPi4"], apart := false, laid := [("math._sin", laid_math_sin), ("math._cos", laid_math_cos), ("math.mPi4", laid_math_mPi4)] }
def TopContainsSaid : Prop := topContainsRow.holds Tryz.pinned (OpenSpec.ofChange topContainsSpec)

/-- ITS FALSE NEIGHBOUR: 'it returns false'. Refute it at one input. -/
def topContainsWrong : ChangeSpec := { name := "topContains", fn := fun _ => fun
  | [d1, d2] => { results := [.lit (.bool false)], args := [d1, d2] }
  | _ => none }
def TopContainsWrongFalsely : Prop := topContainsRow.holds Tryz.pinned (OpenSpec.ofChange topContainsWrong)

/-- 'ephemeristop.TopEclipse': WHATEVER THE INPUT: true; the input reads as it did. -/
def topEclipseSpec : ChangeSpec := { name := "topEclipse", fn := fun _ => fun
  | [d1, d2] => { results := [.lit (.bool true)], args := [d1, d2] }
  | _ => none }
def topEclipseRow : OpenClaim := { program := "ytcopmgnfakjdhaagreatdoor", sum := "e42bee594400f5fb7a3f3705264469dd2bc3cdf088159ce8bea7b92048894eb7", func := "ephemeris/ephemeristop.TopEclipse", spec := "topEclipse", inPlace := ["math.Float64bits", "math.Float64frombits", "math/bits.Add64", "math.archFloor", "math.archTrunc", "math.archCeil", "math.sqrt"], unfollowed := true, recurses := true, named := ["math/bits.divideError", "math/bits.overflowError", "math._cos", "math._sin", "math.mPi4"], apart := false, laid := [("math._sin", laid_math_sin), ("math._cos", laid_math_cos), ("math.mPi4", laid_math_mPi4)] }
def TopEclipseSaid : Prop := topEclipseRow.holds Tryz.pinned (OpenSpec.ofChange topEclipseSpec)

/-- ITS FALSE NEIGHBOUR: 'it returns false'. Refute it at one input. -/
def topEclipseWrong : ChangeSpec := { name := "topEclipse", fn := fun _ => fun
  | [d1, d2] => { results := [.lit (.bool false)], args := [d1, d2] }
  | _ => none }
def TopEclipseWrongFalsely : Prop := topEclipseRow.holds Tryz.pinned (OpenSpec.ofChange topEclipseWrong)

/-- 'ephemeristop.TopCrescent': WHATEVER THE INPUT: true; the input reads as it did. -/
def topCrescentSpec : ChangeSpec := { name := "topCrescent", fn := fun _ => fun
  | [d1, d2] => { results := [.lit (.bool true)], args := [d1, d2] }
  | _ => none }
def topCrescentRow : OpenClaim := { program := "ytcopmgnfakjdhaagreatdoor", sum := "e42bee594400f5fb7a3f3705264469dd2bc3cdf088159ce8bea7b92048894eb7", func := "ephemeris/ephemeristop.TopCrescent", spec := "topCrescent", inPlace := ["math.Float64bits", "math.Float64frombits", "math/bits.Add64", "math.archFloor", "math.archTrunc", "math.archCeil", "math.sqrt"], unfollowed := true, recurses := true, named := ["math/bits.divideError", "math/bits.overflowError", "math._cos", "math._sin", "math.mPi4", "ephemeris/riseset.limits"], apart := false, laid := [("math._sin", laid_math_sin), ("math._cos", laid_math_cos), ("math.mPi4", laid_math_mPi4), ("ephemeris/riseset.limits", laid_ephemeris_riseset_limits)] }
def TopCrescentSaid : Prop := topCrescentRow.holds Tryz.pinned (OpenSpec.ofChange topCrescentSpec)

/-- ITS FALSE NEIGHBOUR: 'it returns false'. Refute it at one input. -/
def topCrescentWrong : ChangeSpec := { name := "topCrescent", fn := fun _ => fun
  | [d1, d2] => { results := [.lit (.bool false)], args := [d1, d2] }
  | _ => none }
def TopCrescentWrongFalsely : Prop := topCrescentRow.holds Tryz.pinned (OpenSpec.ofChange topCrescentWrong)

/- THE SECOND FORM. 'bulk': how many values and letters a reading holds, each counted each time it is reached (what is shared counts as often as it is met; a slice's spare places count too). A statement '..UptoSaid' is the law's where the arguments, and the package variables that the reading takes, are together of bulk at most 1048576: NARROWER than '..Said'. Prove '..Said' where nothing that the law and all that it calls make is longer than what came in: it says more and counts as full. Else prove '..UptoSaid'. A law counts once. -/
mutual
def uptoBulk {H : Type} : DataW H → Nat
  | .lit (.string bytes) => bytes.length + 1
  | .lit _ => 1
  | .nil => 1
  | .ptr d => uptoBulk d + 1
  | .slice elems spare => uptoBulkAll elems + uptoBulkAll spare + 1
  | .agg parts => uptoBulkAll parts + 1
  | .iface _ d => uptoBulk d + 1
  | .map entries => uptoBulkEntries entries + 1
  | .held _ => 1
def uptoBulkAll {H : Type} : List (DataW H) → Nat
  | [] => 0
  | d :: r => uptoBulk d + uptoBulkAll r
def uptoBulkEntries {H : Type} : List (Lit × DataW H) → Nat
  | [] => 0
  | x :: r => uptoBulkEntry x + uptoBulkEntries r
def uptoBulkEntry {H : Type} : Lit × DataW H → Nat
  | (.string bytes, d) => bytes.length + uptoBulk d + 1
  | (_, d) => uptoBulk d + 1
 end
def uptoSmall : (H : Type) → List (DataW H) → Bool := fun _ ds => decide (uptoBulkAll ds ≤ 1048576)
def OpenSpec.upto (s : _root_.Go.ChangeSpec) : _root_.Go.OpenSpec := { _root_.Go.OpenSpec.ofChange s with cond := some uptoSmall }

/-- 'ephemeriskeep2.RisesetDays', WHERE WHAT IT READS IS OF BULK AT MOST 1048576: true; the input reads as it did. -/
def risesetDaysUptoRow : OpenClaim := { program := "ytcopmgnfakjdhaagreatdoor", sum := "e42bee594400f5fb7a3f3705264469dd2bc3cdf088159ce8bea7b92048894eb7", func := "ephemeris/ephemeriskeep2.RisesetDays", spec := "risesetDays", inPlace := ["math.Float64bits", "math.Float64frombits", "math/bits.Add64", "math.archFloor", "math.archTrunc", "math.archCeil", "math.sqrt"], unfollowed := true, recurses := true, named := ["ephemeris/riseset.limits", "math/bits.divideError", "math/bits.overflowError", "math._cos", "math._sin", "math.mPi4"], apart := false, laid := [("math._sin", laid_math_sin), ("math._cos", laid_math_cos), ("math.mPi4", laid_math_mPi4), ("ephemeris/riseset.limits", laid_ephemeris_riseset_limits)], narrowed := true }
def RisesetDaysUptoSaid : Prop := risesetDaysUptoRow.holds Tryz.pinned (OpenSpec.upto risesetDaysSpec)

/-- 'ephemeriskeep2.RisesetMoons', WHERE WHAT IT READS IS OF BULK AT MOST 1048576: true; the input reads as it did. -/
def risesetMoonsUptoRow : OpenClaim := { program := "ytcopmgnfakjdhaagreatdoor", sum := "e42bee594400f5fb7a3f3705264469dd2bc3cdf088159ce8bea7b92048894eb7", func := "ephemeris/ephemeriskeep2.RisesetMoons", spec := "risesetMoons", inPlace := ["math.Float64bits", "math.Float64frombits", "math/bits.Add64", "math.archFloor", "math.archTrunc", "math.archCeil", "math.sqrt"], unfollowed := true, recurses := true, named := ["ephemeris/riseset.limits", "math/bits.divideError", "math/bits.overflowError", "math._cos", "math._sin", "math.mPi4"], apart := false, laid := [("math._sin", laid_math_sin), ("math._cos", laid_math_cos), ("math.mPi4", laid_math_mPi4), ("ephemeris/riseset.limits", laid_ephemeris_riseset_limits)], narrowed := true }
def RisesetMoonsUptoSaid : Prop := risesetMoonsUptoRow.holds Tryz.pinned (OpenSpec.upto risesetMoonsSpec)

/-- 'ephemeriskeep2.CrescentYoung', WHERE WHAT IT READS IS OF BULK AT MOST 1048576: true; the input reads as it did. -/
def crescentYoungUptoRow : OpenClaim := { program := "ytcopmgnfakjdhaagreatdoor", sum := "e42bee594400f5fb7a3f3705264469dd2bc3cdf088159ce8bea7b92048894eb7", func := "ephemeris/ephemeriskeep2.CrescentYoung", spec := "crescentYoung", inPlace := ["math.Float64bits", "math.Float64frombits", "math/bits.Add64", "math.archFloor", "math.archTrunc", "math.archCeil", "math.sqrt"], unfollowed := true, recurses := true, named := ["ephemeris/riseset.limits", "math/bits.divideError", "math/bits.overflowError", "math._cos", "math._sin", "math.mPi4"], apart := false, laid := [("math._sin", laid_math_sin), ("math._cos", laid_math_cos), ("math.mPi4", laid_math_mPi4), ("ephemeris/riseset.limits", laid_ephemeris_riseset_limits)], narrowed := true }
def CrescentYoungUptoSaid : Prop := crescentYoungUptoRow.holds Tryz.pinned (OpenSpec.upto crescentYoungSpec)

/-- 'ephemeriskeep2.PathDark', WHERE WHAT IT READS IS OF BULK AT MOST 1048576: true; the input reads as it did. -/
def pathDarkUptoRow : OpenClaim := { program := "ytcopmgnfakjdhaagreatdoor", sum := "e42bee594400f5fb7a3f3705264469dd2bc3cdf088159ce8bea7b92048894eb7", func := "ephemeris/ephemeriskeep2.PathDark", spec := "pathDark", inPlace := ["math.Float64bits", "math.Float64frombits", "math/bits.Add64", "math.archFloor", "math.archTrunc", "math.archCeil", "math.sqrt"], unfollowed := true, recurses := true, named := ["math/bits.divideError", "math/bits.overflowError", "math._cos", "math._sin", "math.mPi4"], apart := false, laid := [("math._sin", laid_math_sin), ("math._cos", laid_math_cos), ("math.mPi4", laid_math_mPi4)], narrowed := true }
def PathDarkUptoSaid : Prop := pathDarkUptoRow.holds Tryz.pinned (OpenSpec.upto pathDarkSpec)

/-- 'ephemeriskeep2.PathSun', WHERE WHAT IT READS IS OF BULK AT MOST 1048576: true; the input reads as it did. -/
def pathSunUptoRow : OpenClaim := { program := "ytcopmgnfakjdhaagreatdoor", sum := "e42bee594400f5fb7a3f3705264469dd2bc3cdf088159ce8bea7b92048894eb7", func := "ephemeris/ephemeriskeep2.PathSun", spec := "pathSun", inPlace := ["math.Float64bits", "math.Float64frombits", "math/bits.Add64", "math.archFloor", "math.archTrunc", "math.archCeil", "math.sqrt"], unfollowed := true, recurses := true, named := ["math/bits.divideError", "math/bits.overflowError", "math._cos", "math._sin", "math.mPi4"], apart := false, laid := [("math._sin", laid_math_sin), ("math._cos", laid_math_cos), ("math.mPi4", laid_math_mPi4)], narrowed := true }
def PathSunUptoSaid : Prop := pathSunUptoRow.holds Tryz.pinned (OpenSpec.upto pathSunSpec)

/-- 'ephemeristop.TopContains', WHERE WHAT IT READS IS OF BULK AT MOST 1048576: true; the input reads as it did. -/
def topContainsUptoRow : OpenClaim := { program := "ytcopmgnfakjdhaagreatdoor", sum := "e42bee594400f5fb7a3f3705264469dd2bc3cdf088159ce8bea7b92048894eb7", func := "ephemeris/ephemeristop.TopContains", spec := "topContains", inPlace := ["math.Float64bits", "math.Float64frombits", "math/bits.Add64", "math.archFloor", "math.archTrunc", "math.archCeil", "math.sqrt"], unfollowed := true, recurses := true, named := ["math/bits.divideError", "math/bits.overflowError", "math._cos", "math._sin", "math.mPi4"], apart := false, laid := [("math._sin", laid_math_sin), ("math._cos", laid_math_cos), ("math.mPi4", laid_math_mPi4)], narrowed := true }
def TopContainsUptoSaid : Prop := topContainsUptoRow.holds Tryz.pinned (OpenSpec.upto topContainsSpec)

/-- 'ephemeristop.TopEclipse', WHERE WHAT IT READS IS OF BULK AT MOST 1048576: true; the input reads as it did. -/
def topEclipseUptoRow : OpenClaim := { program := "ytcopmgnfakjdhaagreatdoor", sum := "e42bee594400f5fb7a3f3705264469dd2bc3cdf088159ce8bea7b92048894eb7", func := "ephemeris/ephemeristop.TopEclipse", spec := "topEclipse", inPlace := ["math.Float64bits", "math.Float64frombits", "math/bits.Add64", "math.archFloor", "math.archTrunc", "math.archCeil", "math.sqrt"], unfollowed := true, recurses := true, named := ["math/bits.divideError", "math/bits.overflowError", "math._cos", "math._sin", "math.mPi4"], apart := false, laid := [("math._sin", laid_math_sin), ("math._cos", laid_math_cos), ("math.mPi4", laid_math_mPi4)], narrowed := true }
def TopEclipseUptoSaid : Prop := topEclipseUptoRow.holds Tryz.pinned (OpenSpec.upto topEclipseSpec)

/-- 'ephemeristop.TopCrescent', WHERE WHAT IT READS IS OF BULK AT MOST 1048576: true; the input reads as it did. -/
def topCrescentUptoRow : OpenClaim := { program := "ytcopmgnfakjdhaagreatdoor", sum := "e42bee594400f5fb7a3f3705264469dd2bc3cdf088159ce8bea7b92048894eb7", func := "ephemeris/ephemeristop.TopCrescent", spec := "topCrescent", inPlace := ["math.Float64bits", "math.Float64frombits", "math/bits.Add64", "math.archFloor", "math.archTrunc", "math.archCeil", "math.sqrt"], unfollowed := true, recurses := true, named := ["math/bits.divideError", "math/bits.overflowError", "math._cos", "math._sin", "math.mPi4", "ephemeris/riseset.limits"], apart := false, laid := [("math._sin", laid_math_sin), ("math._cos", laid_math_cos), ("math.mPi4", laid_math_mPi4), ("ephemeris/riseset.limits", laid_ephemeris_riseset_limits)], narrowed := true }
def TopCrescentUptoSaid : Prop := topCrescentUptoRow.holds Tryz.pinned (OpenSpec.upto topCrescentSpec)

end Rows
end Go.Proofs.YtcopmgnfakjdhaaGreatDoor
