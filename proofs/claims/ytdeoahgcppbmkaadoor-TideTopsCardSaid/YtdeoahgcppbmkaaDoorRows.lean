/-
  NARROWER THAN 'FOR EVERY INPUT', by the rows' own cells (each row's printed sentence says how): TrigAdds: laid · TrigInverts: laid · TideTops: laid · SeriesMoves: laid · DialSides: laid · DialNoon: laid · PlaceParts: laid · SunYears: laid · MoonTilts: laid · PlanetNames: laid · PlanetNear: laid · MoonGains: laid.
  DERIVED. THE GIVEN ROWS OF THIS SEAT. 12 by the template 'for every input the law returns true; each argument reads behind the call as it read before'; 0 by the template 'total and deterministic' (their statements: YtdeoahgcppbmkaaDoorTotals.lean).
  GIVEN WITH THE SEED: the statements are not yours to turn. If you find one false, say at which input.
  Laid BY PROGRAM, IN A SANDBOX (cutbox-rows.mjs): the forced cells as the released guide's own fill.sh prints them over the translation 586bb276b4c277ab… (all of the seat's roots in one cut). By AI agents, Wed Nov 11 2026. No macro, syntax, notation, axiom, sorry.
-/
import Derived.Test.YtdeoahgcppbmkaaDoorChecked
import GoSem.Claim
import GoSem.ClaimJoined
import GoSem.ClaimMapViews
import Derived.JoinedTies
import Derived.KernelRfl
namespace Go.Proofs.YtdeoahgcppbmkaaDoor
/- THE CELL 'sum', in the pinned program and in every row, IS THE sha256 OF THE DUMP (.gsa) THAT YtdeoahgcppbmkaaDoorProg.lean LOADS. Nothing in Lean hashes anything: it is a label: what it is worth is what the hold of that sum in a sandbox is worth. -/
noncomputable def Tryd.pinned : Pinned := { name := "ytdeoahgcppbmkaadoor", sum := "586bb276b4c277ab3431a941feb924a218f66659d204c50d5d6593eaef284164", checked := Tryd.checked }
namespace Rows
def none {H : Type} : Left H := { results := [], args := [] }

/- WHAT THE LISTED PACKAGE-LEVEL VARIABLES READ AS WHEN THE CALL BEGINS. Each datum BY PROGRAM (the guide's laid-datum.mjs) off the statement by which the dump's own 'gosem.cut.vars' lays the variable. In a bare row this is a premise. The card (YtdeoahgcppbmkaaDoorCards.lean) ties it to the program's text. -/
def laid_math_sin {H : Type} : DataW H := .agg [.lit (.float .f64 4460209587652500685), .lit (.float .f64 13716528389658582877), .lit (.float .f64 4523617212962785441), .lit (.float .f64 13774824197404483331), .lit (.float .f64 4575957461383575504), .lit (.float .f64 13818544856648471880)]
def laid_math_cos {H : Type} : DataW H := .agg [.lit (.float .f64 13666448263388469915), .lit (.float .f64 4477121864728985349), .lit (.float .f64 13732177093698800582), .lit (.float .f64 4537941361668146421), .lit (.float .f64 13787419979223748497), .lit (.float .f64 4586165620538955083)]
def laid_math_mPi4 {H : Type} : DataW H := .agg [.lit (.int .u64 1), .lit (.int .u64 5040379952546458195), .lit (.int .u64 17892431488136887169), .lit (.int .u64 13169980181085364355), .lit (.int .u64 18204331823439776451), .lit (.int .u64 7946843935494350272), .lit (.int .u64 905889640498799673), .lit (.int .u64 18175356263134875261), .lit (.int .u64 15061281708168349961), .lit (.int .u64 15220161563773041794), .lit (.int .u64 8296664548579374057), .lit (.int .u64 4109744767560208502), .lit (.int .u64 4607516669194743839), .lit (.int .u64 16023283104648321598), .lit (.int .u64 15739233654134936430), .lit (.int .u64 11424645774684705882), .lit (.int .u64 16883842788696515318), .lit (.int .u64 8795094592981902804), .lit (.int .u64 15561835991111744016), .lit (.int .u64 12395701187267450711)]
def laid_ephemeris_planet_table {H : Type} : DataW H := .agg [.agg [.lit (.string [109, 101, 114, 99, 117, 114, 121]), .lit (.int .i64 387), .lit (.int .i64 986042219), .lit (.int .i64 11367595694444)], .agg [.lit (.string [118, 101, 110, 117, 115]), .lit (.int .i64 723), .lit (.int .i64 204930817), .lit (.int .i64 4450362055556)], .agg [.lit (.string [109, 97, 114, 115]), .lit (.int .i64 1524), .lit (.int .i64 214414189), .lit (.int .i64 1455613000000)], .agg [.lit (.string [106, 117, 112, 105, 116, 101, 114]), .lit (.int .i64 5203), .lit (.int .i64 589101452), .lit (.int .i64 230792472222)], .agg [.lit (.string [115, 97, 116, 117, 114, 110]), .lit (.int .i64 9537), .lit (.int .i64 310632725), .lit (.int .i64 92900388889)]]

/-- 'ephemeriskeep2.TrigAdds': WHATEVER THE INPUT: true; the input reads as it did. -/
def trigAddsSpec : ChangeSpec := { name := "trigAdds", fn := fun _ => fun
  | [d1, d2] => { results := [.lit (.bool true)], args := [d1, d2] }
  | _ => none }
def trigAddsRow : OpenClaim := { program := "ytdeoahgcppbmkaadoor", sum := "586bb276b4c277ab3431a941feb924a218f66659d204c50d5d6593eaef284164", func := "ephemeris/ephemeriskeep2.TrigAdds", spec := "trigAdds", inPlace := ["math.Float64bits", "math.Float64frombits", "math/bits.Add64", "math.archFloor", "math.archTrunc", "math.archCeil", "math.sqrt"], named := ["math._cos", "math._sin", "math.mPi4", "math/bits.divideError", "math/bits.overflowError"], apart := false, laid := [("math._sin", laid_math_sin), ("math._cos", laid_math_cos), ("math.mPi4", laid_math_mPi4)] }
def TrigAddsSaid : Prop := trigAddsRow.holds Tryd.pinned (OpenSpec.ofChange trigAddsSpec)

/-- ITS FALSE NEIGHBOUR: 'it returns false'. Refute it at one input. -/
def trigAddsWrong : ChangeSpec := { name := "trigAdds", fn := fun _ => fun
  | [d1, d2] => { results := [.lit (.bool false)], args := [d1, d2] }
  | _ => none }
def TrigAddsWrongFalsely : Prop := trigAddsRow.holds Tryd.pinned (OpenSpec.ofChange trigAddsWrong)

/-- 'ephemeriskeep2.TrigInverts': WHATEVER THE INPUT: true; the input reads as it did. -/
def trigInvertsSpec : ChangeSpec := { name := "trigInverts", fn := fun _ => fun
  | [d] => { results := [.lit (.bool true)], args := [d] }
  | _ => none }
def trigInvertsRow : OpenClaim := { program := "ytdeoahgcppbmkaadoor", sum := "586bb276b4c277ab3431a941feb924a218f66659d204c50d5d6593eaef284164", func := "ephemeris/ephemeriskeep2.TrigInverts", spec := "trigInverts", inPlace := ["math.Float64bits", "math.Float64frombits", "math/bits.Add64", "math.archFloor", "math.archTrunc", "math.archCeil", "math.sqrt"], named := ["math._cos", "math._sin", "math.mPi4"], apart := false, laid := [("math._sin", laid_math_sin), ("math._cos", laid_math_cos), ("math.mPi4", laid_math_mPi4)] }
def TrigInvertsSaid : Prop := trigInvertsRow.holds Tryd.pinned (OpenSpec.ofChange trigInvertsSpec)

/-- ITS FALSE NEIGHBOUR: 'it returns false'. Refute it at one input. -/
def trigInvertsWrong : ChangeSpec := { name := "trigInverts", fn := fun _ => fun
  | [d] => { results := [.lit (.bool false)], args := [d] }
  | _ => none }
def TrigInvertsWrongFalsely : Prop := trigInvertsRow.holds Tryd.pinned (OpenSpec.ofChange trigInvertsWrong)

/-- 'ephemeriskeep2.TideTops': WHATEVER THE INPUT: true; the input reads as it did. -/
def tideTopsSpec : ChangeSpec := { name := "tideTops", fn := fun _ => fun
  | [d1, d2, d3] => { results := [.lit (.bool true)], args := [d1, d2, d3] }
  | _ => none }
def tideTopsRow : OpenClaim := { program := "ytdeoahgcppbmkaadoor", sum := "586bb276b4c277ab3431a941feb924a218f66659d204c50d5d6593eaef284164", func := "ephemeris/ephemeriskeep2.TideTops", spec := "tideTops", inPlace := ["math.Float64bits", "math.Float64frombits", "math/bits.Add64", "math.archFloor", "math.archTrunc", "math.archCeil"], unfollowed := true, recurses := true, named := ["math/bits.divideError", "math/bits.overflowError", "math._cos", "math._sin", "math.mPi4"], apart := false, laid := [("math._sin", laid_math_sin), ("math._cos", laid_math_cos), ("math.mPi4", laid_math_mPi4)] }
def TideTopsSaid : Prop := tideTopsRow.holds Tryd.pinned (OpenSpec.ofChange tideTopsSpec)

/-- ITS FALSE NEIGHBOUR: 'it returns false'. Refute it at one input. -/
def tideTopsWrong : ChangeSpec := { name := "tideTops", fn := fun _ => fun
  | [d1, d2, d3] => { results := [.lit (.bool false)], args := [d1, d2, d3] }
  | _ => none }
def TideTopsWrongFalsely : Prop := tideTopsRow.holds Tryd.pinned (OpenSpec.ofChange tideTopsWrong)

/-- 'ephemeriskeep2.SeriesMoves': WHATEVER THE INPUT: true; the input reads as it did. -/
def seriesMovesSpec : ChangeSpec := { name := "seriesMoves", fn := fun _ => fun
  | [d1, d2, d3] => { results := [.lit (.bool true)], args := [d1, d2, d3] }
  | _ => none }
def seriesMovesRow : OpenClaim := { program := "ytdeoahgcppbmkaadoor", sum := "586bb276b4c277ab3431a941feb924a218f66659d204c50d5d6593eaef284164", func := "ephemeris/ephemeriskeep2.SeriesMoves", spec := "seriesMoves", inPlace := ["math.Float64bits", "math.Float64frombits", "math/bits.Add64", "math.archFloor", "math.archTrunc", "math.archCeil"], named := ["math/bits.divideError", "math/bits.overflowError", "math._cos", "math._sin", "math.mPi4"], apart := false, laid := [("math._sin", laid_math_sin), ("math._cos", laid_math_cos), ("math.mPi4", laid_math_mPi4)] }
def SeriesMovesSaid : Prop := seriesMovesRow.holds Tryd.pinned (OpenSpec.ofChange seriesMovesSpec)

/-- ITS FALSE NEIGHBOUR: 'it returns false'. Refute it at one input. -/
def seriesMovesWrong : ChangeSpec := { name := "seriesMoves", fn := fun _ => fun
  | [d1, d2, d3] => { results := [.lit (.bool false)], args := [d1, d2, d3] }
  | _ => none }
def SeriesMovesWrongFalsely : Prop := seriesMovesRow.holds Tryd.pinned (OpenSpec.ofChange seriesMovesWrong)

/-- 'ephemeriskeep2.DialSides': WHATEVER THE INPUT: true; the input reads as it did. -/
def dialSidesSpec : ChangeSpec := { name := "dialSides", fn := fun _ => fun
  | [d1, d2] => { results := [.lit (.bool true)], args := [d1, d2] }
  | _ => none }
def dialSidesRow : OpenClaim := { program := "ytdeoahgcppbmkaadoor", sum := "586bb276b4c277ab3431a941feb924a218f66659d204c50d5d6593eaef284164", func := "ephemeris/ephemeriskeep2.DialSides", spec := "dialSides", inPlace := ["math.Float64bits", "math.Float64frombits", "math/bits.Add64", "math.archFloor", "math.archTrunc", "math.archCeil"], named := ["math._cos", "math._sin", "math.mPi4", "math/bits.divideError", "math/bits.overflowError"], apart := false, laid := [("math._sin", laid_math_sin), ("math._cos", laid_math_cos), ("math.mPi4", laid_math_mPi4)] }
def DialSidesSaid : Prop := dialSidesRow.holds Tryd.pinned (OpenSpec.ofChange dialSidesSpec)

/-- ITS FALSE NEIGHBOUR: 'it returns false'. Refute it at one input. -/
def dialSidesWrong : ChangeSpec := { name := "dialSides", fn := fun _ => fun
  | [d1, d2] => { results := [.lit (.bool false)], args := [d1, d2] }
  | _ => none }
def DialSidesWrongFalsely : Prop := dialSidesRow.holds Tryd.pinned (OpenSpec.ofChange dialSidesWrong)

/-- 'ephemeriskeep2.DialNoon': WHATEVER THE INPUT: true; the input reads as it did. -/
def dialNoonSpec : ChangeSpec := { name := "dialNoon", fn := fun _ => fun
  | [d] => { results := [.lit (.bool true)], args := [d] }
  | _ => none }
def dialNoonRow : OpenClaim := { program := "ytdeoahgcppbmkaadoor", sum := "586bb276b4c277ab3431a941feb924a218f66659d204c50d5d6593eaef284164", func := "ephemeris/ephemeriskeep2.DialNoon", spec := "dialNoon", inPlace := ["math.Float64bits", "math.Float64frombits", "math/bits.Add64", "math.archFloor", "math.archTrunc", "math.archCeil"], named := ["math._cos", "math._sin", "math.mPi4", "math/bits.divideError", "math/bits.overflowError"], apart := false, laid := [("math._sin", laid_math_sin), ("math._cos", laid_math_cos), ("math.mPi4", laid_math_mPi4)] }
def DialNoonSaid : Prop := dialNoonRow.holds Tryd.pinned (OpenSpec.ofChange dialNoonSpec)

/-- ITS FALSE NEIGHBOUR: 'it returns false'. Refute it at one input. -/
def dialNoonWrong : ChangeSpec := { name := "dialNoon", fn := fun _ => fun
  | [d] => { results := [.lit (.bool false)], args := [d] }
  | _ => none }
def DialNoonWrongFalsely : Prop := dialNoonRow.holds Tryd.pinned (OpenSpec.ofChange dialNoonWrong)

/-- 'ephemeriskeep2.PlaceParts': WHATEVER THE INPUT: true; the input reads as it did. -/
def placePartsSpec : ChangeSpec := { name := "placeParts", fn := fun _ => fun
  | [d1, d2, d3] => { results := [.lit (.bool true)], args := [d1, d2, d3] }
  | _ => none }
def placePartsRow : OpenClaim := { program := "ytdeoahgcppbmkaadoor", sum := "586bb276b4c277ab3431a941feb924a218f66659d204c50d5d6593eaef284164", func := "ephemeris/ephemeriskeep2.PlaceParts", spec := "placeParts", inPlace := ["math.Float64bits", "math.Float64frombits", "math/bits.Add64", "math.archFloor", "math.archTrunc", "math.archCeil", "math.sqrt"], named := ["math/bits.divideError", "math/bits.overflowError", "math._cos", "math._sin", "math.mPi4"], apart := false, laid := [("math._sin", laid_math_sin), ("math._cos", laid_math_cos), ("math.mPi4", laid_math_mPi4)] }
def PlacePartsSaid : Prop := placePartsRow.holds Tryd.pinned (OpenSpec.ofChange placePartsSpec)

/-- ITS FALSE NEIGHBOUR: 'it returns false'. Refute it at one input. -/
def placePartsWrong : ChangeSpec := { name := "placeParts", fn := fun _ => fun
  | [d1, d2, d3] => { results := [.lit (.bool false)], args := [d1, d2, d3] }
  | _ => none }
def PlacePartsWrongFalsely : Prop := placePartsRow.holds Tryd.pinned (OpenSpec.ofChange placePartsWrong)

/-- 'ephemeriskeep2.SunYears': WHATEVER THE INPUT: true; the input reads as it did. -/
def sunYearsSpec : ChangeSpec := { name := "sunYears", fn := fun _ => fun
  | [d1, d2] => { results := [.lit (.bool true)], args := [d1, d2] }
  | _ => none }
def sunYearsRow : OpenClaim := { program := "ytdeoahgcppbmkaadoor", sum := "586bb276b4c277ab3431a941feb924a218f66659d204c50d5d6593eaef284164", func := "ephemeris/ephemeriskeep2.SunYears", spec := "sunYears", inPlace := ["math.Float64bits", "math.Float64frombits", "math/bits.Add64", "math.archFloor", "math.archTrunc", "math.archCeil", "math.sqrt"], named := ["math/bits.divideError", "math/bits.overflowError", "math._cos", "math._sin", "math.mPi4"], apart := false, laid := [("math._sin", laid_math_sin), ("math._cos", laid_math_cos), ("math.mPi4", laid_math_mPi4)] }
def SunYearsSaid : Prop := sunYearsRow.holds Tryd.pinned (OpenSpec.ofChange sunYearsSpec)

/-- ITS FALSE NEIGHBOUR: 'it returns false'. Refute it at one input. -/
def sunYearsWrong : ChangeSpec := { name := "sunYears", fn := fun _ => fun
  | [d1, d2] => { results := [.lit (.bool false)], args := [d1, d2] }
  | _ => none }
def SunYearsWrongFalsely : Prop := sunYearsRow.holds Tryd.pinned (OpenSpec.ofChange sunYearsWrong)

/-- 'ephemeriskeep2.MoonTilts': WHATEVER THE INPUT: true; the input reads as it did. -/
def moonTiltsSpec : ChangeSpec := { name := "moonTilts", fn := fun _ => fun
  | [d] => { results := [.lit (.bool true)], args := [d] }
  | _ => none }
def moonTiltsRow : OpenClaim := { program := "ytdeoahgcppbmkaadoor", sum := "586bb276b4c277ab3431a941feb924a218f66659d204c50d5d6593eaef284164", func := "ephemeris/ephemeriskeep2.MoonTilts", spec := "moonTilts", inPlace := ["math.Float64bits", "math.Float64frombits", "math/bits.Add64", "math.archFloor", "math.archTrunc", "math.archCeil", "math.sqrt"], named := ["math/bits.divideError", "math/bits.overflowError", "math._cos", "math._sin", "math.mPi4"], apart := false, laid := [("math._sin", laid_math_sin), ("math._cos", laid_math_cos), ("math.mPi4", laid_math_mPi4)] }
def MoonTiltsSaid : Prop := moonTiltsRow.holds Tryd.pinned (OpenSpec.ofChange moonTiltsSpec)

/-- ITS FALSE NEIGHBOUR: 'it returns false'. Refute it at one input. -/
def moonTiltsWrong : ChangeSpec := { name := "moonTilts", fn := fun _ => fun
  | [d] => { results := [.lit (.bool false)], args := [d] }
  | _ => none }
def MoonTiltsWrongFalsely : Prop := moonTiltsRow.holds Tryd.pinned (OpenSpec.ofChange moonTiltsWrong)

/-- 'ephemeriskeep2.PlanetNames': WHATEVER THE INPUT: true; the input reads as it did. -/
def planetNamesSpec : ChangeSpec := { name := "planetNames", fn := fun _ => fun
  | [d1, d2] => { results := [.lit (.bool true)], args := [d1, d2] }
  | _ => none }
def planetNamesRow : OpenClaim := { program := "ytdeoahgcppbmkaadoor", sum := "586bb276b4c277ab3431a941feb924a218f66659d204c50d5d6593eaef284164", func := "ephemeris/ephemeriskeep2.PlanetNames", spec := "planetNames", inPlace := ["math.Float64bits", "math.Float64frombits", "math/bits.Add64", "math.archFloor", "math.archTrunc", "math.archCeil"], named := ["ephemeris/planet.table", "math/bits.divideError", "math/bits.overflowError", "math._cos", "math._sin", "math.mPi4"], apart := false, laid := [("math._sin", laid_math_sin), ("math._cos", laid_math_cos), ("math.mPi4", laid_math_mPi4), ("ephemeris/planet.table", laid_ephemeris_planet_table)] }
def PlanetNamesSaid : Prop := planetNamesRow.holds Tryd.pinned (OpenSpec.ofChange planetNamesSpec)

/-- ITS FALSE NEIGHBOUR: 'it returns false'. Refute it at one input. -/
def planetNamesWrong : ChangeSpec := { name := "planetNames", fn := fun _ => fun
  | [d1, d2] => { results := [.lit (.bool false)], args := [d1, d2] }
  | _ => none }
def PlanetNamesWrongFalsely : Prop := planetNamesRow.holds Tryd.pinned (OpenSpec.ofChange planetNamesWrong)

/-- 'ephemeriskeep2.PlanetNear': WHATEVER THE INPUT: true; the input reads as it did. -/
def planetNearSpec : ChangeSpec := { name := "planetNear", fn := fun _ => fun
  | [d] => { results := [.lit (.bool true)], args := [d] }
  | _ => none }
def planetNearRow : OpenClaim := { program := "ytdeoahgcppbmkaadoor", sum := "586bb276b4c277ab3431a941feb924a218f66659d204c50d5d6593eaef284164", func := "ephemeris/ephemeriskeep2.PlanetNear", spec := "planetNear", inPlace := ["math.Float64bits", "math.Float64frombits", "math/bits.Add64", "math.archFloor", "math.archTrunc", "math.archCeil"], named := ["ephemeris/planet.table", "math/bits.divideError", "math/bits.overflowError", "math._cos", "math._sin", "math.mPi4"], apart := false, laid := [("math._sin", laid_math_sin), ("math._cos", laid_math_cos), ("math.mPi4", laid_math_mPi4), ("ephemeris/planet.table", laid_ephemeris_planet_table)] }
def PlanetNearSaid : Prop := planetNearRow.holds Tryd.pinned (OpenSpec.ofChange planetNearSpec)

/-- ITS FALSE NEIGHBOUR: 'it returns false'. Refute it at one input. -/
def planetNearWrong : ChangeSpec := { name := "planetNear", fn := fun _ => fun
  | [d] => { results := [.lit (.bool false)], args := [d] }
  | _ => none }
def PlanetNearWrongFalsely : Prop := planetNearRow.holds Tryd.pinned (OpenSpec.ofChange planetNearWrong)

/-- 'ephemeriskeep2.MoonGains': WHATEVER THE INPUT: true; the input reads as it did. -/
def moonGainsSpec : ChangeSpec := { name := "moonGains", fn := fun _ => fun
  | [d] => { results := [.lit (.bool true)], args := [d] }
  | _ => none }
def moonGainsRow : OpenClaim := { program := "ytdeoahgcppbmkaadoor", sum := "586bb276b4c277ab3431a941feb924a218f66659d204c50d5d6593eaef284164", func := "ephemeris/ephemeriskeep2.MoonGains", spec := "moonGains", inPlace := ["math.Float64bits", "math.Float64frombits", "math/bits.Add64", "math.archFloor", "math.archTrunc", "math.archCeil"], named := ["math/bits.divideError", "math/bits.overflowError", "math._cos", "math._sin", "math.mPi4"], apart := false, laid := [("math._sin", laid_math_sin), ("math._cos", laid_math_cos), ("math.mPi4", laid_math_mPi4)] }
def MoonGainsSaid : Prop := moonGainsRow.holds Tryd.pinned (OpenSpec.ofChange moonGainsSpec)

/-- ITS FALSE NEIGHBOUR: 'it returns false'. Refute it at one input. -/
def moonGainsWrong : ChangeSpec := { name := "moonGains", fn := fun _ => fun
  | [d] => { results := [.lit (.bool false)], args := [d] }
  | _ => none }
def MoonGainsWrongFalsely : Prop := moonGainsRow.holds Tryd.pinned (OpenSpec.ofChange moonGainsWrong)

/- THE SECOND FORM. 'bulk': how many values and letters a reading holds, each counted each time it is reached (what is shared counts as often as it is met; a slice's spare places count too). A statement '..UptoSaid' is the law's where the arguments, and the package variables that the reading takes, are together of bulk at most 1048576: NARROWER than '..Said'. Prove '..Said' where nothing that the law and all that it calls make is longer than what came in: it says more and counts as full. Else prove '..UptoSaid'. A law counts once. -/
mutual
def uptoBulk {H : Type} : DataW H → Nat
  | .lit (.string bytes) => bytes.length + 1
  | .lit _ => 1
  | .nil => 1
  | .ptr d => uptoBulk d + 1
  | .slice elems spare => uptoBulkAll elems + uptoBulkAll spare + 1
  | .agg parts => uptoBulkAll parts + 1
  | .iface _ d => uptoBulk d + 1
  | .map entries => uptoBulkEntries entries + 1
  | .held _ => 1
def uptoBulkAll {H : Type} : List (DataW H) → Nat
  | [] => 0
  | d :: r => uptoBulk d + uptoBulkAll r
def uptoBulkEntries {H : Type} : List (Lit × DataW H) → Nat
  | [] => 0
  | x :: r => uptoBulkEntry x + uptoBulkEntries r
def uptoBulkEntry {H : Type} : Lit × DataW H → Nat
  | (.string bytes, d) => bytes.length + uptoBulk d + 1
  | (_, d) => uptoBulk d + 1
 end
def uptoSmall : (H : Type) → List (DataW H) → Bool := fun _ ds => decide (uptoBulkAll ds ≤ 1048576)
def OpenSpec.upto (s : _root_.Go.ChangeSpec) : _root_.Go.OpenSpec := { _root_.Go.OpenSpec.ofChange s with cond := some uptoSmall }

/-- 'ephemeriskeep2.TrigAdds', WHERE WHAT IT READS IS OF BULK AT MOST 1048576: true; the input reads as it did. -/
def trigAddsUptoRow : OpenClaim := { program := "ytdeoahgcppbmkaadoor", sum := "586bb276b4c277ab3431a941feb924a218f66659d204c50d5d6593eaef284164", func := "ephemeris/ephemeriskeep2.TrigAdds", spec := "trigAdds", inPlace := ["math.Float64bits", "math.Float64frombits", "math/bits.Add64", "math.archFloor", "math.archTrunc", "math.archCeil", "math.sqrt"], named := ["math._cos", "math._sin", "math.mPi4", "math/bits.divideError", "math/bits.overflowError"], apart := false, laid := [("math._sin", laid_math_sin), ("math._cos", laid_math_cos), ("math.mPi4", laid_math_mPi4)], narrowed := true }
def TrigAddsUptoSaid : Prop := trigAddsUptoRow.holds Tryd.pinned (OpenSpec.upto trigAddsSpec)

/-- 'ephemeriskeep2.TrigInverts', WHERE WHAT IT READS IS OF BULK AT MOST 1048576: true; the input reads as it did. -/
def trigInvertsUptoRow : OpenClaim := { program := "ytdeoahgcppbmkaadoor", sum := "586bb276b4c277ab3431a941feb924a218f66659d204c50d5d6593eaef284164", func := "ephemeris/ephemeriskeep2.TrigInverts", spec := "trigInverts", inPlace := ["math.Float64bits", "math.Float64frombits", "math/bits.Add64", "math.archFloor", "math.archTrunc", "math.archCeil", "math.sqrt"], named := ["math._cos", "math._sin", "math.mPi4"], apart := false, laid := [("math._sin", laid_math_sin), ("math._cos", laid_math_cos), ("math.mPi4", laid_math_mPi4)], narrowed := true }
def TrigInvertsUptoSaid : Prop := trigInvertsUptoRow.holds Tryd.pinned (OpenSpec.upto trigInvertsSpec)

/-- 'ephemeriskeep2.TideTops', WHERE WHAT IT READS IS OF BULK AT MOST 1048576: true; the input reads as it did. -/
def tideTopsUptoRow : OpenClaim := { program := "ytdeoahgcppbmkaadoor", sum := "586bb276b4c277ab3431a941feb924a218f66659d204c50d5d6593eaef284164", func := "ephemeris/ephemeriskeep2.TideTops", spec := "tideTops", inPlace := ["math.Float64bits", "math.Float64frombits", "math/bits.Add64", "math.archFloor", "math.archTrunc", "math.archCeil"], unfollowed := true, recurses := true, named := ["math/bits.divideError", "math/bits.overflowError", "math._cos", "math._sin", "math.mPi4"], apart := false, laid := [("math._sin", laid_math_sin), ("math._cos", laid_math_cos), ("math.mPi4", laid_math_mPi4)], narrowed := true }
def TideTopsUptoSaid : Prop := tideTopsUptoRow.holds Tryd.pinned (OpenSpec.upto tideTopsSpec)

/-- 'ephemeriskeep2.SeriesMoves', WHERE WHAT IT READS IS OF BULK AT MOST 1048576: true; the input reads as it did. -/
def seriesMovesUptoRow : OpenClaim := { program := "ytdeoahgcppbmkaadoor", sum := "586bb276b4c277ab3431a941feb924a218f66659d204c50d5d6593eaef284164", func := "ephemeris/ephemeriskeep2.SeriesMoves", spec := "seriesMoves", inPlace := ["math.Float64bits", "math.Float64frombits", "math/bits.Add64", "math.archFloor", "math.archTrunc", "math.archCeil"], named := ["math/bits.divideError", "math/bits.overflowError", "math._cos", "math._sin", "math.mPi4"], apart := false, laid := [("math._sin", laid_math_sin), ("math._cos", laid_math_cos), ("math.mPi4", laid_math_mPi4)], narrowed := true }
def SeriesMovesUptoSaid : Prop := seriesMovesUptoRow.holds Tryd.pinned (OpenSpec.upto seriesMovesSpec)

/-- 'ephemeriskeep2.DialSides', WHERE WHAT IT READS IS OF BULK AT MOST 1048576: true; the input reads as it did. -/
def dialSidesUptoRow : OpenClaim := { program := "ytdeoahgcppbmkaadoor", sum := "586bb276b4c277ab3431a941feb924a218f66659d204c50d5d6593eaef284164", func := "ephemeris/ephemeriskeep2.DialSides", spec := "dialSides", inPlace := ["math.Float64bits", "math.Float64frombits", "math/bits.Add64", "math.archFloor", "math.archTrunc", "math.archCeil"], named := ["math._cos", "math._sin", "math.mPi4", "math/bits.divideError", "math/bits.overflowError"], apart := false, laid := [("math._sin", laid_math_sin), ("math._cos", laid_math_cos), ("math.mPi4", laid_math_mPi4)], narrowed := true }
def DialSidesUptoSaid : Prop := dialSidesUptoRow.holds Tryd.pinned (OpenSpec.upto dialSidesSpec)

/-- 'ephemeriskeep2.DialNoon', WHERE WHAT IT READS IS OF BULK AT MOST 1048576: true; the input reads as it did. -/
def dialNoonUptoRow : OpenClaim := { program := "ytdeoahgcppbmkaadoor", sum := "586bb276b4c277ab3431a941feb924a218f66659d204c50d5d6593eaef284164", func := "ephemeris/ephemeriskeep2.DialNoon", spec := "dialNoon", inPlace := ["math.Float64bits", "math.Float64frombits", "math/bits.Add64", "math.archFloor", "math.archTrunc", "math.archCeil"], named := ["math._cos", "math._sin", "math.mPi4", "math/bits.divideError", "math/bits.overflowError"], apart := false, laid := [("math._sin", laid_math_sin), ("math._cos", laid_math_cos), ("math.mPi4", laid_math_mPi4)], narrowed := true }
def DialNoonUptoSaid : Prop := dialNoonUptoRow.holds Tryd.pinned (OpenSpec.upto dialNoonSpec)

/-- 'ephemeriskeep2.PlaceParts', WHERE WHAT IT READS IS OF BULK AT MOST 1048576: true; the input reads as it did. -/
def placePartsUptoRow : OpenClaim := { program := "ytdeoahgcppbmkaadoor", sum := "586bb276b4c277ab3431a941feb924a218f66659d204c50d5d6593eaef284164", func := "ephemeris/ephemeriskeep2.PlaceParts", spec := "placeParts", inPlace := ["math.Float64bits", "math.Float64frombits", "math/bits.Add64", "math.archFloor", "math.archTrunc", "math.archCeil", "math.sqrt"], named := ["math/bits.divideError", "math/bits.overflowError", "math._cos", "math._sin", "math.mPi4"], apart := false, laid := [("math._sin", laid_math_sin), ("math._cos", laid_math_cos), ("math.mPi4", laid_math_mPi4)], narrowed := true }
def PlacePartsUptoSaid : Prop := placePartsUptoRow.holds Tryd.pinned (OpenSpec.upto placePartsSpec)

/-- 'ephemeriskeep2.SunYears', WHERE WHAT IT READS IS OF BULK AT MOST 1048576: true; the input reads as it did. -/
def sunYearsUptoRow : OpenClaim := { program := "ytdeoahgcppbmkaadoor", sum := "586bb276b4c277ab3431a941feb924a218f66659d204c50d5d6593eaef284164", func := "ephemeris/ephemeriskeep2.SunYears", spec := "sunYears", inPlace := ["math.Float64bits", "math.Float64frombits", "math/bits.Add64", "math.archFloor", "math.archTrunc", "math.archCeil", "math.sqrt"], named := ["math/bits.divideError", "math/bits.overflowError", "math._cos", "math._sin", "math.mPi4"], apart := false, laid := [("math._sin", laid_math_sin), ("math._cos", laid_math_cos), ("math.mPi4", laid_math_mPi4)], narrowed := true }
def SunYearsUptoSaid : Prop := sunYearsUptoRow.holds Tryd.pinned (OpenSpec.upto sunYearsSpec)

/-- 'ephemeriskeep2.MoonTilts', WHERE WHAT IT READS IS OF BULK AT MOST 1048576: true; the input reads as it did. -/
def moonTiltsUptoRow : OpenClaim := { program := "ytdeoahgcppbmkaadoor", sum := "586bb276b4c277ab3431a941feb924a218f66659d204c50d5d6593eaef284164", func := "ephemeris/ephemeriskeep2.MoonTilts", spec := "moonTilts", inPlace := ["math.Float64bits", "math.Float64frombits", "math/bits.Add64", "math.archFloor", "math.archTrunc", "math.archCeil", "math.sqrt"], named := ["math/bits.divideError", "math/bits.overflowError", "math._cos", "math._sin", "math.mPi4"], apart := false, laid := [("math._sin", laid_math_sin), ("math._cos", laid_math_cos), ("math.mPi4", laid_math_mPi4)], narrowed := true }
def MoonTiltsUptoSaid : Prop := moonTiltsUptoRow.holds Tryd.pinned (OpenSpec.upto moonTiltsSpec)

/-- 'ephemeriskeep2.PlanetNames', WHERE WHAT IT READS IS OF BULK AT MOST 1048576: true; the input reads as it did. -/
def planetNamesUptoRow : OpenClaim := { program := "ytdeoahgcppbmkaadoor", sum := "586bb276b4c277ab3431a941feb924a218f66659d204c50d5d6593eaef284164", func := "ephemeris/ephemeriskeep2.PlanetNames", spec := "planetNames", inPlace := ["math.Float64bits", "math.Float64frombits", "math/bits.Add64", "math.archFloor", "math.archTrunc", "math.archCeil"], named := ["ephemeris/planet.table", "math/bits.divideError", "math/bits.overflowError", "math._cos", "math._sin", "math.mPi4"], apart := false, laid := [("math._sin", laid_math_sin), ("math._cos", laid_math_cos), ("math.mPi4", laid_math_mPi4), ("ephemeris/planet.table", laid_ephemeris_planet_table)], narrowed := true }
def PlanetNamesUptoSaid : Prop := planetNamesUptoRow.holds Tryd.pinned (OpenSpec.upto planetNamesSpec)

/-- 'ephemeriskeep2.PlanetNear', WHERE WHAT IT READS IS OF BULK AT MOST 1048576: true; the input reads as it did. -/
def planetNearUptoRow : OpenClaim := { program := "ytdeoahgcppbmkaadoor", sum := "586bb276b4c277ab3431a941feb924a218f66659d204c50d5d6593eaef284164", func := "ephemeris/ephemeriskeep2.PlanetNear", spec := "planetNear", inPlace := ["math.Float64bits", "math.Float64frombits", "math/bits.Add64", "math.archFloor", "math.archTrunc", "math.archCeil"], named := ["ephemeris/planet.table", "math/bits.divideError", "math/bits.overflowError", "math._cos", "math._sin", "math.mPi4"], apart := false, laid := [("math._sin", laid_math_sin), ("math._cos", laid_math_cos), ("math.mPi4", laid_math_mPi4), ("ephemeris/planet.table", laid_ephemeris_planet_table)], narrowed := true }
def PlanetNearUptoSaid : Prop := planetNearUptoRow.holds Tryd.pinned (OpenSpec.upto planetNearSpec)

/-- 'ephemeriskeep2.MoonGains', WHERE WHAT IT READS IS OF BULK AT MOST 1048576: true; the input reads as it did. -/
def moonGainsUptoRow : OpenClaim := { program := "ytdeoahgcppbmkaadoor", sum := "586bb276b4c277ab3431a941feb924a218f66659d204c50d5d6593eaef284164", func := "ephemeris/ephemeriskeep2.MoonGains", spec := "moonGains", inPlace := ["math.Float64bits", "math.Float64frombits", "math/bits.Add64", "math.archFloor", "math.archTrunc", "math.archCeil"], named := ["math/bits.divideError", "math/bits.overflowError", "math._cos", "math._sin", "math.mPi4"], apart := false, laid := [("math._sin", laid_math_sin), ("math._cos", laid_math_cos), ("math.mPi4", laid_math_mPi4)], narrowed := true }
def MoonGainsUptoSaid : Prop := moonGainsUptoRow.holds Tryd.pinned (OpenSpec.upto moonGainsSpec)

end Rows
end Go.Proofs.YtdeoahgcppbmkaaDoor
