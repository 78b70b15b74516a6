/-
  DERIVED. GIVEN WITH THE SEED: THE CARDS: each row of YtdeoahgcppbmkaaDoorRows.lean that lists a variable, with what it lists TIED to the program's text (the seventh form; the later family's looks); each row that meets fmt, with fmt's text TOLD by the authors' own Lean function (tested against real Go, not proved from fmt's source: count such statements apart). THE CARD IS WHAT COUNTS. Prove the row's statement (the work); the ties are given (YtdeoahgcppbmkaaDoorTie.lean); close each card by the builder's one call (the guide's Derived/Test/ToyasCard.lean, 'card_holds'). Laid BY PROGRAM, IN A SANDBOX (cutbox-door.mjs). By AI agents, Wed Nov 11 2026. No macro, syntax, notation, axiom, sorry.
-/
import Derived.Test.YtdeoahgcppbmkaaDoorRows
import GoSem.ClaimSeven
namespace Go.Proofs.YtdeoahgcppbmkaaDoor
namespace Rows

/-- THE TIED CARD OF 'ephemeriskeep2.TrigAdds'. -/
def trigAddsCard : Claim7 := { stood := { row := trigAddsRow, standIns := [], harness := (true, "45070f40438d95461235478b5a8145414cf0c316e35becc5cbfafbebe49a1cae"), looks := false }, kinds := [], alts := [], laidByText := true, laidKinds := [.data, .data, .data], laidTests := true, laidLooks := .later }
def TrigAddsCardSaid : Prop := Claim7.holds Tryd.pinned (.plain (OpenSpec.ofChange trigAddsSpec)) trigAddsCard

/-- THE TIED CARD OF 'ephemeriskeep2.TrigInverts'. -/
def trigInvertsCard : Claim7 := { stood := { row := trigInvertsRow, standIns := [], harness := (true, "45070f40438d95461235478b5a8145414cf0c316e35becc5cbfafbebe49a1cae"), looks := false }, kinds := [], alts := [], laidByText := true, laidKinds := [.data, .data, .data], laidTests := true, laidLooks := .later }
def TrigInvertsCardSaid : Prop := Claim7.holds Tryd.pinned (.plain (OpenSpec.ofChange trigInvertsSpec)) trigInvertsCard

/-- THE TIED CARD OF 'ephemeriskeep2.TideTops'. -/
def tideTopsCard : Claim7 := { stood := { row := tideTopsRow, standIns := [], harness := (true, "45070f40438d95461235478b5a8145414cf0c316e35becc5cbfafbebe49a1cae"), looks := false }, kinds := [], alts := [], laidByText := true, laidKinds := [.data, .data, .data], laidTests := true, laidLooks := .later }
def TideTopsCardSaid : Prop := Claim7.holds Tryd.pinned (.plain (OpenSpec.ofChange tideTopsSpec)) tideTopsCard

/-- THE TIED CARD OF 'ephemeriskeep2.SeriesMoves'. -/
def seriesMovesCard : Claim7 := { stood := { row := seriesMovesRow, standIns := [], harness := (true, "45070f40438d95461235478b5a8145414cf0c316e35becc5cbfafbebe49a1cae"), looks := false }, kinds := [], alts := [], laidByText := true, laidKinds := [.data, .data, .data], laidTests := true, laidLooks := .later }
def SeriesMovesCardSaid : Prop := Claim7.holds Tryd.pinned (.plain (OpenSpec.ofChange seriesMovesSpec)) seriesMovesCard

/-- THE TIED CARD OF 'ephemeriskeep2.DialSides'. -/
def dialSidesCard : Claim7 := { stood := { row := dialSidesRow, standIns := [], harness := (true, "45070f40438d95461235478b5a8145414cf0c316e35becc5cbfafbebe49a1cae"), looks := false }, kinds := [], alts := [], laidByText := true, laidKinds := [.data, .data, .data], laidTests := true, laidLooks := .later }
def DialSidesCardSaid : Prop := Claim7.holds Tryd.pinned (.plain (OpenSpec.ofChange dialSidesSpec)) dialSidesCard

/-- THE TIED CARD OF 'ephemeriskeep2.DialNoon'. -/
def dialNoonCard : Claim7 := { stood := { row := dialNoonRow, standIns := [], harness := (true, "45070f40438d95461235478b5a8145414cf0c316e35becc5cbfafbebe49a1cae"), looks := false }, kinds := [], alts := [], laidByText := true, laidKinds := [.data, .data, .data], laidTests := true, laidLooks := .later }
def DialNoonCardSaid : Prop := Claim7.holds Tryd.pinned (.plain (OpenSpec.ofChange dialNoonSpec)) dialNoonCard

/-- THE TIED CARD OF 'ephemeriskeep2.PlaceParts'. -/
def placePartsCard : Claim7 := { stood := { row := placePartsRow, standIns := [], harness := (true, "45070f40438d95461235478b5a8145414cf0c316e35becc5cbfafbebe49a1cae"), looks := false }, kinds := [], alts := [], laidByText := true, laidKinds := [.data, .data, .data], laidTests := true, laidLooks := .later }
def PlacePartsCardSaid : Prop := Claim7.holds Tryd.pinned (.plain (OpenSpec.ofChange placePartsSpec)) placePartsCard

/-- THE TIED CARD OF 'ephemeriskeep2.SunYears'. -/
def sunYearsCard : Claim7 := { stood := { row := sunYearsRow, standIns := [], harness := (true, "45070f40438d95461235478b5a8145414cf0c316e35becc5cbfafbebe49a1cae"), looks := false }, kinds := [], alts := [], laidByText := true, laidKinds := [.data, .data, .data], laidTests := true, laidLooks := .later }
def SunYearsCardSaid : Prop := Claim7.holds Tryd.pinned (.plain (OpenSpec.ofChange sunYearsSpec)) sunYearsCard

/-- THE TIED CARD OF 'ephemeriskeep2.MoonTilts'. -/
def moonTiltsCard : Claim7 := { stood := { row := moonTiltsRow, standIns := [], harness := (true, "45070f40438d95461235478b5a8145414cf0c316e35becc5cbfafbebe49a1cae"), looks := false }, kinds := [], alts := [], laidByText := true, laidKinds := [.data, .data, .data], laidTests := true, laidLooks := .later }
def MoonTiltsCardSaid : Prop := Claim7.holds Tryd.pinned (.plain (OpenSpec.ofChange moonTiltsSpec)) moonTiltsCard

/-- THE TIED CARD OF 'ephemeriskeep2.PlanetNames'. -/
def planetNamesCard : Claim7 := { stood := { row := planetNamesRow, standIns := [], harness := (true, "45070f40438d95461235478b5a8145414cf0c316e35becc5cbfafbebe49a1cae"), looks := false }, kinds := [], alts := [], laidByText := true, laidKinds := [.data, .data, .data, .data], laidTests := true, laidLooks := .later }
def PlanetNamesCardSaid : Prop := Claim7.holds Tryd.pinned (.plain (OpenSpec.ofChange planetNamesSpec)) planetNamesCard

/-- THE TIED CARD OF 'ephemeriskeep2.PlanetNear'. -/
def planetNearCard : Claim7 := { stood := { row := planetNearRow, standIns := [], harness := (true, "45070f40438d95461235478b5a8145414cf0c316e35becc5cbfafbebe49a1cae"), looks := false }, kinds := [], alts := [], laidByText := true, laidKinds := [.data, .data, .data, .data], laidTests := true, laidLooks := .later }
def PlanetNearCardSaid : Prop := Claim7.holds Tryd.pinned (.plain (OpenSpec.ofChange planetNearSpec)) planetNearCard

/-- THE TIED CARD OF 'ephemeriskeep2.MoonGains'. -/
def moonGainsCard : Claim7 := { stood := { row := moonGainsRow, standIns := [], harness := (true, "45070f40438d95461235478b5a8145414cf0c316e35becc5cbfafbebe49a1cae"), looks := false }, kinds := [], alts := [], laidByText := true, laidKinds := [.data, .data, .data], laidTests := true, laidLooks := .later }
def MoonGainsCardSaid : Prop := Claim7.holds Tryd.pinned (.plain (OpenSpec.ofChange moonGainsSpec)) moonGainsCard

/-- THE SECOND FORM's CARD OF 'ephemeriskeep2.TrigAdds'. -/
def trigAddsUptoCard : Claim7 := { stood := { row := trigAddsUptoRow, standIns := [], harness := (true, "45070f40438d95461235478b5a8145414cf0c316e35becc5cbfafbebe49a1cae"), looks := false }, kinds := [], alts := [], laidByText := true, laidKinds := [.data, .data, .data], laidTests := true, laidLooks := .later }
def TrigAddsUptoCardSaid : Prop := Claim7.holds Tryd.pinned (.plain (OpenSpec.upto trigAddsSpec)) trigAddsUptoCard

/-- THE SECOND FORM's CARD OF 'ephemeriskeep2.TrigInverts'. -/
def trigInvertsUptoCard : Claim7 := { stood := { row := trigInvertsUptoRow, standIns := [], harness := (true, "45070f40438d95461235478b5a8145414cf0c316e35becc5cbfafbebe49a1cae"), looks := false }, kinds := [], alts := [], laidByText := true, laidKinds := [.data, .data, .data], laidTests := true, laidLooks := .later }
def TrigInvertsUptoCardSaid : Prop := Claim7.holds Tryd.pinned (.plain (OpenSpec.upto trigInvertsSpec)) trigInvertsUptoCard

/-- THE SECOND FORM's CARD OF 'ephemeriskeep2.TideTops'. -/
def tideTopsUptoCard : Claim7 := { stood := { row := tideTopsUptoRow, standIns := [], harness := (true, "45070f40438d95461235478b5a8145414cf0c316e35becc5cbfafbebe49a1cae"), looks := false }, kinds := [], alts := [], laidByText := true, laidKinds := [.data, .data, .data], laidTests := true, laidLooks := .later }
def TideTopsUptoCardSaid : Prop := Claim7.holds Tryd.pinned (.plain (OpenSpec.upto tideTopsSpec)) tideTopsUptoCard

/-- THE SECOND FORM's CARD OF 'ephemeriskeep2.SeriesMoves'. -/
def seriesMovesUptoCard : Claim7 := { stood := { row := seriesMovesUptoRow, standIns := [], harness := (true, "45070f40438d95461235478b5a8145414cf0c316e35becc5cbfafbebe49a1cae"), looks := false }, kinds := [], alts := [], laidByText := true, laidKinds := [.data, .data, .data], laidTests := true, laidLooks := .later }
def SeriesMovesUptoCardSaid : Prop := Claim7.holds Tryd.pinned (.plain (OpenSpec.upto seriesMovesSpec)) seriesMovesUptoCard

/-- THE SECOND FORM's CARD OF 'ephemeriskeep2.DialSides'. -/
def dialSidesUptoCard : Claim7 := { stood := { row := dialSidesUptoRow, standIns := [], harness := (true, "45070f40438d95461235478b5a8145414cf0c316e35becc5cbfafbebe49a1cae"), looks := false }, kinds := [], alts := [], laidByText := true, laidKinds := [.data, .data, .data], laidTests := true, laidLooks := .later }
def DialSidesUptoCardSaid : Prop := Claim7.holds Tryd.pinned (.plain (OpenSpec.upto dialSidesSpec)) dialSidesUptoCard

/-- THE SECOND FORM's CARD OF 'ephemeriskeep2.DialNoon'. -/
def dialNoonUptoCard : Claim7 := { stood := { row := dialNoonUptoRow, standIns := [], harness := (true, "45070f40438d95461235478b5a8145414cf0c316e35becc5cbfafbebe49a1cae"), looks := false }, kinds := [], alts := [], laidByText := true, laidKinds := [.data, .data, .data], laidTests := true, laidLooks := .later }
def DialNoonUptoCardSaid : Prop := Claim7.holds Tryd.pinned (.plain (OpenSpec.upto dialNoonSpec)) dialNoonUptoCard

/-- THE SECOND FORM's CARD OF 'ephemeriskeep2.PlaceParts'. -/
def placePartsUptoCard : Claim7 := { stood := { row := placePartsUptoRow, standIns := [], harness := (true, "45070f40438d95461235478b5a8145414cf0c316e35becc5cbfafbebe49a1cae"), looks := false }, kinds := [], alts := [], laidByText := true, laidKinds := [.data, .data, .data], laidTests := true, laidLooks := .later }
def PlacePartsUptoCardSaid : Prop := Claim7.holds Tryd.pinned (.plain (OpenSpec.upto placePartsSpec)) placePartsUptoCard

/-- THE SECOND FORM's CARD OF 'ephemeriskeep2.SunYears'. -/
def sunYearsUptoCard : Claim7 := { stood := { row := sunYearsUptoRow, standIns := [], harness := (true, "45070f40438d95461235478b5a8145414cf0c316e35becc5cbfafbebe49a1cae"), looks := false }, kinds := [], alts := [], laidByText := true, laidKinds := [.data, .data, .data], laidTests := true, laidLooks := .later }
def SunYearsUptoCardSaid : Prop := Claim7.holds Tryd.pinned (.plain (OpenSpec.upto sunYearsSpec)) sunYearsUptoCard

/-- THE SECOND FORM's CARD OF 'ephemeriskeep2.MoonTilts'. -/
def moonTiltsUptoCard : Claim7 := { stood := { row := moonTiltsUptoRow, standIns := [], harness := (true, "45070f40438d95461235478b5a8145414cf0c316e35becc5cbfafbebe49a1cae"), looks := false }, kinds := [], alts := [], laidByText := true, laidKinds := [.data, .data, .data], laidTests := true, laidLooks := .later }
def MoonTiltsUptoCardSaid : Prop := Claim7.holds Tryd.pinned (.plain (OpenSpec.upto moonTiltsSpec)) moonTiltsUptoCard

/-- THE SECOND FORM's CARD OF 'ephemeriskeep2.PlanetNames'. -/
def planetNamesUptoCard : Claim7 := { stood := { row := planetNamesUptoRow, standIns := [], harness := (true, "45070f40438d95461235478b5a8145414cf0c316e35becc5cbfafbebe49a1cae"), looks := false }, kinds := [], alts := [], laidByText := true, laidKinds := [.data, .data, .data, .data], laidTests := true, laidLooks := .later }
def PlanetNamesUptoCardSaid : Prop := Claim7.holds Tryd.pinned (.plain (OpenSpec.upto planetNamesSpec)) planetNamesUptoCard

/-- THE SECOND FORM's CARD OF 'ephemeriskeep2.PlanetNear'. -/
def planetNearUptoCard : Claim7 := { stood := { row := planetNearUptoRow, standIns := [], harness := (true, "45070f40438d95461235478b5a8145414cf0c316e35becc5cbfafbebe49a1cae"), looks := false }, kinds := [], alts := [], laidByText := true, laidKinds := [.data, .data, .data, .data], laidTests := true, laidLooks := .later }
def PlanetNearUptoCardSaid : Prop := Claim7.holds Tryd.pinned (.plain (OpenSpec.upto planetNearSpec)) planetNearUptoCard

/-- THE SECOND FORM's CARD OF 'ephemeriskeep2.MoonGains'. -/
def moonGainsUptoCard : Claim7 := { stood := { row := moonGainsUptoRow, standIns := [], harness := (true, "45070f40438d95461235478b5a8145414cf0c316e35becc5cbfafbebe49a1cae"), looks := false }, kinds := [], alts := [], laidByText := true, laidKinds := [.data, .data, .data], laidTests := true, laidLooks := .later }
def MoonGainsUptoCardSaid : Prop := Claim7.holds Tryd.pinned (.plain (OpenSpec.upto moonGainsSpec)) moonGainsUptoCard
end Rows
end Go.Proofs.YtdeoahgcppbmkaaDoor
