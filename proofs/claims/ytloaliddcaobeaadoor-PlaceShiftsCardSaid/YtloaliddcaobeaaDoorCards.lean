/-
  DERIVED. GIVEN WITH THE SEED: THE CARDS: each row of YtloaliddcaobeaaDoorRows.lean that lists a variable, with what it lists TIED to the program's text (the seventh form; the later family's looks); each row that meets fmt, with fmt's text TOLD by the authors' own Lean function (tested against real Go, not proved from fmt's source: count such statements apart). THE CARD IS WHAT COUNTS. Prove the row's statement (the work); the ties are given (YtloaliddcaobeaaDoorTie.lean); close each card by the builder's one call (the guide's Derived/Test/ToyasCard.lean, 'card_holds'). Laid BY PROGRAM, IN A SANDBOX (cutbox-door.mjs). By AI agents, Wed Nov 11 2026. No macro, syntax, notation, axiom, sorry.
-/
import Derived.Test.YtloaliddcaobeaaDoorRows
import GoSem.ClaimSeven
namespace Go.Proofs.YtloaliddcaobeaaDoor
namespace Rows

/-- THE TIED CARD OF 'ephemeriskeep2.AstrolabeFalls'. -/
def astrolabeFallsCard : Claim7 := { stood := { row := astrolabeFallsRow, standIns := [], harness := (true, "90826db388af2e40d70d3456cb0a9d9ae3705da83dfe2037267daace4e452ea9"), looks := false }, kinds := [], alts := [], laidByText := true, laidKinds := [.data, .data, .data], laidTests := true, laidLooks := .later }
def AstrolabeFallsCardSaid : Prop := Claim7.holds Tryd.pinned (.plain (OpenSpec.ofChange astrolabeFallsSpec)) astrolabeFallsCard

/-- THE TIED CARD OF 'ephemeriskeep2.AstrolabeMeridian'. -/
def astrolabeMeridianCard : Claim7 := { stood := { row := astrolabeMeridianRow, standIns := [], harness := (true, "90826db388af2e40d70d3456cb0a9d9ae3705da83dfe2037267daace4e452ea9"), looks := false }, kinds := [], alts := [], laidByText := true, laidKinds := [.data, .data, .data], laidTests := true, laidLooks := .later }
def AstrolabeMeridianCardSaid : Prop := Claim7.holds Tryd.pinned (.plain (OpenSpec.ofChange astrolabeMeridianSpec)) astrolabeMeridianCard

/-- THE TIED CARD OF 'ephemeriskeep2.TideSums'. -/
def tideSumsCard : Claim7 := { stood := { row := tideSumsRow, standIns := [], harness := (true, "90826db388af2e40d70d3456cb0a9d9ae3705da83dfe2037267daace4e452ea9"), looks := false }, kinds := [], alts := [], laidByText := true, laidKinds := [.data, .data, .data], laidTests := true, laidLooks := .later }
def TideSumsCardSaid : Prop := Claim7.holds Tryd.pinned (.plain (OpenSpec.ofChange tideSumsSpec)) tideSumsCard

/-- THE TIED CARD OF 'ephemeriskeep2.TideRepeats'. -/
def tideRepeatsCard : Claim7 := { stood := { row := tideRepeatsRow, standIns := [], harness := (true, "90826db388af2e40d70d3456cb0a9d9ae3705da83dfe2037267daace4e452ea9"), looks := false }, kinds := [], alts := [], laidByText := true, laidKinds := [.data, .data, .data], laidTests := true, laidLooks := .later }
def TideRepeatsCardSaid : Prop := Claim7.holds Tryd.pinned (.plain (OpenSpec.ofChange tideRepeatsSpec)) tideRepeatsCard

/-- THE TIED CARD OF 'ephemeriskeep2.StarStays'. -/
def starStaysCard : Claim7 := { stood := { row := starStaysRow, standIns := [], harness := (true, "90826db388af2e40d70d3456cb0a9d9ae3705da83dfe2037267daace4e452ea9"), looks := false }, kinds := [], alts := [], laidByText := true, laidKinds := [.data, .data, .data, .data], laidTests := true, laidLooks := .later }
def StarStaysCardSaid : Prop := Claim7.holds Tryd.pinned (.plain (OpenSpec.ofChange starStaysSpec)) starStaysCard

/-- THE TIED CARD OF 'ephemeriskeep2.SeriesAdds'. -/
def seriesAddsCard : Claim7 := { stood := { row := seriesAddsRow, standIns := [], harness := (true, "90826db388af2e40d70d3456cb0a9d9ae3705da83dfe2037267daace4e452ea9"), looks := false }, kinds := [], alts := [], laidByText := true, laidKinds := [.data, .data, .data], laidTests := true, laidLooks := .later }
def SeriesAddsCardSaid : Prop := Claim7.holds Tryd.pinned (.plain (OpenSpec.ofChange seriesAddsSpec)) seriesAddsCard

/-- THE TIED CARD OF 'ephemeriskeep2.SeriesRests'. -/
def seriesRestsCard : Claim7 := { stood := { row := seriesRestsRow, standIns := [], harness := (true, "90826db388af2e40d70d3456cb0a9d9ae3705da83dfe2037267daace4e452ea9"), looks := false }, kinds := [], alts := [], laidByText := true, laidKinds := [.data, .data, .data], laidTests := true, laidLooks := .later }
def SeriesRestsCardSaid : Prop := Claim7.holds Tryd.pinned (.plain (OpenSpec.ofChange seriesRestsSpec)) seriesRestsCard

/-- THE TIED CARD OF 'ephemeriskeep2.TrigTurns'. -/
def trigTurnsCard : Claim7 := { stood := { row := trigTurnsRow, standIns := [], harness := (true, "90826db388af2e40d70d3456cb0a9d9ae3705da83dfe2037267daace4e452ea9"), looks := false }, kinds := [], alts := [], laidByText := true, laidKinds := [.data, .data, .data], laidTests := true, laidLooks := .later }
def TrigTurnsCardSaid : Prop := Claim7.holds Tryd.pinned (.plain (OpenSpec.ofChange trigTurnsSpec)) trigTurnsCard

/-- THE TIED CARD OF 'ephemeriskeep2.TrigRootSquares'. -/
def trigRootSquaresCard : Claim7 := { stood := { row := trigRootSquaresRow, standIns := [], harness := (true, "90826db388af2e40d70d3456cb0a9d9ae3705da83dfe2037267daace4e452ea9"), looks := false }, kinds := [], alts := [], laidByText := true, laidKinds := [.data, .data, .data], laidTests := true, laidLooks := .later }
def TrigRootSquaresCardSaid : Prop := Claim7.holds Tryd.pinned (.plain (OpenSpec.ofChange trigRootSquaresSpec)) trigRootSquaresCard

/-- THE TIED CARD OF 'ephemeriskeep2.PlaceShifts'. -/
def placeShiftsCard : Claim7 := { stood := { row := placeShiftsRow, standIns := [], harness := (true, "90826db388af2e40d70d3456cb0a9d9ae3705da83dfe2037267daace4e452ea9"), looks := false }, kinds := [], alts := [], laidByText := true, laidKinds := [.data, .data, .data], laidTests := true, laidLooks := .later }
def PlaceShiftsCardSaid : Prop := Claim7.holds Tryd.pinned (.plain (OpenSpec.ofChange placeShiftsSpec)) placeShiftsCard

/-- THE TIED CARD OF 'ephemeriskeep2.StarmapAgrees'. -/
def starmapAgreesCard : Claim7 := { stood := { row := starmapAgreesRow, standIns := [], harness := (true, "90826db388af2e40d70d3456cb0a9d9ae3705da83dfe2037267daace4e452ea9"), looks := false }, kinds := [], alts := [], laidByText := true, laidKinds := [.data, .data, .data, .data], laidTests := true, laidLooks := .later }
def StarmapAgreesCardSaid : Prop := Claim7.holds Tryd.pinned (.plain (OpenSpec.ofChange starmapAgreesSpec)) starmapAgreesCard

/-- THE TIED CARD OF 'ephemeriskeep2.TrigPythagoras'. -/
def trigPythagorasCard : Claim7 := { stood := { row := trigPythagorasRow, standIns := [], harness := (true, "90826db388af2e40d70d3456cb0a9d9ae3705da83dfe2037267daace4e452ea9"), looks := false }, kinds := [], alts := [], laidByText := true, laidKinds := [.data, .data, .data], laidTests := true, laidLooks := .later }
def TrigPythagorasCardSaid : Prop := Claim7.holds Tryd.pinned (.plain (OpenSpec.ofChange trigPythagorasSpec)) trigPythagorasCard

/-- THE SECOND FORM's CARD OF 'ephemeriskeep2.AstrolabeFalls'. -/
def astrolabeFallsUptoCard : Claim7 := { stood := { row := astrolabeFallsUptoRow, standIns := [], harness := (true, "90826db388af2e40d70d3456cb0a9d9ae3705da83dfe2037267daace4e452ea9"), looks := false }, kinds := [], alts := [], laidByText := true, laidKinds := [.data, .data, .data], laidTests := true, laidLooks := .later }
def AstrolabeFallsUptoCardSaid : Prop := Claim7.holds Tryd.pinned (.plain (OpenSpec.upto astrolabeFallsSpec)) astrolabeFallsUptoCard

/-- THE SECOND FORM's CARD OF 'ephemeriskeep2.AstrolabeMeridian'. -/
def astrolabeMeridianUptoCard : Claim7 := { stood := { row := astrolabeMeridianUptoRow, standIns := [], harness := (true, "90826db388af2e40d70d3456cb0a9d9ae3705da83dfe2037267daace4e452ea9"), looks := false }, kinds := [], alts := [], laidByText := true, laidKinds := [.data, .data, .data], laidTests := true, laidLooks := .later }
def AstrolabeMeridianUptoCardSaid : Prop := Claim7.holds Tryd.pinned (.plain (OpenSpec.upto astrolabeMeridianSpec)) astrolabeMeridianUptoCard

/-- THE SECOND FORM's CARD OF 'ephemeriskeep2.TideSums'. -/
def tideSumsUptoCard : Claim7 := { stood := { row := tideSumsUptoRow, standIns := [], harness := (true, "90826db388af2e40d70d3456cb0a9d9ae3705da83dfe2037267daace4e452ea9"), looks := false }, kinds := [], alts := [], laidByText := true, laidKinds := [.data, .data, .data], laidTests := true, laidLooks := .later }
def TideSumsUptoCardSaid : Prop := Claim7.holds Tryd.pinned (.plain (OpenSpec.upto tideSumsSpec)) tideSumsUptoCard

/-- THE SECOND FORM's CARD OF 'ephemeriskeep2.TideRepeats'. -/
def tideRepeatsUptoCard : Claim7 := { stood := { row := tideRepeatsUptoRow, standIns := [], harness := (true, "90826db388af2e40d70d3456cb0a9d9ae3705da83dfe2037267daace4e452ea9"), looks := false }, kinds := [], alts := [], laidByText := true, laidKinds := [.data, .data, .data], laidTests := true, laidLooks := .later }
def TideRepeatsUptoCardSaid : Prop := Claim7.holds Tryd.pinned (.plain (OpenSpec.upto tideRepeatsSpec)) tideRepeatsUptoCard

/-- THE SECOND FORM's CARD OF 'ephemeriskeep2.StarStays'. -/
def starStaysUptoCard : Claim7 := { stood := { row := starStaysUptoRow, standIns := [], harness := (true, "90826db388af2e40d70d3456cb0a9d9ae3705da83dfe2037267daace4e452ea9"), looks := false }, kinds := [], alts := [], laidByText := true, laidKinds := [.data, .data, .data, .data], laidTests := true, laidLooks := .later }
def StarStaysUptoCardSaid : Prop := Claim7.holds Tryd.pinned (.plain (OpenSpec.upto starStaysSpec)) starStaysUptoCard

/-- THE SECOND FORM's CARD OF 'ephemeriskeep2.SeriesAdds'. -/
def seriesAddsUptoCard : Claim7 := { stood := { row := seriesAddsUptoRow, standIns := [], harness := (true, "90826db388af2e40d70d3456cb0a9d9ae3705da83dfe2037267daace4e452ea9"), looks := false }, kinds := [], alts := [], laidByText := true, laidKinds := [.data, .data, .data], laidTests := true, laidLooks := .later }
def SeriesAddsUptoCardSaid : Prop := Claim7.holds Tryd.pinned (.plain (OpenSpec.upto seriesAddsSpec)) seriesAddsUptoCard

/-- THE SECOND FORM's CARD OF 'ephemeriskeep2.SeriesRests'. -/
def seriesRestsUptoCard : Claim7 := { stood := { row := seriesRestsUptoRow, standIns := [], harness := (true, "90826db388af2e40d70d3456cb0a9d9ae3705da83dfe2037267daace4e452ea9"), looks := false }, kinds := [], alts := [], laidByText := true, laidKinds := [.data, .data, .data], laidTests := true, laidLooks := .later }
def SeriesRestsUptoCardSaid : Prop := Claim7.holds Tryd.pinned (.plain (OpenSpec.upto seriesRestsSpec)) seriesRestsUptoCard

/-- THE SECOND FORM's CARD OF 'ephemeriskeep2.TrigTurns'. -/
def trigTurnsUptoCard : Claim7 := { stood := { row := trigTurnsUptoRow, standIns := [], harness := (true, "90826db388af2e40d70d3456cb0a9d9ae3705da83dfe2037267daace4e452ea9"), looks := false }, kinds := [], alts := [], laidByText := true, laidKinds := [.data, .data, .data], laidTests := true, laidLooks := .later }
def TrigTurnsUptoCardSaid : Prop := Claim7.holds Tryd.pinned (.plain (OpenSpec.upto trigTurnsSpec)) trigTurnsUptoCard

/-- THE SECOND FORM's CARD OF 'ephemeriskeep2.TrigRootSquares'. -/
def trigRootSquaresUptoCard : Claim7 := { stood := { row := trigRootSquaresUptoRow, standIns := [], harness := (true, "90826db388af2e40d70d3456cb0a9d9ae3705da83dfe2037267daace4e452ea9"), looks := false }, kinds := [], alts := [], laidByText := true, laidKinds := [.data, .data, .data], laidTests := true, laidLooks := .later }
def TrigRootSquaresUptoCardSaid : Prop := Claim7.holds Tryd.pinned (.plain (OpenSpec.upto trigRootSquaresSpec)) trigRootSquaresUptoCard

/-- THE SECOND FORM's CARD OF 'ephemeriskeep2.PlaceShifts'. -/
def placeShiftsUptoCard : Claim7 := { stood := { row := placeShiftsUptoRow, standIns := [], harness := (true, "90826db388af2e40d70d3456cb0a9d9ae3705da83dfe2037267daace4e452ea9"), looks := false }, kinds := [], alts := [], laidByText := true, laidKinds := [.data, .data, .data], laidTests := true, laidLooks := .later }
def PlaceShiftsUptoCardSaid : Prop := Claim7.holds Tryd.pinned (.plain (OpenSpec.upto placeShiftsSpec)) placeShiftsUptoCard

/-- THE SECOND FORM's CARD OF 'ephemeriskeep2.StarmapAgrees'. -/
def starmapAgreesUptoCard : Claim7 := { stood := { row := starmapAgreesUptoRow, standIns := [], harness := (true, "90826db388af2e40d70d3456cb0a9d9ae3705da83dfe2037267daace4e452ea9"), looks := false }, kinds := [], alts := [], laidByText := true, laidKinds := [.data, .data, .data, .data], laidTests := true, laidLooks := .later }
def StarmapAgreesUptoCardSaid : Prop := Claim7.holds Tryd.pinned (.plain (OpenSpec.upto starmapAgreesSpec)) starmapAgreesUptoCard

/-- THE SECOND FORM's CARD OF 'ephemeriskeep2.TrigPythagoras'. -/
def trigPythagorasUptoCard : Claim7 := { stood := { row := trigPythagorasUptoRow, standIns := [], harness := (true, "90826db388af2e40d70d3456cb0a9d9ae3705da83dfe2037267daace4e452ea9"), looks := false }, kinds := [], alts := [], laidByText := true, laidKinds := [.data, .data, .data], laidTests := true, laidLooks := .later }
def TrigPythagorasUptoCardSaid : Prop := Claim7.holds Tryd.pinned (.plain (OpenSpec.upto trigPythagorasSpec)) trigPythagorasUptoCard
end Rows
end Go.Proofs.YtloaliddcaobeaaDoor
