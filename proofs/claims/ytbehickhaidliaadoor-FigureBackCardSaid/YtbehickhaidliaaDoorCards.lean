/-
  DERIVED. GIVEN WITH THE SEED: THE CARDS: each row of YtbehickhaidliaaDoorRows.lean that lists a variable, with what it lists TIED to the program's text (the seventh form; the later family's looks); each row that meets fmt, with fmt's text TOLD by the authors' own Lean function (tested against real Go, not proved from fmt's source: count such statements apart). THE CARD IS WHAT COUNTS. Prove the row's statement (the work); the ties are given (YtbehickhaidliaaDoorTie.lean); close each card by the builder's one call (the guide's Derived/Test/ToyasCard.lean, 'card_holds'). Laid BY PROGRAM, IN A SANDBOX (cutbox-door.mjs). By AI agents, Wed Nov 11 2026. No macro, syntax, notation, axiom, sorry.
-/
import Derived.Test.YtbehickhaidliaaDoorRows
import GoSem.ClaimSeven
namespace Go.Proofs.YtbehickhaidliaaDoor
namespace Rows

/-- THE TIED CARD OF 'ephemeriskeep2.FigureBack'. -/
def figureBackCard : Claim7 := { stood := { row := figureBackRow, standIns := [], harness := (true, "391ef634ac0983581796e9cde708fe8f359f251d9f65da9980a7fa10f2109a1f"), looks := true }, kinds := [], alts := [], laidByText := true, laidKinds := [.data, .data, .data, .data, .sentinel, .sentinel, .pinned], laidTests := true, laidLooks := .later }
def FigureBackCardSaid : Prop := Claim7.holds Tryd.pinned (.plain (OpenSpec.ofChange figureBackSpec)) figureBackCard

/-- THE TIED CARD OF 'ephemeriskeep2.FigureShifts'. -/
def figureShiftsCard : Claim7 := { stood := { row := figureShiftsRow, standIns := [], harness := (true, "391ef634ac0983581796e9cde708fe8f359f251d9f65da9980a7fa10f2109a1f"), looks := true }, kinds := [], alts := [], laidByText := true, laidKinds := [.data, .data, .data, .data, .sentinel, .sentinel, .pinned], laidTests := true, laidLooks := .later }
def FigureShiftsCardSaid : Prop := Claim7.holds Tryd.pinned (.plain (OpenSpec.ofChange figureShiftsSpec)) figureShiftsCard

/-- THE TIED CARD OF 'ephemeristop.TopForecast'. -/
def topForecastCard : Claim7 := { stood := { row := topForecastRow, standIns := [], harness := (true, "391ef634ac0983581796e9cde708fe8f359f251d9f65da9980a7fa10f2109a1f"), looks := true }, kinds := [], alts := [], laidByText := true, laidKinds := [.data, .data, .data], laidTests := true, laidLooks := .later }
def TopForecastCardSaid : Prop := Claim7.holds Tryd.pinned (.plain (OpenSpec.ofChange topForecastSpec)) topForecastCard

/-- THE SECOND FORM's CARD OF 'ephemeriskeep2.FigureBack'. -/
def figureBackUptoCard : Claim7 := { stood := { row := figureBackUptoRow, standIns := [], harness := (true, "391ef634ac0983581796e9cde708fe8f359f251d9f65da9980a7fa10f2109a1f"), looks := true }, kinds := [], alts := [], laidByText := true, laidKinds := [.data, .data, .data, .data, .sentinel, .sentinel, .pinned], laidTests := true, laidLooks := .later }
def FigureBackUptoCardSaid : Prop := Claim7.holds Tryd.pinned (.plain (OpenSpec.upto figureBackSpec)) figureBackUptoCard

/-- THE SECOND FORM's CARD OF 'ephemeriskeep2.FigureShifts'. -/
def figureShiftsUptoCard : Claim7 := { stood := { row := figureShiftsUptoRow, standIns := [], harness := (true, "391ef634ac0983581796e9cde708fe8f359f251d9f65da9980a7fa10f2109a1f"), looks := true }, kinds := [], alts := [], laidByText := true, laidKinds := [.data, .data, .data, .data, .sentinel, .sentinel, .pinned], laidTests := true, laidLooks := .later }
def FigureShiftsUptoCardSaid : Prop := Claim7.holds Tryd.pinned (.plain (OpenSpec.upto figureShiftsSpec)) figureShiftsUptoCard

/-- THE SECOND FORM's CARD OF 'ephemeristop.TopForecast'. -/
def topForecastUptoCard : Claim7 := { stood := { row := topForecastUptoRow, standIns := [], harness := (true, "391ef634ac0983581796e9cde708fe8f359f251d9f65da9980a7fa10f2109a1f"), looks := true }, kinds := [], alts := [], laidByText := true, laidKinds := [.data, .data, .data], laidTests := true, laidLooks := .later }
def TopForecastUptoCardSaid : Prop := Claim7.holds Tryd.pinned (.plain (OpenSpec.upto topForecastSpec)) topForecastUptoCard
end Rows
end Go.Proofs.YtbehickhaidliaaDoor
