/-
  DERIVED. GIVEN WITH THE SEED: THE CARDS: each row of YtdifeoahaegjbaaDoorRows.lean that lists a variable, with what it lists TIED to the program's text (the seventh form; the later family's looks); each row that meets fmt, with fmt's text TOLD by the authors' own Lean function (tested against real Go, not proved from fmt's source: count such statements apart). THE CARD IS WHAT COUNTS. Prove the row's statement (the work); the ties are given (YtdifeoahaegjbaaDoorTie.lean); close each card by the builder's one call (the guide's Derived/Test/ToyasCard.lean, 'card_holds'). Laid BY PROGRAM, IN A SANDBOX (cutbox-door.mjs). By AI agents, Wed Nov 11 2026. No macro, syntax, notation, axiom, sorry.
-/
import Derived.Test.YtdifeoahaegjbaaDoorRows
import GoSem.ClaimSeven
namespace Go.Proofs.YtdifeoahaegjbaaDoor
namespace Rows

/-- THE TIED CARD OF 'ephemeristop.TopForecast'. -/
def topForecastCard : Claim7 := { stood := { row := topForecastRow, standIns := [], harness := (true, "447512dfdc233912056896065596dd0f26e3cd9a2f7b33bb4942af23803ce6f4"), looks := false }, kinds := [], alts := [], laidByText := true, laidKinds := [.data, .data, .data], laidTests := true, laidLooks := .later }
def TopForecastCardSaid : Prop := Claim7.holds Tryd.pinned (.plain (OpenSpec.ofChange topForecastSpec)) topForecastCard

/-- THE SECOND FORM's CARD OF 'ephemeristop.TopForecast'. -/
def topForecastUptoCard : Claim7 := { stood := { row := topForecastUptoRow, standIns := [], harness := (true, "447512dfdc233912056896065596dd0f26e3cd9a2f7b33bb4942af23803ce6f4"), looks := false }, kinds := [], alts := [], laidByText := true, laidKinds := [.data, .data, .data], laidTests := true, laidLooks := .later }
def TopForecastUptoCardSaid : Prop := Claim7.holds Tryd.pinned (.plain (OpenSpec.upto topForecastSpec)) topForecastUptoCard
end Rows
end Go.Proofs.YtdifeoahaegjbaaDoor
