/-
  DERIVED. GIVEN WITH THE SEED: THE CARDS: each row of YtdifeoahaegjbaaGreatDoorRows.lean that lists a variable, with what it lists TIED to the program's text (the seventh form; the later family's looks); each row that meets fmt, with fmt's text TOLD by the authors' own Lean function (tested against real Go, not proved from fmt's source: count such statements apart). THE CARD IS WHAT COUNTS. Prove the row's statement (the work); the ties are given (YtdifeoahaegjbaaGreatDoorTie.lean); close each card by the builder's one call (the guide's Derived/Test/ToyasCard.lean, 'card_holds'). Laid BY PROGRAM, IN A SANDBOX (cutbox-door.mjs). By AI agents, Wed Nov 11 2026. No macro, syntax, notation, axiom, sorry.
-/
import Derived.Test.YtdifeoahaegjbaaGreatDoorRows
import GoSem.ClaimSeven
namespace Go.Proofs.YtdifeoahaegjbaaGreatDoor
namespace Rows

/-- THE TIED CARD OF 'ephemeristop.TopFigures'. -/
def topFiguresCard : Claim7 := { stood := { row := topFiguresRow, standIns := [], harness := (true, "5bbd5e386305312126f44e7a2a54ed9b8a2a4151805fa1ef20b4e46aaa22775f"), looks := true }, kinds := [], alts := [], laidByText := true, laidKinds := [.data, .data, .data, .data, .data, .data, .data, .sentinel, .sentinel, .pinned], laidTests := true, laidLooks := .later }
def TopFiguresCardSaid : Prop := Claim7.holds Tryz.pinned (.plain (OpenSpec.ofChange topFiguresSpec)) topFiguresCard

/-- THE SECOND FORM's CARD OF 'ephemeristop.TopFigures'. -/
def topFiguresUptoCard : Claim7 := { stood := { row := topFiguresUptoRow, standIns := [], harness := (true, "5bbd5e386305312126f44e7a2a54ed9b8a2a4151805fa1ef20b4e46aaa22775f"), looks := true }, kinds := [], alts := [], laidByText := true, laidKinds := [.data, .data, .data, .data, .data, .data, .data, .sentinel, .sentinel, .pinned], laidTests := true, laidLooks := .later }
def TopFiguresUptoCardSaid : Prop := Claim7.holds Tryz.pinned (.plain (OpenSpec.upto topFiguresSpec)) topFiguresUptoCard
end Rows
end Go.Proofs.YtdifeoahaegjbaaGreatDoor
