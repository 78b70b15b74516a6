/-
  DERIVED. GIVEN WITH THE SEED: THE CARDS: each row of YtcopmgnfakjdhaaGreatDoorRows.lean that lists a variable, with what it lists TIED to the program's text (the seventh form; the later family's looks); each row that meets fmt, with fmt's text TOLD by the authors' own Lean function (tested against real Go, not proved from fmt's source: count such statements apart). THE CARD IS WHAT COUNTS. Prove the row's statement (the work); the ties are given (YtcopmgnfakjdhaaGreatDoorTie.lean); close each card by the builder's one call (the guide's Derived/Test/ToyasCard.lean, 'card_holds'). Laid BY PROGRAM, IN A SANDBOX (cutbox-door.mjs). By AI agents, Wed Nov 11 2026. No macro, syntax, notation, axiom, sorry.
-/
import Derived.Test.YtcopmgnfakjdhaaGreatDoorRows
import GoSem.ClaimSeven
namespace Go.Proofs.YtcopmgnfakjdhaaGreatDoor
namespace Rows

/-- THE TIED CARD OF 'ephemeriskeep2.RisesetDays'. -/
def risesetDaysCard : Claim7 := { stood := { row := risesetDaysRow, standIns := [], harness := (true, "5e3b344b6877cc04b5427264888ff560d8e88c794c3a48af1d981066b95fd6fa"), looks := false }, kinds := [], alts := [], laidByText := true, laidKinds := [.data, .data, .data, .data], laidTests := true, laidLooks := .later }
def RisesetDaysCardSaid : Prop := Claim7.holds Tryz.pinned (.plain (OpenSpec.ofChange risesetDaysSpec)) risesetDaysCard

/-- THE TIED CARD OF 'ephemeriskeep2.RisesetMoons'. -/
def risesetMoonsCard : Claim7 := { stood := { row := risesetMoonsRow, standIns := [], harness := (true, "5e3b344b6877cc04b5427264888ff560d8e88c794c3a48af1d981066b95fd6fa"), looks := false }, kinds := [], alts := [], laidByText := true, laidKinds := [.data, .data, .data, .data], laidTests := true, laidLooks := .later }
def RisesetMoonsCardSaid : Prop := Claim7.holds Tryz.pinned (.plain (OpenSpec.ofChange risesetMoonsSpec)) risesetMoonsCard

/-- THE TIED CARD OF 'ephemeriskeep2.CrescentYoung'. -/
def crescentYoungCard : Claim7 := { stood := { row := crescentYoungRow, standIns := [], harness := (true, "5e3b344b6877cc04b5427264888ff560d8e88c794c3a48af1d981066b95fd6fa"), looks := false }, kinds := [], alts := [], laidByText := true, laidKinds := [.data, .data, .data, .data], laidTests := true, laidLooks := .later }
def CrescentYoungCardSaid : Prop := Claim7.holds Tryz.pinned (.plain (OpenSpec.ofChange crescentYoungSpec)) crescentYoungCard

/-- THE TIED CARD OF 'ephemeriskeep2.PathDark'. -/
def pathDarkCard : Claim7 := { stood := { row := pathDarkRow, standIns := [], harness := (true, "5e3b344b6877cc04b5427264888ff560d8e88c794c3a48af1d981066b95fd6fa"), looks := false }, kinds := [], alts := [], laidByText := true, laidKinds := [.data, .data, .data], laidTests := true, laidLooks := .later }
def PathDarkCardSaid : Prop := Claim7.holds Tryz.pinned (.plain (OpenSpec.ofChange pathDarkSpec)) pathDarkCard

/-- THE TIED CARD OF 'ephemeriskeep2.PathSun'. -/
def pathSunCard : Claim7 := { stood := { row := pathSunRow, standIns := [], harness := (true, "5e3b344b6877cc04b5427264888ff560d8e88c794c3a48af1d981066b95fd6fa"), looks := false }, kinds := [], alts := [], laidByText := true, laidKinds := [.data, .data, .data], laidTests := true, laidLooks := .later }
def PathSunCardSaid : Prop := Claim7.holds Tryz.pinned (.plain (OpenSpec.ofChange pathSunSpec)) pathSunCard

/-- THE TIED CARD OF 'ephemeristop.TopContains'. -/
def topContainsCard : Claim7 := { stood := { row := topContainsRow, standIns := [], harness := (true, "5e3b344b6877cc04b5427264888ff560d8e88c794c3a48af1d981066b95fd6fa"), looks := false }, kinds := [], alts := [], laidByText := true, laidKinds := [.data, .data, .data], laidTests := true, laidLooks := .later }
def TopContainsCardSaid : Prop := Claim7.holds Tryz.pinned (.plain (OpenSpec.ofChange topContainsSpec)) topContainsCard

/-- THE TIED CARD OF 'ephemeristop.TopEclipse'. -/
def topEclipseCard : Claim7 := { stood := { row := topEclipseRow, standIns := [], harness := (true, "5e3b344b6877cc04b5427264888ff560d8e88c794c3a48af1d981066b95fd6fa"), looks := false }, kinds := [], alts := [], laidByText := true, laidKinds := [.data, .data, .data], laidTests := true, laidLooks := .later }
def TopEclipseCardSaid : Prop := Claim7.holds Tryz.pinned (.plain (OpenSpec.ofChange topEclipseSpec)) topEclipseCard

/-- THE TIED CARD OF 'ephemeristop.TopCrescent'. -/
def topCrescentCard : Claim7 := { stood := { row := topCrescentRow, standIns := [], harness := (true, "5e3b344b6877cc04b5427264888ff560d8e88c794c3a48af1d981066b95fd6fa"), looks := false }, kinds := [], alts := [], laidByText := true, laidKinds := [.data, .data, .data, .data], laidTests := true, laidLooks := .later }
def TopCrescentCardSaid : Prop := Claim7.holds Tryz.pinned (.plain (OpenSpec.ofChange topCrescentSpec)) topCrescentCard

/-- THE SECOND FORM's CARD OF 'ephemeriskeep2.RisesetDays'. -/
def risesetDaysUptoCard : Claim7 := { stood := { row := risesetDaysUptoRow, standIns := [], harness := (true, "5e3b344b6877cc04b5427264888ff560d8e88c794c3a48af1d981066b95fd6fa"), looks := false }, kinds := [], alts := [], laidByText := true, laidKinds := [.data, .data, .data, .data], laidTests := true, laidLooks := .later }
def RisesetDaysUptoCardSaid : Prop := Claim7.holds Tryz.pinned (.plain (OpenSpec.upto risesetDaysSpec)) risesetDaysUptoCard

/-- THE SECOND FORM's CARD OF 'ephemeriskeep2.RisesetMoons'. -/
def risesetMoonsUptoCard : Claim7 := { stood := { row := risesetMoonsUptoRow, standIns := [], harness := (true, "5e3b344b6877cc04b5427264888ff560d8e88c794c3a48af1d981066b95fd6fa"), looks := false }, kinds := [], alts := [], laidByText := true, laidKinds := [.data, .data, .data, .data], laidTests := true, laidLooks := .later }
def RisesetMoonsUptoCardSaid : Prop := Claim7.holds Tryz.pinned (.plain (OpenSpec.upto risesetMoonsSpec)) risesetMoonsUptoCard

/-- THE SECOND FORM's CARD OF 'ephemeriskeep2.CrescentYoung'. -/
def crescentYoungUptoCard : Claim7 := { stood := { row := crescentYoungUptoRow, standIns := [], harness := (true, "5e3b344b6877cc04b5427264888ff560d8e88c794c3a48af1d981066b95fd6fa"), looks := false }, kinds := [], alts := [], laidByText := true, laidKinds := [.data, .data, .data, .data], laidTests := true, laidLooks := .later }
def CrescentYoungUptoCardSaid : Prop := Claim7.holds Tryz.pinned (.plain (OpenSpec.upto crescentYoungSpec)) crescentYoungUptoCard

/-- THE SECOND FORM's CARD OF 'ephemeriskeep2.PathDark'. -/
def pathDarkUptoCard : Claim7 := { stood := { row := pathDarkUptoRow, standIns := [], harness := (true, "5e3b344b6877cc04b5427264888ff560d8e88c794c3a48af1d981066b95fd6fa"), looks := false }, kinds := [], alts := [], laidByText := true, laidKinds := [.data, .data, .data], laidTests := true, laidLooks := .later }
def PathDarkUptoCardSaid : Prop := Claim7.holds Tryz.pinned (.plain (OpenSpec.upto pathDarkSpec)) pathDarkUptoCard

/-- THE SECOND FORM's CARD OF 'ephemeriskeep2.PathSun'. -/
def pathSunUptoCard : Claim7 := { stood := { row := pathSunUptoRow, standIns := [], harness := (true, "5e3b344b6877cc04b5427264888ff560d8e88c794c3a48af1d981066b95fd6fa"), looks := false }, kinds := [], alts := [], laidByText := true, laidKinds := [.data, .data, .data], laidTests := true, laidLooks := .later }
def PathSunUptoCardSaid : Prop := Claim7.holds Tryz.pinned (.plain (OpenSpec.upto pathSunSpec)) pathSunUptoCard

/-- THE SECOND FORM's CARD OF 'ephemeristop.TopContains'. -/
def topContainsUptoCard : Claim7 := { stood := { row := topContainsUptoRow, standIns := [], harness := (true, "5e3b344b6877cc04b5427264888ff560d8e88c794c3a48af1d981066b95fd6fa"), looks := false }, kinds := [], alts := [], laidByText := true, laidKinds := [.data, .data, .data], laidTests := true, laidLooks := .later }
def TopContainsUptoCardSaid : Prop := Claim7.holds Tryz.pinned (.plain (OpenSpec.upto topContainsSpec)) topContainsUptoCard

/-- THE SECOND FORM's CARD OF 'ephemeristop.TopEclipse'. -/
def topEclipseUptoCard : Claim7 := { stood := { row := topEclipseUptoRow, standIns := [], harness := (true, "5e3b344b6877cc04b5427264888ff560d8e88c794c3a48af1d981066b95fd6fa"), looks := false }, kinds := [], alts := [], laidByText := true, laidKinds := [.data, .data, .data], laidTests := true, laidLooks := .later }
def TopEclipseUptoCardSaid : Prop := Claim7.holds Tryz.pinned (.plain (OpenSpec.upto topEclipseSpec)) topEclipseUptoCard

/-- THE SECOND FORM's CARD OF 'ephemeristop.TopCrescent'. -/
def topCrescentUptoCard : Claim7 := { stood := { row := topCrescentUptoRow, standIns := [], harness := (true, "5e3b344b6877cc04b5427264888ff560d8e88c794c3a48af1d981066b95fd6fa"), looks := false }, kinds := [], alts := [], laidByText := true, laidKinds := [.data, .data, .data, .data], laidTests := true, laidLooks := .later }
def TopCrescentUptoCardSaid : Prop := Claim7.holds Tryz.pinned (.plain (OpenSpec.upto topCrescentSpec)) topCrescentUptoCard
end Rows
end Go.Proofs.YtcopmgnfakjdhaaGreatDoor
