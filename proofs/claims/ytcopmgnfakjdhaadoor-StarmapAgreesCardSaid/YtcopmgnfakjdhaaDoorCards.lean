/-
  DERIVED. GIVEN WITH THE SEED: THE CARDS: each row of YtcopmgnfakjdhaaDoorRows.lean that lists a variable, with what it lists TIED to the program's text (the seventh form; the later family's looks); each row that meets fmt, with fmt's text TOLD by the authors' own Lean function (tested against real Go, not proved from fmt's source: count such statements apart). THE CARD IS WHAT COUNTS. Prove the row's statement (the work); the ties are given (YtcopmgnfakjdhaaDoorTie.lean); close each card by the builder's one call (the guide's Derived/Test/ToyasCard.lean, 'card_holds'). Laid BY PROGRAM, IN A SANDBOX (cutbox-door.mjs). By AI agents, Wed Nov 11 2026. No macro, syntax, notation, axiom, sorry.
-/
import Derived.Test.YtcopmgnfakjdhaaDoorRows
import GoSem.ClaimSeven
namespace Go.Proofs.YtcopmgnfakjdhaaDoor
namespace Rows

/-- THE TIED CARD OF 'ephemeriskeep2.AstrolabeFalls'. -/
def astrolabeFallsCard : Claim7 := { stood := { row := astrolabeFallsRow, standIns := [], harness := (true, "d981b5e9fc31e427b65b4746ba4dfd3b8e244f34905729315f1a19bcf2b60efb"), looks := false }, kinds := [], alts := [], laidByText := true, laidKinds := [.data, .data, .data], laidTests := true, laidLooks := .later }
def AstrolabeFallsCardSaid : Prop := Claim7.holds Tryd.pinned (.plain (OpenSpec.ofChange astrolabeFallsSpec)) astrolabeFallsCard

/-- THE TIED CARD OF 'ephemeriskeep2.AstrolabeMeridian'. -/
def astrolabeMeridianCard : Claim7 := { stood := { row := astrolabeMeridianRow, standIns := [], harness := (true, "d981b5e9fc31e427b65b4746ba4dfd3b8e244f34905729315f1a19bcf2b60efb"), looks := false }, kinds := [], alts := [], laidByText := true, laidKinds := [.data, .data, .data], laidTests := true, laidLooks := .later }
def AstrolabeMeridianCardSaid : Prop := Claim7.holds Tryd.pinned (.plain (OpenSpec.ofChange astrolabeMeridianSpec)) astrolabeMeridianCard

/-- THE TIED CARD OF 'ephemeriskeep2.StarmapAgrees'. -/
def starmapAgreesCard : Claim7 := { stood := { row := starmapAgreesRow, standIns := [], harness := (true, "d981b5e9fc31e427b65b4746ba4dfd3b8e244f34905729315f1a19bcf2b60efb"), looks := false }, kinds := [], alts := [], laidByText := true, laidKinds := [.data, .data, .data, .data], laidTests := true, laidLooks := .later }
def StarmapAgreesCardSaid : Prop := Claim7.holds Tryd.pinned (.plain (OpenSpec.ofChange starmapAgreesSpec)) starmapAgreesCard

/-- THE TIED CARD OF 'ephemeriskeep2.StarmapRound'. -/
def starmapRoundCard : Claim7 := { stood := { row := starmapRoundRow, standIns := [], harness := (true, "d981b5e9fc31e427b65b4746ba4dfd3b8e244f34905729315f1a19bcf2b60efb"), looks := false }, kinds := [], alts := [], laidByText := true, laidKinds := [.data, .data, .data, .data], laidTests := true, laidLooks := .later }
def StarmapRoundCardSaid : Prop := Claim7.holds Tryd.pinned (.plain (OpenSpec.ofChange starmapRoundSpec)) starmapRoundCard

/-- THE SECOND FORM's CARD OF 'ephemeriskeep2.AstrolabeFalls'. -/
def astrolabeFallsUptoCard : Claim7 := { stood := { row := astrolabeFallsUptoRow, standIns := [], harness := (true, "d981b5e9fc31e427b65b4746ba4dfd3b8e244f34905729315f1a19bcf2b60efb"), looks := false }, kinds := [], alts := [], laidByText := true, laidKinds := [.data, .data, .data], laidTests := true, laidLooks := .later }
def AstrolabeFallsUptoCardSaid : Prop := Claim7.holds Tryd.pinned (.plain (OpenSpec.upto astrolabeFallsSpec)) astrolabeFallsUptoCard

/-- THE SECOND FORM's CARD OF 'ephemeriskeep2.AstrolabeMeridian'. -/
def astrolabeMeridianUptoCard : Claim7 := { stood := { row := astrolabeMeridianUptoRow, standIns := [], harness := (true, "d981b5e9fc31e427b65b4746ba4dfd3b8e244f34905729315f1a19bcf2b60efb"), looks := false }, kinds := [], alts := [], laidByText := true, laidKinds := [.data, .data, .data], laidTests := true, laidLooks := .later }
def AstrolabeMeridianUptoCardSaid : Prop := Claim7.holds Tryd.pinned (.plain (OpenSpec.upto astrolabeMeridianSpec)) astrolabeMeridianUptoCard

/-- THE SECOND FORM's CARD OF 'ephemeriskeep2.StarmapAgrees'. -/
def starmapAgreesUptoCard : Claim7 := { stood := { row := starmapAgreesUptoRow, standIns := [], harness := (true, "d981b5e9fc31e427b65b4746ba4dfd3b8e244f34905729315f1a19bcf2b60efb"), looks := false }, kinds := [], alts := [], laidByText := true, laidKinds := [.data, .data, .data, .data], laidTests := true, laidLooks := .later }
def StarmapAgreesUptoCardSaid : Prop := Claim7.holds Tryd.pinned (.plain (OpenSpec.upto starmapAgreesSpec)) starmapAgreesUptoCard

/-- THE SECOND FORM's CARD OF 'ephemeriskeep2.StarmapRound'. -/
def starmapRoundUptoCard : Claim7 := { stood := { row := starmapRoundUptoRow, standIns := [], harness := (true, "d981b5e9fc31e427b65b4746ba4dfd3b8e244f34905729315f1a19bcf2b60efb"), looks := false }, kinds := [], alts := [], laidByText := true, laidKinds := [.data, .data, .data, .data], laidTests := true, laidLooks := .later }
def StarmapRoundUptoCardSaid : Prop := Claim7.holds Tryd.pinned (.plain (OpenSpec.upto starmapRoundSpec)) starmapRoundUptoCard
end Rows
end Go.Proofs.YtcopmgnfakjdhaaDoor
