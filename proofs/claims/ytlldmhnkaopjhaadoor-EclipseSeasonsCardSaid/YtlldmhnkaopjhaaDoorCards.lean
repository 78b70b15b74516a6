/-
  DERIVED. GIVEN WITH THE SEED: THE CARDS: each row of YtlldmhnkaopjhaaDoorRows.lean that lists a variable, with what it lists TIED to the program's text (the seventh form; the later family's looks); each row that meets fmt, with fmt's text TOLD by the authors' own Lean function (tested against real Go, not proved from fmt's source: count such statements apart). THE CARD IS WHAT COUNTS. Prove the row's statement (the work); the ties are given (YtlldmhnkaopjhaaDoorTie.lean); close each card by the builder's one call (the guide's Derived/Test/ToyasCard.lean, 'card_holds'). Laid BY PROGRAM, IN A SANDBOX (cutbox-door.mjs). By AI agents, Wed Nov 11 2026. No macro, syntax, notation, axiom, sorry.
-/
import Derived.Test.YtlldmhnkaopjhaaDoorRows
import GoSem.ClaimSeven
namespace Go.Proofs.YtlldmhnkaopjhaaDoor
namespace Rows

/-- THE TIED CARD OF 'ephemeriskeep2.PhasesInOrder'. -/
def phasesInOrderCard : Claim7 := { stood := { row := phasesInOrderRow, standIns := [], harness := (true, "68f9f9d8f9335647ae5f41312afcf68e400eaf6cb4004c2b61dac658746ffca7"), looks := false }, kinds := [], alts := [], laidByText := true, laidKinds := [.data, .data, .data], laidTests := true, laidLooks := .later }
def PhasesInOrderCardSaid : Prop := Claim7.holds Tryd.pinned (.plain (OpenSpec.ofChange phasesInOrderSpec)) phasesInOrderCard

/-- THE TIED CARD OF 'ephemeriskeep2.PhaseNumbersGrow'. -/
def phaseNumbersGrowCard : Claim7 := { stood := { row := phaseNumbersGrowRow, standIns := [], harness := (true, "68f9f9d8f9335647ae5f41312afcf68e400eaf6cb4004c2b61dac658746ffca7"), looks := false }, kinds := [], alts := [], laidByText := true, laidKinds := [.data, .data, .data], laidTests := true, laidLooks := .later }
def PhaseNumbersGrowCardSaid : Prop := Claim7.holds Tryd.pinned (.plain (OpenSpec.ofChange phaseNumbersGrowSpec)) phaseNumbersGrowCard

/-- THE TIED CARD OF 'ephemeriskeep2.PhaseLight'. -/
def phaseLightCard : Claim7 := { stood := { row := phaseLightRow, standIns := [], harness := (true, "68f9f9d8f9335647ae5f41312afcf68e400eaf6cb4004c2b61dac658746ffca7"), looks := false }, kinds := [], alts := [], laidByText := true, laidKinds := [.data, .data, .data], laidTests := true, laidLooks := .later }
def PhaseLightCardSaid : Prop := Claim7.holds Tryd.pinned (.plain (OpenSpec.ofChange phaseLightSpec)) phaseLightCard

/-- THE TIED CARD OF 'ephemeriskeep2.EclipseRare'. -/
def eclipseRareCard : Claim7 := { stood := { row := eclipseRareRow, standIns := [], harness := (true, "68f9f9d8f9335647ae5f41312afcf68e400eaf6cb4004c2b61dac658746ffca7"), looks := false }, kinds := [], alts := [], laidByText := true, laidKinds := [.data, .data, .data], laidTests := true, laidLooks := .later }
def EclipseRareCardSaid : Prop := Claim7.holds Tryd.pinned (.plain (OpenSpec.ofChange eclipseRareSpec)) eclipseRareCard

/-- THE TIED CARD OF 'ephemeriskeep2.EclipseSizes'. -/
def eclipseSizesCard : Claim7 := { stood := { row := eclipseSizesRow, standIns := [], harness := (true, "68f9f9d8f9335647ae5f41312afcf68e400eaf6cb4004c2b61dac658746ffca7"), looks := false }, kinds := [], alts := [], laidByText := true, laidKinds := [.data, .data, .data], laidTests := true, laidLooks := .later }
def EclipseSizesCardSaid : Prop := Claim7.holds Tryd.pinned (.plain (OpenSpec.ofChange eclipseSizesSpec)) eclipseSizesCard

/-- THE TIED CARD OF 'ephemeriskeep2.EclipseSeasons'. -/
def eclipseSeasonsCard : Claim7 := { stood := { row := eclipseSeasonsRow, standIns := [], harness := (true, "68f9f9d8f9335647ae5f41312afcf68e400eaf6cb4004c2b61dac658746ffca7"), looks := false }, kinds := [], alts := [], laidByText := true, laidKinds := [.data, .data, .data], laidTests := true, laidLooks := .later }
def EclipseSeasonsCardSaid : Prop := Claim7.holds Tryd.pinned (.plain (OpenSpec.ofChange eclipseSeasonsSpec)) eclipseSeasonsCard

/-- THE TIED CARD OF 'ephemeristop.TopPhases'. -/
def topPhasesCard : Claim7 := { stood := { row := topPhasesRow, standIns := [], harness := (true, "68f9f9d8f9335647ae5f41312afcf68e400eaf6cb4004c2b61dac658746ffca7"), looks := false }, kinds := [], alts := [], laidByText := true, laidKinds := [.data, .data, .data], laidTests := true, laidLooks := .later }
def TopPhasesCardSaid : Prop := Claim7.holds Tryd.pinned (.plain (OpenSpec.ofChange topPhasesSpec)) topPhasesCard

/-- THE TIED CARD OF 'ephemeriskeep2.SeasonsInOrder'. -/
def seasonsInOrderCard : Claim7 := { stood := { row := seasonsInOrderRow, standIns := [], harness := (true, "68f9f9d8f9335647ae5f41312afcf68e400eaf6cb4004c2b61dac658746ffca7"), looks := false }, kinds := [], alts := [], laidByText := true, laidKinds := [.data, .data, .data], laidTests := true, laidLooks := .later }
def SeasonsInOrderCardSaid : Prop := Claim7.holds Tryd.pinned (.plain (OpenSpec.ofChange seasonsInOrderSpec)) seasonsInOrderCard

/-- THE TIED CARD OF 'ephemeriskeep2.SeasonYears'. -/
def seasonYearsCard : Claim7 := { stood := { row := seasonYearsRow, standIns := [], harness := (true, "68f9f9d8f9335647ae5f41312afcf68e400eaf6cb4004c2b61dac658746ffca7"), looks := false }, kinds := [], alts := [], laidByText := true, laidKinds := [.data, .data, .data], laidTests := true, laidLooks := .later }
def SeasonYearsCardSaid : Prop := Claim7.holds Tryd.pinned (.plain (OpenSpec.ofChange seasonYearsSpec)) seasonYearsCard

/-- THE TIED CARD OF 'ephemeriskeep2.SharpenMeets'. -/
def sharpenMeetsCard : Claim7 := { stood := { row := sharpenMeetsRow, standIns := [], harness := (true, "68f9f9d8f9335647ae5f41312afcf68e400eaf6cb4004c2b61dac658746ffca7"), looks := false }, kinds := [], alts := [], laidByText := true, laidKinds := [.data, .data, .data], laidTests := true, laidLooks := .later }
def SharpenMeetsCardSaid : Prop := Claim7.holds Tryd.pinned (.plain (OpenSpec.ofChange sharpenMeetsSpec)) sharpenMeetsCard

/-- THE TIED CARD OF 'ephemeriskeep2.SharpenAgrees'. -/
def sharpenAgreesCard : Claim7 := { stood := { row := sharpenAgreesRow, standIns := [], harness := (true, "68f9f9d8f9335647ae5f41312afcf68e400eaf6cb4004c2b61dac658746ffca7"), looks := false }, kinds := [], alts := [], laidByText := true, laidKinds := [.data, .data, .data], laidTests := true, laidLooks := .later }
def SharpenAgreesCardSaid : Prop := Claim7.holds Tryd.pinned (.plain (OpenSpec.ofChange sharpenAgreesSpec)) sharpenAgreesCard

/-- THE SECOND FORM's CARD OF 'ephemeriskeep2.PhasesInOrder'. -/
def phasesInOrderUptoCard : Claim7 := { stood := { row := phasesInOrderUptoRow, standIns := [], harness := (true, "68f9f9d8f9335647ae5f41312afcf68e400eaf6cb4004c2b61dac658746ffca7"), looks := false }, kinds := [], alts := [], laidByText := true, laidKinds := [.data, .data, .data], laidTests := true, laidLooks := .later }
def PhasesInOrderUptoCardSaid : Prop := Claim7.holds Tryd.pinned (.plain (OpenSpec.upto phasesInOrderSpec)) phasesInOrderUptoCard

/-- THE SECOND FORM's CARD OF 'ephemeriskeep2.PhaseNumbersGrow'. -/
def phaseNumbersGrowUptoCard : Claim7 := { stood := { row := phaseNumbersGrowUptoRow, standIns := [], harness := (true, "68f9f9d8f9335647ae5f41312afcf68e400eaf6cb4004c2b61dac658746ffca7"), looks := false }, kinds := [], alts := [], laidByText := true, laidKinds := [.data, .data, .data], laidTests := true, laidLooks := .later }
def PhaseNumbersGrowUptoCardSaid : Prop := Claim7.holds Tryd.pinned (.plain (OpenSpec.upto phaseNumbersGrowSpec)) phaseNumbersGrowUptoCard

/-- THE SECOND FORM's CARD OF 'ephemeriskeep2.PhaseLight'. -/
def phaseLightUptoCard : Claim7 := { stood := { row := phaseLightUptoRow, standIns := [], harness := (true, "68f9f9d8f9335647ae5f41312afcf68e400eaf6cb4004c2b61dac658746ffca7"), looks := false }, kinds := [], alts := [], laidByText := true, laidKinds := [.data, .data, .data], laidTests := true, laidLooks := .later }
def PhaseLightUptoCardSaid : Prop := Claim7.holds Tryd.pinned (.plain (OpenSpec.upto phaseLightSpec)) phaseLightUptoCard

/-- THE SECOND FORM's CARD OF 'ephemeriskeep2.EclipseRare'. -/
def eclipseRareUptoCard : Claim7 := { stood := { row := eclipseRareUptoRow, standIns := [], harness := (true, "68f9f9d8f9335647ae5f41312afcf68e400eaf6cb4004c2b61dac658746ffca7"), looks := false }, kinds := [], alts := [], laidByText := true, laidKinds := [.data, .data, .data], laidTests := true, laidLooks := .later }
def EclipseRareUptoCardSaid : Prop := Claim7.holds Tryd.pinned (.plain (OpenSpec.upto eclipseRareSpec)) eclipseRareUptoCard

/-- THE SECOND FORM's CARD OF 'ephemeriskeep2.EclipseSizes'. -/
def eclipseSizesUptoCard : Claim7 := { stood := { row := eclipseSizesUptoRow, standIns := [], harness := (true, "68f9f9d8f9335647ae5f41312afcf68e400eaf6cb4004c2b61dac658746ffca7"), looks := false }, kinds := [], alts := [], laidByText := true, laidKinds := [.data, .data, .data], laidTests := true, laidLooks := .later }
def EclipseSizesUptoCardSaid : Prop := Claim7.holds Tryd.pinned (.plain (OpenSpec.upto eclipseSizesSpec)) eclipseSizesUptoCard

/-- THE SECOND FORM's CARD OF 'ephemeriskeep2.EclipseSeasons'. -/
def eclipseSeasonsUptoCard : Claim7 := { stood := { row := eclipseSeasonsUptoRow, standIns := [], harness := (true, "68f9f9d8f9335647ae5f41312afcf68e400eaf6cb4004c2b61dac658746ffca7"), looks := false }, kinds := [], alts := [], laidByText := true, laidKinds := [.data, .data, .data], laidTests := true, laidLooks := .later }
def EclipseSeasonsUptoCardSaid : Prop := Claim7.holds Tryd.pinned (.plain (OpenSpec.upto eclipseSeasonsSpec)) eclipseSeasonsUptoCard

/-- THE SECOND FORM's CARD OF 'ephemeristop.TopPhases'. -/
def topPhasesUptoCard : Claim7 := { stood := { row := topPhasesUptoRow, standIns := [], harness := (true, "68f9f9d8f9335647ae5f41312afcf68e400eaf6cb4004c2b61dac658746ffca7"), looks := false }, kinds := [], alts := [], laidByText := true, laidKinds := [.data, .data, .data], laidTests := true, laidLooks := .later }
def TopPhasesUptoCardSaid : Prop := Claim7.holds Tryd.pinned (.plain (OpenSpec.upto topPhasesSpec)) topPhasesUptoCard

/-- THE SECOND FORM's CARD OF 'ephemeriskeep2.SeasonsInOrder'. -/
def seasonsInOrderUptoCard : Claim7 := { stood := { row := seasonsInOrderUptoRow, standIns := [], harness := (true, "68f9f9d8f9335647ae5f41312afcf68e400eaf6cb4004c2b61dac658746ffca7"), looks := false }, kinds := [], alts := [], laidByText := true, laidKinds := [.data, .data, .data], laidTests := true, laidLooks := .later }
def SeasonsInOrderUptoCardSaid : Prop := Claim7.holds Tryd.pinned (.plain (OpenSpec.upto seasonsInOrderSpec)) seasonsInOrderUptoCard

/-- THE SECOND FORM's CARD OF 'ephemeriskeep2.SeasonYears'. -/
def seasonYearsUptoCard : Claim7 := { stood := { row := seasonYearsUptoRow, standIns := [], harness := (true, "68f9f9d8f9335647ae5f41312afcf68e400eaf6cb4004c2b61dac658746ffca7"), looks := false }, kinds := [], alts := [], laidByText := true, laidKinds := [.data, .data, .data], laidTests := true, laidLooks := .later }
def SeasonYearsUptoCardSaid : Prop := Claim7.holds Tryd.pinned (.plain (OpenSpec.upto seasonYearsSpec)) seasonYearsUptoCard

/-- THE SECOND FORM's CARD OF 'ephemeriskeep2.SharpenMeets'. -/
def sharpenMeetsUptoCard : Claim7 := { stood := { row := sharpenMeetsUptoRow, standIns := [], harness := (true, "68f9f9d8f9335647ae5f41312afcf68e400eaf6cb4004c2b61dac658746ffca7"), looks := false }, kinds := [], alts := [], laidByText := true, laidKinds := [.data, .data, .data], laidTests := true, laidLooks := .later }
def SharpenMeetsUptoCardSaid : Prop := Claim7.holds Tryd.pinned (.plain (OpenSpec.upto sharpenMeetsSpec)) sharpenMeetsUptoCard

/-- THE SECOND FORM's CARD OF 'ephemeriskeep2.SharpenAgrees'. -/
def sharpenAgreesUptoCard : Claim7 := { stood := { row := sharpenAgreesUptoRow, standIns := [], harness := (true, "68f9f9d8f9335647ae5f41312afcf68e400eaf6cb4004c2b61dac658746ffca7"), looks := false }, kinds := [], alts := [], laidByText := true, laidKinds := [.data, .data, .data], laidTests := true, laidLooks := .later }
def SharpenAgreesUptoCardSaid : Prop := Claim7.holds Tryd.pinned (.plain (OpenSpec.upto sharpenAgreesSpec)) sharpenAgreesUptoCard
end Rows
end Go.Proofs.YtlldmhnkaopjhaaDoor
