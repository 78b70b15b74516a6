/-
  DERIVED. GIVEN WITH THE SEED: THE CARDS: each row of YtocdboopmfgkpaaDoorRows.lean that lists a variable, with what it lists TIED to the program's text (the seventh form; the later family's looks); each row that meets fmt, with fmt's text TOLD by the authors' own Lean function (tested against real Go, not proved from fmt's source: count such statements apart). THE CARD IS WHAT COUNTS. Prove the row's statement (the work); the ties are given (YtocdboopmfgkpaaDoorTie.lean); close each card by the builder's one call (the guide's Derived/Test/ToyasCard.lean, 'card_holds'). Laid BY PROGRAM, IN A SANDBOX (cutbox-door.mjs). By AI agents, Wed Nov 11 2026. No macro, syntax, notation, axiom, sorry.
-/
import Derived.Test.YtocdboopmfgkpaaDoorRows
import GoSem.ClaimSeven
namespace Go.Proofs.YtocdboopmfgkpaaDoor
namespace Rows

/-- THE TIED CARD OF 'ephemeriskeep2.NoticeBytes'. -/
def noticeBytesCard : Claim7 := { stood := { row := noticeBytesRow, standIns := [], harness := (true, "561a0e3eab756e3fc0a4e7350efd03991dbe025c8bd58d961c8cb07326deb4e2"), looks := false }, kinds := [], alts := [], laidByText := true, laidKinds := [.data, .data, .data], laidTests := true, laidLooks := .later }
def NoticeBytesCardSaid : Prop := Claim7.holds Tryd.pinned (.plain (OpenSpec.ofChange noticeBytesSpec)) noticeBytesCard

/-- THE TIED CARD OF 'ephemeriskeep2.NoticeNumbers'. -/
def noticeNumbersCard : Claim7 := { stood := { row := noticeNumbersRow, standIns := [], harness := (true, "561a0e3eab756e3fc0a4e7350efd03991dbe025c8bd58d961c8cb07326deb4e2"), looks := false }, kinds := [], alts := [], laidByText := true, laidKinds := [.data, .data, .data], laidTests := true, laidLooks := .later }
def NoticeNumbersCardSaid : Prop := Claim7.holds Tryd.pinned (.plain (OpenSpec.ofChange noticeNumbersSpec)) noticeNumbersCard

/-- THE TIED CARD OF 'ephemeriskeep2.SpreadReaches'. -/
def spreadReachesCard : Claim7 := { stood := { row := spreadReachesRow, standIns := [], harness := (true, "561a0e3eab756e3fc0a4e7350efd03991dbe025c8bd58d961c8cb07326deb4e2"), looks := false }, kinds := [], alts := [], laidByText := true, laidKinds := [.data, .data, .data], laidTests := true, laidLooks := .later }
def SpreadReachesCardSaid : Prop := Claim7.holds Tryd.pinned (.plain (OpenSpec.ofChange spreadReachesSpec)) spreadReachesCard

/-- THE TIED CARD OF 'ephemeriskeep2.SpreadForged'. -/
def spreadForgedCard : Claim7 := { stood := { row := spreadForgedRow, standIns := [], harness := (true, "561a0e3eab756e3fc0a4e7350efd03991dbe025c8bd58d961c8cb07326deb4e2"), looks := false }, kinds := [], alts := [], laidByText := true, laidKinds := [.data, .data, .data], laidTests := true, laidLooks := .later }
def SpreadForgedCardSaid : Prop := Claim7.holds Tryd.pinned (.plain (OpenSpec.ofChange spreadForgedSpec)) spreadForgedCard

/-- THE TIED CARD OF 'ephemeristop.TopSpread'. -/
def topSpreadCard : Claim7 := { stood := { row := topSpreadRow, standIns := [], harness := (true, "561a0e3eab756e3fc0a4e7350efd03991dbe025c8bd58d961c8cb07326deb4e2"), looks := false }, kinds := [], alts := [], laidByText := true, laidKinds := [.data, .data, .data], laidTests := true, laidLooks := .later }
def TopSpreadCardSaid : Prop := Claim7.holds Tryd.pinned (.plain (OpenSpec.ofChange topSpreadSpec)) topSpreadCard

/-- THE SECOND FORM's CARD OF 'ephemeriskeep2.NoticeBytes'. -/
def noticeBytesUptoCard : Claim7 := { stood := { row := noticeBytesUptoRow, standIns := [], harness := (true, "561a0e3eab756e3fc0a4e7350efd03991dbe025c8bd58d961c8cb07326deb4e2"), looks := false }, kinds := [], alts := [], laidByText := true, laidKinds := [.data, .data, .data], laidTests := true, laidLooks := .later }
def NoticeBytesUptoCardSaid : Prop := Claim7.holds Tryd.pinned (.plain (OpenSpec.upto noticeBytesSpec)) noticeBytesUptoCard

/-- THE SECOND FORM's CARD OF 'ephemeriskeep2.NoticeNumbers'. -/
def noticeNumbersUptoCard : Claim7 := { stood := { row := noticeNumbersUptoRow, standIns := [], harness := (true, "561a0e3eab756e3fc0a4e7350efd03991dbe025c8bd58d961c8cb07326deb4e2"), looks := false }, kinds := [], alts := [], laidByText := true, laidKinds := [.data, .data, .data], laidTests := true, laidLooks := .later }
def NoticeNumbersUptoCardSaid : Prop := Claim7.holds Tryd.pinned (.plain (OpenSpec.upto noticeNumbersSpec)) noticeNumbersUptoCard

/-- THE SECOND FORM's CARD OF 'ephemeriskeep2.SpreadReaches'. -/
def spreadReachesUptoCard : Claim7 := { stood := { row := spreadReachesUptoRow, standIns := [], harness := (true, "561a0e3eab756e3fc0a4e7350efd03991dbe025c8bd58d961c8cb07326deb4e2"), looks := false }, kinds := [], alts := [], laidByText := true, laidKinds := [.data, .data, .data], laidTests := true, laidLooks := .later }
def SpreadReachesUptoCardSaid : Prop := Claim7.holds Tryd.pinned (.plain (OpenSpec.upto spreadReachesSpec)) spreadReachesUptoCard

/-- THE SECOND FORM's CARD OF 'ephemeriskeep2.SpreadForged'. -/
def spreadForgedUptoCard : Claim7 := { stood := { row := spreadForgedUptoRow, standIns := [], harness := (true, "561a0e3eab756e3fc0a4e7350efd03991dbe025c8bd58d961c8cb07326deb4e2"), looks := false }, kinds := [], alts := [], laidByText := true, laidKinds := [.data, .data, .data], laidTests := true, laidLooks := .later }
def SpreadForgedUptoCardSaid : Prop := Claim7.holds Tryd.pinned (.plain (OpenSpec.upto spreadForgedSpec)) spreadForgedUptoCard

/-- THE SECOND FORM's CARD OF 'ephemeristop.TopSpread'. -/
def topSpreadUptoCard : Claim7 := { stood := { row := topSpreadUptoRow, standIns := [], harness := (true, "561a0e3eab756e3fc0a4e7350efd03991dbe025c8bd58d961c8cb07326deb4e2"), looks := false }, kinds := [], alts := [], laidByText := true, laidKinds := [.data, .data, .data], laidTests := true, laidLooks := .later }
def TopSpreadUptoCardSaid : Prop := Claim7.holds Tryd.pinned (.plain (OpenSpec.upto topSpreadSpec)) topSpreadUptoCard
end Rows
end Go.Proofs.YtocdboopmfgkpaaDoor
