/-
  DERIVED. GIVEN WITH THE SEED: THE CARDS: each row of YtccmcfpmknpccaaGreatDoorRows.lean that lists a variable, with what it lists TIED to the program's text (the seventh form; the later family's looks); each row that meets fmt, with fmt's text TOLD by the authors' own Lean function (tested against real Go, not proved from fmt's source: count such statements apart). THE CARD IS WHAT COUNTS. Prove the row's statement (the work); the ties are given (YtccmcfpmknpccaaGreatDoorTie.lean); close each card by the builder's one call (the guide's Derived/Test/ToyasCard.lean, 'card_holds'). Laid BY PROGRAM, IN A SANDBOX (cutbox-door.mjs). By AI agents, Wed Nov 11 2026. No macro, syntax, notation, axiom, sorry.
-/
import Derived.Test.YtccmcfpmknpccaaGreatDoorRows
import GoSem.ClaimSeven
namespace Go.Proofs.YtccmcfpmknpccaaGreatDoor
namespace Rows

/-- THE TIED CARD OF 'tesseralaw20.SearchAnswers'. -/
def searchAnswersCard : Claim7 := { stood := { row := searchAnswersRow, standIns := [], harness := (true, "494400653492e184f411bb7ac3c891cbf06b4fc55f81a39496fbda7d17969505"), looks := true }, kinds := [], alts := [], laidByText := true, laidKinds := [.data, .handle, .data, .data, .data, .pinned], laidTests := true, laidLooks := .later }
def SearchAnswersCardSaid : Prop := Claim7.holds Tryz.pinned (.plain (OpenSpec.ofChange searchAnswersSpec)) searchAnswersCard

/-- THE TIED CARD OF 'tesseralaw20.SearchOpens'. -/
def searchOpensCard : Claim7 := { stood := { row := searchOpensRow, standIns := [], harness := (true, "494400653492e184f411bb7ac3c891cbf06b4fc55f81a39496fbda7d17969505"), looks := true }, kinds := [], alts := [], laidByText := true, laidKinds := [.data, .handle, .data, .data, .data, .pinned], laidTests := true, laidLooks := .later }
def SearchOpensCardSaid : Prop := Claim7.holds Tryz.pinned (.plain (OpenSpec.ofChange searchOpensSpec)) searchOpensCard

/-- THE TIED CARD OF 'tesseralaw20.SearchTerms'. -/
def searchTermsCard : Claim7 := { stood := { row := searchTermsRow, standIns := [], harness := (true, "494400653492e184f411bb7ac3c891cbf06b4fc55f81a39496fbda7d17969505"), looks := true }, kinds := [], alts := [], laidByText := true, laidKinds := [.data, .handle, .data, .data, .data, .pinned], laidTests := true, laidLooks := .later }
def SearchTermsCardSaid : Prop := Claim7.holds Tryz.pinned (.plain (OpenSpec.ofChange searchTermsSpec)) searchTermsCard

/-- THE TIED CARD OF 'tesseralaw20.SearchBegins'. -/
def searchBeginsCard : Claim7 := { stood := { row := searchBeginsRow, standIns := [], harness := (true, "494400653492e184f411bb7ac3c891cbf06b4fc55f81a39496fbda7d17969505"), looks := true }, kinds := [], alts := [], laidByText := true, laidKinds := [.data, .handle, .data, .data, .data, .pinned], laidTests := true, laidLooks := .later }
def SearchBeginsCardSaid : Prop := Claim7.holds Tryz.pinned (.plain (OpenSpec.ofChange searchBeginsSpec)) searchBeginsCard

/-- THE TIED CARD OF 'tesseralaw20.SearchWild'. -/
def searchWildCard : Claim7 := { stood := { row := searchWildRow, standIns := [], harness := (true, "494400653492e184f411bb7ac3c891cbf06b4fc55f81a39496fbda7d17969505"), looks := true }, kinds := [], alts := [], laidByText := true, laidKinds := [.data, .handle, .data, .data, .data, .pinned], laidTests := true, laidLooks := .later }
def SearchWildCardSaid : Prop := Claim7.holds Tryz.pinned (.plain (OpenSpec.ofChange searchWildSpec)) searchWildCard

/-- THE TIED CARD OF 'tesseralaw20.SearchShapes'. -/
def searchShapesCard : Claim7 := { stood := { row := searchShapesRow, standIns := [], harness := (true, "494400653492e184f411bb7ac3c891cbf06b4fc55f81a39496fbda7d17969505"), looks := true }, kinds := [], alts := [], laidByText := true, laidKinds := [.data, .handle, .data, .data, .data, .pinned], laidTests := true, laidLooks := .later }
def SearchShapesCardSaid : Prop := Claim7.holds Tryz.pinned (.plain (OpenSpec.ofChange searchShapesSpec)) searchShapesCard

/-- THE SECOND FORM's CARD OF 'tesseralaw20.SearchAnswers'. -/
def searchAnswersUptoCard : Claim7 := { stood := { row := searchAnswersUptoRow, standIns := [], harness := (true, "494400653492e184f411bb7ac3c891cbf06b4fc55f81a39496fbda7d17969505"), looks := true }, kinds := [], alts := [], laidByText := true, laidKinds := [.data, .handle, .data, .data, .data, .pinned], laidTests := true, laidLooks := .later }
def SearchAnswersUptoCardSaid : Prop := Claim7.holds Tryz.pinned (.plain (OpenSpec.upto searchAnswersSpec)) searchAnswersUptoCard

/-- THE SECOND FORM's CARD OF 'tesseralaw20.SearchOpens'. -/
def searchOpensUptoCard : Claim7 := { stood := { row := searchOpensUptoRow, standIns := [], harness := (true, "494400653492e184f411bb7ac3c891cbf06b4fc55f81a39496fbda7d17969505"), looks := true }, kinds := [], alts := [], laidByText := true, laidKinds := [.data, .handle, .data, .data, .data, .pinned], laidTests := true, laidLooks := .later }
def SearchOpensUptoCardSaid : Prop := Claim7.holds Tryz.pinned (.plain (OpenSpec.upto searchOpensSpec)) searchOpensUptoCard

/-- THE SECOND FORM's CARD OF 'tesseralaw20.SearchTerms'. -/
def searchTermsUptoCard : Claim7 := { stood := { row := searchTermsUptoRow, standIns := [], harness := (true, "494400653492e184f411bb7ac3c891cbf06b4fc55f81a39496fbda7d17969505"), looks := true }, kinds := [], alts := [], laidByText := true, laidKinds := [.data, .handle, .data, .data, .data, .pinned], laidTests := true, laidLooks := .later }
def SearchTermsUptoCardSaid : Prop := Claim7.holds Tryz.pinned (.plain (OpenSpec.upto searchTermsSpec)) searchTermsUptoCard

/-- THE SECOND FORM's CARD OF 'tesseralaw20.SearchBegins'. -/
def searchBeginsUptoCard : Claim7 := { stood := { row := searchBeginsUptoRow, standIns := [], harness := (true, "494400653492e184f411bb7ac3c891cbf06b4fc55f81a39496fbda7d17969505"), looks := true }, kinds := [], alts := [], laidByText := true, laidKinds := [.data, .handle, .data, .data, .data, .pinned], laidTests := true, laidLooks := .later }
def SearchBeginsUptoCardSaid : Prop := Claim7.holds Tryz.pinned (.plain (OpenSpec.upto searchBeginsSpec)) searchBeginsUptoCard

/-- THE SECOND FORM's CARD OF 'tesseralaw20.SearchWild'. -/
def searchWildUptoCard : Claim7 := { stood := { row := searchWildUptoRow, standIns := [], harness := (true, "494400653492e184f411bb7ac3c891cbf06b4fc55f81a39496fbda7d17969505"), looks := true }, kinds := [], alts := [], laidByText := true, laidKinds := [.data, .handle, .data, .data, .data, .pinned], laidTests := true, laidLooks := .later }
def SearchWildUptoCardSaid : Prop := Claim7.holds Tryz.pinned (.plain (OpenSpec.upto searchWildSpec)) searchWildUptoCard

/-- THE SECOND FORM's CARD OF 'tesseralaw20.SearchShapes'. -/
def searchShapesUptoCard : Claim7 := { stood := { row := searchShapesUptoRow, standIns := [], harness := (true, "494400653492e184f411bb7ac3c891cbf06b4fc55f81a39496fbda7d17969505"), looks := true }, kinds := [], alts := [], laidByText := true, laidKinds := [.data, .handle, .data, .data, .data, .pinned], laidTests := true, laidLooks := .later }
def SearchShapesUptoCardSaid : Prop := Claim7.holds Tryz.pinned (.plain (OpenSpec.upto searchShapesSpec)) searchShapesUptoCard
end Rows
end Go.Proofs.YtccmcfpmknpccaaGreatDoor
