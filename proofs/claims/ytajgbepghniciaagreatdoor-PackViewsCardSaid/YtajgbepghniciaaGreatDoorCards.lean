/-
  DERIVED. GIVEN WITH THE SEED: THE CARDS: each row of YtajgbepghniciaaGreatDoorRows.lean that lists a variable, with what it lists TIED to the program's text (the seventh form; the later family's looks); each row that meets fmt, with fmt's text TOLD by the authors' own Lean function (tested against real Go, not proved from fmt's source: count such statements apart). THE CARD IS WHAT COUNTS. Prove the row's statement (the work); the ties are given (YtajgbepghniciaaGreatDoorTie.lean); close each card by the builder's one call (the guide's Derived/Test/ToyasCard.lean, 'card_holds'). Laid BY PROGRAM, IN A SANDBOX (cutbox-door.mjs). By AI agents, Wed Nov 11 2026. No macro, syntax, notation, axiom, sorry.
-/
import Derived.Test.YtajgbepghniciaaGreatDoorRows
import GoSem.ClaimSeven
namespace Go.Proofs.YtajgbepghniciaaGreatDoor
namespace Rows

/-- THE TIED CARD OF 'tesseralaw22.PathTexts'. -/
def pathTextsCard : Claim7 := { stood := { row := pathTextsRow, standIns := [], harness := (true, "509262ff78263d2c9d7aed2c8762a32ba1d329bbc6d566690899457ed64bea6d"), looks := true }, kinds := [], alts := [], laidByText := true, laidKinds := [.data, .data, .pinned], laidTests := true, laidLooks := .later }
def PathTextsCardSaid : Prop := Claim7.holds Tryz.pinned (.plain (OpenSpec.ofChange pathTextsSpec)) pathTextsCard

/-- THE TIED CARD OF 'tesseralaw21.JoinChecks'. -/
def joinChecksCard : Claim7 := { stood := { row := joinChecksRow, standIns := [], harness := (true, "509262ff78263d2c9d7aed2c8762a32ba1d329bbc6d566690899457ed64bea6d"), looks := true }, kinds := [], alts := [], laidByText := true, laidKinds := [.data, .data, .pinned], laidTests := true, laidLooks := .later }
def JoinChecksCardSaid : Prop := Claim7.holds Tryz.pinned (.plain (OpenSpec.ofChange joinChecksSpec)) joinChecksCard

/-- THE TIED CARD OF 'tesseralaw19.PackViews'. -/
def packViewsCard : Claim7 := { stood := { row := packViewsRow, standIns := [], harness := (true, "509262ff78263d2c9d7aed2c8762a32ba1d329bbc6d566690899457ed64bea6d"), looks := true }, kinds := [], alts := [], laidByText := true, laidKinds := [.data, .handle, .data, .data, .data, .pinned], laidTests := true, laidLooks := .later }
def PackViewsCardSaid : Prop := Claim7.holds Tryz.pinned (.plain (OpenSpec.ofChange packViewsSpec)) packViewsCard

/-- THE SECOND FORM's CARD OF 'tesseralaw22.PathTexts'. -/
def pathTextsUptoCard : Claim7 := { stood := { row := pathTextsUptoRow, standIns := [], harness := (true, "509262ff78263d2c9d7aed2c8762a32ba1d329bbc6d566690899457ed64bea6d"), looks := true }, kinds := [], alts := [], laidByText := true, laidKinds := [.data, .data, .pinned], laidTests := true, laidLooks := .later }
def PathTextsUptoCardSaid : Prop := Claim7.holds Tryz.pinned (.plain (OpenSpec.upto pathTextsSpec)) pathTextsUptoCard

/-- THE SECOND FORM's CARD OF 'tesseralaw21.JoinChecks'. -/
def joinChecksUptoCard : Claim7 := { stood := { row := joinChecksUptoRow, standIns := [], harness := (true, "509262ff78263d2c9d7aed2c8762a32ba1d329bbc6d566690899457ed64bea6d"), looks := true }, kinds := [], alts := [], laidByText := true, laidKinds := [.data, .data, .pinned], laidTests := true, laidLooks := .later }
def JoinChecksUptoCardSaid : Prop := Claim7.holds Tryz.pinned (.plain (OpenSpec.upto joinChecksSpec)) joinChecksUptoCard

/-- THE SECOND FORM's CARD OF 'tesseralaw19.PackViews'. -/
def packViewsUptoCard : Claim7 := { stood := { row := packViewsUptoRow, standIns := [], harness := (true, "509262ff78263d2c9d7aed2c8762a32ba1d329bbc6d566690899457ed64bea6d"), looks := true }, kinds := [], alts := [], laidByText := true, laidKinds := [.data, .handle, .data, .data, .data, .pinned], laidTests := true, laidLooks := .later }
def PackViewsUptoCardSaid : Prop := Claim7.holds Tryz.pinned (.plain (OpenSpec.upto packViewsSpec)) packViewsUptoCard
end Rows
end Go.Proofs.YtajgbepghniciaaGreatDoor
