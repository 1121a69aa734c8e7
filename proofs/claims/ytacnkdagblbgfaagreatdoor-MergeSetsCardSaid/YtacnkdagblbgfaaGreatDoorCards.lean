/-
  DERIVED. GIVEN WITH THE SEED: THE CARDS: each row of YtacnkdagblbgfaaGreatDoorRows.lean that lists a variable, with what it lists TIED to the program's text (the seventh form; the later family's looks); each row that meets fmt, with fmt's text TOLD by the authors' own Lean function (tested against real Go, not proved from fmt's source: count such statements apart). THE CARD IS WHAT COUNTS. Prove the row's statement (the work); the ties are given (YtacnkdagblbgfaaGreatDoorTie.lean); close each card by the builder's one call (the guide's Derived/Test/ToyasCard.lean, 'card_holds'). Laid BY PROGRAM, IN A SANDBOX (cutbox-door.mjs). By AI agents, Wed Nov 11 2026. No macro, syntax, notation, axiom, sorry.
-/
import Derived.Test.YtacnkdagblbgfaaGreatDoorRows
import GoSem.ClaimSeven
namespace Go.Proofs.YtacnkdagblbgfaaGreatDoor
namespace Rows

/-- THE TIED CARD OF 'tesseralaw24.MergeEach'. -/
def mergeEachCard : Claim7 := { stood := { row := mergeEachRow, standIns := [], harness := (true, "d54042907733ac2754dd7d2b95a3e66b4c3ec60bdc8d8eb1b2b6e67f30abf4b3"), looks := true }, kinds := [], alts := [], laidByText := true, laidKinds := [.data, .handle, .data, .data, .data, .pinned], laidTests := true, laidLooks := .later }
def MergeEachCardSaid : Prop := Claim7.holds Tryz.pinned (.plain (OpenSpec.ofChange mergeEachSpec)) mergeEachCard

/-- THE TIED CARD OF 'tesseralaw24.MergeSets'. -/
def mergeSetsCard : Claim7 := { stood := { row := mergeSetsRow, standIns := [], harness := (true, "d54042907733ac2754dd7d2b95a3e66b4c3ec60bdc8d8eb1b2b6e67f30abf4b3"), looks := true }, kinds := [], alts := [], laidByText := true, laidKinds := [.data, .handle, .data, .data, .data, .pinned], laidTests := true, laidLooks := .later }
def MergeSetsCardSaid : Prop := Claim7.holds Tryz.pinned (.plain (OpenSpec.ofChange mergeSetsSpec)) mergeSetsCard

/-- THE TIED CARD OF 'tesseralaw24.MergePacks'. -/
def mergePacksCard : Claim7 := { stood := { row := mergePacksRow, standIns := [], harness := (true, "d54042907733ac2754dd7d2b95a3e66b4c3ec60bdc8d8eb1b2b6e67f30abf4b3"), looks := true }, kinds := [], alts := [], laidByText := true, laidKinds := [.data, .handle, .data, .data, .pinned], laidTests := true, laidLooks := .later }
def MergePacksCardSaid : Prop := Claim7.holds Tryz.pinned (.plain (OpenSpec.ofChange mergePacksSpec)) mergePacksCard

/-- THE SECOND FORM's CARD OF 'tesseralaw24.MergeEach'. -/
def mergeEachUptoCard : Claim7 := { stood := { row := mergeEachUptoRow, standIns := [], harness := (true, "d54042907733ac2754dd7d2b95a3e66b4c3ec60bdc8d8eb1b2b6e67f30abf4b3"), looks := true }, kinds := [], alts := [], laidByText := true, laidKinds := [.data, .handle, .data, .data, .data, .pinned], laidTests := true, laidLooks := .later }
def MergeEachUptoCardSaid : Prop := Claim7.holds Tryz.pinned (.plain (OpenSpec.upto mergeEachSpec)) mergeEachUptoCard

/-- THE SECOND FORM's CARD OF 'tesseralaw24.MergeSets'. -/
def mergeSetsUptoCard : Claim7 := { stood := { row := mergeSetsUptoRow, standIns := [], harness := (true, "d54042907733ac2754dd7d2b95a3e66b4c3ec60bdc8d8eb1b2b6e67f30abf4b3"), looks := true }, kinds := [], alts := [], laidByText := true, laidKinds := [.data, .handle, .data, .data, .data, .pinned], laidTests := true, laidLooks := .later }
def MergeSetsUptoCardSaid : Prop := Claim7.holds Tryz.pinned (.plain (OpenSpec.upto mergeSetsSpec)) mergeSetsUptoCard

/-- THE SECOND FORM's CARD OF 'tesseralaw24.MergePacks'. -/
def mergePacksUptoCard : Claim7 := { stood := { row := mergePacksUptoRow, standIns := [], harness := (true, "d54042907733ac2754dd7d2b95a3e66b4c3ec60bdc8d8eb1b2b6e67f30abf4b3"), looks := true }, kinds := [], alts := [], laidByText := true, laidKinds := [.data, .handle, .data, .data, .pinned], laidTests := true, laidLooks := .later }
def MergePacksUptoCardSaid : Prop := Claim7.holds Tryz.pinned (.plain (OpenSpec.upto mergePacksSpec)) mergePacksUptoCard
end Rows
end Go.Proofs.YtacnkdagblbgfaaGreatDoor
