/-
  DERIVED. GIVEN WITH THE SEED: THE CARDS: each row of YtaiiejogocblgaaGreatDoorRows.lean that lists a variable, with what it lists TIED to the program's text (the seventh form; the later family's looks); each row that meets fmt, with fmt's text TOLD by the authors' own Lean function (tested against real Go, not proved from fmt's source: count such statements apart). THE CARD IS WHAT COUNTS. Prove the row's statement (the work); the ties are given (YtaiiejogocblgaaGreatDoorTie.lean); close each card by the builder's one call (the guide's Derived/Test/ToyasCard.lean, 'card_holds'). Laid BY PROGRAM, IN A SANDBOX (cutbox-door.mjs). By AI agents, Wed Nov 11 2026. No macro, syntax, notation, axiom, sorry.
-/
import Derived.Test.YtaiiejogocblgaaGreatDoorRows
import GoSem.ClaimSeven
namespace Go.Proofs.YtaiiejogocblgaaGreatDoor
namespace Rows

/-- THE TIED CARD OF 'tesseralaw19.PackOpens'. -/
def packOpensCard : Claim7 := { stood := { row := packOpensRow, standIns := [], harness := (true, "3c10bccd9dd804dd47d31ea2b536e52bde39acc90c96fb6f46ab03ae77b924fe"), looks := true }, kinds := [], alts := [], laidByText := true, laidKinds := [.data, .handle, .data, .data, .data, .pinned], laidTests := true, laidLooks := .later }
def PackOpensCardSaid : Prop := Claim7.holds Tryz.pinned (.plain (OpenSpec.ofChange packOpensSpec)) packOpensCard

/-- THE SECOND FORM's CARD OF 'tesseralaw19.PackOpens'. -/
def packOpensUptoCard : Claim7 := { stood := { row := packOpensUptoRow, standIns := [], harness := (true, "3c10bccd9dd804dd47d31ea2b536e52bde39acc90c96fb6f46ab03ae77b924fe"), looks := true }, kinds := [], alts := [], laidByText := true, laidKinds := [.data, .handle, .data, .data, .data, .pinned], laidTests := true, laidLooks := .later }
def PackOpensUptoCardSaid : Prop := Claim7.holds Tryz.pinned (.plain (OpenSpec.upto packOpensSpec)) packOpensUptoCard
end Rows
end Go.Proofs.YtaiiejogocblgaaGreatDoor
