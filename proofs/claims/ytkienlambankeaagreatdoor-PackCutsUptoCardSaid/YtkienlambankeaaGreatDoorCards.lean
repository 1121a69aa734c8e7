/-
  DERIVED. GIVEN WITH THE SEED: THE CARDS: each row of YtkienlambankeaaGreatDoorRows.lean that lists a variable, with what it lists TIED to the program's text (the seventh form; the later family's looks); each row that meets fmt, with fmt's text TOLD by the authors' own Lean function (tested against real Go, not proved from fmt's source: count such statements apart). THE CARD IS WHAT COUNTS. Prove the row's statement (the work); the ties are given (YtkienlambankeaaGreatDoorTie.lean); close each card by the builder's one call (the guide's Derived/Test/ToyasCard.lean, 'card_holds'). Laid BY PROGRAM, IN A SANDBOX (cutbox-door.mjs). By AI agents, Wed Nov 11 2026. No macro, syntax, notation, axiom, sorry.
-/
import Derived.Test.YtkienlambankeaaGreatDoorRows
import GoSem.ClaimSeven
namespace Go.Proofs.YtkienlambankeaaGreatDoor
namespace Rows

/-- THE TIED CARD OF 'tesseralaw19.PackEncodes'. -/
def packEncodesCard : Claim7 := { stood := { row := packEncodesRow, standIns := [], harness := (true, "bd9e21c6802d678a07643213d21728a677478a8bb455bc89d364cda02efc958e"), looks := true }, kinds := [], alts := [], laidByText := true, laidKinds := [.data, .handle, .data, .data, .pinned], laidTests := true, laidLooks := .later }
def PackEncodesCardSaid : Prop := Claim7.holds Tryz.pinned (.plain (OpenSpec.ofChange packEncodesSpec)) packEncodesCard

/-- THE TIED CARD OF 'tesseralaw19.PackBack'. -/
def packBackCard : Claim7 := { stood := { row := packBackRow, standIns := [], harness := (true, "bd9e21c6802d678a07643213d21728a677478a8bb455bc89d364cda02efc958e"), looks := true }, kinds := [], alts := [], laidByText := true, laidKinds := [.data, .handle, .data, .data, .data, .pinned], laidTests := true, laidLooks := .later }
def PackBackCardSaid : Prop := Claim7.holds Tryz.pinned (.plain (OpenSpec.ofChange packBackSpec)) packBackCard

/-- THE TIED CARD OF 'tesseralaw19.PackForged'. -/
def packForgedCard : Claim7 := { stood := { row := packForgedRow, standIns := [], harness := (true, "bd9e21c6802d678a07643213d21728a677478a8bb455bc89d364cda02efc958e"), looks := true }, kinds := [], alts := [], laidByText := true, laidKinds := [.data, .handle, .data, .data, .data, .pinned], laidTests := true, laidLooks := .later }
def PackForgedCardSaid : Prop := Claim7.holds Tryz.pinned (.plain (OpenSpec.ofChange packForgedSpec)) packForgedCard

/-- THE TIED CARD OF 'tesseralaw19.PackFlips'. -/
def packFlipsCard : Claim7 := { stood := { row := packFlipsRow, standIns := [], harness := (true, "bd9e21c6802d678a07643213d21728a677478a8bb455bc89d364cda02efc958e"), looks := true }, kinds := [], alts := [], laidByText := true, laidKinds := [.data, .handle, .data, .data, .data, .pinned], laidTests := true, laidLooks := .later }
def PackFlipsCardSaid : Prop := Claim7.holds Tryz.pinned (.plain (OpenSpec.ofChange packFlipsSpec)) packFlipsCard

/-- THE TIED CARD OF 'tesseralaw19.PackCuts'. -/
def packCutsCard : Claim7 := { stood := { row := packCutsRow, standIns := [], harness := (true, "bd9e21c6802d678a07643213d21728a677478a8bb455bc89d364cda02efc958e"), looks := true }, kinds := [], alts := [], laidByText := true, laidKinds := [.data, .handle, .data, .data, .data, .pinned], laidTests := true, laidLooks := .later }
def PackCutsCardSaid : Prop := Claim7.holds Tryz.pinned (.plain (OpenSpec.ofChange packCutsSpec)) packCutsCard

/-- THE TIED CARD OF 'tesseralaw19.PackBursts'. -/
def packBurstsCard : Claim7 := { stood := { row := packBurstsRow, standIns := [], harness := (true, "bd9e21c6802d678a07643213d21728a677478a8bb455bc89d364cda02efc958e"), looks := true }, kinds := [], alts := [], laidByText := true, laidKinds := [.data, .handle, .data, .data, .data, .pinned], laidTests := true, laidLooks := .later }
def PackBurstsCardSaid : Prop := Claim7.holds Tryz.pinned (.plain (OpenSpec.ofChange packBurstsSpec)) packBurstsCard

/-- THE SECOND FORM's CARD OF 'tesseralaw19.PackEncodes'. -/
def packEncodesUptoCard : Claim7 := { stood := { row := packEncodesUptoRow, standIns := [], harness := (true, "bd9e21c6802d678a07643213d21728a677478a8bb455bc89d364cda02efc958e"), looks := true }, kinds := [], alts := [], laidByText := true, laidKinds := [.data, .handle, .data, .data, .pinned], laidTests := true, laidLooks := .later }
def PackEncodesUptoCardSaid : Prop := Claim7.holds Tryz.pinned (.plain (OpenSpec.upto packEncodesSpec)) packEncodesUptoCard

/-- THE SECOND FORM's CARD OF 'tesseralaw19.PackBack'. -/
def packBackUptoCard : Claim7 := { stood := { row := packBackUptoRow, standIns := [], harness := (true, "bd9e21c6802d678a07643213d21728a677478a8bb455bc89d364cda02efc958e"), looks := true }, kinds := [], alts := [], laidByText := true, laidKinds := [.data, .handle, .data, .data, .data, .pinned], laidTests := true, laidLooks := .later }
def PackBackUptoCardSaid : Prop := Claim7.holds Tryz.pinned (.plain (OpenSpec.upto packBackSpec)) packBackUptoCard

/-- THE SECOND FORM's CARD OF 'tesseralaw19.PackForged'. -/
def packForgedUptoCard : Claim7 := { stood := { row := packForgedUptoRow, standIns := [], harness := (true, "bd9e21c6802d678a07643213d21728a677478a8bb455bc89d364cda02efc958e"), looks := true }, kinds := [], alts := [], laidByText := true, laidKinds := [.data, .handle, .data, .data, .data, .pinned], laidTests := true, laidLooks := .later }
def PackForgedUptoCardSaid : Prop := Claim7.holds Tryz.pinned (.plain (OpenSpec.upto packForgedSpec)) packForgedUptoCard

/-- THE SECOND FORM's CARD OF 'tesseralaw19.PackFlips'. -/
def packFlipsUptoCard : Claim7 := { stood := { row := packFlipsUptoRow, standIns := [], harness := (true, "bd9e21c6802d678a07643213d21728a677478a8bb455bc89d364cda02efc958e"), looks := true }, kinds := [], alts := [], laidByText := true, laidKinds := [.data, .handle, .data, .data, .data, .pinned], laidTests := true, laidLooks := .later }
def PackFlipsUptoCardSaid : Prop := Claim7.holds Tryz.pinned (.plain (OpenSpec.upto packFlipsSpec)) packFlipsUptoCard

/-- THE SECOND FORM's CARD OF 'tesseralaw19.PackCuts'. -/
def packCutsUptoCard : Claim7 := { stood := { row := packCutsUptoRow, standIns := [], harness := (true, "bd9e21c6802d678a07643213d21728a677478a8bb455bc89d364cda02efc958e"), looks := true }, kinds := [], alts := [], laidByText := true, laidKinds := [.data, .handle, .data, .data, .data, .pinned], laidTests := true, laidLooks := .later }
def PackCutsUptoCardSaid : Prop := Claim7.holds Tryz.pinned (.plain (OpenSpec.upto packCutsSpec)) packCutsUptoCard

/-- THE SECOND FORM's CARD OF 'tesseralaw19.PackBursts'. -/
def packBurstsUptoCard : Claim7 := { stood := { row := packBurstsUptoRow, standIns := [], harness := (true, "bd9e21c6802d678a07643213d21728a677478a8bb455bc89d364cda02efc958e"), looks := true }, kinds := [], alts := [], laidByText := true, laidKinds := [.data, .handle, .data, .data, .data, .pinned], laidTests := true, laidLooks := .later }
def PackBurstsUptoCardSaid : Prop := Claim7.holds Tryz.pinned (.plain (OpenSpec.upto packBurstsSpec)) packBurstsUptoCard
end Rows
end Go.Proofs.YtkienlambankeaaGreatDoor
