/-
  DERIVED. GIVEN WITH THE SEED: THE CARDS: each row of YtlbnnlnjdkjppaaGreatDoorRows.lean that lists a variable, with what it lists TIED to the program's text (the seventh form; the later family's looks); each row that meets fmt, with fmt's text TOLD by the authors' own Lean function (tested against real Go, not proved from fmt's source: count such statements apart). THE CARD IS WHAT COUNTS. Prove the row's statement (the work); the ties are given (YtlbnnlnjdkjppaaGreatDoorTie.lean); close each card by the builder's one call (the guide's Derived/Test/ToyasCard.lean, 'card_holds'). Laid BY PROGRAM, IN A SANDBOX (cutbox-door.mjs). By AI agents, Wed Nov 11 2026. No macro, syntax, notation, axiom, sorry.
-/
import Derived.Test.YtlbnnlnjdkjppaaGreatDoorRows
import GoSem.ClaimSeven
namespace Go.Proofs.YtlbnnlnjdkjppaaGreatDoor
namespace Rows

/-- THE TIED CARD OF 'cribblelaw23.DeskFull'. -/
def deskFullCard : Claim7 := { stood := { row := deskFullRow, standIns := [], harness := (true, "49c3631f3dc7773025b3801f838056b161aca2d67153e7ef27d034b392ae5c03"), looks := true }, kinds := [], alts := [], goes := true, laidByText := true, laidKinds := [.data, .data, .data, .data, .widerDeep, .data, .data, .data, .data, .data, .data, .pinned], laidTests := true, laidLooks := .later }
def DeskFullCardSaid : Prop := Claim7.holds Tryz.pinned (.plain (OpenSpec.ofChange deskFullSpec)) deskFullCard

/-- THE SECOND FORM's CARD OF 'cribblelaw23.DeskFull'. -/
def deskFullUptoCard : Claim7 := { stood := { row := deskFullUptoRow, standIns := [], harness := (true, "49c3631f3dc7773025b3801f838056b161aca2d67153e7ef27d034b392ae5c03"), looks := true }, kinds := [], alts := [], goes := true, laidByText := true, laidKinds := [.data, .data, .data, .data, .widerDeep, .data, .data, .data, .data, .data, .data, .pinned], laidTests := true, laidLooks := .later }
def DeskFullUptoCardSaid : Prop := Claim7.holds Tryz.pinned (.plain (OpenSpec.upto deskFullSpec)) deskFullUptoCard
end Rows
end Go.Proofs.YtlbnnlnjdkjppaaGreatDoor
