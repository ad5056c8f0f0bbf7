/-
  DERIVED. GIVEN WITH THE SEED: THE CARDS: each row of YtecoaapkcnhlhabGreatDoorRows.lean that lists a variable, with what it lists TIED to the program's text (the seventh form; the later family's looks); each row that meets fmt, with fmt's text TOLD by the authors' own Lean function (tested against real Go, not proved from fmt's source: count such statements apart). THE CARD IS WHAT COUNTS. Prove the row's statement (the work); the ties are given (YtecoaapkcnhlhabGreatDoorTie.lean); close each card by the builder's one call (the guide's Derived/Test/ToyasCard.lean, 'card_holds'). Laid BY PROGRAM, IN A SANDBOX (cutbox-door.mjs). By AI agents, Wed Nov 11 2026. No macro, syntax, notation, axiom, sorry.
-/
import Derived.Test.YtecoaapkcnhlhabGreatDoorRows
import GoSem.ClaimSeven
namespace Go.Proofs.YtecoaapkcnhlhabGreatDoor
namespace Rows

/-- THE TIED CARD OF 'wireloomlaw38.FramesLocal'. -/
def framesLocalCard : Claim7 := { stood := { row := framesLocalRow, standIns := [], harness := (true, "71a9bce34150899aa9c20869352b3a237457b30f965a96a0681bf823574b4a16"), looks := false }, kinds := [], alts := [], laidByText := true, laidKinds := [.data], laidTests := true, laidLooks := .later }
def FramesLocalCardSaid : Prop := Claim7.holds Tryz.pinned (.plain (OpenSpec.ofChange framesLocalSpec)) framesLocalCard

/-- THE SECOND FORM's CARD OF 'wireloomlaw38.FramesLocal'. -/
def framesLocalUptoCard : Claim7 := { stood := { row := framesLocalUptoRow, standIns := [], harness := (true, "71a9bce34150899aa9c20869352b3a237457b30f965a96a0681bf823574b4a16"), looks := false }, kinds := [], alts := [], laidByText := true, laidKinds := [.data], laidTests := true, laidLooks := .later }
def FramesLocalUptoCardSaid : Prop := Claim7.holds Tryz.pinned (.plain (OpenSpec.upto framesLocalSpec)) framesLocalUptoCard
end Rows
end Go.Proofs.YtecoaapkcnhlhabGreatDoor
