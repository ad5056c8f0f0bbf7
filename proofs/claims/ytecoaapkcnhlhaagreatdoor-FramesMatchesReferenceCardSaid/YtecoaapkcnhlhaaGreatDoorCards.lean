/-
  DERIVED. GIVEN WITH THE SEED: THE CARDS: each row of YtecoaapkcnhlhaaGreatDoorRows.lean that lists a variable, with what it lists TIED to the program's text (the seventh form; the later family's looks); each row that meets fmt, with fmt's text TOLD by the authors' own Lean function (tested against real Go, not proved from fmt's source: count such statements apart). THE CARD IS WHAT COUNTS. Prove the row's statement (the work); the ties are given (YtecoaapkcnhlhaaGreatDoorTie.lean); close each card by the builder's one call (the guide's Derived/Test/ToyasCard.lean, 'card_holds'). Laid BY PROGRAM, IN A SANDBOX (cutbox-door.mjs). By AI agents, Wed Nov 11 2026. No macro, syntax, notation, axiom, sorry.
-/
import Derived.Test.YtecoaapkcnhlhaaGreatDoorRows
import GoSem.ClaimSeven
namespace Go.Proofs.YtecoaapkcnhlhaaGreatDoor
namespace Rows

/-- THE TIED CARD OF 'wireloomlaw38.FramesMatchesReference'. -/
def framesMatchesReferenceCard : Claim7 := { stood := { row := framesMatchesReferenceRow, standIns := [], harness := (true, "3e6e4e0498a1691dfc73d4483210ba3e504cd7eb3055b041ea959862ef2c3095"), looks := false }, kinds := [], alts := [], laidByText := true, laidKinds := [.data], laidTests := true, laidLooks := .later }
def FramesMatchesReferenceCardSaid : Prop := Claim7.holds Tryz.pinned (.plain (OpenSpec.ofChange framesMatchesReferenceSpec)) framesMatchesReferenceCard

/-- THE SECOND FORM's CARD OF 'wireloomlaw38.FramesMatchesReference'. -/
def framesMatchesReferenceUptoCard : Claim7 := { stood := { row := framesMatchesReferenceUptoRow, standIns := [], harness := (true, "3e6e4e0498a1691dfc73d4483210ba3e504cd7eb3055b041ea959862ef2c3095"), looks := false }, kinds := [], alts := [], laidByText := true, laidKinds := [.data], laidTests := true, laidLooks := .later }
def FramesMatchesReferenceUptoCardSaid : Prop := Claim7.holds Tryz.pinned (.plain (OpenSpec.upto framesMatchesReferenceSpec)) framesMatchesReferenceUptoCard
end Rows
end Go.Proofs.YtecoaapkcnhlhaaGreatDoor
