/-
  DERIVED. GIVEN WITH THE SEED: THE CARDS: each row of YtecoaapkcnhlhaaDoorRows.lean that lists a variable, with what it lists TIED to the program's text (the seventh form; the later family's looks); each row that meets fmt, with fmt's text TOLD by the authors' own Lean function (tested against real Go, not proved from fmt's source: count such statements apart). THE CARD IS WHAT COUNTS. Prove the row's statement (the work); the ties are given (YtecoaapkcnhlhaaDoorTie.lean); close each card by the builder's one call (the guide's Derived/Test/ToyasCard.lean, 'card_holds'). Laid BY PROGRAM, IN A SANDBOX (cutbox-door.mjs). By AI agents, Wed Nov 11 2026. No macro, syntax, notation, axiom, sorry.
-/
import Derived.Test.YtecoaapkcnhlhaaDoorRows
import GoSem.ClaimSeven
namespace Go.Proofs.YtecoaapkcnhlhaaDoor
namespace Rows

/-- THE TIED CARD OF 'wireloomlaw38.FramesRoundTrip'. -/
def framesRoundTripCard : Claim7 := { stood := { row := framesRoundTripRow, standIns := [], harness := (true, "6afa5beab4d2fefd3b52fb88c1a8a89648d53ce22376a0ca7c24627d0a83933b"), looks := false }, kinds := [], alts := [], laidByText := true, laidKinds := [.data], laidTests := true, laidLooks := .later }
def FramesRoundTripCardSaid : Prop := Claim7.holds Tryd.pinned (.plain (OpenSpec.ofChange framesRoundTripSpec)) framesRoundTripCard

/-- THE TIED CARD OF 'wireloomlaw38.FramesCorrect'. -/
def framesCorrectCard : Claim7 := { stood := { row := framesCorrectRow, standIns := [], harness := (true, "6afa5beab4d2fefd3b52fb88c1a8a89648d53ce22376a0ca7c24627d0a83933b"), looks := false }, kinds := [], alts := [], laidByText := true, laidKinds := [.data], laidTests := true, laidLooks := .later }
def FramesCorrectCardSaid : Prop := Claim7.holds Tryd.pinned (.plain (OpenSpec.ofChange framesCorrectSpec)) framesCorrectCard

/-- THE TIED CARD OF 'wireloomlaw38.FramesDetect'. -/
def framesDetectCard : Claim7 := { stood := { row := framesDetectRow, standIns := [], harness := (true, "6afa5beab4d2fefd3b52fb88c1a8a89648d53ce22376a0ca7c24627d0a83933b"), looks := false }, kinds := [], alts := [], laidByText := true, laidKinds := [.data], laidTests := true, laidLooks := .later }
def FramesDetectCardSaid : Prop := Claim7.holds Tryd.pinned (.plain (OpenSpec.ofChange framesDetectSpec)) framesDetectCard

/-- THE TIED CARD OF 'wireloomlaw38.FramesCanonical'. -/
def framesCanonicalCard : Claim7 := { stood := { row := framesCanonicalRow, standIns := [], harness := (true, "6afa5beab4d2fefd3b52fb88c1a8a89648d53ce22376a0ca7c24627d0a83933b"), looks := false }, kinds := [], alts := [], laidByText := true, laidKinds := [.data], laidTests := true, laidLooks := .later }
def FramesCanonicalCardSaid : Prop := Claim7.holds Tryd.pinned (.plain (OpenSpec.ofChange framesCanonicalSpec)) framesCanonicalCard

/-- THE TIED CARD OF 'wireloomlaw38.FramesDigests'. -/
def framesDigestsCard : Claim7 := { stood := { row := framesDigestsRow, standIns := [], harness := (true, "6afa5beab4d2fefd3b52fb88c1a8a89648d53ce22376a0ca7c24627d0a83933b"), looks := false }, kinds := [], alts := [], laidByText := true, laidKinds := [.data], laidTests := true, laidLooks := .later }
def FramesDigestsCardSaid : Prop := Claim7.holds Tryd.pinned (.plain (OpenSpec.ofChange framesDigestsSpec)) framesDigestsCard

/-- THE SECOND FORM's CARD OF 'wireloomlaw38.FramesRoundTrip'. -/
def framesRoundTripUptoCard : Claim7 := { stood := { row := framesRoundTripUptoRow, standIns := [], harness := (true, "6afa5beab4d2fefd3b52fb88c1a8a89648d53ce22376a0ca7c24627d0a83933b"), looks := false }, kinds := [], alts := [], laidByText := true, laidKinds := [.data], laidTests := true, laidLooks := .later }
def FramesRoundTripUptoCardSaid : Prop := Claim7.holds Tryd.pinned (.plain (OpenSpec.upto framesRoundTripSpec)) framesRoundTripUptoCard

/-- THE SECOND FORM's CARD OF 'wireloomlaw38.FramesCorrect'. -/
def framesCorrectUptoCard : Claim7 := { stood := { row := framesCorrectUptoRow, standIns := [], harness := (true, "6afa5beab4d2fefd3b52fb88c1a8a89648d53ce22376a0ca7c24627d0a83933b"), looks := false }, kinds := [], alts := [], laidByText := true, laidKinds := [.data], laidTests := true, laidLooks := .later }
def FramesCorrectUptoCardSaid : Prop := Claim7.holds Tryd.pinned (.plain (OpenSpec.upto framesCorrectSpec)) framesCorrectUptoCard

/-- THE SECOND FORM's CARD OF 'wireloomlaw38.FramesDetect'. -/
def framesDetectUptoCard : Claim7 := { stood := { row := framesDetectUptoRow, standIns := [], harness := (true, "6afa5beab4d2fefd3b52fb88c1a8a89648d53ce22376a0ca7c24627d0a83933b"), looks := false }, kinds := [], alts := [], laidByText := true, laidKinds := [.data], laidTests := true, laidLooks := .later }
def FramesDetectUptoCardSaid : Prop := Claim7.holds Tryd.pinned (.plain (OpenSpec.upto framesDetectSpec)) framesDetectUptoCard

/-- THE SECOND FORM's CARD OF 'wireloomlaw38.FramesCanonical'. -/
def framesCanonicalUptoCard : Claim7 := { stood := { row := framesCanonicalUptoRow, standIns := [], harness := (true, "6afa5beab4d2fefd3b52fb88c1a8a89648d53ce22376a0ca7c24627d0a83933b"), looks := false }, kinds := [], alts := [], laidByText := true, laidKinds := [.data], laidTests := true, laidLooks := .later }
def FramesCanonicalUptoCardSaid : Prop := Claim7.holds Tryd.pinned (.plain (OpenSpec.upto framesCanonicalSpec)) framesCanonicalUptoCard

/-- THE SECOND FORM's CARD OF 'wireloomlaw38.FramesDigests'. -/
def framesDigestsUptoCard : Claim7 := { stood := { row := framesDigestsUptoRow, standIns := [], harness := (true, "6afa5beab4d2fefd3b52fb88c1a8a89648d53ce22376a0ca7c24627d0a83933b"), looks := false }, kinds := [], alts := [], laidByText := true, laidKinds := [.data], laidTests := true, laidLooks := .later }
def FramesDigestsUptoCardSaid : Prop := Claim7.holds Tryd.pinned (.plain (OpenSpec.upto framesDigestsSpec)) framesDigestsUptoCard
end Rows
end Go.Proofs.YtecoaapkcnhlhaaDoor
