/-
  No cell of these rows narrows 'for every input' (looked for: loops, veiled, ifaces, maps, wideKeys, modest, calm, conditions, laid).
  DERIVED. THE GIVEN ROWS OF THIS SEAT. 6 by the template 'for every input the law returns true; each argument reads behind the call as it read before'; 0 by the template 'total and deterministic' (their statements: YtbdamnfkgdbidaaTotals.lean).
  GIVEN WITH THE SEED: the statements are not yours to turn. If you find one false, say at which input.
  Laid BY PROGRAM, IN A SANDBOX (cutbox-rows.mjs): the forced cells as the released guide's own fill.sh prints them over the translation 9c42f147dfc166a4… (all of the seat's roots in one cut). By AI agents, Wed Nov 11 2026. No macro, syntax, notation, axiom, sorry.
-/
import Derived.Test.YtbdamnfkgdbidaaChecked
import GoSem.Claim
import GoSem.ClaimJoined
import GoSem.ClaimMapViews
import Derived.JoinedTies
import Derived.KernelRfl
namespace Go.Proofs.Ytbdamnfkgdbidaa
/- THE CELL 'sum', in the pinned program and in every row, IS THE sha256 OF THE DUMP (.gsa) THAT YtbdamnfkgdbidaaProg.lean LOADS. Nothing in Lean hashes anything: it is a label: what it is worth is what the hold of that sum in a sandbox is worth. -/
noncomputable def Try.pinned : Pinned := { name := "ytbdamnfkgdbidaa", sum := "9c42f147dfc166a4c96f86c9853bdad0fad9133e4c4b8bff27f147a16ce85f26", checked := Try.checked }
namespace Rows
def none {H : Type} : Left H := { results := [], args := [] }

/-- 'wireloomlaw29.PlacementMatchesReference': WHATEVER THE INPUT: true; the input reads as it did. -/
def placementMatchesReferenceSpec : ChangeSpec := { name := "placementMatchesReference", fn := fun _ => fun
  | [d1, d2, d3] => { results := [.lit (.bool true)], args := [d1, d2, d3] }
  | _ => none }
def placementMatchesReferenceRow : OpenClaim := { program := "ytbdamnfkgdbidaa", sum := "9c42f147dfc166a4c96f86c9853bdad0fad9133e4c4b8bff27f147a16ce85f26", func := "wireloom/wireloomlaw29.PlacementMatchesReference", spec := "placementMatchesReference", unfollowed := true, recurses := true, apart := false }
def PlacementMatchesReferenceSaid : Prop := placementMatchesReferenceRow.holds Try.pinned (OpenSpec.ofChange placementMatchesReferenceSpec)

/-- ITS FALSE NEIGHBOUR: 'it returns false'. Refute it at one input. -/
def placementMatchesReferenceWrong : ChangeSpec := { name := "placementMatchesReference", fn := fun _ => fun
  | [d1, d2, d3] => { results := [.lit (.bool false)], args := [d1, d2, d3] }
  | _ => none }
def PlacementMatchesReferenceWrongFalsely : Prop := placementMatchesReferenceRow.holds Try.pinned (OpenSpec.ofChange placementMatchesReferenceWrong)

/-- 'wireloomlaw29.PlacementLegal': WHATEVER THE INPUT: true; the input reads as it did. -/
def placementLegalSpec : ChangeSpec := { name := "placementLegal", fn := fun _ => fun
  | [d1, d2, d3] => { results := [.lit (.bool true)], args := [d1, d2, d3] }
  | _ => none }
def placementLegalRow : OpenClaim := { program := "ytbdamnfkgdbidaa", sum := "9c42f147dfc166a4c96f86c9853bdad0fad9133e4c4b8bff27f147a16ce85f26", func := "wireloom/wireloomlaw29.PlacementLegal", spec := "placementLegal", unfollowed := true, recurses := true, apart := false }
def PlacementLegalSaid : Prop := placementLegalRow.holds Try.pinned (OpenSpec.ofChange placementLegalSpec)

/-- ITS FALSE NEIGHBOUR: 'it returns false'. Refute it at one input. -/
def placementLegalWrong : ChangeSpec := { name := "placementLegal", fn := fun _ => fun
  | [d1, d2, d3] => { results := [.lit (.bool false)], args := [d1, d2, d3] }
  | _ => none }
def PlacementLegalWrongFalsely : Prop := placementLegalRow.holds Try.pinned (OpenSpec.ofChange placementLegalWrong)

/-- 'wireloomlaw29.PlacementImproves': WHATEVER THE INPUT: true; the input reads as it did. -/
def placementImprovesSpec : ChangeSpec := { name := "placementImproves", fn := fun _ => fun
  | [d1, d2, d3] => { results := [.lit (.bool true)], args := [d1, d2, d3] }
  | _ => none }
def placementImprovesRow : OpenClaim := { program := "ytbdamnfkgdbidaa", sum := "9c42f147dfc166a4c96f86c9853bdad0fad9133e4c4b8bff27f147a16ce85f26", func := "wireloom/wireloomlaw29.PlacementImproves", spec := "placementImproves", unfollowed := true, recurses := true, apart := false }
def PlacementImprovesSaid : Prop := placementImprovesRow.holds Try.pinned (OpenSpec.ofChange placementImprovesSpec)

/-- ITS FALSE NEIGHBOUR: 'it returns false'. Refute it at one input. -/
def placementImprovesWrong : ChangeSpec := { name := "placementImproves", fn := fun _ => fun
  | [d1, d2, d3] => { results := [.lit (.bool false)], args := [d1, d2, d3] }
  | _ => none }
def PlacementImprovesWrongFalsely : Prop := placementImprovesRow.holds Try.pinned (OpenSpec.ofChange placementImprovesWrong)

/-- 'wireloomlaw29.PlacementRoom': WHATEVER THE INPUT: true; the input reads as it did. -/
def placementRoomSpec : ChangeSpec := { name := "placementRoom", fn := fun _ => fun
  | [d1, d2, d3] => { results := [.lit (.bool true)], args := [d1, d2, d3] }
  | _ => none }
def placementRoomRow : OpenClaim := { program := "ytbdamnfkgdbidaa", sum := "9c42f147dfc166a4c96f86c9853bdad0fad9133e4c4b8bff27f147a16ce85f26", func := "wireloom/wireloomlaw29.PlacementRoom", spec := "placementRoom", unfollowed := true, recurses := true, apart := false }
def PlacementRoomSaid : Prop := placementRoomRow.holds Try.pinned (OpenSpec.ofChange placementRoomSpec)

/-- ITS FALSE NEIGHBOUR: 'it returns false'. Refute it at one input. -/
def placementRoomWrong : ChangeSpec := { name := "placementRoom", fn := fun _ => fun
  | [d1, d2, d3] => { results := [.lit (.bool false)], args := [d1, d2, d3] }
  | _ => none }
def PlacementRoomWrongFalsely : Prop := placementRoomRow.holds Try.pinned (OpenSpec.ofChange placementRoomWrong)

/-- 'wireloomlaw29.PlacementRefuses': WHATEVER THE INPUT: true; the input reads as it did. -/
def placementRefusesSpec : ChangeSpec := { name := "placementRefuses", fn := fun _ => fun
  | [d1, d2, d3] => { results := [.lit (.bool true)], args := [d1, d2, d3] }
  | _ => none }
def placementRefusesRow : OpenClaim := { program := "ytbdamnfkgdbidaa", sum := "9c42f147dfc166a4c96f86c9853bdad0fad9133e4c4b8bff27f147a16ce85f26", func := "wireloom/wireloomlaw29.PlacementRefuses", spec := "placementRefuses", unfollowed := true, recurses := true, apart := false }
def PlacementRefusesSaid : Prop := placementRefusesRow.holds Try.pinned (OpenSpec.ofChange placementRefusesSpec)

/-- ITS FALSE NEIGHBOUR: 'it returns false'. Refute it at one input. -/
def placementRefusesWrong : ChangeSpec := { name := "placementRefuses", fn := fun _ => fun
  | [d1, d2, d3] => { results := [.lit (.bool false)], args := [d1, d2, d3] }
  | _ => none }
def PlacementRefusesWrongFalsely : Prop := placementRefusesRow.holds Try.pinned (OpenSpec.ofChange placementRefusesWrong)

/-- 'wireloomlaw29.PlacementRenumbers': WHATEVER THE INPUT: true; the input reads as it did. -/
def placementRenumbersSpec : ChangeSpec := { name := "placementRenumbers", fn := fun _ => fun
  | [d1, d2, d3] => { results := [.lit (.bool true)], args := [d1, d2, d3] }
  | _ => none }
def placementRenumbersRow : OpenClaim := { program := "ytbdamnfkgdbidaa", sum := "9c42f147dfc166a4c96f86c9853bdad0fad9133e4c4b8bff27f147a16ce85f26", func := "wireloom/wireloomlaw29.PlacementRenumbers", spec := "placementRenumbers", unfollowed := true, recurses := true, apart := false }
def PlacementRenumbersSaid : Prop := placementRenumbersRow.holds Try.pinned (OpenSpec.ofChange placementRenumbersSpec)

/-- ITS FALSE NEIGHBOUR: 'it returns false'. Refute it at one input. -/
def placementRenumbersWrong : ChangeSpec := { name := "placementRenumbers", fn := fun _ => fun
  | [d1, d2, d3] => { results := [.lit (.bool false)], args := [d1, d2, d3] }
  | _ => none }
def PlacementRenumbersWrongFalsely : Prop := placementRenumbersRow.holds Try.pinned (OpenSpec.ofChange placementRenumbersWrong)

/- THE SECOND FORM. 'bulk': how many values and letters a reading holds, each counted each time it is reached (what is shared counts as often as it is met; a slice's spare places count too). A statement '..UptoSaid' is the law's where the arguments, and the package variables that the reading takes, are together of bulk at most 1048576: NARROWER than '..Said'. Prove '..Said' where nothing that the law and all that it calls make is longer than what came in: it says more and counts as full. Else prove '..UptoSaid'. A law counts once. -/
mutual
def uptoBulk {H : Type} : DataW H → Nat
  | .lit (.string bytes) => bytes.length + 1
  | .lit _ => 1
  | .nil => 1
  | .ptr d => uptoBulk d + 1
  | .slice elems spare => uptoBulkAll elems + uptoBulkAll spare + 1
  | .agg parts => uptoBulkAll parts + 1
  | .iface _ d => uptoBulk d + 1
  | .map entries => uptoBulkEntries entries + 1
  | .held _ => 1
def uptoBulkAll {H : Type} : List (DataW H) → Nat
  | [] => 0
  | d :: r => uptoBulk d + uptoBulkAll r
def uptoBulkEntries {H : Type} : List (Lit × DataW H) → Nat
  | [] => 0
  | x :: r => uptoBulkEntry x + uptoBulkEntries r
def uptoBulkEntry {H : Type} : Lit × DataW H → Nat
  | (.string bytes, d) => bytes.length + uptoBulk d + 1
  | (_, d) => uptoBulk d + 1
 end
def uptoSmall : (H : Type) → List (DataW H) → Bool := fun _ ds => decide (uptoBulkAll ds ≤ 1048576)
def OpenSpec.upto (s : _root_.Go.ChangeSpec) : _root_.Go.OpenSpec := { _root_.Go.OpenSpec.ofChange s with cond := some uptoSmall }

/-- 'wireloomlaw29.PlacementMatchesReference', WHERE WHAT IT READS IS OF BULK AT MOST 1048576: true; the input reads as it did. -/
def placementMatchesReferenceUptoRow : OpenClaim := { program := "ytbdamnfkgdbidaa", sum := "9c42f147dfc166a4c96f86c9853bdad0fad9133e4c4b8bff27f147a16ce85f26", func := "wireloom/wireloomlaw29.PlacementMatchesReference", spec := "placementMatchesReference", unfollowed := true, recurses := true, apart := false, narrowed := true }
def PlacementMatchesReferenceUptoSaid : Prop := placementMatchesReferenceUptoRow.holds Try.pinned (OpenSpec.upto placementMatchesReferenceSpec)

/-- 'wireloomlaw29.PlacementLegal', WHERE WHAT IT READS IS OF BULK AT MOST 1048576: true; the input reads as it did. -/
def placementLegalUptoRow : OpenClaim := { program := "ytbdamnfkgdbidaa", sum := "9c42f147dfc166a4c96f86c9853bdad0fad9133e4c4b8bff27f147a16ce85f26", func := "wireloom/wireloomlaw29.PlacementLegal", spec := "placementLegal", unfollowed := true, recurses := true, apart := false, narrowed := true }
def PlacementLegalUptoSaid : Prop := placementLegalUptoRow.holds Try.pinned (OpenSpec.upto placementLegalSpec)

/-- 'wireloomlaw29.PlacementImproves', WHERE WHAT IT READS IS OF BULK AT MOST 1048576: true; the input reads as it did. -/
def placementImprovesUptoRow : OpenClaim := { program := "ytbdamnfkgdbidaa", sum := "9c42f147dfc166a4c96f86c9853bdad0fad9133e4c4b8bff27f147a16ce85f26", func := "wireloom/wireloomlaw29.PlacementImproves", spec := "placementImproves", unfollowed := true, recurses := true, apart := false, narrowed := true }
def PlacementImprovesUptoSaid : Prop := placementImprovesUptoRow.holds Try.pinned (OpenSpec.upto placementImprovesSpec)

/-- 'wireloomlaw29.PlacementRoom', WHERE WHAT IT READS IS OF BULK AT MOST 1048576: true; the input reads as it did. -/
def placementRoomUptoRow : OpenClaim := { program := "ytbdamnfkgdbidaa", sum := "9c42f147dfc166a4c96f86c9853bdad0fad9133e4c4b8bff27f147a16ce85f26", func := "wireloom/wireloomlaw29.PlacementRoom", spec := "placementRoom", unfollowed := true, recurses := true, apart := false, narrowed := true }
def PlacementRoomUptoSaid : Prop := placementRoomUptoRow.holds Try.pinned (OpenSpec.upto placementRoomSpec)

/-- 'wireloomlaw29.PlacementRefuses', WHERE WHAT IT READS IS OF BULK AT MOST 1048576: true; the input reads as it did. -/
def placementRefusesUptoRow : OpenClaim := { program := "ytbdamnfkgdbidaa", sum := "9c42f147dfc166a4c96f86c9853bdad0fad9133e4c4b8bff27f147a16ce85f26", func := "wireloom/wireloomlaw29.PlacementRefuses", spec := "placementRefuses", unfollowed := true, recurses := true, apart := false, narrowed := true }
def PlacementRefusesUptoSaid : Prop := placementRefusesUptoRow.holds Try.pinned (OpenSpec.upto placementRefusesSpec)

/-- 'wireloomlaw29.PlacementRenumbers', WHERE WHAT IT READS IS OF BULK AT MOST 1048576: true; the input reads as it did. -/
def placementRenumbersUptoRow : OpenClaim := { program := "ytbdamnfkgdbidaa", sum := "9c42f147dfc166a4c96f86c9853bdad0fad9133e4c4b8bff27f147a16ce85f26", func := "wireloom/wireloomlaw29.PlacementRenumbers", spec := "placementRenumbers", unfollowed := true, recurses := true, apart := false, narrowed := true }
def PlacementRenumbersUptoSaid : Prop := placementRenumbersUptoRow.holds Try.pinned (OpenSpec.upto placementRenumbersSpec)

end Rows
end Go.Proofs.Ytbdamnfkgdbidaa
