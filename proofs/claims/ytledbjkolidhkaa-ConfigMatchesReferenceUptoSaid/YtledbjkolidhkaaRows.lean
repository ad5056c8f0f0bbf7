/-
  No cell of these rows narrows 'for every input' (looked for: loops, veiled, ifaces, maps, wideKeys, modest, calm, conditions, laid).
  DERIVED. THE GIVEN ROWS OF THIS SEAT. 6 by the template 'for every input the law returns true; each argument reads behind the call as it read before'; 0 by the template 'total and deterministic' (their statements: YtledbjkolidhkaaTotals.lean).
  GIVEN WITH THE SEED: the statements are not yours to turn. If you find one false, say at which input.
  Laid BY PROGRAM, IN A SANDBOX (cutbox-rows.mjs): the forced cells as the released guide's own fill.sh prints them over the translation aa111ab2500af5a3… (all of the seat's roots in one cut). By AI agents, Wed Nov 11 2026. No macro, syntax, notation, axiom, sorry.
-/
import Derived.Test.YtledbjkolidhkaaChecked
import GoSem.Claim
import GoSem.ClaimJoined
import GoSem.ClaimMapViews
import Derived.JoinedTies
import Derived.KernelRfl
namespace Go.Proofs.Ytledbjkolidhkaa
/- THE CELL 'sum', in the pinned program and in every row, IS THE sha256 OF THE DUMP (.gsa) THAT YtledbjkolidhkaaProg.lean LOADS. Nothing in Lean hashes anything: it is a label: what it is worth is what the hold of that sum in a sandbox is worth. -/
noncomputable def Try.pinned : Pinned := { name := "ytledbjkolidhkaa", sum := "aa111ab2500af5a3b1d62d718db98cbc75310fdaaa1973f568b32f62d2ebcd25", checked := Try.checked }
namespace Rows
def none {H : Type} : Left H := { results := [], args := [] }

/-- 'wireloomlaw31.ConfigMatchesReference': WHATEVER THE INPUT: true; the input reads as it did. -/
def configMatchesReferenceSpec : ChangeSpec := { name := "configMatchesReference", fn := fun _ => fun
  | [d1, d2] => { results := [.lit (.bool true)], args := [d1, d2] }
  | _ => none }
def configMatchesReferenceRow : OpenClaim := { program := "ytledbjkolidhkaa", sum := "aa111ab2500af5a3b1d62d718db98cbc75310fdaaa1973f568b32f62d2ebcd25", func := "wireloom/wireloomlaw31.ConfigMatchesReference", spec := "configMatchesReference", unfollowed := true, recurses := true, apart := false }
def ConfigMatchesReferenceSaid : Prop := configMatchesReferenceRow.holds Try.pinned (OpenSpec.ofChange configMatchesReferenceSpec)

/-- ITS FALSE NEIGHBOUR: 'it returns false'. Refute it at one input. -/
def configMatchesReferenceWrong : ChangeSpec := { name := "configMatchesReference", fn := fun _ => fun
  | [d1, d2] => { results := [.lit (.bool false)], args := [d1, d2] }
  | _ => none }
def ConfigMatchesReferenceWrongFalsely : Prop := configMatchesReferenceRow.holds Try.pinned (OpenSpec.ofChange configMatchesReferenceWrong)

/-- 'wireloomlaw31.ConfigLayouts': WHATEVER THE INPUT: true; the input reads as it did. -/
def configLayoutsSpec : ChangeSpec := { name := "configLayouts", fn := fun _ => fun
  | [d] => { results := [.lit (.bool true)], args := [d] }
  | _ => none }
def configLayoutsRow : OpenClaim := { program := "ytledbjkolidhkaa", sum := "aa111ab2500af5a3b1d62d718db98cbc75310fdaaa1973f568b32f62d2ebcd25", func := "wireloom/wireloomlaw31.ConfigLayouts", spec := "configLayouts", unfollowed := true, recurses := true, apart := false }
def ConfigLayoutsSaid : Prop := configLayoutsRow.holds Try.pinned (OpenSpec.ofChange configLayoutsSpec)

/-- ITS FALSE NEIGHBOUR: 'it returns false'. Refute it at one input. -/
def configLayoutsWrong : ChangeSpec := { name := "configLayouts", fn := fun _ => fun
  | [d] => { results := [.lit (.bool false)], args := [d] }
  | _ => none }
def ConfigLayoutsWrongFalsely : Prop := configLayoutsRow.holds Try.pinned (OpenSpec.ofChange configLayoutsWrong)

/-- 'wireloomlaw31.ConfigLocal': WHATEVER THE INPUT: true; the input reads as it did. -/
def configLocalSpec : ChangeSpec := { name := "configLocal", fn := fun _ => fun
  | [d1, d2] => { results := [.lit (.bool true)], args := [d1, d2] }
  | _ => none }
def configLocalRow : OpenClaim := { program := "ytledbjkolidhkaa", sum := "aa111ab2500af5a3b1d62d718db98cbc75310fdaaa1973f568b32f62d2ebcd25", func := "wireloom/wireloomlaw31.ConfigLocal", spec := "configLocal", unfollowed := true, recurses := true, apart := false }
def ConfigLocalSaid : Prop := configLocalRow.holds Try.pinned (OpenSpec.ofChange configLocalSpec)

/-- ITS FALSE NEIGHBOUR: 'it returns false'. Refute it at one input. -/
def configLocalWrong : ChangeSpec := { name := "configLocal", fn := fun _ => fun
  | [d1, d2] => { results := [.lit (.bool false)], args := [d1, d2] }
  | _ => none }
def ConfigLocalWrongFalsely : Prop := configLocalRow.holds Try.pinned (OpenSpec.ofChange configLocalWrong)

/-- 'wireloomlaw31.ConfigSources': WHATEVER THE INPUT: true; the input reads as it did. -/
def configSourcesSpec : ChangeSpec := { name := "configSources", fn := fun _ => fun
  | [d1, d2, d3] => { results := [.lit (.bool true)], args := [d1, d2, d3] }
  | _ => none }
def configSourcesRow : OpenClaim := { program := "ytledbjkolidhkaa", sum := "aa111ab2500af5a3b1d62d718db98cbc75310fdaaa1973f568b32f62d2ebcd25", func := "wireloom/wireloomlaw31.ConfigSources", spec := "configSources", unfollowed := true, recurses := true, apart := false }
def ConfigSourcesSaid : Prop := configSourcesRow.holds Try.pinned (OpenSpec.ofChange configSourcesSpec)

/-- ITS FALSE NEIGHBOUR: 'it returns false'. Refute it at one input. -/
def configSourcesWrong : ChangeSpec := { name := "configSources", fn := fun _ => fun
  | [d1, d2, d3] => { results := [.lit (.bool false)], args := [d1, d2, d3] }
  | _ => none }
def ConfigSourcesWrongFalsely : Prop := configSourcesRow.holds Try.pinned (OpenSpec.ofChange configSourcesWrong)

/-- 'wireloomlaw31.ConfigLoops': WHATEVER THE INPUT: true; the input reads as it did. -/
def configLoopsSpec : ChangeSpec := { name := "configLoops", fn := fun _ => fun
  | [d1, d2, d3] => { results := [.lit (.bool true)], args := [d1, d2, d3] }
  | _ => none }
def configLoopsRow : OpenClaim := { program := "ytledbjkolidhkaa", sum := "aa111ab2500af5a3b1d62d718db98cbc75310fdaaa1973f568b32f62d2ebcd25", func := "wireloom/wireloomlaw31.ConfigLoops", spec := "configLoops", unfollowed := true, recurses := true, apart := false }
def ConfigLoopsSaid : Prop := configLoopsRow.holds Try.pinned (OpenSpec.ofChange configLoopsSpec)

/-- ITS FALSE NEIGHBOUR: 'it returns false'. Refute it at one input. -/
def configLoopsWrong : ChangeSpec := { name := "configLoops", fn := fun _ => fun
  | [d1, d2, d3] => { results := [.lit (.bool false)], args := [d1, d2, d3] }
  | _ => none }
def ConfigLoopsWrongFalsely : Prop := configLoopsRow.holds Try.pinned (OpenSpec.ofChange configLoopsWrong)

/-- 'wireloomlaw31.ConfigRefuses': WHATEVER THE INPUT: true; the input reads as it did. -/
def configRefusesSpec : ChangeSpec := { name := "configRefuses", fn := fun _ => fun
  | [d1, d2] => { results := [.lit (.bool true)], args := [d1, d2] }
  | _ => none }
def configRefusesRow : OpenClaim := { program := "ytledbjkolidhkaa", sum := "aa111ab2500af5a3b1d62d718db98cbc75310fdaaa1973f568b32f62d2ebcd25", func := "wireloom/wireloomlaw31.ConfigRefuses", spec := "configRefuses", unfollowed := true, recurses := true, apart := false }
def ConfigRefusesSaid : Prop := configRefusesRow.holds Try.pinned (OpenSpec.ofChange configRefusesSpec)

/-- ITS FALSE NEIGHBOUR: 'it returns false'. Refute it at one input. -/
def configRefusesWrong : ChangeSpec := { name := "configRefuses", fn := fun _ => fun
  | [d1, d2] => { results := [.lit (.bool false)], args := [d1, d2] }
  | _ => none }
def ConfigRefusesWrongFalsely : Prop := configRefusesRow.holds Try.pinned (OpenSpec.ofChange configRefusesWrong)

/- THE SECOND FORM. 'bulk': how many values and letters a reading holds, each counted each time it is reached (what is shared counts as often as it is met; a slice's spare places count too). A statement '..UptoSaid' is the law's where the arguments, and the package variables that the reading takes, are together of bulk at most 1048576: NARROWER than '..Said'. Prove '..Said' where nothing that the law and all that it calls make is longer than what came in: it says more and counts as full. Else prove '..UptoSaid'. A law counts once. -/
mutual
def uptoBulk {H : Type} : DataW H → Nat
  | .lit (.string bytes) => bytes.length + 1
  | .lit _ => 1
  | .nil => 1
  | .ptr d => uptoBulk d + 1
  | .slice elems spare => uptoBulkAll elems + uptoBulkAll spare + 1
  | .agg parts => uptoBulkAll parts + 1
  | .iface _ d => uptoBulk d + 1
  | .map entries => uptoBulkEntries entries + 1
  | .held _ => 1
def uptoBulkAll {H : Type} : List (DataW H) → Nat
  | [] => 0
  | d :: r => uptoBulk d + uptoBulkAll r
def uptoBulkEntries {H : Type} : List (Lit × DataW H) → Nat
  | [] => 0
  | x :: r => uptoBulkEntry x + uptoBulkEntries r
def uptoBulkEntry {H : Type} : Lit × DataW H → Nat
  | (.string bytes, d) => bytes.length + uptoBulk d + 1
  | (_, d) => uptoBulk d + 1
 end
def uptoSmall : (H : Type) → List (DataW H) → Bool := fun _ ds => decide (uptoBulkAll ds ≤ 1048576)
def OpenSpec.upto (s : _root_.Go.ChangeSpec) : _root_.Go.OpenSpec := { _root_.Go.OpenSpec.ofChange s with cond := some uptoSmall }

/-- 'wireloomlaw31.ConfigMatchesReference', WHERE WHAT IT READS IS OF BULK AT MOST 1048576: true; the input reads as it did. -/
def configMatchesReferenceUptoRow : OpenClaim := { program := "ytledbjkolidhkaa", sum := "aa111ab2500af5a3b1d62d718db98cbc75310fdaaa1973f568b32f62d2ebcd25", func := "wireloom/wireloomlaw31.ConfigMatchesReference", spec := "configMatchesReference", unfollowed := true, recurses := true, apart := false, narrowed := true }
def ConfigMatchesReferenceUptoSaid : Prop := configMatchesReferenceUptoRow.holds Try.pinned (OpenSpec.upto configMatchesReferenceSpec)

/-- 'wireloomlaw31.ConfigLayouts', WHERE WHAT IT READS IS OF BULK AT MOST 1048576: true; the input reads as it did. -/
def configLayoutsUptoRow : OpenClaim := { program := "ytledbjkolidhkaa", sum := "aa111ab2500af5a3b1d62d718db98cbc75310fdaaa1973f568b32f62d2ebcd25", func := "wireloom/wireloomlaw31.ConfigLayouts", spec := "configLayouts", unfollowed := true, recurses := true, apart := false, narrowed := true }
def ConfigLayoutsUptoSaid : Prop := configLayoutsUptoRow.holds Try.pinned (OpenSpec.upto configLayoutsSpec)

/-- 'wireloomlaw31.ConfigLocal', WHERE WHAT IT READS IS OF BULK AT MOST 1048576: true; the input reads as it did. -/
def configLocalUptoRow : OpenClaim := { program := "ytledbjkolidhkaa", sum := "aa111ab2500af5a3b1d62d718db98cbc75310fdaaa1973f568b32f62d2ebcd25", func := "wireloom/wireloomlaw31.ConfigLocal", spec := "configLocal", unfollowed := true, recurses := true, apart := false, narrowed := true }
def ConfigLocalUptoSaid : Prop := configLocalUptoRow.holds Try.pinned (OpenSpec.upto configLocalSpec)

/-- 'wireloomlaw31.ConfigSources', WHERE WHAT IT READS IS OF BULK AT MOST 1048576: true; the input reads as it did. -/
def configSourcesUptoRow : OpenClaim := { program := "ytledbjkolidhkaa", sum := "aa111ab2500af5a3b1d62d718db98cbc75310fdaaa1973f568b32f62d2ebcd25", func := "wireloom/wireloomlaw31.ConfigSources", spec := "configSources", unfollowed := true, recurses := true, apart := false, narrowed := true }
def ConfigSourcesUptoSaid : Prop := configSourcesUptoRow.holds Try.pinned (OpenSpec.upto configSourcesSpec)

/-- 'wireloomlaw31.ConfigLoops', WHERE WHAT IT READS IS OF BULK AT MOST 1048576: true; the input reads as it did. -/
def configLoopsUptoRow : OpenClaim := { program := "ytledbjkolidhkaa", sum := "aa111ab2500af5a3b1d62d718db98cbc75310fdaaa1973f568b32f62d2ebcd25", func := "wireloom/wireloomlaw31.ConfigLoops", spec := "configLoops", unfollowed := true, recurses := true, apart := false, narrowed := true }
def ConfigLoopsUptoSaid : Prop := configLoopsUptoRow.holds Try.pinned (OpenSpec.upto configLoopsSpec)

/-- 'wireloomlaw31.ConfigRefuses', WHERE WHAT IT READS IS OF BULK AT MOST 1048576: true; the input reads as it did. -/
def configRefusesUptoRow : OpenClaim := { program := "ytledbjkolidhkaa", sum := "aa111ab2500af5a3b1d62d718db98cbc75310fdaaa1973f568b32f62d2ebcd25", func := "wireloom/wireloomlaw31.ConfigRefuses", spec := "configRefuses", unfollowed := true, recurses := true, apart := false, narrowed := true }
def ConfigRefusesUptoSaid : Prop := configRefusesUptoRow.holds Try.pinned (OpenSpec.upto configRefusesSpec)

end Rows
end Go.Proofs.Ytledbjkolidhkaa
