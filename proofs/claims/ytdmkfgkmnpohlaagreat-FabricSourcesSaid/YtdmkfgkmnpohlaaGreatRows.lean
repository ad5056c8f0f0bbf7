/-
  No cell of these rows narrows 'for every input' (looked for: loops, veiled, ifaces, maps, wideKeys, modest, calm, conditions, laid).
  DERIVED. THE GIVEN ROWS OF THIS SEAT. 3 by the template 'for every input the law returns true; each argument reads behind the call as it read before'; 0 by the template 'total and deterministic' (their statements: YtdmkfgkmnpohlaaGreatTotals.lean).
  GIVEN WITH THE SEED: the statements are not yours to turn. If you find one false, say at which input.
  Laid BY PROGRAM, IN A SANDBOX (cutbox-rows.mjs): the forced cells as the released guide's own fill.sh prints them over the translation e4ba2da586ccbbbd… (all of the seat's roots in one cut). By AI agents, Wed Nov 11 2026. No macro, syntax, notation, axiom, sorry.
-/
import Derived.Test.YtdmkfgkmnpohlaaGreatChecked
import GoSem.Claim
import GoSem.ClaimJoined
import GoSem.ClaimMapViews
import Derived.JoinedTies
import Derived.KernelRfl
namespace Go.Proofs.YtdmkfgkmnpohlaaGreat
/- THE CELL 'sum', in the pinned program and in every row, IS THE sha256 OF THE DUMP (.gsa) THAT YtdmkfgkmnpohlaaGreatProg.lean LOADS. Nothing in Lean hashes anything: it is a label: what it is worth is what the hold of that sum in a sandbox is worth. -/
noncomputable def Tryz.pinned : Pinned := { name := "ytdmkfgkmnpohlaagreat", sum := "e4ba2da586ccbbbd27c5ae3b63aeb9a13eae8add00e6cbad430ef193d84d0a91", checked := Tryz.checked }
namespace Rows
def none {H : Type} : Left H := { results := [], args := [] }

/-- 'wireloomlaw40.FabricSettles': WHATEVER THE INPUT: true; the input reads as it did. -/
def fabricSettlesSpec : ChangeSpec := { name := "fabricSettles", fn := fun _ => fun
  | [d] => { results := [.lit (.bool true)], args := [d] }
  | _ => none }
def fabricSettlesRow : OpenClaim := { program := "ytdmkfgkmnpohlaagreat", sum := "e4ba2da586ccbbbd27c5ae3b63aeb9a13eae8add00e6cbad430ef193d84d0a91", func := "wireloom/wireloomlaw40.FabricSettles", spec := "fabricSettles", unfollowed := true, recurses := true, plainKeys := false, apart := false }
def FabricSettlesSaid : Prop := fabricSettlesRow.holds Tryz.pinned (OpenSpec.ofChange fabricSettlesSpec)

/-- ITS FALSE NEIGHBOUR: 'it returns false'. Refute it at one input. -/
def fabricSettlesWrong : ChangeSpec := { name := "fabricSettles", fn := fun _ => fun
  | [d] => { results := [.lit (.bool false)], args := [d] }
  | _ => none }
def FabricSettlesWrongFalsely : Prop := fabricSettlesRow.holds Tryz.pinned (OpenSpec.ofChange fabricSettlesWrong)

/-- 'wireloomlaw40.FabricPads': WHATEVER THE INPUT: true; the input reads as it did. -/
def fabricPadsSpec : ChangeSpec := { name := "fabricPads", fn := fun _ => fun
  | [d1, d2] => { results := [.lit (.bool true)], args := [d1, d2] }
  | _ => none }
def fabricPadsRow : OpenClaim := { program := "ytdmkfgkmnpohlaagreat", sum := "e4ba2da586ccbbbd27c5ae3b63aeb9a13eae8add00e6cbad430ef193d84d0a91", func := "wireloom/wireloomlaw40.FabricPads", spec := "fabricPads", unfollowed := true, recurses := true, plainKeys := false, apart := false }
def FabricPadsSaid : Prop := fabricPadsRow.holds Tryz.pinned (OpenSpec.ofChange fabricPadsSpec)

/-- ITS FALSE NEIGHBOUR: 'it returns false'. Refute it at one input. -/
def fabricPadsWrong : ChangeSpec := { name := "fabricPads", fn := fun _ => fun
  | [d1, d2] => { results := [.lit (.bool false)], args := [d1, d2] }
  | _ => none }
def FabricPadsWrongFalsely : Prop := fabricPadsRow.holds Tryz.pinned (OpenSpec.ofChange fabricPadsWrong)

/-- 'wireloomlaw40.FabricSources': WHATEVER THE INPUT: true; the input reads as it did. -/
def fabricSourcesSpec : ChangeSpec := { name := "fabricSources", fn := fun _ => fun
  | [d1, d2] => { results := [.lit (.bool true)], args := [d1, d2] }
  | _ => none }
def fabricSourcesRow : OpenClaim := { program := "ytdmkfgkmnpohlaagreat", sum := "e4ba2da586ccbbbd27c5ae3b63aeb9a13eae8add00e6cbad430ef193d84d0a91", func := "wireloom/wireloomlaw40.FabricSources", spec := "fabricSources", unfollowed := true, recurses := true, plainKeys := false, apart := false }
def FabricSourcesSaid : Prop := fabricSourcesRow.holds Tryz.pinned (OpenSpec.ofChange fabricSourcesSpec)

/-- ITS FALSE NEIGHBOUR: 'it returns false'. Refute it at one input. -/
def fabricSourcesWrong : ChangeSpec := { name := "fabricSources", fn := fun _ => fun
  | [d1, d2] => { results := [.lit (.bool false)], args := [d1, d2] }
  | _ => none }
def FabricSourcesWrongFalsely : Prop := fabricSourcesRow.holds Tryz.pinned (OpenSpec.ofChange fabricSourcesWrong)

/- THE SECOND FORM. 'bulk': how many values and letters a reading holds, each counted each time it is reached (what is shared counts as often as it is met; a slice's spare places count too). A statement '..UptoSaid' is the law's where the arguments, and the package variables that the reading takes, are together of bulk at most 1048576: NARROWER than '..Said'. Prove '..Said' where nothing that the law and all that it calls make is longer than what came in: it says more and counts as full. Else prove '..UptoSaid'. A law counts once. -/
mutual
def uptoBulk {H : Type} : DataW H → Nat
  | .lit (.string bytes) => bytes.length + 1
  | .lit _ => 1
  | .nil => 1
  | .ptr d => uptoBulk d + 1
  | .slice elems spare => uptoBulkAll elems + uptoBulkAll spare + 1
  | .agg parts => uptoBulkAll parts + 1
  | .iface _ d => uptoBulk d + 1
  | .map entries => uptoBulkEntries entries + 1
  | .held _ => 1
def uptoBulkAll {H : Type} : List (DataW H) → Nat
  | [] => 0
  | d :: r => uptoBulk d + uptoBulkAll r
def uptoBulkEntries {H : Type} : List (Lit × DataW H) → Nat
  | [] => 0
  | x :: r => uptoBulkEntry x + uptoBulkEntries r
def uptoBulkEntry {H : Type} : Lit × DataW H → Nat
  | (.string bytes, d) => bytes.length + uptoBulk d + 1
  | (_, d) => uptoBulk d + 1
 end
def uptoSmall : (H : Type) → List (DataW H) → Bool := fun _ ds => decide (uptoBulkAll ds ≤ 1048576)
def OpenSpec.upto (s : _root_.Go.ChangeSpec) : _root_.Go.OpenSpec := { _root_.Go.OpenSpec.ofChange s with cond := some uptoSmall }

/-- 'wireloomlaw40.FabricSettles', WHERE WHAT IT READS IS OF BULK AT MOST 1048576: true; the input reads as it did. -/
def fabricSettlesUptoRow : OpenClaim := { program := "ytdmkfgkmnpohlaagreat", sum := "e4ba2da586ccbbbd27c5ae3b63aeb9a13eae8add00e6cbad430ef193d84d0a91", func := "wireloom/wireloomlaw40.FabricSettles", spec := "fabricSettles", unfollowed := true, recurses := true, plainKeys := false, apart := false, narrowed := true }
def FabricSettlesUptoSaid : Prop := fabricSettlesUptoRow.holds Tryz.pinned (OpenSpec.upto fabricSettlesSpec)

/-- 'wireloomlaw40.FabricPads', WHERE WHAT IT READS IS OF BULK AT MOST 1048576: true; the input reads as it did. -/
def fabricPadsUptoRow : OpenClaim := { program := "ytdmkfgkmnpohlaagreat", sum := "e4ba2da586ccbbbd27c5ae3b63aeb9a13eae8add00e6cbad430ef193d84d0a91", func := "wireloom/wireloomlaw40.FabricPads", spec := "fabricPads", unfollowed := true, recurses := true, plainKeys := false, apart := false, narrowed := true }
def FabricPadsUptoSaid : Prop := fabricPadsUptoRow.holds Tryz.pinned (OpenSpec.upto fabricPadsSpec)

/-- 'wireloomlaw40.FabricSources', WHERE WHAT IT READS IS OF BULK AT MOST 1048576: true; the input reads as it did. -/
def fabricSourcesUptoRow : OpenClaim := { program := "ytdmkfgkmnpohlaagreat", sum := "e4ba2da586ccbbbd27c5ae3b63aeb9a13eae8add00e6cbad430ef193d84d0a91", func := "wireloom/wireloomlaw40.FabricSources", spec := "fabricSources", unfollowed := true, recurses := true, plainKeys := false, apart := false, narrowed := true }
def FabricSourcesUptoSaid : Prop := fabricSourcesUptoRow.holds Tryz.pinned (OpenSpec.upto fabricSourcesSpec)

end Rows
end Go.Proofs.YtdmkfgkmnpohlaaGreat
