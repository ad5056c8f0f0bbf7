/- A B C D E F G H: lemmas for PRenumbers -/
import Derived.Test.YtbdamnfkgdbidaaPart08
import Derived.Test.YtbdamnfkgdbidaaPart07
set_option linter.unusedSimpArgs false
set_option linter.unusedVariables false
namespace Go.Proofs.Ytbdamnfkgdbidaa
open Go Go.Vc Txt
structure Wire where
  kind : Int
  i : Int
  bit : Int
  deriving DecidableEq, Inhabited
structure Block where
  ins : List Int
  table : Int
  ram : Int
  reg : Int
  key : Int
  deriving DecidableEq, Inhabited
structure Packed where
  ins : List Wire
  blocks : List Block
  out : List Wire
  drive : List Int
  deriving DecidableEq, Inhabited
structure Grid where
  w : Int
  h : Int
  tracks : Int
  pads : Int
  kind : List Int
  deriving DecidableEq, Inhabited
structure Bad where
  tiles : List Int
  nodes : List Int
  deriving DecidableEq, Inhabited
structure Job where
  p : Packed
  g : Grid
  bad : Bad
  deriving DecidableEq, Inhabited
def wireC (w : Wire) : List PV := [.int w.kind, .int w.i, .int w.bit]
def blockC (q : Bool) (b : Block) : List PV := [.sl q 1 (ints b.ins), .int b.table, .int b.ram, .int b.reg, .sc (.int .u64 b.key)]
def gridC (q : Bool) (g : Grid) : List PV := [.int g.w, .int g.h, .int g.tracks, .int g.pads, .sl q 1 (ints g.kind)]
def jobC (q : Bool) (j : Job) : List PV := [.sl q 3 (rows wireC j.p.ins), .sl q 5 (rows (blockC q) j.p.blocks), .sl q 3 (rows wireC j.p.out), .sl q 1 (ints j.p.drive),
  .int j.g.w, .int j.g.h, .int j.g.tracks, .int j.g.pads, .sl q 1 (ints j.g.kind), .sl q 1 (ints j.bad.tiles), .sl q 1 (ints j.bad.nodes)]
@[push_cast] theorem wireC_eq (w : Wire) : wireC w = [.int w.kind, .int w.i, .int w.bit] := rfl
@[push_cast] theorem blockC_eq (q : Bool) (b : Block) : blockC q b = [.sl q 1 (ints b.ins), .int b.table, .int b.ram, .int b.reg, .sc (.int .u64 b.key)] := rfl
@[push_cast] theorem gridC_eq (q : Bool) (g : Grid) : gridC q g = [.int g.w, .int g.h, .int g.tracks, .int g.pads, .sl q 1 (ints g.kind)] := rfl
@[push_cast] theorem jobC_eq (q : Bool) (j : Job) : jobC q j = [.sl q 3 (rows wireC j.p.ins), .sl q 5 (rows (blockC q) j.p.blocks), .sl q 3 (rows wireC j.p.out), .sl q 1 (ints j.p.drive),
  .int j.g.w, .int j.g.h, .int j.g.tracks, .int j.g.pads, .sl q 1 (ints j.g.kind), .sl q 1 (ints j.bad.tiles), .sl q 1 (ints j.bad.nodes)] := rfl
theorem in_ok (l : List Int) (n : Int) (hl : (l.length : Int) ≤ 4611686018427387904) : FnEq Try.prog 26 [.sl false 1 (ints l), .int n] (.bool (decide (n ∈ l))) := by
  refine FnEq.of_awp Try.func26 ok26 (by show 2 ≤ _; decide) (by simp only [push_cast, reduceIte, Nat.reduceEqDiff, Nat.reduceAdd, Nat.reduceSub, Nat.reduceMul, Nat.reduceBEq, Nat.reduceLT, Nat.reduceLeDiff, reduceCtorEq, Int.reduceToNat, Int.reduceNeg] <;> first | exact fun _ _ => trivial | simp) ?_
  simp only [ac26, rv26, push_cast, reduceIte, Nat.reduceEqDiff, Nat.reduceAdd, Nat.reduceSub, Nat.reduceMul, Nat.reduceBEq, Nat.reduceLT, Nat.reduceLeDiff, reduceCtorEq, Int.reduceToNat, Int.reduceNeg]
  refine loop_of (fun m st => ∃ k : Nat, k ≤ l.length ∧ m = l.length - k ∧ n ∉ l.take k ∧ st = ⟨[(0, .sl false 1 (ints l)), (1, .int n), (5, .int k)], [], [], []⟩) l.length ?_ ?_
  · refine ⟨0, by omega, by omega, by simp, ?_⟩
    simp only [push_cast, reduceIte, Nat.reduceEqDiff, Nat.reduceAdd, Nat.reduceSub, Nat.reduceMul, Nat.reduceBEq, Nat.reduceLT, Nat.reduceLeDiff, reduceCtorEq, Int.reduceToNat, Int.reduceNeg]
  · rintro m st ⟨k, hk, rfl, hn, rfl⟩
    simp only [push_cast, reduceIte, Nat.reduceEqDiff, Nat.reduceAdd, Nat.reduceSub, Nat.reduceMul, Nat.reduceBEq, Nat.reduceLT, Nat.reduceLeDiff, reduceCtorEq, Int.reduceToNat, Int.reduceNeg]
    refine cond_dec (fun h => ⟨by omega, by omega, ?_⟩) fun h => ?_
    · have hk' : k < l.length := by omega
      have hg : l.getD k default = l[k] := by simp [hk']
      rw [hg]
      refine cond_dec (fun e => ?_) fun e => ⟨by omega, _, ?_, k + 1, by omega, rfl, ?_, ?_⟩
      · simp [← e]
      · omega
      · rw [List.take_succ_eq_append_getElem hk', List.mem_append, not_or]; exact ⟨hn, fun hm => e (by simpa using Eq.symm (List.mem_singleton.mp hm))⟩
      · simp
    · rw [List.take_of_length_le (by omega)] at hn; simp [hn]
theorem each_ok (g : Grid) (ht : 0 ≤ g.tracks ∧ g.tracks ≤ 1000000) : FnEq Try.prog 31 [.agg (gridC false g)] (.int (6 + 2 * g.tracks)) := by
  refine FnEq.of_awp Try.func31 ok31 (by show 1 ≤ _; decide) (by simp only [push_cast, reduceIte, Nat.reduceEqDiff, Nat.reduceAdd, Nat.reduceSub, Nat.reduceMul, Nat.reduceBEq, Nat.reduceLT, Nat.reduceLeDiff, reduceCtorEq, Int.reduceToNat, Int.reduceNeg] <;> first | exact fun _ _ => trivial | simp) ?_
  simp only [ac31, rv31, push_cast, reduceIte, Nat.reduceEqDiff, Nat.reduceAdd, Nat.reduceSub, Nat.reduceMul, Nat.reduceBEq, Nat.reduceLT, Nat.reduceLeDiff, reduceCtorEq, Int.reduceToNat, Int.reduceNeg]
  omega
theorem nodup_snoc {l : List Int} {k : Nat} (hk : k < l.length) : (l.take (k + 1)).Nodup ↔ (l.take k).Nodup ∧ l[k] ∉ l.take k := by
  rw [List.take_succ_eq_append_getElem hk, List.nodup_append]
  constructor
  · rintro ⟨h1, _, h2⟩
    exact ⟨h1, fun h => h2 _ h _ (List.mem_singleton.2 rfl) rfl⟩
  · rintro ⟨h1, h2⟩
    refine ⟨h1, by simp, fun a ha b hb e => ?_⟩
    rw [List.mem_singleton] at hb
    subst hb; subst e
    exact h2 ha
structure Job.Ok (j : Job) : Prop where
  wh : 0 ≤ j.g.w * j.g.h ∧ j.g.w * j.g.h ≤ 1000000
  tr : 0 ≤ j.g.tracks ∧ j.g.tracks ≤ 1000
  kind : (j.g.kind.length : Int) = j.g.w * j.g.h
  nb : (j.p.blocks.length : Int) ≤ 1000
  nin : ∀ b ∈ j.p.blocks, (b.ins.length : Int) ≤ 1000
  ins : (j.p.ins.length : Int) ≤ 1000000
  outs : (j.p.out.length : Int) ≤ 1000000
  tiles : (j.bad.tiles.length : Int) ≤ 1000000
  nodes : (j.bad.nodes.length : Int) ≤ 1000000
  nr : ∀ n ∈ j.bad.nodes, -9223372036854775808 ≤ n ∧ n ≤ 9223372036854775807
  w : 0 < j.g.w ∧ j.g.w ≤ 1000000
  h : 0 < j.g.h ∧ j.g.h ≤ 1000000
  nd : (j.p.drive.length : Int) ≤ 1000
  sb : ∀ b ∈ j.p.blocks, ∀ s ∈ b.ins, 0 ≤ s ∧ s < j.p.ins.length + 2 * j.p.blocks.length
  sd : ∀ s ∈ j.p.drive, 0 ≤ s ∧ s < j.p.ins.length + 2 * j.p.blocks.length
def suitsR (j : Job) (block tile : Int) : Bool :=
  if block < 0 ∨ (j.p.blocks.length : Int) ≤ block ∨ tile < 0 ∨ j.g.w * j.g.h ≤ tile then false
  else
    let b := j.p.blocks.getD block.toNat default
    let k := j.g.kind.getD tile.toNat default
    if k = 0 ∨ (b.ram ≠ -1 ∧ k ≠ 2) ∨ tile ∈ j.bad.tiles then false
    else
      let first := tile * (6 + 2 * j.g.tracks)
      if first ∈ j.bad.nodes ∨ (b.reg ≠ -1 ∧ first + 1 ∈ j.bad.nodes) then false
      else decide (∀ i : Nat, i < b.ins.length → first + 2 + i ∉ j.bad.nodes)
end Go.Proofs.Ytbdamnfkgdbidaa
namespace Go.Proofs.Ytbdamnfkgdbidaa
open Go Go.Vc Txt
def fidx (p : Int → Bool) (l : List Int) : Int := match l.findIdx? p with | some k => k | none => -1
theorem fidx_none {p : Int → Bool} {l : List Int} (h : ∀ x ∈ l, p x = false) : fidx p l = -1 := by
  unfold fidx
  rw [List.findIdx?_eq_none_iff.2 h]
theorem fidx_some {p : Int → Bool} {l : List Int} {k : Nat} (hk : k < l.length) (h : ∀ x ∈ l.take k, p x = false) (hp : p l[k] = true) : fidx p l = k := by
  unfold fidx
  rw [List.findIdx?_eq_some_iff_getElem.2 ⟨hk, hp, fun j hj => by
    have : l[j] ∈ l.take k := List.mem_take_iff_getElem.2 ⟨j, by omega, rfl⟩
    simp [h _ this]⟩]
theorem fidx_nonneg {p : Int → Bool} {l : List Int} : 0 ≤ fidx p l ↔ l.any p = true := by
  by_cases h : ∃ x ∈ l, p x = true
  · have : (l.findIdx? p).isSome := by rw [List.findIdx?_isSome, List.any_eq_true]; exact h
    obtain ⟨k, hk⟩ := Option.isSome_iff_exists.1 this
    simp only [fidx, hk, List.any_eq_true]
    constructor
    · intro _; exact h
    · intro _; omega
  · have h' : ∀ x ∈ l, p x = false := fun x hx => by
      cases hp : p x
      · rfl
      · exact absurd ⟨x, hx, hp⟩ h
    rw [fidx_none h', List.any_eq_true]
    constructor
    · intro h; omega
    · intro hh; exact absurd hh h
theorem index_ok (l : List Int) (n : Int) (hl : (l.length : Int) ≤ 4611686018427387904) : FnEq Try.prog 82 [.sl false 1 (ints l), .int n] (.int (fidx (fun x => decide (x = n)) l)) := by
  refine FnEq.of_awp Try.func82 ok82 (by show 2 ≤ _; decide) (by simp only [push_cast, reduceIte, Nat.reduceEqDiff, Nat.reduceAdd, Nat.reduceSub, Nat.reduceMul, Nat.reduceBEq, Nat.reduceLT, Nat.reduceLeDiff, reduceCtorEq, Int.reduceToNat, Int.reduceNeg] <;> first | exact fun _ _ => trivial | simp) ?_
  simp only [ac82, rv82, push_cast, reduceIte, Nat.reduceEqDiff, Nat.reduceAdd, Nat.reduceSub, Nat.reduceMul, Nat.reduceBEq, Nat.reduceLT, Nat.reduceLeDiff, reduceCtorEq, Int.reduceToNat, Int.reduceNeg]
  refine loop_of (fun m st => ∃ k : Nat, k ≤ l.length ∧ m = l.length - k ∧ (∀ x ∈ l.take k, decide (x = n) = false) ∧ st = ⟨[(0, .sl false 1 (ints l)), (1, .int n), (7, .int l.length), (8, .int k)], [], [], []⟩) l.length ?_ ?_
  · refine ⟨0, by omega, by omega, by simp, ?_⟩
    simp only [push_cast, reduceIte, Nat.reduceEqDiff, Nat.reduceAdd, Nat.reduceSub, Nat.reduceMul, Nat.reduceBEq, Nat.reduceLT, Nat.reduceLeDiff, reduceCtorEq, Int.reduceToNat, Int.reduceNeg]
  · rintro m st ⟨k, hk, rfl, hn, rfl⟩
    simp only [push_cast, reduceIte, Nat.reduceEqDiff, Nat.reduceAdd, Nat.reduceSub, Nat.reduceMul, Nat.reduceBEq, Nat.reduceLT, Nat.reduceLeDiff, reduceCtorEq, Int.reduceToNat, Int.reduceNeg]
    refine cond_dec (fun h => ⟨by omega, by omega, ?_⟩) fun h => ?_
    · have hk' : k < l.length := by omega
      have hg : l.getD k default = l[k] := by simp [hk']
      rw [hg]
      refine cond_dec (fun e => ?_) fun e => ⟨by omega, _, ?_, k + 1, by omega, rfl, ?_, ?_⟩
      · rw [fidx_some hk' hn (by simp [e])]
      · omega
      · intro x hx
        rw [List.take_succ_eq_append_getElem hk', List.mem_append, List.mem_singleton] at hx
        rcases hx with hx | rfl
        · exact hn x hx
        · simp [Ne.symm e]
      · simp
    · rw [List.take_of_length_le (by omega)] at hn; rw [fidx_none hn]
theorem contains_ok (l : List Int) (n : Int) (hl : (l.length : Int) ≤ 4611686018427387904) : FnEq Try.prog 64 [.sl false 1 (ints l), .int n] (.bool (decide (n ∈ l))) := by
  refine FnEq.of_awp Try.func64 ok64 (by show 2 ≤ _; decide) (by simp only [push_cast, reduceIte, Nat.reduceEqDiff, Nat.reduceAdd, Nat.reduceSub, Nat.reduceMul, Nat.reduceBEq, Nat.reduceLT, Nat.reduceLeDiff, reduceCtorEq, Int.reduceToNat, Int.reduceNeg] <;> first | exact fun _ _ => trivial | simp) ?_
  simp only [ac64, rv64, push_cast, reduceIte, Nat.reduceEqDiff, Nat.reduceAdd, Nat.reduceSub, Nat.reduceMul, Nat.reduceBEq, Nat.reduceLT, Nat.reduceLeDiff, reduceCtorEq, Int.reduceToNat, Int.reduceNeg]
  refine cal_sub (index_ok l n hl) (by simp only [push_cast, reduceIte, Nat.reduceEqDiff, Nat.reduceAdd, Nat.reduceSub, Nat.reduceMul, Nat.reduceBEq, Nat.reduceLT, Nat.reduceLeDiff, reduceCtorEq, Int.reduceToNat, Int.reduceNeg]) ?_
  simp only [push_cast, reduceIte, Nat.reduceEqDiff, Nat.reduceAdd, Nat.reduceSub, Nat.reduceMul, Nat.reduceBEq, Nat.reduceLT, Nat.reduceLeDiff, reduceCtorEq, Int.reduceToNat, Int.reduceNeg]
  have h := @fidx_nonneg (fun x => decide (x = n)) l
  simp [h]
theorem indexFunc_ok (l : List Int) (p : Int → Bool) (f : Nat) (caps : List PV) (hf : funOk Try.prog f = true) (hp : ∀ x ∈ l, FnEq Try.prog f (.int x :: caps) (.bool (p x))) (hl : (l.length : Int) ≤ 4611686018427387904) :
    FnEq Try.prog 78 [.sl false 1 (ints l), .pcl f caps] (.int (fidx p l)) := by
  refine FnEq.of_awp Try.func78 ok78 (by show 2 ≤ _; decide) (by simp only [push_cast, reduceIte, Nat.reduceEqDiff, Nat.reduceAdd, Nat.reduceSub, Nat.reduceMul, Nat.reduceBEq, Nat.reduceLT, Nat.reduceLeDiff, reduceCtorEq, Int.reduceToNat, Int.reduceNeg] <;> first | exact fun _ _ => trivial | simp) ?_
  simp only [ac78, rv78, push_cast, reduceIte, Nat.reduceEqDiff, Nat.reduceAdd, Nat.reduceSub, Nat.reduceMul, Nat.reduceBEq, Nat.reduceLT, Nat.reduceLeDiff, reduceCtorEq, Int.reduceToNat, Int.reduceNeg]
  refine loop_of (fun m st => ∃ k : Nat, k ≤ l.length ∧ m = l.length - k ∧ (∀ x ∈ l.take k, p x = false) ∧ st = ⟨[(0, .sl false 1 (ints l)), (1, .pcl f caps), (7, .int l.length), (8, .int k)], [], [], []⟩) l.length ?_ ?_
  · refine ⟨0, by omega, by omega, by simp, ?_⟩
    simp only [push_cast, reduceIte, Nat.reduceEqDiff, Nat.reduceAdd, Nat.reduceSub, Nat.reduceMul, Nat.reduceBEq, Nat.reduceLT, Nat.reduceLeDiff, reduceCtorEq, Int.reduceToNat, Int.reduceNeg]
  · rintro m st ⟨k, hk, rfl, hn, rfl⟩
    simp only [push_cast, reduceIte, Nat.reduceEqDiff, Nat.reduceAdd, Nat.reduceSub, Nat.reduceMul, Nat.reduceBEq, Nat.reduceLT, Nat.reduceLeDiff, reduceCtorEq, Int.reduceToNat, Int.reduceNeg]
    refine cond_dec (fun h => ⟨by omega, by omega, ?_⟩) fun h => ?_
    · have hk' : k < l.length := by omega
      have hg : l.getD k default = l[k] := by simp [hk']
      rw [hg]
      refine pcl_sub hf (hp _ (List.getElem_mem hk')) (by simp only [push_cast, reduceIte, Nat.reduceEqDiff, Nat.reduceAdd, Nat.reduceSub, Nat.reduceMul, Nat.reduceBEq, Nat.reduceLT, Nat.reduceLeDiff, reduceCtorEq, Int.reduceToNat, Int.reduceNeg]) ?_
      simp only [push_cast, reduceIte, Nat.reduceEqDiff, Nat.reduceAdd, Nat.reduceSub, Nat.reduceMul, Nat.reduceBEq, Nat.reduceLT, Nat.reduceLeDiff, reduceCtorEq, Int.reduceToNat, Int.reduceNeg]
      refine cond_of (fun e => ?_) fun e => ⟨by omega, _, ?_, k + 1, by omega, rfl, ?_, ?_⟩
      · rw [fidx_some hk' hn e]
      · omega
      · intro x hx
        rw [List.take_succ_eq_append_getElem hk', List.mem_append, List.mem_singleton] at hx
        rcases hx with hx | rfl
        · exact hn x hx
        · exact e
      · simp
    · rw [List.take_of_length_le (by omega)] at hn; rw [fidx_none hn]
theorem containsFunc_ok (l : List Int) (p : Int → Bool) (f : Nat) (caps : List PV) (hf : funOk Try.prog f = true) (hp : ∀ x ∈ l, FnEq Try.prog f (.int x :: caps) (.bool (p x))) (hl : (l.length : Int) ≤ 4611686018427387904) :
    FnEq Try.prog 54 [.sl false 1 (ints l), .pcl f caps] (.bool (l.any p)) := by
  refine FnEq.of_awp Try.func54 ok54 (by show 2 ≤ _; decide) (by simp only [push_cast, reduceIte, Nat.reduceEqDiff, Nat.reduceAdd, Nat.reduceSub, Nat.reduceMul, Nat.reduceBEq, Nat.reduceLT, Nat.reduceLeDiff, reduceCtorEq, Int.reduceToNat, Int.reduceNeg] <;> first | exact fun _ _ => trivial | simp) ?_
  simp only [ac54, rv54, push_cast, reduceIte, Nat.reduceEqDiff, Nat.reduceAdd, Nat.reduceSub, Nat.reduceMul, Nat.reduceBEq, Nat.reduceLT, Nat.reduceLeDiff, reduceCtorEq, Int.reduceToNat, Int.reduceNeg]
  refine cal_sub (indexFunc_ok l p f caps hf hp hl) (by simp only [push_cast, reduceIte, Nat.reduceEqDiff, Nat.reduceAdd, Nat.reduceSub, Nat.reduceMul, Nat.reduceBEq, Nat.reduceLT, Nat.reduceLeDiff, reduceCtorEq, Int.reduceToNat, Int.reduceNeg]) ?_
  simp only [push_cast, reduceIte, Nat.reduceEqDiff, Nat.reduceAdd, Nat.reduceSub, Nat.reduceMul, Nat.reduceBEq, Nat.reduceLT, Nat.reduceLeDiff, reduceCtorEq, Int.reduceToNat, Int.reduceNeg]
  have h := @fidx_nonneg p l
  congr 2
  rw [Bool.eq_iff_iff, decide_eq_true_iff, h]
def pinB (b : Block) (first n : Int) : Bool := decide (n = first ∨ (n = first + 1 ∧ b.reg ≠ -1) ∨ (first + 2 ≤ n ∧ n < first + 2 + b.ins.length))
theorem wrap_i64 (x : Int) : IntKind.wrap .i64 x = if x % 18446744073709551616 ≥ 9223372036854775808 then x % 18446744073709551616 - 18446744073709551616 else x % 18446744073709551616 := by
  unfold IntKind.wrap
  have h1 : (2 ^ IntKind.i64.bits : Int) = 18446744073709551616 := by decide
  have h2 : (2 ^ (IntKind.i64.bits - 1) : Int) = 9223372036854775808 := by decide
  have h3 : IntKind.i64.signed = true := rfl
  simp only [h1, h2, h3, Bool.true_and, decide_eq_true_eq]
theorem pin_ok (b : Block) (first n : Int) (hb : (b.ins.length : Int) ≤ 1000000) (hf : 0 ≤ first ∧ first ≤ 1000000000000) (hn : -9223372036854775808 ≤ n ∧ n ≤ 9223372036854775807) :
    FnEq Try.prog 65 [.int n, .iptr false [.int first] 0, .iptr false (blockC false b) 0] (.bool (pinB b first n)) := by
  refine FnEq.of_awp Try.func65 ok65 (by show 3 ≤ _; decide) (by simp only [push_cast, reduceIte, Nat.reduceEqDiff, Nat.reduceAdd, Nat.reduceSub, Nat.reduceMul, Nat.reduceBEq, Nat.reduceLT, Nat.reduceLeDiff, reduceCtorEq, Int.reduceToNat, Int.reduceNeg] <;> first | exact fun _ _ => trivial | simp) ?_
  simp only [ac65, rv65, push_cast, reduceIte, Nat.reduceEqDiff, Nat.reduceAdd, Nat.reduceSub, Nat.reduceMul, Nat.reduceBEq, Nat.reduceLT, Nat.reduceLeDiff, reduceCtorEq, Int.reduceToNat, Int.reduceNeg]
  have hlen : 0 ≤ (b.ins.length : Int) := by omega
  rw [wrap_i64]
  generalize hk : (if (n - first) % 18446744073709551616 ≥ 9223372036854775808 then (n - first) % 18446744073709551616 - 18446744073709551616 else (n - first) % 18446744073709551616) = k
  have hk' : (n - first < -9223372036854775808 ∧ k = n - first + 18446744073709551616) ∨ (-9223372036854775808 ≤ n - first ∧ k = n - first) := by omega
  clear hk
  have e1 : n = first ↔ k = 0 := by omega
  have e2 : n = first + 1 ↔ k = 1 := by omega
  have e3 : (first + 2 ≤ n ∧ n < first + 2 + b.ins.length) ↔ (2 ≤ k ∧ k < 2 + b.ins.length) := by omega
  have hp : pinB b first n = decide (k = 0 ∨ (k = 1 ∧ b.reg ≠ -1) ∨ (2 ≤ k ∧ k < 2 + b.ins.length)) := by unfold pinB; rw [decide_eq_decide, e1, e2, e3]
  rw [hp]
  have hw : IntKind.wrap .i64 (2 + (b.ins.length : Int)) = 2 + b.ins.length := by rw [wrap_i64]; omega
  (repeat' (first | (refine grd_dec rfl (fun _ => ?_) fun _ => ?_ <;> simp only [push_cast, reduceIte, Nat.reduceEqDiff, Nat.reduceAdd, Nat.reduceSub, Nat.reduceMul, Nat.reduceBEq, Nat.reduceLT, Nat.reduceLeDiff, reduceCtorEq, Int.reduceToNat, Int.reduceNeg]) | (refine grd_decf rfl (fun _ => ?_) fun _ => ?_ <;> simp only [push_cast, reduceIte, Nat.reduceEqDiff, Nat.reduceAdd, Nat.reduceSub, Nat.reduceMul, Nat.reduceBEq, Nat.reduceLT, Nat.reduceLeDiff, reduceCtorEq, Int.reduceToNat, Int.reduceNeg])))
  all_goals try rw [hw]
  all_goals (refine congrArg Value.bool ?_; first | rfl | (rw [decide_eq_decide]; omega) | (rw [eq_comm, decide_eq_true_iff]; omega) | (rw [eq_comm, decide_eq_false_iff_not]; omega) | (simp [*]; done))
theorem pins_any (b : Block) (first : Int) (l : List Int) : l.any (pinB b first) = true ↔ (first ∈ l ∨ (b.reg ≠ -1 ∧ first + 1 ∈ l)) ∨ ¬ ∀ i : Nat, i < b.ins.length → first + 2 + i ∉ l := by
  rw [List.any_eq_true]
  constructor
  · rintro ⟨n, hn, hp⟩
    simp only [pinB, decide_eq_true_eq] at hp
    rcases hp with rfl | ⟨rfl, h⟩ | ⟨h1, h2⟩
    · exact .inl (.inl hn)
    · exact .inl (.inr ⟨h, hn⟩)
    · refine .inr fun h => h (n - first - 2).toNat (by omega) ?_
      have : first + 2 + ((n - first - 2).toNat : Int) = n := by omega
      rw [this]; exact hn
  · rintro ((h | ⟨h1, h2⟩) | h)
    · exact ⟨_, h, by simp [pinB]⟩
    · exact ⟨_, h2, by simp [pinB, h1]⟩
    · have ⟨i, hi⟩ := Classical.not_forall.1 h
      have ⟨h1, h2⟩ := Classical.not_imp.1 hi
      exact ⟨_, Classical.not_not.1 h2, by simp only [pinB, decide_eq_true_eq]; omega⟩
theorem psuits_ok (j : Job) (hj : j.Ok) (block tile : Int) : FnEq Try.prog 37 [.agg (jobC false j), .int block, .int tile] (.bool (suitsR j block tile)) := by
  refine FnEq.of_awp Try.func37 ok37 (by show 3 ≤ _; decide) (by simp only [push_cast, reduceIte, Nat.reduceEqDiff, Nat.reduceAdd, Nat.reduceSub, Nat.reduceMul, Nat.reduceBEq, Nat.reduceLT, Nat.reduceLeDiff, reduceCtorEq, Int.reduceToNat, Int.reduceNeg] <;> first | exact fun _ _ => trivial | simp) ?_
  simp only [ac37, rv37, push_cast, reduceIte, Nat.reduceEqDiff, Nat.reduceAdd, Nat.reduceSub, Nat.reduceMul, Nat.reduceBEq, Nat.reduceLT, Nat.reduceLeDiff, reduceCtorEq, Int.reduceToNat, Int.reduceNeg]
  refine cut_of ⟨[(1, .int block), (2, .int tile), (3, .ptr 3 0), (31, .bool (decide (block < 0 ∨ (j.p.blocks.length : Int) ≤ block ∨ tile < 0 ∨ j.g.w * j.g.h ≤ tile)))], [(3, jobC false j)], [], []⟩ ?_ ?_
  · have hk := hj.kind
    (repeat' (first | (refine grd_dec rfl (fun _ => ?_) fun _ => ?_ <;> simp only [push_cast, reduceIte, Nat.reduceEqDiff, Nat.reduceAdd, Nat.reduceSub, Nat.reduceMul, Nat.reduceBEq, Nat.reduceLT, Nat.reduceLeDiff, reduceCtorEq, Int.reduceToNat, Int.reduceNeg]) | (refine grd_decf rfl (fun _ => ?_) fun _ => ?_ <;> simp only [push_cast, reduceIte, Nat.reduceEqDiff, Nat.reduceAdd, Nat.reduceSub, Nat.reduceMul, Nat.reduceBEq, Nat.reduceLT, Nat.reduceLeDiff, reduceCtorEq, Int.reduceToNat, Int.reduceNeg])))
    all_goals first | rfl | simp [*] | done
  simp only [push_cast, reduceIte, Nat.reduceEqDiff, Nat.reduceAdd, Nat.reduceSub, Nat.reduceMul, Nat.reduceBEq, Nat.reduceLT, Nat.reduceLeDiff, reduceCtorEq, Int.reduceToNat, Int.reduceNeg]
  refine cond_dec (fun h => ?_) fun h => ?_
  · rw [suitsR, if_pos h]
  have hk := hj.kind
  rw [suitsR, if_neg h]
  refine ⟨by omega, by omega, by omega, by omega, ?_⟩
  have hbm : j.p.blocks.getD block.toNat default ∈ j.p.blocks := by
    have : block.toNat < j.p.blocks.length := by omega
    simp [List.getD_eq_getElem?_getD, this]
  have hbi := hj.nin _ hbm
  generalize j.p.blocks.getD block.toNat default = b at hbi ⊢
  generalize j.g.kind.getD tile.toNat default = k
  have hcall := contains_ok j.bad.tiles tile (by have := hj.tiles; omega)
  refine cut_of ⟨[(2, .int tile), (3, .ptr 3 0), (7, .ptr 7 0), (61, .bool (decide (k = 0 ∨ (b.ram ≠ -1 ∧ k ≠ 2) ∨ tile ∈ j.bad.tiles)))], [(3, jobC false j), (7, blockC false b)], [], []⟩ ?_ ?_
  · refine grd_decf rfl (fun h1 => ?_) fun h1 => ?_ <;> simp only [push_cast, reduceIte, Nat.reduceEqDiff, Nat.reduceAdd, Nat.reduceSub, Nat.reduceMul, Nat.reduceBEq, Nat.reduceLT, Nat.reduceLeDiff, reduceCtorEq, Int.reduceToNat, Int.reduceNeg]
    · simp [h1]
    refine grd_dec rfl (fun h2 => ?_) fun h2 => ?_ <;> simp only [push_cast, reduceIte, Nat.reduceEqDiff, Nat.reduceAdd, Nat.reduceSub, Nat.reduceMul, Nat.reduceBEq, Nat.reduceLT, Nat.reduceLeDiff, reduceCtorEq, Int.reduceToNat, Int.reduceNeg]
    · refine grd_decf rfl (fun h3 => ?_) fun h3 => ?_ <;> simp only [push_cast, reduceIte, Nat.reduceEqDiff, Nat.reduceAdd, Nat.reduceSub, Nat.reduceMul, Nat.reduceBEq, Nat.reduceLT, Nat.reduceLeDiff, reduceCtorEq, Int.reduceToNat, Int.reduceNeg]
      · simp [h1, h2, h3]
      · refine cal_sub hcall (by simp only [push_cast, reduceIte, Nat.reduceEqDiff, Nat.reduceAdd, Nat.reduceSub, Nat.reduceMul, Nat.reduceBEq, Nat.reduceLT, Nat.reduceLeDiff, reduceCtorEq, Int.reduceToNat, Int.reduceNeg]) ?_
        simp only [push_cast, reduceIte, Nat.reduceEqDiff, Nat.reduceAdd, Nat.reduceSub, Nat.reduceMul, Nat.reduceBEq, Nat.reduceLT, Nat.reduceLeDiff, reduceCtorEq, Int.reduceToNat, Int.reduceNeg]
        simp [h1, h3]
    · refine cal_sub hcall (by simp only [push_cast, reduceIte, Nat.reduceEqDiff, Nat.reduceAdd, Nat.reduceSub, Nat.reduceMul, Nat.reduceBEq, Nat.reduceLT, Nat.reduceLeDiff, reduceCtorEq, Int.reduceToNat, Int.reduceNeg]) ?_
      simp only [push_cast, reduceIte, Nat.reduceEqDiff, Nat.reduceAdd, Nat.reduceSub, Nat.reduceMul, Nat.reduceBEq, Nat.reduceLT, Nat.reduceLeDiff, reduceCtorEq, Int.reduceToNat, Int.reduceNeg]
      simp [h1, h2]
  simp only [push_cast, reduceIte, Nat.reduceEqDiff, Nat.reduceAdd, Nat.reduceSub, Nat.reduceMul, Nat.reduceBEq, Nat.reduceLT, Nat.reduceLeDiff, reduceCtorEq, Int.reduceToNat, Int.reduceNeg]
  refine cond_dec (fun h1 => ?_) fun h1 => ?_
  · simp [h1]
  rw [if_neg h1]
  have htr := hj.tr
  have hwh := hj.wh
  have hmul : 0 ≤ tile * (6 + 2 * j.g.tracks) ∧ tile * (6 + 2 * j.g.tracks) ≤ 1000000 * 2006 :=
    ⟨Int.mul_nonneg (by omega) (by omega), Int.mul_le_mul (by omega) (by omega) (by omega) (by omega)⟩
  generalize hf : tile * (6 + 2 * j.g.tracks) = first at hmul ⊢
  refine ⟨by omega, by omega, by omega, ?_⟩
  have hno := hj.nodes
  refine cal_sub (containsFunc_ok j.bad.nodes (pinB b first) 65 [.iptr false [.int first] 0, .iptr false (blockC false b) 0] (by kernel_rfl) (fun x hx => pin_ok b first x (by omega) (by omega) (hj.nr x hx)) (by omega)) (by simp only [push_cast, reduceIte, Nat.reduceEqDiff, Nat.reduceAdd, Nat.reduceSub, Nat.reduceMul, Nat.reduceBEq, Nat.reduceLT, Nat.reduceLeDiff, reduceCtorEq, Int.reduceToNat, Int.reduceNeg]) ?_
  simp only [push_cast, reduceIte, Nat.reduceEqDiff, Nat.reduceAdd, Nat.reduceSub, Nat.reduceMul, Nat.reduceBEq, Nat.reduceLT, Nat.reduceLeDiff, reduceCtorEq, Int.reduceToNat, Int.reduceNeg]
  refine congrArg Value.bool ?_
  have h2 := pins_any b first j.bad.nodes
  by_cases h3 : first ∈ j.bad.nodes ∨ (b.reg ≠ -1 ∧ first + 1 ∈ j.bad.nodes)
  · rw [if_pos h3, h2.2 (.inl h3)]; rfl
  · rw [if_neg h3]
    by_cases h4 : ∀ i : Nat, i < b.ins.length → first + 2 + i ∉ j.bad.nodes
    · rw [decide_eq_true h4, Bool.not_eq_true', ← Bool.not_eq_true, h2]
      exact fun h => h.elim h3 fun h => h h4
    · rw [decide_eq_false h4, h2.2 (.inr h4)]; rfl
end Go.Proofs.Ytbdamnfkgdbidaa
namespace Go.Proofs.Ytbdamnfkgdbidaa
open Go Go.Vc Txt
def Fits (j : Job) : Prop := (j.p.ins.length : Int) ≤ j.g.pads ∧ (j.p.out.length : Int) ≤ j.g.pads
instance (j : Job) : Decidable (Fits j) := by unfold Fits; infer_instance
def IsPl (j : Job) (at_ : List Int) : Prop := at_.length = j.p.blocks.length ∧ (∀ x ∈ at_, 0 ≤ x ∧ x < j.g.w * j.g.h) ∧ at_.Nodup
instance (j : Job) (at_ : List Int) : Decidable (IsPl j at_) := by unfold IsPl; infer_instance
theorem pfits_ok (j : Job) (h1 : j.p.ins.length ≤ 1000000) (h2 : j.p.out.length ≤ 1000000) : FnEq Try.prog 66 [.agg (jobC false j)] (.bool (decide (Fits j))) := by
  refine FnEq.of_awp Try.func66 ok66 (by show 1 ≤ _; decide) (by simp only [push_cast, reduceIte, Nat.reduceEqDiff, Nat.reduceAdd, Nat.reduceSub, Nat.reduceMul, Nat.reduceBEq, Nat.reduceLT, Nat.reduceLeDiff, reduceCtorEq, Int.reduceToNat, Int.reduceNeg] <;> first | exact fun _ _ => trivial | simp) ?_
  simp only [ac66, rv66, push_cast, reduceIte, Nat.reduceEqDiff, Nat.reduceAdd, Nat.reduceSub, Nat.reduceMul, Nat.reduceBEq, Nat.reduceLT, Nat.reduceLeDiff, reduceCtorEq, Int.reduceToNat, Int.reduceNeg]
  refine congrArg Value.bool (decide_eq_decide.2 ?_)
  unfold Fits
  omega
theorem placed_ok (j : Job) (hj : j.Ok) (at_ : List Int) (hl : (at_.length : Int) ≤ 1000000) :
    FnEq Try.prog 67 [.agg (jobC false j), .sl false 1 (ints at_)] (.bool (decide (IsPl j at_))) := by
  refine FnEq.of_awp Try.func67 ok67 (by show 2 ≤ _; decide) (by simp only [push_cast, reduceIte, Nat.reduceEqDiff, Nat.reduceAdd, Nat.reduceSub, Nat.reduceMul, Nat.reduceBEq, Nat.reduceLT, Nat.reduceLeDiff, reduceCtorEq, Int.reduceToNat, Int.reduceNeg] <;> first | exact fun _ _ => trivial | simp) ?_
  simp only [ac67, rv67, push_cast, reduceIte, Nat.reduceEqDiff, Nat.reduceAdd, Nat.reduceSub, Nat.reduceMul, Nat.reduceBEq, Nat.reduceLT, Nat.reduceLeDiff, reduceCtorEq, Int.reduceToNat, Int.reduceNeg]
  have hk := hj.kind
  have hwh := hj.wh
  refine ⟨⟨by omega, by omega, by omega, by omega⟩, ?_⟩
  refine loop_of (fun m st => ∃ k : Nat, k ≤ at_.length ∧ m = at_.length - k ∧ (∀ x ∈ at_.take k, 0 ≤ x ∧ x < j.g.w * j.g.h) ∧ (at_.take k).Nodup ∧
    ∃ u : List Bool, u.length = j.g.kind.length ∧ (∀ i : Nat, i < u.length → u.getD i default = decide ((i : Int) ∈ at_.take k)) ∧
    st = ⟨[(1, .sl false 1 (ints at_)), (2, .ptr 2 0), (5, .view 12 0 u.length), (13, .sl false 1 (ints at_)), (14, .int at_.length), (15, .int k)], [(2, jobC false j)], [(12, ⟨1, 4, rows boolC u⟩)], []⟩) at_.length ?_ ?_
  · refine ⟨0, by omega, by omega, by simp, by simp, List.replicate j.g.kind.length false, by simp, fun i hi => by simp at hi ⊢; rw [List.getElem?_replicate, if_pos hi]; rfl, ?_⟩
    simp only [push_cast, reduceIte, Nat.reduceEqDiff, Nat.reduceAdd, Nat.reduceSub, Nat.reduceMul, Nat.reduceBEq, Nat.reduceLT, Nat.reduceLeDiff, reduceCtorEq, Int.reduceToNat, Int.reduceNeg, List.length_replicate]
  · rintro m st ⟨k, hk, rfl, h1, h2, u, h3, h4, rfl⟩
    simp only [push_cast, reduceIte, Nat.reduceEqDiff, Nat.reduceAdd, Nat.reduceSub, Nat.reduceMul, Nat.reduceBEq, Nat.reduceLT, Nat.reduceLeDiff, reduceCtorEq, Int.reduceToNat, Int.reduceNeg]
    refine cond_dec (fun h => ⟨by omega, by omega, ?_⟩) fun h => ?_
    · have hk' : k < at_.length := by omega
      have hg : at_.getD k default = at_[k] := by simp [hk']
      rw [hg]
      generalize hx : at_[k] = x
      refine cut_of ⟨[(1, .sl false 1 (ints at_)), (2, .ptr 2 0), (5, .view 12 0 u.length), (7, .int x), (13, .sl false 1 (ints at_)), (14, .int at_.length), (15, .int k), (32, .bool (decide (x < 0 ∨ j.g.w * j.g.h ≤ x ∨ x ∈ at_.take k)))], [(2, jobC false j)], [(12, ⟨1, 4, rows boolC u⟩)], []⟩ ?_ ?_
      · refine grd_decf rfl (fun h5 => ?_) fun h5 => ?_ <;> simp only [push_cast, reduceIte, Nat.reduceEqDiff, Nat.reduceAdd, Nat.reduceSub, Nat.reduceMul, Nat.reduceBEq, Nat.reduceLT, Nat.reduceLeDiff, reduceCtorEq, Int.reduceToNat, Int.reduceNeg]
        · simp [h5]
        refine grd_decf rfl (fun h6 => ?_) fun h6 => ?_ <;> simp only [push_cast, reduceIte, Nat.reduceEqDiff, Nat.reduceAdd, Nat.reduceSub, Nat.reduceMul, Nat.reduceBEq, Nat.reduceLT, Nat.reduceLeDiff, reduceCtorEq, Int.reduceToNat, Int.reduceNeg]
        · have : j.g.w * j.g.h ≤ x := by omega
          simp [this]
        have h7 : x.toNat < u.length := by omega
        refine ⟨⟨by omega, by omega⟩, by omega, ?_⟩
        rw [h4 _ h7, Int.toNat_of_nonneg (by omega)]
        have : ¬ j.g.w * j.g.h ≤ x := by omega
        simp [h5, this]
      simp only [push_cast, reduceIte, Nat.reduceEqDiff, Nat.reduceAdd, Nat.reduceSub, Nat.reduceMul, Nat.reduceBEq, Nat.reduceLT, Nat.reduceLeDiff, reduceCtorEq, Int.reduceToNat, Int.reduceNeg]
      refine cond_dec (fun h5 => ?_) fun h5 => ?_
      · rw [decide_eq_false]; intro hh
        rcases h5 with h5 | h5 | h5
        · have := hh.2.1 at_[k] (List.getElem_mem hk'); omega
        · have := hh.2.1 at_[k] (List.getElem_mem hk'); omega
        · have := (nodup_snoc hk').1 (hh.2.2.sublist (List.take_sublist _ _))
          rw [hx] at this
          exact this.2 h5
      have h6 : ¬ x < 0 ∧ ¬ j.g.w * j.g.h ≤ x ∧ x ∉ at_.take k := ⟨fun h => h5 (.inl h), fun h => h5 (.inr (.inl h)), fun h => h5 (.inr (.inr h))⟩
      refine ⟨⟨by omega, by omega⟩, by omega, ⟨by omega, by omega⟩, _, ?_, k + 1, by omega, rfl, ?_, (nodup_snoc hk').2 ⟨h2, by rw [hx]; exact h6.2.2⟩, u.set x.toNat true, by simpa using h3, fun i hi => ?_, ?_⟩
      · omega
      · intro y hy
        rw [List.take_succ_eq_append_getElem hk', List.mem_append, List.mem_singleton] at hy
        rcases hy with hy | rfl
        · exact h1 y hy
        · omega
      · rw [List.length_set] at hi
        have h8 := h4 i hi
        rw [List.take_succ_eq_append_getElem hk', hx]
        simp only [List.getD_eq_getElem?_getD, List.getElem?_set] at h8 ⊢
        by_cases e : x.toNat = i
        · have e2 : (i : Int) = x := by omega
          rw [if_pos e, if_pos (by omega), Option.getD_some, eq_comm, decide_eq_true_iff]
          simp [e2]
        · have e2 : ¬ (i : Int) = x := by omega
          rw [if_neg e, h8, decide_eq_decide]
          simp [e2]
      · simp
    · refine congrArg Value.bool (decide_eq_decide.2 ?_)
      rw [List.take_of_length_le (by omega)] at h1 h2
      exact ⟨fun h => ⟨by omega, h1, h2⟩, fun h => by have := h.1; omega⟩
theorem spot_ok (j : Job) (tile : Int) (ht : 0 ≤ tile ∧ tile ≤ 9223372036854775807) (hw : 0 < j.g.w) : FnEq Try.prog 91 [.agg (jobC false j), .int tile] (.agg [.int (tile % j.g.w), .int (tile / j.g.w)]) := by
  refine FnEq.of_awp Try.func91 ok91 (by show 2 ≤ _; decide) (by simp only [push_cast, reduceIte, Nat.reduceEqDiff, Nat.reduceAdd, Nat.reduceSub, Nat.reduceMul, Nat.reduceBEq, Nat.reduceLT, Nat.reduceLeDiff, reduceCtorEq, Int.reduceToNat, Int.reduceNeg] <;> first | exact fun _ _ => trivial | simp) ?_
  simp only [ac91, rv91, push_cast, reduceIte, Nat.reduceEqDiff, Nat.reduceAdd, Nat.reduceSub, Nat.reduceMul, Nat.reduceBEq, Nat.reduceLT, Nat.reduceLeDiff, reduceCtorEq, Int.reduceToNat, Int.reduceNeg]
  exact ⟨ht.1, ht.2, hw⟩
end Go.Proofs.Ytbdamnfkgdbidaa
namespace Go.Proofs.Ytbdamnfkgdbidaa
open Go Go.Vc Txt
def spotF (j : Job) (t : Int) : Int × Int := (t % j.g.w, t / j.g.w)
def srcF (j : Job) (at_ : List Int) (s : Int) : Int × Int := if (j.p.ins.length : Int) ≤ s then spotF j (at_.getD ((s - j.p.ins.length) / 2).toNat default) else (-1, s % j.g.h)
def pairC (p : Int × Int) : PV := .agg [.int p.1, .int p.2]
@[push_cast] theorem pairC_eq (p : Int × Int) : pairC p = .agg [.int p.1, .int p.2] := rfl
theorem isPl_get {j : Job} {at_ : List Int} (h : IsPl j at_) {k : Nat} (hk : k < j.p.blocks.length) : k < at_.length ∧ 0 ≤ at_.getD k default ∧ at_.getD k default < j.g.w * j.g.h := by
  have hk' : k < at_.length := by rw [h.1]; exact hk
  have := h.2.1 at_[k] (List.getElem_mem hk')
  rw [show at_.getD k default = at_[k] from by simp [hk']]
  exact ⟨hk', this⟩
theorem source_ok (j : Job) (hj : j.Ok) (at_ : List Int) (hp : IsPl j at_) (s : Int) (hs : 0 ≤ s ∧ s < j.p.ins.length + 2 * j.p.blocks.length) :
    FnEq Try.prog 84 [.agg (jobC false j), .sl false 1 (ints at_), .int s] (pairC (srcF j at_ s)) := by
  refine FnEq.of_awp Try.func84 ok84 (by show 3 ≤ _; decide) (by simp only [push_cast, reduceIte, Nat.reduceEqDiff, Nat.reduceAdd, Nat.reduceSub, Nat.reduceMul, Nat.reduceBEq, Nat.reduceLT, Nat.reduceLeDiff, reduceCtorEq, Int.reduceToNat, Int.reduceNeg] <;> first | exact fun _ _ => trivial | simp) ?_
  simp only [ac84, rv84, push_cast, reduceIte, Nat.reduceEqDiff, Nat.reduceAdd, Nat.reduceSub, Nat.reduceMul, Nat.reduceBEq, Nat.reduceLT, Nat.reduceLeDiff, reduceCtorEq, Int.reduceToNat, Int.reduceNeg]
  have h1 := hj.ins
  have h2 := hj.nb
  have h3 := hj.wh
  refine ⟨by omega, ?_⟩
  refine cond_dec (fun h => ?_) fun h => ?_
  · have hk : ((s - j.p.ins.length) / 2).toNat < j.p.blocks.length := by omega
    obtain ⟨k1, k2, k3⟩ := isPl_get hp hk
    have h4 := hj.w
    refine ⟨⟨by omega, by omega, by omega⟩, ⟨by omega, by omega⟩, k1, ?_⟩
    refine cal_sub (spot_ok j _ ⟨k2, by omega⟩ h4.1) (by simp only [push_cast, reduceIte, Nat.reduceEqDiff, Nat.reduceAdd, Nat.reduceSub, Nat.reduceMul, Nat.reduceBEq, Nat.reduceLT, Nat.reduceLeDiff, reduceCtorEq, Int.reduceToNat, Int.reduceNeg]) ?_
    simp only [push_cast, reduceIte, Nat.reduceEqDiff, Nat.reduceAdd, Nat.reduceSub, Nat.reduceMul, Nat.reduceBEq, Nat.reduceLT, Nat.reduceLeDiff, reduceCtorEq, Int.reduceToNat, Int.reduceNeg]
    rw [srcF, if_pos (by omega)]
    simp only [spotF, push_cast, reduceIte, Nat.reduceEqDiff, Nat.reduceAdd, Nat.reduceSub, Nat.reduceMul, Nat.reduceBEq, Nat.reduceLT, Nat.reduceLeDiff, reduceCtorEq, Int.reduceToNat, Int.reduceNeg]
  · have h4 := hj.h
    rw [srcF, if_neg (by omega)]
    refine ⟨⟨by omega, by omega, by omega⟩, ?_⟩
    simp only [push_cast, reduceIte, Nat.reduceEqDiff, Nat.reduceAdd, Nat.reduceSub, Nat.reduceMul, Nat.reduceBEq, Nat.reduceLT, Nat.reduceLeDiff, reduceCtorEq, Int.reduceToNat, Int.reduceNeg]
structure Ext where
  x0 : Int
  y0 : Int
  x1 : Int
  y1 : Int
  deriving DecidableEq, Inhabited
def extC (e : Ext) : PV := .agg [.int e.x0, .int e.y0, .int e.x1, .int e.y1]
@[push_cast] theorem extC_eq (e : Ext) : extC e = .agg [.int e.x0, .int e.y0, .int e.x1, .int e.y1] := rfl
abbrev EM := List (Int × Ext)
def entC (x : Int × Ext) : Value × PV := (.int .i64 x.1, extC x.2)
def emC (M : EM) : List (Value × PV) := M.map entC
def eget : EM → Int → Option Ext
  | [], _ => none
  | (k, v) :: r, x => if k = x then some v else eget r x
def eput : EM → Int → Ext → EM
  | [], x, v => [(x, v)]
  | (k, u) :: r, x, v => if k = x then (k, v) :: r else (k, u) :: eput r x v
theorem vEq_int (a b : Int) : vEq (.int .i64 a) (.int .i64 b) = decide (a = b) := by
  rw [Bool.eq_iff_iff]; simp [vEq]
theorem mget_em (M : EM) (s : Int) : mget (emC M) (.int .i64 s) = (eget M s).map extC := by
  induction M with
  | nil => rfl
  | cons x r ih =>
    obtain ⟨k, v⟩ := x
    simp only [emC, List.map_cons, entC, mget, eget, vEq_int, decide_eq_true_eq]
    split
    · rfl
    · exact ih
theorem mput_em (M : EM) (s : Int) (e : Ext) : mput (emC M) (.int .i64 s) (extC e) = emC (eput M s e) := by
  induction M with
  | nil => rfl
  | cons x r ih =>
    obtain ⟨k, v⟩ := x
    simp only [emC, List.map_cons, entC, mput, eput, vEq_int, decide_eq_true_eq]
    split
    · rfl
    · simp only [List.map_cons, entC]; exact congrArg _ ih
def extF (e : Ext) (p : Int × Int) : Ext := ⟨min e.x0 p.1, min e.y0 p.2, max e.x1 p.1, max e.y1 p.2⟩
def stepF (j : Job) (at_ : List Int) (M : EM) (c : Int × Int × Int) : EM :=
  let f := srcF j at_ c.1
  eput M c.1 (extF ((eget M c.1).getD ⟨f.1, f.2, f.1, f.2⟩) c.2)
end Go.Proofs.Ytbdamnfkgdbidaa
namespace Go.Proofs.Ytbdamnfkgdbidaa
open Go Go.Vc Txt
def connB (j : Job) (at_ : List Int) (k : Nat) : List (Int × Int × Int) := ((j.p.blocks.getD k default).ins).map fun s => (s, spotF j (at_.getD k default))
def connD (j : Job) (o : Nat) : Int × Int × Int := (j.p.drive.getD o default, (j.g.w, (o : Int) % j.g.h))
def connsB (j : Job) (at_ : List Int) (k : Nat) : List (Int × Int × Int) := (List.range k).flatMap (connB j at_)
def connsD (j : Job) (o : Nat) : List (Int × Int × Int) := (List.range o).map (connD j)
def conns (j : Job) (at_ : List Int) : List (Int × Int × Int) := connsB j at_ j.p.blocks.length ++ connsD j j.p.drive.length
def foldF (j : Job) (at_ : List Int) (l : List (Int × Int × Int)) : EM := l.foldl (stepF j at_) []
def stE (j : Job) (at_ : List Int) (t : List (Nat × PV)) (M : EM) : St :=
  ⟨(2, .ptr 2 0) :: (3, .ptr 3 0) :: (5, .ptr 5 0) :: (19, .clo 90 [102, 103]) :: t, [(2, jobC false j), (3, [.sl false 1 (ints at_)]), (5, [.mp 16]), (102, jobC false j), (103, [.sl false 1 (ints at_)])], [], [(16, ⟨.int .i64, emC M, none⟩)]⟩
@[push_cast] theorem stE_eq (j : Job) (at_ : List Int) (t : List (Nat × PV)) (M : EM) : stE j at_ t M =
  ⟨(2, .ptr 2 0) :: (3, .ptr 3 0) :: (5, .ptr 5 0) :: (19, .clo 90 [102, 103]) :: t, [(2, jobC false j), (3, [.sl false 1 (ints at_)]), (5, [.mp 16]), (102, jobC false j), (103, [.sl false 1 (ints at_)])], [], [(16, ⟨.int .i64, emC M, none⟩)]⟩ := rfl
def t1 (j : Job) (at_ : List Int) (k : Nat) (b : Block) (i : Nat) : List (Nat × PV) :=
  [(200, .yl 999), (201, .ptr 102 0), (202, .ptr 103 0), (204, .int k), (207, .int (b.ins.getD i default)), (212, .sl false 5 (rows (blockC false) j.p.blocks)), (213, .int j.p.blocks.length), (214, .int k),
   (220, .sl false 1 (ints b.ins)), (221, .int b.ins.length), (222, .int i), (226, .yl 999), (227, .int (b.ins.getD i default)), (228, .agg (jobC false j)), (229, .sl false 1 (ints at_)), (230, .int k), (231, .iptr false ((ints at_).getD k []) 0), (232, .int (at_.getD k default)),
   (233, pairC (spotF j (at_.getD k default)))]
theorem t1_eq (j : Job) (at_ : List Int) (k : Nat) (b : Block) (i : Nat) : t1 j at_ k b i =
  [(200, .yl 999), (201, .ptr 102 0), (202, .ptr 103 0), (204, .int k), (207, .int (b.ins.getD i default)), (212, .sl false 5 (rows (blockC false) j.p.blocks)), (213, .int j.p.blocks.length), (214, .int k),
   (220, .sl false 1 (ints b.ins)), (221, .int b.ins.length), (222, .int i), (226, .yl 999), (227, .int (b.ins.getD i default)), (228, .agg (jobC false j)), (229, .sl false 1 (ints at_)), (230, .int k), (231, .iptr false ((ints at_).getD k []) 0), (232, .int (at_.getD k default)),
   (233, pairC (spotF j (at_.getD k default)))] := rfl
def t2 (j : Job) (o : Nat) : List (Nat × PV) :=
  [(200, .yl 999), (201, .ptr 102 0), (208, .int o), (209, .int (j.p.drive.getD o default)), (240, .sl false 1 (ints j.p.drive)), (241, .int j.p.drive.length), (242, .int o), (247, .yl 999), (248, .int (j.p.drive.getD o default)), (249, .ptr 102 4), (250, .ptr 102 4), (251, .int j.g.w), (252, .int o), (253, .ptr 102 4), (254, .ptr 102 5), (255, .int j.g.h), (256, .int ((o : Int) % j.g.h)),
   (257, .agg [.int j.g.w, .int ((o : Int) % j.g.h)])]
theorem t2_eq (j : Job) (o : Nat) : t2 j o =
  [(200, .yl 999), (201, .ptr 102 0), (208, .int o), (209, .int (j.p.drive.getD o default)), (240, .sl false 1 (ints j.p.drive)), (241, .int j.p.drive.length), (242, .int o), (247, .yl 999), (248, .int (j.p.drive.getD o default)), (249, .ptr 102 4), (250, .ptr 102 4), (251, .int j.g.w), (252, .int o), (253, .ptr 102 4), (254, .ptr 102 5), (255, .int j.g.h), (256, .int ((o : Int) % j.g.h)),
   (257, .agg [.int j.g.w, .int ((o : Int) % j.g.h)])] := rfl
theorem foldF_snoc (j : Job) (at_ : List Int) (l : List (Int × Int × Int)) (c : Int × Int × Int) : foldF j at_ (l ++ [c]) = stepF j at_ (foldF j at_ l) c := by simp [foldF]
theorem connsB_succ (j : Job) (at_ : List Int) (k : Nat) : connsB j at_ (k + 1) = connsB j at_ k ++ connB j at_ k := by simp [connsB, List.range_succ]
theorem connsD_succ (j : Job) (o : Nat) : connsD j (o + 1) = connsD j o ++ [connD j o] := by simp [connsD, List.range_succ]
theorem ends1_ok (E : Env) (hE : E.p = Try.prog) (hkk : E.kk ≤ 200) (j : Job) (hj : j.Ok) (at_ : List Int) (hp : IsPl j at_)
    (hY1 : ∀ (k i : Nat) (b : Block) (M : EM) (s : Int), 0 ≤ s → s < j.p.ins.length + 2 * j.p.blocks.length → s = b.ins.getD i default → E.Y 999 [.int s, pairC (spotF j (at_.getD k default))] (stE j at_ (t1 j at_ k b i) M) (fun st' => st' = stE j at_ (t1 j at_ k b i) (stepF j at_ M (s, spotF j (at_.getD k default)))))
    (hY2 : ∀ (o : Nat) (M : EM) (s : Int), 0 ≤ s → s < j.p.ins.length + 2 * j.p.blocks.length → s = j.p.drive.getD o default → E.Y 999 [.int s, pairC (j.g.w, (o : Int) % j.g.h)] (stE j at_ (t2 j o) M) (fun st' => st' = stE j at_ (t2 j o) (stepF j at_ M (s, (j.g.w, (o : Int) % j.g.h))))) :
    FnM E 90 [.yl 999, .ptr 102 0, .ptr 103 0] (stE j at_ [] []) (fun _ st' => st' = stE j at_ [] (foldF j at_ (conns j at_))) := by
  refine fnM_of 200 (by rw [hE]; exact Try.func90) (by rw [hE]; exact ok90_200) (by show 3 ≤ _; decide) rfl hkk ?_
  have h1 := hj.nb
  have hnd := hj.nd
  simp only [stE_eq, t1_eq, t2_eq, push_cast, reduceIte, Nat.reduceEqDiff, Nat.reduceAdd, Nat.reduceSub, Nat.reduceMul, Nat.reduceBEq, Nat.reduceLT, Nat.reduceLeDiff, reduceCtorEq, Int.reduceToNat, Int.reduceNeg] at hY1 hY2
  simp only [ac90_200, rv90_200, push_cast, reduceIte, Nat.reduceEqDiff, Nat.reduceAdd, Nat.reduceSub, Nat.reduceMul, Nat.reduceBEq, Nat.reduceLT, Nat.reduceLeDiff, reduceCtorEq, Int.reduceToNat, Int.reduceNeg]
  refine loop_of (fun m st => ∃ k : Nat, k ≤ j.p.blocks.length ∧ m = j.p.blocks.length - k ∧
    st = stE j at_ [(200, .yl 999), (201, .ptr 102 0), (202, .ptr 103 0), (212, .sl false 5 (rows (blockC false) j.p.blocks)), (213, .int j.p.blocks.length), (214, .int k)] (foldF j at_ (connsB j at_ k))) j.p.blocks.length ?_ ?_
  · refine ⟨0, by omega, by omega, ?_⟩
    simp only [push_cast, reduceIte, Nat.reduceEqDiff, Nat.reduceAdd, Nat.reduceSub, Nat.reduceMul, Nat.reduceBEq, Nat.reduceLT, Nat.reduceLeDiff, reduceCtorEq, Int.reduceToNat, Int.reduceNeg]
    rfl
  · rintro m st ⟨k, hk, rfl, rfl⟩
    simp only [push_cast, reduceIte, Nat.reduceEqDiff, Nat.reduceAdd, Nat.reduceSub, Nat.reduceMul, Nat.reduceBEq, Nat.reduceLT, Nat.reduceLeDiff, reduceCtorEq, Int.reduceToNat, Int.reduceNeg]
    refine cond_dec (fun h => ?_) fun h => ?_
    · have hk' : k < j.p.blocks.length := by omega
      obtain ⟨k1, k2, k3⟩ := isPl_get hp hk'
      refine ⟨⟨by omega, by omega⟩, hk', ?_⟩
      have hbm : j.p.blocks.getD k default ∈ j.p.blocks := by simp [List.getD_eq_getElem?_getD, hk']
      have hbi := hj.nin _ hbm
      have hsb := hj.sb _ hbm
      have hC : connB j at_ k = ((j.p.blocks.getD k default).ins).map fun s => (s, spotF j (at_.getD k default)) := rfl
      generalize j.p.blocks.getD k default = b at hbi hsb hC ⊢
      refine loop_of (fun m st => ∃ i : Nat, i ≤ b.ins.length ∧ m = b.ins.length - i ∧
        st = stE j at_ [(200, .yl 999), (201, .ptr 102 0), (202, .ptr 103 0), (204, .int k), (212, .sl false 5 (rows (blockC false) j.p.blocks)), (213, .int j.p.blocks.length), (214, .int k), (220, .sl false 1 (ints b.ins)), (221, .int b.ins.length), (222, .int i)] (foldF j at_ (connsB j at_ k ++ (connB j at_ k).take i))) b.ins.length ?_ ?_
      · refine ⟨0, by omega, by omega, ?_⟩
        rw [List.take_zero, List.append_nil]
        simp only [push_cast, reduceIte, Nat.reduceEqDiff, Nat.reduceAdd, Nat.reduceSub, Nat.reduceMul, Nat.reduceBEq, Nat.reduceLT, Nat.reduceLeDiff, reduceCtorEq, Int.reduceToNat, Int.reduceNeg]
      · rintro m st ⟨i, hi, rfl, rfl⟩
        simp only [push_cast, reduceIte, Nat.reduceEqDiff, Nat.reduceAdd, Nat.reduceSub, Nat.reduceMul, Nat.reduceBEq, Nat.reduceLT, Nat.reduceLeDiff, reduceCtorEq, Int.reduceToNat, Int.reduceNeg]
        refine cond_dec (fun h3 => ?_) fun h3 => ?_
        · have hi' : i < b.ins.length := by omega
          have hw := hj.w
          have hwh := hj.wh
          refine ⟨⟨by omega, by omega⟩, hi', ⟨by omega, by omega⟩, k1, ?_⟩
          refine dcal_sub (by rw [hE]; exact spot_ok j (at_.getD k default) ⟨k2, by omega⟩ hw.1) (by simp only [push_cast, reduceIte, Nat.reduceEqDiff, Nat.reduceAdd, Nat.reduceSub, Nat.reduceMul, Nat.reduceBEq, Nat.reduceLT, Nat.reduceLeDiff, reduceCtorEq, Int.reduceToNat, Int.reduceNeg]) (by simp only [push_cast, reduceIte, Nat.reduceEqDiff, Nat.reduceAdd, Nat.reduceSub, Nat.reduceMul, Nat.reduceBEq, Nat.reduceLT, Nat.reduceLeDiff, reduceCtorEq, Int.reduceToNat, Int.reduceNeg]) ?_
          simp only [push_cast, reduceIte, Nat.reduceEqDiff, Nat.reduceAdd, Nat.reduceSub, Nat.reduceMul, Nat.reduceBEq, Nat.reduceLT, Nat.reduceLeDiff, reduceCtorEq, Int.reduceToNat, Int.reduceNeg]
          have hs := hsb _ (show b.ins.getD i default ∈ b.ins by simp [List.getD_eq_getElem?_getD, hi'])
          refine ⟨_, hY1 k i b _ _ hs.1 hs.2 rfl, ?_⟩
          rintro _ rfl
          simp only [push_cast, reduceIte, Nat.reduceEqDiff, Nat.reduceAdd, Nat.reduceSub, Nat.reduceMul, Nat.reduceBEq, Nat.reduceLT, Nat.reduceLeDiff, reduceCtorEq, Int.reduceToNat, Int.reduceNeg]
          refine ⟨⟨by omega, by omega⟩, _, ?_, i + 1, by omega, rfl, ?_⟩
          · omega
          · have hi2 : i < (connB j at_ k).length := by rw [hC]; simpa using hi'
            rw [List.take_succ_eq_append_getElem hi2, ← List.append_assoc, foldF_snoc]
            simp only [hC, List.getElem_map]
            rw [show b.ins.getD i default = b.ins[i] by simp [hi']]
            simp
        · have hlen : (connB j at_ k).length = b.ins.length := by rw [hC]; simp
          rw [List.take_of_length_le (by omega)]
          refine ⟨⟨by omega, by omega⟩, _, ?_, k + 1, by omega, rfl, ?_⟩
          · omega
          · rw [connsB_succ]; simp
    · have hkk' : k = j.p.blocks.length := by omega
      subst hkk'
      refine loop_of (fun m st => ∃ o : Nat, o ≤ j.p.drive.length ∧ m = j.p.drive.length - o ∧
        st = stE j at_ [(200, .yl 999), (201, .ptr 102 0), (240, .sl false 1 (ints j.p.drive)), (241, .int j.p.drive.length), (242, .int o)] (foldF j at_ (connsB j at_ j.p.blocks.length ++ connsD j o))) j.p.drive.length ?_ ?_
      · refine ⟨0, by omega, by omega, ?_⟩
        rw [show connsD j 0 = [] from rfl, List.append_nil]
        simp only [push_cast, reduceIte, Nat.reduceEqDiff, Nat.reduceAdd, Nat.reduceSub, Nat.reduceMul, Nat.reduceBEq, Nat.reduceLT, Nat.reduceLeDiff, reduceCtorEq, Int.reduceToNat, Int.reduceNeg]
      · rintro m st ⟨o, ho, rfl, rfl⟩
        simp only [push_cast, reduceIte, Nat.reduceEqDiff, Nat.reduceAdd, Nat.reduceSub, Nat.reduceMul, Nat.reduceBEq, Nat.reduceLT, Nat.reduceLeDiff, reduceCtorEq, Int.reduceToNat, Int.reduceNeg]
        refine cond_dec (fun h3 => ?_) fun h3 => ?_
        · have ho' : o < j.p.drive.length := by omega
          have hw := hj.w
          have hh := hj.h
          have hs := hj.sd _ (show j.p.drive.getD o default ∈ j.p.drive by simp [List.getD_eq_getElem?_getD, ho'])
          refine ⟨⟨by omega, by omega⟩, ho', ⟨by omega, by omega, hh.1⟩, ?_⟩
          refine ⟨_, hY2 o _ _ hs.1 hs.2 rfl, ?_⟩
          rintro _ rfl
          simp only [push_cast, reduceIte, Nat.reduceEqDiff, Nat.reduceAdd, Nat.reduceSub, Nat.reduceMul, Nat.reduceBEq, Nat.reduceLT, Nat.reduceLeDiff, reduceCtorEq, Int.reduceToNat, Int.reduceNeg]
          refine ⟨⟨by omega, by omega⟩, _, ?_, o + 1, by omega, rfl, ?_⟩
          · omega
          · rw [connsD_succ, ← List.append_assoc, foldF_snoc]
            simp [connD]
        · have : o = j.p.drive.length := by omega
          subst this
          rw [conns]
end Go.Proofs.Ytbdamnfkgdbidaa
namespace Go.Proofs.Ytbdamnfkgdbidaa
open Go Go.Vc Txt
def stG (j : Job) (at_ : List Int) (t own : List (Nat × PV)) (e : Ext) (M : EM) : St :=
  ⟨(2, .ptr 2 0) :: (3, .ptr 3 0) :: (5, .ptr 5 0) :: (19, .clo 90 [102, 103]) :: (t ++ own), [(2, jobC false j), (3, [.sl false 1 (ints at_)]), (5, [.mp 16]), (102, jobC false j), (103, [.sl false 1 (ints at_)]), (1008, [.int e.x0, .int e.y0, .int e.x1, .int e.y1])], [], [(16, ⟨.int .i64, emC M, none⟩)]⟩
theorem stG_eq (j : Job) (at_ : List Int) (t own : List (Nat × PV)) (e : Ext) (M : EM) : stG j at_ t own e M =
  ⟨(2, .ptr 2 0) :: (3, .ptr 3 0) :: (5, .ptr 5 0) :: (19, .clo 90 [102, 103]) :: (t ++ own), [(2, jobC false j), (3, [.sl false 1 (ints at_)]), (5, [.mp 16]), (102, jobC false j), (103, [.sl false 1 (ints at_)]), (1008, [.int e.x0, .int e.y0, .int e.x1, .int e.y1])], [], [(16, ⟨.int .i64, emC M, none⟩)]⟩ := rfl
theorem ends_ok (E : Env) (hE : E.p = Try.prog) (hkk : E.kk ≤ 100) (j : Job) (at_ : List Int) :
    FnM E 83 [.agg (jobC false j), .sl false 1 (ints at_)] ⟨[(2, .ptr 2 0), (3, .ptr 3 0), (5, .ptr 5 0), (17, .agg (jobC false j)), (18, .sl false 1 (ints at_))], [(2, jobC false j), (3, [.sl false 1 (ints at_)]), (5, [.mp 16])], [], [(16, ⟨.int .i64, [], none⟩)]⟩
      (fun rv st' => rv = .clo 90 [102, 103] ∧ st' = ⟨[(2, .ptr 2 0), (3, .ptr 3 0), (5, .ptr 5 0), (17, .agg (jobC false j)), (18, .sl false 1 (ints at_))], [(2, jobC false j), (3, [.sl false 1 (ints at_)]), (5, [.mp 16]), (102, jobC false j), (103, [.sl false 1 (ints at_)])], [], [(16, ⟨.int .i64, [], none⟩)]⟩) := by
  refine fnM_of 100 (by rw [hE]; exact Try.func83) (by rw [hE]; exact ok83_100) (by show 2 ≤ _; decide) rfl hkk ?_
  simp only [ac83_100, rv83_100, push_cast, reduceIte, Nat.reduceEqDiff, Nat.reduceAdd, Nat.reduceSub, Nat.reduceMul, Nat.reduceBEq, Nat.reduceLT, Nat.reduceLeDiff, reduceCtorEq, Int.reduceToNat, Int.reduceNeg]
def extLen (e : Ext) : Int := e.x1 - e.x0 + e.y1 - e.y0
def emLen (M : EM) : Int := (M.map fun x => extLen x.2).sum
def costF (j : Job) (at_ : List Int) : Int := emLen (foldF j at_ (conns j at_))
def Bd (e : Ext) : Prop := (-1 ≤ e.x0 ∧ e.x0 ≤ 1000000) ∧ (-1 ≤ e.y0 ∧ e.y0 ≤ 1000000) ∧ (-1 ≤ e.x1 ∧ e.x1 ≤ 1000000) ∧ (-1 ≤ e.y1 ∧ e.y1 ≤ 1000000)
def BdP (p : Int × Int) : Prop := (-1 ≤ p.1 ∧ p.1 ≤ 1000000) ∧ (-1 ≤ p.2 ∧ p.2 ≤ 1000000)
theorem spotF_bd {j : Job} (hj : j.Ok) {t : Int} (h : 0 ≤ t ∧ t < j.g.w * j.g.h) : BdP (spotF j t) := by
  have hw := hj.w
  have hh := hj.h
  have h1 := Int.emod_nonneg t (show j.g.w ≠ 0 by omega)
  have h2 := Int.emod_lt_of_pos t hw.1
  have h3 : 0 ≤ t / j.g.w := Int.ediv_nonneg h.1 (by omega)
  have h4 : t / j.g.w < j.g.h := by
    rw [Int.ediv_lt_iff_lt_mul hw.1, Int.mul_comm]; exact h.2
  exact ⟨⟨by show -1 ≤ t % j.g.w; omega, by show t % j.g.w ≤ _; omega⟩, ⟨by show -1 ≤ t / j.g.w; omega, by show t / j.g.w ≤ _; omega⟩⟩
theorem srcF_bd {j : Job} (hj : j.Ok) {at_ : List Int} (hp : IsPl j at_) {s : Int} (hs : 0 ≤ s ∧ s < j.p.ins.length + 2 * j.p.blocks.length) : BdP (srcF j at_ s) := by
  unfold srcF
  split
  · have hk : ((s - j.p.ins.length) / 2).toNat < j.p.blocks.length := by omega
    obtain ⟨_, k2, k3⟩ := isPl_get hp hk
    exact spotF_bd hj ⟨k2, k3⟩
  · have hh := hj.h
    have h1 := Int.emod_nonneg s (show j.g.h ≠ 0 by omega)
    have h2 := Int.emod_lt_of_pos s hh.1
    exact ⟨⟨by omega, by omega⟩, ⟨by show -1 ≤ s % j.g.h; omega, by show s % j.g.h ≤ _; omega⟩⟩
theorem eget_mem {M : EM} {s : Int} {e : Ext} (h : eget M s = some e) : ∃ x ∈ M, x.2 = e := by
  induction M with
  | nil => cases h
  | cons x r ih =>
    obtain ⟨k, v⟩ := x
    simp only [eget] at h
    split at h
    · cases h; exact ⟨_, List.mem_cons_self, rfl⟩
    · obtain ⟨y, hy, e⟩ := ih h; exact ⟨y, List.mem_cons_of_mem _ hy, e⟩
theorem eput_bd {M : EM} {s : Int} {e : Ext} (hM : ∀ x ∈ M, Bd x.2) (he : Bd e) : ∀ x ∈ eput M s e, Bd x.2 := by
  induction M with
  | nil => intro x hx; simp only [eput, List.mem_singleton] at hx; subst hx; exact he
  | cons x r ih =>
    obtain ⟨k, v⟩ := x
    simp only [eput]
    split
    · intro y hy
      rcases List.mem_cons.1 hy with rfl | hy
      · exact he
      · exact hM y (List.mem_cons_of_mem _ hy)
    · intro y hy
      rcases List.mem_cons.1 hy with rfl | hy
      · exact hM _ List.mem_cons_self
      · exact ih (fun y hy => hM y (List.mem_cons_of_mem _ hy)) y hy
theorem eput_len (M : EM) (s : Int) (e : Ext) : (eput M s e).length ≤ M.length + 1 := by
  induction M with
  | nil => simp [eput]
  | cons x r ih =>
    obtain ⟨k, v⟩ := x
    simp only [eput]
    split
    · simp
    · simp only [List.length_cons]; omega
def BdC (j : Job) (c : Int × Int × Int) : Prop := (0 ≤ c.1 ∧ c.1 < j.p.ins.length + 2 * j.p.blocks.length) ∧ BdP c.2
theorem stepF_bd {j : Job} (hj : j.Ok) {at_ : List Int} (hp : IsPl j at_) {M : EM} (hM : ∀ x ∈ M, Bd x.2) {c : Int × Int × Int} (hc : BdC j c) : ∀ x ∈ stepF j at_ M c, Bd x.2 := by
  refine eput_bd hM ?_
  have h1 : Bd ((eget M c.1).getD ⟨(srcF j at_ c.1).1, (srcF j at_ c.1).2, (srcF j at_ c.1).1, (srcF j at_ c.1).2⟩) := by
    cases h : eget M c.1 with
    | none => have := srcF_bd hj hp hc.1; exact ⟨this.1, this.2, this.1, this.2⟩
    | some e => obtain ⟨x, hx, e1⟩ := eget_mem h; rw [← e1]; exact hM x hx
  generalize (eget M c.1).getD ⟨(srcF j at_ c.1).1, (srcF j at_ c.1).2, (srcF j at_ c.1).1, (srcF j at_ c.1).2⟩ = e at h1
  obtain ⟨a1, a2, a3, a4⟩ := h1
  obtain ⟨b1, b2⟩ := hc.2
  unfold Bd extF
  simp only
  omega
theorem foldl_bd {j : Job} (hj : j.Ok) {at_ : List Int} (hp : IsPl j at_) : ∀ (l : List (Int × Int × Int)) (M : EM), (∀ c ∈ l, BdC j c) → (∀ x ∈ M, Bd x.2) → (∀ x ∈ l.foldl (stepF j at_) M, Bd x.2) ∧ (l.foldl (stepF j at_) M).length ≤ M.length + l.length
  | [], _, _, hM => ⟨hM, by simp⟩
  | c :: l, M, hl, hM => by
    have h1 := foldl_bd hj hp l (stepF j at_ M c) (fun d hd => hl d (List.mem_cons_of_mem _ hd)) (stepF_bd hj hp hM (hl c List.mem_cons_self))
    refine ⟨h1.1, ?_⟩
    have h2 : (stepF j at_ M c).length ≤ M.length + 1 := eput_len _ _ _
    have h3 := h1.2
    simp only [List.foldl_cons, List.length_cons]
    omega
theorem connsB_len {j : Job} (hj : j.Ok) (at_ : List Int) : ∀ k, k ≤ j.p.blocks.length → (connsB j at_ k).length ≤ k * 1000
  | 0, _ => by simp [connsB]
  | k + 1, h => by
    have h1 := connsB_len hj at_ k (by omega)
    have hbm : j.p.blocks.getD k default ∈ j.p.blocks := by simp [List.getD_eq_getElem?_getD, show k < j.p.blocks.length from h]
    have h2 := hj.nin _ hbm
    rw [connsB_succ, List.length_append]
    have h3 : (connB j at_ k).length = (j.p.blocks.getD k default).ins.length := by simp [connB]
    omega
theorem conns_bd {j : Job} (hj : j.Ok) {at_ : List Int} (hp : IsPl j at_) : ∀ c ∈ conns j at_, BdC j c := by
  intro c hc
  rcases List.mem_append.1 hc with hc | hc
  · obtain ⟨k, hk, hc⟩ := List.mem_flatMap.1 hc
    have hk := List.mem_range.1 hk
    obtain ⟨s, hs, rfl⟩ := List.mem_map.1 hc
    have hbm : j.p.blocks.getD k default ∈ j.p.blocks := by simp [List.getD_eq_getElem?_getD, hk]
    obtain ⟨_, k2, k3⟩ := isPl_get hp hk
    exact ⟨hj.sb _ hbm s hs, spotF_bd hj ⟨k2, k3⟩⟩
  · obtain ⟨o, ho, rfl⟩ := List.mem_map.1 hc
    have ho := List.mem_range.1 ho
    have hw := hj.w
    have hh := hj.h
    have h1 := Int.emod_nonneg (o : Int) (show j.g.h ≠ 0 by omega)
    have h2 := Int.emod_lt_of_pos (o : Int) hh.1
    exact ⟨hj.sd _ (by show j.p.drive.getD o default ∈ _; simp [List.getD_eq_getElem?_getD, ho]), ⟨by show -1 ≤ j.g.w; omega, by show j.g.w ≤ _; omega⟩, ⟨by show -1 ≤ (o : Int) % j.g.h; omega, by show (o : Int) % j.g.h ≤ _; omega⟩⟩
theorem foldF_bd {j : Job} (hj : j.Ok) {at_ : List Int} (hp : IsPl j at_) : (∀ x ∈ foldF j at_ (conns j at_), Bd x.2) ∧ ((foldF j at_ (conns j at_)).length : Int) ≤ 1001000 := by
  have h := foldl_bd hj hp (conns j at_) [] (conns_bd hj hp) (fun x hx => by cases hx)
  refine ⟨h.1, ?_⟩
  have h1 := connsB_len hj at_ j.p.blocks.length (Nat.le_refl _)
  have h2 : (conns j at_).length = (connsB j at_ j.p.blocks.length).length + j.p.drive.length := by simp [conns, connsD]
  have h3 := hj.nb
  have h4 := hj.nd
  have h5 := h.2
  simp only [List.length_nil] at h5
  unfold foldF
  omega
theorem emLen_erase : ∀ {L : EM} {i : Nat} {x : Int × Ext}, L[i]? = some x → emLen (L.eraseIdx i) + extLen x.2 = emLen L ∧ (L.eraseIdx i).length + 1 = L.length
  | [], _, _, h => by simp at h
  | y :: L, 0, x, h => by simp at h; subst h; simp [emLen]; omega
  | y :: L, i + 1, x, h => by
    have h1 := emLen_erase (L := L) (i := i) (by simpa using h)
    simp only [emLen, List.eraseIdx_cons_succ, List.map_cons, List.sum_cons, List.length_cons] at h1 ⊢
    omega
theorem emC_erase : ∀ (L : EM) (i : Nat), emC (L.eraseIdx i) = (emC L).eraseIdx i
  | [], _ => rfl
  | _ :: _, 0 => rfl
  | y :: L, i + 1 => congrArg (entC y :: ·) (emC_erase L i)
set_option maxHeartbeats 4000000 in
theorem cost_ok (j : Job) (hj : j.Ok) (at_ : List Int) (hp : IsPl j at_) : FnEq Try.prog 68 [.agg (jobC false j), .sl false 1 (ints at_)] (.int (costF j at_)) := by
  refine FnEq.of_awp Try.func68 ok68 (by show 2 ≤ _; decide) (by simp only [push_cast, reduceIte, Nat.reduceEqDiff, Nat.reduceAdd, Nat.reduceSub, Nat.reduceMul, Nat.reduceBEq, Nat.reduceLT, Nat.reduceLeDiff, reduceCtorEq, Int.reduceToNat, Int.reduceNeg] <;> first | exact fun _ _ => trivial | simp) ?_
  simp only [ac68, rv68, push_cast, reduceIte, Nat.reduceEqDiff, Nat.reduceAdd, Nat.reduceSub, Nat.reduceMul, Nat.reduceBEq, Nat.reduceLT, Nat.reduceLeDiff, reduceCtorEq, Int.reduceToNat, Int.reduceNeg]
  refine clm_eq (ends_ok (Env.of Try.prog) rfl (by show 0 ≤ 100; decide) j at_) ?_
  simp only [push_cast, reduceIte, Nat.reduceEqDiff, Nat.reduceAdd, Nat.reduceSub, Nat.reduceMul, Nat.reduceBEq, Nat.reduceLT, Nat.reduceLeDiff, reduceCtorEq, Int.reduceToNat, Int.reduceNeg]
  refine rng_of (Env.of_noY _) rfl (st1 := stE j at_ [] []) (by simp only [push_cast, reduceIte, Nat.reduceEqDiff, Nat.reduceAdd, Nat.reduceSub, Nat.reduceMul, Nat.reduceBEq, Nat.reduceLT, Nat.reduceLeDiff, reduceCtorEq, Int.reduceToNat, Int.reduceNeg]; rfl) (ends1_ok _ rfl (by show 0 + 88 ≤ 200; decide) j hj at_ hp ?_ ?_) ?_
  · intro k i b M s hs1 hs2 hs3
    simp only [stE_eq, t1_eq]
    refine rngY_of rfl rfl (by simp only [push_cast, reduceIte, Nat.reduceEqDiff, Nat.reduceAdd, Nat.reduceSub, Nat.reduceMul, Nat.reduceBEq, Nat.reduceLT, Nat.reduceLeDiff, reduceCtorEq, Int.reduceToNat, Int.reduceNeg]) ?_
    unfold bodyK
    have hg := mget_em M s
    cases hM : eget M s with
    | none =>
      rw [hM, Option.map_none] at hg
      simp only [push_cast, reduceIte, Nat.reduceEqDiff, Nat.reduceAdd, Nat.reduceSub, Nat.reduceMul, Nat.reduceBEq, Nat.reduceLT, Nat.reduceLeDiff, reduceCtorEq, Int.reduceToNat, Int.reduceNeg, hg]
      refine cal_sub (source_ok j hj at_ hp s ⟨hs1, hs2⟩) (by simp only [push_cast, reduceIte, Nat.reduceEqDiff, Nat.reduceAdd, Nat.reduceSub, Nat.reduceMul, Nat.reduceBEq, Nat.reduceLT, Nat.reduceLeDiff, reduceCtorEq, Int.reduceToNat, Int.reduceNeg]) ?_
      simp only [push_cast, reduceIte, Nat.reduceEqDiff, Nat.reduceAdd, Nat.reduceSub, Nat.reduceMul, Nat.reduceBEq, Nat.reduceLT, Nat.reduceLeDiff, reduceCtorEq, Int.reduceToNat, Int.reduceNeg]
      have hu := mput_em M s (extF (⟨(srcF j at_ s).1, (srcF j at_ s).2, (srcF j at_ s).1, (srcF j at_ s).2⟩ : Ext) ((spotF j (at_.getD k default)).1, (spotF j (at_.getD k default)).2))
      simp only [extC_eq, extF] at hu
      refine loop_of (fun m st => (m = 2 ∧ st = stG j at_ (t1 j at_ k b i) [(1005, .ptr 5 0), (1006, .int s), (1008, .ptr 1008 0), (1037, .agg [.int ((spotF j (at_.getD k default)).1), .int ((spotF j (at_.getD k default)).2)]), (1038, .int 0)] (⟨(srcF j at_ s).1, (srcF j at_ s).2, (srcF j at_ s).1, (srcF j at_ s).2⟩ : Ext) M) ∨ (m = 1 ∧ st = stG j at_ (t1 j at_ k b i) [(1005, .ptr 5 0), (1006, .int s), (1008, .ptr 1008 0), (1037, .agg [.int ((spotF j (at_.getD k default)).1), .int ((spotF j (at_.getD k default)).2)]), (1038, .int 1)] ⟨min (⟨(srcF j at_ s).1, (srcF j at_ s).2, (srcF j at_ s).1, (srcF j at_ s).2⟩ : Ext).x0 ((spotF j (at_.getD k default)).1), (⟨(srcF j at_ s).1, (srcF j at_ s).2, (srcF j at_ s).1, (srcF j at_ s).2⟩ : Ext).y0, max (⟨(srcF j at_ s).1, (srcF j at_ s).2, (srcF j at_ s).1, (srcF j at_ s).2⟩ : Ext).x1 ((spotF j (at_.getD k default)).1), (⟨(srcF j at_ s).1, (srcF j at_ s).2, (srcF j at_ s).1, (srcF j at_ s).2⟩ : Ext).y1⟩ M) ∨ (m = 0 ∧ st = stG j at_ (t1 j at_ k b i) [(1005, .ptr 5 0), (1006, .int s), (1008, .ptr 1008 0), (1037, .agg [.int ((spotF j (at_.getD k default)).1), .int ((spotF j (at_.getD k default)).2)]), (1038, .int 2)] ⟨min (⟨(srcF j at_ s).1, (srcF j at_ s).2, (srcF j at_ s).1, (srcF j at_ s).2⟩ : Ext).x0 ((spotF j (at_.getD k default)).1), min (⟨(srcF j at_ s).1, (srcF j at_ s).2, (srcF j at_ s).1, (srcF j at_ s).2⟩ : Ext).y0 ((spotF j (at_.getD k default)).2), max (⟨(srcF j at_ s).1, (srcF j at_ s).2, (srcF j at_ s).1, (srcF j at_ s).2⟩ : Ext).x1 ((spotF j (at_.getD k default)).1), max (⟨(srcF j at_ s).1, (srcF j at_ s).2, (srcF j at_ s).1, (srcF j at_ s).2⟩ : Ext).y1 ((spotF j (at_.getD k default)).2)⟩ M)) 2 (.inl ⟨rfl, ?_⟩) ?_
      · simp only [stG_eq, t1_eq, push_cast, reduceIte, Nat.reduceEqDiff, Nat.reduceAdd, Nat.reduceSub, Nat.reduceMul, Nat.reduceBEq, Nat.reduceLT, Nat.reduceLeDiff, reduceCtorEq, Int.reduceToNat, Int.reduceNeg]
      · rintro m st (⟨rfl, rfl⟩ | ⟨rfl, rfl⟩ | ⟨rfl, rfl⟩)
        · simp only [stG_eq, t1_eq, push_cast, reduceIte, Nat.reduceEqDiff, Nat.reduceAdd, Nat.reduceSub, Nat.reduceMul, Nat.reduceBEq, Nat.reduceLT, Nat.reduceLeDiff, reduceCtorEq, Int.reduceToNat, Int.reduceNeg]
          exact cond_dec (fun _ => ⟨⟨by omega, by omega⟩, ⟨by omega, by omega⟩, ⟨by omega, by omega⟩, ⟨by omega, by omega⟩, ⟨by omega, by omega⟩, ⟨by omega, by omega⟩, 1, by omega, .inr (.inl ⟨rfl, rfl⟩)⟩) fun h => absurd h (by omega)
        · simp only [stG_eq, t1_eq, push_cast, reduceIte, Nat.reduceEqDiff, Nat.reduceAdd, Nat.reduceSub, Nat.reduceMul, Nat.reduceBEq, Nat.reduceLT, Nat.reduceLeDiff, reduceCtorEq, Int.reduceToNat, Int.reduceNeg]
          exact cond_dec (fun _ => ⟨⟨by omega, by omega⟩, ⟨by omega, by omega⟩, ⟨by omega, by omega⟩, ⟨by omega, by omega⟩, ⟨by omega, by omega⟩, ⟨by omega, by omega⟩, 0, by omega, .inr (.inr ⟨rfl, rfl⟩)⟩) fun h => absurd h (by omega)
        · simp only [stG_eq, t1_eq, push_cast, reduceIte, Nat.reduceEqDiff, Nat.reduceAdd, Nat.reduceSub, Nat.reduceMul, Nat.reduceBEq, Nat.reduceLT, Nat.reduceLeDiff, reduceCtorEq, Int.reduceToNat, Int.reduceNeg, hu]
          refine cond_dec (fun h => absurd h (by omega)) fun _ => ?_
          simp only [stepF, hM, Option.getD_none, Option.getD_some, extF]
    | some e =>
      rw [hM, Option.map_some] at hg
      simp only [push_cast, reduceIte, Nat.reduceEqDiff, Nat.reduceAdd, Nat.reduceSub, Nat.reduceMul, Nat.reduceBEq, Nat.reduceLT, Nat.reduceLeDiff, reduceCtorEq, Int.reduceToNat, Int.reduceNeg, hg]
      have hu := mput_em M s (extF (e) ((spotF j (at_.getD k default)).1, (spotF j (at_.getD k default)).2))
      simp only [extC_eq, extF] at hu
      refine loop_of (fun m st => (m = 2 ∧ st = stG j at_ (t1 j at_ k b i) [(1005, .ptr 5 0), (1006, .int s), (1008, .ptr 1008 0), (1037, .agg [.int ((spotF j (at_.getD k default)).1), .int ((spotF j (at_.getD k default)).2)]), (1038, .int 0)] (e) M) ∨ (m = 1 ∧ st = stG j at_ (t1 j at_ k b i) [(1005, .ptr 5 0), (1006, .int s), (1008, .ptr 1008 0), (1037, .agg [.int ((spotF j (at_.getD k default)).1), .int ((spotF j (at_.getD k default)).2)]), (1038, .int 1)] ⟨min (e).x0 ((spotF j (at_.getD k default)).1), (e).y0, max (e).x1 ((spotF j (at_.getD k default)).1), (e).y1⟩ M) ∨ (m = 0 ∧ st = stG j at_ (t1 j at_ k b i) [(1005, .ptr 5 0), (1006, .int s), (1008, .ptr 1008 0), (1037, .agg [.int ((spotF j (at_.getD k default)).1), .int ((spotF j (at_.getD k default)).2)]), (1038, .int 2)] ⟨min (e).x0 ((spotF j (at_.getD k default)).1), min (e).y0 ((spotF j (at_.getD k default)).2), max (e).x1 ((spotF j (at_.getD k default)).1), max (e).y1 ((spotF j (at_.getD k default)).2)⟩ M)) 2 (.inl ⟨rfl, ?_⟩) ?_
      · simp only [stG_eq, t1_eq, push_cast, reduceIte, Nat.reduceEqDiff, Nat.reduceAdd, Nat.reduceSub, Nat.reduceMul, Nat.reduceBEq, Nat.reduceLT, Nat.reduceLeDiff, reduceCtorEq, Int.reduceToNat, Int.reduceNeg]
      · rintro m st (⟨rfl, rfl⟩ | ⟨rfl, rfl⟩ | ⟨rfl, rfl⟩)
        · simp only [stG_eq, t1_eq, push_cast, reduceIte, Nat.reduceEqDiff, Nat.reduceAdd, Nat.reduceSub, Nat.reduceMul, Nat.reduceBEq, Nat.reduceLT, Nat.reduceLeDiff, reduceCtorEq, Int.reduceToNat, Int.reduceNeg]
          exact cond_dec (fun _ => ⟨⟨by omega, by omega⟩, ⟨by omega, by omega⟩, ⟨by omega, by omega⟩, ⟨by omega, by omega⟩, ⟨by omega, by omega⟩, ⟨by omega, by omega⟩, 1, by omega, .inr (.inl ⟨rfl, rfl⟩)⟩) fun h => absurd h (by omega)
        · simp only [stG_eq, t1_eq, push_cast, reduceIte, Nat.reduceEqDiff, Nat.reduceAdd, Nat.reduceSub, Nat.reduceMul, Nat.reduceBEq, Nat.reduceLT, Nat.reduceLeDiff, reduceCtorEq, Int.reduceToNat, Int.reduceNeg]
          exact cond_dec (fun _ => ⟨⟨by omega, by omega⟩, ⟨by omega, by omega⟩, ⟨by omega, by omega⟩, ⟨by omega, by omega⟩, ⟨by omega, by omega⟩, ⟨by omega, by omega⟩, 0, by omega, .inr (.inr ⟨rfl, rfl⟩)⟩) fun h => absurd h (by omega)
        · simp only [stG_eq, t1_eq, push_cast, reduceIte, Nat.reduceEqDiff, Nat.reduceAdd, Nat.reduceSub, Nat.reduceMul, Nat.reduceBEq, Nat.reduceLT, Nat.reduceLeDiff, reduceCtorEq, Int.reduceToNat, Int.reduceNeg, hu]
          refine cond_dec (fun h => absurd h (by omega)) fun _ => ?_
          simp only [stepF, hM, Option.getD_none, Option.getD_some, extF]
  · intro o M s hs1 hs2 hs3
    simp only [stE_eq, t2_eq]
    refine rngY_of rfl rfl (by simp only [push_cast, reduceIte, Nat.reduceEqDiff, Nat.reduceAdd, Nat.reduceSub, Nat.reduceMul, Nat.reduceBEq, Nat.reduceLT, Nat.reduceLeDiff, reduceCtorEq, Int.reduceToNat, Int.reduceNeg]) ?_
    unfold bodyK
    have hg := mget_em M s
    cases hM : eget M s with
    | none =>
      rw [hM, Option.map_none] at hg
      simp only [push_cast, reduceIte, Nat.reduceEqDiff, Nat.reduceAdd, Nat.reduceSub, Nat.reduceMul, Nat.reduceBEq, Nat.reduceLT, Nat.reduceLeDiff, reduceCtorEq, Int.reduceToNat, Int.reduceNeg, hg]
      refine cal_sub (source_ok j hj at_ hp s ⟨hs1, hs2⟩) (by simp only [push_cast, reduceIte, Nat.reduceEqDiff, Nat.reduceAdd, Nat.reduceSub, Nat.reduceMul, Nat.reduceBEq, Nat.reduceLT, Nat.reduceLeDiff, reduceCtorEq, Int.reduceToNat, Int.reduceNeg]) ?_
      simp only [push_cast, reduceIte, Nat.reduceEqDiff, Nat.reduceAdd, Nat.reduceSub, Nat.reduceMul, Nat.reduceBEq, Nat.reduceLT, Nat.reduceLeDiff, reduceCtorEq, Int.reduceToNat, Int.reduceNeg]
      have hu := mput_em M s (extF (⟨(srcF j at_ s).1, (srcF j at_ s).2, (srcF j at_ s).1, (srcF j at_ s).2⟩ : Ext) (j.g.w, (o : Int) % j.g.h))
      simp only [extC_eq, extF] at hu
      refine loop_of (fun m st => (m = 2 ∧ st = stG j at_ (t2 j o) [(1005, .ptr 5 0), (1006, .int s), (1008, .ptr 1008 0), (1037, .agg [.int (j.g.w), .int ((o : Int) % j.g.h)]), (1038, .int 0)] (⟨(srcF j at_ s).1, (srcF j at_ s).2, (srcF j at_ s).1, (srcF j at_ s).2⟩ : Ext) M) ∨ (m = 1 ∧ st = stG j at_ (t2 j o) [(1005, .ptr 5 0), (1006, .int s), (1008, .ptr 1008 0), (1037, .agg [.int (j.g.w), .int ((o : Int) % j.g.h)]), (1038, .int 1)] ⟨min (⟨(srcF j at_ s).1, (srcF j at_ s).2, (srcF j at_ s).1, (srcF j at_ s).2⟩ : Ext).x0 (j.g.w), (⟨(srcF j at_ s).1, (srcF j at_ s).2, (srcF j at_ s).1, (srcF j at_ s).2⟩ : Ext).y0, max (⟨(srcF j at_ s).1, (srcF j at_ s).2, (srcF j at_ s).1, (srcF j at_ s).2⟩ : Ext).x1 (j.g.w), (⟨(srcF j at_ s).1, (srcF j at_ s).2, (srcF j at_ s).1, (srcF j at_ s).2⟩ : Ext).y1⟩ M) ∨ (m = 0 ∧ st = stG j at_ (t2 j o) [(1005, .ptr 5 0), (1006, .int s), (1008, .ptr 1008 0), (1037, .agg [.int (j.g.w), .int ((o : Int) % j.g.h)]), (1038, .int 2)] ⟨min (⟨(srcF j at_ s).1, (srcF j at_ s).2, (srcF j at_ s).1, (srcF j at_ s).2⟩ : Ext).x0 (j.g.w), min (⟨(srcF j at_ s).1, (srcF j at_ s).2, (srcF j at_ s).1, (srcF j at_ s).2⟩ : Ext).y0 ((o : Int) % j.g.h), max (⟨(srcF j at_ s).1, (srcF j at_ s).2, (srcF j at_ s).1, (srcF j at_ s).2⟩ : Ext).x1 (j.g.w), max (⟨(srcF j at_ s).1, (srcF j at_ s).2, (srcF j at_ s).1, (srcF j at_ s).2⟩ : Ext).y1 ((o : Int) % j.g.h)⟩ M)) 2 (.inl ⟨rfl, ?_⟩) ?_
      · simp only [stG_eq, t2_eq, push_cast, reduceIte, Nat.reduceEqDiff, Nat.reduceAdd, Nat.reduceSub, Nat.reduceMul, Nat.reduceBEq, Nat.reduceLT, Nat.reduceLeDiff, reduceCtorEq, Int.reduceToNat, Int.reduceNeg]
      · rintro m st (⟨rfl, rfl⟩ | ⟨rfl, rfl⟩ | ⟨rfl, rfl⟩)
        · simp only [stG_eq, t2_eq, push_cast, reduceIte, Nat.reduceEqDiff, Nat.reduceAdd, Nat.reduceSub, Nat.reduceMul, Nat.reduceBEq, Nat.reduceLT, Nat.reduceLeDiff, reduceCtorEq, Int.reduceToNat, Int.reduceNeg]
          exact cond_dec (fun _ => ⟨⟨by omega, by omega⟩, ⟨by omega, by omega⟩, ⟨by omega, by omega⟩, ⟨by omega, by omega⟩, ⟨by omega, by omega⟩, ⟨by omega, by omega⟩, 1, by omega, .inr (.inl ⟨rfl, rfl⟩)⟩) fun h => absurd h (by omega)
        · simp only [stG_eq, t2_eq, push_cast, reduceIte, Nat.reduceEqDiff, Nat.reduceAdd, Nat.reduceSub, Nat.reduceMul, Nat.reduceBEq, Nat.reduceLT, Nat.reduceLeDiff, reduceCtorEq, Int.reduceToNat, Int.reduceNeg]
          exact cond_dec (fun _ => ⟨⟨by omega, by omega⟩, ⟨by omega, by omega⟩, ⟨by omega, by omega⟩, ⟨by omega, by omega⟩, ⟨by omega, by omega⟩, ⟨by omega, by omega⟩, 0, by omega, .inr (.inr ⟨rfl, rfl⟩)⟩) fun h => absurd h (by omega)
        · simp only [stG_eq, t2_eq, push_cast, reduceIte, Nat.reduceEqDiff, Nat.reduceAdd, Nat.reduceSub, Nat.reduceMul, Nat.reduceBEq, Nat.reduceLT, Nat.reduceLeDiff, reduceCtorEq, Int.reduceToNat, Int.reduceNeg, hu]
          refine cond_dec (fun h => absurd h (by omega)) fun _ => ?_
          simp only [stepF, hM, Option.getD_none, Option.getD_some, extF]
    | some e =>
      rw [hM, Option.map_some] at hg
      simp only [push_cast, reduceIte, Nat.reduceEqDiff, Nat.reduceAdd, Nat.reduceSub, Nat.reduceMul, Nat.reduceBEq, Nat.reduceLT, Nat.reduceLeDiff, reduceCtorEq, Int.reduceToNat, Int.reduceNeg, hg]
      have hu := mput_em M s (extF (e) (j.g.w, (o : Int) % j.g.h))
      simp only [extC_eq, extF] at hu
      refine loop_of (fun m st => (m = 2 ∧ st = stG j at_ (t2 j o) [(1005, .ptr 5 0), (1006, .int s), (1008, .ptr 1008 0), (1037, .agg [.int (j.g.w), .int ((o : Int) % j.g.h)]), (1038, .int 0)] (e) M) ∨ (m = 1 ∧ st = stG j at_ (t2 j o) [(1005, .ptr 5 0), (1006, .int s), (1008, .ptr 1008 0), (1037, .agg [.int (j.g.w), .int ((o : Int) % j.g.h)]), (1038, .int 1)] ⟨min (e).x0 (j.g.w), (e).y0, max (e).x1 (j.g.w), (e).y1⟩ M) ∨ (m = 0 ∧ st = stG j at_ (t2 j o) [(1005, .ptr 5 0), (1006, .int s), (1008, .ptr 1008 0), (1037, .agg [.int (j.g.w), .int ((o : Int) % j.g.h)]), (1038, .int 2)] ⟨min (e).x0 (j.g.w), min (e).y0 ((o : Int) % j.g.h), max (e).x1 (j.g.w), max (e).y1 ((o : Int) % j.g.h)⟩ M)) 2 (.inl ⟨rfl, ?_⟩) ?_
      · simp only [stG_eq, t2_eq, push_cast, reduceIte, Nat.reduceEqDiff, Nat.reduceAdd, Nat.reduceSub, Nat.reduceMul, Nat.reduceBEq, Nat.reduceLT, Nat.reduceLeDiff, reduceCtorEq, Int.reduceToNat, Int.reduceNeg]
      · rintro m st (⟨rfl, rfl⟩ | ⟨rfl, rfl⟩ | ⟨rfl, rfl⟩)
        · simp only [stG_eq, t2_eq, push_cast, reduceIte, Nat.reduceEqDiff, Nat.reduceAdd, Nat.reduceSub, Nat.reduceMul, Nat.reduceBEq, Nat.reduceLT, Nat.reduceLeDiff, reduceCtorEq, Int.reduceToNat, Int.reduceNeg]
          exact cond_dec (fun _ => ⟨⟨by omega, by omega⟩, ⟨by omega, by omega⟩, ⟨by omega, by omega⟩, ⟨by omega, by omega⟩, ⟨by omega, by omega⟩, ⟨by omega, by omega⟩, 1, by omega, .inr (.inl ⟨rfl, rfl⟩)⟩) fun h => absurd h (by omega)
        · simp only [stG_eq, t2_eq, push_cast, reduceIte, Nat.reduceEqDiff, Nat.reduceAdd, Nat.reduceSub, Nat.reduceMul, Nat.reduceBEq, Nat.reduceLT, Nat.reduceLeDiff, reduceCtorEq, Int.reduceToNat, Int.reduceNeg]
          exact cond_dec (fun _ => ⟨⟨by omega, by omega⟩, ⟨by omega, by omega⟩, ⟨by omega, by omega⟩, ⟨by omega, by omega⟩, ⟨by omega, by omega⟩, ⟨by omega, by omega⟩, 0, by omega, .inr (.inr ⟨rfl, rfl⟩)⟩) fun h => absurd h (by omega)
        · simp only [stG_eq, t2_eq, push_cast, reduceIte, Nat.reduceEqDiff, Nat.reduceAdd, Nat.reduceSub, Nat.reduceMul, Nat.reduceBEq, Nat.reduceLT, Nat.reduceLeDiff, reduceCtorEq, Int.reduceToNat, Int.reduceNeg, hu]
          refine cond_dec (fun h => absurd h (by omega)) fun _ => ?_
          simp only [stepF, hM, Option.getD_none, Option.getD_some, extF]
  · rintro rv _ rfl
    simp only [push_cast, reduceIte, Nat.reduceEqDiff, Nat.reduceAdd, Nat.reduceSub, Nat.reduceMul, Nat.reduceBEq, Nat.reduceLT, Nat.reduceLeDiff, reduceCtorEq, Int.reduceToNat, Int.reduceNeg]
    obtain ⟨hB, hN⟩ := foldF_bd hj hp
    have hcost : costF j at_ = emLen (foldF j at_ (conns j at_)) := rfl
    generalize foldF j at_ (conns j at_) = M at hB hN hcost ⊢
    rw [hcost]
    refine loop_of (fun m st => ∃ (L : EM) (cur : Option (Value × PV)) (n : Int), m = L.length ∧ L.length ≤ M.length ∧ n + emLen L = emLen M ∧ (∀ x ∈ L, Bd x.2) ∧ (-4000004 * ((M.length : Int) - L.length) ≤ n ∧ n ≤ 4000004 * ((M.length : Int) - L.length)) ∧
      st = ⟨[(13, .int n), (65, .itr 16 65)], [], [], [(16, ⟨.int .i64, emC M, some (65, emC L, cur)⟩)]⟩) M.length ?_ ?_
    · refine ⟨M, none, 0, rfl, Nat.le_refl _, by omega, hB, by omega, ?_⟩
      simp only [push_cast, reduceIte, Nat.reduceEqDiff, Nat.reduceAdd, Nat.reduceSub, Nat.reduceMul, Nat.reduceBEq, Nat.reduceLT, Nat.reduceLeDiff, reduceCtorEq, Int.reduceToNat, Int.reduceNeg]
    · rintro m st ⟨L, cur, n, rfl, hL, hn, hBL, hb, rfl⟩
      simp only [push_cast, reduceIte, Nat.reduceEqDiff, Nat.reduceAdd, Nat.reduceSub, Nat.reduceMul, Nat.reduceBEq, Nat.reduceLT, Nat.reduceLeDiff, reduceCtorEq, Int.reduceToNat, Int.reduceNeg]
      refine ⟨rfl, fun h => ?_, fun i z hz => ?_⟩
      · have hL0 : L = [] := by simpa [emC] using h
        subst hL0
        simp only [push_cast, reduceIte, Nat.reduceEqDiff, Nat.reduceAdd, Nat.reduceSub, Nat.reduceMul, Nat.reduceBEq, Nat.reduceLT, Nat.reduceLeDiff, reduceCtorEq, Int.reduceToNat, Int.reduceNeg]
        have : emLen ([] : EM) = 0 := rfl
        rw [show n = emLen M by omega]
      · obtain ⟨x, hx, rfl⟩ : ∃ x, L[i]? = some x ∧ entC x = z := by
          rw [emC, List.getElem?_map, Option.map_eq_some_iff] at hz; exact hz
        have hxm : x ∈ L := List.mem_of_getElem? hx
        have hbx := hBL x hxm
        simp only [entC, push_cast, reduceIte, Nat.reduceEqDiff, Nat.reduceAdd, Nat.reduceSub, Nat.reduceMul, Nat.reduceBEq, Nat.reduceLT, Nat.reduceLeDiff, reduceCtorEq, Int.reduceToNat, Int.reduceNeg]
        obtain ⟨b1, b2, b3, b4⟩ := hbx
        obtain ⟨e1, e2⟩ := emLen_erase hx
        have e3 : extLen x.2 = x.2.x1 - x.2.x0 + x.2.y1 - x.2.y0 := rfl
        refine ⟨⟨by omega, by omega⟩, ⟨by omega, by omega⟩, ⟨by omega, by omega⟩, ⟨by omega, by omega⟩, ⟨by omega, by omega⟩, ⟨by omega, by omega⟩, ⟨by omega, by omega⟩, ⟨by omega, by omega⟩,
          (L.eraseIdx i).length, ?_, L.eraseIdx i, some (entC x), n + (x.2.x1 - x.2.x0 + x.2.y1 - x.2.y0), rfl, ?_, ?_, fun y hy => hBL y (List.mem_of_mem_eraseIdx hy), ?_, ?_⟩
        · omega
        · omega
        · omega
        · omega
        · rw [emC_erase]; rfl
end Go.Proofs.Ytbdamnfkgdbidaa
namespace Go.Proofs.Ytbdamnfkgdbidaa
open Go Go.Vc Txt
def exchF (j : Job) (fx at_ : List Int) (k t : Nat) : Option (List Int) :=
  let fr := at_.getD k default
  let o := fidx (fun x => decide (x = (t : Int))) at_
  if fr = t ∨ (k : Int) ∈ fx ∨ suitsR j k t = false then none
  else if 0 ≤ o ∧ (o ∈ fx ∨ suitsR j o fr = false) then none
  else some (if 0 ≤ o then (at_.set k t).set o.toNat fr else at_.set k t)
def stI (j : Job) (fx : List Int) (n k t : Nat) (total now bef np pi : Int) (xs : List (Nat × PV)) (xb : List (Nat × List PV)) (at_ : List Int) : St :=
  ⟨[(16, .view 705 0 n), (301, .view 705 0 n), (302, .sl false 1 (ints fx)), (304, .ptr 304 0), (309, .int total), (310, .int now), (311, .int bef), (312, .int k), (320, .int np), (321, .int pi), (325, .int n), (326, .int k), (332, .int j.g.kind.length), (333, .int t)] ++ xs, (304, jobC false j) :: xb, [(705, ⟨1, 3, ints at_⟩)], []⟩
theorem stI_eq (j : Job) (fx : List Int) (n k t : Nat) (total now bef np pi : Int) (xs : List (Nat × PV)) (xb : List (Nat × List PV)) (at_ : List Int) : stI j fx n k t total now bef np pi xs xb at_ =
  ⟨[(16, .view 705 0 n), (301, .view 705 0 n), (302, .sl false 1 (ints fx)), (304, .ptr 304 0), (309, .int total), (310, .int now), (311, .int bef), (312, .int k), (320, .int np), (321, .int pi), (325, .int n), (326, .int k), (332, .int j.g.kind.length), (333, .int t)] ++ xs, (304, jobC false j) :: xb, [(705, ⟨1, 3, ints at_⟩)], []⟩ := rfl
def cbI (n k t : Nat) (fr o : Int) : List (Nat × List PV) := [(406, [.view 705 0 n]), (408, [.int k]), (409, [.int t]), (412, [.int fr]), (413, [.int o]), (414, [.clo 92 [406, 408, 413]])]
theorem cbI_eq (n k t : Nat) (fr o : Int) : cbI n k t fr o = [(406, [.view 705 0 n]), (408, [.int k]), (409, [.int t]), (412, [.int fr]), (413, [.int o]), (414, [.clo 92 [406, 408, 413]])] := rfl
theorem setA_ok (E : Env) (hE : E.p = Try.prog) (hkk : E.kk ≤ 500) (j : Job) (fx : List Int) (n k t : Nat) (total now bef np pi : Int) (fr o x y : Int) (at_ : List Int) (hn : at_.length = n) (hk : k < n) (ho : o < n) :
    FnM E 92 [.int x, .int y, .ptr 406 0, .ptr 408 0, .ptr 413 0] (stI j fx n k t total now bef np pi [(409, .ptr 409 0), (412, .ptr 412 0), (414, .ptr 414 0)] (cbI n k t fr o) at_)
      (fun rv st' => rv = .tup [] ∧ st' = stI j fx n k t total now bef np pi [(409, .ptr 409 0), (412, .ptr 412 0), (414, .ptr 414 0)] (cbI n k t fr o) (if 0 ≤ o then (at_.set k x).set o.toNat y else at_.set k x)) := by
  simp only [stI_eq, cbI_eq, push_cast, reduceIte, Nat.reduceEqDiff, Nat.reduceAdd, Nat.reduceSub, Nat.reduceMul, Nat.reduceBEq, Nat.reduceLT, Nat.reduceLeDiff, reduceCtorEq, Int.reduceToNat, Int.reduceNeg]
  refine fnM_of 500 (by rw [hE]; exact Try.func92) (by rw [hE]; exact ok92_500) (by show 5 ≤ _; decide) rfl hkk ?_
  simp only [ac92_500, rv92_500, push_cast, reduceIte, Nat.reduceEqDiff, Nat.reduceAdd, Nat.reduceSub, Nat.reduceMul, Nat.reduceBEq, Nat.reduceLT, Nat.reduceLeDiff, reduceCtorEq, Int.reduceToNat, Int.reduceNeg]
  refine ⟨⟨by omega, by omega⟩, by omega, cond_dec (fun h => ?_) fun h => ?_⟩
  · refine ⟨⟨h, ho⟩, by rw [List.length_set]; omega, ?_⟩
    rw [if_pos h]
  · rw [if_neg h]
theorem setB_ok (E : Env) (hE : E.p = Try.prog) (hkk : E.kk ≤ 500) (j : Job) (fx : List Int) (n k t : Nat) (total now bef np pi : Int) (fr o x y : Int) (at_ : List Int) (hn : at_.length = n) (hk : k < n) (ho : o < n) :
    FnM E 92 [.int x, .int y, .ptr 406 0, .ptr 408 0, .ptr 413 0] (stI j fx n k t total now bef np pi [] (cbI n k t fr o) at_)
      (fun rv st' => rv = .tup [] ∧ st' = stI j fx n k t total now bef np pi [] (cbI n k t fr o) (if 0 ≤ o then (at_.set k x).set o.toNat y else at_.set k x)) := by
  simp only [stI_eq, cbI_eq, push_cast, reduceIte, Nat.reduceEqDiff, Nat.reduceAdd, Nat.reduceSub, Nat.reduceMul, Nat.reduceBEq, Nat.reduceLT, Nat.reduceLeDiff, reduceCtorEq, Int.reduceToNat, Int.reduceNeg]
  refine fnM_of 500 (by rw [hE]; exact Try.func92) (by rw [hE]; exact ok92_500) (by show 5 ≤ _; decide) rfl hkk ?_
  simp only [ac92_500, rv92_500, push_cast, reduceIte, Nat.reduceEqDiff, Nat.reduceAdd, Nat.reduceSub, Nat.reduceMul, Nat.reduceBEq, Nat.reduceLT, Nat.reduceLeDiff, reduceCtorEq, Int.reduceToNat, Int.reduceNeg]
  refine ⟨⟨by omega, by omega⟩, by omega, cond_dec (fun h => ?_) fun h => ?_⟩
  · refine ⟨⟨h, ho⟩, by rw [List.length_set]; omega, ?_⟩
    rw [if_pos h]
  · rw [if_neg h]
theorem undo_ok (E : Env) (hE : E.p = Try.prog) (hkk : E.kk ≤ 500) (j : Job) (fx : List Int) (n k t : Nat) (total now bef np pi : Int) (fr o : Int) (at_ : List Int) (hn : at_.length = n) (hk : k < n) (ho : o < n) :
    FnM E 93 [.ptr 414 0, .ptr 412 0, .ptr 409 0] (stI j fx n k t total now bef np pi [] (cbI n k t fr o) at_)
      (fun rv st' => rv = .tup [] ∧ st' = stI j fx n k t total now bef np pi [] (cbI n k t fr o) (if 0 ≤ o then (at_.set k fr).set o.toNat t else at_.set k fr)) := by
  simp only [stI_eq, cbI_eq, push_cast, reduceIte, Nat.reduceEqDiff, Nat.reduceAdd, Nat.reduceSub, Nat.reduceMul, Nat.reduceBEq, Nat.reduceLT, Nat.reduceLeDiff, reduceCtorEq, Int.reduceToNat, Int.reduceNeg]
  refine fnM_of 600 (by rw [hE]; exact Try.func93) (by rw [hE]; exact ok93_600) (by show 3 ≤ _; decide) rfl (by omega) ?_
  simp only [ac93_600, rv93_600, push_cast, reduceIte, Nat.reduceEqDiff, Nat.reduceAdd, Nat.reduceSub, Nat.reduceMul, Nat.reduceBEq, Nat.reduceLT, Nat.reduceLeDiff, reduceCtorEq, Int.reduceToNat, Int.reduceNeg]
  refine clm_of (FnM.only [16, 301, 302, 304, 309, 310, 311, 312, 320, 321, 325, 326, 332, 333] [304, 406, 408, 409, 412, 413, 414] [705] [] (setB_ok E hE hkk j fx n k t total now bef np pi fr o fr t at_ hn hk ho)) ?_
  rintro rv _ ⟨rfl, rfl⟩
  simp only [stI_eq, cbI_eq, push_cast, reduceIte, Nat.reduceEqDiff, Nat.reduceAdd, Nat.reduceSub, Nat.reduceMul, Nat.reduceBEq, Nat.reduceLT, Nat.reduceLeDiff, reduceCtorEq, Int.reduceToNat, Int.reduceNeg]
  done
theorem fidx_lt (p : Int → Bool) (l : List Int) : fidx p l < l.length ∨ l = [] := by
  unfold fidx
  cases h : l.findIdx? p with
  | none => cases l <;> simp; omega
  | some k =>
    have := (List.findIdx?_eq_some_iff_getElem.1 h).1
    left; simp only; omega
def exQ (j : Job) (fx : List Int) (n k t : Nat) (total now bef np pi : Int) (at_ : List Int) (rv : PV) (st' : St) : Prop :=
  match exchF j fx at_ k t with
  | none => rv = .tup [.sc .nilFunc, .bool false] ∧ st' = stI j fx n k t total now bef np pi [] [] at_
  | some a => rv = .tup [.clo 93 [414, 412, 409], .bool true] ∧ st' = stI j fx n k t total now bef np pi [] (cbI n k t (at_.getD k default) (fidx (fun x => decide (x = (t : Int))) at_)) a
theorem exch_ok (E : Env) (hE : E.p = Try.prog) (hkk : E.kk ≤ 400) (j : Job) (fx : List Int) (n k t : Nat) (total now bef np pi : Int) (at_ : List Int) (hj : j.Ok) (hfx : (fx.length : Int) ≤ 1000000) (hn : at_.length = n) (hn2 : n ≤ 1000000) (hk : k < n) :
    FnM E 86 [.agg (jobC false j), .view 705 0 n, .sl false 1 (ints fx), .int k, .int t] (stI j fx n k t total now bef np pi [] [] at_) (exQ j fx n k t total now bef np pi at_) := by
  have key : FnM E 86 [.agg (jobC false j), .view 705 0 n, .sl false 1 (ints fx), .int k, .int t] (stI j fx n k t total now bef np pi [] [] at_) (fun rv st1 => match exchF j fx at_ k t with
      | none => rv = .tup [.sc .nilFunc, .bool false] ∧ st1.onlyB [304] = stI j fx n k t total now bef np pi [] [] at_
      | some a => rv = .tup [.clo 93 [414, 412, 409], .bool true] ∧ st1.onlyB [304, 406, 408, 409, 412, 413, 414] = stI j fx n k t total now bef np pi [] (cbI n k t (at_.getD k default) (fidx (fun x => decide (x = (t : Int))) at_)) a) := by
    unfold exchF
    simp only [stI_eq, push_cast, reduceIte, Nat.reduceEqDiff, Nat.reduceAdd, Nat.reduceSub, Nat.reduceMul, Nat.reduceBEq, Nat.reduceLT, Nat.reduceLeDiff, reduceCtorEq, Int.reduceToNat, Int.reduceNeg]
    refine fnM_of 400 (by rw [hE]; exact Try.func86) (by rw [hE]; exact ok86_400) (by show 5 ≤ _; decide) rfl hkk ?_
    simp only [ac86_400, rv86_400, push_cast, reduceIte, Nat.reduceEqDiff, Nat.reduceAdd, Nat.reduceSub, Nat.reduceMul, Nat.reduceBEq, Nat.reduceLT, Nat.reduceLeDiff, reduceCtorEq, Int.reduceToNat, Int.reduceNeg]
    refine ⟨⟨by omega, by omega⟩, by omega, ?_⟩
    have ho := fidx_lt (fun x => decide (x = (t : Int))) at_
    generalize hfr : at_.getD k default = fr
    generalize hoo : fidx (fun x => decide (x = (t : Int))) at_ = o at ho
    refine cut_of (stI j fx n k t total now bef np pi [(402, .sl false 1 (ints fx)), (405, .ptr 405 0), (406, .ptr 406 0), (408, .ptr 408 0), (409, .ptr 409 0), (412, .ptr 412 0), (433, .bool (decide (fr = t ∨ (k : Int) ∈ fx ∨ suitsR j k t = false)))] [(405, jobC false j), (406, [.view 705 0 n]), (408, [.int k]), (409, [.int t]), (412, [.int fr])] at_) ?_ ?_
    · have hcon := contains_ok fx k (by omega)
      have hsu := psuits_ok j hj k t
      simp only [stI_eq]
      refine grd_decf rfl (fun h1 => ?_) fun h1 => ?_ <;> simp only [push_cast, reduceIte, Nat.reduceEqDiff, Nat.reduceAdd, Nat.reduceSub, Nat.reduceMul, Nat.reduceBEq, Nat.reduceLT, Nat.reduceLeDiff, reduceCtorEq, Int.reduceToNat, Int.reduceNeg]
      · simp [h1]
      refine cal_sub (by rw [hE]; exact hcon) (by simp only [push_cast, reduceIte, Nat.reduceEqDiff, Nat.reduceAdd, Nat.reduceSub, Nat.reduceMul, Nat.reduceBEq, Nat.reduceLT, Nat.reduceLeDiff, reduceCtorEq, Int.reduceToNat, Int.reduceNeg]) ?_
      simp only [push_cast, reduceIte, Nat.reduceEqDiff, Nat.reduceAdd, Nat.reduceSub, Nat.reduceMul, Nat.reduceBEq, Nat.reduceLT, Nat.reduceLeDiff, reduceCtorEq, Int.reduceToNat, Int.reduceNeg]
      refine grd_decf rfl (fun h2 => ?_) fun h2 => ?_ <;> simp only [push_cast, reduceIte, Nat.reduceEqDiff, Nat.reduceAdd, Nat.reduceSub, Nat.reduceMul, Nat.reduceBEq, Nat.reduceLT, Nat.reduceLeDiff, reduceCtorEq, Int.reduceToNat, Int.reduceNeg]
      · simp [h2]
      refine cal_sub (by rw [hE]; exact hsu) (by simp only [push_cast, reduceIte, Nat.reduceEqDiff, Nat.reduceAdd, Nat.reduceSub, Nat.reduceMul, Nat.reduceBEq, Nat.reduceLT, Nat.reduceLeDiff, reduceCtorEq, Int.reduceToNat, Int.reduceNeg]) ?_
      simp only [push_cast, reduceIte, Nat.reduceEqDiff, Nat.reduceAdd, Nat.reduceSub, Nat.reduceMul, Nat.reduceBEq, Nat.reduceLT, Nat.reduceLeDiff, reduceCtorEq, Int.reduceToNat, Int.reduceNeg]
      simp [h1, h2]
      done
    simp only [stI_eq, push_cast, reduceIte, Nat.reduceEqDiff, Nat.reduceAdd, Nat.reduceSub, Nat.reduceMul, Nat.reduceBEq, Nat.reduceLT, Nat.reduceLeDiff, reduceCtorEq, Int.reduceToNat, Int.reduceNeg]
    refine cond_dec (fun h1 => ?_) fun h1 => ?_
    · rw [if_pos h1]
      trivial
    · rw [if_neg h1, List.take_of_length_le (by omega)]
      refine cal_sub (by rw [hE]; exact index_ok at_ t (by omega)) (by simp only [push_cast, reduceIte, Nat.reduceEqDiff, Nat.reduceAdd, Nat.reduceSub, Nat.reduceMul, Nat.reduceBEq, Nat.reduceLT, Nat.reduceLeDiff, reduceCtorEq, Int.reduceToNat, Int.reduceNeg]) ?_
      simp only [push_cast, reduceIte, Nat.reduceEqDiff, Nat.reduceAdd, Nat.reduceSub, Nat.reduceMul, Nat.reduceBEq, Nat.reduceLT, Nat.reduceLeDiff, reduceCtorEq, Int.reduceToNat, Int.reduceNeg]
      rw [hoo]
      refine cut_of (stI j fx n k t total now bef np pi [(406, .ptr 406 0), (408, .ptr 408 0), (409, .ptr 409 0), (412, .ptr 412 0), (413, .ptr 413 0), (450, .bool (decide (0 ≤ o ∧ (o ∈ fx ∨ suitsR j o fr = false))))] [(405, jobC false j), (406, [.view 705 0 n]), (408, [.int k]), (409, [.int t]), (412, [.int fr]), (413, [.int o])] at_) ?_ ?_
      · have hcon := contains_ok fx o (by omega)
        have hsu := psuits_ok j hj o fr
        simp only [stI_eq, push_cast, reduceIte, Nat.reduceEqDiff, Nat.reduceAdd, Nat.reduceSub, Nat.reduceMul, Nat.reduceBEq, Nat.reduceLT, Nat.reduceLeDiff, reduceCtorEq, Int.reduceToNat, Int.reduceNeg]
        refine grd_dec rfl (fun h2 => ?_) fun h2 => ?_ <;> simp only [push_cast, reduceIte, Nat.reduceEqDiff, Nat.reduceAdd, Nat.reduceSub, Nat.reduceMul, Nat.reduceBEq, Nat.reduceLT, Nat.reduceLeDiff, reduceCtorEq, Int.reduceToNat, Int.reduceNeg]
        · refine cal_sub (by rw [hE]; exact hcon) (by simp only [push_cast, reduceIte, Nat.reduceEqDiff, Nat.reduceAdd, Nat.reduceSub, Nat.reduceMul, Nat.reduceBEq, Nat.reduceLT, Nat.reduceLeDiff, reduceCtorEq, Int.reduceToNat, Int.reduceNeg]) ?_
          simp only [push_cast, reduceIte, Nat.reduceEqDiff, Nat.reduceAdd, Nat.reduceSub, Nat.reduceMul, Nat.reduceBEq, Nat.reduceLT, Nat.reduceLeDiff, reduceCtorEq, Int.reduceToNat, Int.reduceNeg]
          refine grd_decf rfl (fun h3 => ?_) fun h3 => ?_ <;> simp only [push_cast, reduceIte, Nat.reduceEqDiff, Nat.reduceAdd, Nat.reduceSub, Nat.reduceMul, Nat.reduceBEq, Nat.reduceLT, Nat.reduceLeDiff, reduceCtorEq, Int.reduceToNat, Int.reduceNeg]
          · simp [h2, h3]
          refine cal_sub (by rw [hE]; exact hsu) (by simp only [push_cast, reduceIte, Nat.reduceEqDiff, Nat.reduceAdd, Nat.reduceSub, Nat.reduceMul, Nat.reduceBEq, Nat.reduceLT, Nat.reduceLeDiff, reduceCtorEq, Int.reduceToNat, Int.reduceNeg]) ?_
          simp only [push_cast, reduceIte, Nat.reduceEqDiff, Nat.reduceAdd, Nat.reduceSub, Nat.reduceMul, Nat.reduceBEq, Nat.reduceLT, Nat.reduceLeDiff, reduceCtorEq, Int.reduceToNat, Int.reduceNeg]
          simp [h2, h3]
        · simp [h2]
      simp only [stI_eq, push_cast, reduceIte, Nat.reduceEqDiff, Nat.reduceAdd, Nat.reduceSub, Nat.reduceMul, Nat.reduceBEq, Nat.reduceLT, Nat.reduceLeDiff, reduceCtorEq, Int.reduceToNat, Int.reduceNeg]
      refine cond_dec (fun h2 => ?_) fun h2 => ?_
      · rw [if_pos h2]
        trivial
      · rw [if_neg h2]
        refine clm_of (FnM.only [16, 301, 302, 304, 309, 310, 311, 312, 320, 321, 325, 326, 332, 333, 409, 412, 414] [304, 406, 408, 409, 412, 413, 414] [705] [] (setA_ok E hE (by omega) j fx n k t total now bef np pi fr o t fr at_ hn hk ?_)) ?_
        · rcases ho with ho | ho
          · omega
          · subst ho; simp at hn; omega
        rintro rv _ ⟨rfl, rfl⟩
        simp only [stI_eq, cbI_eq, push_cast, reduceIte, Nat.reduceEqDiff, Nat.reduceAdd, Nat.reduceSub, Nat.reduceMul, Nat.reduceBEq, Nat.reduceLT, Nat.reduceLeDiff, reduceCtorEq, Int.reduceToNat, Int.reduceNeg]
        rfl
  refine FnM.mono (FnM.postB (fun rv => match rv with | .tup (.sc _ :: _) => [304] | _ => [304, 406, 408, 409, 412, 413, 414]) key) ?_
  rintro rv _ ⟨st1, h1, rfl⟩
  unfold exQ
  revert h1
  cases exchF j fx at_ k t with
  | none => rintro ⟨rfl, h2⟩; exact ⟨rfl, h2⟩
  | some a => rintro ⟨rfl, h2⟩; exact ⟨rfl, h2⟩
end Go.Proofs.Ytbdamnfkgdbidaa
namespace Go.Proofs.Ytbdamnfkgdbidaa
open Go Go.Vc Txt
theorem suitsR_rng {j : Job} {b t : Int} (h : suitsR j b t = true) : 0 ≤ b ∧ b < j.p.blocks.length ∧ 0 ≤ t ∧ t < j.g.w * j.g.h := by
  unfold suitsR at h
  split at h
  · cases h
  · omega
theorem fidx_spec {p : Int → Bool} {l : List Int} (h : 0 ≤ fidx p l) : ∃ k : Nat, fidx p l = k ∧ ∃ hk : k < l.length, p l[k] = true ∧ ∀ i, ∀ hi : i < k, p (l[i]'(by omega)) = false := by
  unfold fidx at h ⊢
  cases hf : l.findIdx? p with
  | none => rw [hf] at h; simp at h
  | some k =>
    obtain ⟨h1, h2, h3⟩ := List.findIdx?_eq_some_iff_getElem.1 hf
    exact ⟨k, rfl, h1, h2, fun i hi => by have := h3 i hi; simpa using this⟩
theorem fidx_neg {p : Int → Bool} {l : List Int} (h : ¬ 0 ≤ fidx p l) : ∀ x ∈ l, p x = false := by
  rw [fidx_nonneg] at h
  intro x hx
  cases hp : p x
  · rfl
  · exact absurd (List.any_eq_true.2 ⟨x, hx, hp⟩) h
theorem nodup_get {l : List Int} : l.Nodup ↔ ∀ i j (hi : i < l.length) (hj : j < l.length), i < j → l[i] ≠ l[j] := List.pairwise_iff_getElem
theorem nodup_inj {l : List Int} (h : l.Nodup) {i j : Nat} (hi : i < l.length) (hj : j < l.length) (e : l[i] = l[j]) : i = j := by
  have h := nodup_get.1 h
  rcases Nat.lt_trichotomy i j with h1 | h1 | h1
  · exact absurd e (h i j hi hj h1)
  · exact h1
  · exact absurd e.symm (h j i hj hi h1)
theorem nodup_set {l : List Int} (h : l.Nodup) {k : Nat} {x : Int} (hx : x ∉ l) : (l.set k x).Nodup := by
  refine nodup_get.2 fun i j hi hj hij => ?_
  rw [List.length_set] at hi hj
  rw [List.getElem_set, List.getElem_set]
  split <;> split
  · omega
  · intro e; exact hx (e ▸ List.getElem_mem hj)
  · intro e; exact hx (e ▸ List.getElem_mem hi)
  · exact nodup_get.1 h i j hi hj hij
theorem nodup_swap {l : List Int} (h : l.Nodup) {k o : Nat} (hk : k < l.length) (ho : o < l.length) : ((l.set k l[o]).set o l[k]).Nodup := by
  refine nodup_get.2 fun i j hi hj hij => ?_
  simp only [List.length_set] at hi hj
  simp only [List.getElem_set]
  intro e
  split at e <;> split at e <;> (try split at e) <;> (try split at e) <;> (have := nodup_inj h (by omega) (by omega) e; omega)
theorem exch_isPl {j : Job} {fx at_ a : List Int} {k t : Nat} (hp : IsPl j at_) (hk : k < at_.length) (h : exchF j fx at_ k t = some a) : IsPl j a := by
  unfold exchF at h
  simp only at h
  split at h
  · cases h
  rename_i h1
  split at h
  · cases h
  rename_i h2
  have hs : suitsR j k t = true := by cases hc : suitsR j k t <;> simp_all
  have ht := suitsR_rng hs
  have hg : at_.getD k default = at_[k] := by simp [hk]
  rw [hg] at h1 h2 h
  injection h with h
  subst h
  split
  · rename_i ho
    obtain ⟨i, e, hi, hpi, _⟩ := fidx_spec ho
    rw [e, Int.toNat_natCast]
    have hpi : at_[i] = t := by simpa using hpi
    have hki : k ≠ i := fun e => by subst e; exact h1 (.inl (by rw [hpi]))
    refine ⟨by simpa using hp.1, ?_, ?_⟩
    · intro x hx
      rcases List.mem_or_eq_of_mem_set hx with hx | rfl
      · rcases List.mem_or_eq_of_mem_set hx with hx | rfl
        · exact hp.2.1 x hx
        · omega
      · exact hp.2.1 _ (List.getElem_mem hk)
    · rw [← hpi]; exact nodup_swap hp.2.2 hk hi
  · rename_i ho
    have hno := fidx_neg ho
    refine ⟨by simpa using hp.1, ?_, nodup_set hp.2.2 fun hx => by have := hno _ hx; simp at this⟩
    intro x hx
    rcases List.mem_or_eq_of_mem_set hx with hx | rfl
    · exact hp.2.1 x hx
    · omega
theorem exch_undo {j : Job} {fx at_ a : List Int} {k t : Nat} (hk : k < at_.length) (h : exchF j fx at_ k t = some a) :
    a.length = at_.length ∧ (if 0 ≤ fidx (fun x => decide (x = (t : Int))) at_ then (a.set k (at_.getD k default)).set (fidx (fun x => decide (x = (t : Int))) at_).toNat t else a.set k (at_.getD k default)) = at_ := by
  unfold exchF at h
  simp only at h
  split at h
  · cases h
  rename_i h1
  split at h
  · cases h
  have hg : at_.getD k default = at_[k] := by simp [hk]
  rw [hg] at h1 h ⊢
  injection h with h
  subst h
  split
  · rename_i ho
    obtain ⟨i, e, hi, hpi, _⟩ := fidx_spec ho
    rw [e, Int.toNat_natCast]
    have hpi : at_[i] = t := by simpa using hpi
    have hki : k ≠ i := fun e => by subst e; exact h1 (.inl (by rw [hpi]))
    refine ⟨by simp, List.ext_getElem (by simp) fun m h3 h4 => ?_⟩
    simp only [List.getElem_set]
    split
    · rename_i e; subst e; exact hpi.symm
    · split
      · rename_i e; subst e; rfl
      · rfl
  · refine ⟨by simp, List.ext_getElem (by simp) fun m h3 h4 => ?_⟩
    simp only [List.getElem_set]
    split
    · rename_i e; subst e; rfl
    · rfl
abbrev Im := List Int × Int × Int
def tileStep (j : Job) (fx : List Int) (k : Nat) (s : Im) (t : Nat) : Im :=
  match exchF j fx s.1 k t with
  | none => s
  | some a => if costF j a < s.2.1 then (a, costF j a, s.2.2 + 1) else s
def blockStep (j : Job) (fx : List Int) (s : Im) (k : Nat) : Im := (List.range j.g.kind.length).foldl (tileStep j fx k) s
def passStep (j : Job) (fx : List Int) (n : Nat) (s : Im) : Im := (List.range n).foldl (blockStep j fx) s
def passesF (j : Job) (fx : List Int) (n : Nat) : Nat → Im → Im
  | 0, s => s
  | p + 1, s => let s' := passStep j fx n s; if s'.2.2 = s.2.2 then s' else passesF j fx n p s'
def improveF (j : Job) (fx at_ : List Int) (passes : Nat) : Im := passesF j fx at_.length passes (at_, costF j at_, 0)
structure ImOk (j : Job) (at0 : List Int) (s : Im) : Prop where
  pl : IsPl j s.1
  len : s.1.length = at0.length
  cost : s.2.1 = costF j s.1
  tot : 0 ≤ s.2.2
  low : s.2.2 + s.2.1 ≤ costF j at0
theorem costF_bd {j : Job} (hj : j.Ok) {at_ : List Int} (hp : IsPl j at_) : -4100000000000 ≤ costF j at_ ∧ costF j at_ ≤ 4100000000000 := by
  obtain ⟨h1, h2⟩ := foldF_bd hj hp
  have key : ∀ L : EM, (∀ x ∈ L, Bd x.2) → -4000004 * (L.length : Int) ≤ emLen L ∧ emLen L ≤ 4000004 * (L.length : Int) := by
    intro L
    induction L with
    | nil => intro _; exact ⟨by simp [emLen], by simp [emLen]⟩
    | cons x r ih =>
      intro h
      have h3 := ih fun y hy => h y (List.mem_cons_of_mem _ hy)
      obtain ⟨b1, b2, b3, b4⟩ := h x List.mem_cons_self
      have e : emLen (x :: r) = extLen x.2 + emLen r := by simp [emLen]
      have e2 : extLen x.2 = x.2.x1 - x.2.x0 + x.2.y1 - x.2.y0 := rfl
      simp only [List.length_cons]
      omega
  have h3 := key _ h1
  unfold costF
  omega
theorem tileStep_ok {j : Job} {fx at0 : List Int} {k : Nat} {s : Im} (h : ImOk j at0 s) (hk : k < at0.length) (t : Nat) : ImOk j at0 (tileStep j fx k s t) := by
  unfold tileStep
  cases he : exchF j fx s.1 k t with
  | none => exact h
  | some a =>
    simp only
    split
    · rename_i hc
      have h1 := h.len
      exact ⟨exch_isPl h.pl (by omega) he, by show a.length = _; rw [(exch_undo (by omega) he).1, h1], rfl, by have := h.tot; show 0 ≤ s.2.2 + 1; omega, by have := h.low; show s.2.2 + 1 + costF j a ≤ _; omega⟩
    · exact h
theorem tiles_ok {j : Job} {fx at0 : List Int} {k : Nat} (hk : k < at0.length) : ∀ (l : List Nat) {s : Im}, ImOk j at0 s → ImOk j at0 (l.foldl (tileStep j fx k) s)
  | [], _, h => h
  | t :: l, _, h => tiles_ok hk l (tileStep_ok h hk t)
theorem blocks_ok {j : Job} {fx at0 : List Int} : ∀ (l : List Nat) {s : Im}, (∀ k ∈ l, k < at0.length) → ImOk j at0 s → ImOk j at0 (l.foldl (blockStep j fx) s)
  | [], _, _, h => h
  | k :: l, _, hl, h => blocks_ok l (fun m hm => hl m (List.mem_cons_of_mem _ hm)) (tiles_ok (hl k List.mem_cons_self) _ h)
theorem foldl_range_succ {α : Type} (f : α → Nat → α) (s : α) (n : Nat) : (List.range (n + 1)).foldl f s = f ((List.range n).foldl f s) n := by simp [List.range_succ]
theorem improve_ok (E : Env) (hE : E.p = Try.prog) (hkk : E.kk ≤ 300) (j : Job) (hj : j.Ok) (fx at0 : List Int) (hfx : (fx.length : Int) ≤ 1000000) (n passes : Nat) (hn : at0.length = n) (hps : passes ≤ 1000) (hp : IsPl j at0) :
    FnM E 72 [.agg (jobC false j), .view 705 0 n, .sl false 1 (ints fx), .int passes] ⟨[(16, .view 705 0 n)], [], [(705, ⟨1, 3, ints at0⟩)], []⟩
      (fun rv st' => rv = .int (improveF j fx at0 passes).2.2 ∧ st' = ⟨[(16, .view 705 0 n)], [], [(705, ⟨1, 3, ints (improveF j fx at0 passes).1⟩)], []⟩) := by
  have key : FnM E 72 [.agg (jobC false j), .view 705 0 n, .sl false 1 (ints fx), .int passes] ⟨[(16, .view 705 0 n)], [], [(705, ⟨1, 3, ints at0⟩)], []⟩
      (fun rv st' => rv = .int (improveF j fx at0 passes).2.2 ∧ st'.onlyB [] = ⟨[(16, .view 705 0 n)], [], [(705, ⟨1, 3, ints (improveF j fx at0 passes).1⟩)], []⟩) := by
    refine fnM_of 300 (by rw [hE]; exact Try.func72) (by rw [hE]; exact ok72_300) (by show 4 ≤ _; decide) rfl hkk ?_
    simp only [ac72_300, rv72_300, push_cast, reduceIte, Nat.reduceEqDiff, Nat.reduceAdd, Nat.reduceSub, Nat.reduceMul, Nat.reduceBEq, Nat.reduceLT, Nat.reduceLeDiff, reduceCtorEq, Int.reduceToNat, Int.reduceNeg]
    rw [List.take_of_length_le (by omega)]
    refine cal_sub (by rw [hE]; exact cost_ok j hj at0 hp) (by simp only [push_cast, reduceIte, Nat.reduceEqDiff, Nat.reduceAdd, Nat.reduceSub, Nat.reduceMul, Nat.reduceBEq, Nat.reduceLT, Nat.reduceLeDiff, reduceCtorEq, Int.reduceToNat, Int.reduceNeg]) ?_
    simp only [push_cast, reduceIte, Nat.reduceEqDiff, Nat.reduceAdd, Nat.reduceSub, Nat.reduceMul, Nat.reduceBEq, Nat.reduceLT, Nat.reduceLeDiff, reduceCtorEq, Int.reduceToNat, Int.reduceNeg]
    subst hn
    have hb0 := costF_bd hj hp
    have hnb := hj.nb
    have hpl := hp.1
    have hkl := hj.kind
    have hwh := hj.wh
    refine loop_of (fun m st => ∃ (p : Nat) (s : Im), p ≤ passes ∧ m = passes - p ∧ ImOk j at0 s ∧ passesF j fx at0.length (passes - p) s = improveF j fx at0 passes ∧
      st = ⟨[(16, .view 705 0 at0.length), (301, .view 705 0 at0.length), (302, .sl false 1 (ints fx)), (304, .ptr 304 0), (309, .int s.2.2), (310, .int s.2.1), (320, .int passes), (321, .int p)], [(304, jobC false j)], [(705, ⟨1, 3, ints s.1⟩)], []⟩) passes ?_ ?_
    · refine ⟨0, (at0, costF j at0, 0), by omega, by omega, ⟨hp, rfl, rfl, by show (0 : Int) ≤ 0; omega, by show 0 + costF j at0 ≤ _; omega⟩, rfl, ?_⟩
      simp only [push_cast, reduceIte, Nat.reduceEqDiff, Nat.reduceAdd, Nat.reduceSub, Nat.reduceMul, Nat.reduceBEq, Nat.reduceLT, Nat.reduceLeDiff, reduceCtorEq, Int.reduceToNat, Int.reduceNeg]
    · rintro m st ⟨p, s, hp1, rfl, hs, hF, rfl⟩
      simp only [push_cast, reduceIte, Nat.reduceEqDiff, Nat.reduceAdd, Nat.reduceSub, Nat.reduceMul, Nat.reduceBEq, Nat.reduceLT, Nat.reduceLeDiff, reduceCtorEq, Int.reduceToNat, Int.reduceNeg]
      refine cond_dec (fun h1 => ?_) fun h1 => ?_
      · refine loop_of (fun m st => ∃ (k : Nat), k ≤ at0.length ∧ m = at0.length - k ∧ ImOk j at0 ((List.range k).foldl (blockStep j fx) s) ∧
          st = ⟨[(16, .view 705 0 at0.length), (301, .view 705 0 at0.length), (302, .sl false 1 (ints fx)), (304, .ptr 304 0), (309, .int ((List.range k).foldl (blockStep j fx) s).2.2), (310, .int ((List.range k).foldl (blockStep j fx) s).2.1), (311, .int s.2.2), (320, .int passes), (321, .int p), (325, .int at0.length), (326, .int k)], [(304, jobC false j)], [(705, ⟨1, 3, ints ((List.range k).foldl (blockStep j fx) s).1⟩)], []⟩) at0.length ?_ ?_
        · refine ⟨0, by omega, by omega, hs, ?_⟩
          simp only [push_cast, reduceIte, Nat.reduceEqDiff, Nat.reduceAdd, Nat.reduceSub, Nat.reduceMul, Nat.reduceBEq, Nat.reduceLT, Nat.reduceLeDiff, reduceCtorEq, Int.reduceToNat, Int.reduceNeg]
          rfl
        · rintro m st ⟨k, hk, rfl, hs1, rfl⟩
          have hsucc := foldl_range_succ (blockStep j fx) s k
          generalize hse : (List.range k).foldl (blockStep j fx) s = s1 at hs1 hsucc ⊢
          simp only [push_cast, reduceIte, Nat.reduceEqDiff, Nat.reduceAdd, Nat.reduceSub, Nat.reduceMul, Nat.reduceBEq, Nat.reduceLT, Nat.reduceLeDiff, reduceCtorEq, Int.reduceToNat, Int.reduceNeg]
          refine cond_dec (fun h2 => ?_) fun h2 => ?_
          · have hk' : k < at0.length := by omega
            refine loop_of (fun m st => ∃ (t : Nat), t ≤ j.g.kind.length ∧ m = j.g.kind.length - t ∧ ImOk j at0 ((List.range t).foldl (tileStep j fx k) s1) ∧
              st = stI j fx at0.length k t ((List.range t).foldl (tileStep j fx k) s1).2.2 ((List.range t).foldl (tileStep j fx k) s1).2.1 s.2.2 passes p [] [] ((List.range t).foldl (tileStep j fx k) s1).1) j.g.kind.length ?_ ?_
            · refine ⟨0, by omega, by omega, hs1, ?_⟩
              simp only [stI_eq, push_cast, reduceIte, Nat.reduceEqDiff, Nat.reduceAdd, Nat.reduceSub, Nat.reduceMul, Nat.reduceBEq, Nat.reduceLT, Nat.reduceLeDiff, reduceCtorEq, Int.reduceToNat, Int.reduceNeg]
              rfl
            · rintro m st ⟨t, ht, rfl, hs2, rfl⟩
              have hsucc2 := foldl_range_succ (tileStep j fx k) s1 t
              generalize hse2 : (List.range t).foldl (tileStep j fx k) s1 = s2 at hs2 hsucc2 ⊢
              simp only [stI_eq, push_cast, reduceIte, Nat.reduceEqDiff, Nat.reduceAdd, Nat.reduceSub, Nat.reduceMul, Nat.reduceBEq, Nat.reduceLT, Nat.reduceLeDiff, reduceCtorEq, Int.reduceToNat, Int.reduceNeg]
              refine cond_dec (fun h3 => ?_) fun h3 => ?_
              · have ht' : t < j.g.kind.length := by omega
                refine clm_of (FnM.only [16, 301, 302, 304, 309, 310, 311, 312, 320, 321, 325, 326, 332, 333] [304] [705] [] (exch_ok E hE (by omega) j fx at0.length k t s2.2.2 s2.2.1 s.2.2 passes p s2.1 hj hfx hs2.len (by omega) hk')) ?_
                intro rv st' hex
                unfold exQ at hex
                have hl2 := hs2.len
                cases he : exchF j fx s2.1 k t with
                | none =>
                  rw [he] at hex
                  obtain ⟨rfl, rfl⟩ := hex
                  simp only [stI_eq, push_cast, reduceIte, Nat.reduceEqDiff, Nat.reduceAdd, Nat.reduceSub, Nat.reduceMul, Nat.reduceBEq, Nat.reduceLT, Nat.reduceLeDiff, reduceCtorEq, Int.reduceToNat, Int.reduceNeg]
                  have hstep : tileStep j fx k s2 t = s2 := by unfold tileStep; rw [he]
                  rw [hstep] at hsucc2
                  refine ⟨⟨by omega, by omega⟩, _, ?_, t + 1, by omega, rfl, by rw [hsucc2]; exact hs2, ?_⟩
                  · omega
                  · rw [hsucc2]; simp
                | some a =>
                  rw [he] at hex
                  obtain ⟨rfl, rfl⟩ := hex
                  have hpa := exch_isPl hs2.pl (by omega) he
                  have hun := exch_undo (by omega) he
                  have hok := tileStep_ok hs2 hk' (fx := fx) t
                  have hcb := costF_bd hj hs2.pl
                  have hct := hs2.cost
                  have htl := hs2.low
                  have htt := hs2.tot
                  simp only [stI_eq, cbI_eq, push_cast, reduceIte, Nat.reduceEqDiff, Nat.reduceAdd, Nat.reduceSub, Nat.reduceMul, Nat.reduceBEq, Nat.reduceLT, Nat.reduceLeDiff, reduceCtorEq, Int.reduceToNat, Int.reduceNeg]
                  rw [List.take_of_length_le (by have := hun.1; omega)]
                  refine cal_sub (by rw [hE]; exact cost_ok j hj a hpa) (by simp only [push_cast, reduceIte, Nat.reduceEqDiff, Nat.reduceAdd, Nat.reduceSub, Nat.reduceMul, Nat.reduceBEq, Nat.reduceLT, Nat.reduceLeDiff, reduceCtorEq, Int.reduceToNat, Int.reduceNeg]) ?_
                  simp only [push_cast, reduceIte, Nat.reduceEqDiff, Nat.reduceAdd, Nat.reduceSub, Nat.reduceMul, Nat.reduceBEq, Nat.reduceLT, Nat.reduceLeDiff, reduceCtorEq, Int.reduceToNat, Int.reduceNeg]
                  refine cond_dec (fun h4 => ?_) fun h4 => ?_
                  · have hstep : tileStep j fx k s2 t = (a, costF j a, s2.2.2 + 1) := by unfold tileStep; rw [he]; simp only; rw [if_pos h4]
                    rw [hstep] at hsucc2 hok
                    refine ⟨⟨by omega, by omega⟩, ⟨by omega, by omega⟩, _, ?_, t + 1, by omega, rfl, by rw [hsucc2]; exact hok, ?_⟩
                    · omega
                    · rw [hsucc2]; simp
                  · have hstep : tileStep j fx k s2 t = s2 := by unfold tileStep; rw [he]; simp only; rw [if_neg h4]
                    rw [hstep] at hsucc2
                    have hol : fidx (fun x => decide (x = (t : Int))) s2.1 < at0.length := by
                      rcases fidx_lt (fun x => decide (x = (t : Int))) s2.1 with h5 | h5
                      · omega
                      · rw [h5] at hl2; simp at hl2; omega
                    refine clm_of (FnM.only [16, 301, 302, 304, 309, 310, 311, 312, 320, 321, 325, 326, 332, 333] [304, 406, 408, 409, 412, 413, 414] [705] [] (undo_ok E hE (by omega) j fx at0.length k t s2.2.2 s2.2.1 s.2.2 passes p (s2.1.getD k default) (fidx (fun x => decide (x = (t : Int))) s2.1) a (by omega) hk' hol)) ?_
                    rintro rv _ ⟨rfl, rfl⟩
                    rw [hun.2]
                    simp only [stI_eq, cbI_eq, push_cast, reduceIte, Nat.reduceEqDiff, Nat.reduceAdd, Nat.reduceSub, Nat.reduceMul, Nat.reduceBEq, Nat.reduceLT, Nat.reduceLeDiff, reduceCtorEq, Int.reduceToNat, Int.reduceNeg]
                    refine ⟨⟨by omega, by omega⟩, _, ?_, t + 1, by omega, rfl, by rw [hsucc2]; exact hs2, ?_⟩
                    · omega
                    · rw [hsucc2]; simp
              · have htt : t = j.g.kind.length := by omega
                subst htt
                have hb : blockStep j fx s1 k = s2 := hse2
                rw [hb] at hsucc
                refine ⟨⟨by omega, by omega⟩, _, ?_, k + 1, by omega, rfl, by rw [hsucc]; exact hs2, ?_⟩
                · omega
                · rw [hsucc]; simp
          · have hkk' : k = at0.length := by omega
            subst hkk'
            obtain ⟨q, hq⟩ : ∃ q, passes - p = q + 1 := ⟨passes - p - 1, by omega⟩
            rw [hq] at hF
            simp only [passesF, passStep, hse] at hF
            refine cond_dec (fun h3 => ?_) fun h3 => ?_
            · rw [if_pos h3] at hF
              rw [← hF]; exact ⟨rfl, rfl⟩
            · rw [if_neg h3] at hF
              refine ⟨⟨by omega, by omega⟩, _, ?_, p + 1, s1, by omega, rfl, hs1, by rw [show passes - (p + 1) = q by omega]; exact hF, ?_⟩
              · omega
              · simp
      · rw [show passes - p = 0 by omega] at hF
        simp only [passesF] at hF
        rw [← hF]; exact ⟨rfl, rfl⟩
  refine FnM.mono (FnM.postB (fun _ => []) key) ?_
  rintro rv _ ⟨st1, ⟨h1, h2⟩, rfl⟩
  exact ⟨h1, h2⟩
end Go.Proofs.Ytbdamnfkgdbidaa
