/- ZJ ZK ZL ZM ZN ZO ZP ZT ZW ZQ ZR TxtL: lemmas for PRefuses -/
import Derived.Test.YtledbjkolidhkaaPart13
import Derived.Test.YtledbjkolidhkaaPart06
import Derived.Test.YtledbjkolidhkaaChecked
set_option linter.unusedSimpArgs false
set_option linter.unusedVariables false
namespace Go.Proofs.Ytledbjkolidhkaa
open Go Go.Vc Txt
def tripC (x : Int × Int × Int) : List PV := [.sc (.int .u8 x.1), .sc (.int .u8 x.2.1), .sc (.int .u8 x.2.2)]
@[push_cast] theorem tripC_eq (x : Int × Int × Int) : tripC x = [.sc (.int .u8 x.1), .sc (.int .u8 x.2.1), .sc (.int .u8 x.2.2)] := rfl
def mkB (x : Int × Int × Int) : Block := ⟨[], 256 * x.2.1 + x.2.2, if x.2.1 % 3 = 2 then x.2.2 % 16 else -1, if x.2.1 % 3 = 1 then x.2.2 % 24 else -1, 0⟩
def blkS (g : Grid) (a : List Block × List Int) (x : Int × Int × Int) : List Block × List Int :=
  if x.1 % (g.w * g.h) ∉ a.2 ∧ BlockFit g (mkB x) (x.1 % (g.w * g.h)) then (a.1 ++ [mkB x], a.2 ++ [x.1 % (g.w * g.h)]) else a
def blkN (g : Grid) (l : List (Int × Int × Int)) : Nat → List Block × List Int
  | 0 => ([], [])
  | k + 1 => blkS g (blkN g l k) (l.getD k default)
def blkF (g : Grid) (l : List (Int × Int × Int)) : List Block × List Int := blkN g l (min l.length 12)
structure BlkOk (g : Grid) (a : List Block × List Int) : Prop where
  len : a.2.length = a.1.length
  fit : ∀ z ∈ a.1.zip a.2, BlockFit g z.1 z.2
  nod : a.2.Nodup
  pl : ∀ b ∈ a.1, b.ins = [] ∧ b.key = 0
theorem blkS_ok {g : Grid} {a : List Block × List Int} {x : Int × Int × Int} (h : BlkOk g a) : BlkOk g (blkS g a x) ∧ (blkS g a x).1.length ≤ a.1.length + 1 := by
  obtain ⟨h1, h2, h3, h4⟩ := h
  unfold blkS
  split
  · rename_i e
    refine ⟨⟨by simp [h1], fun z hz => ?_, ?_, fun b hb => ?_⟩, by simp⟩
    · rw [List.zip_append h1.symm, List.mem_append] at hz
      rcases hz with hz | hz
      · exact h2 z hz
      · simp at hz
        rw [hz]; exact e.2
    · exact List.nodup_append.2 ⟨h3, by simp, by intro a ha b hb h; simp at hb; subst hb; subst h; exact e.1 ha⟩
    · rw [List.mem_append, List.mem_singleton] at hb
      rcases hb with hb | rfl
      · exact h4 b hb
      · exact ⟨rfl, rfl⟩
  · exact ⟨⟨h1, h2, h3, h4⟩, by omega⟩
theorem blkN_ok (g : Grid) (l : List (Int × Int × Int)) : ∀ k, BlkOk g (blkN g l k) ∧ (blkN g l k).1.length ≤ k
  | 0 => ⟨⟨rfl, by simp [blkN], .nil, by simp [blkN]⟩, by simp [blkN]⟩
  | k + 1 => by
    obtain ⟨h1, h2⟩ := blkN_ok g l k
    obtain ⟨h3, h4⟩ := blkS_ok (x := l.getD k default) h1
    exact ⟨h3, by rw [blkN]; omega⟩
def blkR (b : Block) : List PV := [.nil, .int b.table, .int b.ram, .int b.reg, .sc (.int .u64 0)]
@[push_cast] theorem blkR_eq (b : Block) : blkR b = [.nil, .int b.table, .int b.ram, .int b.reg, .sc (.int .u64 0)] := rfl
theorem blkR_sub (q : Bool) {bs : List Block} (h : ∀ b ∈ bs, b.ins = [] ∧ b.key = 0) : Sub (.sl true 5 (rows blkR bs)) (.sl q 5 (rows (blockC q) bs)) :=
  Sub.slR 5 (fun _ => rfl) (SubR.map blkR (blockC q) bs fun b hb => by
    obtain ⟨h1, h2⟩ := h b hb
    rw [blkR_eq, blockC_eq, h1, h2]
    exact ⟨.nil _ _, .refl _, .refl _, .refl _, .refl _, trivial⟩)
def desN (g : Grid) (bs : List Block) (ts : List Int) (r : PV) : List PV := gridC true g ++ [.nil, .sl true 5 (rows (blockC true) bs), .nil, .nil, .sl true 1 (ints ts), r]
@[push_cast] theorem desN_eq (g : Grid) (bs : List Block) (ts : List Int) (r : PV) : desN g bs ts r = gridC true g ++ [.nil, .sl true 5 (rows (blockC true) bs), .nil, .nil, .sl true 1 (ints ts), r] := rfl
def lvB (id : Nat) : List Block → PV
  | [] => .nil
  | _ :: l => .view id 0 (l.length + 1)
def laB (id : Nat) : List Block → List (Nat × Arr)
  | [] => []
  | x :: l => [(id, ⟨5, 76, rows blkR (x :: l)⟩)]
@[push_cast] theorem lvB_nil (id : Nat) : lvB id [] = .nil := rfl
@[push_cast] theorem lvB_cons (id : Nat) (x : Block) (l : List Block) : lvB id (x :: l) = .view id 0 (l.length + 1) := rfl
@[push_cast] theorem laB_nil (id : Nat) : laB id [] = [] := rfl
@[push_cast] theorem laB_cons (id : Nat) (x : Block) (l : List Block) : laB id (x :: l) = [(id, ⟨5, 76, rows blkR (x :: l)⟩)] := rfl
theorem indexF_neg {l : List Int} {n : Int} : indexF l n < 0 ↔ n ∉ l := by
  unfold indexF
  split
  · rename_i h; exact ⟨fun h2 => by omega, fun h2 => absurd h h2⟩
  · rename_i h; exact ⟨fun _ => h, fun _ => by omega⟩
set_option maxHeartbeats 4000000 in
theorem rblocks_ok (g : Grid) (hg : GOk g) (l : List (Int × Int × Int)) (hl : (l.length : Int) ≤ 9223372036854775807) (hb : ∀ x ∈ l, (0 ≤ x.1 ∧ x.1 ≤ 255) ∧ (0 ≤ x.2.1 ∧ x.2.1 ≤ 255) ∧ (0 ≤ x.2.2 ∧ x.2.2 ≤ 255)) :
    FnEq Try.prog 34 [.agg [.int g.w, .int g.h, .int g.tracks, .int g.pads, .sl true 1 (ints g.kind), .nil, .nil, .nil, .nil, .nil, .nil], .sl false 3 (rows tripC l)]
      (.agg (desN g (blkF g l).1 (blkF g l).2 .nil)) := by
  have hw := hg.wh
  have hkd := hg.kind
  refine FnEq.of_awp Try.func34 ok34 (by show 2 ≤ _; decide) (by simp only [push_cast, reduceIte, Nat.reduceEqDiff, Nat.reduceAdd, Nat.reduceSub, Nat.reduceMul, Nat.reduceBEq, Nat.reduceLT, Nat.reduceLeDiff, reduceCtorEq, Int.reduceToNat, Int.reduceNeg] <;> first | exact fun _ _ => trivial | simp) ?_
  simp only [ac34, rv34, push_cast, reduceIte, Nat.reduceEqDiff, Nat.reduceAdd, Nat.reduceSub, Nat.reduceMul, Nat.reduceBEq, Nat.reduceLT, Nat.reduceLeDiff, reduceCtorEq, Int.reduceToNat, Int.reduceNeg]
  refine loop_of (fun m st => ∃ k : Nat, k ≤ min l.length 12 ∧ m = min l.length 12 - k ∧ st = ⟨[(1, .sl false 3 (rows tripC l)), (2, .ptr 2 0), (4, .ptr 4 0), (5, .int k)],
    [(2, [.int g.w, .int g.h, .int g.tracks, .int g.pads, .sl true 1 (ints g.kind), .nil, lvB 91 (blkN g l k).1, .nil, .nil, lvN 99 (blkN g l k).2, .nil]), (4, [.int 0, .int 0, .int 0, .int 0, .nil, .nil, .nil, .nil, .nil, .nil, .nil])], laB 91 (blkN g l k).1 ++ laN 99 (blkN g l k).2, []⟩) (min l.length 12) ?_ ?_
  · refine ⟨0, by omega, by omega, ?_⟩
    simp only [blkN, List.nil_append, push_cast, reduceIte, Nat.reduceEqDiff, Nat.reduceAdd, Nat.reduceSub, Nat.reduceMul, Nat.reduceBEq, Nat.reduceLT, Nat.reduceLeDiff, reduceCtorEq, Int.reduceToNat, Int.reduceNeg]
  rintro m st ⟨k, hk, rfl, rfl⟩
  obtain ⟨⟨q1, q2, q3, q4⟩, q5⟩ := blkN_ok g l k
  have hS : blkN g l (k + 1) = blkS g (blkN g l k) (l.getD k default) := rfl
  have hF : blkF g l = blkN g l (min l.length 12) := rfl
  have hbk : (0 ≤ (l.getD k default).1 ∧ (l.getD k default).1 ≤ 255) ∧ (0 ≤ (l.getD k default).2.1 ∧ (l.getD k default).2.1 ≤ 255) ∧ (0 ≤ (l.getD k default).2.2 ∧ (l.getD k default).2.2 ≤ 255) := by
    by_cases h : k < l.length
    · exact hb _ (by simp [List.getD_eq_getElem?_getD, h])
    · rw [List.getD_eq_getElem?_getD, List.getElem?_eq_none (by omega)]; decide
  obtain ⟨B, hB⟩ : ∃ B, B = decide (k < l.length ∧ k < 12) := ⟨_, rfl⟩
  rcases ha : blkN g l k with ⟨bs, ts⟩
  rw [ha] at q1 q2 q3 q4 q5 hS
  simp only at q1 q2 q3 q4 q5 ⊢
  rcases bs with _ | ⟨y, bs⟩
  · obtain rfl : ts = [] := List.length_eq_zero_iff.1 q1
    simp only [List.nil_append, push_cast, reduceIte, Nat.reduceEqDiff, Nat.reduceAdd, Nat.reduceSub, Nat.reduceMul, Nat.reduceBEq, Nat.reduceLT, Nat.reduceLeDiff, reduceCtorEq, Int.reduceToNat, Int.reduceNeg]
    refine cut_of ⟨[(1, .sl false 3 (rows tripC l)), (2, .ptr 2 0), (4, .ptr 4 0), (5, .int k), (15, .bool B)],
      [(2, [.int g.w, .int g.h, .int g.tracks, .int g.pads, .sl true 1 (ints g.kind), .nil, .nil, .nil, .nil, .nil, .nil]), (4, [.int 0, .int 0, .int 0, .int 0, .nil, .nil, .nil, .nil, .nil, .nil, .nil])], [], []⟩ ?_ ?_
    · refine grd_dec rfl (fun e1 => ?_) fun e1 => ?_ <;> simp only [push_cast, reduceIte, Nat.reduceEqDiff, Nat.reduceAdd, Nat.reduceSub, Nat.reduceMul, Nat.reduceBEq, Nat.reduceLT, Nat.reduceLeDiff, reduceCtorEq, Int.reduceToNat, Int.reduceNeg]
      · rw [show B = decide ((k : Int) < 12) from by rw [hB, decide_eq_decide]; omega]
      · rw [show B = false from by rw [hB]; exact decide_eq_false (by omega)]
    simp only [push_cast, reduceIte, Nat.reduceEqDiff, Nat.reduceAdd, Nat.reduceSub, Nat.reduceMul, Nat.reduceBEq, Nat.reduceLT, Nat.reduceLeDiff, reduceCtorEq, Int.reduceToNat, Int.reduceNeg]
    refine cond_of (fun e => ?_) fun e => ?_
    rotate_left
    · rw [hB, decide_eq_false_iff_not] at e
      rw [hF, show min l.length 12 = k by omega, ha]
      simp only [push_cast, reduceIte, Nat.reduceEqDiff, Nat.reduceAdd, Nat.reduceSub, Nat.reduceMul, Nat.reduceBEq, Nat.reduceLT, Nat.reduceLeDiff, reduceCtorEq, Int.reduceToNat, Int.reduceNeg]
      exact fun _ _ => trivial
    rw [hB, decide_eq_true_eq] at e
    obtain ⟨e1, e2⟩ := e
    generalize hx : l.getD k default = x at *
    obtain ⟨x1, x2, x3⟩ := x
    have h1 := Int.emod_nonneg x1 (show g.w * g.h ≠ 0 by omega)
    have h2 := Int.emod_lt_of_pos x1 (show 0 < g.w * g.h by omega)
    simp only [blkS] at hbk hS
    simp only
    generalize x1 % (g.w * g.h) = t at *
    repeat (refine And.intro (by omega) ?_)
    have hG : Sub (.agg [.int g.w, .int g.h, .int g.tracks, .int g.pads, .sl true 1 (ints g.kind)]) (.agg (gridC false g)) := Sub.aggL ⟨.refl _, .refl _, .refl _, .refl _, .slp _ _ _ _ (fun h => by cases h), trivial⟩
    refine cond_dec (fun e3 => ?_) fun e3 => ?_
    · have hm : mkB (x1, x2, x3) = ⟨[], 256 * x2 + x3, -1, x3 % 24, 0⟩ := by simp only [mkB]; rw [if_pos e3, if_neg (by omega)]
      repeat (refine And.intro (by omega) ?_)
      refine cal_sub (index_ok ([]) (by simp only [List.length_nil, List.length_cons]; omega) t) ⟨.nil _ _, .refl _, trivial⟩ ?_
      refine cut_of ⟨[(1, .sl false 3 (rows tripC l)), (2, .ptr 2 0), (4, .ptr 4 0), (5, .int k), (6, .int t), (7, .ptr 7 0), (85, .bool (decide (t ∉ [] ∧ BlockFit g (mkB (x1, x2, x3)) t)))],
            [(2, [.int g.w, .int g.h, .int g.tracks, .int g.pads, .sl true 1 (ints g.kind), .nil, .nil, .nil, .nil, .nil, .nil]), (4, [.int 0, .int 0, .int 0, .int 0, .nil, .nil, .nil, .nil, .nil, .nil, .nil]), (7, blkR (mkB (x1, x2, x3)))], [], []⟩ ?_ ?_
      · simp only [push_cast, reduceIte, Nat.reduceEqDiff, Nat.reduceAdd, Nat.reduceSub, Nat.reduceMul, Nat.reduceBEq, Nat.reduceLT, Nat.reduceLeDiff, reduceCtorEq, Int.reduceToNat, Int.reduceNeg]
        refine grd_dec rfl (fun e5 => ?_) fun e5 => ?_ <;> simp only [push_cast, reduceIte, Nat.reduceEqDiff, Nat.reduceAdd, Nat.reduceSub, Nat.reduceMul, Nat.reduceBEq, Nat.reduceLT, Nat.reduceLeDiff, reduceCtorEq, Int.reduceToNat, Int.reduceNeg]
        · refine cal_sub (rblock_ok g hg (mkB (x1, x2, x3)) t) ⟨hG, Sub.aggL (by rw [hm]; exact ⟨.nil _ _, .refl _, .refl _, .refl _, .refl _, trivial⟩), .refl _, trivial⟩ ?_
          simp only [hm, push_cast, reduceIte, Nat.reduceEqDiff, Nat.reduceAdd, Nat.reduceSub, Nat.reduceMul, Nat.reduceBEq, Nat.reduceLT, Nat.reduceLeDiff, reduceCtorEq, Int.reduceToNat, Int.reduceNeg]
          rw [show decide (t ∉ [] ∧ BlockFit g ⟨[], 256 * x2 + x3, (-1), (x3 % 24), 0⟩ t) = decide (BlockFit g ⟨[], 256 * x2 + x3, (-1), (x3 % 24), 0⟩ t) from by rw [decide_eq_decide]; exact ⟨fun h => h.2, fun h => ⟨indexF_neg.1 e5, h⟩⟩]
        · simp only [hm, push_cast, reduceIte, Nat.reduceEqDiff, Nat.reduceAdd, Nat.reduceSub, Nat.reduceMul, Nat.reduceBEq, Nat.reduceLT, Nat.reduceLeDiff, reduceCtorEq, Int.reduceToNat, Int.reduceNeg]
          rw [show decide (t ∉ [] ∧ BlockFit g ⟨[], 256 * x2 + x3, (-1), (x3 % 24), 0⟩ t) = false from decide_eq_false fun h => e5 (indexF_neg.2 h.1)]
      simp only [push_cast, reduceIte, Nat.reduceEqDiff, Nat.reduceAdd, Nat.reduceSub, Nat.reduceMul, Nat.reduceBEq, Nat.reduceLT, Nat.reduceLeDiff, reduceCtorEq, Int.reduceToNat, Int.reduceNeg]
      refine cond_dec (fun e6 => ?_) fun e6 => ?_
      · rw [if_pos e6] at hS
        refine ⟨by simp, ?_⟩
        simp only [rows_one, push_cast, reduceIte, Nat.reduceEqDiff, Nat.reduceAdd, Nat.reduceSub, Nat.reduceMul, Nat.reduceBEq, Nat.reduceLT, Nat.reduceLeDiff, reduceCtorEq, Int.reduceToNat, Int.reduceNeg]
        refine ⟨by omega, _, ?_, k + 1, by omega, rfl, ?_⟩
        · omega
        · rw [hS]
          simp only [rows_one, List.nil_append, List.cons_append, push_cast, reduceIte, Nat.reduceEqDiff, Nat.reduceAdd, Nat.reduceSub, Nat.reduceMul, Nat.reduceBEq, Nat.reduceLT, Nat.reduceLeDiff, reduceCtorEq, Int.reduceToNat, Int.reduceNeg]
      · rw [if_neg e6] at hS
        refine ⟨by omega, _, ?_, k + 1, by omega, rfl, ?_⟩
        · omega
        · rw [hS]
          simp only [List.cons_append, List.nil_append, push_cast, reduceIte, Nat.reduceEqDiff, Nat.reduceAdd, Nat.reduceSub, Nat.reduceMul, Nat.reduceBEq, Nat.reduceLT, Nat.reduceLeDiff, reduceCtorEq, Int.reduceToNat, Int.reduceNeg]
    refine cond_dec (fun e4 => ?_) fun e4 => ?_
    · have hm : mkB (x1, x2, x3) = ⟨[], 256 * x2 + x3, x3 % 16, -1, 0⟩ := by simp only [mkB]; rw [if_neg e3, if_pos e4]
      repeat (refine And.intro (by omega) ?_)
      refine cal_sub (index_ok ([]) (by simp only [List.length_nil, List.length_cons]; omega) t) ⟨.nil _ _, .refl _, trivial⟩ ?_
      refine cut_of ⟨[(1, .sl false 3 (rows tripC l)), (2, .ptr 2 0), (4, .ptr 4 0), (5, .int k), (6, .int t), (7, .ptr 7 0), (85, .bool (decide (t ∉ [] ∧ BlockFit g (mkB (x1, x2, x3)) t)))],
            [(2, [.int g.w, .int g.h, .int g.tracks, .int g.pads, .sl true 1 (ints g.kind), .nil, .nil, .nil, .nil, .nil, .nil]), (4, [.int 0, .int 0, .int 0, .int 0, .nil, .nil, .nil, .nil, .nil, .nil, .nil]), (7, blkR (mkB (x1, x2, x3)))], [], []⟩ ?_ ?_
      · simp only [push_cast, reduceIte, Nat.reduceEqDiff, Nat.reduceAdd, Nat.reduceSub, Nat.reduceMul, Nat.reduceBEq, Nat.reduceLT, Nat.reduceLeDiff, reduceCtorEq, Int.reduceToNat, Int.reduceNeg]
        refine grd_dec rfl (fun e5 => ?_) fun e5 => ?_ <;> simp only [push_cast, reduceIte, Nat.reduceEqDiff, Nat.reduceAdd, Nat.reduceSub, Nat.reduceMul, Nat.reduceBEq, Nat.reduceLT, Nat.reduceLeDiff, reduceCtorEq, Int.reduceToNat, Int.reduceNeg]
        · refine cal_sub (rblock_ok g hg (mkB (x1, x2, x3)) t) ⟨hG, Sub.aggL (by rw [hm]; exact ⟨.nil _ _, .refl _, .refl _, .refl _, .refl _, trivial⟩), .refl _, trivial⟩ ?_
          simp only [hm, push_cast, reduceIte, Nat.reduceEqDiff, Nat.reduceAdd, Nat.reduceSub, Nat.reduceMul, Nat.reduceBEq, Nat.reduceLT, Nat.reduceLeDiff, reduceCtorEq, Int.reduceToNat, Int.reduceNeg]
          rw [show decide (t ∉ [] ∧ BlockFit g ⟨[], 256 * x2 + x3, (x3 % 16), (-1), 0⟩ t) = decide (BlockFit g ⟨[], 256 * x2 + x3, (x3 % 16), (-1), 0⟩ t) from by rw [decide_eq_decide]; exact ⟨fun h => h.2, fun h => ⟨indexF_neg.1 e5, h⟩⟩]
        · simp only [hm, push_cast, reduceIte, Nat.reduceEqDiff, Nat.reduceAdd, Nat.reduceSub, Nat.reduceMul, Nat.reduceBEq, Nat.reduceLT, Nat.reduceLeDiff, reduceCtorEq, Int.reduceToNat, Int.reduceNeg]
          rw [show decide (t ∉ [] ∧ BlockFit g ⟨[], 256 * x2 + x3, (x3 % 16), (-1), 0⟩ t) = false from decide_eq_false fun h => e5 (indexF_neg.2 h.1)]
      simp only [push_cast, reduceIte, Nat.reduceEqDiff, Nat.reduceAdd, Nat.reduceSub, Nat.reduceMul, Nat.reduceBEq, Nat.reduceLT, Nat.reduceLeDiff, reduceCtorEq, Int.reduceToNat, Int.reduceNeg]
      refine cond_dec (fun e6 => ?_) fun e6 => ?_
      · rw [if_pos e6] at hS
        refine ⟨by simp, ?_⟩
        simp only [rows_one, push_cast, reduceIte, Nat.reduceEqDiff, Nat.reduceAdd, Nat.reduceSub, Nat.reduceMul, Nat.reduceBEq, Nat.reduceLT, Nat.reduceLeDiff, reduceCtorEq, Int.reduceToNat, Int.reduceNeg]
        refine ⟨by omega, _, ?_, k + 1, by omega, rfl, ?_⟩
        · omega
        · rw [hS]
          simp only [rows_one, List.nil_append, List.cons_append, push_cast, reduceIte, Nat.reduceEqDiff, Nat.reduceAdd, Nat.reduceSub, Nat.reduceMul, Nat.reduceBEq, Nat.reduceLT, Nat.reduceLeDiff, reduceCtorEq, Int.reduceToNat, Int.reduceNeg]
      · rw [if_neg e6] at hS
        refine ⟨by omega, _, ?_, k + 1, by omega, rfl, ?_⟩
        · omega
        · rw [hS]
          simp only [List.cons_append, List.nil_append, push_cast, reduceIte, Nat.reduceEqDiff, Nat.reduceAdd, Nat.reduceSub, Nat.reduceMul, Nat.reduceBEq, Nat.reduceLT, Nat.reduceLeDiff, reduceCtorEq, Int.reduceToNat, Int.reduceNeg]
    · have hm : mkB (x1, x2, x3) = ⟨[], 256 * x2 + x3, -1, -1, 0⟩ := by simp only [mkB]; rw [if_neg e3, if_neg e4]
      repeat (refine And.intro (by omega) ?_)
      refine cal_sub (index_ok ([]) (by simp only [List.length_nil, List.length_cons]; omega) t) ⟨.nil _ _, .refl _, trivial⟩ ?_
      refine cut_of ⟨[(1, .sl false 3 (rows tripC l)), (2, .ptr 2 0), (4, .ptr 4 0), (5, .int k), (6, .int t), (7, .ptr 7 0), (85, .bool (decide (t ∉ [] ∧ BlockFit g (mkB (x1, x2, x3)) t)))],
            [(2, [.int g.w, .int g.h, .int g.tracks, .int g.pads, .sl true 1 (ints g.kind), .nil, .nil, .nil, .nil, .nil, .nil]), (4, [.int 0, .int 0, .int 0, .int 0, .nil, .nil, .nil, .nil, .nil, .nil, .nil]), (7, blkR (mkB (x1, x2, x3)))], [], []⟩ ?_ ?_
      · simp only [push_cast, reduceIte, Nat.reduceEqDiff, Nat.reduceAdd, Nat.reduceSub, Nat.reduceMul, Nat.reduceBEq, Nat.reduceLT, Nat.reduceLeDiff, reduceCtorEq, Int.reduceToNat, Int.reduceNeg]
        refine grd_dec rfl (fun e5 => ?_) fun e5 => ?_ <;> simp only [push_cast, reduceIte, Nat.reduceEqDiff, Nat.reduceAdd, Nat.reduceSub, Nat.reduceMul, Nat.reduceBEq, Nat.reduceLT, Nat.reduceLeDiff, reduceCtorEq, Int.reduceToNat, Int.reduceNeg]
        · refine cal_sub (rblock_ok g hg (mkB (x1, x2, x3)) t) ⟨hG, Sub.aggL (by rw [hm]; exact ⟨.nil _ _, .refl _, .refl _, .refl _, .refl _, trivial⟩), .refl _, trivial⟩ ?_
          simp only [hm, push_cast, reduceIte, Nat.reduceEqDiff, Nat.reduceAdd, Nat.reduceSub, Nat.reduceMul, Nat.reduceBEq, Nat.reduceLT, Nat.reduceLeDiff, reduceCtorEq, Int.reduceToNat, Int.reduceNeg]
          rw [show decide (t ∉ [] ∧ BlockFit g ⟨[], 256 * x2 + x3, (-1), (-1), 0⟩ t) = decide (BlockFit g ⟨[], 256 * x2 + x3, (-1), (-1), 0⟩ t) from by rw [decide_eq_decide]; exact ⟨fun h => h.2, fun h => ⟨indexF_neg.1 e5, h⟩⟩]
        · simp only [hm, push_cast, reduceIte, Nat.reduceEqDiff, Nat.reduceAdd, Nat.reduceSub, Nat.reduceMul, Nat.reduceBEq, Nat.reduceLT, Nat.reduceLeDiff, reduceCtorEq, Int.reduceToNat, Int.reduceNeg]
          rw [show decide (t ∉ [] ∧ BlockFit g ⟨[], 256 * x2 + x3, (-1), (-1), 0⟩ t) = false from decide_eq_false fun h => e5 (indexF_neg.2 h.1)]
      simp only [push_cast, reduceIte, Nat.reduceEqDiff, Nat.reduceAdd, Nat.reduceSub, Nat.reduceMul, Nat.reduceBEq, Nat.reduceLT, Nat.reduceLeDiff, reduceCtorEq, Int.reduceToNat, Int.reduceNeg]
      refine cond_dec (fun e6 => ?_) fun e6 => ?_
      · rw [if_pos e6] at hS
        refine ⟨by simp, ?_⟩
        simp only [rows_one, push_cast, reduceIte, Nat.reduceEqDiff, Nat.reduceAdd, Nat.reduceSub, Nat.reduceMul, Nat.reduceBEq, Nat.reduceLT, Nat.reduceLeDiff, reduceCtorEq, Int.reduceToNat, Int.reduceNeg]
        refine ⟨by omega, _, ?_, k + 1, by omega, rfl, ?_⟩
        · omega
        · rw [hS]
          simp only [rows_one, List.nil_append, List.cons_append, push_cast, reduceIte, Nat.reduceEqDiff, Nat.reduceAdd, Nat.reduceSub, Nat.reduceMul, Nat.reduceBEq, Nat.reduceLT, Nat.reduceLeDiff, reduceCtorEq, Int.reduceToNat, Int.reduceNeg]
      · rw [if_neg e6] at hS
        refine ⟨by omega, _, ?_, k + 1, by omega, rfl, ?_⟩
        · omega
        · rw [hS]
          simp only [List.cons_append, List.nil_append, push_cast, reduceIte, Nat.reduceEqDiff, Nat.reduceAdd, Nat.reduceSub, Nat.reduceMul, Nat.reduceBEq, Nat.reduceLT, Nat.reduceLeDiff, reduceCtorEq, Int.reduceToNat, Int.reduceNeg]
  · obtain ⟨z, ts, rfl⟩ : ∃ z ts2, ts = z :: ts2 := by cases ts with | nil => cases q1 | cons z f => exact ⟨z, f, rfl⟩
    simp only [List.cons_append, List.nil_append, push_cast, reduceIte, Nat.reduceEqDiff, Nat.reduceAdd, Nat.reduceSub, Nat.reduceMul, Nat.reduceBEq, Nat.reduceLT, Nat.reduceLeDiff, reduceCtorEq, Int.reduceToNat, Int.reduceNeg]
    simp only [List.length_cons] at q1 q5
    refine cut_of ⟨[(1, .sl false 3 (rows tripC l)), (2, .ptr 2 0), (4, .ptr 4 0), (5, .int k), (15, .bool B)],
      [(2, [.int g.w, .int g.h, .int g.tracks, .int g.pads, .sl true 1 (ints g.kind), .nil, .view 91 0 (bs.length + 1), .nil, .nil, .view 99 0 (ts.length + 1), .nil]), (4, [.int 0, .int 0, .int 0, .int 0, .nil, .nil, .nil, .nil, .nil, .nil, .nil])], [(91, ⟨5, 76, rows blkR (y :: bs)⟩), (99, ⟨1, 3, ints (z :: ts)⟩)], []⟩ ?_ ?_
    · refine grd_dec rfl (fun e1 => ?_) fun e1 => ?_ <;> simp only [push_cast, reduceIte, Nat.reduceEqDiff, Nat.reduceAdd, Nat.reduceSub, Nat.reduceMul, Nat.reduceBEq, Nat.reduceLT, Nat.reduceLeDiff, reduceCtorEq, Int.reduceToNat, Int.reduceNeg]
      · rw [show B = decide ((k : Int) < 12) from by rw [hB, decide_eq_decide]; omega]
      · rw [show B = false from by rw [hB]; exact decide_eq_false (by omega)]
    simp only [push_cast, reduceIte, Nat.reduceEqDiff, Nat.reduceAdd, Nat.reduceSub, Nat.reduceMul, Nat.reduceBEq, Nat.reduceLT, Nat.reduceLeDiff, reduceCtorEq, Int.reduceToNat, Int.reduceNeg]
    refine cond_of (fun e => ?_) fun e => ?_
    rotate_left
    · rw [hB, decide_eq_false_iff_not] at e
      rw [hF, show min l.length 12 = k by omega, ha]
      simp only [push_cast, reduceIte, Nat.reduceEqDiff, Nat.reduceAdd, Nat.reduceSub, Nat.reduceMul, Nat.reduceBEq, Nat.reduceLT, Nat.reduceLeDiff, reduceCtorEq, Int.reduceToNat, Int.reduceNeg]
      rw [List.take_of_length_le (by simp), List.take_of_length_le (by simp)]
      exact ⟨⟨fun _ _ => trivial, fun _ _ => trivial, fun _ _ => trivial⟩, blkR_sub true q4, Sub.refl _⟩
    rw [hB, decide_eq_true_eq] at e
    obtain ⟨e1, e2⟩ := e
    generalize hx : l.getD k default = x at *
    obtain ⟨x1, x2, x3⟩ := x
    have h1 := Int.emod_nonneg x1 (show g.w * g.h ≠ 0 by omega)
    have h2 := Int.emod_lt_of_pos x1 (show 0 < g.w * g.h by omega)
    simp only [blkS] at hbk hS
    simp only
    generalize x1 % (g.w * g.h) = t at *
    repeat (refine And.intro (by omega) ?_)
    have hG : Sub (.agg [.int g.w, .int g.h, .int g.tracks, .int g.pads, .sl true 1 (ints g.kind)]) (.agg (gridC false g)) := Sub.aggL ⟨.refl _, .refl _, .refl _, .refl _, .slp _ _ _ _ (fun h => by cases h), trivial⟩
    refine cond_dec (fun e3 => ?_) fun e3 => ?_
    · have hm : mkB (x1, x2, x3) = ⟨[], 256 * x2 + x3, -1, x3 % 24, 0⟩ := by simp only [mkB]; rw [if_pos e3, if_neg (by omega)]
      repeat (refine And.intro (by omega) ?_)
      refine cal_sub (index_ok (z :: ts) (by simp only [List.length_nil, List.length_cons]; omega) t) ⟨by rw [List.take_of_length_le (by simp)]; exact Sub.refl _, .refl _, trivial⟩ ?_
      refine cut_of ⟨[(1, .sl false 3 (rows tripC l)), (2, .ptr 2 0), (4, .ptr 4 0), (5, .int k), (6, .int t), (7, .ptr 7 0), (85, .bool (decide (t ∉ z :: ts ∧ BlockFit g (mkB (x1, x2, x3)) t)))],
            [(2, [.int g.w, .int g.h, .int g.tracks, .int g.pads, .sl true 1 (ints g.kind), .nil, .view 91 0 (bs.length + 1), .nil, .nil, .view 99 0 (ts.length + 1), .nil]), (4, [.int 0, .int 0, .int 0, .int 0, .nil, .nil, .nil, .nil, .nil, .nil, .nil]), (7, blkR (mkB (x1, x2, x3)))], [(91, ⟨5, 76, rows blkR (y :: bs)⟩), (99, ⟨1, 3, ints (z :: ts)⟩)], []⟩ ?_ ?_
      · simp only [push_cast, reduceIte, Nat.reduceEqDiff, Nat.reduceAdd, Nat.reduceSub, Nat.reduceMul, Nat.reduceBEq, Nat.reduceLT, Nat.reduceLeDiff, reduceCtorEq, Int.reduceToNat, Int.reduceNeg]
        refine grd_dec rfl (fun e5 => ?_) fun e5 => ?_ <;> simp only [push_cast, reduceIte, Nat.reduceEqDiff, Nat.reduceAdd, Nat.reduceSub, Nat.reduceMul, Nat.reduceBEq, Nat.reduceLT, Nat.reduceLeDiff, reduceCtorEq, Int.reduceToNat, Int.reduceNeg]
        · refine cal_sub (rblock_ok g hg (mkB (x1, x2, x3)) t) ⟨hG, Sub.aggL (by rw [hm]; exact ⟨.nil _ _, .refl _, .refl _, .refl _, .refl _, trivial⟩), .refl _, trivial⟩ ?_
          simp only [hm, push_cast, reduceIte, Nat.reduceEqDiff, Nat.reduceAdd, Nat.reduceSub, Nat.reduceMul, Nat.reduceBEq, Nat.reduceLT, Nat.reduceLeDiff, reduceCtorEq, Int.reduceToNat, Int.reduceNeg]
          rw [show decide (t ∉ z :: ts ∧ BlockFit g ⟨[], 256 * x2 + x3, (-1), (x3 % 24), 0⟩ t) = decide (BlockFit g ⟨[], 256 * x2 + x3, (-1), (x3 % 24), 0⟩ t) from by rw [decide_eq_decide]; exact ⟨fun h => h.2, fun h => ⟨indexF_neg.1 e5, h⟩⟩]
        · simp only [hm, push_cast, reduceIte, Nat.reduceEqDiff, Nat.reduceAdd, Nat.reduceSub, Nat.reduceMul, Nat.reduceBEq, Nat.reduceLT, Nat.reduceLeDiff, reduceCtorEq, Int.reduceToNat, Int.reduceNeg]
          rw [show decide (t ∉ z :: ts ∧ BlockFit g ⟨[], 256 * x2 + x3, (-1), (x3 % 24), 0⟩ t) = false from decide_eq_false fun h => e5 (indexF_neg.2 h.1)]
      simp only [push_cast, reduceIte, Nat.reduceEqDiff, Nat.reduceAdd, Nat.reduceSub, Nat.reduceMul, Nat.reduceBEq, Nat.reduceLT, Nat.reduceLeDiff, reduceCtorEq, Int.reduceToNat, Int.reduceNeg]
      refine cond_dec (fun e6 => ?_) fun e6 => ?_
      · rw [if_pos e6] at hS
        repeat (refine And.intro (by first | omega | (simp; done)) ?_)
        refine ⟨_, ?_, k + 1, by omega, rfl, ?_⟩
        · omega
        · rw [hS]
          simp only [List.cons_append, List.length_append, List.length_singleton, push_cast, reduceIte, Nat.reduceEqDiff, Nat.reduceAdd, Nat.reduceSub, Nat.reduceMul, Nat.reduceBEq, Nat.reduceLT, Nat.reduceLeDiff, reduceCtorEq, Int.reduceToNat, Int.reduceNeg]
          simp [rows, blkR]
      · rw [if_neg e6] at hS
        refine ⟨by omega, _, ?_, k + 1, by omega, rfl, ?_⟩
        · omega
        · rw [hS]
          simp only [List.cons_append, List.nil_append, push_cast, reduceIte, Nat.reduceEqDiff, Nat.reduceAdd, Nat.reduceSub, Nat.reduceMul, Nat.reduceBEq, Nat.reduceLT, Nat.reduceLeDiff, reduceCtorEq, Int.reduceToNat, Int.reduceNeg]
    refine cond_dec (fun e4 => ?_) fun e4 => ?_
    · have hm : mkB (x1, x2, x3) = ⟨[], 256 * x2 + x3, x3 % 16, -1, 0⟩ := by simp only [mkB]; rw [if_neg e3, if_pos e4]
      repeat (refine And.intro (by omega) ?_)
      refine cal_sub (index_ok (z :: ts) (by simp only [List.length_nil, List.length_cons]; omega) t) ⟨by rw [List.take_of_length_le (by simp)]; exact Sub.refl _, .refl _, trivial⟩ ?_
      refine cut_of ⟨[(1, .sl false 3 (rows tripC l)), (2, .ptr 2 0), (4, .ptr 4 0), (5, .int k), (6, .int t), (7, .ptr 7 0), (85, .bool (decide (t ∉ z :: ts ∧ BlockFit g (mkB (x1, x2, x3)) t)))],
            [(2, [.int g.w, .int g.h, .int g.tracks, .int g.pads, .sl true 1 (ints g.kind), .nil, .view 91 0 (bs.length + 1), .nil, .nil, .view 99 0 (ts.length + 1), .nil]), (4, [.int 0, .int 0, .int 0, .int 0, .nil, .nil, .nil, .nil, .nil, .nil, .nil]), (7, blkR (mkB (x1, x2, x3)))], [(91, ⟨5, 76, rows blkR (y :: bs)⟩), (99, ⟨1, 3, ints (z :: ts)⟩)], []⟩ ?_ ?_
      · simp only [push_cast, reduceIte, Nat.reduceEqDiff, Nat.reduceAdd, Nat.reduceSub, Nat.reduceMul, Nat.reduceBEq, Nat.reduceLT, Nat.reduceLeDiff, reduceCtorEq, Int.reduceToNat, Int.reduceNeg]
        refine grd_dec rfl (fun e5 => ?_) fun e5 => ?_ <;> simp only [push_cast, reduceIte, Nat.reduceEqDiff, Nat.reduceAdd, Nat.reduceSub, Nat.reduceMul, Nat.reduceBEq, Nat.reduceLT, Nat.reduceLeDiff, reduceCtorEq, Int.reduceToNat, Int.reduceNeg]
        · refine cal_sub (rblock_ok g hg (mkB (x1, x2, x3)) t) ⟨hG, Sub.aggL (by rw [hm]; exact ⟨.nil _ _, .refl _, .refl _, .refl _, .refl _, trivial⟩), .refl _, trivial⟩ ?_
          simp only [hm, push_cast, reduceIte, Nat.reduceEqDiff, Nat.reduceAdd, Nat.reduceSub, Nat.reduceMul, Nat.reduceBEq, Nat.reduceLT, Nat.reduceLeDiff, reduceCtorEq, Int.reduceToNat, Int.reduceNeg]
          rw [show decide (t ∉ z :: ts ∧ BlockFit g ⟨[], 256 * x2 + x3, (x3 % 16), (-1), 0⟩ t) = decide (BlockFit g ⟨[], 256 * x2 + x3, (x3 % 16), (-1), 0⟩ t) from by rw [decide_eq_decide]; exact ⟨fun h => h.2, fun h => ⟨indexF_neg.1 e5, h⟩⟩]
        · simp only [hm, push_cast, reduceIte, Nat.reduceEqDiff, Nat.reduceAdd, Nat.reduceSub, Nat.reduceMul, Nat.reduceBEq, Nat.reduceLT, Nat.reduceLeDiff, reduceCtorEq, Int.reduceToNat, Int.reduceNeg]
          rw [show decide (t ∉ z :: ts ∧ BlockFit g ⟨[], 256 * x2 + x3, (x3 % 16), (-1), 0⟩ t) = false from decide_eq_false fun h => e5 (indexF_neg.2 h.1)]
      simp only [push_cast, reduceIte, Nat.reduceEqDiff, Nat.reduceAdd, Nat.reduceSub, Nat.reduceMul, Nat.reduceBEq, Nat.reduceLT, Nat.reduceLeDiff, reduceCtorEq, Int.reduceToNat, Int.reduceNeg]
      refine cond_dec (fun e6 => ?_) fun e6 => ?_
      · rw [if_pos e6] at hS
        repeat (refine And.intro (by first | omega | (simp; done)) ?_)
        refine ⟨_, ?_, k + 1, by omega, rfl, ?_⟩
        · omega
        · rw [hS]
          simp only [List.cons_append, List.length_append, List.length_singleton, push_cast, reduceIte, Nat.reduceEqDiff, Nat.reduceAdd, Nat.reduceSub, Nat.reduceMul, Nat.reduceBEq, Nat.reduceLT, Nat.reduceLeDiff, reduceCtorEq, Int.reduceToNat, Int.reduceNeg]
          simp [rows, blkR]
      · rw [if_neg e6] at hS
        refine ⟨by omega, _, ?_, k + 1, by omega, rfl, ?_⟩
        · omega
        · rw [hS]
          simp only [List.cons_append, List.nil_append, push_cast, reduceIte, Nat.reduceEqDiff, Nat.reduceAdd, Nat.reduceSub, Nat.reduceMul, Nat.reduceBEq, Nat.reduceLT, Nat.reduceLeDiff, reduceCtorEq, Int.reduceToNat, Int.reduceNeg]
    · have hm : mkB (x1, x2, x3) = ⟨[], 256 * x2 + x3, -1, -1, 0⟩ := by simp only [mkB]; rw [if_neg e3, if_neg e4]
      repeat (refine And.intro (by omega) ?_)
      refine cal_sub (index_ok (z :: ts) (by simp only [List.length_nil, List.length_cons]; omega) t) ⟨by rw [List.take_of_length_le (by simp)]; exact Sub.refl _, .refl _, trivial⟩ ?_
      refine cut_of ⟨[(1, .sl false 3 (rows tripC l)), (2, .ptr 2 0), (4, .ptr 4 0), (5, .int k), (6, .int t), (7, .ptr 7 0), (85, .bool (decide (t ∉ z :: ts ∧ BlockFit g (mkB (x1, x2, x3)) t)))],
            [(2, [.int g.w, .int g.h, .int g.tracks, .int g.pads, .sl true 1 (ints g.kind), .nil, .view 91 0 (bs.length + 1), .nil, .nil, .view 99 0 (ts.length + 1), .nil]), (4, [.int 0, .int 0, .int 0, .int 0, .nil, .nil, .nil, .nil, .nil, .nil, .nil]), (7, blkR (mkB (x1, x2, x3)))], [(91, ⟨5, 76, rows blkR (y :: bs)⟩), (99, ⟨1, 3, ints (z :: ts)⟩)], []⟩ ?_ ?_
      · simp only [push_cast, reduceIte, Nat.reduceEqDiff, Nat.reduceAdd, Nat.reduceSub, Nat.reduceMul, Nat.reduceBEq, Nat.reduceLT, Nat.reduceLeDiff, reduceCtorEq, Int.reduceToNat, Int.reduceNeg]
        refine grd_dec rfl (fun e5 => ?_) fun e5 => ?_ <;> simp only [push_cast, reduceIte, Nat.reduceEqDiff, Nat.reduceAdd, Nat.reduceSub, Nat.reduceMul, Nat.reduceBEq, Nat.reduceLT, Nat.reduceLeDiff, reduceCtorEq, Int.reduceToNat, Int.reduceNeg]
        · refine cal_sub (rblock_ok g hg (mkB (x1, x2, x3)) t) ⟨hG, Sub.aggL (by rw [hm]; exact ⟨.nil _ _, .refl _, .refl _, .refl _, .refl _, trivial⟩), .refl _, trivial⟩ ?_
          simp only [hm, push_cast, reduceIte, Nat.reduceEqDiff, Nat.reduceAdd, Nat.reduceSub, Nat.reduceMul, Nat.reduceBEq, Nat.reduceLT, Nat.reduceLeDiff, reduceCtorEq, Int.reduceToNat, Int.reduceNeg]
          rw [show decide (t ∉ z :: ts ∧ BlockFit g ⟨[], 256 * x2 + x3, (-1), (-1), 0⟩ t) = decide (BlockFit g ⟨[], 256 * x2 + x3, (-1), (-1), 0⟩ t) from by rw [decide_eq_decide]; exact ⟨fun h => h.2, fun h => ⟨indexF_neg.1 e5, h⟩⟩]
        · simp only [hm, push_cast, reduceIte, Nat.reduceEqDiff, Nat.reduceAdd, Nat.reduceSub, Nat.reduceMul, Nat.reduceBEq, Nat.reduceLT, Nat.reduceLeDiff, reduceCtorEq, Int.reduceToNat, Int.reduceNeg]
          rw [show decide (t ∉ z :: ts ∧ BlockFit g ⟨[], 256 * x2 + x3, (-1), (-1), 0⟩ t) = false from decide_eq_false fun h => e5 (indexF_neg.2 h.1)]
      simp only [push_cast, reduceIte, Nat.reduceEqDiff, Nat.reduceAdd, Nat.reduceSub, Nat.reduceMul, Nat.reduceBEq, Nat.reduceLT, Nat.reduceLeDiff, reduceCtorEq, Int.reduceToNat, Int.reduceNeg]
      refine cond_dec (fun e6 => ?_) fun e6 => ?_
      · rw [if_pos e6] at hS
        repeat (refine And.intro (by first | omega | (simp; done)) ?_)
        refine ⟨_, ?_, k + 1, by omega, rfl, ?_⟩
        · omega
        · rw [hS]
          simp only [List.cons_append, List.length_append, List.length_singleton, push_cast, reduceIte, Nat.reduceEqDiff, Nat.reduceAdd, Nat.reduceSub, Nat.reduceMul, Nat.reduceBEq, Nat.reduceLT, Nat.reduceLeDiff, reduceCtorEq, Int.reduceToNat, Int.reduceNeg]
          simp [rows, blkR]
      · rw [if_neg e6] at hS
        refine ⟨by omega, _, ?_, k + 1, by omega, rfl, ?_⟩
        · omega
        · rw [hS]
          simp only [List.cons_append, List.nil_append, push_cast, reduceIte, Nat.reduceEqDiff, Nat.reduceAdd, Nat.reduceSub, Nat.reduceMul, Nat.reduceBEq, Nat.reduceLT, Nat.reduceLeDiff, reduceCtorEq, Int.reduceToNat, Int.reduceNeg]
end Go.Proofs.Ytledbjkolidhkaa
namespace Go.Proofs.Ytledbjkolidhkaa
open Go Go.Vc Txt
theorem take_next {l : List Int} {k : Nat} (h : k < l.length) : l.take (k + 1) = l.take k ++ [l.getD k 0] := by
  rw [List.take_add_one, List.getElem?_eq_getElem h, List.getD_eq_getElem?_getD, List.getElem?_eq_getElem h]
  rfl
def StepOk (g : Grid) (r : Route) (seen : List Int) (i : Nat) : Prop :=
  ((0 ≤ r.nodes.getD i 0 ∧ r.nodes.getD i 0 < countF g) ∧ r.nodes.getD i 0 ∉ seen ++ r.nodes.take i) ∧
  (i = 0 → driversF g (r.nodes.getD i 0) = []) ∧
  (i ≠ 0 → (0 ≤ r.frm.getD i 0 ∧ r.frm.getD i 0 ≤ (i : Int) - 1) ∧ r.nodes.getD (r.frm.getD i 0).toNat 0 ∈ driversF g (r.nodes.getD i 0))
def selAt (g : Grid) (r : Route) (i : Nat) : Int := 1 + ((driversF g (r.nodes.getD i 0)).countP (· < r.nodes.getD (r.frm.getD i 0).toNat 0) : Nat)
def selN (g : Grid) (r : Route) (sel : List Int) : Nat → List Int
  | 0 => sel
  | k + 1 => if k = 0 then selN g r sel k else (selN g r sel k).set (r.nodes.getD k 0).toNat (selAt g r k)
theorem selN_len (g : Grid) (r : Route) (sel : List Int) : ∀ k, (selN g r sel k).length = sel.length
  | 0 => rfl
  | k + 1 => by
    rw [selN]
    split
    · exact selN_len g r sel k
    · rw [List.length_set]; exact selN_len g r sel k
theorem stepF_iff {g : Grid} {r : Route} {sel seen : List Int} (hs : (sel.length : Int) = countF g) {k : Nat} (hk : k < r.nodes.length) (a : List Int × List Int) :
    stepF g r (selN g r sel k, seen ++ r.nodes.take k) k = some a ↔ StepOk g r seen k ∧ a = (selN g r sel (k + 1), seen ++ r.nodes.take (k + 1)) := by
  have e := take_next hk
  unfold stepF stepN StepOk
  rw [selN, e, ← List.append_assoc]
  simp only [selN_len]
  by_cases h1 : (0 ≤ r.nodes.getD k 0 ∧ r.nodes.getD k 0 ≤ (sel.length : Int) - 1) ∧ r.nodes.getD k 0 ∉ seen ++ r.nodes.take k
  · rw [if_pos h1]
    have h1' : (0 ≤ r.nodes.getD k 0 ∧ r.nodes.getD k 0 < countF g) ∧ r.nodes.getD k 0 ∉ seen ++ r.nodes.take k := ⟨⟨h1.1.1, by omega⟩, h1.2⟩
    by_cases h0 : k = 0
    · rw [if_pos h0, if_pos h0]
      by_cases hd : driversF g (r.nodes.getD k 0) = []
      · rw [if_pos hd, Option.some.injEq]
        constructor
        · rintro rfl; exact ⟨⟨h1', fun _ => hd, fun h => absurd h0 h⟩, rfl⟩
        · rintro ⟨_, rfl⟩; rfl
      · rw [if_neg hd]
        constructor
        · intro h; cases h
        · rintro ⟨⟨_, h, _⟩, _⟩; exact absurd (h h0) hd
    · rw [if_neg h0, if_neg h0]
      by_cases hf : 0 ≤ r.frm.getD k 0 ∧ r.frm.getD k 0 ≤ (k : Int) - 1
      · rw [if_pos hf]
        by_cases hx : r.nodes.getD (r.frm.getD k 0).toNat 0 ∈ driversF g (r.nodes.getD k 0)
        · rw [if_pos hx, Option.some.injEq]
          constructor
          · rintro rfl; exact ⟨⟨h1', fun h => absurd h h0, fun _ => ⟨hf, hx⟩⟩, rfl⟩
          · rintro ⟨_, rfl⟩; rfl
        · rw [if_neg hx]
          constructor
          · intro h; cases h
          · rintro ⟨⟨_, _, h⟩, _⟩; exact absurd (h h0).2 hx
      · rw [if_neg hf]
        constructor
        · intro h; cases h
        · rintro ⟨⟨_, _, h⟩, _⟩; exact absurd (h h0).1 hf
  · rw [if_neg h1]
    constructor
    · intro h; cases h
    · rintro ⟨⟨h, _⟩, _⟩; exact absurd ⟨⟨h.1.1, by omega⟩, h.2⟩ h1
theorem foldO_one {α β : Type} (f : α → β → Option α) (a : α) (x : β) : foldO f a [x] = f a x := by
  simp only [foldO]
  cases f a x <;> rfl
theorem stepsF_iff {g : Grid} {r : Route} {sel seen : List Int} (hs : (sel.length : Int) = countF g) : ∀ (k : Nat) (_ : k ≤ r.nodes.length) (a : List Int × List Int),
    foldO (stepF g r) (sel, seen) (List.range k) = some a ↔ (∀ i, i < k → StepOk g r seen i) ∧ a = (selN g r sel k, seen ++ r.nodes.take k)
  | 0, _, a => by
    show some (sel, seen) = some a ↔ _
    rw [Option.some.injEq, List.take_zero, List.append_nil]
    exact ⟨fun h => ⟨fun i hi => by omega, h.symm⟩, fun h => h.2.symm⟩
  | k + 1, hk, a => by
    rw [List.range_succ, foldO_append, Option.bind_eq_some_iff]
    constructor
    · rintro ⟨b, hb, h⟩
      obtain ⟨h1, rfl⟩ := (stepsF_iff hs k (by omega) b).1 hb
      rw [foldO_one] at h
      obtain ⟨h2, h3⟩ := (stepF_iff hs (by omega) _).1 h
      refine ⟨fun i hi => ?_, h3⟩
      by_cases e : i = k
      · rw [e]; exact h2
      · exact h1 i (by omega)
    · rintro ⟨h1, rfl⟩
      refine ⟨_, (stepsF_iff hs k (by omega) _).2 ⟨fun i hi => h1 i (by omega), rfl⟩, ?_⟩
      rw [foldO_one]
      exact (stepF_iff hs (by omega) _).2 ⟨h1 k (by omega), rfl⟩
def RouteOk (g : Grid) (seen : List Int) (r : Route) : Prop := (r.nodes ≠ [] ∧ r.frm.length = r.nodes.length ∧ r.frm.getD 0 0 = -1) ∧ ∀ i, i < r.nodes.length → StepOk g r seen i
def selR (g : Grid) (sel : List Int) (r : Route) : List Int := selN g r sel r.nodes.length
theorem routeF_iff {g : Grid} {r : Route} {sel seen : List Int} (hs : (sel.length : Int) = countF g) (a : List Int × List Int) :
    routeF g (sel, seen) r = some a ↔ RouteOk g seen r ∧ a = (selR g sel r, seen ++ r.nodes) := by
  unfold routeF RouteOk selR
  by_cases h : r.nodes ≠ [] ∧ r.frm.length = r.nodes.length ∧ r.frm.getD 0 0 = -1
  · rw [if_pos h, stepsF_iff hs _ (Nat.le_refl _), List.take_length]
    exact ⟨fun e => ⟨⟨h, e.1⟩, e.2⟩, fun e => ⟨e.1.2, e.2⟩⟩
  · rw [if_neg h]
    exact ⟨fun e => (by cases e), fun e => absurd e.1.1 h⟩
def flatN (rs : List Route) : List Int := (rs.map fun r => r.nodes).flatten
def RoutesOk (g : Grid) : List Int → List Route → Prop
  | _, [] => True
  | seen, r :: rs => RouteOk g seen r ∧ RoutesOk g (seen ++ r.nodes) rs
def selRs (g : Grid) : List Int → List Route → List Int
  | sel, [] => sel
  | sel, r :: rs => selRs g (selR g sel r) rs
theorem selR_len (g : Grid) (r : Route) (sel : List Int) : (selR g sel r).length = sel.length := selN_len g r sel _
theorem selRs_len (g : Grid) : ∀ (rs : List Route) (sel : List Int), (selRs g sel rs).length = sel.length
  | [], _ => rfl
  | r :: rs, sel => by rw [selRs, selRs_len g rs, selR_len]
theorem routesF_iff {g : Grid} : ∀ (rs : List Route) (sel seen : List Int) (_ : (sel.length : Int) = countF g) (a : List Int × List Int),
    foldO (routeF g) (sel, seen) rs = some a ↔ RoutesOk g seen rs ∧ a = (selRs g sel rs, seen ++ flatN rs)
  | [], sel, seen, _, a => by
    show some (sel, seen) = some a ↔ True ∧ a = (sel, seen ++ [])
    rw [Option.some.injEq, List.append_nil]
    exact ⟨fun h => ⟨trivial, h.symm⟩, fun h => h.2.symm⟩
  | r :: rs, sel, seen, hs, a => by
    rw [foldO, Option.bind_eq_some_iff]
    have e : seen ++ flatN (r :: rs) = seen ++ r.nodes ++ flatN rs := by simp [flatN]
    rw [e, RoutesOk, selRs]
    constructor
    · rintro ⟨b, hb, h⟩
      obtain ⟨h1, rfl⟩ := (routeF_iff hs b).1 hb
      obtain ⟨h2, h3⟩ := (routesF_iff rs _ _ (by rw [selR_len]; exact hs) a).1 h
      exact ⟨⟨h1, h2⟩, h3⟩
    · rintro ⟨⟨h1, h2⟩, h3⟩
      exact ⟨_, (routeF_iff hs _).2 ⟨h1, rfl⟩, (routesF_iff rs _ _ (by rw [selR_len]; exact hs) a).2 ⟨h2, h3⟩⟩
structure RouteSh (g : Grid) (r : Route) : Prop where
  ne : r.nodes ≠ []
  len : r.frm.length = r.nodes.length
  frm : r.frm.getD 0 0 = -1
  rng : ∀ x ∈ r.nodes, 0 ≤ x ∧ x < countF g
  src : driversF g (r.nodes.getD 0 0) = []
  drv : ∀ i, 0 < i → i < r.nodes.length → (0 ≤ r.frm.getD i 0 ∧ r.frm.getD i 0 < i) ∧ r.nodes.getD (r.frm.getD i 0).toNat 0 ∈ driversF g (r.nodes.getD i 0)
theorem getD_at {l : List Int} {x : Int} (h : x ∈ l) : ∃ i, i < l.length ∧ l.getD i 0 = x := by
  obtain ⟨i, hi, e⟩ := List.getElem_of_mem h
  exact ⟨i, hi, by simp [hi, e]⟩
theorem take_mem {l : List Int} {x : Int} {k : Nat} : x ∈ l.take k ↔ ∃ i, i < k ∧ i < l.length ∧ l.getD i 0 = x := by
  constructor
  · intro h
    obtain ⟨i, hi, e⟩ := List.getElem_of_mem h
    rw [List.length_take] at hi
    refine ⟨i, by omega, by omega, ?_⟩
    rw [List.getElem_take] at e
    simp [show i < l.length by omega, e]
  · rintro ⟨i, h1, h2, rfl⟩
    rw [List.mem_take_iff_getElem]
    exact ⟨i, by omega, by simp [h2]⟩
theorem nodup_iff (l : List Int) : l.Nodup ↔ ∀ i, i < l.length → l.getD i 0 ∉ l.take i := by
  constructor
  · intro h i hi hm
    obtain ⟨j, h1, h2, e⟩ := take_mem.1 hm
    rw [List.getD_eq_getElem?_getD, List.getD_eq_getElem?_getD, List.getElem?_eq_getElem hi, List.getElem?_eq_getElem h2] at e
    have := (List.getElem_inj h).1 e
    omega
  · intro h
    rw [List.nodup_iff_pairwise_ne, List.pairwise_iff_getElem]
    intro i j hi hj hij e
    refine h j hj (take_mem.2 ⟨i, hij, hi, ?_⟩)
    simp [hi, hj, e]
theorem routeOk_iff {g : Grid} {seen : List Int} {r : Route} : RouteOk g seen r ↔ RouteSh g r ∧ r.nodes.Nodup ∧ ∀ x ∈ r.nodes, x ∉ seen := by
  constructor
  · rintro ⟨⟨h1, h2, h3⟩, h4⟩
    have hl := List.length_pos_iff.2 h1
    refine ⟨⟨h1, h2, h3, fun x hx => ?_, (h4 0 hl).2.1 rfl, fun i h0 hi => ?_⟩, (nodup_iff _).2 fun i hi hm => (h4 i hi).1.2 (List.mem_append_right _ hm), fun x hx hm => ?_⟩
    · obtain ⟨i, hi, rfl⟩ := getD_at hx
      exact (h4 i hi).1.1
    · obtain ⟨h5, h6⟩ := (h4 i hi).2.2 (by omega)
      exact ⟨by omega, h6⟩
    · obtain ⟨i, hi, rfl⟩ := getD_at hx
      exact (h4 i hi).1.2 (List.mem_append_left _ hm)
  · rintro ⟨h, hn, hd⟩
    refine ⟨⟨h.ne, h.len, h.frm⟩, fun i hi => ⟨⟨h.rng _ (getD_mem hi), fun hm => ?_⟩, fun e => by rw [e]; exact h.src, fun e => ?_⟩⟩
    · rcases List.mem_append.1 hm with hm | hm
      · exact hd _ (getD_mem hi) hm
      · exact (nodup_iff _).1 hn i hi hm
    · obtain ⟨h5, h6⟩ := h.drv i (by omega) hi
      exact ⟨by omega, h6⟩
theorem routesOk_iff {g : Grid} : ∀ (rs : List Route) (seen : List Int), RoutesOk g seen rs ↔ (∀ r ∈ rs, RouteSh g r) ∧ (flatN rs).Nodup ∧ ∀ x ∈ flatN rs, x ∉ seen
  | [], seen => by simp [RoutesOk, flatN]
  | r :: rs, seen => by
    have e : flatN (r :: rs) = r.nodes ++ flatN rs := by simp [flatN]
    rw [RoutesOk, routeOk_iff, routesOk_iff rs, e, List.nodup_append]
    constructor
    · rintro ⟨⟨h1, h2, h3⟩, h4, h5, h6⟩
      refine ⟨fun x hx => ?_, ⟨h2, h5, fun a ha b hb e => h6 b hb (List.mem_append_right _ (e ▸ ha))⟩, fun x hx hm => ?_⟩
      · rcases List.mem_cons.1 hx with rfl | hx
        · exact h1
        · exact h4 x hx
      · rcases List.mem_append.1 hx with hx | hx
        · exact h3 x hx hm
        · exact h6 x hx (List.mem_append_left _ hm)
    · rintro ⟨h1, ⟨h2, h3, h4⟩, h5⟩
      refine ⟨⟨h1 r (List.mem_cons_self ..), h2, fun x hx => h5 x (List.mem_append_left _ hx)⟩, fun x hx => h1 x (List.mem_cons_of_mem _ hx), h3, fun x hx hm => ?_⟩
      rcases List.mem_append.1 hm with hm | hm
      · exact h5 x (List.mem_append_right _ hx) hm
      · exact h4 x hm x hx rfl
theorem blockSet_len {g : Grid} {c : Cfg} {b : Block} {t : Nat} (h : CfgLn g c) : CfgLn g (blockSet c b t) := by
  obtain ⟨h1, h2, h3, h4⟩ := h
  unfold blockSet
  split
  · refine ⟨?_, ?_, ?_, ?_⟩ <;> simp [*]
  · split
    · refine ⟨?_, ?_, ?_, ?_⟩ <;> simp [*]
    · refine ⟨?_, ?_, ?_, ?_⟩ <;> simp [*]
def modeB (b : Block) : Int := if 0 ≤ b.ram then 3 else if 0 ≤ b.reg then 2 else 1
theorem blockSet_mode {c : Cfg} {b : Block} {t : Nat} (h : t < c.mode.length) (i : Nat) : (blockSet c b t).mode.getD i 0 = if t = i then modeB b else c.mode.getD i 0 := by
  unfold blockSet modeB
  repeat' split
  all_goals simp only [getD_set, *] at *
  all_goals simp_all
theorem blockF_iff {g : Grid} {c : Cfg} (hc : CfgLn g c) (b : Block) (t : Int) (c' : Cfg) :
    blockF g c (b, t) = some c' ↔ (c.mode.getD t.toNat 0 = 0 ∧ BlockFit g b t) ∧ c' = blockSet c b t.toNat := by
  have h2 := hc.2.1
  unfold blockF BlockFit
  simp only
  by_cases h : (0 ≤ t ∧ t ≤ (g.kind.length : Int) - 1) ∧ c.mode.getD t.toNat 0 = 0
  · rw [if_pos h]
    have hm := blockSet_mode (c := c) (b := b) (t := t.toNat) (by omega) t.toNat
    rw [if_pos rfl] at hm
    rw [hm]
    have hh : BlockOk b → (holdsF (g.kind.getD t.toNat 0) (modeB b) = true ↔ g.kind.getD t.toNat 0 ≠ 0 ∧ ¬ (g.kind.getD t.toNat 0 = 1 ∧ b.ram ≠ -1)) := by
      rintro ⟨h1, h2, h3, h4⟩
      generalize g.kind.getD t.toNat 0 = k
      unfold holdsF modeB
      repeat' split
      all_goals first | omega | (simp only [decide_eq_true_eq]; omega) | (simp; omega)
    by_cases ho : BlockOk b
    · rw [if_pos ho]
      have ho2 := ho
      obtain ⟨q1, q2, q3, q4⟩ := ho2
      by_cases hq : holdsF (g.kind.getD t.toNat 0) (modeB b) = true
      · rw [if_pos hq, Option.some.injEq]
        have hq2 := (hh ho).1 hq
        constructor
        · rintro rfl; exact ⟨⟨h.2, ⟨⟨by omega, by omega⟩, hq2⟩, ⟨q3, q1, q2⟩, by omega⟩, rfl⟩
        · rintro ⟨_, rfl⟩; rfl
      · rw [if_neg hq]
        exact ⟨fun e => (by cases e), fun e => absurd ((hh ho).2 e.1.2.1.2) hq⟩
    · rw [if_neg ho]
      refine ⟨fun e => (by cases e), ?_⟩
      rintro ⟨⟨_, _, ⟨e1, e2, e3⟩, e4⟩, _⟩
      exact absurd ⟨e2, e3, e1, by omega⟩ ho
  · rw [if_neg h]
    refine ⟨fun e => (by cases e), ?_⟩
    rintro ⟨⟨e1, ⟨⟨e2, _⟩, _⟩⟩, _⟩
    exact absurd ⟨⟨e2.1, by omega⟩, e1⟩ h
theorem modeB_ne (b : Block) : modeB b ≠ 0 := by
  unfold modeB
  repeat' split
  all_goals omega
def BlocksOk (g : Grid) : List Int → List (Block × Int) → Prop
  | _, [] => True
  | sn, z :: zs => (z.2 ∉ sn ∧ BlockFit g z.1 z.2) ∧ BlocksOk g (sn ++ [z.2]) zs
def setBs : Cfg → List (Block × Int) → Cfg
  | c, [] => c
  | c, z :: zs => setBs (blockSet c z.1 z.2.toNat) zs
theorem blocksF_iff {g : Grid} : ∀ (zs : List (Block × Int)) (c : Cfg) (sn : List Int) (_ : CfgLn g c) (_ : ∀ t : Int, 0 ≤ t → t < g.kind.length → (c.mode.getD t.toNat 0 = 0 ↔ t ∉ sn)) (c' : Cfg),
    foldO (blockF g) c zs = some c' ↔ BlocksOk g sn zs ∧ c' = setBs c zs
  | [], c, sn, _, _, c' => by
    show some c = some c' ↔ True ∧ c' = c
    rw [Option.some.injEq]
    exact ⟨fun h => ⟨trivial, h.symm⟩, fun h => h.2.symm⟩
  | (b, t) :: zs, c, sn, hc, hm, c' => by
    rw [foldO, Option.bind_eq_some_iff, BlocksOk, setBs]
    have hnx : BlockFit g b t → ∀ u : Int, 0 ≤ u → u < g.kind.length → ((blockSet c b t.toNat).mode.getD u.toNat 0 = 0 ↔ u ∉ sn ++ [t]) := fun hf u h1 h2 => by
      have h3 := hc.2.1
      have h4 := hf.1.1
      rw [blockSet_mode (by omega), List.mem_append, List.mem_singleton]
      by_cases e : t.toNat = u.toNat
      · rw [if_pos e]
        exact ⟨fun h => absurd h (modeB_ne b), fun h => absurd (.inr (by omega)) h⟩
      · rw [if_neg e, hm u h1 h2]
        exact ⟨fun h h' => h'.elim h (fun h' => e (by omega)), fun h h' => h (.inl h')⟩
    constructor
    · rintro ⟨x, hx, h⟩
      obtain ⟨⟨h1, h2⟩, rfl⟩ := (blockF_iff hc b t x).1 hx
      obtain ⟨h3, h4⟩ := (blocksF_iff zs _ _ (blockSet_len hc) (hnx h2) c').1 h
      exact ⟨⟨⟨(hm t h2.1.1.1 h2.1.1.2).1 h1, h2⟩, h3⟩, h4⟩
    · rintro ⟨⟨⟨h1, h2⟩, h3⟩, h4⟩
      exact ⟨_, (blockF_iff hc b t _).2 ⟨⟨(hm t h2.1.1.1 h2.1.1.2).2 h1, h2⟩, rfl⟩, (blocksF_iff zs _ _ (blockSet_len hc) (hnx h2) c').2 ⟨h3, h4⟩⟩
theorem blocksOk_iff {g : Grid} : ∀ (zs : List (Block × Int)) (sn : List Int), BlocksOk g sn zs ↔ (∀ z ∈ zs, BlockFit g z.1 z.2) ∧ (zs.map Prod.snd).Nodup ∧ ∀ x ∈ zs.map Prod.snd, x ∉ sn
  | [], sn => by simp [BlocksOk]
  | z :: zs, sn => by
    rw [BlocksOk, blocksOk_iff zs, List.map_cons, List.nodup_cons]
    constructor
    · rintro ⟨⟨h1, h2⟩, h3, h4, h5⟩
      refine ⟨fun x hx => ?_, ⟨fun hm => h5 _ hm (by simp), h4⟩, fun x hx hm => ?_⟩
      · rcases List.mem_cons.1 hx with rfl | hx
        · exact h2
        · exact h3 x hx
      · rcases List.mem_cons.1 hx with rfl | hx
        · exact h1 hm
        · exact h5 x hx (List.mem_append_left _ hm)
    · rintro ⟨h1, ⟨h2, h3⟩, h4⟩
      refine ⟨⟨h4 _ (List.mem_cons_self ..), h1 z (List.mem_cons_self ..)⟩, fun x hx => h1 x (List.mem_cons_of_mem _ hx), h3, fun x hx hm => ?_⟩
      rcases List.mem_append.1 hm with hm | hm
      · exact h4 x (List.mem_cons_of_mem _ hx) hm
      · rw [List.mem_singleton] at hm
        exact h2 (hm ▸ hx)
structure FitsF (p : Packed) (g : Grid) (l : Layout) : Prop where
  len : l.pos.length = p.blocks.length
  fit : ∀ z ∈ p.blocks.zip l.pos, BlockFit g z.1 z.2
  pos : l.pos.Nodup
  sh : ∀ r ∈ l.routes, RouteSh g r
  nod : (flatN l.routes).Nodup
def encC (p : Packed) (g : Grid) (l : Layout) : Cfg := { setBs (blankF g) (p.blocks.zip l.pos) with sel := selRs g (List.replicate (countF g).toNat 0) l.routes }
theorem blankF_len (g : Grid) : CfgLn g (blankF g) := by refine ⟨?_, ?_, ?_, ?_⟩ <;> simp [blankF]
theorem blockSet_sel (c : Cfg) (b : Block) (t : Nat) : (blockSet c b t).sel = c.sel := by
  unfold blockSet
  repeat' split
  all_goals rfl
theorem setBs_sel : ∀ (zs : List (Block × Int)) (c : Cfg), (setBs c zs).sel = c.sel
  | [], _ => rfl
  | z :: zs, c => by rw [setBs, setBs_sel zs, blockSet_sel]
theorem encO_iff (p : Packed) {g : Grid} (hg : GOk g) (l : Layout) (c : Cfg) : encO p g l = some c ↔ FitsF p g l ∧ c = encC p g l := by
  have hcn := hg.count
  unfold encO
  by_cases h : l.pos.length = p.blocks.length
  · rw [if_pos h, Option.bind_eq_some_iff]
    have hz : (p.blocks.zip l.pos).map Prod.snd = l.pos := List.map_snd_zip (by omega)
    have h0 : ∀ t : Int, 0 ≤ t → t < g.kind.length → ((blankF g).mode.getD t.toNat 0 = 0 ↔ t ∉ ([] : List Int)) := fun t h1 h2 => by
      simp [blankF, List.getElem?_replicate]
      split <;> rfl
    have hlen : ((blankF g).sel.length : Int) = countF g := by simp [blankF]; omega
    have key : ∀ x : Cfg, foldO (blockF g) (blankF g) (p.blocks.zip l.pos) = some x → x.sel = (blankF g).sel := fun x hx => by
      obtain ⟨_, rfl⟩ := (blocksF_iff _ _ _ (blankF_len g) h0 x).1 hx
      rw [setBs_sel]
    constructor
    · rintro ⟨x, hx, hy⟩
      rw [Option.map_eq_some_iff] at hy
      obtain ⟨a, ha, rfl⟩ := hy
      rw [key x hx] at ha
      obtain ⟨h1, rfl⟩ := (blocksF_iff _ _ _ (blankF_len g) h0 x).1 hx
      obtain ⟨h2, rfl⟩ := (routesF_iff _ _ _ hlen a).1 ha
      obtain ⟨q1, q2, _⟩ := (blocksOk_iff _ _).1 h1
      obtain ⟨q3, q4, _⟩ := (routesOk_iff _ _).1 h2
      rw [hz] at q2
      exact ⟨⟨h, q1, q2, q3, q4⟩, rfl⟩
    · rintro ⟨⟨_, q1, q2, q3, q4⟩, rfl⟩
      have hx := (blocksF_iff _ _ _ (blankF_len g) h0 _).2 ⟨(blocksOk_iff _ _).2 ⟨q1, by rw [hz]; exact q2, fun _ _ h => by cases h⟩, rfl⟩
      refine ⟨_, hx, ?_⟩
      rw [Option.map_eq_some_iff, key _ hx]
      exact ⟨_, (routesF_iff _ _ _ hlen _).2 ⟨(routesOk_iff _ _).2 ⟨q3, q4, fun _ _ h => by cases h⟩, rfl⟩, rfl⟩
  · rw [if_neg h]
    exact ⟨fun e => (by cases e), fun e => absurd e.1.len h⟩
theorem encF_fit {p : Packed} {g : Grid} (hg : GOk g) {l : Layout} (h : FitsF p g l) : encF p g l = (encC p g l, 0) := by
  rw [encF, (encO_iff p hg l _).2 ⟨h, rfl⟩]
theorem encF_not {p : Packed} {g : Grid} (hg : GOk g) {l : Layout} (h : ¬ FitsF p g l) : encF p g l = (cfg0, 350) := by
  have : encO p g l = none := by
    cases e : encO p g l with
    | none => rfl
    | some c => exact absurd ((encO_iff p hg l c).1 e).1 h
  rw [encF, this]
end Go.Proofs.Ytledbjkolidhkaa
namespace Go.Proofs.Ytledbjkolidhkaa
open Go Go.Vc Txt
theorem setBs_len {g : Grid} : ∀ (zs : List (Block × Int)) (c : Cfg), CfgLn g c → CfgLn g (setBs c zs)
  | [], _, h => h
  | z :: zs, c, h => setBs_len zs _ (blockSet_len h)
theorem encC_len (p : Packed) (g : Grid) (l : Layout) : CfgLn g (encC p g l) := by
  obtain ⟨h1, h2, h3, h4⟩ := setBs_len (g := g) (p.blocks.zip l.pos) _ (blankF_len g)
  exact ⟨by simp only [encC]; rw [selRs_len, List.length_replicate], h2, h3, h4⟩
theorem FitsF.zs {p : Packed} {g : Grid} {l : Layout} (h : FitsF p g l) : (p.blocks.zip l.pos).map Prod.snd = l.pos := List.map_snd_zip (by have := h.len; omega)
theorem FitsF.rng {p : Packed} {g : Grid} {l : Layout} (h : FitsF p g l) : ∀ z ∈ p.blocks.zip l.pos, 0 ≤ z.2 ∧ z.2 < g.kind.length := fun z hz => (h.fit z hz).1.1
theorem flatN_mem {rs : List Route} {x : Int} : x ∈ flatN rs ↔ ∃ r ∈ rs, x ∈ r.nodes := by
  simp only [flatN, List.mem_flatten, List.mem_map]
  constructor
  · rintro ⟨_, ⟨r, hr, rfl⟩, hx⟩
    exact ⟨r, hr, hx⟩
  · rintro ⟨r, hr, hx⟩
    exact ⟨_, ⟨r, hr, rfl⟩, hx⟩
theorem flatN_cons (r : Route) (rs : List Route) : flatN (r :: rs) = r.nodes ++ flatN rs := by simp [flatN]
end Go.Proofs.Ytledbjkolidhkaa
namespace Go.Proofs.Ytledbjkolidhkaa
open Go Go.Vc Txt
theorem candN_mem (g : Grid) (s : Spot) (x : Int) : ∀ k, x ∈ candN g s k ↔ ∃ i, i < k ∧ CanD g (descF g i) s ∧ x = (i : Int)
  | 0 => by simp [candN]
  | k + 1 => by
    rw [candN, List.mem_append, candN_mem g s x k]
    constructor
    · rintro (⟨i, h1, h2, h3⟩ | h)
      · exact ⟨i, by omega, h2, h3⟩
      · split at h
        · rename_i hp
          exact ⟨k, by omega, hp, by simpa using h⟩
        · simp at h
    · rintro ⟨i, h1, h2, h3⟩
      by_cases e : i = k
      · subst e
        rw [if_pos h2]
        exact .inr (by simp [h3])
      · exact .inl ⟨i, by omega, h2, h3⟩
theorem descE_in {g : Grid} {n : Int} (hn : 0 ≤ n ∧ n < countF g) : descE g n = (descF g n, 0) := by rw [descE, if_neg (by omega)]
theorem driversF_memC {g : Grid} (hg : GOk g) {n : Int} (hn : 0 ≤ n ∧ n < countF g) (x : Int) : x ∈ driversF g n ↔ (0 ≤ x ∧ x < countF g) ∧ CanD g (descF g x) (descF g n) := by
  have := hg.count
  rw [drivers_eq hg, rdrF, descE_in hn, if_pos rfl, candN_mem]
  constructor
  · rintro ⟨i, h1, h2, rfl⟩
    exact ⟨by omega, h2⟩
  · rintro ⟨h1, h2⟩
    exact ⟨x.toNat, by omega, by rw [show ((x.toNat : Nat) : Int) = x by omega]; exact h2, by omega⟩
theorem srcs_none {g : Grid} (hg : GOk g) {n : Int} (h : n ∈ srcsF g) : driversF g n = [] := by
  obtain ⟨h1, h2⟩ := (srcsF_mem hg n).1 h
  cases e : driversF g n with
  | nil => rfl
  | cons y l =>
    have hy : y ∈ driversF g n := by rw [e]; exact List.mem_cons_self ..
    have hc := ((driversF_memC hg h1 y).1 hy).2
    rcases h2 with h2 | h2 | h2 <;> simp [CanD, Adj, h2] at hc <;> repeat' (split at hc)
    all_goals omega
theorem getD_app_lt {l : List Int} {i : Nat} (h : i < l.length) (m : List Int) : (l ++ m).getD i 0 = l.getD i 0 := by
  rw [List.getD_eq_getElem?_getD, List.getElem?_append_left h, List.getD_eq_getElem?_getD]
theorem getD_app_eq (l : List Int) (x : Int) : (l ++ [x]).getD l.length 0 = x := by
  rw [List.getD_eq_getElem?_getD, List.getElem?_append_right (Nat.le_refl _)]
  simp
def GrS (g : Grid) (sn : List Int) (a : List Int × List Int) : Prop := a.1.Nodup ∧ (∀ x ∈ a.1, x ∉ sn) ∧ (a.1 ≠ [] → a.2.getD 0 0 = -1 ∧ driversF g (a.1.getD 0 0) = []) ∧
  ∀ i, 0 < i → i < a.1.length → (0 ≤ a.2.getD i 0 ∧ a.2.getD i 0 < i) ∧ a.1.getD (a.2.getD i 0).toNat 0 ∈ driversF g (a.1.getD i 0)
structure GrSh (g : Grid) (sn : List Int) (a : List Int × List Int) : Prop where
  ok : GrOk g a
  s : GrS g sn a
theorem growS_sh {g : Grid} (hg : GOk g) {sn : List Int} {a : List Int × List Int} {b : Int} (hb : 0 ≤ b ∧ b ≤ 255) (h : GrSh g sn a) : GrSh g sn (growS g sn a b) := by
  have hok := (growS_ok hg (sn := sn) hb h.ok).1
  obtain ⟨⟨h1, h2⟩, h3, h4, h5, h6⟩ := h
  have hse := List.length_pos_iff.2 (srcsF_ne hg)
  refine ⟨hok, ?_⟩
  clear hok
  unfold GrS growS
  split
  · rename_i e
    split
    · exact ⟨h3, h4, h5, h6⟩
    · rename_i e2
      have hm : (srcsF g).getD (b % ((srcsF g).length : Int)).toNat 0 ∈ srcsF g := getD_mem (by have := Int.emod_lt_of_pos b (show 0 < ((srcsF g).length : Int) by omega); have := Int.emod_nonneg b (show ((srcsF g).length : Int) ≠ 0 by omega); omega)
      refine ⟨by simp, fun x hx => ?_, fun _ => ⟨rfl, srcs_none hg hm⟩, fun i h0 hi => by simp at hi; omega⟩
      rw [List.mem_singleton] at hx
      rw [hx]; exact e2
  · rename_i e
    have hlp := List.length_pos_iff.2 e
    simp only
    have q1 := Int.emod_lt_of_pos (b / 64) (show 0 < (a.1.length : Int) by omega)
    have q2 := Int.emod_nonneg (b / 64) (show (a.1.length : Int) ≠ 0 by omega)
    generalize b / 64 % (a.1.length : Int) = q at *
    have hx := h2 _ (getD_mem (l := a.1) (k := ((a.1.length : Int) - 1 - q).toNat) (by omega))
    generalize hxe : a.1.getD ((a.1.length : Int) - 1 - q).toNat 0 = x at *
    split
    · exact ⟨h3, h4, h5, h6⟩
    · rename_i e2
      have hdp := List.length_pos_iff.2 e2
      have hm : (drvnF g x).getD (b % 64 % ((drvnF g x).length : Int)).toNat 0 ∈ drvnF g x := getD_mem (by have := Int.emod_lt_of_pos (b % 64) (show 0 < ((drvnF g x).length : Int) by omega); have := Int.emod_nonneg (b % 64) (show ((drvnF g x).length : Int) ≠ 0 by omega); omega)
      generalize (drvnF g x).getD (b % 64 % ((drvnF g x).length : Int)).toNat 0 = n at *
      have hn := (drvnF_mem hg hx n).1 hm
      have hd : x ∈ driversF g n := (driversF_memC hg hn.1 x).2 ⟨hx, hn.2⟩
      split
      · rename_i e3
        refine ⟨List.nodup_append.2 ⟨h3, by simp, by intro a ha b hb h; simp at hb; subst hb; subst h; exact e3.2 ha⟩, fun y hy => ?_, fun _ => ?_, fun i h0 hi => ?_⟩
        · rw [List.mem_append, List.mem_singleton] at hy
          rcases hy with hy | rfl
          · exact h4 y hy
          · exact e3.1
        · simp only
          rw [getD_app_lt (by omega), getD_app_lt (by omega)]
          exact h5 e
        · simp only [List.length_append, List.length_singleton] at hi ⊢
          by_cases e4 : i = a.1.length
          · subst e4
            have := getD_app_eq a.2 ((a.1.length : Int) - 1 - q)
            rw [h1] at this
            rw [this, getD_app_eq, getD_app_lt (by omega), hxe]
            exact ⟨by omega, hd⟩
          · have := h6 i h0 (by omega)
            rw [getD_app_lt (by omega), getD_app_lt (show i < a.1.length by omega), getD_app_lt (by omega)]
            exact this
      · exact ⟨h3, h4, h5, h6⟩
theorem growN_sh {g : Grid} (hg : GOk g) (sn l : List Int) (hb : ∀ x ∈ l, 0 ≤ x ∧ x ≤ 255) : ∀ k, GrSh g sn (growN g sn l k)
  | 0 => ⟨⟨rfl, by simp [growN]⟩, .nil, by simp [growN], fun h => absurd rfl h, fun i h0 hi => by simp [growN] at hi⟩
  | k + 1 => by
    have hbk : 0 ≤ l.getD k 0 ∧ l.getD k 0 ≤ 255 := by
      by_cases h : k < l.length
      · exact hb _ (getD_mem h)
      · rw [List.getD_eq_getElem?_getD, List.getElem?_eq_none (by omega)]; decide
    exact growS_sh hg hbk (growN_sh hg sn l hb k)
theorem growF_sh {g : Grid} (hg : GOk g) (sn l : List Int) (hb : ∀ x ∈ l, 0 ≤ x ∧ x ≤ 255) (h : (growF g sn l).nodes ≠ []) (s : Int) : RouteSh g { growF g sn l with sig := s } := by
  obtain ⟨⟨h1, h2⟩, h3, h4, h5, h6⟩ := growN_sh hg sn l hb (min l.length 16)
  exact ⟨h, h1, (h5 h).1, h2, (h5 h).2, h6⟩
structure Raw31 where
  g : RawG
  blocks : List (Int × Int × Int)
  routes : List (List Int)
structure Raw31.By (x : Raw31) : Prop where
  g : x.g.By
  bl : (x.blocks.length : Int) ≤ 9223372036854775807
  blocks : ∀ y ∈ x.blocks, (0 ≤ y.1 ∧ y.1 ≤ 255) ∧ (0 ≤ y.2.1 ∧ y.2.1 ≤ 255) ∧ (0 ≤ y.2.2 ∧ y.2.2 ≤ 255)
  rl : (x.routes.length : Int) ≤ 9223372036854775807
  routes : ∀ l ∈ x.routes, (l.length : Int) ≤ 9223372036854775807 ∧ ∀ y ∈ l, 0 ≤ y ∧ y ≤ 255
def gridM (x : RawG) : Grid := { gridF x with pads := 4 }
def rtS1 (g : Grid) (a : List Int × List Route) (k : Nat) (l : List Int) : List Int × List Route :=
  if (growF g a.1 l).nodes = [] then a else (a.1 ++ (growF g a.1 l).nodes, a.2 ++ [{ growF g a.1 l with sig := k }])
def rtN (g : Grid) (xs : List (List Int)) : Nat → List Int × List Route
  | 0 => ([], [])
  | k + 1 => rtS1 g (rtN g xs k) k (xs.getD k [])
def packM (x : Raw31) : Packed := ⟨[], (blkF (gridM x.g) x.blocks).1, [], []⟩
def layM (x : Raw31) : Layout := ⟨(blkF (gridM x.g) x.blocks).2, (rtN (gridM x.g) x.routes (min x.routes.length 5)).2⟩
theorem gridM_ok (x : RawG) : GOk (gridM x) ∧ (gridM x).pads = 4 := by
  obtain ⟨⟨h1, h2, h3, h4, h5⟩, h6⟩ := gridF_ok x
  exact ⟨⟨h1, h2, h3, by show 0 ≤ (4 : Int) ∧ (4 : Int) ≤ 1000; omega, h5⟩, rfl⟩
structure RtOk (g : Grid) (a : List Int × List Route) (k : Nat) : Prop where
  sh : ∀ r ∈ a.2, RouteSh g r
  nod : (flatN a.2).Nodup
  eq : a.1 = flatN a.2
  len : a.2.length ≤ k
  rl : ∀ r ∈ a.2, r.nodes.length ≤ 16
theorem flatN_snoc (rs : List Route) (r : Route) : flatN (rs ++ [r]) = flatN rs ++ r.nodes := by simp [flatN]
theorem rtN_ok {g : Grid} (hg : GOk g) (xs : List (List Int)) (hb : ∀ l ∈ xs, ∀ y ∈ l, 0 ≤ y ∧ y ≤ 255) : ∀ k, RtOk g (rtN g xs k) k
  | 0 => ⟨by simp [rtN], by simp [rtN, flatN], rfl, by simp [rtN], by simp [rtN]⟩
  | k + 1 => by
    obtain ⟨h1, h2, h3, h4, h5⟩ := rtN_ok hg xs hb k
    have hbl : ∀ y ∈ xs.getD k [], 0 ≤ y ∧ y ≤ 255 := by
      by_cases h : k < xs.length
      · have hm : xs.getD k [] ∈ xs := by simp [h]
        exact hb _ hm
      · rw [List.getD_eq_getElem?_getD, List.getElem?_eq_none (by omega)]; simp
    rw [rtN, rtS1]
    split
    · exact ⟨h1, h2, h3, by omega, h5⟩
    · rename_i e
      have hs := growF_sh hg (rtN g xs k).1 _ hbl e k
      have hG := growN_sh hg (rtN g xs k).1 _ hbl (min (xs.getD k []).length 16)
      have hL := (growN_ok hg (rtN g xs k).1 _ hbl (min (xs.getD k []).length 16)).2
      refine ⟨fun r hr => ?_, ?_, ?_, by simp; omega, fun r hr => ?_⟩
      · rw [List.mem_append, List.mem_singleton] at hr
        rcases hr with hr | rfl
        · exact h1 r hr
        · exact hs
      · rw [flatN_snoc, List.nodup_append]
        exact ⟨h2, hG.s.1, fun a ha b hb e => hG.s.2.1 b hb (by rw [h3, ← e]; exact ha)⟩
      · rw [flatN_snoc, h3]
      · rw [List.mem_append, List.mem_singleton] at hr
        rcases hr with hr | rfl
        · exact h5 r hr
        · show (growN _ _ _ _).1.length ≤ 16
          omega
theorem made_fits {x : Raw31} (hx : x.By) : FitsF (packM x) (gridM x.g) (layM x) := by
  obtain ⟨h1, h2, h3, h4⟩ := (blkN_ok (gridM x.g) x.blocks (min x.blocks.length 12)).1
  obtain ⟨q1, q2, q3, q4⟩ := rtN_ok (gridM_ok x.g).1 x.routes (fun l hl => (hx.routes l hl).2) (min x.routes.length 5)
  exact ⟨h1, h2, h3, q1, q2⟩
end Go.Proofs.Ytledbjkolidhkaa
namespace Go.Proofs.Ytledbjkolidhkaa
open Go Go.Vc Txt
def bytesL (q : Bool) (l : List Int) : List PV := [.sl q 1 (bytes8 l)]
@[push_cast] theorem bytesL_eq (q : Bool) (l : List Int) : bytesL q l = [.sl q 1 (bytes8 l)] := rfl
def raw31C (q : Bool) (x : Raw31) : List PV := rawGC q x.g ++ [.sl q 3 (rows tripC x.blocks), .sl q 1 (rows (bytesL q) x.routes)]
@[push_cast] theorem raw31C_eq (q : Bool) (x : Raw31) : raw31C q x = rawGC q x.g ++ [.sl q 3 (rows tripC x.blocks), .sl q 1 (rows (bytesL q) x.routes)] := rfl
theorem desC_sub (g : Grid) (p : Packed) (l : Layout) : Sub (.agg (desC true g p l)) (.agg (desC false g p l)) := by
  have sl : ∀ (es : Nat) (xs : List (List PV)), Sub (.sl true es xs) (.sl false es xs) := fun es xs => .slp _ _ _ _ (fun h => by cases h)
  exact Sub.aggL ⟨.refl _, .refl _, .refl _, .refl _, sl _ _, sl _ _,
    Sub.slR 5 (fun h => by cases h) (SubR.map _ _ _ fun r _ => ⟨sl _ _, .refl _, .refl _, .refl _, .refl _, trivial⟩), sl _ _, sl _ _, sl _ _,
    Sub.slR 3 (fun h => by cases h) (SubR.map _ _ _ fun r _ => ⟨.refl _, sl _ _, sl _ _, trivial⟩), trivial⟩
def lvR (id : Nat) : List Route → PV
  | [] => .nil
  | x :: l => .view id 0 (l.length + 1)
def laR (id : Nat) : List Route → List (Nat × Arr)
  | [] => []
  | x :: l => [(id, ⟨3, 72, rows (routeC true) (x :: l)⟩)]
@[push_cast] theorem lvR_nil (id : Nat) : lvR id [] = .nil := rfl
@[push_cast] theorem lvR_cons (id : Nat) (x : Route) (l : List Route) : lvR id (x :: l) = .view id 0 (l.length + 1) := rfl
@[push_cast] theorem laR_nil (id : Nat) : laR id [] = [] := rfl
@[push_cast] theorem laR_cons (id : Nat) (x : Route) (l : List Route) : laR id (x :: l) = [(id, ⟨3, 72, rows (routeC true) (x :: l)⟩)] := rfl
@[push_cast] theorem lvR_to (pb pa : Nat → Bool) (id : Nat) (rs : List Route) : PV.to pb pa (lvR id rs) = (pa id && !rs.isEmpty) := by cases rs <;> simp [lvR, PV.to]
set_option maxHeartbeats 4000000 in
theorem made31_ok (x : Raw31) (hx : x.By) : FnEq Try.prog 11 [.agg (raw31C false x)] (.agg (desC true (gridM x.g) (packM x) (layM x))) := by
  obtain ⟨hg, hp⟩ := gridM_ok x.g
  have hcn := hg.count
  refine FnEq.of_awp Try.func11 ok11 (by show 1 ≤ _; decide) (by simp only [push_cast, reduceIte, Nat.reduceEqDiff, Nat.reduceAdd, Nat.reduceSub, Nat.reduceMul, Nat.reduceBEq, Nat.reduceLT, Nat.reduceLeDiff, reduceCtorEq, Int.reduceToNat, Int.reduceNeg] <;> first | exact fun _ _ => trivial | simp) ?_
  simp only [ac11, rv11, push_cast, reduceIte, Nat.reduceEqDiff, Nat.reduceAdd, Nat.reduceSub, Nat.reduceMul, Nat.reduceBEq, Nat.reduceLT, Nat.reduceLeDiff, reduceCtorEq, Int.reduceToNat, Int.reduceNeg]
  refine cal_eq (made_ok x.g hx.g.ok) ?_
  simp only [push_cast, reduceIte, Nat.reduceEqDiff, Nat.reduceAdd, Nat.reduceSub, Nat.reduceMul, Nat.reduceBEq, Nat.reduceLT, Nat.reduceLeDiff, reduceCtorEq, Int.reduceToNat, Int.reduceNeg]
  refine cal_sub (rblocks_ok (gridM x.g) hg x.blocks hx.bl hx.blocks) ⟨.refl _, .refl _, trivial⟩ ?_
  have hrt := rtN_ok hg x.routes (fun l hl => (hx.routes l hl).2)
  have hP : packM x = ⟨[], (blkF (gridM x.g) x.blocks).1, [], []⟩ := rfl
  have hL : layM x = ⟨(blkF (gridM x.g) x.blocks).2, (rtN (gridM x.g) x.routes (min x.routes.length 5)).2⟩ := rfl
  rw [hP, hL]
  generalize blkF (gridM x.g) x.blocks = bt
  obtain ⟨bs, ts⟩ := bt
  generalize gridM x.g = g at *
  clear hP hL
  have hrl := hx.rl
  have hrr := hx.routes
  generalize hxs : x.routes = xs at *
  simp only [push_cast, reduceIte, Nat.reduceEqDiff, Nat.reduceAdd, Nat.reduceSub, Nat.reduceMul, Nat.reduceBEq, Nat.reduceLT, Nat.reduceLeDiff, reduceCtorEq, Int.reduceToNat, Int.reduceNeg]
  refine cal_sub (rcount_ok g hg) (by simp only [push_cast, reduceIte, Nat.reduceEqDiff, Nat.reduceAdd, Nat.reduceSub, Nat.reduceMul, Nat.reduceBEq, Nat.reduceLT, Nat.reduceLeDiff, reduceCtorEq, Int.reduceToNat, Int.reduceNeg]) ?_
  simp only [push_cast, reduceIte, Nat.reduceEqDiff, Nat.reduceAdd, Nat.reduceSub, Nat.reduceMul, Nat.reduceBEq, Nat.reduceLT, Nat.reduceLeDiff, reduceCtorEq, Int.reduceToNat, Int.reduceNeg]
  repeat (refine And.intro (by omega) ?_)
  obtain ⟨c, hc⟩ : ∃ c : Nat, countF g = c := ⟨(countF g).toNat, by omega⟩
  rw [hc, Int.toNat_natCast, List.length_replicate, seenB_nil]
  refine loop_of (fun m st => ∃ k : Nat, k ≤ min xs.length 5 ∧ m = min xs.length 5 - k ∧ st = ⟨[(1, .ptr 1 0), (2, .ptr 2 0), (4, .ptr 4 0), (5, .view 21 0 c), (6, .int k)],
    [(1, raw31C false x), (2, [.int 0, .int 0, .int 0, .int 0, .nil, .nil, .nil, .nil, .nil, .nil, .nil]), (4, desN g bs ts (lvR 67 (rtN g xs k).2))], (21, ⟨1, 4, rows boolC (seenB c (rtN g xs k).1)⟩) :: laR 67 (rtN g xs k).2, []⟩) (min xs.length 5) ?_ ?_
  · refine ⟨0, by omega, by omega, ?_⟩
    simp only [rtN, hxs, List.cons_append, List.nil_append, push_cast, reduceIte, Nat.reduceEqDiff, Nat.reduceAdd, Nat.reduceSub, Nat.reduceMul, Nat.reduceBEq, Nat.reduceLT, Nat.reduceLeDiff, reduceCtorEq, Int.reduceToNat, Int.reduceNeg]
    done
  rintro m st ⟨k, hk, rfl, rfl⟩
  obtain ⟨q1, q2, q3, q4, q5⟩ := hrt k
  have hS : rtN g xs (k + 1) = rtS1 g (rtN g xs k) k (xs.getD k []) := rfl
  rcases ha : rtN g xs k with ⟨sn, rs⟩
  rw [ha] at q1 q2 q3 q4 q5 hS
  simp only at q1 q2 q3 q4 q5 ⊢
  obtain ⟨B, hB⟩ : ∃ B, B = decide (k < xs.length ∧ k < 5) := ⟨_, rfl⟩
  simp only [hxs, push_cast, reduceIte, Nat.reduceEqDiff, Nat.reduceAdd, Nat.reduceSub, Nat.reduceMul, Nat.reduceBEq, Nat.reduceLT, Nat.reduceLeDiff, reduceCtorEq, Int.reduceToNat, Int.reduceNeg]
  refine cut_of ⟨[(1, .ptr 1 0), (2, .ptr 2 0), (4, .ptr 4 0), (5, .view 21 0 c), (6, .int k), (30, .bool B)],
    [(1, rawGC false x.g ++ [.sl false 3 (rows tripC x.blocks), .sl false 1 (rows (bytesL false) xs)]), (2, [.int 0, .int 0, .int 0, .int 0, .nil, .nil, .nil, .nil, .nil, .nil, .nil]), (4, desN g bs ts (lvR 67 rs))], (21, ⟨1, 4, rows boolC (seenB c sn)⟩) :: laR 67 rs, []⟩ ?_ ?_
  · refine grd_dec rfl (fun e1 => ?_) fun e1 => ?_ <;> simp only [push_cast, reduceIte, Nat.reduceEqDiff, Nat.reduceAdd, Nat.reduceSub, Nat.reduceMul, Nat.reduceBEq, Nat.reduceLT, Nat.reduceLeDiff, reduceCtorEq, Int.reduceToNat, Int.reduceNeg]
    · rw [show B = decide ((k : Int) < 5) from by rw [hB, decide_eq_decide]; omega]
    · rw [show B = false from by rw [hB]; exact decide_eq_false (by omega)]
  simp only [push_cast, reduceIte, Nat.reduceEqDiff, Nat.reduceAdd, Nat.reduceSub, Nat.reduceMul, Nat.reduceBEq, Nat.reduceLT, Nat.reduceLeDiff, reduceCtorEq, Int.reduceToNat, Int.reduceNeg]
  refine cond_of (fun e => ?_) fun e => ?_
  rotate_left
  · rw [hB, decide_eq_false_iff_not] at e
    rw [show min xs.length 5 = k by omega, ha]
    simp only [push_cast, reduceIte, Nat.reduceEqDiff, Nat.reduceAdd, Nat.reduceSub, Nat.reduceMul, Nat.reduceBEq, Nat.reduceLT, Nat.reduceLeDiff, reduceCtorEq, Int.reduceToNat, Int.reduceNeg]
    cases rs with
    | nil =>
      simp only [push_cast, reduceIte, Nat.reduceEqDiff, Nat.reduceAdd, Nat.reduceSub, Nat.reduceMul, Nat.reduceBEq, Nat.reduceLT, Nat.reduceLeDiff, reduceCtorEq, Int.reduceToNat, Int.reduceNeg]
      exact ⟨fun _ _ => trivial, fun _ _ _ _ => trivial, fun _ _ => trivial⟩
    | cons r rs =>
      rw [lvR_cons, laR_cons]
      simp only [push_cast, reduceIte, Nat.reduceEqDiff, Nat.reduceAdd, Nat.reduceSub, Nat.reduceMul, Nat.reduceBEq, Nat.reduceLT, Nat.reduceLeDiff, reduceCtorEq, Int.reduceToNat, Int.reduceNeg]
      rw [List.take_of_length_le (by simp)]
      exact ⟨⟨fun _ _ => trivial, fun _ _ _ _ => trivial, fun _ _ => trivial, fun _ _ => ⟨fun _ _ => trivial, fun _ _ => trivial⟩⟩, .refl _⟩
  rw [hB, decide_eq_true_eq] at e
  obtain ⟨e1, e2⟩ := e
  have hxk := hrr (xs.getD k []) (by simp [e1])
  have hct : (countF g).toNat = c := by omega
  have hGr := grown_ok g hg sn (xs.getD k []) hxk.1 hxk.2
  have hGo := growN_ok hg sn (xs.getD k []) hxk.2 (min (xs.getD k []).length 16)
  have hGF : growF g sn (xs.getD k []) = ⟨0, (growN g sn (xs.getD k []) (min (xs.getD k []).length 16)).1, (growN g sn (xs.getD k []) (min (xs.getD k []).length 16)).2⟩ := rfl
  rw [hct] at hGr
  rw [rtS1] at hS
  rw [show xs.getD k default = xs.getD k [] from rfl]
  have hsb : List.take c (seenB c sn) = seenB c sn := List.take_of_length_le (by rw [seenB_len]; exact Nat.le_refl _)
  generalize xs.getD k [] = l at *
  rw [hGF] at hS hGr
  simp only at hS
  obtain ⟨⟨o1, o2⟩, o3⟩ := hGo
  generalize growN g sn l (min l.length 16) = nf at *
  obtain ⟨ns, fr⟩ := nf
  simp only at hS hGr o1 o2 o3
  refine ⟨by omega, e1, ?_⟩
  refine dcal_sub hGr ⟨Sub.aggL ⟨.refl _, .refl _, .refl _, .refl _, .slp _ _ _ _ (fun h => by cases h), trivial⟩, by rw [hsb]; exact .refl _, .refl _, trivial⟩ rfl ?_
  simp only [push_cast, reduceIte, Nat.reduceEqDiff, Nat.reduceAdd, Nat.reduceSub, Nat.reduceMul, Nat.reduceBEq, Nat.reduceLT, Nat.reduceLeDiff, reduceCtorEq, Int.reduceToNat, Int.reduceNeg]
  refine cond_dec (fun h => ?_) fun h => ?_
  · have hn : ns = [] := List.length_eq_zero_iff.1 (by omega)
    rw [if_pos hn] at hS
    refine ⟨by omega, _, ?_, k + 1, by omega, rfl, ?_⟩
    · omega
    · rw [hS]
      cases rs <;> simp only [push_cast, reduceIte, Nat.reduceEqDiff, Nat.reduceAdd, Nat.reduceSub, Nat.reduceMul, Nat.reduceBEq, Nat.reduceLT, Nat.reduceLeDiff, reduceCtorEq, Int.reduceToNat, Int.reduceNeg]
  have hn : ns ≠ [] := fun e => h (by rw [e]; rfl)
  rw [if_neg hn] at hS
  refine loop_of (fun m st => ∃ j : Nat, j ≤ ns.length ∧ m = ns.length - j ∧ st = ⟨[(1, .ptr 1 0), (2, .ptr 2 0), (4, .ptr 4 0), (5, .view 21 0 c), (6, .int k), (7, .ptr 7 0), (8, .int j)],
    [(1, rawGC false x.g ++ [.sl false 3 (rows tripC x.blocks), .sl false 1 (rows (bytesL false) xs)]), (2, [.int 0, .int 0, .int 0, .int 0, .nil, .nil, .nil, .nil, .nil, .nil, .nil]), (4, desN g bs ts (lvR 67 rs)), (7, [.int k, .sl true 1 (ints ns), .sl true 1 (ints fr)])], (21, ⟨1, 4, rows boolC (seenB c (sn ++ ns.take j))⟩) :: laR 67 rs, []⟩) ns.length ?_ ?_
  · refine ⟨0, by omega, by omega, ?_⟩
    cases rs <;> simp only [List.take_zero, List.append_nil, push_cast, reduceIte, Nat.reduceEqDiff, Nat.reduceAdd, Nat.reduceSub, Nat.reduceMul, Nat.reduceBEq, Nat.reduceLT, Nat.reduceLeDiff, reduceCtorEq, Int.reduceToNat, Int.reduceNeg]
  rintro m st ⟨j, hj, rfl, rfl⟩
  simp only [seenB_len, push_cast, reduceIte, Nat.reduceEqDiff, Nat.reduceAdd, Nat.reduceSub, Nat.reduceMul, Nat.reduceBEq, Nat.reduceLT, Nat.reduceLeDiff, reduceCtorEq, Int.reduceToNat, Int.reduceNeg]
  refine cond_dec (fun h2 => ?_) fun h2 => ?_
  · have hnj := o2 _ (getD_mem (l := ns) (k := j) (by omega))
    have ht := take_next (l := ns) (k := j) (by omega)
    rw [show ns.getD j default = ns.getD j 0 from rfl]
    refine ⟨by omega, by omega, by omega, by omega, by omega, _, ?_, j + 1, by omega, rfl, ?_⟩
    · omega
    · rw [ht, ← List.append_assoc, ← seenB_set (by omega)]
      cases rs <;> simp only [push_cast, reduceIte, Nat.reduceEqDiff, Nat.reduceAdd, Nat.reduceSub, Nat.reduceMul, Nat.reduceBEq, Nat.reduceLT, Nat.reduceLeDiff, reduceCtorEq, Int.reduceToNat, Int.reduceNeg]
  rw [List.take_of_length_le (show ns.length ≤ j by omega)]
  cases rs with
  | nil =>
    rw [lvR_nil, laR_nil]
    simp only [push_cast, reduceIte, Nat.reduceEqDiff, Nat.reduceAdd, Nat.reduceSub, Nat.reduceMul, Nat.reduceBEq, Nat.reduceLT, Nat.reduceLeDiff, reduceCtorEq, Int.reduceToNat, Int.reduceNeg]
    refine ⟨by omega, _, ?_, k + 1, by omega, rfl, ?_⟩
    · omega
    · rw [hS]
      simp [rows, routeC, lvR, laR]
  | cons r rs =>
    rw [lvR_cons, laR_cons]
    simp only [List.length_cons] at q4
    simp only [push_cast, reduceIte, Nat.reduceEqDiff, Nat.reduceAdd, Nat.reduceSub, Nat.reduceMul, Nat.reduceBEq, Nat.reduceLT, Nat.reduceLeDiff, reduceCtorEq, Int.reduceToNat, Int.reduceNeg]
    refine ⟨by omega, by omega, _, ?_, k + 1, by omega, rfl, ?_⟩
    · omega
    · rw [hS]
      simp [rows, routeC, lvR, laR]
end Go.Proofs.Ytledbjkolidhkaa
namespace Go.Proofs.Ytledbjkolidhkaa
open Go Go.Vc Txt
structure DesOk (g : Grid) (p : Packed) (l : Layout) : Prop where
  fit : FitsF p g l
  pos : l.pos.length ≤ 12
  rts : l.routes.length ≤ 5
  nds : ∀ r ∈ l.routes, r.nodes.length ≤ 16
theorem made_des {x : Raw31} (hx : x.By) : DesOk (gridM x.g) (packM x) (layM x) := by
  obtain ⟨h1, h2⟩ := blkN_ok (gridM x.g) x.blocks (min x.blocks.length 12)
  obtain ⟨q1, q2, q3, q4, q5⟩ := rtN_ok (gridM_ok x.g).1 x.routes (fun l hl => (hx.routes l hl).2) (min x.routes.length 5)
  refine ⟨made_fits hx, ?_, ?_, q5⟩
  · have := h1.len
    show (blkN _ _ _).2.length ≤ 12
    omega
  · show (rtN _ _ _).2.length ≤ 5
    omega
end Go.Proofs.Ytledbjkolidhkaa
namespace Go.Proofs.Ytledbjkolidhkaa
open Go Go.Vc Txt
def raw31T : List Ty := [.i .u8, .i .u8, .i .u8, .i .u8, .sl 1 [.i .u8], .sl 3 [.i .u8, .i .u8, .i .u8], .sl 1 [.sl 1 [.i .u8]]]
theorem raw31_of {a : List PV} (h : RowV raw31T a) : ∃ x : Raw31, x.By ∧ a = raw31C true x := by
  obtain ⟨c0, a0, rfl, h0, k0⟩ := rowV_cons h
  obtain ⟨c1, a1, rfl, h1, k1⟩ := rowV_cons k0
  obtain ⟨c2, a2, rfl, h2, k2⟩ := rowV_cons k1
  obtain ⟨c3, a3, rfl, h3, k3⟩ := rowV_cons k2
  obtain ⟨c4, a4, rfl, h4, k4⟩ := rowV_cons k3
  obtain ⟨c5, a5, rfl, h5, k5⟩ := rowV_cons k4
  obtain ⟨c6, a6, rfl, h6, k6⟩ := rowV_cons k5
  obtain ⟨n0, rfl, b0⟩ := cellV_u8 h0
  obtain ⟨n1, rfl, b1⟩ := cellV_u8 h1
  obtain ⟨n2, rfl, b2⟩ := cellV_u8 h2
  obtain ⟨n3, rfl, b3⟩ := cellV_u8 h3
  obtain ⟨l, rfl, hn, hl⟩ := cellV_bytes h4
  obtain ⟨rs, rfl, hrl, hr⟩ := cellV_sl h5
  obtain ⟨bs, rfl, hbs⟩ := rows_all (f := tripC) (Q := fun y => (0 ≤ y.1 ∧ y.1 ≤ 255) ∧ (0 ≤ y.2.1 ∧ y.2.1 ≤ 255) ∧ (0 ≤ y.2.2 ∧ y.2.2 ≤ 255)) (rs := rs) fun r hr2 => by
    obtain ⟨d0, q0, rfl, e0, g0⟩ := rowV_cons (hr r hr2)
    obtain ⟨d1, q1, rfl, e1, g1⟩ := rowV_cons g0
    obtain ⟨d2, q2, rfl, e2, g2⟩ := rowV_cons g1
    obtain ⟨m0, rfl, f0⟩ := cellV_u8 e0
    obtain ⟨m1, rfl, f1⟩ := cellV_u8 e1
    obtain ⟨m2, rfl, f2⟩ := cellV_u8 e2
    rw [rowV_nil g2]
    exact ⟨(m0, m1, m2), rfl, f0, f1, f2⟩
  obtain ⟨ss, rfl, hsl, hs⟩ := cellV_sl h6
  obtain ⟨xs, rfl, hxs⟩ := rows_all (f := bytesL true) (Q := fun l => (l.length : Int) ≤ 9223372036854775807 ∧ ∀ y ∈ l, 0 ≤ y ∧ y ≤ 255) (rs := ss) fun r hr2 => by
    obtain ⟨d0, q0, rfl, e0, g0⟩ := rowV_cons (hs r hr2)
    obtain ⟨m, rfl, f0, f1⟩ := cellV_bytes e0
    rw [rowV_nil g0]
    exact ⟨m, rfl, f0, f1⟩
  rw [rowV_nil k6]
  have : maxLen = 9223372036854775807 := rfl
  simp only [rows, List.length_map] at hrl hsl
  exact ⟨⟨⟨n0, n1, n2, n3, l⟩, bs, xs⟩, ⟨⟨b0, b1, b2, b3, hn, hl⟩, by show (bs.length : Int) ≤ _; omega, hbs, by show (xs.length : Int) ≤ _; omega, hxs⟩, rfl⟩
theorem raw31C_sub (x : Raw31) : Sub (.agg (raw31C true x)) (.agg (raw31C false x)) := by
  have sl : ∀ (es : Nat) (xs : List (List PV)), Sub (.sl true es xs) (.sl false es xs) := fun es xs => .slp _ _ _ _ (fun h => by cases h)
  exact Sub.aggL ⟨.refl _, .refl _, .refl _, .refl _, sl _ _, sl _ _, Sub.slR 1 (fun h => by cases h) (SubR.map _ _ _ fun r _ => ⟨sl _ _, trivial⟩), trivial⟩
end Go.Proofs.Ytledbjkolidhkaa
namespace Go.Proofs.Ytledbjkolidhkaa
open Go Go.Vc Txt
theorem raw2_true {f : Nat} (hok : ∀ (x : Raw31), x.By → ∀ k0 k1 : Int, 0 ≤ k0 ∧ k0 ≤ 255 → 0 ≤ k1 ∧ k1 ≤ 255 →
      FnEq Try.prog f [.agg (raw31C false x), .agg [.sc (.int .u8 k0), .sc (.int .u8 k1)]] (.bool true)) {a b : List PV} (ha : RowV raw31T a) (hb : RowV (List.replicate 2 (.i .u8)) b) : FnEq Try.prog f [.agg a, .agg b] (.bool true) := by
  obtain ⟨x, hx, rfl⟩ := raw31_of ha
  obtain ⟨l, rfl, hl, hv⟩ := rowV_bytes hb
  match l, hl, hv with
  | [k0, k1], _, hv => exact FnOK.sub (hok x hx k0 k1 (hv _ (by simp)) (hv _ (by simp))) ⟨raw31C_sub x, .refl _, trivial⟩
end Go.Proofs.Ytledbjkolidhkaa
namespace Go.Proofs.Ytledbjkolidhkaa
open Go Go.Vc Txt
end Go.Proofs.Ytledbjkolidhkaa
namespace Go.Proofs.Ytledbjkolidhkaa
open Go Go.Vc Txt
theorem flatN_app (A B : List Route) : flatN (A ++ B) = flatN A ++ flatN B := by simp [flatN]
theorem zip_at {bs : List Block} {pos : List Int} {i : Nat} (hb : i < bs.length) (hp : i < pos.length) : (bs.getD i default, pos.getD i 0) ∈ bs.zip pos := by
  refine List.mem_iff_getElem.2 ⟨i, by simp only [List.length_zip]; omega, ?_⟩
  simp [List.getD_eq_getElem?_getD, hb, hp]
theorem bad_dup {p q : Packed} {g : Grid} {l : Layout} {i : Nat} (hi : i < l.pos.length) : ¬ FitsF q g { l with pos := l.pos ++ [l.pos.getD i 0] } := fun h => by
  have := h.pos
  exact (List.nodup_append.1 this).2.2 _ (getD_mem hi) _ (by simp) rfl
theorem bad_block {p : Packed} {g : Grid} {l : Layout} (h : l.pos.length = p.blocks.length) {i : Nat} (hi : i < p.blocks.length) : ¬ FitsF { p with blocks := p.blocks.set i ⟨[], 0, 1, 1, 0⟩ } g l := fun hf => by
  have hz := zip_at (bs := p.blocks.set i ⟨[], 0, 1, 1, 0⟩) (pos := l.pos) (i := i) (by rw [List.length_set]; exact hi) (by omega)
  have := (hf.fit _ hz).2.2
  rw [List.getD_eq_getElem?_getD, List.getElem?_set_self hi] at this
  simp at this
theorem bad_len {p : Packed} {g : Grid} {l : Layout} (h : l.pos.length = p.blocks.length) (h0 : 0 < l.pos.length) : ¬ FitsF p g { l with pos := l.pos.drop 1 } := fun hf => by
  have := hf.len
  simp only [List.length_drop] at this
  omega
theorem bad_route {p : Packed} {g : Grid} {l : Layout} {r : Route} (h : ¬ RouteSh g r) : ¬ FitsF p g { l with routes := l.routes ++ [r] } := fun hf => h (hf.sh r (by simp))
theorem bad_again {p : Packed} {g : Grid} {l : Layout} {r : Route} (hr : r ∈ l.routes) (hn : r.nodes ≠ []) : ¬ FitsF p g { l with routes := l.routes ++ [r] } := fun hf => by
  have := hf.nod
  simp only [flatN_app, flatN_cons] at this
  obtain ⟨x, hx⟩ := List.exists_mem_of_ne_nil _ hn
  exact (List.nodup_append.1 this).2.2 x (flatN_mem.2 ⟨r, hr, hx⟩) x (by simp [hx]) rfl
theorem bad_twice {p : Packed} {g : Grid} {l : Layout} {i : Nat} {r s : Route} (hi : i < l.routes.length) (hs : s.nodes = r.nodes ++ [r.nodes.getD 0 0]) (hn : r.nodes ≠ []) : ¬ FitsF p g { l with routes := l.routes.set i s } := fun hf => by
  have hm : s ∈ l.routes.set i s := List.mem_iff_getElem.2 ⟨i, by rw [List.length_set]; exact hi, by simp⟩
  obtain ⟨A, B, e⟩ := List.append_of_mem hm
  have := hf.nod
  simp only [e, flatN_app, flatN_cons] at this
  have := (List.nodup_append.1 (List.nodup_append.1 this).2.1).1
  rw [hs] at this
  exact (List.nodup_append.1 this).2.2 _ (getD_mem (List.length_pos_iff.2 hn)) _ (by simp) rfl
end Go.Proofs.Ytledbjkolidhkaa
namespace Go.Proofs.Ytledbjkolidhkaa
open Go Go.Vc Txt
theorem subR_set : ∀ {xs ys : List (List PV)} {x y : List PV} (n : Nat), SubR xs ys → SubL x y → SubR (xs.set n x) (ys.set n y)
  | [], [], _, _, _, _, _ => trivial
  | _ :: _, _ :: _, _, _, 0, h, h2 => ⟨h2, h.2⟩
  | _ :: _, _ :: _, _, _, n + 1, h, h2 => ⟨h.1, subR_set n h.2 h2⟩
end Go.Proofs.Ytledbjkolidhkaa
namespace Go.Proofs.Ytledbjkolidhkaa.Txt
open Go Go.Vc
set_option maxRecDepth 100000
def ac8p_r33 : AC :=
 (.seq (.seq (.reg [0, 216, 5, 7] [
 ⟨some 18, none, .mv (.c (.sc (.int .i64 0)))⟩])
 (.block 2
 (.loop [0, 216, 5, 7, 18]
 (.seq (.seq (.reg [0, 216, 5, 7, 18] [
 ⟨some 194, none, .mv (.t 18)⟩, ⟨some 195, none, .mv (.t 7)⟩, ⟨some 196, none, .len (.t 195)⟩, ⟨some 197, none, .cmp .lss .i64 (.t 194) (.t 196)⟩])
 (.cond (.t 197)
 .skip
 (.exit 2)))
 (.seq (.block 3
 (.seq (.reg [0, 216, 5, 7, 18] [
 ⟨some 200, none, .mv (.t 7)⟩, ⟨some 201, none, .mv (.t 18)⟩, ⟨some 202, none, .ixs 11 (.t 200) (.t 201)⟩, ⟨some 203, none, .ld true 11 (.t 202)⟩, ⟨some 204, none, .cal 13 [(.t 203)]⟩, ⟨some 19, none, .alc [.nil, .nil, .nil, .nil, .sc (.int .i64 0)]⟩, ⟨none, none, .sto 5 (.t 19) (.t 204)⟩])
 (.seq (.reg [0, 216, 5, 7, 18, 19] [
 ⟨some 205, none, .fa 4 (.t 19)⟩, ⟨some 206, none, .ld false 1 (.t 205)⟩, ⟨some 207, none, .cmp .neq .i64 (.t 206) (.c (.sc (.int .i64 350)))⟩, ⟨some 208, none, .mv (.t 207)⟩, ⟨some 209, some (208, false), .fa 0 (.t 19)⟩, ⟨some 210, some (208, false), .fa 0 (.t 209)⟩, ⟨some 211, some (208, false), .ld false 1 (.t 210)⟩, ⟨some 212, some (208, false), .len (.t 211)⟩, ⟨some 213, some (208, false), .cmp .neq .i64 (.t 212) (.c (.sc (.int .i64 0)))⟩, ⟨some 214, none, .pick (.t 208) (.c (.sc (.bool true))) (.t 213)⟩])
 (.cut [0, 216, 5, 7, 18, 214] (.cond (.t 214)
 (.seq (.reg [0, 216] [
 ⟨some 4, none, .mv (.c (.sc (.bool false)))⟩])
 .ret)
 .skip)))))
 (.reg [0, 216, 5, 7, 18] [
 ⟨some 198, none, .mv (.t 18)⟩, ⟨some 199, none, .ari .add true .i64 (.t 198) (.c (.sc (.int .i64 1)))⟩, ⟨some 18, none, .mv (.t 199)⟩]))))))
 (.seq (.reg [0, 216, 5] [
 ⟨some 215, none, .mv (.t 5)⟩, ⟨some 4, none, .mv (.t 215)⟩])
 .ret))
def ac8p_r19 : AC :=
 (.seq (.seq (.reg [0, 216, 3, 5, 6, 7] [
 ⟨some 101, none, .fa 9 (.t 6)⟩, ⟨some 102, none, .fa 1 (.t 101)⟩, ⟨some 103, none, .ld false 1 (.t 102)⟩, ⟨some 104, none, .len (.t 103)⟩, ⟨some 105, none, .cmp .gtr .i64 (.t 104) (.c (.sc (.int .i64 0)))⟩])
 (.cond (.t 105)
 (.seq (.reg [0, 216, 3, 5, 6, 7] [
 ⟨some 106, none, .ixa 2 1 (.t 3) (.c (.sc (.int .i64 1)))⟩, ⟨some 107, none, .ld false 1 (.t 106)⟩, ⟨some 108, none, .cnv true .i64 (.t 107)⟩, ⟨some 109, none, .fa 9 (.t 6)⟩, ⟨some 110, none, .fa 1 (.t 109)⟩, ⟨some 111, none, .ld false 1 (.t 110)⟩, ⟨some 112, none, .len (.t 111)⟩, ⟨some 113, none, .dvd .rem true .i64 (.t 108) (.t 112)⟩, ⟨some 12, none, .mv (.t 113)⟩])
 (.seq (.reg [0, 216, 5, 6, 7, 12] [
 ⟨some 114, none, .fa 9 (.t 6)⟩, ⟨some 115, none, .fa 1 (.t 114)⟩, ⟨some 116, none, .ld false 1 (.t 115)⟩, ⟨some 117, none, .mv (.t 12)⟩, ⟨some 118, none, .ixs 3 (.t 116) (.t 117)⟩, ⟨some 119, none, .ld true 3 (.t 118)⟩, ⟨some 13, none, .alc [.sc (.int .i64 0), .nil, .nil]⟩, ⟨none, none, .sto 3 (.t 13) (.t 119)⟩])
 (.seq (.drw [0, 216, 5, 6, 7, 12, 13] [
 ⟨⟨some 120, none, .ld true 3 (.t 13)⟩, [], [122, 123, 125, 128, 129, 133], true⟩, ⟨⟨some 121, none, .bld [.sc (.int .i64 0), .nil, .nil] []⟩, [], [122, 123, 125, 128, 129, 133], true⟩, ⟨⟨some 122, none, .bsl 1 3 [.sc (.int .i64 0)] 1 [(0, (.c (.sc (.int .i64 2))))]⟩, [122], [123, 125, 128, 129, 133], true⟩, ⟨⟨some 123, none, .bsl 1 3 [.sc (.int .i64 0)] 1 [(0, (.c (.sc (.int .i64 (-1)))))]⟩, [123], [122, 125, 128, 129, 133], true⟩, ⟨⟨some 124, none, .bld [.sc (.int .i64 0), .nil, .nil] [(1, 1, (.t 122)), (2, 1, (.t 123))]⟩, [], [125, 128, 129, 133], true⟩, ⟨⟨some 125, none, .bsl 1 3 [.sc (.int .i64 0)] 0 []⟩, [125], [122, 123, 129], true⟩, ⟨⟨some 126, none, .fa 1 (.t 13)⟩, [], [122, 123, 125, 129], true⟩, ⟨⟨some 127, none, .ld false 1 (.t 126)⟩, [], [122, 123, 125, 129], true⟩, ⟨⟨some 128, none, .app 1 3 8 (.t 125) (.t 127)⟩, [128, 125], [122, 123, 129], true⟩, ⟨⟨some 129, none, .bsl 1 3 [.sc (.int .i64 0)] 1 [(0, (.c (.sc (.int .i64 0))))]⟩, [129], [122, 123, 125, 128], true⟩, ⟨⟨some 130, none, .fa 2 (.t 13)⟩, [], [122, 123, 125, 128, 129], true⟩, ⟨⟨some 131, none, .ld false 1 (.t 130)⟩, [], [122, 123, 125, 128, 129], true⟩, ⟨⟨some 132, none, .slc 1 (.t 131) (some (.c (.sc (.int .i64 1)))) none⟩, [], [122, 123, 125, 128, 129], true⟩, ⟨⟨some 133, none, .app 1 3 8 (.t 129) (.t 132)⟩, [133, 129], [122, 123], true⟩, ⟨⟨some 134, none, .bld [.sc (.int .i64 0), .nil, .nil] [(1, 1, (.t 128)), (2, 1, (.t 133))]⟩, [], [122, 123], true⟩, ⟨⟨some 135, none, .bsl 3 72 [.sc (.int .i64 0), .nil, .nil] 4 [(0, (.t 120)), (1, (.t 121)), (2, (.t 124)), (3, (.t 134))]⟩, [], [], false⟩, ⟨⟨some 14, none, .mv (.t 135)⟩, [], [], false⟩])
 (.seq (.seq (.reg [0, 216, 5, 6, 7, 12, 13, 14] [
 ⟨some 15, none, .mv (.c (.sc (.int .i64 0)))⟩])
 (.block 0
 (.loop [0, 216, 5, 6, 7, 12, 13, 14, 15]
 (.seq (.seq (.reg [0, 216, 5, 6, 7, 12, 13, 14, 15] [
 ⟨some 136, none, .mv (.t 15)⟩, ⟨some 137, none, .mv (.t 14)⟩, ⟨some 138, none, .len (.t 137)⟩, ⟨some 139, none, .cmp .lss .i64 (.t 136) (.t 138)⟩])
 (.cond (.t 139)
 .skip
 (.exit 0)))
 (.seq (.block 1
 (.seq (.reg [0, 216, 5, 6, 7, 12, 13, 14, 15] [
 ⟨some 142, none, .ld true 11 (.t 6)⟩, ⟨some 16, none, .alc [.sc (.int .i64 0), .sc (.int .i64 0), .sc (.int .i64 0), .sc (.int .i64 0), .nil, .nil, .nil, .nil, .nil, .nil, .nil]⟩, ⟨none, none, .sto 11 (.t 16) (.t 142)⟩])
 (.seq (.drw [0, 216, 5, 6, 7, 12, 13, 14, 15, 16] [
 ⟨⟨some 143, none, .bsl 3 72 [.sc (.int .i64 0), .nil, .nil] 0 []⟩, [143], [152], true⟩, ⟨⟨some 144, none, .fa 9 (.t 6)⟩, [], [143, 152], true⟩, ⟨⟨some 145, none, .fa 1 (.t 144)⟩, [], [143, 152], true⟩, ⟨⟨some 146, none, .ld false 1 (.t 145)⟩, [], [143, 152], true⟩, ⟨⟨some 147, none, .app 3 72 56 (.t 143) (.t 146)⟩, [147, 143], [152], true⟩, ⟨⟨some 148, none, .mv (.t 14)⟩, [], [143, 147], true⟩, ⟨⟨some 149, none, .mv (.t 15)⟩, [], [143, 147], true⟩, ⟨⟨some 150, none, .ixs 3 (.t 148) (.t 149)⟩, [], [143, 147], true⟩, ⟨⟨some 151, none, .ld true 3 (.t 150)⟩, [], [143, 147], true⟩, ⟨⟨some 152, none, .bsl 3 72 [.sc (.int .i64 0), .nil, .nil] 1 [(0, (.t 151))]⟩, [152], [143, 147], true⟩, ⟨⟨some 153, none, .app 3 72 56 (.t 147) (.t 152)⟩, [], [], false⟩, ⟨⟨some 154, none, .fa 9 (.t 16)⟩, [], [], false⟩, ⟨⟨some 155, none, .fa 1 (.t 154)⟩, [], [], false⟩, ⟨⟨none, none, .sto 1 (.t 155) (.t 153)⟩, [], [], false⟩])
 (.reg [0, 216, 5, 6, 7, 12, 13, 14, 15, 16] [
 ⟨some 156, none, .mv (.t 7)⟩, ⟨some 157, none, .ld true 11 (.t 16)⟩, ⟨some 158, none, .bsl 11 47 [.sc (.int .i64 0), .sc (.int .i64 0), .sc (.int .i64 0), .sc (.int .i64 0), .nil, .nil, .nil, .nil, .nil, .nil, .nil] 1 [(0, (.t 157))]⟩, ⟨some 159, none, .app 11 47 200 (.t 156) (.t 158)⟩, ⟨some 7, none, .mv (.t 159)⟩]))))
 (.reg [0, 216, 5, 6, 7, 12, 13, 14, 15] [
 ⟨some 140, none, .mv (.t 15)⟩, ⟨some 141, none, .ari .add true .i64 (.t 140) (.c (.sc (.int .i64 1)))⟩, ⟨some 15, none, .mv (.t 141)⟩]))))))
 (.seq (.reg [0, 216, 5, 6, 7, 12, 13] [
 ⟨some 160, none, .ld true 11 (.t 6)⟩, ⟨some 17, none, .alc [.sc (.int .i64 0), .sc (.int .i64 0), .sc (.int .i64 0), .sc (.int .i64 0), .nil, .nil, .nil, .nil, .nil, .nil, .nil]⟩, ⟨none, none, .sto 11 (.t 17) (.t 160)⟩])
 (.seq (.reg [0, 216, 5, 6, 7, 12, 13, 17] [
 ⟨some 161, none, .bsl 3 72 [.sc (.int .i64 0), .nil, .nil] 0 []⟩, ⟨some 162, none, .fa 9 (.t 6)⟩, ⟨some 163, none, .fa 1 (.t 162)⟩, ⟨some 164, none, .ld false 1 (.t 163)⟩, ⟨some 165, none, .app 3 72 56 (.t 161) (.t 164)⟩, ⟨some 166, none, .fa 9 (.t 17)⟩, ⟨some 167, none, .fa 1 (.t 166)⟩, ⟨none, none, .sto 1 (.t 167) (.t 165)⟩])
 (.seq (.drw [0, 216, 5, 7, 12, 13, 17] [
 ⟨⟨some 168, none, .fa 9 (.t 17)⟩, [], [172, 175, 180, 181, 182, 185, 186, 187], true⟩, ⟨⟨some 169, none, .fa 1 (.t 168)⟩, [], [172, 175, 180, 181, 182, 185, 186, 187], true⟩, ⟨⟨some 170, none, .ld false 1 (.t 169)⟩, [], [172, 175, 180, 181, 182, 185, 186, 187], true⟩, ⟨⟨some 171, none, .mv (.t 12)⟩, [], [172, 175, 180, 181, 182, 185, 186, 187], true⟩, ⟨⟨some 172, none, .bsl 1 3 [.sc (.int .i64 0)] 0 []⟩, [172], [180, 182, 186], true⟩, ⟨⟨some 173, none, .fa 1 (.t 13)⟩, [], [172, 180, 182, 186], true⟩, ⟨⟨some 174, none, .ld false 1 (.t 173)⟩, [], [172, 180, 182, 186], true⟩, ⟨⟨some 175, none, .app 1 3 8 (.t 172) (.t 174)⟩, [175, 172], [180, 182, 186], true⟩, ⟨⟨some 176, none, .fa 1 (.t 13)⟩, [], [172, 175, 182, 186], true⟩, ⟨⟨some 177, none, .ld false 1 (.t 176)⟩, [], [172, 175, 182, 186], true⟩, ⟨⟨some 178, none, .ixs 1 (.t 177) (.c (.sc (.int .i64 0)))⟩, [], [172, 175, 182, 186], true⟩, ⟨⟨some 179, none, .ld false 1 (.t 178)⟩, [], [172, 175, 182, 186], true⟩, ⟨⟨some 180, none, .bsl 1 3 [.sc (.int .i64 0)] 1 [(0, (.t 179))]⟩, [180], [172, 175, 182, 186], true⟩, ⟨⟨some 181, none, .app 1 3 8 (.t 175) (.t 180)⟩, [181, 175, 172], [182, 186], true⟩, ⟨⟨some 182, none, .bsl 1 3 [.sc (.int .i64 0)] 0 []⟩, [182], [172, 175, 180, 181, 186], true⟩, ⟨⟨some 183, none, .fa 2 (.t 13)⟩, [], [172, 175, 180, 181, 182, 186], true⟩, ⟨⟨some 184, none, .ld false 1 (.t 183)⟩, [], [172, 175, 180, 181, 182, 186], true⟩, ⟨⟨some 185, none, .app 1 3 8 (.t 182) (.t 184)⟩, [185, 182], [186], true⟩, ⟨⟨some 186, none, .bsl 1 3 [.sc (.int .i64 0)] 1 [(0, (.c (.sc (.int .i64 0))))]⟩, [186], [172, 175, 180, 181, 182, 185], true⟩, ⟨⟨some 187, none, .app 1 3 8 (.t 185) (.t 186)⟩, [187, 185, 182], [], true⟩, ⟨⟨some 188, none, .bld [.sc (.int .i64 0), .nil, .nil] [(1, 1, (.t 181)), (2, 1, (.t 187))]⟩, [], [], true⟩, ⟨⟨some 189, none, .ixs 3 (.t 170) (.t 171)⟩, [], [], false⟩, ⟨⟨none, none, .sto 3 (.t 189) (.t 188)⟩, [], [], false⟩])
 (.reg [0, 216, 5, 7, 17] [
 ⟨some 190, none, .mv (.t 7)⟩, ⟨some 191, none, .ld true 11 (.t 17)⟩, ⟨some 192, none, .bsl 11 47 [.sc (.int .i64 0), .sc (.int .i64 0), .sc (.int .i64 0), .sc (.int .i64 0), .nil, .nil, .nil, .nil, .nil, .nil, .nil] 1 [(0, (.t 191))]⟩, ⟨some 193, none, .app 11 47 200 (.t 190) (.t 192)⟩, ⟨some 7, none, .mv (.t 193)⟩]))))))))
 .skip))
 ac8p_r33)
def ac8p : AC :=
 (.seq (.reg [0, 216, 0, 1] [
 ⟨some 2, none, .box (.t 0)⟩, ⟨some 3, none, .box (.t 1)⟩, ⟨some 4, none, .mv (.c (.sc (.bool false)))⟩])
 (.seq (.reg [0, 216, 2, 3] [
 ⟨some 20, none, .cal 9 []⟩, ⟨some 5, none, .mv (.t 20)⟩])
 (.seq (.seq (.reg [0, 216, 2, 3, 5] [
 ⟨some 21, none, .mv (.t 5)⟩, ⟨some 22, none, .not (.t 21)⟩])
 (.cond (.t 22)
 (.seq (.reg [0, 216] [
 ⟨some 4, none, .mv (.c (.sc (.bool false)))⟩])
 .ret)
 .skip))
 (.seq (.reg [0, 216, 2, 3, 5] [
 ⟨some 23, none, .ld true 7 (.t 2)⟩, ⟨some 24, none, .cal 11 [(.t 23)]⟩, ⟨some 6, none, .alc [.sc (.int .i64 0), .sc (.int .i64 0), .sc (.int .i64 0), .sc (.int .i64 0), .nil, .nil, .nil, .nil, .nil, .nil, .nil]⟩, ⟨none, none, .sto 11 (.t 6) (.t 24)⟩])
 (.seq (.seq (.reg [0, 216, 3, 5, 6] [
 ⟨some 25, none, .ld true 11 (.t 6)⟩, ⟨some 26, none, .cal 13 [(.t 25)]⟩, ⟨some 27, none, .fl false 4 1 (.t 26)⟩, ⟨some 28, none, .cmp .neq .i64 (.t 27) (.c (.sc (.int .i64 0)))⟩])
 (.cond (.t 28)
 (.seq (.reg [0, 216] [
 ⟨some 4, none, .mv (.c (.sc (.bool false)))⟩])
 .ret)
 .skip))
 (.seq (.reg [0, 216, 3, 5, 6] [
 ⟨some 29, none, .bsl 11 47 [.sc (.int .i64 0), .sc (.int .i64 0), .sc (.int .i64 0), .sc (.int .i64 0), .nil, .nil, .nil, .nil, .nil, .nil, .nil] 0 []⟩, ⟨some 7, none, .mv (.t 29)⟩])
 (.seq (.seq (.reg [0, 216, 3, 5, 6, 7] [
 ⟨some 30, none, .fa 9 (.t 6)⟩, ⟨some 31, none, .fa 0 (.t 30)⟩, ⟨some 32, none, .ld false 1 (.t 31)⟩, ⟨some 33, none, .len (.t 32)⟩, ⟨some 34, none, .cmp .gtr .i64 (.t 33) (.c (.sc (.int .i64 0)))⟩])
 (.cond (.t 34)
 (.seq (.reg [0, 216, 3, 5, 6, 7] [
 ⟨some 35, none, .ixa 2 1 (.t 3) (.c (.sc (.int .i64 0)))⟩, ⟨some 36, none, .ld false 1 (.t 35)⟩, ⟨some 37, none, .cnv true .i64 (.t 36)⟩, ⟨some 38, none, .fa 9 (.t 6)⟩, ⟨some 39, none, .fa 0 (.t 38)⟩, ⟨some 40, none, .ld false 1 (.t 39)⟩, ⟨some 41, none, .len (.t 40)⟩, ⟨some 42, none, .dvd .rem true .i64 (.t 37) (.t 41)⟩, ⟨some 8, none, .mv (.t 42)⟩])
 (.seq (.reg [0, 216, 3, 5, 6, 7, 8] [
 ⟨some 43, none, .ld true 11 (.t 6)⟩, ⟨some 9, none, .alc [.sc (.int .i64 0), .sc (.int .i64 0), .sc (.int .i64 0), .sc (.int .i64 0), .nil, .nil, .nil, .nil, .nil, .nil, .nil]⟩, ⟨none, none, .sto 11 (.t 9) (.t 43)⟩])
 (.seq (.drw [0, 216, 3, 5, 6, 7, 8, 9] [
 ⟨⟨some 44, none, .bsl 1 3 [.sc (.int .i64 0)] 0 []⟩, [44], [55], true⟩, ⟨⟨some 45, none, .fa 9 (.t 6)⟩, [], [44, 55], true⟩, ⟨⟨some 46, none, .fa 0 (.t 45)⟩, [], [44, 55], true⟩, ⟨⟨some 47, none, .ld false 1 (.t 46)⟩, [], [44, 55], true⟩, ⟨⟨some 48, none, .app 1 3 8 (.t 44) (.t 47)⟩, [48, 44], [55], true⟩, ⟨⟨some 49, none, .fa 9 (.t 6)⟩, [], [44, 48], true⟩, ⟨⟨some 50, none, .fa 0 (.t 49)⟩, [], [44, 48], true⟩, ⟨⟨some 51, none, .ld false 1 (.t 50)⟩, [], [44, 48], true⟩, ⟨⟨some 52, none, .mv (.t 8)⟩, [], [44, 48], true⟩, ⟨⟨some 53, none, .ixs 1 (.t 51) (.t 52)⟩, [], [44, 48], true⟩, ⟨⟨some 54, none, .ld false 1 (.t 53)⟩, [], [44, 48], true⟩, ⟨⟨some 55, none, .bsl 1 3 [.sc (.int .i64 0)] 1 [(0, (.t 54))]⟩, [55], [44, 48], true⟩, ⟨⟨some 56, none, .app 1 3 8 (.t 48) (.t 55)⟩, [], [], false⟩, ⟨⟨some 57, none, .fa 9 (.t 9)⟩, [], [], false⟩, ⟨⟨some 58, none, .fa 0 (.t 57)⟩, [], [], false⟩, ⟨⟨none, none, .sto 1 (.t 58) (.t 56)⟩, [], [], false⟩])
 (.seq (.drw [0, 216, 3, 5, 6, 7, 8, 9] [
 ⟨⟨some 59, none, .bsl 5 76 [.nil, .sc (.int .i64 0), .sc (.int .i64 0), .sc (.int .i64 0), .sc (.int .u64 0)] 0 []⟩, [59], [70], true⟩, ⟨⟨some 60, none, .fa 5 (.t 6)⟩, [], [59, 70], true⟩, ⟨⟨some 61, none, .fa 1 (.t 60)⟩, [], [59, 70], true⟩, ⟨⟨some 62, none, .ld false 1 (.t 61)⟩, [], [59, 70], true⟩, ⟨⟨some 63, none, .app 5 76 56 (.t 59) (.t 62)⟩, [63, 59], [70], true⟩, ⟨⟨some 64, none, .fa 5 (.t 6)⟩, [], [59, 63], true⟩, ⟨⟨some 65, none, .fa 1 (.t 64)⟩, [], [59, 63], true⟩, ⟨⟨some 66, none, .ld false 1 (.t 65)⟩, [], [59, 63], true⟩, ⟨⟨some 67, none, .mv (.t 8)⟩, [], [59, 63], true⟩, ⟨⟨some 68, none, .ixs 5 (.t 66) (.t 67)⟩, [], [59, 63], true⟩, ⟨⟨some 69, none, .ld true 5 (.t 68)⟩, [], [59, 63], true⟩, ⟨⟨some 70, none, .bsl 5 76 [.nil, .sc (.int .i64 0), .sc (.int .i64 0), .sc (.int .i64 0), .sc (.int .u64 0)] 1 [(0, (.t 69))]⟩, [70], [59, 63], true⟩, ⟨⟨some 71, none, .app 5 76 56 (.t 63) (.t 70)⟩, [], [], false⟩, ⟨⟨some 72, none, .fa 5 (.t 9)⟩, [], [], false⟩, ⟨⟨some 73, none, .fa 1 (.t 72)⟩, [], [], false⟩, ⟨⟨none, none, .sto 1 (.t 73) (.t 71)⟩, [], [], false⟩])
 (.seq (.reg [0, 216, 3, 5, 6, 7, 8, 9] [
 ⟨some 74, none, .ld true 11 (.t 6)⟩, ⟨some 10, none, .alc [.sc (.int .i64 0), .sc (.int .i64 0), .sc (.int .i64 0), .sc (.int .i64 0), .nil, .nil, .nil, .nil, .nil, .nil, .nil]⟩, ⟨none, none, .sto 11 (.t 10) (.t 74)⟩])
 (.seq (.reg [0, 216, 3, 5, 6, 7, 8, 9, 10] [
 ⟨some 75, none, .bsl 5 76 [.nil, .sc (.int .i64 0), .sc (.int .i64 0), .sc (.int .i64 0), .sc (.int .u64 0)] 0 []⟩, ⟨some 76, none, .fa 5 (.t 6)⟩, ⟨some 77, none, .fa 1 (.t 76)⟩, ⟨some 78, none, .ld false 1 (.t 77)⟩, ⟨some 79, none, .app 5 76 56 (.t 75) (.t 78)⟩, ⟨some 80, none, .fa 5 (.t 10)⟩, ⟨some 81, none, .fa 1 (.t 80)⟩, ⟨none, none, .sto 1 (.t 81) (.t 79)⟩])
 (.seq (.reg [0, 216, 3, 5, 6, 7, 8, 9, 10] [
 ⟨some 82, none, .fa 5 (.t 10)⟩, ⟨some 83, none, .fa 1 (.t 82)⟩, ⟨some 84, none, .ld false 1 (.t 83)⟩, ⟨some 85, none, .mv (.t 8)⟩, ⟨some 86, none, .bld [.nil, .sc (.int .i64 0), .sc (.int .i64 0), .sc (.int .i64 0), .sc (.int .u64 0)] [(2, 1, (.c (.sc (.int .i64 1)))), (3, 1, (.c (.sc (.int .i64 1))))]⟩, ⟨some 87, none, .ixs 5 (.t 84) (.t 85)⟩, ⟨none, none, .sto 5 (.t 87) (.t 86)⟩])
 (.seq (.reg [0, 216, 3, 5, 6, 7, 9, 10] [
 ⟨some 88, none, .ld true 11 (.t 6)⟩, ⟨some 11, none, .alc [.sc (.int .i64 0), .sc (.int .i64 0), .sc (.int .i64 0), .sc (.int .i64 0), .nil, .nil, .nil, .nil, .nil, .nil, .nil]⟩, ⟨none, none, .sto 11 (.t 11) (.t 88)⟩])
 (.seq (.reg [0, 216, 3, 5, 6, 7, 9, 10, 11] [
 ⟨some 89, none, .fa 9 (.t 6)⟩, ⟨some 90, none, .fa 0 (.t 89)⟩, ⟨some 91, none, .ld false 1 (.t 90)⟩, ⟨some 92, none, .slc 1 (.t 91) (some (.c (.sc (.int .i64 1)))) none⟩, ⟨some 93, none, .fa 9 (.t 11)⟩, ⟨some 94, none, .fa 0 (.t 93)⟩, ⟨none, none, .sto 1 (.t 94) (.t 92)⟩])
 (.reg [0, 216, 3, 5, 6, 7, 9, 10, 11] [
 ⟨some 95, none, .mv (.t 7)⟩, ⟨some 96, none, .ld true 11 (.t 9)⟩, ⟨some 97, none, .ld true 11 (.t 10)⟩, ⟨some 98, none, .ld true 11 (.t 11)⟩, ⟨some 99, none, .bsl 11 47 [.sc (.int .i64 0), .sc (.int .i64 0), .sc (.int .i64 0), .sc (.int .i64 0), .nil, .nil, .nil, .nil, .nil, .nil, .nil] 3 [(0, (.t 96)), (1, (.t 97)), (2, (.t 98))]⟩, ⟨some 100, none, .app 11 47 200 (.t 95) (.t 99)⟩, ⟨some 7, none, .mv (.t 100)⟩]))))))))))
 .skip))
 ac8p_r19)))))))
def rv8p : List RV := [.tmp 4]
theorem ok8p : fnOk Try.prog ac8p rv8p Try.f8 = true := by kernel_rfl
end Go.Proofs.Ytledbjkolidhkaa.Txt
