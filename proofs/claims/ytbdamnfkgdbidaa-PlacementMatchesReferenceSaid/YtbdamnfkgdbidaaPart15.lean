/- SS TT UU PMatches: PlacementMatchesReference holds for every described packing, every described grid and all odd numbers: the row. -/
import Derived.Test.YtbdamnfkgdbidaaPart14
import Derived.Test.YtbdamnfkgdbidaaPart13
import Derived.Test.YtbdamnfkgdbidaaRows
set_option linter.unusedSimpArgs false
set_option linter.unusedVariables false
namespace Go.Proofs.Ytbdamnfkgdbidaa
open Go Go.Vc Txt
def listC (l : List Int) : List PV := [.sl true 1 (ints l)]
@[push_cast] theorem listC_eq (l : List Int) : listC l = [.sl true 1 (ints l)] := rfl
theorem improvedF_len (j : Job) (a fx : List Int) (p : Int) (hl : (a.length : Int) ≤ 1000000) : ((improvedF j a fx p).1.length : Int) ≤ 1000000 := by
  unfold improvedF
  split
  · simp
  · split
    · simp
    · rename_i h1 h2
      have h2 := Classical.not_not.1 h2
      have := (improveF_ok (fx := fx) (checkF_zero h2) p.toNat).len
      simp only
      omega
theorem placeF_len (j : Job) (hj : j.Ok) (fx : List Int) (p : Int) : ((placeF j fx p).1.length : Int) ≤ 1000000 := by
  have hnb := hj.nb
  by_cases h0 : p < 0 ∨ 1000 < p ∨ ((fx.length : Int) ≠ 0 ∧ (fx.length : Int) ≠ j.p.blocks.length)
  · rw [placeF, if_pos h0]; simp
  · have hl : fx.length = j.p.blocks.length ∨ fx = [] := by
      by_cases h1 : fx.length = 0
      · exact .inr (List.eq_nil_of_length_eq_zero h1)
      · exact .inl (by omega)
    rcases placeF_spec j fx hl with ⟨e, _, h2⟩ | ⟨a, kept, _, h1, _, _, h2⟩
    · rw [h2 p (by omega) (by omega)]; simp
    · rw [h2 p (by omega) (by omega)]
      have := (improveF_keeps (fx := kept) h1 p.toNat).ok.len
      have := h1.1
      simp only
      omega
set_option maxHeartbeats 2000000 in
set_option maxRecDepth 4000 in
theorem body_one (z : Odd) (j0 : Job) (Js : List Job) (hJs : ∀ j ∈ Js, j.Ok) (Ls : List (List Int)) (hLs : ∀ l ∈ Ls, (l.length : Int) ≤ 1000000) (hzs : (z.some_.length : Int) ≤ 1000000) (i k : Nat) (hi : i < Js.length) (hk : k < Ls.length) (pk : Int)
    (h3 : Js.length = 3) (h4 : Ls.length = 3) (Q : Exit → St → Prop) (st : St)
    (hst : st.keepS [0, 220, 5, 7, 8, 11, 12, 13, 14, 15] = ⟨[(5, .ptr 5 0), (7, .bool true), (8, .ptr 8 0), (11, .view 70 0 3), (12, .int i), (13, .view 88 0 3), (14, .int k), (15, .ptr 15 0)],
      [(5, oddC true z), (8, jobC true j0), (15, [.sl true 1 (ints (Ls.getD k default)), .sl true 1 (ints z.some_), .int pk])], [(70, ⟨11, 42, rows (jobC true) Js⟩), (88, ⟨1, 28, rows listC Ls⟩)], []⟩)
    (hQ : Q .normal ⟨[(5, .ptr 5 0), (7, .bool true), (8, .ptr 8 0), (11, .view 70 0 3), (12, .int i), (13, .view 88 0 3), (14, .int k), (165, .bool false)],
      [(5, oddC true z), (8, jobC true j0), (15, [.sl true 1 (ints (Ls.getD k default)), .sl true 1 (ints z.some_), .int pk])], [(70, ⟨11, 42, rows (jobC true) Js⟩), (88, ⟨1, 28, rows listC Ls⟩)], []⟩) :
    awp (Env.of Try.prog) ac3f_r22 Q st := by
  have hj := hJs _ (show Js.getD i default ∈ Js by simp [List.getD_eq_getElem?_getD, hi])
  have hl := hLs _ (show Ls.getD k default ∈ Ls by simp [List.getD_eq_getElem?_getD, hk])
  obtain ⟨J, hJ⟩ : ∃ J, Js.getD i default = J := ⟨_, rfl⟩
  obtain ⟨L, hL⟩ : ∃ L, Ls.getD k default = L := ⟨_, rfl⟩
  rw [hL] at hQ hst hl
  rw [hJ] at hj
  simp only [ac3f_r22, push_cast, reduceIte, Nat.reduceEqDiff, Nat.reduceAdd, Nat.reduceSub, Nat.reduceMul, Nat.reduceBEq, Nat.reduceLT, Nat.reduceLeDiff, reduceCtorEq, Int.reduceToNat, Int.reduceNeg, hst, hJ, hL]
  refine ⟨by omega, hi, by omega, hk, ?_⟩
  refine dcal_sub (lcheck_ok J hj L hl) ⟨Sub.aggL (jobC_sub J), .slp _ _ _ _ (fun h => by cases h), trivial⟩ rfl ?_
  simp only [push_cast, reduceIte, Nat.reduceEqDiff, Nat.reduceAdd, Nat.reduceSub, Nat.reduceMul, Nat.reduceBEq, Nat.reduceLT, Nat.reduceLeDiff, reduceCtorEq, Int.reduceToNat, Int.reduceNeg, hJ, hL]
  refine ⟨by omega, hi, by omega, hk, ?_⟩
  refine cal_sub (rcheck_ok J hj L hl) ⟨Sub.aggL (jobC_sub J), .slp _ _ _ _ (fun h => by cases h), trivial⟩ ?_
  simp only [push_cast, reduceIte, Nat.reduceEqDiff, Nat.reduceAdd, Nat.reduceSub, Nat.reduceMul, Nat.reduceBEq, Nat.reduceLT, Nat.reduceLeDiff, reduceCtorEq, Int.reduceToNat, Int.reduceNeg, hJ, hL]
  refine dcut_of ⟨[(5, .ptr 5 0), (7, .bool true), (8, .ptr 8 0), (11, .view 70 0 3), (12, .int i), (13, .view 88 0 3), (14, .int k), (165, .bool false)],
      [(5, oddC true z), (8, jobC true j0), (15, [.sl true 1 (ints L), .sl true 1 (ints z.some_), .int pk])], [(70, ⟨11, 42, rows (jobC true) Js⟩), (88, ⟨1, 28, rows listC Ls⟩)], []⟩ ?_ ?_
  · refine dgrd_decf rfl (fun h => absurd rfl h) fun _ => ?_
    simp only [push_cast, reduceIte, Nat.reduceEqDiff, Nat.reduceAdd, Nat.reduceSub, Nat.reduceMul, Nat.reduceBEq, Nat.reduceLT, Nat.reduceLeDiff, reduceCtorEq, Int.reduceToNat, Int.reduceNeg, hJ, hL]
    refine ⟨by omega, hi, by omega, hk, ?_⟩
    refine dcal_sub (lcost_ok J hj L hl) ⟨Sub.aggL (jobC_sub J), .slp _ _ _ _ (fun h => by cases h), trivial⟩ rfl ?_
    simp only [push_cast, reduceIte, Nat.reduceEqDiff, Nat.reduceAdd, Nat.reduceSub, Nat.reduceMul, Nat.reduceBEq, Nat.reduceLT, Nat.reduceLeDiff, reduceCtorEq, Int.reduceToNat, Int.reduceNeg, hJ, hL]
    refine ⟨by omega, hi, by omega, hk, ?_⟩
    refine cal_sub (costIn_r J hj L hl) ⟨Sub.aggL (jobC_sub J), .slp _ _ _ _ (fun h => by cases h), trivial⟩ ?_
    simp only [push_cast, reduceIte, Nat.reduceEqDiff, Nat.reduceAdd, Nat.reduceSub, Nat.reduceMul, Nat.reduceBEq, Nat.reduceLT, Nat.reduceLeDiff, reduceCtorEq, Int.reduceToNat, Int.reduceNeg, hJ, hL]
    have hil := improvedF_len J L z.some_ pk hl
    refine ⟨by omega, hi, ?_⟩
    refine dcal_sub (limproved_ok J hj ⟨L, z.some_, pk⟩ hl hzs) ⟨Sub.aggL (jobC_sub J), Sub.aggL ⟨.slp _ _ _ _ (fun h => by cases h), .slp _ _ _ _ (fun h => by cases h), .refl _, trivial⟩, trivial⟩ rfl ?_
    simp only [push_cast, reduceIte, Nat.reduceEqDiff, Nat.reduceAdd, Nat.reduceSub, Nat.reduceMul, Nat.reduceBEq, Nat.reduceLT, Nat.reduceLeDiff, reduceCtorEq, Int.reduceToNat, Int.reduceNeg, hJ]
    refine ⟨by omega, hi, ?_⟩
    refine cal_sub (improveIn_r J hj ⟨L, z.some_, pk⟩ hl hzs) ⟨Sub.aggL (jobC_sub J), Sub.aggL ⟨.refl _, .slp _ _ _ _ (fun h => by cases h), .refl _, trivial⟩, trivial⟩ ?_
    simp only [push_cast, reduceIte, Nat.reduceEqDiff, Nat.reduceAdd, Nat.reduceSub, Nat.reduceMul, Nat.reduceBEq, Nat.reduceLT, Nat.reduceLeDiff, reduceCtorEq, Int.reduceToNat, Int.reduceNeg]
    refine cal_sub (same_ok (improvedF J L z.some_ pk) (improvedF J L z.some_ pk) hil hil) ⟨Sub.aggL ⟨.slp _ _ _ _ (fun h => by cases h), .refl _, .refl _, trivial⟩, Sub.aggL ⟨.slp _ _ _ _ (fun h => by cases h), .refl _, .refl _, trivial⟩, trivial⟩ ?_
    rw [decide_eq_true rfl]
    simp only [push_cast, reduceIte, Nat.reduceEqDiff, Nat.reduceAdd, Nat.reduceSub, Nat.reduceMul, Nat.reduceBEq, Nat.reduceLT, Nat.reduceLeDiff, reduceCtorEq, Int.reduceToNat, Int.reduceNeg]
  · simp only [push_cast, reduceIte, Nat.reduceEqDiff, Nat.reduceAdd, Nat.reduceSub, Nat.reduceMul, Nat.reduceBEq, Nat.reduceLT, Nat.reduceLeDiff, reduceCtorEq, Int.reduceToNat, Int.reduceNeg]
    exact hQ
set_option maxHeartbeats 2000000 in
set_option maxRecDepth 4000 in
theorem body_two (z : Odd) (hz : z.By) (hzl : (z.fixed.length : Int) ≤ 40 ∧ (z.any.length : Int) ≤ 40) (j0 : Job) (Js : List Job) (hJs : ∀ j ∈ Js, j.Ok) (i : Nat) (hi : i < Js.length) (h3 : Js.length = 3) (L0 : List (List Int)) (Q : Exit → St → Prop) (st : St)
    (hst : st.keepS [0, 220, 5, 7, 8, 11, 12] = ⟨[(5, .ptr 5 0), (7, .bool true), (8, .ptr 8 0), (11, .view 70 0 3), (12, .int i)], [(5, oddC true z), (8, jobC true j0)], [(70, ⟨11, 42, rows (jobC true) Js⟩), (88, ⟨1, 28, rows listC L0⟩)], []⟩)
    (hQ : ∀ (L1 : List (List Int)) (b : Bool) (k : Nat), Q .normal ⟨[(5, .ptr 5 0), (7, .bool true), (8, .ptr 8 0), (11, .view 70 0 3), (12, .int i), (16, .view 175 0 3), (17, .int k), (176, .int k), (177, .view 175 0 3), (178, .int 3), (179, .bool b)],
      [(5, oddC true z), (8, jobC true j0)], [(70, ⟨11, 42, rows (jobC true) Js⟩), (175, ⟨1, 28, rows listC L1⟩)], []⟩) :
    awp (Env.of Try.prog) ac3f_r24 Q st := by
  have hj := hJs _ (show Js.getD i default ∈ Js by simp [List.getD_eq_getElem?_getD, hi])
  obtain ⟨J, hJ⟩ : ∃ J, Js.getD i default = J := ⟨_, rfl⟩
  rw [hJ] at hj
  simp only [ac3f_r24, push_cast, reduceIte, Nat.reduceEqDiff, Nat.reduceAdd, Nat.reduceSub, Nat.reduceMul, Nat.reduceBEq, Nat.reduceLT, Nat.reduceLeDiff, reduceCtorEq, Int.reduceToNat, Int.reduceNeg, hst, hJ]
  refine ⟨by omega, hi, ?_⟩
  refine dcal_sub (fixed_ok J hj z.fixed (by omega) hz.fixed) ⟨Sub.aggL (jobC_sub J), .slp _ _ _ _ (fun h => by cases h), trivial⟩ rfl ?_
  simp only [push_cast, reduceIte, Nat.reduceEqDiff, Nat.reduceAdd, Nat.reduceSub, Nat.reduceMul, Nat.reduceBEq, Nat.reduceLT, Nat.reduceLeDiff, reduceCtorEq, Int.reduceToNat, Int.reduceNeg]
  refine wk_of ⟨[(5, .ptr 5 0), (7, .bool true), (8, .ptr 8 0), (11, .view 70 0 3), (12, .int i), (16, .view 175 0 3), (166, .bot), (167, .bot), (168, .bot), (169, .bot), (170, .bot), (171, .bot), (172, .bot), (173, .bot), (174, .bot), (175, .bot)],
    [(5, oddC true z), (8, jobC true j0)], [(70, ⟨11, 42, rows (jobC true) Js⟩), (88, ⟨1, 28, rows listC L0⟩), (175, ⟨1, 28, rows listC [[], fixedF J z.fixed, z.any]⟩)], []⟩ ?_ ?_
  · simp only [push_cast, reduceIte, Nat.reduceEqDiff, Nat.reduceAdd, Nat.reduceSub, Nat.reduceMul, Nat.reduceBEq, Nat.reduceLT, Nat.reduceLeDiff, reduceCtorEq, Int.reduceToNat, Int.reduceNeg]
    exact ⟨⟨.nil true 1, trivial⟩, ⟨.refl _, trivial⟩, ⟨.refl _, trivial⟩, trivial⟩
  have hfx : ∀ l ∈ [[], fixedF J z.fixed, z.any], (l.length : Int) ≤ 1000000 := by
    have h1 : (fixedF J z.fixed).length = J.p.blocks.length := by simp [fixedF]
    have hnb := hj.nb
    intro l hl
    simp only [List.mem_cons, List.not_mem_nil, or_false] at hl
    rcases hl with rfl | rfl | rfl
    · simp
    · omega
    · omega
  obtain ⟨Ls, hLs, hL3⟩ : ∃ Ls : List (List Int), [[], fixedF J z.fixed, z.any] = Ls ∧ Ls.length = 3 := ⟨_, rfl, rfl⟩
  rw [hLs] at hfx ⊢
  clear hLs
  simp only [push_cast, reduceIte, Nat.reduceEqDiff, Nat.reduceAdd, Nat.reduceSub, Nat.reduceMul, Nat.reduceBEq, Nat.reduceLT, Nat.reduceLeDiff, reduceCtorEq, Int.reduceToNat, Int.reduceNeg]
  refine loop_of (fun m st => ∃ k : Nat, k ≤ 3 ∧ m = 3 - k ∧ st = ⟨[(5, .ptr 5 0), (7, .bool true), (8, .ptr 8 0), (11, .view 70 0 3), (12, .int i), (16, .view 175 0 3), (17, .int k)],
    [(5, oddC true z), (8, jobC true j0)], [(70, ⟨11, 42, rows (jobC true) Js⟩), (175, ⟨1, 28, rows listC Ls⟩)], []⟩) 3 ?_ ?_
  · refine ⟨0, by omega, by omega, ?_⟩
    simp only [push_cast, reduceIte, Nat.reduceEqDiff, Nat.reduceAdd, Nat.reduceSub, Nat.reduceMul, Nat.reduceBEq, Nat.reduceLT, Nat.reduceLeDiff, reduceCtorEq, Int.reduceToNat, Int.reduceNeg]
  · rintro m st ⟨k, hk, rfl, rfl⟩
    simp only [push_cast, reduceIte, Nat.reduceEqDiff, Nat.reduceAdd, Nat.reduceSub, Nat.reduceMul, Nat.reduceBEq, Nat.reduceLT, Nat.reduceLeDiff, reduceCtorEq, Int.reduceToNat, Int.reduceNeg]
    refine cond_dec (fun h1 => ?_) fun h1 => ?_
    · have hk' : k < Ls.length := by omega
      obtain ⟨L, hL⟩ : ∃ L, Ls.getD k default = L := ⟨_, rfl⟩
      have hl := hfx _ (show Ls.getD k default ∈ Ls by simp [List.getD_eq_getElem?_getD, hk'])
      rw [hL] at hl
      simp only [push_cast, reduceIte, Nat.reduceEqDiff, Nat.reduceAdd, Nat.reduceSub, Nat.reduceMul, Nat.reduceBEq, Nat.reduceLT, Nat.reduceLeDiff, reduceCtorEq, Int.reduceToNat, Int.reduceNeg, hJ, hL]
      refine ⟨by omega, hk', by omega, hi, ?_⟩
      refine dcal_sub (lplaced_ok J hj ⟨[], L, min z.passes 3⟩ hl) ⟨Sub.aggL (jobC_sub J), Sub.aggL ⟨.nil _ _, .slp _ _ _ _ (fun h => by cases h), .refl _, trivial⟩, trivial⟩ rfl ?_
      simp only [push_cast, reduceIte, Nat.reduceEqDiff, Nat.reduceAdd, Nat.reduceSub, Nat.reduceMul, Nat.reduceBEq, Nat.reduceLT, Nat.reduceLeDiff, reduceCtorEq, Int.reduceToNat, Int.reduceNeg, hJ]
      refine ⟨by omega, hi, ?_⟩
      refine cal_sub (placeIn_r J hj ⟨[], L, min z.passes 3⟩ hl) ⟨Sub.aggL (jobC_sub J), Sub.aggL ⟨.nil _ _, .slp _ _ _ _ (fun h => by cases h), .refl _, trivial⟩, trivial⟩ ?_
      have hpl := placeF_len J hj L (min z.passes 3)
      simp only [push_cast, reduceIte, Nat.reduceEqDiff, Nat.reduceAdd, Nat.reduceSub, Nat.reduceMul, Nat.reduceBEq, Nat.reduceLT, Nat.reduceLeDiff, reduceCtorEq, Int.reduceToNat, Int.reduceNeg]
      refine cal_sub (same_ok ((placeF J L (min z.passes 3)).1, 0, (placeF J L (min z.passes 3)).2) ((placeF J L (min z.passes 3)).1, 0, (placeF J L (min z.passes 3)).2) hpl hpl) ⟨Sub.aggL ⟨.slp _ _ _ _ (fun h => by cases h), .refl _, .refl _, trivial⟩, Sub.aggL ⟨.slp _ _ _ _ (fun h => by cases h), .refl _, .refl _, trivial⟩, trivial⟩ ?_
      rw [decide_eq_true rfl]
      simp only [push_cast, reduceIte, Nat.reduceEqDiff, Nat.reduceAdd, Nat.reduceSub, Nat.reduceMul, Nat.reduceBEq, Nat.reduceLT, Nat.reduceLeDiff, reduceCtorEq, Int.reduceToNat, Int.reduceNeg]
      refine ⟨by omega, _, ?_, k + 1, by omega, rfl, ?_⟩
      · omega
      · simp
    · exact hQ Ls _ k
end Go.Proofs.Ytbdamnfkgdbidaa
namespace Go.Proofs.Ytbdamnfkgdbidaa
open Go Go.Vc Txt
set_option maxHeartbeats 2000000 in
set_option maxRecDepth 4000 in
theorem matches_loops (z : Odd) (hz : z.By) (hzl : (z.at_.length : Int) ≤ 40 ∧ (z.fixed.length : Int) ≤ 40 ∧ (z.any.length : Int) ≤ 40 ∧ (z.some_.length : Int) ≤ 40) (j0 : Job) (hj0 : j0.Ok) (Js : List Job) (hJs : ∀ j ∈ Js, j.Ok) (h3 : Js.length = 3) (b3 b4 b9 b10 : List PV) (st : St)
    (hst : st.keepS [0, 220, 5, 7, 8, 11] = ⟨[(5, .ptr 5 0), (7, .bool true), (8, .ptr 8 0), (11, .view 70 0 3)], [(3, b3), (4, b4), (5, oddC true z), (8, jobC true j0), (9, b9), (10, b10)], [(70, ⟨11, 42, rows (jobC true) Js⟩)], []⟩) :
    awp (Env.of Try.prog) ac3f_r12 (retK [RV.tmp 6] fun v => Sub v (.bool true)) st := by
  simp only [ac3f_r12, push_cast, reduceIte, Nat.reduceEqDiff, Nat.reduceAdd, Nat.reduceSub, Nat.reduceMul, Nat.reduceBEq, Nat.reduceLT, Nat.reduceLeDiff, reduceCtorEq, Int.reduceToNat, Int.reduceNeg, hst]
  refine loop_of (fun m st => ∃ i : Nat, i ≤ 3 ∧ m = 3 - i ∧ st = ⟨[(5, .ptr 5 0), (7, .bool true), (8, .ptr 8 0), (11, .view 70 0 3), (12, .int i)], [(5, oddC true z), (8, jobC true j0)], [(70, ⟨11, 42, rows (jobC true) Js⟩)], []⟩) 3 ?_ ?_
  · refine ⟨0, by omega, by omega, ?_⟩
    simp only [push_cast, reduceIte, Nat.reduceEqDiff, Nat.reduceAdd, Nat.reduceSub, Nat.reduceMul, Nat.reduceBEq, Nat.reduceLT, Nat.reduceLeDiff, reduceCtorEq, Int.reduceToNat, Int.reduceNeg]
  · rintro m st ⟨i, hi, rfl, rfl⟩
    simp only [push_cast, reduceIte, Nat.reduceEqDiff, Nat.reduceAdd, Nat.reduceSub, Nat.reduceMul, Nat.reduceBEq, Nat.reduceLT, Nat.reduceLeDiff, reduceCtorEq, Int.reduceToNat, Int.reduceNeg]
    refine cond_dec (fun h1 => ?_) fun h1 => ?_
    · have hi' : i < Js.length := by omega
      have hj := hJs _ (show Js.getD i default ∈ Js by simp [List.getD_eq_getElem?_getD, hi'])
      obtain ⟨J, hJ⟩ : ∃ J, Js.getD i default = J := ⟨_, rfl⟩
      rw [hJ] at hj
      simp only [hJ]
      refine ⟨by omega, hi', ?_⟩
      refine dcal_sub (rtiles_ok J hj z.at_ (by omega) hz.at_) ⟨Sub.aggL (jobC_sub J), .slp _ _ _ _ (fun h => by cases h), trivial⟩ rfl ?_
      simp only [push_cast, reduceIte, Nat.reduceEqDiff, Nat.reduceAdd, Nat.reduceSub, Nat.reduceMul, Nat.reduceBEq, Nat.reduceLT, Nat.reduceLeDiff, reduceCtorEq, Int.reduceToNat, Int.reduceNeg]
      have hfx : ∀ l ∈ [tilesF J z.at_, z.any, z.some_], (l.length : Int) ≤ 1000000 := by
        have h1 : (tilesF J z.at_).length = J.p.blocks.length := tilesN_len _ _ _
        have hnb := hj.nb
        intro l hl
        simp only [List.mem_cons, List.not_mem_nil, or_false] at hl
        rcases hl with rfl | rfl | rfl
        · omega
        · omega
        · omega
      have hrw : ([[PV.sl true 1 (ints (tilesF J z.at_))], [.sl true 1 (ints z.any)], [.sl true 1 (ints z.some_)]] : List (List PV)) = rows listC [tilesF J z.at_, z.any, z.some_] := rfl
      rw [hrw]
      obtain ⟨Ls, hLs, hL3⟩ : ∃ Ls : List (List Int), [tilesF J z.at_, z.any, z.some_] = Ls ∧ Ls.length = 3 := ⟨_, rfl, rfl⟩
      rw [hLs] at hfx ⊢
      clear hLs hrw
      refine loop_of (fun m st => ∃ k : Nat, k ≤ 3 ∧ m = 3 - k ∧ st = ⟨[(5, .ptr 5 0), (7, .bool true), (8, .ptr 8 0), (11, .view 70 0 3), (12, .int i), (13, .view 88 0 3), (14, .int k)],
        [(5, oddC true z), (8, jobC true j0)], [(70, ⟨11, 42, rows (jobC true) Js⟩), (88, ⟨1, 28, rows listC Ls⟩)], []⟩) 3 ?_ ?_
      · refine ⟨0, by omega, by omega, ?_⟩
        simp only [push_cast, reduceIte, Nat.reduceEqDiff, Nat.reduceAdd, Nat.reduceSub, Nat.reduceMul, Nat.reduceBEq, Nat.reduceLT, Nat.reduceLeDiff, reduceCtorEq, Int.reduceToNat, Int.reduceNeg]
      · rintro m st ⟨k, hk, rfl, rfl⟩
        simp only [push_cast, reduceIte, Nat.reduceEqDiff, Nat.reduceAdd, Nat.reduceSub, Nat.reduceMul, Nat.reduceBEq, Nat.reduceLT, Nat.reduceLeDiff, reduceCtorEq, Int.reduceToNat, Int.reduceNeg]
        refine cond_dec (fun h2 => ?_) fun h2 => ?_
        · have hk' : k < Ls.length := by omega
          refine ⟨by omega, hk', ?_⟩
          refine cond_dec (fun h4 => ?_) fun h4 => ?_
          · refine body_one z j0 Js hJs Ls hfx (by omega) i k hi' hk' z.passes h3 hL3 _ _ ?_ ?_
            · simp only [push_cast, reduceIte, Nat.reduceEqDiff, Nat.reduceAdd, Nat.reduceSub, Nat.reduceMul, Nat.reduceBEq, Nat.reduceLT, Nat.reduceLeDiff, reduceCtorEq, Int.reduceToNat, Int.reduceNeg]
            · simp only [push_cast, reduceIte, Nat.reduceEqDiff, Nat.reduceAdd, Nat.reduceSub, Nat.reduceMul, Nat.reduceBEq, Nat.reduceLT, Nat.reduceLeDiff, reduceCtorEq, Int.reduceToNat, Int.reduceNeg]
              refine ⟨by omega, _, ?_, k + 1, by omega, rfl, ?_⟩
              · omega
              · simp
          · refine body_one z j0 Js hJs Ls hfx (by omega) i k hi' hk' (min z.passes 3) h3 hL3 _ _ ?_ ?_
            · simp only [push_cast, reduceIte, Nat.reduceEqDiff, Nat.reduceAdd, Nat.reduceSub, Nat.reduceMul, Nat.reduceBEq, Nat.reduceLT, Nat.reduceLeDiff, reduceCtorEq, Int.reduceToNat, Int.reduceNeg]
            · simp only [push_cast, reduceIte, Nat.reduceEqDiff, Nat.reduceAdd, Nat.reduceSub, Nat.reduceMul, Nat.reduceBEq, Nat.reduceLT, Nat.reduceLeDiff, reduceCtorEq, Int.reduceToNat, Int.reduceNeg]
              refine ⟨by omega, _, ?_, k + 1, by omega, rfl, ?_⟩
              · omega
              · simp
        · refine body_two z hz (by omega) j0 Js hJs i hi' h3 Ls _ _ ?_ ?_
          · simp only [push_cast, reduceIte, Nat.reduceEqDiff, Nat.reduceAdd, Nat.reduceSub, Nat.reduceMul, Nat.reduceBEq, Nat.reduceLT, Nat.reduceLeDiff, reduceCtorEq, Int.reduceToNat, Int.reduceNeg]
          · intro L1 b k
            simp only [push_cast, reduceIte, Nat.reduceEqDiff, Nat.reduceAdd, Nat.reduceSub, Nat.reduceMul, Nat.reduceBEq, Nat.reduceLT, Nat.reduceLeDiff, reduceCtorEq, Int.reduceToNat, Int.reduceNeg]
            refine ⟨by omega, _, ?_, i + 1, by omega, rfl, ?_⟩
            · omega
            · simp
    · refine cal_sub (lplaced_ok j0 hj0 ⟨[], [], 1001⟩ (by decide)) ⟨Sub.aggL (jobC_sub j0), Sub.aggL ⟨.nil _ _, .nil _ _, .refl _, trivial⟩, trivial⟩ ?_
      rw [show placeF j0 [] 1001 = ([], 1) from by rw [placeF, if_pos (by omega)]]
      simp only [push_cast, reduceIte, Nat.reduceEqDiff, Nat.reduceAdd, Nat.reduceSub, Nat.reduceMul, Nat.reduceBEq, Nat.reduceLT, Nat.reduceLeDiff, reduceCtorEq, Int.reduceToNat, Int.reduceNeg]
      refine cal_sub (limproved_ok j0 hj0 ⟨[], [], 1001⟩ (by decide) (by decide)) ⟨Sub.aggL (jobC_sub j0), Sub.aggL ⟨.nil _ _, .nil _ _, .refl _, trivial⟩, trivial⟩ ?_
      rw [show improvedF j0 [] [] 1001 = ([], 0, 1) from by rw [improvedF, if_pos (by omega)]]
      simp only [push_cast, reduceIte, Nat.reduceEqDiff, Nat.reduceAdd, Nat.reduceSub, Nat.reduceMul, Nat.reduceBEq, Nat.reduceLT, Nat.reduceLeDiff, reduceCtorEq, Int.reduceToNat, Int.reduceNeg]
      done
end Go.Proofs.Ytbdamnfkgdbidaa
namespace Go.Proofs.Ytbdamnfkgdbidaa
open Go Go.Vc Txt
theorem oddC_sub (z : Odd) : SubL (oddC true z) (oddC false z) := ⟨.slp _ _ _ _ (fun h => by cases h), .slp _ _ _ _ (fun h => by cases h), .slp _ _ _ _ (fun h => by cases h), .slp _ _ _ _ (fun h => by cases h), .slp _ _ _ _ (fun h => by cases h), .refl _, .refl _, .refl _, trivial⟩
set_option maxHeartbeats 2000000 in
set_option maxRecDepth 4000 in
theorem matches_ok (x : RawP) (hx : x.By) (y : RawG) (hy : y.By) (z : Odd) (hz : z.By) :
    FnEq Try.prog 3 [.agg (rawPC false x), .agg (rawGC false y), .agg (oddC true z)] (.bool true) := by
  refine FnEq.of_awp Try.func3 ok3f (by show 3 ≤ _; decide) (by simp only [push_cast, reduceIte, Nat.reduceEqDiff, Nat.reduceAdd, Nat.reduceSub, Nat.reduceMul, Nat.reduceBEq, Nat.reduceLT, Nat.reduceLeDiff, reduceCtorEq, Int.reduceToNat, Int.reduceNeg] <;> first | exact fun _ _ => trivial | simp) ?_
  simp only [ac3f, rv3f, push_cast, reduceIte, Nat.reduceEqDiff, Nat.reduceAdd, Nat.reduceSub, Nat.reduceMul, Nat.reduceBEq, Nat.reduceLT, Nat.reduceLeDiff, reduceCtorEq, Int.reduceToNat, Int.reduceNeg]
  refine cal_sub examples_ok (by simp only [push_cast, reduceIte, Nat.reduceEqDiff, Nat.reduceAdd, Nat.reduceSub, Nat.reduceMul, Nat.reduceBEq, Nat.reduceLT, Nat.reduceLeDiff, reduceCtorEq, Int.reduceToNat, Int.reduceNeg]) ?_
  simp only [push_cast, reduceIte, Nat.reduceEqDiff, Nat.reduceAdd, Nat.reduceSub, Nat.reduceMul, Nat.reduceBEq, Nat.reduceLT, Nat.reduceLeDiff, reduceCtorEq, Int.reduceToNat, Int.reduceNeg]
  refine cal_sub (small_ok x y z) ⟨.refl _, .refl _, Sub.aggL (oddC_sub z), trivial⟩ ?_
  simp only [push_cast, reduceIte, Nat.reduceEqDiff, Nat.reduceAdd, Nat.reduceSub, Nat.reduceMul, Nat.reduceBEq, Nat.reduceLT, Nat.reduceLeDiff, reduceCtorEq, Int.reduceToNat, Int.reduceNeg]
  refine cond_of (fun h => ?_) fun h => ?_
  · simp only [push_cast, reduceIte, Nat.reduceEqDiff, Nat.reduceAdd, Nat.reduceSub, Nat.reduceMul, Nat.reduceBEq, Nat.reduceLT, Nat.reduceLeDiff, reduceCtorEq, Int.reduceToNat, Int.reduceNeg]
  have hs : Small x y z := by simpa using h
  have hx := hx.ok hs.1
  have hy := hy.ok hs.2.1
  obtain ⟨_, _, s3, s4, s5, s6, s7⟩ := hs
  refine cal_subO (lmade_ok x hx y hy z (by omega) hz.bad) ⟨.refl _, .refl _, Sub.aggL (oddC_sub z), trivial⟩ ?_
  rintro _ ⟨p, hp, rfl⟩
  have hj := job_ok hx hp hy z.bad
  generalize hj0 : (⟨p, gridF y, badF (gridF y) z.bad⟩ : Job) = j at hj ⊢
  clear hj0
  simp only [push_cast, reduceIte, Nat.reduceEqDiff, Nat.reduceAdd, Nat.reduceSub, Nat.reduceMul, Nat.reduceBEq, Nat.reduceLT, Nat.reduceLeDiff, reduceCtorEq, Int.reduceToNat, Int.reduceNeg]
  refine dcal_sub (suits_exp j hj z.block z.tile) ⟨Sub.aggL (packedC_sub _), Sub.aggL (gridC_sub _), Sub.aggL (badC_sub _), .refl _, .refl _, trivial⟩ rfl ?_
  simp only [push_cast, reduceIte, Nat.reduceEqDiff, Nat.reduceAdd, Nat.reduceSub, Nat.reduceMul, Nat.reduceBEq, Nat.reduceLT, Nat.reduceLeDiff, reduceCtorEq, Int.reduceToNat, Int.reduceNeg]
  refine cal_sub (suits_ok j hj z.block z.tile) ⟨Sub.aggL (jobC_sub j), .refl _, .refl _, trivial⟩ ?_
  simp only [push_cast, reduceIte, Nat.reduceEqDiff, Nat.reduceAdd, Nat.reduceSub, Nat.reduceMul, Nat.reduceBEq, Nat.reduceLT, Nat.reduceLeDiff, reduceCtorEq, Int.reduceToNat, Int.reduceNeg, bne_self_eq_false]
  refine ⟨by omega, ?_⟩
  have hj2 : (⟨j.p, ⟨j.g.w, j.g.h, j.g.tracks, (z.at_.length : Int) % 5, j.g.kind⟩, j.bad⟩ : Job).Ok := setPads_ok hj _
  have hj3 : (⟨j.p, j.g, ⟨z.some_, z.any⟩⟩ : Job).Ok := setBad_ok hj (by omega) (by omega) hz.any
  refine matches_loops z hz ⟨by omega, by omega, by omega, by omega⟩ j hj [j, ⟨j.p, ⟨j.g.w, j.g.h, j.g.tracks, (z.at_.length : Int) % 5, j.g.kind⟩, j.bad⟩, ⟨j.p, j.g, ⟨z.some_, z.any⟩⟩] (fun q hq => ?_) rfl (rawPC false x) (rawGC false y)
    (jobC true ⟨j.p, ⟨j.g.w, j.g.h, j.g.tracks, (z.at_.length : Int) % 5, j.g.kind⟩, j.bad⟩) (jobC true ⟨j.p, j.g, ⟨z.some_, z.any⟩⟩) _ ?_
  · simp only [List.mem_cons, List.not_mem_nil, or_false] at hq
    rcases hq with rfl | rfl | rfl
    · exact hj
    · exact hj2
    · exact hj3
  · simp only [push_cast, reduceIte, Nat.reduceEqDiff, Nat.reduceAdd, Nat.reduceSub, Nat.reduceMul, Nat.reduceBEq, Nat.reduceLT, Nat.reduceLeDiff, reduceCtorEq, Int.reduceToNat, Int.reduceNeg]
    rfl
end Go.Proofs.Ytbdamnfkgdbidaa
namespace Go.Proofs.Ytbdamnfkgdbidaa
open Go Go.ChangeShapes Go.WideShapes Go.ChangeAt Go.RowKit Go.Vc
theorem rawFlat : flatOk Try.prog 9 24 rawT = true := by kernel_rfl
theorem gridFlat : flatOk Try.prog 9 27 gridT = true := by kernel_rfl
theorem oddFlat : flatOk Try.prog 9 30 oddT = true := by kernel_rfl
theorem Try.own : ownKnob Try.prog.godebug = none := by kernel_rfl
theorem Try.laidOut : laidOutB Try.prog = true := by kernel_rfl
theorem boolU : Try.prog.underlying 4 = some .bool := by kernel_rfl
theorem paramsMatches : Try.f3.params = #[24, 27, 30] := by kernel_rfl
theorem matches_true {a b c : List PV} (ha : RowV rawT a) (hb : RowV gridT b) (hc : RowV oddT c) : FnEq Try.prog 3 [.agg a, .agg b, .agg c] (.bool true) := by
  obtain ⟨x, hx, rfl⟩ := rawP_of ha
  obtain ⟨y, hy, rfl⟩ := rawG_of hb
  obtain ⟨z, hz, rfl⟩ := odd_of hc
  refine FnOK.sub (matches_ok x hx y hy z hz) ⟨Sub.aggL ?_, Sub.aggL ?_, .refl _, trivial⟩
  · exact ⟨.refl _, .refl _, .slp _ _ _ _ (fun h => by cases h), trivial⟩
  · exact ⟨.refl _, .refl _, .refl _, .refl _, .slp _ _ _ _ (fun h => by cases h), trivial⟩
set_option maxRecDepth 100000 in
theorem matches_lifted (os : Os) (started : os.Started) (H : Type) (enc : TypeId × Value → H) :
    ReturnsInHanded {} Try.checked os 3 .any (Rows.placementMatchesReferenceSpec.pre6 enc Try.prog Try.f3 Rows.placementMatchesReferenceRow.domain false) (Rows.placementMatchesReferenceSpec.post enc Try.prog Try.f3 false true false false) := by
  refine returnsInHanded_of_change (C := Try.checked) Try.own started (by kernel_rfl) Try.func3
    (ChangeSpec.witness6 (enc := enc) (C := Try.checked) false ⟨#[], #[.agg #[.int .u8 0, .int .u8 0, .slice none 0 0], .agg #[.int .u8 0, .int .u8 0, .int .u8 0, .int .u8 0, .slice none 0 0],
      .agg #[.slice none 0 0, .slice none 0 0, .slice none 0 0, .slice none 0 0, .slice none 0 0, .int .i64 0, .int .i64 0, .int .i64 0]], []⟩ 8 (by kernel_rfl) (by kernel_rfl) (by kernel_rfl) (by kernel_rfl)) ?_
  intro W base args ds gs before hval0 hW hcnd _
  have hval : ∀ (j : Nat) t v, Try.f3.params[j]? = some t → args[j]? = some v → Value.okWide Try.prog W .any base t v := hval0
  have hW' := hW
  obtain ⟨p, q, hA0, hV, rfl, hfz, hnd⟩ := hW
  have hA : DataW.TrodAll enc Try.prog W 0 (fun _ => true) true Try.f3.params.toList args.toList ds p := hA0
  rw [paramsMatches] at hA hval
  obtain ⟨v0, v1, v2, d0, d1, d2, p0, p1, p2, rfl, rfl, rfl, h0, h1, h2⟩ := trodAll_three hA
  obtain ⟨rfl, rfl⟩ := trodVars_none hV
  obtain ⟨a, ra, ta⟩ := argTy rawFlat (by kernel_rfl) (hval 0 _ v0 rfl rfl) h0
  obtain ⟨b, rb, tb⟩ := argTy gridFlat (by kernel_rfl) (hval 1 _ v1 rfl rfl) h1
  obtain ⟨c, rc, tc⟩ := argTy oddFlat (by kernel_rfl) (hval 2 _ v2 rfl rfl) h2
  have hlt : ∀ x ∈ p0 ++ p1 ++ p2, x.block < W.heap.size := fun x hx => hW'.lt x (by simpa using hx)
  refine (zw_call (matches_true ra rb rc) rfl fun j cc hj => ?_).mono fun e W' ⟨he, hb⟩ => ?_
  · match j with
    | 0 => simp at hj; subst hj; exact ta
    | 1 => simp at hj; subst hj; exact tb
    | 2 => simp at hj; subst hj; exact tc
    | j + 3 => simp at hj
  · refine ⟨_, he, _, _, _, [], _, [], hW', ?_, trodAll_mk3 (Below.trod Try.laidOut (by kernel_rfl) (of_decide_eq_true (by kernel_rfl)) h0 hb fun x hx => hlt x (by simp [hx])) (Below.trod Try.laidOut (by kernel_rfl) (of_decide_eq_true (by kernel_rfl)) h1 hb fun x hx => hlt x (by simp [hx]))
        (Below.trod Try.laidOut (by kernel_rfl) (of_decide_eq_true (by kernel_rfl)) h2 hb fun x hx => hlt x (by simp [hx])), rfl, hb.frame _, fun h => by cases h⟩
    exact trodAll_mk1 (shut_bool boolU true)
theorem matches_holds : Rows.PlacementMatchesReferenceSaid :=
  OpenClaim.holds_of_wide 3 Try.f3 rfl rfl rfl rfl rfl rfl rfl ⟨rfl, rfl, rfl, rfl, rfl⟩ rfl rfl rfl rfl rfl (by kernel_rfl) Try.func3 (by kernel_rfl)
    (of_decide_eq_true (by kernel_rfl)) (by unfold Func.isWrapper; first | (rw [if_pos (by decide +kernel)]; kernel_rfl) | (rw [if_neg (by decide +kernel)]; exact ⟨rfl, rfl⟩))
    (fun os started H enc _ => matches_lifted os started H enc)
end Go.Proofs.Ytbdamnfkgdbidaa
