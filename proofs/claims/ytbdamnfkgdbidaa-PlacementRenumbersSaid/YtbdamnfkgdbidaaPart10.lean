/- I J R S Gp Hp TxtB: lemmas for PRenumbers -/
import Derived.Test.YtbdamnfkgdbidaaPart09
import Derived.Test.YtbdamnfkgdbidaaPart05
import Derived.Test.YtbdamnfkgdbidaaChecked
set_option linter.unusedSimpArgs false
set_option linter.unusedVariables false
namespace Go.Proofs.Ytbdamnfkgdbidaa
open Go Go.Vc Txt
def packedC (q : Bool) (p : Packed) : List PV := [.sl q 3 (rows wireC p.ins), .sl q 5 (rows (blockC q) p.blocks), .sl q 3 (rows wireC p.out), .sl q 1 (ints p.drive)]
def badC (q : Bool) (b : Bad) : List PV := [.sl q 1 (ints b.tiles), .sl q 1 (ints b.nodes)]
@[push_cast] theorem packedC_eq (q : Bool) (p : Packed) : packedC q p = [.sl q 3 (rows wireC p.ins), .sl q 5 (rows (blockC q) p.blocks), .sl q 3 (rows wireC p.out), .sl q 1 (ints p.drive)] := rfl
@[push_cast] theorem badC_eq (q : Bool) (b : Bad) : badC q b = [.sl q 1 (ints b.tiles), .sl q 1 (ints b.nodes)] := rfl
theorem suits_exp (j : Job) (hj : j.Ok) (block tile : Int) : FnEq Try.prog 12 [.agg (packedC false j.p), .agg (gridC false j.g), .agg (badC false j.bad), .int block, .int tile] (.bool (suitsR j block tile)) := by
  refine FnEq.of_awp Try.func12 ok12 (by show 5 ≤ _; decide) (by simp only [push_cast, reduceIte, Nat.reduceEqDiff, Nat.reduceAdd, Nat.reduceSub, Nat.reduceMul, Nat.reduceBEq, Nat.reduceLT, Nat.reduceLeDiff, reduceCtorEq, Int.reduceToNat, Int.reduceNeg] <;> first | exact fun _ _ => trivial | simp) ?_
  simp only [ac12, rv12, push_cast, reduceIte, Nat.reduceEqDiff, Nat.reduceAdd, Nat.reduceSub, Nat.reduceMul, Nat.reduceBEq, Nat.reduceLT, Nat.reduceLeDiff, reduceCtorEq, Int.reduceToNat, Int.reduceNeg]
  refine cal_sub (psuits_ok j hj block tile) (by simp only [push_cast, reduceIte, Nat.reduceEqDiff, Nat.reduceAdd, Nat.reduceSub, Nat.reduceMul, Nat.reduceBEq, Nat.reduceLT, Nat.reduceLeDiff, reduceCtorEq, Int.reduceToNat, Int.reduceNeg]) ?_
  simp only [push_cast, reduceIte, Nat.reduceEqDiff, Nat.reduceAdd, Nat.reduceSub, Nat.reduceMul, Nat.reduceBEq, Nat.reduceLT, Nat.reduceLeDiff, reduceCtorEq, Int.reduceToNat, Int.reduceNeg]
def checkF (j : Job) (at_ : List Int) : Int := if Fits j ∧ IsPl j at_ ∧ (List.range at_.length).all (fun k => suitsR j k (at_.getD k default)) = true then 0 else 290
theorem check_exp (j : Job) (hj : j.Ok) (at_ : List Int) (hl : (at_.length : Int) ≤ 1000000) : FnEq Try.prog 38 [.agg (packedC false j.p), .agg (gridC false j.g), .agg (badC false j.bad), .sl false 1 (ints at_)] (.int (checkF j at_)) := by
  refine FnEq.of_awp Try.func38 ok38 (by show 4 ≤ _; decide) (by simp only [push_cast, reduceIte, Nat.reduceEqDiff, Nat.reduceAdd, Nat.reduceSub, Nat.reduceMul, Nat.reduceBEq, Nat.reduceLT, Nat.reduceLeDiff, reduceCtorEq, Int.reduceToNat, Int.reduceNeg] <;> first | exact fun _ _ => trivial | simp) ?_
  simp only [ac38, rv38, push_cast, reduceIte, Nat.reduceEqDiff, Nat.reduceAdd, Nat.reduceSub, Nat.reduceMul, Nat.reduceBEq, Nat.reduceLT, Nat.reduceLeDiff, reduceCtorEq, Int.reduceToNat, Int.reduceNeg]
  have hi := hj.ins
  have ho := hj.outs
  refine cal_sub (pfits_ok j (by omega) (by omega)) (by simp only [push_cast, reduceIte, Nat.reduceEqDiff, Nat.reduceAdd, Nat.reduceSub, Nat.reduceMul, Nat.reduceBEq, Nat.reduceLT, Nat.reduceLeDiff, reduceCtorEq, Int.reduceToNat, Int.reduceNeg]) ?_
  simp only [push_cast, reduceIte, Nat.reduceEqDiff, Nat.reduceAdd, Nat.reduceSub, Nat.reduceMul, Nat.reduceBEq, Nat.reduceLT, Nat.reduceLeDiff, reduceCtorEq, Int.reduceToNat, Int.reduceNeg]
  refine cut_of ⟨[(3, .sl false 1 (ints at_)), (9, .ptr 9 0), (24, .bool (decide ¬ (Fits j ∧ IsPl j at_)))], [(4, packedC false j.p), (5, gridC false j.g), (6, badC false j.bad), (9, jobC false j)], [], []⟩ ?_ ?_
  · refine grd_bf rfl (fun h1 => ?_) fun h1 => ?_ <;> simp only [push_cast, reduceIte, Nat.reduceEqDiff, Nat.reduceAdd, Nat.reduceSub, Nat.reduceMul, Nat.reduceBEq, Nat.reduceLT, Nat.reduceLeDiff, reduceCtorEq, Int.reduceToNat, Int.reduceNeg]
    · have : ¬ Fits j := by simpa using h1
      simp [this]
    · have h1 : Fits j := by simpa using h1
      refine cal_sub (placed_ok j hj at_ hl) (by simp only [push_cast, reduceIte, Nat.reduceEqDiff, Nat.reduceAdd, Nat.reduceSub, Nat.reduceMul, Nat.reduceBEq, Nat.reduceLT, Nat.reduceLeDiff, reduceCtorEq, Int.reduceToNat, Int.reduceNeg]) ?_
      simp only [push_cast, reduceIte, Nat.reduceEqDiff, Nat.reduceAdd, Nat.reduceSub, Nat.reduceMul, Nat.reduceBEq, Nat.reduceLT, Nat.reduceLeDiff, reduceCtorEq, Int.reduceToNat, Int.reduceNeg]
      simp [h1]
  simp only [push_cast, reduceIte, Nat.reduceEqDiff, Nat.reduceAdd, Nat.reduceSub, Nat.reduceMul, Nat.reduceBEq, Nat.reduceLT, Nat.reduceLeDiff, reduceCtorEq, Int.reduceToNat, Int.reduceNeg]
  refine cond_dec (fun h => ?_) fun h => ?_
  · rw [checkF, if_neg fun hh => h ⟨hh.1, hh.2.1⟩]
  have h := Classical.not_not.1 h
  refine loop_of (fun m st => ∃ k : Nat, k ≤ at_.length ∧ m = at_.length - k ∧ (∀ i : Nat, i < k → suitsR j i (at_.getD i default) = true) ∧
    st = ⟨[(9, .ptr 9 0), (25, .sl false 1 (ints at_)), (26, .int at_.length), (27, .int k)], [(9, jobC false j)], [], []⟩) at_.length ?_ ?_
  · refine ⟨0, by omega, by omega, fun i hi => by omega, ?_⟩
    simp only [push_cast, reduceIte, Nat.reduceEqDiff, Nat.reduceAdd, Nat.reduceSub, Nat.reduceMul, Nat.reduceBEq, Nat.reduceLT, Nat.reduceLeDiff, reduceCtorEq, Int.reduceToNat, Int.reduceNeg]
  · rintro m st ⟨k, hk, rfl, h1, rfl⟩
    simp only [push_cast, reduceIte, Nat.reduceEqDiff, Nat.reduceAdd, Nat.reduceSub, Nat.reduceMul, Nat.reduceBEq, Nat.reduceLT, Nat.reduceLeDiff, reduceCtorEq, Int.reduceToNat, Int.reduceNeg]
    refine cond_dec (fun h2 => ?_) fun h2 => ?_
    · refine ⟨⟨by omega, by omega⟩, by omega, ?_⟩
      refine cal_sub (psuits_ok j hj k (at_.getD k default)) (by simp only [push_cast, reduceIte, Nat.reduceEqDiff, Nat.reduceAdd, Nat.reduceSub, Nat.reduceMul, Nat.reduceBEq, Nat.reduceLT, Nat.reduceLeDiff, reduceCtorEq, Int.reduceToNat, Int.reduceNeg]) ?_
      simp only [push_cast, reduceIte, Nat.reduceEqDiff, Nat.reduceAdd, Nat.reduceSub, Nat.reduceMul, Nat.reduceBEq, Nat.reduceLT, Nat.reduceLeDiff, reduceCtorEq, Int.reduceToNat, Int.reduceNeg]
      refine cond_of (fun h3 => ?_) fun h3 => ?_
      · rw [checkF, if_neg]
        rintro ⟨_, _, h4⟩
        rw [List.all_eq_true] at h4
        have h5 := h4 k (List.mem_range.2 (by omega))
        rw [h5] at h3; cases h3
      · have h3 : suitsR j k (at_.getD k default) = true := by simpa using h3
        refine ⟨⟨by omega, by omega⟩, _, ?_, k + 1, by omega, rfl, fun i hi => ?_, ?_⟩
        · omega
        · by_cases e : i = k
          · subst e; exact h3
          · exact h1 i (by omega)
        · simp
    · rw [checkF, if_pos ⟨h.1, h.2, by rw [List.all_eq_true]; intro k hk; exact h1 k (by have := List.mem_range.1 hk; omega)⟩]
def cost1F (j : Job) (at_ : List Int) : Int × Int := if IsPl j at_ then (costF j at_, 0) else (0, 290)
theorem cost_exp (j : Job) (hj : j.Ok) (at_ : List Int) (hl : (at_.length : Int) ≤ 1000000) : FnEq Try.prog 41 [.agg (packedC false j.p), .agg (gridC false j.g), .sl false 1 (ints at_)] (.tup [.int (cost1F j at_).1, .int (cost1F j at_).2]) := by
  refine FnEq.of_awp Try.func41 ok41 (by show 3 ≤ _; decide) (by simp only [push_cast, reduceIte, Nat.reduceEqDiff, Nat.reduceAdd, Nat.reduceSub, Nat.reduceMul, Nat.reduceBEq, Nat.reduceLT, Nat.reduceLeDiff, reduceCtorEq, Int.reduceToNat, Int.reduceNeg] <;> first | exact fun _ _ => trivial | simp) ?_
  simp only [ac41, rv41, push_cast, reduceIte, Nat.reduceEqDiff, Nat.reduceAdd, Nat.reduceSub, Nat.reduceMul, Nat.reduceBEq, Nat.reduceLT, Nat.reduceLeDiff, reduceCtorEq, Int.reduceToNat, Int.reduceNeg]
  have hj0 : (⟨j.p, j.g, ⟨[], []⟩⟩ : Job).Ok := ⟨hj.wh, hj.tr, hj.kind, hj.nb, hj.nin, hj.ins, hj.outs, by simp, by simp, by simp, hj.w, hj.h, hj.nd, hj.sb, hj.sd⟩
  refine cal_sub (placed_ok ⟨j.p, j.g, ⟨[], []⟩⟩ hj0 at_ hl) (by simp only [push_cast, reduceIte, Nat.reduceEqDiff, Nat.reduceAdd, Nat.reduceSub, Nat.reduceMul, Nat.reduceBEq, Nat.reduceLT, Nat.reduceLeDiff, reduceCtorEq, Int.reduceToNat, Int.reduceNeg]; done) ?_
  simp only [push_cast, reduceIte, Nat.reduceEqDiff, Nat.reduceAdd, Nat.reduceSub, Nat.reduceMul, Nat.reduceBEq, Nat.reduceLT, Nat.reduceLeDiff, reduceCtorEq, Int.reduceToNat, Int.reduceNeg]
  refine cond_of (fun h => ?_) fun h => ?_
  · have h : ¬ IsPl j at_ := by
      have h : ¬ IsPl ⟨j.p, j.g, ⟨[], []⟩⟩ at_ := by simpa using h
      exact h
    rw [cost1F, if_neg h]
    exact ⟨rfl, rfl⟩
  · have h : IsPl ⟨j.p, j.g, ⟨[], []⟩⟩ at_ := by simpa using h
    refine cal_sub (cost_ok ⟨j.p, j.g, ⟨[], []⟩⟩ hj0 at_ h) (by simp only [push_cast, reduceIte, Nat.reduceEqDiff, Nat.reduceAdd, Nat.reduceSub, Nat.reduceMul, Nat.reduceBEq, Nat.reduceLT, Nat.reduceLeDiff, reduceCtorEq, Int.reduceToNat, Int.reduceNeg]; done) ?_
    simp only [push_cast, reduceIte, Nat.reduceEqDiff, Nat.reduceAdd, Nat.reduceSub, Nat.reduceMul, Nat.reduceBEq, Nat.reduceLT, Nat.reduceLeDiff, reduceCtorEq, Int.reduceToNat, Int.reduceNeg]
    rw [cost1F, if_pos (show IsPl j at_ from h)]
    exact ⟨rfl, rfl⟩
theorem lcheck_ok (j : Job) (hj : j.Ok) (at_ : List Int) (hl : (at_.length : Int) ≤ 1000000) : FnEq Try.prog 15 [.agg (jobC false j), .sl false 1 (ints at_)] (.int (checkF j at_)) := by
  refine FnEq.of_awp Try.func15 ok15 (by show 2 ≤ _; decide) (by simp only [push_cast, reduceIte, Nat.reduceEqDiff, Nat.reduceAdd, Nat.reduceSub, Nat.reduceMul, Nat.reduceBEq, Nat.reduceLT, Nat.reduceLeDiff, reduceCtorEq, Int.reduceToNat, Int.reduceNeg] <;> first | exact fun _ _ => trivial | simp) ?_
  simp only [ac15, rv15, push_cast, reduceIte, Nat.reduceEqDiff, Nat.reduceAdd, Nat.reduceSub, Nat.reduceMul, Nat.reduceBEq, Nat.reduceLT, Nat.reduceLeDiff, reduceCtorEq, Int.reduceToNat, Int.reduceNeg]
  refine cal_sub (check_exp j hj at_ hl) (by simp only [push_cast, reduceIte, Nat.reduceEqDiff, Nat.reduceAdd, Nat.reduceSub, Nat.reduceMul, Nat.reduceBEq, Nat.reduceLT, Nat.reduceLeDiff, reduceCtorEq, Int.reduceToNat, Int.reduceNeg]) ?_
  simp only [push_cast, reduceIte, Nat.reduceEqDiff, Nat.reduceAdd, Nat.reduceSub, Nat.reduceMul, Nat.reduceBEq, Nat.reduceLT, Nat.reduceLeDiff, reduceCtorEq, Int.reduceToNat, Int.reduceNeg]
theorem lcost_ok (j : Job) (hj : j.Ok) (at_ : List Int) (hl : (at_.length : Int) ≤ 1000000) : FnEq Try.prog 17 [.agg (jobC false j), .sl false 1 (ints at_)] (.agg [.int (cost1F j at_).1, .int (cost1F j at_).2]) := by
  refine FnEq.of_awp Try.func17 ok17 (by show 2 ≤ _; decide) (by simp only [push_cast, reduceIte, Nat.reduceEqDiff, Nat.reduceAdd, Nat.reduceSub, Nat.reduceMul, Nat.reduceBEq, Nat.reduceLT, Nat.reduceLeDiff, reduceCtorEq, Int.reduceToNat, Int.reduceNeg] <;> first | exact fun _ _ => trivial | simp) ?_
  simp only [ac17, rv17, push_cast, reduceIte, Nat.reduceEqDiff, Nat.reduceAdd, Nat.reduceSub, Nat.reduceMul, Nat.reduceBEq, Nat.reduceLT, Nat.reduceLeDiff, reduceCtorEq, Int.reduceToNat, Int.reduceNeg]
  refine cal_sub (cost_exp j hj at_ hl) (by simp only [push_cast, reduceIte, Nat.reduceEqDiff, Nat.reduceAdd, Nat.reduceSub, Nat.reduceMul, Nat.reduceBEq, Nat.reduceLT, Nat.reduceLeDiff, reduceCtorEq, Int.reduceToNat, Int.reduceNeg]) ?_
  simp only [push_cast, reduceIte, Nat.reduceEqDiff, Nat.reduceAdd, Nat.reduceSub, Nat.reduceMul, Nat.reduceBEq, Nat.reduceLT, Nat.reduceLeDiff, reduceCtorEq, Int.reduceToNat, Int.reduceNeg]
end Go.Proofs.Ytbdamnfkgdbidaa
namespace Go.Proofs.Ytbdamnfkgdbidaa
open Go Go.Vc Txt
theorem clone_ok (E : Env) (hE : E.p = Try.prog) (hkk : E.kk ≤ 700) (j : Job) (at_ fx : List Int) (passes : Int) (hl : (at_.length : Int) ≤ 1000000) :
    FnM E 71 [.sl false 1 (ints at_)] ⟨[(4, .sl false 1 (ints fx)), (5, .int passes), (6, .ptr 6 0), (7, .ptr 7 0), (8, .ptr 8 0)], [(6, packedC false j.p), (7, gridC false j.g), (8, badC false j.bad)], [], []⟩
      (fun rv st' => (at_ = [] ∧ rv = .nil ∧ st' = ⟨[(4, .sl false 1 (ints fx)), (5, .int passes), (6, .ptr 6 0), (7, .ptr 7 0), (8, .ptr 8 0)], [(6, packedC false j.p), (7, gridC false j.g), (8, badC false j.bad)], [], []⟩) ∨
        (rv = .view 705 0 at_.length ∧ st' = ⟨[(4, .sl false 1 (ints fx)), (5, .int passes), (6, .ptr 6 0), (7, .ptr 7 0), (8, .ptr 8 0)], [(6, packedC false j.p), (7, gridC false j.g), (8, badC false j.bad)], [(705, ⟨1, 3, ints at_⟩)], []⟩)) := by
  refine fnM_of 700 (by rw [hE]; exact Try.func71) (by rw [hE]; exact ok71_700) (by show 1 ≤ _; decide) rfl hkk ?_
  simp only [ac71_700, rv71_700, push_cast, reduceIte, Nat.reduceEqDiff, Nat.reduceAdd, Nat.reduceSub, Nat.reduceMul, Nat.reduceBEq, Nat.reduceLT, Nat.reduceLeDiff, reduceCtorEq, Int.reduceToNat, Int.reduceNeg]
  refine niqK_any _ fun b hb => ?_
  refine cond_of (fun e => ?_) fun e => ?_
  · have hb := hb e
    exact .inl (by simpa [rows] using hb)
  · simp only [List.replicate_zero, List.length_nil, Nat.zero_add, List.nil_append]
    refine ⟨⟨by omega, by omega⟩, ?_, ?_⟩
    · simp [flatB]
    · simp
theorem improve_nil (E : Env) (hE : E.p = Try.prog) (hkk : E.kk ≤ 300) (j : Job) (hj : j.Ok) (fx : List Int) (passes : Nat) (hps : passes ≤ 1000) (hp : IsPl j []) :
    FnM E 72 [.agg (jobC false j), .nil, .sl false 1 (ints fx), .int passes] ⟨[(16, .nil)], [], [], []⟩
      (fun rv st' => rv = .int 0 ∧ st' = ⟨[(16, .nil)], [], [], []⟩) := by
  have key : FnM E 72 [.agg (jobC false j), .nil, .sl false 1 (ints fx), .int passes] ⟨[(16, .nil)], [], [], []⟩
      (fun rv st' => rv = .int 0 ∧ st'.onlyB [] = ⟨[(16, .nil)], [], [], []⟩) := by
    refine fnM_of 300 (by rw [hE]; exact Try.func72) (by rw [hE]; exact ok72_300) (by show 4 ≤ _; decide) rfl hkk ?_
    simp only [ac72_300, rv72_300, push_cast, reduceIte, Nat.reduceEqDiff, Nat.reduceAdd, Nat.reduceSub, Nat.reduceMul, Nat.reduceBEq, Nat.reduceLT, Nat.reduceLeDiff, reduceCtorEq, Int.reduceToNat, Int.reduceNeg]
    refine cal_sub (by rw [hE]; exact cost_ok j hj [] hp) (by simp only [push_cast, reduceIte, Nat.reduceEqDiff, Nat.reduceAdd, Nat.reduceSub, Nat.reduceMul, Nat.reduceBEq, Nat.reduceLT, Nat.reduceLeDiff, reduceCtorEq, Int.reduceToNat, Int.reduceNeg]) ?_
    simp only [push_cast, reduceIte, Nat.reduceEqDiff, Nat.reduceAdd, Nat.reduceSub, Nat.reduceMul, Nat.reduceBEq, Nat.reduceLT, Nat.reduceLeDiff, reduceCtorEq, Int.reduceToNat, Int.reduceNeg]
    refine loop_of (fun m st => m = 0 ∧ st = ⟨[(16, .nil), (301, .nil), (302, .sl false 1 (ints fx)), (304, .ptr 304 0), (309, .int 0), (310, .int (costF j [])), (320, .int passes), (321, .int 0)], [(304, jobC false j)], [], []⟩) 0 ?_ ?_
    · refine ⟨rfl, ?_⟩
      simp only [push_cast, reduceIte, Nat.reduceEqDiff, Nat.reduceAdd, Nat.reduceSub, Nat.reduceMul, Nat.reduceBEq, Nat.reduceLT, Nat.reduceLeDiff, reduceCtorEq, Int.reduceToNat, Int.reduceNeg]
    · rintro m st ⟨rfl, rfl⟩
      simp only [push_cast, reduceIte, Nat.reduceEqDiff, Nat.reduceAdd, Nat.reduceSub, Nat.reduceMul, Nat.reduceBEq, Nat.reduceLT, Nat.reduceLeDiff, reduceCtorEq, Int.reduceToNat, Int.reduceNeg]
      refine cond_dec (fun h1 => ?_) fun h1 => ?_
      · refine loop_of (fun m st => m = 0 ∧ st = ⟨[(16, .nil), (301, .nil), (302, .sl false 1 (ints fx)), (304, .ptr 304 0), (309, .int 0), (310, .int (costF j [])), (311, .int 0), (320, .int passes), (321, .int 0), (325, .int 0), (326, .int 0)], [(304, jobC false j)], [], []⟩) 0 ?_ ?_
        · refine ⟨rfl, ?_⟩
          simp only [push_cast, reduceIte, Nat.reduceEqDiff, Nat.reduceAdd, Nat.reduceSub, Nat.reduceMul, Nat.reduceBEq, Nat.reduceLT, Nat.reduceLeDiff, reduceCtorEq, Int.reduceToNat, Int.reduceNeg]
        · rintro m st ⟨rfl, rfl⟩
          simp only [push_cast, reduceIte, Nat.reduceEqDiff, Nat.reduceAdd, Nat.reduceSub, Nat.reduceMul, Nat.reduceBEq, Nat.reduceLT, Nat.reduceLeDiff, reduceCtorEq, Int.reduceToNat, Int.reduceNeg]
          refine cond_dec (fun h2 => absurd h2 (by omega)) fun h2 => ?_
          trivial
      · trivial
  refine FnM.mono (FnM.postB (fun _ => []) key) ?_
  rintro rv _ ⟨st1, ⟨h1, h2⟩, rfl⟩
  exact ⟨h1, h2⟩
def improvedF (j : Job) (at_ fx : List Int) (passes : Int) : List Int × Int × Int :=
  if passes < 0 ∨ 1000 < passes then ([], 0, 1)
  else if checkF j at_ ≠ 0 then ([], 0, checkF j at_)
  else ((improveF j fx at_ passes.toNat).1, (improveF j fx at_ passes.toNat).2.2, 0)
theorem checkF_zero {j : Job} {at_ : List Int} (h : checkF j at_ = 0) : IsPl j at_ := by
  unfold checkF at h
  split at h
  · rename_i h1; exact h1.2.1
  · cases h
theorem improveF_nil (j : Job) (fx : List Int) (p : Nat) : (improveF j fx [] p).1 = [] ∧ (improveF j fx [] p).2.2 = 0 := by
  cases p <;> simp [improveF, passesF, passStep]
theorem passes_ok {j : Job} {fx at0 : List Int} : ∀ (p : Nat) {s : Im}, ImOk j at0 s → ImOk j at0 (passesF j fx at0.length p s)
  | 0, _, h => h
  | p + 1, s, h => by
    have h1 : ImOk j at0 (passStep j fx at0.length s) := blocks_ok (List.range at0.length) (fun k hk => List.mem_range.1 hk) h
    simp only [passesF]
    split
    · exact h1
    · exact passes_ok p h1
theorem improveF_ok {j : Job} {fx at0 : List Int} (hp : IsPl j at0) (p : Nat) : ImOk j at0 (improveF j fx at0 p) := passes_ok p ⟨hp, rfl, rfl, by show (0 : Int) ≤ 0; omega, by show 0 + costF j at0 ≤ _; omega⟩
theorem improve_exp (j : Job) (hj : j.Ok) (at_ fx : List Int) (passes : Int) (hl : (at_.length : Int) ≤ 1000000) (hfx : (fx.length : Int) ≤ 1000000) :
    FnEq Try.prog 44 [.agg (packedC false j.p), .agg (gridC false j.g), .agg (badC false j.bad), .sl false 1 (ints at_), .sl false 1 (ints fx), .int passes]
      (.tup [.sl true 1 (ints (improvedF j at_ fx passes).1), .int (improvedF j at_ fx passes).2.1, .int (improvedF j at_ fx passes).2.2]) := by
  refine FnEq.of_awp Try.func44 ok44 (by show 6 ≤ _; decide) (by simp only [push_cast, reduceIte, Nat.reduceEqDiff, Nat.reduceAdd, Nat.reduceSub, Nat.reduceMul, Nat.reduceBEq, Nat.reduceLT, Nat.reduceLeDiff, reduceCtorEq, Int.reduceToNat, Int.reduceNeg] <;> first | exact fun _ _ => trivial | simp) ?_
  simp only [ac44, rv44, push_cast, reduceIte, Nat.reduceEqDiff, Nat.reduceAdd, Nat.reduceSub, Nat.reduceMul, Nat.reduceBEq, Nat.reduceLT, Nat.reduceLeDiff, reduceCtorEq, Int.reduceToNat, Int.reduceNeg]
  refine cut_of ⟨[(3, .sl false 1 (ints at_)), (4, .sl false 1 (ints fx)), (5, .int passes), (6, .ptr 6 0), (7, .ptr 7 0), (8, .ptr 8 0), (23, .bool (decide (passes < 0 ∨ 1000 < passes)))], [(6, packedC false j.p), (7, gridC false j.g), (8, badC false j.bad)], [], []⟩ ?_ ?_
  · (repeat' (first | (refine grd_dec rfl (fun _ => ?_) fun _ => ?_ <;> simp only [push_cast, reduceIte, Nat.reduceEqDiff, Nat.reduceAdd, Nat.reduceSub, Nat.reduceMul, Nat.reduceBEq, Nat.reduceLT, Nat.reduceLeDiff, reduceCtorEq, Int.reduceToNat, Int.reduceNeg]) | (refine grd_decf rfl (fun _ => ?_) fun _ => ?_ <;> simp only [push_cast, reduceIte, Nat.reduceEqDiff, Nat.reduceAdd, Nat.reduceSub, Nat.reduceMul, Nat.reduceBEq, Nat.reduceLT, Nat.reduceLeDiff, reduceCtorEq, Int.reduceToNat, Int.reduceNeg])))
    all_goals simp [*]
  simp only [push_cast, reduceIte, Nat.reduceEqDiff, Nat.reduceAdd, Nat.reduceSub, Nat.reduceMul, Nat.reduceBEq, Nat.reduceLT, Nat.reduceLeDiff, reduceCtorEq, Int.reduceToNat, Int.reduceNeg]
  refine cond_dec (fun h => ?_) fun h => ?_
  · rw [improvedF, if_pos h]
    simp only [push_cast, reduceIte, Nat.reduceEqDiff, Nat.reduceAdd, Nat.reduceSub, Nat.reduceMul, Nat.reduceBEq, Nat.reduceLT, Nat.reduceLeDiff, reduceCtorEq, Int.reduceToNat, Int.reduceNeg]
    done
  refine cal_sub (check_exp j hj at_ hl) (by simp only [push_cast, reduceIte, Nat.reduceEqDiff, Nat.reduceAdd, Nat.reduceSub, Nat.reduceMul, Nat.reduceBEq, Nat.reduceLT, Nat.reduceLeDiff, reduceCtorEq, Int.reduceToNat, Int.reduceNeg]) ?_
  simp only [push_cast, reduceIte, Nat.reduceEqDiff, Nat.reduceAdd, Nat.reduceSub, Nat.reduceMul, Nat.reduceBEq, Nat.reduceLT, Nat.reduceLeDiff, reduceCtorEq, Int.reduceToNat, Int.reduceNeg]
  refine cond_dec (fun h1 => ?_) fun h1 => ?_
  · rw [improvedF, if_neg h, if_pos h1]
    simp only [push_cast, reduceIte, Nat.reduceEqDiff, Nat.reduceAdd, Nat.reduceSub, Nat.reduceMul, Nat.reduceBEq, Nat.reduceLT, Nat.reduceLeDiff, reduceCtorEq, Int.reduceToNat, Int.reduceNeg]
    done
  have h1 := Classical.not_not.1 h1
  have hp := checkF_zero h1
  obtain ⟨pn, rfl⟩ : ∃ pn : Nat, passes = pn := ⟨passes.toNat, by omega⟩
  refine clm_of (FnM.only [4, 5, 6, 7, 8] [6, 7, 8] [] [] (clone_ok (Env.of Try.prog) rfl (by show 0 ≤ 700; decide) j at_ fx pn hl)) ?_
  rw [improvedF, if_neg h, if_neg (fun hh => hh h1), Int.toNat_natCast]
  rintro rv _ (⟨e, rfl, rfl⟩ | ⟨rfl, rfl⟩)
  · subst e
    simp only [push_cast, reduceIte, Nat.reduceEqDiff, Nat.reduceAdd, Nat.reduceSub, Nat.reduceMul, Nat.reduceBEq, Nat.reduceLT, Nat.reduceLeDiff, reduceCtorEq, Int.reduceToNat, Int.reduceNeg]
    refine clm_of (FnM.only [16] [] [] [] (improve_nil (Env.of Try.prog) rfl (by show 0 ≤ 300; decide) j hj fx pn (by omega) hp)) ?_
    rintro rv _ ⟨rfl, rfl⟩
    have hz := improveF_nil j fx pn
    rw [hz.1, hz.2]
    simp only [push_cast, reduceIte, Nat.reduceEqDiff, Nat.reduceAdd, Nat.reduceSub, Nat.reduceMul, Nat.reduceBEq, Nat.reduceLT, Nat.reduceLeDiff, reduceCtorEq, Int.reduceToNat, Int.reduceNeg]
    done
  · simp only [push_cast, reduceIte, Nat.reduceEqDiff, Nat.reduceAdd, Nat.reduceSub, Nat.reduceMul, Nat.reduceBEq, Nat.reduceLT, Nat.reduceLeDiff, reduceCtorEq, Int.reduceToNat, Int.reduceNeg]
    refine clm_of (FnM.only [16] [] [705] [] (improve_ok (Env.of Try.prog) rfl (by show 0 ≤ 300; decide) j hj fx at_ hfx at_.length pn rfl (by omega) hp)) ?_
    rintro rv _ ⟨rfl, rfl⟩
    simp only [push_cast, reduceIte, Nat.reduceEqDiff, Nat.reduceAdd, Nat.reduceSub, Nat.reduceMul, Nat.reduceBEq, Nat.reduceLT, Nat.reduceLeDiff, reduceCtorEq, Int.reduceToNat, Int.reduceNeg]
    rw [List.take_of_length_le (by rw [(improveF_ok hp pn).len]; omega)]
    exact ⟨fun _ _ => trivial, .refl _⟩
structure Start where
  at_ : List Int
  fixed : List Int
  passes : Int
def startC (q : Bool) (z : Start) : List PV := [.sl q 1 (ints z.at_), .sl q 1 (ints z.fixed), .int z.passes]
@[push_cast] theorem startC_eq (q : Bool) (z : Start) : startC q z = [.sl q 1 (ints z.at_), .sl q 1 (ints z.fixed), .int z.passes] := rfl
def placedC (q : Bool) (r : List Int × Int × Int) : List PV := [.sl q 1 (ints r.1), .int r.2.1, .int r.2.2]
@[push_cast] theorem placedC_eq (q : Bool) (r : List Int × Int × Int) : placedC q r = [.sl q 1 (ints r.1), .int r.2.1, .int r.2.2] := rfl
theorem limproved_ok (j : Job) (hj : j.Ok) (z : Start) (hl : (z.at_.length : Int) ≤ 1000000) (hfx : (z.fixed.length : Int) ≤ 1000000) :
    FnEq Try.prog 20 [.agg (jobC false j), .agg (startC false z)] (.agg (placedC true (improvedF j z.at_ z.fixed z.passes))) := by
  refine FnEq.of_awp Try.func20 ok20 (by show 2 ≤ _; decide) (by simp only [push_cast, reduceIte, Nat.reduceEqDiff, Nat.reduceAdd, Nat.reduceSub, Nat.reduceMul, Nat.reduceBEq, Nat.reduceLT, Nat.reduceLeDiff, reduceCtorEq, Int.reduceToNat, Int.reduceNeg] <;> first | exact fun _ _ => trivial | simp) ?_
  simp only [ac20, rv20, push_cast, reduceIte, Nat.reduceEqDiff, Nat.reduceAdd, Nat.reduceSub, Nat.reduceMul, Nat.reduceBEq, Nat.reduceLT, Nat.reduceLeDiff, reduceCtorEq, Int.reduceToNat, Int.reduceNeg]
  refine cal_sub (improve_exp j hj z.at_ z.fixed z.passes hl hfx) (by simp only [push_cast, reduceIte, Nat.reduceEqDiff, Nat.reduceAdd, Nat.reduceSub, Nat.reduceMul, Nat.reduceBEq, Nat.reduceLT, Nat.reduceLeDiff, reduceCtorEq, Int.reduceToNat, Int.reduceNeg]) ?_
  simp only [push_cast, reduceIte, Nat.reduceEqDiff, Nat.reduceAdd, Nat.reduceSub, Nat.reduceMul, Nat.reduceBEq, Nat.reduceLT, Nat.reduceLeDiff, reduceCtorEq, Int.reduceToNat, Int.reduceNeg]
  exact fun _ _ => trivial
end Go.Proofs.Ytbdamnfkgdbidaa
namespace Go.Proofs.Ytbdamnfkgdbidaa
open Go Go.Vc Txt
theorem wrap_u64 {x : Int} (h0 : 0 ≤ x) (h1 : x < 18446744073709551616) : IntKind.wrap .u64 x = x := by
  unfold IntKind.wrap
  have h1' : (2 ^ IntKind.u64.bits : Int) = 18446744073709551616 := by decide
  have h3 : IntKind.u64.signed = false := rfl
  simp only [h1', h3, Bool.false_and, Bool.false_eq_true, if_false]
  omega
theorem and32 {y : Int} (h0 : 0 ≤ y) (h1 : y < 4294967296) : bitF .and .u64 y 4294967295 = y := by
  unfold bitF
  have e : (BitVec.ofInt IntKind.u64.bits y &&& BitVec.ofInt IntKind.u64.bits 4294967295).toNat = y.toNat := by
    have h3 : IntKind.u64.bits = 64 := rfl
    rw [h3, BitVec.toNat_and, BitVec.toNat_ofInt, BitVec.toNat_ofInt]
    have e1 : (y % ((2 ^ 64 : Nat) : Int)).toNat = y.toNat := by omega
    have e2 : ((4294967295 : Int) % ((2 ^ 64 : Nat) : Int)).toNat = 2 ^ 32 - 1 := by decide
    rw [e1, e2, Nat.and_two_pow_sub_one_eq_mod]
    omega
  simp only [e]
  rw [wrap_u64] <;> omega
theorem shr32 {y : Int} (h0 : 0 ≤ y) (h1 : y < 4294967296) : shfF .shr .u64 y 32 = 0 := by
  unfold shfF
  have : (2 : Int) ^ (min (32 : Int).toNat IntKind.u64.bits) = 4294967296 := by decide
  simp only [this]
  rw [Int.fdiv_eq_ediv_of_nonneg _ (by omega)]
  omega
theorem mul64_gen (x y z : Int) (hx : x = 1) (hz : z = 0) (h0 : 0 ≤ y) (h1 : y < 4294967296) : FnEq Try.prog 95 [.sc (.int .u64 x), .sc (.int .u64 y)] (.tup [.sc (.int .u64 z), .sc (.int .u64 y)]) := by
  have a1 : bitF .and .u64 x 4294967295 = x := and32 (by omega) (by omega)
  have a2 : bitF .and .u64 y 4294967295 = y := and32 h0 h1
  have a3 : bitF .and .u64 z 4294967295 = z := and32 (by omega) (by omega)
  have s1 : shfF .shr .u64 x 32 = z := by rw [hz]; exact shr32 (by omega) (by omega)
  have s2 : shfF .shr .u64 y 32 = z := by rw [hz]; exact shr32 h0 h1
  have s3 : shfF .shr .u64 z 32 = z := by rw [hz]; exact shr32 (by omega) (by omega)
  have w1 : IntKind.wrap .u64 (x * y) = y := by rw [hx, Int.one_mul, wrap_u64] <;> omega
  have w2 : IntKind.wrap .u64 (z * y) = z := by rw [hz, Int.zero_mul, wrap_u64] <;> omega
  have w3 : IntKind.wrap .u64 (z + z) = z := by rw [wrap_u64] <;> omega
  have w4 : IntKind.wrap .u64 (x * z) = z := by rw [hz, Int.mul_zero, wrap_u64] <;> omega
  have w5 : IntKind.wrap .u64 (z * z) = z := by rw [hz, Int.mul_zero, wrap_u64] <;> omega
  have z0 : (0 : Int) ≤ 32 := by omega
  refine FnEq.of_awp Try.func95 ok95 (by show 2 ≤ _; decide) (by simp only [push_cast, reduceIte, Nat.reduceEqDiff, Nat.reduceAdd, Nat.reduceSub, Nat.reduceMul, Nat.reduceBEq, Nat.reduceLT, Nat.reduceLeDiff, reduceCtorEq, Int.reduceToNat, Int.reduceNeg]) ?_
  clear hx hz h0 h1
  simp only [ac95, rv95, push_cast, reduceIte, Nat.reduceEqDiff, Nat.reduceAdd, Nat.reduceSub, Nat.reduceMul, Nat.reduceBEq, Nat.reduceLT, Nat.reduceLeDiff, reduceCtorEq, Int.reduceToNat, Int.reduceNeg, a1, a2, a3, s1, s2, s3, w1, w2, w3, w4, w5, z0]
  done
def cpyL {α : Type} (xs : List α) (lo : Nat) (ys : List α) : List α := xs.take lo ++ ys ++ xs.drop (lo + ys.length)
theorem cpyF_rows {α : Type} (f : α → List PV) (xs : List α) (lo : Nat) (ys : List α) : cpyF (rows f xs) lo (rows f ys) = rows f (cpyL xs lo ys) := by
  simp [cpyF, cpyL, rows, List.map_take, List.map_drop]
theorem mul_one_ok (y : Int) (h0 : 0 ≤ y) (h1 : y < 4294967296) : FnEq Try.prog 87 [.sc (.int .u64 1), .sc (.int .u64 y)] (.tup [.sc (.int .u64 0), .sc (.int .u64 y)]) := by
  refine FnEq.of_awp Try.func87 ok87 (by show 2 ≤ _; decide) (by simp only [push_cast, reduceIte, Nat.reduceEqDiff, Nat.reduceAdd, Nat.reduceSub, Nat.reduceMul, Nat.reduceBEq, Nat.reduceLT, Nat.reduceLeDiff, reduceCtorEq, Int.reduceToNat, Int.reduceNeg] <;> first | exact fun _ _ => trivial | simp) ?_
  simp only [ac87, rv87, push_cast, reduceIte, Nat.reduceEqDiff, Nat.reduceAdd, Nat.reduceSub, Nat.reduceMul, Nat.reduceBEq, Nat.reduceLT, Nat.reduceLeDiff, reduceCtorEq, Int.reduceToNat, Int.reduceNeg]
  refine cal_sub (mul64_gen 1 y 0 rfl rfl h0 h1) (by simp only [push_cast, reduceIte, Nat.reduceEqDiff, Nat.reduceAdd, Nat.reduceSub, Nat.reduceMul, Nat.reduceBEq, Nat.reduceLT, Nat.reduceLeDiff, reduceCtorEq, Int.reduceToNat, Int.reduceNeg]) ?_
  simp only [push_cast, reduceIte, Nat.reduceEqDiff, Nat.reduceAdd, Nat.reduceSub, Nat.reduceMul, Nat.reduceBEq, Nat.reduceLT, Nat.reduceLeDiff, reduceCtorEq, Int.reduceToNat, Int.reduceNeg]
  done
theorem repeat_ok (E : Env) (hE : E.p = Try.prog) (hkk : E.kk ≤ 675) (fx : List Int) (passes : Int) (j : Job) (n : Nat) (hn : n ≤ 1000000) :
    FnM E 73 [.view 48 0 1, .int n] ⟨[(3, .sl false 1 (ints fx)), (4, .int passes), (5, .ptr 5 0), (6, .ptr 6 0), (12, .ptr 12 0)], [(5, [.sl false 3 (rows wireC j.p.ins), .sl false 5 (rows (blockC false) j.p.blocks), .sl false 3 (rows wireC j.p.out), .sl false 1 (ints j.p.drive)]), (6, gridC false j.g), (12, jobC false j)], [(48, ⟨1, 3, ints [-1]⟩)], []⟩
      (fun rv st' => rv = .view 705 0 n ∧ st' = ⟨[(3, .sl false 1 (ints fx)), (4, .int passes), (5, .ptr 5 0), (6, .ptr 6 0), (12, .ptr 12 0)], [(5, [.sl false 3 (rows wireC j.p.ins), .sl false 5 (rows (blockC false) j.p.blocks), .sl false 3 (rows wireC j.p.out), .sl false 1 (ints j.p.drive)]), (6, gridC false j.g), (12, jobC false j)], [(705, ⟨1, 3, ints (List.replicate n (-1))⟩)], []⟩) := by
  refine fnM_of 675 (by rw [hE]; exact Try.func73) (by rw [hE]; exact ok73_675) (by show 2 ≤ _; decide) rfl hkk ?_
  simp only [ac73_675, rv73_675, push_cast, reduceIte, Nat.reduceEqDiff, Nat.reduceAdd, Nat.reduceSub, Nat.reduceMul, Nat.reduceBEq, Nat.reduceLT, Nat.reduceLeDiff, reduceCtorEq, Int.reduceToNat, Int.reduceNeg]
  refine cond_dec (fun h => absurd h (by omega)) fun _ => ?_
  refine ⟨⟨by decide, by decide⟩, ⟨by show (0 : Int) ≤ _; omega, by show (n : Int) ≤ 18446744073709551615; omega⟩, ?_⟩
  refine cal_sub (by rw [hE]; exact mul_one_ok n (by omega) (by omega)) (by simp only [push_cast, reduceIte, Nat.reduceEqDiff, Nat.reduceAdd, Nat.reduceSub, Nat.reduceMul, Nat.reduceBEq, Nat.reduceLT, Nat.reduceLeDiff, reduceCtorEq, Int.reduceToNat, Int.reduceNeg] <;> rfl) ?_
  simp only [push_cast, reduceIte, Nat.reduceEqDiff, Nat.reduceAdd, Nat.reduceSub, Nat.reduceMul, Nat.reduceBEq, Nat.reduceLT, Nat.reduceLeDiff, reduceCtorEq, Int.reduceToNat, Int.reduceNeg]
  refine cut_of ⟨[(3, .sl false 1 (ints fx)), (4, .int passes), (5, .ptr 5 0), (6, .ptr 6 0), (12, .ptr 12 0), (675, .view 48 0 1), (681, .sc (.int .u64 n)), (701, .bool false)], [(5, [.sl false 3 (rows wireC j.p.ins), .sl false 5 (rows (blockC false) j.p.blocks), .sl false 3 (rows wireC j.p.out), .sl false 1 (ints j.p.drive)]), (6, gridC false j.g), (12, jobC false j)], [(48, ⟨1, 3, ints [-1]⟩)], []⟩ ?_ ?_
  · (repeat' (first | (refine grd_dec rfl (fun _ => ?_) fun _ => ?_ <;> simp only [push_cast, reduceIte, Nat.reduceEqDiff, Nat.reduceAdd, Nat.reduceSub, Nat.reduceMul, Nat.reduceBEq, Nat.reduceLT, Nat.reduceLeDiff, reduceCtorEq, Int.reduceToNat, Int.reduceNeg]) | (refine grd_decf rfl (fun _ => ?_) fun _ => ?_ <;> simp only [push_cast, reduceIte, Nat.reduceEqDiff, Nat.reduceAdd, Nat.reduceSub, Nat.reduceMul, Nat.reduceBEq, Nat.reduceLT, Nat.reduceLeDiff, reduceCtorEq, Int.reduceToNat, Int.reduceNeg])))
    have e : decide ((9223372036854775807 : Int) < n) = false := decide_eq_false (by omega)
    all_goals first | (exfalso; omega) | rw [decide_eq_false (show ¬ ((9223372036854775807 : Int) < n) by omega)]
  simp only [push_cast, reduceIte, Nat.reduceEqDiff, Nat.reduceAdd, Nat.reduceSub, Nat.reduceMul, Nat.reduceBEq, Nat.reduceLT, Nat.reduceLeDiff, reduceCtorEq, Int.reduceToNat, Int.reduceNeg]
  refine ⟨by omega, by omega, ?_⟩
  refine loop_of (fun m st => ∃ k : Nat, k ≤ n ∧ (k = 0 → n = 0) ∧ m = n - k ∧
    st = ⟨[(3, .sl false 1 (ints fx)), (4, .int passes), (5, .ptr 5 0), (6, .ptr 6 0), (12, .ptr 12 0), (682, .view 705 0 n), (683, .int k)], [(5, [.sl false 3 (rows wireC j.p.ins), .sl false 5 (rows (blockC false) j.p.blocks), .sl false 3 (rows wireC j.p.out), .sl false 1 (ints j.p.drive)]), (6, gridC false j.g), (12, jobC false j)], [(705, ⟨1, 3, ints (List.replicate k (-1) ++ List.replicate (n - k) 0)⟩)], []⟩) (n - min 1 n) ?_ ?_
  · refine ⟨min 1 n, by omega, by omega, rfl, ?_⟩
    simp only [cpyF_rows, push_cast, reduceIte, Nat.reduceEqDiff, Nat.reduceAdd, Nat.reduceSub, Nat.reduceMul, Nat.reduceBEq, Nat.reduceLT, Nat.reduceLeDiff, reduceCtorEq, Int.reduceToNat, Int.reduceNeg]
    have e1 : cpyL (List.replicate n (0 : Int)) 0 (List.take (List.replicate n (0 : Int)).length (List.take 1 [-1])) = List.replicate (min 1 n) (-1) ++ List.replicate (n - min 1 n) 0 := by
      cases n with
      | zero => rfl
      | succ n => simp [cpyL, List.replicate_succ, show min 1 (n + 1) = 1 by omega]
    rw [e1, List.length_replicate, show min (List.take 1 [(-1 : Int)]).length n = min 1 n from rfl]
  · rintro m st ⟨k, hk, hk0, rfl, rfl⟩
    simp only [push_cast, reduceIte, Nat.reduceEqDiff, Nat.reduceAdd, Nat.reduceSub, Nat.reduceMul, Nat.reduceBEq, Nat.reduceLT, Nat.reduceLeDiff, reduceCtorEq, Int.reduceToNat, Int.reduceNeg]
    refine cond_dec (fun h => ?_) fun h => ?_
    · simp only [cpyF_rows, push_cast, reduceIte, Nat.reduceEqDiff, Nat.reduceAdd, Nat.reduceSub, Nat.reduceMul, Nat.reduceBEq, Nat.reduceLT, Nat.reduceLeDiff, reduceCtorEq, Int.reduceToNat, Int.reduceNeg]
      have e2 : List.take (k - 0) (List.replicate k (-1 : Int) ++ List.replicate (n - k) 0) = List.replicate k (-1) := by simp
      have e3 : cpyL (List.replicate k (-1 : Int) ++ List.replicate (n - k) 0) k (List.take (n - k) (List.replicate k (-1))) = List.replicate (k + min k (n - k)) (-1) ++ List.replicate (n - (k + min k (n - k))) 0 := by
        unfold cpyL
        rw [List.take_left' (by simp), List.take_replicate, List.length_replicate, List.drop_append, List.drop_eq_nil_of_le (by simp), List.nil_append, List.length_replicate, List.drop_replicate, List.replicate_append_replicate]
        congr 2 <;> omega
      rw [e2, List.length_replicate]
      refine ⟨by omega, by omega, by omega, _, ?_, k + min k (n - k), by omega, by omega, rfl, ?_⟩
      · omega
      · rw [e3]; simp
    · have e : k = n := by omega
      subst e
      simp
      rfl
end Go.Proofs.Ytbdamnfkgdbidaa
namespace Go.Proofs.Ytbdamnfkgdbidaa
open Go Go.Vc Txt
def keepF (j : Job) : List Int → Nat → List Int × List Int → Option (List Int × List Int)
  | [], _, s => some s
  | t :: r, i, s => if t = -1 then keepF j r (i + 1) s else if suitsR j i t = false ∨ t ∈ s.1 then none else keepF j r (i + 1) (s.1.set i t, s.2 ++ [(i : Int)])
def findT (j : Job) (a : List Int) (b : Nat) : Option Nat := (List.range j.g.kind.length).find? fun t => suitsR j b t && !decide ((t : Int) ∈ a)
def fillStep (j : Job) (reads : Bool) (a : List Int) (b : Nat) : Option (List Int) :=
  if 0 ≤ a.getD b default ∨ decide ((j.p.blocks.getD b default).ram ≠ -1) ≠ reads then some a
  else match findT j a b with
    | none => none
    | some t => some (a.set b t)
def fillF (j : Job) (reads : Bool) : Nat → Nat → List Int → Option (List Int)
  | 0, _, a => some a
  | n + 1, b, a => match fillStep j reads a b with
    | none => none
    | some a' => fillF j reads n (b + 1) a'
def fillAll (j : Job) : List Bool → List Int → Option (List Int)
  | [], a => some a
  | r :: rs, a => match fillF j r j.p.blocks.length 0 a with
    | none => none
    | some a' => fillAll j rs a'
structure Part (j : Job) (a : List Int) : Prop where
  len : a.length = j.p.blocks.length
  rng : ∀ x ∈ a, x = -1 ∨ (0 ≤ x ∧ x < j.g.w * j.g.h)
  inj : ∀ i k (hi : i < a.length) (hk : k < a.length), a[i] = a[k] → 0 ≤ a[i] → i = k
theorem suitsR_at {j : Job} {b t : Int} (h : suitsR j b t = true) : 0 ≤ b ∧ b < j.p.blocks.length ∧ 0 ≤ t ∧ t < j.g.w * j.g.h := by
  unfold suitsR at h
  split at h
  · cases h
  · omega
theorem part_set {j : Job} {a : List Int} (h : Part j a) {i : Nat} {t : Int} (hs : suitsR j i t = true) (ht : t ∉ a) : Part j (a.set i t) := by
  have hr := suitsR_at hs
  refine ⟨by simpa using h.len, fun x hx => ?_, fun p q hp hq e e0 => ?_⟩
  · rcases List.mem_or_eq_of_mem_set hx with hx | rfl
    · exact h.rng x hx
    · exact .inr ⟨hr.2.2.1, hr.2.2.2⟩
  · simp only [List.length_set] at hp hq
    simp only [List.getElem_set] at e e0
    split at e <;> split at e
    · omega
    · exact absurd (e ▸ List.getElem_mem hq) ht
    · exact absurd (e ▸ List.getElem_mem hp) ht
    · rename_i h1 h2
      rw [if_neg h1] at e0
      exact h.inj p q hp hq e e0
theorem part_init (j : Job) : Part j (List.replicate j.p.blocks.length (-1)) := by
  refine ⟨by simp, fun x hx => .inl (List.eq_of_mem_replicate hx), fun p q hp hq e e0 => ?_⟩
  simp only [List.getElem_replicate] at e0
  omega
theorem findT_spec {j : Job} {a : List Int} {b t : Nat} (h : findT j a b = some t) : suitsR j b t = true ∧ (t : Int) ∉ a ∧ t < j.g.kind.length := by
  have h1 := List.find?_some h
  have h2 := List.mem_of_find?_eq_some h
  simp only [Bool.and_eq_true, Bool.not_eq_true', decide_eq_false_iff_not] at h1
  exact ⟨h1.1, h1.2, List.mem_range.1 h2⟩
theorem fillStep_part {j : Job} {reads : Bool} {a a' : List Int} {b : Nat} (h : fillStep j reads a b = some a') (hp : Part j a) (hb : b < a.length) :
    Part j a' ∧ (∀ i, 0 ≤ a.getD i default → 0 ≤ a'.getD i default ∧ a'.getD i default = a.getD i default) ∧ (decide ((j.p.blocks.getD b default).ram ≠ -1) = reads → 0 ≤ a'.getD b default) := by
  unfold fillStep at h
  split at h
  · rename_i h1
    cases h
    exact ⟨hp, fun i hi => ⟨hi, rfl⟩, fun e => by rcases h1 with h1 | h1; exact h1; exact absurd e h1⟩
  · rename_i h1
    split at h
    · cases h
    · rename_i t ht
      cases h
      obtain ⟨h2, h3, h4⟩ := findT_spec ht
      refine ⟨part_set hp h2 h3, fun i hi => ?_, fun _ => ?_⟩
      · by_cases e : b = i
        · subst e; exact absurd hi fun hh => h1 (.inl hh)
        · have : (a.set b t).getD i default = a.getD i default := by simp [List.getD_eq_getElem?_getD, List.getElem?_set_ne e]
          rw [this]; exact ⟨hi, rfl⟩
      · have : (a.set b t).getD b default = t := by simp [List.getD_eq_getElem?_getD, hb]
        rw [this]; omega
theorem fillF_part {j : Job} {reads : Bool} : ∀ (n b : Nat) (a a' : List Int), fillF j reads n b a = some a' → Part j a → b + n ≤ a.length →
    Part j a' ∧ (∀ i, 0 ≤ a.getD i default → 0 ≤ a'.getD i default ∧ a'.getD i default = a.getD i default) ∧ ∀ i, b ≤ i → i < b + n → decide ((j.p.blocks.getD i default).ram ≠ -1) = reads → 0 ≤ a'.getD i default
  | 0, b, a, a', h, hp, _ => by cases h; exact ⟨hp, fun i hi => ⟨hi, rfl⟩, fun i h1 h2 => by omega⟩
  | n + 1, b, a, a', h, hp, hl => by
    simp only [fillF] at h
    split at h
    · cases h
    · rename_i a1 h1
      obtain ⟨p1, p2, p3⟩ := fillStep_part h1 hp (by omega)
      have hl1 : a1.length = a.length := by rw [p1.len, hp.len]
      obtain ⟨q1, q2, q3⟩ := fillF_part n (b + 1) a1 a' h p1 (by omega)
      refine ⟨q1, fun i hi => ?_, fun i h2 h3 h4 => ?_⟩
      · have e1 := p2 i hi
        have e2 := q2 i e1.1
        exact ⟨e2.1, e2.2.trans e1.2⟩
      · by_cases e : i = b
        · subst e; exact (q2 i (p3 h4)).1
        · exact q3 i (by omega) (by omega) h4
theorem isPl_of_part {j : Job} {a : List Int} (h : Part j a) (h0 : ∀ i, i < a.length → 0 ≤ a.getD i default) : IsPl j a := by
  have h1 : ∀ i (hi : i < a.length), 0 ≤ a[i] := fun i hi => by have := h0 i hi; simpa [List.getD_eq_getElem?_getD, hi] using this
  refine ⟨h.len, fun x hx => ?_, ?_⟩
  · obtain ⟨i, hi, rfl⟩ := List.mem_iff_getElem.1 hx
    have h2 := h1 i hi
    rcases h.rng _ hx with h3 | h3
    · omega
    · exact h3
  · refine List.pairwise_iff_getElem.2 fun i k hi hk hik e => ?_
    have := h.inj i k hi hk e (h1 i hi)
    omega
theorem fillAll_pl {j : Job} {a a' : List Int} (h : fillAll j [true, false] a = some a') (hp : Part j a) : IsPl j a' ∧ ∀ i, 0 ≤ a.getD i default → a'.getD i default = a.getD i default := by
  simp only [fillAll] at h
  split at h
  · cases h
  rename_i a1 h1
  split at h
  · cases h
  rename_i a2 h2
  cases h
  obtain ⟨p1, p2, p3⟩ := fillF_part _ _ _ _ h1 hp (by rw [hp.len]; omega)
  obtain ⟨q1, q2, q3⟩ := fillF_part _ _ _ _ h2 p1 (by rw [p1.len]; omega)
  refine ⟨isPl_of_part q1 fun i hi => ?_, fun i hi => ?_⟩
  · rw [q1.len] at hi
    cases hr : decide ((j.p.blocks.getD i default).ram ≠ -1)
    · exact q3 i (by omega) (by omega) hr
    · exact (q2 i (p3 i (by omega) (by omega) hr)).1
  · rw [(q2 i (p2 i hi).1).2, (p2 i hi).2]
end Go.Proofs.Ytbdamnfkgdbidaa
namespace Go.Proofs.Ytbdamnfkgdbidaa.Pl
open Go Go.Vc Txt
def stI (j : Job) (fx : List Int) (n k t : Nat) (total now bef np pi : Int) (xs : List (Nat × PV)) (xb : List (Nat × List PV)) (at_ : List Int) : St :=
  ⟨[(13, .view 705 0 n), (301, .view 705 0 n), (302, .sl false 1 (ints fx)), (304, .ptr 304 0), (309, .int total), (310, .int now), (311, .int bef), (312, .int k), (320, .int np), (321, .int pi), (325, .int n), (326, .int k), (332, .int j.g.kind.length), (333, .int t)] ++ xs, (304, jobC false j) :: xb, [(705, ⟨1, 3, ints at_⟩)], []⟩
theorem stI_eq (j : Job) (fx : List Int) (n k t : Nat) (total now bef np pi : Int) (xs : List (Nat × PV)) (xb : List (Nat × List PV)) (at_ : List Int) : stI j fx n k t total now bef np pi xs xb at_ =
  ⟨[(13, .view 705 0 n), (301, .view 705 0 n), (302, .sl false 1 (ints fx)), (304, .ptr 304 0), (309, .int total), (310, .int now), (311, .int bef), (312, .int k), (320, .int np), (321, .int pi), (325, .int n), (326, .int k), (332, .int j.g.kind.length), (333, .int t)] ++ xs, (304, jobC false j) :: xb, [(705, ⟨1, 3, ints at_⟩)], []⟩ := rfl
def cbI (n k t : Nat) (fr o : Int) : List (Nat × List PV) := [(406, [.view 705 0 n]), (408, [.int k]), (409, [.int t]), (412, [.int fr]), (413, [.int o]), (414, [.clo 92 [406, 408, 413]])]
theorem cbI_eq (n k t : Nat) (fr o : Int) : cbI n k t fr o = [(406, [.view 705 0 n]), (408, [.int k]), (409, [.int t]), (412, [.int fr]), (413, [.int o]), (414, [.clo 92 [406, 408, 413]])] := rfl
theorem setA_ok (E : Env) (hE : E.p = Try.prog) (hkk : E.kk ≤ 500) (j : Job) (fx : List Int) (n k t : Nat) (total now bef np pi : Int) (fr o x y : Int) (at_ : List Int) (hn : at_.length = n) (hk : k < n) (ho : o < n) :
    FnM E 92 [.int x, .int y, .ptr 406 0, .ptr 408 0, .ptr 413 0] (stI j fx n k t total now bef np pi [(409, .ptr 409 0), (412, .ptr 412 0), (414, .ptr 414 0)] (cbI n k t fr o) at_)
      (fun rv st' => rv = .tup [] ∧ st' = stI j fx n k t total now bef np pi [(409, .ptr 409 0), (412, .ptr 412 0), (414, .ptr 414 0)] (cbI n k t fr o) (if 0 ≤ o then (at_.set k x).set o.toNat y else at_.set k x)) := by
  simp only [stI_eq, cbI_eq, push_cast, reduceIte, Nat.reduceEqDiff, Nat.reduceAdd, Nat.reduceSub, Nat.reduceMul, Nat.reduceBEq, Nat.reduceLT, Nat.reduceLeDiff, reduceCtorEq, Int.reduceToNat, Int.reduceNeg]
  refine fnM_of 500 (by rw [hE]; exact Try.func92) (by rw [hE]; exact ok92_500) (by show 5 ≤ _; decide) rfl hkk ?_
  simp only [ac92_500, rv92_500, push_cast, reduceIte, Nat.reduceEqDiff, Nat.reduceAdd, Nat.reduceSub, Nat.reduceMul, Nat.reduceBEq, Nat.reduceLT, Nat.reduceLeDiff, reduceCtorEq, Int.reduceToNat, Int.reduceNeg]
  refine ⟨⟨by omega, by omega⟩, by omega, cond_dec (fun h => ?_) fun h => ?_⟩
  · refine ⟨⟨h, ho⟩, by rw [List.length_set]; omega, ?_⟩
    rw [if_pos h]
  · rw [if_neg h]
theorem setB_ok (E : Env) (hE : E.p = Try.prog) (hkk : E.kk ≤ 500) (j : Job) (fx : List Int) (n k t : Nat) (total now bef np pi : Int) (fr o x y : Int) (at_ : List Int) (hn : at_.length = n) (hk : k < n) (ho : o < n) :
    FnM E 92 [.int x, .int y, .ptr 406 0, .ptr 408 0, .ptr 413 0] (stI j fx n k t total now bef np pi [] (cbI n k t fr o) at_)
      (fun rv st' => rv = .tup [] ∧ st' = stI j fx n k t total now bef np pi [] (cbI n k t fr o) (if 0 ≤ o then (at_.set k x).set o.toNat y else at_.set k x)) := by
  simp only [stI_eq, cbI_eq, push_cast, reduceIte, Nat.reduceEqDiff, Nat.reduceAdd, Nat.reduceSub, Nat.reduceMul, Nat.reduceBEq, Nat.reduceLT, Nat.reduceLeDiff, reduceCtorEq, Int.reduceToNat, Int.reduceNeg]
  refine fnM_of 500 (by rw [hE]; exact Try.func92) (by rw [hE]; exact ok92_500) (by show 5 ≤ _; decide) rfl hkk ?_
  simp only [ac92_500, rv92_500, push_cast, reduceIte, Nat.reduceEqDiff, Nat.reduceAdd, Nat.reduceSub, Nat.reduceMul, Nat.reduceBEq, Nat.reduceLT, Nat.reduceLeDiff, reduceCtorEq, Int.reduceToNat, Int.reduceNeg]
  refine ⟨⟨by omega, by omega⟩, by omega, cond_dec (fun h => ?_) fun h => ?_⟩
  · refine ⟨⟨h, ho⟩, by rw [List.length_set]; omega, ?_⟩
    rw [if_pos h]
  · rw [if_neg h]
theorem undo_ok (E : Env) (hE : E.p = Try.prog) (hkk : E.kk ≤ 500) (j : Job) (fx : List Int) (n k t : Nat) (total now bef np pi : Int) (fr o : Int) (at_ : List Int) (hn : at_.length = n) (hk : k < n) (ho : o < n) :
    FnM E 93 [.ptr 414 0, .ptr 412 0, .ptr 409 0] (stI j fx n k t total now bef np pi [] (cbI n k t fr o) at_)
      (fun rv st' => rv = .tup [] ∧ st' = stI j fx n k t total now bef np pi [] (cbI n k t fr o) (if 0 ≤ o then (at_.set k fr).set o.toNat t else at_.set k fr)) := by
  simp only [stI_eq, cbI_eq, push_cast, reduceIte, Nat.reduceEqDiff, Nat.reduceAdd, Nat.reduceSub, Nat.reduceMul, Nat.reduceBEq, Nat.reduceLT, Nat.reduceLeDiff, reduceCtorEq, Int.reduceToNat, Int.reduceNeg]
  refine fnM_of 600 (by rw [hE]; exact Try.func93) (by rw [hE]; exact ok93_600) (by show 3 ≤ _; decide) rfl (by omega) ?_
  simp only [ac93_600, rv93_600, push_cast, reduceIte, Nat.reduceEqDiff, Nat.reduceAdd, Nat.reduceSub, Nat.reduceMul, Nat.reduceBEq, Nat.reduceLT, Nat.reduceLeDiff, reduceCtorEq, Int.reduceToNat, Int.reduceNeg]
  refine clm_of (FnM.only [13, 301, 302, 304, 309, 310, 311, 312, 320, 321, 325, 326, 332, 333] [304, 406, 408, 409, 412, 413, 414] [705] [] (setB_ok E hE hkk j fx n k t total now bef np pi fr o fr t at_ hn hk ho)) ?_
  rintro rv _ ⟨rfl, rfl⟩
  simp only [stI_eq, cbI_eq, push_cast, reduceIte, Nat.reduceEqDiff, Nat.reduceAdd, Nat.reduceSub, Nat.reduceMul, Nat.reduceBEq, Nat.reduceLT, Nat.reduceLeDiff, reduceCtorEq, Int.reduceToNat, Int.reduceNeg]
  done
theorem fidx_lt (p : Int → Bool) (l : List Int) : fidx p l < l.length ∨ l = [] := by
  unfold fidx
  cases h : l.findIdx? p with
  | none => cases l <;> simp; omega
  | some k =>
    have := (List.findIdx?_eq_some_iff_getElem.1 h).1
    left; simp only; omega
def exQ (j : Job) (fx : List Int) (n k t : Nat) (total now bef np pi : Int) (at_ : List Int) (rv : PV) (st' : St) : Prop :=
  match exchF j fx at_ k t with
  | none => rv = .tup [.sc .nilFunc, .bool false] ∧ st' = stI j fx n k t total now bef np pi [] [] at_
  | some a => rv = .tup [.clo 93 [414, 412, 409], .bool true] ∧ st' = stI j fx n k t total now bef np pi [] (cbI n k t (at_.getD k default) (fidx (fun x => decide (x = (t : Int))) at_)) a
theorem exch_ok (E : Env) (hE : E.p = Try.prog) (hkk : E.kk ≤ 400) (j : Job) (fx : List Int) (n k t : Nat) (total now bef np pi : Int) (at_ : List Int) (hj : j.Ok) (hfx : (fx.length : Int) ≤ 1000000) (hn : at_.length = n) (hn2 : n ≤ 1000000) (hk : k < n) :
    FnM E 86 [.agg (jobC false j), .view 705 0 n, .sl false 1 (ints fx), .int k, .int t] (stI j fx n k t total now bef np pi [] [] at_) (exQ j fx n k t total now bef np pi at_) := by
  have key : FnM E 86 [.agg (jobC false j), .view 705 0 n, .sl false 1 (ints fx), .int k, .int t] (stI j fx n k t total now bef np pi [] [] at_) (fun rv st1 => match exchF j fx at_ k t with
      | none => rv = .tup [.sc .nilFunc, .bool false] ∧ st1.onlyB [304] = stI j fx n k t total now bef np pi [] [] at_
      | some a => rv = .tup [.clo 93 [414, 412, 409], .bool true] ∧ st1.onlyB [304, 406, 408, 409, 412, 413, 414] = stI j fx n k t total now bef np pi [] (cbI n k t (at_.getD k default) (fidx (fun x => decide (x = (t : Int))) at_)) a) := by
    unfold exchF
    simp only [stI_eq, push_cast, reduceIte, Nat.reduceEqDiff, Nat.reduceAdd, Nat.reduceSub, Nat.reduceMul, Nat.reduceBEq, Nat.reduceLT, Nat.reduceLeDiff, reduceCtorEq, Int.reduceToNat, Int.reduceNeg]
    refine fnM_of 400 (by rw [hE]; exact Try.func86) (by rw [hE]; exact ok86_400) (by show 5 ≤ _; decide) rfl hkk ?_
    simp only [ac86_400, rv86_400, push_cast, reduceIte, Nat.reduceEqDiff, Nat.reduceAdd, Nat.reduceSub, Nat.reduceMul, Nat.reduceBEq, Nat.reduceLT, Nat.reduceLeDiff, reduceCtorEq, Int.reduceToNat, Int.reduceNeg]
    refine ⟨⟨by omega, by omega⟩, by omega, ?_⟩
    have ho := fidx_lt (fun x => decide (x = (t : Int))) at_
    generalize hfr : at_.getD k default = fr
    generalize hoo : fidx (fun x => decide (x = (t : Int))) at_ = o at ho
    refine cut_of (stI j fx n k t total now bef np pi [(402, .sl false 1 (ints fx)), (405, .ptr 405 0), (406, .ptr 406 0), (408, .ptr 408 0), (409, .ptr 409 0), (412, .ptr 412 0), (433, .bool (decide (fr = t ∨ (k : Int) ∈ fx ∨ suitsR j k t = false)))] [(405, jobC false j), (406, [.view 705 0 n]), (408, [.int k]), (409, [.int t]), (412, [.int fr])] at_) ?_ ?_
    · have hcon := contains_ok fx k (by omega)
      have hsu := psuits_ok j hj k t
      simp only [stI_eq]
      refine grd_decf rfl (fun h1 => ?_) fun h1 => ?_ <;> simp only [push_cast, reduceIte, Nat.reduceEqDiff, Nat.reduceAdd, Nat.reduceSub, Nat.reduceMul, Nat.reduceBEq, Nat.reduceLT, Nat.reduceLeDiff, reduceCtorEq, Int.reduceToNat, Int.reduceNeg]
      · simp [h1]
      refine cal_sub (by rw [hE]; exact hcon) (by simp only [push_cast, reduceIte, Nat.reduceEqDiff, Nat.reduceAdd, Nat.reduceSub, Nat.reduceMul, Nat.reduceBEq, Nat.reduceLT, Nat.reduceLeDiff, reduceCtorEq, Int.reduceToNat, Int.reduceNeg]) ?_
      simp only [push_cast, reduceIte, Nat.reduceEqDiff, Nat.reduceAdd, Nat.reduceSub, Nat.reduceMul, Nat.reduceBEq, Nat.reduceLT, Nat.reduceLeDiff, reduceCtorEq, Int.reduceToNat, Int.reduceNeg]
      refine grd_decf rfl (fun h2 => ?_) fun h2 => ?_ <;> simp only [push_cast, reduceIte, Nat.reduceEqDiff, Nat.reduceAdd, Nat.reduceSub, Nat.reduceMul, Nat.reduceBEq, Nat.reduceLT, Nat.reduceLeDiff, reduceCtorEq, Int.reduceToNat, Int.reduceNeg]
      · simp [h2]
      refine cal_sub (by rw [hE]; exact hsu) (by simp only [push_cast, reduceIte, Nat.reduceEqDiff, Nat.reduceAdd, Nat.reduceSub, Nat.reduceMul, Nat.reduceBEq, Nat.reduceLT, Nat.reduceLeDiff, reduceCtorEq, Int.reduceToNat, Int.reduceNeg]) ?_
      simp only [push_cast, reduceIte, Nat.reduceEqDiff, Nat.reduceAdd, Nat.reduceSub, Nat.reduceMul, Nat.reduceBEq, Nat.reduceLT, Nat.reduceLeDiff, reduceCtorEq, Int.reduceToNat, Int.reduceNeg]
      simp [h1, h2]
      done
    simp only [stI_eq, push_cast, reduceIte, Nat.reduceEqDiff, Nat.reduceAdd, Nat.reduceSub, Nat.reduceMul, Nat.reduceBEq, Nat.reduceLT, Nat.reduceLeDiff, reduceCtorEq, Int.reduceToNat, Int.reduceNeg]
    refine cond_dec (fun h1 => ?_) fun h1 => ?_
    · rw [if_pos h1]
      trivial
    · rw [if_neg h1, List.take_of_length_le (by omega)]
      refine cal_sub (by rw [hE]; exact index_ok at_ t (by omega)) (by simp only [push_cast, reduceIte, Nat.reduceEqDiff, Nat.reduceAdd, Nat.reduceSub, Nat.reduceMul, Nat.reduceBEq, Nat.reduceLT, Nat.reduceLeDiff, reduceCtorEq, Int.reduceToNat, Int.reduceNeg]) ?_
      simp only [push_cast, reduceIte, Nat.reduceEqDiff, Nat.reduceAdd, Nat.reduceSub, Nat.reduceMul, Nat.reduceBEq, Nat.reduceLT, Nat.reduceLeDiff, reduceCtorEq, Int.reduceToNat, Int.reduceNeg]
      rw [hoo]
      refine cut_of (stI j fx n k t total now bef np pi [(406, .ptr 406 0), (408, .ptr 408 0), (409, .ptr 409 0), (412, .ptr 412 0), (413, .ptr 413 0), (450, .bool (decide (0 ≤ o ∧ (o ∈ fx ∨ suitsR j o fr = false))))] [(405, jobC false j), (406, [.view 705 0 n]), (408, [.int k]), (409, [.int t]), (412, [.int fr]), (413, [.int o])] at_) ?_ ?_
      · have hcon := contains_ok fx o (by omega)
        have hsu := psuits_ok j hj o fr
        simp only [stI_eq, push_cast, reduceIte, Nat.reduceEqDiff, Nat.reduceAdd, Nat.reduceSub, Nat.reduceMul, Nat.reduceBEq, Nat.reduceLT, Nat.reduceLeDiff, reduceCtorEq, Int.reduceToNat, Int.reduceNeg]
        refine grd_dec rfl (fun h2 => ?_) fun h2 => ?_ <;> simp only [push_cast, reduceIte, Nat.reduceEqDiff, Nat.reduceAdd, Nat.reduceSub, Nat.reduceMul, Nat.reduceBEq, Nat.reduceLT, Nat.reduceLeDiff, reduceCtorEq, Int.reduceToNat, Int.reduceNeg]
        · refine cal_sub (by rw [hE]; exact hcon) (by simp only [push_cast, reduceIte, Nat.reduceEqDiff, Nat.reduceAdd, Nat.reduceSub, Nat.reduceMul, Nat.reduceBEq, Nat.reduceLT, Nat.reduceLeDiff, reduceCtorEq, Int.reduceToNat, Int.reduceNeg]) ?_
          simp only [push_cast, reduceIte, Nat.reduceEqDiff, Nat.reduceAdd, Nat.reduceSub, Nat.reduceMul, Nat.reduceBEq, Nat.reduceLT, Nat.reduceLeDiff, reduceCtorEq, Int.reduceToNat, Int.reduceNeg]
          refine grd_decf rfl (fun h3 => ?_) fun h3 => ?_ <;> simp only [push_cast, reduceIte, Nat.reduceEqDiff, Nat.reduceAdd, Nat.reduceSub, Nat.reduceMul, Nat.reduceBEq, Nat.reduceLT, Nat.reduceLeDiff, reduceCtorEq, Int.reduceToNat, Int.reduceNeg]
          · simp [h2, h3]
          refine cal_sub (by rw [hE]; exact hsu) (by simp only [push_cast, reduceIte, Nat.reduceEqDiff, Nat.reduceAdd, Nat.reduceSub, Nat.reduceMul, Nat.reduceBEq, Nat.reduceLT, Nat.reduceLeDiff, reduceCtorEq, Int.reduceToNat, Int.reduceNeg]) ?_
          simp only [push_cast, reduceIte, Nat.reduceEqDiff, Nat.reduceAdd, Nat.reduceSub, Nat.reduceMul, Nat.reduceBEq, Nat.reduceLT, Nat.reduceLeDiff, reduceCtorEq, Int.reduceToNat, Int.reduceNeg]
          simp [h2, h3]
        · simp [h2]
      simp only [stI_eq, push_cast, reduceIte, Nat.reduceEqDiff, Nat.reduceAdd, Nat.reduceSub, Nat.reduceMul, Nat.reduceBEq, Nat.reduceLT, Nat.reduceLeDiff, reduceCtorEq, Int.reduceToNat, Int.reduceNeg]
      refine cond_dec (fun h2 => ?_) fun h2 => ?_
      · rw [if_pos h2]
        trivial
      · rw [if_neg h2]
        refine clm_of (FnM.only [13, 301, 302, 304, 309, 310, 311, 312, 320, 321, 325, 326, 332, 333, 409, 412, 414] [304, 406, 408, 409, 412, 413, 414] [705] [] (setA_ok E hE (by omega) j fx n k t total now bef np pi fr o t fr at_ hn hk ?_)) ?_
        · rcases ho with ho | ho
          · omega
          · subst ho; simp at hn; omega
        rintro rv _ ⟨rfl, rfl⟩
        simp only [stI_eq, cbI_eq, push_cast, reduceIte, Nat.reduceEqDiff, Nat.reduceAdd, Nat.reduceSub, Nat.reduceMul, Nat.reduceBEq, Nat.reduceLT, Nat.reduceLeDiff, reduceCtorEq, Int.reduceToNat, Int.reduceNeg]
        rfl
  refine FnM.mono (FnM.postB (fun rv => match rv with | .tup (.sc _ :: _) => [304] | _ => [304, 406, 408, 409, 412, 413, 414]) key) ?_
  rintro rv _ ⟨st1, h1, rfl⟩
  unfold exQ
  revert h1
  cases exchF j fx at_ k t with
  | none => rintro ⟨rfl, h2⟩; exact ⟨rfl, h2⟩
  | some a => rintro ⟨rfl, h2⟩; exact ⟨rfl, h2⟩
end Go.Proofs.Ytbdamnfkgdbidaa.Pl
namespace Go.Proofs.Ytbdamnfkgdbidaa.Pl
open Go Go.Vc Txt
theorem improve_ok (E : Env) (hE : E.p = Try.prog) (hkk : E.kk ≤ 300) (j : Job) (hj : j.Ok) (fx at0 : List Int) (hfx : (fx.length : Int) ≤ 1000000) (n passes : Nat) (hn : at0.length = n) (hps : passes ≤ 1000) (hp : IsPl j at0) :
    FnM E 72 [.agg (jobC false j), .view 705 0 n, .sl false 1 (ints fx), .int passes] ⟨[(13, .view 705 0 n)], [], [(705, ⟨1, 3, ints at0⟩)], []⟩
      (fun rv st' => rv = .int (improveF j fx at0 passes).2.2 ∧ st' = ⟨[(13, .view 705 0 n)], [], [(705, ⟨1, 3, ints (improveF j fx at0 passes).1⟩)], []⟩) := by
  have key : FnM E 72 [.agg (jobC false j), .view 705 0 n, .sl false 1 (ints fx), .int passes] ⟨[(13, .view 705 0 n)], [], [(705, ⟨1, 3, ints at0⟩)], []⟩
      (fun rv st' => rv = .int (improveF j fx at0 passes).2.2 ∧ st'.onlyB [] = ⟨[(13, .view 705 0 n)], [], [(705, ⟨1, 3, ints (improveF j fx at0 passes).1⟩)], []⟩) := by
    refine fnM_of 300 (by rw [hE]; exact Try.func72) (by rw [hE]; exact ok72_300) (by show 4 ≤ _; decide) rfl hkk ?_
    simp only [ac72_300, rv72_300, push_cast, reduceIte, Nat.reduceEqDiff, Nat.reduceAdd, Nat.reduceSub, Nat.reduceMul, Nat.reduceBEq, Nat.reduceLT, Nat.reduceLeDiff, reduceCtorEq, Int.reduceToNat, Int.reduceNeg]
    rw [List.take_of_length_le (by omega)]
    refine cal_sub (by rw [hE]; exact cost_ok j hj at0 hp) (by simp only [push_cast, reduceIte, Nat.reduceEqDiff, Nat.reduceAdd, Nat.reduceSub, Nat.reduceMul, Nat.reduceBEq, Nat.reduceLT, Nat.reduceLeDiff, reduceCtorEq, Int.reduceToNat, Int.reduceNeg]) ?_
    simp only [push_cast, reduceIte, Nat.reduceEqDiff, Nat.reduceAdd, Nat.reduceSub, Nat.reduceMul, Nat.reduceBEq, Nat.reduceLT, Nat.reduceLeDiff, reduceCtorEq, Int.reduceToNat, Int.reduceNeg]
    subst hn
    have hb0 := costF_bd hj hp
    have hnb := hj.nb
    have hpl := hp.1
    have hkl := hj.kind
    have hwh := hj.wh
    refine loop_of (fun m st => ∃ (p : Nat) (s : Im), p ≤ passes ∧ m = passes - p ∧ ImOk j at0 s ∧ passesF j fx at0.length (passes - p) s = improveF j fx at0 passes ∧
      st = ⟨[(13, .view 705 0 at0.length), (301, .view 705 0 at0.length), (302, .sl false 1 (ints fx)), (304, .ptr 304 0), (309, .int s.2.2), (310, .int s.2.1), (320, .int passes), (321, .int p)], [(304, jobC false j)], [(705, ⟨1, 3, ints s.1⟩)], []⟩) passes ?_ ?_
    · refine ⟨0, (at0, costF j at0, 0), by omega, by omega, ⟨hp, rfl, rfl, by show (0 : Int) ≤ 0; omega, by show 0 + costF j at0 ≤ _; omega⟩, rfl, ?_⟩
      simp only [push_cast, reduceIte, Nat.reduceEqDiff, Nat.reduceAdd, Nat.reduceSub, Nat.reduceMul, Nat.reduceBEq, Nat.reduceLT, Nat.reduceLeDiff, reduceCtorEq, Int.reduceToNat, Int.reduceNeg]
    · rintro m st ⟨p, s, hp1, rfl, hs, hF, rfl⟩
      simp only [push_cast, reduceIte, Nat.reduceEqDiff, Nat.reduceAdd, Nat.reduceSub, Nat.reduceMul, Nat.reduceBEq, Nat.reduceLT, Nat.reduceLeDiff, reduceCtorEq, Int.reduceToNat, Int.reduceNeg]
      refine cond_dec (fun h1 => ?_) fun h1 => ?_
      · refine loop_of (fun m st => ∃ (k : Nat), k ≤ at0.length ∧ m = at0.length - k ∧ ImOk j at0 ((List.range k).foldl (blockStep j fx) s) ∧
          st = ⟨[(13, .view 705 0 at0.length), (301, .view 705 0 at0.length), (302, .sl false 1 (ints fx)), (304, .ptr 304 0), (309, .int ((List.range k).foldl (blockStep j fx) s).2.2), (310, .int ((List.range k).foldl (blockStep j fx) s).2.1), (311, .int s.2.2), (320, .int passes), (321, .int p), (325, .int at0.length), (326, .int k)], [(304, jobC false j)], [(705, ⟨1, 3, ints ((List.range k).foldl (blockStep j fx) s).1⟩)], []⟩) at0.length ?_ ?_
        · refine ⟨0, by omega, by omega, hs, ?_⟩
          simp only [push_cast, reduceIte, Nat.reduceEqDiff, Nat.reduceAdd, Nat.reduceSub, Nat.reduceMul, Nat.reduceBEq, Nat.reduceLT, Nat.reduceLeDiff, reduceCtorEq, Int.reduceToNat, Int.reduceNeg]
          rfl
        · rintro m st ⟨k, hk, rfl, hs1, rfl⟩
          have hsucc := foldl_range_succ (blockStep j fx) s k
          generalize hse : (List.range k).foldl (blockStep j fx) s = s1 at hs1 hsucc ⊢
          simp only [push_cast, reduceIte, Nat.reduceEqDiff, Nat.reduceAdd, Nat.reduceSub, Nat.reduceMul, Nat.reduceBEq, Nat.reduceLT, Nat.reduceLeDiff, reduceCtorEq, Int.reduceToNat, Int.reduceNeg]
          refine cond_dec (fun h2 => ?_) fun h2 => ?_
          · have hk' : k < at0.length := by omega
            refine loop_of (fun m st => ∃ (t : Nat), t ≤ j.g.kind.length ∧ m = j.g.kind.length - t ∧ ImOk j at0 ((List.range t).foldl (tileStep j fx k) s1) ∧
              st = stI j fx at0.length k t ((List.range t).foldl (tileStep j fx k) s1).2.2 ((List.range t).foldl (tileStep j fx k) s1).2.1 s.2.2 passes p [] [] ((List.range t).foldl (tileStep j fx k) s1).1) j.g.kind.length ?_ ?_
            · refine ⟨0, by omega, by omega, hs1, ?_⟩
              simp only [stI_eq, push_cast, reduceIte, Nat.reduceEqDiff, Nat.reduceAdd, Nat.reduceSub, Nat.reduceMul, Nat.reduceBEq, Nat.reduceLT, Nat.reduceLeDiff, reduceCtorEq, Int.reduceToNat, Int.reduceNeg]
              rfl
            · rintro m st ⟨t, ht, rfl, hs2, rfl⟩
              have hsucc2 := foldl_range_succ (tileStep j fx k) s1 t
              generalize hse2 : (List.range t).foldl (tileStep j fx k) s1 = s2 at hs2 hsucc2 ⊢
              simp only [stI_eq, push_cast, reduceIte, Nat.reduceEqDiff, Nat.reduceAdd, Nat.reduceSub, Nat.reduceMul, Nat.reduceBEq, Nat.reduceLT, Nat.reduceLeDiff, reduceCtorEq, Int.reduceToNat, Int.reduceNeg]
              refine cond_dec (fun h3 => ?_) fun h3 => ?_
              · have ht' : t < j.g.kind.length := by omega
                refine clm_of (FnM.only [13, 301, 302, 304, 309, 310, 311, 312, 320, 321, 325, 326, 332, 333] [304] [705] [] (exch_ok E hE (by omega) j fx at0.length k t s2.2.2 s2.2.1 s.2.2 passes p s2.1 hj hfx hs2.len (by omega) hk')) ?_
                intro rv st' hex
                unfold exQ at hex
                have hl2 := hs2.len
                cases he : exchF j fx s2.1 k t with
                | none =>
                  rw [he] at hex
                  obtain ⟨rfl, rfl⟩ := hex
                  simp only [stI_eq, push_cast, reduceIte, Nat.reduceEqDiff, Nat.reduceAdd, Nat.reduceSub, Nat.reduceMul, Nat.reduceBEq, Nat.reduceLT, Nat.reduceLeDiff, reduceCtorEq, Int.reduceToNat, Int.reduceNeg]
                  have hstep : tileStep j fx k s2 t = s2 := by unfold tileStep; rw [he]
                  rw [hstep] at hsucc2
                  refine ⟨⟨by omega, by omega⟩, _, ?_, t + 1, by omega, rfl, by rw [hsucc2]; exact hs2, ?_⟩
                  · omega
                  · rw [hsucc2]; simp
                | some a =>
                  rw [he] at hex
                  obtain ⟨rfl, rfl⟩ := hex
                  have hpa := exch_isPl hs2.pl (by omega) he
                  have hun := exch_undo (by omega) he
                  have hok := tileStep_ok hs2 hk' (fx := fx) t
                  have hcb := costF_bd hj hs2.pl
                  have hct := hs2.cost
                  have htl := hs2.low
                  have htt := hs2.tot
                  simp only [stI_eq, cbI_eq, push_cast, reduceIte, Nat.reduceEqDiff, Nat.reduceAdd, Nat.reduceSub, Nat.reduceMul, Nat.reduceBEq, Nat.reduceLT, Nat.reduceLeDiff, reduceCtorEq, Int.reduceToNat, Int.reduceNeg]
                  rw [List.take_of_length_le (by have := hun.1; omega)]
                  refine cal_sub (by rw [hE]; exact cost_ok j hj a hpa) (by simp only [push_cast, reduceIte, Nat.reduceEqDiff, Nat.reduceAdd, Nat.reduceSub, Nat.reduceMul, Nat.reduceBEq, Nat.reduceLT, Nat.reduceLeDiff, reduceCtorEq, Int.reduceToNat, Int.reduceNeg]) ?_
                  simp only [push_cast, reduceIte, Nat.reduceEqDiff, Nat.reduceAdd, Nat.reduceSub, Nat.reduceMul, Nat.reduceBEq, Nat.reduceLT, Nat.reduceLeDiff, reduceCtorEq, Int.reduceToNat, Int.reduceNeg]
                  refine cond_dec (fun h4 => ?_) fun h4 => ?_
                  · have hstep : tileStep j fx k s2 t = (a, costF j a, s2.2.2 + 1) := by unfold tileStep; rw [he]; simp only; rw [if_pos h4]
                    rw [hstep] at hsucc2 hok
                    refine ⟨⟨by omega, by omega⟩, ⟨by omega, by omega⟩, _, ?_, t + 1, by omega, rfl, by rw [hsucc2]; exact hok, ?_⟩
                    · omega
                    · rw [hsucc2]; simp
                  · have hstep : tileStep j fx k s2 t = s2 := by unfold tileStep; rw [he]; simp only; rw [if_neg h4]
                    rw [hstep] at hsucc2
                    have hol : fidx (fun x => decide (x = (t : Int))) s2.1 < at0.length := by
                      rcases fidx_lt (fun x => decide (x = (t : Int))) s2.1 with h5 | h5
                      · omega
                      · rw [h5] at hl2; simp at hl2; omega
                    refine clm_of (FnM.only [13, 301, 302, 304, 309, 310, 311, 312, 320, 321, 325, 326, 332, 333] [304, 406, 408, 409, 412, 413, 414] [705] [] (undo_ok E hE (by omega) j fx at0.length k t s2.2.2 s2.2.1 s.2.2 passes p (s2.1.getD k default) (fidx (fun x => decide (x = (t : Int))) s2.1) a (by omega) hk' hol)) ?_
                    rintro rv _ ⟨rfl, rfl⟩
                    rw [hun.2]
                    simp only [stI_eq, cbI_eq, push_cast, reduceIte, Nat.reduceEqDiff, Nat.reduceAdd, Nat.reduceSub, Nat.reduceMul, Nat.reduceBEq, Nat.reduceLT, Nat.reduceLeDiff, reduceCtorEq, Int.reduceToNat, Int.reduceNeg]
                    refine ⟨⟨by omega, by omega⟩, _, ?_, t + 1, by omega, rfl, by rw [hsucc2]; exact hs2, ?_⟩
                    · omega
                    · rw [hsucc2]; simp
              · have htt : t = j.g.kind.length := by omega
                subst htt
                have hb : blockStep j fx s1 k = s2 := hse2
                rw [hb] at hsucc
                refine ⟨⟨by omega, by omega⟩, _, ?_, k + 1, by omega, rfl, by rw [hsucc]; exact hs2, ?_⟩
                · omega
                · rw [hsucc]; simp
          · have hkk' : k = at0.length := by omega
            subst hkk'
            obtain ⟨q, hq⟩ : ∃ q, passes - p = q + 1 := ⟨passes - p - 1, by omega⟩
            rw [hq] at hF
            simp only [passesF, passStep, hse] at hF
            refine cond_dec (fun h3 => ?_) fun h3 => ?_
            · rw [if_pos h3] at hF
              rw [← hF]; exact ⟨rfl, rfl⟩
            · rw [if_neg h3] at hF
              refine ⟨⟨by omega, by omega⟩, _, ?_, p + 1, s1, by omega, rfl, hs1, by rw [show passes - (p + 1) = q by omega]; exact hF, ?_⟩
              · omega
              · simp
      · rw [show passes - p = 0 by omega] at hF
        simp only [passesF] at hF
        rw [← hF]; exact ⟨rfl, rfl⟩
  refine FnM.mono (FnM.postB (fun _ => []) key) ?_
  rintro rv _ ⟨st1, ⟨h1, h2⟩, rfl⟩
  exact ⟨h1, h2⟩
end Go.Proofs.Ytbdamnfkgdbidaa.Pl
namespace Go.Proofs.Ytbdamnfkgdbidaa.Txt
open Go Go.Vc
set_option maxRecDepth 100000
def ac46b_r17 : AC :=
 (.seq (.seq (.reg [0, 141, 4, 5, 6, 12, 13, 14] [
 ⟨some 81, none, .bsl 1 4 [.sc (.bool false)] 2 [(0, (.c (.sc (.bool true)))), (1, (.c (.sc (.bool false))))]⟩, ⟨some 82, none, .len (.t 81)⟩, ⟨some 83, none, .mv (.c (.sc (.int .i64 0)))⟩])
 (.block 2
 (.loop [0, 141, 4, 5, 6, 12, 13, 14, 81, 82, 83]
 (.seq (.reg [0, 141, 4, 5, 6, 12, 13, 14, 81, 82, 83] [
 ⟨some 84, none, .cmp .lss .i64 (.t 83) (.t 82)⟩])
 (.seq (.cond (.t 84)
 .skip
 (.exit 2))
 (.seq (.block 3
 (.seq (.reg [0, 141, 4, 5, 6, 12, 13, 14, 81, 82, 83] [
 ⟨some 85, none, .ixs 1 (.t 81) (.t 83)⟩, ⟨some 86, none, .ld false 1 (.t 85)⟩, ⟨some 18, none, .mv (.t 86)⟩])
 (.seq (.reg [0, 141, 4, 5, 6, 12, 13, 14, 18, 81, 82, 83] [
 ⟨some 87, none, .fa 1 (.t 5)⟩, ⟨some 88, none, .ld false 1 (.t 87)⟩, ⟨some 89, none, .len (.t 88)⟩, ⟨some 90, none, .mv (.c (.sc (.int .i64 0)))⟩])
 (.block 4
 (.loop [0, 141, 4, 5, 6, 12, 13, 14, 18, 81, 82, 83, 88, 89, 90]
 (.seq (.reg [0, 141, 4, 5, 6, 12, 13, 14, 18, 81, 82, 83, 88, 89, 90] [
 ⟨some 91, none, .cmp .lss .i64 (.t 90) (.t 89)⟩])
 (.seq (.cond (.t 91)
 .skip
 (.exit 4))
 (.seq (.block 5
 (.seq (.reg [0, 141, 4, 5, 6, 12, 13, 14, 18, 81, 82, 83, 88, 89, 90] [
 ⟨some 92, none, .mv (.t 90)⟩, ⟨some 93, none, .ixs 5 (.t 88) (.t 90)⟩, ⟨some 94, none, .ld true 5 (.t 93)⟩, ⟨some 20, none, .alc [.nil, .sc (.int .i64 0), .sc (.int .i64 0), .sc (.int .i64 0), .sc (.int .u64 0)]⟩, ⟨some 19, none, .mv (.t 92)⟩, ⟨none, none, .sto 5 (.t 20) (.t 94)⟩])
 (.seq (.seq (.reg [0, 141, 4, 5, 6, 12, 13, 14, 18, 19, 20, 81, 82, 83, 88, 89, 90] [
 ⟨some 95, none, .mv (.t 13)⟩, ⟨some 96, none, .mv (.t 19)⟩, ⟨some 97, none, .ixs 1 (.t 95) (.t 96)⟩, ⟨some 98, none, .ld false 1 (.t 97)⟩, ⟨some 99, none, .cmp .geq .i64 (.t 98) (.c (.sc (.int .i64 0)))⟩, ⟨some 100, none, .mv (.t 99)⟩, ⟨some 101, some (100, false), .fa 2 (.t 20)⟩, ⟨some 102, some (100, false), .ld false 1 (.t 101)⟩, ⟨some 103, some (100, false), .cmp .neq .i64 (.t 102) (.c (.sc (.int .i64 (-1))))⟩, ⟨some 104, some (100, false), .mv (.t 18)⟩, ⟨some 105, some (100, false), .eqb true (.t 103) (.t 104)⟩, ⟨some 106, none, .pick (.t 100) (.c (.sc (.bool true))) (.t 105)⟩])
 (.cut [0, 141, 4, 5, 6, 12, 13, 14, 18, 19, 81, 82, 83, 88, 89, 90, 106] (.cond (.t 106)
 (.exit 5)
 .skip)))
 (.seq (.seq (.reg [0, 141, 4, 5, 6, 12, 13, 14, 18, 19, 81, 82, 83, 88, 89, 90] [
 ⟨some 107, none, .fa 4 (.t 6)⟩, ⟨some 108, none, .ld false 1 (.t 107)⟩, ⟨some 109, none, .len (.t 108)⟩, ⟨some 110, none, .mv (.c (.sc (.int .i64 0)))⟩])
 (.block 6
 (.loop [0, 141, 4, 5, 6, 12, 13, 14, 18, 19, 81, 82, 83, 88, 89, 90, 109, 110]
 (.seq (.reg [0, 141, 4, 5, 6, 12, 13, 14, 18, 19, 81, 82, 83, 88, 89, 90, 109, 110] [
 ⟨some 111, none, .cmp .lss .i64 (.t 110) (.t 109)⟩])
 (.seq (.cond (.t 111)
 .skip
 (.exit 6))
 (.seq (.block 7
 (.seq (.reg [0, 141, 4, 5, 6, 12, 13, 14, 18, 19, 81, 82, 83, 88, 89, 90, 109, 110] [
 ⟨some 112, none, .mv (.t 110)⟩, ⟨some 21, none, .mv (.t 112)⟩])
 (.seq (.reg [0, 141, 4, 5, 6, 12, 13, 14, 18, 19, 21, 81, 82, 83, 88, 89, 90, 109, 110] [
 ⟨some 113, none, .ld true 11 (.t 12)⟩, ⟨some 114, none, .mv (.t 19)⟩, ⟨some 115, none, .mv (.t 21)⟩, ⟨some 116, none, .cal 37 [(.t 113), (.t 114), (.t 115)]⟩, ⟨some 117, none, .mv (.t 116)⟩, ⟨some 118, some (117, true), .mv (.t 13)⟩, ⟨some 119, some (117, true), .mv (.t 21)⟩, ⟨some 120, some (117, true), .cal 64 [(.t 118), (.t 119)]⟩, ⟨some 121, some (117, true), .not (.t 120)⟩, ⟨some 122, none, .pick (.t 117) (.t 121) (.c (.sc (.bool false)))⟩])
 (.cut [0, 141, 4, 5, 6, 12, 13, 14, 18, 19, 21, 81, 82, 83, 88, 89, 90, 109, 110, 122] (.cond (.t 122)
 (.seq (.reg [0, 141, 4, 5, 6, 12, 13, 14, 18, 19, 21, 81, 82, 83, 88, 89, 90] [
 ⟨some 123, none, .mv (.t 13)⟩, ⟨some 124, none, .mv (.t 19)⟩, ⟨some 125, none, .mv (.t 21)⟩, ⟨some 126, none, .ixs 1 (.t 123) (.t 124)⟩, ⟨none, none, .sto 1 (.t 126) (.t 125)⟩])
 (.exit 6))
 .skip)))))
 (.reg [0, 141, 4, 5, 6, 12, 13, 14, 18, 19, 81, 82, 83, 88, 89, 90, 109, 110] [
 ⟨some 127, none, .ari .add true .i64 (.t 110) (.c (.sc (.int .i64 1)))⟩, ⟨some 110, none, .mv (.t 127)⟩])))))))
 (.seq (.reg [0, 141, 4, 5, 6, 12, 13, 14, 18, 19, 81, 82, 83, 88, 89, 90] [
 ⟨some 128, none, .mv (.t 13)⟩, ⟨some 129, none, .mv (.t 19)⟩, ⟨some 130, none, .ixs 1 (.t 128) (.t 129)⟩, ⟨some 131, none, .ld false 1 (.t 130)⟩, ⟨some 132, none, .cmp .lss .i64 (.t 131) (.c (.sc (.int .i64 0)))⟩])
 (.cond (.t 132)
 (.seq (.reg [0, 141] [
 ⟨some 10, none, .mv (.c (.nil))⟩, ⟨some 11, none, .mv (.c (.sc (.int .i64 4)))⟩])
 .ret)
 .skip))))))
 (.reg [0, 141, 4, 5, 6, 12, 13, 14, 18, 81, 82, 83, 88, 89, 90] [
 ⟨some 133, none, .ari .add true .i64 (.t 90) (.c (.sc (.int .i64 1)))⟩, ⟨some 90, none, .mv (.t 133)⟩])))))))))
 (.reg [0, 141, 4, 5, 6, 12, 13, 14, 81, 82, 83] [
 ⟨some 134, none, .ari .add true .i64 (.t 83) (.c (.sc (.int .i64 1)))⟩, ⟨some 83, none, .mv (.t 134)⟩])))))))
 (.seq (.reg [0, 141, 4, 12, 13, 14] [
 ⟨some 135, none, .ld true 11 (.t 12)⟩, ⟨some 136, none, .mv (.t 13)⟩, ⟨some 137, none, .mv (.t 14)⟩, ⟨some 138, none, .mv (.t 4)⟩, ⟨some 139, none, .clm 72 [(.t 135), (.t 136), (.t 137), (.t 138)]⟩])
 (.seq (.reg [0, 141, 13] [
 ⟨some 140, none, .mv (.t 13)⟩, ⟨some 10, none, .mv (.t 140)⟩, ⟨some 11, none, .mv (.c (.sc (.int .i64 0)))⟩])
 .ret)))
def ac46b : AC :=
 (.seq (.reg [0, 141, 0, 1, 2, 3, 4] [
 ⟨some 5, none, .box (.t 0)⟩, ⟨some 6, none, .box (.t 1)⟩, ⟨some 7, none, .box (.t 2)⟩, ⟨some 10, none, .mv (.c (.nil))⟩, ⟨some 11, none, .mv (.c (.sc (.int .i64 0)))⟩])
 (.seq (.seq (.reg [0, 141, 3, 4, 5, 6, 7] [
 ⟨some 22, none, .mv (.t 4)⟩, ⟨some 23, none, .cmp .lss .i64 (.t 22) (.c (.sc (.int .i64 0)))⟩, ⟨some 24, none, .mv (.t 23)⟩, ⟨some 25, some (24, false), .mv (.t 4)⟩, ⟨some 26, some (24, false), .cmp .gtr .i64 (.t 25) (.c (.sc (.int .i64 1000)))⟩, ⟨some 27, none, .pick (.t 24) (.c (.sc (.bool true))) (.t 26)⟩, ⟨some 28, none, .mv (.t 27)⟩, ⟨some 29, some (28, false), .mv (.t 3)⟩, ⟨some 30, some (28, false), .len (.t 29)⟩, ⟨some 31, some (28, false), .cmp .neq .i64 (.t 30) (.c (.sc (.int .i64 0)))⟩, ⟨some 32, some (28, false), .mv (.t 31)⟩, ⟨some 33, some (32, true), .mv (.t 3)⟩, ⟨some 34, some (32, true), .len (.t 33)⟩, ⟨some 35, some (32, true), .fa 1 (.t 5)⟩, ⟨some 36, some (32, true), .ld false 1 (.t 35)⟩, ⟨some 37, some (32, true), .len (.t 36)⟩, ⟨some 38, some (32, true), .cmp .neq .i64 (.t 34) (.t 37)⟩, ⟨some 39, some (28, false), .pick (.t 32) (.t 38) (.c (.sc (.bool false)))⟩, ⟨some 40, none, .pick (.t 28) (.c (.sc (.bool true))) (.t 39)⟩])
 (.cut [0, 141, 3, 4, 5, 6, 7, 40] (.cond (.t 40)
 (.seq (.reg [0, 141] [
 ⟨some 10, none, .mv (.c (.nil))⟩, ⟨some 11, none, .mv (.c (.sc (.int .i64 1)))⟩])
 .ret)
 .skip)))
 (.seq (.reg [0, 141, 3, 4, 5, 6, 7] [
 ⟨some 41, none, .ld true 4 (.t 5)⟩, ⟨some 42, none, .ld true 5 (.t 6)⟩, ⟨some 43, none, .ld true 2 (.t 7)⟩, ⟨some 44, none, .bld [.nil, .nil, .nil, .nil, .sc (.int .i64 0), .sc (.int .i64 0), .sc (.int .i64 0), .sc (.int .i64 0), .nil, .nil, .nil] [(0, 4, (.t 41)), (4, 5, (.t 42)), (9, 2, (.t 43))]⟩, ⟨some 12, none, .alc [.nil, .nil, .nil, .nil, .sc (.int .i64 0), .sc (.int .i64 0), .sc (.int .i64 0), .sc (.int .i64 0), .nil, .nil, .nil]⟩, ⟨none, none, .sto 11 (.t 12) (.t 44)⟩])
 (.seq (.seq (.reg [0, 141, 3, 4, 5, 6, 12] [
 ⟨some 45, none, .ld true 11 (.t 12)⟩, ⟨some 46, none, .cal 66 [(.t 45)]⟩, ⟨some 47, none, .not (.t 46)⟩])
 (.cond (.t 47)
 (.seq (.reg [0, 141] [
 ⟨some 10, none, .mv (.c (.nil))⟩, ⟨some 11, none, .mv (.c (.sc (.int .i64 290)))⟩])
 .ret)
 .skip))
 (.seq (.reg [0, 141, 3, 4, 5, 6, 12] [
 ⟨some 48, none, .bsl 1 3 [.sc (.int .i64 0)] 1 [(0, (.c (.sc (.int .i64 (-1)))))]⟩, ⟨some 49, none, .fa 1 (.t 5)⟩, ⟨some 50, none, .ld false 1 (.t 49)⟩, ⟨some 51, none, .len (.t 50)⟩, ⟨some 52, none, .clm 73 [(.t 48), (.t 51)]⟩, ⟨some 13, none, .mv (.t 52)⟩])
 (.seq (.reg [0, 141, 3, 4, 5, 6, 12, 13] [
 ⟨some 14, none, .mv (.c (.nil))⟩])
 (.seq (.seq (.reg [0, 141, 3, 4, 5, 6, 12, 13, 14] [
 ⟨some 53, none, .mv (.t 3)⟩, ⟨some 54, none, .len (.t 53)⟩, ⟨some 55, none, .mv (.c (.sc (.int .i64 0)))⟩])
 (.block 0
 (.loop [0, 141, 4, 5, 6, 12, 13, 14, 53, 54, 55]
 (.seq (.reg [0, 141, 4, 5, 6, 12, 13, 14, 53, 54, 55] [
 ⟨some 56, none, .cmp .lss .i64 (.t 55) (.t 54)⟩])
 (.seq (.cond (.t 56)
 .skip
 (.exit 0))
 (.seq (.block 1
 (.seq (.reg [0, 141, 4, 5, 6, 12, 13, 14, 53, 54, 55] [
 ⟨some 57, none, .mv (.t 55)⟩, ⟨some 58, none, .ixs 1 (.t 53) (.t 55)⟩, ⟨some 59, none, .ld false 1 (.t 58)⟩, ⟨some 15, none, .mv (.t 57)⟩, ⟨some 16, none, .mv (.t 59)⟩])
 (.seq (.seq (.reg [0, 141, 4, 5, 6, 12, 13, 14, 15, 16, 53, 54, 55] [
 ⟨some 60, none, .mv (.t 16)⟩, ⟨some 61, none, .cmp .eql .i64 (.t 60) (.c (.sc (.int .i64 (-1))))⟩])
 (.cond (.t 61)
 (.exit 1)
 .skip))
 (.seq (.seq (.reg [0, 141, 4, 5, 6, 12, 13, 14, 15, 16, 53, 54, 55] [
 ⟨some 62, none, .ld true 11 (.t 12)⟩, ⟨some 63, none, .mv (.t 15)⟩, ⟨some 64, none, .mv (.t 16)⟩, ⟨some 65, none, .cal 37 [(.t 62), (.t 63), (.t 64)]⟩, ⟨some 66, none, .not (.t 65)⟩, ⟨some 67, none, .mv (.t 66)⟩, ⟨some 68, some (67, false), .mv (.t 13)⟩, ⟨some 69, some (67, false), .mv (.t 16)⟩, ⟨some 70, some (67, false), .cal 64 [(.t 68), (.t 69)]⟩, ⟨some 71, none, .pick (.t 67) (.c (.sc (.bool true))) (.t 70)⟩])
 (.cut [0, 141, 4, 5, 6, 12, 13, 14, 15, 16, 53, 54, 55, 71] (.cond (.t 71)
 (.seq (.reg [0, 141] [
 ⟨some 10, none, .mv (.c (.nil))⟩, ⟨some 11, none, .mv (.c (.sc (.int .i64 290)))⟩])
 .ret)
 .skip)))
 (.seq (.reg [0, 141, 4, 5, 6, 12, 13, 14, 15, 16, 53, 54, 55] [
 ⟨some 72, none, .mv (.t 13)⟩, ⟨some 73, none, .mv (.t 15)⟩, ⟨some 74, none, .mv (.t 16)⟩, ⟨some 75, none, .ixs 1 (.t 72) (.t 73)⟩, ⟨none, none, .sto 1 (.t 75) (.t 74)⟩])
 (.reg [0, 141, 4, 5, 6, 12, 13, 14, 15, 53, 54, 55] [
 ⟨some 76, none, .mv (.t 14)⟩, ⟨some 77, none, .mv (.t 15)⟩, ⟨some 78, none, .bsl 1 3 [.sc (.int .i64 0)] 1 [(0, (.t 77))]⟩, ⟨some 79, none, .app 1 3 8 (.t 76) (.t 78)⟩, ⟨some 14, none, .mv (.t 79)⟩]))))))
 (.reg [0, 141, 4, 5, 6, 12, 13, 14, 53, 54, 55] [
 ⟨some 80, none, .ari .add true .i64 (.t 55) (.c (.sc (.int .i64 1)))⟩, ⟨some 55, none, .mv (.t 80)⟩])))))))
 (.frz [14] (.wk ac46b_r17)))))))))
def rv46b : List RV := [.tmp 10, .tmp 11]
theorem ok46b : fnOk Try.prog ac46b rv46b Try.f46 = true := by kernel_rfl

def ac88b : AC :=
 (.seq (.reg [0, 23, 0] [
 ⟨some 2, none, .mv (.c (.sc (.int .u64 0)))⟩])
 (.seq (.reg [0, 23, 0] [
 ⟨some 3, none, .mv (.c (.sc (.int .u64 512970876019)))⟩])
 (.seq (.seq (.reg [0, 23, 0, 3] [
 ⟨some 4, none, .mv (.c (.sc (.int .i64 0)))⟩])
 (.block 0
 (.loop [0, 23, 0, 3, 4]
 (.seq (.seq (.reg [0, 23, 0, 3, 4] [
 ⟨some 5, none, .mv (.t 4)⟩, ⟨some 6, none, .mv (.t 0)⟩, ⟨some 7, none, .len (.t 6)⟩, ⟨some 8, none, .cmp .lss .i64 (.t 5) (.t 7)⟩])
 (.cond (.t 8)
 .skip
 (.exit 0)))
 (.seq (.block 1
 (.reg [0, 23, 0, 3, 4] [
 ⟨some 11, none, .mv (.t 3)⟩, ⟨some 12, none, .mv (.t 0)⟩, ⟨some 13, none, .mv (.t 4)⟩, ⟨some 14, none, .ixs 1 (.t 12) (.t 13)⟩, ⟨some 15, none, .ld false 1 (.t 14)⟩, ⟨some 16, none, .cnv false .u64 (.t 15)⟩, ⟨some 17, none, .cal 96 [(.t 11), (.t 16)]⟩, ⟨some 3, none, .mv (.t 17)⟩]))
 (.reg [0, 23, 0, 3, 4] [
 ⟨some 9, none, .mv (.t 4)⟩, ⟨some 10, none, .ari .add true .i64 (.t 9) (.c (.sc (.int .i64 1)))⟩, ⟨some 4, none, .mv (.t 10)⟩]))))))
 (.seq (.reg [0, 23, 0, 3] [
 ⟨some 18, none, .mv (.t 3)⟩, ⟨some 19, none, .mv (.t 0)⟩, ⟨some 20, none, .len (.t 19)⟩, ⟨some 21, none, .cnv false .u64 (.t 20)⟩, ⟨some 22, none, .cal 96 [(.t 18), (.t 21)]⟩, ⟨some 2, none, .mv (.t 22)⟩])
 .ret))))
def rv88b : List RV := [.tmp 2]
theorem ok88b : fnOk Try.prog ac88b rv88b Try.f88 = true := by kernel_rfl

def ac74b : AC :=
 (.seq (.reg [0, 148, 0] [
 ⟨some 1, none, .box (.t 0)⟩, ⟨some 2, none, .mv (.c (.nil))⟩])
 (.seq (.reg [0, 148, 1] [
 ⟨some 11, none, .ld true 4 (.t 1)⟩, ⟨some 12, none, .cal 69 [(.t 11)]⟩, ⟨some 13, none, .mks 1 69 8 [.sc (.int .u64 0)] (.t 12) (.t 12)⟩, ⟨some 3, none, .mv (.t 13)⟩])
 (.seq (.seq (.reg [0, 148, 1, 3] [
 ⟨some 4, none, .mv (.c (.sc (.int .i64 0)))⟩])
 (.block 0
 (.loop [0, 148, 1, 3, 4]
 (.seq (.seq (.reg [0, 148, 1, 3, 4] [
 ⟨some 14, none, .mv (.t 4)⟩, ⟨some 15, none, .fa 0 (.t 1)⟩, ⟨some 16, none, .ld false 1 (.t 15)⟩, ⟨some 17, none, .len (.t 16)⟩, ⟨some 18, none, .cmp .lss .i64 (.t 14) (.t 17)⟩])
 (.cond (.t 18)
 .skip
 (.exit 0)))
 (.seq (.block 1
 (.drw [0, 148, 1, 3, 4] [
 ⟨⟨some 21, none, .mv (.t 3)⟩, [], [41], true⟩, ⟨⟨some 22, none, .mv (.t 4)⟩, [], [41], true⟩, ⟨⟨some 23, none, .fa 0 (.t 1)⟩, [], [], true⟩, ⟨⟨some 24, none, .ld false 1 (.t 23)⟩, [], [], true⟩, ⟨⟨some 25, none, .mv (.t 4)⟩, [], [], true⟩, ⟨⟨some 26, none, .ixs 3 (.t 24) (.t 25)⟩, [], [], true⟩, ⟨⟨some 27, none, .fa 0 (.t 26)⟩, [], [], true⟩, ⟨⟨some 28, none, .ld false 1 (.t 27)⟩, [], [], true⟩, ⟨⟨some 29, none, .fa 0 (.t 1)⟩, [], [], true⟩, ⟨⟨some 30, none, .ld false 1 (.t 29)⟩, [], [], true⟩, ⟨⟨some 31, none, .mv (.t 4)⟩, [], [], true⟩, ⟨⟨some 32, none, .ixs 3 (.t 30) (.t 31)⟩, [], [], true⟩, ⟨⟨some 33, none, .fa 1 (.t 32)⟩, [], [], true⟩, ⟨⟨some 34, none, .ld false 1 (.t 33)⟩, [], [], true⟩, ⟨⟨some 35, none, .fa 0 (.t 1)⟩, [], [], true⟩, ⟨⟨some 36, none, .ld false 1 (.t 35)⟩, [], [], true⟩, ⟨⟨some 37, none, .mv (.t 4)⟩, [], [], true⟩, ⟨⟨some 38, none, .ixs 3 (.t 36) (.t 37)⟩, [], [], true⟩, ⟨⟨some 39, none, .fa 2 (.t 38)⟩, [], [], true⟩, ⟨⟨some 40, none, .ld false 1 (.t 39)⟩, [], [], true⟩, ⟨⟨some 41, none, .bsl 1 3 [.sc (.int .i64 0)] 4 [(0, (.c (.sc (.int .i64 2)))), (1, (.t 28)), (2, (.t 34)), (3, (.t 40))]⟩, [41], [], true⟩, ⟨⟨some 42, none, .cal 88 [(.t 41)]⟩, [], [], true⟩, ⟨⟨some 43, none, .ixs 1 (.t 21) (.t 22)⟩, [], [], false⟩, ⟨⟨none, none, .sto 1 (.t 43) (.t 42)⟩, [], [], false⟩]))
 (.reg [0, 148, 1, 3, 4] [
 ⟨some 19, none, .mv (.t 4)⟩, ⟨some 20, none, .ari .add true .i64 (.t 19) (.c (.sc (.int .i64 1)))⟩, ⟨some 4, none, .mv (.t 20)⟩]))))))
 (.seq (.seq (.reg [0, 148, 1, 3] [
 ⟨some 5, none, .mv (.c (.sc (.int .i64 0)))⟩])
 (.block 2
 (.loop [0, 148, 1, 3, 5]
 (.seq (.seq (.reg [0, 148, 1, 3, 5] [
 ⟨some 44, none, .mv (.t 5)⟩, ⟨some 45, none, .fa 1 (.t 1)⟩, ⟨some 46, none, .ld false 1 (.t 45)⟩, ⟨some 47, none, .len (.t 46)⟩, ⟨some 48, none, .cmp .lss .i64 (.t 44) (.t 47)⟩])
 (.cond (.t 48)
 .skip
 (.exit 2)))
 (.seq (.block 3
 (.seq (.reg [0, 148, 1, 3, 5] [
 ⟨some 51, none, .fa 1 (.t 1)⟩, ⟨some 52, none, .ld false 1 (.t 51)⟩, ⟨some 53, none, .mv (.t 5)⟩, ⟨some 54, none, .ixs 5 (.t 52) (.t 53)⟩, ⟨some 55, none, .fa 3 (.t 54)⟩, ⟨some 56, none, .ld false 1 (.t 55)⟩, ⟨some 57, none, .cmp .geq .i64 (.t 56) (.c (.sc (.int .i64 0)))⟩])
 (.cond (.t 57)
 (.seq (.drw [0, 148, 1, 3, 5] [
 ⟨⟨some 58, none, .mv (.t 3)⟩, [], [71], true⟩, ⟨⟨some 59, none, .fa 0 (.t 1)⟩, [], [71], true⟩, ⟨⟨some 60, none, .ld false 1 (.t 59)⟩, [], [71], true⟩, ⟨⟨some 61, none, .len (.t 60)⟩, [], [71], true⟩, ⟨⟨some 62, none, .mv (.t 5)⟩, [], [71], true⟩, ⟨⟨some 63, none, .ari .mul true .i64 (.c (.sc (.int .i64 2))) (.t 62)⟩, [], [71], true⟩, ⟨⟨some 64, none, .ari .add true .i64 (.t 61) (.t 63)⟩, [], [71], true⟩, ⟨⟨some 65, none, .fa 1 (.t 1)⟩, [], [], true⟩, ⟨⟨some 66, none, .ld false 1 (.t 65)⟩, [], [], true⟩, ⟨⟨some 67, none, .mv (.t 5)⟩, [], [], true⟩, ⟨⟨some 68, none, .ixs 5 (.t 66) (.t 67)⟩, [], [], true⟩, ⟨⟨some 69, none, .fa 3 (.t 68)⟩, [], [], true⟩, ⟨⟨some 70, none, .ld false 1 (.t 69)⟩, [], [], true⟩, ⟨⟨some 71, none, .bsl 1 3 [.sc (.int .i64 0)] 2 [(0, (.c (.sc (.int .i64 3)))), (1, (.t 70))]⟩, [71], [], true⟩, ⟨⟨some 72, none, .cal 88 [(.t 71)]⟩, [], [], true⟩, ⟨⟨some 73, none, .ixs 1 (.t 58) (.t 64)⟩, [], [], false⟩, ⟨⟨none, none, .sto 1 (.t 73) (.t 72)⟩, [], [], false⟩])
 (.drw [0, 148, 1, 3, 5] [
 ⟨⟨some 74, none, .mv (.t 3)⟩, [], [88], true⟩, ⟨⟨some 75, none, .fa 0 (.t 1)⟩, [], [88], true⟩, ⟨⟨some 76, none, .ld false 1 (.t 75)⟩, [], [88], true⟩, ⟨⟨some 77, none, .len (.t 76)⟩, [], [88], true⟩, ⟨⟨some 78, none, .mv (.t 5)⟩, [], [88], true⟩, ⟨⟨some 79, none, .ari .mul true .i64 (.c (.sc (.int .i64 2))) (.t 78)⟩, [], [88], true⟩, ⟨⟨some 80, none, .ari .add true .i64 (.t 77) (.t 79)⟩, [], [88], true⟩, ⟨⟨some 81, none, .ari .add true .i64 (.t 80) (.c (.sc (.int .i64 1)))⟩, [], [88], true⟩, ⟨⟨some 82, none, .fa 1 (.t 1)⟩, [], [], true⟩, ⟨⟨some 83, none, .ld false 1 (.t 82)⟩, [], [], true⟩, ⟨⟨some 84, none, .mv (.t 5)⟩, [], [], true⟩, ⟨⟨some 85, none, .ixs 5 (.t 83) (.t 84)⟩, [], [], true⟩, ⟨⟨some 86, none, .fa 3 (.t 85)⟩, [], [], true⟩, ⟨⟨some 87, none, .ld false 1 (.t 86)⟩, [], [], true⟩, ⟨⟨some 88, none, .bsl 1 3 [.sc (.int .i64 0)] 2 [(0, (.c (.sc (.int .i64 1)))), (1, (.t 87))]⟩, [88], [], true⟩, ⟨⟨some 89, none, .cal 88 [(.t 88)]⟩, [], [], true⟩, ⟨⟨some 90, none, .ixs 1 (.t 74) (.t 81)⟩, [], [], false⟩, ⟨⟨none, none, .sto 1 (.t 90) (.t 89)⟩, [], [], false⟩]))
 .skip)))
 (.reg [0, 148, 1, 3, 5] [
 ⟨some 49, none, .mv (.t 5)⟩, ⟨some 50, none, .ari .add true .i64 (.t 49) (.c (.sc (.int .i64 1)))⟩, ⟨some 5, none, .mv (.t 50)⟩]))))))
 (.seq (.reg [0, 148, 1, 3] [
 ⟨some 91, none, .ld true 4 (.t 1)⟩, ⟨some 92, none, .cal 89 [(.t 91)]⟩, ⟨some 6, none, .mv (.t 92)⟩])
 (.seq (.seq (.reg [0, 148, 1, 3, 6] [
 ⟨some 7, none, .mv (.c (.sc (.int .i64 0)))⟩])
 (.block 4
 (.loop [0, 148, 1, 3, 6, 7]
 (.seq (.seq (.reg [0, 148, 1, 3, 6, 7] [
 ⟨some 93, none, .mv (.t 7)⟩, ⟨some 94, none, .mv (.t 6)⟩, ⟨some 95, none, .len (.t 94)⟩, ⟨some 96, none, .cmp .lss .i64 (.t 93) (.t 95)⟩])
 (.cond (.t 96)
 .skip
 (.exit 4)))
 (.seq (.block 5
 (.seq (.drw [0, 148, 1, 3, 6, 7] [
 ⟨⟨some 99, none, .fa 1 (.t 1)⟩, [], [8], true⟩, ⟨⟨some 100, none, .ld false 1 (.t 99)⟩, [], [8], true⟩, ⟨⟨some 101, none, .mv (.t 6)⟩, [], [8], true⟩, ⟨⟨some 102, none, .mv (.t 7)⟩, [], [8], true⟩, ⟨⟨some 103, none, .ixs 1 (.t 101) (.t 102)⟩, [], [8], true⟩, ⟨⟨some 104, none, .ld false 1 (.t 103)⟩, [], [8], true⟩, ⟨⟨some 105, none, .ixs 5 (.t 100) (.t 104)⟩, [], [8], true⟩, ⟨⟨some 106, none, .ld true 5 (.t 105)⟩, [], [8], true⟩, ⟨⟨some 8, none, .alc [.nil, .sc (.int .i64 0), .sc (.int .i64 0), .sc (.int .i64 0), .sc (.int .u64 0)]⟩, [8], [], true⟩, ⟨⟨none, none, .sto 5 (.t 8) (.t 106)⟩, [], [], false⟩])
 (.seq (.seq (.reg [0, 148, 1, 3, 6, 7, 8] [
 ⟨some 107, none, .fa 3 (.t 8)⟩, ⟨some 108, none, .ld false 1 (.t 107)⟩, ⟨some 109, none, .cmp .geq .i64 (.t 108) (.c (.sc (.int .i64 0)))⟩])
 (.cond (.t 109)
 (.exit 5)
 .skip))
 (.seq (.reg [0, 148, 1, 3, 6, 7, 8] [
 ⟨some 110, none, .fa 1 (.t 8)⟩, ⟨some 111, none, .ld false 1 (.t 110)⟩, ⟨some 112, none, .fa 2 (.t 8)⟩, ⟨some 113, none, .ld false 1 (.t 112)⟩, ⟨some 114, none, .bsl 1 3 [.sc (.int .i64 0)] 3 [(0, (.c (.sc (.int .i64 4)))), (1, (.t 111)), (2, (.t 113))]⟩, ⟨some 9, none, .mv (.t 114)⟩])
 (.seq (.seq (.reg [0, 148, 1, 3, 6, 7, 8, 9] [
 ⟨some 10, none, .mv (.c (.sc (.int .i64 0)))⟩])
 (.block 6
 (.loop [0, 148, 1, 3, 6, 7, 8, 9, 10]
 (.seq (.seq (.reg [0, 148, 1, 3, 6, 7, 8, 9, 10] [
 ⟨some 115, none, .mv (.t 10)⟩, ⟨some 116, none, .fa 0 (.t 8)⟩, ⟨some 117, none, .ld false 1 (.t 116)⟩, ⟨some 118, none, .len (.t 117)⟩, ⟨some 119, none, .cmp .lss .i64 (.t 115) (.t 118)⟩])
 (.cond (.t 119)
 .skip
 (.exit 6)))
 (.seq (.block 7
 (.reg [0, 148, 1, 3, 6, 7, 8, 9, 10] [
 ⟨some 122, none, .mv (.t 9)⟩, ⟨some 123, none, .mv (.t 3)⟩, ⟨some 124, none, .fa 0 (.t 8)⟩, ⟨some 125, none, .ld false 1 (.t 124)⟩, ⟨some 126, none, .mv (.t 10)⟩, ⟨some 127, none, .ixs 1 (.t 125) (.t 126)⟩, ⟨some 128, none, .ld false 1 (.t 127)⟩, ⟨some 129, none, .ixs 1 (.t 123) (.t 128)⟩, ⟨some 130, none, .ld false 1 (.t 129)⟩, ⟨some 131, none, .cnv false .i64 (.t 130)⟩, ⟨some 132, none, .bsl 1 3 [.sc (.int .i64 0)] 1 [(0, (.t 131))]⟩, ⟨some 133, none, .app 1 3 8 (.t 122) (.t 132)⟩, ⟨some 9, none, .mv (.t 133)⟩]))
 (.reg [0, 148, 1, 3, 6, 7, 8, 9, 10] [
 ⟨some 120, none, .mv (.t 10)⟩, ⟨some 121, none, .ari .add true .i64 (.t 120) (.c (.sc (.int .i64 1)))⟩, ⟨some 10, none, .mv (.t 121)⟩]))))))
 (.drw [0, 148, 1, 3, 6, 7, 9] [
 ⟨⟨some 134, none, .mv (.t 3)⟩, [], [], true⟩, ⟨⟨some 135, none, .fa 0 (.t 1)⟩, [], [], true⟩, ⟨⟨some 136, none, .ld false 1 (.t 135)⟩, [], [], true⟩, ⟨⟨some 137, none, .len (.t 136)⟩, [], [], true⟩, ⟨⟨some 138, none, .mv (.t 6)⟩, [], [], true⟩, ⟨⟨some 139, none, .mv (.t 7)⟩, [], [], true⟩, ⟨⟨some 140, none, .ixs 1 (.t 138) (.t 139)⟩, [], [], true⟩, ⟨⟨some 141, none, .ld false 1 (.t 140)⟩, [], [], true⟩, ⟨⟨some 142, none, .ari .mul true .i64 (.c (.sc (.int .i64 2))) (.t 141)⟩, [], [], true⟩, ⟨⟨some 143, none, .ari .add true .i64 (.t 137) (.t 142)⟩, [], [], true⟩, ⟨⟨some 144, none, .mv (.t 9)⟩, [], [], true⟩, ⟨⟨some 145, none, .cal 88 [(.t 144)]⟩, [], [], true⟩, ⟨⟨some 146, none, .ixs 1 (.t 134) (.t 143)⟩, [], [], false⟩, ⟨⟨none, none, .sto 1 (.t 146) (.t 145)⟩, [], [], false⟩]))))))
 (.reg [0, 148, 1, 3, 6, 7] [
 ⟨some 97, none, .mv (.t 7)⟩, ⟨some 98, none, .ari .add true .i64 (.t 97) (.c (.sc (.int .i64 1)))⟩, ⟨some 7, none, .mv (.t 98)⟩]))))))
 (.seq (.reg [0, 148, 3] [
 ⟨some 147, none, .mv (.t 3)⟩, ⟨some 2, none, .mv (.t 147)⟩])
 .ret)))))))
def rv74b : List RV := [.tmp 2]
theorem ok74b : fnOk Try.prog ac74b rv74b Try.f74 = true := by kernel_rfl

def ac29b_r31 : AC :=
 (.seq (.seq (.reg [0, 219, 1, 2, 3, 5, 6, 9, 11, 12, 13, 14] [
 ⟨some 15, none, .mv (.c (.sc (.int .i64 0)))⟩])
 (.block 8
 (.loop [0, 219, 1, 2, 3, 5, 6, 9, 11, 12, 13, 14, 15]
 (.seq (.seq (.reg [0, 219, 1, 2, 3, 5, 6, 9, 11, 12, 13, 14, 15] [
 ⟨some 110, none, .mv (.t 15)⟩, ⟨some 111, none, .mv (.t 14)⟩, ⟨some 112, none, .cmp .lss .i64 (.t 110) (.t 111)⟩])
 (.cond (.t 112)
 .skip
 (.exit 8)))
 (.seq (.block 9
 (.drw [0, 219, 1, 2, 3, 5, 6, 9, 11, 12, 13, 14, 15] [
 ⟨⟨some 115, none, .fa 0 (.t 13)⟩, [], [132], true⟩, ⟨⟨some 116, none, .ld false 1 (.t 115)⟩, [], [132], true⟩, ⟨⟨some 117, none, .mv (.t 9)⟩, [], [], true⟩, ⟨⟨some 118, none, .mv (.t 9)⟩, [], [], true⟩, ⟨⟨some 119, none, .len (.t 118)⟩, [], [], true⟩, ⟨⟨some 120, none, .ari .sub true .i64 (.t 119) (.c (.sc (.int .i64 1)))⟩, [], [], true⟩, ⟨⟨some 121, none, .mv (.t 15)⟩, [], [], true⟩, ⟨⟨some 122, none, .ari .add true .i64 (.c (.sc (.int .i64 2))) (.t 121)⟩, [], [], true⟩, ⟨⟨some 123, none, .ixa 6 1 (.t 12) (.t 122)⟩, [], [], true⟩, ⟨⟨some 124, none, .ld false 1 (.t 123)⟩, [], [], true⟩, ⟨⟨some 125, none, .cnv true .i64 (.t 124)⟩, [], [], true⟩, ⟨⟨some 126, none, .mv (.t 9)⟩, [], [], true⟩, ⟨⟨some 127, none, .len (.t 126)⟩, [], [], true⟩, ⟨⟨some 128, none, .dvd .rem true .i64 (.t 125) (.t 127)⟩, [], [], true⟩, ⟨⟨some 129, none, .ari .sub true .i64 (.t 120) (.t 128)⟩, [], [], true⟩, ⟨⟨some 130, none, .ixs 1 (.t 117) (.t 129)⟩, [], [], true⟩, ⟨⟨some 131, none, .ld false 1 (.t 130)⟩, [], [], true⟩, ⟨⟨some 132, none, .bsl 1 3 [.sc (.int .i64 0)] 1 [(0, (.t 131))]⟩, [132], [], true⟩, ⟨⟨some 133, none, .app 1 3 8 (.t 116) (.t 132)⟩, [], [], false⟩, ⟨⟨some 134, none, .fa 0 (.t 13)⟩, [], [], false⟩, ⟨⟨none, none, .sto 1 (.t 134) (.t 133)⟩, [], [], false⟩]))
 (.reg [0, 219, 1, 2, 3, 5, 6, 9, 11, 12, 13, 14, 15] [
 ⟨some 113, none, .mv (.t 15)⟩, ⟨some 114, none, .ari .add true .i64 (.t 113) (.c (.sc (.int .i64 1)))⟩, ⟨some 15, none, .mv (.t 114)⟩]))))))
 (.seq (.seq (.reg [0, 219, 1, 2, 3, 5, 6, 9, 11, 12, 13, 14] [
 ⟨some 135, none, .fa 2 (.t 13)⟩, ⟨some 136, none, .ld false 1 (.t 135)⟩, ⟨some 137, none, .cmp .eql .i64 (.t 136) (.c (.sc (.int .i64 (-1))))⟩])
 (.cond (.t 137)
 (.reg [0, 219, 1, 2, 3, 5, 6, 9, 11, 12, 13, 14] [
 ⟨some 138, none, .ixa 6 1 (.t 12) (.c (.sc (.int .i64 5)))⟩, ⟨some 139, none, .ld false 1 (.t 138)⟩, ⟨some 140, none, .cnv true .i64 (.t 139)⟩, ⟨some 141, none, .ari .mul true .i64 (.c (.sc (.int .i64 257))) (.t 140)⟩, ⟨some 142, none, .ixa 6 1 (.t 12) (.c (.sc (.int .i64 1)))⟩, ⟨some 143, none, .ld false 1 (.t 142)⟩, ⟨some 144, none, .cnv true .i64 (.t 143)⟩, ⟨some 145, none, .ari .add true .i64 (.t 141) (.t 144)⟩, ⟨some 146, none, .mv (.t 14)⟩, ⟨some 147, none, .cnv true .u64 (.t 146)⟩, ⟨some 148, none, .shf .shl .u64 (.c (.sc (.int .u64 1))) (.t 147)⟩, ⟨some 149, none, .shf .shl .i64 (.c (.sc (.int .i64 1))) (.t 148)⟩, ⟨some 150, none, .dvd .rem true .i64 (.t 145) (.t 149)⟩, ⟨some 151, none, .fa 1 (.t 13)⟩, ⟨none, none, .sto 1 (.t 151) (.t 150)⟩])
 .skip))
 (.seq (.reg [0, 219, 1, 2, 3, 5, 6, 9, 11, 13] [
 ⟨some 152, none, .fa 1 (.t 3)⟩, ⟨some 153, none, .ld false 1 (.t 152)⟩, ⟨some 154, none, .ld true 5 (.t 13)⟩, ⟨some 155, none, .bsl 5 71 [.nil, .sc (.int .i64 0), .sc (.int .i64 0), .sc (.int .i64 0), .sc (.int .u64 0)] 1 [(0, (.t 154))]⟩, ⟨some 156, none, .app 5 71 56 (.t 153) (.t 155)⟩, ⟨some 157, none, .fa 1 (.t 3)⟩, ⟨none, none, .sto 1 (.t 157) (.t 156)⟩])
 (.reg [0, 219, 1, 2, 3, 5, 6, 9, 11] [
 ⟨some 158, none, .mv (.t 9)⟩, ⟨some 159, none, .mv (.t 5)⟩, ⟨some 160, none, .mv (.t 11)⟩, ⟨some 161, none, .ari .mul true .i64 (.c (.sc (.int .i64 2))) (.t 160)⟩, ⟨some 162, none, .ari .add true .i64 (.t 159) (.t 161)⟩, ⟨some 163, none, .bsl 1 3 [.sc (.int .i64 0)] 1 [(0, (.t 162))]⟩, ⟨some 164, none, .app 1 3 8 (.t 158) (.t 163)⟩, ⟨some 9, none, .mv (.t 164)⟩]))))
def ac29b_r39 : AC :=
 (.seq (.seq (.reg [0, 219, 1, 2, 3, 6, 9] [
 ⟨some 16, none, .mv (.c (.sc (.int .i64 0)))⟩])
 (.block 10
 (.loop [0, 219, 1, 2, 3, 6, 9, 16]
 (.seq (.seq (.reg [0, 219, 1, 2, 3, 6, 9, 16] [
 ⟨some 165, none, .mv (.t 16)⟩, ⟨some 166, none, .fa 1 (.t 1)⟩, ⟨some 167, none, .ld false 1 (.t 166)⟩, ⟨some 168, none, .dvd .rem true .u8 (.t 167) (.c (.sc (.int .u8 4)))⟩, ⟨some 169, none, .cnv true .i64 (.t 168)⟩, ⟨some 170, none, .cmp .leq .i64 (.t 165) (.t 169)⟩])
 (.cond (.t 170)
 .skip
 (.exit 10)))
 (.seq (.block 11
 (.seq (.reg [0, 219, 1, 2, 3, 6, 9, 16] [
 ⟨some 173, none, .fa 2 (.t 3)⟩, ⟨some 174, none, .ld false 1 (.t 173)⟩, ⟨some 175, none, .mv (.t 16)⟩, ⟨some 176, none, .bld [.sc (.int .i64 0), .sc (.int .i64 0), .sc (.int .i64 0)] [(0, 1, (.c (.sc (.int .i64 5)))), (1, 1, (.t 175))]⟩, ⟨some 177, none, .bsl 3 93 [.sc (.int .i64 0), .sc (.int .i64 0), .sc (.int .i64 0)] 1 [(0, (.t 176))]⟩, ⟨some 178, none, .app 3 93 24 (.t 174) (.t 177)⟩, ⟨some 179, none, .fa 2 (.t 3)⟩, ⟨none, none, .sto 1 (.t 179) (.t 178)⟩])
 (.drw [0, 219, 1, 2, 3, 6, 9, 16] [
 ⟨⟨some 180, none, .fa 3 (.t 3)⟩, [], [199], true⟩, ⟨⟨some 181, none, .ld false 1 (.t 180)⟩, [], [199], true⟩, ⟨⟨some 182, none, .mv (.t 9)⟩, [], [], true⟩, ⟨⟨some 183, none, .mv (.t 9)⟩, [], [], true⟩, ⟨⟨some 184, none, .len (.t 183)⟩, [], [], true⟩, ⟨⟨some 185, none, .ari .sub true .i64 (.t 184) (.c (.sc (.int .i64 1)))⟩, [], [], true⟩, ⟨⟨some 186, none, .fa 1 (.t 1)⟩, [], [], true⟩, ⟨⟨some 187, none, .ld false 1 (.t 186)⟩, [], [], true⟩, ⟨⟨some 188, none, .dvd .quo true .u8 (.t 187) (.c (.sc (.int .u8 4)))⟩, [], [], true⟩, ⟨⟨some 189, none, .cnv true .i64 (.t 188)⟩, [], [], true⟩, ⟨⟨some 190, none, .mv (.t 16)⟩, [], [], true⟩, ⟨⟨some 191, none, .ari .mul true .i64 (.c (.sc (.int .i64 3))) (.t 190)⟩, [], [], true⟩, ⟨⟨some 192, none, .ari .add true .i64 (.t 189) (.t 191)⟩, [], [], true⟩, ⟨⟨some 193, none, .mv (.t 9)⟩, [], [], true⟩, ⟨⟨some 194, none, .len (.t 193)⟩, [], [], true⟩, ⟨⟨some 195, none, .dvd .rem true .i64 (.t 192) (.t 194)⟩, [], [], true⟩, ⟨⟨some 196, none, .ari .sub true .i64 (.t 185) (.t 195)⟩, [], [], true⟩, ⟨⟨some 197, none, .ixs 1 (.t 182) (.t 196)⟩, [], [], true⟩, ⟨⟨some 198, none, .ld false 1 (.t 197)⟩, [], [], true⟩, ⟨⟨some 199, none, .bsl 1 3 [.sc (.int .i64 0)] 1 [(0, (.t 198))]⟩, [199], [], true⟩, ⟨⟨some 200, none, .app 1 3 8 (.t 181) (.t 199)⟩, [], [], false⟩, ⟨⟨some 201, none, .fa 3 (.t 3)⟩, [], [], false⟩, ⟨⟨none, none, .sto 1 (.t 201) (.t 200)⟩, [], [], false⟩])))
 (.reg [0, 219, 1, 2, 3, 6, 9, 16] [
 ⟨some 171, none, .mv (.t 16)⟩, ⟨some 172, none, .ari .add true .i64 (.t 171) (.c (.sc (.int .i64 1)))⟩, ⟨some 16, none, .mv (.t 172)⟩]))))))
 (.seq (.reg [0, 219, 2, 3, 6] [
 ⟨some 202, none, .ld true 4 (.t 3)⟩, ⟨some 203, none, .cal 48 [(.t 202)]⟩, ⟨some 17, none, .mv (.t 203)⟩])
 (.seq (.seq (.reg [0, 219, 2, 3, 6, 17] [
 ⟨some 18, none, .mv (.c (.sc (.int .i64 0)))⟩])
 (.block 12
 (.loop [0, 219, 2, 3, 6, 17, 18]
 (.seq (.seq (.reg [0, 219, 2, 3, 6, 17, 18] [
 ⟨some 204, none, .mv (.t 18)⟩, ⟨some 205, none, .mv (.t 6)⟩, ⟨some 206, none, .cmp .lss .i64 (.t 204) (.t 205)⟩])
 (.cond (.t 206)
 .skip
 (.exit 12)))
 (.seq (.block 13
 (.drw [0, 219, 2, 3, 6, 17, 18] [
 ⟨⟨some 209, none, .fa 1 (.t 3)⟩, [], [], true⟩, ⟨⟨some 210, none, .ld false 1 (.t 209)⟩, [], [], true⟩, ⟨⟨some 211, none, .mv (.t 18)⟩, [], [], true⟩, ⟨⟨some 212, none, .mv (.t 17)⟩, [], [], true⟩, ⟨⟨some 213, none, .mv (.t 18)⟩, [], [], true⟩, ⟨⟨some 214, none, .ixs 1 (.t 212) (.t 213)⟩, [], [], true⟩, ⟨⟨some 215, none, .ld false 1 (.t 214)⟩, [], [], true⟩, ⟨⟨some 216, none, .ixs 5 (.t 210) (.t 211)⟩, [], [], false⟩, ⟨⟨some 217, none, .fa 4 (.t 216)⟩, [], [], false⟩, ⟨⟨none, none, .sto 1 (.t 217) (.t 215)⟩, [], [], false⟩]))
 (.reg [0, 219, 2, 3, 6, 17, 18] [
 ⟨some 207, none, .mv (.t 18)⟩, ⟨some 208, none, .ari .add true .i64 (.t 207) (.c (.sc (.int .i64 1)))⟩, ⟨some 18, none, .mv (.t 208)⟩]))))))
 (.seq (.reg [0, 219, 2, 3] [
 ⟨some 218, none, .ld true 4 (.t 3)⟩, ⟨none, none, .sto 4 (.t 2) (.t 218)⟩])
 .ret))))
def ac29b_r20 : AC :=
 (.seq (.seq (.reg [0, 219, 1, 2, 3, 5, 6, 9] [
 ⟨some 11, none, .mv (.c (.sc (.int .i64 0)))⟩])
 (.block 6
 (.loop [0, 219, 1, 2, 3, 5, 6, 9, 11]
 (.seq (.seq (.reg [0, 219, 1, 2, 3, 5, 6, 9, 11] [
 ⟨some 77, none, .mv (.t 11)⟩, ⟨some 78, none, .mv (.t 6)⟩, ⟨some 79, none, .cmp .lss .i64 (.t 77) (.t 78)⟩])
 (.cond (.t 79)
 .skip
 (.exit 6)))
 (.seq (.block 7
 (.seq (.reg [0, 219, 1, 2, 3, 5, 6, 9, 11] [
 ⟨some 82, none, .fa 2 (.t 1)⟩, ⟨some 83, none, .ld false 1 (.t 82)⟩, ⟨some 84, none, .mv (.t 11)⟩, ⟨some 85, none, .ixs 6 (.t 83) (.t 84)⟩, ⟨some 86, none, .ld true 6 (.t 85)⟩, ⟨some 12, none, .alc [.sc (.int .u8 0), .sc (.int .u8 0), .sc (.int .u8 0), .sc (.int .u8 0), .sc (.int .u8 0), .sc (.int .u8 0)]⟩, ⟨none, none, .sto 6 (.t 12) (.t 86)⟩])
 (.seq (.reg [0, 219, 1, 2, 3, 5, 6, 9, 11, 12] [
 ⟨some 87, none, .bld [.nil, .sc (.int .i64 0), .sc (.int .i64 0), .sc (.int .i64 0), .sc (.int .u64 0)] [(2, 1, (.c (.sc (.int .i64 (-1))))), (3, 1, (.c (.sc (.int .i64 (-1)))))]⟩, ⟨some 13, none, .alc [.nil, .sc (.int .i64 0), .sc (.int .i64 0), .sc (.int .i64 0), .sc (.int .u64 0)]⟩, ⟨none, none, .sto 5 (.t 13) (.t 87)⟩])
 (.seq (.reg [0, 219, 1, 2, 3, 5, 6, 9, 11, 12, 13] [
 ⟨some 88, none, .ixa 6 1 (.t 12) (.c (.sc (.int .i64 1)))⟩, ⟨some 89, none, .ld false 1 (.t 88)⟩, ⟨some 90, none, .dvd .rem true .u8 (.t 89) (.c (.sc (.int .u8 5)))⟩, ⟨some 91, none, .cnv true .i64 (.t 90)⟩, ⟨some 14, none, .mv (.t 91)⟩])
 (.seq (.seq (.reg [0, 219, 1, 2, 3, 5, 6, 9, 11, 12, 13, 14] [
 ⟨some 92, none, .ixa 6 1 (.t 12) (.c (.sc (.int .i64 0)))⟩, ⟨some 93, none, .ld false 1 (.t 92)⟩, ⟨some 94, none, .dvd .rem true .u8 (.t 93) (.c (.sc (.int .u8 4)))⟩, ⟨some 95, none, .cmp .eql .u8 (.t 94) (.c (.sc (.int .u8 1)))⟩])
 (.cond (.t 95)
 (.reg [0, 219, 1, 2, 3, 5, 6, 9, 11, 12, 13, 14] [
 ⟨some 96, none, .mv (.t 11)⟩, ⟨some 97, none, .fa 3 (.t 13)⟩, ⟨none, none, .sto 1 (.t 97) (.t 96)⟩])
 .skip))
 (.seq (.seq (.reg [0, 219, 1, 2, 3, 5, 6, 9, 11, 12, 13, 14] [
 ⟨some 98, none, .ixa 6 1 (.t 12) (.c (.sc (.int .i64 0)))⟩, ⟨some 99, none, .ld false 1 (.t 98)⟩, ⟨some 100, none, .dvd .rem true .u8 (.t 99) (.c (.sc (.int .u8 4)))⟩, ⟨some 101, none, .cmp .eql .u8 (.t 100) (.c (.sc (.int .u8 2)))⟩])
 (.cond (.t 101)
 (.seq (.reg [0, 219, 1, 2, 3, 5, 6, 9, 11, 12, 13, 14] [
 ⟨some 102, none, .ixa 6 1 (.t 12) (.c (.sc (.int .i64 0)))⟩, ⟨some 103, none, .ld false 1 (.t 102)⟩, ⟨some 104, none, .dvd .quo true .u8 (.t 103) (.c (.sc (.int .u8 4)))⟩, ⟨some 105, none, .dvd .rem true .u8 (.t 104) (.c (.sc (.int .u8 16)))⟩, ⟨some 106, none, .cnv true .i64 (.t 105)⟩, ⟨some 107, none, .fa 2 (.t 13)⟩, ⟨none, none, .sto 1 (.t 107) (.t 106)⟩])
 (.reg [0, 219, 1, 2, 3, 5, 6, 9, 11, 12, 13, 14] [
 ⟨some 108, none, .mv (.t 14)⟩, ⟨some 109, none, .mn false (.t 108) (.c (.sc (.int .i64 3)))⟩, ⟨some 14, none, .mv (.t 109)⟩]))
 .skip))
 ac29b_r31))))))
 (.reg [0, 219, 1, 2, 3, 5, 6, 9, 11] [
 ⟨some 80, none, .mv (.t 11)⟩, ⟨some 81, none, .ari .add true .i64 (.t 80) (.c (.sc (.int .i64 1)))⟩, ⟨some 11, none, .mv (.t 81)⟩]))))))
 (.frz [] (.wk ac29b_r39)))
def ac29b : AC :=
 (.seq (.reg [0, 219, 0] [
 ⟨some 1, none, .box (.t 0)⟩, ⟨some 2, none, .alc [.nil, .nil, .nil, .nil]⟩])
 (.seq (.reg [0, 219, 1, 2] [
 ⟨some 19, none, .bld [.nil, .nil, .nil, .nil] []⟩, ⟨some 3, none, .alc [.nil, .nil, .nil, .nil]⟩, ⟨none, none, .sto 4 (.t 3) (.t 19)⟩])
 (.seq (.seq (.reg [0, 219, 1, 2, 3] [
 ⟨some 4, none, .mv (.c (.sc (.int .i64 0)))⟩])
 (.block 0
 (.loop [0, 219, 1, 2, 3, 4]
 (.seq (.seq (.reg [0, 219, 1, 2, 3, 4] [
 ⟨some 20, none, .mv (.t 4)⟩, ⟨some 21, none, .fa 0 (.t 1)⟩, ⟨some 22, none, .ld false 1 (.t 21)⟩, ⟨some 23, none, .dvd .rem true .u8 (.t 22) (.c (.sc (.int .u8 4)))⟩, ⟨some 24, none, .cnv true .i64 (.t 23)⟩, ⟨some 25, none, .cmp .leq .i64 (.t 20) (.t 24)⟩])
 (.cond (.t 25)
 .skip
 (.exit 0)))
 (.seq (.block 1
 (.reg [0, 219, 1, 2, 3, 4] [
 ⟨some 28, none, .fa 0 (.t 3)⟩, ⟨some 29, none, .ld false 1 (.t 28)⟩, ⟨some 30, none, .mv (.t 4)⟩, ⟨some 31, none, .bld [.sc (.int .i64 0), .sc (.int .i64 0), .sc (.int .i64 0)] [(0, 1, (.c (.sc (.int .i64 3)))), (1, 1, (.t 30))]⟩, ⟨some 32, none, .bsl 3 93 [.sc (.int .i64 0), .sc (.int .i64 0), .sc (.int .i64 0)] 1 [(0, (.t 31))]⟩, ⟨some 33, none, .app 3 93 24 (.t 29) (.t 32)⟩, ⟨some 34, none, .fa 0 (.t 3)⟩, ⟨none, none, .sto 1 (.t 34) (.t 33)⟩]))
 (.reg [0, 219, 1, 2, 3, 4] [
 ⟨some 26, none, .mv (.t 4)⟩, ⟨some 27, none, .ari .add true .i64 (.t 26) (.c (.sc (.int .i64 1)))⟩, ⟨some 4, none, .mv (.t 27)⟩]))))))
 (.seq (.reg [0, 219, 1, 2, 3] [
 ⟨some 35, none, .fa 0 (.t 3)⟩, ⟨some 36, none, .ld false 1 (.t 35)⟩, ⟨some 37, none, .len (.t 36)⟩, ⟨some 5, none, .mv (.t 37)⟩])
 (.seq (.reg [0, 219, 1, 2, 3, 5] [
 ⟨some 38, none, .fa 2 (.t 1)⟩, ⟨some 39, none, .ld false 1 (.t 38)⟩, ⟨some 40, none, .len (.t 39)⟩, ⟨some 41, none, .mn false (.t 40) (.c (.sc (.int .i64 9)))⟩, ⟨some 6, none, .mv (.t 41)⟩])
 (.seq (.reg [0, 219, 1, 2, 3, 5, 6] [
 ⟨some 42, none, .bsl 1 3 [.sc (.int .i64 0)] 0 []⟩, ⟨some 7, none, .mv (.t 42)⟩])
 (.seq (.seq (.reg [0, 219, 1, 2, 3, 5, 6, 7] [
 ⟨some 8, none, .mv (.c (.sc (.int .i64 0)))⟩])
 (.block 2
 (.loop [0, 219, 1, 2, 3, 5, 6, 7, 8]
 (.seq (.seq (.reg [0, 219, 1, 2, 3, 5, 6, 7, 8] [
 ⟨some 43, none, .mv (.t 8)⟩, ⟨some 44, none, .mv (.t 6)⟩, ⟨some 45, none, .cmp .lss .i64 (.t 43) (.t 44)⟩])
 (.cond (.t 45)
 .skip
 (.exit 2)))
 (.seq (.block 3
 (.seq (.reg [0, 219, 1, 2, 3, 5, 6, 7, 8] [
 ⟨some 48, none, .fa 2 (.t 1)⟩, ⟨some 49, none, .ld false 1 (.t 48)⟩, ⟨some 50, none, .mv (.t 8)⟩, ⟨some 51, none, .ixs 6 (.t 49) (.t 50)⟩, ⟨some 52, none, .ixa 6 1 (.t 51) (.c (.sc (.int .i64 0)))⟩, ⟨some 53, none, .ld false 1 (.t 52)⟩, ⟨some 54, none, .dvd .rem true .u8 (.t 53) (.c (.sc (.int .u8 4)))⟩, ⟨some 55, none, .cmp .eql .u8 (.t 54) (.c (.sc (.int .u8 1)))⟩])
 (.cond (.t 55)
 (.reg [0, 219, 1, 2, 3, 5, 6, 7, 8] [
 ⟨some 56, none, .mv (.t 7)⟩, ⟨some 57, none, .mv (.t 5)⟩, ⟨some 58, none, .mv (.t 8)⟩, ⟨some 59, none, .ari .mul true .i64 (.c (.sc (.int .i64 2))) (.t 58)⟩, ⟨some 60, none, .ari .add true .i64 (.t 57) (.t 59)⟩, ⟨some 61, none, .ari .add true .i64 (.t 60) (.c (.sc (.int .i64 1)))⟩, ⟨some 62, none, .bsl 1 3 [.sc (.int .i64 0)] 1 [(0, (.t 61))]⟩, ⟨some 63, none, .app 1 3 8 (.t 56) (.t 62)⟩, ⟨some 7, none, .mv (.t 63)⟩])
 .skip)))
 (.reg [0, 219, 1, 2, 3, 5, 6, 7, 8] [
 ⟨some 46, none, .mv (.t 8)⟩, ⟨some 47, none, .ari .add true .i64 (.t 46) (.c (.sc (.int .i64 1)))⟩, ⟨some 8, none, .mv (.t 47)⟩]))))))
 (.seq (.reg [0, 219, 1, 2, 3, 5, 6, 7] [
 ⟨some 64, none, .bsl 1 3 [.sc (.int .i64 0)] 0 []⟩, ⟨some 9, none, .mv (.t 64)⟩])
 (.seq (.seq (.reg [0, 219, 1, 2, 3, 5, 6, 7, 9] [
 ⟨some 10, none, .mv (.c (.sc (.int .i64 0)))⟩])
 (.block 4
 (.loop [0, 219, 1, 2, 3, 5, 6, 7, 9, 10]
 (.seq (.seq (.reg [0, 219, 1, 2, 3, 5, 6, 7, 9, 10] [
 ⟨some 65, none, .mv (.t 10)⟩, ⟨some 66, none, .mv (.t 5)⟩, ⟨some 67, none, .cmp .lss .i64 (.t 65) (.t 66)⟩])
 (.cond (.t 67)
 .skip
 (.exit 4)))
 (.seq (.block 5
 (.reg [0, 219, 1, 2, 3, 5, 6, 7, 9, 10] [
 ⟨some 70, none, .mv (.t 9)⟩, ⟨some 71, none, .mv (.t 10)⟩, ⟨some 72, none, .bsl 1 3 [.sc (.int .i64 0)] 1 [(0, (.t 71))]⟩, ⟨some 73, none, .app 1 3 8 (.t 70) (.t 72)⟩, ⟨some 9, none, .mv (.t 73)⟩]))
 (.reg [0, 219, 1, 2, 3, 5, 6, 7, 9, 10] [
 ⟨some 68, none, .mv (.t 10)⟩, ⟨some 69, none, .ari .add true .i64 (.t 68) (.c (.sc (.int .i64 1)))⟩, ⟨some 10, none, .mv (.t 69)⟩]))))))
 (.seq (.reg [0, 219, 1, 2, 3, 5, 6, 7, 9] [
 ⟨some 74, none, .mv (.t 9)⟩, ⟨some 75, none, .mv (.t 7)⟩, ⟨some 76, none, .app 1 3 8 (.t 74) (.t 75)⟩, ⟨some 9, none, .mv (.t 76)⟩])
 ac29b_r20))))))))))
def rv29b : List RV := [.cell 2 true 4]
theorem ok29b : fnOk Try.prog ac29b rv29b Try.f29 = true := by kernel_rfl
end Go.Proofs.Ytbdamnfkgdbidaa.Txt
