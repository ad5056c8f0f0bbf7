/- W L M N O P Y X AA: lemmas for PMatches -/
import Derived.Test.YtbdamnfkgdbidaaPart11
import Derived.Test.YtbdamnfkgdbidaaPart10
set_option linter.unusedSimpArgs false
set_option linter.unusedVariables false
namespace Go.Proofs.Ytbdamnfkgdbidaa
open Go Go.Vc Txt
theorem one_set (z : Int) : (List.replicate 1 (0 : Int)).set 0 z = [z] := rfl
theorem takeOneI (z : Int) : List.take 1 [z] = [z] := rfl
theorem skeys_ok (p : Packed) (hp : p.Ok) :
    FnOK Try.prog 74 [.agg (packedC false p)] (fun v => ∃ l : List Int, v = .sl true 1 (rows u64C l) ∧ l.length = p.ins.length + 2 * p.blocks.length) := by
  refine FnOK.of_awp Try.func74 ok74b (by show 1 ≤ _; decide) ?_
  simp only [ac74b, rv74b, push_cast, reduceIte, Nat.reduceEqDiff, Nat.reduceAdd, Nat.reduceSub, Nat.reduceMul, Nat.reduceBEq, Nat.reduceLT, Nat.reduceLeDiff, reduceCtorEq, Int.reduceToNat, Int.reduceNeg]
  have h1 := hp.ins
  have h2 := hp.nb
  refine cal_sub (signals_ok p (by omega) (by omega)) (by simp only [push_cast, reduceIte, Nat.reduceEqDiff, Nat.reduceAdd, Nat.reduceSub, Nat.reduceMul, Nat.reduceBEq, Nat.reduceLT, Nat.reduceLeDiff, reduceCtorEq, Int.reduceToNat, Int.reduceNeg]) ?_
  simp only [push_cast, reduceIte, Nat.reduceEqDiff, Nat.reduceAdd, Nat.reduceSub, Nat.reduceMul, Nat.reduceBEq, Nat.reduceLT, Nat.reduceLeDiff, reduceCtorEq, Int.reduceToNat, Int.reduceNeg]
  obtain ⟨S, hS⟩ : ∃ S : Nat, S = p.ins.length + 2 * p.blocks.length := ⟨_, rfl⟩
  rw [show (p.ins.length : Int) + 2 * (p.blocks.length : Int) = (S : Int) by omega, ← hS]
  simp only [push_cast, reduceIte, Nat.reduceEqDiff, Nat.reduceAdd, Nat.reduceSub, Nat.reduceMul, Nat.reduceBEq, Nat.reduceLT, Nat.reduceLeDiff, reduceCtorEq, Int.reduceToNat, Int.reduceNeg]
  refine ⟨by omega, ?_⟩
  refine loop_of (fun m st => ∃ (k : Nat) (o : List Int), k ≤ p.ins.length ∧ m = p.ins.length - k ∧ o.length = S ∧
    st = ⟨[(1, .ptr 1 0), (3, .view 13 0 S), (4, .int k)], [(1, packedC false p)], [(13, ⟨1, 69, rows u64C o⟩)], []⟩) p.ins.length ?_ ?_
  · refine ⟨0, List.replicate S 0, by omega, by omega, by simp, ?_⟩
    simp only [push_cast, reduceIte, Nat.reduceEqDiff, Nat.reduceAdd, Nat.reduceSub, Nat.reduceMul, Nat.reduceBEq, Nat.reduceLT, Nat.reduceLeDiff, reduceCtorEq, Int.reduceToNat, Int.reduceNeg]
    simp
  · rintro m st ⟨k, o, hk, rfl, ho, rfl⟩
    simp only [push_cast, reduceIte, Nat.reduceEqDiff, Nat.reduceAdd, Nat.reduceSub, Nat.reduceMul, Nat.reduceBEq, Nat.reduceLT, Nat.reduceLeDiff, reduceCtorEq, Int.reduceToNat, Int.reduceNeg]
    refine cond_dec (fun h3 => ?_) fun h3 => ?_
    · have hk' : k < p.ins.length := by omega
      refine ⟨by omega, by omega, by omega, by omega, by omega, by omega, by simp, ?_⟩
      refine dcal_of (words_ok _ (by simp)) ⟨_, 0, rfl⟩ ?_
      rintro _ ⟨x, rfl⟩
      refine ⟨rfl, ?_⟩
      simp only [push_cast, reduceIte, Nat.reduceEqDiff, Nat.reduceAdd, Nat.reduceSub, Nat.reduceMul, Nat.reduceBEq, Nat.reduceLT, Nat.reduceLeDiff, reduceCtorEq, Int.reduceToNat, Int.reduceNeg]
      refine ⟨⟨by omega, by omega⟩, by omega, ⟨by omega, by omega⟩, _, ?_, k + 1, o.set k x, by omega, rfl, by simpa using ho, ?_⟩
      · omega
      · simp
    · refine loop_of (fun m st => ∃ (k : Nat) (o : List Int), k ≤ p.blocks.length ∧ m = p.blocks.length - k ∧ o.length = S ∧
        st = ⟨[(1, .ptr 1 0), (3, .view 13 0 S), (5, .int k)], [(1, packedC false p)], [(13, ⟨1, 69, rows u64C o⟩)], []⟩) p.blocks.length ?_ ?_
      · refine ⟨0, o, by omega, by omega, ho, ?_⟩
        simp only [push_cast, reduceIte, Nat.reduceEqDiff, Nat.reduceAdd, Nat.reduceSub, Nat.reduceMul, Nat.reduceBEq, Nat.reduceLT, Nat.reduceLeDiff, reduceCtorEq, Int.reduceToNat, Int.reduceNeg]
      · clear hk h3 ho
        clear k o
        rintro m st ⟨k, o, hk, rfl, ho, rfl⟩
        simp only [push_cast, reduceIte, Nat.reduceEqDiff, Nat.reduceAdd, Nat.reduceSub, Nat.reduceMul, Nat.reduceBEq, Nat.reduceLT, Nat.reduceLeDiff, reduceCtorEq, Int.reduceToNat, Int.reduceNeg]
        refine cond_dec (fun h3 => ?_) fun h3 => ?_
        · have hk' : k < p.blocks.length := by omega
          refine ⟨by omega, by omega, ?_⟩
          refine cond_dec (fun h4 => ?_) fun h4 => ?_
          · refine ⟨by omega, by omega, by omega, by omega, by simp, ?_⟩
            refine dcal_of (words_ok _ (by simp)) ⟨_, 0, rfl⟩ ?_
            rintro _ ⟨x, rfl⟩
            refine ⟨rfl, ?_⟩
            simp only [push_cast, reduceIte, Nat.reduceEqDiff, Nat.reduceAdd, Nat.reduceSub, Nat.reduceMul, Nat.reduceBEq, Nat.reduceLT, Nat.reduceLeDiff, reduceCtorEq, Int.reduceToNat, Int.reduceNeg]
            refine ⟨⟨by omega, by omega⟩, by omega, ?_⟩
            refine ⟨by omega, by omega, by omega, by omega, by omega, by simp, ?_⟩
            refine dcal_of (words_ok _ (by simp)) ⟨_, 0, rfl⟩ ?_
            rintro _ ⟨y, rfl⟩
            refine ⟨rfl, ?_⟩
            simp only [push_cast, reduceIte, Nat.reduceEqDiff, Nat.reduceAdd, Nat.reduceSub, Nat.reduceMul, Nat.reduceBEq, Nat.reduceLT, Nat.reduceLeDiff, reduceCtorEq, Int.reduceToNat, Int.reduceNeg]
            refine ⟨⟨by omega, by omega⟩, by simp; omega, ⟨by omega, by omega⟩, _, ?_, k + 1, _, by omega, rfl, by simpa using ho, rfl⟩
            omega
          · refine ⟨⟨by omega, by omega⟩, _, ?_, k + 1, o, by omega, rfl, ho, ?_⟩
            · omega
            · simp
        · refine cal_subO (order_ok p hp) (by simp only [push_cast, reduceIte, Nat.reduceEqDiff, Nat.reduceAdd, Nat.reduceSub, Nat.reduceMul, Nat.reduceBEq, Nat.reduceLT, Nat.reduceLeDiff, reduceCtorEq, Int.reduceToNat, Int.reduceNeg]) ?_
          rintro _ ⟨l, rfl, hl, hlb⟩
          simp only [push_cast, reduceIte, Nat.reduceEqDiff, Nat.reduceAdd, Nat.reduceSub, Nat.reduceMul, Nat.reduceBEq, Nat.reduceLT, Nat.reduceLeDiff, reduceCtorEq, Int.reduceToNat, Int.reduceNeg]
          refine loop_of (fun m st => ∃ (k : Nat) (o : List Int), k ≤ l.length ∧ m = l.length - k ∧ o.length = S ∧
            st = ⟨[(1, .ptr 1 0), (3, .view 13 0 S), (6, .sl true 1 (ints l)), (7, .int k)], [(1, packedC false p)], [(13, ⟨1, 69, rows u64C o⟩)], []⟩) l.length ?_ ?_
          · refine ⟨0, o, by omega, by omega, ho, ?_⟩
            simp only [push_cast, reduceIte, Nat.reduceEqDiff, Nat.reduceAdd, Nat.reduceSub, Nat.reduceMul, Nat.reduceBEq, Nat.reduceLT, Nat.reduceLeDiff, reduceCtorEq, Int.reduceToNat, Int.reduceNeg]
          · clear hk h3 ho
            clear k o
            rintro m st ⟨k, o, hk, rfl, ho, rfl⟩
            simp only [push_cast, reduceIte, Nat.reduceEqDiff, Nat.reduceAdd, Nat.reduceSub, Nat.reduceMul, Nat.reduceBEq, Nat.reduceLT, Nat.reduceLeDiff, reduceCtorEq, Int.reduceToNat, Int.reduceNeg]
            refine cond_dec (fun h3 => ?_) fun h3 => ?_
            · have hk' : k < l.length := by omega
              have hgl : l.getD k default = l[k] := by simp [hk']
              have hx := hlb _ (List.getElem_mem hk')
              rw [hgl]
              generalize hxe : l[k] = x at hx hgl ⊢
              have hbm : p.blocks.getD x.toNat default ∈ p.blocks := by
                have : x.toNat < p.blocks.length := by omega
                simp [List.getD_eq_getElem?_getD, this]
              have hnin := hp.nin _ hbm
              have hsb := hp.sb _ hbm
              refine ⟨by omega, hk', by omega, by omega, ?_⟩
              refine cond_dec (fun h4 => ?_) fun h4 => ?_
              · refine ⟨⟨by omega, by omega⟩, _, ?_, k + 1, o, by omega, rfl, ho, ?_⟩
                · omega
                · simp
              · refine ⟨by simp, ?_⟩
                generalize p.blocks.getD x.toNat default = q at hnin hsb ⊢
                refine loop_of (fun m st => ∃ (t : Nat) (ys : List Int), t ≤ q.ins.length ∧ m = q.ins.length - t ∧ ys.length = 3 + t ∧
                  st = ⟨[(1, .ptr 1 0), (3, .view 13 0 S), (6, .sl true 1 (ints l)), (7, .int k), (8, .ptr 8 0), (9, .view 114 0 ys.length), (10, .int t)], [(1, packedC false p), (8, blockC false q)], [(13, ⟨1, 69, rows u64C o⟩), (114, ⟨1, 3, ints ys⟩)], []⟩) q.ins.length ?_ ?_
                · refine ⟨0, (((List.replicate 3 (0 : Int)).set 0 4).set 1 q.table).set 2 q.ram, by omega, by omega, by simp, ?_⟩
                  simp only [push_cast, reduceIte, Nat.reduceEqDiff, Nat.reduceAdd, Nat.reduceSub, Nat.reduceMul, Nat.reduceBEq, Nat.reduceLT, Nat.reduceLeDiff, reduceCtorEq, Int.reduceToNat, Int.reduceNeg]
                · rintro m st ⟨t, ys, ht, rfl, hys, rfl⟩
                  simp only [push_cast, reduceIte, Nat.reduceEqDiff, Nat.reduceAdd, Nat.reduceSub, Nat.reduceMul, Nat.reduceBEq, Nat.reduceLT, Nat.reduceLeDiff, reduceCtorEq, Int.reduceToNat, Int.reduceNeg]
                  refine cond_dec (fun h5 => ?_) fun h5 => ?_
                  · have ht' : t < q.ins.length := by omega
                    have hgs : q.ins.getD t default = q.ins[t] := by simp [ht']
                    have hs := hsb _ (List.getElem_mem ht')
                    rw [hgs]
                    generalize q.ins[t] = s at hs ⊢
                    generalize IntKind.i64.wrap (o.getD s.toNat default) = z
                    rw [show (List.replicate 1 (0 : Int)).set 0 z = [z] from rfl]
                    simp only [push_cast, reduceIte, Nat.reduceEqDiff, Nat.reduceAdd, Nat.reduceSub, Nat.reduceMul, Nat.reduceBEq, Nat.reduceLT, Nat.reduceLeDiff, reduceCtorEq, Int.reduceToNat, Int.reduceNeg, show List.take 1 [z] = [z] from rfl]
                    refine ⟨by omega, ht', ⟨by omega, by omega⟩, by omega, by decide, ⟨by omega, by omega⟩, ⟨by omega, by omega⟩, _, ?_, t + 1, ys ++ [z], by omega, rfl, by simp; omega, ?_⟩
                    · omega
                    · simp
                  · rw [hgl]
                    refine ⟨by omega, hk', by omega, by omega, ?_⟩
                    refine dcal_of (words_ok _ (by rw [List.take_length]; omega)) ⟨_, 0, rfl⟩ ?_
                    rintro _ ⟨y, rfl⟩
                    refine ⟨rfl, ?_⟩
                    simp only [push_cast, reduceIte, Nat.reduceEqDiff, Nat.reduceAdd, Nat.reduceSub, Nat.reduceMul, Nat.reduceBEq, Nat.reduceLT, Nat.reduceLeDiff, reduceCtorEq, Int.reduceToNat, Int.reduceNeg]
                    refine ⟨⟨by omega, by omega⟩, by omega, ⟨by omega, by omega⟩, _, ?_, k + 1, _, by omega, rfl, by simpa using ho, rfl⟩
                    omega
            · rw [List.take_of_length_le (by omega)]
              exact ⟨fun _ _ => trivial, o, rfl, ho⟩
theorem keys_ok (p : Packed) (hp : p.Ok) :
    FnOK Try.prog 48 [.agg (packedC false p)] (fun v => ∃ l : List Int, v = .sl true 1 (rows u64C l) ∧ l.length = p.blocks.length) := by
  refine FnOK.of_awp Try.func48 ok48 (by show 1 ≤ _; decide) ?_
  simp only [ac48, rv48, push_cast, reduceIte, Nat.reduceEqDiff, Nat.reduceAdd, Nat.reduceSub, Nat.reduceMul, Nat.reduceBEq, Nat.reduceLT, Nat.reduceLeDiff, reduceCtorEq, Int.reduceToNat, Int.reduceNeg]
  have h1 := hp.ins
  have h2 := hp.nb
  refine cal_subO (skeys_ok p hp) (by simp only [push_cast, reduceIte, Nat.reduceEqDiff, Nat.reduceAdd, Nat.reduceSub, Nat.reduceMul, Nat.reduceBEq, Nat.reduceLT, Nat.reduceLeDiff, reduceCtorEq, Int.reduceToNat, Int.reduceNeg]) ?_
  rintro _ ⟨l, rfl, hl⟩
  simp only [push_cast, reduceIte, Nat.reduceEqDiff, Nat.reduceAdd, Nat.reduceSub, Nat.reduceMul, Nat.reduceBEq, Nat.reduceLT, Nat.reduceLeDiff, reduceCtorEq, Int.reduceToNat, Int.reduceNeg]
  refine loop_of (fun m st => ∃ (k : Nat) (o : List Int), k ≤ p.blocks.length ∧ m = p.blocks.length - k ∧ o.length = k ∧
    st = ⟨[(1, .ptr 1 0), (3, .sl true 1 (rows u64C l)), (4, .view 9 0 k), (5, .int k)], [(1, packedC false p)], [(9, ⟨1, 69, rows u64C o⟩)], []⟩) p.blocks.length ?_ ?_
  · refine ⟨0, [], by omega, by omega, rfl, ?_⟩
    simp only [push_cast, reduceIte, Nat.reduceEqDiff, Nat.reduceAdd, Nat.reduceSub, Nat.reduceMul, Nat.reduceBEq, Nat.reduceLT, Nat.reduceLeDiff, reduceCtorEq, Int.reduceToNat, Int.reduceNeg]
    rfl
  · rintro m st ⟨k, o, hk, rfl, ho, rfl⟩
    simp only [push_cast, reduceIte, Nat.reduceEqDiff, Nat.reduceAdd, Nat.reduceSub, Nat.reduceMul, Nat.reduceBEq, Nat.reduceLT, Nat.reduceLeDiff, reduceCtorEq, Int.reduceToNat, Int.reduceNeg]
    refine cond_dec (fun h3 => ?_) fun h3 => ?_
    · have hk' : k < p.blocks.length := by omega
      refine ⟨by omega, by omega, by omega, by omega, ?_⟩
      refine cond_dec (fun h4 => ?_) fun h4 => ?_
      · simp only [one_set, push_cast, reduceIte, Nat.reduceEqDiff, Nat.reduceAdd, Nat.reduceSub, Nat.reduceMul, Nat.reduceBEq, Nat.reduceLT, Nat.reduceLeDiff, reduceCtorEq, Int.reduceToNat, Int.reduceNeg, takeOneI]
        refine ⟨by omega, by omega, by omega, by decide, ⟨ho.symm, by omega, by omega⟩, ⟨by omega, by omega⟩, _, ?_, k + 1, _, by omega, rfl, ?_, rfl⟩
        · omega
        · simpa using ho
      · simp only [one_set, push_cast, reduceIte, Nat.reduceEqDiff, Nat.reduceAdd, Nat.reduceSub, Nat.reduceMul, Nat.reduceBEq, Nat.reduceLT, Nat.reduceLeDiff, reduceCtorEq, Int.reduceToNat, Int.reduceNeg, takeOneI]
        refine ⟨by omega, by omega, by decide, ⟨ho.symm, by omega, by omega⟩, ⟨by omega, by omega⟩, _, ?_, k + 1, _, by omega, rfl, ?_, rfl⟩
        · omega
        · simpa using ho
    · rw [List.take_of_length_le (by omega)]
      exact ⟨fun _ _ => trivial, o, rfl, by omega⟩
end Go.Proofs.Ytbdamnfkgdbidaa
namespace Go.Proofs.Ytbdamnfkgdbidaa
open Go Go.Vc Txt
@[push_cast] theorem set_one {α : Type} (z x : α) : (List.replicate 1 z).set 0 x = [x] := rfl
@[push_cast] theorem take_all {α : Type} (l : List α) : l.take l.length = l := List.take_length
@[push_cast] theorem take_one {α : Type} (x : α) : List.take 1 [x] = [x] := rfl
def fixF (j : Job) (l : List Int) (i : Nat) : Int := if i < l.length ∧ l.getD i default % 3 = 0 then l.getD i default / 3 % (j.g.w * j.g.h) else -1
def fixedF (j : Job) (l : List Int) : List Int := (List.range j.p.blocks.length).map (fixF j l)
theorem map_range_succ {α : Type} (f : Nat → α) (k : Nat) : (List.range (k + 1)).map f = (List.range k).map f ++ [f k] := by simp [List.range_succ]
theorem fixed_ok (j : Job) (hj : j.Ok) (l : List Int) (hl : (l.length : Int) ≤ 1000000) (hb : ∀ x ∈ l, 0 ≤ x ∧ x ≤ 255) :
    FnEq Try.prog 22 [.agg (jobC false j), .sl false 1 (bytes8 l)] (.sl true 1 (ints (fixedF j l))) := by
  refine FnEq.of_awp Try.func22 ok22 (by show 2 ≤ _; decide) (by simp only [push_cast, reduceIte, Nat.reduceEqDiff, Nat.reduceAdd, Nat.reduceSub, Nat.reduceMul, Nat.reduceBEq, Nat.reduceLT, Nat.reduceLeDiff, reduceCtorEq, Int.reduceToNat, Int.reduceNeg] <;> first | exact fun _ _ => trivial | simp) ?_
  simp only [ac22, rv22, push_cast, reduceIte, Nat.reduceEqDiff, Nat.reduceAdd, Nat.reduceSub, Nat.reduceMul, Nat.reduceBEq, Nat.reduceLT, Nat.reduceLeDiff, reduceCtorEq, Int.reduceToNat, Int.reduceNeg]
  have hnb := hj.nb
  have hwh := hj.wh
  have hw := hj.w
  have hh := hj.h
  have hpos : 0 < j.g.w * j.g.h := Int.mul_pos hw.1 hh.1
  refine loop_of (fun m st => ∃ k : Nat, k ≤ j.p.blocks.length ∧ m = j.p.blocks.length - k ∧
    st = ⟨[(1, .sl false 1 (bytes8 l)), (2, .ptr 2 0), (5, .view 8 0 k), (6, .int k)], [(2, jobC false j)], [(8, ⟨1, 3, ints ((List.range k).map (fixF j l))⟩)], []⟩) j.p.blocks.length ?_ ?_
  · refine ⟨0, by omega, by omega, ?_⟩
    simp only [push_cast, reduceIte, Nat.reduceEqDiff, Nat.reduceAdd, Nat.reduceSub, Nat.reduceMul, Nat.reduceBEq, Nat.reduceLT, Nat.reduceLeDiff, reduceCtorEq, Int.reduceToNat, Int.reduceNeg]
    rfl
  · rintro m st ⟨k, hk, rfl, rfl⟩
    simp only [push_cast, reduceIte, Nat.reduceEqDiff, Nat.reduceAdd, Nat.reduceSub, Nat.reduceMul, Nat.reduceBEq, Nat.reduceLT, Nat.reduceLeDiff, reduceCtorEq, Int.reduceToNat, Int.reduceNeg]
    have hlen : ((List.range k).map (fixF j l)).length = k := by simp
    have hsucc := map_range_succ (fixF j l) k
    refine cond_dec (fun h => ?_) fun h => ?_
    · refine cut_of ⟨[(1, .sl false 1 (bytes8 l)), (2, .ptr 2 0), (5, .view 8 0 k), (6, .int k), (7, .int (-1)), (28, .bool (decide (k < l.length ∧ l.getD k default % 3 = 0)))], [(2, jobC false j)], [(8, ⟨1, 3, ints ((List.range k).map (fixF j l))⟩)], []⟩ ?_ ?_
      · refine grd_dec rfl (fun h1 => ?_) fun h1 => ?_ <;> simp only [push_cast, reduceIte, Nat.reduceEqDiff, Nat.reduceAdd, Nat.reduceSub, Nat.reduceMul, Nat.reduceBEq, Nat.reduceLT, Nat.reduceLeDiff, reduceCtorEq, Int.reduceToNat, Int.reduceNeg]
        · have h1' : k < l.length := by omega
          have hx := hb _ (show l.getD k default ∈ l by simp [List.getD_eq_getElem?_getD, h1'])
          refine ⟨⟨by omega, by omega⟩, h1', ⟨by omega, by omega, by omega⟩, ?_⟩
          rw [show decide (k < l.length ∧ l.getD k default % 3 = 0) = decide (l.getD k default % 3 = 0) from by rw [decide_eq_decide]; omega]
        · have h1' : ¬ k < l.length := by omega
          simp [h1']
      simp only [push_cast, reduceIte, Nat.reduceEqDiff, Nat.reduceAdd, Nat.reduceSub, Nat.reduceMul, Nat.reduceBEq, Nat.reduceLT, Nat.reduceLeDiff, reduceCtorEq, Int.reduceToNat, Int.reduceNeg]
      refine cond_dec (fun h1 => ?_) fun h1 => ?_
      · have hx := hb _ (show l.getD k default ∈ l by simp [List.getD_eq_getElem?_getD, h1.1])
        have hf : fixF j l k = l.getD k default / 3 % (j.g.w * j.g.h) := by rw [fixF, if_pos h1]
        rw [hf] at hsucc
        refine ⟨⟨by omega, by omega⟩, h1.1, ⟨by omega, by omega, by omega⟩, ⟨by omega, by omega⟩, ⟨by omega, by omega⟩, ⟨by omega, by omega, hpos⟩, by simp, ⟨hlen.symm, by omega, by omega⟩, ⟨by omega, by omega⟩, _, ?_, k + 1, by omega, rfl, ?_⟩
        · omega
        · rw [hsucc]; simp
      · have hf : fixF j l k = -1 := by rw [fixF, if_neg h1]
        rw [hf] at hsucc
        refine ⟨by simp, ⟨hlen.symm, by omega, by omega⟩, ⟨by omega, by omega⟩, _, ?_, k + 1, by omega, rfl, ?_⟩
        · omega
        · rw [hsucc]; simp
    · have hkk : k = j.p.blocks.length := by omega
      subst hkk
      rw [List.take_of_length_le (by omega)]
      exact ⟨fun _ _ => trivial, .refl _⟩
end Go.Proofs.Ytbdamnfkgdbidaa
namespace Go.Proofs.Ytbdamnfkgdbidaa
open Go Go.Vc Txt
def kindF (l : List Int) (i : Nat) : Int := if i < l.length ∧ l.getD i default % 8 < 2 then l.getD i default % 8 else 2
def kindsF (n : Nat) (l : List Int) : List Int := (List.range n).map (kindF l)
theorem kinds_ok (n : Nat) (hn : (n : Int) ≤ 1000000) (l : List Int) (hl : (l.length : Int) ≤ 1000000) (hb : ∀ x ∈ l, 0 ≤ x ∧ x ≤ 255) :
    FnEq Try.prog 49 [.int n, .sl false 1 (bytes8 l)] (.sl true 1 (ints (kindsF n l))) := by
  refine FnEq.of_awp Try.func49 ok49 (by show 2 ≤ _; decide) (by simp only [push_cast, reduceIte, Nat.reduceEqDiff, Nat.reduceAdd, Nat.reduceSub, Nat.reduceMul, Nat.reduceBEq, Nat.reduceLT, Nat.reduceLeDiff, reduceCtorEq, Int.reduceToNat, Int.reduceNeg] <;> first | exact fun _ _ => trivial | simp) ?_
  simp only [ac49, rv49, push_cast, reduceIte, Nat.reduceEqDiff, Nat.reduceAdd, Nat.reduceSub, Nat.reduceMul, Nat.reduceBEq, Nat.reduceLT, Nat.reduceLeDiff, reduceCtorEq, Int.reduceToNat, Int.reduceNeg]
  refine loop_of (fun m st => ∃ k : Nat, k ≤ n ∧ m = n - k ∧
    st = ⟨[(0, .int n), (1, .sl false 1 (bytes8 l)), (5, .view 8 0 k), (6, .int k)], [], [(8, ⟨1, 3, ints ((List.range k).map (kindF l))⟩)], []⟩) n ?_ ?_
  · refine ⟨0, by omega, by omega, ?_⟩
    simp only [push_cast, reduceIte, Nat.reduceEqDiff, Nat.reduceAdd, Nat.reduceSub, Nat.reduceMul, Nat.reduceBEq, Nat.reduceLT, Nat.reduceLeDiff, reduceCtorEq, Int.reduceToNat, Int.reduceNeg]
    rfl
  · rintro m st ⟨k, hk, rfl, rfl⟩
    simp only [push_cast, reduceIte, Nat.reduceEqDiff, Nat.reduceAdd, Nat.reduceSub, Nat.reduceMul, Nat.reduceBEq, Nat.reduceLT, Nat.reduceLeDiff, reduceCtorEq, Int.reduceToNat, Int.reduceNeg]
    have hlen : ((List.range k).map (kindF l)).length = k := by simp
    have hsucc := map_range_succ (kindF l) k
    refine cond_dec (fun h => ?_) fun h => ?_
    · refine cut_of ⟨[(0, .int n), (1, .sl false 1 (bytes8 l)), (5, .view 8 0 k), (6, .int k), (7, .int 2), (25, .bool (decide (k < l.length ∧ l.getD k default % 8 < 2)))], [], [(8, ⟨1, 3, ints ((List.range k).map (kindF l))⟩)], []⟩ ?_ ?_
      · refine grd_dec rfl (fun h1 => ?_) fun h1 => ?_ <;> simp only [push_cast, reduceIte, Nat.reduceEqDiff, Nat.reduceAdd, Nat.reduceSub, Nat.reduceMul, Nat.reduceBEq, Nat.reduceLT, Nat.reduceLeDiff, reduceCtorEq, Int.reduceToNat, Int.reduceNeg]
        · have h1' : k < l.length := by omega
          have hx := hb _ (show l.getD k default ∈ l by simp [List.getD_eq_getElem?_getD, h1'])
          refine ⟨⟨by omega, by omega⟩, h1', ⟨by omega, by omega, by omega⟩, ?_⟩
          rw [show decide (k < l.length ∧ l.getD k default % 8 < 2) = decide (l.getD k default % 8 < 2) from by rw [decide_eq_decide]; omega]
        · have h1' : ¬ k < l.length := by omega
          simp [h1']
      simp only [push_cast, reduceIte, Nat.reduceEqDiff, Nat.reduceAdd, Nat.reduceSub, Nat.reduceMul, Nat.reduceBEq, Nat.reduceLT, Nat.reduceLeDiff, reduceCtorEq, Int.reduceToNat, Int.reduceNeg]
      refine cond_dec (fun h1 => ?_) fun h1 => ?_
      · have hx := hb _ (show l.getD k default ∈ l by simp [List.getD_eq_getElem?_getD, h1.1])
        have hf : kindF l k = l.getD k default % 8 := by rw [kindF, if_pos h1]
        rw [hf] at hsucc
        refine ⟨⟨by omega, by omega⟩, h1.1, ⟨by omega, by omega, by omega⟩, ⟨by omega, by omega⟩, by simp, ⟨hlen.symm, by omega, by omega⟩, ⟨by omega, by omega⟩, _, ?_, k + 1, by omega, rfl, ?_⟩
        · omega
        · rw [hsucc]; simp
      · have hf : kindF l k = 2 := by rw [kindF, if_neg h1]
        rw [hf] at hsucc
        refine ⟨by simp, ⟨hlen.symm, by omega, by omega⟩, ⟨by omega, by omega⟩, _, ?_, k + 1, by omega, rfl, ?_⟩
        · omega
        · rw [hsucc]; simp
    · have hkk : k = n := by omega
      subst hkk
      rw [List.take_of_length_le (by omega)]
      exact ⟨fun _ _ => trivial, .refl _⟩
structure RawG where
  w : Int
  h : Int
  tracks : Int
  pads : Int
  kind : List Int
def rawGC (q : Bool) (x : RawG) : List PV := [.sc (.int .u8 x.w), .sc (.int .u8 x.h), .sc (.int .u8 x.tracks), .sc (.int .u8 x.pads), .sl q 1 (bytes8 x.kind)]
@[push_cast] theorem rawGC_eq (q : Bool) (x : RawG) : rawGC q x = [.sc (.int .u8 x.w), .sc (.int .u8 x.h), .sc (.int .u8 x.tracks), .sc (.int .u8 x.pads), .sl q 1 (bytes8 x.kind)] := rfl
structure RawG.Ok (x : RawG) : Prop where
  w : 0 ≤ x.w ∧ x.w ≤ 255
  h : 0 ≤ x.h ∧ x.h ≤ 255
  tracks : 0 ≤ x.tracks ∧ x.tracks ≤ 255
  pads : 0 ≤ x.pads ∧ x.pads ≤ 255
  len : (x.kind.length : Int) ≤ 1000000
  kind : ∀ k ∈ x.kind, 0 ≤ k ∧ k ≤ 255
def gridF (x : RawG) : Grid := ⟨2 + x.w % 4, 2 + x.h % 4, 2 + x.tracks % 3, 24, kindsF ((2 + x.w % 4) * (2 + x.h % 4)).toNat x.kind⟩
theorem made_ok (x : RawG) (hx : x.Ok) : FnEq Try.prog 30 [.agg (rawGC false x)] (.agg (gridC true (gridF x))) := by
  refine FnEq.of_awp Try.func30 ok30 (by show 1 ≤ _; decide) (by simp only [push_cast, reduceIte, Nat.reduceEqDiff, Nat.reduceAdd, Nat.reduceSub, Nat.reduceMul, Nat.reduceBEq, Nat.reduceLT, Nat.reduceLeDiff, reduceCtorEq, Int.reduceToNat, Int.reduceNeg] <;> first | exact fun _ _ => trivial | simp) ?_
  simp only [ac30, rv30, push_cast, reduceIte, Nat.reduceEqDiff, Nat.reduceAdd, Nat.reduceSub, Nat.reduceMul, Nat.reduceBEq, Nat.reduceLT, Nat.reduceLeDiff, reduceCtorEq, Int.reduceToNat, Int.reduceNeg]
  obtain ⟨h1, h2, h3, h4, h5, h6⟩ := hx
  have hm : 0 ≤ (2 + x.w % 4) * (2 + x.h % 4) ∧ (2 + x.w % 4) * (2 + x.h % 4) ≤ 5 * 5 := ⟨Int.mul_nonneg (by omega) (by omega), Int.mul_le_mul (by omega) (by omega) (by omega) (by omega)⟩
  obtain ⟨n, hn⟩ : ∃ n : Nat, (2 + x.w % 4) * (2 + x.h % 4) = n := ⟨((2 + x.w % 4) * (2 + x.h % 4)).toNat, by omega⟩
  have hg : gridF x = ⟨2 + x.w % 4, 2 + x.h % 4, 2 + x.tracks % 3, 24, kindsF n x.kind⟩ := by unfold gridF; rw [hn, Int.toNat_natCast]
  rw [hn] at hm ⊢
  rw [hg]
  refine ⟨⟨by omega, by omega, by omega⟩, ⟨by omega, by omega⟩, ⟨by omega, by omega⟩, ⟨by omega, by omega, by omega⟩, ⟨by omega, by omega⟩, ⟨by omega, by omega⟩, ⟨by omega, by omega, by omega⟩, ⟨by omega, by omega⟩, ⟨by omega, by omega⟩, ⟨by omega, by omega⟩, ?_⟩
  refine cal_sub (kinds_ok n (by omega) x.kind h5 h6) (by simp only [push_cast, reduceIte, Nat.reduceEqDiff, Nat.reduceAdd, Nat.reduceSub, Nat.reduceMul, Nat.reduceBEq, Nat.reduceLT, Nat.reduceLeDiff, reduceCtorEq, Int.reduceToNat, Int.reduceNeg]) ?_
  simp only [push_cast, reduceIte, Nat.reduceEqDiff, Nat.reduceAdd, Nat.reduceSub, Nat.reduceMul, Nat.reduceBEq, Nat.reduceLT, Nat.reduceLeDiff, reduceCtorEq, Int.reduceToNat, Int.reduceNeg]
  exact fun _ _ => trivial
end Go.Proofs.Ytbdamnfkgdbidaa
namespace Go.Proofs.Ytbdamnfkgdbidaa
open Go Go.Vc Txt
structure RawP where
  ins : Int
  out : Int
  blocks : List (List Int)
def bytesC (l : List Int) : List PV := l.map fun x => .sc (.int .u8 x)
def rawPC (q : Bool) (x : RawP) : List PV := [.sc (.int .u8 x.ins), .sc (.int .u8 x.out), .sl q 6 (rows bytesC x.blocks)]
@[push_cast] theorem rawPC_eq (q : Bool) (x : RawP) : rawPC q x = [.sc (.int .u8 x.ins), .sc (.int .u8 x.out), .sl q 6 (rows bytesC x.blocks)] := rfl
structure Odd where
  bad : List Int
  at_ : List Int
  fixed : List Int
  any : List Int
  some_ : List Int
  block : Int
  tile : Int
  passes : Int
def oddC (q : Bool) (z : Odd) : List PV := [.sl q 1 (bytes8 z.bad), .sl q 1 (bytes8 z.at_), .sl q 1 (bytes8 z.fixed), .sl q 1 (ints z.any), .sl q 1 (ints z.some_), .int z.block, .int z.tile, .int z.passes]
@[push_cast] theorem oddC_eq (q : Bool) (z : Odd) : oddC q z = [.sl q 1 (bytes8 z.bad), .sl q 1 (bytes8 z.at_), .sl q 1 (bytes8 z.fixed), .sl q 1 (ints z.any), .sl q 1 (ints z.some_), .int z.block, .int z.tile, .int z.passes] := rfl
def Small (x : RawP) (y : RawG) (z : Odd) : Prop := x.blocks.length ≤ 9 ∧ y.kind.length ≤ 40 ∧ z.bad.length ≤ 12 ∧ z.at_.length ≤ 40 ∧ z.fixed.length ≤ 40 ∧ z.any.length ≤ 40 ∧ z.some_.length ≤ 40
instance (x : RawP) (y : RawG) (z : Odd) : Decidable (Small x y z) := by unfold Small; infer_instance
theorem small_ok (x : RawP) (y : RawG) (z : Odd) : FnEq Try.prog 10 [.agg (rawPC false x), .agg (rawGC false y), .agg (oddC false z)] (.bool (decide (Small x y z))) := by
  refine FnEq.of_awp Try.func10 ok10 (by show 3 ≤ _; decide) (by simp only [push_cast, reduceIte, Nat.reduceEqDiff, Nat.reduceAdd, Nat.reduceSub, Nat.reduceMul, Nat.reduceBEq, Nat.reduceLT, Nat.reduceLeDiff, reduceCtorEq, Int.reduceToNat, Int.reduceNeg] <;> first | exact fun _ _ => trivial | simp) ?_
  simp only [ac10, rv10, push_cast, reduceIte, Nat.reduceEqDiff, Nat.reduceAdd, Nat.reduceSub, Nat.reduceMul, Nat.reduceBEq, Nat.reduceLT, Nat.reduceLeDiff, reduceCtorEq, Int.reduceToNat, Int.reduceNeg]
  (repeat' (first | (refine grd_dec rfl (fun _ => ?_) fun _ => ?_ <;> simp only [push_cast, reduceIte, Nat.reduceEqDiff, Nat.reduceAdd, Nat.reduceSub, Nat.reduceMul, Nat.reduceBEq, Nat.reduceLT, Nat.reduceLeDiff, reduceCtorEq, Int.reduceToNat, Int.reduceNeg]) | (refine grd_decf rfl (fun _ => ?_) fun _ => ?_ <;> simp only [push_cast, reduceIte, Nat.reduceEqDiff, Nat.reduceAdd, Nat.reduceSub, Nat.reduceMul, Nat.reduceBEq, Nat.reduceLT, Nat.reduceLeDiff, reduceCtorEq, Int.reduceToNat, Int.reduceNeg])))
  all_goals
    refine congrArg Value.bool ?_
    first | (refine decide_eq_decide.2 ?_; unfold Small; omega) | (rw [eq_comm, decide_eq_false_iff_not]; unfold Small; omega)
end Go.Proofs.Ytbdamnfkgdbidaa
namespace Go.Proofs.Ytbdamnfkgdbidaa
open Go Go.Vc Txt
def countF (g : Grid) : Int := g.w * g.h * (6 + 2 * g.tracks) + 2 * g.pads
theorem count_ok (g : Grid) (h1 : 0 ≤ g.w * g.h ∧ g.w * g.h ≤ 1000000) (h2 : 0 ≤ g.tracks ∧ g.tracks ≤ 1000) (h3 : 0 ≤ g.pads ∧ g.pads ≤ 1000000) : FnEq Try.prog 63 [.agg (gridC false g)] (.int (countF g)) := by
  refine FnEq.of_awp Try.func63 ok63 (by show 1 ≤ _; decide) (by simp only [push_cast, reduceIte, Nat.reduceEqDiff, Nat.reduceAdd, Nat.reduceSub, Nat.reduceMul, Nat.reduceBEq, Nat.reduceLT, Nat.reduceLeDiff, reduceCtorEq, Int.reduceToNat, Int.reduceNeg] <;> first | exact fun _ _ => trivial | simp) ?_
  simp only [ac63, rv63, push_cast, reduceIte, Nat.reduceEqDiff, Nat.reduceAdd, Nat.reduceSub, Nat.reduceMul, Nat.reduceBEq, Nat.reduceLT, Nat.reduceLeDiff, reduceCtorEq, Int.reduceToNat, Int.reduceNeg]
  have hm : 0 ≤ g.w * g.h * (6 + 2 * g.tracks) ∧ g.w * g.h * (6 + 2 * g.tracks) ≤ 1000000 * 2006 := ⟨Int.mul_nonneg (by omega) (by omega), Int.mul_le_mul (by omega) (by omega) (by omega) (by omega)⟩
  refine ⟨⟨by omega, by omega⟩, ?_⟩
  refine dcal_sub (each_ok g (by omega)) (by simp only [push_cast, reduceIte, Nat.reduceEqDiff, Nat.reduceAdd, Nat.reduceSub, Nat.reduceMul, Nat.reduceBEq, Nat.reduceLT, Nat.reduceLeDiff, reduceCtorEq, Int.reduceToNat, Int.reduceNeg]) (by simp only [push_cast, reduceIte, Nat.reduceEqDiff, Nat.reduceAdd, Nat.reduceSub, Nat.reduceMul, Nat.reduceBEq, Nat.reduceLT, Nat.reduceLeDiff, reduceCtorEq, Int.reduceToNat, Int.reduceNeg]) ?_
  simp only [push_cast, reduceIte, Nat.reduceEqDiff, Nat.reduceAdd, Nat.reduceSub, Nat.reduceMul, Nat.reduceBEq, Nat.reduceLT, Nat.reduceLeDiff, reduceCtorEq, Int.reduceToNat, Int.reduceNeg]
  refine ⟨⟨by omega, by omega⟩, ⟨by omega, by omega⟩, ⟨by omega, by omega⟩, ?_⟩
  rfl
def withF (l : List Int) (n : Int) : List Int :=
  let k := (l.takeWhile fun x => decide (x < n)).length
  if k < l.length ∧ l.getD k default = n then l else l.take k ++ [n] ++ l.drop k
theorem with_ok (l : List Int) (n : Int) (hl : (l.length : Int) ≤ 1000000) : FnEq Try.prog 62 [.sl true 1 (ints l), .int n] (.sl true 1 (ints (withF l n))) := by
  refine FnEq.of_awp Try.func62 ok62 (by show 2 ≤ _; decide) (by simp only [push_cast, reduceIte, Nat.reduceEqDiff, Nat.reduceAdd, Nat.reduceSub, Nat.reduceMul, Nat.reduceBEq, Nat.reduceLT, Nat.reduceLeDiff, reduceCtorEq, Int.reduceToNat, Int.reduceNeg] <;> first | exact fun _ _ => trivial | simp) ?_
  simp only [ac62, rv62, push_cast, reduceIte, Nat.reduceEqDiff, Nat.reduceAdd, Nat.reduceSub, Nat.reduceMul, Nat.reduceBEq, Nat.reduceLT, Nat.reduceLeDiff, reduceCtorEq, Int.reduceToNat, Int.reduceNeg]
  have key : ∀ k : Nat, k ≤ l.length → (∀ i : Nat, i < k → l.getD i default < n) → (¬ (k < l.length ∧ l.getD k default < n)) → (l.takeWhile fun x => decide (x < n)).length = k := by
    intro k
    induction k generalizing l with
    | zero =>
      intro _ _ h3
      cases l with
      | nil => rfl
      | cons x r =>
        have : ¬ x < n := by simpa using h3
        simp [this]
    | succ k ih =>
      intro h1 h2 h3
      cases l with
      | nil => simp at h1
      | cons x r =>
        have hx : x < n := by simpa using h2 0 (by omega)
        simp only [List.takeWhile_cons, hx, decide_true, if_true, List.length_cons]
        rw [ih r (by simp at hl ⊢; omega) (by simpa using h1) (fun i hi => by simpa using h2 (i + 1) (by omega)) (by simpa using h3)]
  refine loop_of (fun m st => ∃ k : Nat, k ≤ l.length ∧ m = l.length - k ∧ (∀ i : Nat, i < k → l.getD i default < n) ∧ st = ⟨[(0, .sl true 1 (ints l)), (1, .int n), (5, .int k)], [], [], []⟩) l.length ?_ ?_
  · refine ⟨0, by omega, by omega, fun i hi => by omega, ?_⟩
    simp only [push_cast, reduceIte, Nat.reduceEqDiff, Nat.reduceAdd, Nat.reduceSub, Nat.reduceMul, Nat.reduceBEq, Nat.reduceLT, Nat.reduceLeDiff, reduceCtorEq, Int.reduceToNat, Int.reduceNeg]
  · rintro m st ⟨k, hk, rfl, h1, rfl⟩
    simp only [push_cast, reduceIte, Nat.reduceEqDiff, Nat.reduceAdd, Nat.reduceSub, Nat.reduceMul, Nat.reduceBEq, Nat.reduceLT, Nat.reduceLeDiff, reduceCtorEq, Int.reduceToNat, Int.reduceNeg]
    refine cut_of ⟨[(0, .sl true 1 (ints l)), (1, .int n), (5, .int k), (17, .bool (decide (k < l.length ∧ l.getD k default < n)))], [], [], []⟩ ?_ ?_
    · refine grd_dec rfl (fun h2 => ?_) fun h2 => ?_ <;> simp only [push_cast, reduceIte, Nat.reduceEqDiff, Nat.reduceAdd, Nat.reduceSub, Nat.reduceMul, Nat.reduceBEq, Nat.reduceLT, Nat.reduceLeDiff, reduceCtorEq, Int.reduceToNat, Int.reduceNeg]
      · have h2' : k < l.length := by omega
        refine ⟨⟨by omega, by omega⟩, h2', ?_⟩
        rw [show decide (k < l.length ∧ l.getD k default < n) = decide (l.getD k default < n) from by rw [decide_eq_decide]; omega]
      · have h2' : ¬ k < l.length := by omega
        simp [h2']
    simp only [push_cast, reduceIte, Nat.reduceEqDiff, Nat.reduceAdd, Nat.reduceSub, Nat.reduceMul, Nat.reduceBEq, Nat.reduceLT, Nat.reduceLeDiff, reduceCtorEq, Int.reduceToNat, Int.reduceNeg]
    refine cond_dec (fun h2 => ?_) fun h2 => ?_
    · refine ⟨⟨by omega, by omega⟩, _, ?_, k + 1, by omega, rfl, fun i hi => ?_, ?_⟩
      · omega
      · by_cases e : i = k
        · subst e; exact h2.2
        · exact h1 i (by omega)
      · simp
    · have hkk := key k hk h1 h2
      refine cut_of ⟨[(0, .sl true 1 (ints l)), (1, .int n), (5, .int k), (31, .bool (decide (k < l.length ∧ l.getD k default = n)))], [], [], []⟩ ?_ ?_
      · refine grd_dec rfl (fun h2 => ?_) fun h2 => ?_ <;> simp only [push_cast, reduceIte, Nat.reduceEqDiff, Nat.reduceAdd, Nat.reduceSub, Nat.reduceMul, Nat.reduceBEq, Nat.reduceLT, Nat.reduceLeDiff, reduceCtorEq, Int.reduceToNat, Int.reduceNeg]
        · have h2' : k < l.length := by omega
          refine ⟨⟨by omega, by omega⟩, h2', ?_⟩
          rw [show decide (k < l.length ∧ l.getD k default = n) = decide (l.getD k default = n) from by rw [decide_eq_decide]; omega]
        · have h2' : ¬ k < l.length := by omega
          simp [h2']
      simp only [push_cast, reduceIte, Nat.reduceEqDiff, Nat.reduceAdd, Nat.reduceSub, Nat.reduceMul, Nat.reduceBEq, Nat.reduceLT, Nat.reduceLeDiff, reduceCtorEq, Int.reduceToNat, Int.reduceNeg]
      have hw : withF l n = if k < l.length ∧ l.getD k default = n then l else l.take k ++ [n] ++ l.drop k := by unfold withF; rw [hkk]
      rw [hw]
      refine cond_dec (fun h3 => ?_) fun h3 => ?_
      · rw [if_pos h3]
        exact ⟨fun _ _ => trivial, .refl _⟩
      · rw [if_neg h3]
        refine ⟨⟨by omega, by omega, by omega⟩, ⟨by simp <;> omega, by simp <;> omega⟩, by simp, ⟨by simp, by simp <;> omega, by simp <;> omega⟩, ⟨by omega, by omega, by omega⟩, ⟨by simp, by simp <;> omega, by simp <;> omega⟩, fun _ _ => trivial, ?_⟩
        rw [List.take_of_length_le (by simp <;> omega)]
        exact .refl _
end Go.Proofs.Ytbdamnfkgdbidaa
namespace Go.Proofs.Ytbdamnfkgdbidaa
open Go Go.Vc Txt
theorem withF_len (l : List Int) (n : Int) : (withF l n).length ≤ l.length + 1 := by
  unfold withF
  simp only
  split
  · omega
  · simp; omega
def badStep (g : Grid) (l : List Int) (s : Bad) (q : Nat) : Bad :=
  let n := 256 * l.getD (2 * q) default + l.getD (2 * q + 1) default
  if l.getD (2 * q) default % 4 = 1 then ⟨withF s.tiles (n % (g.w * g.h)), s.nodes⟩ else ⟨s.tiles, withF s.nodes (n % countF g)⟩
def badF (g : Grid) (l : List Int) : Bad := (List.range (min 6 (l.length / 2))).foldl (badStep g l) ⟨[], []⟩
theorem bad_ok (g : Grid) (h1 : 0 < g.w * g.h ∧ g.w * g.h ≤ 1000000) (h2 : 0 ≤ g.tracks ∧ g.tracks ≤ 1000) (h3 : 0 ≤ g.pads ∧ g.pads ≤ 1000000) (l : List Int) (hl : (l.length : Int) ≤ 1000000) (hb : ∀ x ∈ l, 0 ≤ x ∧ x ≤ 255) :
    FnEq Try.prog 36 [.agg (gridC false g), .sl false 1 (bytes8 l)] (.agg (badC true (badF g l))) := by
  refine FnEq.of_awp Try.func36 ok36 (by show 2 ≤ _; decide) (by simp only [push_cast, reduceIte, Nat.reduceEqDiff, Nat.reduceAdd, Nat.reduceSub, Nat.reduceMul, Nat.reduceBEq, Nat.reduceLT, Nat.reduceLeDiff, reduceCtorEq, Int.reduceToNat, Int.reduceNeg] <;> first | exact fun _ _ => trivial | simp) ?_
  simp only [ac36, rv36, push_cast, reduceIte, Nat.reduceEqDiff, Nat.reduceAdd, Nat.reduceSub, Nat.reduceMul, Nat.reduceBEq, Nat.reduceLT, Nat.reduceLeDiff, reduceCtorEq, Int.reduceToNat, Int.reduceNeg]
  have hm : 0 < g.w * g.h * (6 + 2 * g.tracks) ∧ g.w * g.h * (6 + 2 * g.tracks) ≤ 1000000 * 2006 := ⟨Int.mul_pos h1.1 (by omega), Int.mul_le_mul (by omega) (by omega) (by omega) (by omega)⟩
  have hc : 0 < countF g ∧ countF g ≤ 3000000000 := by unfold countF; omega
  refine wk_of ⟨[(1, .sl false 1 (bytes8 l)), (2, .ptr 2 0), (4, .ptr 4 0), (5, .ptr 5 0), (6, .int 0)], [(2, gridC false g), (4, [.nil, .nil]), (5, badC true ⟨[], []⟩)], [], []⟩ ?_ ?_
  · simp only [push_cast, reduceIte, Nat.reduceEqDiff, Nat.reduceAdd, Nat.reduceSub, Nat.reduceMul, Nat.reduceBEq, Nat.reduceLT, Nat.reduceLeDiff, reduceCtorEq, Int.reduceToNat, Int.reduceNeg]
  refine loop_of (fun m st => ∃ (q : Nat) (s : Bad), q ≤ min 6 (l.length / 2) ∧ m = min 6 (l.length / 2) - q ∧ s = (List.range q).foldl (badStep g l) ⟨[], []⟩ ∧ s.tiles.length ≤ q ∧ s.nodes.length ≤ q ∧
    st = ⟨[(1, .sl false 1 (bytes8 l)), (2, .ptr 2 0), (4, .ptr 4 0), (5, .ptr 5 0), (6, .int (2 * q))], [(2, gridC false g), (4, [.nil, .nil]), (5, badC true s)], [], []⟩) (min 6 (l.length / 2)) ?_ ?_
  · refine ⟨0, ⟨[], []⟩, by omega, by omega, rfl, by simp, by simp, ?_⟩
    simp only [push_cast, reduceIte, Nat.reduceEqDiff, Nat.reduceAdd, Nat.reduceSub, Nat.reduceMul, Nat.reduceBEq, Nat.reduceLT, Nat.reduceLeDiff, reduceCtorEq, Int.reduceToNat, Int.reduceNeg]
    rfl
  · rintro m st ⟨q, s, hq, rfl, hs, ht, hn, rfl⟩
    simp only [push_cast, reduceIte, Nat.reduceEqDiff, Nat.reduceAdd, Nat.reduceSub, Nat.reduceMul, Nat.reduceBEq, Nat.reduceLT, Nat.reduceLeDiff, reduceCtorEq, Int.reduceToNat, Int.reduceNeg]
    refine ⟨⟨by omega, by omega⟩, cut_of ⟨[(1, .sl false 1 (bytes8 l)), (2, .ptr 2 0), (4, .ptr 4 0), (5, .ptr 5 0), (6, .int (2 * q)), (17, .bool (decide ((2 * q + 1 : Int) < l.length ∧ (2 * q : Int) < 12)))], [(2, gridC false g), (4, [.nil, .nil]), (5, badC true s)], [], []⟩ ?_ ?_⟩
    · refine grd_dec rfl (fun h => ?_) fun h => ?_ <;> simp only [push_cast, reduceIte, Nat.reduceEqDiff, Nat.reduceAdd, Nat.reduceSub, Nat.reduceMul, Nat.reduceBEq, Nat.reduceLT, Nat.reduceLeDiff, reduceCtorEq, Int.reduceToNat, Int.reduceNeg]
      · simp [h]
      · simp [h]
    simp only [push_cast, reduceIte, Nat.reduceEqDiff, Nat.reduceAdd, Nat.reduceSub, Nat.reduceMul, Nat.reduceBEq, Nat.reduceLT, Nat.reduceLeDiff, reduceCtorEq, Int.reduceToNat, Int.reduceNeg]
    refine cond_dec (fun h => ?_) fun h => ?_
    · have k1 : 2 * q + 1 < l.length := by omega
      have hx := hb _ (show l.getD (2 * q) default ∈ l by simp [List.getD_eq_getElem?_getD, show 2 * q < l.length by omega])
      have hy := hb _ (show l.getD (2 * q + 1) default ∈ l by simp [List.getD_eq_getElem?_getD, k1])
      rw [show (2 * (q : Int)).toNat = 2 * q by omega, show (2 * (q : Int) + 1).toNat = 2 * q + 1 by omega]
      have hfold : (List.range (q + 1)).foldl (badStep g l) ⟨[], []⟩ = badStep g l s q := by rw [hs]; simp [List.range_succ]
      refine ⟨⟨by omega, by omega⟩, by omega, ⟨by omega, by omega⟩, ⟨by omega, by omega⟩, ⟨by omega, by omega⟩, ⟨by omega, by omega⟩, k1, ⟨by omega, by omega⟩, ⟨by omega, by omega⟩, ⟨by omega, by omega⟩, by omega, ⟨by omega, by omega, by omega⟩, cond_dec (fun h4 => ?_) fun h4 => ?_⟩
      · refine ⟨⟨by omega, by omega⟩, ⟨by omega, by omega, h1.1⟩, ?_⟩
        refine cal_sub (with_ok s.tiles ((256 * l.getD (2 * q) default + l.getD (2 * q + 1) default) % (g.w * g.h)) (by omega)) (by simp only [push_cast, reduceIte, Nat.reduceEqDiff, Nat.reduceAdd, Nat.reduceSub, Nat.reduceMul, Nat.reduceBEq, Nat.reduceLT, Nat.reduceLeDiff, reduceCtorEq, Int.reduceToNat, Int.reduceNeg]) ?_
        simp only [push_cast, reduceIte, Nat.reduceEqDiff, Nat.reduceAdd, Nat.reduceSub, Nat.reduceMul, Nat.reduceBEq, Nat.reduceLT, Nat.reduceLeDiff, reduceCtorEq, Int.reduceToNat, Int.reduceNeg]
        have hst : badStep g l s q = ⟨withF s.tiles ((256 * l.getD (2 * q) default + l.getD (2 * q + 1) default) % (g.w * g.h)), s.nodes⟩ := by unfold badStep; rw [if_pos h4]
        have hwl := withF_len s.tiles ((256 * l.getD (2 * q) default + l.getD (2 * q + 1) default) % (g.w * g.h))
        refine ⟨⟨by omega, by omega⟩, _, ?_, q + 1, badStep g l s q, by omega, rfl, hfold.symm, by rw [hst]; simp only; omega, by rw [hst]; simp only; omega, ?_⟩
        · omega
        · rw [hst]; simp; omega
      · refine dcal_sub (count_ok g ⟨by omega, h1.2⟩ h2 h3) (by simp only [push_cast, reduceIte, Nat.reduceEqDiff, Nat.reduceAdd, Nat.reduceSub, Nat.reduceMul, Nat.reduceBEq, Nat.reduceLT, Nat.reduceLeDiff, reduceCtorEq, Int.reduceToNat, Int.reduceNeg]) (by simp only [push_cast, reduceIte, Nat.reduceEqDiff, Nat.reduceAdd, Nat.reduceSub, Nat.reduceMul, Nat.reduceBEq, Nat.reduceLT, Nat.reduceLeDiff, reduceCtorEq, Int.reduceToNat, Int.reduceNeg]) ?_
        simp only [push_cast, reduceIte, Nat.reduceEqDiff, Nat.reduceAdd, Nat.reduceSub, Nat.reduceMul, Nat.reduceBEq, Nat.reduceLT, Nat.reduceLeDiff, reduceCtorEq, Int.reduceToNat, Int.reduceNeg]
        refine ⟨⟨by omega, by omega, hc.1⟩, ?_⟩
        refine cal_sub (with_ok s.nodes ((256 * l.getD (2 * q) default + l.getD (2 * q + 1) default) % countF g) (by omega)) (by simp only [push_cast, reduceIte, Nat.reduceEqDiff, Nat.reduceAdd, Nat.reduceSub, Nat.reduceMul, Nat.reduceBEq, Nat.reduceLT, Nat.reduceLeDiff, reduceCtorEq, Int.reduceToNat, Int.reduceNeg]) ?_
        simp only [push_cast, reduceIte, Nat.reduceEqDiff, Nat.reduceAdd, Nat.reduceSub, Nat.reduceMul, Nat.reduceBEq, Nat.reduceLT, Nat.reduceLeDiff, reduceCtorEq, Int.reduceToNat, Int.reduceNeg]
        have hst : badStep g l s q = ⟨s.tiles, withF s.nodes ((256 * l.getD (2 * q) default + l.getD (2 * q + 1) default) % countF g)⟩ := by unfold badStep; rw [if_neg h4]
        have hwl := withF_len s.nodes ((256 * l.getD (2 * q) default + l.getD (2 * q + 1) default) % countF g)
        refine ⟨⟨by omega, by omega⟩, _, ?_, q + 1, badStep g l s q, by omega, rfl, hfold.symm, by rw [hst]; simp only; omega, by rw [hst]; simp only; omega, ?_⟩
        · omega
        · rw [hst]; simp; omega
    · have hqq : q = min 6 (l.length / 2) := by omega
      have hbf : badF g l = s := by rw [hs, hqq]; rfl
      rw [hbf]
      exact ⟨⟨fun _ _ => trivial, fun _ _ => trivial⟩, .refl _, .refl _⟩
end Go.Proofs.Ytbdamnfkgdbidaa
namespace Go.Proofs.Ytbdamnfkgdbidaa
open Go Go.Vc Txt
@[push_cast] theorem bytesC_cons (a : Int) (l : List Int) : bytesC (a :: l) = .sc (.int .u8 a) :: bytesC l := _root_.id rfl
@[push_cast] theorem bytesC_nil : bytesC [] = [] := _root_.id rfl
theorem shl_ok {kk : Nat} (h : kk ≤ 4) : 0 ≤ shfF .shl .u64 1 kk ∧ 0 < shfF .shl .i64 1 (shfF .shl .u64 1 kk) := by
  have : kk = 0 ∨ kk = 1 ∨ kk = 2 ∨ kk = 3 ∨ kk = 4 := by omega
  rcases this with rfl | rfl | rfl | rfl | rfl <;> decide
theorem pick_ok {al : List Int} (h1 : 1 ≤ al.length) (v : Int) : ∃ r, v % (al.length : Int) = r ∧ 0 ≤ r ∧ r < al.length :=
  ⟨_, rfl, Int.emod_nonneg v (by omega), Int.emod_lt_of_pos v (by omega)⟩
theorem getD_mem {al : List Int} {i : Nat} (h : i < al.length) : al.getD i default ∈ al := by simp [List.getD_eq_getElem?_getD, h]
theorem packed_blkA (x : RawP) (Q : Exit → St → Prop) (st : St) (k c i kk : Nat) (hkk : kk ≤ 4) (a b d e f g rm rg : Int) (hc : k ≤ 4 ∧ c ≤ 9 ∧ i < c) (hi0 : i = 0)
    (hb : (0 ≤ b ∧ b ≤ 255) ∧ (0 ≤ d ∧ d ≤ 255) ∧ (0 ≤ e ∧ e ≤ 255) ∧ (0 ≤ f ∧ f ≤ 255) ∧ (0 ≤ g ∧ g ≤ 255))
    (ws : List Wire) (al : List Int) (ha1 : 1 ≤ al.length) (ha2 : al.length ≤ k + c + i) (hab : ∀ y ∈ al, 0 ≤ y ∧ y < k + 2 * c)
    (hst : st.keepS [0, 219, 1, 2, 3, 5, 6, 9, 11, 12, 13, 14] = ⟨[(1, .ptr 1 0), (2, .ptr 2 0), (3, .ptr 3 0), (5, .int k), (6, .int c), (9, .view 64 0 al.length), (11, .int i), (12, .ptr 12 0), (13, .ptr 13 0), (14, .int kk)],
       [(1, rawPC false x), (2, [.nil, .nil, .nil, .nil]), (3, [.view 33 0 k, .nil, .nil, .nil]), (12, bytesC [a, b, d, e, f, g]), (13, [.nil, .int 0, .int rm, .int rg, .sc (.int .u64 0)])], [(33, ⟨3, 93, rows wireC ws⟩), (64, ⟨1, 3, ints al⟩)], []⟩)
    (hQ : ∀ (row : List PV) (ys : List Int) (tb : Int), ys.length ≤ 4 → (∀ y ∈ ys, 0 ≤ y ∧ y < k + 2 * c) → SubL row (blockC true ⟨ys, tb, rm, rg, 0⟩) →
      Q .normal ⟨[(1, .ptr 1 0), (2, .ptr 2 0), (3, .ptr 3 0), (5, .int k), (6, .int c), (9, .view 64 0 (al.length + 1)), (11, .int i), (158, .bot), (159, .int k), (160, .int i), (161, .int (2 * i)), (162, .int (k + 2 * i)), (163, .view 163 0 1), (164, .view 64 0 (al.length + 1))],
        [(1, rawPC false x), (2, [.nil, .nil, .nil, .nil]), (3, [.view 33 0 k, .view 156 0 1, .nil, .nil]), (12, bytesC [a, b, d, e, f, g]), (13, row)],
        [(33, ⟨3, 93, rows wireC ws⟩), (64, ⟨1, 3, ints (al ++ [(k : Int) + 2 * i])⟩), (155, ⟨5, 71, [row]⟩), (156, ⟨5, 71, [row]⟩), (163, ⟨1, 3, ints [(k : Int) + 2 * i]⟩)], []⟩) :
    awp (Env.of Try.prog) ac29b_r31 Q st := by
  simp only [ac29b_r31, push_cast, reduceIte, Nat.reduceEqDiff, Nat.reduceAdd, Nat.reduceSub, Nat.reduceMul, Nat.reduceBEq, Nat.reduceLT, Nat.reduceLeDiff, reduceCtorEq, Int.reduceToNat, Int.reduceNeg, hst]
  refine loop_of (fun m st => ∃ (t : Nat) (ys : List Int), t ≤ kk ∧ m = kk - t ∧ ys.length = t ∧ (∀ y ∈ ys, 0 ≤ y ∧ y < k + 2 * c) ∧
    ((t = 0 ∧ st = ⟨[(1, .ptr 1 0), (2, .ptr 2 0), (3, .ptr 3 0), (5, .int k), (6, .int c), (9, .view 64 0 al.length), (11, .int i), (12, .ptr 12 0), (13, .ptr 13 0), (14, .int kk), (15, .int t)], [(1, rawPC false x), (2, [.nil, .nil, .nil, .nil]), (3, [.view 33 0 k, .nil, .nil, .nil]), (12, bytesC [a, b, d, e, f, g]), (13, [.nil, .int 0, .int rm, .int rg, .sc (.int .u64 0)])], [(33, ⟨3, 93, rows wireC ws⟩), (64, ⟨1, 3, ints al⟩)], []⟩) ∨
     (t ≠ 0 ∧ st = ⟨[(1, .ptr 1 0), (2, .ptr 2 0), (3, .ptr 3 0), (5, .int k), (6, .int c), (9, .view 64 0 al.length), (11, .int i), (12, .ptr 12 0), (13, .ptr 13 0), (14, .int kk), (15, .int t)], [(1, rawPC false x), (2, [.nil, .nil, .nil, .nil]), (3, [.view 33 0 k, .nil, .nil, .nil]), (12, bytesC [a, b, d, e, f, g]), (13, [.view 133 0 t, .int 0, .int rm, .int rg, .sc (.int .u64 0)])], [(33, ⟨3, 93, rows wireC ws⟩), (64, ⟨1, 3, ints al⟩), (133, ⟨1, 3, ints ys⟩)], []⟩))) kk ?_ ?_
  · refine ⟨0, [], by omega, by omega, rfl, by simp, .inl ⟨rfl, ?_⟩⟩
    simp only [push_cast, reduceIte, Nat.reduceEqDiff, Nat.reduceAdd, Nat.reduceSub, Nat.reduceMul, Nat.reduceBEq, Nat.reduceLT, Nat.reduceLeDiff, reduceCtorEq, Int.reduceToNat, Int.reduceNeg]
  · have hsh := shl_ok hkk
    rintro m st ⟨t, ys, ht, rfl, hys, hyb, ⟨rfl, rfl⟩ | ⟨ht0, rfl⟩⟩
    · simp only [push_cast, reduceIte, Nat.reduceEqDiff, Nat.reduceAdd, Nat.reduceSub, Nat.reduceMul, Nat.reduceBEq, Nat.reduceLT, Nat.reduceLeDiff, reduceCtorEq, Int.reduceToNat, Int.reduceNeg]
      refine cond_dec (fun h => ?_) fun h => ?_
      · simp only [push_cast, reduceIte, Nat.reduceEqDiff, Nat.reduceAdd, Nat.reduceSub, Nat.reduceMul, Nat.reduceBEq, Nat.reduceLT, Nat.reduceLeDiff, reduceCtorEq, Int.reduceToNat, Int.reduceNeg, Int.reduceAdd]
        · obtain ⟨r, hr, hr0, hr1⟩ := pick_ok ha1 d
          rw [hr]
          have hz := hab _ (getD_mem (show ((al.length : Int) - 1 - r).toNat < al.length by omega))
          generalize al.getD ((al.length : Int) - 1 - r).toNat default = z at hz ⊢
          refine ⟨by omega, by omega, by omega, by omega, by omega, by omega, by omega, by omega, by simp, by omega, _, ?_, 1, [z], by omega, rfl, rfl, fun y hy => by rw [List.mem_singleton.1 hy]; exact hz, .inr ⟨by omega, rfl⟩⟩
          omega
      · have hys0 : ys = [] := List.eq_nil_of_length_eq_zero hys
        refine cond_dec (fun h2 => ?_) fun h2 => ?_
        · refine ⟨by omega, by omega, by omega, by omega, by omega, by omega, by omega, by omega, hsh.1, ⟨by omega, by omega, hsh.2⟩, by omega, by omega, by simp, by omega, ?_⟩
          exact hQ [.nil, .int _, .int rm, .int rg, .sc (.int .u64 0)] [] _ (by simp) (by simp) ⟨.nil true 1, .refl _, .refl _, .refl _, .refl _, trivial⟩
        · refine ⟨by omega, by omega, by simp, by omega, ?_⟩
          exact hQ [.nil, .int 0, .int rm, .int rg, .sc (.int .u64 0)] [] _ (by simp) (by simp) ⟨.nil true 1, .refl _, .refl _, .refl _, .refl _, trivial⟩
    · simp only [push_cast, reduceIte, Nat.reduceEqDiff, Nat.reduceAdd, Nat.reduceSub, Nat.reduceMul, Nat.reduceBEq, Nat.reduceLT, Nat.reduceLeDiff, reduceCtorEq, Int.reduceToNat, Int.reduceNeg]
      refine cond_dec (fun h => ?_) fun h => ?_
      · have hsnoc : ∀ z : Int, (0 ≤ z ∧ z < k + 2 * c) → ∀ y ∈ ys ++ [z], 0 ≤ y ∧ y < k + 2 * c := fun z hz y hy => by
          rcases List.mem_append.1 hy with hy | hy
          · exact hyb y hy
          · rw [List.mem_singleton.1 hy]; exact hz
        have ht4 : t = 1 ∨ t = 2 ∨ t = 3 := by omega
        rcases ht4 with rfl | rfl | rfl <;> simp only [push_cast, reduceIte, Nat.reduceEqDiff, Nat.reduceAdd, Nat.reduceSub, Nat.reduceMul, Nat.reduceBEq, Nat.reduceLT, Nat.reduceLeDiff, reduceCtorEq, Int.reduceToNat, Int.reduceNeg, Int.reduceAdd]
        · obtain ⟨r, hr, hr0, hr1⟩ := pick_ok ha1 e
          rw [hr]
          have hz := hab _ (getD_mem (show ((al.length : Int) - 1 - r).toNat < al.length by omega))
          generalize al.getD ((al.length : Int) - 1 - r).toNat default = z at hz ⊢
          refine ⟨by omega, by omega, by omega, by omega, by omega, by omega, by omega, by omega, by simp, by omega, by omega, _, ?_, 2, ys ++ [z], by omega, rfl, by simp; omega, hsnoc z hz, .inr ⟨by omega, rfl⟩⟩
          omega
        · obtain ⟨r, hr, hr0, hr1⟩ := pick_ok ha1 f
          rw [hr]
          have hz := hab _ (getD_mem (show ((al.length : Int) - 1 - r).toNat < al.length by omega))
          generalize al.getD ((al.length : Int) - 1 - r).toNat default = z at hz ⊢
          refine ⟨by omega, by omega, by omega, by omega, by omega, by omega, by omega, by omega, by simp, by omega, by omega, _, ?_, 3, ys ++ [z], by omega, rfl, by simp; omega, hsnoc z hz, .inr ⟨by omega, rfl⟩⟩
          omega
        · obtain ⟨r, hr, hr0, hr1⟩ := pick_ok ha1 g
          rw [hr]
          have hz := hab _ (getD_mem (show ((al.length : Int) - 1 - r).toNat < al.length by omega))
          generalize al.getD ((al.length : Int) - 1 - r).toNat default = z at hz ⊢
          refine ⟨by omega, by omega, by omega, by omega, by omega, by omega, by omega, by omega, by simp, by omega, by omega, _, ?_, 4, ys ++ [z], by omega, rfl, by simp; omega, hsnoc z hz, .inr ⟨by omega, rfl⟩⟩
          omega
      · rw [List.take_of_length_le (by omega)]
        refine cond_dec (fun h2 => ?_) fun h2 => ?_
        · refine ⟨by omega, by omega, by omega, by omega, by omega, by omega, by omega, by omega, hsh.1, ⟨by omega, by omega, hsh.2⟩, by omega, by omega, by simp, by omega, ?_⟩
          exact hQ [.sl true 1 (ints ys), .int _, .int rm, .int rg, .sc (.int .u64 0)] ys _ (by omega) hyb ⟨.refl _, .refl _, .refl _, .refl _, .refl _, trivial⟩
        · refine ⟨by omega, by omega, by simp, by omega, ?_⟩
          exact hQ [.sl true 1 (ints ys), .int 0, .int rm, .int rg, .sc (.int .u64 0)] ys _ (by omega) hyb ⟨.refl _, .refl _, .refl _, .refl _, .refl _, trivial⟩
theorem packed_blkB (x : RawP) (Q : Exit → St → Prop) (st : St) (k c i kk : Nat) (hkk : kk ≤ 4) (a b d e f g rm rg : Int) (hc : k ≤ 4 ∧ c ≤ 9 ∧ i < c) (R : List (List PV)) (hR : R.length = i)
    (hb : (0 ≤ b ∧ b ≤ 255) ∧ (0 ≤ d ∧ d ≤ 255) ∧ (0 ≤ e ∧ e ≤ 255) ∧ (0 ≤ f ∧ f ≤ 255) ∧ (0 ≤ g ∧ g ≤ 255))
    (ws : List Wire) (al : List Int) (ha1 : 1 ≤ al.length) (ha2 : al.length ≤ k + c + i) (hab : ∀ y ∈ al, 0 ≤ y ∧ y < k + 2 * c)
    (hst : st.keepS [0, 219, 1, 2, 3, 5, 6, 9, 11, 12, 13, 14] = ⟨[(1, .ptr 1 0), (2, .ptr 2 0), (3, .ptr 3 0), (5, .int k), (6, .int c), (9, .view 64 0 al.length), (11, .int i), (12, .ptr 12 0), (13, .ptr 13 0), (14, .int kk)],
       [(1, rawPC false x), (2, [.nil, .nil, .nil, .nil]), (3, [.view 33 0 k, .view 156 0 i, .nil, .nil]), (12, bytesC [a, b, d, e, f, g]), (13, [.nil, .int 0, .int rm, .int rg, .sc (.int .u64 0)])], [(33, ⟨3, 93, rows wireC ws⟩), (64, ⟨1, 3, ints al⟩), (156, ⟨5, 71, R⟩)], []⟩)
    (hQ : ∀ (row : List PV) (ys : List Int) (tb : Int), ys.length ≤ 4 → (∀ y ∈ ys, 0 ≤ y ∧ y < k + 2 * c) → SubL row (blockC true ⟨ys, tb, rm, rg, 0⟩) →
      Q .normal ⟨[(1, .ptr 1 0), (2, .ptr 2 0), (3, .ptr 3 0), (5, .int k), (6, .int c), (9, .view 64 0 (al.length + 1)), (11, .int i), (158, .bot), (159, .int k), (160, .int i), (161, .int (2 * i)), (162, .int (k + 2 * i)), (163, .view 163 0 1), (164, .view 64 0 (al.length + 1))],
        [(1, rawPC false x), (2, [.nil, .nil, .nil, .nil]), (3, [.view 33 0 k, .view 156 0 (i + 1), .nil, .nil]), (12, bytesC [a, b, d, e, f, g]), (13, row)],
        [(33, ⟨3, 93, rows wireC ws⟩), (64, ⟨1, 3, ints (al ++ [(k : Int) + 2 * i])⟩), (155, ⟨5, 71, [row]⟩), (156, ⟨5, 71, R ++ [row]⟩), (163, ⟨1, 3, ints [(k : Int) + 2 * i]⟩)], []⟩) :
    awp (Env.of Try.prog) ac29b_r31 Q st := by
  simp only [ac29b_r31, push_cast, reduceIte, Nat.reduceEqDiff, Nat.reduceAdd, Nat.reduceSub, Nat.reduceMul, Nat.reduceBEq, Nat.reduceLT, Nat.reduceLeDiff, reduceCtorEq, Int.reduceToNat, Int.reduceNeg, hst]
  refine loop_of (fun m st => ∃ (t : Nat) (ys : List Int), t ≤ kk ∧ m = kk - t ∧ ys.length = t ∧ (∀ y ∈ ys, 0 ≤ y ∧ y < k + 2 * c) ∧
    ((t = 0 ∧ st = ⟨[(1, .ptr 1 0), (2, .ptr 2 0), (3, .ptr 3 0), (5, .int k), (6, .int c), (9, .view 64 0 al.length), (11, .int i), (12, .ptr 12 0), (13, .ptr 13 0), (14, .int kk), (15, .int t)], [(1, rawPC false x), (2, [.nil, .nil, .nil, .nil]), (3, [.view 33 0 k, .view 156 0 i, .nil, .nil]), (12, bytesC [a, b, d, e, f, g]), (13, [.nil, .int 0, .int rm, .int rg, .sc (.int .u64 0)])], [(33, ⟨3, 93, rows wireC ws⟩), (64, ⟨1, 3, ints al⟩), (156, ⟨5, 71, R⟩)], []⟩) ∨
     (t ≠ 0 ∧ st = ⟨[(1, .ptr 1 0), (2, .ptr 2 0), (3, .ptr 3 0), (5, .int k), (6, .int c), (9, .view 64 0 al.length), (11, .int i), (12, .ptr 12 0), (13, .ptr 13 0), (14, .int kk), (15, .int t)], [(1, rawPC false x), (2, [.nil, .nil, .nil, .nil]), (3, [.view 33 0 k, .view 156 0 i, .nil, .nil]), (12, bytesC [a, b, d, e, f, g]), (13, [.view 133 0 t, .int 0, .int rm, .int rg, .sc (.int .u64 0)])], [(33, ⟨3, 93, rows wireC ws⟩), (64, ⟨1, 3, ints al⟩), (133, ⟨1, 3, ints ys⟩), (156, ⟨5, 71, R⟩)], []⟩))) kk ?_ ?_
  · refine ⟨0, [], by omega, by omega, rfl, by simp, .inl ⟨rfl, ?_⟩⟩
    simp only [push_cast, reduceIte, Nat.reduceEqDiff, Nat.reduceAdd, Nat.reduceSub, Nat.reduceMul, Nat.reduceBEq, Nat.reduceLT, Nat.reduceLeDiff, reduceCtorEq, Int.reduceToNat, Int.reduceNeg]
  · have hsh := shl_ok hkk
    rintro m st ⟨t, ys, ht, rfl, hys, hyb, ⟨rfl, rfl⟩ | ⟨ht0, rfl⟩⟩
    · simp only [push_cast, reduceIte, Nat.reduceEqDiff, Nat.reduceAdd, Nat.reduceSub, Nat.reduceMul, Nat.reduceBEq, Nat.reduceLT, Nat.reduceLeDiff, reduceCtorEq, Int.reduceToNat, Int.reduceNeg]
      refine cond_dec (fun h => ?_) fun h => ?_
      · simp only [push_cast, reduceIte, Nat.reduceEqDiff, Nat.reduceAdd, Nat.reduceSub, Nat.reduceMul, Nat.reduceBEq, Nat.reduceLT, Nat.reduceLeDiff, reduceCtorEq, Int.reduceToNat, Int.reduceNeg, Int.reduceAdd]
        · obtain ⟨r, hr, hr0, hr1⟩ := pick_ok ha1 d
          rw [hr]
          have hz := hab _ (getD_mem (show ((al.length : Int) - 1 - r).toNat < al.length by omega))
          generalize al.getD ((al.length : Int) - 1 - r).toNat default = z at hz ⊢
          refine ⟨by omega, by omega, by omega, by omega, by omega, by omega, by omega, by omega, by simp, by omega, _, ?_, 1, [z], by omega, rfl, rfl, fun y hy => by rw [List.mem_singleton.1 hy]; exact hz, .inr ⟨by omega, rfl⟩⟩
          omega
      · have hys0 : ys = [] := List.eq_nil_of_length_eq_zero hys
        refine cond_dec (fun h2 => ?_) fun h2 => ?_
        · refine ⟨by omega, by omega, by omega, by omega, by omega, by omega, by omega, by omega, hsh.1, ⟨by omega, by omega, hsh.2⟩, ⟨hR.symm, by omega, by omega⟩, by omega, by omega, by simp, by omega, ?_⟩
          exact hQ [.nil, .int _, .int rm, .int rg, .sc (.int .u64 0)] [] _ (by simp) (by simp) ⟨.nil true 1, .refl _, .refl _, .refl _, .refl _, trivial⟩
        · refine ⟨⟨hR.symm, by omega, by omega⟩, by omega, by omega, by simp, by omega, ?_⟩
          exact hQ [.nil, .int 0, .int rm, .int rg, .sc (.int .u64 0)] [] _ (by simp) (by simp) ⟨.nil true 1, .refl _, .refl _, .refl _, .refl _, trivial⟩
    · simp only [push_cast, reduceIte, Nat.reduceEqDiff, Nat.reduceAdd, Nat.reduceSub, Nat.reduceMul, Nat.reduceBEq, Nat.reduceLT, Nat.reduceLeDiff, reduceCtorEq, Int.reduceToNat, Int.reduceNeg]
      refine cond_dec (fun h => ?_) fun h => ?_
      · have hsnoc : ∀ z : Int, (0 ≤ z ∧ z < k + 2 * c) → ∀ y ∈ ys ++ [z], 0 ≤ y ∧ y < k + 2 * c := fun z hz y hy => by
          rcases List.mem_append.1 hy with hy | hy
          · exact hyb y hy
          · rw [List.mem_singleton.1 hy]; exact hz
        have ht4 : t = 1 ∨ t = 2 ∨ t = 3 := by omega
        rcases ht4 with rfl | rfl | rfl <;> simp only [push_cast, reduceIte, Nat.reduceEqDiff, Nat.reduceAdd, Nat.reduceSub, Nat.reduceMul, Nat.reduceBEq, Nat.reduceLT, Nat.reduceLeDiff, reduceCtorEq, Int.reduceToNat, Int.reduceNeg, Int.reduceAdd]
        · obtain ⟨r, hr, hr0, hr1⟩ := pick_ok ha1 e
          rw [hr]
          have hz := hab _ (getD_mem (show ((al.length : Int) - 1 - r).toNat < al.length by omega))
          generalize al.getD ((al.length : Int) - 1 - r).toNat default = z at hz ⊢
          refine ⟨by omega, by omega, by omega, by omega, by omega, by omega, by omega, by omega, by simp, by omega, by omega, _, ?_, 2, ys ++ [z], by omega, rfl, by simp; omega, hsnoc z hz, .inr ⟨by omega, rfl⟩⟩
          omega
        · obtain ⟨r, hr, hr0, hr1⟩ := pick_ok ha1 f
          rw [hr]
          have hz := hab _ (getD_mem (show ((al.length : Int) - 1 - r).toNat < al.length by omega))
          generalize al.getD ((al.length : Int) - 1 - r).toNat default = z at hz ⊢
          refine ⟨by omega, by omega, by omega, by omega, by omega, by omega, by omega, by omega, by simp, by omega, by omega, _, ?_, 3, ys ++ [z], by omega, rfl, by simp; omega, hsnoc z hz, .inr ⟨by omega, rfl⟩⟩
          omega
        · obtain ⟨r, hr, hr0, hr1⟩ := pick_ok ha1 g
          rw [hr]
          have hz := hab _ (getD_mem (show ((al.length : Int) - 1 - r).toNat < al.length by omega))
          generalize al.getD ((al.length : Int) - 1 - r).toNat default = z at hz ⊢
          refine ⟨by omega, by omega, by omega, by omega, by omega, by omega, by omega, by omega, by simp, by omega, by omega, _, ?_, 4, ys ++ [z], by omega, rfl, by simp; omega, hsnoc z hz, .inr ⟨by omega, rfl⟩⟩
          omega
      · rw [List.take_of_length_le (by omega)]
        refine cond_dec (fun h2 => ?_) fun h2 => ?_
        · refine ⟨by omega, by omega, by omega, by omega, by omega, by omega, by omega, by omega, hsh.1, ⟨by omega, by omega, hsh.2⟩, ⟨hR.symm, by omega, by omega⟩, by omega, by omega, by simp, by omega, ?_⟩
          exact hQ [.sl true 1 (ints ys), .int _, .int rm, .int rg, .sc (.int .u64 0)] ys _ (by omega) hyb ⟨.refl _, .refl _, .refl _, .refl _, .refl _, trivial⟩
        · refine ⟨⟨hR.symm, by omega, by omega⟩, by omega, by omega, by simp, by omega, ?_⟩
          exact hQ [.sl true 1 (ints ys), .int 0, .int rm, .int rg, .sc (.int .u64 0)] ys _ (by omega) hyb ⟨.refl _, .refl _, .refl _, .refl _, .refl _, trivial⟩
end Go.Proofs.Ytbdamnfkgdbidaa
namespace Go.Proofs.Ytbdamnfkgdbidaa
open Go Go.Vc Txt
structure RawP.Ok (x : RawP) : Prop where
  ins : 0 ≤ x.ins ∧ x.ins ≤ 255
  out : 0 ≤ x.out ∧ x.out ≤ 255
  len : (x.blocks.length : Int) ≤ 1000000
  six : ∀ b ∈ x.blocks, b.length = 6
  byte : ∀ b ∈ x.blocks, ∀ v ∈ b, 0 ≤ v ∧ v ≤ 255
theorem six_of {l : List Int} (h : l.length = 6) (hb : ∀ v ∈ l, 0 ≤ v ∧ v ≤ 255) : ∃ a b c d e f : Int, l = [a, b, c, d, e, f] ∧ (0 ≤ a ∧ a ≤ 255) ∧ (0 ≤ b ∧ b ≤ 255) ∧ (0 ≤ c ∧ c ≤ 255) ∧ (0 ≤ d ∧ d ≤ 255) ∧ (0 ≤ e ∧ e ≤ 255) ∧ (0 ≤ f ∧ f ≤ 255) := by
  match l, h, hb with
  | [a, b, c, d, e, f], _, hb => exact ⟨a, b, c, d, e, f, rfl, hb a (by simp), hb b (by simp), hb c (by simp), hb d (by simp), hb e (by simp), hb f (by simp)⟩
theorem RawP.Ok.at {x : RawP} (hx : x.Ok) {i : Nat} (hi : i < x.blocks.length) : ∃ a b c d e f : Int, x.blocks.getD i default = [a, b, c, d, e, f] ∧ (0 ≤ a ∧ a ≤ 255) ∧ (0 ≤ b ∧ b ≤ 255) ∧ (0 ≤ c ∧ c ≤ 255) ∧ (0 ≤ d ∧ d ≤ 255) ∧ (0 ≤ e ∧ e ≤ 255) ∧ (0 ≤ f ∧ f ≤ 255) := by
  have hm : x.blocks.getD i default ∈ x.blocks := by simp [List.getD_eq_getElem?_getD, hi]
  exact six_of (l := x.blocks.getD i default) (hx.six _ hm) (hx.byte _ hm)
structure Packed.Gen (x : RawP) (p : Packed) : Prop where
  ins : (p.ins.length : Int) = x.ins % 4 + 1
  nb : p.blocks.length = min x.blocks.length 9
  out : (p.out.length : Int) = x.out % 4 + 1
  drive : p.drive.length = p.out.length
  nin : ∀ b ∈ p.blocks, (b.ins.length : Int) ≤ 4
  sb : ∀ b ∈ p.blocks, ∀ s ∈ b.ins, 0 ≤ s ∧ s < p.ins.length + 2 * p.blocks.length
  sd : ∀ s ∈ p.drive, 0 ≤ s ∧ s < p.ins.length + 2 * p.blocks.length
theorem getD_memB {bs : List Block} {i : Nat} (h : i < bs.length) : bs.getD i default ∈ bs := by simp [List.getD_eq_getElem?_getD, h]
theorem packed_tail0 (x : RawP) (hx : x.Ok) (k c : Nat) (hk : (k : Int) = x.ins % 4 + 1) (hc : c = min x.blocks.length 9) (ws : List Wire) (hws : ws.length = k) (al : List Int) (ha1 : 1 ≤ al.length) (ha2 : al.length ≤ k + c + c)
    (hab : ∀ y ∈ al, 0 ≤ y ∧ y < k + 2 * c) (bs : List Block) (hbl : bs.length = c) (hbs : ∀ b ∈ bs, (b.ins.length : Int) ≤ 4 ∧ ∀ s ∈ b.ins, 0 ≤ s ∧ s < k + 2 * c) (hc0 : c = 0) :
    awp (Env.of Try.prog) ac29b_r39 (retK [RV.cell 2 true 4] fun v => ∃ p : Packed, p.Gen x ∧ Sub v (.agg (packedC true p)))
      ⟨[(1, .ptr 1 0), (2, .ptr 2 0), (3, .ptr 3 0), (5, .int k), (6, .int c), (9, .view 64 0 al.length), (11, .int c), (77, .int c), (78, .int c), (79, .bool false)],
       [(1, rawPC false x), (2, [.nil, .nil, .nil, .nil]), (3, [.view 33 0 k, .nil, .nil, .nil])], [(33, ⟨3, 93, rows wireC ws⟩), (64, ⟨1, 3, ints al⟩)], []⟩ := by
  have hi := hx.ins
  have ho := hx.out
  simp only [ac29b_r39, push_cast, reduceIte, Nat.reduceEqDiff, Nat.reduceAdd, Nat.reduceSub, Nat.reduceMul, Nat.reduceBEq, Nat.reduceLT, Nat.reduceLeDiff, reduceCtorEq, Int.reduceToNat, Int.reduceNeg]
  obtain ⟨n, hn⟩ : ∃ n : Nat, (n : Int) = x.out % 4 + 1 := ⟨(x.out % 4 + 1).toNat, by omega⟩
  refine loop_of (fun m st => ∃ (i : Nat) (os : List Wire) (ds : List Int), i ≤ n ∧ m = n - i ∧ os.length = i ∧ ds.length = i ∧ (∀ y ∈ ds, 0 ≤ y ∧ y < k + 2 * c) ∧
    ((i = 0 ∧ st = ⟨[(1, .ptr 1 0), (2, .ptr 2 0), (3, .ptr 3 0), (6, .int c), (9, .view 64 0 al.length), (16, .int i)],
       [(1, rawPC false x), (2, [.nil, .nil, .nil, .nil]), (3, [.view 33 0 k, .nil, .nil, .nil])], [(33, ⟨3, 93, rows wireC ws⟩), (64, ⟨1, 3, ints al⟩)], []⟩) ∨
     (i ≠ 0 ∧ st = ⟨[(1, .ptr 1 0), (2, .ptr 2 0), (3, .ptr 3 0), (6, .int c), (9, .view 64 0 al.length), (16, .int i)],
       [(1, rawPC false x), (2, [.nil, .nil, .nil, .nil]), (3, [.view 33 0 k, .nil, .view 178 0 i, .view 200 0 i])], [(33, ⟨3, 93, rows wireC ws⟩), (64, ⟨1, 3, ints al⟩), (178, ⟨3, 93, rows wireC os⟩), (200, ⟨1, 3, ints ds⟩)], []⟩))) n ?_ ?_
  · refine ⟨0, [], [], by omega, by omega, rfl, rfl, by simp, .inl ⟨rfl, ?_⟩⟩
    simp only [push_cast, reduceIte, Nat.reduceEqDiff, Nat.reduceAdd, Nat.reduceSub, Nat.reduceMul, Nat.reduceBEq, Nat.reduceLT, Nat.reduceLeDiff, reduceCtorEq, Int.reduceToNat, Int.reduceNeg]
  · rintro m st ⟨i, os, ds, hi1, rfl, hos, hds, hdb, ⟨rfl, rfl⟩ | ⟨hi0, rfl⟩⟩
    · simp only [push_cast, reduceIte, Nat.reduceEqDiff, Nat.reduceAdd, Nat.reduceSub, Nat.reduceMul, Nat.reduceBEq, Nat.reduceLT, Nat.reduceLeDiff, reduceCtorEq, Int.reduceToNat, Int.reduceNeg]
      refine ⟨by omega, by omega, ?_⟩
      refine cond_dec (fun h3 => ?_) fun h3 => absurd h3 (by omega)
      obtain ⟨r, hr, hr0, hr1⟩ := pick_ok ha1 (x.out / 4 + 3 * 0)
      rw [hr]
      have hz := hab _ (getD_mem (show ((al.length : Int) - 1 - r).toNat < al.length by omega))
      generalize al.getD ((al.length : Int) - 1 - r).toNat default = z at hz ⊢
      refine ⟨by omega, by omega, by omega, by omega, by omega, by omega, by omega, by omega, by omega, by simp, by omega, _, ?_, 1, [⟨5, 0, 0⟩], [z], by omega, rfl, rfl, rfl, fun y hy => by rw [List.mem_singleton.1 hy]; exact hz, .inr ⟨by omega, rfl⟩⟩
      omega
    · simp only [push_cast, reduceIte, Nat.reduceEqDiff, Nat.reduceAdd, Nat.reduceSub, Nat.reduceMul, Nat.reduceBEq, Nat.reduceLT, Nat.reduceLeDiff, reduceCtorEq, Int.reduceToNat, Int.reduceNeg]
      refine ⟨by omega, by omega, ?_⟩
      refine cond_dec (fun h3 => ?_) fun h3 => ?_
      · obtain ⟨r, hr, hr0, hr1⟩ := pick_ok ha1 (x.out / 4 + 3 * i)
        rw [hr]
        have hz := hab _ (getD_mem (show ((al.length : Int) - 1 - r).toNat < al.length by omega))
        generalize al.getD ((al.length : Int) - 1 - r).toNat default = z at hz ⊢
        refine ⟨⟨hos.symm, by omega, by omega⟩, by omega, by omega, by omega, by omega, by omega, by omega, by omega, by omega, by omega, by simp, ⟨hds.symm, by omega, by omega⟩, by omega, _, ?_, i + 1, os ++ [⟨5, i, 0⟩], ds ++ [z], by omega, rfl, by simp [hos], by simp [hds], fun y hy => ?_, .inr ⟨by omega, ?_⟩⟩
        · omega
        · rcases List.mem_append.1 hy with hy | hy
          · exact hdb y hy
          · rw [List.mem_singleton.1 hy]; exact hz
        · simp [rows, wireC]
      · have hin : i = n := by omega
        rw [List.take_of_length_le (show ws.length ≤ k by omega), List.take_of_length_le (show os.length ≤ i by omega), List.take_of_length_le (show ds.length ≤ i by omega)]
        have hbs0 : bs = [] := List.eq_nil_of_length_eq_zero (by omega)
        subst hbs0
        refine cal_subO (keys_ok ⟨ws, [], os, ds⟩ ⟨by show (ws.length : Int) ≤ 1000; omega, by simp, by simp, by simp⟩) ⟨Sub.aggL ⟨.refl _, .nil false 5, .refl _, .refl _, trivial⟩, trivial⟩ ?_
        rintro _ ⟨ks, rfl, hks⟩
        simp only [push_cast, reduceIte, Nat.reduceEqDiff, Nat.reduceAdd, Nat.reduceSub, Nat.reduceMul, Nat.reduceBEq, Nat.reduceLT, Nat.reduceLeDiff, reduceCtorEq, Int.reduceToNat, Int.reduceNeg]
        refine loop_of (fun m st => m = 0 ∧ st = ⟨[(2, .ptr 2 0), (3, .ptr 3 0), (6, .int c), (17, .sl true 1 (rows u64C ks)), (18, .int 0)],
          [(2, [.nil, .nil, .nil, .nil]), (3, [.view 33 0 k, .nil, .view 178 0 i, .view 200 0 i])], [(33, ⟨3, 93, rows wireC ws⟩), (178, ⟨3, 93, rows wireC os⟩), (200, ⟨1, 3, ints ds⟩)], []⟩) 0 ?_ ?_
        · refine ⟨rfl, ?_⟩
          simp only [push_cast, reduceIte, Nat.reduceEqDiff, Nat.reduceAdd, Nat.reduceSub, Nat.reduceMul, Nat.reduceBEq, Nat.reduceLT, Nat.reduceLeDiff, reduceCtorEq, Int.reduceToNat, Int.reduceNeg]
        · rintro m st ⟨rfl, rfl⟩
          simp only [push_cast, reduceIte, Nat.reduceEqDiff, Nat.reduceAdd, Nat.reduceSub, Nat.reduceMul, Nat.reduceBEq, Nat.reduceLT, Nat.reduceLeDiff, reduceCtorEq, Int.reduceToNat, Int.reduceNeg]
          refine cond_dec (fun h4 => absurd h4 (by omega)) fun h4 => ?_
          rw [List.take_of_length_le (show ws.length ≤ k by omega), List.take_of_length_le (show os.length ≤ i by omega), List.take_of_length_le (show ds.length ≤ i by omega)]
          refine ⟨⟨fun _ _ => trivial, fun _ _ => trivial, fun _ _ => trivial⟩, ⟨ws, [], os, ds⟩, ⟨by show (ws.length : Int) = _; omega, by show 0 = _; omega, by show (os.length : Int) = _; omega, by show ds.length = os.length; omega, by simp, by simp, fun t ht => ?_⟩, ⟨.refl _, rfl, .refl _, .refl _⟩⟩
          have := hdb t ht
          show 0 ≤ t ∧ t < (ws.length : Int) + 2 * (0 : Nat)
          omega
theorem packed_tail1 (x : RawP) (hx : x.Ok) (k c : Nat) (hk : (k : Int) = x.ins % 4 + 1) (hc : c = min x.blocks.length 9) (ws : List Wire) (hws : ws.length = k) (al : List Int) (ha1 : 1 ≤ al.length) (ha2 : al.length ≤ k + c + c)
    (hab : ∀ y ∈ al, 0 ≤ y ∧ y < k + 2 * c) (bs : List Block) (hbl : bs.length = c) (hbs : ∀ b ∈ bs, (b.ins.length : Int) ≤ 4 ∧ ∀ s ∈ b.ins, 0 ≤ s ∧ s < k + 2 * c) (hc0 : c ≠ 0) :
    awp (Env.of Try.prog) ac29b_r39 (retK [RV.cell 2 true 4] fun v => ∃ p : Packed, p.Gen x ∧ Sub v (.agg (packedC true p)))
      ⟨[(1, .ptr 1 0), (2, .ptr 2 0), (3, .ptr 3 0), (5, .int k), (6, .int c), (9, .view 64 0 al.length), (11, .int c), (77, .int c), (78, .int c), (79, .bool false)],
       [(1, rawPC false x), (2, [.nil, .nil, .nil, .nil]), (3, [.view 33 0 k, .view 156 0 c, .nil, .nil])], [(33, ⟨3, 93, rows wireC ws⟩), (64, ⟨1, 3, ints al⟩), (156, ⟨5, 71, rows (blockC true) bs⟩)], []⟩ := by
  have hi := hx.ins
  have ho := hx.out
  simp only [ac29b_r39, push_cast, reduceIte, Nat.reduceEqDiff, Nat.reduceAdd, Nat.reduceSub, Nat.reduceMul, Nat.reduceBEq, Nat.reduceLT, Nat.reduceLeDiff, reduceCtorEq, Int.reduceToNat, Int.reduceNeg]
  obtain ⟨n, hn⟩ : ∃ n : Nat, (n : Int) = x.out % 4 + 1 := ⟨(x.out % 4 + 1).toNat, by omega⟩
  refine loop_of (fun m st => ∃ (i : Nat) (os : List Wire) (ds : List Int), i ≤ n ∧ m = n - i ∧ os.length = i ∧ ds.length = i ∧ (∀ y ∈ ds, 0 ≤ y ∧ y < k + 2 * c) ∧
    ((i = 0 ∧ st = ⟨[(1, .ptr 1 0), (2, .ptr 2 0), (3, .ptr 3 0), (6, .int c), (9, .view 64 0 al.length), (16, .int i)],
       [(1, rawPC false x), (2, [.nil, .nil, .nil, .nil]), (3, [.view 33 0 k, .view 156 0 c, .nil, .nil])], [(33, ⟨3, 93, rows wireC ws⟩), (64, ⟨1, 3, ints al⟩), (156, ⟨5, 71, rows (blockC true) bs⟩)], []⟩) ∨
     (i ≠ 0 ∧ st = ⟨[(1, .ptr 1 0), (2, .ptr 2 0), (3, .ptr 3 0), (6, .int c), (9, .view 64 0 al.length), (16, .int i)],
       [(1, rawPC false x), (2, [.nil, .nil, .nil, .nil]), (3, [.view 33 0 k, .view 156 0 c, .view 178 0 i, .view 200 0 i])], [(33, ⟨3, 93, rows wireC ws⟩), (64, ⟨1, 3, ints al⟩), (156, ⟨5, 71, rows (blockC true) bs⟩), (178, ⟨3, 93, rows wireC os⟩), (200, ⟨1, 3, ints ds⟩)], []⟩))) n ?_ ?_
  · refine ⟨0, [], [], by omega, by omega, rfl, rfl, by simp, .inl ⟨rfl, ?_⟩⟩
    simp only [push_cast, reduceIte, Nat.reduceEqDiff, Nat.reduceAdd, Nat.reduceSub, Nat.reduceMul, Nat.reduceBEq, Nat.reduceLT, Nat.reduceLeDiff, reduceCtorEq, Int.reduceToNat, Int.reduceNeg]
  · rintro m st ⟨i, os, ds, hi1, rfl, hos, hds, hdb, ⟨rfl, rfl⟩ | ⟨hi0, rfl⟩⟩
    · simp only [push_cast, reduceIte, Nat.reduceEqDiff, Nat.reduceAdd, Nat.reduceSub, Nat.reduceMul, Nat.reduceBEq, Nat.reduceLT, Nat.reduceLeDiff, reduceCtorEq, Int.reduceToNat, Int.reduceNeg]
      refine ⟨by omega, by omega, ?_⟩
      refine cond_dec (fun h3 => ?_) fun h3 => absurd h3 (by omega)
      obtain ⟨r, hr, hr0, hr1⟩ := pick_ok ha1 (x.out / 4 + 3 * 0)
      rw [hr]
      have hz := hab _ (getD_mem (show ((al.length : Int) - 1 - r).toNat < al.length by omega))
      generalize al.getD ((al.length : Int) - 1 - r).toNat default = z at hz ⊢
      refine ⟨by omega, by omega, by omega, by omega, by omega, by omega, by omega, by omega, by omega, by simp, by omega, _, ?_, 1, [⟨5, 0, 0⟩], [z], by omega, rfl, rfl, rfl, fun y hy => by rw [List.mem_singleton.1 hy]; exact hz, .inr ⟨by omega, rfl⟩⟩
      omega
    · simp only [push_cast, reduceIte, Nat.reduceEqDiff, Nat.reduceAdd, Nat.reduceSub, Nat.reduceMul, Nat.reduceBEq, Nat.reduceLT, Nat.reduceLeDiff, reduceCtorEq, Int.reduceToNat, Int.reduceNeg]
      refine ⟨by omega, by omega, ?_⟩
      refine cond_dec (fun h3 => ?_) fun h3 => ?_
      · obtain ⟨r, hr, hr0, hr1⟩ := pick_ok ha1 (x.out / 4 + 3 * i)
        rw [hr]
        have hz := hab _ (getD_mem (show ((al.length : Int) - 1 - r).toNat < al.length by omega))
        generalize al.getD ((al.length : Int) - 1 - r).toNat default = z at hz ⊢
        refine ⟨⟨hos.symm, by omega, by omega⟩, by omega, by omega, by omega, by omega, by omega, by omega, by omega, by omega, by omega, by simp, ⟨hds.symm, by omega, by omega⟩, by omega, _, ?_, i + 1, os ++ [⟨5, i, 0⟩], ds ++ [z], by omega, rfl, by simp [hos], by simp [hds], fun y hy => ?_, .inr ⟨by omega, ?_⟩⟩
        · omega
        · rcases List.mem_append.1 hy with hy | hy
          · exact hdb y hy
          · rw [List.mem_singleton.1 hy]; exact hz
        · simp [rows, wireC]
      · have hin : i = n := by omega
        rw [List.take_of_length_le (show ws.length ≤ k by omega), List.take_of_length_le (show os.length ≤ i by omega), List.take_of_length_le (show ds.length ≤ i by omega), List.take_of_length_le (show bs.length ≤ c by omega)]
        refine cal_subO (keys_ok ⟨ws, bs, os, ds⟩ ⟨by show (ws.length : Int) ≤ 1000; omega, by show (bs.length : Int) ≤ 1000; omega, fun b hb => by have := (hbs b hb).1; omega, fun b hb t ht => by have := (hbs b hb).2 t ht; show 0 ≤ t ∧ t < (ws.length : Int) + 2 * (bs.length : Int); omega⟩)
          ⟨Sub.aggL ⟨.refl _, Sub.slR 5 (fun h => h) (SubR.map _ _ _ fun b _ => blockC_sub b), .refl _, .refl _, trivial⟩, trivial⟩ ?_
        rintro _ ⟨ks, rfl, hks⟩
        have hks : ks.length = bs.length := hks
        simp only [push_cast, reduceIte, Nat.reduceEqDiff, Nat.reduceAdd, Nat.reduceSub, Nat.reduceMul, Nat.reduceBEq, Nat.reduceLT, Nat.reduceLeDiff, reduceCtorEq, Int.reduceToNat, Int.reduceNeg]
        refine loop_of (fun m st => ∃ (t : Nat) (bs : List Block), t ≤ c ∧ m = c - t ∧ bs.length = c ∧ (∀ b ∈ bs, (b.ins.length : Int) ≤ 4 ∧ ∀ s ∈ b.ins, 0 ≤ s ∧ s < k + 2 * c) ∧ st = ⟨[(2, .ptr 2 0), (3, .ptr 3 0), (6, .int c), (17, .sl true 1 (rows u64C ks)), (18, .int t)],
          [(2, [.nil, .nil, .nil, .nil]), (3, [.view 33 0 k, .view 156 0 c, .view 178 0 i, .view 200 0 i])], [(33, ⟨3, 93, rows wireC ws⟩), (156, ⟨5, 71, rows (blockC true) bs⟩), (178, ⟨3, 93, rows wireC os⟩), (200, ⟨1, 3, ints ds⟩)], []⟩) c ?_ ?_
        · refine ⟨0, bs, by omega, by omega, hbl, hbs, ?_⟩
          simp only [push_cast, reduceIte, Nat.reduceEqDiff, Nat.reduceAdd, Nat.reduceSub, Nat.reduceMul, Nat.reduceBEq, Nat.reduceLT, Nat.reduceLeDiff, reduceCtorEq, Int.reduceToNat, Int.reduceNeg]
        · rw [hbl] at hks
          clear hbs hbl
          rintro m st ⟨t, bs, ht, rfl, hbl, hbs, rfl⟩
          simp only [push_cast, reduceIte, Nat.reduceEqDiff, Nat.reduceAdd, Nat.reduceSub, Nat.reduceMul, Nat.reduceBEq, Nat.reduceLT, Nat.reduceLeDiff, reduceCtorEq, Int.reduceToNat, Int.reduceNeg]
          refine cond_dec (fun h4 => ?_) fun h4 => ?_
          · have hmem := getD_memB (show t < bs.length by omega)
            refine ⟨by omega, by omega, by omega, by omega, by omega, _, ?_, t + 1, bs.set t { bs.getD t default with key := ks.getD t default }, by omega, rfl, by simpa using hbl, fun q hq => ?_, ?_⟩
            · omega
            · rcases List.mem_or_eq_of_mem_set hq with hq | rfl
              · exact hbs q hq
              · exact hbs (bs.getD t default) hmem
            · simp [rows, blockC, List.map_set]
          · rw [List.take_of_length_le (show ws.length ≤ k by omega), List.take_of_length_le (show os.length ≤ i by omega), List.take_of_length_le (show ds.length ≤ i by omega), List.take_of_length_le (show bs.length ≤ c by omega)]
            refine ⟨⟨fun _ _ => trivial, fun _ _ _ _ => trivial, fun _ _ => trivial, fun _ _ => trivial⟩, ⟨ws, bs, os, ds⟩, ⟨by show (ws.length : Int) = _; omega, by show bs.length = _; omega, by show (os.length : Int) = _; omega, by show ds.length = os.length; omega, fun b hb => (hbs b hb).1, fun b hb t ht => ?_, fun t ht => ?_⟩, .refl _, .refl _, .refl _, .refl _⟩
            · have := (hbs b hb).2 t ht
              show 0 ≤ t ∧ t < (ws.length : Int) + 2 * (bs.length : Int)
              omega
            · have := hdb t ht
              show 0 ≤ t ∧ t < (ws.length : Int) + 2 * (bs.length : Int)
              omega
theorem packed_main (x : RawP) (hx : x.Ok) (k c : Nat) (hk : (k : Int) = x.ins % 4 + 1) (hc : c = min x.blocks.length 9) (ws : List Wire) (hws : ws.length = k) (al fl : List Int) (ha1 : 1 ≤ al.length) (ha2 : al.length ≤ k + c)
    (hab : ∀ y ∈ al, 0 ≤ y ∧ y < k + 2 * c) :
    awp (Env.of Try.prog) ac29b_r20 (retK [RV.cell 2 true 4] fun v => ∃ p : Packed, p.Gen x ∧ Sub v (.agg (packedC true p)))
      ⟨[(1, .ptr 1 0), (2, .ptr 2 0), (3, .ptr 3 0), (5, .int k), (6, .int c), (7, .view 42 0 fl.length), (9, .view 64 0 al.length), (74, .bot), (75, .view 42 0 fl.length), (76, .view 64 0 al.length)],
       [(1, rawPC false x), (2, [.nil, .nil, .nil, .nil]), (3, [.view 33 0 k, .nil, .nil, .nil])], [(33, ⟨3, 93, rows wireC ws⟩), (42, ⟨1, 3, ints fl⟩), (64, ⟨1, 3, ints al⟩)], []⟩ := by
  have hi := hx.ins
  simp only [ac29b_r20, push_cast, reduceIte, Nat.reduceEqDiff, Nat.reduceAdd, Nat.reduceSub, Nat.reduceMul, Nat.reduceBEq, Nat.reduceLT, Nat.reduceLeDiff, reduceCtorEq, Int.reduceToNat, Int.reduceNeg]
  refine loop_of (fun m st => ∃ (i : Nat) (al : List Int) (R : List (List PV)) (bs : List Block), i ≤ c ∧ m = c - i ∧ 1 ≤ al.length ∧ al.length ≤ k + c + i ∧ (∀ y ∈ al, 0 ≤ y ∧ y < k + 2 * c) ∧ R.length = i ∧ SubR R (rows (blockC true) bs) ∧
    (∀ b ∈ bs, (b.ins.length : Int) ≤ 4 ∧ ∀ s ∈ b.ins, 0 ≤ s ∧ s < k + 2 * c) ∧
    ((i = 0 ∧ st = ⟨[(1, .ptr 1 0), (2, .ptr 2 0), (3, .ptr 3 0), (5, .int k), (6, .int c), (9, .view 64 0 al.length), (11, .int i)],
       [(1, rawPC false x), (2, [.nil, .nil, .nil, .nil]), (3, [.view 33 0 k, .nil, .nil, .nil])], [(33, ⟨3, 93, rows wireC ws⟩), (64, ⟨1, 3, ints al⟩)], []⟩) ∨
     (i ≠ 0 ∧ st = ⟨[(1, .ptr 1 0), (2, .ptr 2 0), (3, .ptr 3 0), (5, .int k), (6, .int c), (9, .view 64 0 al.length), (11, .int i)],
       [(1, rawPC false x), (2, [.nil, .nil, .nil, .nil]), (3, [.view 33 0 k, .view 156 0 i, .nil, .nil])], [(33, ⟨3, 93, rows wireC ws⟩), (64, ⟨1, 3, ints al⟩), (156, ⟨5, 71, R⟩)], []⟩))) c ?_ ?_
  · refine ⟨0, al, [], [], by omega, by omega, ha1, by omega, hab, rfl, trivial, by simp, .inl ⟨rfl, ?_⟩⟩
    simp only [push_cast, reduceIte, Nat.reduceEqDiff, Nat.reduceAdd, Nat.reduceSub, Nat.reduceMul, Nat.reduceBEq, Nat.reduceLT, Nat.reduceLeDiff, reduceCtorEq, Int.reduceToNat, Int.reduceNeg]
  · rintro m st ⟨i, al, R, bs, hi1, rfl, h1, h2, hab, hR, hsub, hbs, ⟨rfl, rfl⟩ | ⟨hi0, rfl⟩⟩
    · simp only [push_cast, reduceIte, Nat.reduceEqDiff, Nat.reduceAdd, Nat.reduceSub, Nat.reduceMul, Nat.reduceBEq, Nat.reduceLT, Nat.reduceLeDiff, reduceCtorEq, Int.reduceToNat, Int.reduceNeg]
      refine cond_dec (fun h3 => ?_) fun h3 => ?_
      · obtain ⟨a, b, d, e, f, g, hb, b1, b2, b3, b4, b5, b6⟩ := hx.at (show 0 < x.blocks.length by omega)
        rw [hb]
        simp only [push_cast, reduceIte, Nat.reduceEqDiff, Nat.reduceAdd, Nat.reduceSub, Nat.reduceMul, Nat.reduceBEq, Nat.reduceLT, Nat.reduceLeDiff, reduceCtorEq, Int.reduceToNat, Int.reduceNeg]
        obtain ⟨kk, hkk0⟩ : ∃ kk : Nat, b % 5 = kk := ⟨(b % 5).toNat, by omega⟩
        have hkk : kk ≤ 4 := by omega
        rw [hkk0]
        refine ⟨by omega, by omega, by omega, by omega, by omega, by omega, by omega, ?_⟩
        have hbs0 : bs = [] := by
          cases bs with
          | nil => rfl
          | cons q r => have := hsub.len; rw [hR] at this; simp [rows] at this
        refine cond_dec (fun h4 => ?_) fun h4 => ?_
        · refine ⟨by omega, by omega, cond_dec (fun h5 => absurd h5 (by omega)) fun h5 => ?_⟩
          refine packed_blkA x _ _ k c 0 kk hkk a b d e f g (-1) 0 (by omega) rfl ⟨b2, b3, b4, b5, b6⟩ ws al h1 (by omega) hab (by simp only [push_cast, reduceIte, Nat.reduceEqDiff, Nat.reduceAdd, Nat.reduceSub, Nat.reduceMul, Nat.reduceBEq, Nat.reduceLT, Nat.reduceLeDiff, reduceCtorEq, Int.reduceToNat, Int.reduceNeg]) ?_
          intro row ys tb hy1 hy2 hrow
          simp only [push_cast, reduceIte, Nat.reduceEqDiff, Nat.reduceAdd, Nat.reduceSub, Nat.reduceMul, Nat.reduceBEq, Nat.reduceLT, Nat.reduceLeDiff, reduceCtorEq, Int.reduceToNat, Int.reduceNeg]
          refine ⟨by omega, _, ?_, 1, al ++ [(k : Int) + 2 * (0 : Nat)], [row], bs ++ [⟨ys, tb, (-1), 0, 0⟩], by omega, rfl, ?_, ?_, ?_, ?_, ?_, ?_, .inr ⟨by omega, ?_⟩⟩
          · omega
          · simp
          · simp; omega
          · intro y hy
            rcases List.mem_append.1 hy with hy | hy
            · exact hab y hy
            · rw [List.mem_singleton.1 hy]; omega
          · rfl
          · rw [hbs0]; exact ⟨hrow, trivial⟩
          · intro q hq
            rcases List.mem_append.1 hq with hq | hq
            · exact hbs q hq
            · rw [List.mem_singleton.1 hq]; exact ⟨by show (ys.length : Int) ≤ 4; omega, hy2⟩
          · simp
        · refine ⟨by omega, by omega, cond_dec (fun h5 => ?_) fun h5 => ?_⟩
          · refine ⟨by omega, by omega, by omega, by omega, ?_⟩
            clear hkk0 hkk
            obtain ⟨kk2, hkk2⟩ : ∃ kk2 : Nat, min (kk : Int) 3 = kk2 := ⟨min kk 3, by omega⟩
            rw [hkk2]
            have hkk : kk2 ≤ 4 := by omega
            refine packed_blkA x _ _ k c 0 kk2 hkk a b d e f g (a / 4 % 16) (-1) (by omega) rfl ⟨b2, b3, b4, b5, b6⟩ ws al h1 (by omega) hab (by simp only [push_cast, reduceIte, Nat.reduceEqDiff, Nat.reduceAdd, Nat.reduceSub, Nat.reduceMul, Nat.reduceBEq, Nat.reduceLT, Nat.reduceLeDiff, reduceCtorEq, Int.reduceToNat, Int.reduceNeg]) ?_
            intro row ys tb hy1 hy2 hrow
            simp only [push_cast, reduceIte, Nat.reduceEqDiff, Nat.reduceAdd, Nat.reduceSub, Nat.reduceMul, Nat.reduceBEq, Nat.reduceLT, Nat.reduceLeDiff, reduceCtorEq, Int.reduceToNat, Int.reduceNeg]
            refine ⟨by omega, _, ?_, 1, al ++ [(k : Int) + 2 * (0 : Nat)], [row], bs ++ [⟨ys, tb, (a / 4 % 16), (-1), 0⟩], by omega, rfl, ?_, ?_, ?_, ?_, ?_, ?_, .inr ⟨by omega, ?_⟩⟩
            · omega
            · simp
            · simp; omega
            · intro y hy
              rcases List.mem_append.1 hy with hy | hy
              · exact hab y hy
              · rw [List.mem_singleton.1 hy]; omega
            · rfl
            · rw [hbs0]; exact ⟨hrow, trivial⟩
            · intro q hq
              rcases List.mem_append.1 hq with hq | hq
              · exact hbs q hq
              · rw [List.mem_singleton.1 hq]; exact ⟨by show (ys.length : Int) ≤ 4; omega, hy2⟩
            · simp
          · skip
            refine packed_blkA x _ _ k c 0 kk hkk a b d e f g (-1) (-1) (by omega) rfl ⟨b2, b3, b4, b5, b6⟩ ws al h1 (by omega) hab (by simp only [push_cast, reduceIte, Nat.reduceEqDiff, Nat.reduceAdd, Nat.reduceSub, Nat.reduceMul, Nat.reduceBEq, Nat.reduceLT, Nat.reduceLeDiff, reduceCtorEq, Int.reduceToNat, Int.reduceNeg]) ?_
            intro row ys tb hy1 hy2 hrow
            simp only [push_cast, reduceIte, Nat.reduceEqDiff, Nat.reduceAdd, Nat.reduceSub, Nat.reduceMul, Nat.reduceBEq, Nat.reduceLT, Nat.reduceLeDiff, reduceCtorEq, Int.reduceToNat, Int.reduceNeg]
            refine ⟨by omega, _, ?_, 1, al ++ [(k : Int) + 2 * (0 : Nat)], [row], bs ++ [⟨ys, tb, (-1), (-1), 0⟩], by omega, rfl, ?_, ?_, ?_, ?_, ?_, ?_, .inr ⟨by omega, ?_⟩⟩
            · omega
            · simp
            · simp; omega
            · intro y hy
              rcases List.mem_append.1 hy with hy | hy
              · exact hab y hy
              · rw [List.mem_singleton.1 hy]; omega
            · rfl
            · rw [hbs0]; exact ⟨hrow, trivial⟩
            · intro q hq
              rcases List.mem_append.1 hq with hq | hq
              · exact hbs q hq
              · rw [List.mem_singleton.1 hq]; exact ⟨by show (ys.length : Int) ≤ 4; omega, hy2⟩
            · simp
      · have hic : 0 = c := by omega
        refine wk_of ⟨[(1, .ptr 1 0), (2, .ptr 2 0), (3, .ptr 3 0), (5, .int k), (6, .int c), (9, .view 64 0 al.length), (11, .int c), (77, .int c), (78, .int c), (79, .bool false)],
          [(1, rawPC false x), (2, [.nil, .nil, .nil, .nil]), (3, [.view 33 0 k, .nil, .nil, .nil])], [(33, ⟨3, 93, rows wireC ws⟩), (64, ⟨1, 3, ints al⟩)], []⟩ ?_
          (packed_tail0 x hx k c hk hc ws hws al h1 (by omega) hab [] (by simp; omega) (by simp) (by omega))
        simp only [push_cast, reduceIte, Nat.reduceEqDiff, Nat.reduceAdd, Nat.reduceSub, Nat.reduceMul, Nat.reduceBEq, Nat.reduceLT, Nat.reduceLeDiff, reduceCtorEq, Int.reduceToNat, Int.reduceNeg]
        simp [← hic]
    · simp only [push_cast, reduceIte, Nat.reduceEqDiff, Nat.reduceAdd, Nat.reduceSub, Nat.reduceMul, Nat.reduceBEq, Nat.reduceLT, Nat.reduceLeDiff, reduceCtorEq, Int.reduceToNat, Int.reduceNeg]
      refine cond_dec (fun h3 => ?_) fun h3 => ?_
      · obtain ⟨a, b, d, e, f, g, hb, b1, b2, b3, b4, b5, b6⟩ := hx.at (show i < x.blocks.length by omega)
        rw [hb]
        simp only [push_cast, reduceIte, Nat.reduceEqDiff, Nat.reduceAdd, Nat.reduceSub, Nat.reduceMul, Nat.reduceBEq, Nat.reduceLT, Nat.reduceLeDiff, reduceCtorEq, Int.reduceToNat, Int.reduceNeg]
        obtain ⟨kk, hkk0⟩ : ∃ kk : Nat, b % 5 = kk := ⟨(b % 5).toNat, by omega⟩
        have hkk : kk ≤ 4 := by omega
        rw [hkk0]
        refine ⟨by omega, by omega, by omega, by omega, by omega, by omega, by omega, ?_⟩
        refine cond_dec (fun h4 => ?_) fun h4 => ?_
        · refine ⟨by omega, by omega, cond_dec (fun h5 => absurd h5 (by omega)) fun h5 => ?_⟩
          refine packed_blkB x _ _ k c i kk hkk a b d e f g (-1) i (by omega) R hR ⟨b2, b3, b4, b5, b6⟩ ws al h1 (by omega) hab (by simp only [push_cast, reduceIte, Nat.reduceEqDiff, Nat.reduceAdd, Nat.reduceSub, Nat.reduceMul, Nat.reduceBEq, Nat.reduceLT, Nat.reduceLeDiff, reduceCtorEq, Int.reduceToNat, Int.reduceNeg]) ?_
          intro row ys tb hy1 hy2 hrow
          simp only [push_cast, reduceIte, Nat.reduceEqDiff, Nat.reduceAdd, Nat.reduceSub, Nat.reduceMul, Nat.reduceBEq, Nat.reduceLT, Nat.reduceLeDiff, reduceCtorEq, Int.reduceToNat, Int.reduceNeg]
          refine ⟨by omega, _, ?_, i + 1, al ++ [(k : Int) + 2 * i], R ++ [row], bs ++ [⟨ys, tb, (-1), i, 0⟩], by omega, rfl, ?_, ?_, ?_, ?_, ?_, ?_, .inr ⟨by omega, ?_⟩⟩
          · omega
          · simp
          · simp; omega
          · intro y hy
            rcases List.mem_append.1 hy with hy | hy
            · exact hab y hy
            · rw [List.mem_singleton.1 hy]; omega
          · simp [hR]
          · have := SubR.app (us := [row]) (vs := [blockC true ⟨ys, tb, (-1), i, 0⟩]) hsub ⟨hrow, trivial⟩; simpa [rows] using this
          · intro q hq
            rcases List.mem_append.1 hq with hq | hq
            · exact hbs q hq
            · rw [List.mem_singleton.1 hq]; exact ⟨by show (ys.length : Int) ≤ 4; omega, hy2⟩
          · simp
        · refine ⟨by omega, by omega, cond_dec (fun h5 => ?_) fun h5 => ?_⟩
          · refine ⟨by omega, by omega, by omega, by omega, ?_⟩
            clear hkk0 hkk
            obtain ⟨kk2, hkk2⟩ : ∃ kk2 : Nat, min (kk : Int) 3 = kk2 := ⟨min kk 3, by omega⟩
            rw [hkk2]
            have hkk : kk2 ≤ 4 := by omega
            refine packed_blkB x _ _ k c i kk2 hkk a b d e f g (a / 4 % 16) (-1) (by omega) R hR ⟨b2, b3, b4, b5, b6⟩ ws al h1 (by omega) hab (by simp only [push_cast, reduceIte, Nat.reduceEqDiff, Nat.reduceAdd, Nat.reduceSub, Nat.reduceMul, Nat.reduceBEq, Nat.reduceLT, Nat.reduceLeDiff, reduceCtorEq, Int.reduceToNat, Int.reduceNeg]) ?_
            intro row ys tb hy1 hy2 hrow
            simp only [push_cast, reduceIte, Nat.reduceEqDiff, Nat.reduceAdd, Nat.reduceSub, Nat.reduceMul, Nat.reduceBEq, Nat.reduceLT, Nat.reduceLeDiff, reduceCtorEq, Int.reduceToNat, Int.reduceNeg]
            refine ⟨by omega, _, ?_, i + 1, al ++ [(k : Int) + 2 * i], R ++ [row], bs ++ [⟨ys, tb, (a / 4 % 16), (-1), 0⟩], by omega, rfl, ?_, ?_, ?_, ?_, ?_, ?_, .inr ⟨by omega, ?_⟩⟩
            · omega
            · simp
            · simp; omega
            · intro y hy
              rcases List.mem_append.1 hy with hy | hy
              · exact hab y hy
              · rw [List.mem_singleton.1 hy]; omega
            · simp [hR]
            · have := SubR.app (us := [row]) (vs := [blockC true ⟨ys, tb, (a / 4 % 16), (-1), 0⟩]) hsub ⟨hrow, trivial⟩; simpa [rows] using this
            · intro q hq
              rcases List.mem_append.1 hq with hq | hq
              · exact hbs q hq
              · rw [List.mem_singleton.1 hq]; exact ⟨by show (ys.length : Int) ≤ 4; omega, hy2⟩
            · simp
          · skip
            refine packed_blkB x _ _ k c i kk hkk a b d e f g (-1) (-1) (by omega) R hR ⟨b2, b3, b4, b5, b6⟩ ws al h1 (by omega) hab (by simp only [push_cast, reduceIte, Nat.reduceEqDiff, Nat.reduceAdd, Nat.reduceSub, Nat.reduceMul, Nat.reduceBEq, Nat.reduceLT, Nat.reduceLeDiff, reduceCtorEq, Int.reduceToNat, Int.reduceNeg]) ?_
            intro row ys tb hy1 hy2 hrow
            simp only [push_cast, reduceIte, Nat.reduceEqDiff, Nat.reduceAdd, Nat.reduceSub, Nat.reduceMul, Nat.reduceBEq, Nat.reduceLT, Nat.reduceLeDiff, reduceCtorEq, Int.reduceToNat, Int.reduceNeg]
            refine ⟨by omega, _, ?_, i + 1, al ++ [(k : Int) + 2 * i], R ++ [row], bs ++ [⟨ys, tb, (-1), (-1), 0⟩], by omega, rfl, ?_, ?_, ?_, ?_, ?_, ?_, .inr ⟨by omega, ?_⟩⟩
            · omega
            · simp
            · simp; omega
            · intro y hy
              rcases List.mem_append.1 hy with hy | hy
              · exact hab y hy
              · rw [List.mem_singleton.1 hy]; omega
            · simp [hR]
            · have := SubR.app (us := [row]) (vs := [blockC true ⟨ys, tb, (-1), (-1), 0⟩]) hsub ⟨hrow, trivial⟩; simpa [rows] using this
            · intro q hq
              rcases List.mem_append.1 hq with hq | hq
              · exact hbs q hq
              · rw [List.mem_singleton.1 hq]; exact ⟨by show (ys.length : Int) ≤ 4; omega, hy2⟩
            · simp
      · have hic : i = c := by omega
        subst hic
        refine wk_of ⟨[(1, .ptr 1 0), (2, .ptr 2 0), (3, .ptr 3 0), (5, .int k), (6, .int i), (9, .view 64 0 al.length), (11, .int i), (77, .int i), (78, .int i), (79, .bool false)],
          [(1, rawPC false x), (2, [.nil, .nil, .nil, .nil]), (3, [.view 33 0 k, .view 156 0 i, .nil, .nil])], [(33, ⟨3, 93, rows wireC ws⟩), (64, ⟨1, 3, ints al⟩), (156, ⟨5, 71, rows (blockC true) bs⟩)], []⟩ ?_
          (packed_tail1 x hx k i hk hc ws hws al h1 (by omega) hab bs (by have := hsub.len; simp [rows] at this; omega) hbs (by omega))
        simp only [push_cast, reduceIte, Nat.reduceEqDiff, Nat.reduceAdd, Nat.reduceSub, Nat.reduceMul, Nat.reduceBEq, Nat.reduceLT, Nat.reduceLeDiff, reduceCtorEq, Int.reduceToNat, Int.reduceNeg]
        simpa using hsub
theorem packed_raw (x : RawP) (hx : x.Ok) : FnOK Try.prog 29 [.agg (rawPC false x)] (fun v => ∃ p : Packed, p.Gen x ∧ Sub v (.agg (packedC true p))) := by
  refine FnOK.of_awp Try.func29 ok29b (by show 1 ≤ _; decide) ?_
  simp only [ac29b, rv29b, push_cast, reduceIte, Nat.reduceEqDiff, Nat.reduceAdd, Nat.reduceSub, Nat.reduceMul, Nat.reduceBEq, Nat.reduceLT, Nat.reduceLeDiff, reduceCtorEq, Int.reduceToNat, Int.reduceNeg]
  have hi := hx.ins
  have hlen := hx.len
  obtain ⟨n, hn⟩ : ∃ n : Nat, (n : Int) = x.ins % 4 + 1 := ⟨(x.ins % 4 + 1).toNat, by omega⟩
  refine loop_of (fun m st => ∃ (k : Nat) (ws : List Wire), k ≤ n ∧ m = n - k ∧ ws.length = k ∧
    ((k = 0 ∧ st = ⟨[(1, .ptr 1 0), (2, .ptr 2 0), (3, .ptr 3 0), (4, .int k)], [(1, rawPC false x), (2, [.nil, .nil, .nil, .nil]), (3, [.nil, .nil, .nil, .nil])], [], []⟩) ∨
     (k ≠ 0 ∧ st = ⟨[(1, .ptr 1 0), (2, .ptr 2 0), (3, .ptr 3 0), (4, .int k)], [(1, rawPC false x), (2, [.nil, .nil, .nil, .nil]), (3, [.view 33 0 k, .nil, .nil, .nil])], [(33, ⟨3, 93, rows wireC ws⟩)], []⟩))) n ?_ ?_
  · refine ⟨0, [], by omega, by omega, rfl, .inl ⟨rfl, ?_⟩⟩
    simp only [push_cast, reduceIte, Nat.reduceEqDiff, Nat.reduceAdd, Nat.reduceSub, Nat.reduceMul, Nat.reduceBEq, Nat.reduceLT, Nat.reduceLeDiff, reduceCtorEq, Int.reduceToNat, Int.reduceNeg]
  · rintro m st ⟨k, ws, hk, rfl, hws, ⟨rfl, rfl⟩ | ⟨hk0, rfl⟩⟩
    · simp only [push_cast, reduceIte, Nat.reduceEqDiff, Nat.reduceAdd, Nat.reduceSub, Nat.reduceMul, Nat.reduceBEq, Nat.reduceLT, Nat.reduceLeDiff, reduceCtorEq, Int.reduceToNat, Int.reduceNeg]
      refine ⟨⟨by omega, by omega, by omega⟩, ⟨by omega, by omega⟩, ?_⟩
      refine cond_dec (fun h => ?_) fun h => absurd h (by omega)
      refine ⟨⟨by omega, by omega⟩, _, ?_, 1, [⟨3, 0, 0⟩], by omega, rfl, rfl, .inr ⟨by omega, rfl⟩⟩
      omega
    · simp only [push_cast, reduceIte, Nat.reduceEqDiff, Nat.reduceAdd, Nat.reduceSub, Nat.reduceMul, Nat.reduceBEq, Nat.reduceLT, Nat.reduceLeDiff, reduceCtorEq, Int.reduceToNat, Int.reduceNeg]
      refine ⟨⟨by omega, by omega, by omega⟩, ⟨by omega, by omega⟩, ?_⟩
      refine cond_dec (fun h => ?_) fun h => ?_
      · refine ⟨⟨hws.symm, by omega, by omega⟩, ⟨by omega, by omega⟩, _, ?_, k + 1, ws ++ [⟨3, k, 0⟩], by omega, rfl, by simp [hws], .inr ⟨by omega, ?_⟩⟩
        · omega
        · simp [rows, wireC]
      · have hkn : k = n := by omega
        subst hkn
        obtain ⟨c, hc⟩ : ∃ c : Nat, c = min x.blocks.length 9 := ⟨_, rfl⟩
        rw [show min (x.blocks.length : Int) 9 = (c : Int) by omega]
        refine loop_of (fun m st => ∃ (i : Nat) (fl : List Int), i ≤ c ∧ m = c - i ∧ fl.length ≤ i ∧ (∀ y ∈ fl, 0 ≤ y ∧ y < k + 2 * c) ∧
          st = ⟨[(1, .ptr 1 0), (2, .ptr 2 0), (3, .ptr 3 0), (5, .int k), (6, .int c), (7, .view 42 0 fl.length), (8, .int i)], [(1, rawPC false x), (2, [.nil, .nil, .nil, .nil]), (3, [.view 33 0 k, .nil, .nil, .nil])], [(33, ⟨3, 93, rows wireC ws⟩), (42, ⟨1, 3, ints fl⟩)], []⟩) c ?_ ?_
        · refine ⟨0, [], by omega, by omega, by simp, by simp, ?_⟩
          simp only [push_cast, reduceIte, Nat.reduceEqDiff, Nat.reduceAdd, Nat.reduceSub, Nat.reduceMul, Nat.reduceBEq, Nat.reduceLT, Nat.reduceLeDiff, reduceCtorEq, Int.reduceToNat, Int.reduceNeg]
          rfl
        · rintro m st ⟨i, fl, hi2, rfl, hfl, hfb, rfl⟩
          simp only [push_cast, reduceIte, Nat.reduceEqDiff, Nat.reduceAdd, Nat.reduceSub, Nat.reduceMul, Nat.reduceBEq, Nat.reduceLT, Nat.reduceLeDiff, reduceCtorEq, Int.reduceToNat, Int.reduceNeg]
          refine cond_dec (fun h2 => ?_) fun h2 => ?_
          · obtain ⟨a, b, d, e, f, g, hb, ha, _⟩ := hx.at (show i < x.blocks.length by omega)
            rw [hb]
            simp only [push_cast, reduceIte, Nat.reduceEqDiff, Nat.reduceAdd, Nat.reduceSub, Nat.reduceMul, Nat.reduceBEq, Nat.reduceLT, Nat.reduceLeDiff, reduceCtorEq, Int.reduceToNat, Int.reduceNeg]
            refine ⟨⟨by omega, by omega⟩, ⟨by omega, by omega⟩, by omega, ⟨by omega, by omega, by omega⟩, ?_⟩
            refine cond_dec (fun h3 => ?_) fun h3 => ?_
            · refine ⟨⟨by omega, by omega⟩, ⟨by omega, by omega⟩, ⟨by omega, by omega⟩, by simp, ⟨by omega, by omega⟩, ⟨by omega, by omega⟩, _, ?_, i + 1, fl ++ [(k : Int) + 2 * i + 1], by omega, rfl, by simp; omega, fun y hy => ?_, ?_⟩
              · omega
              · rcases List.mem_append.1 hy with hy | hy
                · exact hfb y hy
                · rw [List.mem_singleton.1 hy]; omega
              · simp
            · refine ⟨⟨by omega, by omega⟩, _, ?_, i + 1, fl, by omega, rfl, by omega, hfb, ?_⟩
              · omega
              · simp
          · refine loop_of (fun m st => ∃ (i : Nat) (al : List Int), i ≤ k ∧ m = k - i ∧ al.length = i ∧ (∀ y ∈ al, 0 ≤ y ∧ y < k + 2 * c) ∧
              st = ⟨[(1, .ptr 1 0), (2, .ptr 2 0), (3, .ptr 3 0), (5, .int k), (6, .int c), (7, .view 42 0 fl.length), (9, .view 64 0 i), (10, .int i)], [(1, rawPC false x), (2, [.nil, .nil, .nil, .nil]), (3, [.view 33 0 k, .nil, .nil, .nil])], [(33, ⟨3, 93, rows wireC ws⟩), (42, ⟨1, 3, ints fl⟩), (64, ⟨1, 3, ints al⟩)], []⟩) k ?_ ?_
            · refine ⟨0, [], by omega, by omega, by simp, by simp, ?_⟩
              simp only [push_cast, reduceIte, Nat.reduceEqDiff, Nat.reduceAdd, Nat.reduceSub, Nat.reduceMul, Nat.reduceBEq, Nat.reduceLT, Nat.reduceLeDiff, reduceCtorEq, Int.reduceToNat, Int.reduceNeg]
              rfl
            · rintro m st ⟨i, al, hi3, rfl, hal, hab, rfl⟩
              simp only [push_cast, reduceIte, Nat.reduceEqDiff, Nat.reduceAdd, Nat.reduceSub, Nat.reduceMul, Nat.reduceBEq, Nat.reduceLT, Nat.reduceLeDiff, reduceCtorEq, Int.reduceToNat, Int.reduceNeg]
              refine cond_dec (fun h3 => ?_) fun h3 => ?_
              · refine ⟨by simp, ⟨hal.symm, by omega, by omega⟩, ⟨by omega, by omega⟩, _, ?_, i + 1, al ++ [(i : Int)], by omega, rfl, by simp [hal], fun y hy => ?_, ?_⟩
                · omega
                · rcases List.mem_append.1 hy with hy | hy
                  · exact hab y hy
                  · rw [List.mem_singleton.1 hy]; omega
                · simp
              · refine ⟨⟨hal.symm, by omega, by omega⟩, ?_⟩
                rw [show i + fl.length = (al ++ fl).length by simp [hal]]
                exact packed_main x hx k c hn hc ws hws (al ++ fl) fl (by simp; omega) (by simp; omega) fun y hy => (List.mem_append.1 hy).elim (hab y) (hfb y)
theorem packed_ok (x : RawP) (hx : x.Ok) : FnOK Try.prog 29 [.agg (rawPC false x)] (fun v => ∃ p : Packed, p.Gen x ∧ v = .agg (packedC true p)) :=
  FnOK.res (FnOK.mono (packed_raw x hx) fun _ ⟨p, hp, hs⟩ => ⟨_, hs, by simp only [push_cast, reduceIte, Nat.reduceEqDiff, Nat.reduceAdd, Nat.reduceSub, Nat.reduceMul, Nat.reduceBEq, Nat.reduceLT, Nat.reduceLeDiff, reduceCtorEq, Int.reduceToNat, Int.reduceNeg] <;> simp, p, hp, rfl⟩)
end Go.Proofs.Ytbdamnfkgdbidaa
namespace Go.Proofs.Ytbdamnfkgdbidaa
open Go Go.Vc Txt
theorem kindsF_len (n : Nat) (l : List Int) : (kindsF n l).length = n := by simp [kindsF]
theorem gridF_ok {y : RawG} (hy : y.Ok) : (2 ≤ (gridF y).w ∧ (gridF y).w ≤ 5) ∧ (2 ≤ (gridF y).h ∧ (gridF y).h ≤ 5) ∧ (2 ≤ (gridF y).tracks ∧ (gridF y).tracks ≤ 4) ∧ (gridF y).pads = 24 ∧
    (4 ≤ (gridF y).w * (gridF y).h ∧ (gridF y).w * (gridF y).h ≤ 25) ∧ ((gridF y).kind.length : Int) = (gridF y).w * (gridF y).h := by
  obtain ⟨h1, h2, h3, h4, h5, h6⟩ := hy
  have hw : 2 ≤ 2 + y.w % 4 ∧ 2 + y.w % 4 ≤ 5 := by omega
  have hh : 2 ≤ 2 + y.h % 4 ∧ 2 + y.h % 4 ≤ 5 := by omega
  have hlo : 2 * 2 ≤ (2 + y.w % 4) * (2 + y.h % 4) := Int.mul_le_mul hw.1 hh.1 (by omega) (by omega)
  have hhi : (2 + y.w % 4) * (2 + y.h % 4) ≤ 5 * 5 := Int.mul_le_mul hw.2 hh.2 (by omega) (by omega)
  refine ⟨hw, hh, by show 2 ≤ 2 + y.tracks % 3 ∧ 2 + y.tracks % 3 ≤ 4; omega, rfl, ⟨hlo, hhi⟩, ?_⟩
  show ((kindsF _ _).length : Int) = _
  rw [kindsF_len]
  show (((2 + y.w % 4) * (2 + y.h % 4)).toNat : Int) = (2 + y.w % 4) * (2 + y.h % 4)
  omega
theorem withF_mem {l : List Int} {n x : Int} (h : x ∈ withF l n) : x ∈ l ∨ x = n := by
  unfold withF at h
  simp only at h
  split at h
  · exact .inl h
  · simp only [List.mem_append, List.mem_singleton] at h
    rcases h with (h | h) | h
    · exact .inl (List.mem_of_mem_take h)
    · exact .inr h
    · exact .inl (List.mem_of_mem_drop h)
theorem badF_ok {g : Grid} (hc : 0 < countF g) (l : List Int) : (badF g l).tiles.length ≤ 6 ∧ (badF g l).nodes.length ≤ 6 ∧ ∀ n ∈ (badF g l).nodes, 0 ≤ n ∧ n < countF g := by
  have key : ∀ q : Nat, ((List.range q).foldl (badStep g l) ⟨[], []⟩).tiles.length ≤ q ∧ ((List.range q).foldl (badStep g l) ⟨[], []⟩).nodes.length ≤ q ∧ ∀ n ∈ ((List.range q).foldl (badStep g l) ⟨[], []⟩).nodes, 0 ≤ n ∧ n < countF g := by
    intro q
    induction q with
    | zero => simp
    | succ q ih =>
      rw [foldl_range_succ]
      generalize (List.range q).foldl (badStep g l) ⟨[], []⟩ = s at ih ⊢
      unfold badStep
      simp only
      split
      · have := withF_len s.tiles ((256 * l.getD (2 * q) default + l.getD (2 * q + 1) default) % (g.w * g.h))
        exact ⟨by simp only; omega, by simp only; omega, ih.2.2⟩
      · have := withF_len s.nodes ((256 * l.getD (2 * q) default + l.getD (2 * q + 1) default) % countF g)
        refine ⟨by simp only; omega, by simp only; omega, fun n hn => ?_⟩
        rcases withF_mem hn with hn | rfl
        · exact ih.2.2 n hn
        · exact ⟨Int.emod_nonneg _ (by omega), Int.emod_lt_of_pos _ hc⟩
  have h := key (min 6 (l.length / 2))
  exact ⟨by have := h.1; unfold badF; omega, by have := h.2.1; unfold badF; omega, h.2.2⟩
theorem job_ok {x : RawP} (hx : x.Ok) {p : Packed} (hp : p.Gen x) {y : RawG} (hy : y.Ok) (l : List Int) : (⟨p, gridF y, badF (gridF y) l⟩ : Job).Ok := by
  obtain ⟨g1, g2, g3, g4, g5, g6⟩ := gridF_ok hy
  have hi := hx.ins
  have ho := hx.out
  have p1 := hp.ins
  have p2 := hp.nb
  have p3 := hp.out
  have p4 := hp.drive
  have hm : 0 ≤ (gridF y).w * (gridF y).h * (6 + 2 * (gridF y).tracks) ∧ (gridF y).w * (gridF y).h * (6 + 2 * (gridF y).tracks) ≤ 25 * 14 :=
    ⟨Int.mul_nonneg (by omega) (by omega), Int.mul_le_mul g5.2 (by omega) (by omega) (by omega)⟩
  have hc : 0 < countF (gridF y) ∧ countF (gridF y) ≤ 1000 := by unfold countF; omega
  obtain ⟨b1, b2, b3⟩ := badF_ok hc.1 l
  exact ⟨⟨by show 0 ≤ (gridF y).w * (gridF y).h; omega, by show (gridF y).w * (gridF y).h ≤ 1000000; omega⟩, ⟨by show 0 ≤ (gridF y).tracks; omega, by show (gridF y).tracks ≤ 1000; omega⟩, g6, by show (p.blocks.length : Int) ≤ 1000; omega, fun b hb => by have := hp.nin b hb; omega, by show (p.ins.length : Int) ≤ 1000000; omega, by show (p.out.length : Int) ≤ 1000000; omega,
    by show ((badF (gridF y) l).tiles.length : Int) ≤ 1000000; omega, by show ((badF (gridF y) l).nodes.length : Int) ≤ 1000000; omega, fun n hn => by have := b3 n hn; omega, ⟨by show 0 < (gridF y).w; omega, by show (gridF y).w ≤ 1000000; omega⟩, ⟨by show 0 < (gridF y).h; omega, by show (gridF y).h ≤ 1000000; omega⟩, by show (p.drive.length : Int) ≤ 1000; omega, hp.sb, hp.sd⟩
def genP (x : RawP) : Packed := ⟨List.replicate (x.ins % 4 + 1).toNat default, List.replicate (min x.blocks.length 9) default, List.replicate (x.out % 4 + 1).toNat default, List.replicate (x.out % 4 + 1).toNat 0⟩
theorem genP_ok {x : RawP} (hx : x.Ok) : (genP x).Gen x := by
  have hi := hx.ins
  have ho := hx.out
  refine ⟨?_, by simp [genP], ?_, by simp [genP], fun b hb => ?_, fun b hb s hs => ?_, fun s hs => ?_⟩
  · show ((List.replicate _ _).length : Int) = _
    rw [List.length_replicate]; omega
  · show ((List.replicate _ _).length : Int) = _
    rw [List.length_replicate]; omega
  · rw [List.eq_of_mem_replicate hb]; decide
  · rw [List.eq_of_mem_replicate hb] at hs; cases hs
  · rw [List.eq_of_mem_replicate hs]
    have : ((genP x).ins.length : Int) = x.ins % 4 + 1 := by
      show ((List.replicate _ _).length : Int) = _
      rw [List.length_replicate]; omega
    omega
theorem lmade_ok (x : RawP) (hx : x.Ok) (y : RawG) (hy : y.Ok) (z : Odd) (hz : (z.bad.length : Int) ≤ 1000000) (hzb : ∀ b ∈ z.bad, 0 ≤ b ∧ b ≤ 255) :
    FnOK Try.prog 11 [.agg (rawPC false x), .agg (rawGC false y), .agg (oddC false z)] (fun v => ∃ p : Packed, p.Gen x ∧ v = .agg (jobC true ⟨p, gridF y, badF (gridF y) z.bad⟩)) := by
  obtain ⟨g1, g2, g3, g4, g5, g6⟩ := gridF_ok hy
  refine FnOK.of_awp Try.func11 ok11 (by show 3 ≤ _; decide) ?_
  simp only [ac11, rv11, push_cast, reduceIte, Nat.reduceEqDiff, Nat.reduceAdd, Nat.reduceSub, Nat.reduceMul, Nat.reduceBEq, Nat.reduceLT, Nat.reduceLeDiff, reduceCtorEq, Int.reduceToNat, Int.reduceNeg]
  refine dcal_of (packed_ok x hx) ?_ ?_
  · exact ⟨_, genP x, genP_ok hx, rfl⟩
  rintro _ ⟨p, hp, rfl⟩
  refine ⟨rfl, ?_⟩
  simp only [push_cast, reduceIte, Nat.reduceEqDiff, Nat.reduceAdd, Nat.reduceSub, Nat.reduceMul, Nat.reduceBEq, Nat.reduceLT, Nat.reduceLeDiff, reduceCtorEq, Int.reduceToNat, Int.reduceNeg]
  refine dcal_sub (made_ok y hy) (by simp only [push_cast, reduceIte, Nat.reduceEqDiff, Nat.reduceAdd, Nat.reduceSub, Nat.reduceMul, Nat.reduceBEq, Nat.reduceLT, Nat.reduceLeDiff, reduceCtorEq, Int.reduceToNat, Int.reduceNeg]) rfl ?_
  simp only [push_cast, reduceIte, Nat.reduceEqDiff, Nat.reduceAdd, Nat.reduceSub, Nat.reduceMul, Nat.reduceBEq, Nat.reduceLT, Nat.reduceLeDiff, reduceCtorEq, Int.reduceToNat, Int.reduceNeg]
  refine cal_sub (bad_ok (gridF y) ⟨by omega, by omega⟩ ⟨by omega, by omega⟩ ⟨by omega, by omega⟩ z.bad hz hzb) (by simp only [push_cast, reduceIte, Nat.reduceEqDiff, Nat.reduceAdd, Nat.reduceSub, Nat.reduceMul, Nat.reduceBEq, Nat.reduceLT, Nat.reduceLeDiff, reduceCtorEq, Int.reduceToNat, Int.reduceNeg]) ?_
  simp only [push_cast, reduceIte, Nat.reduceEqDiff, Nat.reduceAdd, Nat.reduceSub, Nat.reduceMul, Nat.reduceBEq, Nat.reduceLT, Nat.reduceLeDiff, reduceCtorEq, Int.reduceToNat, Int.reduceNeg]
  exact ⟨⟨fun _ _ => trivial, fun _ _ _ _ => trivial, fun _ _ => trivial, fun _ _ => trivial, fun _ _ => trivial, fun _ _ => trivial, fun _ _ => trivial⟩, p, hp, rfl⟩
end Go.Proofs.Ytbdamnfkgdbidaa
