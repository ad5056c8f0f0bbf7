/- T Q U V W L M N O P: lemmas for PRenumbers -/
import Derived.Test.YtbdamnfkgdbidaaPart10
set_option linter.unusedSimpArgs false
set_option linter.unusedVariables false
namespace Go.Proofs.Ytbdamnfkgdbidaa
open Go Go.Vc Txt
@[push_cast] theorem appN_rows {α : Type} (f : α → List PV) (x : α) (l : List α) (st : St) (i es ty by_ : Nat) (p : Prop) :
    appN st i es ty by_ p (rows f (x :: l)) = ((0 < es ∧ p) ∧ (l.length + 1) * by_ ≤ 140737488355328 ∧ l.length + 1 ≤ 9223372036854775807, st.newArr i ⟨es, ty, rows f (x :: l)⟩) := by
  simp [rows, appN]
def tailF (j : Job) (kept a : List Int) (passes : Int) : List Int × Int :=
  match fillAll j [true, false] a with
  | none => ([], 4)
  | some a' => ((improveF j kept a' passes.toNat).1, 0)
def placeF (j : Job) (fixed : List Int) (passes : Int) : List Int × Int :=
  if passes < 0 ∨ 1000 < passes ∨ ((fixed.length : Int) ≠ 0 ∧ (fixed.length : Int) ≠ j.p.blocks.length) then ([], 1)
  else if ¬ Fits j then ([], 290)
  else match keepF j fixed 0 (List.replicate j.p.blocks.length (-1), []) with
    | none => ([], 290)
    | some s => tailF j s.2 s.1 passes
theorem findT_some {j : Job} {a : List Int} {b t : Nat} (ht : t < j.g.kind.length) (h1 : suitsR j b t = true) (h2 : (t : Int) ∉ a) (h3 : ∀ u : Nat, u < t → ¬ (suitsR j b u = true ∧ (u : Int) ∉ a)) : findT j a b = some t := by
  unfold findT
  rw [List.find?_range_eq_some]
  refine ⟨by simp [h1, h2], by simpa using ht, fun u hu => ?_⟩
  have := h3 u hu
  cases hc : suitsR j b u <;> simp_all
theorem findT_none {j : Job} {a : List Int} {b : Nat} (h3 : ∀ u : Nat, u < j.g.kind.length → ¬ (suitsR j b u = true ∧ (u : Int) ∉ a)) : findT j a b = none := by
  unfold findT
  rw [List.find?_eq_none]
  intro u hu
  have := h3 u (by simpa using hu)
  cases hc : suitsR j b u <;> simp_all
theorem place_fill (j : Job) (hj : j.Ok) (fixed kept a : List Int) (passes : Int) (hp : 0 ≤ passes ∧ passes ≤ 1000) (hk : kept.length ≤ 1000000) (ha : Part j a) :
    awp (Env.of Try.prog) ac46b_r17 (retK [RV.tmp 10, RV.tmp 11] fun x => Sub x (.tup [.sl true 1 (ints (tailF j kept a passes).1), .int (tailF j kept a passes).2]))
      ⟨[(4, .int passes), (5, .ptr 5 0), (6, .ptr 6 0), (12, .ptr 12 0), (13, .view 705 0 j.p.blocks.length), (14, .sl false 1 (ints kept)), (53, .sl false 1 (ints fixed)), (54, .int fixed.length), (55, .int fixed.length), (56, .bool false)], [(5, packedC false j.p), (6, gridC false j.g), (12, jobC false j)], [(705, ⟨1, 3, ints a⟩)], []⟩ := by
  simp only [ac46b_r17, push_cast, reduceIte, Nat.reduceEqDiff, Nat.reduceAdd, Nat.reduceSub, Nat.reduceMul, Nat.reduceBEq, Nat.reduceLT, Nat.reduceLeDiff, reduceCtorEq, Int.reduceToNat, Int.reduceNeg]
  refine ⟨by decide, ?_⟩
  rw [show ((List.replicate 2 false).set 0 true).set 1 false = [true, false] from rfl]
  simp only [push_cast, reduceIte, Nat.reduceEqDiff, Nat.reduceAdd, Nat.reduceSub, Nat.reduceMul, Nat.reduceBEq, Nat.reduceLT, Nat.reduceLeDiff, reduceCtorEq, Int.reduceToNat, Int.reduceNeg]
  have hnb := hj.nb
  refine loop_of (fun m st => ∃ (r : Nat) (a' : List Int), r ≤ 2 ∧ m = 2 - r ∧ Part j a' ∧ fillAll j ([true, false].drop r) a' = fillAll j [true, false] a ∧
    st = ⟨[(4, .int passes), (5, .ptr 5 0), (6, .ptr 6 0), (12, .ptr 12 0), (13, .view 705 0 j.p.blocks.length), (14, .sl false 1 (ints kept)), (81, .view 81 0 2), (82, .int 2), (83, .int r)], [(5, packedC false j.p), (6, gridC false j.g), (12, jobC false j)], [(81, ⟨1, 4, rows boolC [true, false]⟩), (705, ⟨1, 3, ints a'⟩)], []⟩) 2 ?_ ?_
  · refine ⟨0, a, by omega, rfl, ha, rfl, ?_⟩
    simp only [push_cast, reduceIte, Nat.reduceEqDiff, Nat.reduceAdd, Nat.reduceSub, Nat.reduceMul, Nat.reduceBEq, Nat.reduceLT, Nat.reduceLeDiff, reduceCtorEq, Int.reduceToNat, Int.reduceNeg] <;> rfl
  · rintro m st ⟨r, a', hr, rfl, ha', hF, rfl⟩
    simp only [push_cast, reduceIte, Nat.reduceEqDiff, Nat.reduceAdd, Nat.reduceSub, Nat.reduceMul, Nat.reduceBEq, Nat.reduceLT, Nat.reduceLeDiff, reduceCtorEq, Int.reduceToNat, Int.reduceNeg]
    refine cond_dec (fun h1 => ?_) fun h1 => ?_
    · have hr2 : r < 2 := by omega
      refine ⟨by omega, hr2, ?_⟩
      have hdr : [true, false].drop r = [true, false].getD r default :: [true, false].drop (r + 1) := by
        have : r = 0 ∨ r = 1 := by omega
        rcases this with rfl | rfl <;> rfl
      rw [hdr] at hF
      generalize [true, false].getD r default = rd at hF ⊢
      have hF : (match fillF j rd j.p.blocks.length 0 a' with | none => none | some a'' => fillAll j ([true, false].drop (r + 1)) a'') = fillAll j [true, false] a := hF
      refine loop_of (fun m st => ∃ (k : Nat) (a1 : List Int), k ≤ j.p.blocks.length ∧ m = j.p.blocks.length - k ∧ Part j a1 ∧ fillF j rd (j.p.blocks.length - k) k a1 = fillF j rd j.p.blocks.length 0 a' ∧
        st = ⟨[(4, .int passes), (5, .ptr 5 0), (6, .ptr 6 0), (12, .ptr 12 0), (13, .view 705 0 j.p.blocks.length), (14, .sl false 1 (ints kept)), (18, .bool rd), (81, .view 81 0 2), (82, .int 2), (83, .int r), (88, .sl false 5 (rows (blockC false) j.p.blocks)), (89, .int j.p.blocks.length), (90, .int k)],
          [(5, packedC false j.p), (6, gridC false j.g), (12, jobC false j)], [(81, ⟨1, 4, rows boolC [true, false]⟩), (705, ⟨1, 3, ints a1⟩)], []⟩) j.p.blocks.length ?_ ?_
      · refine ⟨0, a', by omega, by omega, ha', by simp, ?_⟩
        simp only [push_cast, reduceIte, Nat.reduceEqDiff, Nat.reduceAdd, Nat.reduceSub, Nat.reduceMul, Nat.reduceBEq, Nat.reduceLT, Nat.reduceLeDiff, reduceCtorEq, Int.reduceToNat, Int.reduceNeg]
      · rintro m st ⟨k, a1, hk, rfl, ha1, hG, rfl⟩
        simp only [push_cast, reduceIte, Nat.reduceEqDiff, Nat.reduceAdd, Nat.reduceSub, Nat.reduceMul, Nat.reduceBEq, Nat.reduceLT, Nat.reduceLeDiff, reduceCtorEq, Int.reduceToNat, Int.reduceNeg]
        refine cond_dec (fun h2 => ?_) fun h2 => ?_
        · have hk' : k < j.p.blocks.length := by omega
          have hal := ha1.len
          obtain ⟨q, hq⟩ : ∃ q, j.p.blocks.length - k = q + 1 := ⟨j.p.blocks.length - k - 1, by omega⟩
          rw [hq] at hG
          simp only [fillF] at hG
          refine ⟨by omega, by omega, by omega, by omega, ?_⟩
          refine cut_of ⟨[(4, .int passes), (5, .ptr 5 0), (6, .ptr 6 0), (12, .ptr 12 0), (13, .view 705 0 j.p.blocks.length), (14, .sl false 1 (ints kept)), (18, .bool rd), (19, .int k), (81, .view 81 0 2), (82, .int 2), (83, .int r), (88, .sl false 5 (rows (blockC false) j.p.blocks)), (89, .int j.p.blocks.length), (90, .int k), (106, .bool (decide (0 ≤ a1.getD k default ∨ decide ((j.p.blocks.getD k default).ram ≠ -1) ≠ rd)))],
            [(5, packedC false j.p), (6, gridC false j.g), (12, jobC false j), (20, blockC false (j.p.blocks.getD k default))], [(81, ⟨1, 4, rows boolC [true, false]⟩), (705, ⟨1, 3, ints a1⟩)], []⟩ ?_ ?_
          · refine grd_decf rfl (fun h3 => ?_) (fun h3 => ?_) <;> simp only [push_cast, reduceIte, Nat.reduceEqDiff, Nat.reduceAdd, Nat.reduceSub, Nat.reduceMul, Nat.reduceBEq, Nat.reduceLT, Nat.reduceLeDiff, reduceCtorEq, Int.reduceToNat, Int.reduceNeg]
            · rw [decide_eq_true (Or.inl h3)]
            · have e : decide (0 ≤ a1.getD k default ∨ decide ((j.p.blocks.getD k default).ram ≠ -1) ≠ rd) = (decide ((j.p.blocks.getD k default).ram ≠ -1) != rd) := by
                rw [Bool.eq_iff_iff, decide_eq_true_iff, bne_iff_ne]
                exact ⟨fun h => h.resolve_left h3, .inr⟩
              rw [e]
          simp only [push_cast, reduceIte, Nat.reduceEqDiff, Nat.reduceAdd, Nat.reduceSub, Nat.reduceMul, Nat.reduceBEq, Nat.reduceLT, Nat.reduceLeDiff, reduceCtorEq, Int.reduceToNat, Int.reduceNeg]
          refine cond_dec (fun h3 => ?_) fun h3 => ?_
          · have hst : fillStep j rd a1 k = some a1 := by unfold fillStep; rw [if_pos h3]
            rw [hst] at hG
            simp only at hG
            refine ⟨⟨by omega, by omega⟩, _, ?_, k + 1, a1, by omega, rfl, ha1, by rw [show j.p.blocks.length - (k + 1) = q by omega]; exact hG, ?_⟩
            · omega
            · simp
          · have hneg : ¬ 0 ≤ a1.getD k default := fun hh => h3 (.inl hh)
            have hT : (j.g.kind.length : Int) ≤ 1000000 := by have := hj.kind; have := hj.wh; omega
            refine loop_of (fun m st => ∃ (t : Nat), t ≤ j.g.kind.length ∧ m = j.g.kind.length - t ∧ (∀ u : Nat, u < t → ¬ (suitsR j k u = true ∧ (u : Int) ∉ a1)) ∧
              st = ⟨[(4, .int passes), (5, .ptr 5 0), (6, .ptr 6 0), (12, .ptr 12 0), (13, .view 705 0 j.p.blocks.length), (14, .sl false 1 (ints kept)), (18, .bool rd), (19, .int k), (81, .view 81 0 2), (82, .int 2), (83, .int r), (88, .sl false 5 (rows (blockC false) j.p.blocks)), (89, .int j.p.blocks.length), (90, .int k), (109, .int j.g.kind.length), (110, .int t)],
                [(5, packedC false j.p), (6, gridC false j.g), (12, jobC false j)], [(81, ⟨1, 4, rows boolC [true, false]⟩), (705, ⟨1, 3, ints a1⟩)], []⟩) j.g.kind.length ?_ ?_
            · refine ⟨0, by omega, by omega, fun u hu => absurd hu (by omega), ?_⟩
              simp only [push_cast, reduceIte, Nat.reduceEqDiff, Nat.reduceAdd, Nat.reduceSub, Nat.reduceMul, Nat.reduceBEq, Nat.reduceLT, Nat.reduceLeDiff, reduceCtorEq, Int.reduceToNat, Int.reduceNeg]
            · rintro m st ⟨t, ht, rfl, hno, rfl⟩
              simp only [push_cast, reduceIte, Nat.reduceEqDiff, Nat.reduceAdd, Nat.reduceSub, Nat.reduceMul, Nat.reduceBEq, Nat.reduceLT, Nat.reduceLeDiff, reduceCtorEq, Int.reduceToNat, Int.reduceNeg]
              refine cond_dec (fun h4 => ?_) fun h4 => ?_
              · have ht' : t < j.g.kind.length := by omega
                refine cal_sub (psuits_ok j hj k t) (by simp only [push_cast, reduceIte, Nat.reduceEqDiff, Nat.reduceAdd, Nat.reduceSub, Nat.reduceMul, Nat.reduceBEq, Nat.reduceLT, Nat.reduceLeDiff, reduceCtorEq, Int.reduceToNat, Int.reduceNeg]) ?_
                refine cut_of ⟨[(4, .int passes), (5, .ptr 5 0), (6, .ptr 6 0), (12, .ptr 12 0), (13, .view 705 0 j.p.blocks.length), (14, .sl false 1 (ints kept)), (18, .bool rd), (19, .int k), (21, .int t), (81, .view 81 0 2), (82, .int 2), (83, .int r), (88, .sl false 5 (rows (blockC false) j.p.blocks)), (89, .int j.p.blocks.length), (90, .int k), (109, .int j.g.kind.length), (110, .int t), (122, .bool (decide (suitsR j k t = true ∧ (t : Int) ∉ a1)))],
                  [(5, packedC false j.p), (6, gridC false j.g), (12, jobC false j)], [(81, ⟨1, 4, rows boolC [true, false]⟩), (705, ⟨1, 3, ints a1⟩)], []⟩ ?_ ?_
                · cases hsu : suitsR j k t <;> simp only [push_cast, reduceIte, Nat.reduceEqDiff, Nat.reduceAdd, Nat.reduceSub, Nat.reduceMul, Nat.reduceBEq, Nat.reduceLT, Nat.reduceLeDiff, reduceCtorEq, Int.reduceToNat, Int.reduceNeg]
                  · simp
                  · rw [List.take_of_length_le (by omega)]
                    refine cal_sub (contains_ok a1 t (by omega)) (by simp only [push_cast, reduceIte, Nat.reduceEqDiff, Nat.reduceAdd, Nat.reduceSub, Nat.reduceMul, Nat.reduceBEq, Nat.reduceLT, Nat.reduceLeDiff, reduceCtorEq, Int.reduceToNat, Int.reduceNeg]) ?_
                    simp only [push_cast, reduceIte, Nat.reduceEqDiff, Nat.reduceAdd, Nat.reduceSub, Nat.reduceMul, Nat.reduceBEq, Nat.reduceLT, Nat.reduceLeDiff, reduceCtorEq, Int.reduceToNat, Int.reduceNeg]
                    simp
                simp only [push_cast, reduceIte, Nat.reduceEqDiff, Nat.reduceAdd, Nat.reduceSub, Nat.reduceMul, Nat.reduceBEq, Nat.reduceLT, Nat.reduceLeDiff, reduceCtorEq, Int.reduceToNat, Int.reduceNeg]
                refine cond_dec (fun h5 => ?_) fun h5 => ?_
                · have hst : fillStep j rd a1 k = some (a1.set k t) := by unfold fillStep; rw [if_neg h3, findT_some ht' h5.1 h5.2 hno]
                  rw [hst] at hG
                  simp only at hG
                  have hpt := part_set ha1 h5.1 h5.2
                  have hgt : (a1.set k (t : Int)).getD k default = t := by simp [List.getD_eq_getElem?_getD, show k < a1.length by omega]
                  refine ⟨by omega, by omega, by omega, by rw [List.length_set]; omega, cond_dec (fun h6 => absurd h6 (by rw [hgt]; omega)) fun _ => ?_⟩
                  refine ⟨⟨by omega, by omega⟩, _, ?_, k + 1, a1.set k t, by omega, rfl, hpt, by rw [show j.p.blocks.length - (k + 1) = q by omega]; exact hG, ?_⟩
                  · omega
                  · simp
                · refine ⟨⟨by omega, by omega⟩, _, ?_, t + 1, by omega, rfl, fun u hu => ?_, ?_⟩
                  · omega
                  · by_cases e : u = t
                    · subst e; exact h5
                    · exact hno u (by omega)
                  · simp
              · have hst : fillStep j rd a1 k = none := by unfold fillStep; rw [if_neg h3, findT_none fun u hu => hno u (by omega)]
                rw [hst] at hG
                simp only at hG
                rw [← hG] at hF
                simp only at hF
                refine ⟨by omega, by omega, cond_dec (fun _ => ?_) fun h6 => absurd h6 (by omega)⟩
                unfold tailF
                rw [← hF]
                exact ⟨rfl, rfl⟩
        · have hk2 : k = j.p.blocks.length := by omega
          subst hk2
          rw [Nat.sub_self] at hG
          simp only [fillF] at hG
          rw [← hG] at hF
          refine ⟨⟨by omega, by omega⟩, _, ?_, r + 1, a1, by omega, rfl, ha1, hF, ?_⟩
          · omega
          · simp
    · have hr2 : r = 2 := by omega
      subst hr2
      have hA : fillAll j [true, false] a = some a' := hF.symm.trans (by simp [fillAll])
      obtain ⟨hpl, _⟩ := fillAll_pl hA ha
      obtain ⟨pn, rfl⟩ : ∃ pn : Nat, passes = pn := ⟨passes.toNat, by omega⟩
      refine clm_of (FnM.only [13] [] [705] [] (Pl.improve_ok (Env.of Try.prog) rfl (by show 0 ≤ 300; decide) j hj kept a' (by omega) j.p.blocks.length pn hpl.1 (by omega) hpl)) ?_
      rintro rv _ ⟨rfl, rfl⟩
      simp only [push_cast, reduceIte, Nat.reduceEqDiff, Nat.reduceAdd, Nat.reduceSub, Nat.reduceMul, Nat.reduceBEq, Nat.reduceLT, Nat.reduceLeDiff, reduceCtorEq, Int.reduceToNat, Int.reduceNeg, tailF, hA]
      rw [List.take_of_length_le (Nat.le_of_eq ((improveF_ok hpl pn).len.trans hpl.1))]
      exact ⟨fun _ _ => trivial, .refl _⟩
theorem place_exp (j : Job) (hj : j.Ok) (fixed : List Int) (passes : Int) (hl : (fixed.length : Int) ≤ 1000000) :
    FnEq Try.prog 46 [.agg (packedC false j.p), .agg (gridC false j.g), .agg (badC false j.bad), .sl false 1 (ints fixed), .int passes]
      (.tup [.sl true 1 (ints (placeF j fixed passes).1), .int (placeF j fixed passes).2]) := by
  refine FnEq.of_awp Try.func46 ok46b (by show 5 ≤ _; decide) (by simp only [push_cast, reduceIte, Nat.reduceEqDiff, Nat.reduceAdd, Nat.reduceSub, Nat.reduceMul, Nat.reduceBEq, Nat.reduceLT, Nat.reduceLeDiff, reduceCtorEq, Int.reduceToNat, Int.reduceNeg] <;> first | exact fun _ _ => trivial | simp) ?_
  simp only [ac46b, rv46b, push_cast, reduceIte, Nat.reduceEqDiff, Nat.reduceAdd, Nat.reduceSub, Nat.reduceMul, Nat.reduceBEq, Nat.reduceLT, Nat.reduceLeDiff, reduceCtorEq, Int.reduceToNat, Int.reduceNeg]
  refine cut_of ⟨[(3, .sl false 1 (ints fixed)), (4, .int passes), (5, .ptr 5 0), (6, .ptr 6 0), (7, .ptr 7 0), (40, .bool (decide (passes < 0 ∨ 1000 < passes ∨ ((fixed.length : Int) ≠ 0 ∧ (fixed.length : Int) ≠ j.p.blocks.length))))], [(5, packedC false j.p), (6, gridC false j.g), (7, badC false j.bad)], [], []⟩ ?_ ?_
  · (repeat' (first | (refine grd_dec rfl (fun _ => ?_) fun _ => ?_ <;> simp only [push_cast, reduceIte, Nat.reduceEqDiff, Nat.reduceAdd, Nat.reduceSub, Nat.reduceMul, Nat.reduceBEq, Nat.reduceLT, Nat.reduceLeDiff, reduceCtorEq, Int.reduceToNat, Int.reduceNeg]) | (refine grd_decf rfl (fun _ => ?_) fun _ => ?_ <;> simp only [push_cast, reduceIte, Nat.reduceEqDiff, Nat.reduceAdd, Nat.reduceSub, Nat.reduceMul, Nat.reduceBEq, Nat.reduceLT, Nat.reduceLeDiff, reduceCtorEq, Int.reduceToNat, Int.reduceNeg])))
    all_goals simp [*]
    · rename_i h1; intro h2 h3; subst h3; exact h1 (by simp)
  simp only [push_cast, reduceIte, Nat.reduceEqDiff, Nat.reduceAdd, Nat.reduceSub, Nat.reduceMul, Nat.reduceBEq, Nat.reduceLT, Nat.reduceLeDiff, reduceCtorEq, Int.reduceToNat, Int.reduceNeg]
  refine cond_dec (fun h => ?_) fun h => ?_
  · rw [placeF, if_pos h]
    simp only [push_cast, reduceIte, Nat.reduceEqDiff, Nat.reduceAdd, Nat.reduceSub, Nat.reduceMul, Nat.reduceBEq, Nat.reduceLT, Nat.reduceLeDiff, reduceCtorEq, Int.reduceToNat, Int.reduceNeg]
    done
  rw [placeF, if_neg h]
  refine cal_sub (pfits_ok j (by have := hj.ins; omega) (by have := hj.outs; omega)) (by simp only [push_cast, reduceIte, Nat.reduceEqDiff, Nat.reduceAdd, Nat.reduceSub, Nat.reduceMul, Nat.reduceBEq, Nat.reduceLT, Nat.reduceLeDiff, reduceCtorEq, Int.reduceToNat, Int.reduceNeg]) ?_
  simp only [push_cast, reduceIte, Nat.reduceEqDiff, Nat.reduceAdd, Nat.reduceSub, Nat.reduceMul, Nat.reduceBEq, Nat.reduceLT, Nat.reduceLeDiff, reduceCtorEq, Int.reduceToNat, Int.reduceNeg]
  refine cond_of (fun hf => ?_) fun hf => ?_
  · rw [if_pos (by simpa using hf)]
    exact ⟨rfl, rfl⟩
  rw [if_neg (by simpa using hf)]
  have hnb := hj.nb
  refine ⟨by decide, ?_⟩
  rw [show (List.replicate 1 (0 : Int)).set 0 (-1) = [-1] from rfl]
  refine clm_of (FnM.only [3, 4, 5, 6, 12] [5, 6, 12] [48] [] (repeat_ok (Env.of Try.prog) rfl (by show 0 ≤ 675; decide) fixed passes j j.p.blocks.length (by omega))) ?_
  rintro rv _ ⟨rfl, rfl⟩
  simp only [push_cast, reduceIte, Nat.reduceEqDiff, Nat.reduceAdd, Nat.reduceSub, Nat.reduceMul, Nat.reduceBEq, Nat.reduceLT, Nat.reduceLeDiff, reduceCtorEq, Int.reduceToNat, Int.reduceNeg]
  have hlen : fixed.length = 0 ∨ fixed.length = j.p.blocks.length := by omega
  refine loop_of (fun m st => ∃ (k : Nat) (s : List Int × List Int), k ≤ fixed.length ∧ m = fixed.length - k ∧ Part j s.1 ∧ s.2.length ≤ k ∧
    keepF j (fixed.drop k) k s = keepF j fixed 0 (List.replicate j.p.blocks.length (-1), []) ∧
    ((s.2 = [] ∧ st = ⟨[(4, .int passes), (5, .ptr 5 0), (6, .ptr 6 0), (12, .ptr 12 0), (13, .view 705 0 j.p.blocks.length), (14, .nil), (53, .sl false 1 (ints fixed)), (54, .int fixed.length), (55, .int k)],
        [(5, packedC false j.p), (6, gridC false j.g), (12, jobC false j)], [(705, ⟨1, 3, ints s.1⟩)], []⟩) ∨
     (s.2 ≠ [] ∧ st = ⟨[(4, .int passes), (5, .ptr 5 0), (6, .ptr 6 0), (12, .ptr 12 0), (13, .view 705 0 j.p.blocks.length), (14, .view 79 0 s.2.length), (53, .sl false 1 (ints fixed)), (54, .int fixed.length), (55, .int k)],
        [(5, packedC false j.p), (6, gridC false j.g), (12, jobC false j)], [(79, ⟨1, 3, ints s.2⟩), (705, ⟨1, 3, ints s.1⟩)], []⟩))) fixed.length ?_ ?_
  · refine ⟨0, (List.replicate j.p.blocks.length (-1), []), by omega, by omega, part_init j, by simp, by simp, .inl ⟨rfl, ?_⟩⟩
    simp only [push_cast, reduceIte, Nat.reduceEqDiff, Nat.reduceAdd, Nat.reduceSub, Nat.reduceMul, Nat.reduceBEq, Nat.reduceLT, Nat.reduceLeDiff, reduceCtorEq, Int.reduceToNat, Int.reduceNeg]
  · rintro m st ⟨k, s, hk, rfl, hpart, hs2, hF, ⟨hs0, rfl⟩ | ⟨hs0, rfl⟩⟩
    · simp only [push_cast, reduceIte, Nat.reduceEqDiff, Nat.reduceAdd, Nat.reduceSub, Nat.reduceMul, Nat.reduceBEq, Nat.reduceLT, Nat.reduceLeDiff, reduceCtorEq, Int.reduceToNat, Int.reduceNeg]
      refine cond_dec (fun h1 => ?_) fun h1 => ?_
      · have hk' : k < fixed.length := by omega
        have hg : fixed.getD k default = fixed[k] := by simp [hk']
        rw [hg]
        have hd : fixed.drop k = fixed[k] :: fixed.drop (k + 1) := List.drop_eq_getElem_cons hk'
        rw [hd] at hF
        simp only [keepF] at hF
        generalize hx : fixed[k] = x at hF ⊢
        refine ⟨by omega, by omega, ?_⟩
        refine cond_dec (fun h2 => ?_) fun h2 => ?_
        · rw [if_pos h2] at hF
          refine ⟨⟨by omega, by omega⟩, _, ?_, k + 1, s, by omega, rfl, hpart, by omega, hF, .inl ⟨hs0, ?_⟩⟩
          · omega
          · simp
        · rw [if_neg h2] at hF
          have hsl := hpart.len
          refine cal_sub (psuits_ok j hj k x) (by simp only [push_cast, reduceIte, Nat.reduceEqDiff, Nat.reduceAdd, Nat.reduceSub, Nat.reduceMul, Nat.reduceBEq, Nat.reduceLT, Nat.reduceLeDiff, reduceCtorEq, Int.reduceToNat, Int.reduceNeg]) ?_
          refine cut_of ⟨[(4, .int passes), (5, .ptr 5 0), (6, .ptr 6 0), (12, .ptr 12 0), (13, .view 705 0 j.p.blocks.length), (14, .nil), (15, .int k), (16, .int x), (53, .sl false 1 (ints fixed)), (54, .int fixed.length), (55, .int k), (71, .bool (decide (suitsR j k x = false ∨ x ∈ s.1)))],
            [(5, packedC false j.p), (6, gridC false j.g), (12, jobC false j)], [(705, ⟨1, 3, ints s.1⟩)], []⟩ ?_ ?_
          · cases hsu : suitsR j k x <;> simp only [push_cast, reduceIte, Nat.reduceEqDiff, Nat.reduceAdd, Nat.reduceSub, Nat.reduceMul, Nat.reduceBEq, Nat.reduceLT, Nat.reduceLeDiff, reduceCtorEq, Int.reduceToNat, Int.reduceNeg]
            · simp
            · rw [List.take_of_length_le (by omega)]
              refine cal_sub (contains_ok s.1 x (by omega)) (by simp only [push_cast, reduceIte, Nat.reduceEqDiff, Nat.reduceAdd, Nat.reduceSub, Nat.reduceMul, Nat.reduceBEq, Nat.reduceLT, Nat.reduceLeDiff, reduceCtorEq, Int.reduceToNat, Int.reduceNeg]) ?_
              simp only [push_cast, reduceIte, Nat.reduceEqDiff, Nat.reduceAdd, Nat.reduceSub, Nat.reduceMul, Nat.reduceBEq, Nat.reduceLT, Nat.reduceLeDiff, reduceCtorEq, Int.reduceToNat, Int.reduceNeg]
              simp
          simp only [push_cast, reduceIte, Nat.reduceEqDiff, Nat.reduceAdd, Nat.reduceSub, Nat.reduceMul, Nat.reduceBEq, Nat.reduceLT, Nat.reduceLeDiff, reduceCtorEq, Int.reduceToNat, Int.reduceNeg]
          refine cond_dec (fun h3 => ?_) fun h3 => ?_
          · rw [if_pos h3] at hF
            rw [← hF]
            exact ⟨rfl, rfl⟩
          · rw [if_neg h3] at hF
            have hsu : suitsR j k x = true := by cases hc : suitsR j k x <;> simp_all
            rw [show (List.replicate 1 (0 : Int)).set 0 (k : Int) = [(k : Int)] from rfl]
            simp only [push_cast, reduceIte, Nat.reduceEqDiff, Nat.reduceAdd, Nat.reduceSub, Nat.reduceMul, Nat.reduceBEq, Nat.reduceLT, Nat.reduceLeDiff, reduceCtorEq, Int.reduceToNat, Int.reduceNeg, show List.take 1 [(k : Int)] = [(k : Int)] from rfl]
            refine ⟨by omega, by omega, by decide, ⟨by omega, by omega⟩, _, ?_, k + 1, (s.1.set k x, s.2 ++ [(k : Int)]), by omega, rfl, part_set hpart hsu (fun hh => h3 (.inr hh)), by simp; omega, hF, .inr ⟨by simp, ?_⟩⟩
            · omega
            · simp [hs0]
      · have hkl : k = fixed.length := by omega
        rw [hkl, List.drop_length] at hF
        rw [← hF, hkl]
        simp only [keepF]
        rw [show decide (((fixed.length : Nat) : Int) < (fixed.length : Int)) = false by simp]
        refine wk_of ⟨[(4, .int passes), (5, .ptr 5 0), (6, .ptr 6 0), (12, .ptr 12 0), (13, .view 705 0 j.p.blocks.length), (14, .sl false 1 (ints s.2)), (53, .sl false 1 (ints fixed)), (54, .int fixed.length), (55, .int fixed.length), (56, .bool false)], [(5, packedC false j.p), (6, gridC false j.g), (12, jobC false j)], [(705, ⟨1, 3, ints s.1⟩)], []⟩ ?_ (place_fill j hj fixed s.2 s.1 passes (by omega) (by omega) hpart)
        simp only [push_cast, reduceIte, Nat.reduceEqDiff, Nat.reduceAdd, Nat.reduceSub, Nat.reduceMul, Nat.reduceBEq, Nat.reduceLT, Nat.reduceLeDiff, reduceCtorEq, Int.reduceToNat, Int.reduceNeg]
        exact hs0
    · simp only [push_cast, reduceIte, Nat.reduceEqDiff, Nat.reduceAdd, Nat.reduceSub, Nat.reduceMul, Nat.reduceBEq, Nat.reduceLT, Nat.reduceLeDiff, reduceCtorEq, Int.reduceToNat, Int.reduceNeg]
      refine cond_dec (fun h1 => ?_) fun h1 => ?_
      · have hk' : k < fixed.length := by omega
        have hg : fixed.getD k default = fixed[k] := by simp [hk']
        rw [hg]
        have hd : fixed.drop k = fixed[k] :: fixed.drop (k + 1) := List.drop_eq_getElem_cons hk'
        rw [hd] at hF
        simp only [keepF] at hF
        generalize hx : fixed[k] = x at hF ⊢
        refine ⟨by omega, by omega, ?_⟩
        refine cond_dec (fun h2 => ?_) fun h2 => ?_
        · rw [if_pos h2] at hF
          refine ⟨⟨by omega, by omega⟩, _, ?_, k + 1, s, by omega, rfl, hpart, by omega, hF, .inr ⟨hs0, ?_⟩⟩
          · omega
          · simp
        · rw [if_neg h2] at hF
          have hsl := hpart.len
          refine cal_sub (psuits_ok j hj k x) (by simp only [push_cast, reduceIte, Nat.reduceEqDiff, Nat.reduceAdd, Nat.reduceSub, Nat.reduceMul, Nat.reduceBEq, Nat.reduceLT, Nat.reduceLeDiff, reduceCtorEq, Int.reduceToNat, Int.reduceNeg]) ?_
          refine cut_of ⟨[(4, .int passes), (5, .ptr 5 0), (6, .ptr 6 0), (12, .ptr 12 0), (13, .view 705 0 j.p.blocks.length), (14, .view 79 0 s.2.length), (15, .int k), (16, .int x), (53, .sl false 1 (ints fixed)), (54, .int fixed.length), (55, .int k), (71, .bool (decide (suitsR j k x = false ∨ x ∈ s.1)))],
            [(5, packedC false j.p), (6, gridC false j.g), (12, jobC false j)], [(79, ⟨1, 3, ints s.2⟩), (705, ⟨1, 3, ints s.1⟩)], []⟩ ?_ ?_
          · cases hsu : suitsR j k x <;> simp only [push_cast, reduceIte, Nat.reduceEqDiff, Nat.reduceAdd, Nat.reduceSub, Nat.reduceMul, Nat.reduceBEq, Nat.reduceLT, Nat.reduceLeDiff, reduceCtorEq, Int.reduceToNat, Int.reduceNeg]
            · simp
            · rw [List.take_of_length_le (by omega)]
              refine cal_sub (contains_ok s.1 x (by omega)) (by simp only [push_cast, reduceIte, Nat.reduceEqDiff, Nat.reduceAdd, Nat.reduceSub, Nat.reduceMul, Nat.reduceBEq, Nat.reduceLT, Nat.reduceLeDiff, reduceCtorEq, Int.reduceToNat, Int.reduceNeg]) ?_
              simp only [push_cast, reduceIte, Nat.reduceEqDiff, Nat.reduceAdd, Nat.reduceSub, Nat.reduceMul, Nat.reduceBEq, Nat.reduceLT, Nat.reduceLeDiff, reduceCtorEq, Int.reduceToNat, Int.reduceNeg]
              simp
          simp only [push_cast, reduceIte, Nat.reduceEqDiff, Nat.reduceAdd, Nat.reduceSub, Nat.reduceMul, Nat.reduceBEq, Nat.reduceLT, Nat.reduceLeDiff, reduceCtorEq, Int.reduceToNat, Int.reduceNeg]
          refine cond_dec (fun h3 => ?_) fun h3 => ?_
          · rw [if_pos h3] at hF
            rw [← hF]
            exact ⟨rfl, rfl⟩
          · rw [if_neg h3] at hF
            have hsu : suitsR j k x = true := by cases hc : suitsR j k x <;> simp_all
            rw [show (List.replicate 1 (0 : Int)).set 0 (k : Int) = [(k : Int)] from rfl]
            simp only [push_cast, reduceIte, Nat.reduceEqDiff, Nat.reduceAdd, Nat.reduceSub, Nat.reduceMul, Nat.reduceBEq, Nat.reduceLT, Nat.reduceLeDiff, reduceCtorEq, Int.reduceToNat, Int.reduceNeg, show List.take 1 [(k : Int)] = [(k : Int)] from rfl]
            refine ⟨by omega, by omega, by decide, ⟨by omega, by omega⟩, ⟨by omega, by omega⟩, _, ?_, k + 1, (s.1.set k x, s.2 ++ [(k : Int)]), by omega, rfl, part_set hpart hsu (fun hh => h3 (.inr hh)), by simp; omega, hF, .inr ⟨by simp, ?_⟩⟩
            · omega
            · simp
      · have hkl : k = fixed.length := by omega
        rw [hkl, List.drop_length] at hF
        rw [← hF, hkl]
        simp only [keepF]
        rw [show decide (((fixed.length : Nat) : Int) < (fixed.length : Int)) = false by simp]
        refine wk_of ⟨[(4, .int passes), (5, .ptr 5 0), (6, .ptr 6 0), (12, .ptr 12 0), (13, .view 705 0 j.p.blocks.length), (14, .sl false 1 (ints s.2)), (53, .sl false 1 (ints fixed)), (54, .int fixed.length), (55, .int fixed.length), (56, .bool false)], [(5, packedC false j.p), (6, gridC false j.g), (12, jobC false j)], [(705, ⟨1, 3, ints s.1⟩)], []⟩ ?_ (place_fill j hj fixed s.2 s.1 passes (by omega) (by omega) hpart)
        rw [List.take_length]
        simp only [push_cast, reduceIte, Nat.reduceEqDiff, Nat.reduceAdd, Nat.reduceSub, Nat.reduceMul, Nat.reduceBEq, Nat.reduceLT, Nat.reduceLeDiff, reduceCtorEq, Int.reduceToNat, Int.reduceNeg]
        done
theorem lplaced_ok (j : Job) (hj : j.Ok) (z : Start) (hl : (z.fixed.length : Int) ≤ 1000000) :
    FnEq Try.prog 23 [.agg (jobC false j), .agg (startC false z)] (.agg (placedC true ((placeF j z.fixed z.passes).1, 0, (placeF j z.fixed z.passes).2))) := by
  refine FnEq.of_awp Try.func23 ok23 (by show 2 ≤ _; decide) (by simp only [push_cast, reduceIte, Nat.reduceEqDiff, Nat.reduceAdd, Nat.reduceSub, Nat.reduceMul, Nat.reduceBEq, Nat.reduceLT, Nat.reduceLeDiff, reduceCtorEq, Int.reduceToNat, Int.reduceNeg] <;> first | exact fun _ _ => trivial | simp) ?_
  simp only [ac23, rv23, push_cast, reduceIte, Nat.reduceEqDiff, Nat.reduceAdd, Nat.reduceSub, Nat.reduceMul, Nat.reduceBEq, Nat.reduceLT, Nat.reduceLeDiff, reduceCtorEq, Int.reduceToNat, Int.reduceNeg]
  refine cal_sub (place_exp j hj z.fixed z.passes hl) (by simp only [push_cast, reduceIte, Nat.reduceEqDiff, Nat.reduceAdd, Nat.reduceSub, Nat.reduceMul, Nat.reduceBEq, Nat.reduceLT, Nat.reduceLeDiff, reduceCtorEq, Int.reduceToNat, Int.reduceNeg]) ?_
  simp only [push_cast, reduceIte, Nat.reduceEqDiff, Nat.reduceAdd, Nat.reduceSub, Nat.reduceMul, Nat.reduceBEq, Nat.reduceLT, Nat.reduceLeDiff, reduceCtorEq, Int.reduceToNat, Int.reduceNeg]
  exact fun _ _ => trivial
end Go.Proofs.Ytbdamnfkgdbidaa
namespace Go.Proofs.Ytbdamnfkgdbidaa
open Go Go.Vc Txt
theorem ints_ok (a b : List Int) (ha : (a.length : Int) ≤ 1000000) (hb : (b.length : Int) ≤ 1000000) : FnEq Try.prog 43 [.sl false 1 (ints a), .sl false 1 (ints b)] (.bool (decide (a = b))) := by
  refine FnEq.of_awp Try.func43 ok43 (by show 2 ≤ _; decide) (by simp only [push_cast, reduceIte, Nat.reduceEqDiff, Nat.reduceAdd, Nat.reduceSub, Nat.reduceMul, Nat.reduceBEq, Nat.reduceLT, Nat.reduceLeDiff, reduceCtorEq, Int.reduceToNat, Int.reduceNeg] <;> first | exact fun _ _ => trivial | simp) ?_
  simp only [ac43, rv43, push_cast, reduceIte, Nat.reduceEqDiff, Nat.reduceAdd, Nat.reduceSub, Nat.reduceMul, Nat.reduceBEq, Nat.reduceLT, Nat.reduceLeDiff, reduceCtorEq, Int.reduceToNat, Int.reduceNeg]
  refine cond_dec (fun h => ?_) fun h => ?_
  · rw [decide_eq_false]; intro e; exact h (by rw [e])
  have hab : a.length = b.length := by omega
  refine loop_of (fun m st => ∃ k : Nat, k ≤ a.length ∧ m = a.length - k ∧ a.take k = b.take k ∧ st = ⟨[(0, .sl false 1 (ints a)), (1, .sl false 1 (ints b)), (5, .int k)], [], [], []⟩) a.length ?_ ?_
  · refine ⟨0, by omega, by omega, by simp, ?_⟩
    simp only [push_cast, reduceIte, Nat.reduceEqDiff, Nat.reduceAdd, Nat.reduceSub, Nat.reduceMul, Nat.reduceBEq, Nat.reduceLT, Nat.reduceLeDiff, reduceCtorEq, Int.reduceToNat, Int.reduceNeg]
  · rintro m st ⟨k, hk, rfl, h1, rfl⟩
    simp only [push_cast, reduceIte, Nat.reduceEqDiff, Nat.reduceAdd, Nat.reduceSub, Nat.reduceMul, Nat.reduceBEq, Nat.reduceLT, Nat.reduceLeDiff, reduceCtorEq, Int.reduceToNat, Int.reduceNeg]
    refine cond_dec (fun h2 => ?_) fun h2 => ?_
    · have ka : k < a.length := by omega
      have kb : k < b.length := by omega
      have ga : a.getD k default = a[k] := by simp [ka]
      have gb : b.getD k default = b[k] := by simp [kb]
      rw [ga, gb]
      refine ⟨⟨by omega, by omega⟩, ka, ⟨by omega, by omega⟩, kb, cond_dec (fun h3 => ?_) fun h3 => ?_⟩
      · rw [decide_eq_false]; intro e; subst e; exact h3 rfl
      · refine ⟨⟨by omega, by omega⟩, _, ?_, k + 1, by omega, rfl, ?_, ?_⟩
        · omega
        · rw [List.take_succ_eq_append_getElem ka, List.take_succ_eq_append_getElem kb, h1, Classical.not_not.1 h3]
        · simp
    · rw [List.take_of_length_le (by omega), List.take_of_length_le (by omega)] at h1
      rw [decide_eq_true h1]
theorem same_ok (a b : List Int × Int × Int) (ha : (a.1.length : Int) ≤ 1000000) (hb : (b.1.length : Int) ≤ 1000000) : FnEq Try.prog 19 [.agg (placedC false a), .agg (placedC false b)] (.bool (decide (a = b))) := by
  refine FnEq.of_awp Try.func19 ok19 (by show 2 ≤ _; decide) (by simp only [push_cast, reduceIte, Nat.reduceEqDiff, Nat.reduceAdd, Nat.reduceSub, Nat.reduceMul, Nat.reduceBEq, Nat.reduceLT, Nat.reduceLeDiff, reduceCtorEq, Int.reduceToNat, Int.reduceNeg] <;> first | exact fun _ _ => trivial | simp) ?_
  simp only [ac19, rv19, push_cast, reduceIte, Nat.reduceEqDiff, Nat.reduceAdd, Nat.reduceSub, Nat.reduceMul, Nat.reduceBEq, Nat.reduceLT, Nat.reduceLeDiff, reduceCtorEq, Int.reduceToNat, Int.reduceNeg]
  obtain ⟨a1, a2, a3⟩ := a
  obtain ⟨b1, b2, b3⟩ := b
  have key : ∀ p : Bool, p = (decide (a3 = b3) && decide (a2 = b2) && decide (a1 = b1)) → p = decide ((a1, a2, a3) = (b1, b2, b3)) := fun p hp => by
    rw [hp, Bool.eq_iff_iff]
    simp [Prod.ext_iff]
    constructor
    · rintro ⟨⟨h1, h2⟩, h3⟩; exact ⟨h3, h2, h1⟩
    · rintro ⟨h3, h2, h1⟩; exact ⟨⟨h1, h2⟩, h3⟩
  refine grd_dec rfl (fun h => ?_) fun h => ?_ <;> simp only [push_cast, reduceIte, Nat.reduceEqDiff, Nat.reduceAdd, Nat.reduceSub, Nat.reduceMul, Nat.reduceBEq, Nat.reduceLT, Nat.reduceLeDiff, reduceCtorEq, Int.reduceToNat, Int.reduceNeg]
  · refine grd_dec rfl (fun h1 => ?_) fun h1 => ?_ <;> simp only [push_cast, reduceIte, Nat.reduceEqDiff, Nat.reduceAdd, Nat.reduceSub, Nat.reduceMul, Nat.reduceBEq, Nat.reduceLT, Nat.reduceLeDiff, reduceCtorEq, Int.reduceToNat, Int.reduceNeg]
    · refine cal_sub (ints_ok a1 b1 ha hb) (by simp only [push_cast, reduceIte, Nat.reduceEqDiff, Nat.reduceAdd, Nat.reduceSub, Nat.reduceMul, Nat.reduceBEq, Nat.reduceLT, Nat.reduceLeDiff, reduceCtorEq, Int.reduceToNat, Int.reduceNeg]) ?_
      simp only [push_cast, reduceIte, Nat.reduceEqDiff, Nat.reduceAdd, Nat.reduceSub, Nat.reduceMul, Nat.reduceBEq, Nat.reduceLT, Nat.reduceLeDiff, reduceCtorEq, Int.reduceToNat, Int.reduceNeg]
      exact congrArg Value.bool (key _ (by rw [decide_eq_true (p := a3 = b3) h, decide_eq_true (p := a2 = b2) h1]; rfl))
    · exact congrArg Value.bool (key _ (by rw [decide_eq_true (p := a3 = b3) h, decide_eq_false (p := a2 = b2) h1]; rfl))
  · exact congrArg Value.bool (key _ (by rw [decide_eq_false (p := a3 = b3) h]; rfl))
end Go.Proofs.Ytbdamnfkgdbidaa
namespace Go.Proofs.Ytbdamnfkgdbidaa
open Go Go.Vc Txt
def exP (two : Bool) : Packed := ⟨[⟨3, 0, 0⟩], bif two then [⟨[0, 3], 1, -1, -1, 0⟩, ⟨[], 0, -1, -1, 0⟩] else [⟨[0], 1, -1, -1, 0⟩], [⟨5, 0, 0⟩], [1]⟩
def exJ (two : Bool) : Job := ⟨exP two, ⟨3, 1, 1, 1, [2, 2, 2]⟩, ⟨[], []⟩⟩
theorem exJ_ok (two : Bool) : (exJ two).Ok := by
  cases two <;> constructor <;> decide
theorem row_ok (two : Bool) : FnEq Try.prog 35 [.bool two] (.agg (jobC true (exJ two))) := by
  refine FnEq.of_awp Try.func35 ok35 (by show 1 ≤ _; decide) (by simp only [push_cast, reduceIte, Nat.reduceEqDiff, Nat.reduceAdd, Nat.reduceSub, Nat.reduceMul, Nat.reduceBEq, Nat.reduceLT, Nat.reduceLeDiff, reduceCtorEq, Int.reduceToNat, Int.reduceNeg] <;> first | exact fun _ _ => trivial | simp) ?_
  simp only [ac35, rv35, push_cast, reduceIte, Nat.reduceEqDiff, Nat.reduceAdd, Nat.reduceSub, Nat.reduceMul, Nat.reduceBEq, Nat.reduceLT, Nat.reduceLeDiff, reduceCtorEq, Int.reduceToNat, Int.reduceNeg]
  cases two
  all_goals
    simp only [push_cast, reduceIte, Nat.reduceEqDiff, Nat.reduceAdd, Nat.reduceSub, Nat.reduceMul, Nat.reduceBEq, Nat.reduceLT, Nat.reduceLeDiff, reduceCtorEq, Int.reduceToNat, Int.reduceNeg]
    and_intros <;> first | exact .refl _ | decide | (exact fun _ _ => trivial) | (intro x hx; cases hx; done) | exact Sub.slR 5 (fun _ => rfl) ⟨⟨.refl _, .refl _, .refl _, .refl _, .refl _, trivial⟩, ⟨.nil true 1, .refl _, .refl _, .refl _, .refl _, trivial⟩, trivial⟩
theorem blockC_sub (b : Block) : SubL (blockC true b) (blockC false b) := ⟨.slp _ _ _ _ (fun h => by cases h), .refl _, .refl _, .refl _, .refl _, trivial⟩
theorem jobC_sub (j : Job) : SubL (jobC true j) (jobC false j) :=
  ⟨.slp _ _ _ _ (fun h => by cases h), Sub.slR 5 (fun h => by cases h) (SubR.map _ _ _ fun b _ => blockC_sub b), .slp _ _ _ _ (fun h => by cases h), .slp _ _ _ _ (fun h => by cases h), .refl _, .refl _, .refl _, .refl _, .slp _ _ _ _ (fun h => by cases h), .slp _ _ _ _ (fun h => by cases h), .slp _ _ _ _ (fun h => by cases h), trivial⟩
theorem ex_cost1 : cost1F (exJ false) [0] = (4, 0) := by decide
theorem ex_cost2 : cost1F (exJ false) [2] = (4, 0) := by decide
theorem ex_cost3 : cost1F (exJ true) [0, 1] = (5, 0) := by decide
theorem ex_place1 : placeF (exJ true) [] 0 = ([0, 1], 0) := by decide
theorem ex_place2 : placeF (exJ true) [-1, 2] 0 = ([0, 2], 0) := by decide
theorem ex_place3 : placeF (exJ true) [-1, 2] 1 = ([1, 2], 0) := by decide
theorem ex_imp : improvedF (exJ true) [0, 2] [1] 9 = ([1, 2], 1, 0) := by decide
theorem ex_check1 : checkF (exJ true) [0, 0] = 290 := by decide
theorem ex_check2 : checkF (exJ true) [2, 0] = 0 := by decide
theorem ex_suits1 : suitsR (exJ true) 1 2 = true := by decide
def exB : Job := ⟨exP true, ⟨3, 1, 1, 1, [2, 2, 2]⟩, ⟨[2], []⟩⟩
theorem exB_ok : exB.Ok := by constructor <;> decide
theorem ex_suits2 : suitsR exB 1 2 = false := by decide
theorem packedC_sub (p : Packed) : SubL (packedC true p) (packedC false p) :=
  ⟨.slp _ _ _ _ (fun h => by cases h), Sub.slR 5 (fun h => by cases h) (SubR.map _ _ _ fun b _ => blockC_sub b), .slp _ _ _ _ (fun h => by cases h), .slp _ _ _ _ (fun h => by cases h), trivial⟩
theorem gridC_sub (g : Grid) : SubL (gridC true g) (gridC false g) := ⟨.refl _, .refl _, .refl _, .refl _, .slp _ _ _ _ (fun h => by cases h), trivial⟩
theorem badC_sub (b : Bad) : SubL (badC true b) (badC false b) := ⟨.slp _ _ _ _ (fun h => by cases h), .slp _ _ _ _ (fun h => by cases h), trivial⟩
theorem examples_ok : FnEq Try.prog 9 [] (.bool true) := by
  refine FnEq.of_awp Try.func9 ok9 (by show 0 ≤ _; decide) (by simp only [push_cast, reduceIte, Nat.reduceEqDiff, Nat.reduceAdd, Nat.reduceSub, Nat.reduceMul, Nat.reduceBEq, Nat.reduceLT, Nat.reduceLeDiff, reduceCtorEq, Int.reduceToNat, Int.reduceNeg] <;> first | exact fun _ _ => trivial | simp) ?_
  simp only [ac9, rv9, push_cast, reduceIte, Nat.reduceEqDiff, Nat.reduceAdd, Nat.reduceSub, Nat.reduceMul, Nat.reduceBEq, Nat.reduceLT, Nat.reduceLeDiff, reduceCtorEq, Int.reduceToNat, Int.reduceNeg]
  refine cal_sub (row_ok false) (by simp only [push_cast, reduceIte, Nat.reduceEqDiff, Nat.reduceAdd, Nat.reduceSub, Nat.reduceMul, Nat.reduceBEq, Nat.reduceLT, Nat.reduceLeDiff, reduceCtorEq, Int.reduceToNat, Int.reduceNeg]) ?_
  simp only [push_cast, reduceIte, Nat.reduceEqDiff, Nat.reduceAdd, Nat.reduceSub, Nat.reduceMul, Nat.reduceBEq, Nat.reduceLT, Nat.reduceLeDiff, reduceCtorEq, Int.reduceToNat, Int.reduceNeg]
  refine cal_sub (row_ok true) (by simp only [push_cast, reduceIte, Nat.reduceEqDiff, Nat.reduceAdd, Nat.reduceSub, Nat.reduceMul, Nat.reduceBEq, Nat.reduceLT, Nat.reduceLeDiff, reduceCtorEq, Int.reduceToNat, Int.reduceNeg]) ?_
  simp only [push_cast, reduceIte, Nat.reduceEqDiff, Nat.reduceAdd, Nat.reduceSub, Nat.reduceMul, Nat.reduceBEq, Nat.reduceLT, Nat.reduceLeDiff, reduceCtorEq, Int.reduceToNat, Int.reduceNeg]
  refine ⟨by decide, ?_⟩
  refine cal_sub (lcost_ok (exJ false) (exJ_ok false) [0] (by decide)) ⟨Sub.aggL (jobC_sub _), .slp _ _ _ _ (fun h => by cases h), trivial⟩ ?_
  rw [ex_cost1]
  simp only [push_cast, reduceIte, Nat.reduceEqDiff, Nat.reduceAdd, Nat.reduceSub, Nat.reduceMul, Nat.reduceBEq, Nat.reduceLT, Nat.reduceLeDiff, reduceCtorEq, Int.reduceToNat, Int.reduceNeg]
  refine ⟨by decide, ?_⟩
  refine cal_sub (lcost_ok (exJ false) (exJ_ok false) [2] (by decide)) ⟨Sub.aggL (jobC_sub _), .slp _ _ _ _ (fun h => by cases h), trivial⟩ ?_
  rw [ex_cost2]
  simp only [push_cast, reduceIte, Nat.reduceEqDiff, Nat.reduceAdd, Nat.reduceSub, Nat.reduceMul, Nat.reduceBEq, Nat.reduceLT, Nat.reduceLeDiff, reduceCtorEq, Int.reduceToNat, Int.reduceNeg]
  refine ⟨by decide, ?_⟩
  refine cal_sub (lcost_ok (exJ true) (exJ_ok true) [0, 1] (by decide)) ⟨Sub.aggL (jobC_sub _), .slp _ _ _ _ (fun h => by cases h), trivial⟩ ?_
  rw [ex_cost3]
  simp only [push_cast, reduceIte, Nat.reduceEqDiff, Nat.reduceAdd, Nat.reduceSub, Nat.reduceMul, Nat.reduceBEq, Nat.reduceLT, Nat.reduceLeDiff, reduceCtorEq, Int.reduceToNat, Int.reduceNeg]
  refine cal_sub (lplaced_ok (exJ true) (exJ_ok true) ⟨[], [], 0⟩ (by decide)) ⟨Sub.aggL (jobC_sub _), Sub.aggL ⟨.nil _ _, .nil _ _, .refl _, trivial⟩, trivial⟩ ?_
  simp only [push_cast, reduceIte, Nat.reduceEqDiff, Nat.reduceAdd, Nat.reduceSub, Nat.reduceMul, Nat.reduceBEq, Nat.reduceLT, Nat.reduceLeDiff, reduceCtorEq, Int.reduceToNat, Int.reduceNeg]
  refine ⟨by decide, ?_⟩
  have e1 : decide (((placeF (exJ true) [] 0).1, (0 : Int), (placeF (exJ true) [] 0).2) = ([0, 1], 0, 0)) = true := by rw [ex_place1]; decide
  refine cal_sub (same_ok ((placeF (exJ true) [] 0).1, 0, (placeF (exJ true) [] 0).2) ([0, 1], 0, 0) (by rw [ex_place1]; decide) (by decide)) ⟨Sub.aggL ⟨.slp _ _ _ _ (fun h => by cases h), .refl _, .refl _, trivial⟩, Sub.aggL ⟨.slp _ _ _ _ (fun h => by cases h), .refl _, .refl _, trivial⟩, trivial⟩ ?_
  rw [e1]
  simp only [push_cast, reduceIte, Nat.reduceEqDiff, Nat.reduceAdd, Nat.reduceSub, Nat.reduceMul, Nat.reduceBEq, Nat.reduceLT, Nat.reduceLeDiff, reduceCtorEq, Int.reduceToNat, Int.reduceNeg]
  refine ⟨by decide, ?_⟩
  refine cal_sub (lplaced_ok (exJ true) (exJ_ok true) ⟨[], [-1, 2], 0⟩ (by decide)) ⟨Sub.aggL (jobC_sub _), Sub.aggL ⟨.nil _ _, .slp _ _ _ _ (fun h => by cases h), .refl _, trivial⟩, trivial⟩ ?_
  simp only [push_cast, reduceIte, Nat.reduceEqDiff, Nat.reduceAdd, Nat.reduceSub, Nat.reduceMul, Nat.reduceBEq, Nat.reduceLT, Nat.reduceLeDiff, reduceCtorEq, Int.reduceToNat, Int.reduceNeg]
  refine ⟨by decide, ?_⟩
  have e2 : decide (((placeF (exJ true) [-1, 2] 0).1, (0 : Int), (placeF (exJ true) [-1, 2] 0).2) = ([0, 2], 0, 0)) = true := by rw [ex_place2]; decide
  refine cal_sub (same_ok ((placeF (exJ true) [-1, 2] 0).1, 0, (placeF (exJ true) [-1, 2] 0).2) ([0, 2], 0, 0) (by rw [ex_place2]; decide) (by decide)) ⟨Sub.aggL ⟨.slp _ _ _ _ (fun h => by cases h), .refl _, .refl _, trivial⟩, Sub.aggL ⟨.slp _ _ _ _ (fun h => by cases h), .refl _, .refl _, trivial⟩, trivial⟩ ?_
  rw [e2]
  simp only [push_cast, reduceIte, Nat.reduceEqDiff, Nat.reduceAdd, Nat.reduceSub, Nat.reduceMul, Nat.reduceBEq, Nat.reduceLT, Nat.reduceLeDiff, reduceCtorEq, Int.reduceToNat, Int.reduceNeg]
  refine cal_sub (lplaced_ok (exJ true) (exJ_ok true) ⟨[], [-1, 2], 1⟩ (by decide)) ⟨Sub.aggL (jobC_sub _), Sub.aggL ⟨.nil _ _, .slp _ _ _ _ (fun h => by cases h), .refl _, trivial⟩, trivial⟩ ?_
  simp only [push_cast, reduceIte, Nat.reduceEqDiff, Nat.reduceAdd, Nat.reduceSub, Nat.reduceMul, Nat.reduceBEq, Nat.reduceLT, Nat.reduceLeDiff, reduceCtorEq, Int.reduceToNat, Int.reduceNeg]
  refine ⟨by decide, ?_⟩
  have e3 : decide (((placeF (exJ true) [-1, 2] 1).1, (0 : Int), (placeF (exJ true) [-1, 2] 1).2) = ([1, 2], 0, 0)) = true := by rw [ex_place3]; decide
  refine cal_sub (same_ok ((placeF (exJ true) [-1, 2] 1).1, 0, (placeF (exJ true) [-1, 2] 1).2) ([1, 2], 0, 0) (by rw [ex_place3]; decide) (by decide)) ⟨Sub.aggL ⟨.slp _ _ _ _ (fun h => by cases h), .refl _, .refl _, trivial⟩, Sub.aggL ⟨.slp _ _ _ _ (fun h => by cases h), .refl _, .refl _, trivial⟩, trivial⟩ ?_
  rw [e3]
  simp only [push_cast, reduceIte, Nat.reduceEqDiff, Nat.reduceAdd, Nat.reduceSub, Nat.reduceMul, Nat.reduceBEq, Nat.reduceLT, Nat.reduceLeDiff, reduceCtorEq, Int.reduceToNat, Int.reduceNeg]
  refine ⟨by decide, by decide, ?_⟩
  refine cal_sub (limproved_ok (exJ true) (exJ_ok true) ⟨[0, 2], [1], 9⟩ (by decide) (by decide)) ⟨Sub.aggL (jobC_sub _), Sub.aggL ⟨.slp _ _ _ _ (fun h => by cases h), .slp _ _ _ _ (fun h => by cases h), .refl _, trivial⟩, trivial⟩ ?_
  simp only [push_cast, reduceIte, Nat.reduceEqDiff, Nat.reduceAdd, Nat.reduceSub, Nat.reduceMul, Nat.reduceBEq, Nat.reduceLT, Nat.reduceLeDiff, reduceCtorEq, Int.reduceToNat, Int.reduceNeg]
  refine ⟨by decide, ?_⟩
  have e4 : decide (improvedF (exJ true) [0, 2] [1] 9 = ([1, 2], 1, 0)) = true := by rw [ex_imp]; decide
  refine cal_sub (same_ok (improvedF (exJ true) [0, 2] [1] 9) ([1, 2], 1, 0) (by rw [ex_imp]; decide) (by decide)) ⟨Sub.aggL ⟨.slp _ _ _ _ (fun h => by cases h), .refl _, .refl _, trivial⟩, Sub.aggL ⟨.slp _ _ _ _ (fun h => by cases h), .refl _, .refl _, trivial⟩, trivial⟩ ?_
  rw [e4]
  simp only [push_cast, reduceIte, Nat.reduceEqDiff, Nat.reduceAdd, Nat.reduceSub, Nat.reduceMul, Nat.reduceBEq, Nat.reduceLT, Nat.reduceLeDiff, reduceCtorEq, Int.reduceToNat, Int.reduceNeg]
  refine ⟨by decide, ?_⟩
  refine cal_sub (lcheck_ok (exJ true) (exJ_ok true) [0, 0] (by decide)) ⟨Sub.aggL (jobC_sub _), .slp _ _ _ _ (fun h => by cases h), trivial⟩ ?_
  rw [ex_check1]
  simp only [push_cast, reduceIte, Nat.reduceEqDiff, Nat.reduceAdd, Nat.reduceSub, Nat.reduceMul, Nat.reduceBEq, Nat.reduceLT, Nat.reduceLeDiff, reduceCtorEq, Int.reduceToNat, Int.reduceNeg]
  refine ⟨by decide, ?_⟩
  refine cal_sub (lcheck_ok (exJ true) (exJ_ok true) [2, 0] (by decide)) ⟨Sub.aggL (jobC_sub _), .slp _ _ _ _ (fun h => by cases h), trivial⟩ ?_
  rw [ex_check2]
  simp only [push_cast, reduceIte, Nat.reduceEqDiff, Nat.reduceAdd, Nat.reduceSub, Nat.reduceMul, Nat.reduceBEq, Nat.reduceLT, Nat.reduceLeDiff, reduceCtorEq, Int.reduceToNat, Int.reduceNeg]
  refine cal_sub (suits_exp (exJ true) (exJ_ok true) 1 2) ⟨Sub.aggL (packedC_sub _), Sub.aggL (gridC_sub _), Sub.aggL (badC_sub _), .refl _, .refl _, trivial⟩ ?_
  rw [ex_suits1]
  simp only [push_cast, reduceIte, Nat.reduceEqDiff, Nat.reduceAdd, Nat.reduceSub, Nat.reduceMul, Nat.reduceBEq, Nat.reduceLT, Nat.reduceLeDiff, reduceCtorEq, Int.reduceToNat, Int.reduceNeg]
  refine ⟨by decide, ?_⟩
  refine cal_sub (suits_exp exB exB_ok 1 2) ⟨Sub.aggL (packedC_sub _), Sub.aggL (gridC_sub _), Sub.aggL ⟨.slp _ _ _ _ (fun h => by cases h), .nil _ _, trivial⟩, .refl _, .refl _, trivial⟩ ?_
  rw [ex_suits2]
  simp only [push_cast, reduceIte, Nat.reduceEqDiff, Nat.reduceAdd, Nat.reduceSub, Nat.reduceMul, Nat.reduceBEq, Nat.reduceLT, Nat.reduceLeDiff, reduceCtorEq, Int.reduceToNat, Int.reduceNeg]
end Go.Proofs.Ytbdamnfkgdbidaa
namespace Go.Proofs.Ytbdamnfkgdbidaa
open Go Go.Vc Txt
theorem cutE_of {P : Env} {ops : List AO} {st : St} {ks : List Nat} {c : AC} {Q : Exit → St → Prop} (S : St → Prop) (h1 : opsK P ops st (fun st' => S (st'.keepS ks))) (h2 : ∀ st1, S st1 → awp P c Q st1) : opsK P ops st (fun st' => awp P (.cut ks c) Q st') := by
  have mono : ∀ (l : List AO) (st : St) (K K' : St → Prop), (∀ s, K s → K' s) → opsK P l st K → opsK P l st K' := by
    intro l
    induction l with
    | nil => exact fun st K K' h hk => h st hk
    | cons o r ih => exact fun st K K' h hk => grdK_mono (opK_mono fun s hs => ih s K K' h hs) (ih _ K K' h) hk
  exact mono ops st _ _ (fun s hs => h2 _ hs) h1
def isU64 (v : PV) : Prop := ∃ x : Int, v = .sc (.int .u64 x)
theorem step_ok (h w : Int) : FnOK Try.prog 96 [.sc (.int .u64 h), .sc (.int .u64 w)] isU64 := by
  refine FnOK.of_awp Try.func96 ok96 (by show 2 ≤ _; decide) ?_
  simp only [ac96, rv96, push_cast, reduceIte, Nat.reduceEqDiff, Nat.reduceAdd, Nat.reduceSub, Nat.reduceMul, Nat.reduceBEq, Nat.reduceLT, Nat.reduceLeDiff, reduceCtorEq, Int.reduceToNat, Int.reduceNeg]
  exact ⟨by omega, _, rfl⟩
theorem words_ok (l : List Int) (hl : (l.length : Int) ≤ 1000000) : FnOK Try.prog 88 [.sl false 1 (ints l)] isU64 := by
  refine FnOK.of_awp Try.func88 ok88b (by show 1 ≤ _; decide) ?_
  simp only [ac88b, rv88b, push_cast, reduceIte, Nat.reduceEqDiff, Nat.reduceAdd, Nat.reduceSub, Nat.reduceMul, Nat.reduceBEq, Nat.reduceLT, Nat.reduceLeDiff, reduceCtorEq, Int.reduceToNat, Int.reduceNeg]
  refine loop_of (fun m st => ∃ (k : Nat) (h : Int), k ≤ l.length ∧ m = l.length - k ∧ st = ⟨[(0, .sl false 1 (ints l)), (3, .sc (.int .u64 h)), (4, .int k)], [], [], []⟩) l.length ?_ ?_
  · refine ⟨0, 512970876019, by omega, by omega, ?_⟩
    simp only [push_cast, reduceIte, Nat.reduceEqDiff, Nat.reduceAdd, Nat.reduceSub, Nat.reduceMul, Nat.reduceBEq, Nat.reduceLT, Nat.reduceLeDiff, reduceCtorEq, Int.reduceToNat, Int.reduceNeg]
  · rintro m st ⟨k, h, hk, rfl, rfl⟩
    simp only [push_cast, reduceIte, Nat.reduceEqDiff, Nat.reduceAdd, Nat.reduceSub, Nat.reduceMul, Nat.reduceBEq, Nat.reduceLT, Nat.reduceLeDiff, reduceCtorEq, Int.reduceToNat, Int.reduceNeg]
    refine cond_dec (fun h1 => ?_) fun h1 => ?_
    · refine ⟨⟨by omega, by omega⟩, by omega, ?_⟩
      refine cal_subO (step_ok h (IntKind.wrap .u64 (l.getD k default))) (by simp only [push_cast, reduceIte, Nat.reduceEqDiff, Nat.reduceAdd, Nat.reduceSub, Nat.reduceMul, Nat.reduceBEq, Nat.reduceLT, Nat.reduceLeDiff, reduceCtorEq, Int.reduceToNat, Int.reduceNeg]) ?_
      rintro _ ⟨x, rfl⟩
      simp only [push_cast, reduceIte, Nat.reduceEqDiff, Nat.reduceAdd, Nat.reduceSub, Nat.reduceMul, Nat.reduceBEq, Nat.reduceLT, Nat.reduceLeDiff, reduceCtorEq, Int.reduceToNat, Int.reduceNeg]
      refine ⟨⟨by omega, by omega⟩, _, ?_, k + 1, x, by omega, rfl, ?_⟩
      · omega
      · simp
    · refine cal_subO (step_ok h (IntKind.wrap .u64 l.length)) (by simp only [push_cast, reduceIte, Nat.reduceEqDiff, Nat.reduceAdd, Nat.reduceSub, Nat.reduceMul, Nat.reduceBEq, Nat.reduceLT, Nat.reduceLeDiff, reduceCtorEq, Int.reduceToNat, Int.reduceNeg]) ?_
      rintro _ ⟨x, rfl⟩
      simp only [push_cast, reduceIte, Nat.reduceEqDiff, Nat.reduceAdd, Nat.reduceSub, Nat.reduceMul, Nat.reduceBEq, Nat.reduceLT, Nat.reduceLeDiff, reduceCtorEq, Int.reduceToNat, Int.reduceNeg]
      exact ⟨x, rfl⟩
theorem signals_ok (p : Packed) (h1 : (p.ins.length : Int) ≤ 1000000) (h2 : (p.blocks.length : Int) ≤ 1000000) : FnEq Try.prog 69 [.agg (packedC false p)] (.int (p.ins.length + 2 * p.blocks.length)) := by
  refine FnEq.of_awp Try.func69 ok69 (by show 1 ≤ _; decide) (by simp only [push_cast, reduceIte, Nat.reduceEqDiff, Nat.reduceAdd, Nat.reduceSub, Nat.reduceMul, Nat.reduceBEq, Nat.reduceLT, Nat.reduceLeDiff, reduceCtorEq, Int.reduceToNat, Int.reduceNeg] <;> first | exact fun _ _ => trivial | simp) ?_
  simp only [ac69, rv69, push_cast, reduceIte, Nat.reduceEqDiff, Nat.reduceAdd, Nat.reduceSub, Nat.reduceMul, Nat.reduceBEq, Nat.reduceLT, Nat.reduceLeDiff, reduceCtorEq, Int.reduceToNat, Int.reduceNeg]
  refine ⟨⟨by omega, by omega⟩, by omega, by omega⟩
theorem block_ok (p : Packed) (s : Int) (h1 : (p.ins.length : Int) ≤ 1000000) (hs : 0 ≤ s ∧ s ≤ 4000000) : FnEq Try.prog 75 [.agg (packedC false p), .int s] (.int (if s < p.ins.length then -1 else (s - p.ins.length) / 2)) := by
  refine FnEq.of_awp Try.func75 ok75 (by show 2 ≤ _; decide) (by simp only [push_cast, reduceIte, Nat.reduceEqDiff, Nat.reduceAdd, Nat.reduceSub, Nat.reduceMul, Nat.reduceBEq, Nat.reduceLT, Nat.reduceLeDiff, reduceCtorEq, Int.reduceToNat, Int.reduceNeg] <;> first | exact fun _ _ => trivial | simp) ?_
  simp only [ac75, rv75, push_cast, reduceIte, Nat.reduceEqDiff, Nat.reduceAdd, Nat.reduceSub, Nat.reduceMul, Nat.reduceBEq, Nat.reduceLT, Nat.reduceLeDiff, reduceCtorEq, Int.reduceToNat, Int.reduceNeg]
  refine cond_dec (fun h => ?_) fun h => ?_
  · rw [if_pos h]
  · rw [if_neg h]
    exact ⟨⟨by omega, by omega⟩, ⟨by omega, by omega⟩, rfl⟩
theorem flip_ok (p : Packed) (s : Int) (h1 : (p.ins.length : Int) ≤ 1000000) (hs : 0 ≤ s ∧ s ≤ 4000000) : FnEq Try.prog 98 [.agg (packedC false p), .int s] (.bool (decide ((p.ins.length : Int) ≤ s ∧ (s - p.ins.length) % 2 = 1))) := by
  refine FnEq.of_awp Try.func98 ok98 (by show 2 ≤ _; decide) (by simp only [push_cast, reduceIte, Nat.reduceEqDiff, Nat.reduceAdd, Nat.reduceSub, Nat.reduceMul, Nat.reduceBEq, Nat.reduceLT, Nat.reduceLeDiff, reduceCtorEq, Int.reduceToNat, Int.reduceNeg] <;> first | exact fun _ _ => trivial | simp) ?_
  simp only [ac98, rv98, push_cast, reduceIte, Nat.reduceEqDiff, Nat.reduceAdd, Nat.reduceSub, Nat.reduceMul, Nat.reduceBEq, Nat.reduceLT, Nat.reduceLeDiff, reduceCtorEq, Int.reduceToNat, Int.reduceNeg]
  refine grd_dec rfl (fun h => ?_) fun h => ?_ <;> simp only [push_cast, reduceIte, Nat.reduceEqDiff, Nat.reduceAdd, Nat.reduceSub, Nat.reduceMul, Nat.reduceBEq, Nat.reduceLT, Nat.reduceLeDiff, reduceCtorEq, Int.reduceToNat, Int.reduceNeg]
  · refine ⟨⟨by omega, by omega⟩, ⟨by omega, by omega⟩, ?_⟩
    refine congrArg Value.bool (decide_eq_decide.2 ?_)
    constructor
    · exact fun h2 => ⟨h, h2⟩
    · exact fun h2 => h2.2
  · rw [decide_eq_false]
    exact fun h2 => h h2.1
structure Packed.Ok (p : Packed) : Prop where
  ins : (p.ins.length : Int) ≤ 1000
  nb : (p.blocks.length : Int) ≤ 1000
  nin : ∀ b ∈ p.blocks, (b.ins.length : Int) ≤ 1000
  sb : ∀ b ∈ p.blocks, ∀ s ∈ b.ins, 0 ≤ s ∧ s < p.ins.length + 2 * p.blocks.length
theorem ready_ok (p : Packed) (hp : p.Ok) (b : Nat) (hb : b < p.blocks.length) (dn : List Bool) (hd : dn.length = p.blocks.length) :
    FnOK Try.prog 97 [.agg (packedC false p), .int b, .sl false 1 (rows boolC dn)] (fun v => ∃ x : Bool, v = .bool x) := by
  refine FnOK.of_awp Try.func97 ok97 (by show 3 ≤ _; decide) ?_
  simp only [ac97, rv97, push_cast, reduceIte, Nat.reduceEqDiff, Nat.reduceAdd, Nat.reduceSub, Nat.reduceMul, Nat.reduceBEq, Nat.reduceLT, Nat.reduceLeDiff, reduceCtorEq, Int.reduceToNat, Int.reduceNeg]
  have h1 := hp.ins
  have h2 := hp.nb
  have hg : p.blocks.getD b default = p.blocks[b] := by simp [hb]
  have hbm : p.blocks[b] ∈ p.blocks := List.getElem_mem hb
  have h3 := hp.nin _ hbm
  refine loop_of (fun m st => ∃ (k : Nat), k ≤ p.blocks[b].ins.length ∧ m = p.blocks[b].ins.length - k ∧
    st = ⟨[(1, .int b), (2, .sl false 1 (rows boolC dn)), (3, .ptr 3 0), (7, .int k)], [(3, packedC false p)], [], []⟩) p.blocks[b].ins.length ?_ ?_
  · refine ⟨0, by omega, by omega, ?_⟩
    simp only [push_cast, reduceIte, Nat.reduceEqDiff, Nat.reduceAdd, Nat.reduceSub, Nat.reduceMul, Nat.reduceBEq, Nat.reduceLT, Nat.reduceLeDiff, reduceCtorEq, Int.reduceToNat, Int.reduceNeg]
  · rintro m st ⟨k, hk, rfl, rfl⟩
    simp only [push_cast, reduceIte, Nat.reduceEqDiff, Nat.reduceAdd, Nat.reduceSub, Nat.reduceMul, Nat.reduceBEq, Nat.reduceLT, Nat.reduceLeDiff, reduceCtorEq, Int.reduceToNat, Int.reduceNeg]
    rw [hg]
    refine ⟨⟨by omega, by omega⟩, by omega, ?_⟩
    refine cond_dec (fun h4 => ?_) fun h4 => ?_
    · have hk' : k < p.blocks[b].ins.length := by omega
      have hgs : p.blocks[b].ins.getD k default = p.blocks[b].ins[k] := by simp [hk']
      rw [hgs]
      have hs := hp.sb _ hbm _ (List.getElem_mem hk')
      generalize p.blocks[b].ins[k] = s at hs ⊢
      refine ⟨⟨by omega, by omega⟩, by omega, ⟨by omega, by omega⟩, hk', ?_⟩
      obtain ⟨q, hq⟩ : ∃ q, q = (if s < p.ins.length then (-1 : Int) else (s - p.ins.length) / 2) := ⟨_, rfl⟩
      have hq1 : (s < p.ins.length → q = -1) ∧ (¬ s < p.ins.length → 0 ≤ q ∧ q < p.blocks.length) := by rw [hq]; split <;> omega
      refine cal_sub (block_ok p s (by omega) (by omega)) (by simp only [push_cast, reduceIte, Nat.reduceEqDiff, Nat.reduceAdd, Nat.reduceSub, Nat.reduceMul, Nat.reduceBEq, Nat.reduceLT, Nat.reduceLeDiff, reduceCtorEq, Int.reduceToNat, Int.reduceNeg]) ?_
      rw [← hq]
      refine cut_of ⟨[(1, .int b), (2, .sl false 1 (rows boolC dn)), (3, .ptr 3 0), (7, .int k), (47, .bool (decide (0 ≤ q) && !decide ((p.ins.length : Int) ≤ s ∧ (s - p.ins.length) % 2 = 1) && !dn.getD q.toNat default))], [(3, packedC false p)], [], []⟩ ?_ ?_
      · simp only [push_cast, reduceIte, Nat.reduceEqDiff, Nat.reduceAdd, Nat.reduceSub, Nat.reduceMul, Nat.reduceBEq, Nat.reduceLT, Nat.reduceLeDiff, reduceCtorEq, Int.reduceToNat, Int.reduceNeg]
        refine grd_dec rfl (fun h5 => ?_) fun h5 => ?_ <;> simp only [push_cast, reduceIte, Nat.reduceEqDiff, Nat.reduceAdd, Nat.reduceSub, Nat.reduceMul, Nat.reduceBEq, Nat.reduceLT, Nat.reduceLeDiff, reduceCtorEq, Int.reduceToNat, Int.reduceNeg]
        · refine cal_sub (flip_ok p s (by omega) (by omega)) (by simp only [push_cast, reduceIte, Nat.reduceEqDiff, Nat.reduceAdd, Nat.reduceSub, Nat.reduceMul, Nat.reduceBEq, Nat.reduceLT, Nat.reduceLeDiff, reduceCtorEq, Int.reduceToNat, Int.reduceNeg]) ?_
          rw [decide_eq_true h5]
          cases decide ((p.ins.length : Int) ≤ s ∧ (s - p.ins.length) % 2 = 1) <;> simp only [push_cast, reduceIte, Nat.reduceEqDiff, Nat.reduceAdd, Nat.reduceSub, Nat.reduceMul, Nat.reduceBEq, Nat.reduceLT, Nat.reduceLeDiff, reduceCtorEq, Int.reduceToNat, Int.reduceNeg]
          · refine cal_sub (block_ok p s (by omega) (by omega)) (by simp only [push_cast, reduceIte, Nat.reduceEqDiff, Nat.reduceAdd, Nat.reduceSub, Nat.reduceMul, Nat.reduceBEq, Nat.reduceLT, Nat.reduceLeDiff, reduceCtorEq, Int.reduceToNat, Int.reduceNeg]) ?_
            rw [← hq]
            simp only [push_cast, reduceIte, Nat.reduceEqDiff, Nat.reduceAdd, Nat.reduceSub, Nat.reduceMul, Nat.reduceBEq, Nat.reduceLT, Nat.reduceLeDiff, reduceCtorEq, Int.reduceToNat, Int.reduceNeg]
            refine ⟨⟨by omega, by omega⟩, by omega⟩
        · rw [decide_eq_false h5]
          rfl
      simp only [push_cast, reduceIte, Nat.reduceEqDiff, Nat.reduceAdd, Nat.reduceSub, Nat.reduceMul, Nat.reduceBEq, Nat.reduceLT, Nat.reduceLeDiff, reduceCtorEq, Int.reduceToNat, Int.reduceNeg]
      refine cond_of (fun h5 => ?_) fun h5 => ?_
      · exact ⟨_, rfl⟩
      · refine ⟨⟨by omega, by omega⟩, _, ?_, k + 1, by omega, rfl, ?_⟩
        · omega
        · simp
    · exact ⟨_, rfl⟩
theorem order_ok (p : Packed) (hp : p.Ok) :
    FnOK Try.prog 89 [.agg (packedC false p)] (fun v => ∃ l : List Int, v = .sl true 1 (ints l) ∧ (l.length : Int) ≤ 1000000 ∧ ∀ x ∈ l, 0 ≤ x ∧ x < p.blocks.length) := by
  refine FnOK.of_awp Try.func89 ok89 (by show 1 ≤ _; decide) ?_
  simp only [ac89, rv89, push_cast, reduceIte, Nat.reduceEqDiff, Nat.reduceAdd, Nat.reduceSub, Nat.reduceMul, Nat.reduceBEq, Nat.reduceLT, Nat.reduceLeDiff, reduceCtorEq, Int.reduceToNat, Int.reduceNeg]
  have h1 := hp.ins
  have h2 := hp.nb
  refine ⟨⟨by omega, by omega, by omega, by omega⟩, ?_⟩
  obtain ⟨n, hn⟩ : ∃ n, n = p.blocks.length := ⟨_, rfl⟩
  rw [← hn] at h2 ⊢
  have hnn : n * n ≤ 1000000 := Nat.mul_le_mul (show n ≤ 1000 by omega) (show n ≤ 1000 by omega)
  refine loop_of (fun m st => ∃ (r : Nat) (l : List Int) (dn : List Bool), r ≤ n ∧ m = n - r ∧ l.length ≤ r * n ∧ (∀ x ∈ l, 0 ≤ x ∧ x < n) ∧ dn.length = n ∧
    st = ⟨[(1, .ptr 1 0), (3, .view 7 0 l.length), (4, .view 11 0 n), (5, .int r)], [(1, packedC false p)], [(7, ⟨1, 3, ints l⟩), (11, ⟨1, 4, rows boolC dn⟩)], []⟩) n ?_ ?_
  · refine ⟨0, [], List.replicate n false, by omega, by omega, by simp, by simp, by simp, ?_⟩
    simp only [push_cast, reduceIte, Nat.reduceEqDiff, Nat.reduceAdd, Nat.reduceSub, Nat.reduceMul, Nat.reduceBEq, Nat.reduceLT, Nat.reduceLeDiff, reduceCtorEq, Int.reduceToNat, Int.reduceNeg]
    simp
    done
  · rintro m st ⟨r, l, dn, hr, rfl, hl, hlb, hdn, rfl⟩
    have hrn : r * n ≤ n * n := Nat.mul_le_mul_right n hr
    have hrs : (r + 1) * n = r * n + n := Nat.succ_mul r n
    simp only [push_cast, reduceIte, Nat.reduceEqDiff, Nat.reduceAdd, Nat.reduceSub, Nat.reduceMul, Nat.reduceBEq, Nat.reduceLT, Nat.reduceLeDiff, reduceCtorEq, Int.reduceToNat, Int.reduceNeg]
    rw [← hn]
    refine cond_dec (fun h3 => ?_) fun h3 => ?_
    · refine loop_of (fun m st => ∃ (b : Nat) (l : List Int) (dn : List Bool), b ≤ n ∧ m = n - b ∧ l.length ≤ r * n + b ∧ (∀ x ∈ l, 0 ≤ x ∧ x < n) ∧ dn.length = n ∧
        st = ⟨[(1, .ptr 1 0), (3, .view 7 0 l.length), (4, .view 11 0 n), (5, .int r), (6, .int b)], [(1, packedC false p)], [(7, ⟨1, 3, ints l⟩), (11, ⟨1, 4, rows boolC dn⟩)], []⟩) n ?_ ?_
      · refine ⟨0, l, dn, by omega, by omega, by omega, hlb, hdn, ?_⟩
        simp only [push_cast, reduceIte, Nat.reduceEqDiff, Nat.reduceAdd, Nat.reduceSub, Nat.reduceMul, Nat.reduceBEq, Nat.reduceLT, Nat.reduceLeDiff, reduceCtorEq, Int.reduceToNat, Int.reduceNeg]
      · clear hl hlb hdn
        rintro m st ⟨b, l, dn, hb, rfl, hl, hlb, hdn, rfl⟩
        simp only [push_cast, reduceIte, Nat.reduceEqDiff, Nat.reduceAdd, Nat.reduceSub, Nat.reduceMul, Nat.reduceBEq, Nat.reduceLT, Nat.reduceLeDiff, reduceCtorEq, Int.reduceToNat, Int.reduceNeg]
        rw [← hn]
        refine cond_dec (fun h4 => ?_) fun h4 => ?_
        · refine ⟨by omega, by omega, ?_⟩
          refine cutE_of (fun st1 => ∃ x : Bool, st1 = ⟨[(1, .ptr 1 0), (3, .view 7 0 l.length), (4, .view 11 0 n), (5, .int r), (6, .int b), (36, .bool x)], [(1, packedC false p)], [(7, ⟨1, 3, ints l⟩), (11, ⟨1, 4, rows boolC dn⟩)], []⟩) ?_ ?_
          · cases hx : dn.getD b default <;> simp only [push_cast, reduceIte, Nat.reduceEqDiff, Nat.reduceAdd, Nat.reduceSub, Nat.reduceMul, Nat.reduceBEq, Nat.reduceLT, Nat.reduceLeDiff, reduceCtorEq, Int.reduceToNat, Int.reduceNeg]
            · rw [List.take_of_length_le (by omega)]
              refine cal_subO (ready_ok p hp b (by omega) dn (by omega)) (by simp only [push_cast, reduceIte, Nat.reduceEqDiff, Nat.reduceAdd, Nat.reduceSub, Nat.reduceMul, Nat.reduceBEq, Nat.reduceLT, Nat.reduceLeDiff, reduceCtorEq, Int.reduceToNat, Int.reduceNeg]) ?_
              rintro _ ⟨x, rfl⟩
              simp only [push_cast, reduceIte, Nat.reduceEqDiff, Nat.reduceAdd, Nat.reduceSub, Nat.reduceMul, Nat.reduceBEq, Nat.reduceLT, Nat.reduceLeDiff, reduceCtorEq, Int.reduceToNat, Int.reduceNeg]
              exact ⟨x, rfl⟩
            · exact ⟨false, rfl⟩
          · rintro st1 ⟨x, rfl⟩
            simp only [push_cast, reduceIte, Nat.reduceEqDiff, Nat.reduceAdd, Nat.reduceSub, Nat.reduceMul, Nat.reduceBEq, Nat.reduceLT, Nat.reduceLeDiff, reduceCtorEq, Int.reduceToNat, Int.reduceNeg]
            refine cond_of (fun h5 => ?_) fun h5 => ?_
            · rw [show (List.replicate 1 (0 : Int)).set 0 (b : Int) = [(b : Int)] from rfl]
              simp only [push_cast, reduceIte, Nat.reduceEqDiff, Nat.reduceAdd, Nat.reduceSub, Nat.reduceMul, Nat.reduceBEq, Nat.reduceLT, Nat.reduceLeDiff, reduceCtorEq, Int.reduceToNat, Int.reduceNeg, show List.take 1 [(b : Int)] = [(b : Int)] from rfl]
              refine ⟨by omega, by omega, by decide, ⟨by omega, by omega⟩, ⟨by omega, by omega⟩, _, ?_, b + 1, l ++ [(b : Int)], dn.set b true, by omega, rfl, by simp; omega, fun y hy => ?_, by simpa using hdn, ?_⟩
              · omega
              · rcases List.mem_append.1 hy with hy | hy
                · exact hlb y hy
                · rw [List.mem_singleton.1 hy]; omega
              · simp
            · refine ⟨⟨by omega, by omega⟩, _, ?_, b + 1, l, dn, by omega, rfl, by omega, hlb, hdn, ?_⟩
              · omega
              · simp
        · have hbn : b = n := by omega
          subst hbn
          refine cond_dec (fun h5 => ?_) fun h5 => ?_
          · rw [List.take_length]
            exact ⟨fun _ _ => trivial, l, rfl, by omega, hlb⟩
          · refine ⟨⟨by omega, by omega⟩, _, ?_, r + 1, l, dn, by omega, rfl, by omega, hlb, hdn, ?_⟩
            · omega
            · simp
    · rw [List.take_length]
      exact ⟨fun _ _ => trivial, l, rfl, by omega, hlb⟩
end Go.Proofs.Ytbdamnfkgdbidaa
namespace Go.Proofs.Ytbdamnfkgdbidaa
open Go Go.Vc Txt
theorem one_set (z : Int) : (List.replicate 1 (0 : Int)).set 0 z = [z] := rfl
theorem takeOneI (z : Int) : List.take 1 [z] = [z] := rfl
theorem skeys_ok (p : Packed) (hp : p.Ok) :
    FnOK Try.prog 74 [.agg (packedC false p)] (fun v => ∃ l : List Int, v = .sl true 1 (rows u64C l) ∧ l.length = p.ins.length + 2 * p.blocks.length) := by
  refine FnOK.of_awp Try.func74 ok74b (by show 1 ≤ _; decide) ?_
  simp only [ac74b, rv74b, push_cast, reduceIte, Nat.reduceEqDiff, Nat.reduceAdd, Nat.reduceSub, Nat.reduceMul, Nat.reduceBEq, Nat.reduceLT, Nat.reduceLeDiff, reduceCtorEq, Int.reduceToNat, Int.reduceNeg]
  have h1 := hp.ins
  have h2 := hp.nb
  refine cal_sub (signals_ok p (by omega) (by omega)) (by simp only [push_cast, reduceIte, Nat.reduceEqDiff, Nat.reduceAdd, Nat.reduceSub, Nat.reduceMul, Nat.reduceBEq, Nat.reduceLT, Nat.reduceLeDiff, reduceCtorEq, Int.reduceToNat, Int.reduceNeg]) ?_
  simp only [push_cast, reduceIte, Nat.reduceEqDiff, Nat.reduceAdd, Nat.reduceSub, Nat.reduceMul, Nat.reduceBEq, Nat.reduceLT, Nat.reduceLeDiff, reduceCtorEq, Int.reduceToNat, Int.reduceNeg]
  obtain ⟨S, hS⟩ : ∃ S : Nat, S = p.ins.length + 2 * p.blocks.length := ⟨_, rfl⟩
  rw [show (p.ins.length : Int) + 2 * (p.blocks.length : Int) = (S : Int) by omega, ← hS]
  simp only [push_cast, reduceIte, Nat.reduceEqDiff, Nat.reduceAdd, Nat.reduceSub, Nat.reduceMul, Nat.reduceBEq, Nat.reduceLT, Nat.reduceLeDiff, reduceCtorEq, Int.reduceToNat, Int.reduceNeg]
  refine ⟨by omega, ?_⟩
  refine loop_of (fun m st => ∃ (k : Nat) (o : List Int), k ≤ p.ins.length ∧ m = p.ins.length - k ∧ o.length = S ∧
    st = ⟨[(1, .ptr 1 0), (3, .view 13 0 S), (4, .int k)], [(1, packedC false p)], [(13, ⟨1, 69, rows u64C o⟩)], []⟩) p.ins.length ?_ ?_
  · refine ⟨0, List.replicate S 0, by omega, by omega, by simp, ?_⟩
    simp only [push_cast, reduceIte, Nat.reduceEqDiff, Nat.reduceAdd, Nat.reduceSub, Nat.reduceMul, Nat.reduceBEq, Nat.reduceLT, Nat.reduceLeDiff, reduceCtorEq, Int.reduceToNat, Int.reduceNeg]
    simp
  · rintro m st ⟨k, o, hk, rfl, ho, rfl⟩
    simp only [push_cast, reduceIte, Nat.reduceEqDiff, Nat.reduceAdd, Nat.reduceSub, Nat.reduceMul, Nat.reduceBEq, Nat.reduceLT, Nat.reduceLeDiff, reduceCtorEq, Int.reduceToNat, Int.reduceNeg]
    refine cond_dec (fun h3 => ?_) fun h3 => ?_
    · have hk' : k < p.ins.length := by omega
      refine ⟨by omega, by omega, by omega, by omega, by omega, by omega, by simp, ?_⟩
      refine dcal_of (words_ok _ (by simp)) ⟨_, 0, rfl⟩ ?_
      rintro _ ⟨x, rfl⟩
      refine ⟨rfl, ?_⟩
      simp only [push_cast, reduceIte, Nat.reduceEqDiff, Nat.reduceAdd, Nat.reduceSub, Nat.reduceMul, Nat.reduceBEq, Nat.reduceLT, Nat.reduceLeDiff, reduceCtorEq, Int.reduceToNat, Int.reduceNeg]
      refine ⟨⟨by omega, by omega⟩, by omega, ⟨by omega, by omega⟩, _, ?_, k + 1, o.set k x, by omega, rfl, by simpa using ho, ?_⟩
      · omega
      · simp
    · refine loop_of (fun m st => ∃ (k : Nat) (o : List Int), k ≤ p.blocks.length ∧ m = p.blocks.length - k ∧ o.length = S ∧
        st = ⟨[(1, .ptr 1 0), (3, .view 13 0 S), (5, .int k)], [(1, packedC false p)], [(13, ⟨1, 69, rows u64C o⟩)], []⟩) p.blocks.length ?_ ?_
      · refine ⟨0, o, by omega, by omega, ho, ?_⟩
        simp only [push_cast, reduceIte, Nat.reduceEqDiff, Nat.reduceAdd, Nat.reduceSub, Nat.reduceMul, Nat.reduceBEq, Nat.reduceLT, Nat.reduceLeDiff, reduceCtorEq, Int.reduceToNat, Int.reduceNeg]
      · clear hk h3 ho
        clear k o
        rintro m st ⟨k, o, hk, rfl, ho, rfl⟩
        simp only [push_cast, reduceIte, Nat.reduceEqDiff, Nat.reduceAdd, Nat.reduceSub, Nat.reduceMul, Nat.reduceBEq, Nat.reduceLT, Nat.reduceLeDiff, reduceCtorEq, Int.reduceToNat, Int.reduceNeg]
        refine cond_dec (fun h3 => ?_) fun h3 => ?_
        · have hk' : k < p.blocks.length := by omega
          refine ⟨by omega, by omega, ?_⟩
          refine cond_dec (fun h4 => ?_) fun h4 => ?_
          · refine ⟨by omega, by omega, by omega, by omega, by simp, ?_⟩
            refine dcal_of (words_ok _ (by simp)) ⟨_, 0, rfl⟩ ?_
            rintro _ ⟨x, rfl⟩
            refine ⟨rfl, ?_⟩
            simp only [push_cast, reduceIte, Nat.reduceEqDiff, Nat.reduceAdd, Nat.reduceSub, Nat.reduceMul, Nat.reduceBEq, Nat.reduceLT, Nat.reduceLeDiff, reduceCtorEq, Int.reduceToNat, Int.reduceNeg]
            refine ⟨⟨by omega, by omega⟩, by omega, ?_⟩
            refine ⟨by omega, by omega, by omega, by omega, by omega, by simp, ?_⟩
            refine dcal_of (words_ok _ (by simp)) ⟨_, 0, rfl⟩ ?_
            rintro _ ⟨y, rfl⟩
            refine ⟨rfl, ?_⟩
            simp only [push_cast, reduceIte, Nat.reduceEqDiff, Nat.reduceAdd, Nat.reduceSub, Nat.reduceMul, Nat.reduceBEq, Nat.reduceLT, Nat.reduceLeDiff, reduceCtorEq, Int.reduceToNat, Int.reduceNeg]
            refine ⟨⟨by omega, by omega⟩, by simp; omega, ⟨by omega, by omega⟩, _, ?_, k + 1, _, by omega, rfl, by simpa using ho, rfl⟩
            omega
          · refine ⟨⟨by omega, by omega⟩, _, ?_, k + 1, o, by omega, rfl, ho, ?_⟩
            · omega
            · simp
        · refine cal_subO (order_ok p hp) (by simp only [push_cast, reduceIte, Nat.reduceEqDiff, Nat.reduceAdd, Nat.reduceSub, Nat.reduceMul, Nat.reduceBEq, Nat.reduceLT, Nat.reduceLeDiff, reduceCtorEq, Int.reduceToNat, Int.reduceNeg]) ?_
          rintro _ ⟨l, rfl, hl, hlb⟩
          simp only [push_cast, reduceIte, Nat.reduceEqDiff, Nat.reduceAdd, Nat.reduceSub, Nat.reduceMul, Nat.reduceBEq, Nat.reduceLT, Nat.reduceLeDiff, reduceCtorEq, Int.reduceToNat, Int.reduceNeg]
          refine loop_of (fun m st => ∃ (k : Nat) (o : List Int), k ≤ l.length ∧ m = l.length - k ∧ o.length = S ∧
            st = ⟨[(1, .ptr 1 0), (3, .view 13 0 S), (6, .sl true 1 (ints l)), (7, .int k)], [(1, packedC false p)], [(13, ⟨1, 69, rows u64C o⟩)], []⟩) l.length ?_ ?_
          · refine ⟨0, o, by omega, by omega, ho, ?_⟩
            simp only [push_cast, reduceIte, Nat.reduceEqDiff, Nat.reduceAdd, Nat.reduceSub, Nat.reduceMul, Nat.reduceBEq, Nat.reduceLT, Nat.reduceLeDiff, reduceCtorEq, Int.reduceToNat, Int.reduceNeg]
          · clear hk h3 ho
            clear k o
            rintro m st ⟨k, o, hk, rfl, ho, rfl⟩
            simp only [push_cast, reduceIte, Nat.reduceEqDiff, Nat.reduceAdd, Nat.reduceSub, Nat.reduceMul, Nat.reduceBEq, Nat.reduceLT, Nat.reduceLeDiff, reduceCtorEq, Int.reduceToNat, Int.reduceNeg]
            refine cond_dec (fun h3 => ?_) fun h3 => ?_
            · have hk' : k < l.length := by omega
              have hgl : l.getD k default = l[k] := by simp [hk']
              have hx := hlb _ (List.getElem_mem hk')
              rw [hgl]
              generalize hxe : l[k] = x at hx hgl ⊢
              have hbm : p.blocks.getD x.toNat default ∈ p.blocks := by
                have : x.toNat < p.blocks.length := by omega
                simp [List.getD_eq_getElem?_getD, this]
              have hnin := hp.nin _ hbm
              have hsb := hp.sb _ hbm
              refine ⟨by omega, hk', by omega, by omega, ?_⟩
              refine cond_dec (fun h4 => ?_) fun h4 => ?_
              · refine ⟨⟨by omega, by omega⟩, _, ?_, k + 1, o, by omega, rfl, ho, ?_⟩
                · omega
                · simp
              · refine ⟨by simp, ?_⟩
                generalize p.blocks.getD x.toNat default = q at hnin hsb ⊢
                refine loop_of (fun m st => ∃ (t : Nat) (ys : List Int), t ≤ q.ins.length ∧ m = q.ins.length - t ∧ ys.length = 3 + t ∧
                  st = ⟨[(1, .ptr 1 0), (3, .view 13 0 S), (6, .sl true 1 (ints l)), (7, .int k), (8, .ptr 8 0), (9, .view 114 0 ys.length), (10, .int t)], [(1, packedC false p), (8, blockC false q)], [(13, ⟨1, 69, rows u64C o⟩), (114, ⟨1, 3, ints ys⟩)], []⟩) q.ins.length ?_ ?_
                · refine ⟨0, (((List.replicate 3 (0 : Int)).set 0 4).set 1 q.table).set 2 q.ram, by omega, by omega, by simp, ?_⟩
                  simp only [push_cast, reduceIte, Nat.reduceEqDiff, Nat.reduceAdd, Nat.reduceSub, Nat.reduceMul, Nat.reduceBEq, Nat.reduceLT, Nat.reduceLeDiff, reduceCtorEq, Int.reduceToNat, Int.reduceNeg]
                · rintro m st ⟨t, ys, ht, rfl, hys, rfl⟩
                  simp only [push_cast, reduceIte, Nat.reduceEqDiff, Nat.reduceAdd, Nat.reduceSub, Nat.reduceMul, Nat.reduceBEq, Nat.reduceLT, Nat.reduceLeDiff, reduceCtorEq, Int.reduceToNat, Int.reduceNeg]
                  refine cond_dec (fun h5 => ?_) fun h5 => ?_
                  · have ht' : t < q.ins.length := by omega
                    have hgs : q.ins.getD t default = q.ins[t] := by simp [ht']
                    have hs := hsb _ (List.getElem_mem ht')
                    rw [hgs]
                    generalize q.ins[t] = s at hs ⊢
                    generalize IntKind.i64.wrap (o.getD s.toNat default) = z
                    rw [show (List.replicate 1 (0 : Int)).set 0 z = [z] from rfl]
                    simp only [push_cast, reduceIte, Nat.reduceEqDiff, Nat.reduceAdd, Nat.reduceSub, Nat.reduceMul, Nat.reduceBEq, Nat.reduceLT, Nat.reduceLeDiff, reduceCtorEq, Int.reduceToNat, Int.reduceNeg, show List.take 1 [z] = [z] from rfl]
                    refine ⟨by omega, ht', ⟨by omega, by omega⟩, by omega, by decide, ⟨by omega, by omega⟩, ⟨by omega, by omega⟩, _, ?_, t + 1, ys ++ [z], by omega, rfl, by simp; omega, ?_⟩
                    · omega
                    · simp
                  · rw [hgl]
                    refine ⟨by omega, hk', by omega, by omega, ?_⟩
                    refine dcal_of (words_ok _ (by rw [List.take_length]; omega)) ⟨_, 0, rfl⟩ ?_
                    rintro _ ⟨y, rfl⟩
                    refine ⟨rfl, ?_⟩
                    simp only [push_cast, reduceIte, Nat.reduceEqDiff, Nat.reduceAdd, Nat.reduceSub, Nat.reduceMul, Nat.reduceBEq, Nat.reduceLT, Nat.reduceLeDiff, reduceCtorEq, Int.reduceToNat, Int.reduceNeg]
                    refine ⟨⟨by omega, by omega⟩, by omega, ⟨by omega, by omega⟩, _, ?_, k + 1, _, by omega, rfl, by simpa using ho, rfl⟩
                    omega
            · rw [List.take_of_length_le (by omega)]
              exact ⟨fun _ _ => trivial, o, rfl, ho⟩
theorem keys_ok (p : Packed) (hp : p.Ok) :
    FnOK Try.prog 48 [.agg (packedC false p)] (fun v => ∃ l : List Int, v = .sl true 1 (rows u64C l) ∧ l.length = p.blocks.length) := by
  refine FnOK.of_awp Try.func48 ok48 (by show 1 ≤ _; decide) ?_
  simp only [ac48, rv48, push_cast, reduceIte, Nat.reduceEqDiff, Nat.reduceAdd, Nat.reduceSub, Nat.reduceMul, Nat.reduceBEq, Nat.reduceLT, Nat.reduceLeDiff, reduceCtorEq, Int.reduceToNat, Int.reduceNeg]
  have h1 := hp.ins
  have h2 := hp.nb
  refine cal_subO (skeys_ok p hp) (by simp only [push_cast, reduceIte, Nat.reduceEqDiff, Nat.reduceAdd, Nat.reduceSub, Nat.reduceMul, Nat.reduceBEq, Nat.reduceLT, Nat.reduceLeDiff, reduceCtorEq, Int.reduceToNat, Int.reduceNeg]) ?_
  rintro _ ⟨l, rfl, hl⟩
  simp only [push_cast, reduceIte, Nat.reduceEqDiff, Nat.reduceAdd, Nat.reduceSub, Nat.reduceMul, Nat.reduceBEq, Nat.reduceLT, Nat.reduceLeDiff, reduceCtorEq, Int.reduceToNat, Int.reduceNeg]
  refine loop_of (fun m st => ∃ (k : Nat) (o : List Int), k ≤ p.blocks.length ∧ m = p.blocks.length - k ∧ o.length = k ∧
    st = ⟨[(1, .ptr 1 0), (3, .sl true 1 (rows u64C l)), (4, .view 9 0 k), (5, .int k)], [(1, packedC false p)], [(9, ⟨1, 69, rows u64C o⟩)], []⟩) p.blocks.length ?_ ?_
  · refine ⟨0, [], by omega, by omega, rfl, ?_⟩
    simp only [push_cast, reduceIte, Nat.reduceEqDiff, Nat.reduceAdd, Nat.reduceSub, Nat.reduceMul, Nat.reduceBEq, Nat.reduceLT, Nat.reduceLeDiff, reduceCtorEq, Int.reduceToNat, Int.reduceNeg]
    rfl
  · rintro m st ⟨k, o, hk, rfl, ho, rfl⟩
    simp only [push_cast, reduceIte, Nat.reduceEqDiff, Nat.reduceAdd, Nat.reduceSub, Nat.reduceMul, Nat.reduceBEq, Nat.reduceLT, Nat.reduceLeDiff, reduceCtorEq, Int.reduceToNat, Int.reduceNeg]
    refine cond_dec (fun h3 => ?_) fun h3 => ?_
    · have hk' : k < p.blocks.length := by omega
      refine ⟨by omega, by omega, by omega, by omega, ?_⟩
      refine cond_dec (fun h4 => ?_) fun h4 => ?_
      · simp only [one_set, push_cast, reduceIte, Nat.reduceEqDiff, Nat.reduceAdd, Nat.reduceSub, Nat.reduceMul, Nat.reduceBEq, Nat.reduceLT, Nat.reduceLeDiff, reduceCtorEq, Int.reduceToNat, Int.reduceNeg, takeOneI]
        refine ⟨by omega, by omega, by omega, by decide, ⟨ho.symm, by omega, by omega⟩, ⟨by omega, by omega⟩, _, ?_, k + 1, _, by omega, rfl, ?_, rfl⟩
        · omega
        · simpa using ho
      · simp only [one_set, push_cast, reduceIte, Nat.reduceEqDiff, Nat.reduceAdd, Nat.reduceSub, Nat.reduceMul, Nat.reduceBEq, Nat.reduceLT, Nat.reduceLeDiff, reduceCtorEq, Int.reduceToNat, Int.reduceNeg, takeOneI]
        refine ⟨by omega, by omega, by decide, ⟨ho.symm, by omega, by omega⟩, ⟨by omega, by omega⟩, _, ?_, k + 1, _, by omega, rfl, ?_, rfl⟩
        · omega
        · simpa using ho
    · rw [List.take_of_length_le (by omega)]
      exact ⟨fun _ _ => trivial, o, rfl, by omega⟩
end Go.Proofs.Ytbdamnfkgdbidaa
namespace Go.Proofs.Ytbdamnfkgdbidaa
open Go Go.Vc Txt
@[push_cast] theorem set_one {α : Type} (z x : α) : (List.replicate 1 z).set 0 x = [x] := rfl
@[push_cast] theorem take_all {α : Type} (l : List α) : l.take l.length = l := List.take_length
@[push_cast] theorem take_one {α : Type} (x : α) : List.take 1 [x] = [x] := rfl
theorem map_range_succ {α : Type} (f : Nat → α) (k : Nat) : (List.range (k + 1)).map f = (List.range k).map f ++ [f k] := by simp [List.range_succ]
end Go.Proofs.Ytbdamnfkgdbidaa
namespace Go.Proofs.Ytbdamnfkgdbidaa
open Go Go.Vc Txt
def kindF (l : List Int) (i : Nat) : Int := if i < l.length ∧ l.getD i default % 8 < 2 then l.getD i default % 8 else 2
def kindsF (n : Nat) (l : List Int) : List Int := (List.range n).map (kindF l)
theorem kinds_ok (n : Nat) (hn : (n : Int) ≤ 1000000) (l : List Int) (hl : (l.length : Int) ≤ 1000000) (hb : ∀ x ∈ l, 0 ≤ x ∧ x ≤ 255) :
    FnEq Try.prog 49 [.int n, .sl false 1 (bytes8 l)] (.sl true 1 (ints (kindsF n l))) := by
  refine FnEq.of_awp Try.func49 ok49 (by show 2 ≤ _; decide) (by simp only [push_cast, reduceIte, Nat.reduceEqDiff, Nat.reduceAdd, Nat.reduceSub, Nat.reduceMul, Nat.reduceBEq, Nat.reduceLT, Nat.reduceLeDiff, reduceCtorEq, Int.reduceToNat, Int.reduceNeg] <;> first | exact fun _ _ => trivial | simp) ?_
  simp only [ac49, rv49, push_cast, reduceIte, Nat.reduceEqDiff, Nat.reduceAdd, Nat.reduceSub, Nat.reduceMul, Nat.reduceBEq, Nat.reduceLT, Nat.reduceLeDiff, reduceCtorEq, Int.reduceToNat, Int.reduceNeg]
  refine loop_of (fun m st => ∃ k : Nat, k ≤ n ∧ m = n - k ∧
    st = ⟨[(0, .int n), (1, .sl false 1 (bytes8 l)), (5, .view 8 0 k), (6, .int k)], [], [(8, ⟨1, 3, ints ((List.range k).map (kindF l))⟩)], []⟩) n ?_ ?_
  · refine ⟨0, by omega, by omega, ?_⟩
    simp only [push_cast, reduceIte, Nat.reduceEqDiff, Nat.reduceAdd, Nat.reduceSub, Nat.reduceMul, Nat.reduceBEq, Nat.reduceLT, Nat.reduceLeDiff, reduceCtorEq, Int.reduceToNat, Int.reduceNeg]
    rfl
  · rintro m st ⟨k, hk, rfl, rfl⟩
    simp only [push_cast, reduceIte, Nat.reduceEqDiff, Nat.reduceAdd, Nat.reduceSub, Nat.reduceMul, Nat.reduceBEq, Nat.reduceLT, Nat.reduceLeDiff, reduceCtorEq, Int.reduceToNat, Int.reduceNeg]
    have hlen : ((List.range k).map (kindF l)).length = k := by simp
    have hsucc := map_range_succ (kindF l) k
    refine cond_dec (fun h => ?_) fun h => ?_
    · refine cut_of ⟨[(0, .int n), (1, .sl false 1 (bytes8 l)), (5, .view 8 0 k), (6, .int k), (7, .int 2), (25, .bool (decide (k < l.length ∧ l.getD k default % 8 < 2)))], [], [(8, ⟨1, 3, ints ((List.range k).map (kindF l))⟩)], []⟩ ?_ ?_
      · refine grd_dec rfl (fun h1 => ?_) fun h1 => ?_ <;> simp only [push_cast, reduceIte, Nat.reduceEqDiff, Nat.reduceAdd, Nat.reduceSub, Nat.reduceMul, Nat.reduceBEq, Nat.reduceLT, Nat.reduceLeDiff, reduceCtorEq, Int.reduceToNat, Int.reduceNeg]
        · have h1' : k < l.length := by omega
          have hx := hb _ (show l.getD k default ∈ l by simp [List.getD_eq_getElem?_getD, h1'])
          refine ⟨⟨by omega, by omega⟩, h1', ⟨by omega, by omega, by omega⟩, ?_⟩
          rw [show decide (k < l.length ∧ l.getD k default % 8 < 2) = decide (l.getD k default % 8 < 2) from by rw [decide_eq_decide]; omega]
        · have h1' : ¬ k < l.length := by omega
          simp [h1']
      simp only [push_cast, reduceIte, Nat.reduceEqDiff, Nat.reduceAdd, Nat.reduceSub, Nat.reduceMul, Nat.reduceBEq, Nat.reduceLT, Nat.reduceLeDiff, reduceCtorEq, Int.reduceToNat, Int.reduceNeg]
      refine cond_dec (fun h1 => ?_) fun h1 => ?_
      · have hx := hb _ (show l.getD k default ∈ l by simp [List.getD_eq_getElem?_getD, h1.1])
        have hf : kindF l k = l.getD k default % 8 := by rw [kindF, if_pos h1]
        rw [hf] at hsucc
        refine ⟨⟨by omega, by omega⟩, h1.1, ⟨by omega, by omega, by omega⟩, ⟨by omega, by omega⟩, by simp, ⟨hlen.symm, by omega, by omega⟩, ⟨by omega, by omega⟩, _, ?_, k + 1, by omega, rfl, ?_⟩
        · omega
        · rw [hsucc]; simp
      · have hf : kindF l k = 2 := by rw [kindF, if_neg h1]
        rw [hf] at hsucc
        refine ⟨by simp, ⟨hlen.symm, by omega, by omega⟩, ⟨by omega, by omega⟩, _, ?_, k + 1, by omega, rfl, ?_⟩
        · omega
        · rw [hsucc]; simp
    · have hkk : k = n := by omega
      subst hkk
      rw [List.take_of_length_le (by omega)]
      exact ⟨fun _ _ => trivial, .refl _⟩
structure RawG where
  w : Int
  h : Int
  tracks : Int
  pads : Int
  kind : List Int
def rawGC (q : Bool) (x : RawG) : List PV := [.sc (.int .u8 x.w), .sc (.int .u8 x.h), .sc (.int .u8 x.tracks), .sc (.int .u8 x.pads), .sl q 1 (bytes8 x.kind)]
@[push_cast] theorem rawGC_eq (q : Bool) (x : RawG) : rawGC q x = [.sc (.int .u8 x.w), .sc (.int .u8 x.h), .sc (.int .u8 x.tracks), .sc (.int .u8 x.pads), .sl q 1 (bytes8 x.kind)] := rfl
structure RawG.Ok (x : RawG) : Prop where
  w : 0 ≤ x.w ∧ x.w ≤ 255
  h : 0 ≤ x.h ∧ x.h ≤ 255
  tracks : 0 ≤ x.tracks ∧ x.tracks ≤ 255
  pads : 0 ≤ x.pads ∧ x.pads ≤ 255
  len : (x.kind.length : Int) ≤ 1000000
  kind : ∀ k ∈ x.kind, 0 ≤ k ∧ k ≤ 255
def gridF (x : RawG) : Grid := ⟨2 + x.w % 4, 2 + x.h % 4, 2 + x.tracks % 3, 24, kindsF ((2 + x.w % 4) * (2 + x.h % 4)).toNat x.kind⟩
theorem made_ok (x : RawG) (hx : x.Ok) : FnEq Try.prog 30 [.agg (rawGC false x)] (.agg (gridC true (gridF x))) := by
  refine FnEq.of_awp Try.func30 ok30 (by show 1 ≤ _; decide) (by simp only [push_cast, reduceIte, Nat.reduceEqDiff, Nat.reduceAdd, Nat.reduceSub, Nat.reduceMul, Nat.reduceBEq, Nat.reduceLT, Nat.reduceLeDiff, reduceCtorEq, Int.reduceToNat, Int.reduceNeg] <;> first | exact fun _ _ => trivial | simp) ?_
  simp only [ac30, rv30, push_cast, reduceIte, Nat.reduceEqDiff, Nat.reduceAdd, Nat.reduceSub, Nat.reduceMul, Nat.reduceBEq, Nat.reduceLT, Nat.reduceLeDiff, reduceCtorEq, Int.reduceToNat, Int.reduceNeg]
  obtain ⟨h1, h2, h3, h4, h5, h6⟩ := hx
  have hm : 0 ≤ (2 + x.w % 4) * (2 + x.h % 4) ∧ (2 + x.w % 4) * (2 + x.h % 4) ≤ 5 * 5 := ⟨Int.mul_nonneg (by omega) (by omega), Int.mul_le_mul (by omega) (by omega) (by omega) (by omega)⟩
  obtain ⟨n, hn⟩ : ∃ n : Nat, (2 + x.w % 4) * (2 + x.h % 4) = n := ⟨((2 + x.w % 4) * (2 + x.h % 4)).toNat, by omega⟩
  have hg : gridF x = ⟨2 + x.w % 4, 2 + x.h % 4, 2 + x.tracks % 3, 24, kindsF n x.kind⟩ := by unfold gridF; rw [hn, Int.toNat_natCast]
  rw [hn] at hm ⊢
  rw [hg]
  refine ⟨⟨by omega, by omega, by omega⟩, ⟨by omega, by omega⟩, ⟨by omega, by omega⟩, ⟨by omega, by omega, by omega⟩, ⟨by omega, by omega⟩, ⟨by omega, by omega⟩, ⟨by omega, by omega, by omega⟩, ⟨by omega, by omega⟩, ⟨by omega, by omega⟩, ⟨by omega, by omega⟩, ?_⟩
  refine cal_sub (kinds_ok n (by omega) x.kind h5 h6) (by simp only [push_cast, reduceIte, Nat.reduceEqDiff, Nat.reduceAdd, Nat.reduceSub, Nat.reduceMul, Nat.reduceBEq, Nat.reduceLT, Nat.reduceLeDiff, reduceCtorEq, Int.reduceToNat, Int.reduceNeg]) ?_
  simp only [push_cast, reduceIte, Nat.reduceEqDiff, Nat.reduceAdd, Nat.reduceSub, Nat.reduceMul, Nat.reduceBEq, Nat.reduceLT, Nat.reduceLeDiff, reduceCtorEq, Int.reduceToNat, Int.reduceNeg]
  exact fun _ _ => trivial
end Go.Proofs.Ytbdamnfkgdbidaa
namespace Go.Proofs.Ytbdamnfkgdbidaa
open Go Go.Vc Txt
structure RawP where
  ins : Int
  out : Int
  blocks : List (List Int)
def bytesC (l : List Int) : List PV := l.map fun x => .sc (.int .u8 x)
def rawPC (q : Bool) (x : RawP) : List PV := [.sc (.int .u8 x.ins), .sc (.int .u8 x.out), .sl q 6 (rows bytesC x.blocks)]
@[push_cast] theorem rawPC_eq (q : Bool) (x : RawP) : rawPC q x = [.sc (.int .u8 x.ins), .sc (.int .u8 x.out), .sl q 6 (rows bytesC x.blocks)] := rfl
structure Odd where
  bad : List Int
  at_ : List Int
  fixed : List Int
  any : List Int
  some_ : List Int
  block : Int
  tile : Int
  passes : Int
def oddC (q : Bool) (z : Odd) : List PV := [.sl q 1 (bytes8 z.bad), .sl q 1 (bytes8 z.at_), .sl q 1 (bytes8 z.fixed), .sl q 1 (ints z.any), .sl q 1 (ints z.some_), .int z.block, .int z.tile, .int z.passes]
@[push_cast] theorem oddC_eq (q : Bool) (z : Odd) : oddC q z = [.sl q 1 (bytes8 z.bad), .sl q 1 (bytes8 z.at_), .sl q 1 (bytes8 z.fixed), .sl q 1 (ints z.any), .sl q 1 (ints z.some_), .int z.block, .int z.tile, .int z.passes] := rfl
def Small (x : RawP) (y : RawG) (z : Odd) : Prop := x.blocks.length ≤ 9 ∧ y.kind.length ≤ 40 ∧ z.bad.length ≤ 12 ∧ z.at_.length ≤ 40 ∧ z.fixed.length ≤ 40 ∧ z.any.length ≤ 40 ∧ z.some_.length ≤ 40
instance (x : RawP) (y : RawG) (z : Odd) : Decidable (Small x y z) := by unfold Small; infer_instance
theorem small_ok (x : RawP) (y : RawG) (z : Odd) : FnEq Try.prog 10 [.agg (rawPC false x), .agg (rawGC false y), .agg (oddC false z)] (.bool (decide (Small x y z))) := by
  refine FnEq.of_awp Try.func10 ok10 (by show 3 ≤ _; decide) (by simp only [push_cast, reduceIte, Nat.reduceEqDiff, Nat.reduceAdd, Nat.reduceSub, Nat.reduceMul, Nat.reduceBEq, Nat.reduceLT, Nat.reduceLeDiff, reduceCtorEq, Int.reduceToNat, Int.reduceNeg] <;> first | exact fun _ _ => trivial | simp) ?_
  simp only [ac10, rv10, push_cast, reduceIte, Nat.reduceEqDiff, Nat.reduceAdd, Nat.reduceSub, Nat.reduceMul, Nat.reduceBEq, Nat.reduceLT, Nat.reduceLeDiff, reduceCtorEq, Int.reduceToNat, Int.reduceNeg]
  (repeat' (first | (refine grd_dec rfl (fun _ => ?_) fun _ => ?_ <;> simp only [push_cast, reduceIte, Nat.reduceEqDiff, Nat.reduceAdd, Nat.reduceSub, Nat.reduceMul, Nat.reduceBEq, Nat.reduceLT, Nat.reduceLeDiff, reduceCtorEq, Int.reduceToNat, Int.reduceNeg]) | (refine grd_decf rfl (fun _ => ?_) fun _ => ?_ <;> simp only [push_cast, reduceIte, Nat.reduceEqDiff, Nat.reduceAdd, Nat.reduceSub, Nat.reduceMul, Nat.reduceBEq, Nat.reduceLT, Nat.reduceLeDiff, reduceCtorEq, Int.reduceToNat, Int.reduceNeg])))
  all_goals
    refine congrArg Value.bool ?_
    first | (refine decide_eq_decide.2 ?_; unfold Small; omega) | (rw [eq_comm, decide_eq_false_iff_not]; unfold Small; omega)
end Go.Proofs.Ytbdamnfkgdbidaa
namespace Go.Proofs.Ytbdamnfkgdbidaa
open Go Go.Vc Txt
def countF (g : Grid) : Int := g.w * g.h * (6 + 2 * g.tracks) + 2 * g.pads
theorem count_ok (g : Grid) (h1 : 0 ≤ g.w * g.h ∧ g.w * g.h ≤ 1000000) (h2 : 0 ≤ g.tracks ∧ g.tracks ≤ 1000) (h3 : 0 ≤ g.pads ∧ g.pads ≤ 1000000) : FnEq Try.prog 63 [.agg (gridC false g)] (.int (countF g)) := by
  refine FnEq.of_awp Try.func63 ok63 (by show 1 ≤ _; decide) (by simp only [push_cast, reduceIte, Nat.reduceEqDiff, Nat.reduceAdd, Nat.reduceSub, Nat.reduceMul, Nat.reduceBEq, Nat.reduceLT, Nat.reduceLeDiff, reduceCtorEq, Int.reduceToNat, Int.reduceNeg] <;> first | exact fun _ _ => trivial | simp) ?_
  simp only [ac63, rv63, push_cast, reduceIte, Nat.reduceEqDiff, Nat.reduceAdd, Nat.reduceSub, Nat.reduceMul, Nat.reduceBEq, Nat.reduceLT, Nat.reduceLeDiff, reduceCtorEq, Int.reduceToNat, Int.reduceNeg]
  have hm : 0 ≤ g.w * g.h * (6 + 2 * g.tracks) ∧ g.w * g.h * (6 + 2 * g.tracks) ≤ 1000000 * 2006 := ⟨Int.mul_nonneg (by omega) (by omega), Int.mul_le_mul (by omega) (by omega) (by omega) (by omega)⟩
  refine ⟨⟨by omega, by omega⟩, ?_⟩
  refine dcal_sub (each_ok g (by omega)) (by simp only [push_cast, reduceIte, Nat.reduceEqDiff, Nat.reduceAdd, Nat.reduceSub, Nat.reduceMul, Nat.reduceBEq, Nat.reduceLT, Nat.reduceLeDiff, reduceCtorEq, Int.reduceToNat, Int.reduceNeg]) (by simp only [push_cast, reduceIte, Nat.reduceEqDiff, Nat.reduceAdd, Nat.reduceSub, Nat.reduceMul, Nat.reduceBEq, Nat.reduceLT, Nat.reduceLeDiff, reduceCtorEq, Int.reduceToNat, Int.reduceNeg]) ?_
  simp only [push_cast, reduceIte, Nat.reduceEqDiff, Nat.reduceAdd, Nat.reduceSub, Nat.reduceMul, Nat.reduceBEq, Nat.reduceLT, Nat.reduceLeDiff, reduceCtorEq, Int.reduceToNat, Int.reduceNeg]
  refine ⟨⟨by omega, by omega⟩, ⟨by omega, by omega⟩, ⟨by omega, by omega⟩, ?_⟩
  rfl
def withF (l : List Int) (n : Int) : List Int :=
  let k := (l.takeWhile fun x => decide (x < n)).length
  if k < l.length ∧ l.getD k default = n then l else l.take k ++ [n] ++ l.drop k
theorem with_ok (l : List Int) (n : Int) (hl : (l.length : Int) ≤ 1000000) : FnEq Try.prog 62 [.sl true 1 (ints l), .int n] (.sl true 1 (ints (withF l n))) := by
  refine FnEq.of_awp Try.func62 ok62 (by show 2 ≤ _; decide) (by simp only [push_cast, reduceIte, Nat.reduceEqDiff, Nat.reduceAdd, Nat.reduceSub, Nat.reduceMul, Nat.reduceBEq, Nat.reduceLT, Nat.reduceLeDiff, reduceCtorEq, Int.reduceToNat, Int.reduceNeg] <;> first | exact fun _ _ => trivial | simp) ?_
  simp only [ac62, rv62, push_cast, reduceIte, Nat.reduceEqDiff, Nat.reduceAdd, Nat.reduceSub, Nat.reduceMul, Nat.reduceBEq, Nat.reduceLT, Nat.reduceLeDiff, reduceCtorEq, Int.reduceToNat, Int.reduceNeg]
  have key : ∀ k : Nat, k ≤ l.length → (∀ i : Nat, i < k → l.getD i default < n) → (¬ (k < l.length ∧ l.getD k default < n)) → (l.takeWhile fun x => decide (x < n)).length = k := by
    intro k
    induction k generalizing l with
    | zero =>
      intro _ _ h3
      cases l with
      | nil => rfl
      | cons x r =>
        have : ¬ x < n := by simpa using h3
        simp [this]
    | succ k ih =>
      intro h1 h2 h3
      cases l with
      | nil => simp at h1
      | cons x r =>
        have hx : x < n := by simpa using h2 0 (by omega)
        simp only [List.takeWhile_cons, hx, decide_true, if_true, List.length_cons]
        rw [ih r (by simp at hl ⊢; omega) (by simpa using h1) (fun i hi => by simpa using h2 (i + 1) (by omega)) (by simpa using h3)]
  refine loop_of (fun m st => ∃ k : Nat, k ≤ l.length ∧ m = l.length - k ∧ (∀ i : Nat, i < k → l.getD i default < n) ∧ st = ⟨[(0, .sl true 1 (ints l)), (1, .int n), (5, .int k)], [], [], []⟩) l.length ?_ ?_
  · refine ⟨0, by omega, by omega, fun i hi => by omega, ?_⟩
    simp only [push_cast, reduceIte, Nat.reduceEqDiff, Nat.reduceAdd, Nat.reduceSub, Nat.reduceMul, Nat.reduceBEq, Nat.reduceLT, Nat.reduceLeDiff, reduceCtorEq, Int.reduceToNat, Int.reduceNeg]
  · rintro m st ⟨k, hk, rfl, h1, rfl⟩
    simp only [push_cast, reduceIte, Nat.reduceEqDiff, Nat.reduceAdd, Nat.reduceSub, Nat.reduceMul, Nat.reduceBEq, Nat.reduceLT, Nat.reduceLeDiff, reduceCtorEq, Int.reduceToNat, Int.reduceNeg]
    refine cut_of ⟨[(0, .sl true 1 (ints l)), (1, .int n), (5, .int k), (17, .bool (decide (k < l.length ∧ l.getD k default < n)))], [], [], []⟩ ?_ ?_
    · refine grd_dec rfl (fun h2 => ?_) fun h2 => ?_ <;> simp only [push_cast, reduceIte, Nat.reduceEqDiff, Nat.reduceAdd, Nat.reduceSub, Nat.reduceMul, Nat.reduceBEq, Nat.reduceLT, Nat.reduceLeDiff, reduceCtorEq, Int.reduceToNat, Int.reduceNeg]
      · have h2' : k < l.length := by omega
        refine ⟨⟨by omega, by omega⟩, h2', ?_⟩
        rw [show decide (k < l.length ∧ l.getD k default < n) = decide (l.getD k default < n) from by rw [decide_eq_decide]; omega]
      · have h2' : ¬ k < l.length := by omega
        simp [h2']
    simp only [push_cast, reduceIte, Nat.reduceEqDiff, Nat.reduceAdd, Nat.reduceSub, Nat.reduceMul, Nat.reduceBEq, Nat.reduceLT, Nat.reduceLeDiff, reduceCtorEq, Int.reduceToNat, Int.reduceNeg]
    refine cond_dec (fun h2 => ?_) fun h2 => ?_
    · refine ⟨⟨by omega, by omega⟩, _, ?_, k + 1, by omega, rfl, fun i hi => ?_, ?_⟩
      · omega
      · by_cases e : i = k
        · subst e; exact h2.2
        · exact h1 i (by omega)
      · simp
    · have hkk := key k hk h1 h2
      refine cut_of ⟨[(0, .sl true 1 (ints l)), (1, .int n), (5, .int k), (31, .bool (decide (k < l.length ∧ l.getD k default = n)))], [], [], []⟩ ?_ ?_
      · refine grd_dec rfl (fun h2 => ?_) fun h2 => ?_ <;> simp only [push_cast, reduceIte, Nat.reduceEqDiff, Nat.reduceAdd, Nat.reduceSub, Nat.reduceMul, Nat.reduceBEq, Nat.reduceLT, Nat.reduceLeDiff, reduceCtorEq, Int.reduceToNat, Int.reduceNeg]
        · have h2' : k < l.length := by omega
          refine ⟨⟨by omega, by omega⟩, h2', ?_⟩
          rw [show decide (k < l.length ∧ l.getD k default = n) = decide (l.getD k default = n) from by rw [decide_eq_decide]; omega]
        · have h2' : ¬ k < l.length := by omega
          simp [h2']
      simp only [push_cast, reduceIte, Nat.reduceEqDiff, Nat.reduceAdd, Nat.reduceSub, Nat.reduceMul, Nat.reduceBEq, Nat.reduceLT, Nat.reduceLeDiff, reduceCtorEq, Int.reduceToNat, Int.reduceNeg]
      have hw : withF l n = if k < l.length ∧ l.getD k default = n then l else l.take k ++ [n] ++ l.drop k := by unfold withF; rw [hkk]
      rw [hw]
      refine cond_dec (fun h3 => ?_) fun h3 => ?_
      · rw [if_pos h3]
        exact ⟨fun _ _ => trivial, .refl _⟩
      · rw [if_neg h3]
        refine ⟨⟨by omega, by omega, by omega⟩, ⟨by simp <;> omega, by simp <;> omega⟩, by simp, ⟨by simp, by simp <;> omega, by simp <;> omega⟩, ⟨by omega, by omega, by omega⟩, ⟨by simp, by simp <;> omega, by simp <;> omega⟩, fun _ _ => trivial, ?_⟩
        rw [List.take_of_length_le (by simp <;> omega)]
        exact .refl _
end Go.Proofs.Ytbdamnfkgdbidaa
namespace Go.Proofs.Ytbdamnfkgdbidaa
open Go Go.Vc Txt
theorem withF_len (l : List Int) (n : Int) : (withF l n).length ≤ l.length + 1 := by
  unfold withF
  simp only
  split
  · omega
  · simp; omega
def badStep (g : Grid) (l : List Int) (s : Bad) (q : Nat) : Bad :=
  let n := 256 * l.getD (2 * q) default + l.getD (2 * q + 1) default
  if l.getD (2 * q) default % 4 = 1 then ⟨withF s.tiles (n % (g.w * g.h)), s.nodes⟩ else ⟨s.tiles, withF s.nodes (n % countF g)⟩
def badF (g : Grid) (l : List Int) : Bad := (List.range (min 6 (l.length / 2))).foldl (badStep g l) ⟨[], []⟩
theorem bad_ok (g : Grid) (h1 : 0 < g.w * g.h ∧ g.w * g.h ≤ 1000000) (h2 : 0 ≤ g.tracks ∧ g.tracks ≤ 1000) (h3 : 0 ≤ g.pads ∧ g.pads ≤ 1000000) (l : List Int) (hl : (l.length : Int) ≤ 1000000) (hb : ∀ x ∈ l, 0 ≤ x ∧ x ≤ 255) :
    FnEq Try.prog 36 [.agg (gridC false g), .sl false 1 (bytes8 l)] (.agg (badC true (badF g l))) := by
  refine FnEq.of_awp Try.func36 ok36 (by show 2 ≤ _; decide) (by simp only [push_cast, reduceIte, Nat.reduceEqDiff, Nat.reduceAdd, Nat.reduceSub, Nat.reduceMul, Nat.reduceBEq, Nat.reduceLT, Nat.reduceLeDiff, reduceCtorEq, Int.reduceToNat, Int.reduceNeg] <;> first | exact fun _ _ => trivial | simp) ?_
  simp only [ac36, rv36, push_cast, reduceIte, Nat.reduceEqDiff, Nat.reduceAdd, Nat.reduceSub, Nat.reduceMul, Nat.reduceBEq, Nat.reduceLT, Nat.reduceLeDiff, reduceCtorEq, Int.reduceToNat, Int.reduceNeg]
  have hm : 0 < g.w * g.h * (6 + 2 * g.tracks) ∧ g.w * g.h * (6 + 2 * g.tracks) ≤ 1000000 * 2006 := ⟨Int.mul_pos h1.1 (by omega), Int.mul_le_mul (by omega) (by omega) (by omega) (by omega)⟩
  have hc : 0 < countF g ∧ countF g ≤ 3000000000 := by unfold countF; omega
  refine wk_of ⟨[(1, .sl false 1 (bytes8 l)), (2, .ptr 2 0), (4, .ptr 4 0), (5, .ptr 5 0), (6, .int 0)], [(2, gridC false g), (4, [.nil, .nil]), (5, badC true ⟨[], []⟩)], [], []⟩ ?_ ?_
  · simp only [push_cast, reduceIte, Nat.reduceEqDiff, Nat.reduceAdd, Nat.reduceSub, Nat.reduceMul, Nat.reduceBEq, Nat.reduceLT, Nat.reduceLeDiff, reduceCtorEq, Int.reduceToNat, Int.reduceNeg]
  refine loop_of (fun m st => ∃ (q : Nat) (s : Bad), q ≤ min 6 (l.length / 2) ∧ m = min 6 (l.length / 2) - q ∧ s = (List.range q).foldl (badStep g l) ⟨[], []⟩ ∧ s.tiles.length ≤ q ∧ s.nodes.length ≤ q ∧
    st = ⟨[(1, .sl false 1 (bytes8 l)), (2, .ptr 2 0), (4, .ptr 4 0), (5, .ptr 5 0), (6, .int (2 * q))], [(2, gridC false g), (4, [.nil, .nil]), (5, badC true s)], [], []⟩) (min 6 (l.length / 2)) ?_ ?_
  · refine ⟨0, ⟨[], []⟩, by omega, by omega, rfl, by simp, by simp, ?_⟩
    simp only [push_cast, reduceIte, Nat.reduceEqDiff, Nat.reduceAdd, Nat.reduceSub, Nat.reduceMul, Nat.reduceBEq, Nat.reduceLT, Nat.reduceLeDiff, reduceCtorEq, Int.reduceToNat, Int.reduceNeg]
    rfl
  · rintro m st ⟨q, s, hq, rfl, hs, ht, hn, rfl⟩
    simp only [push_cast, reduceIte, Nat.reduceEqDiff, Nat.reduceAdd, Nat.reduceSub, Nat.reduceMul, Nat.reduceBEq, Nat.reduceLT, Nat.reduceLeDiff, reduceCtorEq, Int.reduceToNat, Int.reduceNeg]
    refine ⟨⟨by omega, by omega⟩, cut_of ⟨[(1, .sl false 1 (bytes8 l)), (2, .ptr 2 0), (4, .ptr 4 0), (5, .ptr 5 0), (6, .int (2 * q)), (17, .bool (decide ((2 * q + 1 : Int) < l.length ∧ (2 * q : Int) < 12)))], [(2, gridC false g), (4, [.nil, .nil]), (5, badC true s)], [], []⟩ ?_ ?_⟩
    · refine grd_dec rfl (fun h => ?_) fun h => ?_ <;> simp only [push_cast, reduceIte, Nat.reduceEqDiff, Nat.reduceAdd, Nat.reduceSub, Nat.reduceMul, Nat.reduceBEq, Nat.reduceLT, Nat.reduceLeDiff, reduceCtorEq, Int.reduceToNat, Int.reduceNeg]
      · simp [h]
      · simp [h]
    simp only [push_cast, reduceIte, Nat.reduceEqDiff, Nat.reduceAdd, Nat.reduceSub, Nat.reduceMul, Nat.reduceBEq, Nat.reduceLT, Nat.reduceLeDiff, reduceCtorEq, Int.reduceToNat, Int.reduceNeg]
    refine cond_dec (fun h => ?_) fun h => ?_
    · have k1 : 2 * q + 1 < l.length := by omega
      have hx := hb _ (show l.getD (2 * q) default ∈ l by simp [List.getD_eq_getElem?_getD, show 2 * q < l.length by omega])
      have hy := hb _ (show l.getD (2 * q + 1) default ∈ l by simp [List.getD_eq_getElem?_getD, k1])
      rw [show (2 * (q : Int)).toNat = 2 * q by omega, show (2 * (q : Int) + 1).toNat = 2 * q + 1 by omega]
      have hfold : (List.range (q + 1)).foldl (badStep g l) ⟨[], []⟩ = badStep g l s q := by rw [hs]; simp [List.range_succ]
      refine ⟨⟨by omega, by omega⟩, by omega, ⟨by omega, by omega⟩, ⟨by omega, by omega⟩, ⟨by omega, by omega⟩, ⟨by omega, by omega⟩, k1, ⟨by omega, by omega⟩, ⟨by omega, by omega⟩, ⟨by omega, by omega⟩, by omega, ⟨by omega, by omega, by omega⟩, cond_dec (fun h4 => ?_) fun h4 => ?_⟩
      · refine ⟨⟨by omega, by omega⟩, ⟨by omega, by omega, h1.1⟩, ?_⟩
        refine cal_sub (with_ok s.tiles ((256 * l.getD (2 * q) default + l.getD (2 * q + 1) default) % (g.w * g.h)) (by omega)) (by simp only [push_cast, reduceIte, Nat.reduceEqDiff, Nat.reduceAdd, Nat.reduceSub, Nat.reduceMul, Nat.reduceBEq, Nat.reduceLT, Nat.reduceLeDiff, reduceCtorEq, Int.reduceToNat, Int.reduceNeg]) ?_
        simp only [push_cast, reduceIte, Nat.reduceEqDiff, Nat.reduceAdd, Nat.reduceSub, Nat.reduceMul, Nat.reduceBEq, Nat.reduceLT, Nat.reduceLeDiff, reduceCtorEq, Int.reduceToNat, Int.reduceNeg]
        have hst : badStep g l s q = ⟨withF s.tiles ((256 * l.getD (2 * q) default + l.getD (2 * q + 1) default) % (g.w * g.h)), s.nodes⟩ := by unfold badStep; rw [if_pos h4]
        have hwl := withF_len s.tiles ((256 * l.getD (2 * q) default + l.getD (2 * q + 1) default) % (g.w * g.h))
        refine ⟨⟨by omega, by omega⟩, _, ?_, q + 1, badStep g l s q, by omega, rfl, hfold.symm, by rw [hst]; simp only; omega, by rw [hst]; simp only; omega, ?_⟩
        · omega
        · rw [hst]; simp; omega
      · refine dcal_sub (count_ok g ⟨by omega, h1.2⟩ h2 h3) (by simp only [push_cast, reduceIte, Nat.reduceEqDiff, Nat.reduceAdd, Nat.reduceSub, Nat.reduceMul, Nat.reduceBEq, Nat.reduceLT, Nat.reduceLeDiff, reduceCtorEq, Int.reduceToNat, Int.reduceNeg]) (by simp only [push_cast, reduceIte, Nat.reduceEqDiff, Nat.reduceAdd, Nat.reduceSub, Nat.reduceMul, Nat.reduceBEq, Nat.reduceLT, Nat.reduceLeDiff, reduceCtorEq, Int.reduceToNat, Int.reduceNeg]) ?_
        simp only [push_cast, reduceIte, Nat.reduceEqDiff, Nat.reduceAdd, Nat.reduceSub, Nat.reduceMul, Nat.reduceBEq, Nat.reduceLT, Nat.reduceLeDiff, reduceCtorEq, Int.reduceToNat, Int.reduceNeg]
        refine ⟨⟨by omega, by omega, hc.1⟩, ?_⟩
        refine cal_sub (with_ok s.nodes ((256 * l.getD (2 * q) default + l.getD (2 * q + 1) default) % countF g) (by omega)) (by simp only [push_cast, reduceIte, Nat.reduceEqDiff, Nat.reduceAdd, Nat.reduceSub, Nat.reduceMul, Nat.reduceBEq, Nat.reduceLT, Nat.reduceLeDiff, reduceCtorEq, Int.reduceToNat, Int.reduceNeg]) ?_
        simp only [push_cast, reduceIte, Nat.reduceEqDiff, Nat.reduceAdd, Nat.reduceSub, Nat.reduceMul, Nat.reduceBEq, Nat.reduceLT, Nat.reduceLeDiff, reduceCtorEq, Int.reduceToNat, Int.reduceNeg]
        have hst : badStep g l s q = ⟨s.tiles, withF s.nodes ((256 * l.getD (2 * q) default + l.getD (2 * q + 1) default) % countF g)⟩ := by unfold badStep; rw [if_neg h4]
        have hwl := withF_len s.nodes ((256 * l.getD (2 * q) default + l.getD (2 * q + 1) default) % countF g)
        refine ⟨⟨by omega, by omega⟩, _, ?_, q + 1, badStep g l s q, by omega, rfl, hfold.symm, by rw [hst]; simp only; omega, by rw [hst]; simp only; omega, ?_⟩
        · omega
        · rw [hst]; simp; omega
    · have hqq : q = min 6 (l.length / 2) := by omega
      have hbf : badF g l = s := by rw [hs, hqq]; rfl
      rw [hbf]
      exact ⟨⟨fun _ _ => trivial, fun _ _ => trivial⟩, .refl _, .refl _⟩
end Go.Proofs.Ytbdamnfkgdbidaa
