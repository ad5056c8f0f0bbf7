/- K L TxtB M N VcZp TxtE: lemmas for PLocal -/
import Derived.Test.YtledbjkolidhkaaPart09
import Derived.Test.YtledbjkolidhkaaPart06
import Derived.Test.YtledbjkolidhkaaChecked
import Derived.Recover
set_option linter.unusedSimpArgs false
set_option linter.unusedVariables false
namespace Go.Proofs.Ytledbjkolidhkaa
open Go Go.Vc Txt
def rawD (g : Grid) (s : Spot) : List Int :=
  if s.kind = 3 then (if s.i = 3 then addF g (allF g [] s.x s.y) ⟨1, s.x, s.y - 1, 0⟩ else allF g [] s.x s.y)
  else if s.kind = 7 then allF g [] (g.w - 1) s.y
  else if s.kind = 4 ∨ s.kind = 5 then endsF g s []
  else []
def driversF (g : Grid) (n : Int) : List Int := if (descE g n).2 = 0 then sortedF (rawD g (descE g n).1) n else []
theorem desc_rng {g : Grid} (hg : GOk g) {n : Int} (h : ¬ (n < 0 ∨ countF g ≤ n)) : SOk (descF g n) ∧ (0 ≤ (descF g n).i ∧ (descF g n).i ≤ 1000) ∧ ((descF g n).kind ≤ 5 → (0 ≤ (descF g n).x ∧ (descF g n).x < g.w) ∧ (0 ≤ (descF g n).y ∧ (descF g n).y < g.h) ∧ (descF g n).i ≤ 64) ∧ (0 ≤ (descF g n).y ∧ (descF g n).y < g.h) := by
  have h1 := hg.all
  have h2 := hg.each
  have h4 := hg.pads
  have hw := hg.w
  have hh := hg.h
  have ht := hg.tracks
  have hc : countF g = allI g + 2 * g.pads := rfl
  have e4 : eachI g = 6 + 2 * g.tracks := rfl
  have e2 := Int.emod_nonneg n (show eachI g ≠ 0 by omega)
  have e3 := Int.emod_lt_of_pos n (show 0 < eachI g by omega)
  unfold descF
  split
  · have := Int.emod_nonneg (n - allI g - g.pads) (show g.h ≠ 0 by omega)
    have := Int.emod_lt_of_pos (n - allI g - g.pads) (show 0 < g.h by omega)
    exact ⟨⟨by simp only; omega, by simp only; omega, by simp only; omega⟩, by simp only; omega, fun h => absurd h (by simp only; omega), by simp only; omega⟩
  · split
    · have := Int.emod_nonneg (n - allI g) (show g.h ≠ 0 by omega)
      have := Int.emod_lt_of_pos (n - allI g) (show 0 < g.h by omega)
      exact ⟨⟨by simp only; omega, by simp only; omega, by simp only; omega⟩, by simp only; omega, fun h => absurd h (by simp only; omega), by simp only; omega⟩
    · have x1 := Int.emod_nonneg (n / eachI g) (show g.w ≠ 0 by omega)
      have x2 := Int.emod_lt_of_pos (n / eachI g) (show 0 < g.w by omega)
      have y0 : 0 ≤ n / eachI g := Int.ediv_nonneg (by omega) (by omega)
      have y1 : 0 ≤ n / eachI g / g.w := Int.ediv_nonneg y0 (by omega)
      have y2 : n / eachI g / g.w < g.h := by
        rw [Int.ediv_lt_iff_lt_mul (by omega), Int.ediv_lt_iff_lt_mul (by omega), Int.mul_comm g.h g.w]
        show n < allI g
        omega
      simp only
      generalize n / eachI g / g.w = Y at y1 y2 ⊢
      generalize n / eachI g % g.w = X at x1 x2 ⊢
      generalize n % eachI g = I at e2 e3 ⊢
      split
      · exact ⟨⟨by simp only; omega, by simp only; omega, by simp only; omega⟩, by simp only; omega, fun _ => by simp only; omega, by simp only; omega⟩
      · split
        · exact ⟨⟨by simp only; omega, by simp only; omega, by simp only; omega⟩, by simp only; omega, fun _ => by simp only; omega, by simp only; omega⟩
        · split
          · exact ⟨⟨by simp only; omega, by simp only; omega, by simp only; omega⟩, by simp only; omega, fun _ => by simp only; omega, by simp only; omega⟩
          · split <;> exact ⟨⟨by simp only; omega, by simp only; omega, by simp only; omega⟩, by simp only; omega, fun _ => by simp only; omega, by simp only; omega⟩
theorem at_keep4 {f : Nat} {args : List PV} {z : List (Nat × PV)} (t : List (Nat × PV)) {g : Grid} {s : Spot} {l l' : List Int} {xs : List (Nat × List PV)} (hz : frT z P4 t) (h : FnM (Env.of Try.prog) f args (stX P4 g s l xs) (fun r st' => r = .tup [] ∧ st' = stX P4 g s l' xs)) :
    FnM (Env.of Try.prog) f args (stX z g s l xs) (fun r st' => r = .tup [] ∧ st' = stX t g s l' xs) :=
  FnM.frame P4 t rfl rfl hz (FnM.mono h fun r st' hq => by
    obtain ⟨rfl, rfl⟩ := hq
    exact ⟨_, _, _, rfl, rfl, rfl⟩)
theorem drivers_tail (g : Grid) (s : Spot) (l : List Int) (hl : (l.length : Int) ≤ 1000000) (n : Int) (st : St) (hst : st.keepS [0, 58, 1, 7] = stX [(1, .int n), (7, .ptr 7 0)] g s l []) (Q : PV → Prop)
    (hq : ∀ v, Sub v (.sl true 1 (ints (sortedF l n))) → Q v) : awp (Env.of Try.prog) ac42_r15 (retK [RV.tmp 4] Q) st := by
  simp only [ac42_r15, push_cast, reduceIte, Nat.reduceEqDiff, Nat.reduceAdd, Nat.reduceSub, Nat.reduceMul, Nat.reduceBEq, Nat.reduceLT, Nat.reduceLeDiff, reduceCtorEq, Int.reduceToNat, Int.reduceNeg, hst, stX_eq]
  refine clm_of (Q := fun r st' => ∃ b' a', st' = ⟨[(1, .int n), (7, .ptr 7 0)], b', a', []⟩ ∧ SRes l n r a')
    (FnM.frame P4 [(1, .int n), (7, .ptr 7 0)] rfl rfl (by simp only [push_cast, reduceIte, Nat.reduceEqDiff, Nat.reduceAdd, Nat.reduceSub, Nat.reduceMul, Nat.reduceBEq, Nat.reduceLT, Nat.reduceLeDiff, reduceCtorEq, Int.reduceToNat, Int.reduceNeg]) (FnM.mono (sorted_ok g s l hl n) fun r st' hq => ?_)) ?_
  · obtain ⟨b', a', rfl, h⟩ := hq
    exact ⟨b', a', [], rfl, b', a', rfl, h⟩
  · rintro r st' ⟨b', a', rfl, ⟨rfl, h2, rfl⟩ | ⟨ys, rfl, h2, rfl⟩⟩
    · simp only [push_cast, reduceIte, Nat.reduceEqDiff, Nat.reduceAdd, Nat.reduceSub, Nat.reduceMul, Nat.reduceBEq, Nat.reduceLT, Nat.reduceLeDiff, reduceCtorEq, Int.reduceToNat, Int.reduceNeg]
      exact hq _ (by rw [h2]; exact .nil true 1)
    · simp only [push_cast, reduceIte, Nat.reduceEqDiff, Nat.reduceAdd, Nat.reduceSub, Nat.reduceMul, Nat.reduceBEq, Nat.reduceLT, Nat.reduceLeDiff, reduceCtorEq, Int.reduceToNat, Int.reduceNeg]
      exact ⟨fun _ _ => trivial, hq _ (by rw [h2]; exact .refl _)⟩
theorem drivers_ok (g : Grid) (hg : GOk g) (n : Int) (hn : -1000000000 ≤ n ∧ n ≤ 1000000000) : FnEq Try.prog 42 [.agg (gridC false g), .int n] (.sl true 1 (ints (driversF g n))) := by
  refine FnEq.of_awp Try.func42 ok42 (by show 2 ≤ _; decide) (by simp only [push_cast, reduceIte, Nat.reduceEqDiff, Nat.reduceAdd, Nat.reduceSub, Nat.reduceMul, Nat.reduceBEq, Nat.reduceLT, Nat.reduceLeDiff, reduceCtorEq, Int.reduceToNat, Int.reduceNeg] <;> first | exact fun _ _ => trivial | simp) ?_
  simp only [ac42, rv42, push_cast, reduceIte, Nat.reduceEqDiff, Nat.reduceAdd, Nat.reduceSub, Nat.reduceMul, Nat.reduceBEq, Nat.reduceLT, Nat.reduceLeDiff, reduceCtorEq, Int.reduceToNat, Int.reduceNeg]
  have hD := desc_ok g hg n hn
  by_cases hE : n < 0 ∨ countF g ≤ n
  · have e : descE g n = (⟨0, 0, 0, 0⟩, 1) := by rw [descE, if_pos hE]
    have e2 : driversF g n = [] := by rw [driversF, e]; rfl
    rw [e] at hD
    refine cal_sub hD (by simp only [push_cast, reduceIte, Nat.reduceEqDiff, Nat.reduceAdd, Nat.reduceSub, Nat.reduceMul, Nat.reduceBEq, Nat.reduceLT, Nat.reduceLeDiff, reduceCtorEq, Int.reduceToNat, Int.reduceNeg]) ?_
    simp only [descC, push_cast, reduceIte, Nat.reduceEqDiff, Nat.reduceAdd, Nat.reduceSub, Nat.reduceMul, Nat.reduceBEq, Nat.reduceLT, Nat.reduceLeDiff, reduceCtorEq, Int.reduceToNat, Int.reduceNeg]
    refine cond_dec (fun _ => ?_) fun h => absurd (by decide) h
    exact e2
  have e : descE g n = (descF g n, 0) := by rw [descE, if_neg hE]
  obtain ⟨r1, r2, r3, r4⟩ := desc_rng hg hE
  have e2 : driversF g n = sortedF (rawD g (descF g n)) n := by rw [driversF, e]; rfl
  rw [e] at hD
  refine cal_sub hD (by simp only [push_cast, reduceIte, Nat.reduceEqDiff, Nat.reduceAdd, Nat.reduceSub, Nat.reduceMul, Nat.reduceBEq, Nat.reduceLT, Nat.reduceLeDiff, reduceCtorEq, Int.reduceToNat, Int.reduceNeg]) ?_
  simp only [descC, push_cast, reduceIte, Nat.reduceEqDiff, Nat.reduceAdd, Nat.reduceSub, Nat.reduceMul, Nat.reduceBEq, Nat.reduceLT, Nat.reduceLeDiff, reduceCtorEq, Int.reduceToNat, Int.reduceNeg]
  rw [e2]
  generalize descF g n = s at r1 r2 r3 r4 ⊢
  have hw := hg.w
  have hh := hg.h
  have ht := hg.tracks
  have hal : ∀ x y, (allF g [] x y).length ≤ 256 := fun x y => by
    have := allN_len g x y [] g.tracks.toNat
    rw [allF]
    simp only [List.length_nil] at this
    omega
  refine cond_dec (fun h => absurd rfl h) fun _ => ?_
  refine cond_dec (fun k3 => ?_) fun k3 => ?_
  · obtain ⟨⟨x1, x2⟩, ⟨y1, y2⟩, i1⟩ := r3 (by omega)
    refine clm_eq (at_keep [(1, .int n), (5, .ptr 5 0), (7, .ptr 7 0)] ?_ (all_ok g hg s [] (by simp) s.x s.y (by omega))) ?_
    · simp only [push_cast, reduceIte, Nat.reduceEqDiff, Nat.reduceAdd, Nat.reduceSub, Nat.reduceMul, Nat.reduceBEq, Nat.reduceLT, Nat.reduceLeDiff, reduceCtorEq, Int.reduceToNat, Int.reduceNeg]
    simp only [stX_eq, push_cast, reduceIte, Nat.reduceEqDiff, Nat.reduceAdd, Nat.reduceSub, Nat.reduceMul, Nat.reduceBEq, Nat.reduceLT, Nat.reduceLeDiff, reduceCtorEq, Int.reduceToNat, Int.reduceNeg]
    refine cond_dec (fun k4 => ?_) fun k4 => ?_
    · refine ⟨by omega, ?_⟩
      refine clm_eq (at_keep [(1, .int n), (7, .ptr 7 0)] ?_ (add_ok g hg s (allF g [] s.x s.y) (by have := hal s.x s.y; omega) [] (fun i => rfl) ⟨1, s.x, s.y - 1, 0⟩ ⟨by show -1 ≤ s.x ∧ s.x ≤ 65; omega, by show -1 ≤ s.y - 1 ∧ s.y - 1 ≤ 65; omega, by show (-1 : Int) ≤ 0 ∧ (0 : Int) ≤ 2000; omega⟩)) ?_
      · simp only [push_cast, reduceIte, Nat.reduceEqDiff, Nat.reduceAdd, Nat.reduceSub, Nat.reduceMul, Nat.reduceBEq, Nat.reduceLT, Nat.reduceLeDiff, reduceCtorEq, Int.reduceToNat, Int.reduceNeg]
      simp only [stX_eq, push_cast, reduceIte, Nat.reduceEqDiff, Nat.reduceAdd, Nat.reduceSub, Nat.reduceMul, Nat.reduceBEq, Nat.reduceLT, Nat.reduceLeDiff, reduceCtorEq, Int.reduceToNat, Int.reduceNeg]
      have hr : rawD g s = addF g (allF g [] s.x s.y) ⟨1, s.x, s.y - 1, 0⟩ := by rw [rawD, if_pos k3, if_pos k4]
      rw [← hr]
      refine drivers_tail g s (rawD g s) (by rw [hr]; have := addF_len g (allF g [] s.x s.y) ⟨1, s.x, s.y - 1, 0⟩; have := hal s.x s.y; omega) n _ (by simp only [stX_eq, push_cast, reduceIte, Nat.reduceEqDiff, Nat.reduceAdd, Nat.reduceSub, Nat.reduceMul, Nat.reduceBEq, Nat.reduceLT, Nat.reduceLeDiff, reduceCtorEq, Int.reduceToNat, Int.reduceNeg]) _ fun v hv => hv
    · have hr : rawD g s = allF g [] s.x s.y := by rw [rawD, if_pos k3, if_neg k4]
      rw [← hr]
      refine drivers_tail g s (rawD g s) (by rw [hr]; have := hal s.x s.y; omega) n _ (by simp only [stX_eq, push_cast, reduceIte, Nat.reduceEqDiff, Nat.reduceAdd, Nat.reduceSub, Nat.reduceMul, Nat.reduceBEq, Nat.reduceLT, Nat.reduceLeDiff, reduceCtorEq, Int.reduceToNat, Int.reduceNeg]) _ fun v hv => hv
  refine cond_dec (fun k7 => ?_) fun k7 => ?_
  · refine ⟨by omega, ?_⟩
    refine clm_eq (at_keep [(1, .int n), (7, .ptr 7 0)] ?_ (all_ok g hg s [] (by simp) (g.w - 1) s.y (by omega))) ?_
    · simp only [push_cast, reduceIte, Nat.reduceEqDiff, Nat.reduceAdd, Nat.reduceSub, Nat.reduceMul, Nat.reduceBEq, Nat.reduceLT, Nat.reduceLeDiff, reduceCtorEq, Int.reduceToNat, Int.reduceNeg]
    simp only [stX_eq, push_cast, reduceIte, Nat.reduceEqDiff, Nat.reduceAdd, Nat.reduceSub, Nat.reduceMul, Nat.reduceBEq, Nat.reduceLT, Nat.reduceLeDiff, reduceCtorEq, Int.reduceToNat, Int.reduceNeg]
    have hr : rawD g s = allF g [] (g.w - 1) s.y := by rw [rawD, if_neg k3, if_pos k7]
    rw [← hr]
    refine drivers_tail g s (rawD g s) (by rw [hr]; have := hal (g.w - 1) s.y; omega) n _ (by simp only [stX_eq, push_cast, reduceIte, Nat.reduceEqDiff, Nat.reduceAdd, Nat.reduceSub, Nat.reduceMul, Nat.reduceBEq, Nat.reduceLT, Nat.reduceLeDiff, reduceCtorEq, Int.reduceToNat, Int.reduceNeg]) _ fun v hv => hv
  have key : (s.kind = 4 ∨ s.kind = 5) → FnM (Env.of Try.prog) 64 [.agg (gridC false g), .agg (spotC s), .clo 65 [7, 5, 2]] (stX P4 g s [] []) (fun r st' => r = .tup [] ∧ st' = stX P4 g s (endsF g s []) []) := fun h => by
    obtain ⟨⟨x1, x2⟩, ⟨y1, y2⟩, i1⟩ := r3 (by omega)
    exact ends_ok g hg s r1 (by omega) ⟨⟨x1, x2⟩, y1, y2⟩ [] (by simp)
  have hle : ((endsF g s []).length : Int) ≤ 1000000 := by
    have h1 := endF_len g hg s [] s.x s.y
    have h2 := fun x y => endF_len g hg s (endF g s [] s.x s.y) x y
    simp only [List.length_nil] at h1
    have e : endsF g s [] = endsF2 g s (endF g s [] s.x s.y) := rfl
    rw [e, endsF2]
    split <;> split <;> first | omega | (have := h2 (s.x + 1) s.y; omega) | (have := h2 s.x (s.y + 1); omega)
  refine cond_dec (fun k4 => cond_dec (fun _ => ?_) fun h => absurd k4 h) fun k4 => ?_
  · skip
    refine clm_eq (at_keep4 [(1, .int n), (7, .ptr 7 0)] ?_ (key (.inl k4))) ?_
    · simp only [push_cast, reduceIte, Nat.reduceEqDiff, Nat.reduceAdd, Nat.reduceSub, Nat.reduceMul, Nat.reduceBEq, Nat.reduceLT, Nat.reduceLeDiff, reduceCtorEq, Int.reduceToNat, Int.reduceNeg]
    simp only [stX_eq, push_cast, reduceIte, Nat.reduceEqDiff, Nat.reduceAdd, Nat.reduceSub, Nat.reduceMul, Nat.reduceBEq, Nat.reduceLT, Nat.reduceLeDiff, reduceCtorEq, Int.reduceToNat, Int.reduceNeg]
    have hr : rawD g s = endsF g s [] := by rw [rawD, if_neg k3, if_neg k7, if_pos (.inl k4)]
    rw [← hr]
    refine drivers_tail g s (rawD g s) (by rw [hr]; exact hle) n _ (by simp only [stX_eq, push_cast, reduceIte, Nat.reduceEqDiff, Nat.reduceAdd, Nat.reduceSub, Nat.reduceMul, Nat.reduceBEq, Nat.reduceLT, Nat.reduceLeDiff, reduceCtorEq, Int.reduceToNat, Int.reduceNeg]) _ fun v hv => hv
  refine cond_dec (fun k5 => ?_) fun k5 => ?_
  · skip
    refine clm_eq (at_keep4 [(1, .int n), (7, .ptr 7 0)] ?_ (key (.inr k5))) ?_
    · simp only [push_cast, reduceIte, Nat.reduceEqDiff, Nat.reduceAdd, Nat.reduceSub, Nat.reduceMul, Nat.reduceBEq, Nat.reduceLT, Nat.reduceLeDiff, reduceCtorEq, Int.reduceToNat, Int.reduceNeg]
    simp only [stX_eq, push_cast, reduceIte, Nat.reduceEqDiff, Nat.reduceAdd, Nat.reduceSub, Nat.reduceMul, Nat.reduceBEq, Nat.reduceLT, Nat.reduceLeDiff, reduceCtorEq, Int.reduceToNat, Int.reduceNeg]
    have hr : rawD g s = endsF g s [] := by rw [rawD, if_neg k3, if_neg k7, if_pos (.inr k5)]
    rw [← hr]
    refine drivers_tail g s (rawD g s) (by rw [hr]; exact hle) n _ (by simp only [stX_eq, push_cast, reduceIte, Nat.reduceEqDiff, Nat.reduceAdd, Nat.reduceSub, Nat.reduceMul, Nat.reduceBEq, Nat.reduceLT, Nat.reduceLeDiff, reduceCtorEq, Int.reduceToNat, Int.reduceNeg]) _ fun v hv => hv
  · have hr : rawD g s = [] := by rw [rawD, if_neg k3, if_neg k7, if_neg (fun h => h.elim k4 k5)]
    rw [hr]
    refine drivers_tail g s [] (by simp) n _ (by simp only [stX_eq, lv, la, push_cast, reduceIte, Nat.reduceEqDiff, Nat.reduceAdd, Nat.reduceSub, Nat.reduceMul, Nat.reduceBEq, Nat.reduceLT, Nat.reduceLeDiff, reduceCtorEq, Int.reduceToNat, Int.reduceNeg]) _ fun v hv => hv
end Go.Proofs.Ytledbjkolidhkaa
namespace Go.Proofs.Ytledbjkolidhkaa
open Go Go.Vc Txt
def Adj (g : Grid) (w : Spot) (x y : Int) : Prop :=
  ¬ (x < 0 ∨ g.w ≤ x ∨ y < 0 ∨ g.h ≤ y) ∧ (((w.kind = 4 ∨ w.kind = 5) ∧ w.x = x ∧ w.y = y) ∨ (w.kind = 4 ∧ w.x + 1 = x ∧ w.y = y) ∨ (w.kind = 5 ∧ w.x = x ∧ w.y + 1 = y))
instance (g : Grid) (w : Spot) (x y : Int) : Decidable (Adj g w x y) := by unfold Adj; infer_instance
set_option maxHeartbeats 2000000 in
set_option maxRecDepth 10000 in
theorem adj_ok (g : Grid) (w : Spot) (hw : SOk w) (x y : Int) : FnEq Try.prog 73 [.agg (gridC false g), .agg (spotC w), .int x, .int y] (.bool (decide (Adj g w x y))) := by
  have hx := hw.x
  have hy := hw.y
  obtain ⟨k, wx, wy, wi⟩ := w
  simp only at hx hy
  refine FnEq.of_awp Try.func73 ok73 (by show 4 ≤ _; decide) (by simp only [push_cast, reduceIte, Nat.reduceEqDiff, Nat.reduceAdd, Nat.reduceSub, Nat.reduceMul, Nat.reduceBEq, Nat.reduceLT, Nat.reduceLeDiff, reduceCtorEq, Int.reduceToNat, Int.reduceNeg] <;> first | exact fun _ _ => trivial | simp) ?_
  simp only [ac73, rv73, push_cast, reduceIte, Nat.reduceEqDiff, Nat.reduceAdd, Nat.reduceSub, Nat.reduceMul, Nat.reduceBEq, Nat.reduceLT, Nat.reduceLeDiff, reduceCtorEq, Int.reduceToNat, Int.reduceNeg]
  refine cut_of ⟨[(2, .int x), (3, .int y), (5, .ptr 5 0), (26, .bool (decide (x < 0 ∨ g.w ≤ x ∨ y < 0 ∨ g.h ≤ y)))], [(4, gridC false g), (5, spotC ⟨k, wx, wy, wi⟩)], [], []⟩ ?_ ?_
  · refine grd_decf rfl (fun h => ?_) fun h => ?_ <;> simp only [push_cast, reduceIte, Nat.reduceEqDiff, Nat.reduceAdd, Nat.reduceSub, Nat.reduceMul, Nat.reduceBEq, Nat.reduceLT, Nat.reduceLeDiff, reduceCtorEq, Int.reduceToNat, Int.reduceNeg]
    · simp [h]
    refine grd_decf rfl (fun h2 => ?_) fun h2 => ?_ <;> simp only [push_cast, reduceIte, Nat.reduceEqDiff, Nat.reduceAdd, Nat.reduceSub, Nat.reduceMul, Nat.reduceBEq, Nat.reduceLT, Nat.reduceLeDiff, reduceCtorEq, Int.reduceToNat, Int.reduceNeg]
    · simp [h, h2]
    refine grd_decf rfl (fun h3 => ?_) fun h3 => ?_ <;> simp only [push_cast, reduceIte, Nat.reduceEqDiff, Nat.reduceAdd, Nat.reduceSub, Nat.reduceMul, Nat.reduceBEq, Nat.reduceLT, Nat.reduceLeDiff, reduceCtorEq, Int.reduceToNat, Int.reduceNeg]
    · simp [h, h2, h3]
    simp [h, h2, h3]
  have hA : ¬ (x < 0 ∨ g.w ≤ x ∨ y < 0 ∨ g.h ≤ y) → decide (Adj g ⟨k, wx, wy, wi⟩ x y) = ((decide (k = 4) || decide (k = 5)) && decide (wx = x) && decide (wy = y) || decide (k = 4) && decide (wx + 1 = x) && decide (wy = y) || decide (k = 5) && decide (wx = x) && decide (wy + 1 = y)) := fun h => by
    rw [Bool.eq_iff_iff]
    simp [Adj, h]
    constructor
    · rintro (⟨h1, h2, h3⟩ | ⟨h1, h2, h3⟩ | ⟨h1, h2, h3⟩)
      · exact .inl (.inl ⟨⟨h1, h2⟩, h3⟩)
      · exact .inl (.inr ⟨⟨h1, h2⟩, h3⟩)
      · exact .inr ⟨⟨h1, h2⟩, h3⟩
    · rintro ((⟨⟨h1, h2⟩, h3⟩ | ⟨⟨h1, h2⟩, h3⟩) | ⟨⟨h1, h2⟩, h3⟩)
      · exact .inl ⟨h1, h2, h3⟩
      · exact .inr (.inl ⟨h1, h2, h3⟩)
      · exact .inr (.inr ⟨h1, h2, h3⟩)
  simp only [push_cast, reduceIte, Nat.reduceEqDiff, Nat.reduceAdd, Nat.reduceSub, Nat.reduceMul, Nat.reduceBEq, Nat.reduceLT, Nat.reduceLeDiff, reduceCtorEq, Int.reduceToNat, Int.reduceNeg]
  refine cond_dec (fun h => ?_) fun h => ?_
  · exact congrArg Value.bool (decide_eq_false (fun hh => hh.1 h)).symm
  have hA := hA h
  cases h4 : decide (k = 4)
  · cases h5 : decide (k = 5)
    · rw [h4, h5] at hA
      simp only [h4, h5, push_cast, reduceIte, Nat.reduceEqDiff, Nat.reduceAdd, Nat.reduceSub, Nat.reduceMul, Nat.reduceBEq, Nat.reduceLT, Nat.reduceLeDiff, reduceCtorEq, Int.reduceToNat, Int.reduceNeg]
      first | exact congrArg Value.bool hA.symm | exact ⟨by omega, congrArg Value.bool hA.symm⟩ | exact ⟨by omega, by omega, congrArg Value.bool hA.symm⟩
    · cases hD : decide (wy = y) <;> cases hC : decide (wx = x) <;> cases hF : decide (wy + 1 = y) <;> rw [h4, h5, hC, hD, hF] at hA <;> simp only [h4, h5, hC, hD, hF, push_cast, reduceIte, Nat.reduceEqDiff, Nat.reduceAdd, Nat.reduceSub, Nat.reduceMul, Nat.reduceBEq, Nat.reduceLT, Nat.reduceLeDiff, reduceCtorEq, Int.reduceToNat, Int.reduceNeg] <;>
        first | exact congrArg Value.bool hA.symm | exact ⟨by omega, congrArg Value.bool hA.symm⟩ | exact ⟨by omega, by omega, congrArg Value.bool hA.symm⟩
  · have h5 : decide (k = 5) = false := by simp at h4 ⊢; omega
    cases hD : decide (wy = y) <;> cases hC : decide (wx = x) <;> cases hE : decide (wx + 1 = x) <;> rw [h4, h5, hC, hD, hE] at hA <;> simp only [h4, h5, hC, hD, hE, push_cast, reduceIte, Nat.reduceEqDiff, Nat.reduceAdd, Nat.reduceSub, Nat.reduceMul, Nat.reduceBEq, Nat.reduceLT, Nat.reduceLeDiff, reduceCtorEq, Int.reduceToNat, Int.reduceNeg] <;>
      first | exact congrArg Value.bool hA.symm | exact ⟨by omega, congrArg Value.bool hA.symm⟩ | exact ⟨by omega, by omega, congrArg Value.bool hA.symm⟩
end Go.Proofs.Ytledbjkolidhkaa
namespace Go.Proofs.Ytledbjkolidhkaa.Txt
open Go Go.Vc
set_option maxRecDepth 100000
def ac51b_r10 : AC :=
 (.seq (.seq (.reg [0, 107, 3, 4, 5] [
 ⟨some 62, none, .ld true 4 (.t 5)⟩, ⟨some 63, none, .cal 74 [(.t 62)]⟩])
 (.cond (.t 63)
 (.seq (.reg [0, 107, 3, 4, 5] [
 ⟨some 64, none, .ld true 4 (.t 4)⟩, ⟨some 65, none, .ld true 4 (.t 5)⟩, ⟨some 66, none, .eqa true 4 (.t 64) (.t 65)⟩, ⟨some 67, none, .mv (.t 66)⟩, ⟨some 68, some (67, true), .fa 3 (.t 4)⟩, ⟨some 69, some (67, true), .ld false 1 (.t 68)⟩, ⟨some 70, some (67, true), .fa 3 (.t 5)⟩, ⟨some 71, some (67, true), .ld false 1 (.t 70)⟩, ⟨some 72, some (67, true), .cmp .eql .i64 (.t 69) (.t 71)⟩, ⟨some 73, none, .pick (.t 67) (.t 72) (.c (.sc (.bool false)))⟩, ⟨some 74, none, .mv (.t 73)⟩, ⟨some 75, some (74, true), .ld true 5 (.t 3)⟩, ⟨some 76, some (74, true), .ld true 4 (.t 4)⟩, ⟨some 77, some (74, true), .ld true 4 (.t 5)⟩, ⟨some 78, some (74, true), .cal 75 [(.t 75), (.t 76), (.t 77)]⟩, ⟨some 79, none, .pick (.t 74) (.t 78) (.c (.sc (.bool false)))⟩, ⟨some 6, none, .mv (.t 79)⟩])
 .ret)
 .skip))
 (.seq (.reg [0, 107, 3, 4, 5] [
 ⟨some 80, none, .fa 0 (.t 5)⟩, ⟨some 81, none, .ld false 1 (.t 80)⟩, ⟨some 82, none, .cmp .eql .i64 (.t 81) (.c (.sc (.int .i64 3)))⟩, ⟨some 83, none, .mv (.t 82)⟩, ⟨some 84, some (83, true), .ld true 5 (.t 3)⟩, ⟨some 85, some (83, true), .ld true 4 (.t 4)⟩, ⟨some 86, some (83, true), .fa 1 (.t 5)⟩, ⟨some 87, some (83, true), .ld false 1 (.t 86)⟩, ⟨some 88, some (83, true), .fa 2 (.t 5)⟩, ⟨some 89, some (83, true), .ld false 1 (.t 88)⟩, ⟨some 90, some (83, true), .cal 73 [(.t 84), (.t 85), (.t 87), (.t 89)]⟩, ⟨some 91, none, .pick (.t 83) (.t 90) (.c (.sc (.bool false)))⟩, ⟨some 92, none, .mv (.t 91)⟩, ⟨some 93, some (92, false), .fa 0 (.t 5)⟩, ⟨some 94, some (92, false), .ld false 1 (.t 93)⟩, ⟨some 95, some (92, false), .cmp .eql .i64 (.t 94) (.c (.sc (.int .i64 7)))⟩, ⟨some 96, some (92, false), .mv (.t 95)⟩, ⟨some 97, some (96, true), .ld true 5 (.t 3)⟩, ⟨some 98, some (96, true), .ld true 4 (.t 4)⟩, ⟨some 99, some (96, true), .fa 0 (.t 3)⟩, ⟨some 100, some (96, true), .ld false 1 (.t 99)⟩, ⟨some 101, some (96, true), .ari .sub true .i64 (.t 100) (.c (.sc (.int .i64 1)))⟩, ⟨some 102, some (96, true), .fa 2 (.t 5)⟩, ⟨some 103, some (96, true), .ld false 1 (.t 102)⟩, ⟨some 104, some (96, true), .cal 73 [(.t 97), (.t 98), (.t 101), (.t 103)]⟩, ⟨some 105, some (92, false), .pick (.t 96) (.t 104) (.c (.sc (.bool false)))⟩, ⟨some 106, none, .pick (.t 92) (.c (.sc (.bool true))) (.t 105)⟩, ⟨some 6, none, .mv (.t 106)⟩])
 .ret))
def ac51b : AC :=
 (.seq (.reg [0, 107, 0, 1, 2] [
 ⟨some 3, none, .box (.t 0)⟩, ⟨some 4, none, .box (.t 1)⟩, ⟨some 5, none, .box (.t 2)⟩, ⟨some 6, none, .mv (.c (.sc (.bool false)))⟩])
 (.seq (.seq (.reg [0, 107, 3, 4, 5] [
 ⟨some 7, none, .fa 0 (.t 4)⟩, ⟨some 8, none, .ld false 1 (.t 7)⟩])
 (.block 0
 (.seq (.reg [0, 107, 3, 4, 5, 8] [
 ⟨some 10, none, .cmp .eql .i64 (.t 8) (.c (.sc (.int .i64 1)))⟩, ⟨some 9, none, .mv (.t 10)⟩])
 (.cond (.t 9)
 (.seq (.reg [0, 107, 3, 4, 5] [
 ⟨some 11, none, .ld true 5 (.t 3)⟩, ⟨some 12, none, .ld true 4 (.t 5)⟩, ⟨some 13, none, .fa 1 (.t 4)⟩, ⟨some 14, none, .ld false 1 (.t 13)⟩, ⟨some 15, none, .fa 2 (.t 4)⟩, ⟨some 16, none, .ld false 1 (.t 15)⟩, ⟨some 17, none, .cal 73 [(.t 11), (.t 12), (.t 14), (.t 16)]⟩, ⟨some 18, none, .mv (.t 17)⟩, ⟨some 19, some (18, false), .fa 0 (.t 5)⟩, ⟨some 20, some (18, false), .ld false 1 (.t 19)⟩, ⟨some 21, some (18, false), .cmp .eql .i64 (.t 20) (.c (.sc (.int .i64 3)))⟩, ⟨some 22, some (18, false), .mv (.t 21)⟩, ⟨some 23, some (22, true), .fa 3 (.t 5)⟩, ⟨some 24, some (22, true), .ld false 1 (.t 23)⟩, ⟨some 25, some (22, true), .cmp .eql .i64 (.t 24) (.c (.sc (.int .i64 3)))⟩, ⟨some 26, some (18, false), .pick (.t 22) (.t 25) (.c (.sc (.bool false)))⟩, ⟨some 27, some (18, false), .mv (.t 26)⟩, ⟨some 28, some (27, true), .fa 1 (.t 5)⟩, ⟨some 29, some (27, true), .ld false 1 (.t 28)⟩, ⟨some 30, some (27, true), .fa 1 (.t 4)⟩, ⟨some 31, some (27, true), .ld false 1 (.t 30)⟩, ⟨some 32, some (27, true), .cmp .eql .i64 (.t 29) (.t 31)⟩, ⟨some 33, some (18, false), .pick (.t 27) (.t 32) (.c (.sc (.bool false)))⟩, ⟨some 34, some (18, false), .mv (.t 33)⟩, ⟨some 35, some (34, true), .fa 2 (.t 5)⟩, ⟨some 36, some (34, true), .ld false 1 (.t 35)⟩, ⟨some 37, some (34, true), .fa 2 (.t 4)⟩, ⟨some 38, some (34, true), .ld false 1 (.t 37)⟩, ⟨some 39, some (34, true), .ari .add true .i64 (.t 38) (.c (.sc (.int .i64 1)))⟩, ⟨some 40, some (34, true), .cmp .eql .i64 (.t 36) (.t 39)⟩, ⟨some 41, some (18, false), .pick (.t 34) (.t 40) (.c (.sc (.bool false)))⟩, ⟨some 42, none, .pick (.t 18) (.c (.sc (.bool true))) (.t 41)⟩, ⟨some 6, none, .mv (.t 42)⟩])
 .ret)
 (.seq (.reg [0, 107, 3, 4, 5, 8] [
 ⟨some 44, none, .cmp .eql .i64 (.t 8) (.c (.sc (.int .i64 2)))⟩, ⟨some 43, none, .mv (.t 44)⟩])
 (.cond (.t 43)
 (.seq (.reg [0, 107, 3, 4, 5] [
 ⟨some 45, none, .ld true 5 (.t 3)⟩, ⟨some 46, none, .ld true 4 (.t 5)⟩, ⟨some 47, none, .fa 1 (.t 4)⟩, ⟨some 48, none, .ld false 1 (.t 47)⟩, ⟨some 49, none, .fa 2 (.t 4)⟩, ⟨some 50, none, .ld false 1 (.t 49)⟩, ⟨some 51, none, .cal 73 [(.t 45), (.t 46), (.t 48), (.t 50)]⟩, ⟨some 6, none, .mv (.t 51)⟩])
 .ret)
 (.seq (.reg [0, 107, 3, 4, 5, 8] [
 ⟨some 53, none, .cmp .eql .i64 (.t 8) (.c (.sc (.int .i64 6)))⟩, ⟨some 52, none, .mv (.t 53)⟩])
 (.cond (.t 52)
 (.seq (.reg [0, 107, 3, 4, 5] [
 ⟨some 54, none, .ld true 5 (.t 3)⟩, ⟨some 55, none, .ld true 4 (.t 5)⟩, ⟨some 56, none, .fa 2 (.t 4)⟩, ⟨some 57, none, .ld false 1 (.t 56)⟩, ⟨some 58, none, .cal 73 [(.t 54), (.t 55), (.c (.sc (.int .i64 0))), (.t 57)]⟩, ⟨some 6, none, .mv (.t 58)⟩])
 .ret)
 (.seq (.seq (.reg [0, 107, 3, 4, 5, 8] [
 ⟨some 60, none, .cmp .eql .i64 (.t 8) (.c (.sc (.int .i64 4)))⟩, ⟨some 59, none, .mv (.t 60)⟩])
 (.cond (.t 59)
 .skip
 (.reg [0, 107, 3, 4, 5, 8] [
 ⟨some 61, none, .cmp .eql .i64 (.t 8) (.c (.sc (.int .i64 5)))⟩, ⟨some 59, none, .mv (.t 61)⟩])))
 (.cond (.t 59)
 ac51b_r10
 .skip))))))))))
 (.seq (.reg [0, 107] [
 ⟨some 6, none, .mv (.c (.sc (.bool false)))⟩])
 .ret)))
def rv51b : List RV := [.tmp 6]
theorem ok51b : fnOk Try.prog ac51b rv51b Try.f51 = true := by kernel_rfl
end Go.Proofs.Ytledbjkolidhkaa.Txt
namespace Go.Proofs.Ytledbjkolidhkaa
open Go Go.Vc Txt
def Meet (g : Grid) (a b : Spot) : Prop := Adj g b a.x a.y ∨ (a.kind = 4 ∧ Adj g b (a.x + 1) a.y) ∨ (a.kind = 5 ∧ Adj g b a.x (a.y + 1))
instance (g : Grid) (a b : Spot) : Decidable (Meet g a b) := by unfold Meet; infer_instance
theorem wire_ok (s : Spot) : FnEq Try.prog 74 [.agg (spotC s)] (.bool (decide (s.kind = 4 ∨ s.kind = 5))) := by
  obtain ⟨k, x, y, i⟩ := s
  refine FnEq.of_awp Try.func74 ok74 (by show 1 ≤ _; decide) (by simp only [push_cast, reduceIte, Nat.reduceEqDiff, Nat.reduceAdd, Nat.reduceSub, Nat.reduceMul, Nat.reduceBEq, Nat.reduceLT, Nat.reduceLeDiff, reduceCtorEq, Int.reduceToNat, Int.reduceNeg] <;> first | exact fun _ _ => trivial | simp) ?_
  simp only [ac74, rv74, push_cast, reduceIte, Nat.reduceEqDiff, Nat.reduceAdd, Nat.reduceSub, Nat.reduceMul, Nat.reduceBEq, Nat.reduceLT, Nat.reduceLeDiff, reduceCtorEq, Int.reduceToNat, Int.reduceNeg]
  refine grd_decf rfl (fun h => ?_) fun h => ?_ <;> simp only [push_cast, reduceIte, Nat.reduceEqDiff, Nat.reduceAdd, Nat.reduceSub, Nat.reduceMul, Nat.reduceBEq, Nat.reduceLT, Nat.reduceLeDiff, reduceCtorEq, Int.reduceToNat, Int.reduceNeg]
  · simp [h]
  · simp [h]
theorem meet_ok (g : Grid) (a b : Spot) (ha : SOk a) (hb : SOk b) : FnEq Try.prog 75 [.agg (gridC false g), .agg (spotC a), .agg (spotC b)] (.bool (decide (Meet g a b))) := by
  have hx := ha.x
  have hy := ha.y
  have c1 := adj_ok g b hb a.x a.y
  have c2 := adj_ok g b hb (a.x + 1) a.y
  have c3 := adj_ok g b hb a.x (a.y + 1)
  obtain ⟨k, x, y, i⟩ := a
  simp only at hx hy c1 c2 c3
  refine FnEq.of_awp Try.func75 ok75 (by show 3 ≤ _; decide) (by simp only [push_cast, reduceIte, Nat.reduceEqDiff, Nat.reduceAdd, Nat.reduceSub, Nat.reduceMul, Nat.reduceBEq, Nat.reduceLT, Nat.reduceLeDiff, reduceCtorEq, Int.reduceToNat, Int.reduceNeg] <;> first | exact fun _ _ => trivial | simp) ?_
  simp only [ac75, rv75, push_cast, reduceIte, Nat.reduceEqDiff, Nat.reduceAdd, Nat.reduceSub, Nat.reduceMul, Nat.reduceBEq, Nat.reduceLT, Nat.reduceLeDiff, reduceCtorEq, Int.reduceToNat, Int.reduceNeg]
  by_cases h1 : Adj g b x y
  · rw [decide_eq_true h1] at c1
    refine cal_sub c1 (by simp only [push_cast, reduceIte, Nat.reduceEqDiff, Nat.reduceAdd, Nat.reduceSub, Nat.reduceMul, Nat.reduceBEq, Nat.reduceLT, Nat.reduceLeDiff, reduceCtorEq, Int.reduceToNat, Int.reduceNeg]) ?_
    simp only [push_cast, reduceIte, Nat.reduceEqDiff, Nat.reduceAdd, Nat.reduceSub, Nat.reduceMul, Nat.reduceBEq, Nat.reduceLT, Nat.reduceLeDiff, reduceCtorEq, Int.reduceToNat, Int.reduceNeg]
    rw [decide_eq_true (show Meet g ⟨k, x, y, i⟩ b from .inl h1)]
  · rw [decide_eq_false h1] at c1
    refine cal_sub c1 (by simp only [push_cast, reduceIte, Nat.reduceEqDiff, Nat.reduceAdd, Nat.reduceSub, Nat.reduceMul, Nat.reduceBEq, Nat.reduceLT, Nat.reduceLeDiff, reduceCtorEq, Int.reduceToNat, Int.reduceNeg]) ?_
    simp only [push_cast, reduceIte, Nat.reduceEqDiff, Nat.reduceAdd, Nat.reduceSub, Nat.reduceMul, Nat.reduceBEq, Nat.reduceLT, Nat.reduceLeDiff, reduceCtorEq, Int.reduceToNat, Int.reduceNeg]
    refine grd_dec rfl (fun h4 => ?_) fun h4 => ?_ <;> simp only [push_cast, reduceIte, Nat.reduceEqDiff, Nat.reduceAdd, Nat.reduceSub, Nat.reduceMul, Nat.reduceBEq, Nat.reduceLT, Nat.reduceLeDiff, reduceCtorEq, Int.reduceToNat, Int.reduceNeg]
    · refine ⟨by omega, ?_⟩
      by_cases h2 : Adj g b (x + 1) y
      · rw [decide_eq_true h2] at c2
        refine cal_sub c2 (by simp only [push_cast, reduceIte, Nat.reduceEqDiff, Nat.reduceAdd, Nat.reduceSub, Nat.reduceMul, Nat.reduceBEq, Nat.reduceLT, Nat.reduceLeDiff, reduceCtorEq, Int.reduceToNat, Int.reduceNeg]) ?_
        simp only [push_cast, reduceIte, Nat.reduceEqDiff, Nat.reduceAdd, Nat.reduceSub, Nat.reduceMul, Nat.reduceBEq, Nat.reduceLT, Nat.reduceLeDiff, reduceCtorEq, Int.reduceToNat, Int.reduceNeg]
        rw [decide_eq_true (show Meet g ⟨k, x, y, i⟩ b from .inr (.inl ⟨h4, h2⟩))]
      · rw [decide_eq_false h2] at c2
        refine cal_sub c2 (by simp only [push_cast, reduceIte, Nat.reduceEqDiff, Nat.reduceAdd, Nat.reduceSub, Nat.reduceMul, Nat.reduceBEq, Nat.reduceLT, Nat.reduceLeDiff, reduceCtorEq, Int.reduceToNat, Int.reduceNeg]) ?_
        simp only [push_cast, reduceIte, Nat.reduceEqDiff, Nat.reduceAdd, Nat.reduceSub, Nat.reduceMul, Nat.reduceBEq, Nat.reduceLT, Nat.reduceLeDiff, reduceCtorEq, Int.reduceToNat, Int.reduceNeg]
        refine grd_dec rfl (fun h5 => absurd (h4.symm.trans h5) (by decide)) fun _ => ?_
        simp only [push_cast, reduceIte, Nat.reduceEqDiff, Nat.reduceAdd, Nat.reduceSub, Nat.reduceMul, Nat.reduceBEq, Nat.reduceLT, Nat.reduceLeDiff, reduceCtorEq, Int.reduceToNat, Int.reduceNeg]
        rw [decide_eq_false (show ¬ Meet g ⟨k, x, y, i⟩ b from fun h => h.elim h1 fun h => h.elim (fun h => h2 h.2) fun h => absurd (h4.symm.trans h.1) (by decide))]
    · refine grd_dec rfl (fun h5 => ?_) fun h5 => ?_ <;> simp only [push_cast, reduceIte, Nat.reduceEqDiff, Nat.reduceAdd, Nat.reduceSub, Nat.reduceMul, Nat.reduceBEq, Nat.reduceLT, Nat.reduceLeDiff, reduceCtorEq, Int.reduceToNat, Int.reduceNeg]
      · refine ⟨by omega, ?_⟩
        refine cal_sub c3 (by simp only [push_cast, reduceIte, Nat.reduceEqDiff, Nat.reduceAdd, Nat.reduceSub, Nat.reduceMul, Nat.reduceBEq, Nat.reduceLT, Nat.reduceLeDiff, reduceCtorEq, Int.reduceToNat, Int.reduceNeg]) ?_
        simp only [push_cast, reduceIte, Nat.reduceEqDiff, Nat.reduceAdd, Nat.reduceSub, Nat.reduceMul, Nat.reduceBEq, Nat.reduceLT, Nat.reduceLeDiff, reduceCtorEq, Int.reduceToNat, Int.reduceNeg]
        rw [show decide (Adj g b x (y + 1)) = decide (Meet g ⟨k, x, y, i⟩ b) from by
          rw [decide_eq_decide]
          exact ⟨fun h => .inr (.inr ⟨h5, h⟩), fun h => h.elim (fun h => absurd h h1) fun h => h.elim (fun h => absurd h.1 h4) fun h => h.2⟩]
      · rw [decide_eq_false (show ¬ Meet g ⟨k, x, y, i⟩ b from fun h => h.elim h1 fun h => h.elim (fun h => h4 h.1) fun h => h5 h.1)]
def CanD (g : Grid) (a b : Spot) : Prop :=
  if a.kind = 1 then Adj g b a.x a.y ∨ (b.kind = 3 ∧ b.i = 3 ∧ b.x = a.x ∧ b.y = a.y + 1)
  else if a.kind = 2 then Adj g b a.x a.y
  else if a.kind = 6 then Adj g b 0 a.y
  else if a.kind = 4 ∨ a.kind = 5 then
    (if b.kind = 4 ∨ b.kind = 5 then a ≠ b ∧ a.i = b.i ∧ Meet g a b else (b.kind = 3 ∧ Adj g a b.x b.y) ∨ (b.kind = 7 ∧ Adj g a (g.w - 1) b.y))
  else False
instance (g : Grid) (a b : Spot) : Decidable (CanD g a b) := by unfold CanD; infer_instance
theorem can_wire (g : Grid) (hg : GOk g) (a b : Spot) (ha : SOk a) (hb : SOk b) (hk : a.kind = 4 ∨ a.kind = 5) (st : St) (hst : st.keepS [0, 107, 3, 4, 5] = ⟨[(3, .ptr 3 0), (4, .ptr 4 0), (5, .ptr 5 0)], [(3, gridC false g), (4, spotC a), (5, spotC b)], [], []⟩) :
    awp (Env.of Try.prog) ac51b_r10 (retK [RV.tmp 6] fun v => Sub v (.bool (decide (CanD g a b)))) st := by
  have hw := hg.w
  have c3 := wire_ok b
  have c4 := meet_ok g a b ha hb
  have c5 := adj_ok g a ha b.x b.y
  have c6 := adj_ok g a ha (g.w - 1) b.y
  have hC : CanD g a b ↔ (if b.kind = 4 ∨ b.kind = 5 then a ≠ b ∧ a.i = b.i ∧ Meet g a b else (b.kind = 3 ∧ Adj g a b.x b.y) ∨ (b.kind = 7 ∧ Adj g a (g.w - 1) b.y)) := by
    rw [CanD, if_neg (by omega), if_neg (by omega), if_neg (by omega), if_pos hk]
  simp only [ac51b_r10, push_cast, reduceIte, Nat.reduceEqDiff, Nat.reduceAdd, Nat.reduceSub, Nat.reduceMul, Nat.reduceBEq, Nat.reduceLT, Nat.reduceLeDiff, reduceCtorEq, Int.reduceToNat, Int.reduceNeg, hst]
  by_cases hb4 : b.kind = 4 ∨ b.kind = 5
  · rw [if_pos hb4] at hC
    rw [decide_eq_true hb4] at c3
    refine cal_sub c3 (by simp only [push_cast, reduceIte, Nat.reduceEqDiff, Nat.reduceAdd, Nat.reduceSub, Nat.reduceMul, Nat.reduceBEq, Nat.reduceLT, Nat.reduceLeDiff, reduceCtorEq, Int.reduceToNat, Int.reduceNeg]) ?_
    simp only [push_cast, reduceIte, Nat.reduceEqDiff, Nat.reduceAdd, Nat.reduceSub, Nat.reduceMul, Nat.reduceBEq, Nat.reduceLT, Nat.reduceLeDiff, reduceCtorEq, Int.reduceToNat, Int.reduceNeg]
    rw [spot_eqb a b]
    by_cases hab : a = b
    · rw [decide_eq_true hab]
      simp only [Bool.not_true, push_cast, reduceIte, Nat.reduceEqDiff, Nat.reduceAdd, Nat.reduceSub, Nat.reduceMul, Nat.reduceBEq, Nat.reduceLT, Nat.reduceLeDiff, reduceCtorEq, Int.reduceToNat, Int.reduceNeg]
      rw [decide_eq_false (show ¬ CanD g a b from fun h => (hC.1 h).1 hab)]
    · rw [decide_eq_false hab]
      simp only [Bool.not_false, push_cast, reduceIte, Nat.reduceEqDiff, Nat.reduceAdd, Nat.reduceSub, Nat.reduceMul, Nat.reduceBEq, Nat.reduceLT, Nat.reduceLeDiff, reduceCtorEq, Int.reduceToNat, Int.reduceNeg]
      refine grd_dec rfl (fun hi => ?_) fun hi => ?_ <;> simp only [push_cast, reduceIte, Nat.reduceEqDiff, Nat.reduceAdd, Nat.reduceSub, Nat.reduceMul, Nat.reduceBEq, Nat.reduceLT, Nat.reduceLeDiff, reduceCtorEq, Int.reduceToNat, Int.reduceNeg]
      · refine cal_sub c4 (by simp only [push_cast, reduceIte, Nat.reduceEqDiff, Nat.reduceAdd, Nat.reduceSub, Nat.reduceMul, Nat.reduceBEq, Nat.reduceLT, Nat.reduceLeDiff, reduceCtorEq, Int.reduceToNat, Int.reduceNeg]) ?_
        simp only [push_cast, reduceIte, Nat.reduceEqDiff, Nat.reduceAdd, Nat.reduceSub, Nat.reduceMul, Nat.reduceBEq, Nat.reduceLT, Nat.reduceLeDiff, reduceCtorEq, Int.reduceToNat, Int.reduceNeg]
        rw [show decide (Meet g a b) = decide (CanD g a b) from by rw [decide_eq_decide, hC]; exact ⟨fun h => ⟨hab, hi, h⟩, fun h => h.2.2⟩]
      · rw [decide_eq_false (show ¬ CanD g a b from fun h => hi (hC.1 h).2.1)]
  · rw [if_neg hb4] at hC
    rw [decide_eq_false hb4] at c3
    refine cal_sub c3 (by simp only [push_cast, reduceIte, Nat.reduceEqDiff, Nat.reduceAdd, Nat.reduceSub, Nat.reduceMul, Nat.reduceBEq, Nat.reduceLT, Nat.reduceLeDiff, reduceCtorEq, Int.reduceToNat, Int.reduceNeg]) ?_
    simp only [push_cast, reduceIte, Nat.reduceEqDiff, Nat.reduceAdd, Nat.reduceSub, Nat.reduceMul, Nat.reduceBEq, Nat.reduceLT, Nat.reduceLeDiff, reduceCtorEq, Int.reduceToNat, Int.reduceNeg]
    refine grd_dec rfl (fun h3 => ?_) fun h3 => ?_ <;> simp only [push_cast, reduceIte, Nat.reduceEqDiff, Nat.reduceAdd, Nat.reduceSub, Nat.reduceMul, Nat.reduceBEq, Nat.reduceLT, Nat.reduceLeDiff, reduceCtorEq, Int.reduceToNat, Int.reduceNeg]
    · by_cases h5 : Adj g a b.x b.y
      · rw [decide_eq_true h5] at c5
        refine cal_sub c5 (by simp only [push_cast, reduceIte, Nat.reduceEqDiff, Nat.reduceAdd, Nat.reduceSub, Nat.reduceMul, Nat.reduceBEq, Nat.reduceLT, Nat.reduceLeDiff, reduceCtorEq, Int.reduceToNat, Int.reduceNeg]) ?_
        simp only [push_cast, reduceIte, Nat.reduceEqDiff, Nat.reduceAdd, Nat.reduceSub, Nat.reduceMul, Nat.reduceBEq, Nat.reduceLT, Nat.reduceLeDiff, reduceCtorEq, Int.reduceToNat, Int.reduceNeg]
        rw [decide_eq_true (hC.2 (.inl ⟨h3, h5⟩))]
      · rw [decide_eq_false h5] at c5
        refine cal_sub c5 (by simp only [push_cast, reduceIte, Nat.reduceEqDiff, Nat.reduceAdd, Nat.reduceSub, Nat.reduceMul, Nat.reduceBEq, Nat.reduceLT, Nat.reduceLeDiff, reduceCtorEq, Int.reduceToNat, Int.reduceNeg]) ?_
        simp only [push_cast, reduceIte, Nat.reduceEqDiff, Nat.reduceAdd, Nat.reduceSub, Nat.reduceMul, Nat.reduceBEq, Nat.reduceLT, Nat.reduceLeDiff, reduceCtorEq, Int.reduceToNat, Int.reduceNeg]
        refine grd_dec rfl (fun h7 => absurd (h3.symm.trans h7) (by decide)) fun h7 => ?_
        simp only [push_cast, reduceIte, Nat.reduceEqDiff, Nat.reduceAdd, Nat.reduceSub, Nat.reduceMul, Nat.reduceBEq, Nat.reduceLT, Nat.reduceLeDiff, reduceCtorEq, Int.reduceToNat, Int.reduceNeg]
        rw [decide_eq_false (show ¬ CanD g a b from fun h => (hC.1 h).elim (fun h => h5 h.2) fun h => h7 h.1)]
    · refine grd_dec rfl (fun h7 => ?_) fun h7 => ?_ <;> simp only [push_cast, reduceIte, Nat.reduceEqDiff, Nat.reduceAdd, Nat.reduceSub, Nat.reduceMul, Nat.reduceBEq, Nat.reduceLT, Nat.reduceLeDiff, reduceCtorEq, Int.reduceToNat, Int.reduceNeg]
      · refine ⟨by omega, ?_⟩
        refine cal_sub c6 (by simp only [push_cast, reduceIte, Nat.reduceEqDiff, Nat.reduceAdd, Nat.reduceSub, Nat.reduceMul, Nat.reduceBEq, Nat.reduceLT, Nat.reduceLeDiff, reduceCtorEq, Int.reduceToNat, Int.reduceNeg]) ?_
        simp only [push_cast, reduceIte, Nat.reduceEqDiff, Nat.reduceAdd, Nat.reduceSub, Nat.reduceMul, Nat.reduceBEq, Nat.reduceLT, Nat.reduceLeDiff, reduceCtorEq, Int.reduceToNat, Int.reduceNeg]
        rw [show decide (Adj g a (g.w - 1) b.y) = decide (CanD g a b) from by rw [decide_eq_decide, hC]; exact ⟨fun h => .inr ⟨h7, h⟩, fun h => h.elim (fun h => absurd h.1 h3) fun h => h.2⟩]
      · rw [decide_eq_false (show ¬ CanD g a b from fun h => (hC.1 h).elim (fun h => h3 h.1) fun h => h7 h.1)]
set_option maxHeartbeats 2000000 in
theorem can_ok (g : Grid) (hg : GOk g) (a b : Spot) (ha : SOk a) (hb : SOk b) : FnEq Try.prog 51 [.agg (gridC false g), .agg (spotC a), .agg (spotC b)] (.bool (decide (CanD g a b))) := by
  have hx := ha.x
  have hy := ha.y
  have hw := hg.w
  have c1 := adj_ok g b hb a.x a.y
  have c2 := adj_ok g b hb 0 a.y
  have c3 := wire_ok b
  have c4 := meet_ok g a b ha hb
  have c5 := adj_ok g a ha b.x b.y
  have c6 := adj_ok g a ha (g.w - 1) b.y
  refine FnEq.of_awp Try.func51 ok51b (by show 3 ≤ _; decide) (by simp only [push_cast, reduceIte, Nat.reduceEqDiff, Nat.reduceAdd, Nat.reduceSub, Nat.reduceMul, Nat.reduceBEq, Nat.reduceLT, Nat.reduceLeDiff, reduceCtorEq, Int.reduceToNat, Int.reduceNeg] <;> first | exact fun _ _ => trivial | simp) ?_
  simp only [ac51b, rv51b, push_cast, reduceIte, Nat.reduceEqDiff, Nat.reduceAdd, Nat.reduceSub, Nat.reduceMul, Nat.reduceBEq, Nat.reduceLT, Nat.reduceLeDiff, reduceCtorEq, Int.reduceToNat, Int.reduceNeg]
  refine cond_dec (fun k1 => ?_) fun k1 => ?_
  · have hC : CanD g a b ↔ Adj g b a.x a.y ∨ (b.kind = 3 ∧ b.i = 3 ∧ b.x = a.x ∧ b.y = a.y + 1) := by rw [CanD, if_pos k1]
    by_cases h1 : Adj g b a.x a.y
    · rw [decide_eq_true h1] at c1
      refine cal_sub c1 (by simp only [push_cast, reduceIte, Nat.reduceEqDiff, Nat.reduceAdd, Nat.reduceSub, Nat.reduceMul, Nat.reduceBEq, Nat.reduceLT, Nat.reduceLeDiff, reduceCtorEq, Int.reduceToNat, Int.reduceNeg]) ?_
      simp only [push_cast, reduceIte, Nat.reduceEqDiff, Nat.reduceAdd, Nat.reduceSub, Nat.reduceMul, Nat.reduceBEq, Nat.reduceLT, Nat.reduceLeDiff, reduceCtorEq, Int.reduceToNat, Int.reduceNeg]
      rw [decide_eq_true (hC.2 (.inl h1))]
    · rw [decide_eq_false h1] at c1
      refine cal_sub c1 (by simp only [push_cast, reduceIte, Nat.reduceEqDiff, Nat.reduceAdd, Nat.reduceSub, Nat.reduceMul, Nat.reduceBEq, Nat.reduceLT, Nat.reduceLeDiff, reduceCtorEq, Int.reduceToNat, Int.reduceNeg]) ?_
      simp only [push_cast, reduceIte, Nat.reduceEqDiff, Nat.reduceAdd, Nat.reduceSub, Nat.reduceMul, Nat.reduceBEq, Nat.reduceLT, Nat.reduceLeDiff, reduceCtorEq, Int.reduceToNat, Int.reduceNeg]
      have hC : CanD g a b ↔ (b.kind = 3 ∧ b.i = 3 ∧ b.x = a.x ∧ b.y = a.y + 1) := hC.trans ⟨fun h => h.elim (fun h => absurd h h1) (fun h => h), .inr⟩
      refine grd_dec rfl (fun g1 => ?_) fun g1 => ?_ <;> simp only [push_cast, reduceIte, Nat.reduceEqDiff, Nat.reduceAdd, Nat.reduceSub, Nat.reduceMul, Nat.reduceBEq, Nat.reduceLT, Nat.reduceLeDiff, reduceCtorEq, Int.reduceToNat, Int.reduceNeg]
      · refine grd_dec rfl (fun g2 => ?_) fun g2 => ?_ <;> simp only [push_cast, reduceIte, Nat.reduceEqDiff, Nat.reduceAdd, Nat.reduceSub, Nat.reduceMul, Nat.reduceBEq, Nat.reduceLT, Nat.reduceLeDiff, reduceCtorEq, Int.reduceToNat, Int.reduceNeg]
        · refine grd_dec rfl (fun g3 => ?_) fun g3 => ?_ <;> simp only [push_cast, reduceIte, Nat.reduceEqDiff, Nat.reduceAdd, Nat.reduceSub, Nat.reduceMul, Nat.reduceBEq, Nat.reduceLT, Nat.reduceLeDiff, reduceCtorEq, Int.reduceToNat, Int.reduceNeg]
          · refine ⟨by omega, ?_⟩
            rw [show decide (b.y = a.y + 1) = decide (CanD g a b) from by rw [decide_eq_decide, hC]; exact ⟨fun h => ⟨g1, g2, g3, h⟩, fun h => h.2.2.2⟩]
          · rw [decide_eq_false (show ¬ CanD g a b from fun h => g3 (hC.1 h).2.2.1)]
        · rw [decide_eq_false (show ¬ CanD g a b from fun h => g2 (hC.1 h).2.1)]
      · rw [decide_eq_false (show ¬ CanD g a b from fun h => g1 (hC.1 h).1)]
  refine cond_dec (fun k2 => ?_) fun k2 => ?_
  · refine cal_sub c1 (by simp only [push_cast, reduceIte, Nat.reduceEqDiff, Nat.reduceAdd, Nat.reduceSub, Nat.reduceMul, Nat.reduceBEq, Nat.reduceLT, Nat.reduceLeDiff, reduceCtorEq, Int.reduceToNat, Int.reduceNeg]) ?_
    simp only [push_cast, reduceIte, Nat.reduceEqDiff, Nat.reduceAdd, Nat.reduceSub, Nat.reduceMul, Nat.reduceBEq, Nat.reduceLT, Nat.reduceLeDiff, reduceCtorEq, Int.reduceToNat, Int.reduceNeg]
    rw [show decide (Adj g b a.x a.y) = decide (CanD g a b) from by rw [decide_eq_decide, CanD, if_neg k1, if_pos k2]]
  refine cond_dec (fun k6 => ?_) fun k6 => ?_
  · refine cal_sub c2 (by simp only [push_cast, reduceIte, Nat.reduceEqDiff, Nat.reduceAdd, Nat.reduceSub, Nat.reduceMul, Nat.reduceBEq, Nat.reduceLT, Nat.reduceLeDiff, reduceCtorEq, Int.reduceToNat, Int.reduceNeg]) ?_
    simp only [push_cast, reduceIte, Nat.reduceEqDiff, Nat.reduceAdd, Nat.reduceSub, Nat.reduceMul, Nat.reduceBEq, Nat.reduceLT, Nat.reduceLeDiff, reduceCtorEq, Int.reduceToNat, Int.reduceNeg]
    rw [show decide (Adj g b 0 a.y) = decide (CanD g a b) from by rw [decide_eq_decide, CanD, if_neg k1, if_neg k2, if_pos k6]]
  refine cond_dec (fun k4 => cond_dec (fun _ => ?_) fun h => absurd k4 h) fun k4 => ?_
  · exact can_wire g hg a b ha hb (.inl k4) _ (by simp only [push_cast, reduceIte, Nat.reduceEqDiff, Nat.reduceAdd, Nat.reduceSub, Nat.reduceMul, Nat.reduceBEq, Nat.reduceLT, Nat.reduceLeDiff, reduceCtorEq, Int.reduceToNat, Int.reduceNeg])
  refine cond_dec (fun k5 => ?_) fun k5 => ?_
  · exact can_wire g hg a b ha hb (.inr k5) _ (by simp only [push_cast, reduceIte, Nat.reduceEqDiff, Nat.reduceAdd, Nat.reduceSub, Nat.reduceMul, Nat.reduceBEq, Nat.reduceLT, Nat.reduceLeDiff, reduceCtorEq, Int.reduceToNat, Int.reduceNeg])
  · rw [decide_eq_false (show ¬ CanD g a b from fun h => by rw [CanD, if_neg k1, if_neg k2, if_neg k6, if_neg (fun h => h.elim k4 k5)] at h; exact h)]
end Go.Proofs.Ytledbjkolidhkaa
namespace Go.Proofs.Ytledbjkolidhkaa
open Go Go.Vc Txt
def spottedC (p : Spot × Int) : List PV := [.int p.1.kind, .int p.1.x, .int p.1.y, .int p.1.i, .int p.2]
@[push_cast] theorem spottedC_eq (p : Spot × Int) : spottedC p = [.int p.1.kind, .int p.1.x, .int p.1.y, .int p.1.i, .int p.2] := rfl
theorem rdesc_ok (g : Grid) (hg : GOk g) (n : Int) (hn : -1000000000 ≤ n ∧ n ≤ 1000000000) : FnEq Try.prog 50 [.agg (gridC false g), .int n] (.agg (spottedC (descE g n))) := by
  have h1 := hg.all
  have h2 := hg.each
  have h3 := hg.count
  have h4 := hg.pads
  have hw := hg.w
  have hh := hg.h
  have ht := hg.tracks
  have h5 := hg.wh
  have hc : countF g = allI g + 2 * g.pads := rfl
  have e : g.w * g.h * eachI g = allI g := rfl
  refine FnEq.of_awp Try.func50 ok50 (by show 2 ≤ _; decide) (by simp only [push_cast, reduceIte, Nat.reduceEqDiff, Nat.reduceAdd, Nat.reduceSub, Nat.reduceMul, Nat.reduceBEq, Nat.reduceLT, Nat.reduceLeDiff, reduceCtorEq, Int.reduceToNat, Int.reduceNeg] <;> first | exact fun _ _ => trivial | simp) ?_
  simp only [ac50, rv50, push_cast, reduceIte, Nat.reduceEqDiff, Nat.reduceAdd, Nat.reduceSub, Nat.reduceMul, Nat.reduceBEq, Nat.reduceLT, Nat.reduceLeDiff, reduceCtorEq, Int.reduceToNat, Int.reduceNeg]
  refine cut_of ⟨[(1, .int n), (2, .ptr 2 0), (4, .ptr 4 0), (18, .bool (decide (n < 0 ∨ countF g ≤ n)))], [(2, gridC false g), (4, [.int 0, .int 0, .int 0, .int 0, .int 0])], [], []⟩ ?_ ?_
  · refine grd_decf rfl (fun h => ?_) fun h => ?_ <;> simp only [push_cast, reduceIte, Nat.reduceEqDiff, Nat.reduceAdd, Nat.reduceSub, Nat.reduceMul, Nat.reduceBEq, Nat.reduceLT, Nat.reduceLeDiff, reduceCtorEq, Int.reduceToNat, Int.reduceNeg]
    · rw [decide_eq_true (show n < 0 ∨ countF g ≤ n from .inl h)]
    · refine cal_sub (rcount_ok g hg) (by simp only [push_cast, reduceIte, Nat.reduceEqDiff, Nat.reduceAdd, Nat.reduceSub, Nat.reduceMul, Nat.reduceBEq, Nat.reduceLT, Nat.reduceLeDiff, reduceCtorEq, Int.reduceToNat, Int.reduceNeg]) ?_
      simp only [push_cast, reduceIte, Nat.reduceEqDiff, Nat.reduceAdd, Nat.reduceSub, Nat.reduceMul, Nat.reduceBEq, Nat.reduceLT, Nat.reduceLeDiff, reduceCtorEq, Int.reduceToNat, Int.reduceNeg]
      rw [show decide (countF g ≤ n) = decide (n < 0 ∨ countF g ≤ n) from by rw [decide_eq_decide]; omega]
  simp only [push_cast, reduceIte, Nat.reduceEqDiff, Nat.reduceAdd, Nat.reduceSub, Nat.reduceMul, Nat.reduceBEq, Nat.reduceLT, Nat.reduceLeDiff, reduceCtorEq, Int.reduceToNat, Int.reduceNeg]
  refine cond_dec (fun h => ?_) fun h => ?_
  · rw [descE, if_pos h]
    simp only [push_cast, reduceIte, Nat.reduceEqDiff, Nat.reduceAdd, Nat.reduceSub, Nat.reduceMul, Nat.reduceBEq, Nat.reduceLT, Nat.reduceLeDiff, reduceCtorEq, Int.reduceToNat, Int.reduceNeg]
  have hE : descE g n = (descF g n, 0) := by rw [descE, if_neg h]
  rw [hE]
  refine ⟨by omega, ?_⟩
  refine dcal_sub (reach_ok g hg) (by simp only [push_cast, reduceIte, Nat.reduceEqDiff, Nat.reduceAdd, Nat.reduceSub, Nat.reduceMul, Nat.reduceBEq, Nat.reduceLT, Nat.reduceLeDiff, reduceCtorEq, Int.reduceToNat, Int.reduceNeg]) rfl ?_
  simp only [push_cast, reduceIte, Nat.reduceEqDiff, Nat.reduceAdd, Nat.reduceSub, Nat.reduceMul, Nat.reduceBEq, Nat.reduceLT, Nat.reduceLeDiff, reduceCtorEq, Int.reduceToNat, Int.reduceNeg]
  rw [e]
  refine ⟨by omega, by omega, ?_⟩
  refine cond_dec (fun h6 => ?_) fun h6 => ?_
  · rw [descF, if_pos h6]
    exact ⟨by omega, by omega, by omega, rfl, rfl, rfl, rfl⟩
  refine cond_dec (fun h7 => ?_) fun h7 => ?_
  · rw [descF, if_neg h6, if_pos h7]
    exact ⟨by omega, by omega, rfl, rfl, rfl, rfl⟩
  have hd : descF g n = (if 6 + g.tracks ≤ n % eachI g then ⟨5, n / eachI g % g.w, n / eachI g / g.w, n % eachI g - 6 - g.tracks⟩ else if 6 ≤ n % eachI g then ⟨4, n / eachI g % g.w, n / eachI g / g.w, n % eachI g - 6⟩ else if 2 ≤ n % eachI g then ⟨3, n / eachI g % g.w, n / eachI g / g.w, n % eachI g - 2⟩ else if n % eachI g = 1 then ⟨2, n / eachI g % g.w, n / eachI g / g.w, 0⟩ else ⟨1, n / eachI g % g.w, n / eachI g / g.w, 0⟩) := by rw [descF, if_neg h6, if_neg h7]
  have e1 : 0 ≤ n / eachI g ∧ n / eachI g ≤ n := ⟨Int.ediv_nonneg (by omega) (by omega), Int.ediv_le_self _ (by omega)⟩
  have e2 := Int.emod_nonneg n (show eachI g ≠ 0 by omega)
  have e3 := Int.emod_lt_of_pos n (show 0 < eachI g by omega)
  have e4 : eachI g = 6 + 2 * g.tracks := rfl
  refine dcal_sub (reach_ok g hg) (by simp only [push_cast, reduceIte, Nat.reduceEqDiff, Nat.reduceAdd, Nat.reduceSub, Nat.reduceMul, Nat.reduceBEq, Nat.reduceLT, Nat.reduceLeDiff, reduceCtorEq, Int.reduceToNat, Int.reduceNeg]) rfl ?_
  simp only [push_cast, reduceIte, Nat.reduceEqDiff, Nat.reduceAdd, Nat.reduceSub, Nat.reduceMul, Nat.reduceBEq, Nat.reduceLT, Nat.reduceLeDiff, reduceCtorEq, Int.reduceToNat, Int.reduceNeg]
  refine ⟨by omega, ?_⟩
  refine dcal_sub (reach_ok g hg) (by simp only [push_cast, reduceIte, Nat.reduceEqDiff, Nat.reduceAdd, Nat.reduceSub, Nat.reduceMul, Nat.reduceBEq, Nat.reduceLT, Nat.reduceLeDiff, reduceCtorEq, Int.reduceToNat, Int.reduceNeg]) rfl ?_
  simp only [push_cast, reduceIte, Nat.reduceEqDiff, Nat.reduceAdd, Nat.reduceSub, Nat.reduceMul, Nat.reduceBEq, Nat.reduceLT, Nat.reduceLeDiff, reduceCtorEq, Int.reduceToNat, Int.reduceNeg]
  refine ⟨by omega, by omega, by omega, ?_⟩
  refine cond_dec (fun k0 => ?_) fun k0 => ?_
  · rw [hd, if_neg (show ¬ 6 + g.tracks ≤ n % eachI g by omega), if_neg (show ¬ 6 ≤ n % eachI g by omega), if_neg (show ¬ 2 ≤ n % eachI g by omega), if_neg (show ¬ n % eachI g = 1 by omega)]
    exact ⟨rfl, rfl, rfl, rfl⟩
  refine cond_dec (fun k1 => ?_) fun k1 => ?_
  · rw [hd, if_neg (show ¬ 6 + g.tracks ≤ n % eachI g by omega), if_neg (show ¬ 6 ≤ n % eachI g by omega), if_neg (show ¬ 2 ≤ n % eachI g by omega), if_pos k1]
    exact ⟨rfl, rfl, rfl, rfl⟩
  refine cond_dec (fun k2 => ?_) fun k2 => ?_
  · rw [hd, if_neg (show ¬ 6 + g.tracks ≤ n % eachI g by omega), if_neg (show ¬ 6 ≤ n % eachI g by omega), if_pos (show 2 ≤ n % eachI g by omega)]
    exact ⟨by omega, rfl, rfl, rfl, rfl⟩
  refine ⟨by omega, ?_⟩
  refine cond_dec (fun k3 => ?_) fun k3 => ?_
  · rw [hd, if_neg (show ¬ 6 + g.tracks ≤ n % eachI g by omega), if_pos (show 6 ≤ n % eachI g by omega)]
    exact ⟨by omega, rfl, rfl, rfl, rfl⟩
  · rw [hd, if_pos (show 6 + g.tracks ≤ n % eachI g by omega)]
    exact ⟨by omega, by omega, rfl, rfl, rfl, rfl⟩
def candN (g : Grid) (s : Spot) : Nat → List Int
  | 0 => []
  | k + 1 => candN g s k ++ if CanD g (descF g k) s then [(k : Int)] else []
def rdrF (g : Grid) (n : Int) : List Int := if (descE g n).2 = 0 then candN g (descE g n).1 (countF g).toNat else []
theorem candN_len (g : Grid) (s : Spot) : ∀ k, (candN g s k).length ≤ k
  | 0 => Nat.le_refl _
  | k + 1 => by have := candN_len g s k; rw [candN, List.length_append]; split <;> simp <;> omega
theorem rdrivers_ok (g : Grid) (hg : GOk g) (n : Int) (hn : -1000000000 ≤ n ∧ n ≤ 1000000000) : FnEq Try.prog 31 [.agg (gridC false g), .int n] (.sl true 1 (ints (rdrF g n))) := by
  have h3 := hg.count
  have hD := rdesc_ok g hg n hn
  obtain ⟨c, hc⟩ : ∃ c : Nat, countF g = c := ⟨(countF g).toNat, by omega⟩
  have hct : (countF g).toNat = c := by omega
  refine FnEq.of_awp Try.func31 ok31 (by show 2 ≤ _; decide) (by simp only [push_cast, reduceIte, Nat.reduceEqDiff, Nat.reduceAdd, Nat.reduceSub, Nat.reduceMul, Nat.reduceBEq, Nat.reduceLT, Nat.reduceLeDiff, reduceCtorEq, Int.reduceToNat, Int.reduceNeg] <;> first | exact fun _ _ => trivial | simp) ?_
  simp only [ac31, rv31, push_cast, reduceIte, Nat.reduceEqDiff, Nat.reduceAdd, Nat.reduceSub, Nat.reduceMul, Nat.reduceBEq, Nat.reduceLT, Nat.reduceLeDiff, reduceCtorEq, Int.reduceToNat, Int.reduceNeg]
  by_cases hE : n < 0 ∨ countF g ≤ n
  · have e : descE g n = (⟨0, 0, 0, 0⟩, 1) := by rw [descE, if_pos hE]
    have e2 : rdrF g n = [] := by rw [rdrF, e]; rfl
    rw [e2]
    rw [e] at hD
    refine cal_sub hD (by simp only [push_cast, reduceIte, Nat.reduceEqDiff, Nat.reduceAdd, Nat.reduceSub, Nat.reduceMul, Nat.reduceBEq, Nat.reduceLT, Nat.reduceLeDiff, reduceCtorEq, Int.reduceToNat, Int.reduceNeg]) ?_
    simp only [push_cast, reduceIte, Nat.reduceEqDiff, Nat.reduceAdd, Nat.reduceSub, Nat.reduceMul, Nat.reduceBEq, Nat.reduceLT, Nat.reduceLeDiff, reduceCtorEq, Int.reduceToNat, Int.reduceNeg]
    refine loop_of (fun m st => m = 0 ∧ st = ⟨[(2, .ptr 2 0), (5, .view 8 0 0), (6, .ptr 6 0), (7, .int 0)], [(2, gridC false g), (6, [.int 0, .int 0, .int 0, .int 0, .int 1])], [(8, ⟨1, 3, ints []⟩)], []⟩) 0 ?_ ?_
    · refine ⟨rfl, ?_⟩
      simp only [push_cast, reduceIte, Nat.reduceEqDiff, Nat.reduceAdd, Nat.reduceSub, Nat.reduceMul, Nat.reduceBEq, Nat.reduceLT, Nat.reduceLeDiff, reduceCtorEq, Int.reduceToNat, Int.reduceNeg]
      rfl
    · rintro m st ⟨rfl, rfl⟩
      simp only [push_cast, reduceIte, Nat.reduceEqDiff, Nat.reduceAdd, Nat.reduceSub, Nat.reduceMul, Nat.reduceBEq, Nat.reduceLT, Nat.reduceLeDiff, reduceCtorEq, Int.reduceToNat, Int.reduceNeg]
      refine cal_sub (rcount_ok g hg) (by simp only [push_cast, reduceIte, Nat.reduceEqDiff, Nat.reduceAdd, Nat.reduceSub, Nat.reduceMul, Nat.reduceBEq, Nat.reduceLT, Nat.reduceLeDiff, reduceCtorEq, Int.reduceToNat, Int.reduceNeg]) ?_
      simp only [push_cast, reduceIte, Nat.reduceEqDiff, Nat.reduceAdd, Nat.reduceSub, Nat.reduceMul, Nat.reduceBEq, Nat.reduceLT, Nat.reduceLeDiff, reduceCtorEq, Int.reduceToNat, Int.reduceNeg]
      refine grd_dec rfl (fun _ => ?_) fun h => absurd (by omega) h
      simp only [push_cast, reduceIte, Nat.reduceEqDiff, Nat.reduceAdd, Nat.reduceSub, Nat.reduceMul, Nat.reduceBEq, Nat.reduceLT, Nat.reduceLeDiff, reduceCtorEq, Int.reduceToNat, Int.reduceNeg]
      refine cond_dec (fun h => absurd h (by decide)) fun _ => ?_
      simp
  · have e : descE g n = (descF g n, 0) := by rw [descE, if_neg hE]
    obtain ⟨r1, _⟩ := desc_rng hg hE
    have e2 : rdrF g n = candN g (descF g n) c := by rw [rdrF, e, hct]; rfl
    rw [e2]
    rw [e] at hD
    refine cal_sub hD (by simp only [push_cast, reduceIte, Nat.reduceEqDiff, Nat.reduceAdd, Nat.reduceSub, Nat.reduceMul, Nat.reduceBEq, Nat.reduceLT, Nat.reduceLeDiff, reduceCtorEq, Int.reduceToNat, Int.reduceNeg]) ?_
    simp only [push_cast, reduceIte, Nat.reduceEqDiff, Nat.reduceAdd, Nat.reduceSub, Nat.reduceMul, Nat.reduceBEq, Nat.reduceLT, Nat.reduceLeDiff, reduceCtorEq, Int.reduceToNat, Int.reduceNeg]
    generalize descF g n = s at r1 ⊢
    refine loop_of (fun m st => ∃ k : Nat, k ≤ c ∧ m = c - k ∧ st = ⟨[(2, .ptr 2 0), (5, .view 8 0 (candN g s k).length), (6, .ptr 6 0), (7, .int k)], [(2, gridC false g), (6, [.int s.kind, .int s.x, .int s.y, .int s.i, .int 0])], [(8, ⟨1, 3, ints (candN g s k)⟩)], []⟩) c ?_ ?_
    · refine ⟨0, by omega, by omega, ?_⟩
      simp only [push_cast, reduceIte, Nat.reduceEqDiff, Nat.reduceAdd, Nat.reduceSub, Nat.reduceMul, Nat.reduceBEq, Nat.reduceLT, Nat.reduceLeDiff, reduceCtorEq, Int.reduceToNat, Int.reduceNeg]
      rfl
    · rintro m st ⟨k, hk, rfl, rfl⟩
      have hlen := candN_len g s k
      simp only [push_cast, reduceIte, Nat.reduceEqDiff, Nat.reduceAdd, Nat.reduceSub, Nat.reduceMul, Nat.reduceBEq, Nat.reduceLT, Nat.reduceLeDiff, reduceCtorEq, Int.reduceToNat, Int.reduceNeg]
      refine cal_sub (rcount_ok g hg) (by simp only [push_cast, reduceIte, Nat.reduceEqDiff, Nat.reduceAdd, Nat.reduceSub, Nat.reduceMul, Nat.reduceBEq, Nat.reduceLT, Nat.reduceLeDiff, reduceCtorEq, Int.reduceToNat, Int.reduceNeg]) ?_
      simp only [push_cast, reduceIte, Nat.reduceEqDiff, Nat.reduceAdd, Nat.reduceSub, Nat.reduceMul, Nat.reduceBEq, Nat.reduceLT, Nat.reduceLeDiff, reduceCtorEq, Int.reduceToNat, Int.reduceNeg]
      refine cut_of ⟨[(2, .ptr 2 0), (5, .view 8 0 (candN g s k).length), (6, .ptr 6 0), (7, .int k), (20, .bool (decide (k < c)))], [(2, gridC false g), (6, [.int s.kind, .int s.x, .int s.y, .int s.i, .int 0])], [(8, ⟨1, 3, ints (candN g s k)⟩)], []⟩ ?_ ?_
      · refine grd_dec rfl (fun h => ?_) fun h => ?_ <;> simp only [push_cast, reduceIte, Nat.reduceEqDiff, Nat.reduceAdd, Nat.reduceSub, Nat.reduceMul, Nat.reduceBEq, Nat.reduceLT, Nat.reduceLeDiff, reduceCtorEq, Int.reduceToNat, Int.reduceNeg]
        · rw [decide_eq_true (show k < c by omega)]
        · rw [decide_eq_false (show ¬ k < c by omega)]
      simp only [push_cast, reduceIte, Nat.reduceEqDiff, Nat.reduceAdd, Nat.reduceSub, Nat.reduceMul, Nat.reduceBEq, Nat.reduceLT, Nat.reduceLeDiff, reduceCtorEq, Int.reduceToNat, Int.reduceNeg]
      refine cond_dec (fun h => ?_) fun h => ?_
      · have hk2 : ¬ ((k : Int) < 0 ∨ countF g ≤ k) := by omega
        have ek : descE g k = (descF g k, 0) := by rw [descE, if_neg hk2]
        have hDk := rdesc_ok g hg k (by omega)
        rw [ek] at hDk
        obtain ⟨q1, _⟩ := desc_rng hg hk2
        refine dcal_sub hDk (by simp only [push_cast, reduceIte, Nat.reduceEqDiff, Nat.reduceAdd, Nat.reduceSub, Nat.reduceMul, Nat.reduceBEq, Nat.reduceLT, Nat.reduceLeDiff, reduceCtorEq, Int.reduceToNat, Int.reduceNeg]) rfl ?_
        simp only [push_cast, reduceIte, Nat.reduceEqDiff, Nat.reduceAdd, Nat.reduceSub, Nat.reduceMul, Nat.reduceBEq, Nat.reduceLT, Nat.reduceLeDiff, reduceCtorEq, Int.reduceToNat, Int.reduceNeg]
        refine cal_sub (can_ok g hg (descF g k) s q1 r1) (by simp only [push_cast, reduceIte, Nat.reduceEqDiff, Nat.reduceAdd, Nat.reduceSub, Nat.reduceMul, Nat.reduceBEq, Nat.reduceLT, Nat.reduceLeDiff, reduceCtorEq, Int.reduceToNat, Int.reduceNeg]) ?_
        simp only [push_cast, reduceIte, Nat.reduceEqDiff, Nat.reduceAdd, Nat.reduceSub, Nat.reduceMul, Nat.reduceBEq, Nat.reduceLT, Nat.reduceLeDiff, reduceCtorEq, Int.reduceToNat, Int.reduceNeg]
        have hs : candN g s (k + 1) = candN g s k ++ if CanD g (descF g k) s then [(k : Int)] else [] := rfl
        refine cond_dec (fun h2 => ?_) fun h2 => ?_
        · rw [if_pos h2] at hs
          refine ⟨by simp, by omega, by omega, _, ?_, k + 1, by omega, rfl, ?_⟩
          · omega
          · rw [hs]
            simp
        · rw [if_neg h2, List.append_nil] at hs
          refine ⟨by omega, _, ?_, k + 1, by omega, rfl, ?_⟩
          · omega
          · rw [hs]
            simp
      · rw [show k = c from by omega]
        exact ⟨fun _ _ => trivial, .refl _⟩
end Go.Proofs.Ytledbjkolidhkaa
namespace Go.Vc
open Go Go.RowKit
section
variable {P : Env} {st : St} {K K' : St → Prop}
theorem opsK_mono (hk : ∀ s, K s → K' s) : ∀ (l : List AO) (st : St), opsK P l st K → opsK P l st K'
  | [], st, h => hk st h
  | _ :: r, st, h => grdK_mono (opK_mono fun s hs => opsK_mono hk r s hs) (opsK_mono hk r _) h
theorem dsK_mono (hk : ∀ s, K s → K' s) : ∀ (l : List DO) (st : St), dsK P l st K → dsK P l st K'
  | [], st, h => hk st h
  | x :: r, st, h => by
    have hr := fun s hs => dsK_mono hk r s hs
    unfold dsK at h ⊢
    unfold dopG at h ⊢
    split
    · rename_i hs
      rw [if_pos hs] at h
      refine ⟨h.1, grdK_mono (fun hd => ?_) (hr _) h.2⟩
      unfold dopK at hd ⊢
      split
      · rename_i hop
        rw [hop] at hd
        obtain ⟨post, a, b, c⟩ := hd
        exact ⟨post, a, b, fun r hr' => ⟨(c r hr').1, hr _ (c r hr').2⟩⟩
      · rename_i hop
        have hd : sideOK st x.t x.u x.o.op ∧ opK P x.o st (fun st' => postOK x st' ∧ dsK P r st' K) := by
          split at hd
          · rename_i hop2; exact absurd hop2 (hop _ _)
          · exact hd
        exact ⟨hd.1, opK_mono (fun s hs => ⟨hs.1, hr s hs.2⟩) hd.2⟩
    · rename_i hs
      rw [if_neg hs] at h
      exact grdK_mono (opK_mono hr) (hr _) h
theorem allK_mono {ops : List XO} (hk : ∀ s, K s → K' s) : ∀ (n : Nat) (dn : List Nat) (st : St), allK P ops n dn st K → allK P ops n dn st K'
  | 0, _, st, h => ⟨h.1, hk st h.2⟩
  | n + 1, dn, st, h => ⟨fun e => hk st (h.1 e), fun x hx hr => grdK_mono (opK_mono fun s hs => allK_mono hk n _ s hs) (allK_mono hk n _ _) (h.2 x hx hr)⟩
theorem Exit.thn_mono {next : St → Prop} {Q Q' : Exit → St → Prop} (hq : ∀ e st, Q e st → Q' e st) : ∀ e st, Exit.thn next Q e st → Exit.thn next Q' e st := fun e st h => by
  cases e <;> first | exact h | exact hq _ _ h
theorem Exit.thn_mono2 {next next' : St → Prop} {Q Q' : Exit → St → Prop} (hn : ∀ st, next st → next' st) (hq : ∀ e st, Q e st → Q' e st) : ∀ e st, Exit.thn next Q e st → Exit.thn next' Q' e st := fun e st h => by
  cases e <;> first | exact hn _ h | exact hq _ _ h
theorem Exit.inB_mono {i : Nat} {Q Q' : Exit → St → Prop} (hq : ∀ e st, Q e st → Q' e st) : ∀ e st, Exit.inB i Q e st → Exit.inB i Q' e st := fun e st h => by
  cases e <;> first | exact hq _ _ h | skip
  simp only [Exit.inB] at h ⊢
  split <;> rename_i hi
  · rw [if_pos hi] at h; exact hq _ _ h
  · rw [if_neg hi] at h; exact hq _ _ h
theorem awp_mono : ∀ (ac : AC) {Q Q' : Exit → St → Prop}, (∀ e st, Q e st → Q' e st) → ∀ st, awp P ac Q st → awp P ac Q' st := by
  intro ac
  induction ac with
  | skip => exact fun hq st h => hq _ _ h
  | label => exact fun hq st h => hq _ _ h
  | ret => exact fun hq st h => hq _ _ h
  | exit i => exact fun hq st h => hq _ _ h
  | reg keep ops => exact fun hq st h => opsK_mono (hq _) ops _ h
  | drw keep ops => exact fun hq st h => dsK_mono (hq _) ops _ h
  | dra keep ops => exact fun hq st h => allK_mono (hq _) _ _ _ h
  | seq a b iha ihb => exact fun hq st h => iha (Exit.thn_mono2 (fun s => ihb hq s) hq) st h
  | cond c x y ihx ihy =>
    intro Q Q' hq st h
    simp only [awp, condK] at h ⊢
    split at h
    · exact ⟨fun e => ihx hq st (h.1 e), fun e => ihy hq st (h.2 e)⟩
    · exact h.elim
  | block i b ih => exact fun hq st h => ih (Exit.inB_mono hq) st h
  | loop ks b ih => exact fun hq st ⟨I, n0, h0, hr⟩ => ⟨I, n0, h0, fun n st' hi => ih (Exit.thn_mono hq) st' (hr n st' hi)⟩
  | frz ts c ih => exact fun hq st h => ih hq _ h
  | cut ks c ih => exact fun hq st h => ih hq _ h
  | scope c ih => exact fun hq st h => ih hq _ h
  | wk c ih => exact fun hq st ⟨s0, h1, h2⟩ => ⟨s0, h1, ih hq _ h2⟩
  | rngf ρ ps ass body iha ihb =>
    intro Q Q' hq st h
    refine ⟨h.1, ?_⟩
    have h2 := h.2
    unfold rngK at h2 ⊢
    split at h2
    · exact ⟨h2.1, FnM.mono h2.2 fun _ _ hh => hq _ _ hh⟩
    · exact h2.elim
end
section
variable {w0 : World} {Z0 : Zone} {N : Fr} {Z : Zone} {L : Lay} {st : St} {a : Act} {w : World} {P : Program}
theorem leaves_marks2 {F : Fence} {n : Nat} {fn : Func} {tmps : Array Value} {R : Ending → World → Prop} {ds : List Deferred} {u : FrameMode} (hu : u ≠ .run) : ∀ (l : List Nat) (w : World), l.Nodup → (∀ D ∈ l, w.heap[D]? = some (.deferred (some []))) →
    LeavesInM F n P fn tmps R ds u (shutW w l) → LeavesInM F n P fn tmps R (l.map mark ++ ds) u w
  | [], _, _, _, h => h
  | D :: l, w, hn, hd, h => by
    rw [List.nodup_cons] at hn
    refine ⟨hu, .inl ⟨D, _, rfl, run_takeDeferred (hd D (by simp)), leaves_marks2 hu l _ hn.2 (fun D' hD' => ?_) h⟩⟩
    have hne : D' ≠ D := fun e => hn.1 (by rw [← e]; exact hD')
    rw [World.putObj_heap_other hne]
    exact hd D' (List.mem_cons_of_mem _ hD')
theorem Inv.noDm (h : Inv w0 Z0 N Z L st a w) : Inv w0 Z0 { N with dm := none } Z L st a w := ⟨h.zt, h.z0, h.zn, h.zb, h.below, h.ownb, h.owna, h.injb, h.inja, h.injx, h.boxes, h.arrs, h.ownm, h.injm, h.maps, h.oth, h.yb, h.size, fun _ e => (by cases e), h.slots⟩
theorem Inv.leave2 (h : Inv w0 Z0 N Z L st a w) {x : Bool × List Deferred} (hdm : N.dm = some x) {F : Fence} {n : Nat} {fn : Func} {R : Ending → World → Prop} {u : FrameMode} (hu : u ≠ .run)
    (hR : ∀ w', Inv w0 Z0 { N with dm := none } Z L st a w' → LeavesInM F n P fn a.tmps R x.2 u w') : LeavesInM F n P fn a.tmps R a.defers u w := by
  obtain ⟨l, h1, h2, h3⟩ := h.defers x hdm
  rw [h1.1]
  exact leaves_marks2 hu l w h2.1 (fun D hD => (h3 D hD).1) (hR _ (Inv.shut rfl l h.noDm h2 h3))
def xQ (E : Env) (Q : Exit → St → Prop) : Exit → St → Prop
  | .panic ch, st => E.pan ch st
  | e, st => Q e st
theorem mem_low (K : Nat) {X : Gh} {G : Nat → Value} {n : Nat} {dm : Option (Bool × List Deferred)} (hI : Inv w0 Z0 ⟨n, K, G, X, dm⟩ Z L st a w) : Mem w0 Z0 X G Z L (st.low K) w := by
  have hT := hI.low K
  refine ⟨hT.zt, hT.z0, hT.zn, hT.zb, hT.below, hT.ownb, hT.owna, hT.injb, hT.inja, hT.injx, hT.boxes, hT.arrs, hT.ownm, hT.injm, hT.maps, hT.oth, hT.yb, rfl, fun _ e => (by cases e), fun i v hi => ?_⟩
  have h8 := hT.slots i v hi
  have h9 := (lk_low hi).2
  unfold Fr.val at h8 ⊢
  rw [if_neg (by simp only; omega)] at h8
  rw [if_neg (by simp)]
  exact h8
theorem inv_enter (K : Nat) {X : Gh} {G : Nat → Value} {args : List PV} {vs : Array Value} {m : Nat} (hm : Mem w0 Z0 X G Z L st w) (ha : ArgsR w Z L args vs) (hn : args.length ≤ m) (hlow : st.s.all (fun x => decide (x.1 < K)) = true) {ex : Bool} :
    Inv w0 Z0 ⟨m, K, G, X, some (ex, [])⟩ Z L { st with s := argS K args st.s } { tmps := vs ++ Array.replicate (m - vs.size) undef, defers := [] } w := by
  have hsize : (vs ++ Array.replicate (m - vs.size) undef).size = m := by have := ha.1; simp; omega
  refine ⟨hm.zt, hm.z0, hm.zn, hm.zb, hm.below, hm.ownb, hm.owna, hm.injb, hm.inja, hm.injx, hm.boxes, hm.arrs, hm.ownm, hm.injm, hm.maps, hm.oth, hm.yb, hsize, fun dd e => ⟨[], ⟨by cases e; rfl, fun _ => rfl⟩, ⟨.nil, fun D hD => by cases hD⟩, fun D hD => by cases hD⟩, fun i v hl => ?_⟩
  rw [lk_argS] at hl
  unfold Fr.val
  split at hl
  · rename_i hin
    rw [if_pos ⟨hin.1, by simp only; omega⟩]
    have := ha.2 _ v hl
    have hlt : i - K < vs.size := by rw [ha.1]; exact (List.getElem?_eq_some_iff.1 hl).1
    have e : (vs ++ Array.replicate (m - vs.size) undef).getD (i - K) undef = vs.getD (i - K) undef := by
      simp only [Array.getD_eq_getD_getElem?, Array.getElem?_append_left hlt]
    simp only at e ⊢
    rw [e]; exact this
  · have hi : i < K := by
      have := List.all_eq_true.1 hlow _ (lk_mem hl)
      simpa using this
    rw [if_neg (by simp only; omega)]
    have := hm.slots i v hl
    have e : (⟨0, 0, G, X, none⟩ : Fr).val ⟨#[], []⟩ i = G i := by simp [Fr.val]
    rwa [e] at this
theorem FnX.of_awp {E : Env} {f : Nat} {fn : Func} {ac : AC} {rvs : List RV} {args : List PV} {Q : PV → St → Prop} (K : Nat) (hf : E.p.funcs[f]? = some fn) (hok : fnOkK E.p K ac rvs fn = true) (hn : args.length ≤ fn.ntmps)
    (hlow : st.s.all (fun x => decide (x.1 < K)) = true) (hkk : E.kk ≤ K) (hpl : ∀ ch st, E.pan ch st → E.pan ch (st.low K)) (h : awp E ac (retM K rvs Q) { st with s := argS K args st.s }) : FnX E f args st Q := by
  simp only [fnOkK, Bool.and_eq_true] at hok
  obtain ⟨⟨hb, hr⟩, hname⟩ := hok
  split at hb
  · rename_i c hc
    refine ⟨by simp [funOk, hf, hc]; simpa using hname, fun w0 Z0 X G Z L w vs hE hm ha => ?_⟩
    have hinit := inv_enter K hm ha hn hlow (ex := false)
    have h' := awp_mono (Q' := xQ E (retM K rvs Q)) ac (fun e st hh => by cases e <;> first | exact hh | (simp [retM, isEnd] at hh)) _ h
    refine callsIn_wide (n := 0) |>.1 (callsIn_of_wp_marks hf hc trivial ?_)
    refine wpIn_mono (awp_sound (P := E) (w0 := w0) (Z0 := Z0) ac (N := ⟨fn.ntmps, K, G, X, some (false, [])⟩) (ro := none) (n := 0) hE hkk c (xQ E (retM K rvs Q)) _ _ w (.inr ⟨rfl, fun dd e => by cases e; rfl⟩) (fun l st hh => by simp [xQ, retM, isEnd] at hh) (fun ch st hh => hh) hb h' ⟨_, _, hinit⟩) ?_
    rintro e a' w' ⟨st', hq, Z', L', hI⟩
    have hend : ∀ e, retM K rvs Q e st' → LeavesInM Fence.wide 0 E.p fn a'.tmps (fun e w' => (∃ v r st' Z' L', e = .returned v ∧ Q r st' ∧ Mem w0 Z0 X G Z' L' st' w' ∧ VR w' Z' L' r v) ∨ (∃ ch st' Z' L', e = .panicked ch ∧ E.pan ch st' ∧ Mem w0 Z0 X G Z' L' st' w')) a'.defers .returning w' := by
      rintro e ⟨he, h1, hfl, h3⟩
      have hnt' : ∀ cs ds, (resM st' rvs).2 = .tup cs → .tup ds ∉ cs := fun cs ds e hm => by rw [e] at hfl; have := List.all_eq_true.1 hfl _ hm; simp [isTup] at this
      refine hI.leave2 rfl (by simp) fun w2 hI3 => ?_
      obtain ⟨v, hrun, hvr⟩ := resM_run hI3 hr h1 hnt'
      exact ⟨v, hrun, .inl ⟨v, _, st'.low K, Z', L', rfl, h3, mem_low K hI3, hvr⟩⟩
    cases e <;> first | exact hend _ hq | (simp [xQ, retM, isEnd] at hq; done) | skip
    rename_i ch
    have hq : E.pan ch st' := hq
    show LeavesInM _ _ _ _ _ _ _ _ _
    exact hI.leave2 rfl (by simp) fun w2 hI3 => .inr ⟨ch, st'.low K, Z', L', rfl, hpl ch st' hq, mem_low K hI3⟩
  · cases hb
theorem callsDIn_wpS {n f : Nat} {fn : Func} {c : Code} {args : Array Value} {u : FrameMode} {R : Ending → FrameMode → World → Prop}
    (hf : P.funcs[f]? = some fn) (hb : fn.body = some c)
    (h : ∀ (c₀ : Frame) (cs : List Frame), c₀.mode = u → c.wpS P (bodyPostS P fn c₀ cs R) { tmps := args ++ Array.replicate (fn.ntmps - args.size) undef, defers := [] } (c₀ :: cs) w) :
    CallsDIn Fence.wide n P f args u w R := by
  refine ⟨trivial, fun c₀ cs hu _ => ?_⟩
  let b : Frame := { (default : Frame) with fn := f, kind := .deferred }
  have henter : Frame.enter P f args .deferred =
      b.at { tmps := args ++ Array.replicate (fn.ntmps - args.size) undef, defers := [] } [.code c] := by
    simp [Frame.enter, Frame.at, hf, hb, b]
  obtain ⟨e, a', cs', w', hq, harr⟩ := h c₀ cs hu b [] rfl rfl
  rw [← henter] at harr
  cases e with
  | normal =>
    obtain ⟨hd, u', rfl, v, hr, hR⟩ := hq
    exact ⟨.returned v, u', w', _, hR, comesIn_wide.2 (Steps.trans harr (.one step_end)), rfl, rfl, rfl, hd, fn, hf, hr⟩
  | ret =>
    obtain ⟨hd, u', rfl, v, hr, hR⟩ := hq
    obtain ⟨todo, hs⟩ := harr
    exact ⟨.returned v, u', w', _, hR, comesIn_wide.2 hs, rfl, rfl, rfl, hd, fn, hf, hr⟩
  | panic chain =>
    obtain ⟨hd, u', rfl, hR⟩ := hq
    obtain ⟨todo, hs⟩ := harr
    exact ⟨.panicked chain, u', w', _, hR, comesIn_wide.2 hs, rfl, rfl, rfl, hd, fn, hf⟩
  | exit id => exact hq.elim
  | goto l => exact hq.elim
  | outgrown =>
    obtain ⟨u', hR⟩ := hq
    exact ⟨.outgrown, u', w', b, hR, comesIn_wide.2 (harr.resolve_left (by simp [b])), rfl, rfl, trivial⟩
def capV (L : Lay) (ids : List Nat) : Array Value := (ids.map fun i => Value.pointer (some ⟨L.bx i, 0, none⟩)).toArray
def FnD (P : Program) (g : Nat) (ids : List Nat) (u u' : FrameMode) (st : St) (Q : St → Prop) : Prop :=
  ∀ (w0 : World) (Z0 : Zone) (X : Gh) (G : Nat → Value) (Z : Zone) (L : Lay) (w : World), Mem w0 Z0 X G Z L st w →
    CallsDIn Fence.wide 0 P g (capV L ids) u w fun e u1 w' => (∃ v, e = .returned v) ∧ u1 = u' ∧ ∃ st' Z' L', Q st' ∧ Mem w0 Z0 X G Z' L' st' w'
def rcvd : FrameMode → Value → FrameMode → Prop
  | .returning, v, u' => v = .nilIface ∧ u' = .returning
  | .panicking [⟨x, false, false⟩], v, u' => v = x ∧ u' = .panicking [⟨x, true, false⟩]
  | _, _, _ => False
def rcvOk (P : Program) (K : Nat) (ac : AC) (d : Nat) (fn : Func) : Bool :=
  (match fn.body with
  | some (.seq (.region _ os false) c) => (match os.toList with
    | [o] => o.guard.isNone && o.dst == some d && (match o.op with | .call c => (match c.callee with | .builtin .recover => true | _ => false) && c.args.isEmpty | _ => false)
    | _ => false) && noRng ac && chk P ⟨K, fn.ntmps⟩ ac c
  | _ => false) && rvsOk P ⟨K, fn.ntmps⟩ [] fn.results.toList && decide (d < fn.ntmps)
theorem FnD.of_awp {g : Nat} {fn : Func} {ac : AC} {d : Nat} {ids : List Nat} {u u' : FrameMode} {v : Value} {Q : St → Prop} (K : Nat) (hf : P.funcs[g]? = some fn) (hok : rcvOk P K ac d fn = true) (hn : ids.length ≤ fn.ntmps)
    (hlow : st.s.all (fun x => decide (x.1 < K)) = true) (hr : rcvd u v u') (hv : scOk v = true)
    (h : awp (Env.of P) ac (fun e st' => isEnd e = true ∧ Q (st'.low K)) { st with s := up (argS K (ids.map fun i => .ptr i 0) st.s) (K + d) (.sc v) }) : FnD P g ids u u' st Q := by
  intro w0 Z0 X G Z L w hm
  simp only [rcvOk, Bool.and_eq_true, decide_eq_true_eq] at hok
  obtain ⟨⟨hb, hres⟩, hd⟩ := hok
  split at hb
  · rename_i id os c hc
    simp only [Bool.and_eq_true] at hb
    obtain ⟨⟨ho, hnr⟩, hck⟩ := hb
    split at ho
    · rename_i o hos
      simp only [Bool.and_eq_true, beq_iff_eq, Option.isNone_iff_eq_none] at ho
      obtain ⟨⟨hgd, hdst⟩, hop⟩ := ho
      have hos' : os = #[o] := by
        have : os = os.toList.toArray := by simp
        rw [this, hos]
      subst hos'
      have ha : ArgsR w Z L (ids.map fun i => PV.ptr i 0) (capV L ids) := args_caps ids
      have hinit := inv_enter K hm ha (by simpa using hn) hlow (ex := true)
      have hput := hinit.put (d := some (K + d)) (d' := some d) ⟨rfl, hd⟩ (v := .sc v) (u := v) (TR.sc v hv)
      have hexec : ∀ ρ : Operand → Value, (execOp ρ o).run P w = .ok .recover w := fun ρ => by
        split at hop
        · rename_i cl hcl
          simp only [Bool.and_eq_true] at hop
          obtain ⟨h1, h2⟩ := hop
          split at h1
          · rename_i hcal
            simp [execOp, hcl, resolve, hcal, invoke, builtin]
          · cases h1
        · cases hop
      refine callsDIn_wpS hf hc fun c₀ cs hu => wpS_seq (wpS_region ?_)
      have hw : ∀ y, Region.wanted o y = true := fun y => by simp [Region.wanted, hgd]
      obtain ⟨cs', hcs', hgo⟩ : ∃ cs', (∃ u1, u1 = u' ∧ cs' = { c₀ with mode := u1 } :: cs) ∧ ((recoverD (c₀ :: cs) = some (v, cs')) ∨ (recoverD (c₀ :: cs) = none ∧ v = .nilIface ∧ cs' = c₀ :: cs)) := by
        subst hu
        unfold rcvd at hr
        split at hr
        · rename_i hmode
          obtain ⟨rfl, rfl⟩ := hr
          refine ⟨c₀ :: cs, ⟨_, rfl, by rw [← hmode]⟩, .inr ⟨by simp [recoverD, hmode], rfl, rfl⟩⟩
        · rename_i x hmode
          obtain ⟨rfl, rfl⟩ := hr
          refine ⟨_, ⟨_, rfl, rfl⟩, .inl (by simp [recoverD, hmode])⟩
        · exact hr.elim
      have key : c.wpS P (bodyPostS P fn c₀ cs fun e u1 w' => (∃ v, e = .returned v) ∧ u1 = u' ∧ ∃ st' Z' L', Q st' ∧ Mem w0 Z0 X G Z' L' st' w')
          (({ tmps := capV L ids ++ Array.replicate (fn.ntmps - (capV L ids).size) undef, defers := [] } : Act).put (some d) v) cs' w := by
        refine wpS_of_wp (wpIn_wide (n := 0) |>.1 ?_)
        refine wpIn_mono (awp_sound (P := Env.of P) (w0 := w0) (Z0 := Z0) ac (N := ⟨fn.ntmps, K, G, X, some (true, [])⟩) (ro := none) (n := 0) (EnvOK.of P _ _ _ _) (Nat.zero_le _) c _ _ _ w (.inl hnr) (fun l st hh => by simp [isEnd] at hh) (fun ch st hh => hh.elim) hck h ⟨_, _, hput⟩) ?_
        rintro e a' w' ⟨st', ⟨he, hQ⟩, Z', L', hI⟩
        obtain ⟨l, ⟨hl, hex⟩, _⟩ := hI.defers _ rfl
        have hl0 := hex rfl
        subst hl0
        obtain ⟨v', hrun, _⟩ := resM_run hI (rvs := []) hres (by intro r hr; cases hr) (by intro cs ds e hm; cases e; cases hm)
        obtain ⟨u1, rfl, rfl⟩ := hcs'
        have fin : a'.defers = [] ∧ ∃ u', (({ c₀ with mode := u1 } :: cs : List Frame) = { c₀ with mode := u' } :: cs) ∧ ∃ v, (results fn a'.tmps).run P w' = .ok v w' ∧ ((∃ v', Ending.returned v = .returned v') ∧ u' = u1 ∧ ∃ st' Z' L', Q st' ∧ Mem w0 Z0 X G Z' L' st' w') :=
          ⟨hl, u1, rfl, v', hrun, ⟨_, rfl⟩, rfl, st'.low K, Z', L', hQ, mem_low K hI⟩
        cases e <;> first | exact fin | (simp [isEnd] at he)
      show wpOpsS P #[o] _ [0] _ _ _
      simp only [wpOpsS, List.getElem?_toArray, List.getElem?_cons_zero, hw, if_true, hexec]
      rcases hgo with hgo | ⟨hgo, rfl, rfl⟩
      · simp only [hgo, hdst]
        exact key
      · simp only [hgo, hdst]
        exact key
    · cases ho
  · cases hb
def dfrC (κ : Sh) (t : Nat) : Op → Bool
  | .defer c => c.args.isEmpty && (match c.callee with | .value y => opdOk κ (.t t) y | _ => false)
  | _ => false
def dfOk (P : Program) (a0 : AC) (t g : Nat) (ts : List Nat) (a2 : AC) (rvs : List RV) (fn : Func) : Bool :=
  (match fn.body with
  | some (.seq c0 (.seq (.region _ os false) c2)) => noRng a0 && noRng a2 && chk P ⟨0, fn.ntmps⟩ a0 c0 && chk P ⟨0, fn.ntmps⟩ a2 c2 && (match os.toList with
    | [o1, o2] => o1.guard.isNone && o2.guard.isNone && okAny P ⟨0, fn.ntmps⟩ (.mkf g (ts.map Opd.t)) (some t) o1.dst o1.op && o2.dst.isNone && dfrC ⟨0, fn.ntmps⟩ t o2.op
    | _ => false)
  | _ => false) && rvsOk P ⟨0, fn.ntmps⟩ rvs fn.results.toList && funOk P g
def dfrK (P : Program) (g : Nat) (ids : List Nat) (n : Nat) (rvs : List RV) (post : PV → Prop) : Exit → St → Prop := fun e st => isEnd e = true ∧ lk st.s n = some (.clo g ids) ∧ FnD P g ids .returning .returning st fun st' => retK rvs post .ret st'
theorem FnOK.of_dfr {f : Nat} {fn : Func} {a0 a2 : AC} {t g : Nat} {ts : List Nat} {rvs : List RV} {args : List PV} {post : PV → Prop} {ids : List Nat} {pan : List PanicEntry → St → Prop}
    (hf : P.funcs[f]? = some fn) (hok : dfOk P a0 t g ts a2 rvs fn = true) (hn : args.length ≤ fn.ntmps)
    (hpan : ∀ ch st, pan ch st → lk st.s fn.ntmps = some (.clo g ids) ∧ ∃ u', settle u' = .returning ∧ FnD P g ids (.panicking ch) u' st fun st' => retK rvs post .ret st')
    (h : awp (Env.of P) a0 (fun e st => e = .normal ∧ opsK (Env.of P) [⟨some t, none, .mkf g (ts.map Opd.t)⟩] st fun st' => lk st'.s t = some (.clo g ids) ∧ st'.s.all (fun x => decide (x.1 < fn.ntmps)) = true ∧
      awp ⟨P, 0, fun _ _ _ _ => False, pan⟩ a2 (dfrK P g ids fn.ntmps rvs post) { st' with s := up st'.s fn.ntmps (.clo g ids) }) ⟨slots0 args, [], [], []⟩) : FnOK P f args post := by
  intro w Z zt zb vs hsz hrel
  simp only [dfOk, Bool.and_eq_true] at hok
  obtain ⟨⟨hb, hr⟩, hg⟩ := hok
  split at hb
  · rename_i c0 id os c2 hc
    simp only [Bool.and_eq_true] at hb
    obtain ⟨⟨⟨⟨hn0, hn2⟩, hc0⟩, hc2⟩, ho⟩ := hb
    split at ho
    · rename_i o1 o2 hos
      simp only [Bool.and_eq_true, Option.isNone_iff_eq_none] at ho
      obtain ⟨⟨⟨⟨hg1, hg2⟩, hk1⟩, hd2⟩, hk2⟩ := ho
      have hsize : (vs ++ Array.replicate (fn.ntmps - vs.size) undef).size = fn.ntmps := by simp; omega
      have hinit : Inv w Z ⟨fn.ntmps, 0, fun _ => undef, ⟨[], fun _ => 0⟩, some (true, [])⟩ Z L00 ⟨slots0 args, [], [], []⟩ { tmps := vs ++ Array.replicate (fn.ntmps - vs.size) undef, defers := [] } w := by
        refine ⟨zt, fun _ _ h => h, fun _ _ h => .inl h, zb, Below.refl _ _, ?_, ?_, ?_, ?_, ?_, ?_, ?_, ?_, ?_, ?_, fun x hx => (by cases hx), fun _ => rfl, hsize, fun dd e => ⟨[], ⟨by cases e; rfl, fun _ => rfl⟩, ⟨.nil, fun D hD => by cases hD⟩, fun D hD => by cases hD⟩, ?_⟩
        · intro id cs hl; simp [lk] at hl
        · intro id cs hl; simp [lk] at hl
        · intro i j x y hl; simp [lk] at hl
        · intro i j x y hl; simp [lk] at hl
        · intro i j x y hl; simp [lk] at hl
        · intro id cs hl; simp [lk] at hl
        · intro id cs hl; simp [lk] at hl
        · intro id cs hl; simp [lk] at hl
        · intro i j x y hl; simp [lk] at hl
        · intro id cs hl; simp [lk] at hl
        · intro i v hl
          simp only [lk_slots0] at hl
          have hi : i < vs.size := by rw [hsz]; exact (List.getElem?_eq_some_iff.1 hl).1
          have := hrel i v hl
          have e : (vs ++ Array.replicate (fn.ntmps - vs.size) undef).getD i undef = vs.getD i undef := by
            simp only [Array.getD_eq_getD_getElem?, Array.getElem?_append_left hi]
          unfold Fr.val
          rw [if_pos ⟨Nat.zero_le _, by simp only; omega⟩]
          simp only [Nat.sub_zero] at e ⊢
          rw [e]
          exact this.vr _
      refine callsIn_wide (n := 0) |>.1 (callsIn_of_wp_marks hf hc trivial ?_)
      refine wpIn_seq (wpIn_mono (awp_sound (P := Env.of P) (w0 := w) (Z0 := Z) a0 (N := ⟨fn.ntmps, 0, fun _ => undef, ⟨[], fun _ => 0⟩, some (true, [])⟩) (ro := none) (n := 0) (EnvOK.of P _ _ _ _) (Nat.le_refl _) c0 _ _ _ w (.inl hn0) (fun l st hh => by cases hh.1) (fun ch st hh => hh.elim) hc0 h ⟨_, _, hinit⟩) ?_)
      rintro e a1 w1 ⟨st1, ⟨rfl, h1⟩, Z1, L1, hI1⟩
      refine wpIn_seq (wpIn_region_list ?_)
      rw [hos]
      have hw1 : ∀ y, Region.wanted o1 y = true := fun y => by simp [Region.wanted, hg1]
      have hw2 : ∀ y, Region.wanted o2 y = true := fun y => by simp [Region.wanted, hg2]
      unfold wpListIn
      rw [if_pos (hw1 _)]
      have h1' : opK (Env.of P) ⟨some t, none, .mkf g (ts.map Opd.t)⟩ st1 (fun st' => lk st'.s t = some (.clo g ids) ∧ st'.s.all (fun x => decide (x.1 < fn.ntmps)) = true ∧
        awp ⟨P, 0, fun _ _ _ _ => False, pan⟩ a2 (dfrK P g ids fn.ntmps rvs post) { st' with s := up st'.s fn.ntmps (.clo g ids) }) := h1
      refine Oper.wpIn_mono ?_ (opK_wp (ro := none) (P := Env.of P) (EnvOK.of P _ _ _ _) (Nat.le_refl _) hI1 (ao := ⟨some t, none, .mkf g (ts.map Opd.t)⟩) hk1 h1' (fun ch a w hh => by obtain ⟨_, hh, _⟩ := hh; exact hh.elim))
      rintro a3 w3 ⟨st3, ⟨hl3, hall, h3⟩, Z3, L3, hI3⟩
      unfold wpListIn
      rw [if_pos (hw2 _)]
      have hv3 : ∃ c, o2.op = .defer c ∧ c.args = #[] ∧ ∃ y, c.callee = .value y ∧ a3.eval y = .func (.func g) #[] (capV L3 ids) := by
        unfold dfrC at hk2
        split at hk2
        · rename_i c hc
          simp only [Bool.and_eq_true] at hk2
          obtain ⟨h5, h6⟩ := hk2
          split at h6
          · rename_i y hy
            refine ⟨c, hc, by simpa using h5, y, hy, ?_⟩
            have h7 := hI3.ev h6
            have h8 : Opd.ev st3 (.t t) = .clo g ids := by simp [Opd.ev, St.get, hl3]
            rw [h8] at h7
            exact h7
          · cases h6
        · cases hk2
      obtain ⟨cl, hop, hargs, y, hy, hev⟩ := hv3
      have hexec : (execOp a3.eval o2).run P w3 = .ok (.defer { target := .fn (.func g) (capV L3 ids), args := #[] }) w3 := by
        simp [execOp, hop, resolve, hy, hev, hargs, Deferred.ofValue]
      have hsem : o2.semAt none a3.eval = execOp a3.eval o2 := rfl
      refine ⟨fun _ _ => trivial, ?_⟩
      show o2.uponIn Fence.wide 0 P a3 _ _ ((o2.semAt none a3.eval).run P w3)
      rw [hsem, hexec, Oper.uponIn_defer, hd2]
      unfold wpListIn
      obtain ⟨l3, ⟨hdl, hex⟩, _⟩ := hI3.defers _ rfl
      have hl0 := hex rfl
      subst hl0
      have hdl : a3.defers = [] := hdl
      obtain ⟨D, hD⟩ : ∃ D : Deferred, D = { target := .fn (.func g) (capV L3 ids), args := #[] } := ⟨_, rfl⟩
      rw [← hD]
      obtain ⟨N2, hN2⟩ : ∃ N2 : Fr, N2 = ⟨fn.ntmps, 0, fun i => if i = fn.ntmps then .func (.func g) #[] (capV L3 ids) else undef, ⟨[], fun _ => 0⟩, some (true, [D])⟩ := ⟨_, rfl⟩
      have hI4 : Inv w Z N2 Z3 L3 { st3 with s := up st3.s fn.ntmps (.clo g ids) } { tmps := a3.tmps, defers := D :: a3.defers } w3 := by
        rw [hN2]
        refine ⟨hI3.zt, hI3.z0, hI3.zn, hI3.zb, hI3.below, hI3.ownb, hI3.owna, hI3.injb, hI3.inja, hI3.injx, hI3.boxes, hI3.arrs, hI3.ownm, hI3.injm, hI3.maps, hI3.oth, hI3.yb, hI3.size, fun dd e => ⟨[], ⟨by cases e; rw [hdl]; rfl, fun _ => rfl⟩, ⟨.nil, fun D hD => by cases hD⟩, fun D hD => by cases hD⟩, fun i v hi => ?_⟩
        rw [lk_up] at hi
        unfold Fr.val
        split at hi
        · rename_i e
          cases hi
          rw [if_neg (by simp only; omega)]
          simp only [← e, if_true]
          show _ = _
          rfl
        · have hlt : i < fn.ntmps := by
            have := List.all_eq_true.1 hall _ (lk_mem hi)
            simpa using this
          have h8 := hI3.slots i v hi
          unfold Fr.val at h8
          rw [if_pos ⟨Nat.zero_le _, by simp only; omega⟩] at h8 ⊢
          exact h8
      have hend : ∀ (u u' : FrameMode) (st5 : St) (a5 : Act) (w5 : World) (Z5 : Zone) (L5 : Lay), u ≠ .run → settle u' = .returning → Inv w Z N2 Z5 L5 st5 a5 w5 → lk st5.s fn.ntmps = some (.clo g ids) → FnD P g ids u u' st5 (fun st' => retK rvs post .ret st') →
          LeavesInM Fence.wide 0 P fn a5.tmps (fun e w' => ∃ v r, e = .returned v ∧ post r ∧ TV w' (fun p b => p = true ∧ (Z true b ∨ (w.heap.size ≤ b ∧ b < w'.heap.size))) r v ∧ Below w.heap.size w w') a5.defers u w5 := by
        intro u u' st5 a5 w5 Z5 L5 hu hu' hI5 hl5 hfd
        refine hI5.leave2 (by rw [hN2]) hu fun w6 hI6 => ?_
        have hcap : capV L5 ids = capV L3 ids := by
          have h8 := hI6.slots _ _ hl5
          rw [hN2] at h8
          unfold Fr.val at h8
          rw [if_neg (by simp only; omega)] at h8
          simp only [if_true] at h8
          have h9 : Value.func (.func g) #[] (capV L3 ids) = .func (.func g) #[] (capV L5 ids) := h8
          injection h9 with _ _ h9
          exact h9.symm
        refine ⟨hu, .inr ⟨fun h => (by simp [Fence.wide] at h), .func g, capV L3 ids, g, capV L3 ids, by rw [hD], ?_, fun _ _ => trivial, ?_⟩⟩
        · rw [hD]
          have := funOk_spec (P := Env.of P) (w := w6) hg (capV L3 ids)
          simp [invoke, this]
        · obtain ⟨lm, _, hmem⟩ := hI6.mem
          have hcall := hfd w Z _ _ Z5 L5 w6 hmem
          rw [hcap] at hcall
          refine CallsDIn.mono hcall ?_
          rintro e u1 w7 ⟨⟨v, rfl⟩, rfl, st7, Z7, L7, ⟨_, r1, hfl, r2, r3⟩, hm7⟩
          simp only [hu']
          have hI7 : Inv w Z { N2 with dm := none } Z7 L7 st7 a5 w7 := Inv.back (N := { N2 with dm := none }) hm7 hI6.size (fun _ e => by cases e)
          have hr' : rvsOk P ({ N2 with dm := none } : Fr).sh rvs fn.results.toList = true := by rw [hN2]; exact hr
          have hnt' : ∀ cs ds, (resV st7 rvs).2 = .tup cs → .tup ds ∉ cs := fun cs ds e hm => by rw [e] at hfl; have := List.all_eq_true.1 hfl _ hm; simp [isTup] at this
          obtain ⟨Z8, v8, hI8, hrun, hvr⟩ := resV_run hI7 hr' r1 hnt'
          have htv : TV w7 (fun p b => p = true ∧ (Z true b ∨ (w.heap.size ≤ b ∧ b < w7.heap.size))) (resV st7 rvs).2 v8 := by
            refine (VR.perm hvr r2).zone ?_
            rintro p b ⟨rfl, hb'⟩
            exact ⟨rfl, (hI8.zn true b hb').imp (fun e => e) (fun e => ⟨e, hI8.zb true b hb'⟩)⟩
          exact ⟨v8, hrun, v8, _, rfl, r3, htv, hI8.below⟩
      have hE2 : EnvOK ⟨P, 0, fun _ _ _ _ => False, pan⟩ w Z N2.X N2.G := fun _ _ _ _ _ _ _ _ _ _ _ _ _ h => h.elim
      have h3' := awp_mono (Q' := xQ ⟨P, 0, fun _ _ _ _ => False, pan⟩ (dfrK P g ids fn.ntmps rvs post)) a2 (fun e st hh => by cases e <;> first | exact hh | (simp [dfrK, isEnd] at hh)) _ h3
      refine wpIn_mono (awp_sound (P := ⟨P, 0, fun _ _ _ _ => False, pan⟩) (w0 := w) (Z0 := Z) a2 (N := N2) (ro := none) (n := 0) hE2 (Nat.zero_le _) c2 (xQ _ _) _ _ _ (.inl hn2) (fun l st hh => by simp [xQ, dfrK, isEnd] at hh) (fun ch st hh => hh) (by rw [hN2]; exact hc2) h3' ⟨_, _, hI4⟩) ?_
      rintro e a5 w5 ⟨st5, hq, Z5, L5, hI5⟩
      cases e <;> first | exact hend .returning .returning st5 a5 w5 Z5 L5 (by simp) rfl hI5 hq.2.1 hq.2.2 | (simp [xQ, dfrK, isEnd] at hq; done) | skip
      rename_i ch
      obtain ⟨hl5, u', hu', hfd⟩ := hpan ch st5 hq
      exact hend (.panicking ch) u' st5 a5 w5 Z5 L5 (by simp) hu' hI5 hl5 hfd
    · cases ho
  · cases hb
end
end Go.Vc
namespace Go.Proofs.Ytledbjkolidhkaa.Txt
open Go Go.Vc
set_option maxRecDepth 100000
def ac20_100 : AC :=
 (.seq (.reg [100, 17, 100] [
 ⟨some 101, none, .box (.t 100)⟩, ⟨some 102, none, .alc [.nil, .nil, .nil, .nil]⟩])
 (.seq (.reg [100, 17, 101, 102] [
 ⟨some 104, none, .fa 4 (.t 101)⟩, ⟨some 105, none, .ld false 1 (.t 104)⟩, ⟨some 106, none, .len (.t 105)⟩, ⟨some 103, none, .mv (.t 106)⟩])
 (.seq (.drw [100, 17, 101, 102, 103] [
 ⟨⟨some 107, none, .ld true 5 (.t 101)⟩, [], [111, 113, 115], true⟩, ⟨⟨some 108, none, .cal 40 [(.t 107)]⟩, [], [111, 113, 115], true⟩, ⟨⟨some 109, none, .mks 1 3 8 [.sc (.int .i64 0)] (.t 108) (.t 108)⟩, [109], [111, 113, 115], true⟩, ⟨⟨some 110, none, .mv (.t 103)⟩, [], [109, 113, 115], true⟩, ⟨⟨some 111, none, .mks 1 3 8 [.sc (.int .i64 0)] (.t 110) (.t 110)⟩, [111], [109, 113, 115], true⟩, ⟨⟨some 112, none, .mv (.t 103)⟩, [], [109, 111, 115], true⟩, ⟨⟨some 113, none, .mks 1 3 8 [.sc (.int .i64 0)] (.t 112) (.t 112)⟩, [113], [109, 111, 115], true⟩, ⟨⟨some 114, none, .mv (.t 103)⟩, [], [109, 111, 113], true⟩, ⟨⟨some 115, none, .mks 1 3 8 [.sc (.int .i64 0)] (.t 114) (.t 114)⟩, [115], [109, 111, 113], true⟩, ⟨⟨some 116, none, .bld [.nil, .nil, .nil, .nil] [(0, 1, (.t 109)), (1, 1, (.t 111)), (2, 1, (.t 113)), (3, 1, (.t 115))]⟩, [], [], false⟩, ⟨⟨none, none, .sto 4 (.t 102) (.t 116)⟩, [], [], false⟩])
 .ret)))
def rv20_100 : List RV := [.cell 102 true 4]
theorem ok20_100 : fnOkK Try.prog 100 ac20_100 rv20_100 Try.f20 = true := by kernel_rfl

def ac56 : AC :=
 (.seq (.reg [0, 6, 0] [
 ⟨some 2, none, .mv (.t 0)⟩, ⟨some 3, none, .not (.t 2)⟩])
 (.cond (.t 3)
 (.reg [0, 6] [
 ⟨some 4, none, .bld [] []⟩, ⟨some 5, none, .xo (.pf (.mki 115)) [(.t 4)]⟩, ⟨none, none, .pan (.t 5)⟩])
 .skip))
def rv56 : List RV := []
theorem ok56 : fnOk Try.prog ac56 rv56 Try.f56 = true := by kernel_rfl

def ac76_300 : AC :=
 (.seq (.reg [300, 28, 300, 301] [
 ⟨some 304, none, .mv (.t 301)⟩, ⟨some 305, none, .mv (.t 300)⟩, ⟨some 306, none, .nck (.t 305)⟩, ⟨some 307, none, .fa 5 (.t 306)⟩, ⟨some 308, none, .fa 0 (.t 307)⟩, ⟨some 309, none, .ld false 1 (.t 308)⟩, ⟨some 310, none, .len (.t 309)⟩, ⟨some 311, none, .ari .sub true .i64 (.t 310) (.c (.sc (.int .i64 1)))⟩, ⟨some 312, none, .cal 41 [(.t 304), (.c (.sc (.int .i64 0))), (.t 311)]⟩, ⟨some 313, none, .mv (.t 312)⟩, ⟨some 314, some (313, true), .mv (.t 300)⟩, ⟨some 315, some (313, true), .nck (.t 314)⟩, ⟨some 316, some (313, true), .fa 9 (.t 315)⟩, ⟨some 317, some (313, true), .ld false 1 (.t 316)⟩, ⟨some 318, some (313, true), .mv (.t 301)⟩, ⟨some 319, some (313, true), .mlk (.int .i64) false (.sc (.bool false)) (.t 317) (.t 318)⟩, ⟨some 320, some (313, true), .not (.t 319)⟩, ⟨some 321, none, .pick (.t 313) (.t 320) (.c (.sc (.bool false)))⟩, ⟨some 322, none, .clx 56 [(.t 321)]⟩])
 (.cut [300, 28, 300, 301] (.reg [300, 28, 300, 301] [
 ⟨some 323, none, .mv (.t 300)⟩, ⟨some 324, none, .nck (.t 323)⟩, ⟨some 325, none, .fa 9 (.t 324)⟩, ⟨some 326, none, .ld false 1 (.t 325)⟩, ⟨some 327, none, .mv (.t 301)⟩, ⟨none, none, .mup (.int .i64) (.t 326) (.t 327) (.c (.sc (.bool true)))⟩])))
def rv76_300 : List RV := []
theorem ok76_300 : fnOkK Try.prog 300 ac76_300 rv76_300 Try.f76 = true := by kernel_rfl

def ac57_100_q5 : AC :=
 (.drw [100, 132, 100, 102, 104] [
 ⟨⟨some 169, none, .mv (.t 100)⟩, [], [], true⟩, ⟨⟨some 170, none, .nck (.t 169)⟩, [], [], true⟩, ⟨⟨some 171, none, .fa 5 (.t 170)⟩, [], [], true⟩, ⟨⟨some 172, none, .fa 1 (.t 171)⟩, [], [], true⟩, ⟨⟨some 173, none, .ld false 1 (.t 172)⟩, [], [], true⟩, ⟨⟨some 174, none, .mv (.t 102)⟩, [], [], true⟩, ⟨⟨some 175, none, .mv (.t 100)⟩, [], [], true⟩, ⟨⟨some 176, none, .nck (.t 175)⟩, [], [], true⟩, ⟨⟨some 177, none, .fa 5 (.t 176)⟩, [], [], true⟩, ⟨⟨some 178, none, .fa 3 (.t 177)⟩, [], [], true⟩, ⟨⟨some 179, none, .ld false 1 (.t 178)⟩, [], [], true⟩, ⟨⟨some 180, none, .mv (.t 102)⟩, [], [], true⟩, ⟨⟨some 181, none, .fa 2 (.t 104)⟩, [], [], true⟩, ⟨⟨some 182, none, .ld false 1 (.t 181)⟩, [], [111], true⟩, ⟨⟨some 183, none, .ixs 1 (.t 173) (.t 174)⟩, [], [], true⟩, ⟨⟨none, none, .sto 1 (.t 183) (.c (.sc (.int .i64 3)))⟩, [], [111], true⟩, ⟨⟨some 184, none, .ixs 1 (.t 179) (.t 180)⟩, [], [], false⟩, ⟨⟨none, none, .sto 1 (.t 184) (.t 182)⟩, [], [], false⟩])
def ac57_100_q7 : AC :=
 (.drw [100, 132, 100, 102, 104] [
 ⟨⟨some 189, none, .mv (.t 100)⟩, [], [], true⟩, ⟨⟨some 190, none, .nck (.t 189)⟩, [], [], true⟩, ⟨⟨some 191, none, .fa 5 (.t 190)⟩, [], [], true⟩, ⟨⟨some 192, none, .fa 1 (.t 191)⟩, [], [], true⟩, ⟨⟨some 193, none, .ld false 1 (.t 192)⟩, [], [], true⟩, ⟨⟨some 194, none, .mv (.t 102)⟩, [], [], true⟩, ⟨⟨some 195, none, .mv (.t 100)⟩, [], [], true⟩, ⟨⟨some 196, none, .nck (.t 195)⟩, [], [], true⟩, ⟨⟨some 197, none, .fa 5 (.t 196)⟩, [], [], true⟩, ⟨⟨some 198, none, .fa 2 (.t 197)⟩, [], [], true⟩, ⟨⟨some 199, none, .ld false 1 (.t 198)⟩, [], [], true⟩, ⟨⟨some 200, none, .mv (.t 102)⟩, [], [], true⟩, ⟨⟨some 201, none, .mv (.t 100)⟩, [], [], true⟩, ⟨⟨some 202, none, .nck (.t 201)⟩, [], [], true⟩, ⟨⟨some 203, none, .fa 5 (.t 202)⟩, [], [], true⟩, ⟨⟨some 204, none, .fa 3 (.t 203)⟩, [], [], true⟩, ⟨⟨some 205, none, .ld false 1 (.t 204)⟩, [], [], true⟩, ⟨⟨some 206, none, .mv (.t 102)⟩, [], [], true⟩, ⟨⟨some 207, none, .fa 1 (.t 104)⟩, [], [], true⟩, ⟨⟨some 208, none, .ld false 1 (.t 207)⟩, [], [111], true⟩, ⟨⟨some 209, none, .fa 3 (.t 104)⟩, [], [], true⟩, ⟨⟨some 210, none, .ld false 1 (.t 209)⟩, [], [111, 113], true⟩, ⟨⟨some 211, none, .ixs 1 (.t 193) (.t 194)⟩, [], [], true⟩, ⟨⟨none, none, .sto 1 (.t 211) (.c (.sc (.int .i64 2)))⟩, [], [111], true⟩, ⟨⟨some 212, none, .ixs 1 (.t 199) (.t 200)⟩, [], [], true⟩, ⟨⟨none, none, .sto 1 (.t 212) (.t 208)⟩, [], [113], true⟩, ⟨⟨some 213, none, .ixs 1 (.t 205) (.t 206)⟩, [], [], false⟩, ⟨⟨none, none, .sto 1 (.t 213) (.t 210)⟩, [], [], false⟩])
def ac57_100_q3 : AC :=
 (.drw [100, 132, 100, 102, 104] [
 ⟨⟨some 149, none, .mv (.t 100)⟩, [], [], true⟩, ⟨⟨some 150, none, .nck (.t 149)⟩, [], [], true⟩, ⟨⟨some 151, none, .fa 5 (.t 150)⟩, [], [], true⟩, ⟨⟨some 152, none, .fa 1 (.t 151)⟩, [], [], true⟩, ⟨⟨some 153, none, .ld false 1 (.t 152)⟩, [], [], true⟩, ⟨⟨some 154, none, .mv (.t 102)⟩, [], [], true⟩, ⟨⟨some 155, none, .mv (.t 100)⟩, [], [], true⟩, ⟨⟨some 156, none, .nck (.t 155)⟩, [], [], true⟩, ⟨⟨some 157, none, .fa 5 (.t 156)⟩, [], [], true⟩, ⟨⟨some 158, none, .fa 2 (.t 157)⟩, [], [], true⟩, ⟨⟨some 159, none, .ld false 1 (.t 158)⟩, [], [], true⟩, ⟨⟨some 160, none, .mv (.t 102)⟩, [], [], true⟩, ⟨⟨some 161, none, .fa 1 (.t 104)⟩, [], [], true⟩, ⟨⟨some 162, none, .ld false 1 (.t 161)⟩, [], [111], true⟩, ⟨⟨some 163, none, .ixs 1 (.t 153) (.t 154)⟩, [], [], true⟩, ⟨⟨none, none, .sto 1 (.t 163) (.c (.sc (.int .i64 1)))⟩, [], [111], true⟩, ⟨⟨some 164, none, .ixs 1 (.t 159) (.t 160)⟩, [], [], false⟩, ⟨⟨none, none, .sto 1 (.t 164) (.t 162)⟩, [], [], false⟩])
def ac57_100_q8 : AC :=
 (.drw [100, 132, 100, 102] [
 ⟨⟨some 214, none, .mv (.t 100)⟩, [], [], true⟩, ⟨⟨some 215, none, .nck (.t 214)⟩, [], [], true⟩, ⟨⟨some 216, none, .fa 0 (.t 215)⟩, [], [], true⟩, ⟨⟨some 217, none, .fa 4 (.t 216)⟩, [], [], true⟩, ⟨⟨some 218, none, .ld false 1 (.t 217)⟩, [], [], true⟩, ⟨⟨some 219, none, .mv (.t 102)⟩, [], [], true⟩, ⟨⟨some 220, none, .ixs 1 (.t 218) (.t 219)⟩, [], [], true⟩, ⟨⟨some 221, none, .ld false 1 (.t 220)⟩, [], [], true⟩, ⟨⟨some 222, none, .mv (.t 100)⟩, [], [], true⟩, ⟨⟨some 223, none, .nck (.t 222)⟩, [], [], true⟩, ⟨⟨some 224, none, .fa 5 (.t 223)⟩, [], [], true⟩, ⟨⟨some 225, none, .fa 1 (.t 224)⟩, [], [], true⟩, ⟨⟨some 226, none, .ld false 1 (.t 225)⟩, [], [], true⟩, ⟨⟨some 227, none, .mv (.t 102)⟩, [], [], true⟩, ⟨⟨some 228, none, .ixs 1 (.t 226) (.t 227)⟩, [], [], true⟩, ⟨⟨some 229, none, .ld false 1 (.t 228)⟩, [], [], true⟩, ⟨⟨some 230, none, .cal 68 [(.t 221), (.t 229)]⟩, [], [], false⟩, ⟨⟨some 231, none, .clx 56 [(.t 230)]⟩, [], [], false⟩])
def ac57_100 : AC :=
 (.seq (.reg [100, 132, 100, 101, 102] [
 ⟨some 104, none, .box (.t 101)⟩])
 (.seq (.reg [100, 132, 100, 102, 104] [
 ⟨some 106, none, .mv (.t 102)⟩, ⟨some 107, none, .mv (.t 100)⟩, ⟨some 108, none, .nck (.t 107)⟩, ⟨some 109, none, .fa 0 (.t 108)⟩, ⟨some 110, none, .fa 4 (.t 109)⟩, ⟨some 111, none, .ld false 1 (.t 110)⟩, ⟨some 112, none, .len (.t 111)⟩, ⟨some 113, none, .ari .sub true .i64 (.t 112) (.c (.sc (.int .i64 1)))⟩, ⟨some 114, none, .cal 41 [(.t 106), (.c (.sc (.int .i64 0))), (.t 113)]⟩, ⟨some 115, none, .mv (.t 114)⟩, ⟨some 116, some (115, true), .mv (.t 100)⟩, ⟨some 117, some (115, true), .nck (.t 116)⟩, ⟨some 118, some (115, true), .fa 5 (.t 117)⟩, ⟨some 119, some (115, true), .fa 1 (.t 118)⟩, ⟨some 120, some (115, true), .ld false 1 (.t 119)⟩, ⟨some 121, some (115, true), .mv (.t 102)⟩, ⟨some 122, some (115, true), .ixs 1 (.t 120) (.t 121)⟩, ⟨some 123, some (115, true), .ld false 1 (.t 122)⟩, ⟨some 124, some (115, true), .cmp .eql .i64 (.t 123) (.c (.sc (.int .i64 0)))⟩, ⟨some 125, none, .pick (.t 115) (.t 124) (.c (.sc (.bool false)))⟩, ⟨some 126, none, .clx 56 [(.t 125)]⟩])
 (.cut [100, 132, 100, 102, 104] (.seq (.reg [100, 132, 100, 102, 104] [
 ⟨some 127, none, .fa 2 (.t 104)⟩, ⟨some 128, none, .ld false 1 (.t 127)⟩, ⟨some 129, none, .cal 41 [(.t 128), (.c (.sc (.int .i64 (-1)))), (.c (.sc (.int .i64 255)))]⟩, ⟨some 130, none, .mv (.t 129)⟩, ⟨some 131, some (130, true), .fa 3 (.t 104)⟩, ⟨some 132, some (130, true), .ld false 1 (.t 131)⟩, ⟨some 133, some (130, true), .cal 41 [(.t 132), (.c (.sc (.int .i64 (-1)))), (.c (.sc (.int .i64 255)))]⟩, ⟨some 134, none, .pick (.t 130) (.t 133) (.c (.sc (.bool false)))⟩, ⟨some 135, none, .mv (.t 134)⟩, ⟨some 136, some (135, true), .fa 1 (.t 104)⟩, ⟨some 137, some (135, true), .ld false 1 (.t 136)⟩, ⟨some 138, some (135, true), .cal 41 [(.t 137), (.c (.sc (.int .i64 0))), (.c (.sc (.int .i64 65535)))]⟩, ⟨some 139, none, .pick (.t 135) (.t 138) (.c (.sc (.bool false)))⟩, ⟨some 140, none, .mv (.t 139)⟩, ⟨some 141, some (140, true), .fa 2 (.t 104)⟩, ⟨some 142, some (140, true), .ld false 1 (.t 141)⟩, ⟨some 143, some (140, true), .fa 3 (.t 104)⟩, ⟨some 144, some (140, true), .ld false 1 (.t 143)⟩, ⟨some 145, some (140, true), .mn false (.t 142) (.t 144)⟩, ⟨some 146, some (140, true), .cmp .eql .i64 (.t 145) (.c (.sc (.int .i64 (-1))))⟩, ⟨some 147, none, .pick (.t 140) (.t 146) (.c (.sc (.bool false)))⟩, ⟨some 148, none, .clx 56 [(.t 147)]⟩])
 (.cut [100, 132, 100, 102, 104] (.seq (.block 0
 (.seq (.reg [100, 132, 100, 102, 104] [
 ⟨some 166, none, .fa 2 (.t 104)⟩, ⟨some 167, none, .ld false 1 (.t 166)⟩, ⟨some 168, none, .cmp .geq .i64 (.t 167) (.c (.sc (.int .i64 0)))⟩, ⟨some 165, none, .mv (.t 168)⟩])
 (.cond (.t 165)
 ac57_100_q5
 (.seq (.reg [100, 132, 100, 102, 104] [
 ⟨some 186, none, .fa 3 (.t 104)⟩, ⟨some 187, none, .ld false 1 (.t 186)⟩, ⟨some 188, none, .cmp .geq .i64 (.t 187) (.c (.sc (.int .i64 0)))⟩, ⟨some 185, none, .mv (.t 188)⟩])
 (.cond (.t 185)
 ac57_100_q7
 ac57_100_q3)))))
 ac57_100_q8))))))
def rv57_100 : List RV := []
theorem ok57_100 : fnOkK Try.prog 100 ac57_100 rv57_100 Try.f57 = true := by kernel_rfl

def ac58_100_q10 : AC :=
 (.drw [100, 88, 100, 103, 104, 105, 106, 131, 132, 133] [
 ⟨⟨some 163, none, .mv (.t 106)⟩, [], [], true⟩, ⟨⟨some 164, none, .fa 1 (.t 103)⟩, [], [], true⟩, ⟨⟨some 165, none, .ld false 1 (.t 164)⟩, [], [], true⟩, ⟨⟨some 166, none, .fa 2 (.t 103)⟩, [], [], true⟩, ⟨⟨some 167, none, .ld false 1 (.t 166)⟩, [], [], true⟩, ⟨⟨some 168, none, .mv (.t 104)⟩, [], [], true⟩, ⟨⟨some 169, none, .ixs 1 (.t 167) (.t 168)⟩, [], [], true⟩, ⟨⟨some 170, none, .ld false 1 (.t 169)⟩, [], [], true⟩, ⟨⟨some 171, none, .ixs 1 (.t 165) (.t 170)⟩, [], [], true⟩, ⟨⟨some 172, none, .ld false 1 (.t 171)⟩, [], [], true⟩, ⟨⟨some 173, none, .cal 77 [(.t 163), (.t 172)]⟩, [], [], false⟩, ⟨⟨some 162, none, .mv (.t 173)⟩, [], [], false⟩, ⟨⟨some 174, none, .ext (.t 162) 0⟩, [], [], true⟩, ⟨⟨some 175, none, .ext (.t 162) 1⟩, [], [], true⟩, ⟨⟨some 107, none, .mv (.t 174)⟩, [], [], true⟩, ⟨⟨some 108, none, .mv (.t 175)⟩, [], [], false⟩])
def ac58_100 : AC :=
 (.seq (.reg [100, 88, 100, 101] [
 ⟨some 103, none, .box (.t 101)⟩])
 (.seq (.reg [100, 88, 100, 103] [
 ⟨some 109, none, .fa 1 (.t 103)⟩, ⟨some 110, none, .ld false 1 (.t 109)⟩, ⟨some 111, none, .len (.t 110)⟩, ⟨some 112, none, .cmp .gtr .i64 (.t 111) (.c (.sc (.int .i64 0)))⟩, ⟨some 113, none, .mv (.t 112)⟩, ⟨some 114, some (113, true), .fa 2 (.t 103)⟩, ⟨some 115, some (113, true), .ld false 1 (.t 114)⟩, ⟨some 116, some (113, true), .len (.t 115)⟩, ⟨some 117, some (113, true), .fa 1 (.t 103)⟩, ⟨some 118, some (113, true), .ld false 1 (.t 117)⟩, ⟨some 119, some (113, true), .len (.t 118)⟩, ⟨some 120, some (113, true), .cmp .eql .i64 (.t 116) (.t 119)⟩, ⟨some 121, none, .pick (.t 113) (.t 120) (.c (.sc (.bool false)))⟩, ⟨some 122, none, .mv (.t 121)⟩, ⟨some 123, some (122, true), .fa 2 (.t 103)⟩, ⟨some 124, some (122, true), .ld false 1 (.t 123)⟩, ⟨some 125, some (122, true), .ixs 1 (.t 124) (.c (.sc (.int .i64 0)))⟩, ⟨some 126, some (122, true), .ld false 1 (.t 125)⟩, ⟨some 127, some (122, true), .cmp .eql .i64 (.t 126) (.c (.sc (.int .i64 (-1))))⟩, ⟨some 128, none, .pick (.t 122) (.t 127) (.c (.sc (.bool false)))⟩, ⟨some 129, none, .clx 56 [(.t 128)]⟩])
 (.cut [100, 88, 100, 103] (.seq (.reg [100, 88, 100, 103] [
 ⟨some 130, none, .fa 1 (.t 103)⟩, ⟨some 131, none, .ld false 1 (.t 130)⟩, ⟨some 132, none, .len (.t 131)⟩, ⟨some 133, none, .mv (.c (.sc (.int .i64 0)))⟩])
 (.block 0
 (.loop [100, 88, 100, 103, 131, 132, 133]
 (.seq (.reg [100, 88, 100, 103, 131, 132, 133] [
 ⟨some 134, none, .cmp .lss .i64 (.t 133) (.t 132)⟩])
 (.seq (.cond (.t 134)
 .skip
 (.exit 0))
 (.seq (.block 1
 (.seq (.reg [100, 88, 100, 103, 131, 132, 133] [
 ⟨some 135, none, .mv (.t 133)⟩, ⟨some 136, none, .ixs 1 (.t 131) (.t 133)⟩, ⟨some 137, none, .ld false 1 (.t 136)⟩, ⟨some 104, none, .mv (.t 135)⟩, ⟨some 105, none, .mv (.t 137)⟩])
 (.seq (.reg [100, 88, 100, 103, 104, 105, 131, 132, 133] [
 ⟨some 138, none, .mv (.t 100)⟩, ⟨some 139, none, .mv (.t 105)⟩, ⟨some 140, none, .clx 76 [(.t 138), (.t 139)]⟩])
 (.seq (.reg [100, 88, 100, 103, 104, 105, 131, 132, 133] [
 ⟨some 141, none, .mv (.t 100)⟩, ⟨some 142, none, .nck (.t 141)⟩, ⟨some 143, none, .fa 0 (.t 142)⟩, ⟨some 144, none, .ld true 5 (.t 143)⟩, ⟨some 145, none, .mv (.t 105)⟩, ⟨some 146, none, .cal 42 [(.t 144), (.t 145)]⟩, ⟨some 106, none, .mv (.t 146)⟩])
 (.seq (.seq (.reg [100, 88, 100, 103, 104, 105, 106, 131, 132, 133] [
 ⟨some 147, none, .mv (.t 104)⟩, ⟨some 148, none, .cmp .eql .i64 (.t 147) (.c (.sc (.int .i64 0)))⟩])
 (.cond (.t 148)
 (.seq (.reg [100, 88, 100, 103, 106, 131, 132, 133] [
 ⟨some 149, none, .mv (.t 106)⟩, ⟨some 150, none, .len (.t 149)⟩, ⟨some 151, none, .cmp .eql .i64 (.t 150) (.c (.sc (.int .i64 0)))⟩, ⟨some 152, none, .clx 56 [(.t 151)]⟩])
 (.exit 1))
 .skip))
 (.seq (.reg [100, 88, 100, 103, 104, 105, 106, 131, 132, 133] [
 ⟨some 153, none, .fa 2 (.t 103)⟩, ⟨some 154, none, .ld false 1 (.t 153)⟩, ⟨some 155, none, .mv (.t 104)⟩, ⟨some 156, none, .ixs 1 (.t 154) (.t 155)⟩, ⟨some 157, none, .ld false 1 (.t 156)⟩, ⟨some 158, none, .mv (.t 104)⟩, ⟨some 159, none, .ari .sub true .i64 (.t 158) (.c (.sc (.int .i64 1)))⟩, ⟨some 160, none, .cal 41 [(.t 157), (.c (.sc (.int .i64 0))), (.t 159)]⟩, ⟨some 161, none, .clx 56 [(.t 160)]⟩])
 (.seq ac58_100_q10
 (.seq (.reg [100, 88, 100, 103, 105, 107, 108, 131, 132, 133] [
 ⟨some 176, none, .mv (.t 108)⟩, ⟨some 177, none, .clx 56 [(.t 176)]⟩])
 (.reg [100, 88, 100, 103, 105, 107, 131, 132, 133] [
 ⟨some 178, none, .mv (.t 100)⟩, ⟨some 179, none, .nck (.t 178)⟩, ⟨some 180, none, .fa 5 (.t 179)⟩, ⟨some 181, none, .fa 0 (.t 180)⟩, ⟨some 182, none, .ld false 1 (.t 181)⟩, ⟨some 183, none, .mv (.t 105)⟩, ⟨some 184, none, .mv (.t 107)⟩, ⟨some 185, none, .ari .add true .i64 (.c (.sc (.int .i64 1))) (.t 184)⟩, ⟨some 186, none, .ixs 1 (.t 182) (.t 183)⟩, ⟨none, none, .sto 1 (.t 186) (.t 185)⟩])))))))))
 (.reg [100, 88, 100, 103, 131, 132, 133] [
 ⟨some 187, none, .ari .add true .i64 (.t 133) (.c (.sc (.int .i64 1)))⟩, ⟨some 133, none, .mv (.t 187)⟩]))))))))))
def rv58_100 : List RV := []
theorem ok58_100 : fnOkK Try.prog 100 ac58_100 rv58_100 Try.f58 = true := by kernel_rfl

def ac55_700 : AC :=
 (.block 0
 (.seq (.reg [700, 12, 700, 701, 705] [
 ⟨some 707, none, .xo (.pf (.ieq false)) [(.t 705)]⟩])
 (.cond (.t 707)
 (.reg [700, 12, 705] [
 ⟨some 702, none, .mv (.t 705)⟩])
 (.seq (.reg [700, 12, 700, 701, 705] [
 ⟨some 708, none, .xo (.pf (.tas 115)) [(.t 705)]⟩, ⟨some 709, none, .ext (.t 708) 1⟩, ⟨some 710, none, .ext (.t 708) 0⟩])
 (.cond (.t 709)
 (.seq (.reg [700, 12, 700, 701, 710] [
 ⟨some 703, none, .alc []⟩, ⟨none, none, .sto 0 (.t 703) (.t 710)⟩])
 (.reg [700, 12, 700, 701] [
 ⟨some 711, none, .bld [.nil, .nil, .nil, .nil] []⟩, ⟨none, none, .sto 4 (.t 700) (.t 711)⟩, ⟨none, none, .sto 1 (.t 701) (.c (.sc (.int .i64 350)))⟩]))
 (.seq (.reg [700, 12, 705] [
 ⟨some 704, none, .mv (.t 705)⟩])
 (.reg [700, 12, 704] [
 ⟨some 706, none, .mv (.t 704)⟩, ⟨none, none, .pan (.t 706)⟩])))))))
theorem ok55_700 : rcvOk Try.prog 700 ac55_700 5 Try.f55 = true := by kernel_rfl

def xs36_2 : List XO := [⟨0, [], ⟨some 14, none, .ld true 5 (.t 4)⟩⟩, ⟨1, [], ⟨some 15, none, .ld true 5 (.t 4)⟩⟩, ⟨2, [1], ⟨some 16, none, .clm 20 [(.t 15)]⟩⟩, ⟨3, [], ⟨some 17, none, .mkm (.int .i64)⟩⟩, ⟨4, [0, 2, 3], ⟨some 18, none, .bld [.sc (.int .i64 0), .sc (.int .i64 0), .sc (.int .i64 0), .sc (.int .i64 0), .nil, .nil, .nil, .nil, .nil, .sc (.map none)] [(0, 5, (.t 14)), (5, 4, (.t 16)), (9, 1, (.t 17))]⟩⟩, ⟨5, [4], ⟨some 19, none, .box (.t 18)⟩⟩, ⟨6, [0, 1, 2, 3, 4, 5], ⟨some 8, none, .mv (.t 19)⟩⟩]
theorem xs36_2_all {p : XO → Prop} : (∀ x ∈ xs36_2, p x) ↔ p ⟨0, [], ⟨some 14, none, .ld true 5 (.t 4)⟩⟩ ∧ p ⟨1, [], ⟨some 15, none, .ld true 5 (.t 4)⟩⟩ ∧ p ⟨2, [1], ⟨some 16, none, .clm 20 [(.t 15)]⟩⟩ ∧ p ⟨3, [], ⟨some 17, none, .mkm (.int .i64)⟩⟩ ∧ p ⟨4, [0, 2, 3], ⟨some 18, none, .bld [.sc (.int .i64 0), .sc (.int .i64 0), .sc (.int .i64 0), .sc (.int .i64 0), .nil, .nil, .nil, .nil, .nil, .sc (.map none)] [(0, 5, (.t 14)), (5, 4, (.t 16)), (9, 1, (.t 17))]⟩⟩ ∧ p ⟨5, [4], ⟨some 19, none, .box (.t 18)⟩⟩ ∧ p ⟨6, [0, 1, 2, 3, 4, 5], ⟨some 8, none, .mv (.t 19)⟩⟩ := by simp only [xs36_2, List.forall_mem_cons, List.not_mem_nil, false_implies, implies_true, and_true]
def ac36 : AC :=
 (.reg [0, 60, 0, 1, 2] [
 ⟨some 3, none, .box (.t 0)⟩, ⟨some 4, none, .box (.t 1)⟩, ⟨some 5, none, .box (.t 2)⟩, ⟨some 6, none, .alc [.nil, .nil, .nil, .nil]⟩, ⟨some 7, none, .alc [.sc (.int .i64 0)]⟩])
def ac36b : AC :=
 (.seq (.dra [0, 60, 3, 4, 5, 6, 7] xs36_2)
 (.seq (.reg [0, 60, 3, 5, 6, 7, 8] [
 ⟨some 20, none, .fa 0 (.t 5)⟩, ⟨some 21, none, .ld false 1 (.t 20)⟩, ⟨some 22, none, .len (.t 21)⟩, ⟨some 23, none, .fa 1 (.t 3)⟩, ⟨some 24, none, .ld false 1 (.t 23)⟩, ⟨some 25, none, .len (.t 24)⟩, ⟨some 26, none, .cmp .eql .i64 (.t 22) (.t 25)⟩, ⟨some 27, none, .clx 56 [(.t 26)]⟩])
 (.seq (.seq (.reg [0, 60, 3, 5, 6, 7, 8] [
 ⟨some 28, none, .fa 0 (.t 5)⟩, ⟨some 29, none, .ld false 1 (.t 28)⟩, ⟨some 30, none, .len (.t 29)⟩, ⟨some 31, none, .mv (.c (.sc (.int .i64 0)))⟩])
 (.block 0
 (.loop [0, 60, 3, 5, 6, 7, 8, 29, 30, 31]
 (.seq (.reg [0, 60, 3, 5, 6, 7, 8, 29, 30, 31] [
 ⟨some 32, none, .cmp .lss .i64 (.t 31) (.t 30)⟩])
 (.seq (.cond (.t 32)
 .skip
 (.exit 0))
 (.seq (.block 1
 (.seq (.reg [0, 60, 3, 5, 6, 7, 8, 29, 30, 31] [
 ⟨some 33, none, .mv (.t 31)⟩, ⟨some 34, none, .ixs 1 (.t 29) (.t 31)⟩, ⟨some 35, none, .ld false 1 (.t 34)⟩, ⟨some 9, none, .mv (.t 33)⟩, ⟨some 10, none, .mv (.t 35)⟩])
 (.reg [0, 60, 3, 5, 6, 7, 8, 9, 10, 29, 30, 31] [
 ⟨some 36, none, .mv (.t 8)⟩, ⟨some 37, none, .fa 1 (.t 3)⟩, ⟨some 38, none, .ld false 1 (.t 37)⟩, ⟨some 39, none, .mv (.t 9)⟩, ⟨some 40, none, .ixs 5 (.t 38) (.t 39)⟩, ⟨some 41, none, .ld true 5 (.t 40)⟩, ⟨some 42, none, .mv (.t 10)⟩, ⟨some 43, none, .clx 57 [(.t 36), (.t 41), (.t 42)]⟩])))
 (.reg [0, 60, 3, 5, 6, 7, 8, 29, 30, 31] [
 ⟨some 44, none, .ari .add true .i64 (.t 31) (.c (.sc (.int .i64 1)))⟩, ⟨some 31, none, .mv (.t 44)⟩])))))))
 (.seq (.seq (.reg [0, 60, 5, 6, 7, 8] [
 ⟨some 45, none, .fa 1 (.t 5)⟩, ⟨some 46, none, .ld false 1 (.t 45)⟩, ⟨some 47, none, .len (.t 46)⟩, ⟨some 48, none, .mv (.c (.sc (.int .i64 0)))⟩])
 (.block 2
 (.loop [0, 60, 6, 7, 8, 46, 47, 48]
 (.seq (.reg [0, 60, 6, 7, 8, 46, 47, 48] [
 ⟨some 49, none, .cmp .lss .i64 (.t 48) (.t 47)⟩])
 (.seq (.cond (.t 49)
 .skip
 (.exit 2))
 (.seq (.block 3
 (.seq (.reg [0, 60, 6, 7, 8, 46, 47, 48] [
 ⟨some 50, none, .ixs 3 (.t 46) (.t 48)⟩, ⟨some 51, none, .ld true 3 (.t 50)⟩, ⟨some 12, none, .alc [.sc (.int .i64 0), .nil, .nil]⟩, ⟨none, none, .sto 3 (.t 12) (.t 51)⟩])
 (.reg [0, 60, 6, 7, 8, 12, 46, 47, 48] [
 ⟨some 52, none, .mv (.t 8)⟩, ⟨some 53, none, .ld true 3 (.t 12)⟩, ⟨some 54, none, .clx 58 [(.t 52), (.t 53)]⟩])))
 (.reg [0, 60, 6, 7, 8, 46, 47, 48] [
 ⟨some 55, none, .ari .add true .i64 (.t 48) (.c (.sc (.int .i64 1)))⟩, ⟨some 48, none, .mv (.t 55)⟩])))))))
 (.seq (.reg [0, 60, 6, 7, 8] [
 ⟨some 56, none, .mv (.t 8)⟩, ⟨some 57, none, .nck (.t 56)⟩, ⟨some 58, none, .fa 5 (.t 57)⟩, ⟨some 59, none, .ld true 4 (.t 58)⟩, ⟨none, none, .sto 4 (.t 6) (.t 59)⟩, ⟨none, none, .sto 1 (.t 7) (.c (.sc (.int .i64 0)))⟩])
 .ret)))))
def rv36 : List RV := [.cell 6 true 4, .cell 7 false 1]
theorem ok36 : dfOk Try.prog ac36 13 55 [6, 7] ac36b rv36 Try.f36 = true := by kernel_rfl
end Go.Proofs.Ytledbjkolidhkaa.Txt
