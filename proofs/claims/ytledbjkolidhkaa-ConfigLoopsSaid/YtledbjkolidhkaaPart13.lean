/- W X Y Z ZA TxtJ ZB ZC ZD ZE: lemmas for PLoops -/
import Derived.Test.YtledbjkolidhkaaPart12
import Derived.Test.YtledbjkolidhkaaPart05
import Derived.Test.YtledbjkolidhkaaChecked
import Derived.Test.YtledbjkolidhkaaPart07
set_option linter.unusedSimpArgs false
set_option linter.unusedVariables false
namespace Go.Proofs.Ytledbjkolidhkaa
open Go Go.Vc Txt
set_option maxHeartbeats 4000000 in
theorem rtile_ok (g : Grid) (c : Cfg) (t : Int) (ht : 0 ≤ t ∧ t < g.kind.length) (h1 : t < c.mode.length) (h2 : t < c.tab.length) (h3 : t < c.ram.length) :
    FnEq Try.prog 44 [.agg (gridC false g), .agg (cfgC false c), .int t] (.bool (decide (TileOk (g.kind.getD t.toNat default) (c.mode.getD t.toNat default) (c.tab.getD t.toNat default) (c.ram.getD t.toNat default)))) := by
  refine FnEq.of_awp Try.func44 ok44 (by show 3 ≤ _; decide) (by simp only [push_cast, reduceIte, Nat.reduceEqDiff, Nat.reduceAdd, Nat.reduceSub, Nat.reduceMul, Nat.reduceBEq, Nat.reduceLT, Nat.reduceLeDiff, reduceCtorEq, Int.reduceToNat, Int.reduceNeg] <;> first | exact fun _ _ => trivial | simp) ?_
  simp only [ac44, rv44, push_cast, reduceIte, Nat.reduceEqDiff, Nat.reduceAdd, Nat.reduceSub, Nat.reduceMul, Nat.reduceBEq, Nat.reduceLT, Nat.reduceLeDiff, reduceCtorEq, Int.reduceToNat, Int.reduceNeg]
  refine ⟨by omega, by omega, ?_⟩
  generalize hm : c.mode.getD t.toNat default = m
  generalize hk : g.kind.getD t.toNat default = k
  generalize ha : c.tab.getD t.toNat default = a
  generalize hr : c.ram.getD t.toNat default = r
  obtain ⟨B, hB⟩ : ∃ B, B = decide (m < 0 ∨ 3 < m ∨ (k = 0 ∧ m ≠ 0) ∨ (k = 1 ∧ m = 3)) := ⟨_, rfl⟩
  refine cut_of ⟨[(2, .int t), (4, .ptr 4 0), (7, .int m), (44, .bool B)], [(3, gridC false g), (4, cfgC false c)], [], []⟩ ?_ ?_
  · repeat' (first
      | (refine grd_dec rfl (fun _ => ?_) fun _ => ?_ <;> simp only [hk, push_cast, reduceIte, Nat.reduceEqDiff, Nat.reduceAdd, Nat.reduceSub, Nat.reduceMul, Nat.reduceBEq, Nat.reduceLT, Nat.reduceLeDiff, reduceCtorEq, Int.reduceToNat, Int.reduceNeg])
      | (refine grd_decf rfl (fun _ => ?_) fun _ => ?_ <;> simp only [hk, push_cast, reduceIte, Nat.reduceEqDiff, Nat.reduceAdd, Nat.reduceSub, Nat.reduceMul, Nat.reduceBEq, Nat.reduceLT, Nat.reduceLeDiff, reduceCtorEq, Int.reduceToNat, Int.reduceNeg])
      | (refine And.intro (by omega) ?_))
    all_goals first
      | (rw [show B = true from by rw [hB]; exact decide_eq_true (by omega)]; done)
      | (rw [show B = false from by rw [hB]; exact decide_eq_false (by omega)]; done)
      | (rw [show B = decide (m = 3) from by rw [hB, decide_eq_decide]; omega]; done)
      | (rw [show B = decide (¬ m = 0) from by rw [hB, decide_eq_decide]; omega]; done)
  simp only [push_cast, reduceIte, Nat.reduceEqDiff, Nat.reduceAdd, Nat.reduceSub, Nat.reduceMul, Nat.reduceBEq, Nat.reduceLT, Nat.reduceLeDiff, reduceCtorEq, Int.reduceToNat, Int.reduceNeg]
  refine cond_of (fun e => ?_) fun e => ?_
  · rw [hB, decide_eq_true_eq] at e
    rw [decide_eq_false fun h => ?_]
    have h1 := h.1
    have h2 := h.2.1
    unfold holdsF at h2
    by_cases k0 : k = 0
    · rw [if_pos k0] at h2
      simp at h2
      omega
    · rw [if_neg k0] at h2
      by_cases k1 : k = 1
      · rw [if_pos k1] at h2
        simp at h2
        omega
      · omega
  · rw [hB, decide_eq_false_iff_not] at e
    have hh : holdsF k m = true := by
      unfold holdsF
      split
      · simp; omega
      · split
        · simp; omega
        · rfl
    obtain ⟨T1, hT1⟩ : ∃ T1, T1 = decide (m = 1 ∨ m = 2) := ⟨_, rfl⟩
    obtain ⟨R1, hR1⟩ : ∃ R1, R1 = decide (m = 2 ∨ m = 3) := ⟨_, rfl⟩
    refine cut_of ⟨[(2, .int t), (4, .ptr 4 0), (8, .bool T1), (9, .bool R1)], [(3, gridC false g), (4, cfgC false c)], [], []⟩ ?_ ?_
    · repeat' (first
        | (refine grd_dec rfl (fun _ => ?_) fun _ => ?_ <;> simp only [push_cast, reduceIte, Nat.reduceEqDiff, Nat.reduceAdd, Nat.reduceSub, Nat.reduceMul, Nat.reduceBEq, Nat.reduceLT, Nat.reduceLeDiff, reduceCtorEq, Int.reduceToNat, Int.reduceNeg])
        | (refine grd_decf rfl (fun _ => ?_) fun _ => ?_ <;> simp only [push_cast, reduceIte, Nat.reduceEqDiff, Nat.reduceAdd, Nat.reduceSub, Nat.reduceMul, Nat.reduceBEq, Nat.reduceLT, Nat.reduceLeDiff, reduceCtorEq, Int.reduceToNat, Int.reduceNeg]))
      all_goals
        first
          | (rw [show T1 = true from by rw [hT1]; exact decide_eq_true (by omega), show R1 = true from by rw [hR1]; exact decide_eq_true (by omega)]; done)
          | (rw [show T1 = true from by rw [hT1]; exact decide_eq_true (by omega), show R1 = false from by rw [hR1]; exact decide_eq_false (by omega)]; done)
          | (rw [show T1 = true from by rw [hT1]; exact decide_eq_true (by omega), show R1 = decide (m = 3) from by rw [hR1, decide_eq_decide]; omega]; done)
          | (rw [show T1 = false from by rw [hT1]; exact decide_eq_false (by omega), show R1 = true from by rw [hR1]; exact decide_eq_true (by omega)]; done)
          | (rw [show T1 = false from by rw [hT1]; exact decide_eq_false (by omega), show R1 = false from by rw [hR1]; exact decide_eq_false (by omega)]; done)
          | (rw [show T1 = false from by rw [hT1]; exact decide_eq_false (by omega), show R1 = decide (m = 3) from by rw [hR1, decide_eq_decide]; omega]; done)
          | (rw [show T1 = decide (m = 2) from by rw [hT1, decide_eq_decide]; omega, show R1 = true from by rw [hR1]; exact decide_eq_true (by omega)]; done)
          | (rw [show T1 = decide (m = 2) from by rw [hT1, decide_eq_decide]; omega, show R1 = false from by rw [hR1]; exact decide_eq_false (by omega)]; done)
          | (rw [show T1 = decide (m = 2) from by rw [hT1, decide_eq_decide]; omega, show R1 = decide (m = 3) from by rw [hR1, decide_eq_decide]; omega]; done)
    have hT : TileOk k m a r ↔ 0 ≤ a ∧ a ≤ 65535 ∧ (T1 = true ∨ a = 0) ∧ 0 ≤ r ∧ r ≤ 255 ∧ (R1 = true ∨ r = 0) := by
      rw [hT1, hR1, decide_eq_true_eq, decide_eq_true_eq, TileOk]
      constructor
      · rintro ⟨_, _, q1, q2⟩
        split at q1 <;> split at q2 <;> omega
      · intro q
        refine ⟨by omega, hh, ?_, ?_⟩
        · split <;> omega
        · split <;> omega
    clear hT1 hR1 e hh hB
    cases T1 <;> cases R1 <;> simp only [Bool.false_eq_true, eq_self, false_or, true_or, true_and, and_true] at hT <;> simp only [push_cast, reduceIte, Nat.reduceEqDiff, Nat.reduceAdd, Nat.reduceSub, Nat.reduceMul, Nat.reduceBEq, Nat.reduceLT, Nat.reduceLeDiff, reduceCtorEq, Int.reduceToNat, Int.reduceNeg]
    all_goals repeat' (first
      | (refine grd_dec rfl (fun _ => ?_) fun _ => ?_ <;> simp only [ha, hr, push_cast, reduceIte, Nat.reduceEqDiff, Nat.reduceAdd, Nat.reduceSub, Nat.reduceMul, Nat.reduceBEq, Nat.reduceLT, Nat.reduceLeDiff, reduceCtorEq, Int.reduceToNat, Int.reduceNeg])
      | (refine grd_decf rfl (fun _ => ?_) fun _ => ?_ <;> simp only [ha, hr, push_cast, reduceIte, Nat.reduceEqDiff, Nat.reduceAdd, Nat.reduceSub, Nat.reduceMul, Nat.reduceBEq, Nat.reduceLT, Nat.reduceLeDiff, reduceCtorEq, Int.reduceToNat, Int.reduceNeg])
      | (refine And.intro (by omega) ?_))
    all_goals
      first
        | (rw [decide_eq_false fun h => by have := hT.1 h; omega]; done)
        | (rw [decide_eq_true (hT.2 (by omega))]; done)
        | (rw [show decide (TileOk k m a r) = decide (r = 0) from by rw [decide_eq_decide, hT]; omega]; done)
        | (rw [show decide (TileOk k m a r) = decide (r ≤ 255) from by rw [decide_eq_decide, hT]; omega]; done)
def ValidF (g : Grid) (c : Cfg) : Prop := (c.sel.length = (countF g).toNat ∧ c.mode.length = g.kind.length ∧ c.tab.length = g.kind.length ∧ c.ram.length = g.kind.length) ∧
  (∀ i, i < c.sel.length → c.sel.getD i 0 ≠ 0 → 1 ≤ c.sel.getD i 0 ∧ c.sel.getD i 0 ≤ (driversF g i).length) ∧ ∀ t, t < g.kind.length → TileOk (g.kind.getD t 0) (c.mode.getD t 0) (c.tab.getD t 0) (c.ram.getD t 0)
open Classical in
noncomputable def validE (g : Grid) (c : Cfg) : Int := if ValidF g c then 0 else 310
end Go.Proofs.Ytledbjkolidhkaa
namespace Go.Proofs.Ytledbjkolidhkaa
open Go Go.Vc Txt
theorem not_dec {p : Prop} [Decidable p] (h : (!decide p) = true) : ¬ p := by simpa using h
theorem not_dec' {p : Prop} [Decidable p] (h : (!decide p) = false) : p := by simpa using h
def LensOk (g : Grid) (c : Cfg) : Prop := c.sel.length = (countF g).toNat ∧ c.mode.length = g.kind.length ∧ c.tab.length = g.kind.length ∧ c.ram.length = g.kind.length
instance (g : Grid) (c : Cfg) : Decidable (LensOk g c) := by unfold LensOk; infer_instance
def SelAt (g : Grid) (c : Cfg) (i : Nat) : Prop := c.sel.getD i 0 ≠ 0 → 1 ≤ c.sel.getD i 0 ∧ c.sel.getD i 0 ≤ (driversF g i).length
def TileAt (g : Grid) (c : Cfg) (t : Nat) : Prop := TileOk (g.kind.getD t 0) (c.mode.getD t 0) (c.tab.getD t 0) (c.ram.getD t 0)
instance (g : Grid) (c : Cfg) (i : Nat) : Decidable (SelAt g c i) := by unfold SelAt; infer_instance
instance (g : Grid) (c : Cfg) (t : Nat) : Decidable (TileAt g c t) := by unfold TileAt; infer_instance
theorem validE_yes {g : Grid} {c : Cfg} (h1 : LensOk g c) (h2 : ∀ i, i < c.sel.length → SelAt g c i) (h3 : ∀ t, t < g.kind.length → TileAt g c t) : validE g c = 0 := if_pos ⟨h1, h2, h3⟩
theorem validE_len {g : Grid} {c : Cfg} (h : ¬ LensOk g c) : validE g c = 310 := if_neg fun e => h e.1
theorem validE_sel {g : Grid} {c : Cfg} {i : Nat} (hi : i < c.sel.length) (h : ¬ SelAt g c i) : validE g c = 310 := if_neg fun e => h (e.2.1 i hi)
theorem validE_tile {g : Grid} {c : Cfg} {t : Nat} (ht : t < g.kind.length) (h : ¬ TileAt g c t) : validE g c = 310 := if_neg fun e => h (e.2.2 t ht)
set_option maxHeartbeats 4000000 in
theorem valid_ok (g : Grid) (hg : GOk g) (c : Cfg) (hs : CfgSm c) : FnEq Try.prog 18 [.agg (gridC false g), .agg (cfgC false c)] (.int (validE g c)) := by
  have hc := hg.count
  have hk := hg.kind
  have hw := hg.wh
  have s1 := hs.sel
  have s2 := hs.mode
  have s3 := hs.tab
  have s4 := hs.ram
  refine FnEq.of_awp Try.func18 ok18 (by show 2 ≤ _; decide) (by simp only [push_cast, reduceIte, Nat.reduceEqDiff, Nat.reduceAdd, Nat.reduceSub, Nat.reduceMul, Nat.reduceBEq, Nat.reduceLT, Nat.reduceLeDiff, reduceCtorEq, Int.reduceToNat, Int.reduceNeg] <;> first | exact fun _ _ => trivial | simp) ?_
  simp only [ac18, rv18, push_cast, reduceIte, Nat.reduceEqDiff, Nat.reduceAdd, Nat.reduceSub, Nat.reduceMul, Nat.reduceBEq, Nat.reduceLT, Nat.reduceLeDiff, reduceCtorEq, Int.reduceToNat, Int.reduceNeg]
  refine dcal_sub (ccount_ok g hg) (by simp only [push_cast, reduceIte, Nat.reduceEqDiff, Nat.reduceAdd, Nat.reduceSub, Nat.reduceMul, Nat.reduceBEq, Nat.reduceLT, Nat.reduceLeDiff, reduceCtorEq, Int.reduceToNat, Int.reduceNeg]) rfl ?_
  simp only [push_cast, reduceIte, Nat.reduceEqDiff, Nat.reduceAdd, Nat.reduceSub, Nat.reduceMul, Nat.reduceBEq, Nat.reduceLT, Nat.reduceLeDiff, reduceCtorEq, Int.reduceToNat, Int.reduceNeg]
  obtain ⟨B, hB⟩ : ∃ B, B = decide (¬ LensOk g c) := ⟨_, rfl⟩
  refine dcut_of ⟨[(2, .ptr 2 0), (3, .ptr 3 0), (39, .bool B)], [(2, gridC false g), (3, cfgC false c)], [], []⟩ ?_ ?_
  · unfold LensOk at hB
    repeat' (first
      | (refine dgrd_decf rfl (fun _ => ?_) fun _ => ?_ <;> simp only [push_cast, reduceIte, Nat.reduceEqDiff, Nat.reduceAdd, Nat.reduceSub, Nat.reduceMul, Nat.reduceBEq, Nat.reduceLT, Nat.reduceLeDiff, reduceCtorEq, Int.reduceToNat, Int.reduceNeg])
      | (refine dgrd_dec rfl (fun _ => ?_) fun _ => ?_ <;> simp only [push_cast, reduceIte, Nat.reduceEqDiff, Nat.reduceAdd, Nat.reduceSub, Nat.reduceMul, Nat.reduceBEq, Nat.reduceLT, Nat.reduceLeDiff, reduceCtorEq, Int.reduceToNat, Int.reduceNeg]))
    all_goals first
      | (rw [show B = true from by rw [hB]; exact decide_eq_true (by omega)]; done)
      | (rw [show B = decide ((c.ram.length : Int) ≠ g.kind.length) from by rw [hB, decide_eq_decide]; omega]; done)
  simp only [push_cast, reduceIte, Nat.reduceEqDiff, Nat.reduceAdd, Nat.reduceSub, Nat.reduceMul, Nat.reduceBEq, Nat.reduceLT, Nat.reduceLeDiff, reduceCtorEq, Int.reduceToNat, Int.reduceNeg]
  refine cond_of (fun e => ?_) fun e => ?_
  · rw [hB, decide_eq_true_eq] at e
    rw [validE_len e]
  rw [hB, decide_eq_false_iff_not, Classical.not_not] at e
  have el := e
  obtain ⟨q1, q2, q3, q4⟩ := e
  refine loop_of (fun m st => ∃ k : Nat, k ≤ c.sel.length ∧ m = c.sel.length - k ∧ (∀ i, i < k → SelAt g c i) ∧ st = ⟨[(2, .ptr 2 0), (3, .ptr 3 0), (41, .sl false 1 (ints c.sel)), (42, .int c.sel.length), (43, .int k)], [(2, gridC false g), (3, cfgC false c)], [], []⟩) c.sel.length ?_ ?_
  · refine ⟨0, by omega, by omega, fun i hi => by omega, ?_⟩
    simp only [push_cast, reduceIte, Nat.reduceEqDiff, Nat.reduceAdd, Nat.reduceSub, Nat.reduceMul, Nat.reduceBEq, Nat.reduceLT, Nat.reduceLeDiff, reduceCtorEq, Int.reduceToNat, Int.reduceNeg]
  rintro m st ⟨k, hk, rfl, hP, rfl⟩
  simp only [push_cast, reduceIte, Nat.reduceEqDiff, Nat.reduceAdd, Nat.reduceSub, Nat.reduceMul, Nat.reduceBEq, Nat.reduceLT, Nat.reduceLeDiff, reduceCtorEq, Int.reduceToNat, Int.reduceNeg]
  refine cond_dec (fun h => ⟨by omega, by omega, ?_⟩) fun h => ?_
  · have next : SelAt g c k → ∀ i, i < k + 1 → SelAt g c i := fun hs i hi => by
      by_cases e : i = k
      · rw [e]; exact hs
      · exact hP i (by omega)
    have hdl := driversF_len g hg k
    refine grd_dec rfl (fun h2 => ?_) fun h2 => ?_ <;> simp only [push_cast, reduceIte, Nat.reduceEqDiff, Nat.reduceAdd, Nat.reduceSub, Nat.reduceMul, Nat.reduceBEq, Nat.reduceLT, Nat.reduceLeDiff, reduceCtorEq, Int.reduceToNat, Int.reduceNeg]
    · refine cal_sub (drivers_ok g hg k (by omega)) (by simp only [push_cast, reduceIte, Nat.reduceEqDiff, Nat.reduceAdd, Nat.reduceSub, Nat.reduceMul, Nat.reduceBEq, Nat.reduceLT, Nat.reduceLeDiff, reduceCtorEq, Int.reduceToNat, Int.reduceNeg]) ?_
      simp only [push_cast, reduceIte, Nat.reduceEqDiff, Nat.reduceAdd, Nat.reduceSub, Nat.reduceMul, Nat.reduceBEq, Nat.reduceLT, Nat.reduceLeDiff, reduceCtorEq, Int.reduceToNat, Int.reduceNeg]
      refine cal_eq (within_ok _ _ _) ?_
      simp only [push_cast, reduceIte, Nat.reduceEqDiff, Nat.reduceAdd, Nat.reduceSub, Nat.reduceMul, Nat.reduceBEq, Nat.reduceLT, Nat.reduceLeDiff, reduceCtorEq, Int.reduceToNat, Int.reduceNeg]
      refine cond_of (fun h3 => ?_) fun h3 => ?_
      · have h3 : ¬ (1 ≤ c.sel.getD k 0 ∧ c.sel.getD k 0 ≤ (driversF g k).length) := not_dec h3
        rw [validE_sel (i := k) (by omega) (fun hs => h3 (hs h2))]
      · have h3 : 1 ≤ c.sel.getD k 0 ∧ c.sel.getD k 0 ≤ (driversF g k).length := not_dec' h3
        refine ⟨by omega, _, ?_, k + 1, by omega, rfl, next (fun _ => h3), ?_⟩
        · omega
        · simp only [push_cast, reduceIte, Nat.reduceEqDiff, Nat.reduceAdd, Nat.reduceSub, Nat.reduceMul, Nat.reduceBEq, Nat.reduceLT, Nat.reduceLeDiff, reduceCtorEq, Int.reduceToNat, Int.reduceNeg]
    · refine ⟨by omega, _, ?_, k + 1, by omega, rfl, next (fun h3 => absurd h3 h2), ?_⟩
      · omega
      · simp only [push_cast, reduceIte, Nat.reduceEqDiff, Nat.reduceAdd, Nat.reduceSub, Nat.reduceMul, Nat.reduceBEq, Nat.reduceLT, Nat.reduceLeDiff, reduceCtorEq, Int.reduceToNat, Int.reduceNeg]
  have hsel : ∀ i, i < c.sel.length → SelAt g c i := fun i hi => hP i (by omega)
  refine loop_of (fun m st => ∃ k : Nat, k ≤ g.kind.length ∧ m = g.kind.length - k ∧ (∀ i, i < k → TileAt g c i) ∧ st = ⟨[(3, .ptr 3 0), (61, .sl false 1 (ints g.kind)), (62, .int g.kind.length), (63, .int k)], [(3, cfgC false c)], [], []⟩) g.kind.length ?_ ?_
  · refine ⟨0, by omega, by omega, fun i hi => by omega, ?_⟩
    simp only [push_cast, reduceIte, Nat.reduceEqDiff, Nat.reduceAdd, Nat.reduceSub, Nat.reduceMul, Nat.reduceBEq, Nat.reduceLT, Nat.reduceLeDiff, reduceCtorEq, Int.reduceToNat, Int.reduceNeg]
  rintro m st ⟨k, hk, rfl, hP, rfl⟩
  simp only [push_cast, reduceIte, Nat.reduceEqDiff, Nat.reduceAdd, Nat.reduceSub, Nat.reduceMul, Nat.reduceBEq, Nat.reduceLT, Nat.reduceLeDiff, reduceCtorEq, Int.reduceToNat, Int.reduceNeg]
  refine cond_dec (fun h => ⟨by omega, by omega, ?_⟩) fun h => ?_
  · refine ⟨by omega, by omega, by omega, by omega, by omega, by omega, ?_⟩
    refine cal_eq (vtile_ok _ _ _ _) ?_
    simp only [push_cast, reduceIte, Nat.reduceEqDiff, Nat.reduceAdd, Nat.reduceSub, Nat.reduceMul, Nat.reduceBEq, Nat.reduceLT, Nat.reduceLeDiff, reduceCtorEq, Int.reduceToNat, Int.reduceNeg]
    refine cond_of (fun h3 => ?_) fun h3 => ?_
    · have h3 : ¬ TileAt g c k := not_dec h3
      rw [validE_tile (t := k) (by omega) h3]
    · have h3 : TileAt g c k := not_dec' h3
      refine ⟨by omega, _, ?_, k + 1, by omega, rfl, ?_, ?_⟩
      · omega
      · intro i hi
        by_cases e : i = k
        · rw [e]; exact h3
        · exact hP i (by omega)
      · simp only [push_cast, reduceIte, Nat.reduceEqDiff, Nat.reduceAdd, Nat.reduceSub, Nat.reduceMul, Nat.reduceBEq, Nat.reduceLT, Nat.reduceLeDiff, reduceCtorEq, Int.reduceToNat, Int.reduceNeg]
  · rw [validE_yes el hsel fun t ht => hP t (by omega)]
end Go.Proofs.Ytledbjkolidhkaa
namespace Go.Proofs.Ytledbjkolidhkaa
open Go Go.Vc Txt
set_option maxHeartbeats 4000000 in
theorem rvalid_ok (g : Grid) (hg : GOk g) (c : Cfg) (hs : CfgSm c) : FnEq Try.prog 19 [.agg (gridC false g), .agg (cfgC false c)] (.int (validE g c)) := by
  have hc := hg.count
  have hk := hg.kind
  have hw := hg.wh
  have s1 := hs.sel
  have s2 := hs.mode
  have s3 := hs.tab
  have s4 := hs.ram
  refine FnEq.of_awp Try.func19 ok19 (by show 2 ≤ _; decide) (by simp only [push_cast, reduceIte, Nat.reduceEqDiff, Nat.reduceAdd, Nat.reduceSub, Nat.reduceMul, Nat.reduceBEq, Nat.reduceLT, Nat.reduceLeDiff, reduceCtorEq, Int.reduceToNat, Int.reduceNeg] <;> first | exact fun _ _ => trivial | simp) ?_
  simp only [ac19, rv19, push_cast, reduceIte, Nat.reduceEqDiff, Nat.reduceAdd, Nat.reduceSub, Nat.reduceMul, Nat.reduceBEq, Nat.reduceLT, Nat.reduceLeDiff, reduceCtorEq, Int.reduceToNat, Int.reduceNeg]
  refine ⟨by omega, ?_⟩
  rw [show g.w * g.h = (g.kind.length : Int) by omega]
  refine dcal_sub (rcount_ok g hg) (by simp only [push_cast, reduceIte, Nat.reduceEqDiff, Nat.reduceAdd, Nat.reduceSub, Nat.reduceMul, Nat.reduceBEq, Nat.reduceLT, Nat.reduceLeDiff, reduceCtorEq, Int.reduceToNat, Int.reduceNeg]) rfl ?_
  simp only [push_cast, reduceIte, Nat.reduceEqDiff, Nat.reduceAdd, Nat.reduceSub, Nat.reduceMul, Nat.reduceBEq, Nat.reduceLT, Nat.reduceLeDiff, reduceCtorEq, Int.reduceToNat, Int.reduceNeg]
  obtain ⟨B, hB⟩ : ∃ B, B = decide (¬ LensOk g c) := ⟨_, rfl⟩
  refine dcut_of ⟨[(2, .ptr 2 0), (3, .ptr 3 0), (5, .int g.kind.length), (39, .bool B)], [(2, gridC false g), (3, cfgC false c)], [], []⟩ ?_ ?_
  · unfold LensOk at hB
    repeat' (first
      | (refine dgrd_decf rfl (fun _ => ?_) fun _ => ?_ <;> simp only [push_cast, reduceIte, Nat.reduceEqDiff, Nat.reduceAdd, Nat.reduceSub, Nat.reduceMul, Nat.reduceBEq, Nat.reduceLT, Nat.reduceLeDiff, reduceCtorEq, Int.reduceToNat, Int.reduceNeg])
      | (refine dgrd_dec rfl (fun _ => ?_) fun _ => ?_ <;> simp only [push_cast, reduceIte, Nat.reduceEqDiff, Nat.reduceAdd, Nat.reduceSub, Nat.reduceMul, Nat.reduceBEq, Nat.reduceLT, Nat.reduceLeDiff, reduceCtorEq, Int.reduceToNat, Int.reduceNeg]))
    all_goals first
      | (rw [show B = true from by rw [hB]; exact decide_eq_true (by omega)]; done)
      | (rw [show B = decide ((c.ram.length : Int) ≠ g.kind.length) from by rw [hB, decide_eq_decide]; omega]; done)
  simp only [push_cast, reduceIte, Nat.reduceEqDiff, Nat.reduceAdd, Nat.reduceSub, Nat.reduceMul, Nat.reduceBEq, Nat.reduceLT, Nat.reduceLeDiff, reduceCtorEq, Int.reduceToNat, Int.reduceNeg]
  refine cond_of (fun e => ?_) fun e => ?_
  · rw [hB, decide_eq_true_eq] at e
    rw [validE_len e]
  rw [hB, decide_eq_false_iff_not, Classical.not_not] at e
  have el := e
  obtain ⟨q1, q2, q3, q4⟩ := e
  refine loop_of (fun m st => ∃ k : Nat, k ≤ c.sel.length ∧ m = c.sel.length - k ∧ (∀ i, i < k → SelAt g c i) ∧ st = ⟨[(2, .ptr 2 0), (3, .ptr 3 0), (5, .int g.kind.length), (6, .int k)], [(2, gridC false g), (3, cfgC false c)], [], []⟩) c.sel.length ?_ ?_
  · refine ⟨0, by omega, by omega, fun i hi => by omega, ?_⟩
    simp only [push_cast, reduceIte, Nat.reduceEqDiff, Nat.reduceAdd, Nat.reduceSub, Nat.reduceMul, Nat.reduceBEq, Nat.reduceLT, Nat.reduceLeDiff, reduceCtorEq, Int.reduceToNat, Int.reduceNeg]
  rintro m st ⟨k, hk, rfl, hP, rfl⟩
  simp only [push_cast, reduceIte, Nat.reduceEqDiff, Nat.reduceAdd, Nat.reduceSub, Nat.reduceMul, Nat.reduceBEq, Nat.reduceLT, Nat.reduceLeDiff, reduceCtorEq, Int.reduceToNat, Int.reduceNeg]
  refine cond_dec (fun h => ⟨by omega, by omega, ?_⟩) fun h => ?_
  · have next : SelAt g c k → ∀ i, i < k + 1 → SelAt g c i := fun hs i hi => by
      by_cases e : i = k
      · rw [e]; exact hs
      · exact hP i (by omega)
    have hdl := driversF_len g hg k
    have hdef : c.sel.getD k default = c.sel.getD k 0 := rfl
    rw [hdef]
    generalize hx : c.sel.getD k 0 = x
    obtain ⟨D, hD⟩ : ∃ D, D = decide (¬ SelAt g c k) := ⟨_, rfl⟩
    have hSA : SelAt g c k ↔ (x ≠ 0 → 1 ≤ x ∧ x ≤ (driversF g k).length) := by rw [SelAt, hx]
    refine dcut_of ⟨[(2, .ptr 2 0), (3, .ptr 3 0), (5, .int g.kind.length), (6, .int k), (71, .bool D)], [(2, gridC false g), (3, cfgC false c)], [], []⟩ ?_ ?_
    · refine dgrd_dec rfl (fun _ => ?_) fun _ => ?_ <;> simp only [hdef, hx, push_cast, reduceIte, Nat.reduceEqDiff, Nat.reduceAdd, Nat.reduceSub, Nat.reduceMul, Nat.reduceBEq, Nat.reduceLT, Nat.reduceLeDiff, reduceCtorEq, Int.reduceToNat, Int.reduceNeg]
      · refine ⟨by omega, by omega, ?_⟩
        refine dgrd_decf rfl (fun _ => ?_) fun _ => ?_ <;> simp only [hdef, hx, push_cast, reduceIte, Nat.reduceEqDiff, Nat.reduceAdd, Nat.reduceSub, Nat.reduceMul, Nat.reduceBEq, Nat.reduceLT, Nat.reduceLeDiff, reduceCtorEq, Int.reduceToNat, Int.reduceNeg]
        · rw [show D = true from by rw [hD]; exact decide_eq_true (by rw [hSA]; omega)]
        · refine ⟨by omega, by omega, ?_⟩
          refine dcal_eq (rdrv_ok g hg k (by omega)) (u := []) rfl ?_
          simp only [hdef, hx, push_cast, reduceIte, Nat.reduceEqDiff, Nat.reduceAdd, Nat.reduceSub, Nat.reduceMul, Nat.reduceBEq, Nat.reduceLT, Nat.reduceLeDiff, reduceCtorEq, Int.reduceToNat, Int.reduceNeg]
          rw [show D = decide (((driversF g k).length : Int) < x) from by rw [hD, decide_eq_decide, hSA]; omega]
      · rw [show D = false from by rw [hD]; exact decide_eq_false (by rw [hSA]; omega)]
    simp only [push_cast, reduceIte, Nat.reduceEqDiff, Nat.reduceAdd, Nat.reduceSub, Nat.reduceMul, Nat.reduceBEq, Nat.reduceLT, Nat.reduceLeDiff, reduceCtorEq, Int.reduceToNat, Int.reduceNeg]
    refine cond_of (fun h3 => ?_) fun h3 => ?_
    · rw [hD, decide_eq_true_eq] at h3
      rw [validE_sel (i := k) (by omega) h3]
    · rw [hD, decide_eq_false_iff_not, Classical.not_not] at h3
      refine ⟨by omega, _, ?_, k + 1, by omega, rfl, next h3, ?_⟩
      · omega
      · simp only [push_cast, reduceIte, Nat.reduceEqDiff, Nat.reduceAdd, Nat.reduceSub, Nat.reduceMul, Nat.reduceBEq, Nat.reduceLT, Nat.reduceLeDiff, reduceCtorEq, Int.reduceToNat, Int.reduceNeg]
  have hsel : ∀ i, i < c.sel.length → SelAt g c i := fun i hi => hP i (by omega)
  refine loop_of (fun m st => ∃ k : Nat, k ≤ g.kind.length ∧ m = g.kind.length - k ∧ (∀ i, i < k → TileAt g c i) ∧ st = ⟨[(2, .ptr 2 0), (3, .ptr 3 0), (5, .int g.kind.length), (7, .int k)], [(2, gridC false g), (3, cfgC false c)], [], []⟩) g.kind.length ?_ ?_
  · refine ⟨0, by omega, by omega, fun i hi => by omega, ?_⟩
    simp only [push_cast, reduceIte, Nat.reduceEqDiff, Nat.reduceAdd, Nat.reduceSub, Nat.reduceMul, Nat.reduceBEq, Nat.reduceLT, Nat.reduceLeDiff, reduceCtorEq, Int.reduceToNat, Int.reduceNeg]
  rintro m st ⟨k, hk, rfl, hP, rfl⟩
  simp only [push_cast, reduceIte, Nat.reduceEqDiff, Nat.reduceAdd, Nat.reduceSub, Nat.reduceMul, Nat.reduceBEq, Nat.reduceLT, Nat.reduceLeDiff, reduceCtorEq, Int.reduceToNat, Int.reduceNeg]
  refine cond_dec (fun h => ?_) fun h => ?_
  · refine cal_sub (rtile_ok g c k (by omega) (by omega) (by omega) (by omega)) (by simp only [push_cast, reduceIte, Nat.reduceEqDiff, Nat.reduceAdd, Nat.reduceSub, Nat.reduceMul, Nat.reduceBEq, Nat.reduceLT, Nat.reduceLeDiff, reduceCtorEq, Int.reduceToNat, Int.reduceNeg]) ?_
    simp only [push_cast, reduceIte, Nat.reduceEqDiff, Nat.reduceAdd, Nat.reduceSub, Nat.reduceMul, Nat.reduceBEq, Nat.reduceLT, Nat.reduceLeDiff, reduceCtorEq, Int.reduceToNat, Int.reduceNeg]
    refine cond_of (fun h3 => ?_) fun h3 => ?_
    · have h3 : ¬ TileAt g c k := not_dec h3
      rw [validE_tile (t := k) (by omega) h3]
    · have h3 : TileAt g c k := not_dec' h3
      refine ⟨by omega, _, ?_, k + 1, by omega, rfl, ?_, ?_⟩
      · omega
      · intro i hi
        by_cases e : i = k
        · rw [e]; exact h3
        · exact hP i (by omega)
      · simp only [push_cast, reduceIte, Nat.reduceEqDiff, Nat.reduceAdd, Nat.reduceSub, Nat.reduceMul, Nat.reduceBEq, Nat.reduceLT, Nat.reduceLeDiff, reduceCtorEq, Int.reduceToNat, Int.reduceNeg]
  · rw [validE_yes el hsel fun t ht => hP t (by omega)]
end Go.Proofs.Ytledbjkolidhkaa
namespace Go.Proofs.Ytledbjkolidhkaa
open Go Go.Vc Txt
def sourceS (g : Grid) (c : Cfg) : Nat → List Int → Int → Int × Int
  | 0, _, _ => (0, 50)
  | f + 1, sn, n => if n ∈ sn then (0, 50) else if driversF g n = [] then (n, 0) else if c.sel.getD n.toNat 0 = 0 then (0, 4) else
      sourceS g c f (sn ++ [n]) ((driversF g n).getD (c.sel.getD n.toNat 0 - 1).toNat 0)
def sourceF (g : Grid) (c : Cfg) (n : Int) : Int × Int := if 0 ≤ n ∧ n ≤ (c.sel.length : Int) - 1 then sourceS g c (c.sel.length + 1) [] n else (0, 4)
structure SelsOk (g : Grid) (c : Cfg) : Prop where
  len : c.sel.length = (countF g).toNat
  sel : ∀ i, i < c.sel.length → SelAt g c i
theorem candN_rng (g : Grid) (s : Spot) : ∀ k, ∀ x ∈ candN g s k, 0 ≤ x ∧ x < k
  | 0, x, h => by simp [candN] at h
  | k + 1, x, h => by
    rw [candN, List.mem_append] at h
    rcases h with h | h
    · have := candN_rng g s k x h; omega
    · split at h
      · simp at h; omega
      · simp at h
theorem driversF_rng {g : Grid} (hg : GOk g) (n x : Int) (h : x ∈ driversF g n) : 0 ≤ x ∧ x < (countF g).toNat := by
  rw [drivers_eq hg, rdrF] at h
  split at h
  · exact candN_rng _ _ _ _ h
  · simp at h
theorem getD_mem {l : List Int} {k : Nat} (h : k < l.length) : l.getD k 0 ∈ l := by simp [h]
set_option maxHeartbeats 2000000 in
theorem source_ok (g : Grid) (hg : GOk g) (c : Cfg) (hc : SelsOk g c) (n : Int) : FnEq Try.prog 46 [.agg (gridC false g), .agg (cfgC false c), .int n] (.tup [.int (sourceF g c n).1, .int (sourceF g c n).2]) := by
  have h1 := hg.count
  have h2 := hc.len
  refine FnEq.of_awp Try.func46 ok46 (by show 3 ≤ _; decide) (by simp only [push_cast, reduceIte, Nat.reduceEqDiff, Nat.reduceAdd, Nat.reduceSub, Nat.reduceMul, Nat.reduceBEq, Nat.reduceLT, Nat.reduceLeDiff, reduceCtorEq, Int.reduceToNat, Int.reduceNeg] <;> first | exact fun _ _ => trivial | simp) ?_
  simp only [ac46, rv46, push_cast, reduceIte, Nat.reduceEqDiff, Nat.reduceAdd, Nat.reduceSub, Nat.reduceMul, Nat.reduceBEq, Nat.reduceLT, Nat.reduceLeDiff, reduceCtorEq, Int.reduceToNat, Int.reduceNeg]
  refine ⟨by omega, ?_⟩
  refine cal_eq (within_ok _ _ _) ?_
  simp only [push_cast, reduceIte, Nat.reduceEqDiff, Nat.reduceAdd, Nat.reduceSub, Nat.reduceMul, Nat.reduceBEq, Nat.reduceLT, Nat.reduceLeDiff, reduceCtorEq, Int.reduceToNat, Int.reduceNeg]
  refine cond_of (fun e => ?_) fun e => ?_
  · have e := not_dec e
    rw [sourceF, if_neg (by omega)]
    exact ⟨rfl, rfl⟩
  have e := not_dec' e
  have hF : sourceF g c n = sourceS g c (c.sel.length + 1) [] n := if_pos (by omega)
  rw [hF]
  clear hF
  refine loop_of (fun m st => ∃ (sn : List Int) (x : Int), m + sn.length = c.sel.length ∧ sn.Nodup ∧ (∀ y ∈ sn, 0 ≤ y ∧ y < c.sel.length) ∧ (0 ≤ x ∧ x < c.sel.length) ∧
    sourceS g c (c.sel.length + 1) [] n = sourceS g c (m + 1) sn x ∧ st = ⟨[(2, .int x), (3, .ptr 3 0), (4, .ptr 4 0), (8, .mp 17)], [(3, gridC false g), (4, cfgC false c)], [], [(17, ⟨.int .i64, seenM sn, none⟩)]⟩) c.sel.length ?_ ?_
  · refine ⟨[], n, by simp, .nil, by simp, by omega, rfl, ?_⟩
    simp only [seenM, List.map_nil, push_cast, reduceIte, Nat.reduceEqDiff, Nat.reduceAdd, Nat.reduceSub, Nat.reduceMul, Nat.reduceBEq, Nat.reduceLT, Nat.reduceLeDiff, reduceCtorEq, Int.reduceToNat, Int.reduceNeg]
  rintro m st ⟨sn, x, hm, hnd, hr, hx, hS, rfl⟩
  rw [hS]
  have hmg : mlkT false (.sc (.bool false)) (mget (seenM sn) (.int .i64 x)) = .sc (.bool (decide (x ∈ sn))) := by
    rw [mget_seen]
    by_cases h : x ∈ sn <;> simp [h, mlkT]
  simp only [hmg, push_cast, reduceIte, Nat.reduceEqDiff, Nat.reduceAdd, Nat.reduceSub, Nat.reduceMul, Nat.reduceBEq, Nat.reduceLT, Nat.reduceLeDiff, reduceCtorEq, Int.reduceToNat, Int.reduceNeg]
  refine cond_of (fun e2 => ?_) fun e2 => ?_
  rotate_left
  · have e2 : x ∈ sn := not_dec' e2
    rw [sourceS, if_pos e2]
    exact ⟨rfl, rfl⟩
  have e2 : x ∉ sn := not_dec e2
  simp only [mput_seen x sn e2, push_cast, reduceIte, Nat.reduceEqDiff, Nat.reduceAdd, Nat.reduceSub, Nat.reduceMul, Nat.reduceBEq, Nat.reduceLT, Nat.reduceLeDiff, reduceCtorEq, Int.reduceToNat, Int.reduceNeg]
  have hnd' : (sn ++ [x]).Nodup := List.nodup_append.2 ⟨hnd, by simp, by intro a ha b hb h; simp at hb; subst hb; subst h; exact e2 ha⟩
  have hr' : ∀ y ∈ sn ++ [x], 0 ≤ y ∧ y < c.sel.length := fun y hy => by
    rw [List.mem_append, List.mem_singleton] at hy
    rcases hy with hy | rfl
    · exact hr y hy
    · exact hx
  have hln := nodup_rng (n := c.sel.length) hnd' hr'
  rw [List.length_append, List.length_singleton] at hln
  obtain ⟨k, rfl⟩ : ∃ k, m = k + 1 := ⟨m - 1, by omega⟩
  have hdl := driversF_len g hg x
  refine cal_sub (drivers_ok g hg x (by omega)) (by simp only [push_cast, reduceIte, Nat.reduceEqDiff, Nat.reduceAdd, Nat.reduceSub, Nat.reduceMul, Nat.reduceBEq, Nat.reduceLT, Nat.reduceLeDiff, reduceCtorEq, Int.reduceToNat, Int.reduceNeg]) ?_
  simp only [push_cast, reduceIte, Nat.reduceEqDiff, Nat.reduceAdd, Nat.reduceSub, Nat.reduceMul, Nat.reduceBEq, Nat.reduceLT, Nat.reduceLeDiff, reduceCtorEq, Int.reduceToNat, Int.reduceNeg]
  refine cond_dec (fun h0 => ?_) fun h0 => ?_
  · have hd : driversF g x = [] := List.length_eq_zero_iff.1 (by omega)
    rw [sourceS, if_neg e2, if_pos hd]
    exact ⟨rfl, rfl⟩
  have hd : ¬ driversF g x = [] := fun h => h0 (by rw [h]; rfl)
  refine ⟨by omega, by omega, ?_⟩
  have e0 : ∀ (l : List Int) (j : Nat), l.getD j default = l.getD j 0 := fun _ _ => rfl
  simp only [e0]
  refine cond_dec (fun h3 => ?_) fun h3 => ?_
  · rw [sourceS, if_neg e2, if_neg hd, if_pos h3]
    exact ⟨rfl, rfl⟩
  have hsa := hc.sel x.toNat (by omega) h3
  rw [show ((x.toNat : Nat) : Int) = x by omega] at hsa
  have hgm := driversF_rng hg x _ (getD_mem (l := driversF g x) (k := (c.sel.getD x.toNat 0 - 1).toNat) (by omega))
  have hst : sourceS g c (k + 1 + 1) sn x = sourceS g c (k + 1) (sn ++ [x]) ((driversF g x).getD (c.sel.getD x.toNat 0 - 1).toNat 0) := by
    rw [sourceS, if_neg e2, if_neg hd, if_neg h3]
  generalize c.sel.getD x.toNat 0 = s at *
  refine ⟨by omega, by omega, by omega, by omega, by omega, _, ?_, sn ++ [x], _, ?_, hnd', hr', ?_, hst, ?_⟩
  · omega
  · rw [List.length_append, List.length_singleton]; omega
  · omega
  · simp only [e0, push_cast, reduceIte, Nat.reduceEqDiff, Nat.reduceAdd, Nat.reduceSub, Nat.reduceMul, Nat.reduceBEq, Nat.reduceLT, Nat.reduceLeDiff, reduceCtorEq, Int.reduceToNat, Int.reduceNeg]
theorem same_ok (c d : Cfg) (hc : CfgSm c) (hd : CfgSm d) : FnEq Try.prog 15 [.agg (cfgC false c), .agg (cfgC false d)] (.bool (decide (c = d))) := by
  have i0 := ints_ok c.sel d.sel hc.sel hd.sel
  have i1 := ints_ok c.mode d.mode hc.mode hd.mode
  have i2 := ints_ok c.tab d.tab hc.tab hd.tab
  have i3 := ints_ok c.ram d.ram hc.ram hd.ram
  have hE : c = d ↔ c.sel = d.sel ∧ c.mode = d.mode ∧ c.tab = d.tab ∧ c.ram = d.ram := by
    cases c; cases d; simp
  refine FnEq.of_awp Try.func15 ok15 (by show 2 ≤ _; decide) (by simp only [push_cast, reduceIte, Nat.reduceEqDiff, Nat.reduceAdd, Nat.reduceSub, Nat.reduceMul, Nat.reduceBEq, Nat.reduceLT, Nat.reduceLeDiff, reduceCtorEq, Int.reduceToNat, Int.reduceNeg] <;> first | exact fun _ _ => trivial | simp) ?_
  simp only [ac15, rv15, push_cast, reduceIte, Nat.reduceEqDiff, Nat.reduceAdd, Nat.reduceSub, Nat.reduceMul, Nat.reduceBEq, Nat.reduceLT, Nat.reduceLeDiff, reduceCtorEq, Int.reduceToNat, Int.reduceNeg]
  refine cal_eq i0 ?_
  simp only [push_cast, reduceIte, Nat.reduceEqDiff, Nat.reduceAdd, Nat.reduceSub, Nat.reduceMul, Nat.reduceBEq, Nat.reduceLT, Nat.reduceLeDiff, reduceCtorEq, Int.reduceToNat, Int.reduceNeg]
  refine grd_dec rfl (fun e1 => ?_) fun e1 => ?_ <;> simp only [push_cast, reduceIte, Nat.reduceEqDiff, Nat.reduceAdd, Nat.reduceSub, Nat.reduceMul, Nat.reduceBEq, Nat.reduceLT, Nat.reduceLeDiff, reduceCtorEq, Int.reduceToNat, Int.reduceNeg]
  · refine cal_eq i1 ?_
    simp only [push_cast, reduceIte, Nat.reduceEqDiff, Nat.reduceAdd, Nat.reduceSub, Nat.reduceMul, Nat.reduceBEq, Nat.reduceLT, Nat.reduceLeDiff, reduceCtorEq, Int.reduceToNat, Int.reduceNeg]
    refine grd_dec rfl (fun e2 => ?_) fun e2 => ?_ <;> simp only [push_cast, reduceIte, Nat.reduceEqDiff, Nat.reduceAdd, Nat.reduceSub, Nat.reduceMul, Nat.reduceBEq, Nat.reduceLT, Nat.reduceLeDiff, reduceCtorEq, Int.reduceToNat, Int.reduceNeg]
    · refine cal_eq i2 ?_
      simp only [push_cast, reduceIte, Nat.reduceEqDiff, Nat.reduceAdd, Nat.reduceSub, Nat.reduceMul, Nat.reduceBEq, Nat.reduceLT, Nat.reduceLeDiff, reduceCtorEq, Int.reduceToNat, Int.reduceNeg]
      refine grd_dec rfl (fun e3 => ?_) fun e3 => ?_ <;> simp only [push_cast, reduceIte, Nat.reduceEqDiff, Nat.reduceAdd, Nat.reduceSub, Nat.reduceMul, Nat.reduceBEq, Nat.reduceLT, Nat.reduceLeDiff, reduceCtorEq, Int.reduceToNat, Int.reduceNeg]
      · refine cal_eq i3 ?_
        simp only [push_cast, reduceIte, Nat.reduceEqDiff, Nat.reduceAdd, Nat.reduceSub, Nat.reduceMul, Nat.reduceBEq, Nat.reduceLT, Nat.reduceLeDiff, reduceCtorEq, Int.reduceToNat, Int.reduceNeg]
        simp_all
      · simp_all
    · simp_all
  · simp_all
def desC (q : Bool) (g : Grid) (p : Packed) (l : Layout) : List PV := gridC q g ++ packC q p ++ layC q l
@[push_cast] theorem desC_eq (q : Bool) (g : Grid) (p : Packed) (l : Layout) : desC q g p l = gridC q g ++ packC q p ++ layC q l := rfl
theorem encoded_ok (p : Packed) (g : Grid) (hg : GOk g) (l : Layout) (hl : (l.pos.length : Int) ≤ 1000000) (hl2 : (l.routes.length : Int) ≤ 1000000) (hl3 : ∀ r ∈ l.routes, (r.nodes.length : Int) ≤ 1000000) :
    FnEq Try.prog 13 [.agg (desC false g p l)] (.agg (cfgC true (encF p g l).1 ++ [.int (encF p g l).2])) := by
  have h := encode_ok p g hg l hl hl2 hl3
  rw [encV] at h
  generalize encF p g l = r at h ⊢
  refine FnEq.of_awp Try.func13 ok13 (by show 1 ≤ _; decide) (by simp only [push_cast, reduceIte, Nat.reduceEqDiff, Nat.reduceAdd, Nat.reduceSub, Nat.reduceMul, Nat.reduceBEq, Nat.reduceLT, Nat.reduceLeDiff, reduceCtorEq, Int.reduceToNat, Int.reduceNeg] <;> first | exact fun _ _ => trivial | simp) ?_
  simp only [ac13, rv13, push_cast, reduceIte, Nat.reduceEqDiff, Nat.reduceAdd, Nat.reduceSub, Nat.reduceMul, Nat.reduceBEq, Nat.reduceLT, Nat.reduceLeDiff, reduceCtorEq, Int.reduceToNat, Int.reduceNeg]
  refine cal_sub h (by simp only [push_cast, reduceIte, Nat.reduceEqDiff, Nat.reduceAdd, Nat.reduceSub, Nat.reduceMul, Nat.reduceBEq, Nat.reduceLT, Nat.reduceLeDiff, reduceCtorEq, Int.reduceToNat, Int.reduceNeg]) ?_
  simp only [push_cast, reduceIte, Nat.reduceEqDiff, Nat.reduceAdd, Nat.reduceSub, Nat.reduceMul, Nat.reduceBEq, Nat.reduceLT, Nat.reduceLeDiff, reduceCtorEq, Int.reduceToNat, Int.reduceNeg]
  exact ⟨fun _ _ => trivial, fun _ _ => trivial, fun _ _ => trivial, fun _ _ => trivial⟩
theorem lsource_ok (g : Grid) (hg : GOk g) (c : Cfg) (hc : SelsOk g c) (n : Int) : FnEq Try.prog 23 [.agg (gridC false g), .agg (cfgC false c), .int n] (.agg [.int (sourceF g c n).1, .int (sourceF g c n).2]) := by
  have h := source_ok g hg c hc n
  refine FnEq.of_awp Try.func23 ok23 (by show 3 ≤ _; decide) (by simp only [push_cast, reduceIte, Nat.reduceEqDiff, Nat.reduceAdd, Nat.reduceSub, Nat.reduceMul, Nat.reduceBEq, Nat.reduceLT, Nat.reduceLeDiff, reduceCtorEq, Int.reduceToNat, Int.reduceNeg] <;> first | exact fun _ _ => trivial | simp) ?_
  simp only [ac23, rv23, push_cast, reduceIte, Nat.reduceEqDiff, Nat.reduceAdd, Nat.reduceSub, Nat.reduceMul, Nat.reduceBEq, Nat.reduceLT, Nat.reduceLeDiff, reduceCtorEq, Int.reduceToNat, Int.reduceNeg]
  refine cal_sub h (by simp only [push_cast, reduceIte, Nat.reduceEqDiff, Nat.reduceAdd, Nat.reduceSub, Nat.reduceMul, Nat.reduceBEq, Nat.reduceLT, Nat.reduceLeDiff, reduceCtorEq, Int.reduceToNat, Int.reduceNeg]) ?_
  simp only [push_cast, reduceIte, Nat.reduceEqDiff, Nat.reduceAdd, Nat.reduceSub, Nat.reduceMul, Nat.reduceBEq, Nat.reduceLT, Nat.reduceLeDiff, reduceCtorEq, Int.reduceToNat, Int.reduceNeg]
theorem ldiffer_ok (c d : Cfg) (hc : CfgSm c) (hd : CfgSm d) : FnEq Try.prog 28 [.agg (cfgC false c), .agg (cfgC false d)] (.agg [.sl true 1 (ints (differF c d).1), .sl true 1 (ints (differF c d).2)]) := by
  have h := differ_ok c d hc hd
  refine FnEq.of_awp Try.func28 ok28 (by show 2 ≤ _; decide) (by simp only [push_cast, reduceIte, Nat.reduceEqDiff, Nat.reduceAdd, Nat.reduceSub, Nat.reduceMul, Nat.reduceBEq, Nat.reduceLT, Nat.reduceLeDiff, reduceCtorEq, Int.reduceToNat, Int.reduceNeg] <;> first | exact fun _ _ => trivial | simp) ?_
  simp only [ac28, rv28, push_cast, reduceIte, Nat.reduceEqDiff, Nat.reduceAdd, Nat.reduceSub, Nat.reduceMul, Nat.reduceBEq, Nat.reduceLT, Nat.reduceLeDiff, reduceCtorEq, Int.reduceToNat, Int.reduceNeg]
  refine cal_sub h (by simp only [push_cast, reduceIte, Nat.reduceEqDiff, Nat.reduceAdd, Nat.reduceSub, Nat.reduceMul, Nat.reduceBEq, Nat.reduceLT, Nat.reduceLeDiff, reduceCtorEq, Int.reduceToNat, Int.reduceNeg]) ?_
  simp only [push_cast, reduceIte, Nat.reduceEqDiff, Nat.reduceAdd, Nat.reduceSub, Nat.reduceMul, Nat.reduceBEq, Nat.reduceLT, Nat.reduceLeDiff, reduceCtorEq, Int.reduceToNat, Int.reduceNeg]
  exact ⟨fun _ _ => trivial, fun _ _ => trivial⟩
theorem two_ok : FnEq Try.prog 33 [] (.agg (gridC true ⟨2, 1, 1, 1, [1, 2]⟩)) := by
  refine FnEq.of_awp Try.func33 ok33 (by show 0 ≤ _; decide) (by simp only [push_cast, reduceIte, Nat.reduceEqDiff, Nat.reduceAdd, Nat.reduceSub, Nat.reduceMul, Nat.reduceBEq, Nat.reduceLT, Nat.reduceLeDiff, reduceCtorEq, Int.reduceToNat, Int.reduceNeg] <;> first | exact fun _ _ => trivial | simp) ?_
  simp only [ac33, rv33, push_cast, reduceIte, Nat.reduceEqDiff, Nat.reduceAdd, Nat.reduceSub, Nat.reduceMul, Nat.reduceBEq, Nat.reduceLT, Nat.reduceLeDiff, reduceCtorEq, Int.reduceToNat, Int.reduceNeg]
  exact ⟨⟨by decide, by decide⟩, fun _ _ => trivial, .refl _⟩
end Go.Proofs.Ytledbjkolidhkaa
namespace Go.Proofs.Ytledbjkolidhkaa
open Go Go.Vc Txt
def gT : Grid := ⟨2, 1, 1, 1, [1, 2]⟩
def pT : Packed := ⟨[], [], [], []⟩
def rT : Route := ⟨0, [0, 6, 10], [-1, 0, 1]⟩
def lT : Layout := ⟨[], [rT]⟩
def cT : Cfg := ⟨[0, 0, 0, 0, 0, 0, 1, 0, 0, 0, 1, 0, 0, 0, 0, 0, 0, 0], [0, 0], [0, 0], [0, 0]⟩
def kT : Cfg := ⟨[0, 0, 0, 0, 0, 0, 6, 0, 0, 0, 1, 0, 0, 0, 1, 0, 0, 0], [0, 0], [0, 0], [0, 0]⟩
theorem gT_ok : GOk gT := ⟨by decide, by decide, by decide, by decide, by decide⟩
theorem dT0 : driversF gT 0 = [] := by rw [drivers_eq gT_ok]; decide +kernel
theorem dT6 : driversF gT 6 = [0, 1, 7, 8, 9, 14, 15, 16] := by rw [drivers_eq gT_ok]; decide +kernel
theorem dT10 : driversF gT 10 = [6, 14, 15] := by rw [drivers_eq gT_ok]; decide +kernel
theorem dT11 : driversF gT 11 = [6, 14, 15] := by rw [drivers_eq gT_ok]; decide +kernel
theorem dT14 : driversF gT 14 = [6, 8, 9, 15] := by rw [drivers_eq gT_ok]; decide +kernel
theorem blT : blankF gT = ⟨List.replicate 18 0, [0, 0], [0, 0], [0, 0]⟩ := by decide +kernel
theorem encT : encF pT gT lT = (cT, 0) := by
  have h : routeF gT (List.replicate 18 0, []) rT = some (cT.sel, [0, 6, 10]) := by
    have r3 : List.range rT.nodes.length = [0, 1, 2] := by decide
    rw [routeF, if_pos (by decide), r3]
    simp only [foldO, stepF]
    rw [show stepN gT (List.replicate 18 0, []) 0 (rT.nodes.getD 0 0) (rT.frm.getD 0 0) (rT.nodes.getD (rT.frm.getD 0 0).toNat 0) = some (List.replicate 18 0, [0]) by
      rw [stepN, show rT.nodes.getD 0 0 = 0 from rfl, dT0]; decide]
    simp only [Option.bind_some]
    rw [show stepN gT (List.replicate 18 0, [0]) 1 (rT.nodes.getD 1 0) (rT.frm.getD 1 0) (rT.nodes.getD (rT.frm.getD 1 0).toNat 0) = some ((List.replicate 18 0).set 6 1, [0, 6]) by
      rw [stepN, show rT.nodes.getD 1 0 = 6 from rfl, dT6]; decide]
    simp only [Option.bind_some]
    rw [show stepN gT ((List.replicate 18 0).set 6 1, [0, 6]) 2 (rT.nodes.getD 2 0) (rT.frm.getD 2 0) (rT.nodes.getD (rT.frm.getD 2 0).toNat 0) = some (cT.sel, [0, 6, 10]) by
      rw [stepN, show rT.nodes.getD 2 0 = 10 from rfl, dT10]; decide]
    rfl
  have h2 : encO pT gT lT = some cT := by
    rw [encO, if_pos (by decide), blT]
    show ((foldO (routeF gT) (List.replicate 18 0, []) [rT]).map _) = _
    simp only [foldO]
    rw [h]
    rfl
  rw [encF, h2]
theorem valT {c : Cfg} (h0 : LensOk gT c) (h1 : ∀ i, i < c.sel.length → c.sel.getD i 0 ≠ 0 → (i = 6 ∧ c.sel.getD 6 0 ≤ 8) ∨ (i = 10 ∧ c.sel.getD 10 0 ≤ 3) ∨ (i = 14 ∧ c.sel.getD 14 0 ≤ 4)) (h3 : ∀ i, i < c.sel.length → 0 ≤ c.sel.getD i 0) (h2 : ∀ t, t < gT.kind.length → TileAt gT c t) : validE gT c = 0 ∧ SelsOk gT c := by
  have hs : ∀ i, i < c.sel.length → SelAt gT c i := fun i hi h => by
    have h4 := h3 i hi
    rcases h1 i hi h with ⟨rfl, h5⟩ | ⟨rfl, h5⟩ | ⟨rfl, h5⟩
    · rw [show ((6 : Nat) : Int) = 6 from rfl, dT6]; exact ⟨by omega, h5⟩
    · rw [show ((10 : Nat) : Int) = 10 from rfl, dT10]; exact ⟨by omega, h5⟩
    · rw [show ((14 : Nat) : Int) = 14 from rfl, dT14]; exact ⟨by omega, h5⟩
  exact ⟨validE_yes h0 hs h2, h0.1, hs⟩
theorem vcT : validE gT cT = 0 ∧ SelsOk gT cT := valT (by decide +kernel) (by decide) (by decide) (by decide)
theorem vkT : validE gT kT = 0 ∧ SelsOk gT kT := valT (by decide +kernel) (by decide) (by decide) (by decide)
theorem v0T : validE gT cfg0 = 310 := validE_len (by decide +kernel)
theorem sT10 : sourceF gT cT 10 = (0, 0) := by
  rw [sourceF, if_pos (by decide)]
  show sourceS gT cT (16 + 1 + 1 + 1) [] 10 = _
  rw [sourceS, dT10, if_neg (by decide), if_neg (by decide), if_neg (by decide)]
  show sourceS gT cT (16 + 1 + 1) [10] 6 = _
  rw [sourceS, dT6, if_neg (by decide), if_neg (by decide), if_neg (by decide)]
  show sourceS gT cT (16 + 1) [10, 6] 0 = _
  rw [sourceS, dT0, if_neg (by decide), if_pos rfl]
theorem sT11 : sourceF gT cT 11 = (0, 4) := by
  rw [sourceF, if_pos (by decide)]
  show sourceS gT cT (18 + 1) [] 11 = _
  rw [sourceS, dT11, if_neg (by decide), if_neg (by decide), if_pos (by decide)]
theorem sK10 : sourceF gT kT 10 = (0, 50) := by
  rw [sourceF, if_pos (by decide)]
  show sourceS gT kT (15 + 1 + 1 + 1 + 1) [] 10 = _
  rw [sourceS, dT10, if_neg (by decide), if_neg (by decide), if_neg (by decide)]
  show sourceS gT kT (15 + 1 + 1 + 1) [10] 6 = _
  rw [sourceS, dT6, if_neg (by decide), if_neg (by decide), if_neg (by decide)]
  show sourceS gT kT (15 + 1 + 1) [10, 6] 14 = _
  rw [sourceS, dT14, if_neg (by decide), if_neg (by decide), if_neg (by decide)]
  show sourceS gT kT (15 + 1) [10, 6, 14] 6 = _
  rw [sourceS, if_pos (by decide)]
theorem dfT : differF kT cT = ([6, 14], []) := by
  rw [differF, show tilesF kT cT = [] by decide]
  have : unlikeF kT.sel cT.sel = [6, 14] := by decide
  rw [this, show sortF [] = [] from List.mergeSort_nil]; rfl
set_option maxRecDepth 20000 in
set_option maxHeartbeats 4000000 in
theorem examples_ok : FnEq Try.prog 9 [] (.bool true) := by
  have hE := encoded_ok pT gT gT_ok lT (by decide) (by decide) (by decide)
  rw [encT] at hE
  have sm : CfgSm cT := ⟨by decide, by decide, by decide, by decide⟩
  have smk : CfgSm kT := ⟨by decide, by decide, by decide, by decide⟩
  have hV := rvalid_ok gT gT_ok cT sm
  have hV2 := valid_ok gT gT_ok cT sm
  have hV3 : FnEq Try.prog 18 [.agg (gridC false gT), .agg [.sl false 1 (ints kT.sel), .sl false 1 (ints cT.mode), .sl false 1 (ints cT.tab), .sl false 1 (ints cT.ram)]] (.int (validE gT kT)) := valid_ok gT gT_ok kT smk
  have hV4 : FnEq Try.prog 18 [.agg (gridC false gT), .agg [.sl false 1 [], .sl false 1 [], .sl false 1 [], .sl false 1 []]] (.int (validE gT cfg0)) := valid_ok gT gT_ok cfg0 ⟨by decide, by decide, by decide, by decide⟩
  have hU := used_ok gT cT sm.sel
  have hI := ints_ok (usedF cT.sel) [6, 10] (by decide) (by decide)
  have hI2 := ints_ok [6, 14] [6, 14] (by decide) (by decide)
  have h10 := lsource_ok gT gT_ok cT vcT.2 10
  have h11 := lsource_ok gT gT_ok cT vcT.2 11
  have hk : FnEq Try.prog 23 [.agg (gridC false gT), .agg [.sl false 1 (ints kT.sel), .sl false 1 (ints cT.mode), .sl false 1 (ints cT.tab), .sl false 1 (ints cT.ram)], .int 10] (.agg [.int (sourceF gT kT 10).1, .int (sourceF gT kT 10).2]) := lsource_ok gT gT_ok kT vkT.2 10
  have hd : FnEq Try.prog 28 [.agg [.sl false 1 (ints kT.sel), .sl false 1 (ints cT.mode), .sl false 1 (ints cT.tab), .sl false 1 (ints cT.ram)], .agg (cfgC false cT)] (.agg [.sl true 1 (ints (differF kT cT).1), .sl true 1 (ints (differF kT cT).2)]) := ldiffer_ok kT cT smk sm
  have hB := blank_ok gT gT_ok
  have hRB := rblank_ok gT gT_ok
  have hS := same_ok (blankF gT) (blankF gT) (by rw [blT]; exact ⟨by decide, by decide, by decide, by decide⟩) (by rw [blT]; exact ⟨by decide, by decide, by decide, by decide⟩)
  rw [vcT.1] at hV hV2
  rw [vkT.1] at hV3
  rw [v0T] at hV4
  rw [sT10] at h10
  rw [sT11] at h11
  rw [sK10] at hk
  rw [dfT] at hd
  rw [show usedF cT.sel = [6, 10] by decide] at hU hI
  rw [decide_eq_true (by rfl)] at hI hI2 hS
  refine FnEq.of_awp Try.func9 ok9 (by show 0 ≤ _; decide) (by simp only [push_cast, reduceIte, Nat.reduceEqDiff, Nat.reduceAdd, Nat.reduceSub, Nat.reduceMul, Nat.reduceBEq, Nat.reduceLT, Nat.reduceLeDiff, reduceCtorEq, Int.reduceToNat, Int.reduceNeg] <;> first | exact fun _ _ => trivial | simp) ?_
  simp only [ac9, rv9, push_cast, reduceIte, Nat.reduceEqDiff, Nat.reduceAdd, Nat.reduceSub, Nat.reduceMul, Nat.reduceBEq, Nat.reduceLT, Nat.reduceLeDiff, reduceCtorEq, Int.reduceToNat, Int.reduceNeg]
  refine cal_eq (show FnEq Try.prog 33 [] (.agg (gridC true gT)) from two_ok) ?_
  simp only [push_cast, reduceIte, Nat.reduceEqDiff, Nat.reduceAdd, Nat.reduceSub, Nat.reduceMul, Nat.reduceBEq, Nat.reduceLT, Nat.reduceLeDiff, reduceCtorEq, Int.reduceToNat, Int.reduceNeg]
  refine ⟨⟨by decide, by decide, by decide⟩, ⟨by decide, by decide, by decide⟩, ?_⟩
  rw [show (((List.replicate 3 0).set 0 0).set 1 6).set 2 10 = [(0 : Int), 6, 10] from rfl, show (((List.replicate 3 0).set 0 (-1)).set 1 0).set 2 1 = [(-1 : Int), 0, 1] from rfl]
  refine cal_sub hE ⟨Sub.aggL ⟨.refl _, .refl _, .refl _, .refl _, .slp _ _ _ _ (fun h => by cases h), .nil _ _, .nil _ _, .nil _ _, .nil _ _, .nil _ _,
    Sub.slR 3 (fun h => h) ⟨⟨.refl _, .slp _ _ _ _ (fun h => by cases h), .slp _ _ _ _ (fun h => by cases h), trivial⟩, trivial⟩, trivial⟩, trivial⟩ ?_
  simp only [push_cast, reduceIte, Nat.reduceEqDiff, Nat.reduceAdd, Nat.reduceSub, Nat.reduceMul, Nat.reduceBEq, Nat.reduceLT, Nat.reduceLeDiff, reduceCtorEq, Int.reduceToNat, Int.reduceNeg]
  refine grd_decf rfl (fun e => absurd e (by decide)) fun _ => ?_
  simp only [push_cast, reduceIte, Nat.reduceEqDiff, Nat.reduceAdd, Nat.reduceSub, Nat.reduceMul, Nat.reduceBEq, Nat.reduceLT, Nat.reduceLeDiff, reduceCtorEq, Int.reduceToNat, Int.reduceNeg]
  refine cal_sub hV (by simp only [push_cast, reduceIte, Nat.reduceEqDiff, Nat.reduceAdd, Nat.reduceSub, Nat.reduceMul, Nat.reduceBEq, Nat.reduceLT, Nat.reduceLeDiff, reduceCtorEq, Int.reduceToNat, Int.reduceNeg]) ?_
  simp only [push_cast, reduceIte, Nat.reduceEqDiff, Nat.reduceAdd, Nat.reduceSub, Nat.reduceMul, Nat.reduceBEq, Nat.reduceLT, Nat.reduceLeDiff, reduceCtorEq, Int.reduceToNat, Int.reduceNeg]
  refine grd_decf rfl (fun e => absurd e (by decide)) fun _ => ?_
  simp only [push_cast, reduceIte, Nat.reduceEqDiff, Nat.reduceAdd, Nat.reduceSub, Nat.reduceMul, Nat.reduceBEq, Nat.reduceLT, Nat.reduceLeDiff, reduceCtorEq, Int.reduceToNat, Int.reduceNeg]
  refine grd_decf rfl (fun e => absurd e (by decide)) fun _ => ?_
  simp only [push_cast, reduceIte, Nat.reduceEqDiff, Nat.reduceAdd, Nat.reduceSub, Nat.reduceMul, Nat.reduceBEq, Nat.reduceLT, Nat.reduceLeDiff, reduceCtorEq, Int.reduceToNat, Int.reduceNeg]
  refine ⟨by decide, by decide, ?_⟩
  refine grd_decf rfl (fun e => absurd e (by decide)) fun _ => ?_
  simp only [push_cast, reduceIte, Nat.reduceEqDiff, Nat.reduceAdd, Nat.reduceSub, Nat.reduceMul, Nat.reduceBEq, Nat.reduceLT, Nat.reduceLeDiff, reduceCtorEq, Int.reduceToNat, Int.reduceNeg]
  refine ⟨by decide, by decide, ?_⟩
  refine grd_decf rfl (fun e => absurd e (by decide)) fun _ => ?_
  simp only [push_cast, reduceIte, Nat.reduceEqDiff, Nat.reduceAdd, Nat.reduceSub, Nat.reduceMul, Nat.reduceBEq, Nat.reduceLT, Nat.reduceLeDiff, reduceCtorEq, Int.reduceToNat, Int.reduceNeg]
  refine cal_sub hV2 (by simp only [push_cast, reduceIte, Nat.reduceEqDiff, Nat.reduceAdd, Nat.reduceSub, Nat.reduceMul, Nat.reduceBEq, Nat.reduceLT, Nat.reduceLeDiff, reduceCtorEq, Int.reduceToNat, Int.reduceNeg]) ?_
  simp only [push_cast, reduceIte, Nat.reduceEqDiff, Nat.reduceAdd, Nat.reduceSub, Nat.reduceMul, Nat.reduceBEq, Nat.reduceLT, Nat.reduceLeDiff, reduceCtorEq, Int.reduceToNat, Int.reduceNeg]
  refine grd_decf rfl (fun e => absurd e (by decide)) fun _ => ?_
  simp only [push_cast, reduceIte, Nat.reduceEqDiff, Nat.reduceAdd, Nat.reduceSub, Nat.reduceMul, Nat.reduceBEq, Nat.reduceLT, Nat.reduceLeDiff, reduceCtorEq, Int.reduceToNat, Int.reduceNeg]
  refine cal_sub hU (by simp only [push_cast, reduceIte, Nat.reduceEqDiff, Nat.reduceAdd, Nat.reduceSub, Nat.reduceMul, Nat.reduceBEq, Nat.reduceLT, Nat.reduceLeDiff, reduceCtorEq, Int.reduceToNat, Int.reduceNeg]) ?_
  simp only [push_cast, reduceIte, Nat.reduceEqDiff, Nat.reduceAdd, Nat.reduceSub, Nat.reduceMul, Nat.reduceBEq, Nat.reduceLT, Nat.reduceLeDiff, reduceCtorEq, Int.reduceToNat, Int.reduceNeg]
  refine ⟨⟨by decide, by decide⟩, ?_⟩
  rw [show ((List.replicate 2 0).set 0 6).set 1 10 = [(6 : Int), 10] from rfl]
  refine cal_sub hI (by simp only [push_cast, reduceIte, Nat.reduceEqDiff, Nat.reduceAdd, Nat.reduceSub, Nat.reduceMul, Nat.reduceBEq, Nat.reduceLT, Nat.reduceLeDiff, reduceCtorEq, Int.reduceToNat, Int.reduceNeg]) ?_
  simp only [push_cast, reduceIte, Nat.reduceEqDiff, Nat.reduceAdd, Nat.reduceSub, Nat.reduceMul, Nat.reduceBEq, Nat.reduceLT, Nat.reduceLeDiff, reduceCtorEq, Int.reduceToNat, Int.reduceNeg]
  refine cal_sub h10 (by simp only [push_cast, reduceIte, Nat.reduceEqDiff, Nat.reduceAdd, Nat.reduceSub, Nat.reduceMul, Nat.reduceBEq, Nat.reduceLT, Nat.reduceLeDiff, reduceCtorEq, Int.reduceToNat, Int.reduceNeg]) ?_
  simp only [push_cast, reduceIte, Nat.reduceEqDiff, Nat.reduceAdd, Nat.reduceSub, Nat.reduceMul, Nat.reduceBEq, Nat.reduceLT, Nat.reduceLeDiff, reduceCtorEq, Int.reduceToNat, Int.reduceNeg]
  refine cal_sub h11 (by simp only [push_cast, reduceIte, Nat.reduceEqDiff, Nat.reduceAdd, Nat.reduceSub, Nat.reduceMul, Nat.reduceBEq, Nat.reduceLT, Nat.reduceLeDiff, reduceCtorEq, Int.reduceToNat, Int.reduceNeg]) ?_
  simp only [push_cast, reduceIte, Nat.reduceEqDiff, Nat.reduceAdd, Nat.reduceSub, Nat.reduceMul, Nat.reduceBEq, Nat.reduceLT, Nat.reduceLeDiff, reduceCtorEq, Int.reduceToNat, Int.reduceNeg]
  refine cond_dec (fun e => absurd e (by decide)) fun _ => ?_
  refine ⟨⟨by decide, by decide⟩, ⟨by decide, by decide⟩, by decide, ⟨by decide, by decide⟩, by decide, ?_⟩
  simp only [List.replicate, List.nil_append, List.length_nil, Nat.zero_add]
  rw [show List.take cT.sel.length ((cT.sel.set 6 6).set 14 1) = kT.sel from rfl, show (cT.sel.set 6 6).set 14 1 = kT.sel from rfl]
  refine cal_sub hd (by simp only [push_cast, reduceIte, Nat.reduceEqDiff, Nat.reduceAdd, Nat.reduceSub, Nat.reduceMul, Nat.reduceBEq, Nat.reduceLT, Nat.reduceLeDiff, reduceCtorEq, Int.reduceToNat, Int.reduceNeg]) ?_
  simp only [push_cast, reduceIte, Nat.reduceEqDiff, Nat.reduceAdd, Nat.reduceSub, Nat.reduceMul, Nat.reduceBEq, Nat.reduceLT, Nat.reduceLeDiff, reduceCtorEq, Int.reduceToNat, Int.reduceNeg]
  rw [show List.take cT.sel.length kT.sel = kT.sel from rfl]
  refine cal_sub hk (by simp only [push_cast, reduceIte, Nat.reduceEqDiff, Nat.reduceAdd, Nat.reduceSub, Nat.reduceMul, Nat.reduceBEq, Nat.reduceLT, Nat.reduceLeDiff, reduceCtorEq, Int.reduceToNat, Int.reduceNeg]) ?_
  simp only [push_cast, reduceIte, Nat.reduceEqDiff, Nat.reduceAdd, Nat.reduceSub, Nat.reduceMul, Nat.reduceBEq, Nat.reduceLT, Nat.reduceLeDiff, reduceCtorEq, Int.reduceToNat, Int.reduceNeg]
  rw [show List.take cT.sel.length kT.sel = kT.sel from rfl]
  refine cal_sub hV3 (by simp only [push_cast, reduceIte, Nat.reduceEqDiff, Nat.reduceAdd, Nat.reduceSub, Nat.reduceMul, Nat.reduceBEq, Nat.reduceLT, Nat.reduceLeDiff, reduceCtorEq, Int.reduceToNat, Int.reduceNeg]) ?_
  simp only [push_cast, reduceIte, Nat.reduceEqDiff, Nat.reduceAdd, Nat.reduceSub, Nat.reduceMul, Nat.reduceBEq, Nat.reduceLT, Nat.reduceLeDiff, reduceCtorEq, Int.reduceToNat, Int.reduceNeg]
  refine ⟨⟨by decide, by decide⟩, ?_⟩
  rw [show ((List.replicate 2 0).set 0 6).set 1 14 = [(6 : Int), 14] from rfl]
  refine cal_sub hI2 (by simp only [push_cast, reduceIte, Nat.reduceEqDiff, Nat.reduceAdd, Nat.reduceSub, Nat.reduceMul, Nat.reduceBEq, Nat.reduceLT, Nat.reduceLeDiff, reduceCtorEq, Int.reduceToNat, Int.reduceNeg]) ?_
  simp only [push_cast, reduceIte, Nat.reduceEqDiff, Nat.reduceAdd, Nat.reduceSub, Nat.reduceMul, Nat.reduceBEq, Nat.reduceLT, Nat.reduceLeDiff, reduceCtorEq, Int.reduceToNat, Int.reduceNeg]
  refine dcal_sub hB (by simp only [push_cast, reduceIte, Nat.reduceEqDiff, Nat.reduceAdd, Nat.reduceSub, Nat.reduceMul, Nat.reduceBEq, Nat.reduceLT, Nat.reduceLeDiff, reduceCtorEq, Int.reduceToNat, Int.reduceNeg]) rfl ?_
  simp only [push_cast, reduceIte, Nat.reduceEqDiff, Nat.reduceAdd, Nat.reduceSub, Nat.reduceMul, Nat.reduceBEq, Nat.reduceLT, Nat.reduceLeDiff, reduceCtorEq, Int.reduceToNat, Int.reduceNeg]
  refine cal_sub hRB (by simp only [push_cast, reduceIte, Nat.reduceEqDiff, Nat.reduceAdd, Nat.reduceSub, Nat.reduceMul, Nat.reduceBEq, Nat.reduceLT, Nat.reduceLeDiff, reduceCtorEq, Int.reduceToNat, Int.reduceNeg]) ?_
  simp only [push_cast, reduceIte, Nat.reduceEqDiff, Nat.reduceAdd, Nat.reduceSub, Nat.reduceMul, Nat.reduceBEq, Nat.reduceLT, Nat.reduceLeDiff, reduceCtorEq, Int.reduceToNat, Int.reduceNeg]
  refine cal_sub hS (by simp only [push_cast, reduceIte, Nat.reduceEqDiff, Nat.reduceAdd, Nat.reduceSub, Nat.reduceMul, Nat.reduceBEq, Nat.reduceLT, Nat.reduceLeDiff, reduceCtorEq, Int.reduceToNat, Int.reduceNeg]) ?_
  simp only [push_cast, reduceIte, Nat.reduceEqDiff, Nat.reduceAdd, Nat.reduceSub, Nat.reduceMul, Nat.reduceBEq, Nat.reduceLT, Nat.reduceLeDiff, reduceCtorEq, Int.reduceToNat, Int.reduceNeg]
  refine cal_sub hV4 ⟨Sub.aggL ⟨.refl _, .refl _, .refl _, .refl _, .slp _ _ _ _ (fun h => by cases h), trivial⟩, Sub.aggL ⟨.nil _ _, .nil _ _, .nil _ _, .nil _ _, trivial⟩, trivial⟩ ?_
  simp only [push_cast, reduceIte, Nat.reduceEqDiff, Nat.reduceAdd, Nat.reduceSub, Nat.reduceMul, Nat.reduceBEq, Nat.reduceLT, Nat.reduceLeDiff, reduceCtorEq, Int.reduceToNat, Int.reduceNeg]
end Go.Proofs.Ytledbjkolidhkaa
namespace Go.Proofs.Ytledbjkolidhkaa.Txt
open Go Go.Vc
set_option maxRecDepth 100000
def ac21_200w : AC :=
 (.seq (.reg [200, 19, 200] [
 ⟨some 201, none, .box (.t 200)⟩, ⟨some 202, none, .alc [.nil, .nil, .nil, .nil]⟩])
 (.seq (.reg [200, 19, 201, 202] [
 ⟨some 204, none, .fa 0 (.t 201)⟩, ⟨some 205, none, .ld false 1 (.t 204)⟩, ⟨some 206, none, .fa 1 (.t 201)⟩, ⟨some 207, none, .ld false 1 (.t 206)⟩, ⟨some 208, none, .ari .mul true .i64 (.t 205) (.t 207)⟩, ⟨some 203, none, .mv (.t 208)⟩])
 (.seq (.drw [200, 19, 201, 202, 203] [
 ⟨⟨some 209, none, .ld true 5 (.t 201)⟩, [], [213, 215, 217], true⟩, ⟨⟨some 210, none, .cal 22 [(.t 209)]⟩, [], [213, 215, 217], true⟩, ⟨⟨some 211, none, .mks 1 3 8 [.sc (.int .i64 0)] (.t 210) (.t 210)⟩, [211], [213, 215, 217], true⟩, ⟨⟨some 212, none, .mv (.t 203)⟩, [], [211, 215, 217], true⟩, ⟨⟨some 213, none, .mks 1 3 8 [.sc (.int .i64 0)] (.t 212) (.t 212)⟩, [213], [211, 215, 217], true⟩, ⟨⟨some 214, none, .mv (.t 203)⟩, [], [211, 213, 217], true⟩, ⟨⟨some 215, none, .mks 1 3 8 [.sc (.int .i64 0)] (.t 214) (.t 214)⟩, [215], [211, 213, 217], true⟩, ⟨⟨some 216, none, .mv (.t 203)⟩, [], [211, 213, 215], true⟩, ⟨⟨some 217, none, .mks 1 3 8 [.sc (.int .i64 0)] (.t 216) (.t 216)⟩, [217], [211, 213, 215], true⟩, ⟨⟨some 218, none, .bld [.nil, .nil, .nil, .nil] [(0, 1, (.t 211)), (1, 1, (.t 213)), (2, 1, (.t 215)), (3, 1, (.t 217))]⟩, [], [], false⟩, ⟨⟨none, none, .sto 4 (.t 202) (.t 218)⟩, [], [], false⟩])
 .ret)))
def rv21_200w : List RV := [.cell 202 true 4]
theorem ok21_200w : fnOkK Try.prog 200 ac21_200w rv21_200w Try.f21 = true := by kernel_rfl

def ac16w : AC :=
 (.seq (.reg [0, 133, 0, 1] [
 ⟨some 2, none, .box (.t 0)⟩, ⟨some 4, none, .alc [.nil, .nil, .nil, .nil]⟩])
 (.seq (.reg [0, 133, 1, 2, 4] [
 ⟨some 10, none, .ld true 5 (.t 2)⟩, ⟨some 11, none, .clm 21 [(.t 10)]⟩, ⟨some 5, none, .alc [.nil, .nil, .nil, .nil]⟩, ⟨none, none, .sto 4 (.t 5) (.t 11)⟩])
 (.seq (.seq (.reg [0, 133, 1, 2, 4, 5] [
 ⟨some 6, none, .mv (.c (.sc (.int .i64 0)))⟩])
 (.block 0
 (.loop [0, 133, 1, 2, 4, 5, 6]
 (.seq (.seq (.reg [0, 133, 1, 2, 4, 5, 6] [
 ⟨some 12, none, .mv (.t 6)⟩, ⟨some 13, none, .ari .add true .i64 (.t 12) (.c (.sc (.int .i64 1)))⟩, ⟨some 14, none, .mv (.t 1)⟩, ⟨some 15, none, .len (.t 14)⟩, ⟨some 16, none, .cmp .lss .i64 (.t 13) (.t 15)⟩, ⟨some 17, none, .mv (.t 16)⟩, ⟨some 18, some (17, true), .mv (.t 6)⟩, ⟨some 19, some (17, true), .cmp .lss .i64 (.t 18) (.c (.sc (.int .i64 80)))⟩, ⟨some 20, none, .pick (.t 17) (.t 19) (.c (.sc (.bool false)))⟩])
 (.cut [0, 133, 1, 2, 4, 5, 6, 20] (.cond (.t 20)
 .skip
 (.exit 0))))
 (.seq (.block 1
 (.seq (.drw [0, 133, 1, 2, 4, 5, 6] [
 ⟨⟨some 23, none, .mv (.t 6)⟩, [], [], true⟩, ⟨⟨some 24, none, .ari .mul true .i64 (.c (.sc (.int .i64 7))) (.t 23)⟩, [], [], true⟩, ⟨⟨some 25, none, .mv (.t 1)⟩, [], [], true⟩, ⟨⟨some 26, none, .mv (.t 6)⟩, [], [], true⟩, ⟨⟨some 27, none, .ixs 1 (.t 25) (.t 26)⟩, [], [], true⟩, ⟨⟨some 28, none, .ld false 1 (.t 27)⟩, [], [], true⟩, ⟨⟨some 29, none, .cnv true .i64 (.t 28)⟩, [], [], true⟩, ⟨⟨some 30, none, .ari .add true .i64 (.t 24) (.t 29)⟩, [], [], true⟩, ⟨⟨some 31, none, .fa 0 (.t 5)⟩, [], [], true⟩, ⟨⟨some 32, none, .ld false 1 (.t 31)⟩, [], [], true⟩, ⟨⟨some 33, none, .len (.t 32)⟩, [], [], true⟩, ⟨⟨some 34, none, .dvd .rem true .i64 (.t 30) (.t 33)⟩, [], [], false⟩, ⟨⟨some 7, none, .mv (.t 34)⟩, [], [], false⟩])
 (.seq (.reg [0, 133, 1, 2, 4, 5, 6, 7] [
 ⟨some 35, none, .ld true 5 (.t 2)⟩, ⟨some 36, none, .mv (.t 7)⟩, ⟨some 37, none, .cal 39 [(.t 35), (.t 36)]⟩, ⟨some 8, none, .mv (.t 37)⟩])
 (.seq (.seq (.reg [0, 133, 1, 2, 4, 5, 6, 7, 8] [
 ⟨some 38, none, .mv (.t 8)⟩, ⟨some 39, none, .cmp .gtr .i64 (.t 38) (.c (.sc (.int .i64 0)))⟩])
 (.cond (.t 39)
 (.drw [0, 133, 1, 2, 4, 5, 6, 7, 8] [
 ⟨⟨some 40, none, .fa 0 (.t 5)⟩, [], [], true⟩, ⟨⟨some 41, none, .ld false 1 (.t 40)⟩, [], [], true⟩, ⟨⟨some 42, none, .mv (.t 7)⟩, [], [], true⟩, ⟨⟨some 43, none, .mv (.t 1)⟩, [], [], true⟩, ⟨⟨some 44, none, .mv (.t 6)⟩, [], [], true⟩, ⟨⟨some 45, none, .ari .add true .i64 (.t 44) (.c (.sc (.int .i64 1)))⟩, [], [], true⟩, ⟨⟨some 46, none, .ixs 1 (.t 43) (.t 45)⟩, [], [], true⟩, ⟨⟨some 47, none, .ld false 1 (.t 46)⟩, [], [], true⟩, ⟨⟨some 48, none, .cnv true .i64 (.t 47)⟩, [], [], true⟩, ⟨⟨some 49, none, .mv (.t 8)⟩, [], [], true⟩, ⟨⟨some 50, none, .dvd .rem true .i64 (.t 48) (.t 49)⟩, [], [], true⟩, ⟨⟨some 51, none, .ari .add true .i64 (.c (.sc (.int .i64 1))) (.t 50)⟩, [], [], true⟩, ⟨⟨some 52, none, .ixs 1 (.t 41) (.t 42)⟩, [], [], false⟩, ⟨⟨none, none, .sto 1 (.t 52) (.t 51)⟩, [], [], false⟩])
 .skip))
 (.seq (.drw [0, 133, 1, 2, 4, 5, 6] [
 ⟨⟨some 53, none, .mv (.t 1)⟩, [], [], true⟩, ⟨⟨some 54, none, .mv (.t 6)⟩, [], [], true⟩, ⟨⟨some 55, none, .ixs 1 (.t 53) (.t 54)⟩, [], [], true⟩, ⟨⟨some 56, none, .ld false 1 (.t 55)⟩, [], [], true⟩, ⟨⟨some 57, none, .cnv true .i64 (.t 56)⟩, [], [], true⟩, ⟨⟨some 58, none, .fa 0 (.t 2)⟩, [], [], true⟩, ⟨⟨some 59, none, .ld false 1 (.t 58)⟩, [], [], true⟩, ⟨⟨some 60, none, .fa 1 (.t 2)⟩, [], [], true⟩, ⟨⟨some 61, none, .ld false 1 (.t 60)⟩, [], [], true⟩, ⟨⟨some 62, none, .ari .mul true .i64 (.t 59) (.t 61)⟩, [], [], true⟩, ⟨⟨some 63, none, .dvd .rem true .i64 (.t 57) (.t 62)⟩, [], [], false⟩, ⟨⟨some 9, none, .mv (.t 63)⟩, [], [], false⟩])
 (.block 2
 (.seq (.reg [0, 133, 1, 2, 4, 5, 6, 9] [
 ⟨some 65, none, .fa 4 (.t 2)⟩, ⟨some 66, none, .ld false 1 (.t 65)⟩, ⟨some 67, none, .mv (.t 9)⟩, ⟨some 68, none, .ixs 1 (.t 66) (.t 67)⟩, ⟨some 69, none, .ld false 1 (.t 68)⟩, ⟨some 70, none, .cmp .eql .i64 (.t 69) (.c (.sc (.int .i64 0)))⟩, ⟨some 64, none, .mv (.t 70)⟩])
 (.cond (.t 64)
 .skip
 (.seq (.reg [0, 133, 1, 2, 4, 5, 6, 9] [
 ⟨some 72, none, .mv (.t 1)⟩, ⟨some 73, none, .mv (.t 6)⟩, ⟨some 74, none, .ari .add true .i64 (.t 73) (.c (.sc (.int .i64 1)))⟩, ⟨some 75, none, .ixs 1 (.t 72) (.t 74)⟩, ⟨some 76, none, .ld false 1 (.t 75)⟩, ⟨some 77, none, .dvd .rem true .u8 (.t 76) (.c (.sc (.int .u8 3)))⟩, ⟨some 78, none, .cmp .eql .u8 (.t 77) (.c (.sc (.int .u8 0)))⟩, ⟨some 71, none, .mv (.t 78)⟩])
 (.cond (.t 71)
 (.seq (.reg [0, 133, 1, 2, 4, 5, 6, 9] [
 ⟨some 79, none, .fa 1 (.t 5)⟩, ⟨some 80, none, .ld false 1 (.t 79)⟩, ⟨some 81, none, .mv (.t 9)⟩, ⟨some 82, none, .ixs 1 (.t 80) (.t 81)⟩, ⟨none, none, .sto 1 (.t 82) (.c (.sc (.int .i64 1)))⟩])
 (.seq (.drw [0, 133, 1, 2, 4, 5, 6, 9] [
 ⟨⟨some 83, none, .fa 2 (.t 5)⟩, [], [], true⟩, ⟨⟨some 84, none, .ld false 1 (.t 83)⟩, [], [], true⟩, ⟨⟨some 85, none, .mv (.t 9)⟩, [], [], true⟩, ⟨⟨some 86, none, .mv (.t 1)⟩, [], [], true⟩, ⟨⟨some 87, none, .mv (.t 6)⟩, [], [], true⟩, ⟨⟨some 88, none, .ari .add true .i64 (.t 87) (.c (.sc (.int .i64 1)))⟩, [], [], true⟩, ⟨⟨some 89, none, .ixs 1 (.t 86) (.t 88)⟩, [], [], true⟩, ⟨⟨some 90, none, .ld false 1 (.t 89)⟩, [], [], true⟩, ⟨⟨some 91, none, .cnv true .i64 (.t 90)⟩, [], [], true⟩, ⟨⟨some 92, none, .ari .mul true .i64 (.c (.sc (.int .i64 100))) (.t 91)⟩, [], [], true⟩, ⟨⟨some 93, none, .ixs 1 (.t 84) (.t 85)⟩, [], [], false⟩, ⟨⟨none, none, .sto 1 (.t 93) (.t 92)⟩, [], [], false⟩])
 (.reg [0, 133, 1, 2, 4, 5, 6, 9] [
 ⟨some 94, none, .fa 3 (.t 5)⟩, ⟨some 95, none, .ld false 1 (.t 94)⟩, ⟨some 96, none, .mv (.t 9)⟩, ⟨some 97, none, .ixs 1 (.t 95) (.t 96)⟩, ⟨none, none, .sto 1 (.t 97) (.c (.sc (.int .i64 0)))⟩])))
 (.seq (.reg [0, 133, 1, 2, 4, 5, 6, 9] [
 ⟨some 99, none, .mv (.t 1)⟩, ⟨some 100, none, .mv (.t 6)⟩, ⟨some 101, none, .ari .add true .i64 (.t 100) (.c (.sc (.int .i64 1)))⟩, ⟨some 102, none, .ixs 1 (.t 99) (.t 101)⟩, ⟨some 103, none, .ld false 1 (.t 102)⟩, ⟨some 104, none, .dvd .rem true .u8 (.t 103) (.c (.sc (.int .u8 3)))⟩, ⟨some 105, none, .cmp .eql .u8 (.t 104) (.c (.sc (.int .u8 1)))⟩, ⟨some 98, none, .mv (.t 105)⟩])
 (.cond (.t 98)
 (.seq (.reg [0, 133, 1, 2, 4, 5, 6, 9] [
 ⟨some 106, none, .fa 1 (.t 5)⟩, ⟨some 107, none, .ld false 1 (.t 106)⟩, ⟨some 108, none, .mv (.t 9)⟩, ⟨some 109, none, .ixs 1 (.t 107) (.t 108)⟩, ⟨none, none, .sto 1 (.t 109) (.c (.sc (.int .i64 2)))⟩])
 (.seq (.drw [0, 133, 1, 2, 4, 5, 6, 9] [
 ⟨⟨some 110, none, .fa 2 (.t 5)⟩, [], [], true⟩, ⟨⟨some 111, none, .ld false 1 (.t 110)⟩, [], [], true⟩, ⟨⟨some 112, none, .mv (.t 9)⟩, [], [], true⟩, ⟨⟨some 113, none, .mv (.t 1)⟩, [], [], true⟩, ⟨⟨some 114, none, .mv (.t 6)⟩, [], [], true⟩, ⟨⟨some 115, none, .ari .add true .i64 (.t 114) (.c (.sc (.int .i64 1)))⟩, [], [], true⟩, ⟨⟨some 116, none, .ixs 1 (.t 113) (.t 115)⟩, [], [], true⟩, ⟨⟨some 117, none, .ld false 1 (.t 116)⟩, [], [], true⟩, ⟨⟨some 118, none, .cnv true .i64 (.t 117)⟩, [], [], true⟩, ⟨⟨some 119, none, .ari .mul true .i64 (.c (.sc (.int .i64 100))) (.t 118)⟩, [], [], true⟩, ⟨⟨some 120, none, .ixs 1 (.t 111) (.t 112)⟩, [], [], false⟩, ⟨⟨none, none, .sto 1 (.t 120) (.t 119)⟩, [], [], false⟩])
 (.drw [0, 133, 1, 2, 4, 5, 6, 9] [
 ⟨⟨some 121, none, .fa 3 (.t 5)⟩, [], [], true⟩, ⟨⟨some 122, none, .ld false 1 (.t 121)⟩, [], [], true⟩, ⟨⟨some 123, none, .mv (.t 9)⟩, [], [], true⟩, ⟨⟨some 124, none, .mv (.t 1)⟩, [], [], true⟩, ⟨⟨some 125, none, .mv (.t 6)⟩, [], [], true⟩, ⟨⟨some 126, none, .ari .add true .i64 (.t 125) (.c (.sc (.int .i64 1)))⟩, [], [], true⟩, ⟨⟨some 127, none, .ixs 1 (.t 124) (.t 126)⟩, [], [], true⟩, ⟨⟨some 128, none, .ld false 1 (.t 127)⟩, [], [], true⟩, ⟨⟨some 129, none, .dvd .quo true .u8 (.t 128) (.c (.sc (.int .u8 3)))⟩, [], [], true⟩, ⟨⟨some 130, none, .cnv true .i64 (.t 129)⟩, [], [], true⟩, ⟨⟨some 131, none, .ixs 1 (.t 122) (.t 123)⟩, [], [], false⟩, ⟨⟨none, none, .sto 1 (.t 131) (.t 130)⟩, [], [], false⟩])))
 .skip))))))))))))
 (.reg [0, 133, 1, 2, 4, 5, 6] [
 ⟨some 21, none, .mv (.t 6)⟩, ⟨some 22, none, .ari .add true .i64 (.t 21) (.c (.sc (.int .i64 2)))⟩, ⟨some 6, none, .mv (.t 22)⟩]))))))
 (.seq (.reg [0, 133, 4, 5] [
 ⟨some 132, none, .ld true 4 (.t 5)⟩, ⟨none, none, .sto 4 (.t 4) (.t 132)⟩])
 .ret))))
def rv16w : List RV := [.cell 4 true 4]
theorem ok16w : fnOk Try.prog ac16w rv16w Try.f16 = true := by kernel_rfl
end Go.Proofs.Ytledbjkolidhkaa.Txt
namespace Go.Proofs.Ytledbjkolidhkaa
open Go Go.Vc Txt
theorem map_range_succ {α : Type} (f : Nat → α) (k : Nat) : (List.range (k + 1)).map f = (List.range k).map f ++ [f k] := by simp [List.range_succ]
def kindF (l : List Int) (i : Nat) : Int := if i < l.length ∧ l.getD i default % 8 < 2 then l.getD i default % 8 else 2
def kindsF (n : Nat) (l : List Int) : List Int := (List.range n).map (kindF l)
theorem kinds_ok (n : Nat) (hn : (n : Int) ≤ 1000000) (l : List Int) (hl : (l.length : Int) ≤ 9223372036854775807) (hb : ∀ x ∈ l, 0 ≤ x ∧ x ≤ 255) :
    FnEq Try.prog 49 [.int n, .sl false 1 (bytes8 l)] (.sl true 1 (ints (kindsF n l))) := by
  refine FnEq.of_awp Try.func49 ok49 (by show 2 ≤ _; decide) (by simp only [push_cast, reduceIte, Nat.reduceEqDiff, Nat.reduceAdd, Nat.reduceSub, Nat.reduceMul, Nat.reduceBEq, Nat.reduceLT, Nat.reduceLeDiff, reduceCtorEq, Int.reduceToNat, Int.reduceNeg] <;> first | exact fun _ _ => trivial | simp) ?_
  simp only [ac49, rv49, push_cast, reduceIte, Nat.reduceEqDiff, Nat.reduceAdd, Nat.reduceSub, Nat.reduceMul, Nat.reduceBEq, Nat.reduceLT, Nat.reduceLeDiff, reduceCtorEq, Int.reduceToNat, Int.reduceNeg]
  refine loop_of (fun m st => ∃ k : Nat, k ≤ n ∧ m = n - k ∧
    st = ⟨[(0, .int n), (1, .sl false 1 (bytes8 l)), (5, .view 8 0 k), (6, .int k)], [], [(8, ⟨1, 3, ints ((List.range k).map (kindF l))⟩)], []⟩) n ?_ ?_
  · refine ⟨0, by omega, by omega, ?_⟩
    simp only [push_cast, reduceIte, Nat.reduceEqDiff, Nat.reduceAdd, Nat.reduceSub, Nat.reduceMul, Nat.reduceBEq, Nat.reduceLT, Nat.reduceLeDiff, reduceCtorEq, Int.reduceToNat, Int.reduceNeg]
    rfl
  · rintro m st ⟨k, hk, rfl, rfl⟩
    simp only [push_cast, reduceIte, Nat.reduceEqDiff, Nat.reduceAdd, Nat.reduceSub, Nat.reduceMul, Nat.reduceBEq, Nat.reduceLT, Nat.reduceLeDiff, reduceCtorEq, Int.reduceToNat, Int.reduceNeg]
    have hlen : ((List.range k).map (kindF l)).length = k := by simp
    have hsucc := map_range_succ (kindF l) k
    refine cond_dec (fun h => ?_) fun h => ?_
    · refine cut_of ⟨[(0, .int n), (1, .sl false 1 (bytes8 l)), (5, .view 8 0 k), (6, .int k), (7, .int 2), (25, .bool (decide (k < l.length ∧ l.getD k default % 8 < 2)))], [], [(8, ⟨1, 3, ints ((List.range k).map (kindF l))⟩)], []⟩ ?_ ?_
      · refine grd_dec rfl (fun h1 => ?_) fun h1 => ?_ <;> simp only [push_cast, reduceIte, Nat.reduceEqDiff, Nat.reduceAdd, Nat.reduceSub, Nat.reduceMul, Nat.reduceBEq, Nat.reduceLT, Nat.reduceLeDiff, reduceCtorEq, Int.reduceToNat, Int.reduceNeg]
        · have h1' : k < l.length := by omega
          have hx := hb _ (show l.getD k default ∈ l by simp [List.getD_eq_getElem?_getD, h1'])
          refine ⟨⟨by omega, by omega⟩, h1', ⟨by omega, by omega, by omega⟩, ?_⟩
          rw [show decide (k < l.length ∧ l.getD k default % 8 < 2) = decide (l.getD k default % 8 < 2) from by rw [decide_eq_decide]; omega]
        · have h1' : ¬ k < l.length := by omega
          simp [h1']
      simp only [push_cast, reduceIte, Nat.reduceEqDiff, Nat.reduceAdd, Nat.reduceSub, Nat.reduceMul, Nat.reduceBEq, Nat.reduceLT, Nat.reduceLeDiff, reduceCtorEq, Int.reduceToNat, Int.reduceNeg]
      refine cond_dec (fun h1 => ?_) fun h1 => ?_
      · have hx := hb _ (show l.getD k default ∈ l by simp [List.getD_eq_getElem?_getD, h1.1])
        have hf : kindF l k = l.getD k default % 8 := by rw [kindF, if_pos h1]
        rw [hf] at hsucc
        refine ⟨⟨by omega, by omega⟩, h1.1, ⟨by omega, by omega, by omega⟩, ⟨by omega, by omega⟩, by simp, ⟨hlen.symm, by omega, by omega⟩, ⟨by omega, by omega⟩, _, ?_, k + 1, by omega, rfl, ?_⟩
        · omega
        · rw [hsucc]; simp
      · have hf : kindF l k = 2 := by rw [kindF, if_neg h1]
        rw [hf] at hsucc
        refine ⟨by simp, ⟨hlen.symm, by omega, by omega⟩, ⟨by omega, by omega⟩, _, ?_, k + 1, by omega, rfl, ?_⟩
        · omega
        · rw [hsucc]; simp
    · have hkk : k = n := by omega
      subst hkk
      rw [List.take_of_length_le (by omega)]
      exact ⟨fun _ _ => trivial, .refl _⟩
structure RawG where
  w : Int
  h : Int
  tracks : Int
  pads : Int
  kind : List Int
def rawGC (q : Bool) (x : RawG) : List PV := [.sc (.int .u8 x.w), .sc (.int .u8 x.h), .sc (.int .u8 x.tracks), .sc (.int .u8 x.pads), .sl q 1 (bytes8 x.kind)]
@[push_cast] theorem rawGC_eq (q : Bool) (x : RawG) : rawGC q x = [.sc (.int .u8 x.w), .sc (.int .u8 x.h), .sc (.int .u8 x.tracks), .sc (.int .u8 x.pads), .sl q 1 (bytes8 x.kind)] := rfl
structure RawG.Ok (x : RawG) : Prop where
  w : 0 ≤ x.w ∧ x.w ≤ 255
  h : 0 ≤ x.h ∧ x.h ≤ 255
  tracks : 0 ≤ x.tracks ∧ x.tracks ≤ 255
  pads : 0 ≤ x.pads ∧ x.pads ≤ 255
  len : (x.kind.length : Int) ≤ 9223372036854775807
  kind : ∀ k ∈ x.kind, 0 ≤ k ∧ k ≤ 255
def gridF (x : RawG) : Grid := ⟨2 + x.w % 4, 2 + x.h % 4, 2 + x.tracks % 3, 24, kindsF ((2 + x.w % 4) * (2 + x.h % 4)).toNat x.kind⟩
theorem made_ok (x : RawG) (hx : x.Ok) : FnEq Try.prog 30 [.agg (rawGC false x)] (.agg (gridC true (gridF x))) := by
  refine FnEq.of_awp Try.func30 ok30 (by show 1 ≤ _; decide) (by simp only [push_cast, reduceIte, Nat.reduceEqDiff, Nat.reduceAdd, Nat.reduceSub, Nat.reduceMul, Nat.reduceBEq, Nat.reduceLT, Nat.reduceLeDiff, reduceCtorEq, Int.reduceToNat, Int.reduceNeg] <;> first | exact fun _ _ => trivial | simp) ?_
  simp only [ac30, rv30, push_cast, reduceIte, Nat.reduceEqDiff, Nat.reduceAdd, Nat.reduceSub, Nat.reduceMul, Nat.reduceBEq, Nat.reduceLT, Nat.reduceLeDiff, reduceCtorEq, Int.reduceToNat, Int.reduceNeg]
  obtain ⟨h1, h2, h3, h4, h5, h6⟩ := hx
  have hm : 0 ≤ (2 + x.w % 4) * (2 + x.h % 4) ∧ (2 + x.w % 4) * (2 + x.h % 4) ≤ 5 * 5 := ⟨Int.mul_nonneg (by omega) (by omega), Int.mul_le_mul (by omega) (by omega) (by omega) (by omega)⟩
  obtain ⟨n, hn⟩ : ∃ n : Nat, (2 + x.w % 4) * (2 + x.h % 4) = n := ⟨((2 + x.w % 4) * (2 + x.h % 4)).toNat, by omega⟩
  have hg : gridF x = ⟨2 + x.w % 4, 2 + x.h % 4, 2 + x.tracks % 3, 24, kindsF n x.kind⟩ := by unfold gridF; rw [hn, Int.toNat_natCast]
  rw [hn] at hm ⊢
  rw [hg]
  refine ⟨⟨by omega, by omega, by omega⟩, ⟨by omega, by omega⟩, ⟨by omega, by omega⟩, ⟨by omega, by omega, by omega⟩, ⟨by omega, by omega⟩, ⟨by omega, by omega⟩, ⟨by omega, by omega, by omega⟩, ⟨by omega, by omega⟩, ⟨by omega, by omega⟩, ⟨by omega, by omega⟩, ?_⟩
  refine cal_sub (kinds_ok n (by omega) x.kind h5 h6) (by simp only [push_cast, reduceIte, Nat.reduceEqDiff, Nat.reduceAdd, Nat.reduceSub, Nat.reduceMul, Nat.reduceBEq, Nat.reduceLT, Nat.reduceLeDiff, reduceCtorEq, Int.reduceToNat, Int.reduceNeg]) ?_
  simp only [push_cast, reduceIte, Nat.reduceEqDiff, Nat.reduceAdd, Nat.reduceSub, Nat.reduceMul, Nat.reduceBEq, Nat.reduceLT, Nat.reduceLeDiff, reduceCtorEq, Int.reduceToNat, Int.reduceNeg]
  exact fun _ _ => trivial
theorem gridF_ok (x : RawG) : GOk (gridF x) ∧ (gridF x).pads = 24 := by
  have hm : 0 ≤ (2 + x.w % 4) * (2 + x.h % 4) := Int.mul_nonneg (by omega) (by omega)
  refine ⟨⟨?_, ?_, ?_, ?_, ?_⟩, rfl⟩ <;> simp only [gridF, kindsF, List.length_map, List.length_range] <;> omega
def wilA (c : Cfg) : List (Nat × Arr) := [(211, ⟨1, 3, ints c.sel⟩), (213, ⟨1, 3, ints c.mode⟩), (215, ⟨1, 3, ints c.tab⟩), (217, ⟨1, 3, ints c.ram⟩)]
def wilV (c : Cfg) : List PV := [.view 211 0 c.sel.length, .view 213 0 c.mode.length, .view 215 0 c.tab.length, .view 217 0 c.ram.length]
def wilS (l : List Int) (g : Grid) : St := ⟨[(1, .sl false 1 (bytes8 l)), (2, .ptr 2 0), (4, .ptr 4 0), (10, .agg (gridC false g))], [(2, gridC false g), (4, [.nil, .nil, .nil, .nil])], [], []⟩
theorem rblankw_ok (l : List Int) (g : Grid) (hg : GOk g) : FnM (Env.of Try.prog) 21 [.agg (gridC false g)] (wilS l g) (fun v st' => v = .agg (wilV (blankF g)) ∧ st' = { wilS l g with a := wilA (blankF g) }) := by
  have h1 := hg.count
  have h2 := hg.wh
  have h3 := hg.kind
  refine FnM.dropB 201 (FnM.dropB 202 ?_)
  simp only [wilS, push_cast, reduceIte, Nat.reduceEqDiff, Nat.reduceAdd, Nat.reduceSub, Nat.reduceMul, Nat.reduceBEq, Nat.reduceLT, Nat.reduceLeDiff, reduceCtorEq, Int.reduceToNat, Int.reduceNeg]
  refine fnM_of 200 Try.func21 ok21_200w (by show 1 ≤ _; decide) rfl (by decide) ?_
  simp only [ac21_200w, rv21_200w, push_cast, reduceIte, Nat.reduceEqDiff, Nat.reduceAdd, Nat.reduceSub, Nat.reduceMul, Nat.reduceBEq, Nat.reduceLT, Nat.reduceLeDiff, reduceCtorEq, Int.reduceToNat, Int.reduceNeg]
  refine ⟨by omega, ?_⟩
  refine dcal_sub (rcount_ok g hg) (by simp only [push_cast, reduceIte, Nat.reduceEqDiff, Nat.reduceAdd, Nat.reduceSub, Nat.reduceMul, Nat.reduceBEq, Nat.reduceLT, Nat.reduceLeDiff, reduceCtorEq, Int.reduceToNat, Int.reduceNeg]) rfl ?_
  simp only [push_cast, reduceIte, Nat.reduceEqDiff, Nat.reduceAdd, Nat.reduceSub, Nat.reduceMul, Nat.reduceBEq, Nat.reduceLT, Nat.reduceLeDiff, reduceCtorEq, Int.reduceToNat, Int.reduceNeg]
  refine ⟨by omega, by omega, by omega, by omega, ?_, ?_⟩
  · simp [wilV, blankF]
    omega
  · rw [show (g.w * g.h).toNat = g.kind.length by omega]
    simp only [wilA, blankF, List.length_replicate, push_cast, reduceIte, Nat.reduceEqDiff, Nat.reduceAdd, Nat.reduceSub, Nat.reduceMul, Nat.reduceBEq, Nat.reduceLT, Nat.reduceLeDiff, reduceCtorEq, Int.reduceToNat, Int.reduceNeg]
def selW (g : Grid) (c : Cfg) (n b : Int) : Cfg := if 0 < ((driversF g n).length : Int) then { c with sel := c.sel.set n.toNat (1 + b % ((driversF g n).length : Int)) } else c
def tileW (g : Grid) (c : Cfg) (t : Nat) (b : Int) : Cfg :=
  if g.kind.getD t 0 = 0 then c else if b % 3 = 0 then { c with mode := c.mode.set t 1, tab := c.tab.set t (100 * b), ram := c.ram.set t 0 }
  else if b % 3 = 1 then { c with mode := c.mode.set t 2, tab := c.tab.set t (100 * b), ram := c.ram.set t (b / 3) } else c
def stepW (g : Grid) (l : List Int) (c : Cfg) (i : Nat) : Cfg :=
  tileW g (selW g c ((7 * (i : Int) + l.getD i 0) % (c.sel.length : Int)) (l.getD (i + 1) 0)) (l.getD i 0 % (g.w * g.h)).toNat (l.getD (i + 1) 0)
def wildN (g : Grid) (l : List Int) : Nat → Cfg
  | 0 => blankF g
  | j + 1 => stepW g l (wildN g l j) (2 * j)
def wildF (g : Grid) (l : List Int) : Cfg := wildN g l (min (l.length / 2) 40)
def CfgLn (g : Grid) (c : Cfg) : Prop := c.sel.length = (countF g).toNat ∧ c.mode.length = g.kind.length ∧ c.tab.length = g.kind.length ∧ c.ram.length = g.kind.length
theorem selW_len {g : Grid} {c : Cfg} {n b : Int} (h : CfgLn g c) : CfgLn g (selW g c n b) := by
  obtain ⟨h1, h2, h3, h4⟩ := h
  unfold selW
  split <;> refine ⟨?_, ?_, ?_, ?_⟩ <;> simp [*]
theorem tileW_len {g : Grid} {c : Cfg} {t : Nat} {b : Int} (h : CfgLn g c) : CfgLn g (tileW g c t b) := by
  obtain ⟨h1, h2, h3, h4⟩ := h
  unfold tileW
  split
  · exact ⟨h1, h2, h3, h4⟩
  · split
    · refine ⟨?_, ?_, ?_, ?_⟩ <;> simp [*]
    · split
      · refine ⟨?_, ?_, ?_, ?_⟩ <;> simp [*]
      · exact ⟨h1, h2, h3, h4⟩
theorem stepW_len {g : Grid} {l : List Int} {c : Cfg} {i : Nat} (h : CfgLn g c) : CfgLn g (stepW g l c i) := tileW_len (selW_len h)
theorem wildN_len (g : Grid) (l : List Int) : ∀ j, CfgLn g (wildN g l j)
  | 0 => by refine ⟨?_, ?_, ?_, ?_⟩ <;> simp [wildN, blankF]
  | j + 1 => stepW_len (wildN_len g l j)
set_option maxHeartbeats 4000000 in
theorem wild_ok (g : Grid) (hg : GOk g) (l : List Int) (hl : (l.length : Int) ≤ 9223372036854775807) (hb : ∀ x ∈ l, 0 ≤ x ∧ x ≤ 255) : FnEq Try.prog 16 [.agg (gridC false g), .sl false 1 (bytes8 l)] (.agg (cfgC true (wildF g l))) := by
  have h1 := hg.count
  have h2 := hg.wh
  have h3 := hg.kind
  refine FnEq.of_awp Try.func16 ok16w (by show 2 ≤ _; decide) (by simp only [push_cast, reduceIte, Nat.reduceEqDiff, Nat.reduceAdd, Nat.reduceSub, Nat.reduceMul, Nat.reduceBEq, Nat.reduceLT, Nat.reduceLeDiff, reduceCtorEq, Int.reduceToNat, Int.reduceNeg] <;> first | exact fun _ _ => trivial | simp) ?_
  simp only [ac16w, rv16w, push_cast, reduceIte, Nat.reduceEqDiff, Nat.reduceAdd, Nat.reduceSub, Nat.reduceMul, Nat.reduceBEq, Nat.reduceLT, Nat.reduceLeDiff, reduceCtorEq, Int.reduceToNat, Int.reduceNeg]
  refine clm_eq (rblankw_ok l g hg) ?_
  simp only [wilV, wilA, wilS, push_cast, reduceIte, Nat.reduceEqDiff, Nat.reduceAdd, Nat.reduceSub, Nat.reduceMul, Nat.reduceBEq, Nat.reduceLT, Nat.reduceLeDiff, reduceCtorEq, Int.reduceToNat, Int.reduceNeg]
  refine loop_of (fun m st => ∃ j : Nat, j ≤ min (l.length / 2) 40 ∧ m = min (l.length / 2) 40 - j ∧ st = ⟨[(1, .sl false 1 (bytes8 l)), (2, .ptr 2 0), (4, .ptr 4 0), (5, .ptr 5 0), (6, .int (2 * (j : Int)))], [(2, gridC false g), (4, [.nil, .nil, .nil, .nil]), (5, wilV (wildN g l j))], wilA (wildN g l j), []⟩) (min (l.length / 2) 40) ?_ ?_
  · refine ⟨0, by omega, by omega, ?_⟩
    simp only [wilV, wilA, wildN, Int.mul_zero, push_cast, reduceIte, Nat.reduceEqDiff, Nat.reduceAdd, Nat.reduceSub, Nat.reduceMul, Nat.reduceBEq, Nat.reduceLT, Nat.reduceLeDiff, reduceCtorEq, Int.reduceToNat, Int.reduceNeg]
  rintro m st ⟨j, hj, rfl, rfl⟩
  obtain ⟨q1, q2, q3, q4⟩ := wildN_len g l j
  have e0 : ∀ (l : List Int) (j : Nat), l.getD j default = l.getD j 0 := fun _ _ => rfl
  have hst : wildN g l (j + 1) = stepW g l (wildN g l j) (2 * j) := rfl
  have hcast : ((2 * j : Nat) : Int) = 2 * (j : Int) := by omega
  have hF : wildF g l = wildN g l (min (l.length / 2) 40) := rfl
  have hba : 0 ≤ l.getD (2 * j) 0 ∧ l.getD (2 * j) 0 ≤ 255 := by
    by_cases h : 2 * j < l.length
    · exact hb _ (getD_mem h)
    · rw [List.getD_eq_getElem?_getD, List.getElem?_eq_none (by omega)]; decide
  have hbb : 0 ≤ l.getD (2 * j + 1) 0 ∧ l.getD (2 * j + 1) 0 ≤ 255 := by
    by_cases h : 2 * j + 1 < l.length
    · exact hb _ (getD_mem h)
    · rw [List.getD_eq_getElem?_getD, List.getElem?_eq_none (by omega)]; decide
  simp only [wilV, wilA, push_cast, reduceIte, Nat.reduceEqDiff, Nat.reduceAdd, Nat.reduceSub, Nat.reduceMul, Nat.reduceBEq, Nat.reduceLT, Nat.reduceLeDiff, reduceCtorEq, Int.reduceToNat, Int.reduceNeg]
  refine ⟨by omega, ?_⟩
  obtain ⟨B, hB⟩ : ∃ B, B = decide (2 * j + 1 < l.length ∧ 2 * j < 80) := ⟨_, rfl⟩
  refine cut_of ⟨[(1, .sl false 1 (bytes8 l)), (2, .ptr 2 0), (4, .ptr 4 0), (5, .ptr 5 0), (6, .int (2 * j)), (20, .bool B)], [(2, gridC false g), (4, [.nil, .nil, .nil, .nil]), (5, wilV (wildN g l j))], wilA (wildN g l j), []⟩ ?_ ?_
  · refine grd_dec rfl (fun e1 => ?_) fun e1 => ?_ <;> simp only [push_cast, reduceIte, Nat.reduceEqDiff, Nat.reduceAdd, Nat.reduceSub, Nat.reduceMul, Nat.reduceBEq, Nat.reduceLT, Nat.reduceLeDiff, reduceCtorEq, Int.reduceToNat, Int.reduceNeg]
    · rw [show B = decide (2 * (j : Int) < 80) from by rw [hB, decide_eq_decide]; omega]
      simp only [wilV, wilA, push_cast, reduceIte, Nat.reduceEqDiff, Nat.reduceAdd, Nat.reduceSub, Nat.reduceMul, Nat.reduceBEq, Nat.reduceLT, Nat.reduceLeDiff, reduceCtorEq, Int.reduceToNat, Int.reduceNeg]
    · rw [show B = false from by rw [hB]; exact decide_eq_false (by omega)]
      simp only [wilV, wilA, push_cast, reduceIte, Nat.reduceEqDiff, Nat.reduceAdd, Nat.reduceSub, Nat.reduceMul, Nat.reduceBEq, Nat.reduceLT, Nat.reduceLeDiff, reduceCtorEq, Int.reduceToNat, Int.reduceNeg]
  simp only [wilV, wilA, push_cast, reduceIte, Nat.reduceEqDiff, Nat.reduceAdd, Nat.reduceSub, Nat.reduceMul, Nat.reduceBEq, Nat.reduceLT, Nat.reduceLeDiff, reduceCtorEq, Int.reduceToNat, Int.reduceNeg]
  refine cond_of (fun e => ?_) fun e => ?_
  rotate_left
  · rw [hB, decide_eq_false_iff_not] at e
    rw [hF, show min (l.length / 2) 40 = j by omega]
    exact ⟨⟨fun _ _ => trivial, fun _ _ => trivial, fun _ _ => trivial, fun _ _ => trivial⟩, .refl _, .refl _, .refl _, .refl _⟩
  rw [hB, decide_eq_true_eq] at e
  obtain ⟨e1, e2⟩ := e
  generalize wildN g l j = c at *
  have ht : (2 * (j : Int)).toNat = 2 * j := by omega
  have ht1 : (2 * (j : Int) + 1).toNat = 2 * j + 1 := by omega
  have hm : (0 ≤ l.getD (2 * j) 0 % (g.w * g.h) ∧ l.getD (2 * j) 0 % (g.w * g.h) < g.w * g.h) := ⟨Int.emod_nonneg _ (by omega), Int.emod_lt_of_pos _ (by omega)⟩
  rw [stepW, hcast] at hst
  have hn0 : 0 ≤ (7 * (2 * (j : Int)) + l.getD (2 * j) 0) % (c.sel.length : Int) ∧ (7 * (2 * (j : Int)) + l.getD (2 * j) 0) % (c.sel.length : Int) < c.sel.length := ⟨Int.emod_nonneg _ (by omega), Int.emod_lt_of_pos _ (by omega)⟩
  simp only [e0, ht, ht1, push_cast, reduceIte, Nat.reduceEqDiff, Nat.reduceAdd, Nat.reduceSub, Nat.reduceMul, Nat.reduceBEq, Nat.reduceLT, Nat.reduceLeDiff, reduceCtorEq, Int.reduceToNat, Int.reduceNeg]
  generalize hA : l.getD (2 * j) 0 = a at *
  generalize hC : l.getD (2 * j + 1) 0 = b at *
  refine ⟨by omega, by omega, by omega, by omega, by omega, by omega, ?_⟩
  generalize (7 * (2 * (j : Int)) + a) % (c.sel.length : Int) = n at *
  refine cal_eq (rdrv_ok g hg n (by omega)) ?_
  simp only [e0, ht, ht1, hA, hC, push_cast, reduceIte, Nat.reduceEqDiff, Nat.reduceAdd, Nat.reduceSub, Nat.reduceMul, Nat.reduceBEq, Nat.reduceLT, Nat.reduceLeDiff, reduceCtorEq, Int.reduceToNat, Int.reduceNeg]
  have hdl := driversF_len g hg n
  rw [selW] at hst
  generalize (driversF g n).length = k at *
  generalize g.w * g.h = wh at *
  generalize a % wh = t at *
  have next : 2 * ((j : Int) + 1) = 2 * (j : Int) + 2 := by omega
  refine cond_dec (fun hk => ?_) fun hk => ?_
  · rw [if_pos hk] at hst
    have hbk : 0 ≤ b % (k : Int) ∧ b % (k : Int) < k := ⟨Int.emod_nonneg _ (by omega), Int.emod_lt_of_pos _ (by omega)⟩
    refine ⟨by omega, by omega, by omega, by omega, by omega, by omega, by omega, by omega, by omega, by omega, by omega, by omega, by omega, by omega, by omega, ?_⟩
    refine cond_dec (fun h0 => ?_) fun h0 => ?_
    · refine ⟨by omega, _, ?_, j + 1, by omega, rfl, ?_⟩
      · omega
      · rw [hst, tileW, if_pos h0]
        simp only [wilV, wilA, List.length_set, push_cast, reduceIte, Nat.reduceEqDiff, Nat.reduceAdd, Nat.reduceSub, Nat.reduceMul, Nat.reduceBEq, Nat.reduceLT, Nat.reduceLeDiff, reduceCtorEq, Int.reduceToNat, Int.reduceNeg]
        rw [next]
    refine ⟨by omega, by omega, by omega, by omega, cond_dec (fun h4 => ?_) fun h4 => ?_⟩
    · refine ⟨by omega, by omega, by omega, by omega, by omega, by omega, by omega, by omega, by omega, by omega, by omega, ?_⟩
      refine ⟨by omega, _, ?_, j + 1, by omega, rfl, ?_⟩
      · omega
      · rw [hst, tileW, if_neg h0, if_pos h4]
        simp only [wilV, wilA, List.length_set, push_cast, reduceIte, Nat.reduceEqDiff, Nat.reduceAdd, Nat.reduceSub, Nat.reduceMul, Nat.reduceBEq, Nat.reduceLT, Nat.reduceLeDiff, reduceCtorEq, Int.reduceToNat, Int.reduceNeg]
        rw [next]
    refine ⟨by omega, by omega, by omega, by omega, cond_dec (fun h5 => ?_) fun h5 => ?_⟩
    · refine ⟨by omega, by omega, by omega, by omega, by omega, by omega, by omega, by omega, by omega, by omega, by omega, by omega, by omega, by omega, by omega, by omega, ?_⟩
      refine ⟨by omega, _, ?_, j + 1, by omega, rfl, ?_⟩
      · omega
      · rw [hst, tileW, if_neg h0, if_neg h4, if_pos h5]
        simp only [wilV, wilA, List.length_set, push_cast, reduceIte, Nat.reduceEqDiff, Nat.reduceAdd, Nat.reduceSub, Nat.reduceMul, Nat.reduceBEq, Nat.reduceLT, Nat.reduceLeDiff, reduceCtorEq, Int.reduceToNat, Int.reduceNeg]
        rw [next]
    · refine ⟨by omega, _, ?_, j + 1, by omega, rfl, ?_⟩
      · omega
      · rw [hst, tileW, if_neg h0, if_neg h4, if_neg h5]
        simp only [wilV, wilA, List.length_set, push_cast, reduceIte, Nat.reduceEqDiff, Nat.reduceAdd, Nat.reduceSub, Nat.reduceMul, Nat.reduceBEq, Nat.reduceLT, Nat.reduceLeDiff, reduceCtorEq, Int.reduceToNat, Int.reduceNeg]
        rw [next]
  · rw [if_neg hk] at hst
    refine ⟨by omega, by omega, by omega, by omega, by omega, by omega, by omega, ?_⟩
    refine cond_dec (fun h0 => ?_) fun h0 => ?_
    · refine ⟨by omega, _, ?_, j + 1, by omega, rfl, ?_⟩
      · omega
      · rw [hst, tileW, if_pos h0]
        simp only [wilV, wilA, List.length_set, push_cast, reduceIte, Nat.reduceEqDiff, Nat.reduceAdd, Nat.reduceSub, Nat.reduceMul, Nat.reduceBEq, Nat.reduceLT, Nat.reduceLeDiff, reduceCtorEq, Int.reduceToNat, Int.reduceNeg]
        rw [next]
    refine ⟨by omega, by omega, by omega, by omega, cond_dec (fun h4 => ?_) fun h4 => ?_⟩
    · refine ⟨by omega, by omega, by omega, by omega, by omega, by omega, by omega, by omega, by omega, by omega, by omega, ?_⟩
      refine ⟨by omega, _, ?_, j + 1, by omega, rfl, ?_⟩
      · omega
      · rw [hst, tileW, if_neg h0, if_pos h4]
        simp only [wilV, wilA, List.length_set, push_cast, reduceIte, Nat.reduceEqDiff, Nat.reduceAdd, Nat.reduceSub, Nat.reduceMul, Nat.reduceBEq, Nat.reduceLT, Nat.reduceLeDiff, reduceCtorEq, Int.reduceToNat, Int.reduceNeg]
        rw [next]
    refine ⟨by omega, by omega, by omega, by omega, cond_dec (fun h5 => ?_) fun h5 => ?_⟩
    · refine ⟨by omega, by omega, by omega, by omega, by omega, by omega, by omega, by omega, by omega, by omega, by omega, by omega, by omega, by omega, by omega, by omega, ?_⟩
      refine ⟨by omega, _, ?_, j + 1, by omega, rfl, ?_⟩
      · omega
      · rw [hst, tileW, if_neg h0, if_neg h4, if_pos h5]
        simp only [wilV, wilA, List.length_set, push_cast, reduceIte, Nat.reduceEqDiff, Nat.reduceAdd, Nat.reduceSub, Nat.reduceMul, Nat.reduceBEq, Nat.reduceLT, Nat.reduceLeDiff, reduceCtorEq, Int.reduceToNat, Int.reduceNeg]
        rw [next]
    · refine ⟨by omega, _, ?_, j + 1, by omega, rfl, ?_⟩
      · omega
      · rw [hst, tileW, if_neg h0, if_neg h4, if_neg h5]
        simp only [wilV, wilA, List.length_set, push_cast, reduceIte, Nat.reduceEqDiff, Nat.reduceAdd, Nat.reduceSub, Nat.reduceMul, Nat.reduceBEq, Nat.reduceLT, Nat.reduceLeDiff, reduceCtorEq, Int.reduceToNat, Int.reduceNeg]
        rw [next]
end Go.Proofs.Ytledbjkolidhkaa
namespace Go.Proofs.Ytledbjkolidhkaa
open Go Go.Vc Txt
theorem getD_set (l : List Int) (i j : Nat) (v : Int) : (l.set i v).getD j 0 = if i = j ∧ i < l.length then v else l.getD j 0 := by
  rw [List.getD_eq_getElem?_getD, List.getElem?_set, List.getD_eq_getElem?_getD]
  by_cases h : i = j
  · subst h
    by_cases h2 : i < l.length <;> simp [h2]
  · simp [h]
theorem selW_sel {g : Grid} {c : Cfg} {n b : Int} (hn : 0 ≤ n) (h : ∀ i, i < c.sel.length → SelAt g c i) : ∀ i, i < c.sel.length → SelAt g (selW g c n b) i := by
  intro i hi
  unfold selW
  split
  · rename_i hk
    have hbk : 0 ≤ b % ((driversF g n).length : Int) ∧ b % ((driversF g n).length : Int) < ((driversF g n).length : Int) := ⟨Int.emod_nonneg _ (by omega), Int.emod_lt_of_pos _ (by omega)⟩
    unfold SelAt
    simp only
    rw [getD_set]
    by_cases e : n.toNat = i ∧ n.toNat < c.sel.length
    · rw [if_pos e]
      intro _
      rw [show ((i : Nat) : Int) = n by omega]
      omega
    · rw [if_neg e]
      exact h i hi
  · exact h i hi
theorem tileW_selEq (g : Grid) (c : Cfg) (t : Nat) (b : Int) : (tileW g c t b).sel = c.sel := by
  unfold tileW
  split
  · rfl
  · split
    · rfl
    · split <;> rfl
theorem wildN_sel {g : Grid} (hg : GOk g) (l : List Int) : ∀ j, ∀ i, i < (wildN g l j).sel.length → SelAt g (wildN g l j) i
  | 0 => fun i hi h => absurd (by simp [wildN, blankF, List.getElem?_replicate] at hi ⊢; split <;> rfl) h
  | j + 1 => fun i hi => by
    have h1 := hg.count
    have h2 := (wildN_len g l j).1
    have h3 := (wildN_len g l (j + 1)).1
    have hn := Int.emod_nonneg (7 * ((2 * j : Nat) : Int) + l.getD (2 * j) 0) (show ((wildN g l j).sel.length : Int) ≠ 0 by omega)
    have := selW_sel (b := l.getD (2 * j + 1) 0) hn (wildN_sel hg l j) i (by omega)
    unfold SelAt at this ⊢
    show (tileW _ _ _ _).sel.getD _ _ ≠ 0 → _
    rw [tileW_selEq]
    intro h4
    show 1 ≤ (tileW _ _ _ _).sel.getD _ _ ∧ (tileW _ _ _ _).sel.getD _ _ ≤ _
    rw [tileW_selEq]
    exact this h4
theorem wild_sels {g : Grid} (hg : GOk g) (l : List Int) : SelsOk g (wildF g l) := ⟨(wildN_len g l _).1, wildN_sel hg l _⟩
def driverF (g : Grid) (c : Cfg) (n : Int) : Int := if c.sel.getD n.toNat 0 = 0 ∨ ((driversF g n).length : Int) < c.sel.getD n.toNat 0 then -1 else (driversF g n).getD (c.sel.getD n.toNat 0 - 1).toNat 0
theorem driverF_sel {g : Grid} (hg : GOk g) {c : Cfg} (hc : SelsOk g c) {n : Int} (hn : 0 ≤ n ∧ n < c.sel.length) (h : c.sel.getD n.toNat 0 ≠ 0) : driverF g c n = (driversF g n).getD (c.sel.getD n.toNat 0 - 1).toNat 0 ∧ 0 ≤ driverF g c n ∧ driverF g c n < c.sel.length := by
  have h1 := hg.count
  have h2 := hc.len
  have h3 := hc.sel n.toNat (by omega) h
  rw [show ((n.toNat : Nat) : Int) = n by omega] at h3
  have h4 : driverF g c n = (driversF g n).getD (c.sel.getD n.toNat 0 - 1).toNat 0 := if_neg (by omega)
  have h5 := driversF_rng hg n _ (getD_mem (l := driversF g n) (k := (c.sel.getD n.toNat 0 - 1).toNat) (by omega))
  rw [← h4] at h5
  exact ⟨h4, by omega, by omega⟩
theorem sel_drv {g : Grid} {c : Cfg} (hc : SelsOk g c) {n : Int} (hn : 0 ≤ n ∧ n < c.sel.length) (h : driversF g n = []) : c.sel.getD n.toNat 0 = 0 := by
  by_cases e : c.sel.getD n.toNat 0 = 0
  · exact e
  · have := hc.sel n.toNat (by omega) e
    rw [show ((n.toNat : Nat) : Int) = n by omega, h] at this
    simp at this
    omega
set_option maxHeartbeats 1000000 in
theorem ldriver_ok (g : Grid) (hg : GOk g) (c : Cfg) (hc : SelsOk g c) (n : Int) (hn : 0 ≤ n ∧ n < c.sel.length) : FnEq Try.prog 32 [.agg (gridC false g), .agg (cfgC false c), .int n] (.int (driverF g c n)) := by
  have h1 := hg.count
  have h2 := hc.len
  refine FnEq.of_awp Try.func32 ok32 (by show 3 ≤ _; decide) (by simp only [push_cast, reduceIte, Nat.reduceEqDiff, Nat.reduceAdd, Nat.reduceSub, Nat.reduceMul, Nat.reduceBEq, Nat.reduceLT, Nat.reduceLeDiff, reduceCtorEq, Int.reduceToNat, Int.reduceNeg] <;> first | exact fun _ _ => trivial | simp) ?_
  simp only [ac32, rv32, push_cast, reduceIte, Nat.reduceEqDiff, Nat.reduceAdd, Nat.reduceSub, Nat.reduceMul, Nat.reduceBEq, Nat.reduceLT, Nat.reduceLeDiff, reduceCtorEq, Int.reduceToNat, Int.reduceNeg]
  refine cal_eq (rdrivers_ok g hg n (by omega)) ?_
  rw [← drivers_eq hg]
  have e0 : ∀ (l : List Int) (j : Nat), l.getD j default = l.getD j 0 := fun _ _ => rfl
  have h3 := hc.sel n.toNat (by omega)
  unfold SelAt at h3
  rw [show ((n.toNat : Nat) : Int) = n by omega] at h3
  have hdl := driversF_len g hg n
  simp only [e0, push_cast, reduceIte, Nat.reduceEqDiff, Nat.reduceAdd, Nat.reduceSub, Nat.reduceMul, Nat.reduceBEq, Nat.reduceLT, Nat.reduceLeDiff, reduceCtorEq, Int.reduceToNat, Int.reduceNeg]
  refine ⟨by omega, by omega, ?_⟩
  obtain ⟨B, hB⟩ : ∃ B, B = decide (c.sel.getD n.toNat 0 = 0 ∨ ((driversF g n).length : Int) < c.sel.getD n.toNat 0) := ⟨_, rfl⟩
  refine cut_of ⟨[(2, .int n), (4, .ptr 4 0), (7, .sl true 1 (ints (driversF g n))), (26, .bool B)], [(3, gridC false g), (4, cfgC false c)], [], []⟩ ?_ ?_
  · refine grd_decf rfl (fun e1 => ?_) fun e1 => ?_ <;> simp only [e0, push_cast, reduceIte, Nat.reduceEqDiff, Nat.reduceAdd, Nat.reduceSub, Nat.reduceMul, Nat.reduceBEq, Nat.reduceLT, Nat.reduceLeDiff, reduceCtorEq, Int.reduceToNat, Int.reduceNeg]
    · rw [show B = true from by rw [hB]; exact decide_eq_true (.inl e1)]
    · refine ⟨by omega, by omega, ?_⟩
      rw [show B = decide (((driversF g n).length : Int) < c.sel.getD n.toNat 0) from by rw [hB, decide_eq_decide]; omega]
  simp only [e0, push_cast, reduceIte, Nat.reduceEqDiff, Nat.reduceAdd, Nat.reduceSub, Nat.reduceMul, Nat.reduceBEq, Nat.reduceLT, Nat.reduceLeDiff, reduceCtorEq, Int.reduceToNat, Int.reduceNeg]
  rw [driverF]
  refine cond_of (fun e => ?_) fun e => ?_
  · rw [hB, decide_eq_true_eq] at e
    rw [if_pos e]
  · rw [hB, decide_eq_false_iff_not] at e
    rw [if_neg e]
    generalize c.sel.getD n.toNat 0 = s at *
    refine ⟨by omega, by omega, by omega, by omega, by omega, ?_⟩
    simp only [e0, push_cast, reduceIte, Nat.reduceEqDiff, Nat.reduceAdd, Nat.reduceSub, Nat.reduceMul, Nat.reduceBEq, Nat.reduceLT, Nat.reduceLeDiff, reduceCtorEq, Int.reduceToNat, Int.reduceNeg]
def endD (g : Grid) (c : Cfg) : Nat → Int → Option (Int × Int)
  | 0, _ => none
  | f + 1, n => if driversF g n = [] then some (n, 0) else if c.sel.getD n.toNat 0 = 0 then some (0, 4) else endD g c f ((driversF g n).getD (c.sel.getD n.toNat 0 - 1).toNat 0)
def stepsTo (g : Grid) (c : Cfg) : Nat → Int → Int → Prop
  | 0, x, y => x = y
  | k + 1, x, y => driversF g x ≠ [] ∧ c.sel.getD x.toNat 0 ≠ 0 ∧ stepsTo g c k ((driversF g x).getD (c.sel.getD x.toNat 0 - 1).toNat 0) y
theorem endD_steps {g : Grid} {c : Cfg} : ∀ (k f : Nat) (x y : Int), stepsTo g c k x y → endD g c (f + k) x = endD g c f y
  | 0, f, x, y, h => by rw [show x = y from h]; rfl
  | k + 1, f, x, y, ⟨h1, h2, h3⟩ => by
    show endD g c (f + k + 1) x = _
    rw [endD, if_neg h1, if_neg h2]
    exact endD_steps k f _ _ h3
theorem endD_few {g : Grid} {c : Cfg} : ∀ (f k : Nat) (x y : Int), stepsTo g c k x y → f ≤ k → endD g c f x = none
  | 0, _, _, _, _, _ => rfl
  | f + 1, k + 1, x, y, ⟨h1, h2, h3⟩, h => by
    rw [endD, if_neg h1, if_neg h2]
    exact endD_few f k _ _ h3 (by omega)
theorem endD_cyc {g : Grid} {c : Cfg} (k : Nat) (x : Int) (h : stepsTo g c (k + 1) x x) (f : Nat) : endD g c f x = none := by
  induction f using Nat.strongRecOn with
  | ind f ih =>
    by_cases e : f ≤ k + 1
    · exact endD_few f (k + 1) x x h e
    · have := endD_steps (k + 1) (f - (k + 1)) x x h
      rw [show f - (k + 1) + (k + 1) = f by omega] at this
      rw [this]
      exact ih _ (by omega)
theorem stepsTo_snoc {g : Grid} {c : Cfg} : ∀ (k : Nat) (x y : Int), stepsTo g c k x y → driversF g y ≠ [] → c.sel.getD y.toNat 0 ≠ 0 → stepsTo g c (k + 1) x ((driversF g y).getD (c.sel.getD y.toNat 0 - 1).toNat 0)
  | 0, x, y, h, h1, h2 => by
    have h : x = y := h
    subst h
    exact ⟨h1, h2, rfl⟩
  | k + 1, x, y, ⟨a, b, h⟩, h1, h2 => ⟨a, b, stepsTo_snoc k _ y h h1 h2⟩
theorem sourceS_end {g : Grid} {c : Cfg} : ∀ (f : Nat) (sn : List Int) (n : Int), (∀ y ∈ sn, ∃ k, stepsTo g c (k + 1) y n) → sourceS g c f sn n = (endD g c f n).getD (0, 50)
  | 0, _, _, _ => rfl
  | f + 1, sn, n, h => by
    by_cases e : n ∈ sn
    · obtain ⟨k, hk⟩ := h n e
      rw [endD_cyc k n hk, sourceS, if_pos e]; rfl
    · rw [sourceS, if_neg e, endD]
      split
      · rfl
      · rename_i h1
        split
        · rfl
        · rename_i h2
          refine sourceS_end f _ _ fun y hy => ?_
          rw [List.mem_append, List.mem_singleton] at hy
          rcases hy with hy | rfl
          · obtain ⟨k, hk⟩ := h y hy
            exact ⟨k + 1, stepsTo_snoc _ _ _ hk h1 h2⟩
          · exact ⟨0, h1, h2, rfl⟩
theorem sourceS_in {g : Grid} {c : Cfg} (f : Nat) {sn : List Int} {n : Int} (e : n ∈ sn) : sourceS g c (f + 1) sn n = (0, 50) := if_pos e
theorem sourceS_out {g : Grid} {c : Cfg} (f : Nat) {sn : List Int} {n : Int} (e : n ∉ sn) : sourceS g c (f + 1) sn n = if driversF g n = [] then (n, 0) else if c.sel.getD n.toNat 0 = 0 then (0, 4) else
      sourceS g c f (sn ++ [n]) ((driversF g n).getD (c.sel.getD n.toNat 0 - 1).toNat 0) := if_neg e
theorem sourceS_more {g : Grid} (hg : GOk g) {c : Cfg} (hc : SelsOk g c) : ∀ (f : Nat) (sn : List Int) (n : Int), sn.length + f = c.sel.length → sn.Nodup → (∀ y ∈ sn, 0 ≤ y ∧ y < c.sel.length) → (0 ≤ n ∧ n < c.sel.length) → sourceS g c (f + 1) sn n = sourceS g c f sn n := by
  have nd : ∀ (sn : List Int) (n : Int), n ∉ sn → sn.Nodup → (∀ y ∈ sn, 0 ≤ y ∧ y < c.sel.length) → (0 ≤ n ∧ n < c.sel.length) → (sn ++ [n]).Nodup ∧ (∀ y ∈ sn ++ [n], 0 ≤ y ∧ y < c.sel.length) := fun sn n e h1 h2 h3 =>
    ⟨List.nodup_append.2 ⟨h1, by simp, by intro a ha b hb h; simp at hb; subst hb; subst h; exact e ha⟩, fun y hy => by
      rw [List.mem_append, List.mem_singleton] at hy
      rcases hy with hy | rfl
      · exact h2 y hy
      · exact h3⟩
  intro f
  induction f with
  | zero =>
    intro sn n hl h1 h2 h3
    by_cases e : n ∈ sn
    · rw [sourceS_in 0 e]; rfl
    · obtain ⟨h4, h5⟩ := nd sn n e h1 h2 h3
      have := nodup_rng h4 h5
      simp at this
      omega
  | succ f ih =>
    intro sn n hl h1 h2 h3
    by_cases e : n ∈ sn
    · rw [sourceS_in _ e, sourceS_in _ e]
    · obtain ⟨h4, h5⟩ := nd sn n e h1 h2 h3
      rw [sourceS_out _ e, sourceS_out _ e]
      split
      · rfl
      · split
        · rfl
        · rename_i hs
          obtain ⟨k1, k2, k3⟩ := driverF_sel hg hc h3 hs
          rw [← k1]
          exact ih _ _ (by simp; omega) h4 h5 ⟨k2, k3⟩
theorem sourceF_none {g : Grid} {c : Cfg} {n : Int} (hn : 0 ≤ n ∧ n < c.sel.length) (h : driversF g n = []) : sourceF g c n = (n, 0) := by
  rw [sourceF, if_pos (by omega), sourceS, if_neg (by simp), if_pos h]
theorem sourceF_zero {g : Grid} {c : Cfg} {n : Int} (hn : 0 ≤ n ∧ n < c.sel.length) (h : driversF g n ≠ []) (h2 : c.sel.getD n.toNat 0 = 0) : sourceF g c n = (0, 4) := by
  rw [sourceF, if_pos (by omega), sourceS, if_neg (by simp), if_neg h, if_pos h2]
theorem sourceF_drv {g : Grid} (hg : GOk g) {c : Cfg} (hc : SelsOk g c) {n : Int} (hn : 0 ≤ n ∧ n < c.sel.length) (h : driversF g n ≠ []) (h2 : c.sel.getD n.toNat 0 ≠ 0) : sourceF g c n = sourceF g c (driverF g c n) := by
  obtain ⟨k1, k2, k3⟩ := driverF_sel hg hc hn h2
  rw [sourceF, if_pos (by omega), sourceF, if_pos (by omega), sourceS_more hg hc c.sel.length [] (driverF g c n) (by simp) .nil (by simp) ⟨k2, k3⟩, sourceS_end _ _ _ (by simp), sourceS_end _ _ _ (by simp), endD, if_neg h, if_neg h2, k1]
end Go.Proofs.Ytledbjkolidhkaa
namespace Go.Proofs.Ytledbjkolidhkaa
open Go Go.Vc Txt
structure RawG.By (x : RawG) : Prop where
  w : 0 ≤ x.w ∧ x.w ≤ 255
  h : 0 ≤ x.h ∧ x.h ≤ 255
  tracks : 0 ≤ x.tracks ∧ x.tracks ≤ 255
  pads : 0 ≤ x.pads ∧ x.pads ≤ 255
  len : (x.kind.length : Int) ≤ 9223372036854775807
  kind : ∀ k ∈ x.kind, 0 ≤ k ∧ k ≤ 255
theorem RawG.By.ok {x : RawG} (h : x.By) : x.Ok := ⟨h.w, h.h, h.tracks, h.pads, h.len, h.kind⟩
set_option maxHeartbeats 2000000 in
theorem sources_ok (x : RawG) (hx : x.By) (l : List Int) (hl : (l.length : Int) ≤ 9223372036854775807) (hb : ∀ b ∈ l, 0 ≤ b ∧ b ≤ 255) (k : Int) (hk : 0 ≤ k ∧ k ≤ 65535) :
    FnEq Try.prog 6 [.agg (rawGC false x), .sl false 1 (bytes8 l), .sc (.int .u16 k)] (.bool true) := by
  have hg := (gridF_ok x).1
  have hm := made_ok x hx.ok
  have hw := wild_ok (gridF x) hg l hl hb
  have hs := wild_sels hg l
  generalize wildF (gridF x) l = c at *
  generalize gridF x = g at *
  have hc := hg.count
  have hcl := hs.len
  refine FnEq.of_awp Try.func6 ok6 (by show 3 ≤ _; decide) (by simp only [push_cast, reduceIte, Nat.reduceEqDiff, Nat.reduceAdd, Nat.reduceSub, Nat.reduceMul, Nat.reduceBEq, Nat.reduceLT, Nat.reduceLeDiff, reduceCtorEq, Int.reduceToNat, Int.reduceNeg] <;> first | exact fun _ _ => trivial | simp) ?_
  simp only [ac6, rv6, push_cast, reduceIte, Nat.reduceEqDiff, Nat.reduceAdd, Nat.reduceSub, Nat.reduceMul, Nat.reduceBEq, Nat.reduceLT, Nat.reduceLeDiff, reduceCtorEq, Int.reduceToNat, Int.reduceNeg]
  refine cal_eq examples_ok ?_
  simp only [push_cast, reduceIte, Nat.reduceEqDiff, Nat.reduceAdd, Nat.reduceSub, Nat.reduceMul, Nat.reduceBEq, Nat.reduceLT, Nat.reduceLeDiff, reduceCtorEq, Int.reduceToNat, Int.reduceNeg]
  refine cal_eq hm ?_
  simp only [push_cast, reduceIte, Nat.reduceEqDiff, Nat.reduceAdd, Nat.reduceSub, Nat.reduceMul, Nat.reduceBEq, Nat.reduceLT, Nat.reduceLeDiff, reduceCtorEq, Int.reduceToNat, Int.reduceNeg]
  refine cal_sub hw (by simp only [push_cast, reduceIte, Nat.reduceEqDiff, Nat.reduceAdd, Nat.reduceSub, Nat.reduceMul, Nat.reduceBEq, Nat.reduceLT, Nat.reduceLeDiff, reduceCtorEq, Int.reduceToNat, Int.reduceNeg]) ?_
  simp only [push_cast, reduceIte, Nat.reduceEqDiff, Nat.reduceAdd, Nat.reduceSub, Nat.reduceMul, Nat.reduceBEq, Nat.reduceLT, Nat.reduceLeDiff, reduceCtorEq, Int.reduceToNat, Int.reduceNeg]
  refine ⟨by omega, by omega, ?_⟩
  have hn : 0 ≤ k % (c.sel.length : Int) ∧ k % (c.sel.length : Int) < c.sel.length := ⟨Int.emod_nonneg _ (by omega), Int.emod_lt_of_pos _ (by omega)⟩
  generalize k % (c.sel.length : Int) = n at *
  refine cal_sub (lsource_ok g hg c hs n) (by simp only [push_cast, reduceIte, Nat.reduceEqDiff, Nat.reduceAdd, Nat.reduceSub, Nat.reduceMul, Nat.reduceBEq, Nat.reduceLT, Nat.reduceLeDiff, reduceCtorEq, Int.reduceToNat, Int.reduceNeg]) ?_
  simp only [push_cast, reduceIte, Nat.reduceEqDiff, Nat.reduceAdd, Nat.reduceSub, Nat.reduceMul, Nat.reduceBEq, Nat.reduceLT, Nat.reduceLeDiff, reduceCtorEq, Int.reduceToNat, Int.reduceNeg]
  refine cal_sub (rdrivers_ok g hg n (by omega)) (by simp only [push_cast, reduceIte, Nat.reduceEqDiff, Nat.reduceAdd, Nat.reduceSub, Nat.reduceMul, Nat.reduceBEq, Nat.reduceLT, Nat.reduceLeDiff, reduceCtorEq, Int.reduceToNat, Int.reduceNeg]) ?_
  rw [← drivers_eq hg]
  have e0 : ∀ (l : List Int) (j : Nat), l.getD j default = l.getD j 0 := fun _ _ => rfl
  simp only [e0, push_cast, reduceIte, Nat.reduceEqDiff, Nat.reduceAdd, Nat.reduceSub, Nat.reduceMul, Nat.reduceBEq, Nat.reduceLT, Nat.reduceLeDiff, reduceCtorEq, Int.reduceToNat, Int.reduceNeg]
  refine cond_dec (fun h => ?_) fun h => ?_
  · have hd : driversF g n = [] := List.length_eq_zero_iff.1 (by omega)
    rw [sourceF_none hn hd]
    refine grd_b rfl (fun _ => ?_) fun e => ?_ <;> simp only [push_cast, reduceIte, Nat.reduceEqDiff, Nat.reduceAdd, Nat.reduceSub, Nat.reduceMul, Nat.reduceBEq, Nat.reduceLT, Nat.reduceLeDiff, reduceCtorEq, Int.reduceToNat, Int.reduceNeg]
    simp at e
  have hd : driversF g n ≠ [] := fun e => h (by rw [e]; rfl)
  refine ⟨by omega, by omega, ?_⟩
  refine cond_dec (fun h2 => ?_) fun h2 => ?_
  · rw [sourceF_zero hn hd h2]
    refine grd_b rfl (fun _ => ?_) fun e => ?_ <;> simp only [push_cast, reduceIte, Nat.reduceEqDiff, Nat.reduceAdd, Nat.reduceSub, Nat.reduceMul, Nat.reduceBEq, Nat.reduceLT, Nat.reduceLeDiff, reduceCtorEq, Int.reduceToNat, Int.reduceNeg]
    simp at e
  obtain ⟨k1, k2, k3⟩ := driverF_sel hg hs hn h2
  refine dcal_sub (ldriver_ok g hg c hs n hn) (by simp only [push_cast, reduceIte, Nat.reduceEqDiff, Nat.reduceAdd, Nat.reduceSub, Nat.reduceMul, Nat.reduceBEq, Nat.reduceLT, Nat.reduceLeDiff, reduceCtorEq, Int.reduceToNat, Int.reduceNeg]) rfl ?_
  simp only [push_cast, reduceIte, Nat.reduceEqDiff, Nat.reduceAdd, Nat.reduceSub, Nat.reduceMul, Nat.reduceBEq, Nat.reduceLT, Nat.reduceLeDiff, reduceCtorEq, Int.reduceToNat, Int.reduceNeg]
  refine dcal_sub (lsource_ok g hg c hs (driverF g c n)) (by simp only [push_cast, reduceIte, Nat.reduceEqDiff, Nat.reduceAdd, Nat.reduceSub, Nat.reduceMul, Nat.reduceBEq, Nat.reduceLT, Nat.reduceLeDiff, reduceCtorEq, Int.reduceToNat, Int.reduceNeg]) rfl ?_
  rw [← sourceF_drv hg hs hn hd h2]
  simp only [push_cast, reduceIte, Nat.reduceEqDiff, Nat.reduceAdd, Nat.reduceSub, Nat.reduceMul, Nat.reduceBEq, Nat.reduceLT, Nat.reduceLeDiff, reduceCtorEq, Int.reduceToNat, Int.reduceNeg]
end Go.Proofs.Ytledbjkolidhkaa
namespace Go.Proofs.Ytledbjkolidhkaa
open Go Go.Vc Txt
def bytesC (l : List Int) : List PV := l.map fun n => .sc (.int .u8 n)
def gridT : List Ty := [.i .u8, .i .u8, .i .u8, .i .u8, .sl 1 [.i .u8]]
theorem rowV_nil {a : List PV} (h : RowV [] a) : a = [] := List.length_eq_zero_iff.1 h.1
theorem rowV_cons {t : Ty} {ts : List Ty} {a : List PV} (h : RowV (t :: ts) a) : ∃ c r, a = c :: r ∧ CellV t c ∧ RowV ts r := by
  obtain ⟨h1, h2⟩ := h
  cases a with
  | nil => cases h1
  | cons c r => exact ⟨c, r, rfl, h2 0 t c rfl rfl, by simpa using h1, fun j t' c' ht hc => h2 (j + 1) t' c' ht hc⟩
theorem cellV_i {k : IntKind} {c : PV} (h : CellV (.i k) c) : ∃ n : Int, c = .sc (.int k n) ∧ k.min ≤ n ∧ n ≤ k.max := by
  cases h with | i k n h1 h2 => exact ⟨n, rfl, h1, h2⟩
theorem cellV_u8 {c : PV} (h : CellV (.i .u8) c) : ∃ n : Int, c = .sc (.int .u8 n) ∧ 0 ≤ n ∧ n ≤ 255 := by
  obtain ⟨n, h1, h2, h3⟩ := cellV_i h
  exact ⟨n, h1, h2, h3⟩
theorem cellV_i64 {c : PV} (h : CellV (.i .i64) c) : ∃ n : Int, c = .int n ∧ -9223372036854775808 ≤ n ∧ n ≤ 9223372036854775807 := by
  obtain ⟨n, h1, h2, h3⟩ := cellV_i h
  exact ⟨n, h1, h2, h3⟩
theorem cellV_sl {es : Nat} {ts : List Ty} {c : PV} (h : CellV (.sl es ts) c) : ∃ rs : List (List PV), c = .sl true es rs ∧ rs.length ≤ maxLen ∧ ∀ r ∈ rs, RowV ts r := by
  cases h with | sl es ts rs h1 h2 h3 => exact ⟨rs, rfl, h1, fun r hr => ⟨h2 r hr, h3 r hr⟩⟩
theorem rows_all {α : Type} {f : α → List PV} {Q : α → Prop} : ∀ {rs : List (List PV)}, (∀ r ∈ rs, ∃ x, r = f x ∧ Q x) → ∃ l : List α, rs = rows f l ∧ ∀ x ∈ l, Q x
  | [], _ => ⟨[], rfl, fun x hx => by cases hx⟩
  | r :: rs, h => by
    obtain ⟨x, rfl, hx⟩ := h r (by simp)
    obtain ⟨l, rfl, hl⟩ := rows_all (f := f) (Q := Q) (rs := rs) fun r hr => h r (by simp [hr])
    refine ⟨x :: l, rfl, fun y hy => ?_⟩
    rcases List.mem_cons.1 hy with rfl | hy
    · exact hx
    · exact hl y hy
theorem cellV_bytes {c : PV} (h : CellV (.sl 1 [.i .u8]) c) : ∃ l : List Int, c = .sl true 1 (bytes8 l) ∧ (l.length : Int) ≤ 9223372036854775807 ∧ ∀ b ∈ l, 0 ≤ b ∧ b ≤ 255 := by
  obtain ⟨rs, rfl, h1, h2⟩ := cellV_sl h
  obtain ⟨l, rfl, hl⟩ := rows_all (f := fun x : Int => [PV.sc (.int .u8 x)]) (Q := fun b => 0 ≤ b ∧ b ≤ 255) (rs := rs) fun r hr => by
    obtain ⟨c, q, rfl, hc, h3⟩ := rowV_cons (h2 r hr)
    obtain ⟨n, rfl, hn⟩ := cellV_u8 hc
    rw [rowV_nil h3]
    exact ⟨n, rfl, hn⟩
  simp only [rows, List.length_map] at h1
  have : maxLen = 9223372036854775807 := rfl
  exact ⟨l, rfl, by omega, hl⟩
theorem cellV_ints {c : PV} (h : CellV (.sl 1 [.i .i64]) c) : ∃ l : List Int, c = .sl true 1 (ints l) ∧ ∀ b ∈ l, -9223372036854775808 ≤ b ∧ b ≤ 9223372036854775807 := by
  obtain ⟨rs, rfl, _, h2⟩ := cellV_sl h
  obtain ⟨l, rfl, hl⟩ := rows_all (f := fun x : Int => [PV.int x]) (Q := fun b => -9223372036854775808 ≤ b ∧ b ≤ 9223372036854775807) (rs := rs) fun r hr => by
    obtain ⟨c, q, rfl, hc, h3⟩ := rowV_cons (h2 r hr)
    obtain ⟨n, rfl, hn⟩ := cellV_i64 hc
    rw [rowV_nil h3]
    exact ⟨n, rfl, hn⟩
  exact ⟨l, rfl, hl⟩
theorem rowV_bytes : ∀ {n : Nat} {a : List PV}, RowV (List.replicate n (.i .u8)) a → ∃ l : List Int, a = bytesC l ∧ l.length = n ∧ ∀ b ∈ l, 0 ≤ b ∧ b ≤ 255
  | 0, a, h => ⟨[], by rw [rowV_nil h]; rfl, rfl, fun b hb => by cases hb⟩
  | n + 1, a, h => by
    obtain ⟨c, q, rfl, hc, h3⟩ := rowV_cons h
    obtain ⟨x, rfl, hx⟩ := cellV_u8 hc
    obtain ⟨l, rfl, h1, h2⟩ := rowV_bytes (n := n) h3
    refine ⟨x :: l, rfl, by simp [h1], fun y hy => ?_⟩
    rcases List.mem_cons.1 hy with rfl | hy
    · exact hx
    · exact h2 y hy
theorem rawG_of {a : List PV} (h : RowV gridT a) : ∃ x : RawG, x.By ∧ a = rawGC true x := by
  obtain ⟨c0, a0, rfl, h0, k0⟩ := rowV_cons h
  obtain ⟨c1, a1, rfl, h1, k1⟩ := rowV_cons k0
  obtain ⟨c2, a2, rfl, h2, k2⟩ := rowV_cons k1
  obtain ⟨c3, a3, rfl, h3, k3⟩ := rowV_cons k2
  obtain ⟨c4, a4, rfl, h4, k4⟩ := rowV_cons k3
  obtain ⟨n0, rfl, b0⟩ := cellV_u8 h0
  obtain ⟨n1, rfl, b1⟩ := cellV_u8 h1
  obtain ⟨n2, rfl, b2⟩ := cellV_u8 h2
  obtain ⟨n3, rfl, b3⟩ := cellV_u8 h3
  obtain ⟨l, rfl, hn, hl⟩ := cellV_bytes h4
  rw [rowV_nil k4]
  exact ⟨⟨n0, n1, n2, n3, l⟩, ⟨b0, b1, b2, b3, hn, hl⟩, rfl⟩
theorem okInt {P : Program} {W : World} {base : Nat} {t : TypeId} {k : IntKind} {v : Value} (hu : P.underlying t = some (.int k)) (h : Value.okWide P W .any base t v) : ∃ n, v = .int k n := by
  unfold Value.okWide Cell.okWide Cell.ok at h
  rw [hu] at h
  cases v <;> first
    | (rename_i k' n; simp only at h; exact ⟨n, by rw [h.1]⟩)
    | (simp only at h)
theorem okSl {P : Program} {W : World} {base : Nat} {t e : TypeId} {v : Value} (hu : P.underlying t = some (.slice e)) (h : Value.okWide P W .any base t v) : v.cells = #[v] := by
  unfold Value.okWide Cell.okWide Cell.ok at h
  rw [hu] at h
  cases v <;> first
    | rfl
    | (simp only at h)
theorem u16V {c : PV} (h : CellV (.i .u16) c) : ∃ n : Int, c = .sc (.int .u16 n) ∧ 0 ≤ n ∧ n ≤ 65535 := by
  obtain ⟨n, h1, h2, h3⟩ := cellV_i h
  exact ⟨n, h1, h2, h3⟩
theorem law3_true {f : Nat} (hok : ∀ (x : RawG), x.By → ∀ (l : List Int), (l.length : Int) ≤ 9223372036854775807 → (∀ b ∈ l, 0 ≤ b ∧ b ≤ 255) → ∀ k : Int, 0 ≤ k ∧ k ≤ 65535 → FnEq Try.prog f [.agg (rawGC false x), .sl false 1 (bytes8 l), .sc (.int .u16 k)] (.bool true))
    {a : List PV} {b c : PV} (ha : RowV gridT a) (hb : CellV (.sl 1 [.i .u8]) b) (hc : CellV (.i .u16) c) : FnEq Try.prog f [.agg a, b, c] (.bool true) := by
  obtain ⟨x, hx, rfl⟩ := rawG_of ha
  obtain ⟨l, rfl, h1, h2⟩ := cellV_bytes hb
  obtain ⟨n, rfl, hn⟩ := u16V hc
  refine FnOK.sub (hok x hx l h1 h2 n hn) ⟨Sub.aggL ?_, .slp _ _ _ _ (fun h => by cases h), .refl _, trivial⟩
  exact ⟨.refl _, .refl _, .refl _, .refl _, .slp _ _ _ _ (fun h => by cases h), trivial⟩
end Go.Proofs.Ytledbjkolidhkaa
