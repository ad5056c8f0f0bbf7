/- W X Y Z ZA ZB ZC ZD ZE ZF ZG ZH ZI: lemmas for PLocal -/
import Derived.Test.YtledbjkolidhkaaPart12
import Derived.Test.YtledbjkolidhkaaPart07
set_option linter.unusedSimpArgs false
set_option linter.unusedVariables false
namespace Go.Proofs.Ytledbjkolidhkaa
open Go Go.Vc Txt
set_option maxHeartbeats 4000000 in
theorem rtile_ok (g : Grid) (c : Cfg) (t : Int) (ht : 0 ≤ t ∧ t < g.kind.length) (h1 : t < c.mode.length) (h2 : t < c.tab.length) (h3 : t < c.ram.length) :
    FnEq Try.prog 44 [.agg (gridC false g), .agg (cfgC false c), .int t] (.bool (decide (TileOk (g.kind.getD t.toNat default) (c.mode.getD t.toNat default) (c.tab.getD t.toNat default) (c.ram.getD t.toNat default)))) := by
  refine FnEq.of_awp Try.func44 ok44 (by show 3 ≤ _; decide) (by simp only [push_cast, reduceIte, Nat.reduceEqDiff, Nat.reduceAdd, Nat.reduceSub, Nat.reduceMul, Nat.reduceBEq, Nat.reduceLT, Nat.reduceLeDiff, reduceCtorEq, Int.reduceToNat, Int.reduceNeg] <;> first | exact fun _ _ => trivial | simp) ?_
  simp only [ac44, rv44, push_cast, reduceIte, Nat.reduceEqDiff, Nat.reduceAdd, Nat.reduceSub, Nat.reduceMul, Nat.reduceBEq, Nat.reduceLT, Nat.reduceLeDiff, reduceCtorEq, Int.reduceToNat, Int.reduceNeg]
  refine ⟨by omega, by omega, ?_⟩
  generalize hm : c.mode.getD t.toNat default = m
  generalize hk : g.kind.getD t.toNat default = k
  generalize ha : c.tab.getD t.toNat default = a
  generalize hr : c.ram.getD t.toNat default = r
  obtain ⟨B, hB⟩ : ∃ B, B = decide (m < 0 ∨ 3 < m ∨ (k = 0 ∧ m ≠ 0) ∨ (k = 1 ∧ m = 3)) := ⟨_, rfl⟩
  refine cut_of ⟨[(2, .int t), (4, .ptr 4 0), (7, .int m), (44, .bool B)], [(3, gridC false g), (4, cfgC false c)], [], []⟩ ?_ ?_
  · repeat' (first
      | (refine grd_dec rfl (fun _ => ?_) fun _ => ?_ <;> simp only [hk, push_cast, reduceIte, Nat.reduceEqDiff, Nat.reduceAdd, Nat.reduceSub, Nat.reduceMul, Nat.reduceBEq, Nat.reduceLT, Nat.reduceLeDiff, reduceCtorEq, Int.reduceToNat, Int.reduceNeg])
      | (refine grd_decf rfl (fun _ => ?_) fun _ => ?_ <;> simp only [hk, push_cast, reduceIte, Nat.reduceEqDiff, Nat.reduceAdd, Nat.reduceSub, Nat.reduceMul, Nat.reduceBEq, Nat.reduceLT, Nat.reduceLeDiff, reduceCtorEq, Int.reduceToNat, Int.reduceNeg])
      | (refine And.intro (by omega) ?_))
    all_goals first
      | (rw [show B = true from by rw [hB]; exact decide_eq_true (by omega)]; done)
      | (rw [show B = false from by rw [hB]; exact decide_eq_false (by omega)]; done)
      | (rw [show B = decide (m = 3) from by rw [hB, decide_eq_decide]; omega]; done)
      | (rw [show B = decide (¬ m = 0) from by rw [hB, decide_eq_decide]; omega]; done)
  simp only [push_cast, reduceIte, Nat.reduceEqDiff, Nat.reduceAdd, Nat.reduceSub, Nat.reduceMul, Nat.reduceBEq, Nat.reduceLT, Nat.reduceLeDiff, reduceCtorEq, Int.reduceToNat, Int.reduceNeg]
  refine cond_of (fun e => ?_) fun e => ?_
  · rw [hB, decide_eq_true_eq] at e
    rw [decide_eq_false fun h => ?_]
    have h1 := h.1
    have h2 := h.2.1
    unfold holdsF at h2
    by_cases k0 : k = 0
    · rw [if_pos k0] at h2
      simp at h2
      omega
    · rw [if_neg k0] at h2
      by_cases k1 : k = 1
      · rw [if_pos k1] at h2
        simp at h2
        omega
      · omega
  · rw [hB, decide_eq_false_iff_not] at e
    have hh : holdsF k m = true := by
      unfold holdsF
      split
      · simp; omega
      · split
        · simp; omega
        · rfl
    obtain ⟨T1, hT1⟩ : ∃ T1, T1 = decide (m = 1 ∨ m = 2) := ⟨_, rfl⟩
    obtain ⟨R1, hR1⟩ : ∃ R1, R1 = decide (m = 2 ∨ m = 3) := ⟨_, rfl⟩
    refine cut_of ⟨[(2, .int t), (4, .ptr 4 0), (8, .bool T1), (9, .bool R1)], [(3, gridC false g), (4, cfgC false c)], [], []⟩ ?_ ?_
    · repeat' (first
        | (refine grd_dec rfl (fun _ => ?_) fun _ => ?_ <;> simp only [push_cast, reduceIte, Nat.reduceEqDiff, Nat.reduceAdd, Nat.reduceSub, Nat.reduceMul, Nat.reduceBEq, Nat.reduceLT, Nat.reduceLeDiff, reduceCtorEq, Int.reduceToNat, Int.reduceNeg])
        | (refine grd_decf rfl (fun _ => ?_) fun _ => ?_ <;> simp only [push_cast, reduceIte, Nat.reduceEqDiff, Nat.reduceAdd, Nat.reduceSub, Nat.reduceMul, Nat.reduceBEq, Nat.reduceLT, Nat.reduceLeDiff, reduceCtorEq, Int.reduceToNat, Int.reduceNeg]))
      all_goals
        first
          | (rw [show T1 = true from by rw [hT1]; exact decide_eq_true (by omega), show R1 = true from by rw [hR1]; exact decide_eq_true (by omega)]; done)
          | (rw [show T1 = true from by rw [hT1]; exact decide_eq_true (by omega), show R1 = false from by rw [hR1]; exact decide_eq_false (by omega)]; done)
          | (rw [show T1 = true from by rw [hT1]; exact decide_eq_true (by omega), show R1 = decide (m = 3) from by rw [hR1, decide_eq_decide]; omega]; done)
          | (rw [show T1 = false from by rw [hT1]; exact decide_eq_false (by omega), show R1 = true from by rw [hR1]; exact decide_eq_true (by omega)]; done)
          | (rw [show T1 = false from by rw [hT1]; exact decide_eq_false (by omega), show R1 = false from by rw [hR1]; exact decide_eq_false (by omega)]; done)
          | (rw [show T1 = false from by rw [hT1]; exact decide_eq_false (by omega), show R1 = decide (m = 3) from by rw [hR1, decide_eq_decide]; omega]; done)
          | (rw [show T1 = decide (m = 2) from by rw [hT1, decide_eq_decide]; omega, show R1 = true from by rw [hR1]; exact decide_eq_true (by omega)]; done)
          | (rw [show T1 = decide (m = 2) from by rw [hT1, decide_eq_decide]; omega, show R1 = false from by rw [hR1]; exact decide_eq_false (by omega)]; done)
          | (rw [show T1 = decide (m = 2) from by rw [hT1, decide_eq_decide]; omega, show R1 = decide (m = 3) from by rw [hR1, decide_eq_decide]; omega]; done)
    have hT : TileOk k m a r ↔ 0 ≤ a ∧ a ≤ 65535 ∧ (T1 = true ∨ a = 0) ∧ 0 ≤ r ∧ r ≤ 255 ∧ (R1 = true ∨ r = 0) := by
      rw [hT1, hR1, decide_eq_true_eq, decide_eq_true_eq, TileOk]
      constructor
      · rintro ⟨_, _, q1, q2⟩
        split at q1 <;> split at q2 <;> omega
      · intro q
        refine ⟨by omega, hh, ?_, ?_⟩
        · split <;> omega
        · split <;> omega
    clear hT1 hR1 e hh hB
    cases T1 <;> cases R1 <;> simp only [Bool.false_eq_true, eq_self, false_or, true_or, true_and, and_true] at hT <;> simp only [push_cast, reduceIte, Nat.reduceEqDiff, Nat.reduceAdd, Nat.reduceSub, Nat.reduceMul, Nat.reduceBEq, Nat.reduceLT, Nat.reduceLeDiff, reduceCtorEq, Int.reduceToNat, Int.reduceNeg]
    all_goals repeat' (first
      | (refine grd_dec rfl (fun _ => ?_) fun _ => ?_ <;> simp only [ha, hr, push_cast, reduceIte, Nat.reduceEqDiff, Nat.reduceAdd, Nat.reduceSub, Nat.reduceMul, Nat.reduceBEq, Nat.reduceLT, Nat.reduceLeDiff, reduceCtorEq, Int.reduceToNat, Int.reduceNeg])
      | (refine grd_decf rfl (fun _ => ?_) fun _ => ?_ <;> simp only [ha, hr, push_cast, reduceIte, Nat.reduceEqDiff, Nat.reduceAdd, Nat.reduceSub, Nat.reduceMul, Nat.reduceBEq, Nat.reduceLT, Nat.reduceLeDiff, reduceCtorEq, Int.reduceToNat, Int.reduceNeg])
      | (refine And.intro (by omega) ?_))
    all_goals
      first
        | (rw [decide_eq_false fun h => by have := hT.1 h; omega]; done)
        | (rw [decide_eq_true (hT.2 (by omega))]; done)
        | (rw [show decide (TileOk k m a r) = decide (r = 0) from by rw [decide_eq_decide, hT]; omega]; done)
        | (rw [show decide (TileOk k m a r) = decide (r ≤ 255) from by rw [decide_eq_decide, hT]; omega]; done)
def ValidF (g : Grid) (c : Cfg) : Prop := (c.sel.length = (countF g).toNat ∧ c.mode.length = g.kind.length ∧ c.tab.length = g.kind.length ∧ c.ram.length = g.kind.length) ∧
  (∀ i, i < c.sel.length → c.sel.getD i 0 ≠ 0 → 1 ≤ c.sel.getD i 0 ∧ c.sel.getD i 0 ≤ (driversF g i).length) ∧ ∀ t, t < g.kind.length → TileOk (g.kind.getD t 0) (c.mode.getD t 0) (c.tab.getD t 0) (c.ram.getD t 0)
open Classical in
noncomputable def validE (g : Grid) (c : Cfg) : Int := if ValidF g c then 0 else 310
end Go.Proofs.Ytledbjkolidhkaa
namespace Go.Proofs.Ytledbjkolidhkaa
open Go Go.Vc Txt
theorem not_dec {p : Prop} [Decidable p] (h : (!decide p) = true) : ¬ p := by simpa using h
theorem not_dec' {p : Prop} [Decidable p] (h : (!decide p) = false) : p := by simpa using h
def LensOk (g : Grid) (c : Cfg) : Prop := c.sel.length = (countF g).toNat ∧ c.mode.length = g.kind.length ∧ c.tab.length = g.kind.length ∧ c.ram.length = g.kind.length
instance (g : Grid) (c : Cfg) : Decidable (LensOk g c) := by unfold LensOk; infer_instance
def SelAt (g : Grid) (c : Cfg) (i : Nat) : Prop := c.sel.getD i 0 ≠ 0 → 1 ≤ c.sel.getD i 0 ∧ c.sel.getD i 0 ≤ (driversF g i).length
def TileAt (g : Grid) (c : Cfg) (t : Nat) : Prop := TileOk (g.kind.getD t 0) (c.mode.getD t 0) (c.tab.getD t 0) (c.ram.getD t 0)
instance (g : Grid) (c : Cfg) (i : Nat) : Decidable (SelAt g c i) := by unfold SelAt; infer_instance
instance (g : Grid) (c : Cfg) (t : Nat) : Decidable (TileAt g c t) := by unfold TileAt; infer_instance
theorem validE_yes {g : Grid} {c : Cfg} (h1 : LensOk g c) (h2 : ∀ i, i < c.sel.length → SelAt g c i) (h3 : ∀ t, t < g.kind.length → TileAt g c t) : validE g c = 0 := if_pos ⟨h1, h2, h3⟩
theorem validE_len {g : Grid} {c : Cfg} (h : ¬ LensOk g c) : validE g c = 310 := if_neg fun e => h e.1
theorem validE_sel {g : Grid} {c : Cfg} {i : Nat} (hi : i < c.sel.length) (h : ¬ SelAt g c i) : validE g c = 310 := if_neg fun e => h (e.2.1 i hi)
theorem validE_tile {g : Grid} {c : Cfg} {t : Nat} (ht : t < g.kind.length) (h : ¬ TileAt g c t) : validE g c = 310 := if_neg fun e => h (e.2.2 t ht)
set_option maxHeartbeats 4000000 in
theorem valid_ok (g : Grid) (hg : GOk g) (c : Cfg) (hs : CfgSm c) : FnEq Try.prog 18 [.agg (gridC false g), .agg (cfgC false c)] (.int (validE g c)) := by
  have hc := hg.count
  have hk := hg.kind
  have hw := hg.wh
  have s1 := hs.sel
  have s2 := hs.mode
  have s3 := hs.tab
  have s4 := hs.ram
  refine FnEq.of_awp Try.func18 ok18 (by show 2 ≤ _; decide) (by simp only [push_cast, reduceIte, Nat.reduceEqDiff, Nat.reduceAdd, Nat.reduceSub, Nat.reduceMul, Nat.reduceBEq, Nat.reduceLT, Nat.reduceLeDiff, reduceCtorEq, Int.reduceToNat, Int.reduceNeg] <;> first | exact fun _ _ => trivial | simp) ?_
  simp only [ac18, rv18, push_cast, reduceIte, Nat.reduceEqDiff, Nat.reduceAdd, Nat.reduceSub, Nat.reduceMul, Nat.reduceBEq, Nat.reduceLT, Nat.reduceLeDiff, reduceCtorEq, Int.reduceToNat, Int.reduceNeg]
  refine dcal_sub (ccount_ok g hg) (by simp only [push_cast, reduceIte, Nat.reduceEqDiff, Nat.reduceAdd, Nat.reduceSub, Nat.reduceMul, Nat.reduceBEq, Nat.reduceLT, Nat.reduceLeDiff, reduceCtorEq, Int.reduceToNat, Int.reduceNeg]) rfl ?_
  simp only [push_cast, reduceIte, Nat.reduceEqDiff, Nat.reduceAdd, Nat.reduceSub, Nat.reduceMul, Nat.reduceBEq, Nat.reduceLT, Nat.reduceLeDiff, reduceCtorEq, Int.reduceToNat, Int.reduceNeg]
  obtain ⟨B, hB⟩ : ∃ B, B = decide (¬ LensOk g c) := ⟨_, rfl⟩
  refine dcut_of ⟨[(2, .ptr 2 0), (3, .ptr 3 0), (39, .bool B)], [(2, gridC false g), (3, cfgC false c)], [], []⟩ ?_ ?_
  · unfold LensOk at hB
    repeat' (first
      | (refine dgrd_decf rfl (fun _ => ?_) fun _ => ?_ <;> simp only [push_cast, reduceIte, Nat.reduceEqDiff, Nat.reduceAdd, Nat.reduceSub, Nat.reduceMul, Nat.reduceBEq, Nat.reduceLT, Nat.reduceLeDiff, reduceCtorEq, Int.reduceToNat, Int.reduceNeg])
      | (refine dgrd_dec rfl (fun _ => ?_) fun _ => ?_ <;> simp only [push_cast, reduceIte, Nat.reduceEqDiff, Nat.reduceAdd, Nat.reduceSub, Nat.reduceMul, Nat.reduceBEq, Nat.reduceLT, Nat.reduceLeDiff, reduceCtorEq, Int.reduceToNat, Int.reduceNeg]))
    all_goals first
      | (rw [show B = true from by rw [hB]; exact decide_eq_true (by omega)]; done)
      | (rw [show B = decide ((c.ram.length : Int) ≠ g.kind.length) from by rw [hB, decide_eq_decide]; omega]; done)
  simp only [push_cast, reduceIte, Nat.reduceEqDiff, Nat.reduceAdd, Nat.reduceSub, Nat.reduceMul, Nat.reduceBEq, Nat.reduceLT, Nat.reduceLeDiff, reduceCtorEq, Int.reduceToNat, Int.reduceNeg]
  refine cond_of (fun e => ?_) fun e => ?_
  · rw [hB, decide_eq_true_eq] at e
    rw [validE_len e]
  rw [hB, decide_eq_false_iff_not, Classical.not_not] at e
  have el := e
  obtain ⟨q1, q2, q3, q4⟩ := e
  refine loop_of (fun m st => ∃ k : Nat, k ≤ c.sel.length ∧ m = c.sel.length - k ∧ (∀ i, i < k → SelAt g c i) ∧ st = ⟨[(2, .ptr 2 0), (3, .ptr 3 0), (41, .sl false 1 (ints c.sel)), (42, .int c.sel.length), (43, .int k)], [(2, gridC false g), (3, cfgC false c)], [], []⟩) c.sel.length ?_ ?_
  · refine ⟨0, by omega, by omega, fun i hi => by omega, ?_⟩
    simp only [push_cast, reduceIte, Nat.reduceEqDiff, Nat.reduceAdd, Nat.reduceSub, Nat.reduceMul, Nat.reduceBEq, Nat.reduceLT, Nat.reduceLeDiff, reduceCtorEq, Int.reduceToNat, Int.reduceNeg]
  rintro m st ⟨k, hk, rfl, hP, rfl⟩
  simp only [push_cast, reduceIte, Nat.reduceEqDiff, Nat.reduceAdd, Nat.reduceSub, Nat.reduceMul, Nat.reduceBEq, Nat.reduceLT, Nat.reduceLeDiff, reduceCtorEq, Int.reduceToNat, Int.reduceNeg]
  refine cond_dec (fun h => ⟨by omega, by omega, ?_⟩) fun h => ?_
  · have next : SelAt g c k → ∀ i, i < k + 1 → SelAt g c i := fun hs i hi => by
      by_cases e : i = k
      · rw [e]; exact hs
      · exact hP i (by omega)
    have hdl := driversF_len g hg k
    refine grd_dec rfl (fun h2 => ?_) fun h2 => ?_ <;> simp only [push_cast, reduceIte, Nat.reduceEqDiff, Nat.reduceAdd, Nat.reduceSub, Nat.reduceMul, Nat.reduceBEq, Nat.reduceLT, Nat.reduceLeDiff, reduceCtorEq, Int.reduceToNat, Int.reduceNeg]
    · refine cal_sub (drivers_ok g hg k (by omega)) (by simp only [push_cast, reduceIte, Nat.reduceEqDiff, Nat.reduceAdd, Nat.reduceSub, Nat.reduceMul, Nat.reduceBEq, Nat.reduceLT, Nat.reduceLeDiff, reduceCtorEq, Int.reduceToNat, Int.reduceNeg]) ?_
      simp only [push_cast, reduceIte, Nat.reduceEqDiff, Nat.reduceAdd, Nat.reduceSub, Nat.reduceMul, Nat.reduceBEq, Nat.reduceLT, Nat.reduceLeDiff, reduceCtorEq, Int.reduceToNat, Int.reduceNeg]
      refine cal_eq (within_ok _ _ _) ?_
      simp only [push_cast, reduceIte, Nat.reduceEqDiff, Nat.reduceAdd, Nat.reduceSub, Nat.reduceMul, Nat.reduceBEq, Nat.reduceLT, Nat.reduceLeDiff, reduceCtorEq, Int.reduceToNat, Int.reduceNeg]
      refine cond_of (fun h3 => ?_) fun h3 => ?_
      · have h3 : ¬ (1 ≤ c.sel.getD k 0 ∧ c.sel.getD k 0 ≤ (driversF g k).length) := not_dec h3
        rw [validE_sel (i := k) (by omega) (fun hs => h3 (hs h2))]
      · have h3 : 1 ≤ c.sel.getD k 0 ∧ c.sel.getD k 0 ≤ (driversF g k).length := not_dec' h3
        refine ⟨by omega, _, ?_, k + 1, by omega, rfl, next (fun _ => h3), ?_⟩
        · omega
        · simp only [push_cast, reduceIte, Nat.reduceEqDiff, Nat.reduceAdd, Nat.reduceSub, Nat.reduceMul, Nat.reduceBEq, Nat.reduceLT, Nat.reduceLeDiff, reduceCtorEq, Int.reduceToNat, Int.reduceNeg]
    · refine ⟨by omega, _, ?_, k + 1, by omega, rfl, next (fun h3 => absurd h3 h2), ?_⟩
      · omega
      · simp only [push_cast, reduceIte, Nat.reduceEqDiff, Nat.reduceAdd, Nat.reduceSub, Nat.reduceMul, Nat.reduceBEq, Nat.reduceLT, Nat.reduceLeDiff, reduceCtorEq, Int.reduceToNat, Int.reduceNeg]
  have hsel : ∀ i, i < c.sel.length → SelAt g c i := fun i hi => hP i (by omega)
  refine loop_of (fun m st => ∃ k : Nat, k ≤ g.kind.length ∧ m = g.kind.length - k ∧ (∀ i, i < k → TileAt g c i) ∧ st = ⟨[(3, .ptr 3 0), (61, .sl false 1 (ints g.kind)), (62, .int g.kind.length), (63, .int k)], [(3, cfgC false c)], [], []⟩) g.kind.length ?_ ?_
  · refine ⟨0, by omega, by omega, fun i hi => by omega, ?_⟩
    simp only [push_cast, reduceIte, Nat.reduceEqDiff, Nat.reduceAdd, Nat.reduceSub, Nat.reduceMul, Nat.reduceBEq, Nat.reduceLT, Nat.reduceLeDiff, reduceCtorEq, Int.reduceToNat, Int.reduceNeg]
  rintro m st ⟨k, hk, rfl, hP, rfl⟩
  simp only [push_cast, reduceIte, Nat.reduceEqDiff, Nat.reduceAdd, Nat.reduceSub, Nat.reduceMul, Nat.reduceBEq, Nat.reduceLT, Nat.reduceLeDiff, reduceCtorEq, Int.reduceToNat, Int.reduceNeg]
  refine cond_dec (fun h => ⟨by omega, by omega, ?_⟩) fun h => ?_
  · refine ⟨by omega, by omega, by omega, by omega, by omega, by omega, ?_⟩
    refine cal_eq (vtile_ok _ _ _ _) ?_
    simp only [push_cast, reduceIte, Nat.reduceEqDiff, Nat.reduceAdd, Nat.reduceSub, Nat.reduceMul, Nat.reduceBEq, Nat.reduceLT, Nat.reduceLeDiff, reduceCtorEq, Int.reduceToNat, Int.reduceNeg]
    refine cond_of (fun h3 => ?_) fun h3 => ?_
    · have h3 : ¬ TileAt g c k := not_dec h3
      rw [validE_tile (t := k) (by omega) h3]
    · have h3 : TileAt g c k := not_dec' h3
      refine ⟨by omega, _, ?_, k + 1, by omega, rfl, ?_, ?_⟩
      · omega
      · intro i hi
        by_cases e : i = k
        · rw [e]; exact h3
        · exact hP i (by omega)
      · simp only [push_cast, reduceIte, Nat.reduceEqDiff, Nat.reduceAdd, Nat.reduceSub, Nat.reduceMul, Nat.reduceBEq, Nat.reduceLT, Nat.reduceLeDiff, reduceCtorEq, Int.reduceToNat, Int.reduceNeg]
  · rw [validE_yes el hsel fun t ht => hP t (by omega)]
end Go.Proofs.Ytledbjkolidhkaa
namespace Go.Proofs.Ytledbjkolidhkaa
open Go Go.Vc Txt
set_option maxHeartbeats 4000000 in
theorem rvalid_ok (g : Grid) (hg : GOk g) (c : Cfg) (hs : CfgSm c) : FnEq Try.prog 19 [.agg (gridC false g), .agg (cfgC false c)] (.int (validE g c)) := by
  have hc := hg.count
  have hk := hg.kind
  have hw := hg.wh
  have s1 := hs.sel
  have s2 := hs.mode
  have s3 := hs.tab
  have s4 := hs.ram
  refine FnEq.of_awp Try.func19 ok19 (by show 2 ≤ _; decide) (by simp only [push_cast, reduceIte, Nat.reduceEqDiff, Nat.reduceAdd, Nat.reduceSub, Nat.reduceMul, Nat.reduceBEq, Nat.reduceLT, Nat.reduceLeDiff, reduceCtorEq, Int.reduceToNat, Int.reduceNeg] <;> first | exact fun _ _ => trivial | simp) ?_
  simp only [ac19, rv19, push_cast, reduceIte, Nat.reduceEqDiff, Nat.reduceAdd, Nat.reduceSub, Nat.reduceMul, Nat.reduceBEq, Nat.reduceLT, Nat.reduceLeDiff, reduceCtorEq, Int.reduceToNat, Int.reduceNeg]
  refine ⟨by omega, ?_⟩
  rw [show g.w * g.h = (g.kind.length : Int) by omega]
  refine dcal_sub (rcount_ok g hg) (by simp only [push_cast, reduceIte, Nat.reduceEqDiff, Nat.reduceAdd, Nat.reduceSub, Nat.reduceMul, Nat.reduceBEq, Nat.reduceLT, Nat.reduceLeDiff, reduceCtorEq, Int.reduceToNat, Int.reduceNeg]) rfl ?_
  simp only [push_cast, reduceIte, Nat.reduceEqDiff, Nat.reduceAdd, Nat.reduceSub, Nat.reduceMul, Nat.reduceBEq, Nat.reduceLT, Nat.reduceLeDiff, reduceCtorEq, Int.reduceToNat, Int.reduceNeg]
  obtain ⟨B, hB⟩ : ∃ B, B = decide (¬ LensOk g c) := ⟨_, rfl⟩
  refine dcut_of ⟨[(2, .ptr 2 0), (3, .ptr 3 0), (5, .int g.kind.length), (39, .bool B)], [(2, gridC false g), (3, cfgC false c)], [], []⟩ ?_ ?_
  · unfold LensOk at hB
    repeat' (first
      | (refine dgrd_decf rfl (fun _ => ?_) fun _ => ?_ <;> simp only [push_cast, reduceIte, Nat.reduceEqDiff, Nat.reduceAdd, Nat.reduceSub, Nat.reduceMul, Nat.reduceBEq, Nat.reduceLT, Nat.reduceLeDiff, reduceCtorEq, Int.reduceToNat, Int.reduceNeg])
      | (refine dgrd_dec rfl (fun _ => ?_) fun _ => ?_ <;> simp only [push_cast, reduceIte, Nat.reduceEqDiff, Nat.reduceAdd, Nat.reduceSub, Nat.reduceMul, Nat.reduceBEq, Nat.reduceLT, Nat.reduceLeDiff, reduceCtorEq, Int.reduceToNat, Int.reduceNeg]))
    all_goals first
      | (rw [show B = true from by rw [hB]; exact decide_eq_true (by omega)]; done)
      | (rw [show B = decide ((c.ram.length : Int) ≠ g.kind.length) from by rw [hB, decide_eq_decide]; omega]; done)
  simp only [push_cast, reduceIte, Nat.reduceEqDiff, Nat.reduceAdd, Nat.reduceSub, Nat.reduceMul, Nat.reduceBEq, Nat.reduceLT, Nat.reduceLeDiff, reduceCtorEq, Int.reduceToNat, Int.reduceNeg]
  refine cond_of (fun e => ?_) fun e => ?_
  · rw [hB, decide_eq_true_eq] at e
    rw [validE_len e]
  rw [hB, decide_eq_false_iff_not, Classical.not_not] at e
  have el := e
  obtain ⟨q1, q2, q3, q4⟩ := e
  refine loop_of (fun m st => ∃ k : Nat, k ≤ c.sel.length ∧ m = c.sel.length - k ∧ (∀ i, i < k → SelAt g c i) ∧ st = ⟨[(2, .ptr 2 0), (3, .ptr 3 0), (5, .int g.kind.length), (6, .int k)], [(2, gridC false g), (3, cfgC false c)], [], []⟩) c.sel.length ?_ ?_
  · refine ⟨0, by omega, by omega, fun i hi => by omega, ?_⟩
    simp only [push_cast, reduceIte, Nat.reduceEqDiff, Nat.reduceAdd, Nat.reduceSub, Nat.reduceMul, Nat.reduceBEq, Nat.reduceLT, Nat.reduceLeDiff, reduceCtorEq, Int.reduceToNat, Int.reduceNeg]
  rintro m st ⟨k, hk, rfl, hP, rfl⟩
  simp only [push_cast, reduceIte, Nat.reduceEqDiff, Nat.reduceAdd, Nat.reduceSub, Nat.reduceMul, Nat.reduceBEq, Nat.reduceLT, Nat.reduceLeDiff, reduceCtorEq, Int.reduceToNat, Int.reduceNeg]
  refine cond_dec (fun h => ⟨by omega, by omega, ?_⟩) fun h => ?_
  · have next : SelAt g c k → ∀ i, i < k + 1 → SelAt g c i := fun hs i hi => by
      by_cases e : i = k
      · rw [e]; exact hs
      · exact hP i (by omega)
    have hdl := driversF_len g hg k
    have hdef : c.sel.getD k default = c.sel.getD k 0 := rfl
    rw [hdef]
    generalize hx : c.sel.getD k 0 = x
    obtain ⟨D, hD⟩ : ∃ D, D = decide (¬ SelAt g c k) := ⟨_, rfl⟩
    have hSA : SelAt g c k ↔ (x ≠ 0 → 1 ≤ x ∧ x ≤ (driversF g k).length) := by rw [SelAt, hx]
    refine dcut_of ⟨[(2, .ptr 2 0), (3, .ptr 3 0), (5, .int g.kind.length), (6, .int k), (71, .bool D)], [(2, gridC false g), (3, cfgC false c)], [], []⟩ ?_ ?_
    · refine dgrd_dec rfl (fun _ => ?_) fun _ => ?_ <;> simp only [hdef, hx, push_cast, reduceIte, Nat.reduceEqDiff, Nat.reduceAdd, Nat.reduceSub, Nat.reduceMul, Nat.reduceBEq, Nat.reduceLT, Nat.reduceLeDiff, reduceCtorEq, Int.reduceToNat, Int.reduceNeg]
      · refine ⟨by omega, by omega, ?_⟩
        refine dgrd_decf rfl (fun _ => ?_) fun _ => ?_ <;> simp only [hdef, hx, push_cast, reduceIte, Nat.reduceEqDiff, Nat.reduceAdd, Nat.reduceSub, Nat.reduceMul, Nat.reduceBEq, Nat.reduceLT, Nat.reduceLeDiff, reduceCtorEq, Int.reduceToNat, Int.reduceNeg]
        · rw [show D = true from by rw [hD]; exact decide_eq_true (by rw [hSA]; omega)]
        · refine ⟨by omega, by omega, ?_⟩
          refine dcal_eq (rdrv_ok g hg k (by omega)) (u := []) rfl ?_
          simp only [hdef, hx, push_cast, reduceIte, Nat.reduceEqDiff, Nat.reduceAdd, Nat.reduceSub, Nat.reduceMul, Nat.reduceBEq, Nat.reduceLT, Nat.reduceLeDiff, reduceCtorEq, Int.reduceToNat, Int.reduceNeg]
          rw [show D = decide (((driversF g k).length : Int) < x) from by rw [hD, decide_eq_decide, hSA]; omega]
      · rw [show D = false from by rw [hD]; exact decide_eq_false (by rw [hSA]; omega)]
    simp only [push_cast, reduceIte, Nat.reduceEqDiff, Nat.reduceAdd, Nat.reduceSub, Nat.reduceMul, Nat.reduceBEq, Nat.reduceLT, Nat.reduceLeDiff, reduceCtorEq, Int.reduceToNat, Int.reduceNeg]
    refine cond_of (fun h3 => ?_) fun h3 => ?_
    · rw [hD, decide_eq_true_eq] at h3
      rw [validE_sel (i := k) (by omega) h3]
    · rw [hD, decide_eq_false_iff_not, Classical.not_not] at h3
      refine ⟨by omega, _, ?_, k + 1, by omega, rfl, next h3, ?_⟩
      · omega
      · simp only [push_cast, reduceIte, Nat.reduceEqDiff, Nat.reduceAdd, Nat.reduceSub, Nat.reduceMul, Nat.reduceBEq, Nat.reduceLT, Nat.reduceLeDiff, reduceCtorEq, Int.reduceToNat, Int.reduceNeg]
  have hsel : ∀ i, i < c.sel.length → SelAt g c i := fun i hi => hP i (by omega)
  refine loop_of (fun m st => ∃ k : Nat, k ≤ g.kind.length ∧ m = g.kind.length - k ∧ (∀ i, i < k → TileAt g c i) ∧ st = ⟨[(2, .ptr 2 0), (3, .ptr 3 0), (5, .int g.kind.length), (7, .int k)], [(2, gridC false g), (3, cfgC false c)], [], []⟩) g.kind.length ?_ ?_
  · refine ⟨0, by omega, by omega, fun i hi => by omega, ?_⟩
    simp only [push_cast, reduceIte, Nat.reduceEqDiff, Nat.reduceAdd, Nat.reduceSub, Nat.reduceMul, Nat.reduceBEq, Nat.reduceLT, Nat.reduceLeDiff, reduceCtorEq, Int.reduceToNat, Int.reduceNeg]
  rintro m st ⟨k, hk, rfl, hP, rfl⟩
  simp only [push_cast, reduceIte, Nat.reduceEqDiff, Nat.reduceAdd, Nat.reduceSub, Nat.reduceMul, Nat.reduceBEq, Nat.reduceLT, Nat.reduceLeDiff, reduceCtorEq, Int.reduceToNat, Int.reduceNeg]
  refine cond_dec (fun h => ?_) fun h => ?_
  · refine cal_sub (rtile_ok g c k (by omega) (by omega) (by omega) (by omega)) (by simp only [push_cast, reduceIte, Nat.reduceEqDiff, Nat.reduceAdd, Nat.reduceSub, Nat.reduceMul, Nat.reduceBEq, Nat.reduceLT, Nat.reduceLeDiff, reduceCtorEq, Int.reduceToNat, Int.reduceNeg]) ?_
    simp only [push_cast, reduceIte, Nat.reduceEqDiff, Nat.reduceAdd, Nat.reduceSub, Nat.reduceMul, Nat.reduceBEq, Nat.reduceLT, Nat.reduceLeDiff, reduceCtorEq, Int.reduceToNat, Int.reduceNeg]
    refine cond_of (fun h3 => ?_) fun h3 => ?_
    · have h3 : ¬ TileAt g c k := not_dec h3
      rw [validE_tile (t := k) (by omega) h3]
    · have h3 : TileAt g c k := not_dec' h3
      refine ⟨by omega, _, ?_, k + 1, by omega, rfl, ?_, ?_⟩
      · omega
      · intro i hi
        by_cases e : i = k
        · rw [e]; exact h3
        · exact hP i (by omega)
      · simp only [push_cast, reduceIte, Nat.reduceEqDiff, Nat.reduceAdd, Nat.reduceSub, Nat.reduceMul, Nat.reduceBEq, Nat.reduceLT, Nat.reduceLeDiff, reduceCtorEq, Int.reduceToNat, Int.reduceNeg]
  · rw [validE_yes el hsel fun t ht => hP t (by omega)]
end Go.Proofs.Ytledbjkolidhkaa
namespace Go.Proofs.Ytledbjkolidhkaa
open Go Go.Vc Txt
def sourceS (g : Grid) (c : Cfg) : Nat → List Int → Int → Int × Int
  | 0, _, _ => (0, 50)
  | f + 1, sn, n => if n ∈ sn then (0, 50) else if driversF g n = [] then (n, 0) else if c.sel.getD n.toNat 0 = 0 then (0, 4) else
      sourceS g c f (sn ++ [n]) ((driversF g n).getD (c.sel.getD n.toNat 0 - 1).toNat 0)
def sourceF (g : Grid) (c : Cfg) (n : Int) : Int × Int := if 0 ≤ n ∧ n ≤ (c.sel.length : Int) - 1 then sourceS g c (c.sel.length + 1) [] n else (0, 4)
structure SelsOk (g : Grid) (c : Cfg) : Prop where
  len : c.sel.length = (countF g).toNat
  sel : ∀ i, i < c.sel.length → SelAt g c i
theorem candN_rng (g : Grid) (s : Spot) : ∀ k, ∀ x ∈ candN g s k, 0 ≤ x ∧ x < k
  | 0, x, h => by simp [candN] at h
  | k + 1, x, h => by
    rw [candN, List.mem_append] at h
    rcases h with h | h
    · have := candN_rng g s k x h; omega
    · split at h
      · simp at h; omega
      · simp at h
theorem driversF_rng {g : Grid} (hg : GOk g) (n x : Int) (h : x ∈ driversF g n) : 0 ≤ x ∧ x < (countF g).toNat := by
  rw [drivers_eq hg, rdrF] at h
  split at h
  · exact candN_rng _ _ _ _ h
  · simp at h
theorem getD_mem {l : List Int} {k : Nat} (h : k < l.length) : l.getD k 0 ∈ l := by simp [h]
set_option maxHeartbeats 2000000 in
theorem source_ok (g : Grid) (hg : GOk g) (c : Cfg) (hc : SelsOk g c) (n : Int) : FnEq Try.prog 46 [.agg (gridC false g), .agg (cfgC false c), .int n] (.tup [.int (sourceF g c n).1, .int (sourceF g c n).2]) := by
  have h1 := hg.count
  have h2 := hc.len
  refine FnEq.of_awp Try.func46 ok46 (by show 3 ≤ _; decide) (by simp only [push_cast, reduceIte, Nat.reduceEqDiff, Nat.reduceAdd, Nat.reduceSub, Nat.reduceMul, Nat.reduceBEq, Nat.reduceLT, Nat.reduceLeDiff, reduceCtorEq, Int.reduceToNat, Int.reduceNeg] <;> first | exact fun _ _ => trivial | simp) ?_
  simp only [ac46, rv46, push_cast, reduceIte, Nat.reduceEqDiff, Nat.reduceAdd, Nat.reduceSub, Nat.reduceMul, Nat.reduceBEq, Nat.reduceLT, Nat.reduceLeDiff, reduceCtorEq, Int.reduceToNat, Int.reduceNeg]
  refine ⟨by omega, ?_⟩
  refine cal_eq (within_ok _ _ _) ?_
  simp only [push_cast, reduceIte, Nat.reduceEqDiff, Nat.reduceAdd, Nat.reduceSub, Nat.reduceMul, Nat.reduceBEq, Nat.reduceLT, Nat.reduceLeDiff, reduceCtorEq, Int.reduceToNat, Int.reduceNeg]
  refine cond_of (fun e => ?_) fun e => ?_
  · have e := not_dec e
    rw [sourceF, if_neg (by omega)]
    exact ⟨rfl, rfl⟩
  have e := not_dec' e
  have hF : sourceF g c n = sourceS g c (c.sel.length + 1) [] n := if_pos (by omega)
  rw [hF]
  clear hF
  refine loop_of (fun m st => ∃ (sn : List Int) (x : Int), m + sn.length = c.sel.length ∧ sn.Nodup ∧ (∀ y ∈ sn, 0 ≤ y ∧ y < c.sel.length) ∧ (0 ≤ x ∧ x < c.sel.length) ∧
    sourceS g c (c.sel.length + 1) [] n = sourceS g c (m + 1) sn x ∧ st = ⟨[(2, .int x), (3, .ptr 3 0), (4, .ptr 4 0), (8, .mp 17)], [(3, gridC false g), (4, cfgC false c)], [], [(17, ⟨.int .i64, seenM sn, none⟩)]⟩) c.sel.length ?_ ?_
  · refine ⟨[], n, by simp, .nil, by simp, by omega, rfl, ?_⟩
    simp only [seenM, List.map_nil, push_cast, reduceIte, Nat.reduceEqDiff, Nat.reduceAdd, Nat.reduceSub, Nat.reduceMul, Nat.reduceBEq, Nat.reduceLT, Nat.reduceLeDiff, reduceCtorEq, Int.reduceToNat, Int.reduceNeg]
  rintro m st ⟨sn, x, hm, hnd, hr, hx, hS, rfl⟩
  rw [hS]
  have hmg : mlkT false (.sc (.bool false)) (mget (seenM sn) (.int .i64 x)) = .sc (.bool (decide (x ∈ sn))) := by
    rw [mget_seen]
    by_cases h : x ∈ sn <;> simp [h, mlkT]
  simp only [hmg, push_cast, reduceIte, Nat.reduceEqDiff, Nat.reduceAdd, Nat.reduceSub, Nat.reduceMul, Nat.reduceBEq, Nat.reduceLT, Nat.reduceLeDiff, reduceCtorEq, Int.reduceToNat, Int.reduceNeg]
  refine cond_of (fun e2 => ?_) fun e2 => ?_
  rotate_left
  · have e2 : x ∈ sn := not_dec' e2
    rw [sourceS, if_pos e2]
    exact ⟨rfl, rfl⟩
  have e2 : x ∉ sn := not_dec e2
  simp only [mput_seen x sn e2, push_cast, reduceIte, Nat.reduceEqDiff, Nat.reduceAdd, Nat.reduceSub, Nat.reduceMul, Nat.reduceBEq, Nat.reduceLT, Nat.reduceLeDiff, reduceCtorEq, Int.reduceToNat, Int.reduceNeg]
  have hnd' : (sn ++ [x]).Nodup := List.nodup_append.2 ⟨hnd, by simp, by intro a ha b hb h; simp at hb; subst hb; subst h; exact e2 ha⟩
  have hr' : ∀ y ∈ sn ++ [x], 0 ≤ y ∧ y < c.sel.length := fun y hy => by
    rw [List.mem_append, List.mem_singleton] at hy
    rcases hy with hy | rfl
    · exact hr y hy
    · exact hx
  have hln := nodup_rng (n := c.sel.length) hnd' hr'
  rw [List.length_append, List.length_singleton] at hln
  obtain ⟨k, rfl⟩ : ∃ k, m = k + 1 := ⟨m - 1, by omega⟩
  have hdl := driversF_len g hg x
  refine cal_sub (drivers_ok g hg x (by omega)) (by simp only [push_cast, reduceIte, Nat.reduceEqDiff, Nat.reduceAdd, Nat.reduceSub, Nat.reduceMul, Nat.reduceBEq, Nat.reduceLT, Nat.reduceLeDiff, reduceCtorEq, Int.reduceToNat, Int.reduceNeg]) ?_
  simp only [push_cast, reduceIte, Nat.reduceEqDiff, Nat.reduceAdd, Nat.reduceSub, Nat.reduceMul, Nat.reduceBEq, Nat.reduceLT, Nat.reduceLeDiff, reduceCtorEq, Int.reduceToNat, Int.reduceNeg]
  refine cond_dec (fun h0 => ?_) fun h0 => ?_
  · have hd : driversF g x = [] := List.length_eq_zero_iff.1 (by omega)
    rw [sourceS, if_neg e2, if_pos hd]
    exact ⟨rfl, rfl⟩
  have hd : ¬ driversF g x = [] := fun h => h0 (by rw [h]; rfl)
  refine ⟨by omega, by omega, ?_⟩
  have e0 : ∀ (l : List Int) (j : Nat), l.getD j default = l.getD j 0 := fun _ _ => rfl
  simp only [e0]
  refine cond_dec (fun h3 => ?_) fun h3 => ?_
  · rw [sourceS, if_neg e2, if_neg hd, if_pos h3]
    exact ⟨rfl, rfl⟩
  have hsa := hc.sel x.toNat (by omega) h3
  rw [show ((x.toNat : Nat) : Int) = x by omega] at hsa
  have hgm := driversF_rng hg x _ (getD_mem (l := driversF g x) (k := (c.sel.getD x.toNat 0 - 1).toNat) (by omega))
  have hst : sourceS g c (k + 1 + 1) sn x = sourceS g c (k + 1) (sn ++ [x]) ((driversF g x).getD (c.sel.getD x.toNat 0 - 1).toNat 0) := by
    rw [sourceS, if_neg e2, if_neg hd, if_neg h3]
  generalize c.sel.getD x.toNat 0 = s at *
  refine ⟨by omega, by omega, by omega, by omega, by omega, _, ?_, sn ++ [x], _, ?_, hnd', hr', ?_, hst, ?_⟩
  · omega
  · rw [List.length_append, List.length_singleton]; omega
  · omega
  · simp only [e0, push_cast, reduceIte, Nat.reduceEqDiff, Nat.reduceAdd, Nat.reduceSub, Nat.reduceMul, Nat.reduceBEq, Nat.reduceLT, Nat.reduceLeDiff, reduceCtorEq, Int.reduceToNat, Int.reduceNeg]
theorem same_ok (c d : Cfg) (hc : CfgSm c) (hd : CfgSm d) : FnEq Try.prog 15 [.agg (cfgC false c), .agg (cfgC false d)] (.bool (decide (c = d))) := by
  have i0 := ints_ok c.sel d.sel hc.sel hd.sel
  have i1 := ints_ok c.mode d.mode hc.mode hd.mode
  have i2 := ints_ok c.tab d.tab hc.tab hd.tab
  have i3 := ints_ok c.ram d.ram hc.ram hd.ram
  have hE : c = d ↔ c.sel = d.sel ∧ c.mode = d.mode ∧ c.tab = d.tab ∧ c.ram = d.ram := by
    cases c; cases d; simp
  refine FnEq.of_awp Try.func15 ok15 (by show 2 ≤ _; decide) (by simp only [push_cast, reduceIte, Nat.reduceEqDiff, Nat.reduceAdd, Nat.reduceSub, Nat.reduceMul, Nat.reduceBEq, Nat.reduceLT, Nat.reduceLeDiff, reduceCtorEq, Int.reduceToNat, Int.reduceNeg] <;> first | exact fun _ _ => trivial | simp) ?_
  simp only [ac15, rv15, push_cast, reduceIte, Nat.reduceEqDiff, Nat.reduceAdd, Nat.reduceSub, Nat.reduceMul, Nat.reduceBEq, Nat.reduceLT, Nat.reduceLeDiff, reduceCtorEq, Int.reduceToNat, Int.reduceNeg]
  refine cal_eq i0 ?_
  simp only [push_cast, reduceIte, Nat.reduceEqDiff, Nat.reduceAdd, Nat.reduceSub, Nat.reduceMul, Nat.reduceBEq, Nat.reduceLT, Nat.reduceLeDiff, reduceCtorEq, Int.reduceToNat, Int.reduceNeg]
  refine grd_dec rfl (fun e1 => ?_) fun e1 => ?_ <;> simp only [push_cast, reduceIte, Nat.reduceEqDiff, Nat.reduceAdd, Nat.reduceSub, Nat.reduceMul, Nat.reduceBEq, Nat.reduceLT, Nat.reduceLeDiff, reduceCtorEq, Int.reduceToNat, Int.reduceNeg]
  · refine cal_eq i1 ?_
    simp only [push_cast, reduceIte, Nat.reduceEqDiff, Nat.reduceAdd, Nat.reduceSub, Nat.reduceMul, Nat.reduceBEq, Nat.reduceLT, Nat.reduceLeDiff, reduceCtorEq, Int.reduceToNat, Int.reduceNeg]
    refine grd_dec rfl (fun e2 => ?_) fun e2 => ?_ <;> simp only [push_cast, reduceIte, Nat.reduceEqDiff, Nat.reduceAdd, Nat.reduceSub, Nat.reduceMul, Nat.reduceBEq, Nat.reduceLT, Nat.reduceLeDiff, reduceCtorEq, Int.reduceToNat, Int.reduceNeg]
    · refine cal_eq i2 ?_
      simp only [push_cast, reduceIte, Nat.reduceEqDiff, Nat.reduceAdd, Nat.reduceSub, Nat.reduceMul, Nat.reduceBEq, Nat.reduceLT, Nat.reduceLeDiff, reduceCtorEq, Int.reduceToNat, Int.reduceNeg]
      refine grd_dec rfl (fun e3 => ?_) fun e3 => ?_ <;> simp only [push_cast, reduceIte, Nat.reduceEqDiff, Nat.reduceAdd, Nat.reduceSub, Nat.reduceMul, Nat.reduceBEq, Nat.reduceLT, Nat.reduceLeDiff, reduceCtorEq, Int.reduceToNat, Int.reduceNeg]
      · refine cal_eq i3 ?_
        simp only [push_cast, reduceIte, Nat.reduceEqDiff, Nat.reduceAdd, Nat.reduceSub, Nat.reduceMul, Nat.reduceBEq, Nat.reduceLT, Nat.reduceLeDiff, reduceCtorEq, Int.reduceToNat, Int.reduceNeg]
        simp_all
      · simp_all
    · simp_all
  · simp_all
def desC (q : Bool) (g : Grid) (p : Packed) (l : Layout) : List PV := gridC q g ++ packC q p ++ layC q l
@[push_cast] theorem desC_eq (q : Bool) (g : Grid) (p : Packed) (l : Layout) : desC q g p l = gridC q g ++ packC q p ++ layC q l := rfl
theorem encoded_ok (p : Packed) (g : Grid) (hg : GOk g) (l : Layout) (hl : (l.pos.length : Int) ≤ 1000000) (hl2 : (l.routes.length : Int) ≤ 1000000) (hl3 : ∀ r ∈ l.routes, (r.nodes.length : Int) ≤ 1000000) :
    FnEq Try.prog 13 [.agg (desC false g p l)] (.agg (cfgC true (encF p g l).1 ++ [.int (encF p g l).2])) := by
  have h := encode_ok p g hg l hl hl2 hl3
  rw [encV] at h
  generalize encF p g l = r at h ⊢
  refine FnEq.of_awp Try.func13 ok13 (by show 1 ≤ _; decide) (by simp only [push_cast, reduceIte, Nat.reduceEqDiff, Nat.reduceAdd, Nat.reduceSub, Nat.reduceMul, Nat.reduceBEq, Nat.reduceLT, Nat.reduceLeDiff, reduceCtorEq, Int.reduceToNat, Int.reduceNeg] <;> first | exact fun _ _ => trivial | simp) ?_
  simp only [ac13, rv13, push_cast, reduceIte, Nat.reduceEqDiff, Nat.reduceAdd, Nat.reduceSub, Nat.reduceMul, Nat.reduceBEq, Nat.reduceLT, Nat.reduceLeDiff, reduceCtorEq, Int.reduceToNat, Int.reduceNeg]
  refine cal_sub h (by simp only [push_cast, reduceIte, Nat.reduceEqDiff, Nat.reduceAdd, Nat.reduceSub, Nat.reduceMul, Nat.reduceBEq, Nat.reduceLT, Nat.reduceLeDiff, reduceCtorEq, Int.reduceToNat, Int.reduceNeg]) ?_
  simp only [push_cast, reduceIte, Nat.reduceEqDiff, Nat.reduceAdd, Nat.reduceSub, Nat.reduceMul, Nat.reduceBEq, Nat.reduceLT, Nat.reduceLeDiff, reduceCtorEq, Int.reduceToNat, Int.reduceNeg]
  exact ⟨fun _ _ => trivial, fun _ _ => trivial, fun _ _ => trivial, fun _ _ => trivial⟩
theorem lsource_ok (g : Grid) (hg : GOk g) (c : Cfg) (hc : SelsOk g c) (n : Int) : FnEq Try.prog 23 [.agg (gridC false g), .agg (cfgC false c), .int n] (.agg [.int (sourceF g c n).1, .int (sourceF g c n).2]) := by
  have h := source_ok g hg c hc n
  refine FnEq.of_awp Try.func23 ok23 (by show 3 ≤ _; decide) (by simp only [push_cast, reduceIte, Nat.reduceEqDiff, Nat.reduceAdd, Nat.reduceSub, Nat.reduceMul, Nat.reduceBEq, Nat.reduceLT, Nat.reduceLeDiff, reduceCtorEq, Int.reduceToNat, Int.reduceNeg] <;> first | exact fun _ _ => trivial | simp) ?_
  simp only [ac23, rv23, push_cast, reduceIte, Nat.reduceEqDiff, Nat.reduceAdd, Nat.reduceSub, Nat.reduceMul, Nat.reduceBEq, Nat.reduceLT, Nat.reduceLeDiff, reduceCtorEq, Int.reduceToNat, Int.reduceNeg]
  refine cal_sub h (by simp only [push_cast, reduceIte, Nat.reduceEqDiff, Nat.reduceAdd, Nat.reduceSub, Nat.reduceMul, Nat.reduceBEq, Nat.reduceLT, Nat.reduceLeDiff, reduceCtorEq, Int.reduceToNat, Int.reduceNeg]) ?_
  simp only [push_cast, reduceIte, Nat.reduceEqDiff, Nat.reduceAdd, Nat.reduceSub, Nat.reduceMul, Nat.reduceBEq, Nat.reduceLT, Nat.reduceLeDiff, reduceCtorEq, Int.reduceToNat, Int.reduceNeg]
theorem ldiffer_ok (c d : Cfg) (hc : CfgSm c) (hd : CfgSm d) : FnEq Try.prog 28 [.agg (cfgC false c), .agg (cfgC false d)] (.agg [.sl true 1 (ints (differF c d).1), .sl true 1 (ints (differF c d).2)]) := by
  have h := differ_ok c d hc hd
  refine FnEq.of_awp Try.func28 ok28 (by show 2 ≤ _; decide) (by simp only [push_cast, reduceIte, Nat.reduceEqDiff, Nat.reduceAdd, Nat.reduceSub, Nat.reduceMul, Nat.reduceBEq, Nat.reduceLT, Nat.reduceLeDiff, reduceCtorEq, Int.reduceToNat, Int.reduceNeg] <;> first | exact fun _ _ => trivial | simp) ?_
  simp only [ac28, rv28, push_cast, reduceIte, Nat.reduceEqDiff, Nat.reduceAdd, Nat.reduceSub, Nat.reduceMul, Nat.reduceBEq, Nat.reduceLT, Nat.reduceLeDiff, reduceCtorEq, Int.reduceToNat, Int.reduceNeg]
  refine cal_sub h (by simp only [push_cast, reduceIte, Nat.reduceEqDiff, Nat.reduceAdd, Nat.reduceSub, Nat.reduceMul, Nat.reduceBEq, Nat.reduceLT, Nat.reduceLeDiff, reduceCtorEq, Int.reduceToNat, Int.reduceNeg]) ?_
  simp only [push_cast, reduceIte, Nat.reduceEqDiff, Nat.reduceAdd, Nat.reduceSub, Nat.reduceMul, Nat.reduceBEq, Nat.reduceLT, Nat.reduceLeDiff, reduceCtorEq, Int.reduceToNat, Int.reduceNeg]
  exact ⟨fun _ _ => trivial, fun _ _ => trivial⟩
theorem two_ok : FnEq Try.prog 33 [] (.agg (gridC true ⟨2, 1, 1, 1, [1, 2]⟩)) := by
  refine FnEq.of_awp Try.func33 ok33 (by show 0 ≤ _; decide) (by simp only [push_cast, reduceIte, Nat.reduceEqDiff, Nat.reduceAdd, Nat.reduceSub, Nat.reduceMul, Nat.reduceBEq, Nat.reduceLT, Nat.reduceLeDiff, reduceCtorEq, Int.reduceToNat, Int.reduceNeg] <;> first | exact fun _ _ => trivial | simp) ?_
  simp only [ac33, rv33, push_cast, reduceIte, Nat.reduceEqDiff, Nat.reduceAdd, Nat.reduceSub, Nat.reduceMul, Nat.reduceBEq, Nat.reduceLT, Nat.reduceLeDiff, reduceCtorEq, Int.reduceToNat, Int.reduceNeg]
  exact ⟨⟨by decide, by decide⟩, fun _ _ => trivial, .refl _⟩
end Go.Proofs.Ytledbjkolidhkaa
namespace Go.Proofs.Ytledbjkolidhkaa
open Go Go.Vc Txt
def gT : Grid := ⟨2, 1, 1, 1, [1, 2]⟩
def pT : Packed := ⟨[], [], [], []⟩
def rT : Route := ⟨0, [0, 6, 10], [-1, 0, 1]⟩
def lT : Layout := ⟨[], [rT]⟩
def cT : Cfg := ⟨[0, 0, 0, 0, 0, 0, 1, 0, 0, 0, 1, 0, 0, 0, 0, 0, 0, 0], [0, 0], [0, 0], [0, 0]⟩
def kT : Cfg := ⟨[0, 0, 0, 0, 0, 0, 6, 0, 0, 0, 1, 0, 0, 0, 1, 0, 0, 0], [0, 0], [0, 0], [0, 0]⟩
theorem gT_ok : GOk gT := ⟨by decide, by decide, by decide, by decide, by decide⟩
theorem dT0 : driversF gT 0 = [] := by rw [drivers_eq gT_ok]; decide +kernel
theorem dT6 : driversF gT 6 = [0, 1, 7, 8, 9, 14, 15, 16] := by rw [drivers_eq gT_ok]; decide +kernel
theorem dT10 : driversF gT 10 = [6, 14, 15] := by rw [drivers_eq gT_ok]; decide +kernel
theorem dT11 : driversF gT 11 = [6, 14, 15] := by rw [drivers_eq gT_ok]; decide +kernel
theorem dT14 : driversF gT 14 = [6, 8, 9, 15] := by rw [drivers_eq gT_ok]; decide +kernel
theorem blT : blankF gT = ⟨List.replicate 18 0, [0, 0], [0, 0], [0, 0]⟩ := by decide +kernel
theorem encT : encF pT gT lT = (cT, 0) := by
  have h : routeF gT (List.replicate 18 0, []) rT = some (cT.sel, [0, 6, 10]) := by
    have r3 : List.range rT.nodes.length = [0, 1, 2] := by decide
    rw [routeF, if_pos (by decide), r3]
    simp only [foldO, stepF]
    rw [show stepN gT (List.replicate 18 0, []) 0 (rT.nodes.getD 0 0) (rT.frm.getD 0 0) (rT.nodes.getD (rT.frm.getD 0 0).toNat 0) = some (List.replicate 18 0, [0]) by
      rw [stepN, show rT.nodes.getD 0 0 = 0 from rfl, dT0]; decide]
    simp only [Option.bind_some]
    rw [show stepN gT (List.replicate 18 0, [0]) 1 (rT.nodes.getD 1 0) (rT.frm.getD 1 0) (rT.nodes.getD (rT.frm.getD 1 0).toNat 0) = some ((List.replicate 18 0).set 6 1, [0, 6]) by
      rw [stepN, show rT.nodes.getD 1 0 = 6 from rfl, dT6]; decide]
    simp only [Option.bind_some]
    rw [show stepN gT ((List.replicate 18 0).set 6 1, [0, 6]) 2 (rT.nodes.getD 2 0) (rT.frm.getD 2 0) (rT.nodes.getD (rT.frm.getD 2 0).toNat 0) = some (cT.sel, [0, 6, 10]) by
      rw [stepN, show rT.nodes.getD 2 0 = 10 from rfl, dT10]; decide]
    rfl
  have h2 : encO pT gT lT = some cT := by
    rw [encO, if_pos (by decide), blT]
    show ((foldO (routeF gT) (List.replicate 18 0, []) [rT]).map _) = _
    simp only [foldO]
    rw [h]
    rfl
  rw [encF, h2]
theorem valT {c : Cfg} (h0 : LensOk gT c) (h1 : ∀ i, i < c.sel.length → c.sel.getD i 0 ≠ 0 → (i = 6 ∧ c.sel.getD 6 0 ≤ 8) ∨ (i = 10 ∧ c.sel.getD 10 0 ≤ 3) ∨ (i = 14 ∧ c.sel.getD 14 0 ≤ 4)) (h3 : ∀ i, i < c.sel.length → 0 ≤ c.sel.getD i 0) (h2 : ∀ t, t < gT.kind.length → TileAt gT c t) : validE gT c = 0 ∧ SelsOk gT c := by
  have hs : ∀ i, i < c.sel.length → SelAt gT c i := fun i hi h => by
    have h4 := h3 i hi
    rcases h1 i hi h with ⟨rfl, h5⟩ | ⟨rfl, h5⟩ | ⟨rfl, h5⟩
    · rw [show ((6 : Nat) : Int) = 6 from rfl, dT6]; exact ⟨by omega, h5⟩
    · rw [show ((10 : Nat) : Int) = 10 from rfl, dT10]; exact ⟨by omega, h5⟩
    · rw [show ((14 : Nat) : Int) = 14 from rfl, dT14]; exact ⟨by omega, h5⟩
  exact ⟨validE_yes h0 hs h2, h0.1, hs⟩
theorem vcT : validE gT cT = 0 ∧ SelsOk gT cT := valT (by decide +kernel) (by decide) (by decide) (by decide)
theorem vkT : validE gT kT = 0 ∧ SelsOk gT kT := valT (by decide +kernel) (by decide) (by decide) (by decide)
theorem v0T : validE gT cfg0 = 310 := validE_len (by decide +kernel)
theorem sT10 : sourceF gT cT 10 = (0, 0) := by
  rw [sourceF, if_pos (by decide)]
  show sourceS gT cT (16 + 1 + 1 + 1) [] 10 = _
  rw [sourceS, dT10, if_neg (by decide), if_neg (by decide), if_neg (by decide)]
  show sourceS gT cT (16 + 1 + 1) [10] 6 = _
  rw [sourceS, dT6, if_neg (by decide), if_neg (by decide), if_neg (by decide)]
  show sourceS gT cT (16 + 1) [10, 6] 0 = _
  rw [sourceS, dT0, if_neg (by decide), if_pos rfl]
theorem sT11 : sourceF gT cT 11 = (0, 4) := by
  rw [sourceF, if_pos (by decide)]
  show sourceS gT cT (18 + 1) [] 11 = _
  rw [sourceS, dT11, if_neg (by decide), if_neg (by decide), if_pos (by decide)]
theorem sK10 : sourceF gT kT 10 = (0, 50) := by
  rw [sourceF, if_pos (by decide)]
  show sourceS gT kT (15 + 1 + 1 + 1 + 1) [] 10 = _
  rw [sourceS, dT10, if_neg (by decide), if_neg (by decide), if_neg (by decide)]
  show sourceS gT kT (15 + 1 + 1 + 1) [10] 6 = _
  rw [sourceS, dT6, if_neg (by decide), if_neg (by decide), if_neg (by decide)]
  show sourceS gT kT (15 + 1 + 1) [10, 6] 14 = _
  rw [sourceS, dT14, if_neg (by decide), if_neg (by decide), if_neg (by decide)]
  show sourceS gT kT (15 + 1) [10, 6, 14] 6 = _
  rw [sourceS, if_pos (by decide)]
theorem dfT : differF kT cT = ([6, 14], []) := by
  rw [differF, show tilesF kT cT = [] by decide]
  have : unlikeF kT.sel cT.sel = [6, 14] := by decide
  rw [this, show sortF [] = [] from List.mergeSort_nil]; rfl
set_option maxRecDepth 20000 in
set_option maxHeartbeats 4000000 in
theorem examples_ok : FnEq Try.prog 9 [] (.bool true) := by
  have hE := encoded_ok pT gT gT_ok lT (by decide) (by decide) (by decide)
  rw [encT] at hE
  have sm : CfgSm cT := ⟨by decide, by decide, by decide, by decide⟩
  have smk : CfgSm kT := ⟨by decide, by decide, by decide, by decide⟩
  have hV := rvalid_ok gT gT_ok cT sm
  have hV2 := valid_ok gT gT_ok cT sm
  have hV3 : FnEq Try.prog 18 [.agg (gridC false gT), .agg [.sl false 1 (ints kT.sel), .sl false 1 (ints cT.mode), .sl false 1 (ints cT.tab), .sl false 1 (ints cT.ram)]] (.int (validE gT kT)) := valid_ok gT gT_ok kT smk
  have hV4 : FnEq Try.prog 18 [.agg (gridC false gT), .agg [.sl false 1 [], .sl false 1 [], .sl false 1 [], .sl false 1 []]] (.int (validE gT cfg0)) := valid_ok gT gT_ok cfg0 ⟨by decide, by decide, by decide, by decide⟩
  have hU := used_ok gT cT sm.sel
  have hI := ints_ok (usedF cT.sel) [6, 10] (by decide) (by decide)
  have hI2 := ints_ok [6, 14] [6, 14] (by decide) (by decide)
  have h10 := lsource_ok gT gT_ok cT vcT.2 10
  have h11 := lsource_ok gT gT_ok cT vcT.2 11
  have hk : FnEq Try.prog 23 [.agg (gridC false gT), .agg [.sl false 1 (ints kT.sel), .sl false 1 (ints cT.mode), .sl false 1 (ints cT.tab), .sl false 1 (ints cT.ram)], .int 10] (.agg [.int (sourceF gT kT 10).1, .int (sourceF gT kT 10).2]) := lsource_ok gT gT_ok kT vkT.2 10
  have hd : FnEq Try.prog 28 [.agg [.sl false 1 (ints kT.sel), .sl false 1 (ints cT.mode), .sl false 1 (ints cT.tab), .sl false 1 (ints cT.ram)], .agg (cfgC false cT)] (.agg [.sl true 1 (ints (differF kT cT).1), .sl true 1 (ints (differF kT cT).2)]) := ldiffer_ok kT cT smk sm
  have hB := blank_ok gT gT_ok
  have hRB := rblank_ok gT gT_ok
  have hS := same_ok (blankF gT) (blankF gT) (by rw [blT]; exact ⟨by decide, by decide, by decide, by decide⟩) (by rw [blT]; exact ⟨by decide, by decide, by decide, by decide⟩)
  rw [vcT.1] at hV hV2
  rw [vkT.1] at hV3
  rw [v0T] at hV4
  rw [sT10] at h10
  rw [sT11] at h11
  rw [sK10] at hk
  rw [dfT] at hd
  rw [show usedF cT.sel = [6, 10] by decide] at hU hI
  rw [decide_eq_true (by rfl)] at hI hI2 hS
  refine FnEq.of_awp Try.func9 ok9 (by show 0 ≤ _; decide) (by simp only [push_cast, reduceIte, Nat.reduceEqDiff, Nat.reduceAdd, Nat.reduceSub, Nat.reduceMul, Nat.reduceBEq, Nat.reduceLT, Nat.reduceLeDiff, reduceCtorEq, Int.reduceToNat, Int.reduceNeg] <;> first | exact fun _ _ => trivial | simp) ?_
  simp only [ac9, rv9, push_cast, reduceIte, Nat.reduceEqDiff, Nat.reduceAdd, Nat.reduceSub, Nat.reduceMul, Nat.reduceBEq, Nat.reduceLT, Nat.reduceLeDiff, reduceCtorEq, Int.reduceToNat, Int.reduceNeg]
  refine cal_eq (show FnEq Try.prog 33 [] (.agg (gridC true gT)) from two_ok) ?_
  simp only [push_cast, reduceIte, Nat.reduceEqDiff, Nat.reduceAdd, Nat.reduceSub, Nat.reduceMul, Nat.reduceBEq, Nat.reduceLT, Nat.reduceLeDiff, reduceCtorEq, Int.reduceToNat, Int.reduceNeg]
  refine ⟨⟨by decide, by decide, by decide⟩, ⟨by decide, by decide, by decide⟩, ?_⟩
  rw [show (((List.replicate 3 0).set 0 0).set 1 6).set 2 10 = [(0 : Int), 6, 10] from rfl, show (((List.replicate 3 0).set 0 (-1)).set 1 0).set 2 1 = [(-1 : Int), 0, 1] from rfl]
  refine cal_sub hE ⟨Sub.aggL ⟨.refl _, .refl _, .refl _, .refl _, .slp _ _ _ _ (fun h => by cases h), .nil _ _, .nil _ _, .nil _ _, .nil _ _, .nil _ _,
    Sub.slR 3 (fun h => h) ⟨⟨.refl _, .slp _ _ _ _ (fun h => by cases h), .slp _ _ _ _ (fun h => by cases h), trivial⟩, trivial⟩, trivial⟩, trivial⟩ ?_
  simp only [push_cast, reduceIte, Nat.reduceEqDiff, Nat.reduceAdd, Nat.reduceSub, Nat.reduceMul, Nat.reduceBEq, Nat.reduceLT, Nat.reduceLeDiff, reduceCtorEq, Int.reduceToNat, Int.reduceNeg]
  refine grd_decf rfl (fun e => absurd e (by decide)) fun _ => ?_
  simp only [push_cast, reduceIte, Nat.reduceEqDiff, Nat.reduceAdd, Nat.reduceSub, Nat.reduceMul, Nat.reduceBEq, Nat.reduceLT, Nat.reduceLeDiff, reduceCtorEq, Int.reduceToNat, Int.reduceNeg]
  refine cal_sub hV (by simp only [push_cast, reduceIte, Nat.reduceEqDiff, Nat.reduceAdd, Nat.reduceSub, Nat.reduceMul, Nat.reduceBEq, Nat.reduceLT, Nat.reduceLeDiff, reduceCtorEq, Int.reduceToNat, Int.reduceNeg]) ?_
  simp only [push_cast, reduceIte, Nat.reduceEqDiff, Nat.reduceAdd, Nat.reduceSub, Nat.reduceMul, Nat.reduceBEq, Nat.reduceLT, Nat.reduceLeDiff, reduceCtorEq, Int.reduceToNat, Int.reduceNeg]
  refine grd_decf rfl (fun e => absurd e (by decide)) fun _ => ?_
  simp only [push_cast, reduceIte, Nat.reduceEqDiff, Nat.reduceAdd, Nat.reduceSub, Nat.reduceMul, Nat.reduceBEq, Nat.reduceLT, Nat.reduceLeDiff, reduceCtorEq, Int.reduceToNat, Int.reduceNeg]
  refine grd_decf rfl (fun e => absurd e (by decide)) fun _ => ?_
  simp only [push_cast, reduceIte, Nat.reduceEqDiff, Nat.reduceAdd, Nat.reduceSub, Nat.reduceMul, Nat.reduceBEq, Nat.reduceLT, Nat.reduceLeDiff, reduceCtorEq, Int.reduceToNat, Int.reduceNeg]
  refine ⟨by decide, by decide, ?_⟩
  refine grd_decf rfl (fun e => absurd e (by decide)) fun _ => ?_
  simp only [push_cast, reduceIte, Nat.reduceEqDiff, Nat.reduceAdd, Nat.reduceSub, Nat.reduceMul, Nat.reduceBEq, Nat.reduceLT, Nat.reduceLeDiff, reduceCtorEq, Int.reduceToNat, Int.reduceNeg]
  refine ⟨by decide, by decide, ?_⟩
  refine grd_decf rfl (fun e => absurd e (by decide)) fun _ => ?_
  simp only [push_cast, reduceIte, Nat.reduceEqDiff, Nat.reduceAdd, Nat.reduceSub, Nat.reduceMul, Nat.reduceBEq, Nat.reduceLT, Nat.reduceLeDiff, reduceCtorEq, Int.reduceToNat, Int.reduceNeg]
  refine cal_sub hV2 (by simp only [push_cast, reduceIte, Nat.reduceEqDiff, Nat.reduceAdd, Nat.reduceSub, Nat.reduceMul, Nat.reduceBEq, Nat.reduceLT, Nat.reduceLeDiff, reduceCtorEq, Int.reduceToNat, Int.reduceNeg]) ?_
  simp only [push_cast, reduceIte, Nat.reduceEqDiff, Nat.reduceAdd, Nat.reduceSub, Nat.reduceMul, Nat.reduceBEq, Nat.reduceLT, Nat.reduceLeDiff, reduceCtorEq, Int.reduceToNat, Int.reduceNeg]
  refine grd_decf rfl (fun e => absurd e (by decide)) fun _ => ?_
  simp only [push_cast, reduceIte, Nat.reduceEqDiff, Nat.reduceAdd, Nat.reduceSub, Nat.reduceMul, Nat.reduceBEq, Nat.reduceLT, Nat.reduceLeDiff, reduceCtorEq, Int.reduceToNat, Int.reduceNeg]
  refine cal_sub hU (by simp only [push_cast, reduceIte, Nat.reduceEqDiff, Nat.reduceAdd, Nat.reduceSub, Nat.reduceMul, Nat.reduceBEq, Nat.reduceLT, Nat.reduceLeDiff, reduceCtorEq, Int.reduceToNat, Int.reduceNeg]) ?_
  simp only [push_cast, reduceIte, Nat.reduceEqDiff, Nat.reduceAdd, Nat.reduceSub, Nat.reduceMul, Nat.reduceBEq, Nat.reduceLT, Nat.reduceLeDiff, reduceCtorEq, Int.reduceToNat, Int.reduceNeg]
  refine ⟨⟨by decide, by decide⟩, ?_⟩
  rw [show ((List.replicate 2 0).set 0 6).set 1 10 = [(6 : Int), 10] from rfl]
  refine cal_sub hI (by simp only [push_cast, reduceIte, Nat.reduceEqDiff, Nat.reduceAdd, Nat.reduceSub, Nat.reduceMul, Nat.reduceBEq, Nat.reduceLT, Nat.reduceLeDiff, reduceCtorEq, Int.reduceToNat, Int.reduceNeg]) ?_
  simp only [push_cast, reduceIte, Nat.reduceEqDiff, Nat.reduceAdd, Nat.reduceSub, Nat.reduceMul, Nat.reduceBEq, Nat.reduceLT, Nat.reduceLeDiff, reduceCtorEq, Int.reduceToNat, Int.reduceNeg]
  refine cal_sub h10 (by simp only [push_cast, reduceIte, Nat.reduceEqDiff, Nat.reduceAdd, Nat.reduceSub, Nat.reduceMul, Nat.reduceBEq, Nat.reduceLT, Nat.reduceLeDiff, reduceCtorEq, Int.reduceToNat, Int.reduceNeg]) ?_
  simp only [push_cast, reduceIte, Nat.reduceEqDiff, Nat.reduceAdd, Nat.reduceSub, Nat.reduceMul, Nat.reduceBEq, Nat.reduceLT, Nat.reduceLeDiff, reduceCtorEq, Int.reduceToNat, Int.reduceNeg]
  refine cal_sub h11 (by simp only [push_cast, reduceIte, Nat.reduceEqDiff, Nat.reduceAdd, Nat.reduceSub, Nat.reduceMul, Nat.reduceBEq, Nat.reduceLT, Nat.reduceLeDiff, reduceCtorEq, Int.reduceToNat, Int.reduceNeg]) ?_
  simp only [push_cast, reduceIte, Nat.reduceEqDiff, Nat.reduceAdd, Nat.reduceSub, Nat.reduceMul, Nat.reduceBEq, Nat.reduceLT, Nat.reduceLeDiff, reduceCtorEq, Int.reduceToNat, Int.reduceNeg]
  refine cond_dec (fun e => absurd e (by decide)) fun _ => ?_
  refine ⟨⟨by decide, by decide⟩, ⟨by decide, by decide⟩, by decide, ⟨by decide, by decide⟩, by decide, ?_⟩
  simp only [List.replicate, List.nil_append, List.length_nil, Nat.zero_add]
  rw [show List.take cT.sel.length ((cT.sel.set 6 6).set 14 1) = kT.sel from rfl, show (cT.sel.set 6 6).set 14 1 = kT.sel from rfl]
  refine cal_sub hd (by simp only [push_cast, reduceIte, Nat.reduceEqDiff, Nat.reduceAdd, Nat.reduceSub, Nat.reduceMul, Nat.reduceBEq, Nat.reduceLT, Nat.reduceLeDiff, reduceCtorEq, Int.reduceToNat, Int.reduceNeg]) ?_
  simp only [push_cast, reduceIte, Nat.reduceEqDiff, Nat.reduceAdd, Nat.reduceSub, Nat.reduceMul, Nat.reduceBEq, Nat.reduceLT, Nat.reduceLeDiff, reduceCtorEq, Int.reduceToNat, Int.reduceNeg]
  rw [show List.take cT.sel.length kT.sel = kT.sel from rfl]
  refine cal_sub hk (by simp only [push_cast, reduceIte, Nat.reduceEqDiff, Nat.reduceAdd, Nat.reduceSub, Nat.reduceMul, Nat.reduceBEq, Nat.reduceLT, Nat.reduceLeDiff, reduceCtorEq, Int.reduceToNat, Int.reduceNeg]) ?_
  simp only [push_cast, reduceIte, Nat.reduceEqDiff, Nat.reduceAdd, Nat.reduceSub, Nat.reduceMul, Nat.reduceBEq, Nat.reduceLT, Nat.reduceLeDiff, reduceCtorEq, Int.reduceToNat, Int.reduceNeg]
  rw [show List.take cT.sel.length kT.sel = kT.sel from rfl]
  refine cal_sub hV3 (by simp only [push_cast, reduceIte, Nat.reduceEqDiff, Nat.reduceAdd, Nat.reduceSub, Nat.reduceMul, Nat.reduceBEq, Nat.reduceLT, Nat.reduceLeDiff, reduceCtorEq, Int.reduceToNat, Int.reduceNeg]) ?_
  simp only [push_cast, reduceIte, Nat.reduceEqDiff, Nat.reduceAdd, Nat.reduceSub, Nat.reduceMul, Nat.reduceBEq, Nat.reduceLT, Nat.reduceLeDiff, reduceCtorEq, Int.reduceToNat, Int.reduceNeg]
  refine ⟨⟨by decide, by decide⟩, ?_⟩
  rw [show ((List.replicate 2 0).set 0 6).set 1 14 = [(6 : Int), 14] from rfl]
  refine cal_sub hI2 (by simp only [push_cast, reduceIte, Nat.reduceEqDiff, Nat.reduceAdd, Nat.reduceSub, Nat.reduceMul, Nat.reduceBEq, Nat.reduceLT, Nat.reduceLeDiff, reduceCtorEq, Int.reduceToNat, Int.reduceNeg]) ?_
  simp only [push_cast, reduceIte, Nat.reduceEqDiff, Nat.reduceAdd, Nat.reduceSub, Nat.reduceMul, Nat.reduceBEq, Nat.reduceLT, Nat.reduceLeDiff, reduceCtorEq, Int.reduceToNat, Int.reduceNeg]
  refine dcal_sub hB (by simp only [push_cast, reduceIte, Nat.reduceEqDiff, Nat.reduceAdd, Nat.reduceSub, Nat.reduceMul, Nat.reduceBEq, Nat.reduceLT, Nat.reduceLeDiff, reduceCtorEq, Int.reduceToNat, Int.reduceNeg]) rfl ?_
  simp only [push_cast, reduceIte, Nat.reduceEqDiff, Nat.reduceAdd, Nat.reduceSub, Nat.reduceMul, Nat.reduceBEq, Nat.reduceLT, Nat.reduceLeDiff, reduceCtorEq, Int.reduceToNat, Int.reduceNeg]
  refine cal_sub hRB (by simp only [push_cast, reduceIte, Nat.reduceEqDiff, Nat.reduceAdd, Nat.reduceSub, Nat.reduceMul, Nat.reduceBEq, Nat.reduceLT, Nat.reduceLeDiff, reduceCtorEq, Int.reduceToNat, Int.reduceNeg]) ?_
  simp only [push_cast, reduceIte, Nat.reduceEqDiff, Nat.reduceAdd, Nat.reduceSub, Nat.reduceMul, Nat.reduceBEq, Nat.reduceLT, Nat.reduceLeDiff, reduceCtorEq, Int.reduceToNat, Int.reduceNeg]
  refine cal_sub hS (by simp only [push_cast, reduceIte, Nat.reduceEqDiff, Nat.reduceAdd, Nat.reduceSub, Nat.reduceMul, Nat.reduceBEq, Nat.reduceLT, Nat.reduceLeDiff, reduceCtorEq, Int.reduceToNat, Int.reduceNeg]) ?_
  simp only [push_cast, reduceIte, Nat.reduceEqDiff, Nat.reduceAdd, Nat.reduceSub, Nat.reduceMul, Nat.reduceBEq, Nat.reduceLT, Nat.reduceLeDiff, reduceCtorEq, Int.reduceToNat, Int.reduceNeg]
  refine cal_sub hV4 ⟨Sub.aggL ⟨.refl _, .refl _, .refl _, .refl _, .slp _ _ _ _ (fun h => by cases h), trivial⟩, Sub.aggL ⟨.nil _ _, .nil _ _, .nil _ _, .nil _ _, trivial⟩, trivial⟩ ?_
  simp only [push_cast, reduceIte, Nat.reduceEqDiff, Nat.reduceAdd, Nat.reduceSub, Nat.reduceMul, Nat.reduceBEq, Nat.reduceLT, Nat.reduceLeDiff, reduceCtorEq, Int.reduceToNat, Int.reduceNeg]
end Go.Proofs.Ytledbjkolidhkaa
namespace Go.Proofs.Ytledbjkolidhkaa
open Go Go.Vc Txt
theorem map_range_succ {α : Type} (f : Nat → α) (k : Nat) : (List.range (k + 1)).map f = (List.range k).map f ++ [f k] := by simp [List.range_succ]
def kindF (l : List Int) (i : Nat) : Int := if i < l.length ∧ l.getD i default % 8 < 2 then l.getD i default % 8 else 2
def kindsF (n : Nat) (l : List Int) : List Int := (List.range n).map (kindF l)
theorem kinds_ok (n : Nat) (hn : (n : Int) ≤ 1000000) (l : List Int) (hl : (l.length : Int) ≤ 9223372036854775807) (hb : ∀ x ∈ l, 0 ≤ x ∧ x ≤ 255) :
    FnEq Try.prog 49 [.int n, .sl false 1 (bytes8 l)] (.sl true 1 (ints (kindsF n l))) := by
  refine FnEq.of_awp Try.func49 ok49 (by show 2 ≤ _; decide) (by simp only [push_cast, reduceIte, Nat.reduceEqDiff, Nat.reduceAdd, Nat.reduceSub, Nat.reduceMul, Nat.reduceBEq, Nat.reduceLT, Nat.reduceLeDiff, reduceCtorEq, Int.reduceToNat, Int.reduceNeg] <;> first | exact fun _ _ => trivial | simp) ?_
  simp only [ac49, rv49, push_cast, reduceIte, Nat.reduceEqDiff, Nat.reduceAdd, Nat.reduceSub, Nat.reduceMul, Nat.reduceBEq, Nat.reduceLT, Nat.reduceLeDiff, reduceCtorEq, Int.reduceToNat, Int.reduceNeg]
  refine loop_of (fun m st => ∃ k : Nat, k ≤ n ∧ m = n - k ∧
    st = ⟨[(0, .int n), (1, .sl false 1 (bytes8 l)), (5, .view 8 0 k), (6, .int k)], [], [(8, ⟨1, 3, ints ((List.range k).map (kindF l))⟩)], []⟩) n ?_ ?_
  · refine ⟨0, by omega, by omega, ?_⟩
    simp only [push_cast, reduceIte, Nat.reduceEqDiff, Nat.reduceAdd, Nat.reduceSub, Nat.reduceMul, Nat.reduceBEq, Nat.reduceLT, Nat.reduceLeDiff, reduceCtorEq, Int.reduceToNat, Int.reduceNeg]
    rfl
  · rintro m st ⟨k, hk, rfl, rfl⟩
    simp only [push_cast, reduceIte, Nat.reduceEqDiff, Nat.reduceAdd, Nat.reduceSub, Nat.reduceMul, Nat.reduceBEq, Nat.reduceLT, Nat.reduceLeDiff, reduceCtorEq, Int.reduceToNat, Int.reduceNeg]
    have hlen : ((List.range k).map (kindF l)).length = k := by simp
    have hsucc := map_range_succ (kindF l) k
    refine cond_dec (fun h => ?_) fun h => ?_
    · refine cut_of ⟨[(0, .int n), (1, .sl false 1 (bytes8 l)), (5, .view 8 0 k), (6, .int k), (7, .int 2), (25, .bool (decide (k < l.length ∧ l.getD k default % 8 < 2)))], [], [(8, ⟨1, 3, ints ((List.range k).map (kindF l))⟩)], []⟩ ?_ ?_
      · refine grd_dec rfl (fun h1 => ?_) fun h1 => ?_ <;> simp only [push_cast, reduceIte, Nat.reduceEqDiff, Nat.reduceAdd, Nat.reduceSub, Nat.reduceMul, Nat.reduceBEq, Nat.reduceLT, Nat.reduceLeDiff, reduceCtorEq, Int.reduceToNat, Int.reduceNeg]
        · have h1' : k < l.length := by omega
          have hx := hb _ (show l.getD k default ∈ l by simp [List.getD_eq_getElem?_getD, h1'])
          refine ⟨⟨by omega, by omega⟩, h1', ⟨by omega, by omega, by omega⟩, ?_⟩
          rw [show decide (k < l.length ∧ l.getD k default % 8 < 2) = decide (l.getD k default % 8 < 2) from by rw [decide_eq_decide]; omega]
        · have h1' : ¬ k < l.length := by omega
          simp [h1']
      simp only [push_cast, reduceIte, Nat.reduceEqDiff, Nat.reduceAdd, Nat.reduceSub, Nat.reduceMul, Nat.reduceBEq, Nat.reduceLT, Nat.reduceLeDiff, reduceCtorEq, Int.reduceToNat, Int.reduceNeg]
      refine cond_dec (fun h1 => ?_) fun h1 => ?_
      · have hx := hb _ (show l.getD k default ∈ l by simp [List.getD_eq_getElem?_getD, h1.1])
        have hf : kindF l k = l.getD k default % 8 := by rw [kindF, if_pos h1]
        rw [hf] at hsucc
        refine ⟨⟨by omega, by omega⟩, h1.1, ⟨by omega, by omega, by omega⟩, ⟨by omega, by omega⟩, by simp, ⟨hlen.symm, by omega, by omega⟩, ⟨by omega, by omega⟩, _, ?_, k + 1, by omega, rfl, ?_⟩
        · omega
        · rw [hsucc]; simp
      · have hf : kindF l k = 2 := by rw [kindF, if_neg h1]
        rw [hf] at hsucc
        refine ⟨by simp, ⟨hlen.symm, by omega, by omega⟩, ⟨by omega, by omega⟩, _, ?_, k + 1, by omega, rfl, ?_⟩
        · omega
        · rw [hsucc]; simp
    · have hkk : k = n := by omega
      subst hkk
      rw [List.take_of_length_le (by omega)]
      exact ⟨fun _ _ => trivial, .refl _⟩
structure RawG where
  w : Int
  h : Int
  tracks : Int
  pads : Int
  kind : List Int
def rawGC (q : Bool) (x : RawG) : List PV := [.sc (.int .u8 x.w), .sc (.int .u8 x.h), .sc (.int .u8 x.tracks), .sc (.int .u8 x.pads), .sl q 1 (bytes8 x.kind)]
@[push_cast] theorem rawGC_eq (q : Bool) (x : RawG) : rawGC q x = [.sc (.int .u8 x.w), .sc (.int .u8 x.h), .sc (.int .u8 x.tracks), .sc (.int .u8 x.pads), .sl q 1 (bytes8 x.kind)] := rfl
structure RawG.Ok (x : RawG) : Prop where
  w : 0 ≤ x.w ∧ x.w ≤ 255
  h : 0 ≤ x.h ∧ x.h ≤ 255
  tracks : 0 ≤ x.tracks ∧ x.tracks ≤ 255
  pads : 0 ≤ x.pads ∧ x.pads ≤ 255
  len : (x.kind.length : Int) ≤ 9223372036854775807
  kind : ∀ k ∈ x.kind, 0 ≤ k ∧ k ≤ 255
def gridF (x : RawG) : Grid := ⟨2 + x.w % 4, 2 + x.h % 4, 2 + x.tracks % 3, 24, kindsF ((2 + x.w % 4) * (2 + x.h % 4)).toNat x.kind⟩
theorem made_ok (x : RawG) (hx : x.Ok) : FnEq Try.prog 30 [.agg (rawGC false x)] (.agg (gridC true (gridF x))) := by
  refine FnEq.of_awp Try.func30 ok30 (by show 1 ≤ _; decide) (by simp only [push_cast, reduceIte, Nat.reduceEqDiff, Nat.reduceAdd, Nat.reduceSub, Nat.reduceMul, Nat.reduceBEq, Nat.reduceLT, Nat.reduceLeDiff, reduceCtorEq, Int.reduceToNat, Int.reduceNeg] <;> first | exact fun _ _ => trivial | simp) ?_
  simp only [ac30, rv30, push_cast, reduceIte, Nat.reduceEqDiff, Nat.reduceAdd, Nat.reduceSub, Nat.reduceMul, Nat.reduceBEq, Nat.reduceLT, Nat.reduceLeDiff, reduceCtorEq, Int.reduceToNat, Int.reduceNeg]
  obtain ⟨h1, h2, h3, h4, h5, h6⟩ := hx
  have hm : 0 ≤ (2 + x.w % 4) * (2 + x.h % 4) ∧ (2 + x.w % 4) * (2 + x.h % 4) ≤ 5 * 5 := ⟨Int.mul_nonneg (by omega) (by omega), Int.mul_le_mul (by omega) (by omega) (by omega) (by omega)⟩
  obtain ⟨n, hn⟩ : ∃ n : Nat, (2 + x.w % 4) * (2 + x.h % 4) = n := ⟨((2 + x.w % 4) * (2 + x.h % 4)).toNat, by omega⟩
  have hg : gridF x = ⟨2 + x.w % 4, 2 + x.h % 4, 2 + x.tracks % 3, 24, kindsF n x.kind⟩ := by unfold gridF; rw [hn, Int.toNat_natCast]
  rw [hn] at hm ⊢
  rw [hg]
  refine ⟨⟨by omega, by omega, by omega⟩, ⟨by omega, by omega⟩, ⟨by omega, by omega⟩, ⟨by omega, by omega, by omega⟩, ⟨by omega, by omega⟩, ⟨by omega, by omega⟩, ⟨by omega, by omega, by omega⟩, ⟨by omega, by omega⟩, ⟨by omega, by omega⟩, ⟨by omega, by omega⟩, ?_⟩
  refine cal_sub (kinds_ok n (by omega) x.kind h5 h6) (by simp only [push_cast, reduceIte, Nat.reduceEqDiff, Nat.reduceAdd, Nat.reduceSub, Nat.reduceMul, Nat.reduceBEq, Nat.reduceLT, Nat.reduceLeDiff, reduceCtorEq, Int.reduceToNat, Int.reduceNeg]) ?_
  simp only [push_cast, reduceIte, Nat.reduceEqDiff, Nat.reduceAdd, Nat.reduceSub, Nat.reduceMul, Nat.reduceBEq, Nat.reduceLT, Nat.reduceLeDiff, reduceCtorEq, Int.reduceToNat, Int.reduceNeg]
  exact fun _ _ => trivial
theorem gridF_ok (x : RawG) : GOk (gridF x) ∧ (gridF x).pads = 24 := by
  have hm : 0 ≤ (2 + x.w % 4) * (2 + x.h % 4) := Int.mul_nonneg (by omega) (by omega)
  refine ⟨⟨?_, ?_, ?_, ?_, ?_⟩, rfl⟩ <;> simp only [gridF, kindsF, List.length_map, List.length_range] <;> omega
def CfgLn (g : Grid) (c : Cfg) : Prop := c.sel.length = (countF g).toNat ∧ c.mode.length = g.kind.length ∧ c.tab.length = g.kind.length ∧ c.ram.length = g.kind.length
end Go.Proofs.Ytledbjkolidhkaa
namespace Go.Proofs.Ytledbjkolidhkaa
open Go Go.Vc Txt
theorem getD_set (l : List Int) (i j : Nat) (v : Int) : (l.set i v).getD j 0 = if i = j ∧ i < l.length then v else l.getD j 0 := by
  rw [List.getD_eq_getElem?_getD, List.getElem?_set, List.getD_eq_getElem?_getD]
  by_cases h : i = j
  · subst h
    by_cases h2 : i < l.length <;> simp [h2]
  · simp [h]
end Go.Proofs.Ytledbjkolidhkaa
namespace Go.Proofs.Ytledbjkolidhkaa
open Go Go.Vc Txt
structure RawG.By (x : RawG) : Prop where
  w : 0 ≤ x.w ∧ x.w ≤ 255
  h : 0 ≤ x.h ∧ x.h ≤ 255
  tracks : 0 ≤ x.tracks ∧ x.tracks ≤ 255
  pads : 0 ≤ x.pads ∧ x.pads ≤ 255
  len : (x.kind.length : Int) ≤ 9223372036854775807
  kind : ∀ k ∈ x.kind, 0 ≤ k ∧ k ≤ 255
theorem RawG.By.ok {x : RawG} (h : x.By) : x.Ok := ⟨h.w, h.h, h.tracks, h.pads, h.len, h.kind⟩
end Go.Proofs.Ytledbjkolidhkaa
namespace Go.Proofs.Ytledbjkolidhkaa
open Go Go.Vc Txt
def bytesC (l : List Int) : List PV := l.map fun n => .sc (.int .u8 n)
theorem rowV_nil {a : List PV} (h : RowV [] a) : a = [] := List.length_eq_zero_iff.1 h.1
theorem rowV_cons {t : Ty} {ts : List Ty} {a : List PV} (h : RowV (t :: ts) a) : ∃ c r, a = c :: r ∧ CellV t c ∧ RowV ts r := by
  obtain ⟨h1, h2⟩ := h
  cases a with
  | nil => cases h1
  | cons c r => exact ⟨c, r, rfl, h2 0 t c rfl rfl, by simpa using h1, fun j t' c' ht hc => h2 (j + 1) t' c' ht hc⟩
theorem cellV_i {k : IntKind} {c : PV} (h : CellV (.i k) c) : ∃ n : Int, c = .sc (.int k n) ∧ k.min ≤ n ∧ n ≤ k.max := by
  cases h with | i k n h1 h2 => exact ⟨n, rfl, h1, h2⟩
theorem cellV_u8 {c : PV} (h : CellV (.i .u8) c) : ∃ n : Int, c = .sc (.int .u8 n) ∧ 0 ≤ n ∧ n ≤ 255 := by
  obtain ⟨n, h1, h2, h3⟩ := cellV_i h
  exact ⟨n, h1, h2, h3⟩
theorem cellV_sl {es : Nat} {ts : List Ty} {c : PV} (h : CellV (.sl es ts) c) : ∃ rs : List (List PV), c = .sl true es rs ∧ rs.length ≤ maxLen ∧ ∀ r ∈ rs, RowV ts r := by
  cases h with | sl es ts rs h1 h2 h3 => exact ⟨rs, rfl, h1, fun r hr => ⟨h2 r hr, h3 r hr⟩⟩
theorem rows_all {α : Type} {f : α → List PV} {Q : α → Prop} : ∀ {rs : List (List PV)}, (∀ r ∈ rs, ∃ x, r = f x ∧ Q x) → ∃ l : List α, rs = rows f l ∧ ∀ x ∈ l, Q x
  | [], _ => ⟨[], rfl, fun x hx => by cases hx⟩
  | r :: rs, h => by
    obtain ⟨x, rfl, hx⟩ := h r (by simp)
    obtain ⟨l, rfl, hl⟩ := rows_all (f := f) (Q := Q) (rs := rs) fun r hr => h r (by simp [hr])
    refine ⟨x :: l, rfl, fun y hy => ?_⟩
    rcases List.mem_cons.1 hy with rfl | hy
    · exact hx
    · exact hl y hy
theorem cellV_bytes {c : PV} (h : CellV (.sl 1 [.i .u8]) c) : ∃ l : List Int, c = .sl true 1 (bytes8 l) ∧ (l.length : Int) ≤ 9223372036854775807 ∧ ∀ b ∈ l, 0 ≤ b ∧ b ≤ 255 := by
  obtain ⟨rs, rfl, h1, h2⟩ := cellV_sl h
  obtain ⟨l, rfl, hl⟩ := rows_all (f := fun x : Int => [PV.sc (.int .u8 x)]) (Q := fun b => 0 ≤ b ∧ b ≤ 255) (rs := rs) fun r hr => by
    obtain ⟨c, q, rfl, hc, h3⟩ := rowV_cons (h2 r hr)
    obtain ⟨n, rfl, hn⟩ := cellV_u8 hc
    rw [rowV_nil h3]
    exact ⟨n, rfl, hn⟩
  simp only [rows, List.length_map] at h1
  have : maxLen = 9223372036854775807 := rfl
  exact ⟨l, rfl, by omega, hl⟩
theorem rowV_bytes : ∀ {n : Nat} {a : List PV}, RowV (List.replicate n (.i .u8)) a → ∃ l : List Int, a = bytesC l ∧ l.length = n ∧ ∀ b ∈ l, 0 ≤ b ∧ b ≤ 255
  | 0, a, h => ⟨[], by rw [rowV_nil h]; rfl, rfl, fun b hb => by cases hb⟩
  | n + 1, a, h => by
    obtain ⟨c, q, rfl, hc, h3⟩ := rowV_cons h
    obtain ⟨x, rfl, hx⟩ := cellV_u8 hc
    obtain ⟨l, rfl, h1, h2⟩ := rowV_bytes (n := n) h3
    refine ⟨x :: l, rfl, by simp [h1], fun y hy => ?_⟩
    rcases List.mem_cons.1 hy with rfl | hy
    · exact hx
    · exact h2 y hy
end Go.Proofs.Ytledbjkolidhkaa
namespace Go.Proofs.Ytledbjkolidhkaa
open Go Go.Vc Txt
def seenB (L : Nat) (sn : List Int) : List Bool := (List.range L).map fun (i : Nat) => decide ((i : Int) ∈ sn)
theorem seenB_len (L : Nat) (sn : List Int) : (seenB L sn).length = L := by simp [seenB]
theorem seenB_get {L : Nat} {sn : List Int} {x : Int} (hx : 0 ≤ x ∧ x < L) (d : Bool) : (seenB L sn).getD x.toNat d = decide (x ∈ sn) := by
  rw [List.getD_eq_getElem?_getD, seenB, List.getElem?_map, List.getElem?_range (by omega)]
  simp only [Option.map_some, Option.getD_some]
  rw [show ((x.toNat : Nat) : Int) = x by omega]
theorem seenB_set {L : Nat} {sn : List Int} {x : Int} (hx : 0 ≤ x ∧ x < L) : (seenB L sn).set x.toNat true = seenB L (sn ++ [x]) := by
  refine List.ext_getElem? fun i => ?_
  rw [List.getElem?_set]
  by_cases h : i < L
  · by_cases e : x.toNat = i
    · subst e
      simp [seenB, h]
      omega
    · simp [seenB, h, e]
      omega
  · simp [seenB, h]
    omega
theorem seenB_nil (L : Nat) : List.replicate L false = seenB L [] := by
  refine List.ext_getElem? fun i => ?_
  by_cases h : i < L <;> simp [seenB, h]
end Go.Proofs.Ytledbjkolidhkaa
namespace Go.Proofs.Ytledbjkolidhkaa
open Go Go.Vc Txt
def indexF (l : List Int) (n : Int) : Int := if n ∈ l then (l.idxOf n : Nat) else -1
theorem idxOf_at {n : Int} : ∀ {l : List Int} {k : Nat}, k < l.length → l.getD k 0 = n → (∀ i, i < k → l.getD i 0 ≠ n) → l.idxOf n = k
  | x :: l, 0, _, h, _ => by simp at h; simp [h]
  | x :: l, k + 1, hk, h, h2 => by
    have h0 : x ≠ n := by simpa using h2 0 (by omega)
    have := idxOf_at (l := l) (k := k) (by simpa using hk) (by simpa using h) fun i hi => by simpa using h2 (i + 1) (by omega)
    rw [List.idxOf_cons, this, show (x == n) = false from beq_false_of_ne h0]
    rfl
theorem index_ok (l : List Int) (hl : (l.length : Int) ≤ 1000000000) (n : Int) : FnEq Try.prog 38 [.sl false 1 (ints l), .int n] (.int (indexF l n)) := by
  refine FnEq.of_awp Try.func38 ok38 (by show 2 ≤ _; decide) (by simp only [push_cast, reduceIte, Nat.reduceEqDiff, Nat.reduceAdd, Nat.reduceSub, Nat.reduceMul, Nat.reduceBEq, Nat.reduceLT, Nat.reduceLeDiff, reduceCtorEq, Int.reduceToNat, Int.reduceNeg] <;> first | exact fun _ _ => trivial | simp) ?_
  simp only [ac38, rv38, push_cast, reduceIte, Nat.reduceEqDiff, Nat.reduceAdd, Nat.reduceSub, Nat.reduceMul, Nat.reduceBEq, Nat.reduceLT, Nat.reduceLeDiff, reduceCtorEq, Int.reduceToNat, Int.reduceNeg]
  have e0 : ∀ (l : List Int) (j : Nat), l.getD j default = l.getD j 0 := fun _ _ => rfl
  refine loop_of (fun m st => ∃ k : Nat, k ≤ l.length ∧ m = l.length - k ∧ (∀ i, i < k → l.getD i 0 ≠ n) ∧ st = ⟨[(0, .sl false 1 (ints l)), (1, .int n), (5, .int k)], [], [], []⟩) l.length ?_ ?_
  · refine ⟨0, by omega, by omega, fun i hi => by omega, ?_⟩
    simp only [push_cast, reduceIte, Nat.reduceEqDiff, Nat.reduceAdd, Nat.reduceSub, Nat.reduceMul, Nat.reduceBEq, Nat.reduceLT, Nat.reduceLeDiff, reduceCtorEq, Int.reduceToNat, Int.reduceNeg]
  rintro m st ⟨k, hk, rfl, hP, rfl⟩
  simp only [e0, push_cast, reduceIte, Nat.reduceEqDiff, Nat.reduceAdd, Nat.reduceSub, Nat.reduceMul, Nat.reduceBEq, Nat.reduceLT, Nat.reduceLeDiff, reduceCtorEq, Int.reduceToNat, Int.reduceNeg]
  refine cond_dec (fun h => ⟨by omega, by omega, cond_dec (fun h2 => ?_) fun h2 => ?_⟩) fun h => ?_
  · have hm : n ∈ l := h2 ▸ getD_mem (by omega)
    rw [indexF, if_pos hm, idxOf_at (k := k) (by omega) h2 hP]
  · refine ⟨by omega, _, ?_, k + 1, by omega, rfl, ?_, ?_⟩
    · omega
    · intro i hi
      by_cases e : i = k
      · rw [e]; exact h2
      · exact hP i (by omega)
    · simp only [push_cast, reduceIte, Nat.reduceEqDiff, Nat.reduceAdd, Nat.reduceSub, Nat.reduceMul, Nat.reduceBEq, Nat.reduceLT, Nat.reduceLeDiff, reduceCtorEq, Int.reduceToNat, Int.reduceNeg]
  · have hm : n ∉ l := fun hm => by
      obtain ⟨i, hi, e⟩ := List.getElem_of_mem hm
      refine hP i (by omega) ?_
      simp [hi, e]
    rw [indexF, if_neg hm]
def BlockFit (g : Grid) (b : Block) (t : Int) : Prop := ((0 ≤ t ∧ t < g.kind.length) ∧ g.kind.getD t.toNat 0 ≠ 0 ∧ ¬ (g.kind.getD t.toNat 0 = 1 ∧ b.ram ≠ -1)) ∧
  ((0 ≤ b.table ∧ b.table ≤ 65535) ∧ (-1 ≤ b.ram ∧ b.ram ≤ 255) ∧ (-1 ≤ b.reg ∧ b.reg ≤ 255)) ∧ (b.ram = -1 ∨ b.reg = -1)
instance (g : Grid) (b : Block) (t : Int) : Decidable (BlockFit g b t) := by unfold BlockFit; infer_instance
set_option maxHeartbeats 4000000 in
theorem rblock_ok (g : Grid) (hg : GOk g) (b : Block) (t : Int) : FnEq Try.prog 52 [.agg (gridC false g), .agg (blockC false b), .int t] (.bool (decide (BlockFit g b t))) := by
  have hk := hg.kind
  have hw := hg.wh
  refine FnEq.of_awp Try.func52 ok52 (by show 3 ≤ _; decide) (by simp only [push_cast, reduceIte, Nat.reduceEqDiff, Nat.reduceAdd, Nat.reduceSub, Nat.reduceMul, Nat.reduceBEq, Nat.reduceLT, Nat.reduceLeDiff, reduceCtorEq, Int.reduceToNat, Int.reduceNeg] <;> first | exact fun _ _ => trivial | simp) ?_
  simp only [ac52, rv52, push_cast, reduceIte, Nat.reduceEqDiff, Nat.reduceAdd, Nat.reduceSub, Nat.reduceMul, Nat.reduceBEq, Nat.reduceLT, Nat.reduceLeDiff, reduceCtorEq, Int.reduceToNat, Int.reduceNeg]
  have e0 : ∀ (l : List Int) (j : Nat), l.getD j default = l.getD j 0 := fun _ _ => rfl
  obtain ⟨B, hB⟩ : ∃ B, B = decide (¬ ((0 ≤ t ∧ t < g.kind.length) ∧ g.kind.getD t.toNat 0 ≠ 0 ∧ ¬ (g.kind.getD t.toNat 0 = 1 ∧ b.ram ≠ -1))) := ⟨_, rfl⟩
  refine cut_of ⟨[(4, .ptr 4 0), (38, .bool B)], [(3, gridC false g), (4, blockC false b)], [], []⟩ ?_ ?_
  · generalize hx : g.kind.getD t.toNat 0 = x at *
    repeat' (first
      | (refine grd_decf rfl (fun _ => ?_) fun _ => ?_ <;> simp only [e0, hx, ← hk, push_cast, reduceIte, Nat.reduceEqDiff, Nat.reduceAdd, Nat.reduceSub, Nat.reduceMul, Nat.reduceBEq, Nat.reduceLT, Nat.reduceLeDiff, reduceCtorEq, Int.reduceToNat, Int.reduceNeg])
      | (refine grd_dec rfl (fun _ => ?_) fun _ => ?_ <;> simp only [e0, hx, ← hk, push_cast, reduceIte, Nat.reduceEqDiff, Nat.reduceAdd, Nat.reduceSub, Nat.reduceMul, Nat.reduceBEq, Nat.reduceLT, Nat.reduceLeDiff, reduceCtorEq, Int.reduceToNat, Int.reduceNeg])
      | (refine And.intro (by omega) ?_; try simp only [e0, hx, ← hk, push_cast, reduceIte, Nat.reduceEqDiff, Nat.reduceAdd, Nat.reduceSub, Nat.reduceMul, Nat.reduceBEq, Nat.reduceLT, Nat.reduceLeDiff, reduceCtorEq, Int.reduceToNat, Int.reduceNeg]))
    all_goals first
      | (rw [show B = true from by rw [hB]; exact decide_eq_true (by omega)]; done)
      | (rw [show B = false from by rw [hB]; exact decide_eq_false (by omega)]; done)
      | (rw [show B = decide (b.ram ≠ -1) from by rw [hB, decide_eq_decide]; omega]; done)
      | (rw [show B = decide (x = 0) from by rw [hB, decide_eq_decide]; omega]; done)
      | skip
  simp only [e0, push_cast, reduceIte, Nat.reduceEqDiff, Nat.reduceAdd, Nat.reduceSub, Nat.reduceMul, Nat.reduceBEq, Nat.reduceLT, Nat.reduceLeDiff, reduceCtorEq, Int.reduceToNat, Int.reduceNeg]
  refine cond_of (fun e => ?_) fun e => ?_
  · rw [hB, decide_eq_true_eq] at e
    rw [decide_eq_false fun h => e h.1]
  rw [hB, decide_eq_false_iff_not, Classical.not_not] at e
  obtain ⟨C, hC⟩ : ∃ C, C = decide (BlockFit g b t) := ⟨_, rfl⟩
  have hBF : BlockFit g b t ↔ ((0 ≤ b.table ∧ b.table ≤ 65535) ∧ (-1 ≤ b.ram ∧ b.ram ≤ 255) ∧ (-1 ≤ b.reg ∧ b.reg ≤ 255)) ∧ (b.ram = -1 ∨ b.reg = -1) := ⟨fun h => h.2, fun h => ⟨e, h⟩⟩
  rw [← hC]
  clear e hB
  repeat' (first
    | (refine grd_decf rfl (fun _ => ?_) fun _ => ?_ <;> simp only [push_cast, reduceIte, Nat.reduceEqDiff, Nat.reduceAdd, Nat.reduceSub, Nat.reduceMul, Nat.reduceBEq, Nat.reduceLT, Nat.reduceLeDiff, reduceCtorEq, Int.reduceToNat, Int.reduceNeg])
    | (refine grd_dec rfl (fun _ => ?_) fun _ => ?_ <;> simp only [push_cast, reduceIte, Nat.reduceEqDiff, Nat.reduceAdd, Nat.reduceSub, Nat.reduceMul, Nat.reduceBEq, Nat.reduceLT, Nat.reduceLeDiff, reduceCtorEq, Int.reduceToNat, Int.reduceNeg]))
  all_goals first
    | (rw [show C = true from by rw [hC]; exact decide_eq_true (hBF.2 (by omega))]; done)
    | (rw [show C = false from by rw [hC]; exact decide_eq_false fun h => by have := hBF.1 h; omega]; done)
    | (rw [show C = decide (b.reg = -1) from by rw [hC, decide_eq_decide, hBF]; omega]; done)
    | skip
end Go.Proofs.Ytledbjkolidhkaa
namespace Go.Proofs.Ytledbjkolidhkaa
open Go Go.Vc Txt
def SrcK (s : Spot) : Prop := s.kind = 1 ∨ s.kind = 2 ∨ s.kind = 6
instance (s : Spot) : Decidable (SrcK s) := by unfold SrcK; infer_instance
def srcsF (g : Grid) : List Int := idxF (fun k => decide (SrcK (descF g k))) (countF g).toNat
theorem idxF_mem (p : Nat → Bool) (x : Int) : ∀ k, x ∈ idxF p k ↔ ∃ i, i < k ∧ p i = true ∧ x = (i : Int)
  | 0 => by simp [idxF]
  | k + 1 => by
    rw [idxF, List.mem_append, idxF_mem p x k]
    constructor
    · rintro (⟨i, h1, h2, h3⟩ | h)
      · exact ⟨i, by omega, h2, h3⟩
      · split at h
        · rename_i hp
          exact ⟨k, by omega, hp, by simpa using h⟩
        · simp at h
    · rintro ⟨i, h1, h2, h3⟩
      by_cases e : i = k
      · subst e
        rw [if_pos h2]
        exact .inr (by simp [h3])
      · exact .inl ⟨i, by omega, h2, h3⟩
set_option maxHeartbeats 2000000 in
theorem rsources_ok (g : Grid) (hg : GOk g) : FnEq Try.prog 53 [.agg (gridC false g)] (.sl true 1 (ints (srcsF g))) := by
  have h3 := hg.count
  obtain ⟨c, hc⟩ : ∃ c : Nat, countF g = c := ⟨(countF g).toNat, by omega⟩
  have hct : (countF g).toNat = c := by omega
  rw [srcsF, hct]
  refine FnEq.of_awp Try.func53 ok53 (by show 1 ≤ _; decide) (by simp only [push_cast, reduceIte, Nat.reduceEqDiff, Nat.reduceAdd, Nat.reduceSub, Nat.reduceMul, Nat.reduceBEq, Nat.reduceLT, Nat.reduceLeDiff, reduceCtorEq, Int.reduceToNat, Int.reduceNeg] <;> first | exact fun _ _ => trivial | simp) ?_
  simp only [ac53, rv53, push_cast, reduceIte, Nat.reduceEqDiff, Nat.reduceAdd, Nat.reduceSub, Nat.reduceMul, Nat.reduceBEq, Nat.reduceLT, Nat.reduceLeDiff, reduceCtorEq, Int.reduceToNat, Int.reduceNeg]
  refine loop_of (fun m st => ∃ k : Nat, k ≤ c ∧ m = c - k ∧ st = ⟨[(1, .ptr 1 0), (3, .view 6 0 (idxF (fun k => decide (SrcK (descF g k))) k).length), (4, .int k)], [(1, gridC false g)], [(6, ⟨1, 3, ints (idxF (fun k => decide (SrcK (descF g k))) k)⟩)], []⟩) c ?_ ?_
  · refine ⟨0, by omega, by omega, ?_⟩
    simp only [idxF, push_cast, reduceIte, Nat.reduceEqDiff, Nat.reduceAdd, Nat.reduceSub, Nat.reduceMul, Nat.reduceBEq, Nat.reduceLT, Nat.reduceLeDiff, reduceCtorEq, Int.reduceToNat, Int.reduceNeg]
    rfl
  rintro m st ⟨k, hk, rfl, rfl⟩
  have hlen := idxF_len (fun k => decide (SrcK (descF g k))) k
  have hs : idxF (fun k => decide (SrcK (descF g k))) (k + 1) = idxF (fun k => decide (SrcK (descF g k))) k ++ if SrcK (descF g k) then [(k : Int)] else [] := by rw [idxF]; simp only [decide_eq_true_eq]
  generalize hL : idxF (fun k => decide (SrcK (descF g k))) k = L at hlen hs ⊢
  simp only [push_cast, reduceIte, Nat.reduceEqDiff, Nat.reduceAdd, Nat.reduceSub, Nat.reduceMul, Nat.reduceBEq, Nat.reduceLT, Nat.reduceLeDiff, reduceCtorEq, Int.reduceToNat, Int.reduceNeg]
  refine cal_sub (rcount_ok g hg) (by simp only [push_cast, reduceIte, Nat.reduceEqDiff, Nat.reduceAdd, Nat.reduceSub, Nat.reduceMul, Nat.reduceBEq, Nat.reduceLT, Nat.reduceLeDiff, reduceCtorEq, Int.reduceToNat, Int.reduceNeg]) ?_
  rw [hc]
  simp only [push_cast, reduceIte, Nat.reduceEqDiff, Nat.reduceAdd, Nat.reduceSub, Nat.reduceMul, Nat.reduceBEq, Nat.reduceLT, Nat.reduceLeDiff, reduceCtorEq, Int.reduceToNat, Int.reduceNeg]
  refine cond_dec (fun h => ?_) fun h => ?_
  · have hk2 : ¬ ((k : Int) < 0 ∨ countF g ≤ k) := by omega
    have ek : descE g k = (descF g k, 0) := by rw [descE, if_neg hk2]
    have hDk := rdesc_ok g hg k (by omega)
    rw [ek] at hDk
    refine cal_sub hDk (by simp only [push_cast, reduceIte, Nat.reduceEqDiff, Nat.reduceAdd, Nat.reduceSub, Nat.reduceMul, Nat.reduceBEq, Nat.reduceLT, Nat.reduceLeDiff, reduceCtorEq, Int.reduceToNat, Int.reduceNeg]) ?_
    simp only [spottedC, push_cast, reduceIte, Nat.reduceEqDiff, Nat.reduceAdd, Nat.reduceSub, Nat.reduceMul, Nat.reduceBEq, Nat.reduceLT, Nat.reduceLeDiff, reduceCtorEq, Int.reduceToNat, Int.reduceNeg]
    generalize descF g k = s at hs ⊢
    obtain ⟨B, hB⟩ : ∃ B, B = decide (SrcK s) := ⟨_, rfl⟩
    have hSK : SrcK s ↔ s.kind = 1 ∨ s.kind = 2 ∨ s.kind = 6 := Iff.rfl
    refine cut_of ⟨[(1, .ptr 1 0), (3, .view 6 0 L.length), (4, .int k), (27, .bool B)], [(1, gridC false g)], [(6, ⟨1, 3, ints L⟩)], []⟩ ?_ ?_
    · repeat' (first
        | (refine grd_decf rfl (fun _ => ?_) fun _ => ?_ <;> simp only [push_cast, reduceIte, Nat.reduceEqDiff, Nat.reduceAdd, Nat.reduceSub, Nat.reduceMul, Nat.reduceBEq, Nat.reduceLT, Nat.reduceLeDiff, reduceCtorEq, Int.reduceToNat, Int.reduceNeg])
        | (refine grd_dec rfl (fun _ => ?_) fun _ => ?_ <;> simp only [push_cast, reduceIte, Nat.reduceEqDiff, Nat.reduceAdd, Nat.reduceSub, Nat.reduceMul, Nat.reduceBEq, Nat.reduceLT, Nat.reduceLeDiff, reduceCtorEq, Int.reduceToNat, Int.reduceNeg]))
      all_goals first
        | (rw [show B = true from by rw [hB]; exact decide_eq_true (hSK.2 (by omega))]; done)
        | (rw [show B = decide (s.kind = 6) from by rw [hB, decide_eq_decide, hSK]; omega]; done)
    simp only [push_cast, reduceIte, Nat.reduceEqDiff, Nat.reduceAdd, Nat.reduceSub, Nat.reduceMul, Nat.reduceBEq, Nat.reduceLT, Nat.reduceLeDiff, reduceCtorEq, Int.reduceToNat, Int.reduceNeg]
    refine cond_of (fun e => ?_) fun e => ?_
    · rw [hB, decide_eq_true_eq] at e
      rw [if_pos e] at hs
      refine ⟨by simp, by omega, by omega, _, ?_, k + 1, by omega, rfl, ?_⟩
      · omega
      · rw [hs]
        simp
    · rw [hB, decide_eq_false_iff_not] at e
      rw [if_neg e, List.append_nil] at hs
      refine ⟨by omega, _, ?_, k + 1, by omega, rfl, ?_⟩
      · omega
      · rw [hs]
        simp
  · rw [show c = k by omega, hL]
    exact ⟨fun _ _ => trivial, .refl _⟩
def drvnN (g : Grid) (s : Spot) (k : Nat) : List Int := idxF (fun i => decide (CanD g s (descF g i))) k
def drvnF (g : Grid) (n : Int) : List Int := if (descE g n).2 = 0 then drvnN g (descE g n).1 (countF g).toNat else []
set_option maxHeartbeats 2000000 in
theorem driven_ok (g : Grid) (hg : GOk g) (n : Int) (hn : 0 ≤ n ∧ n < countF g) : FnEq Try.prog 54 [.agg (gridC false g), .int n] (.sl true 1 (ints (drvnF g n))) := by
  have h3 := hg.count
  have hD := rdesc_ok g hg n (by omega)
  obtain ⟨c, hc⟩ : ∃ c : Nat, countF g = c := ⟨(countF g).toNat, by omega⟩
  have hct : (countF g).toNat = c := by omega
  have hE : ¬ (n < 0 ∨ countF g ≤ n) := by omega
  have e : descE g n = (descF g n, 0) := by rw [descE, if_neg hE]
  obtain ⟨r1, _⟩ := desc_rng hg hE
  have e2 : drvnF g n = drvnN g (descF g n) c := by rw [drvnF, e, hct]; rfl
  rw [e2]
  rw [e] at hD
  clear e e2 hE
  refine FnEq.of_awp Try.func54 ok54 (by show 2 ≤ _; decide) (by simp only [push_cast, reduceIte, Nat.reduceEqDiff, Nat.reduceAdd, Nat.reduceSub, Nat.reduceMul, Nat.reduceBEq, Nat.reduceLT, Nat.reduceLeDiff, reduceCtorEq, Int.reduceToNat, Int.reduceNeg] <;> first | exact fun _ _ => trivial | simp) ?_
  simp only [ac54, rv54, push_cast, reduceIte, Nat.reduceEqDiff, Nat.reduceAdd, Nat.reduceSub, Nat.reduceMul, Nat.reduceBEq, Nat.reduceLT, Nat.reduceLeDiff, reduceCtorEq, Int.reduceToNat, Int.reduceNeg]
  refine cal_sub hD (by simp only [push_cast, reduceIte, Nat.reduceEqDiff, Nat.reduceAdd, Nat.reduceSub, Nat.reduceMul, Nat.reduceBEq, Nat.reduceLT, Nat.reduceLeDiff, reduceCtorEq, Int.reduceToNat, Int.reduceNeg]) ?_
  simp only [spottedC, push_cast, reduceIte, Nat.reduceEqDiff, Nat.reduceAdd, Nat.reduceSub, Nat.reduceMul, Nat.reduceBEq, Nat.reduceLT, Nat.reduceLeDiff, reduceCtorEq, Int.reduceToNat, Int.reduceNeg]
  generalize descF g n = s at r1 ⊢
  refine loop_of (fun m st => ∃ k : Nat, k ≤ c ∧ m = c - k ∧ st = ⟨[(2, .ptr 2 0), (5, .view 8 0 (drvnN g s k).length), (6, .ptr 6 0), (7, .int k)], [(2, gridC false g), (6, [.int s.kind, .int s.x, .int s.y, .int s.i, .int 0])], [(8, ⟨1, 3, ints (drvnN g s k)⟩)], []⟩) c ?_ ?_
  · refine ⟨0, by omega, by omega, ?_⟩
    simp only [push_cast, reduceIte, Nat.reduceEqDiff, Nat.reduceAdd, Nat.reduceSub, Nat.reduceMul, Nat.reduceBEq, Nat.reduceLT, Nat.reduceLeDiff, reduceCtorEq, Int.reduceToNat, Int.reduceNeg]
    rfl
  rintro m st ⟨k, hk, rfl, rfl⟩
  have hlen : (drvnN g s k).length ≤ k := idxF_len _ k
  have hs : drvnN g s (k + 1) = drvnN g s k ++ if CanD g s (descF g k) then [(k : Int)] else [] := by rw [drvnN, idxF]; simp only [decide_eq_true_eq]; rfl
  generalize hL : drvnN g s k = L at hlen hs ⊢
  simp only [push_cast, reduceIte, Nat.reduceEqDiff, Nat.reduceAdd, Nat.reduceSub, Nat.reduceMul, Nat.reduceBEq, Nat.reduceLT, Nat.reduceLeDiff, reduceCtorEq, Int.reduceToNat, Int.reduceNeg]
  refine cal_sub (rcount_ok g hg) (by simp only [push_cast, reduceIte, Nat.reduceEqDiff, Nat.reduceAdd, Nat.reduceSub, Nat.reduceMul, Nat.reduceBEq, Nat.reduceLT, Nat.reduceLeDiff, reduceCtorEq, Int.reduceToNat, Int.reduceNeg]) ?_
  rw [hc]
  simp only [push_cast, reduceIte, Nat.reduceEqDiff, Nat.reduceAdd, Nat.reduceSub, Nat.reduceMul, Nat.reduceBEq, Nat.reduceLT, Nat.reduceLeDiff, reduceCtorEq, Int.reduceToNat, Int.reduceNeg]
  refine cut_of ⟨[(2, .ptr 2 0), (5, .view 8 0 L.length), (6, .ptr 6 0), (7, .int k), (20, .bool (decide (k < c)))], [(2, gridC false g), (6, [.int s.kind, .int s.x, .int s.y, .int s.i, .int 0])], [(8, ⟨1, 3, ints L⟩)], []⟩ ?_ ?_
  · refine grd_dec rfl (fun h => ?_) fun h => ?_ <;> simp only [push_cast, reduceIte, Nat.reduceEqDiff, Nat.reduceAdd, Nat.reduceSub, Nat.reduceMul, Nat.reduceBEq, Nat.reduceLT, Nat.reduceLeDiff, reduceCtorEq, Int.reduceToNat, Int.reduceNeg]
    · rw [decide_eq_true (show k < c by omega)]
    · rw [decide_eq_false (show ¬ k < c by omega)]
  simp only [push_cast, reduceIte, Nat.reduceEqDiff, Nat.reduceAdd, Nat.reduceSub, Nat.reduceMul, Nat.reduceBEq, Nat.reduceLT, Nat.reduceLeDiff, reduceCtorEq, Int.reduceToNat, Int.reduceNeg]
  refine cond_dec (fun h => ?_) fun h => ?_
  · have hk2 : ¬ ((k : Int) < 0 ∨ countF g ≤ k) := by omega
    have ek : descE g k = (descF g k, 0) := by rw [descE, if_neg hk2]
    have hDk := rdesc_ok g hg k (by omega)
    rw [ek] at hDk
    obtain ⟨q1, _⟩ := desc_rng hg hk2
    refine dcal_sub hDk (by simp only [push_cast, reduceIte, Nat.reduceEqDiff, Nat.reduceAdd, Nat.reduceSub, Nat.reduceMul, Nat.reduceBEq, Nat.reduceLT, Nat.reduceLeDiff, reduceCtorEq, Int.reduceToNat, Int.reduceNeg]) rfl ?_
    simp only [spottedC, push_cast, reduceIte, Nat.reduceEqDiff, Nat.reduceAdd, Nat.reduceSub, Nat.reduceMul, Nat.reduceBEq, Nat.reduceLT, Nat.reduceLeDiff, reduceCtorEq, Int.reduceToNat, Int.reduceNeg]
    refine cal_sub (can_ok g hg s (descF g k) r1 q1) (by simp only [push_cast, reduceIte, Nat.reduceEqDiff, Nat.reduceAdd, Nat.reduceSub, Nat.reduceMul, Nat.reduceBEq, Nat.reduceLT, Nat.reduceLeDiff, reduceCtorEq, Int.reduceToNat, Int.reduceNeg]) ?_
    simp only [push_cast, reduceIte, Nat.reduceEqDiff, Nat.reduceAdd, Nat.reduceSub, Nat.reduceMul, Nat.reduceBEq, Nat.reduceLT, Nat.reduceLeDiff, reduceCtorEq, Int.reduceToNat, Int.reduceNeg]
    refine cond_dec (fun h2 => ?_) fun h2 => ?_
    · rw [if_pos h2] at hs
      refine ⟨by simp, by omega, by omega, _, ?_, k + 1, by omega, rfl, ?_⟩
      · omega
      · rw [hs]
        simp
    · rw [if_neg h2, List.append_nil] at hs
      refine ⟨by omega, _, ?_, k + 1, by omega, rfl, ?_⟩
      · omega
      · rw [hs]
        simp
  · rw [show c = k by omega, hL]
    exact ⟨fun _ _ => trivial, .refl _⟩
end Go.Proofs.Ytledbjkolidhkaa
namespace Go.Proofs.Ytledbjkolidhkaa
open Go Go.Vc Txt
theorem srcsF_mem {g : Grid} (hg : GOk g) (x : Int) : x ∈ srcsF g ↔ (0 ≤ x ∧ x < countF g) ∧ SrcK (descF g x) := by
  have := hg.count
  rw [srcsF, idxF_mem]
  constructor
  · rintro ⟨i, h1, h2, rfl⟩
    exact ⟨by omega, of_decide_eq_true h2⟩
  · rintro ⟨h1, h2⟩
    exact ⟨x.toNat, by omega, decide_eq_true (by rw [show ((x.toNat : Nat) : Int) = x by omega]; exact h2), by omega⟩
theorem drvnF_mem {g : Grid} (hg : GOk g) {n : Int} (hn : 0 ≤ n ∧ n < countF g) (x : Int) : x ∈ drvnF g n ↔ (0 ≤ x ∧ x < countF g) ∧ CanD g (descF g n) (descF g x) := by
  have := hg.count
  have e : descE g n = (descF g n, 0) := by rw [descE, if_neg (by omega)]
  rw [drvnF, e, if_pos rfl, drvnN, idxF_mem]
  constructor
  · rintro ⟨i, h1, h2, rfl⟩
    exact ⟨by omega, of_decide_eq_true h2⟩
  · rintro ⟨h1, h2⟩
    exact ⟨x.toNat, by omega, decide_eq_true (by rw [show ((x.toNat : Nat) : Int) = x by omega]; exact h2), by omega⟩
theorem srcsF_ne {g : Grid} (hg : GOk g) : srcsF g ≠ [] := by
  have h1 := hg.count
  have h2 := hg.all
  have h3 := hg.pads
  have h4 := hg.each
  have h5 := hg.tracks
  have : (0 : Int) ∈ srcsF g := by
    rw [srcsF_mem hg]
    refine ⟨by omega, .inl ?_⟩
    rw [descF, if_neg (by omega), if_neg (by omega)]
    have hz : (0 : Int) % eachI g = 0 := Int.zero_emod _
    dsimp only
    rw [hz, if_neg (by omega), if_neg (by omega), if_neg (by omega), if_neg (by omega)]
  intro e
  rw [e] at this
  simp at this
def growS (g : Grid) (sn : List Int) (a : List Int × List Int) (b : Int) : List Int × List Int :=
  if a.1 = [] then
    if (srcsF g).getD (b % ((srcsF g).length : Int)).toNat 0 ∈ sn then a else ([(srcsF g).getD (b % ((srcsF g).length : Int)).toNat 0], [-1])
  else
    let f := (a.1.length : Int) - 1 - b / 64 % (a.1.length : Int)
    let d := drvnF g (a.1.getD f.toNat 0)
    if d = [] then a
    else
      let n := d.getD (b % 64 % (d.length : Int)).toNat 0
      if n ∉ sn ∧ n ∉ a.1 then (a.1 ++ [n], a.2 ++ [f]) else a
def growN (g : Grid) (sn l : List Int) : Nat → List Int × List Int
  | 0 => ([], [])
  | k + 1 => growS g sn (growN g sn l k) (l.getD k 0)
def growF (g : Grid) (sn l : List Int) : Route := ⟨0, (growN g sn l (min l.length 16)).1, (growN g sn l (min l.length 16)).2⟩
structure GrOk (g : Grid) (a : List Int × List Int) : Prop where
  len : a.2.length = a.1.length
  rng : ∀ x ∈ a.1, 0 ≤ x ∧ x < countF g
theorem growS_ok {g : Grid} (hg : GOk g) {sn : List Int} {a : List Int × List Int} {b : Int} (hb : 0 ≤ b ∧ b ≤ 255) (h : GrOk g a) : GrOk g (growS g sn a b) ∧ (growS g sn a b).1.length ≤ a.1.length + 1 := by
  obtain ⟨h1, h2⟩ := h
  have hse := List.length_pos_iff.2 (srcsF_ne hg)
  unfold growS
  split
  · rename_i e
    split
    · exact ⟨⟨h1, h2⟩, by omega⟩
    · refine ⟨⟨rfl, fun x hx => ?_⟩, by simp⟩
      rw [List.mem_singleton] at hx
      subst hx
      have hm : (srcsF g).getD (b % ((srcsF g).length : Int)).toNat 0 ∈ srcsF g := getD_mem (by have := Int.emod_lt_of_pos b (show 0 < ((srcsF g).length : Int) by omega); have := Int.emod_nonneg b (show ((srcsF g).length : Int) ≠ 0 by omega); omega)
      exact ((srcsF_mem hg _).1 hm).1
  · rename_i e
    have hlp := List.length_pos_iff.2 e
    simp only
    have q1 := Int.emod_lt_of_pos (b / 64) (show 0 < (a.1.length : Int) by omega)
    have q2 := Int.emod_nonneg (b / 64) (show (a.1.length : Int) ≠ 0 by omega)
    generalize b / 64 % (a.1.length : Int) = q at *
    have hx := h2 _ (getD_mem (l := a.1) (k := ((a.1.length : Int) - 1 - q).toNat) (by omega))
    generalize a.1.getD ((a.1.length : Int) - 1 - q).toNat 0 = x at *
    split
    · exact ⟨⟨h1, h2⟩, by omega⟩
    · rename_i e2
      have hdp := List.length_pos_iff.2 e2
      split
      · refine ⟨⟨by simp [h1], fun y hy => ?_⟩, by simp⟩
        rw [List.mem_append, List.mem_singleton] at hy
        rcases hy with hy | rfl
        · exact h2 y hy
        · have hm : (drvnF g x).getD (b % 64 % ((drvnF g x).length : Int)).toNat 0 ∈ drvnF g x := getD_mem (by have := Int.emod_lt_of_pos (b % 64) (show 0 < ((drvnF g x).length : Int) by omega); have := Int.emod_nonneg (b % 64) (show ((drvnF g x).length : Int) ≠ 0 by omega); omega)
          exact ((drvnF_mem hg hx _).1 hm).1
      · exact ⟨⟨h1, h2⟩, by omega⟩
theorem growN_ok {g : Grid} (hg : GOk g) (sn l : List Int) (hb : ∀ x ∈ l, 0 ≤ x ∧ x ≤ 255) : ∀ k, GrOk g (growN g sn l k) ∧ (growN g sn l k).1.length ≤ k
  | 0 => ⟨⟨rfl, by simp [growN]⟩, by simp [growN]⟩
  | k + 1 => by
    have hbk : 0 ≤ l.getD k 0 ∧ l.getD k 0 ≤ 255 := by
      by_cases h : k < l.length
      · exact hb _ (getD_mem h)
      · rw [List.getD_eq_getElem?_getD, List.getElem?_eq_none (by omega)]; decide
    obtain ⟨h1, h2⟩ := growN_ok hg sn l hb k
    obtain ⟨h3, h4⟩ := growS_ok hg (sn := sn) hbk h1
    exact ⟨h3, by rw [growN]; omega⟩
def grA (ns fr : List Int) : List (Nat × Arr) := laN 51 ns ++ laN 56 fr
set_option maxHeartbeats 4000000 in
theorem grown_ok (g : Grid) (hg : GOk g) (sn l : List Int) (hl : (l.length : Int) ≤ 9223372036854775807) (hb : ∀ x ∈ l, 0 ≤ x ∧ x ≤ 255) :
    FnEq Try.prog 35 [.agg (gridC false g), .sl false 1 (rows boolC (seenB (countF g).toNat sn)), .sl false 1 (bytes8 l)] (.agg (routeC true (growF g sn l))) := by
  have h1 := hg.count
  have hse := List.length_pos_iff.2 (srcsF_ne hg)
  have hsb : (srcsF g).length ≤ (countF g).toNat := idxF_len _ _
  refine FnEq.of_awp Try.func35 ok35 (by show 3 ≤ _; decide) (by simp only [push_cast, reduceIte, Nat.reduceEqDiff, Nat.reduceAdd, Nat.reduceSub, Nat.reduceMul, Nat.reduceBEq, Nat.reduceLT, Nat.reduceLeDiff, reduceCtorEq, Int.reduceToNat, Int.reduceNeg] <;> first | exact fun _ _ => trivial | simp) ?_
  simp only [ac35, rv35, push_cast, reduceIte, Nat.reduceEqDiff, Nat.reduceAdd, Nat.reduceSub, Nat.reduceMul, Nat.reduceBEq, Nat.reduceLT, Nat.reduceLeDiff, reduceCtorEq, Int.reduceToNat, Int.reduceNeg]
  refine cal_sub (rsources_ok g hg) (by simp only [push_cast, reduceIte, Nat.reduceEqDiff, Nat.reduceAdd, Nat.reduceSub, Nat.reduceMul, Nat.reduceBEq, Nat.reduceLT, Nat.reduceLeDiff, reduceCtorEq, Int.reduceToNat, Int.reduceNeg]) ?_
  simp only [push_cast, reduceIte, Nat.reduceEqDiff, Nat.reduceAdd, Nat.reduceSub, Nat.reduceMul, Nat.reduceBEq, Nat.reduceLT, Nat.reduceLeDiff, reduceCtorEq, Int.reduceToNat, Int.reduceNeg]
  refine loop_of (fun m st => ∃ k : Nat, k ≤ min l.length 16 ∧ m = min l.length 16 - k ∧ st = ⟨[(1, .sl false 1 (rows boolC (seenB (countF g).toNat sn))), (2, .sl false 1 (bytes8 l)), (3, .ptr 3 0), (6, .ptr 6 0), (7, .sl true 1 (ints (srcsF g))), (8, .ptr 8 0), (9, .int k)],
    [(3, gridC false g), (6, [.int 0, .nil, .nil]), (8, [.int 0, lvN 51 (growN g sn l k).1, lvN 56 (growN g sn l k).2])], grA (growN g sn l k).1 (growN g sn l k).2, []⟩) (min l.length 16) ?_ ?_
  · refine ⟨0, by omega, by omega, ?_⟩
    simp only [growN, grA, List.nil_append, push_cast, reduceIte, Nat.reduceEqDiff, Nat.reduceAdd, Nat.reduceSub, Nat.reduceMul, Nat.reduceBEq, Nat.reduceLT, Nat.reduceLeDiff, reduceCtorEq, Int.reduceToNat, Int.reduceNeg]
  rintro m st ⟨k, hk, rfl, rfl⟩
  obtain ⟨⟨q1, q2⟩, q3⟩ := growN_ok hg sn l hb k
  have hS : growN g sn l (k + 1) = growS g sn (growN g sn l k) (l.getD k 0) := rfl
  have hF : growF g sn l = ⟨0, (growN g sn l (min l.length 16)).1, (growN g sn l (min l.length 16)).2⟩ := rfl
  have e0 : ∀ (l : List Int) (j : Nat), l.getD j default = l.getD j 0 := fun _ _ => rfl
  have hbk : 0 ≤ l.getD k 0 ∧ l.getD k 0 ≤ 255 := by
    by_cases h : k < l.length
    · exact hb _ (getD_mem h)
    · rw [List.getD_eq_getElem?_getD, List.getElem?_eq_none (by omega)]; decide
  obtain ⟨B, hB⟩ : ∃ B, B = decide (k < l.length ∧ k < 16) := ⟨_, rfl⟩
  rcases ha : growN g sn l k with ⟨ns, fr⟩
  rw [ha] at q1 q2 q3 hS
  simp only at q1 q2 q3 ⊢
  rcases ns with _ | ⟨x, ns⟩
  · obtain rfl : fr = [] := List.length_eq_zero_iff.1 q1
    simp only [grA, push_cast, reduceIte, Nat.reduceEqDiff, Nat.reduceAdd, Nat.reduceSub, Nat.reduceMul, Nat.reduceBEq, Nat.reduceLT, Nat.reduceLeDiff, reduceCtorEq, Int.reduceToNat, Int.reduceNeg]
    refine cut_of ⟨[(1, .sl false 1 (rows boolC (seenB (countF g).toNat sn))), (2, .sl false 1 (bytes8 l)), (3, .ptr 3 0), (6, .ptr 6 0), (7, .sl true 1 (ints (srcsF g))), (8, .ptr 8 0), (9, .int k), (24, .bool B)],
      [(3, gridC false g), (6, [.int 0, .nil, .nil]), (8, [.int 0, .nil, .nil])], [], []⟩ ?_ ?_
    · refine grd_dec rfl (fun e1 => ?_) fun e1 => ?_ <;> simp only [push_cast, reduceIte, Nat.reduceEqDiff, Nat.reduceAdd, Nat.reduceSub, Nat.reduceMul, Nat.reduceBEq, Nat.reduceLT, Nat.reduceLeDiff, reduceCtorEq, Int.reduceToNat, Int.reduceNeg]
      · rw [show B = decide ((k : Int) < 16) from by rw [hB, decide_eq_decide]; omega]
      · rw [show B = false from by rw [hB]; exact decide_eq_false (by omega)]
    simp only [push_cast, reduceIte, Nat.reduceEqDiff, Nat.reduceAdd, Nat.reduceSub, Nat.reduceMul, Nat.reduceBEq, Nat.reduceLT, Nat.reduceLeDiff, reduceCtorEq, Int.reduceToNat, Int.reduceNeg]
    refine cond_of (fun e => ?_) fun e => ?_
    rotate_left
    · rw [hB, decide_eq_false_iff_not] at e
      rw [hF, show min l.length 16 = k by omega, ha]
      simp only [push_cast, reduceIte, Nat.reduceEqDiff, Nat.reduceAdd, Nat.reduceSub, Nat.reduceMul, Nat.reduceBEq, Nat.reduceLT, Nat.reduceLeDiff, reduceCtorEq, Int.reduceToNat, Int.reduceNeg]
    rw [hB, decide_eq_true_eq] at e
    obtain ⟨e1, e2⟩ := e
    have ht1 := Int.emod_nonneg (l.getD k 0) (show ((srcsF g).length : Int) ≠ 0 by omega)
    have ht2 := Int.emod_lt_of_pos (l.getD k 0) (show 0 < ((srcsF g).length : Int) by omega)
    have hm := getD_mem (l := srcsF g) (k := (l.getD k 0 % ((srcsF g).length : Int)).toNat) (by omega)
    have hn := ((srcsF_mem hg _).1 hm).1
    simp only [growS, if_true] at hS
    simp only [e0, seenB_len, push_cast, reduceIte, Nat.reduceEqDiff, Nat.reduceAdd, Nat.reduceSub, Nat.reduceMul, Nat.reduceBEq, Nat.reduceLT, Nat.reduceLeDiff, reduceCtorEq, Int.reduceToNat, Int.reduceNeg]
    generalize l.getD k 0 = b at *
    generalize b % ((srcsF g).length : Int) = t at *
    generalize (srcsF g).getD t.toNat 0 = n at *
    refine ⟨by omega, by omega, by omega, by omega, by omega, by omega, by omega, by omega, ?_⟩
    rw [show (seenB (countF g).toNat sn).getD n.toNat default = decide (n ∈ sn) from seenB_get (by omega) _]
    refine cond_of (fun e3 => ?_) fun e3 => ?_
    · have e3 : n ∉ sn := not_dec e3
      rw [if_neg e3] at hS
      refine ⟨by simp, ?_⟩
      simp only [rows_one, push_cast, reduceIte, Nat.reduceEqDiff, Nat.reduceAdd, Nat.reduceSub, Nat.reduceMul, Nat.reduceBEq, Nat.reduceLT, Nat.reduceLeDiff, reduceCtorEq, Int.reduceToNat, Int.reduceNeg]
      refine ⟨by simp, by omega, _, ?_, k + 1, by omega, rfl, ?_⟩
      · omega
      · rw [hS]
        simp only [rows_one, push_cast, reduceIte, Nat.reduceEqDiff, Nat.reduceAdd, Nat.reduceSub, Nat.reduceMul, Nat.reduceBEq, Nat.reduceLT, Nat.reduceLeDiff, reduceCtorEq, Int.reduceToNat, Int.reduceNeg]
    · have e3 : n ∈ sn := not_dec' e3
      rw [if_pos e3] at hS
      refine ⟨by omega, _, ?_, k + 1, by omega, rfl, ?_⟩
      · omega
      · rw [hS]
        simp only [push_cast, reduceIte, Nat.reduceEqDiff, Nat.reduceAdd, Nat.reduceSub, Nat.reduceMul, Nat.reduceBEq, Nat.reduceLT, Nat.reduceLeDiff, reduceCtorEq, Int.reduceToNat, Int.reduceNeg]
  · obtain ⟨y, fr, rfl⟩ : ∃ y fr2, fr = y :: fr2 := by cases fr with | nil => cases q1 | cons y f => exact ⟨y, f, rfl⟩
    simp only [grA, List.cons_append, List.nil_append, push_cast, reduceIte, Nat.reduceEqDiff, Nat.reduceAdd, Nat.reduceSub, Nat.reduceMul, Nat.reduceBEq, Nat.reduceLT, Nat.reduceLeDiff, reduceCtorEq, Int.reduceToNat, Int.reduceNeg]
    simp only [List.length_cons] at q1 q3
    refine cut_of ⟨[(1, .sl false 1 (rows boolC (seenB (countF g).toNat sn))), (2, .sl false 1 (bytes8 l)), (3, .ptr 3 0), (6, .ptr 6 0), (7, .sl true 1 (ints (srcsF g))), (8, .ptr 8 0), (9, .int k), (24, .bool B)],
      [(3, gridC false g), (6, [.int 0, .nil, .nil]), (8, [.int 0, .view 51 0 (ns.length + 1), .view 56 0 (fr.length + 1)])], [(51, ⟨1, 3, ints (x :: ns)⟩), (56, ⟨1, 3, ints (y :: fr)⟩)], []⟩ ?_ ?_
    · refine grd_dec rfl (fun e1 => ?_) fun e1 => ?_ <;> simp only [push_cast, reduceIte, Nat.reduceEqDiff, Nat.reduceAdd, Nat.reduceSub, Nat.reduceMul, Nat.reduceBEq, Nat.reduceLT, Nat.reduceLeDiff, reduceCtorEq, Int.reduceToNat, Int.reduceNeg]
      · rw [show B = decide ((k : Int) < 16) from by rw [hB, decide_eq_decide]; omega]
      · rw [show B = false from by rw [hB]; exact decide_eq_false (by omega)]
    simp only [push_cast, reduceIte, Nat.reduceEqDiff, Nat.reduceAdd, Nat.reduceSub, Nat.reduceMul, Nat.reduceBEq, Nat.reduceLT, Nat.reduceLeDiff, reduceCtorEq, Int.reduceToNat, Int.reduceNeg]
    refine cond_of (fun e => ?_) fun e => ?_
    rotate_left
    · rw [hB, decide_eq_false_iff_not] at e
      rw [hF, show min l.length 16 = k by omega, ha, List.take_of_length_le (by simp), List.take_of_length_le (by simp)]
      exact ⟨⟨fun _ _ => trivial, fun _ _ => trivial⟩, rfl, Sub.refl _, Sub.refl _⟩
    rw [hB, decide_eq_true_eq] at e
    obtain ⟨e1, e2⟩ := e
    refine cond_dec (fun h => absurd h (by omega)) fun _ => ?_
    simp only [e0, seenB_len, push_cast, reduceIte, Nat.reduceEqDiff, Nat.reduceAdd, Nat.reduceSub, Nat.reduceMul, Nat.reduceBEq, Nat.reduceLT, Nat.reduceLeDiff, reduceCtorEq, Int.reduceToNat, Int.reduceNeg]
    have hlen : ((x :: ns).length : Int) = (ns.length : Int) + 1 := by simp
    simp only [growS, reduceCtorEq, if_false, hlen] at hS
    generalize hbe : l.getD k 0 = b at *
    have t1 := Int.emod_lt_of_pos (b / 64) (show 0 < (ns.length : Int) + 1 by omega)
    have t2 := Int.emod_nonneg (b / 64) (show (ns.length : Int) + 1 ≠ 0 by omega)
    have hb6 : 0 ≤ b / 64 ∧ b / 64 ≤ 255 := by omega
    have hb7 : 0 ≤ b % 64 ∧ b % 64 ≤ 255 := by omega
    generalize h6e : b / 64 = b6 at *
    generalize h7e : b % 64 = b7 at *
    generalize b6 % ((ns.length : Int) + 1) = q at *
    have hz := q2 _ (getD_mem (l := x :: ns) (k := ((ns.length : Int) + 1 - 1 - q).toNat) (by simp; omega))
    generalize hfq : (ns.length : Int) + 1 - 1 - q = f at *
    refine ⟨by omega, by omega, by omega, by omega, by omega, by omega, by omega, by omega, by omega, ?_⟩
    generalize (x :: ns).getD f.toNat 0 = z at *
    refine cal_sub (driven_ok g hg z hz) (by simp only [push_cast, reduceIte, Nat.reduceEqDiff, Nat.reduceAdd, Nat.reduceSub, Nat.reduceMul, Nat.reduceBEq, Nat.reduceLT, Nat.reduceLeDiff, reduceCtorEq, Int.reduceToNat, Int.reduceNeg]) ?_
    simp only [e0, hbe, h7e, seenB_len, push_cast, reduceIte, Nat.reduceEqDiff, Nat.reduceAdd, Nat.reduceSub, Nat.reduceMul, Nat.reduceBEq, Nat.reduceLT, Nat.reduceLeDiff, reduceCtorEq, Int.reduceToNat, Int.reduceNeg]
    have hdl : (drvnF g z).length ≤ 600000 := by
      unfold drvnF
      split
      · have := idxF_len (fun i => decide (CanD g (descE g z).1 (descF g i))) (countF g).toNat
        rw [drvnN]; omega
      · simp
    have hdm := drvnF_mem hg hz
    generalize drvnF g z = d at *
    refine cond_dec (fun h => ?_) fun h => ?_
    · have hd : d = [] := List.length_eq_zero_iff.1 (by omega)
      rw [if_pos hd] at hS
      refine ⟨by omega, _, ?_, k + 1, by omega, rfl, ?_⟩
      · omega
      · rw [hS]
        simp only [push_cast, reduceIte, Nat.reduceEqDiff, Nat.reduceAdd, Nat.reduceSub, Nat.reduceMul, Nat.reduceBEq, Nat.reduceLT, Nat.reduceLeDiff, reduceCtorEq, Int.reduceToNat, Int.reduceNeg]
    have hd : d ≠ [] := fun e => h (by rw [e]; rfl)
    rw [if_neg hd] at hS
    have t3 := Int.emod_lt_of_pos b7 (show 0 < (d.length : Int) by omega)
    have t4 := Int.emod_nonneg b7 (show (d.length : Int) ≠ 0 by omega)
    have hn := ((hdm _).1 (getD_mem (l := d) (k := (b7 % (d.length : Int)).toNat) (by omega))).1
    generalize b7 % (d.length : Int) = r at *
    generalize hnr : d.getD r.toNat 0 = n at *
    refine ⟨by omega, by omega, by omega, by omega, by omega, by omega, by omega, by omega, ?_⟩
    rw [show (seenB (countF g).toNat sn).getD n.toNat default = decide (n ∈ sn) from seenB_get (by omega) _]
    refine ⟨by omega, ?_⟩
    refine cut_of ⟨[(1, .sl false 1 (rows boolC (seenB (countF g).toNat sn))), (2, .sl false 1 (bytes8 l)), (3, .ptr 3 0), (6, .ptr 6 0), (7, .sl true 1 (ints (srcsF g))), (8, .ptr 8 0), (9, .int k), (11, .int f), (13, .int n), (106, .bool (decide (n ∉ sn ∧ n ∉ x :: ns)))],
      [(3, gridC false g), (6, [.int 0, .nil, .nil]), (8, [.int 0, .view 51 0 (ns.length + 1), .view 56 0 (fr.length + 1)])], [(51, ⟨1, 3, ints (x :: ns)⟩), (56, ⟨1, 3, ints (y :: fr)⟩)], []⟩ ?_ ?_
    · refine grd_b rfl (fun e => ?_) fun e => ?_ <;> simp only [push_cast, reduceIte, Nat.reduceEqDiff, Nat.reduceAdd, Nat.reduceSub, Nat.reduceMul, Nat.reduceBEq, Nat.reduceLT, Nat.reduceLeDiff, reduceCtorEq, Int.reduceToNat, Int.reduceNeg]
      · have e := not_dec e
        refine cal_sub (index_ok (x :: ns) (by simp; omega) n) (by simp only [push_cast, reduceIte, Nat.reduceEqDiff, Nat.reduceAdd, Nat.reduceSub, Nat.reduceMul, Nat.reduceBEq, Nat.reduceLT, Nat.reduceLeDiff, reduceCtorEq, Int.reduceToNat, Int.reduceNeg]; rw [List.take_of_length_le (by simp)]; exact Sub.refl _) ?_
        simp only [push_cast, reduceIte, Nat.reduceEqDiff, Nat.reduceAdd, Nat.reduceSub, Nat.reduceMul, Nat.reduceBEq, Nat.reduceLT, Nat.reduceLeDiff, reduceCtorEq, Int.reduceToNat, Int.reduceNeg]
        rw [show decide (n ∉ sn ∧ n ∉ x :: ns) = decide (indexF (x :: ns) n < 0) from by
          rw [decide_eq_decide]
          unfold indexF
          split
          · rename_i h; exact ⟨fun h2 => absurd h h2.2, fun h2 => absurd h2 (by omega)⟩
          · rename_i h; exact ⟨fun _ => by omega, fun _ => ⟨e, h⟩⟩]
      · have e := not_dec' e
        rw [show decide (n ∉ sn ∧ n ∉ x :: ns) = false from decide_eq_false fun h => h.1 e]
    simp only [push_cast, reduceIte, Nat.reduceEqDiff, Nat.reduceAdd, Nat.reduceSub, Nat.reduceMul, Nat.reduceBEq, Nat.reduceLT, Nat.reduceLeDiff, reduceCtorEq, Int.reduceToNat, Int.reduceNeg]
    refine cond_dec (fun e4 => ?_) fun e4 => ?_
    · rw [if_pos e4] at hS
      refine ⟨by simp, by omega, by simp, by omega, by omega, _, ?_, k + 1, by omega, rfl, ?_⟩
      · omega
      · rw [hS]
        simp only [List.cons_append, List.length_append, List.length_singleton, push_cast, reduceIte, Nat.reduceEqDiff, Nat.reduceAdd, Nat.reduceSub, Nat.reduceMul, Nat.reduceBEq, Nat.reduceLT, Nat.reduceLeDiff, reduceCtorEq, Int.reduceToNat, Int.reduceNeg]
    · rw [if_neg e4] at hS
      refine ⟨by omega, _, ?_, k + 1, by omega, rfl, ?_⟩
      · omega
      · rw [hS]
        simp only [push_cast, reduceIte, Nat.reduceEqDiff, Nat.reduceAdd, Nat.reduceSub, Nat.reduceMul, Nat.reduceBEq, Nat.reduceLT, Nat.reduceLeDiff, reduceCtorEq, Int.reduceToNat, Int.reduceNeg]
end Go.Proofs.Ytledbjkolidhkaa
