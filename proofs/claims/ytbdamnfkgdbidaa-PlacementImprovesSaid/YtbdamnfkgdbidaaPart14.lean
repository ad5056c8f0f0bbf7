/- JJ PImproves: PlacementImproves holds for every described packing, every described grid and all odd numbers: the row. -/
import Derived.Test.YtbdamnfkgdbidaaPart13
import Derived.Test.YtbdamnfkgdbidaaRows
set_option linter.unusedSimpArgs false
set_option linter.unusedVariables false
/- PlacementImproves: the law's function answers true -/
namespace Go.Proofs.Ytbdamnfkgdbidaa
open Go Go.Vc Txt

set_option maxHeartbeats 2000000 in
set_option maxRecDepth 4000 in
theorem improves_ok (x : RawP) (hx : x.By) (y : RawG) (hy : y.By) (z : Odd) (hz : z.By) :
    FnEq Try.prog 5 [.agg (rawPC false x), .agg (rawGC false y), .agg (oddC false z)] (.bool true) := by
  refine FnEq.of_awp Try.func5 ok5 (by show 3 ≤ _; decide) (by simp only [push_cast, reduceIte, Nat.reduceEqDiff, Nat.reduceAdd, Nat.reduceSub, Nat.reduceMul, Nat.reduceBEq, Nat.reduceLT, Nat.reduceLeDiff, reduceCtorEq, Int.reduceToNat, Int.reduceNeg] <;> first | exact fun _ _ => trivial | simp) ?_
  simp only [ac5, rv5, push_cast, reduceIte, Nat.reduceEqDiff, Nat.reduceAdd, Nat.reduceSub, Nat.reduceMul, Nat.reduceBEq, Nat.reduceLT, Nat.reduceLeDiff, reduceCtorEq, Int.reduceToNat, Int.reduceNeg]
  refine cal_sub examples_ok (by simp only [push_cast, reduceIte, Nat.reduceEqDiff, Nat.reduceAdd, Nat.reduceSub, Nat.reduceMul, Nat.reduceBEq, Nat.reduceLT, Nat.reduceLeDiff, reduceCtorEq, Int.reduceToNat, Int.reduceNeg]) ?_
  simp only [push_cast, reduceIte, Nat.reduceEqDiff, Nat.reduceAdd, Nat.reduceSub, Nat.reduceMul, Nat.reduceBEq, Nat.reduceLT, Nat.reduceLeDiff, reduceCtorEq, Int.reduceToNat, Int.reduceNeg]
  refine cal_sub (small_ok x y z) (by simp only [push_cast, reduceIte, Nat.reduceEqDiff, Nat.reduceAdd, Nat.reduceSub, Nat.reduceMul, Nat.reduceBEq, Nat.reduceLT, Nat.reduceLeDiff, reduceCtorEq, Int.reduceToNat, Int.reduceNeg]) ?_
  simp only [push_cast, reduceIte, Nat.reduceEqDiff, Nat.reduceAdd, Nat.reduceSub, Nat.reduceMul, Nat.reduceBEq, Nat.reduceLT, Nat.reduceLeDiff, reduceCtorEq, Int.reduceToNat, Int.reduceNeg]
  refine cond_of (fun h => ?_) fun h => ?_
  · simp only [push_cast, reduceIte, Nat.reduceEqDiff, Nat.reduceAdd, Nat.reduceSub, Nat.reduceMul, Nat.reduceBEq, Nat.reduceLT, Nat.reduceLeDiff, reduceCtorEq, Int.reduceToNat, Int.reduceNeg]

  have hs : Small x y z := by simpa using h
  have hx := hx.ok hs.1
  have hy := hy.ok hs.2.1
  obtain ⟨_, _, s3, s4, s5, s6, s7⟩ := hs
  refine cal_subO (lmade_ok x hx y hy z (by omega) hz.bad) (by simp only [push_cast, reduceIte, Nat.reduceEqDiff, Nat.reduceAdd, Nat.reduceSub, Nat.reduceMul, Nat.reduceBEq, Nat.reduceLT, Nat.reduceLeDiff, reduceCtorEq, Int.reduceToNat, Int.reduceNeg]) ?_
  rintro _ ⟨p, hp, rfl⟩
  have hj := job_ok hx hp hy z.bad
  have hpb : p.blocks.length ≤ 9 := by have := hp.nb; omega
  have hpd : (p.drive.length : Int) ≤ 4 := by have := hp.drive; have := hp.out; omega
  have hpn := hp.nin
  obtain ⟨g1, g2, _⟩ := gridF_ok hy
  generalize hj0 : (⟨p, gridF y, badF (gridF y) z.bad⟩ : Job) = j at hj ⊢
  have hjb : j.p.blocks.length ≤ 9 := by rw [← hj0]; exact hpb
  have hjd : (j.p.drive.length : Int) ≤ 4 := by rw [← hj0]; exact hpd
  have hjn : ∀ b ∈ j.p.blocks, (b.ins.length : Int) ≤ 4 := by rw [← hj0]; exact hpn
  have hjw : j.g.w ≤ 5 := by rw [← hj0]; exact g1.2
  have hjh : j.g.h ≤ 5 := by rw [← hj0]; exact g2.2
  clear hj0
  have hwh := hj.wh
  have hpos : 0 < j.g.w * j.g.h := Int.mul_pos hj.w.1 hj.h.1
  have hkd := hj.kind
  simp only [push_cast, reduceIte, Nat.reduceEqDiff, Nat.reduceAdd, Nat.reduceSub, Nat.reduceMul, Nat.reduceBEq, Nat.reduceLT, Nat.reduceLeDiff, reduceCtorEq, Int.reduceToNat, Int.reduceNeg]
  refine cal_sub (rtiles_ok j hj z.at_ (by omega) hz.at_) ⟨Sub.aggL (jobC_sub j), .refl _, trivial⟩ ?_
  have hal : (tilesF j z.at_).length = j.p.blocks.length := tilesN_len _ _ _
  generalize tilesF j z.at_ = a at hal ⊢
  simp only [push_cast, reduceIte, Nat.reduceEqDiff, Nat.reduceAdd, Nat.reduceSub, Nat.reduceMul, Nat.reduceBEq, Nat.reduceLT, Nat.reduceLeDiff, reduceCtorEq, Int.reduceToNat, Int.reduceNeg]
  refine cal_sub (lcheck_ok j hj a (by omega)) ⟨Sub.aggL (jobC_sub j), .slp _ _ _ _ (fun h => by cases h), trivial⟩ ?_
  simp only [push_cast, reduceIte, Nat.reduceEqDiff, Nat.reduceAdd, Nat.reduceSub, Nat.reduceMul, Nat.reduceBEq, Nat.reduceLT, Nat.reduceLeDiff, reduceCtorEq, Int.reduceToNat, Int.reduceNeg]
  refine cond_dec (fun hc => ?_) fun hc => ?_
  · refine cal_sub (limproved_ok j hj ⟨a, [], 1⟩ (by show (a.length : Int) ≤ _; omega) (by show (([] : List Int).length : Int) ≤ _; decide)) ⟨Sub.aggL (jobC_sub j), Sub.aggL ⟨.slp _ _ _ _ (fun h => by cases h), .nil _ _, .refl _, trivial⟩, trivial⟩ ?_
    rw [show improvedF j a [] 1 = ([], 0, checkF j a) from by rw [improvedF, if_neg (by omega), if_pos hc], checkF_not hc]
    simp only [push_cast, reduceIte, Nat.reduceEqDiff, Nat.reduceAdd, Nat.reduceSub, Nat.reduceMul, Nat.reduceBEq, Nat.reduceLT, Nat.reduceLeDiff, reduceCtorEq, Int.reduceToNat, Int.reduceNeg]

  have hc := Classical.not_not.1 hc
  have hsl : (z.some_.length : Int) ≤ 1000000 := by omega
  refine cal_sub (limproved_ok j hj ⟨a, z.some_, 1000⟩ (by show (a.length : Int) ≤ _; omega) hsl) ⟨Sub.aggL (jobC_sub j), Sub.aggL ⟨.slp _ _ _ _ (fun h => by cases h), .refl _, .refl _, trivial⟩, trivial⟩ ?_
  obtain ⟨r, hr⟩ : ∃ r : Im, improveF j z.some_ a 1000 = r := ⟨_, rfl⟩
  rw [show improvedF j a z.some_ 1000 = (r.1, r.2.2, 0) from by rw [improvedF, if_neg (by omega), if_neg (fun h => h hc), ← hr]; rfl]
  obtain ⟨l1, l2, l3, l4, l5, l6, l7, l8, l9, l10, l11⟩ := improves_law hj hjw hjh hjb hjn hjd (fx := z.some_) hc hr
  clear hr
  simp only [push_cast, reduceIte, Nat.reduceEqDiff, Nat.reduceAdd, Nat.reduceSub, Nat.reduceMul, Nat.reduceBEq, Nat.reduceLT, Nat.reduceLeDiff, reduceCtorEq, Int.reduceToNat, Int.reduceNeg]
  refine cal_sub (lcost_ok j hj a (by omega)) ⟨Sub.aggL (jobC_sub j), .slp _ _ _ _ (fun h => by cases h), trivial⟩ ?_
  rw [l3]
  simp only [push_cast, reduceIte, Nat.reduceEqDiff, Nat.reduceAdd, Nat.reduceSub, Nat.reduceMul, Nat.reduceBEq, Nat.reduceLT, Nat.reduceLeDiff, reduceCtorEq, Int.reduceToNat, Int.reduceNeg]
  refine cal_sub (lcost_ok j hj r.1 (by omega)) ⟨Sub.aggL (jobC_sub j), .slp _ _ _ _ (fun h => by cases h), trivial⟩ ?_
  rw [l4]
  simp only [push_cast, reduceIte, Nat.reduceEqDiff, Nat.reduceAdd, Nat.reduceSub, Nat.reduceMul, Nat.reduceBEq, Nat.reduceLT, Nat.reduceLeDiff, reduceCtorEq, Int.reduceToNat, Int.reduceNeg]
  refine dcut_of ⟨[(5, .ptr 5 0), (7, .bool true), (8, .ptr 8 0), (9, .sl true 1 (ints a)), (10, .ptr 10 0), (12, .ptr 12 0), (105, .bool false)], [(3, rawPC false x), (4, rawGC false y), (5, oddC false z), (8, jobC true j), (10, [.sl true 1 (ints r.1), .int r.2.2, .int 0]), (11, [.int (costF j a), .int 0]), (12, [.int r.2.1, .int 0])], [], []⟩ ?_ ?_
  · refine dgrd_decf rfl (fun h => absurd rfl h) fun _ => ?_
    simp only [push_cast, reduceIte, Nat.reduceEqDiff, Nat.reduceAdd, Nat.reduceSub, Nat.reduceMul, Nat.reduceBEq, Nat.reduceLT, Nat.reduceLeDiff, reduceCtorEq, Int.reduceToNat, Int.reduceNeg]
    refine cal_sub (lcheck_ok j hj r.1 (by omega)) ⟨Sub.aggL (jobC_sub j), .slp _ _ _ _ (fun h => by cases h), trivial⟩ ?_
    rw [l2]
    simp only [push_cast, reduceIte, Nat.reduceEqDiff, Nat.reduceAdd, Nat.reduceSub, Nat.reduceMul, Nat.reduceBEq, Nat.reduceLT, Nat.reduceLeDiff, reduceCtorEq, Int.reduceToNat, Int.reduceNeg]
    iterate 3 (refine grd_decf rfl (fun h => absurd rfl h) fun _ => ?_; simp only [push_cast, reduceIte, Nat.reduceEqDiff, Nat.reduceAdd, Nat.reduceSub, Nat.reduceMul, Nat.reduceBEq, Nat.reduceLT, Nat.reduceLeDiff, reduceCtorEq, Int.reduceToNat, Int.reduceNeg])
    refine dgrd_decf rfl (fun h => absurd h (by omega)) fun _ => ?_
    simp only [push_cast, reduceIte, Nat.reduceEqDiff, Nat.reduceAdd, Nat.reduceSub, Nat.reduceMul, Nat.reduceBEq, Nat.reduceLT, Nat.reduceLeDiff, reduceCtorEq, Int.reduceToNat, Int.reduceNeg]
    refine ⟨by omega, ?_⟩
    refine dgrd_decf rfl (fun h => absurd h (by omega)) fun _ => ?_
    simp only [push_cast, reduceIte, Nat.reduceEqDiff, Nat.reduceAdd, Nat.reduceSub, Nat.reduceMul, Nat.reduceBEq, Nat.reduceLT, Nat.reduceLeDiff, reduceCtorEq, Int.reduceToNat, Int.reduceNeg]
    refine dcal_sub (ints12_ok r.1 a (by omega) (by omega)) ⟨.slp _ _ _ _ (fun h => by cases h), .slp _ _ _ _ (fun h => by cases h), trivial⟩ rfl ?_
    simp only [push_cast, reduceIte, Nat.reduceEqDiff, Nat.reduceAdd, Nat.reduceSub, Nat.reduceMul, Nat.reduceBEq, Nat.reduceLT, Nat.reduceLeDiff, reduceCtorEq, Int.reduceToNat, Int.reduceNeg]
    rw [show (decide (r.2.2 = 0) != decide (r.1 = a)) = false from by rw [decide_eq_decide.2 l9]; exact bne_self_eq_false _]
  · simp only [push_cast, reduceIte, Nat.reduceEqDiff, Nat.reduceAdd, Nat.reduceSub, Nat.reduceMul, Nat.reduceBEq, Nat.reduceLT, Nat.reduceLeDiff, reduceCtorEq, Int.reduceToNat, Int.reduceNeg]
    refine loop_of (fun m st => ∃ b : Nat, b ≤ a.length ∧ m = a.length - b ∧ st = ⟨[(5, .ptr 5 0), (7, .bool true), (8, .ptr 8 0), (9, .sl true 1 (ints a)), (10, .ptr 10 0), (12, .ptr 12 0), (13, .int b)], [(5, oddC false z), (8, jobC true j), (10, [.sl true 1 (ints r.1), .int r.2.2, .int 0]), (12, [.int r.2.1, .int 0])], [], []⟩) a.length ?_ ?_
    · refine ⟨0, by omega, by omega, ?_⟩
      simp only [push_cast, reduceIte, Nat.reduceEqDiff, Nat.reduceAdd, Nat.reduceSub, Nat.reduceMul, Nat.reduceBEq, Nat.reduceLT, Nat.reduceLeDiff, reduceCtorEq, Int.reduceToNat, Int.reduceNeg]
    · rintro m st ⟨b, hb, rfl, rfl⟩
      simp only [push_cast, reduceIte, Nat.reduceEqDiff, Nat.reduceAdd, Nat.reduceSub, Nat.reduceMul, Nat.reduceBEq, Nat.reduceLT, Nat.reduceLeDiff, reduceCtorEq, Int.reduceToNat, Int.reduceNeg]
      refine cond_dec (fun h1 => ?_) fun h1 => ?_
      · have hb1 : b < a.length := by omega
        refine cal_sub (in_ok z.some_ b (by omega)) ⟨.refl _, .refl _, trivial⟩ ?_
        simp only [push_cast, reduceIte, Nat.reduceEqDiff, Nat.reduceAdd, Nat.reduceSub, Nat.reduceMul, Nat.reduceBEq, Nat.reduceLT, Nat.reduceLeDiff, reduceCtorEq, Int.reduceToNat, Int.reduceNeg]
        refine dcut_of ⟨[(5, .ptr 5 0), (7, .bool true), (8, .ptr 8 0), (9, .sl true 1 (ints a)), (10, .ptr 10 0), (12, .ptr 12 0), (13, .int b), (127, .bool false)], [(5, oddC false z), (8, jobC true j), (10, [.sl true 1 (ints r.1), .int r.2.2, .int 0]), (12, [.int r.2.1, .int 0])], [], []⟩ ?_ ?_
        · skip
          refine dgrd_dec rfl (fun h2 => ?_) fun h2 => ?_
          · simp only [push_cast, reduceIte, Nat.reduceEqDiff, Nat.reduceAdd, Nat.reduceSub, Nat.reduceMul, Nat.reduceBEq, Nat.reduceLT, Nat.reduceLeDiff, reduceCtorEq, Int.reduceToNat, Int.reduceNeg]
            refine ⟨by omega, by omega, by omega, hb1, ?_⟩
            rw [decide_eq_false (fun h3 => h3 (l10 b h2))]
          · simp only [push_cast, reduceIte, Nat.reduceEqDiff, Nat.reduceAdd, Nat.reduceSub, Nat.reduceMul, Nat.reduceBEq, Nat.reduceLT, Nat.reduceLeDiff, reduceCtorEq, Int.reduceToNat, Int.reduceNeg]
        · simp only [push_cast, reduceIte, Nat.reduceEqDiff, Nat.reduceAdd, Nat.reduceSub, Nat.reduceMul, Nat.reduceBEq, Nat.reduceLT, Nat.reduceLeDiff, reduceCtorEq, Int.reduceToNat, Int.reduceNeg]
          refine loop_of (fun m st => ∃ t : Nat, (t : Int) ≤ j.g.w * j.g.h ∧ m = (j.g.w * j.g.h).toNat - t ∧ st = ⟨[(5, .ptr 5 0), (7, .bool true), (8, .ptr 8 0), (9, .sl true 1 (ints a)), (10, .ptr 10 0), (12, .ptr 12 0), (13, .int b), (14, .int t)], [(5, oddC false z), (8, jobC true j), (10, [.sl true 1 (ints r.1), .int r.2.2, .int 0]), (12, [.int r.2.1, .int 0])], [], []⟩) (j.g.w * j.g.h).toNat ?_ ?_
          · refine ⟨0, by omega, by omega, ?_⟩
            simp only [push_cast, reduceIte, Nat.reduceEqDiff, Nat.reduceAdd, Nat.reduceSub, Nat.reduceMul, Nat.reduceBEq, Nat.reduceLT, Nat.reduceLeDiff, reduceCtorEq, Int.reduceToNat, Int.reduceNeg]
          · rintro m st ⟨t, ht, rfl, rfl⟩
            simp only [push_cast, reduceIte, Nat.reduceEqDiff, Nat.reduceAdd, Nat.reduceSub, Nat.reduceMul, Nat.reduceBEq, Nat.reduceLT, Nat.reduceLeDiff, reduceCtorEq, Int.reduceToNat, Int.reduceNeg]
            refine ⟨by omega, ?_⟩
            refine cond_dec (fun h2 => ?_) fun h2 => ?_
            · have ht1 : t < j.g.kind.length := by omega
              have hra : ((exchangedF r.1 b t).length : Int) ≤ 1000000 := by simp [exchangedF]; omega
              refine cal_sub (allowed_ok j hj r.1 z.some_ b t (by omega) hsl ⟨by omega, by omega⟩) ⟨Sub.aggL (jobC_sub j), .slp _ _ _ _ (fun h => by cases h), .refl _, .refl _, trivial⟩ ?_
              simp only [push_cast, reduceIte, Nat.reduceEqDiff, Nat.reduceAdd, Nat.reduceSub, Nat.reduceMul, Nat.reduceBEq, Nat.reduceLT, Nat.reduceLeDiff, reduceCtorEq, Int.reduceToNat, Int.reduceNeg]
              refine cond_of (fun h3 => ?_) fun h3 => ?_
              · refine ⟨by omega, _, ?_, t + 1, by omega, rfl, ?_⟩
                · omega
                · simp
              · obtain ⟨q1, q2⟩ := l11 b t hb1 ht1 (by simpa using h3)
                refine dcal_sub (exchanged_ok r.1 b t (by omega) ⟨by omega, by omega⟩) ⟨.slp _ _ _ _ (fun h => by cases h), .refl _, .refl _, trivial⟩ rfl ?_
                simp only [push_cast, reduceIte, Nat.reduceEqDiff, Nat.reduceAdd, Nat.reduceSub, Nat.reduceMul, Nat.reduceBEq, Nat.reduceLT, Nat.reduceLeDiff, reduceCtorEq, Int.reduceToNat, Int.reduceNeg]
                refine dcal_sub (lcost_ok j hj (exchangedF r.1 b t) hra) ⟨Sub.aggL (jobC_sub j), .slp _ _ _ _ (fun h => by cases h), trivial⟩ rfl ?_
                generalize cost1F j (exchangedF r.1 b t) = c at q1 q2 ⊢
                simp only [push_cast, reduceIte, Nat.reduceEqDiff, Nat.reduceAdd, Nat.reduceSub, Nat.reduceMul, Nat.reduceBEq, Nat.reduceLT, Nat.reduceLeDiff, reduceCtorEq, Int.reduceToNat, Int.reduceNeg]
                refine cut_of ⟨[(5, .ptr 5 0), (7, .bool true), (8, .ptr 8 0), (9, .sl true 1 (ints a)), (10, .ptr 10 0), (12, .ptr 12 0), (13, .int b), (14, .int t), (165, .bool false)], [(5, oddC false z), (8, jobC true j), (10, [.sl true 1 (ints r.1), .int r.2.2, .int 0]), (12, [.int r.2.1, .int 0]), (15, [.int c.1, .int c.2])], [], []⟩ ?_ ?_
                · refine grd_decf rfl (fun h => absurd q1 h) fun _ => ?_
                  simp only [push_cast, reduceIte, Nat.reduceEqDiff, Nat.reduceAdd, Nat.reduceSub, Nat.reduceMul, Nat.reduceBEq, Nat.reduceLT, Nat.reduceLeDiff, reduceCtorEq, Int.reduceToNat, Int.reduceNeg]
                  rw [decide_eq_false (by omega)]
                · simp only [push_cast, reduceIte, Nat.reduceEqDiff, Nat.reduceAdd, Nat.reduceSub, Nat.reduceMul, Nat.reduceBEq, Nat.reduceLT, Nat.reduceLeDiff, reduceCtorEq, Int.reduceToNat, Int.reduceNeg]
                  refine ⟨by omega, _, ?_, t + 1, by omega, rfl, ?_⟩
                  · omega
                  · simp
            · refine ⟨by omega, _, ?_, b + 1, by omega, rfl, ?_⟩
              · omega
              · simp
      · exact trivial
end Go.Proofs.Ytbdamnfkgdbidaa
/- PlacementImproves holds for every described packing, every described grid and all odd numbers: the row. -/
namespace Go.Proofs.Ytbdamnfkgdbidaa
open Go Go.ChangeShapes Go.WideShapes Go.ChangeAt Go.RowKit Go.Vc

theorem rawFlat : flatOk Try.prog 9 24 rawT = true := by kernel_rfl
theorem gridFlat : flatOk Try.prog 9 27 gridT = true := by kernel_rfl
theorem oddFlat : flatOk Try.prog 9 30 oddT = true := by kernel_rfl
theorem Try.own : ownKnob Try.prog.godebug = none := by kernel_rfl
theorem Try.laidOut : laidOutB Try.prog = true := by kernel_rfl
theorem boolU : Try.prog.underlying 4 = some .bool := by kernel_rfl
theorem paramsImproves : Try.f5.params = #[24, 27, 30] := by kernel_rfl

set_option maxRecDepth 100000 in
theorem improves_lifted (os : Os) (started : os.Started) (H : Type) (enc : TypeId × Value → H) :
    ReturnsInHanded {} Try.checked os 5 .any (Rows.placementImprovesSpec.pre6 enc Try.prog Try.f5 Rows.placementImprovesRow.domain false) (Rows.placementImprovesSpec.post enc Try.prog Try.f5 false true false false) := by
  refine returnsInHanded_of_change (C := Try.checked) Try.own started (by kernel_rfl) Try.func5
    (ChangeSpec.witness6 (enc := enc) (C := Try.checked) false ⟨#[], #[.agg #[.int .u8 0, .int .u8 0, .slice none 0 0], .agg #[.int .u8 0, .int .u8 0, .int .u8 0, .int .u8 0, .slice none 0 0],
      .agg #[.slice none 0 0, .slice none 0 0, .slice none 0 0, .slice none 0 0, .slice none 0 0, .int .i64 0, .int .i64 0, .int .i64 0]], []⟩ 8 (by kernel_rfl) (by kernel_rfl) (by kernel_rfl) (by kernel_rfl)) ?_
  intro W base args ds gs before hval0 hW hcnd _
  have hval : ∀ (j : Nat) t v, Try.f5.params[j]? = some t → args[j]? = some v → Value.okWide Try.prog W .any base t v := hval0
  have hW' := hW
  obtain ⟨p, q, hA0, hV, rfl, hfz, hnd⟩ := hW
  have hA : DataW.TrodAll enc Try.prog W 0 (fun _ => true) true Try.f5.params.toList args.toList ds p := hA0
  rw [paramsImproves] at hA hval
  obtain ⟨v0, v1, v2, d0, d1, d2, p0, p1, p2, rfl, rfl, rfl, h0, h1, h2⟩ := trodAll_three hA
  obtain ⟨rfl, rfl⟩ := trodVars_none hV
  obtain ⟨a, ra, ta⟩ := argTy rawFlat (by kernel_rfl) (hval 0 _ v0 rfl rfl) h0
  obtain ⟨b, rb, tb⟩ := argTy gridFlat (by kernel_rfl) (hval 1 _ v1 rfl rfl) h1
  obtain ⟨c, rc, tc⟩ := argTy oddFlat (by kernel_rfl) (hval 2 _ v2 rfl rfl) h2
  have hlt : ∀ x ∈ p0 ++ p1 ++ p2, x.block < W.heap.size := fun x hx => hW'.lt x (by simpa using hx)
  refine (zw_call (law_true improves_ok ra rb rc) rfl fun j cc hj => ?_).mono fun e W' ⟨he, hb⟩ => ?_
  · match j with
    | 0 => simp at hj; subst hj; exact ta
    | 1 => simp at hj; subst hj; exact tb
    | 2 => simp at hj; subst hj; exact tc
    | j + 3 => simp at hj
  · refine ⟨_, he, _, _, _, [], _, [], hW', ?_, trodAll_mk3 (Below.trod Try.laidOut (by kernel_rfl) (of_decide_eq_true (by kernel_rfl)) h0 hb fun x hx => hlt x (by simp [hx])) (Below.trod Try.laidOut (by kernel_rfl) (of_decide_eq_true (by kernel_rfl)) h1 hb fun x hx => hlt x (by simp [hx]))
        (Below.trod Try.laidOut (by kernel_rfl) (of_decide_eq_true (by kernel_rfl)) h2 hb fun x hx => hlt x (by simp [hx])), rfl, hb.frame _, fun h => by cases h⟩
    exact trodAll_mk1 (shut_bool boolU true)
theorem improves_holds : Rows.PlacementImprovesSaid :=
  OpenClaim.holds_of_wide 5 Try.f5 rfl rfl rfl rfl rfl rfl rfl ⟨rfl, rfl, rfl, rfl, rfl⟩ rfl rfl rfl rfl rfl (by kernel_rfl) Try.func5 (by kernel_rfl)
    (of_decide_eq_true (by kernel_rfl)) (by unfold Func.isWrapper; first | (rw [if_pos (by decide +kernel)]; kernel_rfl) | (rw [if_neg (by decide +kernel)]; exact ⟨rfl, rfl⟩))
    (fun os started H enc _ => improves_lifted os started H enc)
end Go.Proofs.Ytbdamnfkgdbidaa
