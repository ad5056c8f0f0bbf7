/- ZO ZP PLayouts: ConfigLayouts holds for every raw design: the row. -/
import Derived.Test.YtledbjkolidhkaaPart14
import Derived.Test.YtledbjkolidhkaaPart13
import Derived.Test.YtledbjkolidhkaaRows
set_option linter.unusedSimpArgs false
set_option linter.unusedVariables false
namespace Go.Proofs.Ytledbjkolidhkaa
open Go Go.Vc Txt
structure DesOk (g : Grid) (p : Packed) (l : Layout) : Prop where
  fit : FitsF p g l
  pos : l.pos.length ≤ 12
  rts : l.routes.length ≤ 5
  nds : ∀ r ∈ l.routes, r.nodes.length ≤ 16
theorem made_des {x : Raw31} (hx : x.By) : DesOk (gridM x.g) (packM x) (layM x) := by
  obtain ⟨h1, h2⟩ := blkN_ok (gridM x.g) x.blocks (min x.blocks.length 12)
  obtain ⟨q1, q2, q3, q4, q5⟩ := rtN_ok (gridM_ok x.g).1 x.routes (fun l hl => (hx.routes l hl).2) (min x.routes.length 5)
  refine ⟨made_fits hx, ?_, ?_, q5⟩
  · have := h1.len
    show (blkN _ _ _).2.length ≤ 12
    omega
  · show (rtN _ _ _).2.length ≤ 5
    omega
theorem nodesLen_take (rs : List Route) {k : Nat} {r : Route} (h : rs[k]? = some r) : nodesLen (rs.take (k + 1)) = nodesLen (rs.take k) + ((r.nodes.length : Int) - 1) := by
  rw [List.take_add_one, h]
  simp [nodesLen]
theorem nodesLen_bd : ∀ {rs : List Route}, (∀ r ∈ rs, 0 < r.nodes.length ∧ r.nodes.length ≤ 16) → 0 ≤ nodesLen rs ∧ nodesLen rs ≤ 15 * (rs.length : Int)
  | [], _ => by simp [nodesLen]
  | r :: rs, h => by
    have h1 := h r (by simp)
    have h2 := nodesLen_bd (rs := rs) fun r hr => h r (by simp [hr])
    simp only [nodesLen, List.map_cons, List.sum_cons, List.length_cons] at h2 ⊢
    omega
set_option maxHeartbeats 4000000 in
theorem layouts_ok (x : Raw31) (hx : x.By) : FnEq Try.prog 4 [.agg (raw31C false x)] (.bool true) := by
  have hd := made_des hx
  have hg := (gridM_ok x.g).1
  have hM := made31_ok x hx
  generalize packM x = p at *
  generalize layM x = l at *
  generalize gridM x.g = g at *
  have hcn := hg.count
  have hkd := hg.kind
  have hwh := hg.wh
  obtain ⟨hf, n1, n2, n3⟩ := hd
  have hE := encoded_ok p g hg l (by omega) (by omega) (fun r hr => by have := n3 r hr; omega)
  rw [encF_fit hg hf] at hE
  have hln := encC_len p g l
  have hsm : CfgSm (encC p g l) := by obtain ⟨q1, q2, q3, q4⟩ := hln; exact ⟨by omega, by omega, by omega, by omega⟩
  have hV := rvalid_ok g hg _ hsm
  have hV2 := valid_ok g hg _ hsm
  rw [encC_valid hg hf] at hV hV2
  have hS := fun r (hr : r ∈ l.routes) i hi => encC_source hg hf hr i hi
  have hss := encC_sels hg hf
  have hU := used_ok g _ hsm.sel
  have hUl := encC_used hg hf
  have hTl := tailsN_len (rs := l.routes) fun r hr => (hf.sh r hr).ne
  have hO := encC_off hf
  have hnd : ∀ r ∈ l.routes, r.nodes ≠ [] := fun r hr => (hf.sh r hr).ne
  generalize encC p g l = c at *
  obtain ⟨l1, l2, l3, l4⟩ := hln
  refine FnEq.of_awp Try.func4 ok4 (by show 1 ≤ _; decide) (by simp only [push_cast, reduceIte, Nat.reduceEqDiff, Nat.reduceAdd, Nat.reduceSub, Nat.reduceMul, Nat.reduceBEq, Nat.reduceLT, Nat.reduceLeDiff, reduceCtorEq, Int.reduceToNat, Int.reduceNeg] <;> first | exact fun _ _ => trivial | simp) ?_
  simp only [ac4, rv4, push_cast, reduceIte, Nat.reduceEqDiff, Nat.reduceAdd, Nat.reduceSub, Nat.reduceMul, Nat.reduceBEq, Nat.reduceLT, Nat.reduceLeDiff, reduceCtorEq, Int.reduceToNat, Int.reduceNeg]
  refine cal_eq examples_ok ?_
  simp only [push_cast, reduceIte, Nat.reduceEqDiff, Nat.reduceAdd, Nat.reduceSub, Nat.reduceMul, Nat.reduceBEq, Nat.reduceLT, Nat.reduceLeDiff, reduceCtorEq, Int.reduceToNat, Int.reduceNeg]
  refine cal_eq hM ?_
  simp only [push_cast, reduceIte, Nat.reduceEqDiff, Nat.reduceAdd, Nat.reduceSub, Nat.reduceMul, Nat.reduceBEq, Nat.reduceLT, Nat.reduceLeDiff, reduceCtorEq, Int.reduceToNat, Int.reduceNeg]
  refine cal_sub hE (by exact ⟨desC_sub g p l, trivial⟩) ?_
  simp only [push_cast, reduceIte, Nat.reduceEqDiff, Nat.reduceAdd, Nat.reduceSub, Nat.reduceMul, Nat.reduceBEq, Nat.reduceLT, Nat.reduceLeDiff, reduceCtorEq, Int.reduceToNat, Int.reduceNeg]
  refine cut_of ⟨[(3, .bool true), (4, .ptr 4 0), (5, .ptr 5 0), (49, .bool false)], [(1, raw31C false x), (4, desC true g p l), (5, cfgC true c ++ [.int 0])], [], []⟩ ?_ ?_
  · refine grd_decf rfl (fun e => absurd e (by decide)) fun _ => ?_
    simp only [push_cast, reduceIte, Nat.reduceEqDiff, Nat.reduceAdd, Nat.reduceSub, Nat.reduceMul, Nat.reduceBEq, Nat.reduceLT, Nat.reduceLeDiff, reduceCtorEq, Int.reduceToNat, Int.reduceNeg]
    refine cal_sub hV (by simp only [push_cast, reduceIte, Nat.reduceEqDiff, Nat.reduceAdd, Nat.reduceSub, Nat.reduceMul, Nat.reduceBEq, Nat.reduceLT, Nat.reduceLeDiff, reduceCtorEq, Int.reduceToNat, Int.reduceNeg]) ?_
    simp only [push_cast, reduceIte, Nat.reduceEqDiff, Nat.reduceAdd, Nat.reduceSub, Nat.reduceMul, Nat.reduceBEq, Nat.reduceLT, Nat.reduceLeDiff, reduceCtorEq, Int.reduceToNat, Int.reduceNeg]
    refine grd_decf rfl (fun e => absurd e (by decide)) fun _ => ?_
    simp only [push_cast, reduceIte, Nat.reduceEqDiff, Nat.reduceAdd, Nat.reduceSub, Nat.reduceMul, Nat.reduceBEq, Nat.reduceLT, Nat.reduceLeDiff, reduceCtorEq, Int.reduceToNat, Int.reduceNeg]
    refine cal_sub hV2 (by simp only [push_cast, reduceIte, Nat.reduceEqDiff, Nat.reduceAdd, Nat.reduceSub, Nat.reduceMul, Nat.reduceBEq, Nat.reduceLT, Nat.reduceLeDiff, reduceCtorEq, Int.reduceToNat, Int.reduceNeg]) ?_
    simp only [push_cast, reduceIte, Nat.reduceEqDiff, Nat.reduceAdd, Nat.reduceSub, Nat.reduceMul, Nat.reduceBEq, Nat.reduceLT, Nat.reduceLeDiff, reduceCtorEq, Int.reduceToNat, Int.reduceNeg]
    refine grd_decf rfl (fun e => absurd e (by decide)) fun _ => ?_
    simp only [push_cast, reduceIte, Nat.reduceEqDiff, Nat.reduceAdd, Nat.reduceSub, Nat.reduceMul, Nat.reduceBEq, Nat.reduceLT, Nat.reduceLeDiff, reduceCtorEq, Int.reduceToNat, Int.reduceNeg]
    rw [decide_eq_false (by omega)]
  simp only [push_cast, reduceIte, Nat.reduceEqDiff, Nat.reduceAdd, Nat.reduceSub, Nat.reduceMul, Nat.reduceBEq, Nat.reduceLT, Nat.reduceLeDiff, reduceCtorEq, Int.reduceToNat, Int.reduceNeg]
  refine loop_of (fun m st => ∃ k : Nat, k ≤ l.routes.length ∧ m = l.routes.length - k ∧ st = ⟨[(3, .bool true), (4, .ptr 4 0), (5, .ptr 5 0), (6, .int (nodesLen (l.routes.take k))), (7, .int 0), (8, .int k)], [(4, desC true g p l), (5, cfgC true c ++ [.int 0])], [], []⟩) l.routes.length ?_ ?_
  · refine ⟨0, by omega, by omega, ?_⟩
    simp only [push_cast, reduceIte, Nat.reduceEqDiff, Nat.reduceAdd, Nat.reduceSub, Nat.reduceMul, Nat.reduceBEq, Nat.reduceLT, Nat.reduceLeDiff, reduceCtorEq, Int.reduceToNat, Int.reduceNeg]
    rfl
  rintro m st ⟨k, hk, rfl, rfl⟩
  simp only [push_cast, reduceIte, Nat.reduceEqDiff, Nat.reduceAdd, Nat.reduceSub, Nat.reduceMul, Nat.reduceBEq, Nat.reduceLT, Nat.reduceLeDiff, reduceCtorEq, Int.reduceToNat, Int.reduceNeg]
  refine cond_dec (fun h => ?_) fun h => ?_
  · obtain ⟨r, hr, hrk⟩ : ∃ r, r ∈ l.routes ∧ l.routes[k]? = some r := ⟨l.routes[k], List.getElem_mem (by omega), List.getElem?_eq_getElem (by omega)⟩
    have hS2 := hS r hr
    have hne := hnd r hr
    have hnn := n3 r hr
    have hrd : l.routes.getD k default = r := by rw [List.getD_eq_getElem?_getD, hrk]; rfl
    simp only [hrd, push_cast, reduceIte, Nat.reduceEqDiff, Nat.reduceAdd, Nat.reduceSub, Nat.reduceMul, Nat.reduceBEq, Nat.reduceLT, Nat.reduceLeDiff, reduceCtorEq, Int.reduceToNat, Int.reduceNeg]
    refine ⟨by omega, by omega, ?_⟩
    refine loop_of (fun m st => ∃ j : Nat, j ≤ r.nodes.length ∧ m = r.nodes.length - j ∧ st = ⟨[(3, .bool true), (4, .ptr 4 0), (5, .ptr 5 0), (6, .int (nodesLen (l.routes.take k))), (7, .int 0), (8, .int k), (9, .ptr 9 0), (10, .int j)], [(4, desC true g p l), (5, cfgC true c ++ [.int 0]), (9, routeC true r)], [], []⟩) r.nodes.length ?_ ?_
    · refine ⟨0, by omega, by omega, ?_⟩
      simp only [push_cast, reduceIte, Nat.reduceEqDiff, Nat.reduceAdd, Nat.reduceSub, Nat.reduceMul, Nat.reduceBEq, Nat.reduceLT, Nat.reduceLeDiff, reduceCtorEq, Int.reduceToNat, Int.reduceNeg]
    rintro m st ⟨j, hj, rfl, rfl⟩
    simp only [push_cast, reduceIte, Nat.reduceEqDiff, Nat.reduceAdd, Nat.reduceSub, Nat.reduceMul, Nat.reduceBEq, Nat.reduceLT, Nat.reduceLeDiff, reduceCtorEq, Int.reduceToNat, Int.reduceNeg]
    refine cond_dec (fun h2 => ?_) fun h2 => ?_
    · have hSj := hS2 j (by omega)
      rw [show r.nodes.getD j default = r.nodes.getD j 0 from rfl]
      refine ⟨by omega, by omega, ?_⟩
      refine dcal_sub (lsource_ok g hg c hss (r.nodes.getD j 0)) ⟨Sub.aggL ⟨.refl _, .refl _, .refl _, .refl _, .slp _ _ _ _ (fun h => by cases h), trivial⟩, Sub.aggL ⟨.slp _ _ _ _ (fun h => by cases h), .slp _ _ _ _ (fun h => by cases h), .slp _ _ _ _ (fun h => by cases h), .slp _ _ _ _ (fun h => by cases h), trivial⟩, .refl _, trivial⟩ rfl ?_
      rw [hSj]
      simp only [push_cast, reduceIte, Nat.reduceEqDiff, Nat.reduceAdd, Nat.reduceSub, Nat.reduceMul, Nat.reduceBEq, Nat.reduceLT, Nat.reduceLeDiff, reduceCtorEq, Int.reduceToNat, Int.reduceNeg]
      refine dgrd_decf rfl (fun e => absurd rfl e) fun _ => ?_
      simp only [push_cast, reduceIte, Nat.reduceEqDiff, Nat.reduceAdd, Nat.reduceSub, Nat.reduceMul, Nat.reduceBEq, Nat.reduceLT, Nat.reduceLeDiff, reduceCtorEq, Int.reduceToNat, Int.reduceNeg]
      repeat (refine And.intro (by omega) ?_)
      refine cond_dec (fun e => absurd rfl e) fun _ => ?_
      refine ⟨by omega, _, ?_, j + 1, by omega, rfl, ?_⟩
      · omega
      · simp only [push_cast, reduceIte, Nat.reduceEqDiff, Nat.reduceAdd, Nat.reduceSub, Nat.reduceMul, Nat.reduceBEq, Nat.reduceLT, Nat.reduceLeDiff, reduceCtorEq, Int.reduceToNat, Int.reduceNeg]
    have hbk := nodesLen_bd (rs := l.routes.take k) fun r hr => ⟨List.length_pos_iff.2 (hnd r (List.mem_of_mem_take hr)), n3 r (List.mem_of_mem_take hr)⟩
    rw [List.length_take] at hbk
    refine ⟨by omega, by omega, by omega, _, ?_, k + 1, by omega, rfl, ?_⟩
    · omega
    · rw [nodesLen_take l.routes hrk]
      simp only [push_cast, reduceIte, Nat.reduceEqDiff, Nat.reduceAdd, Nat.reduceSub, Nat.reduceMul, Nat.reduceBEq, Nat.reduceLT, Nat.reduceLeDiff, reduceCtorEq, Int.reduceToNat, Int.reduceNeg]
  rw [List.take_of_length_le (show l.routes.length ≤ k by omega)]
  have hiz : idxF (fun i => decide (c.mode.getD i 0 = 0)) 0 = [] := rfl
  refine loop_of (fun m st => ∃ t : Nat, t ≤ c.mode.length ∧ m = c.mode.length - t ∧ st = ⟨[(3, .bool true), (4, .ptr 4 0), (5, .ptr 5 0), (6, .int (nodesLen l.routes)), (7, .int (idxF (fun i => decide (c.mode.getD i 0 = 0)) t).length), (12, .int t)], [(4, desC true g p l), (5, cfgC true c ++ [.int 0])], [], []⟩) c.mode.length ?_ ?_
  · refine ⟨0, by omega, by omega, ?_⟩
    simp only [hiz, List.length_nil, push_cast, reduceIte, Nat.reduceEqDiff, Nat.reduceAdd, Nat.reduceSub, Nat.reduceMul, Nat.reduceBEq, Nat.reduceLT, Nat.reduceLeDiff, reduceCtorEq, Int.reduceToNat, Int.reduceNeg]
  rintro m st ⟨t, ht, rfl, rfl⟩
  have hit : idxF (fun i => decide (c.mode.getD i 0 = 0)) (t + 1) = idxF (fun i => decide (c.mode.getD i 0 = 0)) t ++ if c.mode.getD t 0 = 0 then [(t : Int)] else [] := by rw [idxF]; simp only [decide_eq_true_eq]
  have hil := idxF_len (fun i => decide (c.mode.getD i 0 = 0)) t
  simp only [push_cast, reduceIte, Nat.reduceEqDiff, Nat.reduceAdd, Nat.reduceSub, Nat.reduceMul, Nat.reduceBEq, Nat.reduceLT, Nat.reduceLeDiff, reduceCtorEq, Int.reduceToNat, Int.reduceNeg]
  refine cond_dec (fun h2 => ?_) fun h2 => ?_
  · rw [show c.mode.getD t default = c.mode.getD t 0 from rfl]
    refine ⟨by omega, by omega, ?_⟩
    refine cond_dec (fun h3 => ?_) fun h3 => ?_
    · rw [if_pos h3] at hit
      refine ⟨by omega, by omega, _, ?_, t + 1, by omega, rfl, ?_⟩
      · omega
      · rw [hit, List.length_append, List.length_singleton]
        simp only [push_cast, reduceIte, Nat.reduceEqDiff, Nat.reduceAdd, Nat.reduceSub, Nat.reduceMul, Nat.reduceBEq, Nat.reduceLT, Nat.reduceLeDiff, reduceCtorEq, Int.reduceToNat, Int.reduceNeg]
    · rw [if_neg h3, List.append_nil] at hit
      refine ⟨by omega, _, ?_, t + 1, by omega, rfl, ?_⟩
      · omega
      · rw [hit]
        simp only [push_cast, reduceIte, Nat.reduceEqDiff, Nat.reduceAdd, Nat.reduceSub, Nat.reduceMul, Nat.reduceBEq, Nat.reduceLT, Nat.reduceLeDiff, reduceCtorEq, Int.reduceToNat, Int.reduceNeg]
  rw [show t = c.mode.length by omega]
  refine cal_sub hU ⟨Sub.aggL ⟨.refl _, .refl _, .refl _, .refl _, .slp _ _ _ _ (fun h => by cases h), trivial⟩, Sub.aggL ⟨.slp _ _ _ _ (fun h => by cases h), .slp _ _ _ _ (fun h => by cases h), .slp _ _ _ _ (fun h => by cases h), .slp _ _ _ _ (fun h => by cases h), trivial⟩, trivial⟩ ?_
  simp only [push_cast, reduceIte, Nat.reduceEqDiff, Nat.reduceAdd, Nat.reduceSub, Nat.reduceMul, Nat.reduceBEq, Nat.reduceLT, Nat.reduceLeDiff, reduceCtorEq, Int.reduceToNat, Int.reduceNeg]
  have hO2 : (idxF (fun i => decide (c.mode.getD i 0 = 0)) c.mode.length).length + p.blocks.length = c.mode.length := hO
  refine grd_dec rfl (fun e => ?_) fun e => absurd (by omega) e
  simp only [push_cast, reduceIte, Nat.reduceEqDiff, Nat.reduceAdd, Nat.reduceSub, Nat.reduceMul, Nat.reduceBEq, Nat.reduceLT, Nat.reduceLeDiff, reduceCtorEq, Int.reduceToNat, Int.reduceNeg]
  refine ⟨by omega, ?_⟩
  refine grd_dec rfl (fun e => ?_) fun e => absurd (by omega) e
  simp only [push_cast, reduceIte, Nat.reduceEqDiff, Nat.reduceAdd, Nat.reduceSub, Nat.reduceMul, Nat.reduceBEq, Nat.reduceLT, Nat.reduceLeDiff, reduceCtorEq, Int.reduceToNat, Int.reduceNeg]
end Go.Proofs.Ytledbjkolidhkaa
namespace Go.Proofs.Ytledbjkolidhkaa
open Go Go.Vc Txt
def raw31T : List Ty := [.i .u8, .i .u8, .i .u8, .i .u8, .sl 1 [.i .u8], .sl 3 [.i .u8, .i .u8, .i .u8], .sl 1 [.sl 1 [.i .u8]]]
theorem raw31_of {a : List PV} (h : RowV raw31T a) : ∃ x : Raw31, x.By ∧ a = raw31C true x := by
  obtain ⟨c0, a0, rfl, h0, k0⟩ := rowV_cons h
  obtain ⟨c1, a1, rfl, h1, k1⟩ := rowV_cons k0
  obtain ⟨c2, a2, rfl, h2, k2⟩ := rowV_cons k1
  obtain ⟨c3, a3, rfl, h3, k3⟩ := rowV_cons k2
  obtain ⟨c4, a4, rfl, h4, k4⟩ := rowV_cons k3
  obtain ⟨c5, a5, rfl, h5, k5⟩ := rowV_cons k4
  obtain ⟨c6, a6, rfl, h6, k6⟩ := rowV_cons k5
  obtain ⟨n0, rfl, b0⟩ := cellV_u8 h0
  obtain ⟨n1, rfl, b1⟩ := cellV_u8 h1
  obtain ⟨n2, rfl, b2⟩ := cellV_u8 h2
  obtain ⟨n3, rfl, b3⟩ := cellV_u8 h3
  obtain ⟨l, rfl, hn, hl⟩ := cellV_bytes h4
  obtain ⟨rs, rfl, hrl, hr⟩ := cellV_sl h5
  obtain ⟨bs, rfl, hbs⟩ := rows_all (f := tripC) (Q := fun y => (0 ≤ y.1 ∧ y.1 ≤ 255) ∧ (0 ≤ y.2.1 ∧ y.2.1 ≤ 255) ∧ (0 ≤ y.2.2 ∧ y.2.2 ≤ 255)) (rs := rs) fun r hr2 => by
    obtain ⟨d0, q0, rfl, e0, g0⟩ := rowV_cons (hr r hr2)
    obtain ⟨d1, q1, rfl, e1, g1⟩ := rowV_cons g0
    obtain ⟨d2, q2, rfl, e2, g2⟩ := rowV_cons g1
    obtain ⟨m0, rfl, f0⟩ := cellV_u8 e0
    obtain ⟨m1, rfl, f1⟩ := cellV_u8 e1
    obtain ⟨m2, rfl, f2⟩ := cellV_u8 e2
    rw [rowV_nil g2]
    exact ⟨(m0, m1, m2), rfl, f0, f1, f2⟩
  obtain ⟨ss, rfl, hsl, hs⟩ := cellV_sl h6
  obtain ⟨xs, rfl, hxs⟩ := rows_all (f := bytesL true) (Q := fun l => (l.length : Int) ≤ 9223372036854775807 ∧ ∀ y ∈ l, 0 ≤ y ∧ y ≤ 255) (rs := ss) fun r hr2 => by
    obtain ⟨d0, q0, rfl, e0, g0⟩ := rowV_cons (hs r hr2)
    obtain ⟨m, rfl, f0, f1⟩ := cellV_bytes e0
    rw [rowV_nil g0]
    exact ⟨m, rfl, f0, f1⟩
  rw [rowV_nil k6]
  have : maxLen = 9223372036854775807 := rfl
  simp only [rows, List.length_map] at hrl hsl
  exact ⟨⟨⟨n0, n1, n2, n3, l⟩, bs, xs⟩, ⟨⟨b0, b1, b2, b3, hn, hl⟩, by show (bs.length : Int) ≤ _; omega, hbs, by show (xs.length : Int) ≤ _; omega, hxs⟩, rfl⟩
theorem raw31C_sub (x : Raw31) : Sub (.agg (raw31C true x)) (.agg (raw31C false x)) := by
  have sl : ∀ (es : Nat) (xs : List (List PV)), Sub (.sl true es xs) (.sl false es xs) := fun es xs => .slp _ _ _ _ (fun h => by cases h)
  exact Sub.aggL ⟨.refl _, .refl _, .refl _, .refl _, sl _ _, sl _ _, Sub.slR 1 (fun h => by cases h) (SubR.map _ _ _ fun r _ => ⟨sl _ _, trivial⟩), trivial⟩
theorem raw1_true {f : Nat} (hok : ∀ (x : Raw31), x.By → FnEq Try.prog f [.agg (raw31C false x)] (.bool true)) {a : List PV} (ha : RowV raw31T a) : FnEq Try.prog f [.agg a] (.bool true) := by
  obtain ⟨x, hx, rfl⟩ := raw31_of ha
  exact FnOK.sub (hok x hx) ⟨raw31C_sub x, trivial⟩
end Go.Proofs.Ytledbjkolidhkaa
namespace Go.Proofs.Ytledbjkolidhkaa
open Go Go.ChangeShapes Go.WideShapes Go.ChangeAt Go.RowKit Go.Vc
theorem flat0 : flatOk Try.prog 9 28 raw31T = true := by kernel_rfl
theorem Try.own : ownKnob Try.prog.godebug = none := by kernel_rfl
theorem Try.laidOut : laidOutB Try.prog = true := by kernel_rfl
theorem boolU : Try.prog.underlying 4 = some .bool := by kernel_rfl
theorem paramsT : Try.f4.params = #[28] := by kernel_rfl
set_option maxRecDepth 100000 in
theorem layouts_lifted (os : Os) (started : os.Started) (H : Type) (enc : TypeId × Value → H) :
    ReturnsInHanded {} Try.checked os 4 .any (Rows.configLayoutsSpec.pre6 enc Try.prog Try.f4 Rows.configLayoutsRow.domain false) (Rows.configLayoutsSpec.post enc Try.prog Try.f4 false true false false) := by
  refine returnsInHanded_of_change (C := Try.checked) Try.own started (by kernel_rfl) Try.func4
    (ChangeSpec.witness6 (enc := enc) (C := Try.checked) false ⟨#[], #[.agg #[.int .u8 0, .int .u8 0, .int .u8 0, .int .u8 0, .slice none 0 0, .slice none 0 0, .slice none 0 0]], []⟩ 8 (by kernel_rfl) (by kernel_rfl) (by kernel_rfl) (by kernel_rfl)) ?_
  intro W base args ds gs before hval0 hW hcnd _
  have hval : ∀ (j : Nat) t v, Try.f4.params[j]? = some t → args[j]? = some v → Value.okWide Try.prog W .any base t v := hval0
  have hW' := hW
  obtain ⟨p, q, hA0, hV, rfl, hfz, hnd⟩ := hW
  have hA : DataW.TrodAll enc Try.prog W 0 (fun _ => true) true Try.f4.params.toList args.toList ds p := hA0
  rw [paramsT] at hA hval
  obtain ⟨v0, d0, rfl, rfl, h0⟩ := trodAll_one hA
  obtain ⟨rfl, rfl⟩ := trodVars_none hV
  obtain ⟨a0, r0, t0⟩ := argTy flat0 (by kernel_rfl) (hval 0 _ v0 rfl rfl) h0
  have hlt : ∀ x ∈ p, x.block < W.heap.size := fun x hx => hW'.lt x (by simpa using hx)
  refine (zw_call (raw1_true layouts_ok r0) rfl fun j cc hj => ?_).mono fun e W' ⟨he, hb⟩ => ?_
  · match j with
    | 0 => simp at hj; subst hj; exact t0
    | j + 1 => simp at hj
  · refine ⟨_, he, _, _, _, [], _, [], hW', ?_, trodAll_mk1 (Below.trod Try.laidOut (by kernel_rfl) (of_decide_eq_true (by kernel_rfl)) h0 hb fun x hx => hlt x (by simp [hx])), rfl, hb.frame _, fun h => by cases h⟩
    exact trodAll_mk1 (shut_bool boolU true)
theorem layouts_holds : Rows.ConfigLayoutsSaid :=
  OpenClaim.holds_of_wide 4 Try.f4 rfl rfl rfl rfl rfl rfl rfl ⟨rfl, rfl, rfl, rfl, rfl⟩ rfl rfl rfl rfl rfl (by kernel_rfl) Try.func4 (by kernel_rfl)
    (of_decide_eq_true (by kernel_rfl)) (by unfold Func.isWrapper; first | (rw [if_pos (by decide +kernel)]; kernel_rfl) | (rw [if_neg (by decide +kernel)]; exact ⟨rfl, rfl⟩))
    (fun os started H enc _ => layouts_lifted os started H enc)
end Go.Proofs.Ytledbjkolidhkaa
