/- Z ZA TxtJ ZB ZC ZD ZE ZV ZW TxtK ZY TxtL ZU PDiffers: ConfigDiffers holds for every described grid, all bytes and all odd configurations: the row. -/
import Derived.Test.YtledbjkolidhkabPart12
import Derived.Test.YtledbjkolidhkabPart06
import Derived.Test.YtledbjkolidhkabChecked
import Derived.Test.YtledbjkolidhkabPart07
import Derived.Test.YtledbjkolidhkabRows
set_option linter.unusedSimpArgs false
set_option linter.unusedVariables false
namespace Go.Proofs.Ytledbjkolidhkab
open Go Go.Vc Txt
def sourceS (g : Grid) (c : Cfg) : Nat → List Int → Int → Int × Int
  | 0, _, _ => (0, 50)
  | f + 1, sn, n => if n ∈ sn then (0, 50) else if driversF g n = [] then (n, 0) else if c.sel.getD n.toNat 0 = 0 then (0, 4) else
      sourceS g c f (sn ++ [n]) ((driversF g n).getD (c.sel.getD n.toNat 0 - 1).toNat 0)
def sourceF (g : Grid) (c : Cfg) (n : Int) : Int × Int := if 0 ≤ n ∧ n ≤ (c.sel.length : Int) - 1 then sourceS g c (c.sel.length + 1) [] n else (0, 4)
structure SelsOk (g : Grid) (c : Cfg) : Prop where
  len : c.sel.length = (countF g).toNat
  sel : ∀ i, i < c.sel.length → SelAt g c i
theorem candN_rng (g : Grid) (s : Spot) : ∀ k, ∀ x ∈ candN g s k, 0 ≤ x ∧ x < k
  | 0, x, h => by simp [candN] at h
  | k + 1, x, h => by
    rw [candN, List.mem_append] at h
    rcases h with h | h
    · have := candN_rng g s k x h; omega
    · split at h
      · simp at h; omega
      · simp at h
theorem driversF_rng {g : Grid} (hg : GOk g) (n x : Int) (h : x ∈ driversF g n) : 0 ≤ x ∧ x < (countF g).toNat := by
  rw [drivers_eq hg, rdrF] at h
  split at h
  · exact candN_rng _ _ _ _ h
  · simp at h
theorem getD_mem {l : List Int} {k : Nat} (h : k < l.length) : l.getD k 0 ∈ l := by simp [h]
set_option maxHeartbeats 2000000 in
theorem source_ok (g : Grid) (hg : GOk g) (c : Cfg) (hc : SelsOk g c) (n : Int) : FnEq Try.prog 29 [.agg (gridC false g), .agg (cfgC false c), .int n] (.tup [.int (sourceF g c n).1, .int (sourceF g c n).2]) := by
  have h1 := hg.count
  have h2 := hc.len
  refine FnEq.of_awp Try.func29 ok29 (by show 3 ≤ _; decide) (by simp only [push_cast, reduceIte, Nat.reduceEqDiff, Nat.reduceAdd, Nat.reduceSub, Nat.reduceMul, Nat.reduceBEq, Nat.reduceLT, Nat.reduceLeDiff, reduceCtorEq, Int.reduceToNat, Int.reduceNeg] <;> first | exact fun _ _ => trivial | simp) ?_
  simp only [ac29, rv29, push_cast, reduceIte, Nat.reduceEqDiff, Nat.reduceAdd, Nat.reduceSub, Nat.reduceMul, Nat.reduceBEq, Nat.reduceLT, Nat.reduceLeDiff, reduceCtorEq, Int.reduceToNat, Int.reduceNeg]
  refine ⟨by omega, ?_⟩
  refine cal_eq (within_ok _ _ _) ?_
  simp only [push_cast, reduceIte, Nat.reduceEqDiff, Nat.reduceAdd, Nat.reduceSub, Nat.reduceMul, Nat.reduceBEq, Nat.reduceLT, Nat.reduceLeDiff, reduceCtorEq, Int.reduceToNat, Int.reduceNeg]
  refine cond_of (fun e => ?_) fun e => ?_
  · have e := not_dec e
    rw [sourceF, if_neg (by omega)]
    exact ⟨rfl, rfl⟩
  have e := not_dec' e
  have hF : sourceF g c n = sourceS g c (c.sel.length + 1) [] n := if_pos (by omega)
  rw [hF]
  clear hF
  refine loop_of (fun m st => ∃ (sn : List Int) (x : Int), m + sn.length = c.sel.length ∧ sn.Nodup ∧ (∀ y ∈ sn, 0 ≤ y ∧ y < c.sel.length) ∧ (0 ≤ x ∧ x < c.sel.length) ∧
    sourceS g c (c.sel.length + 1) [] n = sourceS g c (m + 1) sn x ∧ st = ⟨[(2, .int x), (3, .ptr 3 0), (4, .ptr 4 0), (8, .mp 17)], [(3, gridC false g), (4, cfgC false c)], [], [(17, ⟨.int .i64, seenM sn, none⟩)]⟩) c.sel.length ?_ ?_
  · refine ⟨[], n, by simp, .nil, by simp, by omega, rfl, ?_⟩
    simp only [seenM, List.map_nil, push_cast, reduceIte, Nat.reduceEqDiff, Nat.reduceAdd, Nat.reduceSub, Nat.reduceMul, Nat.reduceBEq, Nat.reduceLT, Nat.reduceLeDiff, reduceCtorEq, Int.reduceToNat, Int.reduceNeg]
  rintro m st ⟨sn, x, hm, hnd, hr, hx, hS, rfl⟩
  rw [hS]
  have hmg : mlkT false (.sc (.bool false)) (mget (seenM sn) (.int .i64 x)) = .sc (.bool (decide (x ∈ sn))) := by
    rw [mget_seen]
    by_cases h : x ∈ sn <;> simp [h, mlkT]
  simp only [hmg, push_cast, reduceIte, Nat.reduceEqDiff, Nat.reduceAdd, Nat.reduceSub, Nat.reduceMul, Nat.reduceBEq, Nat.reduceLT, Nat.reduceLeDiff, reduceCtorEq, Int.reduceToNat, Int.reduceNeg]
  refine cond_of (fun e2 => ?_) fun e2 => ?_
  rotate_left
  · have e2 : x ∈ sn := not_dec' e2
    rw [sourceS, if_pos e2]
    exact ⟨rfl, rfl⟩
  have e2 : x ∉ sn := not_dec e2
  simp only [mput_seen x sn e2, push_cast, reduceIte, Nat.reduceEqDiff, Nat.reduceAdd, Nat.reduceSub, Nat.reduceMul, Nat.reduceBEq, Nat.reduceLT, Nat.reduceLeDiff, reduceCtorEq, Int.reduceToNat, Int.reduceNeg]
  have hnd' : (sn ++ [x]).Nodup := List.nodup_append.2 ⟨hnd, by simp, by intro a ha b hb h; simp at hb; subst hb; subst h; exact e2 ha⟩
  have hr' : ∀ y ∈ sn ++ [x], 0 ≤ y ∧ y < c.sel.length := fun y hy => by
    rw [List.mem_append, List.mem_singleton] at hy
    rcases hy with hy | rfl
    · exact hr y hy
    · exact hx
  have hln := nodup_rng (n := c.sel.length) hnd' hr'
  rw [List.length_append, List.length_singleton] at hln
  obtain ⟨k, rfl⟩ : ∃ k, m = k + 1 := ⟨m - 1, by omega⟩
  have hdl := driversF_len g hg x
  refine cal_sub (drivers_ok g hg x (by omega)) (by simp only [push_cast, reduceIte, Nat.reduceEqDiff, Nat.reduceAdd, Nat.reduceSub, Nat.reduceMul, Nat.reduceBEq, Nat.reduceLT, Nat.reduceLeDiff, reduceCtorEq, Int.reduceToNat, Int.reduceNeg]) ?_
  simp only [push_cast, reduceIte, Nat.reduceEqDiff, Nat.reduceAdd, Nat.reduceSub, Nat.reduceMul, Nat.reduceBEq, Nat.reduceLT, Nat.reduceLeDiff, reduceCtorEq, Int.reduceToNat, Int.reduceNeg]
  refine cond_dec (fun h0 => ?_) fun h0 => ?_
  · have hd : driversF g x = [] := List.length_eq_zero_iff.1 (by omega)
    rw [sourceS, if_neg e2, if_pos hd]
    exact ⟨rfl, rfl⟩
  have hd : ¬ driversF g x = [] := fun h => h0 (by rw [h]; rfl)
  refine ⟨by omega, by omega, ?_⟩
  have e0 : ∀ (l : List Int) (j : Nat), l.getD j default = l.getD j 0 := fun _ _ => rfl
  simp only [e0]
  refine cond_dec (fun h3 => ?_) fun h3 => ?_
  · rw [sourceS, if_neg e2, if_neg hd, if_pos h3]
    exact ⟨rfl, rfl⟩
  have hsa := hc.sel x.toNat (by omega) h3
  rw [show ((x.toNat : Nat) : Int) = x by omega] at hsa
  have hgm := driversF_rng hg x _ (getD_mem (l := driversF g x) (k := (c.sel.getD x.toNat 0 - 1).toNat) (by omega))
  have hst : sourceS g c (k + 1 + 1) sn x = sourceS g c (k + 1) (sn ++ [x]) ((driversF g x).getD (c.sel.getD x.toNat 0 - 1).toNat 0) := by
    rw [sourceS, if_neg e2, if_neg hd, if_neg h3]
  generalize c.sel.getD x.toNat 0 = s at *
  refine ⟨by omega, by omega, by omega, by omega, by omega, _, ?_, sn ++ [x], _, ?_, hnd', hr', ?_, hst, ?_⟩
  · omega
  · rw [List.length_append, List.length_singleton]; omega
  · omega
  · simp only [e0, push_cast, reduceIte, Nat.reduceEqDiff, Nat.reduceAdd, Nat.reduceSub, Nat.reduceMul, Nat.reduceBEq, Nat.reduceLT, Nat.reduceLeDiff, reduceCtorEq, Int.reduceToNat, Int.reduceNeg]
theorem same_ok (c d : Cfg) (hc : CfgSm c) (hd : CfgSm d) : FnEq Try.prog 9 [.agg (cfgC false c), .agg (cfgC false d)] (.bool (decide (c = d))) := by
  have i0 := ints_ok c.sel d.sel hc.sel hd.sel
  have i1 := ints_ok c.mode d.mode hc.mode hd.mode
  have i2 := ints_ok c.tab d.tab hc.tab hd.tab
  have i3 := ints_ok c.ram d.ram hc.ram hd.ram
  have hE : c = d ↔ c.sel = d.sel ∧ c.mode = d.mode ∧ c.tab = d.tab ∧ c.ram = d.ram := by
    cases c; cases d; simp
  refine FnEq.of_awp Try.func9 ok9 (by show 2 ≤ _; decide) (by simp only [push_cast, reduceIte, Nat.reduceEqDiff, Nat.reduceAdd, Nat.reduceSub, Nat.reduceMul, Nat.reduceBEq, Nat.reduceLT, Nat.reduceLeDiff, reduceCtorEq, Int.reduceToNat, Int.reduceNeg] <;> first | exact fun _ _ => trivial | simp) ?_
  simp only [ac9, rv9, push_cast, reduceIte, Nat.reduceEqDiff, Nat.reduceAdd, Nat.reduceSub, Nat.reduceMul, Nat.reduceBEq, Nat.reduceLT, Nat.reduceLeDiff, reduceCtorEq, Int.reduceToNat, Int.reduceNeg]
  refine cal_eq i0 ?_
  simp only [push_cast, reduceIte, Nat.reduceEqDiff, Nat.reduceAdd, Nat.reduceSub, Nat.reduceMul, Nat.reduceBEq, Nat.reduceLT, Nat.reduceLeDiff, reduceCtorEq, Int.reduceToNat, Int.reduceNeg]
  refine grd_dec rfl (fun e1 => ?_) fun e1 => ?_ <;> simp only [push_cast, reduceIte, Nat.reduceEqDiff, Nat.reduceAdd, Nat.reduceSub, Nat.reduceMul, Nat.reduceBEq, Nat.reduceLT, Nat.reduceLeDiff, reduceCtorEq, Int.reduceToNat, Int.reduceNeg]
  · refine cal_eq i1 ?_
    simp only [push_cast, reduceIte, Nat.reduceEqDiff, Nat.reduceAdd, Nat.reduceSub, Nat.reduceMul, Nat.reduceBEq, Nat.reduceLT, Nat.reduceLeDiff, reduceCtorEq, Int.reduceToNat, Int.reduceNeg]
    refine grd_dec rfl (fun e2 => ?_) fun e2 => ?_ <;> simp only [push_cast, reduceIte, Nat.reduceEqDiff, Nat.reduceAdd, Nat.reduceSub, Nat.reduceMul, Nat.reduceBEq, Nat.reduceLT, Nat.reduceLeDiff, reduceCtorEq, Int.reduceToNat, Int.reduceNeg]
    · refine cal_eq i2 ?_
      simp only [push_cast, reduceIte, Nat.reduceEqDiff, Nat.reduceAdd, Nat.reduceSub, Nat.reduceMul, Nat.reduceBEq, Nat.reduceLT, Nat.reduceLeDiff, reduceCtorEq, Int.reduceToNat, Int.reduceNeg]
      refine grd_dec rfl (fun e3 => ?_) fun e3 => ?_ <;> simp only [push_cast, reduceIte, Nat.reduceEqDiff, Nat.reduceAdd, Nat.reduceSub, Nat.reduceMul, Nat.reduceBEq, Nat.reduceLT, Nat.reduceLeDiff, reduceCtorEq, Int.reduceToNat, Int.reduceNeg]
      · refine cal_eq i3 ?_
        simp only [push_cast, reduceIte, Nat.reduceEqDiff, Nat.reduceAdd, Nat.reduceSub, Nat.reduceMul, Nat.reduceBEq, Nat.reduceLT, Nat.reduceLeDiff, reduceCtorEq, Int.reduceToNat, Int.reduceNeg]
        simp_all
      · simp_all
    · simp_all
  · simp_all
def desC (q : Bool) (g : Grid) (p : Packed) (l : Layout) : List PV := gridC q g ++ packC q p ++ layC q l
@[push_cast] theorem desC_eq (q : Bool) (g : Grid) (p : Packed) (l : Layout) : desC q g p l = gridC q g ++ packC q p ++ layC q l := rfl
theorem encoded_ok (p : Packed) (g : Grid) (hg : GOk g) (l : Layout) (hl : (l.pos.length : Int) ≤ 1000000) (hl2 : (l.routes.length : Int) ≤ 1000000) (hl3 : ∀ r ∈ l.routes, (r.nodes.length : Int) ≤ 1000000) :
    FnEq Try.prog 12 [.agg (desC false g p l)] (.agg (cfgC true (encF p g l).1 ++ [.int (encF p g l).2])) := by
  have h := encode_ok p g hg l hl hl2 hl3
  rw [encV] at h
  generalize encF p g l = r at h ⊢
  refine FnEq.of_awp Try.func12 ok12 (by show 1 ≤ _; decide) (by simp only [push_cast, reduceIte, Nat.reduceEqDiff, Nat.reduceAdd, Nat.reduceSub, Nat.reduceMul, Nat.reduceBEq, Nat.reduceLT, Nat.reduceLeDiff, reduceCtorEq, Int.reduceToNat, Int.reduceNeg] <;> first | exact fun _ _ => trivial | simp) ?_
  simp only [ac12, rv12, push_cast, reduceIte, Nat.reduceEqDiff, Nat.reduceAdd, Nat.reduceSub, Nat.reduceMul, Nat.reduceBEq, Nat.reduceLT, Nat.reduceLeDiff, reduceCtorEq, Int.reduceToNat, Int.reduceNeg]
  refine cal_sub h (by simp only [push_cast, reduceIte, Nat.reduceEqDiff, Nat.reduceAdd, Nat.reduceSub, Nat.reduceMul, Nat.reduceBEq, Nat.reduceLT, Nat.reduceLeDiff, reduceCtorEq, Int.reduceToNat, Int.reduceNeg]) ?_
  simp only [push_cast, reduceIte, Nat.reduceEqDiff, Nat.reduceAdd, Nat.reduceSub, Nat.reduceMul, Nat.reduceBEq, Nat.reduceLT, Nat.reduceLeDiff, reduceCtorEq, Int.reduceToNat, Int.reduceNeg]
  exact ⟨fun _ _ => trivial, fun _ _ => trivial, fun _ _ => trivial, fun _ _ => trivial⟩
theorem lsource_ok (g : Grid) (hg : GOk g) (c : Cfg) (hc : SelsOk g c) (n : Int) : FnEq Try.prog 16 [.agg (gridC false g), .agg (cfgC false c), .int n] (.agg [.int (sourceF g c n).1, .int (sourceF g c n).2]) := by
  have h := source_ok g hg c hc n
  refine FnEq.of_awp Try.func16 ok16 (by show 3 ≤ _; decide) (by simp only [push_cast, reduceIte, Nat.reduceEqDiff, Nat.reduceAdd, Nat.reduceSub, Nat.reduceMul, Nat.reduceBEq, Nat.reduceLT, Nat.reduceLeDiff, reduceCtorEq, Int.reduceToNat, Int.reduceNeg] <;> first | exact fun _ _ => trivial | simp) ?_
  simp only [ac16, rv16, push_cast, reduceIte, Nat.reduceEqDiff, Nat.reduceAdd, Nat.reduceSub, Nat.reduceMul, Nat.reduceBEq, Nat.reduceLT, Nat.reduceLeDiff, reduceCtorEq, Int.reduceToNat, Int.reduceNeg]
  refine cal_sub h (by simp only [push_cast, reduceIte, Nat.reduceEqDiff, Nat.reduceAdd, Nat.reduceSub, Nat.reduceMul, Nat.reduceBEq, Nat.reduceLT, Nat.reduceLeDiff, reduceCtorEq, Int.reduceToNat, Int.reduceNeg]) ?_
  simp only [push_cast, reduceIte, Nat.reduceEqDiff, Nat.reduceAdd, Nat.reduceSub, Nat.reduceMul, Nat.reduceBEq, Nat.reduceLT, Nat.reduceLeDiff, reduceCtorEq, Int.reduceToNat, Int.reduceNeg]
theorem ldiffer_ok (c d : Cfg) (hc : CfgSm c) (hd : CfgSm d) : FnEq Try.prog 8 [.agg (cfgC false c), .agg (cfgC false d)] (.agg [.sl true 1 (ints (differF c d).1), .sl true 1 (ints (differF c d).2)]) := by
  have h := differ_ok c d hc hd
  refine FnEq.of_awp Try.func8 ok8 (by show 2 ≤ _; decide) (by simp only [push_cast, reduceIte, Nat.reduceEqDiff, Nat.reduceAdd, Nat.reduceSub, Nat.reduceMul, Nat.reduceBEq, Nat.reduceLT, Nat.reduceLeDiff, reduceCtorEq, Int.reduceToNat, Int.reduceNeg] <;> first | exact fun _ _ => trivial | simp) ?_
  simp only [ac8, rv8, push_cast, reduceIte, Nat.reduceEqDiff, Nat.reduceAdd, Nat.reduceSub, Nat.reduceMul, Nat.reduceBEq, Nat.reduceLT, Nat.reduceLeDiff, reduceCtorEq, Int.reduceToNat, Int.reduceNeg]
  refine cal_sub h (by simp only [push_cast, reduceIte, Nat.reduceEqDiff, Nat.reduceAdd, Nat.reduceSub, Nat.reduceMul, Nat.reduceBEq, Nat.reduceLT, Nat.reduceLeDiff, reduceCtorEq, Int.reduceToNat, Int.reduceNeg]) ?_
  simp only [push_cast, reduceIte, Nat.reduceEqDiff, Nat.reduceAdd, Nat.reduceSub, Nat.reduceMul, Nat.reduceBEq, Nat.reduceLT, Nat.reduceLeDiff, reduceCtorEq, Int.reduceToNat, Int.reduceNeg]
  exact ⟨fun _ _ => trivial, fun _ _ => trivial⟩
theorem two_ok : FnEq Try.prog 11 [] (.agg (gridC true ⟨2, 1, 1, 1, [1, 2]⟩)) := by
  refine FnEq.of_awp Try.func11 ok11 (by show 0 ≤ _; decide) (by simp only [push_cast, reduceIte, Nat.reduceEqDiff, Nat.reduceAdd, Nat.reduceSub, Nat.reduceMul, Nat.reduceBEq, Nat.reduceLT, Nat.reduceLeDiff, reduceCtorEq, Int.reduceToNat, Int.reduceNeg] <;> first | exact fun _ _ => trivial | simp) ?_
  simp only [ac11, rv11, push_cast, reduceIte, Nat.reduceEqDiff, Nat.reduceAdd, Nat.reduceSub, Nat.reduceMul, Nat.reduceBEq, Nat.reduceLT, Nat.reduceLeDiff, reduceCtorEq, Int.reduceToNat, Int.reduceNeg]
  exact ⟨⟨by decide, by decide⟩, fun _ _ => trivial, .refl _⟩
end Go.Proofs.Ytledbjkolidhkab
namespace Go.Proofs.Ytledbjkolidhkab
open Go Go.Vc Txt
def gT : Grid := ⟨2, 1, 1, 1, [1, 2]⟩
def pT : Packed := ⟨[], [], [], []⟩
def rT : Route := ⟨0, [0, 6, 10], [-1, 0, 1]⟩
def lT : Layout := ⟨[], [rT]⟩
def cT : Cfg := ⟨[0, 0, 0, 0, 0, 0, 1, 0, 0, 0, 1, 0, 0, 0, 0, 0, 0, 0], [0, 0], [0, 0], [0, 0]⟩
def kT : Cfg := ⟨[0, 0, 0, 0, 0, 0, 6, 0, 0, 0, 1, 0, 0, 0, 1, 0, 0, 0], [0, 0], [0, 0], [0, 0]⟩
theorem gT_ok : GOk gT := ⟨by decide, by decide, by decide, by decide, by decide⟩
theorem dT0 : driversF gT 0 = [] := by rw [drivers_eq gT_ok]; decide +kernel
theorem dT6 : driversF gT 6 = [0, 1, 7, 8, 9, 14, 15, 16] := by rw [drivers_eq gT_ok]; decide +kernel
theorem dT10 : driversF gT 10 = [6, 14, 15] := by rw [drivers_eq gT_ok]; decide +kernel
theorem dT11 : driversF gT 11 = [6, 14, 15] := by rw [drivers_eq gT_ok]; decide +kernel
theorem dT14 : driversF gT 14 = [6, 8, 9, 15] := by rw [drivers_eq gT_ok]; decide +kernel
theorem blT : blankF gT = ⟨List.replicate 18 0, [0, 0], [0, 0], [0, 0]⟩ := by decide +kernel
theorem encT : encF pT gT lT = (cT, 0) := by
  have h : routeF gT (List.replicate 18 0, []) rT = some (cT.sel, [0, 6, 10]) := by
    have r3 : List.range rT.nodes.length = [0, 1, 2] := by decide
    rw [routeF, if_pos (by decide), r3]
    simp only [foldO, stepF]
    rw [show stepN gT (List.replicate 18 0, []) 0 (rT.nodes.getD 0 0) (rT.frm.getD 0 0) (rT.nodes.getD (rT.frm.getD 0 0).toNat 0) = some (List.replicate 18 0, [0]) by
      rw [stepN, show rT.nodes.getD 0 0 = 0 from rfl, dT0]; decide]
    simp only [Option.bind_some]
    rw [show stepN gT (List.replicate 18 0, [0]) 1 (rT.nodes.getD 1 0) (rT.frm.getD 1 0) (rT.nodes.getD (rT.frm.getD 1 0).toNat 0) = some ((List.replicate 18 0).set 6 1, [0, 6]) by
      rw [stepN, show rT.nodes.getD 1 0 = 6 from rfl, dT6]; decide]
    simp only [Option.bind_some]
    rw [show stepN gT ((List.replicate 18 0).set 6 1, [0, 6]) 2 (rT.nodes.getD 2 0) (rT.frm.getD 2 0) (rT.nodes.getD (rT.frm.getD 2 0).toNat 0) = some (cT.sel, [0, 6, 10]) by
      rw [stepN, show rT.nodes.getD 2 0 = 10 from rfl, dT10]; decide]
    rfl
  have h2 : encO pT gT lT = some cT := by
    rw [encO, if_pos (by decide), blT]
    show ((foldO (routeF gT) (List.replicate 18 0, []) [rT]).map _) = _
    simp only [foldO]
    rw [h]
    rfl
  rw [encF, h2]
theorem valT {c : Cfg} (h0 : LensOk gT c) (h1 : ∀ i, i < c.sel.length → c.sel.getD i 0 ≠ 0 → (i = 6 ∧ c.sel.getD 6 0 ≤ 8) ∨ (i = 10 ∧ c.sel.getD 10 0 ≤ 3) ∨ (i = 14 ∧ c.sel.getD 14 0 ≤ 4)) (h3 : ∀ i, i < c.sel.length → 0 ≤ c.sel.getD i 0) (h2 : ∀ t, t < gT.kind.length → TileAt gT c t) : validE gT c = 0 ∧ SelsOk gT c := by
  have hs : ∀ i, i < c.sel.length → SelAt gT c i := fun i hi h => by
    have h4 := h3 i hi
    rcases h1 i hi h with ⟨rfl, h5⟩ | ⟨rfl, h5⟩ | ⟨rfl, h5⟩
    · rw [show ((6 : Nat) : Int) = 6 from rfl, dT6]; exact ⟨by omega, h5⟩
    · rw [show ((10 : Nat) : Int) = 10 from rfl, dT10]; exact ⟨by omega, h5⟩
    · rw [show ((14 : Nat) : Int) = 14 from rfl, dT14]; exact ⟨by omega, h5⟩
  exact ⟨validE_yes h0 hs h2, h0.1, hs⟩
theorem vcT : validE gT cT = 0 ∧ SelsOk gT cT := valT (by decide +kernel) (by decide) (by decide) (by decide)
theorem vkT : validE gT kT = 0 ∧ SelsOk gT kT := valT (by decide +kernel) (by decide) (by decide) (by decide)
theorem v0T : validE gT cfg0 = 310 := validE_len (by decide +kernel)
theorem sT10 : sourceF gT cT 10 = (0, 0) := by
  rw [sourceF, if_pos (by decide)]
  show sourceS gT cT (16 + 1 + 1 + 1) [] 10 = _
  rw [sourceS, dT10, if_neg (by decide), if_neg (by decide), if_neg (by decide)]
  show sourceS gT cT (16 + 1 + 1) [10] 6 = _
  rw [sourceS, dT6, if_neg (by decide), if_neg (by decide), if_neg (by decide)]
  show sourceS gT cT (16 + 1) [10, 6] 0 = _
  rw [sourceS, dT0, if_neg (by decide), if_pos rfl]
theorem sT11 : sourceF gT cT 11 = (0, 4) := by
  rw [sourceF, if_pos (by decide)]
  show sourceS gT cT (18 + 1) [] 11 = _
  rw [sourceS, dT11, if_neg (by decide), if_neg (by decide), if_pos (by decide)]
theorem sK10 : sourceF gT kT 10 = (0, 50) := by
  rw [sourceF, if_pos (by decide)]
  show sourceS gT kT (15 + 1 + 1 + 1 + 1) [] 10 = _
  rw [sourceS, dT10, if_neg (by decide), if_neg (by decide), if_neg (by decide)]
  show sourceS gT kT (15 + 1 + 1 + 1) [10] 6 = _
  rw [sourceS, dT6, if_neg (by decide), if_neg (by decide), if_neg (by decide)]
  show sourceS gT kT (15 + 1 + 1) [10, 6] 14 = _
  rw [sourceS, dT14, if_neg (by decide), if_neg (by decide), if_neg (by decide)]
  show sourceS gT kT (15 + 1) [10, 6, 14] 6 = _
  rw [sourceS, if_pos (by decide)]
theorem dfT : differF kT cT = ([6, 14], []) := by
  rw [differF, show tilesF kT cT = [] by decide]
  have : unlikeF kT.sel cT.sel = [6, 14] := by decide
  rw [this, show sortF [] = [] from List.mergeSort_nil]; rfl
set_option maxRecDepth 20000 in
set_option maxHeartbeats 4000000 in
theorem examples_ok : FnEq Try.prog 4 [] (.bool true) := by
  have hE := encoded_ok pT gT gT_ok lT (by decide) (by decide) (by decide)
  rw [encT] at hE
  have sm : CfgSm cT := ⟨by decide, by decide, by decide, by decide⟩
  have smk : CfgSm kT := ⟨by decide, by decide, by decide, by decide⟩
  have hV := rvalid_ok gT gT_ok cT sm
  have hV2 := valid_ok gT gT_ok cT sm
  have hV3 : FnEq Try.prog 14 [.agg (gridC false gT), .agg [.sl false 1 (ints kT.sel), .sl false 1 (ints cT.mode), .sl false 1 (ints cT.tab), .sl false 1 (ints cT.ram)]] (.int (validE gT kT)) := valid_ok gT gT_ok kT smk
  have hV4 : FnEq Try.prog 14 [.agg (gridC false gT), .agg [.sl false 1 [], .sl false 1 [], .sl false 1 [], .sl false 1 []]] (.int (validE gT cfg0)) := valid_ok gT gT_ok cfg0 ⟨by decide, by decide, by decide, by decide⟩
  have hU := used_ok gT cT sm.sel
  have hI := ints_ok (usedF cT.sel) [6, 10] (by decide) (by decide)
  have hI2 := ints_ok [6, 14] [6, 14] (by decide) (by decide)
  have h10 := lsource_ok gT gT_ok cT vcT.2 10
  have h11 := lsource_ok gT gT_ok cT vcT.2 11
  have hk : FnEq Try.prog 16 [.agg (gridC false gT), .agg [.sl false 1 (ints kT.sel), .sl false 1 (ints cT.mode), .sl false 1 (ints cT.tab), .sl false 1 (ints cT.ram)], .int 10] (.agg [.int (sourceF gT kT 10).1, .int (sourceF gT kT 10).2]) := lsource_ok gT gT_ok kT vkT.2 10
  have hd : FnEq Try.prog 8 [.agg [.sl false 1 (ints kT.sel), .sl false 1 (ints cT.mode), .sl false 1 (ints cT.tab), .sl false 1 (ints cT.ram)], .agg (cfgC false cT)] (.agg [.sl true 1 (ints (differF kT cT).1), .sl true 1 (ints (differF kT cT).2)]) := ldiffer_ok kT cT smk sm
  have hB := blank_ok gT gT_ok
  have hRB := rblank_ok gT gT_ok
  have hS := same_ok (blankF gT) (blankF gT) (by rw [blT]; exact ⟨by decide, by decide, by decide, by decide⟩) (by rw [blT]; exact ⟨by decide, by decide, by decide, by decide⟩)
  rw [vcT.1] at hV hV2
  rw [vkT.1] at hV3
  rw [v0T] at hV4
  rw [sT10] at h10
  rw [sT11] at h11
  rw [sK10] at hk
  rw [dfT] at hd
  rw [show usedF cT.sel = [6, 10] by decide] at hU hI
  rw [decide_eq_true (by rfl)] at hI hI2 hS
  refine FnEq.of_awp Try.func4 ok4 (by show 0 ≤ _; decide) (by simp only [push_cast, reduceIte, Nat.reduceEqDiff, Nat.reduceAdd, Nat.reduceSub, Nat.reduceMul, Nat.reduceBEq, Nat.reduceLT, Nat.reduceLeDiff, reduceCtorEq, Int.reduceToNat, Int.reduceNeg] <;> first | exact fun _ _ => trivial | simp) ?_
  simp only [ac4, rv4, push_cast, reduceIte, Nat.reduceEqDiff, Nat.reduceAdd, Nat.reduceSub, Nat.reduceMul, Nat.reduceBEq, Nat.reduceLT, Nat.reduceLeDiff, reduceCtorEq, Int.reduceToNat, Int.reduceNeg]
  refine cal_eq (show FnEq Try.prog 11 [] (.agg (gridC true gT)) from two_ok) ?_
  simp only [push_cast, reduceIte, Nat.reduceEqDiff, Nat.reduceAdd, Nat.reduceSub, Nat.reduceMul, Nat.reduceBEq, Nat.reduceLT, Nat.reduceLeDiff, reduceCtorEq, Int.reduceToNat, Int.reduceNeg]
  refine ⟨⟨by decide, by decide, by decide⟩, ⟨by decide, by decide, by decide⟩, ?_⟩
  rw [show (((List.replicate 3 0).set 0 0).set 1 6).set 2 10 = [(0 : Int), 6, 10] from rfl, show (((List.replicate 3 0).set 0 (-1)).set 1 0).set 2 1 = [(-1 : Int), 0, 1] from rfl]
  refine cal_sub hE ⟨Sub.aggL ⟨.refl _, .refl _, .refl _, .refl _, .slp _ _ _ _ (fun h => by cases h), .nil _ _, .nil _ _, .nil _ _, .nil _ _, .nil _ _,
    Sub.slR 3 (fun h => h) ⟨⟨.refl _, .slp _ _ _ _ (fun h => by cases h), .slp _ _ _ _ (fun h => by cases h), trivial⟩, trivial⟩, trivial⟩, trivial⟩ ?_
  simp only [push_cast, reduceIte, Nat.reduceEqDiff, Nat.reduceAdd, Nat.reduceSub, Nat.reduceMul, Nat.reduceBEq, Nat.reduceLT, Nat.reduceLeDiff, reduceCtorEq, Int.reduceToNat, Int.reduceNeg]
  refine grd_decf rfl (fun e => absurd e (by decide)) fun _ => ?_
  simp only [push_cast, reduceIte, Nat.reduceEqDiff, Nat.reduceAdd, Nat.reduceSub, Nat.reduceMul, Nat.reduceBEq, Nat.reduceLT, Nat.reduceLeDiff, reduceCtorEq, Int.reduceToNat, Int.reduceNeg]
  refine cal_sub hV (by simp only [push_cast, reduceIte, Nat.reduceEqDiff, Nat.reduceAdd, Nat.reduceSub, Nat.reduceMul, Nat.reduceBEq, Nat.reduceLT, Nat.reduceLeDiff, reduceCtorEq, Int.reduceToNat, Int.reduceNeg]) ?_
  simp only [push_cast, reduceIte, Nat.reduceEqDiff, Nat.reduceAdd, Nat.reduceSub, Nat.reduceMul, Nat.reduceBEq, Nat.reduceLT, Nat.reduceLeDiff, reduceCtorEq, Int.reduceToNat, Int.reduceNeg]
  refine grd_decf rfl (fun e => absurd e (by decide)) fun _ => ?_
  simp only [push_cast, reduceIte, Nat.reduceEqDiff, Nat.reduceAdd, Nat.reduceSub, Nat.reduceMul, Nat.reduceBEq, Nat.reduceLT, Nat.reduceLeDiff, reduceCtorEq, Int.reduceToNat, Int.reduceNeg]
  refine grd_decf rfl (fun e => absurd e (by decide)) fun _ => ?_
  simp only [push_cast, reduceIte, Nat.reduceEqDiff, Nat.reduceAdd, Nat.reduceSub, Nat.reduceMul, Nat.reduceBEq, Nat.reduceLT, Nat.reduceLeDiff, reduceCtorEq, Int.reduceToNat, Int.reduceNeg]
  refine ⟨by decide, by decide, ?_⟩
  refine grd_decf rfl (fun e => absurd e (by decide)) fun _ => ?_
  simp only [push_cast, reduceIte, Nat.reduceEqDiff, Nat.reduceAdd, Nat.reduceSub, Nat.reduceMul, Nat.reduceBEq, Nat.reduceLT, Nat.reduceLeDiff, reduceCtorEq, Int.reduceToNat, Int.reduceNeg]
  refine ⟨by decide, by decide, ?_⟩
  refine grd_decf rfl (fun e => absurd e (by decide)) fun _ => ?_
  simp only [push_cast, reduceIte, Nat.reduceEqDiff, Nat.reduceAdd, Nat.reduceSub, Nat.reduceMul, Nat.reduceBEq, Nat.reduceLT, Nat.reduceLeDiff, reduceCtorEq, Int.reduceToNat, Int.reduceNeg]
  refine cal_sub hV2 (by simp only [push_cast, reduceIte, Nat.reduceEqDiff, Nat.reduceAdd, Nat.reduceSub, Nat.reduceMul, Nat.reduceBEq, Nat.reduceLT, Nat.reduceLeDiff, reduceCtorEq, Int.reduceToNat, Int.reduceNeg]) ?_
  simp only [push_cast, reduceIte, Nat.reduceEqDiff, Nat.reduceAdd, Nat.reduceSub, Nat.reduceMul, Nat.reduceBEq, Nat.reduceLT, Nat.reduceLeDiff, reduceCtorEq, Int.reduceToNat, Int.reduceNeg]
  refine grd_decf rfl (fun e => absurd e (by decide)) fun _ => ?_
  simp only [push_cast, reduceIte, Nat.reduceEqDiff, Nat.reduceAdd, Nat.reduceSub, Nat.reduceMul, Nat.reduceBEq, Nat.reduceLT, Nat.reduceLeDiff, reduceCtorEq, Int.reduceToNat, Int.reduceNeg]
  refine cal_sub hU (by simp only [push_cast, reduceIte, Nat.reduceEqDiff, Nat.reduceAdd, Nat.reduceSub, Nat.reduceMul, Nat.reduceBEq, Nat.reduceLT, Nat.reduceLeDiff, reduceCtorEq, Int.reduceToNat, Int.reduceNeg]) ?_
  simp only [push_cast, reduceIte, Nat.reduceEqDiff, Nat.reduceAdd, Nat.reduceSub, Nat.reduceMul, Nat.reduceBEq, Nat.reduceLT, Nat.reduceLeDiff, reduceCtorEq, Int.reduceToNat, Int.reduceNeg]
  refine ⟨⟨by decide, by decide⟩, ?_⟩
  rw [show ((List.replicate 2 0).set 0 6).set 1 10 = [(6 : Int), 10] from rfl]
  refine cal_sub hI (by simp only [push_cast, reduceIte, Nat.reduceEqDiff, Nat.reduceAdd, Nat.reduceSub, Nat.reduceMul, Nat.reduceBEq, Nat.reduceLT, Nat.reduceLeDiff, reduceCtorEq, Int.reduceToNat, Int.reduceNeg]) ?_
  simp only [push_cast, reduceIte, Nat.reduceEqDiff, Nat.reduceAdd, Nat.reduceSub, Nat.reduceMul, Nat.reduceBEq, Nat.reduceLT, Nat.reduceLeDiff, reduceCtorEq, Int.reduceToNat, Int.reduceNeg]
  refine cal_sub h10 (by simp only [push_cast, reduceIte, Nat.reduceEqDiff, Nat.reduceAdd, Nat.reduceSub, Nat.reduceMul, Nat.reduceBEq, Nat.reduceLT, Nat.reduceLeDiff, reduceCtorEq, Int.reduceToNat, Int.reduceNeg]) ?_
  simp only [push_cast, reduceIte, Nat.reduceEqDiff, Nat.reduceAdd, Nat.reduceSub, Nat.reduceMul, Nat.reduceBEq, Nat.reduceLT, Nat.reduceLeDiff, reduceCtorEq, Int.reduceToNat, Int.reduceNeg]
  refine cal_sub h11 (by simp only [push_cast, reduceIte, Nat.reduceEqDiff, Nat.reduceAdd, Nat.reduceSub, Nat.reduceMul, Nat.reduceBEq, Nat.reduceLT, Nat.reduceLeDiff, reduceCtorEq, Int.reduceToNat, Int.reduceNeg]) ?_
  simp only [push_cast, reduceIte, Nat.reduceEqDiff, Nat.reduceAdd, Nat.reduceSub, Nat.reduceMul, Nat.reduceBEq, Nat.reduceLT, Nat.reduceLeDiff, reduceCtorEq, Int.reduceToNat, Int.reduceNeg]
  refine cond_dec (fun e => absurd e (by decide)) fun _ => ?_
  refine ⟨⟨by decide, by decide⟩, ⟨by decide, by decide⟩, by decide, ⟨by decide, by decide⟩, by decide, ?_⟩
  simp only [List.replicate, List.nil_append, List.length_nil, Nat.zero_add]
  rw [show List.take cT.sel.length ((cT.sel.set 6 6).set 14 1) = kT.sel from rfl, show (cT.sel.set 6 6).set 14 1 = kT.sel from rfl]
  refine cal_sub hd (by simp only [push_cast, reduceIte, Nat.reduceEqDiff, Nat.reduceAdd, Nat.reduceSub, Nat.reduceMul, Nat.reduceBEq, Nat.reduceLT, Nat.reduceLeDiff, reduceCtorEq, Int.reduceToNat, Int.reduceNeg]) ?_
  simp only [push_cast, reduceIte, Nat.reduceEqDiff, Nat.reduceAdd, Nat.reduceSub, Nat.reduceMul, Nat.reduceBEq, Nat.reduceLT, Nat.reduceLeDiff, reduceCtorEq, Int.reduceToNat, Int.reduceNeg]
  rw [show List.take cT.sel.length kT.sel = kT.sel from rfl]
  refine cal_sub hk (by simp only [push_cast, reduceIte, Nat.reduceEqDiff, Nat.reduceAdd, Nat.reduceSub, Nat.reduceMul, Nat.reduceBEq, Nat.reduceLT, Nat.reduceLeDiff, reduceCtorEq, Int.reduceToNat, Int.reduceNeg]) ?_
  simp only [push_cast, reduceIte, Nat.reduceEqDiff, Nat.reduceAdd, Nat.reduceSub, Nat.reduceMul, Nat.reduceBEq, Nat.reduceLT, Nat.reduceLeDiff, reduceCtorEq, Int.reduceToNat, Int.reduceNeg]
  rw [show List.take cT.sel.length kT.sel = kT.sel from rfl]
  refine cal_sub hV3 (by simp only [push_cast, reduceIte, Nat.reduceEqDiff, Nat.reduceAdd, Nat.reduceSub, Nat.reduceMul, Nat.reduceBEq, Nat.reduceLT, Nat.reduceLeDiff, reduceCtorEq, Int.reduceToNat, Int.reduceNeg]) ?_
  simp only [push_cast, reduceIte, Nat.reduceEqDiff, Nat.reduceAdd, Nat.reduceSub, Nat.reduceMul, Nat.reduceBEq, Nat.reduceLT, Nat.reduceLeDiff, reduceCtorEq, Int.reduceToNat, Int.reduceNeg]
  refine ⟨⟨by decide, by decide⟩, ?_⟩
  rw [show ((List.replicate 2 0).set 0 6).set 1 14 = [(6 : Int), 14] from rfl]
  refine cal_sub hI2 (by simp only [push_cast, reduceIte, Nat.reduceEqDiff, Nat.reduceAdd, Nat.reduceSub, Nat.reduceMul, Nat.reduceBEq, Nat.reduceLT, Nat.reduceLeDiff, reduceCtorEq, Int.reduceToNat, Int.reduceNeg]) ?_
  simp only [push_cast, reduceIte, Nat.reduceEqDiff, Nat.reduceAdd, Nat.reduceSub, Nat.reduceMul, Nat.reduceBEq, Nat.reduceLT, Nat.reduceLeDiff, reduceCtorEq, Int.reduceToNat, Int.reduceNeg]
  refine dcal_sub hB (by simp only [push_cast, reduceIte, Nat.reduceEqDiff, Nat.reduceAdd, Nat.reduceSub, Nat.reduceMul, Nat.reduceBEq, Nat.reduceLT, Nat.reduceLeDiff, reduceCtorEq, Int.reduceToNat, Int.reduceNeg]) rfl ?_
  simp only [push_cast, reduceIte, Nat.reduceEqDiff, Nat.reduceAdd, Nat.reduceSub, Nat.reduceMul, Nat.reduceBEq, Nat.reduceLT, Nat.reduceLeDiff, reduceCtorEq, Int.reduceToNat, Int.reduceNeg]
  refine cal_sub hRB (by simp only [push_cast, reduceIte, Nat.reduceEqDiff, Nat.reduceAdd, Nat.reduceSub, Nat.reduceMul, Nat.reduceBEq, Nat.reduceLT, Nat.reduceLeDiff, reduceCtorEq, Int.reduceToNat, Int.reduceNeg]) ?_
  simp only [push_cast, reduceIte, Nat.reduceEqDiff, Nat.reduceAdd, Nat.reduceSub, Nat.reduceMul, Nat.reduceBEq, Nat.reduceLT, Nat.reduceLeDiff, reduceCtorEq, Int.reduceToNat, Int.reduceNeg]
  refine cal_sub hS (by simp only [push_cast, reduceIte, Nat.reduceEqDiff, Nat.reduceAdd, Nat.reduceSub, Nat.reduceMul, Nat.reduceBEq, Nat.reduceLT, Nat.reduceLeDiff, reduceCtorEq, Int.reduceToNat, Int.reduceNeg]) ?_
  simp only [push_cast, reduceIte, Nat.reduceEqDiff, Nat.reduceAdd, Nat.reduceSub, Nat.reduceMul, Nat.reduceBEq, Nat.reduceLT, Nat.reduceLeDiff, reduceCtorEq, Int.reduceToNat, Int.reduceNeg]
  refine cal_sub hV4 ⟨Sub.aggL ⟨.refl _, .refl _, .refl _, .refl _, .slp _ _ _ _ (fun h => by cases h), trivial⟩, Sub.aggL ⟨.nil _ _, .nil _ _, .nil _ _, .nil _ _, trivial⟩, trivial⟩ ?_
  simp only [push_cast, reduceIte, Nat.reduceEqDiff, Nat.reduceAdd, Nat.reduceSub, Nat.reduceMul, Nat.reduceBEq, Nat.reduceLT, Nat.reduceLeDiff, reduceCtorEq, Int.reduceToNat, Int.reduceNeg]
end Go.Proofs.Ytledbjkolidhkab
namespace Go.Proofs.Ytledbjkolidhkab.Txt
open Go Go.Vc
set_option maxRecDepth 100000
def ac18_200w : AC :=
 (.seq (.reg [200, 19, 200] [
 ⟨some 201, none, .box (.t 200)⟩, ⟨some 202, none, .alc [.nil, .nil, .nil, .nil]⟩])
 (.seq (.reg [200, 19, 201, 202] [
 ⟨some 204, none, .fa 0 (.t 201)⟩, ⟨some 205, none, .ld false 1 (.t 204)⟩, ⟨some 206, none, .fa 1 (.t 201)⟩, ⟨some 207, none, .ld false 1 (.t 206)⟩, ⟨some 208, none, .ari .mul true .i64 (.t 205) (.t 207)⟩, ⟨some 203, none, .mv (.t 208)⟩])
 (.seq (.drw [200, 19, 201, 202, 203] [
 ⟨⟨some 209, none, .ld true 5 (.t 201)⟩, [], [213, 215, 217], true⟩, ⟨⟨some 210, none, .cal 23 [(.t 209)]⟩, [], [213, 215, 217], true⟩, ⟨⟨some 211, none, .mks 1 3 8 [.sc (.int .i64 0)] (.t 210) (.t 210)⟩, [211], [213, 215, 217], true⟩, ⟨⟨some 212, none, .mv (.t 203)⟩, [], [211, 215, 217], true⟩, ⟨⟨some 213, none, .mks 1 3 8 [.sc (.int .i64 0)] (.t 212) (.t 212)⟩, [213], [211, 215, 217], true⟩, ⟨⟨some 214, none, .mv (.t 203)⟩, [], [211, 213, 217], true⟩, ⟨⟨some 215, none, .mks 1 3 8 [.sc (.int .i64 0)] (.t 214) (.t 214)⟩, [215], [211, 213, 217], true⟩, ⟨⟨some 216, none, .mv (.t 203)⟩, [], [211, 213, 215], true⟩, ⟨⟨some 217, none, .mks 1 3 8 [.sc (.int .i64 0)] (.t 216) (.t 216)⟩, [217], [211, 213, 215], true⟩, ⟨⟨some 218, none, .bld [.nil, .nil, .nil, .nil] [(0, 1, (.t 211)), (1, 1, (.t 213)), (2, 1, (.t 215)), (3, 1, (.t 217))]⟩, [], [], false⟩, ⟨⟨none, none, .sto 4 (.t 202) (.t 218)⟩, [], [], false⟩])
 .ret)))
def rv18_200w : List RV := [.cell 202 true 4]
theorem ok18_200w : fnOkK Try.prog 200 ac18_200w rv18_200w Try.f18 = true := by kernel_rfl

def ac6w : AC :=
 (.seq (.reg [0, 133, 0, 1] [
 ⟨some 2, none, .box (.t 0)⟩, ⟨some 4, none, .alc [.nil, .nil, .nil, .nil]⟩])
 (.seq (.reg [0, 133, 1, 2, 4] [
 ⟨some 10, none, .ld true 5 (.t 2)⟩, ⟨some 11, none, .clm 18 [(.t 10)]⟩, ⟨some 5, none, .alc [.nil, .nil, .nil, .nil]⟩, ⟨none, none, .sto 4 (.t 5) (.t 11)⟩])
 (.seq (.seq (.reg [0, 133, 1, 2, 4, 5] [
 ⟨some 6, none, .mv (.c (.sc (.int .i64 0)))⟩])
 (.block 0
 (.loop [0, 133, 1, 2, 4, 5, 6]
 (.seq (.seq (.reg [0, 133, 1, 2, 4, 5, 6] [
 ⟨some 12, none, .mv (.t 6)⟩, ⟨some 13, none, .ari .add true .i64 (.t 12) (.c (.sc (.int .i64 1)))⟩, ⟨some 14, none, .mv (.t 1)⟩, ⟨some 15, none, .len (.t 14)⟩, ⟨some 16, none, .cmp .lss .i64 (.t 13) (.t 15)⟩, ⟨some 17, none, .mv (.t 16)⟩, ⟨some 18, some (17, true), .mv (.t 6)⟩, ⟨some 19, some (17, true), .cmp .lss .i64 (.t 18) (.c (.sc (.int .i64 80)))⟩, ⟨some 20, none, .pick (.t 17) (.t 19) (.c (.sc (.bool false)))⟩])
 (.cut [0, 133, 1, 2, 4, 5, 6, 20] (.cond (.t 20)
 .skip
 (.exit 0))))
 (.seq (.block 1
 (.seq (.drw [0, 133, 1, 2, 4, 5, 6] [
 ⟨⟨some 23, none, .mv (.t 6)⟩, [], [], true⟩, ⟨⟨some 24, none, .ari .mul true .i64 (.c (.sc (.int .i64 7))) (.t 23)⟩, [], [], true⟩, ⟨⟨some 25, none, .mv (.t 1)⟩, [], [], true⟩, ⟨⟨some 26, none, .mv (.t 6)⟩, [], [], true⟩, ⟨⟨some 27, none, .ixs 1 (.t 25) (.t 26)⟩, [], [], true⟩, ⟨⟨some 28, none, .ld false 1 (.t 27)⟩, [], [], true⟩, ⟨⟨some 29, none, .cnv true .i64 (.t 28)⟩, [], [], true⟩, ⟨⟨some 30, none, .ari .add true .i64 (.t 24) (.t 29)⟩, [], [], true⟩, ⟨⟨some 31, none, .fa 0 (.t 5)⟩, [], [], true⟩, ⟨⟨some 32, none, .ld false 1 (.t 31)⟩, [], [], true⟩, ⟨⟨some 33, none, .len (.t 32)⟩, [], [], true⟩, ⟨⟨some 34, none, .dvd .rem true .i64 (.t 30) (.t 33)⟩, [], [], false⟩, ⟨⟨some 7, none, .mv (.t 34)⟩, [], [], false⟩])
 (.seq (.reg [0, 133, 1, 2, 4, 5, 6, 7] [
 ⟨some 35, none, .ld true 5 (.t 2)⟩, ⟨some 36, none, .mv (.t 7)⟩, ⟨some 37, none, .cal 20 [(.t 35), (.t 36)]⟩, ⟨some 8, none, .mv (.t 37)⟩])
 (.seq (.seq (.reg [0, 133, 1, 2, 4, 5, 6, 7, 8] [
 ⟨some 38, none, .mv (.t 8)⟩, ⟨some 39, none, .cmp .gtr .i64 (.t 38) (.c (.sc (.int .i64 0)))⟩])
 (.cond (.t 39)
 (.drw [0, 133, 1, 2, 4, 5, 6, 7, 8] [
 ⟨⟨some 40, none, .fa 0 (.t 5)⟩, [], [], true⟩, ⟨⟨some 41, none, .ld false 1 (.t 40)⟩, [], [], true⟩, ⟨⟨some 42, none, .mv (.t 7)⟩, [], [], true⟩, ⟨⟨some 43, none, .mv (.t 1)⟩, [], [], true⟩, ⟨⟨some 44, none, .mv (.t 6)⟩, [], [], true⟩, ⟨⟨some 45, none, .ari .add true .i64 (.t 44) (.c (.sc (.int .i64 1)))⟩, [], [], true⟩, ⟨⟨some 46, none, .ixs 1 (.t 43) (.t 45)⟩, [], [], true⟩, ⟨⟨some 47, none, .ld false 1 (.t 46)⟩, [], [], true⟩, ⟨⟨some 48, none, .cnv true .i64 (.t 47)⟩, [], [], true⟩, ⟨⟨some 49, none, .mv (.t 8)⟩, [], [], true⟩, ⟨⟨some 50, none, .dvd .rem true .i64 (.t 48) (.t 49)⟩, [], [], true⟩, ⟨⟨some 51, none, .ari .add true .i64 (.c (.sc (.int .i64 1))) (.t 50)⟩, [], [], true⟩, ⟨⟨some 52, none, .ixs 1 (.t 41) (.t 42)⟩, [], [], false⟩, ⟨⟨none, none, .sto 1 (.t 52) (.t 51)⟩, [], [], false⟩])
 .skip))
 (.seq (.drw [0, 133, 1, 2, 4, 5, 6] [
 ⟨⟨some 53, none, .mv (.t 1)⟩, [], [], true⟩, ⟨⟨some 54, none, .mv (.t 6)⟩, [], [], true⟩, ⟨⟨some 55, none, .ixs 1 (.t 53) (.t 54)⟩, [], [], true⟩, ⟨⟨some 56, none, .ld false 1 (.t 55)⟩, [], [], true⟩, ⟨⟨some 57, none, .cnv true .i64 (.t 56)⟩, [], [], true⟩, ⟨⟨some 58, none, .fa 0 (.t 2)⟩, [], [], true⟩, ⟨⟨some 59, none, .ld false 1 (.t 58)⟩, [], [], true⟩, ⟨⟨some 60, none, .fa 1 (.t 2)⟩, [], [], true⟩, ⟨⟨some 61, none, .ld false 1 (.t 60)⟩, [], [], true⟩, ⟨⟨some 62, none, .ari .mul true .i64 (.t 59) (.t 61)⟩, [], [], true⟩, ⟨⟨some 63, none, .dvd .rem true .i64 (.t 57) (.t 62)⟩, [], [], false⟩, ⟨⟨some 9, none, .mv (.t 63)⟩, [], [], false⟩])
 (.block 2
 (.seq (.reg [0, 133, 1, 2, 4, 5, 6, 9] [
 ⟨some 65, none, .fa 4 (.t 2)⟩, ⟨some 66, none, .ld false 1 (.t 65)⟩, ⟨some 67, none, .mv (.t 9)⟩, ⟨some 68, none, .ixs 1 (.t 66) (.t 67)⟩, ⟨some 69, none, .ld false 1 (.t 68)⟩, ⟨some 70, none, .cmp .eql .i64 (.t 69) (.c (.sc (.int .i64 0)))⟩, ⟨some 64, none, .mv (.t 70)⟩])
 (.cond (.t 64)
 .skip
 (.seq (.reg [0, 133, 1, 2, 4, 5, 6, 9] [
 ⟨some 72, none, .mv (.t 1)⟩, ⟨some 73, none, .mv (.t 6)⟩, ⟨some 74, none, .ari .add true .i64 (.t 73) (.c (.sc (.int .i64 1)))⟩, ⟨some 75, none, .ixs 1 (.t 72) (.t 74)⟩, ⟨some 76, none, .ld false 1 (.t 75)⟩, ⟨some 77, none, .dvd .rem true .u8 (.t 76) (.c (.sc (.int .u8 3)))⟩, ⟨some 78, none, .cmp .eql .u8 (.t 77) (.c (.sc (.int .u8 0)))⟩, ⟨some 71, none, .mv (.t 78)⟩])
 (.cond (.t 71)
 (.seq (.reg [0, 133, 1, 2, 4, 5, 6, 9] [
 ⟨some 79, none, .fa 1 (.t 5)⟩, ⟨some 80, none, .ld false 1 (.t 79)⟩, ⟨some 81, none, .mv (.t 9)⟩, ⟨some 82, none, .ixs 1 (.t 80) (.t 81)⟩, ⟨none, none, .sto 1 (.t 82) (.c (.sc (.int .i64 1)))⟩])
 (.seq (.drw [0, 133, 1, 2, 4, 5, 6, 9] [
 ⟨⟨some 83, none, .fa 2 (.t 5)⟩, [], [], true⟩, ⟨⟨some 84, none, .ld false 1 (.t 83)⟩, [], [], true⟩, ⟨⟨some 85, none, .mv (.t 9)⟩, [], [], true⟩, ⟨⟨some 86, none, .mv (.t 1)⟩, [], [], true⟩, ⟨⟨some 87, none, .mv (.t 6)⟩, [], [], true⟩, ⟨⟨some 88, none, .ari .add true .i64 (.t 87) (.c (.sc (.int .i64 1)))⟩, [], [], true⟩, ⟨⟨some 89, none, .ixs 1 (.t 86) (.t 88)⟩, [], [], true⟩, ⟨⟨some 90, none, .ld false 1 (.t 89)⟩, [], [], true⟩, ⟨⟨some 91, none, .cnv true .i64 (.t 90)⟩, [], [], true⟩, ⟨⟨some 92, none, .ari .mul true .i64 (.c (.sc (.int .i64 100))) (.t 91)⟩, [], [], true⟩, ⟨⟨some 93, none, .ixs 1 (.t 84) (.t 85)⟩, [], [], false⟩, ⟨⟨none, none, .sto 1 (.t 93) (.t 92)⟩, [], [], false⟩])
 (.reg [0, 133, 1, 2, 4, 5, 6, 9] [
 ⟨some 94, none, .fa 3 (.t 5)⟩, ⟨some 95, none, .ld false 1 (.t 94)⟩, ⟨some 96, none, .mv (.t 9)⟩, ⟨some 97, none, .ixs 1 (.t 95) (.t 96)⟩, ⟨none, none, .sto 1 (.t 97) (.c (.sc (.int .i64 0)))⟩])))
 (.seq (.reg [0, 133, 1, 2, 4, 5, 6, 9] [
 ⟨some 99, none, .mv (.t 1)⟩, ⟨some 100, none, .mv (.t 6)⟩, ⟨some 101, none, .ari .add true .i64 (.t 100) (.c (.sc (.int .i64 1)))⟩, ⟨some 102, none, .ixs 1 (.t 99) (.t 101)⟩, ⟨some 103, none, .ld false 1 (.t 102)⟩, ⟨some 104, none, .dvd .rem true .u8 (.t 103) (.c (.sc (.int .u8 3)))⟩, ⟨some 105, none, .cmp .eql .u8 (.t 104) (.c (.sc (.int .u8 1)))⟩, ⟨some 98, none, .mv (.t 105)⟩])
 (.cond (.t 98)
 (.seq (.reg [0, 133, 1, 2, 4, 5, 6, 9] [
 ⟨some 106, none, .fa 1 (.t 5)⟩, ⟨some 107, none, .ld false 1 (.t 106)⟩, ⟨some 108, none, .mv (.t 9)⟩, ⟨some 109, none, .ixs 1 (.t 107) (.t 108)⟩, ⟨none, none, .sto 1 (.t 109) (.c (.sc (.int .i64 2)))⟩])
 (.seq (.drw [0, 133, 1, 2, 4, 5, 6, 9] [
 ⟨⟨some 110, none, .fa 2 (.t 5)⟩, [], [], true⟩, ⟨⟨some 111, none, .ld false 1 (.t 110)⟩, [], [], true⟩, ⟨⟨some 112, none, .mv (.t 9)⟩, [], [], true⟩, ⟨⟨some 113, none, .mv (.t 1)⟩, [], [], true⟩, ⟨⟨some 114, none, .mv (.t 6)⟩, [], [], true⟩, ⟨⟨some 115, none, .ari .add true .i64 (.t 114) (.c (.sc (.int .i64 1)))⟩, [], [], true⟩, ⟨⟨some 116, none, .ixs 1 (.t 113) (.t 115)⟩, [], [], true⟩, ⟨⟨some 117, none, .ld false 1 (.t 116)⟩, [], [], true⟩, ⟨⟨some 118, none, .cnv true .i64 (.t 117)⟩, [], [], true⟩, ⟨⟨some 119, none, .ari .mul true .i64 (.c (.sc (.int .i64 100))) (.t 118)⟩, [], [], true⟩, ⟨⟨some 120, none, .ixs 1 (.t 111) (.t 112)⟩, [], [], false⟩, ⟨⟨none, none, .sto 1 (.t 120) (.t 119)⟩, [], [], false⟩])
 (.drw [0, 133, 1, 2, 4, 5, 6, 9] [
 ⟨⟨some 121, none, .fa 3 (.t 5)⟩, [], [], true⟩, ⟨⟨some 122, none, .ld false 1 (.t 121)⟩, [], [], true⟩, ⟨⟨some 123, none, .mv (.t 9)⟩, [], [], true⟩, ⟨⟨some 124, none, .mv (.t 1)⟩, [], [], true⟩, ⟨⟨some 125, none, .mv (.t 6)⟩, [], [], true⟩, ⟨⟨some 126, none, .ari .add true .i64 (.t 125) (.c (.sc (.int .i64 1)))⟩, [], [], true⟩, ⟨⟨some 127, none, .ixs 1 (.t 124) (.t 126)⟩, [], [], true⟩, ⟨⟨some 128, none, .ld false 1 (.t 127)⟩, [], [], true⟩, ⟨⟨some 129, none, .dvd .quo true .u8 (.t 128) (.c (.sc (.int .u8 3)))⟩, [], [], true⟩, ⟨⟨some 130, none, .cnv true .i64 (.t 129)⟩, [], [], true⟩, ⟨⟨some 131, none, .ixs 1 (.t 122) (.t 123)⟩, [], [], false⟩, ⟨⟨none, none, .sto 1 (.t 131) (.t 130)⟩, [], [], false⟩])))
 .skip))))))))))))
 (.reg [0, 133, 1, 2, 4, 5, 6] [
 ⟨some 21, none, .mv (.t 6)⟩, ⟨some 22, none, .ari .add true .i64 (.t 21) (.c (.sc (.int .i64 2)))⟩, ⟨some 6, none, .mv (.t 22)⟩]))))))
 (.seq (.reg [0, 133, 4, 5] [
 ⟨some 132, none, .ld true 4 (.t 5)⟩, ⟨none, none, .sto 4 (.t 4) (.t 132)⟩])
 .ret))))
def rv6w : List RV := [.cell 4 true 4]
theorem ok6w : fnOk Try.prog ac6w rv6w Try.f6 = true := by kernel_rfl
end Go.Proofs.Ytledbjkolidhkab.Txt
namespace Go.Proofs.Ytledbjkolidhkab
open Go Go.Vc Txt
theorem map_range_succ {α : Type} (f : Nat → α) (k : Nat) : (List.range (k + 1)).map f = (List.range k).map f ++ [f k] := by simp [List.range_succ]
def kindF (l : List Int) (i : Nat) : Int := if i < l.length ∧ l.getD i default % 8 < 2 then l.getD i default % 8 else 2
def kindsF (n : Nat) (l : List Int) : List Int := (List.range n).map (kindF l)
theorem kinds_ok (n : Nat) (hn : (n : Int) ≤ 1000000) (l : List Int) (hl : (l.length : Int) ≤ 9223372036854775807) (hb : ∀ x ∈ l, 0 ≤ x ∧ x ≤ 255) :
    FnEq Try.prog 19 [.int n, .sl false 1 (bytes8 l)] (.sl true 1 (ints (kindsF n l))) := by
  refine FnEq.of_awp Try.func19 ok19 (by show 2 ≤ _; decide) (by simp only [push_cast, reduceIte, Nat.reduceEqDiff, Nat.reduceAdd, Nat.reduceSub, Nat.reduceMul, Nat.reduceBEq, Nat.reduceLT, Nat.reduceLeDiff, reduceCtorEq, Int.reduceToNat, Int.reduceNeg] <;> first | exact fun _ _ => trivial | simp) ?_
  simp only [ac19, rv19, push_cast, reduceIte, Nat.reduceEqDiff, Nat.reduceAdd, Nat.reduceSub, Nat.reduceMul, Nat.reduceBEq, Nat.reduceLT, Nat.reduceLeDiff, reduceCtorEq, Int.reduceToNat, Int.reduceNeg]
  refine loop_of (fun m st => ∃ k : Nat, k ≤ n ∧ m = n - k ∧
    st = ⟨[(0, .int n), (1, .sl false 1 (bytes8 l)), (5, .view 8 0 k), (6, .int k)], [], [(8, ⟨1, 3, ints ((List.range k).map (kindF l))⟩)], []⟩) n ?_ ?_
  · refine ⟨0, by omega, by omega, ?_⟩
    simp only [push_cast, reduceIte, Nat.reduceEqDiff, Nat.reduceAdd, Nat.reduceSub, Nat.reduceMul, Nat.reduceBEq, Nat.reduceLT, Nat.reduceLeDiff, reduceCtorEq, Int.reduceToNat, Int.reduceNeg]
    rfl
  · rintro m st ⟨k, hk, rfl, rfl⟩
    simp only [push_cast, reduceIte, Nat.reduceEqDiff, Nat.reduceAdd, Nat.reduceSub, Nat.reduceMul, Nat.reduceBEq, Nat.reduceLT, Nat.reduceLeDiff, reduceCtorEq, Int.reduceToNat, Int.reduceNeg]
    have hlen : ((List.range k).map (kindF l)).length = k := by simp
    have hsucc := map_range_succ (kindF l) k
    refine cond_dec (fun h => ?_) fun h => ?_
    · refine cut_of ⟨[(0, .int n), (1, .sl false 1 (bytes8 l)), (5, .view 8 0 k), (6, .int k), (7, .int 2), (25, .bool (decide (k < l.length ∧ l.getD k default % 8 < 2)))], [], [(8, ⟨1, 3, ints ((List.range k).map (kindF l))⟩)], []⟩ ?_ ?_
      · refine grd_dec rfl (fun h1 => ?_) fun h1 => ?_ <;> simp only [push_cast, reduceIte, Nat.reduceEqDiff, Nat.reduceAdd, Nat.reduceSub, Nat.reduceMul, Nat.reduceBEq, Nat.reduceLT, Nat.reduceLeDiff, reduceCtorEq, Int.reduceToNat, Int.reduceNeg]
        · have h1' : k < l.length := by omega
          have hx := hb _ (show l.getD k default ∈ l by simp [List.getD_eq_getElem?_getD, h1'])
          refine ⟨⟨by omega, by omega⟩, h1', ⟨by omega, by omega, by omega⟩, ?_⟩
          rw [show decide (k < l.length ∧ l.getD k default % 8 < 2) = decide (l.getD k default % 8 < 2) from by rw [decide_eq_decide]; omega]
        · have h1' : ¬ k < l.length := by omega
          simp [h1']
      simp only [push_cast, reduceIte, Nat.reduceEqDiff, Nat.reduceAdd, Nat.reduceSub, Nat.reduceMul, Nat.reduceBEq, Nat.reduceLT, Nat.reduceLeDiff, reduceCtorEq, Int.reduceToNat, Int.reduceNeg]
      refine cond_dec (fun h1 => ?_) fun h1 => ?_
      · have hx := hb _ (show l.getD k default ∈ l by simp [List.getD_eq_getElem?_getD, h1.1])
        have hf : kindF l k = l.getD k default % 8 := by rw [kindF, if_pos h1]
        rw [hf] at hsucc
        refine ⟨⟨by omega, by omega⟩, h1.1, ⟨by omega, by omega, by omega⟩, ⟨by omega, by omega⟩, by simp, ⟨hlen.symm, by omega, by omega⟩, ⟨by omega, by omega⟩, _, ?_, k + 1, by omega, rfl, ?_⟩
        · omega
        · rw [hsucc]; simp
      · have hf : kindF l k = 2 := by rw [kindF, if_neg h1]
        rw [hf] at hsucc
        refine ⟨by simp, ⟨hlen.symm, by omega, by omega⟩, ⟨by omega, by omega⟩, _, ?_, k + 1, by omega, rfl, ?_⟩
        · omega
        · rw [hsucc]; simp
    · have hkk : k = n := by omega
      subst hkk
      rw [List.take_of_length_le (by omega)]
      exact ⟨fun _ _ => trivial, .refl _⟩
structure RawG where
  w : Int
  h : Int
  tracks : Int
  pads : Int
  kind : List Int
def rawGC (q : Bool) (x : RawG) : List PV := [.sc (.int .u8 x.w), .sc (.int .u8 x.h), .sc (.int .u8 x.tracks), .sc (.int .u8 x.pads), .sl q 1 (bytes8 x.kind)]
@[push_cast] theorem rawGC_eq (q : Bool) (x : RawG) : rawGC q x = [.sc (.int .u8 x.w), .sc (.int .u8 x.h), .sc (.int .u8 x.tracks), .sc (.int .u8 x.pads), .sl q 1 (bytes8 x.kind)] := rfl
structure RawG.Ok (x : RawG) : Prop where
  w : 0 ≤ x.w ∧ x.w ≤ 255
  h : 0 ≤ x.h ∧ x.h ≤ 255
  tracks : 0 ≤ x.tracks ∧ x.tracks ≤ 255
  pads : 0 ≤ x.pads ∧ x.pads ≤ 255
  len : (x.kind.length : Int) ≤ 9223372036854775807
  kind : ∀ k ∈ x.kind, 0 ≤ k ∧ k ≤ 255
def gridF (x : RawG) : Grid := ⟨2 + x.w % 4, 2 + x.h % 4, 2 + x.tracks % 3, 24, kindsF ((2 + x.w % 4) * (2 + x.h % 4)).toNat x.kind⟩
theorem made_ok (x : RawG) (hx : x.Ok) : FnEq Try.prog 5 [.agg (rawGC false x)] (.agg (gridC true (gridF x))) := by
  refine FnEq.of_awp Try.func5 ok5 (by show 1 ≤ _; decide) (by simp only [push_cast, reduceIte, Nat.reduceEqDiff, Nat.reduceAdd, Nat.reduceSub, Nat.reduceMul, Nat.reduceBEq, Nat.reduceLT, Nat.reduceLeDiff, reduceCtorEq, Int.reduceToNat, Int.reduceNeg] <;> first | exact fun _ _ => trivial | simp) ?_
  simp only [ac5, rv5, push_cast, reduceIte, Nat.reduceEqDiff, Nat.reduceAdd, Nat.reduceSub, Nat.reduceMul, Nat.reduceBEq, Nat.reduceLT, Nat.reduceLeDiff, reduceCtorEq, Int.reduceToNat, Int.reduceNeg]
  obtain ⟨h1, h2, h3, h4, h5, h6⟩ := hx
  have hm : 0 ≤ (2 + x.w % 4) * (2 + x.h % 4) ∧ (2 + x.w % 4) * (2 + x.h % 4) ≤ 5 * 5 := ⟨Int.mul_nonneg (by omega) (by omega), Int.mul_le_mul (by omega) (by omega) (by omega) (by omega)⟩
  obtain ⟨n, hn⟩ : ∃ n : Nat, (2 + x.w % 4) * (2 + x.h % 4) = n := ⟨((2 + x.w % 4) * (2 + x.h % 4)).toNat, by omega⟩
  have hg : gridF x = ⟨2 + x.w % 4, 2 + x.h % 4, 2 + x.tracks % 3, 24, kindsF n x.kind⟩ := by unfold gridF; rw [hn, Int.toNat_natCast]
  rw [hn] at hm ⊢
  rw [hg]
  refine ⟨⟨by omega, by omega, by omega⟩, ⟨by omega, by omega⟩, ⟨by omega, by omega⟩, ⟨by omega, by omega, by omega⟩, ⟨by omega, by omega⟩, ⟨by omega, by omega⟩, ⟨by omega, by omega, by omega⟩, ⟨by omega, by omega⟩, ⟨by omega, by omega⟩, ⟨by omega, by omega⟩, ?_⟩
  refine cal_sub (kinds_ok n (by omega) x.kind h5 h6) (by simp only [push_cast, reduceIte, Nat.reduceEqDiff, Nat.reduceAdd, Nat.reduceSub, Nat.reduceMul, Nat.reduceBEq, Nat.reduceLT, Nat.reduceLeDiff, reduceCtorEq, Int.reduceToNat, Int.reduceNeg]) ?_
  simp only [push_cast, reduceIte, Nat.reduceEqDiff, Nat.reduceAdd, Nat.reduceSub, Nat.reduceMul, Nat.reduceBEq, Nat.reduceLT, Nat.reduceLeDiff, reduceCtorEq, Int.reduceToNat, Int.reduceNeg]
  exact fun _ _ => trivial
theorem gridF_ok (x : RawG) : GOk (gridF x) ∧ (gridF x).pads = 24 := by
  have hm : 0 ≤ (2 + x.w % 4) * (2 + x.h % 4) := Int.mul_nonneg (by omega) (by omega)
  refine ⟨⟨?_, ?_, ?_, ?_, ?_⟩, rfl⟩ <;> simp only [gridF, kindsF, List.length_map, List.length_range] <;> omega
def wilA (c : Cfg) : List (Nat × Arr) := [(211, ⟨1, 3, ints c.sel⟩), (213, ⟨1, 3, ints c.mode⟩), (215, ⟨1, 3, ints c.tab⟩), (217, ⟨1, 3, ints c.ram⟩)]
def wilV (c : Cfg) : List PV := [.view 211 0 c.sel.length, .view 213 0 c.mode.length, .view 215 0 c.tab.length, .view 217 0 c.ram.length]
def wilS (l : List Int) (g : Grid) : St := ⟨[(1, .sl false 1 (bytes8 l)), (2, .ptr 2 0), (4, .ptr 4 0), (10, .agg (gridC false g))], [(2, gridC false g), (4, [.nil, .nil, .nil, .nil])], [], []⟩
theorem rblankw_ok (l : List Int) (g : Grid) (hg : GOk g) : FnM (Env.of Try.prog) 18 [.agg (gridC false g)] (wilS l g) (fun v st' => v = .agg (wilV (blankF g)) ∧ st' = { wilS l g with a := wilA (blankF g) }) := by
  have h1 := hg.count
  have h2 := hg.wh
  have h3 := hg.kind
  refine FnM.dropB 201 (FnM.dropB 202 ?_)
  simp only [wilS, push_cast, reduceIte, Nat.reduceEqDiff, Nat.reduceAdd, Nat.reduceSub, Nat.reduceMul, Nat.reduceBEq, Nat.reduceLT, Nat.reduceLeDiff, reduceCtorEq, Int.reduceToNat, Int.reduceNeg]
  refine fnM_of 200 Try.func18 ok18_200w (by show 1 ≤ _; decide) rfl (by decide) ?_
  simp only [ac18_200w, rv18_200w, push_cast, reduceIte, Nat.reduceEqDiff, Nat.reduceAdd, Nat.reduceSub, Nat.reduceMul, Nat.reduceBEq, Nat.reduceLT, Nat.reduceLeDiff, reduceCtorEq, Int.reduceToNat, Int.reduceNeg]
  refine ⟨by omega, ?_⟩
  refine dcal_sub (rcount_ok g hg) (by simp only [push_cast, reduceIte, Nat.reduceEqDiff, Nat.reduceAdd, Nat.reduceSub, Nat.reduceMul, Nat.reduceBEq, Nat.reduceLT, Nat.reduceLeDiff, reduceCtorEq, Int.reduceToNat, Int.reduceNeg]) rfl ?_
  simp only [push_cast, reduceIte, Nat.reduceEqDiff, Nat.reduceAdd, Nat.reduceSub, Nat.reduceMul, Nat.reduceBEq, Nat.reduceLT, Nat.reduceLeDiff, reduceCtorEq, Int.reduceToNat, Int.reduceNeg]
  refine ⟨by omega, by omega, by omega, by omega, ?_, ?_⟩
  · simp [wilV, blankF]
    omega
  · rw [show (g.w * g.h).toNat = g.kind.length by omega]
    simp only [wilA, blankF, List.length_replicate, push_cast, reduceIte, Nat.reduceEqDiff, Nat.reduceAdd, Nat.reduceSub, Nat.reduceMul, Nat.reduceBEq, Nat.reduceLT, Nat.reduceLeDiff, reduceCtorEq, Int.reduceToNat, Int.reduceNeg]
def selW (g : Grid) (c : Cfg) (n b : Int) : Cfg := if 0 < ((driversF g n).length : Int) then { c with sel := c.sel.set n.toNat (1 + b % ((driversF g n).length : Int)) } else c
def tileW (g : Grid) (c : Cfg) (t : Nat) (b : Int) : Cfg :=
  if g.kind.getD t 0 = 0 then c else if b % 3 = 0 then { c with mode := c.mode.set t 1, tab := c.tab.set t (100 * b), ram := c.ram.set t 0 }
  else if b % 3 = 1 then { c with mode := c.mode.set t 2, tab := c.tab.set t (100 * b), ram := c.ram.set t (b / 3) } else c
def stepW (g : Grid) (l : List Int) (c : Cfg) (i : Nat) : Cfg :=
  tileW g (selW g c ((7 * (i : Int) + l.getD i 0) % (c.sel.length : Int)) (l.getD (i + 1) 0)) (l.getD i 0 % (g.w * g.h)).toNat (l.getD (i + 1) 0)
def wildN (g : Grid) (l : List Int) : Nat → Cfg
  | 0 => blankF g
  | j + 1 => stepW g l (wildN g l j) (2 * j)
def wildF (g : Grid) (l : List Int) : Cfg := wildN g l (min (l.length / 2) 40)
def CfgLn (g : Grid) (c : Cfg) : Prop := c.sel.length = (countF g).toNat ∧ c.mode.length = g.kind.length ∧ c.tab.length = g.kind.length ∧ c.ram.length = g.kind.length
theorem selW_len {g : Grid} {c : Cfg} {n b : Int} (h : CfgLn g c) : CfgLn g (selW g c n b) := by
  obtain ⟨h1, h2, h3, h4⟩ := h
  unfold selW
  split <;> refine ⟨?_, ?_, ?_, ?_⟩ <;> simp [*]
theorem tileW_len {g : Grid} {c : Cfg} {t : Nat} {b : Int} (h : CfgLn g c) : CfgLn g (tileW g c t b) := by
  obtain ⟨h1, h2, h3, h4⟩ := h
  unfold tileW
  split
  · exact ⟨h1, h2, h3, h4⟩
  · split
    · refine ⟨?_, ?_, ?_, ?_⟩ <;> simp [*]
    · split
      · refine ⟨?_, ?_, ?_, ?_⟩ <;> simp [*]
      · exact ⟨h1, h2, h3, h4⟩
theorem stepW_len {g : Grid} {l : List Int} {c : Cfg} {i : Nat} (h : CfgLn g c) : CfgLn g (stepW g l c i) := tileW_len (selW_len h)
theorem wildN_len (g : Grid) (l : List Int) : ∀ j, CfgLn g (wildN g l j)
  | 0 => by refine ⟨?_, ?_, ?_, ?_⟩ <;> simp [wildN, blankF]
  | j + 1 => stepW_len (wildN_len g l j)
set_option maxHeartbeats 4000000 in
theorem wild_ok (g : Grid) (hg : GOk g) (l : List Int) (hl : (l.length : Int) ≤ 9223372036854775807) (hb : ∀ x ∈ l, 0 ≤ x ∧ x ≤ 255) : FnEq Try.prog 6 [.agg (gridC false g), .sl false 1 (bytes8 l)] (.agg (cfgC true (wildF g l))) := by
  have h1 := hg.count
  have h2 := hg.wh
  have h3 := hg.kind
  refine FnEq.of_awp Try.func6 ok6w (by show 2 ≤ _; decide) (by simp only [push_cast, reduceIte, Nat.reduceEqDiff, Nat.reduceAdd, Nat.reduceSub, Nat.reduceMul, Nat.reduceBEq, Nat.reduceLT, Nat.reduceLeDiff, reduceCtorEq, Int.reduceToNat, Int.reduceNeg] <;> first | exact fun _ _ => trivial | simp) ?_
  simp only [ac6w, rv6w, push_cast, reduceIte, Nat.reduceEqDiff, Nat.reduceAdd, Nat.reduceSub, Nat.reduceMul, Nat.reduceBEq, Nat.reduceLT, Nat.reduceLeDiff, reduceCtorEq, Int.reduceToNat, Int.reduceNeg]
  refine clm_eq (rblankw_ok l g hg) ?_
  simp only [wilV, wilA, wilS, push_cast, reduceIte, Nat.reduceEqDiff, Nat.reduceAdd, Nat.reduceSub, Nat.reduceMul, Nat.reduceBEq, Nat.reduceLT, Nat.reduceLeDiff, reduceCtorEq, Int.reduceToNat, Int.reduceNeg]
  refine loop_of (fun m st => ∃ j : Nat, j ≤ min (l.length / 2) 40 ∧ m = min (l.length / 2) 40 - j ∧ st = ⟨[(1, .sl false 1 (bytes8 l)), (2, .ptr 2 0), (4, .ptr 4 0), (5, .ptr 5 0), (6, .int (2 * (j : Int)))], [(2, gridC false g), (4, [.nil, .nil, .nil, .nil]), (5, wilV (wildN g l j))], wilA (wildN g l j), []⟩) (min (l.length / 2) 40) ?_ ?_
  · refine ⟨0, by omega, by omega, ?_⟩
    simp only [wilV, wilA, wildN, Int.mul_zero, push_cast, reduceIte, Nat.reduceEqDiff, Nat.reduceAdd, Nat.reduceSub, Nat.reduceMul, Nat.reduceBEq, Nat.reduceLT, Nat.reduceLeDiff, reduceCtorEq, Int.reduceToNat, Int.reduceNeg]
  rintro m st ⟨j, hj, rfl, rfl⟩
  obtain ⟨q1, q2, q3, q4⟩ := wildN_len g l j
  have e0 : ∀ (l : List Int) (j : Nat), l.getD j default = l.getD j 0 := fun _ _ => rfl
  have hst : wildN g l (j + 1) = stepW g l (wildN g l j) (2 * j) := rfl
  have hcast : ((2 * j : Nat) : Int) = 2 * (j : Int) := by omega
  have hF : wildF g l = wildN g l (min (l.length / 2) 40) := rfl
  have hba : 0 ≤ l.getD (2 * j) 0 ∧ l.getD (2 * j) 0 ≤ 255 := by
    by_cases h : 2 * j < l.length
    · exact hb _ (getD_mem h)
    · rw [List.getD_eq_getElem?_getD, List.getElem?_eq_none (by omega)]; decide
  have hbb : 0 ≤ l.getD (2 * j + 1) 0 ∧ l.getD (2 * j + 1) 0 ≤ 255 := by
    by_cases h : 2 * j + 1 < l.length
    · exact hb _ (getD_mem h)
    · rw [List.getD_eq_getElem?_getD, List.getElem?_eq_none (by omega)]; decide
  simp only [wilV, wilA, push_cast, reduceIte, Nat.reduceEqDiff, Nat.reduceAdd, Nat.reduceSub, Nat.reduceMul, Nat.reduceBEq, Nat.reduceLT, Nat.reduceLeDiff, reduceCtorEq, Int.reduceToNat, Int.reduceNeg]
  refine ⟨by omega, ?_⟩
  obtain ⟨B, hB⟩ : ∃ B, B = decide (2 * j + 1 < l.length ∧ 2 * j < 80) := ⟨_, rfl⟩
  refine cut_of ⟨[(1, .sl false 1 (bytes8 l)), (2, .ptr 2 0), (4, .ptr 4 0), (5, .ptr 5 0), (6, .int (2 * j)), (20, .bool B)], [(2, gridC false g), (4, [.nil, .nil, .nil, .nil]), (5, wilV (wildN g l j))], wilA (wildN g l j), []⟩ ?_ ?_
  · refine grd_dec rfl (fun e1 => ?_) fun e1 => ?_ <;> simp only [push_cast, reduceIte, Nat.reduceEqDiff, Nat.reduceAdd, Nat.reduceSub, Nat.reduceMul, Nat.reduceBEq, Nat.reduceLT, Nat.reduceLeDiff, reduceCtorEq, Int.reduceToNat, Int.reduceNeg]
    · rw [show B = decide (2 * (j : Int) < 80) from by rw [hB, decide_eq_decide]; omega]
      simp only [wilV, wilA, push_cast, reduceIte, Nat.reduceEqDiff, Nat.reduceAdd, Nat.reduceSub, Nat.reduceMul, Nat.reduceBEq, Nat.reduceLT, Nat.reduceLeDiff, reduceCtorEq, Int.reduceToNat, Int.reduceNeg]
    · rw [show B = false from by rw [hB]; exact decide_eq_false (by omega)]
      simp only [wilV, wilA, push_cast, reduceIte, Nat.reduceEqDiff, Nat.reduceAdd, Nat.reduceSub, Nat.reduceMul, Nat.reduceBEq, Nat.reduceLT, Nat.reduceLeDiff, reduceCtorEq, Int.reduceToNat, Int.reduceNeg]
  simp only [wilV, wilA, push_cast, reduceIte, Nat.reduceEqDiff, Nat.reduceAdd, Nat.reduceSub, Nat.reduceMul, Nat.reduceBEq, Nat.reduceLT, Nat.reduceLeDiff, reduceCtorEq, Int.reduceToNat, Int.reduceNeg]
  refine cond_of (fun e => ?_) fun e => ?_
  rotate_left
  · rw [hB, decide_eq_false_iff_not] at e
    rw [hF, show min (l.length / 2) 40 = j by omega]
    exact ⟨⟨fun _ _ => trivial, fun _ _ => trivial, fun _ _ => trivial, fun _ _ => trivial⟩, .refl _, .refl _, .refl _, .refl _⟩
  rw [hB, decide_eq_true_eq] at e
  obtain ⟨e1, e2⟩ := e
  generalize wildN g l j = c at *
  have ht : (2 * (j : Int)).toNat = 2 * j := by omega
  have ht1 : (2 * (j : Int) + 1).toNat = 2 * j + 1 := by omega
  have hm : (0 ≤ l.getD (2 * j) 0 % (g.w * g.h) ∧ l.getD (2 * j) 0 % (g.w * g.h) < g.w * g.h) := ⟨Int.emod_nonneg _ (by omega), Int.emod_lt_of_pos _ (by omega)⟩
  rw [stepW, hcast] at hst
  have hn0 : 0 ≤ (7 * (2 * (j : Int)) + l.getD (2 * j) 0) % (c.sel.length : Int) ∧ (7 * (2 * (j : Int)) + l.getD (2 * j) 0) % (c.sel.length : Int) < c.sel.length := ⟨Int.emod_nonneg _ (by omega), Int.emod_lt_of_pos _ (by omega)⟩
  simp only [e0, ht, ht1, push_cast, reduceIte, Nat.reduceEqDiff, Nat.reduceAdd, Nat.reduceSub, Nat.reduceMul, Nat.reduceBEq, Nat.reduceLT, Nat.reduceLeDiff, reduceCtorEq, Int.reduceToNat, Int.reduceNeg]
  generalize hA : l.getD (2 * j) 0 = a at *
  generalize hC : l.getD (2 * j + 1) 0 = b at *
  refine ⟨by omega, by omega, by omega, by omega, by omega, by omega, ?_⟩
  generalize (7 * (2 * (j : Int)) + a) % (c.sel.length : Int) = n at *
  refine cal_eq (rdrv_ok g hg n (by omega)) ?_
  simp only [e0, ht, ht1, hA, hC, push_cast, reduceIte, Nat.reduceEqDiff, Nat.reduceAdd, Nat.reduceSub, Nat.reduceMul, Nat.reduceBEq, Nat.reduceLT, Nat.reduceLeDiff, reduceCtorEq, Int.reduceToNat, Int.reduceNeg]
  have hdl := driversF_len g hg n
  rw [selW] at hst
  generalize (driversF g n).length = k at *
  generalize g.w * g.h = wh at *
  generalize a % wh = t at *
  have next : 2 * ((j : Int) + 1) = 2 * (j : Int) + 2 := by omega
  refine cond_dec (fun hk => ?_) fun hk => ?_
  · rw [if_pos hk] at hst
    have hbk : 0 ≤ b % (k : Int) ∧ b % (k : Int) < k := ⟨Int.emod_nonneg _ (by omega), Int.emod_lt_of_pos _ (by omega)⟩
    refine ⟨by omega, by omega, by omega, by omega, by omega, by omega, by omega, by omega, by omega, by omega, by omega, by omega, by omega, by omega, by omega, ?_⟩
    refine cond_dec (fun h0 => ?_) fun h0 => ?_
    · refine ⟨by omega, _, ?_, j + 1, by omega, rfl, ?_⟩
      · omega
      · rw [hst, tileW, if_pos h0]
        simp only [wilV, wilA, List.length_set, push_cast, reduceIte, Nat.reduceEqDiff, Nat.reduceAdd, Nat.reduceSub, Nat.reduceMul, Nat.reduceBEq, Nat.reduceLT, Nat.reduceLeDiff, reduceCtorEq, Int.reduceToNat, Int.reduceNeg]
        rw [next]
    refine ⟨by omega, by omega, by omega, by omega, cond_dec (fun h4 => ?_) fun h4 => ?_⟩
    · refine ⟨by omega, by omega, by omega, by omega, by omega, by omega, by omega, by omega, by omega, by omega, by omega, ?_⟩
      refine ⟨by omega, _, ?_, j + 1, by omega, rfl, ?_⟩
      · omega
      · rw [hst, tileW, if_neg h0, if_pos h4]
        simp only [wilV, wilA, List.length_set, push_cast, reduceIte, Nat.reduceEqDiff, Nat.reduceAdd, Nat.reduceSub, Nat.reduceMul, Nat.reduceBEq, Nat.reduceLT, Nat.reduceLeDiff, reduceCtorEq, Int.reduceToNat, Int.reduceNeg]
        rw [next]
    refine ⟨by omega, by omega, by omega, by omega, cond_dec (fun h5 => ?_) fun h5 => ?_⟩
    · refine ⟨by omega, by omega, by omega, by omega, by omega, by omega, by omega, by omega, by omega, by omega, by omega, by omega, by omega, by omega, by omega, by omega, ?_⟩
      refine ⟨by omega, _, ?_, j + 1, by omega, rfl, ?_⟩
      · omega
      · rw [hst, tileW, if_neg h0, if_neg h4, if_pos h5]
        simp only [wilV, wilA, List.length_set, push_cast, reduceIte, Nat.reduceEqDiff, Nat.reduceAdd, Nat.reduceSub, Nat.reduceMul, Nat.reduceBEq, Nat.reduceLT, Nat.reduceLeDiff, reduceCtorEq, Int.reduceToNat, Int.reduceNeg]
        rw [next]
    · refine ⟨by omega, _, ?_, j + 1, by omega, rfl, ?_⟩
      · omega
      · rw [hst, tileW, if_neg h0, if_neg h4, if_neg h5]
        simp only [wilV, wilA, List.length_set, push_cast, reduceIte, Nat.reduceEqDiff, Nat.reduceAdd, Nat.reduceSub, Nat.reduceMul, Nat.reduceBEq, Nat.reduceLT, Nat.reduceLeDiff, reduceCtorEq, Int.reduceToNat, Int.reduceNeg]
        rw [next]
  · rw [if_neg hk] at hst
    refine ⟨by omega, by omega, by omega, by omega, by omega, by omega, by omega, ?_⟩
    refine cond_dec (fun h0 => ?_) fun h0 => ?_
    · refine ⟨by omega, _, ?_, j + 1, by omega, rfl, ?_⟩
      · omega
      · rw [hst, tileW, if_pos h0]
        simp only [wilV, wilA, List.length_set, push_cast, reduceIte, Nat.reduceEqDiff, Nat.reduceAdd, Nat.reduceSub, Nat.reduceMul, Nat.reduceBEq, Nat.reduceLT, Nat.reduceLeDiff, reduceCtorEq, Int.reduceToNat, Int.reduceNeg]
        rw [next]
    refine ⟨by omega, by omega, by omega, by omega, cond_dec (fun h4 => ?_) fun h4 => ?_⟩
    · refine ⟨by omega, by omega, by omega, by omega, by omega, by omega, by omega, by omega, by omega, by omega, by omega, ?_⟩
      refine ⟨by omega, _, ?_, j + 1, by omega, rfl, ?_⟩
      · omega
      · rw [hst, tileW, if_neg h0, if_pos h4]
        simp only [wilV, wilA, List.length_set, push_cast, reduceIte, Nat.reduceEqDiff, Nat.reduceAdd, Nat.reduceSub, Nat.reduceMul, Nat.reduceBEq, Nat.reduceLT, Nat.reduceLeDiff, reduceCtorEq, Int.reduceToNat, Int.reduceNeg]
        rw [next]
    refine ⟨by omega, by omega, by omega, by omega, cond_dec (fun h5 => ?_) fun h5 => ?_⟩
    · refine ⟨by omega, by omega, by omega, by omega, by omega, by omega, by omega, by omega, by omega, by omega, by omega, by omega, by omega, by omega, by omega, by omega, ?_⟩
      refine ⟨by omega, _, ?_, j + 1, by omega, rfl, ?_⟩
      · omega
      · rw [hst, tileW, if_neg h0, if_neg h4, if_pos h5]
        simp only [wilV, wilA, List.length_set, push_cast, reduceIte, Nat.reduceEqDiff, Nat.reduceAdd, Nat.reduceSub, Nat.reduceMul, Nat.reduceBEq, Nat.reduceLT, Nat.reduceLeDiff, reduceCtorEq, Int.reduceToNat, Int.reduceNeg]
        rw [next]
    · refine ⟨by omega, _, ?_, j + 1, by omega, rfl, ?_⟩
      · omega
      · rw [hst, tileW, if_neg h0, if_neg h4, if_neg h5]
        simp only [wilV, wilA, List.length_set, push_cast, reduceIte, Nat.reduceEqDiff, Nat.reduceAdd, Nat.reduceSub, Nat.reduceMul, Nat.reduceBEq, Nat.reduceLT, Nat.reduceLeDiff, reduceCtorEq, Int.reduceToNat, Int.reduceNeg]
        rw [next]
end Go.Proofs.Ytledbjkolidhkab
namespace Go.Proofs.Ytledbjkolidhkab
open Go Go.Vc Txt
end Go.Proofs.Ytledbjkolidhkab
namespace Go.Proofs.Ytledbjkolidhkab
open Go Go.Vc Txt
structure RawG.By (x : RawG) : Prop where
  w : 0 ≤ x.w ∧ x.w ≤ 255
  h : 0 ≤ x.h ∧ x.h ≤ 255
  tracks : 0 ≤ x.tracks ∧ x.tracks ≤ 255
  pads : 0 ≤ x.pads ∧ x.pads ≤ 255
  len : (x.kind.length : Int) ≤ 9223372036854775807
  kind : ∀ k ∈ x.kind, 0 ≤ k ∧ k ≤ 255
theorem RawG.By.ok {x : RawG} (h : x.By) : x.Ok := ⟨h.w, h.h, h.tracks, h.pads, h.len, h.kind⟩
end Go.Proofs.Ytledbjkolidhkab
namespace Go.Proofs.Ytledbjkolidhkab
open Go Go.Vc Txt
def gridT : List Ty := [.i .u8, .i .u8, .i .u8, .i .u8, .sl 1 [.i .u8]]
theorem rowV_nil {a : List PV} (h : RowV [] a) : a = [] := List.length_eq_zero_iff.1 h.1
theorem rowV_cons {t : Ty} {ts : List Ty} {a : List PV} (h : RowV (t :: ts) a) : ∃ c r, a = c :: r ∧ CellV t c ∧ RowV ts r := by
  obtain ⟨h1, h2⟩ := h
  cases a with
  | nil => cases h1
  | cons c r => exact ⟨c, r, rfl, h2 0 t c rfl rfl, by simpa using h1, fun j t' c' ht hc => h2 (j + 1) t' c' ht hc⟩
theorem cellV_i {k : IntKind} {c : PV} (h : CellV (.i k) c) : ∃ n : Int, c = .sc (.int k n) ∧ k.min ≤ n ∧ n ≤ k.max := by
  cases h with | i k n h1 h2 => exact ⟨n, rfl, h1, h2⟩
theorem cellV_u8 {c : PV} (h : CellV (.i .u8) c) : ∃ n : Int, c = .sc (.int .u8 n) ∧ 0 ≤ n ∧ n ≤ 255 := by
  obtain ⟨n, h1, h2, h3⟩ := cellV_i h
  exact ⟨n, h1, h2, h3⟩
theorem cellV_i64 {c : PV} (h : CellV (.i .i64) c) : ∃ n : Int, c = .int n ∧ -9223372036854775808 ≤ n ∧ n ≤ 9223372036854775807 := by
  obtain ⟨n, h1, h2, h3⟩ := cellV_i h
  exact ⟨n, h1, h2, h3⟩
theorem cellV_sl {es : Nat} {ts : List Ty} {c : PV} (h : CellV (.sl es ts) c) : ∃ rs : List (List PV), c = .sl true es rs ∧ rs.length ≤ maxLen ∧ ∀ r ∈ rs, RowV ts r := by
  cases h with | sl es ts rs h1 h2 h3 => exact ⟨rs, rfl, h1, fun r hr => ⟨h2 r hr, h3 r hr⟩⟩
theorem rows_all {α : Type} {f : α → List PV} {Q : α → Prop} : ∀ {rs : List (List PV)}, (∀ r ∈ rs, ∃ x, r = f x ∧ Q x) → ∃ l : List α, rs = rows f l ∧ ∀ x ∈ l, Q x
  | [], _ => ⟨[], rfl, fun x hx => by cases hx⟩
  | r :: rs, h => by
    obtain ⟨x, rfl, hx⟩ := h r (by simp)
    obtain ⟨l, rfl, hl⟩ := rows_all (f := f) (Q := Q) (rs := rs) fun r hr => h r (by simp [hr])
    refine ⟨x :: l, rfl, fun y hy => ?_⟩
    rcases List.mem_cons.1 hy with rfl | hy
    · exact hx
    · exact hl y hy
theorem cellV_bytes {c : PV} (h : CellV (.sl 1 [.i .u8]) c) : ∃ l : List Int, c = .sl true 1 (bytes8 l) ∧ (l.length : Int) ≤ 9223372036854775807 ∧ ∀ b ∈ l, 0 ≤ b ∧ b ≤ 255 := by
  obtain ⟨rs, rfl, h1, h2⟩ := cellV_sl h
  obtain ⟨l, rfl, hl⟩ := rows_all (f := fun x : Int => [PV.sc (.int .u8 x)]) (Q := fun b => 0 ≤ b ∧ b ≤ 255) (rs := rs) fun r hr => by
    obtain ⟨c, q, rfl, hc, h3⟩ := rowV_cons (h2 r hr)
    obtain ⟨n, rfl, hn⟩ := cellV_u8 hc
    rw [rowV_nil h3]
    exact ⟨n, rfl, hn⟩
  simp only [rows, List.length_map] at h1
  have : maxLen = 9223372036854775807 := rfl
  exact ⟨l, rfl, by omega, hl⟩
theorem cellV_ints {c : PV} (h : CellV (.sl 1 [.i .i64]) c) : ∃ l : List Int, c = .sl true 1 (ints l) ∧ ∀ b ∈ l, -9223372036854775808 ≤ b ∧ b ≤ 9223372036854775807 := by
  obtain ⟨rs, rfl, _, h2⟩ := cellV_sl h
  obtain ⟨l, rfl, hl⟩ := rows_all (f := fun x : Int => [PV.int x]) (Q := fun b => -9223372036854775808 ≤ b ∧ b ≤ 9223372036854775807) (rs := rs) fun r hr => by
    obtain ⟨c, q, rfl, hc, h3⟩ := rowV_cons (h2 r hr)
    obtain ⟨n, rfl, hn⟩ := cellV_i64 hc
    rw [rowV_nil h3]
    exact ⟨n, rfl, hn⟩
  exact ⟨l, rfl, hl⟩
theorem rawG_of {a : List PV} (h : RowV gridT a) : ∃ x : RawG, x.By ∧ a = rawGC true x := by
  obtain ⟨c0, a0, rfl, h0, k0⟩ := rowV_cons h
  obtain ⟨c1, a1, rfl, h1, k1⟩ := rowV_cons k0
  obtain ⟨c2, a2, rfl, h2, k2⟩ := rowV_cons k1
  obtain ⟨c3, a3, rfl, h3, k3⟩ := rowV_cons k2
  obtain ⟨c4, a4, rfl, h4, k4⟩ := rowV_cons k3
  obtain ⟨n0, rfl, b0⟩ := cellV_u8 h0
  obtain ⟨n1, rfl, b1⟩ := cellV_u8 h1
  obtain ⟨n2, rfl, b2⟩ := cellV_u8 h2
  obtain ⟨n3, rfl, b3⟩ := cellV_u8 h3
  obtain ⟨l, rfl, hn, hl⟩ := cellV_bytes h4
  rw [rowV_nil k4]
  exact ⟨⟨n0, n1, n2, n3, l⟩, ⟨b0, b1, b2, b3, hn, hl⟩, rfl⟩
theorem okSl {P : Program} {W : World} {base : Nat} {t e : TypeId} {v : Value} (hu : P.underlying t = some (.slice e)) (h : Value.okWide P W .any base t v) : v.cells = #[v] := by
  unfold Value.okWide Cell.okWide Cell.ok at h
  rw [hu] at h
  cases v <;> first
    | rfl
    | (simp only at h)
end Go.Proofs.Ytledbjkolidhkab
namespace Go.Proofs.Ytledbjkolidhkab
open Go Go.Vc Txt
structure OddA where
  c : Cfg
  d : Cfg
  l : Layout
  blocks : List Block
  n : Int
  b : List Int
  k0 : Int
  k1 : Int
  k2 : Int
  k3 : Int
  v : Int
def oddC (q : Bool) (z : OddA) : List PV := cfgC q z.c ++ cfgC q z.d ++ layC q z.l ++ [.sl q 5 (rows (blockC q) z.blocks), .int z.n, .sl q 1 (bytes8 z.b), .sc (.int .u8 z.k0), .sc (.int .u8 z.k1), .sc (.int .u8 z.k2), .sc (.int .u8 z.k3), .int z.v]
@[push_cast] theorem oddC_eq (q : Bool) (z : OddA) : oddC q z = cfgC q z.c ++ cfgC q z.d ++ layC q z.l ++ [.sl q 5 (rows (blockC q) z.blocks), .int z.n, .sl q 1 (bytes8 z.b), .sc (.int .u8 z.k0), .sc (.int .u8 z.k1), .sc (.int .u8 z.k2), .sc (.int .u8 z.k3), .int z.v] := rfl
structure OddA.By (z : OddA) : Prop where
  n : -9223372036854775808 ≤ z.n ∧ z.n ≤ 9223372036854775807
  b : ∀ x ∈ z.b, 0 ≤ x ∧ x ≤ 255
  bl : (z.b.length : Int) ≤ 9223372036854775807
  k0 : 0 ≤ z.k0 ∧ z.k0 ≤ 255
  k1 : 0 ≤ z.k1 ∧ z.k1 ≤ 255
  k2 : 0 ≤ z.k2 ∧ z.k2 ≤ 255
  k3 : 0 ≤ z.k3 ∧ z.k3 ≤ 255
  v : -9223372036854775808 ≤ z.v ∧ z.v ≤ 9223372036854775807
def intsT : Ty := .sl 1 [.i .i64]
def routeT : List Ty := [.i .i64, intsT, intsT]
def blockT : List Ty := [intsT, .i .i64, .i .i64, .i .i64, .i .u64]
def oddT : List Ty := [intsT, intsT, intsT, intsT, intsT, intsT, intsT, intsT, intsT, .sl 3 routeT, .sl 5 blockT, .i .i64, .sl 1 [.i .u8], .i .u8, .i .u8, .i .u8, .i .u8, .i .i64]
theorem cellV_intsT {c : PV} (h : CellV intsT c) : ∃ l : List Int, c = .sl true 1 (ints l) := by
  obtain ⟨l, h1, _⟩ := cellV_ints h
  exact ⟨l, h1⟩
theorem cellV_routes {c : PV} (h : CellV (.sl 3 routeT) c) : ∃ l : List Route, c = .sl true 3 (rows (routeC true) l) := by
  obtain ⟨rs, rfl, _, h2⟩ := cellV_sl h
  obtain ⟨l, rfl, _⟩ := rows_all (f := routeC true) (Q := fun _ => True) (rs := rs) fun r hr => by
    obtain ⟨c0, a0, rfl, e0, k0⟩ := rowV_cons (h2 r hr)
    obtain ⟨c1, a1, rfl, e1, k1⟩ := rowV_cons k0
    obtain ⟨c2, a2, rfl, e2, k2⟩ := rowV_cons k1
    obtain ⟨n, rfl, _⟩ := cellV_i64 e0
    obtain ⟨l1, rfl⟩ := cellV_intsT e1
    obtain ⟨l2, rfl⟩ := cellV_intsT e2
    rw [rowV_nil k2]
    exact ⟨⟨n, l1, l2⟩, rfl, trivial⟩
  exact ⟨l, rfl⟩
theorem cellV_blocks {c : PV} (h : CellV (.sl 5 blockT) c) : ∃ l : List Block, c = .sl true 5 (rows (blockC true) l) := by
  obtain ⟨rs, rfl, _, h2⟩ := cellV_sl h
  obtain ⟨l, rfl, _⟩ := rows_all (f := blockC true) (Q := fun _ => True) (rs := rs) fun r hr => by
    obtain ⟨c0, a0, rfl, e0, k0⟩ := rowV_cons (h2 r hr)
    obtain ⟨c1, a1, rfl, e1, k1⟩ := rowV_cons k0
    obtain ⟨c2, a2, rfl, e2, k2⟩ := rowV_cons k1
    obtain ⟨c3, a3, rfl, e3, k3⟩ := rowV_cons k2
    obtain ⟨c4, a4, rfl, e4, k4⟩ := rowV_cons k3
    obtain ⟨l0, rfl⟩ := cellV_intsT e0
    obtain ⟨n1, rfl, _⟩ := cellV_i64 e1
    obtain ⟨n2, rfl, _⟩ := cellV_i64 e2
    obtain ⟨n3, rfl, _⟩ := cellV_i64 e3
    obtain ⟨n4, rfl, _⟩ := cellV_i e4
    rw [rowV_nil k4]
    exact ⟨⟨l0, n1, n2, n3, n4⟩, rfl, trivial⟩
  exact ⟨l, rfl⟩
theorem odd_of {a : List PV} (h : RowV oddT a) : ∃ z : OddA, z.By ∧ a = oddC true z := by
  obtain ⟨c0, a0, rfl, e0, h_1⟩ := rowV_cons h
  obtain ⟨c1, a1, rfl, e1, h_2⟩ := rowV_cons h_1
  obtain ⟨c2, a2, rfl, e2, h_3⟩ := rowV_cons h_2
  obtain ⟨c3, a3, rfl, e3, h_4⟩ := rowV_cons h_3
  obtain ⟨c4, a4, rfl, e4, h_5⟩ := rowV_cons h_4
  obtain ⟨c5, a5, rfl, e5, h_6⟩ := rowV_cons h_5
  obtain ⟨c6, a6, rfl, e6, h_7⟩ := rowV_cons h_6
  obtain ⟨c7, a7, rfl, e7, h_8⟩ := rowV_cons h_7
  obtain ⟨c8, a8, rfl, e8, h_9⟩ := rowV_cons h_8
  obtain ⟨c9, a9, rfl, e9, h_10⟩ := rowV_cons h_9
  obtain ⟨d0, b0, rfl, f0, h_11⟩ := rowV_cons h_10
  obtain ⟨d1, b1, rfl, f1, h_12⟩ := rowV_cons h_11
  obtain ⟨d2, b2, rfl, f2, h_13⟩ := rowV_cons h_12
  obtain ⟨d3, b3, rfl, f3, h_14⟩ := rowV_cons h_13
  obtain ⟨d4, b4, rfl, f4, h_15⟩ := rowV_cons h_14
  obtain ⟨d5, b5, rfl, f5, h_16⟩ := rowV_cons h_15
  obtain ⟨d6, b6, rfl, f6, h_17⟩ := rowV_cons h_16
  obtain ⟨d7, b7, rfl, f7, h_18⟩ := rowV_cons h_17
  obtain ⟨l0, rfl⟩ := cellV_intsT e0
  obtain ⟨l1, rfl⟩ := cellV_intsT e1
  obtain ⟨l2, rfl⟩ := cellV_intsT e2
  obtain ⟨l3, rfl⟩ := cellV_intsT e3
  obtain ⟨l4, rfl⟩ := cellV_intsT e4
  obtain ⟨l5, rfl⟩ := cellV_intsT e5
  obtain ⟨l6, rfl⟩ := cellV_intsT e6
  obtain ⟨l7, rfl⟩ := cellV_intsT e7
  obtain ⟨l8, rfl⟩ := cellV_intsT e8
  obtain ⟨l9, rfl⟩ := cellV_routes e9
  obtain ⟨bs, rfl⟩ := cellV_blocks f0
  obtain ⟨n, rfl, hn⟩ := cellV_i64 f1
  obtain ⟨b, rfl, hb, hb2⟩ := cellV_bytes f2
  obtain ⟨k0, rfl, g0⟩ := cellV_u8 f3
  obtain ⟨k1, rfl, g1⟩ := cellV_u8 f4
  obtain ⟨k2, rfl, g2⟩ := cellV_u8 f5
  obtain ⟨k3, rfl, g3⟩ := cellV_u8 f6
  obtain ⟨v, rfl, hv⟩ := cellV_i64 f7
  rw [rowV_nil h_18]
  exact ⟨⟨⟨l0, l1, l2, l3⟩, ⟨l4, l5, l6, l7⟩, ⟨l8, l9⟩, bs, n, b, k0, k1, k2, k3, v⟩, ⟨hn, hb2, hb, g0, g1, g2, g3, hv⟩, rfl⟩
theorem oddC_sub (z : OddA) : Sub (.agg (oddC true z)) (.agg (oddC false z)) := by
  simp only [oddC, cfgC, layC, List.cons_append, List.nil_append]
  have sl : ∀ (es : Nat) (xs : List (List PV)), Sub (.sl true es xs) (.sl false es xs) := fun es xs => .slp _ _ _ _ (fun h => by cases h)
  exact Sub.aggL ⟨sl _ _, sl _ _, sl _ _, sl _ _, sl _ _, sl _ _, sl _ _, sl _ _, sl _ _,
    Sub.slR 3 (fun h => by cases h) (SubR.map _ _ _ fun r _ => ⟨.refl _, sl _ _, sl _ _, trivial⟩),
    Sub.slR 5 (fun h => by cases h) (SubR.map _ _ _ fun r _ => ⟨sl _ _, .refl _, .refl _, .refl _, .refl _, trivial⟩),
    .refl _, sl _ _, .refl _, .refl _, .refl _, .refl _, .refl _, trivial⟩
end Go.Proofs.Ytledbjkolidhkab
namespace Go.Proofs.Ytledbjkolidhkab
open Go Go.Vc Txt
theorem unF_comm (a b : List Int) (i : Nat) : unF a b i = unF b a i := by
  unfold unF
  rw [decide_eq_decide]
  exact ⟨fun h => h.elim (fun h => .inr (.inl h)) fun h => h.elim .inl fun h => .inr (.inr (Ne.symm h)), fun h => h.elim (fun h => .inr (.inl h)) fun h => h.elim .inl fun h => .inr (.inr (Ne.symm h))⟩
theorem unlikeF_comm (a b : List Int) : unlikeF a b = unlikeF b a := by
  unfold unlikeF
  rw [show unF a b = unF b a from funext (unF_comm a b), Nat.max_comm]
theorem differF_comm (c d : Cfg) : differF c d = differF d c := by
  unfold differF tilesF
  rw [unlikeF_comm c.sel, unlikeF_comm c.mode, unlikeF_comm c.tab, unlikeF_comm c.ram]
theorem idxF_congr {p q : Nat → Bool} : ∀ k, (∀ i, i < k → p i = q i) → idxF p k = idxF q k
  | 0, _ => rfl
  | k + 1, h => by rw [idxF, idxF, idxF_congr k fun i hi => h i (by omega), h k (by omega)]
theorem idxF_no : ∀ k, idxF (fun _ => false) k = []
  | 0 => rfl
  | k + 1 => by rw [idxF, idxF_no k]; rfl
theorem idxF_one (j : Nat) : ∀ k, idxF (fun i => decide (i = j)) k = if j < k then [(j : Int)] else []
  | 0 => rfl
  | k + 1 => by
    rw [idxF, idxF_one j k]
    by_cases h : j < k
    · rw [if_pos h, if_pos (show j < k + 1 by omega), if_neg (show ¬ decide (k = j) = true by simp; omega)]; rfl
    · rw [if_neg h]
      by_cases e : k = j
      · subst e; simp
      · rw [if_neg (show ¬ decide (k = j) = true by simpa using e), if_neg (show ¬ j < k + 1 by omega)]; rfl
theorem unlikeF_self (a : List Int) : unlikeF a a = [] := by
  unfold unlikeF
  rw [Nat.max_self, idxF_congr (q := fun _ => false) _ fun i hi => ?_, idxF_no]
  unfold unF
  exact decide_eq_false (by omega)
theorem getD_set0 (l : List Int) (i j : Nat) (v : Int) : (l.set i v).getD j 0 = if i = j ∧ i < l.length then v else l.getD j 0 := by
  rw [List.getD_eq_getElem?_getD, List.getElem?_set, List.getD_eq_getElem?_getD]
  by_cases h : i = j
  · subst h
    by_cases h2 : i < l.length <;> simp [h2]
  · simp [h]
theorem unlikeF_set (a : List Int) {j : Nat} (hj : j < a.length) (v : Int) : unlikeF a (a.set j v) = if a.getD j 0 = v then [] else [(j : Int)] := by
  unfold unlikeF
  rw [List.length_set, Nat.max_self]
  by_cases e : a.getD j 0 = v
  · rw [if_pos e, idxF_congr (q := fun _ => false) _ fun i hi => ?_, idxF_no]
    unfold unF
    rw [getD_set0, List.length_set]
    refine decide_eq_false fun h => ?_
    rcases h with h | h | h
    · omega
    · omega
    · split at h
      · rename_i h2; rw [← h2.1] at h; exact h e
      · exact h rfl
  · rw [if_neg e, idxF_congr (q := fun i => decide (i = j)) _ fun i hi => ?_, idxF_one, if_pos hj]
    unfold unF
    rw [getD_set0, List.length_set, decide_eq_decide]
    constructor
    · rintro (h | h | h)
      · omega
      · omega
      · split at h
        · rename_i h2; exact h2.1.symm
        · exact absurd rfl h
    · rintro rfl
      rw [if_pos ⟨rfl, hj⟩]
      exact .inr (.inr e)
theorem set_same (a : List Int) {j : Nat} (hj : j < a.length) {v : Int} : a = a.set j v ↔ a.getD j 0 = v := by
  constructor
  · intro h
    rw [h, getD_set0, if_pos ⟨rfl, hj⟩]
  · intro h
    refine (List.ext_getElem? fun i => ?_)
    rw [List.getElem?_set]
    by_cases e : j = i
    · subst e
      rw [if_pos rfl, if_pos hj, ← h, List.getD_eq_getElem?_getD, List.getElem?_eq_getElem hj]
      rfl
    · rw [if_neg e]
def pickJ (k1 k2 : Int) (l : List Int) : Nat := ((256 * k1 + k2) % (l.length : Int)).toNat
def setJ (k1 k2 v : Int) (l : List Int) : List Int := if 0 < l.length then l.set (pickJ k1 k2 l) v else l
theorem setJ_len (k1 k2 v : Int) (l : List Int) : (setJ k1 k2 v l).length = l.length := by unfold setJ; split <;> simp
def changedF (c : Cfg) (k0 k1 k2 v : Int) : Cfg :=
  if k0 % 4 = 0 then { c with sel := setJ k1 k2 v c.sel } else if k0 % 4 = 1 then { c with mode := setJ k1 k2 v c.mode }
  else if k0 % 4 = 2 then { c with tab := setJ k1 k2 v c.tab } else { c with ram := setJ k1 k2 v c.ram }
theorem pickJ_lt (k1 k2 : Int) {l : List Int} (h : 0 < l.length) : pickJ k1 k2 l < l.length := by
  unfold pickJ
  have := Int.emod_lt_of_pos (256 * k1 + k2) (show 0 < (l.length : Int) by omega)
  have := Int.emod_nonneg (256 * k1 + k2) (show (l.length : Int) ≠ 0 by omega)
  omega
theorem setJ_unlike (k1 k2 v : Int) (l : List Int) : (unlikeF l (setJ k1 k2 v l) = [] ∧ setJ k1 k2 v l = l) ∨ ((∃ j, unlikeF l (setJ k1 k2 v l) = [j]) ∧ setJ k1 k2 v l ≠ l) := by
  unfold setJ
  by_cases h : 0 < l.length
  · have hj := pickJ_lt k1 k2 h
    rw [if_pos h, unlikeF_set l hj]
    have hs := set_same l hj (v := v)
    by_cases e : l.getD (pickJ k1 k2 l) 0 = v
    · rw [if_pos e]
      exact .inl ⟨rfl, (hs.2 e).symm⟩
    · rw [if_neg e]
      exact .inr ⟨⟨_, rfl⟩, fun h => e (hs.1 h.symm)⟩
  · rw [if_neg h]
    exact .inl ⟨unlikeF_self l, rfl⟩
theorem sortF_one (x : Int) : sortF [x] = [x] := List.mergeSort_singleton x
theorem sortF_nil : sortF [] = [] := List.mergeSort_nil
theorem differ_changed (c : Cfg) (k0 k1 k2 v : Int) : ((differF c (changedF c k0 k1 k2 v)).1.length + (differF c (changedF c k0 k1 k2 v)).2.length = 0 ∧ c = changedF c k0 k1 k2 v) ∨
    ((differF c (changedF c k0 k1 k2 v)).1.length + (differF c (changedF c k0 k1 k2 v)).2.length = 1 ∧ c ≠ changedF c k0 k1 k2 v) := by
  obtain ⟨sel, mode, tab, ram⟩ := c
  unfold changedF differF tilesF
  repeat' split
  · rcases setJ_unlike k1 k2 v sel with ⟨h1, h2⟩ | ⟨⟨j, h1⟩, h2⟩
    · refine .inl ⟨?_, ?_⟩ <;> simp only [unlikeF_self, h1, h2, List.append_nil, sortF_nil]; rfl
    · refine .inr ⟨?_, fun h => h2 (congrArg Cfg.sel h).symm⟩
      simp only [unlikeF_self, h1, List.append_nil, sortF_nil]; rfl
  · rcases setJ_unlike k1 k2 v mode with ⟨h1, h2⟩ | ⟨⟨j, h1⟩, h2⟩
    · refine .inl ⟨?_, ?_⟩ <;> simp only [unlikeF_self, h1, h2, List.append_nil, sortF_nil]; rfl
    · refine .inr ⟨?_, fun h => h2 (congrArg Cfg.mode h).symm⟩
      simp only [unlikeF_self, h1, List.append_nil, List.nil_append, sortF_one]; rfl
  · rcases setJ_unlike k1 k2 v tab with ⟨h1, h2⟩ | ⟨⟨j, h1⟩, h2⟩
    · refine .inl ⟨?_, ?_⟩ <;> simp only [unlikeF_self, h1, h2, List.append_nil, sortF_nil]; rfl
    · refine .inr ⟨?_, fun h => h2 (congrArg Cfg.tab h).symm⟩
      simp only [unlikeF_self, h1, List.append_nil, List.nil_append, sortF_one]; rfl
  · rcases setJ_unlike k1 k2 v ram with ⟨h1, h2⟩ | ⟨⟨j, h1⟩, h2⟩
    · refine .inl ⟨?_, ?_⟩ <;> simp only [unlikeF_self, h1, h2, List.append_nil, sortF_nil]; rfl
    · refine .inr ⟨?_, fun h => h2 (congrArg Cfg.ram h).symm⟩
      simp only [unlikeF_self, h1, List.append_nil, List.nil_append, sortF_one]; rfl
theorem differF_self (c : Cfg) : differF c c = ([], []) := by
  unfold differF tilesF
  simp only [unlikeF_self, List.append_nil, sortF_nil]; rfl
theorem changedF_len {g : Grid} {c : Cfg} (h : CfgLn g c) (k0 k1 k2 v : Int) : CfgLn g (changedF c k0 k1 k2 v) := by
  obtain ⟨h1, h2, h3, h4⟩ := h
  unfold changedF
  repeat' split
  all_goals refine ⟨?_, ?_, ?_, ?_⟩ <;> simp only [setJ_len] <;> assumption
end Go.Proofs.Ytledbjkolidhkab
namespace Go.Proofs.Ytledbjkolidhkab.Txt
open Go Go.Vc
set_option maxRecDepth 100000
def ac7v : AC :=
 (.seq (.reg [0, 69, 0, 1, 2] [
 ⟨some 3, none, .box (.t 0)⟩, ⟨some 4, none, .box (.t 1)⟩, ⟨some 6, none, .alc [.nil, .nil, .nil, .nil]⟩])
 (.seq (.drw [0, 69, 2, 3, 4, 6] [
 ⟨⟨some 9, none, .bsl 1 3 [.sc (.int .i64 0)] 0 []⟩, [9], [13, 17, 21], true⟩, ⟨⟨some 10, none, .fa 0 (.t 3)⟩, [], [9, 13, 17, 21], true⟩, ⟨⟨some 11, none, .ld false 1 (.t 10)⟩, [], [9, 13, 17, 21], true⟩, ⟨⟨some 12, none, .app 1 3 8 (.t 9) (.t 11)⟩, [12, 9], [13, 17, 21], true⟩, ⟨⟨some 13, none, .bsl 1 3 [.sc (.int .i64 0)] 0 []⟩, [13], [9, 12, 17, 21], true⟩, ⟨⟨some 14, none, .fa 1 (.t 3)⟩, [], [9, 12, 13, 17, 21], true⟩, ⟨⟨some 15, none, .ld false 1 (.t 14)⟩, [], [9, 12, 13, 17, 21], true⟩, ⟨⟨some 16, none, .app 1 3 8 (.t 13) (.t 15)⟩, [16, 13], [17, 21], true⟩, ⟨⟨some 17, none, .bsl 1 3 [.sc (.int .i64 0)] 0 []⟩, [17], [9, 12, 13, 16, 21], true⟩, ⟨⟨some 18, none, .fa 2 (.t 3)⟩, [], [9, 12, 13, 16, 17, 21], true⟩, ⟨⟨some 19, none, .ld false 1 (.t 18)⟩, [], [9, 12, 13, 16, 17, 21], true⟩, ⟨⟨some 20, none, .app 1 3 8 (.t 17) (.t 19)⟩, [20, 17], [21], true⟩, ⟨⟨some 21, none, .bsl 1 3 [.sc (.int .i64 0)] 0 []⟩, [21], [9, 12, 13, 16, 17, 20], true⟩, ⟨⟨some 22, none, .fa 3 (.t 3)⟩, [], [9, 12, 13, 16, 17, 20, 21], true⟩, ⟨⟨some 23, none, .ld false 1 (.t 22)⟩, [], [9, 12, 13, 16, 17, 20, 21], true⟩, ⟨⟨some 24, none, .app 1 3 8 (.t 21) (.t 23)⟩, [], [], false⟩, ⟨⟨some 25, none, .xo (.bsx 1 [.nil]) [(.t 12), (.t 16), (.t 20), (.t 24)]⟩, [], [], false⟩, ⟨⟨some 7, none, .mv (.t 25)⟩, [], [], false⟩])
 (.seq (.reg [0, 69, 2, 4, 6, 7] [
 ⟨some 26, none, .ixa 4 1 (.t 4) (.c (.sc (.int .i64 0)))⟩, ⟨some 27, none, .ld false 1 (.t 26)⟩, ⟨some 28, none, .dvd .rem true .u8 (.t 27) (.c (.sc (.int .u8 4)))⟩, ⟨some 29, none, .cnv true .i64 (.t 28)⟩, ⟨some 8, none, .mv (.t 29)⟩])
 (.seq (.seq (.reg [0, 69, 2, 4, 6, 7, 8] [
 ⟨some 30, none, .mv (.t 7)⟩, ⟨some 31, none, .mv (.t 8)⟩, ⟨some 32, none, .ixs 1 (.t 30) (.t 31)⟩, ⟨some 33, none, .ld false 1 (.t 32)⟩, ⟨some 34, none, .len (.t 33)⟩, ⟨some 35, none, .cmp .gtr .i64 (.t 34) (.c (.sc (.int .i64 0)))⟩])
 (.cond (.t 35)
 (.drw [0, 69, 2, 4, 6, 7, 8] [
 ⟨⟨some 36, none, .mv (.t 7)⟩, [], [], true⟩, ⟨⟨some 37, none, .mv (.t 8)⟩, [], [], true⟩, ⟨⟨some 38, none, .ixs 1 (.t 36) (.t 37)⟩, [], [], true⟩, ⟨⟨some 39, none, .ld false 1 (.t 38)⟩, [], [], true⟩, ⟨⟨some 40, none, .ixa 4 1 (.t 4) (.c (.sc (.int .i64 1)))⟩, [], [], true⟩, ⟨⟨some 41, none, .ld false 1 (.t 40)⟩, [], [], true⟩, ⟨⟨some 42, none, .cnv true .i64 (.t 41)⟩, [], [], true⟩, ⟨⟨some 43, none, .ari .mul true .i64 (.c (.sc (.int .i64 256))) (.t 42)⟩, [], [], true⟩, ⟨⟨some 44, none, .ixa 4 1 (.t 4) (.c (.sc (.int .i64 2)))⟩, [], [], true⟩, ⟨⟨some 45, none, .ld false 1 (.t 44)⟩, [], [], true⟩, ⟨⟨some 46, none, .cnv true .i64 (.t 45)⟩, [], [], true⟩, ⟨⟨some 47, none, .ari .add true .i64 (.t 43) (.t 46)⟩, [], [], true⟩, ⟨⟨some 48, none, .mv (.t 7)⟩, [], [], true⟩, ⟨⟨some 49, none, .mv (.t 8)⟩, [], [], true⟩, ⟨⟨some 50, none, .ixs 1 (.t 48) (.t 49)⟩, [], [], true⟩, ⟨⟨some 51, none, .ld false 1 (.t 50)⟩, [], [], true⟩, ⟨⟨some 52, none, .len (.t 51)⟩, [], [], true⟩, ⟨⟨some 53, none, .dvd .rem true .i64 (.t 47) (.t 52)⟩, [], [], true⟩, ⟨⟨some 54, none, .mv (.t 2)⟩, [], [], true⟩, ⟨⟨some 55, none, .ixs 1 (.t 39) (.t 53)⟩, [], [], false⟩, ⟨⟨none, none, .sto 1 (.t 55) (.t 54)⟩, [], [], false⟩])
 .skip))
 (.seq (.drw [0, 69, 6, 7] [
 ⟨⟨some 56, none, .mv (.t 7)⟩, [], [], true⟩, ⟨⟨some 57, none, .ixs 1 (.t 56) (.c (.sc (.int .i64 0)))⟩, [], [], true⟩, ⟨⟨some 58, none, .ld false 1 (.t 57)⟩, [], [], true⟩, ⟨⟨some 59, none, .mv (.t 7)⟩, [], [], true⟩, ⟨⟨some 60, none, .ixs 1 (.t 59) (.c (.sc (.int .i64 1)))⟩, [], [], true⟩, ⟨⟨some 61, none, .ld false 1 (.t 60)⟩, [], [], true⟩, ⟨⟨some 62, none, .mv (.t 7)⟩, [], [], true⟩, ⟨⟨some 63, none, .ixs 1 (.t 62) (.c (.sc (.int .i64 2)))⟩, [], [], true⟩, ⟨⟨some 64, none, .ld false 1 (.t 63)⟩, [], [], true⟩, ⟨⟨some 65, none, .mv (.t 7)⟩, [], [], true⟩, ⟨⟨some 66, none, .ixs 1 (.t 65) (.c (.sc (.int .i64 3)))⟩, [], [], true⟩, ⟨⟨some 67, none, .ld false 1 (.t 66)⟩, [], [], true⟩, ⟨⟨some 68, none, .bld [.nil, .nil, .nil, .nil] [(0, 1, (.t 58)), (1, 1, (.t 61)), (2, 1, (.t 64)), (3, 1, (.t 67))]⟩, [], [], false⟩, ⟨⟨none, none, .sto 4 (.t 6) (.t 68)⟩, [], [], false⟩])
 .ret)))))
def rv7v : List RV := [.cell 6 true 4]
theorem ok7v : fnOk Try.prog ac7v rv7v Try.f7 = true := by kernel_rfl
end Go.Proofs.Ytledbjkolidhkab.Txt
namespace Go.Proofs.Ytledbjkolidhkab
open Go Go.Vc Txt
set_option maxHeartbeats 4000000 in
theorem changed_ok (c : Cfg) (hc : CfgSm c) (k0 k1 k2 k3 v : Int) (h0 : 0 ≤ k0 ∧ k0 ≤ 255) (h1 : 0 ≤ k1 ∧ k1 ≤ 255) (h2 : 0 ≤ k2 ∧ k2 ≤ 255) :
    FnEq Try.prog 7 [.agg (cfgC false c), .agg [.sc (.int .u8 k0), .sc (.int .u8 k1), .sc (.int .u8 k2), .sc (.int .u8 k3)], .int v] (.agg (cfgC true (changedF c k0 k1 k2 v))) := by
  obtain ⟨s1, s2, s3, s4⟩ := hc
  refine FnEq.of_awp Try.func7 ok7v (by show 3 ≤ _; decide) (by simp only [push_cast, reduceIte, Nat.reduceEqDiff, Nat.reduceAdd, Nat.reduceSub, Nat.reduceMul, Nat.reduceBEq, Nat.reduceLT, Nat.reduceLeDiff, reduceCtorEq, Int.reduceToNat, Int.reduceNeg] <;> first | exact fun _ _ => trivial | simp) ?_
  have hk : k0 % 4 = 0 ∨ k0 % 4 = 1 ∨ k0 % 4 = 2 ∨ k0 % 4 = 3 := by omega
  unfold changedF setJ pickJ
  rcases hk with e | e | e | e
  · rw [if_pos (show k0 % 4 = 0 by omega)]
    simp only [ac7v, rv7v, push_cast, reduceIte, Nat.reduceEqDiff, Nat.reduceAdd, Nat.reduceSub, Nat.reduceMul, Nat.reduceBEq, Nat.reduceLT, Nat.reduceLeDiff, reduceCtorEq, Int.reduceToNat, Int.reduceNeg]
    simp only [e, List.replicate_zero, List.nil_append, List.length_nil, push_cast, reduceIte, Nat.reduceEqDiff, Nat.reduceAdd, Nat.reduceSub, Nat.reduceMul, Nat.reduceBEq, Nat.reduceLT, Nat.reduceLeDiff, reduceCtorEq, Int.reduceToNat, Int.reduceNeg]
    repeat (refine And.intro (by omega) ?_)
    refine cond_dec (fun h => ?_) fun h => ?_
    · rw [if_pos (show 0 < c.sel.length by omega)]
      have t1 := Int.emod_lt_of_pos (256 * k1 + k2) (show 0 < (c.sel.length : Int) by omega)
      have t2 := Int.emod_nonneg (256 * k1 + k2) (show (c.sel.length : Int) ≠ 0 by omega)
      generalize (256 * k1 + k2) % (c.sel.length : Int) = t at *
      repeat (refine And.intro (by omega) ?_)
      rw [List.take_of_length_le (by simp)]
      exact ⟨⟨fun _ _ => trivial, fun _ _ => trivial, fun _ _ => trivial, fun _ _ => trivial⟩, .refl _⟩
    · rw [if_neg (show ¬ 0 < c.sel.length by omega)]
      repeat (refine And.intro (by omega) ?_)
      exact ⟨⟨fun _ _ => trivial, fun _ _ => trivial, fun _ _ => trivial, fun _ _ => trivial⟩, .refl _⟩
  · rw [if_neg (show ¬ k0 % 4 = 0 by omega), if_pos (show k0 % 4 = 1 by omega)]
    simp only [ac7v, rv7v, push_cast, reduceIte, Nat.reduceEqDiff, Nat.reduceAdd, Nat.reduceSub, Nat.reduceMul, Nat.reduceBEq, Nat.reduceLT, Nat.reduceLeDiff, reduceCtorEq, Int.reduceToNat, Int.reduceNeg]
    simp only [e, List.replicate_zero, List.nil_append, List.length_nil, push_cast, reduceIte, Nat.reduceEqDiff, Nat.reduceAdd, Nat.reduceSub, Nat.reduceMul, Nat.reduceBEq, Nat.reduceLT, Nat.reduceLeDiff, reduceCtorEq, Int.reduceToNat, Int.reduceNeg]
    repeat (refine And.intro (by omega) ?_)
    refine cond_dec (fun h => ?_) fun h => ?_
    · rw [if_pos (show 0 < c.mode.length by omega)]
      have t1 := Int.emod_lt_of_pos (256 * k1 + k2) (show 0 < (c.mode.length : Int) by omega)
      have t2 := Int.emod_nonneg (256 * k1 + k2) (show (c.mode.length : Int) ≠ 0 by omega)
      generalize (256 * k1 + k2) % (c.mode.length : Int) = t at *
      repeat (refine And.intro (by omega) ?_)
      rw [List.take_of_length_le (by simp)]
      exact ⟨⟨fun _ _ => trivial, fun _ _ => trivial, fun _ _ => trivial, fun _ _ => trivial⟩, .refl _⟩
    · rw [if_neg (show ¬ 0 < c.mode.length by omega)]
      repeat (refine And.intro (by omega) ?_)
      exact ⟨⟨fun _ _ => trivial, fun _ _ => trivial, fun _ _ => trivial, fun _ _ => trivial⟩, .refl _⟩
  · rw [if_neg (show ¬ k0 % 4 = 0 by omega), if_neg (show ¬ k0 % 4 = 1 by omega), if_pos (show k0 % 4 = 2 by omega)]
    simp only [ac7v, rv7v, push_cast, reduceIte, Nat.reduceEqDiff, Nat.reduceAdd, Nat.reduceSub, Nat.reduceMul, Nat.reduceBEq, Nat.reduceLT, Nat.reduceLeDiff, reduceCtorEq, Int.reduceToNat, Int.reduceNeg]
    simp only [e, List.replicate_zero, List.nil_append, List.length_nil, push_cast, reduceIte, Nat.reduceEqDiff, Nat.reduceAdd, Nat.reduceSub, Nat.reduceMul, Nat.reduceBEq, Nat.reduceLT, Nat.reduceLeDiff, reduceCtorEq, Int.reduceToNat, Int.reduceNeg]
    repeat (refine And.intro (by omega) ?_)
    refine cond_dec (fun h => ?_) fun h => ?_
    · rw [if_pos (show 0 < c.tab.length by omega)]
      have t1 := Int.emod_lt_of_pos (256 * k1 + k2) (show 0 < (c.tab.length : Int) by omega)
      have t2 := Int.emod_nonneg (256 * k1 + k2) (show (c.tab.length : Int) ≠ 0 by omega)
      generalize (256 * k1 + k2) % (c.tab.length : Int) = t at *
      repeat (refine And.intro (by omega) ?_)
      rw [List.take_of_length_le (by simp)]
      exact ⟨⟨fun _ _ => trivial, fun _ _ => trivial, fun _ _ => trivial, fun _ _ => trivial⟩, .refl _⟩
    · rw [if_neg (show ¬ 0 < c.tab.length by omega)]
      repeat (refine And.intro (by omega) ?_)
      exact ⟨⟨fun _ _ => trivial, fun _ _ => trivial, fun _ _ => trivial, fun _ _ => trivial⟩, .refl _⟩
  · rw [if_neg (show ¬ k0 % 4 = 0 by omega), if_neg (show ¬ k0 % 4 = 1 by omega), if_neg (show ¬ k0 % 4 = 2 by omega)]
    simp only [ac7v, rv7v, push_cast, reduceIte, Nat.reduceEqDiff, Nat.reduceAdd, Nat.reduceSub, Nat.reduceMul, Nat.reduceBEq, Nat.reduceLT, Nat.reduceLeDiff, reduceCtorEq, Int.reduceToNat, Int.reduceNeg]
    simp only [e, List.replicate_zero, List.nil_append, List.length_nil, push_cast, reduceIte, Nat.reduceEqDiff, Nat.reduceAdd, Nat.reduceSub, Nat.reduceMul, Nat.reduceBEq, Nat.reduceLT, Nat.reduceLeDiff, reduceCtorEq, Int.reduceToNat, Int.reduceNeg]
    repeat (refine And.intro (by omega) ?_)
    refine cond_dec (fun h => ?_) fun h => ?_
    · rw [if_pos (show 0 < c.ram.length by omega)]
      have t1 := Int.emod_lt_of_pos (256 * k1 + k2) (show 0 < (c.ram.length : Int) by omega)
      have t2 := Int.emod_nonneg (256 * k1 + k2) (show (c.ram.length : Int) ≠ 0 by omega)
      generalize (256 * k1 + k2) % (c.ram.length : Int) = t at *
      repeat (refine And.intro (by omega) ?_)
      rw [List.take_of_length_le (by simp)]
      exact ⟨⟨fun _ _ => trivial, fun _ _ => trivial, fun _ _ => trivial, fun _ _ => trivial⟩, .refl _⟩
    · rw [if_neg (show ¬ 0 < c.ram.length by omega)]
      repeat (refine And.intro (by omega) ?_)
      exact ⟨⟨fun _ _ => trivial, fun _ _ => trivial, fun _ _ => trivial, fun _ _ => trivial⟩, .refl _⟩
end Go.Proofs.Ytledbjkolidhkab
namespace Go.Proofs.Ytledbjkolidhkab.Txt
open Go Go.Vc
set_option maxRecDepth 100000
def ac3 : AC :=
 (.seq (.reg [0, 82, 0, 1, 2] [
 ⟨some 3, none, .box (.t 0)⟩, ⟨some 5, none, .box (.t 2)⟩, ⟨some 6, none, .mv (.c (.sc (.bool false)))⟩])
 (.seq (.reg [0, 82, 1, 3, 5] [
 ⟨some 15, none, .cal 4 []⟩, ⟨some 7, none, .mv (.t 15)⟩])
 (.seq (.seq (.reg [0, 82, 1, 3, 5, 7] [
 ⟨some 16, none, .mv (.t 7)⟩, ⟨some 17, none, .not (.t 16)⟩])
 (.cond (.t 17)
 (.seq (.reg [0, 82] [
 ⟨some 6, none, .mv (.c (.sc (.bool false)))⟩])
 .ret)
 .skip))
 (.seq (.reg [0, 82, 1, 3, 5, 7] [
 ⟨some 18, none, .ld true 5 (.t 3)⟩, ⟨some 19, none, .cal 5 [(.t 18)]⟩, ⟨some 8, none, .alc [.sc (.int .i64 0), .sc (.int .i64 0), .sc (.int .i64 0), .sc (.int .i64 0), .nil]⟩, ⟨none, none, .sto 5 (.t 8) (.t 19)⟩])
 (.seq (.reg [0, 82, 1, 5, 7, 8] [
 ⟨some 20, none, .ld true 5 (.t 8)⟩, ⟨some 21, none, .mv (.t 1)⟩, ⟨some 22, none, .cal 6 [(.t 20), (.t 21)]⟩, ⟨some 9, none, .alc [.nil, .nil, .nil, .nil]⟩, ⟨none, none, .sto 4 (.t 9) (.t 22)⟩])
 (.seq (.reg [0, 82, 5, 7, 9] [
 ⟨some 23, none, .ld true 4 (.t 9)⟩, ⟨some 24, none, .fa 13 (.t 5)⟩, ⟨some 25, none, .ld true 4 (.t 24)⟩, ⟨some 26, none, .fa 17 (.t 5)⟩, ⟨some 27, none, .ld false 1 (.t 26)⟩, ⟨some 28, none, .cal 7 [(.t 23), (.t 25), (.t 27)]⟩, ⟨some 10, none, .alc [.nil, .nil, .nil, .nil]⟩, ⟨none, none, .sto 4 (.t 10) (.t 28)⟩])
 (.seq (.drw [0, 82, 7, 9, 10] [
 ⟨⟨some 29, none, .ld true 4 (.t 9)⟩, [], [11, 12, 13], true⟩, ⟨⟨some 30, none, .ld true 4 (.t 10)⟩, [], [11, 12, 13], true⟩, ⟨⟨some 31, none, .cal 8 [(.t 29), (.t 30)]⟩, [], [11, 12, 13], true⟩, ⟨⟨some 32, none, .ld true 4 (.t 10)⟩, [], [11, 12, 13], true⟩, ⟨⟨some 33, none, .ld true 4 (.t 9)⟩, [], [11, 12, 13], true⟩, ⟨⟨some 34, none, .cal 8 [(.t 32), (.t 33)]⟩, [], [11, 12, 13], true⟩, ⟨⟨some 35, none, .ld true 4 (.t 9)⟩, [], [11, 12, 13], true⟩, ⟨⟨some 36, none, .ld true 4 (.t 9)⟩, [], [11, 12, 13], true⟩, ⟨⟨some 37, none, .cal 8 [(.t 35), (.t 36)]⟩, [], [11, 12, 13], true⟩, ⟨⟨some 11, none, .alc [.nil, .nil]⟩, [11], [12, 13], true⟩, ⟨⟨some 12, none, .alc [.nil, .nil]⟩, [12], [11, 13], true⟩, ⟨⟨some 13, none, .alc [.nil, .nil]⟩, [13], [11, 12], true⟩, ⟨⟨none, none, .sto 2 (.t 11) (.t 31)⟩, [], [], false⟩, ⟨⟨none, none, .sto 2 (.t 12) (.t 34)⟩, [], [], false⟩, ⟨⟨none, none, .sto 2 (.t 13) (.t 37)⟩, [], [], false⟩])
 (.seq (.reg [0, 82, 7, 9, 10, 11, 12, 13] [
 ⟨some 38, none, .fa 0 (.t 11)⟩, ⟨some 39, none, .ld false 1 (.t 38)⟩, ⟨some 40, none, .len (.t 39)⟩, ⟨some 41, none, .fa 1 (.t 11)⟩, ⟨some 42, none, .ld false 1 (.t 41)⟩, ⟨some 43, none, .len (.t 42)⟩, ⟨some 44, none, .ari .add true .i64 (.t 40) (.t 43)⟩, ⟨some 14, none, .mv (.t 44)⟩])
 (.seq (.reg [0, 82, 7, 9, 10, 11, 12, 13, 14] [
 ⟨some 45, none, .mv (.t 14)⟩, ⟨some 46, none, .cmp .eql .i64 (.t 45) (.c (.sc (.int .i64 0)))⟩, ⟨some 47, none, .ld true 4 (.t 9)⟩, ⟨some 48, none, .ld true 4 (.t 10)⟩, ⟨some 49, none, .cal 9 [(.t 47), (.t 48)]⟩, ⟨some 50, none, .eqb false (.t 46) (.t 49)⟩, ⟨some 51, none, .mv (.t 50)⟩, ⟨some 52, some (51, true), .mv (.t 14)⟩, ⟨some 53, some (51, true), .cmp .leq .i64 (.t 52) (.c (.sc (.int .i64 1)))⟩, ⟨some 54, none, .pick (.t 51) (.t 53) (.c (.sc (.bool false)))⟩, ⟨some 55, none, .mv (.t 54)⟩, ⟨some 56, some (55, true), .fa 0 (.t 11)⟩, ⟨some 57, some (55, true), .ld false 1 (.t 56)⟩, ⟨some 58, some (55, true), .fa 0 (.t 12)⟩, ⟨some 59, some (55, true), .ld false 1 (.t 58)⟩, ⟨some 60, some (55, true), .cal 10 [(.t 57), (.t 59)]⟩, ⟨some 61, none, .pick (.t 55) (.t 60) (.c (.sc (.bool false)))⟩, ⟨some 62, none, .mv (.t 61)⟩, ⟨some 63, some (62, true), .fa 1 (.t 11)⟩, ⟨some 64, some (62, true), .ld false 1 (.t 63)⟩, ⟨some 65, some (62, true), .fa 1 (.t 12)⟩, ⟨some 66, some (62, true), .ld false 1 (.t 65)⟩, ⟨some 67, some (62, true), .cal 10 [(.t 64), (.t 66)]⟩, ⟨some 68, none, .pick (.t 62) (.t 67) (.c (.sc (.bool false)))⟩, ⟨some 69, none, .mv (.t 68)⟩, ⟨some 70, some (69, true), .fa 0 (.t 13)⟩, ⟨some 71, some (69, true), .ld false 1 (.t 70)⟩, ⟨some 72, some (69, true), .len (.t 71)⟩, ⟨some 73, some (69, true), .fa 1 (.t 13)⟩, ⟨some 74, some (69, true), .ld false 1 (.t 73)⟩, ⟨some 75, some (69, true), .len (.t 74)⟩, ⟨some 76, some (69, true), .ari .add true .i64 (.t 72) (.t 75)⟩, ⟨some 77, some (69, true), .cmp .eql .i64 (.t 76) (.c (.sc (.int .i64 0)))⟩, ⟨some 78, none, .pick (.t 69) (.t 77) (.c (.sc (.bool false)))⟩, ⟨some 79, none, .mv (.t 78)⟩, ⟨some 80, some (79, true), .mv (.t 7)⟩, ⟨some 81, none, .pick (.t 79) (.t 80) (.c (.sc (.bool false)))⟩, ⟨some 6, none, .mv (.t 81)⟩])
 .ret)))))))))
def rv3 : List RV := [.tmp 6]
theorem ok3 : fnOk Try.prog ac3 rv3 Try.f3 = true := by kernel_rfl
end Go.Proofs.Ytledbjkolidhkab.Txt
namespace Go.Proofs.Ytledbjkolidhkab
open Go Go.Vc Txt
theorem cfgLn_sm {g : Grid} (hg : GOk g) {c : Cfg} (h : CfgLn g c) : CfgSm c := by
  have h1 := hg.count
  have h2 := hg.wh
  have h3 := hg.kind
  obtain ⟨q1, q2, q3, q4⟩ := h
  exact ⟨by omega, by omega, by omega, by omega⟩
set_option maxHeartbeats 2000000 in
theorem differs_ok (x : RawG) (hx : x.By) (l : List Int) (hl : (l.length : Int) ≤ 9223372036854775807) (hb : ∀ b ∈ l, 0 ≤ b ∧ b ≤ 255) (z : OddA) (hz : z.By) :
    FnEq Try.prog 3 [.agg (rawGC false x), .sl false 1 (bytes8 l), .agg (oddC false z)] (.bool true) := by
  have hg := (gridF_ok x).1
  have hm := made_ok x hx.ok
  have hw := wild_ok (gridF x) hg l hl hb
  have hcl : CfgLn (gridF x) (wildF (gridF x) l) := wildN_len _ _ _
  have hc := cfgLn_sm hg hcl
  have hd := cfgLn_sm hg (changedF_len hcl z.k0 z.k1 z.k2 z.v)
  generalize wildF (gridF x) l = c at *
  generalize gridF x = g at *
  have hch := changed_ok c hc z.k0 z.k1 z.k2 z.k3 z.v hz.k0 hz.k1 hz.k2
  have hdc := differ_changed c z.k0 z.k1 z.k2 z.v
  generalize changedF c z.k0 z.k1 z.k2 z.v = d at *
  have d1 := ldiffer_ok c d hc hd
  have d2 := ldiffer_ok d c hd hc
  have d3 := ldiffer_ok c c hc hc
  have hs := same_ok c d hc hd
  rw [differF_comm d c] at d2
  rw [differF_self] at d3
  refine FnEq.of_awp Try.func3 ok3 (by show 3 ≤ _; decide) (by simp only [push_cast, reduceIte, Nat.reduceEqDiff, Nat.reduceAdd, Nat.reduceSub, Nat.reduceMul, Nat.reduceBEq, Nat.reduceLT, Nat.reduceLeDiff, reduceCtorEq, Int.reduceToNat, Int.reduceNeg] <;> first | exact fun _ _ => trivial | simp) ?_
  simp only [ac3, rv3, push_cast, reduceIte, Nat.reduceEqDiff, Nat.reduceAdd, Nat.reduceSub, Nat.reduceMul, Nat.reduceBEq, Nat.reduceLT, Nat.reduceLeDiff, reduceCtorEq, Int.reduceToNat, Int.reduceNeg]
  refine cal_eq examples_ok ?_
  simp only [push_cast, reduceIte, Nat.reduceEqDiff, Nat.reduceAdd, Nat.reduceSub, Nat.reduceMul, Nat.reduceBEq, Nat.reduceLT, Nat.reduceLeDiff, reduceCtorEq, Int.reduceToNat, Int.reduceNeg]
  refine cal_eq hm ?_
  simp only [push_cast, reduceIte, Nat.reduceEqDiff, Nat.reduceAdd, Nat.reduceSub, Nat.reduceMul, Nat.reduceBEq, Nat.reduceLT, Nat.reduceLeDiff, reduceCtorEq, Int.reduceToNat, Int.reduceNeg]
  have gS : Sub (.agg (gridC true g)) (.agg (gridC false g)) := Sub.aggL ⟨.refl _, .refl _, .refl _, .refl _, .slp _ _ _ _ (fun h => by cases h), trivial⟩
  have cS : ∀ c : Cfg, Sub (.agg (cfgC true c)) (.agg (cfgC false c)) := fun c => Sub.aggL ⟨.slp _ _ _ _ (fun h => by cases h), .slp _ _ _ _ (fun h => by cases h), .slp _ _ _ _ (fun h => by cases h), .slp _ _ _ _ (fun h => by cases h), trivial⟩
  have sl : ∀ xs : List Int, Sub (.sl true 1 (ints xs)) (.sl false 1 (ints xs)) := fun xs => .slp _ _ _ _ (fun h => by cases h)
  refine cal_sub hw ⟨gS, .refl _, trivial⟩ ?_
  simp only [push_cast, reduceIte, Nat.reduceEqDiff, Nat.reduceAdd, Nat.reduceSub, Nat.reduceMul, Nat.reduceBEq, Nat.reduceLT, Nat.reduceLeDiff, reduceCtorEq, Int.reduceToNat, Int.reduceNeg]
  refine cal_sub hch ⟨cS c, .refl _, .refl _, trivial⟩ ?_
  simp only [push_cast, reduceIte, Nat.reduceEqDiff, Nat.reduceAdd, Nat.reduceSub, Nat.reduceMul, Nat.reduceBEq, Nat.reduceLT, Nat.reduceLeDiff, reduceCtorEq, Int.reduceToNat, Int.reduceNeg]
  refine dcal_sub d1 ⟨cS c, cS d, trivial⟩ rfl ?_
  simp only [push_cast, reduceIte, Nat.reduceEqDiff, Nat.reduceAdd, Nat.reduceSub, Nat.reduceMul, Nat.reduceBEq, Nat.reduceLT, Nat.reduceLeDiff, reduceCtorEq, Int.reduceToNat, Int.reduceNeg]
  refine dcal_sub d2 ⟨cS d, cS c, trivial⟩ rfl ?_
  simp only [push_cast, reduceIte, Nat.reduceEqDiff, Nat.reduceAdd, Nat.reduceSub, Nat.reduceMul, Nat.reduceBEq, Nat.reduceLT, Nat.reduceLeDiff, reduceCtorEq, Int.reduceToNat, Int.reduceNeg]
  refine dcal_sub d3 ⟨cS c, cS c, trivial⟩ rfl ?_
  simp only [push_cast, reduceIte, Nat.reduceEqDiff, Nat.reduceAdd, Nat.reduceSub, Nat.reduceMul, Nat.reduceBEq, Nat.reduceLT, Nat.reduceLeDiff, reduceCtorEq, Int.reduceToNat, Int.reduceNeg]
  have hlen : (differF c d).1.length + (differF c d).2.length ≤ 1 ∧ ((differF c d).1.length + (differF c d).2.length = 0 ↔ c = d) := by
    rcases hdc with ⟨h1, h2⟩ | ⟨h1, h2⟩
    · exact ⟨by omega, fun _ => h2, fun _ => h1⟩
    · exact ⟨by omega, fun h => by omega, fun h => absurd h h2⟩
  have i1 := ints_ok (differF c d).1 (differF c d).1 (by omega) (by omega)
  have i2 := ints_ok (differF c d).2 (differF c d).2 (by omega) (by omega)
  generalize (differF c d).1 = x1 at *
  generalize (differF c d).2 = x2 at *
  repeat (refine And.intro (by omega) ?_)
  refine cal_sub hs ⟨cS c, cS d, trivial⟩ ?_
  simp only [push_cast, reduceIte, Nat.reduceEqDiff, Nat.reduceAdd, Nat.reduceSub, Nat.reduceMul, Nat.reduceBEq, Nat.reduceLT, Nat.reduceLeDiff, reduceCtorEq, Int.reduceToNat, Int.reduceNeg]
  have hb : (decide ((x1.length : Int) + x2.length = 0) == decide (c = d)) = true := by
    rw [beq_iff_eq, decide_eq_decide, ← hlen.2]
    omega
  rw [hb]
  simp only [push_cast, reduceIte, Nat.reduceEqDiff, Nat.reduceAdd, Nat.reduceSub, Nat.reduceMul, Nat.reduceBEq, Nat.reduceLT, Nat.reduceLeDiff, reduceCtorEq, Int.reduceToNat, Int.reduceNeg]
  refine grd_dec rfl (fun e => ?_) fun e => absurd (by omega) e
  simp only [push_cast, reduceIte, Nat.reduceEqDiff, Nat.reduceAdd, Nat.reduceSub, Nat.reduceMul, Nat.reduceBEq, Nat.reduceLT, Nat.reduceLeDiff, reduceCtorEq, Int.reduceToNat, Int.reduceNeg]
  refine cal_sub i1 ⟨sl _, sl _, trivial⟩ ?_
  simp only [push_cast, reduceIte, Nat.reduceEqDiff, Nat.reduceAdd, Nat.reduceSub, Nat.reduceMul, Nat.reduceBEq, Nat.reduceLT, Nat.reduceLeDiff, reduceCtorEq, Int.reduceToNat, Int.reduceNeg]
  refine cal_sub i2 ⟨sl _, sl _, trivial⟩ ?_
  simp only [List.length_nil, push_cast, reduceIte, Nat.reduceEqDiff, Nat.reduceAdd, Nat.reduceSub, Nat.reduceMul, Nat.reduceBEq, Nat.reduceLT, Nat.reduceLeDiff, reduceCtorEq, Int.reduceToNat, Int.reduceNeg]
  refine ⟨by omega, ?_⟩
  refine grd_dec rfl (fun e => ?_) fun e => absurd (by omega) e
  simp only [push_cast, reduceIte, Nat.reduceEqDiff, Nat.reduceAdd, Nat.reduceSub, Nat.reduceMul, Nat.reduceBEq, Nat.reduceLT, Nat.reduceLeDiff, reduceCtorEq, Int.reduceToNat, Int.reduceNeg]
theorem lawd_true {f : Nat} (hok : ∀ (x : RawG), x.By → ∀ (l : List Int), (l.length : Int) ≤ 9223372036854775807 → (∀ b ∈ l, 0 ≤ b ∧ b ≤ 255) → ∀ z : OddA, z.By → FnEq Try.prog f [.agg (rawGC false x), .sl false 1 (bytes8 l), .agg (oddC false z)] (.bool true))
    {a : List PV} {b : PV} {c : List PV} (ha : RowV gridT a) (hb : CellV (.sl 1 [.i .u8]) b) (hc : RowV oddT c) : FnEq Try.prog f [.agg a, b, .agg c] (.bool true) := by
  obtain ⟨x, hx, rfl⟩ := rawG_of ha
  obtain ⟨l, rfl, h1, h2⟩ := cellV_bytes hb
  obtain ⟨z, hz, rfl⟩ := odd_of hc
  refine FnOK.sub (hok x hx l h1 h2 z hz) ⟨Sub.aggL ?_, .slp _ _ _ _ (fun h => by cases h), oddC_sub z, trivial⟩
  exact ⟨.refl _, .refl _, .refl _, .refl _, .slp _ _ _ _ (fun h => by cases h), trivial⟩
end Go.Proofs.Ytledbjkolidhkab
namespace Go.Proofs.Ytledbjkolidhkab
open Go Go.ChangeShapes Go.WideShapes Go.ChangeAt Go.RowKit Go.Vc
theorem gridFlat : flatOk Try.prog 9 24 gridT = true := by kernel_rfl
theorem oddFlat : flatOk Try.prog 9 34 oddT = true := by kernel_rfl
theorem slU : Try.prog.underlying 22 = some (.slice 5) := by kernel_rfl
theorem slFlat : flatOk Try.prog 9 22 [.sl 1 [.i .u8]] = true := by kernel_rfl
theorem Try.own : ownKnob Try.prog.godebug = none := by kernel_rfl
theorem Try.laidOut : laidOutB Try.prog = true := by kernel_rfl
theorem boolU : Try.prog.underlying 4 = some .bool := by kernel_rfl
theorem paramsDiffers : Try.f3.params = #[24, 22, 34] := by kernel_rfl
set_option maxRecDepth 100000 in
theorem differs_lifted (os : Os) (started : os.Started) (H : Type) (enc : TypeId × Value → H) :
    ReturnsInHanded {} Try.checked os 3 .any (Rows.configDiffersSpec.pre6 enc Try.prog Try.f3 Rows.configDiffersRow.domain false) (Rows.configDiffersSpec.post enc Try.prog Try.f3 false true false false) := by
  refine returnsInHanded_of_change (C := Try.checked) Try.own started (by kernel_rfl) Try.func3
    (ChangeSpec.witness6 (enc := enc) (C := Try.checked) false ⟨#[], #[.agg #[.int .u8 0, .int .u8 0, .int .u8 0, .int .u8 0, .slice none 0 0], .slice none 0 0, .agg #[.slice none 0 0, .slice none 0 0, .slice none 0 0, .slice none 0 0, .slice none 0 0, .slice none 0 0, .slice none 0 0, .slice none 0 0, .slice none 0 0, .slice none 0 0, .slice none 0 0, .int .i64 0, .slice none 0 0, .int .u8 0, .int .u8 0, .int .u8 0, .int .u8 0, .int .i64 0]], []⟩ 8 (by kernel_rfl) (by kernel_rfl) (by kernel_rfl) (by kernel_rfl)) ?_
  intro W base args ds gs before hval0 hW hcnd _
  have hval : ∀ (j : Nat) t v, Try.f3.params[j]? = some t → args[j]? = some v → Value.okWide Try.prog W .any base t v := hval0
  have hW' := hW
  obtain ⟨p, q, hA0, hV, rfl, hfz, hnd⟩ := hW
  have hA : DataW.TrodAll enc Try.prog W 0 (fun _ => true) true Try.f3.params.toList args.toList ds p := hA0
  rw [paramsDiffers] at hA hval
  obtain ⟨v0, v1, v2, d0, d1, d2, p0, p1, p2, rfl, rfl, rfl, h0, h1, h2⟩ := trodAll_three hA
  obtain ⟨rfl, rfl⟩ := trodVars_none hV
  obtain ⟨a, ra, ta⟩ := argTy gridFlat (by kernel_rfl) (hval 0 _ v0 rfl rfl) h0
  obtain ⟨b, rb, tb⟩ := argC slFlat (okSl slU (hval 1 _ v1 rfl rfl)) h1
  obtain ⟨c, rc, tc⟩ := argTy oddFlat (by kernel_rfl) (hval 2 _ v2 rfl rfl) h2
  have hlt : ∀ x ∈ p0 ++ p1 ++ p2, x.block < W.heap.size := fun x hx => hW'.lt x (by simpa using hx)
  refine (zw_call (lawd_true differs_ok ra rb rc) rfl fun j cc hj => ?_).mono fun e W' ⟨he, hb⟩ => ?_
  · match j with
    | 0 => simp at hj; subst hj; exact ta
    | 1 => simp at hj; subst hj; exact tb
    | 2 => simp at hj; subst hj; exact tc
    | j + 3 => simp at hj
  · refine ⟨_, he, _, _, _, [], _, [], hW', ?_, trodAll_mk3 (Below.trod Try.laidOut (by kernel_rfl) (of_decide_eq_true (by kernel_rfl)) h0 hb fun x hx => hlt x (by simp [hx])) (Below.trod Try.laidOut (by kernel_rfl) (of_decide_eq_true (by kernel_rfl)) h1 hb fun x hx => hlt x (by simp [hx]))
        (Below.trod Try.laidOut (by kernel_rfl) (of_decide_eq_true (by kernel_rfl)) h2 hb fun x hx => hlt x (by simp [hx])), rfl, hb.frame _, fun h => by cases h⟩
    exact trodAll_mk1 (shut_bool boolU true)
theorem differs_holds : Rows.ConfigDiffersSaid :=
  OpenClaim.holds_of_wide 3 Try.f3 rfl rfl rfl rfl rfl rfl rfl ⟨rfl, rfl, rfl, rfl, rfl⟩ rfl rfl rfl rfl rfl (by kernel_rfl) Try.func3 (by kernel_rfl)
    (of_decide_eq_true (by kernel_rfl)) (by unfold Func.isWrapper; first | (rw [if_pos (by decide +kernel)]; kernel_rfl) | (rw [if_neg (by decide +kernel)]; exact ⟨rfl, rfl⟩))
    (fun os started H enc _ => differs_lifted os started H enc)
end Go.Proofs.Ytledbjkolidhkab
