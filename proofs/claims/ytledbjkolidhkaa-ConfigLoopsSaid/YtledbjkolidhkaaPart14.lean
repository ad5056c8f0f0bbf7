/- ZF PLoops: ConfigLoops holds for every described grid, all bytes and every number: the row. -/
import Derived.Test.YtledbjkolidhkaaPart13
import Derived.Test.YtledbjkolidhkaaRows
set_option linter.unusedSimpArgs false
set_option linter.unusedVariables false
namespace Go.Proofs.Ytledbjkolidhkaa
open Go Go.Vc Txt
def seenB (L : Nat) (sn : List Int) : List Bool := (List.range L).map fun (i : Nat) => decide ((i : Int) ∈ sn)
theorem seenB_len (L : Nat) (sn : List Int) : (seenB L sn).length = L := by simp [seenB]
theorem seenB_get {L : Nat} {sn : List Int} {x : Int} (hx : 0 ≤ x ∧ x < L) (d : Bool) : (seenB L sn).getD x.toNat d = decide (x ∈ sn) := by
  rw [List.getD_eq_getElem?_getD, seenB, List.getElem?_map, List.getElem?_range (by omega)]
  simp only [Option.map_some, Option.getD_some]
  rw [show ((x.toNat : Nat) : Int) = x by omega]
theorem seenB_set {L : Nat} {sn : List Int} {x : Int} (hx : 0 ≤ x ∧ x < L) : (seenB L sn).set x.toNat true = seenB L (sn ++ [x]) := by
  refine List.ext_getElem? fun i => ?_
  rw [List.getElem?_set]
  by_cases h : i < L
  · by_cases e : x.toNat = i
    · subst e
      simp [seenB, h]
      omega
    · simp [seenB, h, e]
      omega
  · simp [seenB, h]
    omega
theorem seenB_nil (L : Nat) : List.replicate L false = seenB L [] := by
  refine List.ext_getElem? fun i => ?_
  by_cases h : i < L <;> simp [seenB, h]
def loopS (g : Grid) (c : Cfg) : Nat → List Int → Int → List Int × Int
  | 0, sn, x => (sn, x)
  | f + 1, sn, x => if 0 ≤ x ∧ x ∉ sn then loopS g c f (sn ++ [x]) (driverF g c x) else (sn, x)
def LoopP (c : Cfg) (r : Int × Int) (q : List Int × Int) : Prop := (r.2 = 50 ↔ 0 ≤ q.2) ∧ (r.2 = 0 ∨ r.1 = 0) ∧ (r.2 = 0 → 0 ≤ r.1 ∧ r.1 < c.sel.length ∧ r.1 ∈ q.1)
theorem loopS_neg (g : Grid) (c : Cfg) {x : Int} (hx : x < 0) (sn : List Int) : ∀ f, loopS g c f sn x = (sn, x)
  | 0 => rfl
  | f + 1 => if_neg (by omega)
theorem loopS_in {g : Grid} {c : Cfg} (f : Nat) {sn : List Int} {x : Int} (h : x ∈ sn) : loopS g c (f + 1) sn x = (sn, x) := if_neg fun e => e.2 h
theorem loopS_out {g : Grid} {c : Cfg} (f : Nat) {sn : List Int} {x : Int} (h0 : 0 ≤ x) (h : x ∉ sn) : loopS g c (f + 1) sn x = loopS g c f (sn ++ [x]) (driverF g c x) := if_pos ⟨h0, h⟩
theorem loopS_ok {g : Grid} (hg : GOk g) {c : Cfg} (hc : SelsOk g c) : ∀ (f : Nat) (sn : List Int) (x : Int), (0 ≤ x ∧ x < c.sel.length) → LoopP c (sourceS g c f sn x) (loopS g c f sn x)
  | 0, sn, x, hx => ⟨by simp [sourceS, loopS]; omega, .inr rfl, fun h => by cases h⟩
  | f + 1, sn, x, hx => by
    by_cases e : x ∈ sn
    · rw [sourceS_in f e, loopS_in f e]
      exact ⟨by simp; omega, .inr rfl, fun h => by cases h⟩
    · rw [sourceS_out f e, loopS_out f hx.1 e]
      by_cases h1 : driversF g x = []
      · have h2 := sel_drv hc hx h1
        rw [if_pos h1, show driverF g c x = -1 from if_pos (.inl h2), loopS_neg g c (by omega)]
        exact ⟨by simp, .inl rfl, fun _ => ⟨hx.1, hx.2, by simp⟩⟩
      · rw [if_neg h1]
        by_cases h2 : c.sel.getD x.toNat 0 = 0
        · rw [if_pos h2, show driverF g c x = -1 from if_pos (.inl h2), loopS_neg g c (by omega)]
          exact ⟨by simp, .inr rfl, fun h => by cases h⟩
        · obtain ⟨k1, k2, k3⟩ := driverF_sel hg hc hx h2
          rw [if_neg h2, ← k1]
          exact loopS_ok hg hc f _ _ ⟨k2, k3⟩
set_option maxHeartbeats 2000000 in
theorem loops_ok (x : RawG) (hx : x.By) (l : List Int) (hl : (l.length : Int) ≤ 9223372036854775807) (hb : ∀ b ∈ l, 0 ≤ b ∧ b ≤ 255) (k : Int) (hk : 0 ≤ k ∧ k ≤ 65535) :
    FnEq Try.prog 7 [.agg (rawGC false x), .sl false 1 (bytes8 l), .sc (.int .u16 k)] (.bool true) := by
  have hg := (gridF_ok x).1
  have hm := made_ok x hx.ok
  have hw := wild_ok (gridF x) hg l hl hb
  have hs := wild_sels hg l
  generalize wildF (gridF x) l = c at *
  generalize gridF x = g at *
  have hc := hg.count
  have hcl := hs.len
  refine FnEq.of_awp Try.func7 ok7 (by show 3 ≤ _; decide) (by simp only [push_cast, reduceIte, Nat.reduceEqDiff, Nat.reduceAdd, Nat.reduceSub, Nat.reduceMul, Nat.reduceBEq, Nat.reduceLT, Nat.reduceLeDiff, reduceCtorEq, Int.reduceToNat, Int.reduceNeg] <;> first | exact fun _ _ => trivial | simp) ?_
  simp only [ac7, rv7, push_cast, reduceIte, Nat.reduceEqDiff, Nat.reduceAdd, Nat.reduceSub, Nat.reduceMul, Nat.reduceBEq, Nat.reduceLT, Nat.reduceLeDiff, reduceCtorEq, Int.reduceToNat, Int.reduceNeg]
  refine cal_eq examples_ok ?_
  simp only [push_cast, reduceIte, Nat.reduceEqDiff, Nat.reduceAdd, Nat.reduceSub, Nat.reduceMul, Nat.reduceBEq, Nat.reduceLT, Nat.reduceLeDiff, reduceCtorEq, Int.reduceToNat, Int.reduceNeg]
  refine cal_eq hm ?_
  simp only [push_cast, reduceIte, Nat.reduceEqDiff, Nat.reduceAdd, Nat.reduceSub, Nat.reduceMul, Nat.reduceBEq, Nat.reduceLT, Nat.reduceLeDiff, reduceCtorEq, Int.reduceToNat, Int.reduceNeg]
  refine cal_sub hw (by simp only [push_cast, reduceIte, Nat.reduceEqDiff, Nat.reduceAdd, Nat.reduceSub, Nat.reduceMul, Nat.reduceBEq, Nat.reduceLT, Nat.reduceLeDiff, reduceCtorEq, Int.reduceToNat, Int.reduceNeg]) ?_
  simp only [push_cast, reduceIte, Nat.reduceEqDiff, Nat.reduceAdd, Nat.reduceSub, Nat.reduceMul, Nat.reduceBEq, Nat.reduceLT, Nat.reduceLeDiff, reduceCtorEq, Int.reduceToNat, Int.reduceNeg]
  refine ⟨by omega, by omega, by omega, ?_⟩
  have hn : 0 ≤ k % (c.sel.length : Int) ∧ k % (c.sel.length : Int) < c.sel.length := ⟨Int.emod_nonneg _ (by omega), Int.emod_lt_of_pos _ (by omega)⟩
  generalize k % (c.sel.length : Int) = n at *
  have hP := loopS_ok hg hs (c.sel.length + 1) [] n hn
  have hF : sourceF g c n = sourceS g c (c.sel.length + 1) [] n := if_pos (by omega)
  rw [← hF] at hP
  rw [seenB_nil]
  refine loop_of (fun m st => ∃ (sn : List Int) (y : Int), m + sn.length = c.sel.length ∧ sn.Nodup ∧ (∀ z ∈ sn, 0 ≤ z ∧ z < c.sel.length) ∧ (-1 ≤ y ∧ y < c.sel.length) ∧
    loopS g c (c.sel.length + 1) [] n = loopS g c (m + 1) sn y ∧ st = ⟨[(7, .bool true), (8, .ptr 8 0), (9, .ptr 9 0), (10, .int n), (11, .view 31 0 c.sel.length), (12, .int y)], [(8, gridC true g), (9, cfgC true c)], [(31, ⟨1, 4, rows boolC (seenB c.sel.length sn)⟩)], []⟩) c.sel.length ?_ ?_
  · refine ⟨[], n, by simp, .nil, by simp, by omega, rfl, ?_⟩
    simp only [seenB_len, push_cast, reduceIte, Nat.reduceEqDiff, Nat.reduceAdd, Nat.reduceSub, Nat.reduceMul, Nat.reduceBEq, Nat.reduceLT, Nat.reduceLeDiff, reduceCtorEq, Int.reduceToNat, Int.reduceNeg]
  rintro m st ⟨sn, y, hm, hnd, hr, hy, hS, rfl⟩
  have hsl := seenB_len c.sel.length sn
  simp only [hsl, push_cast, reduceIte, Nat.reduceEqDiff, Nat.reduceAdd, Nat.reduceSub, Nat.reduceMul, Nat.reduceBEq, Nat.reduceLT, Nat.reduceLeDiff, reduceCtorEq, Int.reduceToNat, Int.reduceNeg]
  obtain ⟨B, hB⟩ : ∃ B, B = decide (0 ≤ y ∧ y ∉ sn) := ⟨_, rfl⟩
  refine cut_of ⟨[(7, .bool true), (8, .ptr 8 0), (9, .ptr 9 0), (10, .int n), (11, .view 31 0 c.sel.length), (12, .int y), (41, .bool B)], [(8, gridC true g), (9, cfgC true c)], [(31, ⟨1, 4, rows boolC (seenB c.sel.length sn)⟩)], []⟩ ?_ ?_
  · refine grd_dec rfl (fun e1 => ?_) fun e1 => ?_ <;> simp only [hsl, push_cast, reduceIte, Nat.reduceEqDiff, Nat.reduceAdd, Nat.reduceSub, Nat.reduceMul, Nat.reduceBEq, Nat.reduceLT, Nat.reduceLeDiff, reduceCtorEq, Int.reduceToNat, Int.reduceNeg]
    · have hgt := seenB_get (sn := sn) (x := y) (L := c.sel.length) ⟨e1, hy.2⟩
      simp only [hgt, push_cast, reduceIte, Nat.reduceEqDiff, Nat.reduceAdd, Nat.reduceSub, Nat.reduceMul, Nat.reduceBEq, Nat.reduceLT, Nat.reduceLeDiff, reduceCtorEq, Int.reduceToNat, Int.reduceNeg]
      refine ⟨by omega, by omega, ?_⟩
      rw [show B = !decide (y ∈ sn) from by rw [hB]; by_cases h : y ∈ sn <;> simp [h, e1]]
    · rw [show B = false from by rw [hB]; exact decide_eq_false (fun h => e1 h.1)]
  simp only [hsl, push_cast, reduceIte, Nat.reduceEqDiff, Nat.reduceAdd, Nat.reduceSub, Nat.reduceMul, Nat.reduceBEq, Nat.reduceLT, Nat.reduceLeDiff, reduceCtorEq, Int.reduceToNat, Int.reduceNeg]
  refine cond_of (fun e => ?_) fun e => ?_
  · rw [hB, decide_eq_true_eq] at e
    obtain ⟨e1, e2⟩ := e
    have hnd' : (sn ++ [y]).Nodup := List.nodup_append.2 ⟨hnd, by simp, by intro a ha b hb h; simp at hb; subst hb; subst h; exact e2 ha⟩
    have hr' : ∀ z ∈ sn ++ [y], 0 ≤ z ∧ z < c.sel.length := fun z hz => by
      rw [List.mem_append, List.mem_singleton] at hz
      rcases hz with hz | rfl
      · exact hr z hz
      · exact ⟨e1, hy.2⟩
    have hln := nodup_rng (n := c.sel.length) hnd' hr'
    rw [List.length_append, List.length_singleton] at hln
    obtain ⟨m2, rfl⟩ : ∃ k, m = k + 1 := ⟨m - 1, by omega⟩
    have hset := seenB_set (sn := sn) (x := y) (L := c.sel.length) ⟨e1, hy.2⟩
    refine ⟨by omega, by omega, ?_⟩
    refine cal_sub (ldriver_ok g hg c hs y ⟨e1, hy.2⟩) (by simp only [push_cast, reduceIte, Nat.reduceEqDiff, Nat.reduceAdd, Nat.reduceSub, Nat.reduceMul, Nat.reduceBEq, Nat.reduceLT, Nat.reduceLeDiff, reduceCtorEq, Int.reduceToNat, Int.reduceNeg]) ?_
    have hd : -1 ≤ driverF g c y ∧ driverF g c y < c.sel.length := by
      by_cases h : c.sel.getD y.toNat 0 = 0
      · rw [show driverF g c y = -1 from if_pos (.inl h)]; omega
      · obtain ⟨k1, k2, k3⟩ := driverF_sel hg hs ⟨e1, hy.2⟩ h
        omega
    simp only [hset, push_cast, reduceIte, Nat.reduceEqDiff, Nat.reduceAdd, Nat.reduceSub, Nat.reduceMul, Nat.reduceBEq, Nat.reduceLT, Nat.reduceLeDiff, reduceCtorEq, Int.reduceToNat, Int.reduceNeg]
    refine ⟨m2, by omega, sn ++ [y], driverF g c y, ?_, hnd', hr', hd, ?_, ?_⟩
    · rw [List.length_append, List.length_singleton]; omega
    · rw [hS, loopS_out _ e1 e2]
    · simp only [push_cast, reduceIte, Nat.reduceEqDiff, Nat.reduceAdd, Nat.reduceSub, Nat.reduceMul, Nat.reduceBEq, Nat.reduceLT, Nat.reduceLeDiff, reduceCtorEq, Int.reduceToNat, Int.reduceNeg]
  · rw [hB, decide_eq_false_iff_not] at e
    have hq : loopS g c (m + 1) sn y = (sn, y) := if_neg e
    rw [hS, hq] at hP
    clear hB hS hq hF hsl hm
    refine cal_sub (lsource_ok g hg c hs n) (by simp only [push_cast, reduceIte, Nat.reduceEqDiff, Nat.reduceAdd, Nat.reduceSub, Nat.reduceMul, Nat.reduceBEq, Nat.reduceLT, Nat.reduceLeDiff, reduceCtorEq, Int.reduceToNat, Int.reduceNeg]) ?_
    obtain ⟨⟨a, b⟩, hab⟩ : ∃ r, r = sourceF g c n := ⟨_, rfl⟩
    rw [← hab] at hP ⊢
    obtain ⟨p1, p2, p3⟩ := hP
    simp only at p1 p2 p3
    have hb1 : decide (b = 50) = decide (0 ≤ y) := by rw [decide_eq_decide]; exact p1
    simp only [hb1, push_cast, reduceIte, Nat.reduceEqDiff, Nat.reduceAdd, Nat.reduceSub, Nat.reduceMul, Nat.reduceBEq, Nat.reduceLT, Nat.reduceLeDiff, reduceCtorEq, Int.reduceToNat, Int.reduceNeg]
    by_cases h0 : b = 0
    · subst h0
      obtain ⟨q1, q2, q3⟩ := p3 rfl
      have hgt := seenB_get (sn := sn) (x := a) (L := c.sel.length) ⟨q1, q2⟩
      have hsl := seenB_len c.sel.length sn
      simp only [push_cast, reduceIte, Nat.reduceEqDiff, Nat.reduceAdd, Nat.reduceSub, Nat.reduceMul, Nat.reduceBEq, Nat.reduceLT, Nat.reduceLeDiff, reduceCtorEq, Int.reduceToNat, Int.reduceNeg]
      refine grd_decf rfl (fun e => absurd rfl e) fun _ => ?_
      simp only [push_cast, reduceIte, Nat.reduceEqDiff, Nat.reduceAdd, Nat.reduceSub, Nat.reduceMul, Nat.reduceBEq, Nat.reduceLT, Nat.reduceLeDiff, reduceCtorEq, Int.reduceToNat, Int.reduceNeg]
      refine grd_dec rfl (fun _ => ?_) fun e => absurd q1 e
      simp only [push_cast, reduceIte, Nat.reduceEqDiff, Nat.reduceAdd, Nat.reduceSub, Nat.reduceMul, Nat.reduceBEq, Nat.reduceLT, Nat.reduceLeDiff, reduceCtorEq, Int.reduceToNat, Int.reduceNeg]
      refine grd_dec rfl (fun _ => ?_) fun e => absurd q2 e
      simp only [hsl, hgt, push_cast, reduceIte, Nat.reduceEqDiff, Nat.reduceAdd, Nat.reduceSub, Nat.reduceMul, Nat.reduceBEq, Nat.reduceLT, Nat.reduceLeDiff, reduceCtorEq, Int.reduceToNat, Int.reduceNeg]
      refine ⟨by omega, by omega, ?_⟩
      refine grd_dec rfl (fun _ => ?_) fun e => absurd q3 e
      simp only [push_cast, reduceIte, Nat.reduceEqDiff, Nat.reduceAdd, Nat.reduceSub, Nat.reduceMul, Nat.reduceBEq, Nat.reduceLT, Nat.reduceLeDiff, reduceCtorEq, Int.reduceToNat, Int.reduceNeg]
    · have ha : a = 0 := by exact p2.resolve_left h0
      subst ha
      refine grd_decf rfl (fun e => absurd e h0) fun _ => ?_
      simp only [push_cast, reduceIte, Nat.reduceEqDiff, Nat.reduceAdd, Nat.reduceSub, Nat.reduceMul, Nat.reduceBEq, Nat.reduceLT, Nat.reduceLeDiff, reduceCtorEq, Int.reduceToNat, Int.reduceNeg]
      refine grd_decf rfl (fun _ => ?_) fun e => absurd h0 e
      simp only [push_cast, reduceIte, Nat.reduceEqDiff, Nat.reduceAdd, Nat.reduceSub, Nat.reduceMul, Nat.reduceBEq, Nat.reduceLT, Nat.reduceLeDiff, reduceCtorEq, Int.reduceToNat, Int.reduceNeg]
end Go.Proofs.Ytledbjkolidhkaa
namespace Go.Proofs.Ytledbjkolidhkaa
open Go Go.ChangeShapes Go.WideShapes Go.ChangeAt Go.RowKit Go.Vc
theorem gridFlat : flatOk Try.prog 9 24 gridT = true := by kernel_rfl
theorem u16U : Try.prog.underlying 78 = some (.int .u16) := by kernel_rfl
theorem u16Flat : flatOk Try.prog 9 78 [.i .u16] = true := by kernel_rfl
theorem slU : Try.prog.underlying 22 = some (.slice 5) := by kernel_rfl
theorem slFlat : flatOk Try.prog 9 22 [.sl 1 [.i .u8]] = true := by kernel_rfl
theorem Try.own : ownKnob Try.prog.godebug = none := by kernel_rfl
theorem Try.laidOut : laidOutB Try.prog = true := by kernel_rfl
theorem boolU : Try.prog.underlying 4 = some .bool := by kernel_rfl
theorem paramsLoops : Try.f7.params = #[24, 22, 78] := by kernel_rfl
set_option maxRecDepth 100000 in
theorem loops_lifted (os : Os) (started : os.Started) (H : Type) (enc : TypeId × Value → H) :
    ReturnsInHanded {} Try.checked os 7 .any (Rows.configLoopsSpec.pre6 enc Try.prog Try.f7 Rows.configLoopsRow.domain false) (Rows.configLoopsSpec.post enc Try.prog Try.f7 false true false false) := by
  refine returnsInHanded_of_change (C := Try.checked) Try.own started (by kernel_rfl) Try.func7
    (ChangeSpec.witness6 (enc := enc) (C := Try.checked) false ⟨#[], #[.agg #[.int .u8 0, .int .u8 0, .int .u8 0, .int .u8 0, .slice none 0 0], .slice none 0 0, .int .u16 0], []⟩ 8 (by kernel_rfl) (by kernel_rfl) (by kernel_rfl) (by kernel_rfl)) ?_
  intro W base args ds gs before hval0 hW hcnd _
  have hval : ∀ (j : Nat) t v, Try.f7.params[j]? = some t → args[j]? = some v → Value.okWide Try.prog W .any base t v := hval0
  have hW' := hW
  obtain ⟨p, q, hA0, hV, rfl, hfz, hnd⟩ := hW
  have hA : DataW.TrodAll enc Try.prog W 0 (fun _ => true) true Try.f7.params.toList args.toList ds p := hA0
  rw [paramsLoops] at hA hval
  obtain ⟨v0, v1, v2, d0, d1, d2, p0, p1, p2, rfl, rfl, rfl, h0, h1, h2⟩ := trodAll_three hA
  obtain ⟨rfl, rfl⟩ := trodVars_none hV
  obtain ⟨a, ra, ta⟩ := argTy gridFlat (by kernel_rfl) (hval 0 _ v0 rfl rfl) h0
  obtain ⟨b, rb, tb⟩ := argC slFlat (okSl slU (hval 1 _ v1 rfl rfl)) h1
  obtain ⟨n2, rfl⟩ := okInt u16U (hval 2 _ v2 rfl rfl)
  obtain ⟨c, rc, tc⟩ := argC u16Flat rfl h2
  have hlt : ∀ x ∈ p0 ++ p1 ++ p2, x.block < W.heap.size := fun x hx => hW'.lt x (by simpa using hx)
  refine (zw_call (law3_true loops_ok ra rb rc) rfl fun j cc hj => ?_).mono fun e W' ⟨he, hb⟩ => ?_
  · match j with
    | 0 => simp at hj; subst hj; exact ta
    | 1 => simp at hj; subst hj; exact tb
    | 2 => simp at hj; subst hj; exact tc
    | j + 3 => simp at hj
  · refine ⟨_, he, _, _, _, [], _, [], hW', ?_, trodAll_mk3 (Below.trod Try.laidOut (by kernel_rfl) (of_decide_eq_true (by kernel_rfl)) h0 hb fun x hx => hlt x (by simp [hx])) (Below.trod Try.laidOut (by kernel_rfl) (of_decide_eq_true (by kernel_rfl)) h1 hb fun x hx => hlt x (by simp [hx]))
        (Below.trod Try.laidOut (by kernel_rfl) (of_decide_eq_true (by kernel_rfl)) h2 hb fun x hx => hlt x (by simp [hx])), rfl, hb.frame _, fun h => by cases h⟩
    exact trodAll_mk1 (shut_bool boolU true)
theorem loops_holds : Rows.ConfigLoopsSaid :=
  OpenClaim.holds_of_wide 7 Try.f7 rfl rfl rfl rfl rfl rfl rfl ⟨rfl, rfl, rfl, rfl, rfl⟩ rfl rfl rfl rfl rfl (by kernel_rfl) Try.func7 (by kernel_rfl)
    (of_decide_eq_true (by kernel_rfl)) (by unfold Func.isWrapper; first | (rw [if_pos (by decide +kernel)]; kernel_rfl) | (rw [if_neg (by decide +kernel)]; exact ⟨rfl, rfl⟩))
    (fun os started H enc _ => loops_lifted os started H enc)
end Go.Proofs.Ytledbjkolidhkaa
