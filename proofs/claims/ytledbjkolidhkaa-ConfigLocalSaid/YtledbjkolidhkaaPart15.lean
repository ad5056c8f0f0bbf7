/- ZQ ZR PLocal: ConfigLocal holds for every raw design and all bytes: the row. -/
import Derived.Test.YtledbjkolidhkaaPart14
import Derived.Test.YtledbjkolidhkaaRows
set_option linter.unusedSimpArgs false
set_option linter.unusedVariables false
namespace Go.Proofs.Ytledbjkolidhkaa
open Go Go.Vc Txt
theorem unlikeF_mem {a b : List Int} (h : a.length = b.length) (x : Int) : x ∈ unlikeF a b ↔ ∃ i : Nat, i < a.length ∧ a.getD i 0 ≠ b.getD i 0 ∧ x = (i : Int) := by
  unfold unlikeF
  rw [idxF_mem, h, Nat.max_self]
  constructor
  · rintro ⟨i, h1, h2, h3⟩
    have h2 := of_decide_eq_true h2
    exact ⟨i, h1, by rcases h2 with h2 | h2 | h2 <;> first | omega | exact h2, h3⟩
  · rintro ⟨i, h1, h2, h3⟩
    exact ⟨i, h1, decide_eq_true (.inr (.inr h2)), h3⟩
theorem ord_one {l : List Int} {t : Int} (h : l.Pairwise (· < ·)) (h2 : ∀ x ∈ l, x = t) : l = [] ∨ l = [t] := by
  match l, h, h2 with
  | [], _, _ => exact .inl rfl
  | [x], _, h2 => exact .inr (by rw [h2 x (by simp)])
  | x :: y :: l, h, h2 =>
    have h1 := h2 x (by simp)
    have h3 := h2 y (by simp)
    have := (List.pairwise_cons.1 h).1 y (by simp)
    omega
theorem flatN_app (A B : List Route) : flatN (A ++ B) = flatN A ++ flatN B := by simp [flatN]
theorem less_fits {p : Packed} {g : Grid} {pos : List Int} {A B : List Route} {r : Route} (h : FitsF p g ⟨pos, A ++ r :: B⟩) : FitsF p g ⟨pos, A ++ B⟩ := by
  obtain ⟨h1, h2, h3, h4, h5⟩ := h
  refine ⟨h1, h2, h3, fun x hx => h4 x (by simp only [List.mem_append, List.mem_cons] at hx ⊢; rcases hx with hx | hx; exact .inl hx; exact .inr (.inr hx)), ?_⟩
  simp only [flatN_app, flatN_cons] at h5 ⊢
  rw [List.nodup_append] at h5 ⊢
  obtain ⟨q1, q2, q3⟩ := h5
  rw [List.nodup_append] at q2
  exact ⟨q1, q2.2.1, fun a ha b hb => q3 a ha b (by simp [hb])⟩
theorem less_differ {p : Packed} {g : Grid} (hg : GOk g) {pos : List Int} {A B : List Route} {r : Route} (h : FitsF p g ⟨pos, A ++ r :: B⟩) :
    (differF (encC p g ⟨pos, A ++ r :: B⟩) (encC p g ⟨pos, A ++ B⟩)).2 = [] ∧ ((differF (encC p g ⟨pos, A ++ r :: B⟩) (encC p g ⟨pos, A ++ B⟩)).1.length : Int) = (r.nodes.length : Int) - 1 ∧
      ∀ x ∈ (differF (encC p g ⟨pos, A ++ r :: B⟩) (encC p g ⟨pos, A ++ B⟩)).1, ∃ i, 0 < i ∧ i < r.nodes.length ∧ r.nodes.getD i 0 = x := by
  have h' := less_fits h
  have l1 := encC_len p g ⟨pos, A ++ r :: B⟩
  have l2 := encC_len p g ⟨pos, A ++ B⟩
  have hr : r ∈ (⟨pos, A ++ r :: B⟩ : Layout).routes := by simp
  have hnd := h.nod
  simp only [flatN_app, flatN_cons] at hnd
  have hrn : r.nodes.Nodup := (List.nodup_append.1 (List.nodup_append.1 hnd).2.1).1
  have hout : ∀ x ∈ r.nodes, x ∉ flatN (A ++ B) := fun x hx hy => by
    rw [flatN_app, List.mem_append] at hy
    obtain ⟨q1, q2, q3⟩ := List.nodup_append.1 hnd
    rcases hy with hy | hy
    · exact q3 x hy x (by simp [hx]) rfl
    · exact (List.nodup_append.1 q2).2.2 x hx x hy rfl
  have hcn := hg.count
  have hsel : ∀ x, x ∈ unlikeF (encC p g ⟨pos, A ++ r :: B⟩).sel (encC p g ⟨pos, A ++ B⟩).sel ↔ x ∈ r.nodes.tail := fun x => by
    rw [unlikeF_mem (by rw [l1.1, l2.1])]
    constructor
    · rintro ⟨n, h1, h2, rfl⟩
      refine Classical.byContradiction fun hx => h2 ?_
      by_cases ht : (n : Int) ∈ tailsN (A ++ B)
      · obtain ⟨s, hs, i, i0, i1, he⟩ := tailsN_mem.1 ht
        have e1 := encC_sel_at hg h (r := s) (by simp only [List.mem_append, List.mem_cons] at hs ⊢; rcases hs with hs | hs; exact .inl hs; exact .inr (.inr hs)) i0 i1
        have e2 := encC_sel_at hg h' hs i0 i1
        rw [he] at e1 e2
        rw [Int.toNat_natCast] at e1 e2
        rw [e1, e2]
      · have e1 := encC_sel_ne (p := p) h (n := n) (by omega) (fun hy => by
          obtain ⟨s, hs, i, i0, i1, he⟩ := tailsN_mem.1 hy
          simp only [List.mem_append, List.mem_cons] at hs
          rcases hs with hs | rfl | hs
          · exact ht (tailsN_mem.2 ⟨s, by simp [hs], i, i0, i1, he⟩)
          · exact hx (tail_mem.2 ⟨i, i0, i1, he⟩)
          · exact ht (tailsN_mem.2 ⟨s, by simp [hs], i, i0, i1, he⟩))
        have e2 := encC_sel_ne (p := p) h' (n := n) (by omega) ht
        rw [Int.toNat_natCast] at e1 e2
        rw [e1, e2]
    · intro hx
      obtain ⟨i, i0, i1, he⟩ := tail_mem.1 hx
      have hxr := (h.sh r hr).rng x (he ▸ getD_mem i1)
      have e1 := encC_sel_at hg h hr i0 i1
      have e2 := encC_sel_ne (p := p) h' (n := x) hxr.1 (fun hy => hout x (he ▸ getD_mem i1) (tails_flat hy))
      have e3 := (selAt_ok hg (h.sh r hr) i0 i1).1
      rw [he] at e1
      refine ⟨x.toNat, by rw [l1.1]; omega, ?_, by omega⟩
      rw [e1, e2]
      omega
  refine ⟨?_, ?_, fun x hx => ?_⟩
  · show Go.Lib.compact (sortF (tilesF _ _)) = []
    have : tilesF (encC p g ⟨pos, A ++ r :: B⟩) (encC p g ⟨pos, A ++ B⟩) = [] := by
      unfold tilesF
      rw [show (encC p g ⟨pos, A ++ r :: B⟩).mode = (encC p g ⟨pos, A ++ B⟩).mode from rfl, show (encC p g ⟨pos, A ++ r :: B⟩).tab = (encC p g ⟨pos, A ++ B⟩).tab from rfl, show (encC p g ⟨pos, A ++ r :: B⟩).ram = (encC p g ⟨pos, A ++ B⟩).ram from rfl]
      simp only [unlikeF_self, List.append_nil]
    rw [this, sortF_nil]
    rfl
  · have := nodup_len (l := unlikeF (encC p g ⟨pos, A ++ r :: B⟩).sel (encC p g ⟨pos, A ++ B⟩).sel) (m := r.nodes.tail) (idxF_nodup _ _) (List.Nodup.sublist (List.tail_sublist _) hrn) hsel
    have h0 := List.length_pos_iff.2 (h.sh r hr).ne
    rw [List.length_tail] at this
    show ((unlikeF _ _).length : Int) = _
    omega
  · exact tail_mem.1 ((hsel x).1 hx)
def blkO (k2 k3 : Int) : Block := ⟨[], 256 * k2 + k3, -1, k3, 0⟩
theorem zip_set_mem {bs : List Block} {pos : List Int} {i : Nat} {b : Block} {z : Block × Int} (h : z ∈ (bs.set i b).zip pos) : z ∈ bs.zip pos ∨ (z.1 = b ∧ i < bs.length ∧ z.2 = pos.getD i 0) := by
  obtain ⟨j, hj, rfl⟩ := List.mem_iff_getElem.1 h
  simp only [List.length_zip, List.length_set] at hj
  by_cases e : i = j
  · subst e
    refine .inr ⟨by simp, by omega, ?_⟩
    simp [List.getD_eq_getElem?_getD, List.getElem?_eq_getElem (show i < pos.length by omega)]
  · refine .inl (List.mem_iff_getElem.2 ⟨j, by simp only [List.length_zip]; omega, ?_⟩)
    simp [e]
theorem zip_at {bs : List Block} {pos : List Int} {i : Nat} (hb : i < bs.length) (hp : i < pos.length) : (bs.getD i default, pos.getD i 0) ∈ bs.zip pos := by
  refine List.mem_iff_getElem.2 ⟨i, by simp only [List.length_zip]; omega, ?_⟩
  simp [List.getD_eq_getElem?_getD, hb, hp]
theorem other_fits {p : Packed} {g : Grid} {l : Layout} (h : FitsF p g l) {i : Nat} {b : Block} (hb : ∀ t, BlockFit g (p.blocks.getD i default) t → BlockFit g b t) : FitsF { p with blocks := p.blocks.set i b } g l := by
  obtain ⟨h1, h2, h3, h4, h5⟩ := h
  refine ⟨by simp [h1], fun z hz => ?_, h3, h4, h5⟩
  rcases zip_set_mem hz with hz | ⟨e1, e2, e3⟩
  · exact h2 z hz
  · rw [e1]
    refine hb _ ?_
    rw [e3]
    exact h2 _ (zip_at e2 (by omega))
theorem tilesF_mem {c d : Cfg} (h1 : c.mode.length = d.mode.length) (h2 : c.tab.length = d.tab.length) (h3 : c.ram.length = d.ram.length) {x : Int} (hx : x ∈ tilesF c d) : ∃ t : Nat, x = (t : Int) ∧ tileOf c t ≠ tileOf d t := by
  unfold tilesF at hx
  simp only [List.mem_append] at hx
  rcases hx with (hx | hx) | hx
  · obtain ⟨t, _, h, e⟩ := (unlikeF_mem h1 x).1 hx
    exact ⟨t, e, fun q => h (congrArg (·.1) q)⟩
  · obtain ⟨t, _, h, e⟩ := (unlikeF_mem h2 x).1 hx
    exact ⟨t, e, fun q => h (congrArg (·.2.1) q)⟩
  · obtain ⟨t, _, h, e⟩ := (unlikeF_mem h3 x).1 hx
    exact ⟨t, e, fun q => h (congrArg (·.2.2) q)⟩
theorem zip_pos {bs : List Block} {pos : List Int} (h : bs.length = pos.length) {x : Int} (hx : x ∈ pos) : ∃ j, j < pos.length ∧ pos.getD j 0 = x ∧ (bs.getD j default, x) ∈ bs.zip pos := by
  obtain ⟨j, hj, rfl⟩ := getD_at hx
  exact ⟨j, hj, rfl, zip_at (by omega) hj⟩
theorem other_differ {p : Packed} {g : Grid} {l : Layout} (h : FitsF p g l) {i : Nat} (hi : i < p.blocks.length) {b : Block} (hb : ∀ t, BlockFit g (p.blocks.getD i default) t → BlockFit g b t) :
    (differF (encC p g l) (encC { p with blocks := p.blocks.set i b } g l)).1 = [] ∧ ((differF (encC p g l) (encC { p with blocks := p.blocks.set i b } g l)).2 = [] ∨ (differF (encC p g l) (encC { p with blocks := p.blocks.set i b } g l)).2 = [l.pos.getD i 0]) := by
  have h' := other_fits h hb
  have l1 := encC_len p g l
  have l2 := encC_len { p with blocks := p.blocks.set i b } g l
  refine ⟨?_, ?_⟩
  · show unlikeF _ _ = []
    rw [show (encC { p with blocks := p.blocks.set i b } g l).sel = (encC p g l).sel from rfl, unlikeF_self]
  · have hc := compact_ord (tilesF (encC p g l) (encC { p with blocks := p.blocks.set i b } g l))
    refine ord_one hc.1 fun x hx => ?_
    obtain ⟨t, rfl, ht⟩ := tilesF_mem (by rw [l1.2.1, l2.2.1]) (by rw [l1.2.2.1, l2.2.2.1]) (by rw [l1.2.2.2, l2.2.2.2]) ((hc.2 x).1 hx)
    refine Classical.byContradiction fun hn => ht ?_
    by_cases hp : (t : Int) ∈ l.pos
    · obtain ⟨j, hj, he, hz⟩ := zip_pos (bs := p.blocks) h.len.symm hp
      have hji : i ≠ j := fun e => hn (by rw [e, he])
      have hz' : (p.blocks.getD j default, (t : Int)) ∈ (p.blocks.set i b).zip l.pos := by
        have := zip_at (bs := p.blocks.set i b) (pos := l.pos) (i := j) (by rw [List.length_set]; have := h.len; omega) hj
        rw [he] at this
        rwa [List.getD_eq_getElem?_getD, List.getElem?_set_ne hji, ← List.getD_eq_getElem?_getD] at this
      have e1 := encC_tile_at h hz
      have e2 := encC_tile_at h' hz'
      simp only [Int.toNat_natCast] at e1 e2
      rw [e1, e2]
    · rw [encC_tile_ne h hp, encC_tile_ne h' hp]
theorem blkO_fit {g : Grid} {b : Block} {t k2 k3 : Int} (h2 : 0 ≤ k2 ∧ k2 ≤ 255) (h3 : 0 ≤ k3 ∧ k3 ≤ 255) (h : BlockFit g b t) : BlockFit g (blkO k2 k3) t := by
  obtain ⟨⟨q1, q2, _⟩, _⟩ := h
  exact ⟨⟨q1, q2, fun e => e.2 rfl⟩, ⟨⟨by show 0 ≤ 256 * k2 + k3; omega, by show 256 * k2 + k3 ≤ 65535; omega⟩, ⟨by show -1 ≤ (-1 : Int); omega, by show (-1 : Int) ≤ 255; omega⟩, ⟨by show -1 ≤ k3; omega, h3.2⟩⟩, .inl rfl⟩
end Go.Proofs.Ytledbjkolidhkaa
namespace Go.Proofs.Ytledbjkolidhkaa
open Go Go.Vc Txt
theorem cfgS (c : Cfg) : Sub (.agg (cfgC true c)) (.agg (cfgC false c)) := Sub.aggL ⟨.slp _ _ _ _ (fun h => by cases h), .slp _ _ _ _ (fun h => by cases h), .slp _ _ _ _ (fun h => by cases h), .slp _ _ _ _ (fun h => by cases h), trivial⟩
theorem cfgLn_sm {g : Grid} (hg : GOk g) {c : Cfg} (h : CfgLn g c) : CfgSm c := by
  have h1 := hg.count
  have h2 := hg.wh
  have h3 := hg.kind
  obtain ⟨q1, q2, q3, q4⟩ := h
  exact ⟨by omega, by omega, by omega, by omega⟩
theorem subR_set : ∀ {xs ys : List (List PV)} {x y : List PV} (n : Nat), SubR xs ys → SubL x y → SubR (xs.set n x) (ys.set n y)
  | [], [], _, _, _, _, _ => trivial
  | _ :: _, _ :: _, _, _, 0, h, h2 => ⟨h2, h.2⟩
  | _ :: _, _ :: _, _, _, n + 1, h, h2 => ⟨h.1, subR_set n h.2 h2⟩
def hasT (l : List Int) (y : Int) : Nat → Bool
  | 0 => false
  | m + 1 => hasT l y m || (decide (0 < m) && decide (l.getD m 0 = y))
theorem hasT_iff {l : List Int} {y : Int} : ∀ {m : Nat}, hasT l y m = true ↔ ∃ i, 0 < i ∧ i < m ∧ l.getD i 0 = y
  | 0 => by simp [hasT]
  | m + 1 => by
    rw [hasT, Bool.or_eq_true, hasT_iff, Bool.and_eq_true, decide_eq_true_eq, decide_eq_true_eq]
    constructor
    · rintro (⟨i, h1, h2, h3⟩ | ⟨h1, h2⟩)
      · exact ⟨i, h1, by omega, h3⟩
      · exact ⟨m, h1, by omega, h2⟩
    · rintro ⟨i, h1, h2, h3⟩
      by_cases e : i = m
      · subst e; exact .inr ⟨h1, h3⟩
      · exact .inl ⟨i, h1, by omega, h3⟩
theorem lessS (g : Grid) (p : Packed) (l : Layout) (rs : List Route) : Sub (.agg [.int g.w, .int g.h, .int g.tracks, .int g.pads, .sl true 1 (ints g.kind), .sl true 3 (rows wireC p.ins), .sl true 5 (rows (blockC true) p.blocks), .sl true 3 (rows wireC p.out), .sl true 1 (ints p.drive), .sl true 1 (ints l.pos), .sl false 3 (rows (routeC true) rs)])
    (.agg (desC false g p ⟨l.pos, rs⟩)) := by
  have sl : ∀ (es : Nat) (xs : List (List PV)), Sub (.sl true es xs) (.sl false es xs) := fun es xs => .slp _ _ _ _ (fun h => by cases h)
  exact Sub.aggL ⟨.refl _, .refl _, .refl _, .refl _, sl _ _, sl _ _,
    Sub.slR 5 (fun h => by cases h) (SubR.map _ _ _ fun r _ => ⟨sl _ _, .refl _, .refl _, .refl _, .refl _, trivial⟩), sl _ _, sl _ _, sl _ _,
    Sub.slR 3 (fun h => by cases h) (SubR.map _ _ _ fun r _ => ⟨.refl _, sl _ _, sl _ _, trivial⟩), trivial⟩
theorem otherS (g : Grid) (p : Packed) (l : Layout) (n : Nat) (k2 k3 : Int) : Sub (.agg [.int g.w, .int g.h, .int g.tracks, .int g.pads, .sl true 1 (ints g.kind), .sl true 3 (rows wireC p.ins), .sl false 5 ((rows (blockC true) p.blocks).set n [.nil, .int (256 * k2 + k3), .int (-1), .int k3, .sc (.int .u64 0)]), .sl true 3 (rows wireC p.out), .sl true 1 (ints p.drive), .sl true 1 (ints l.pos), .sl true 3 (rows (routeC true) l.routes)])
    (.agg (desC false g { p with blocks := p.blocks.set n (blkO k2 k3) } l)) := by
  have sl : ∀ (es : Nat) (xs : List (List PV)), Sub (.sl true es xs) (.sl false es xs) := fun es xs => .slp _ _ _ _ (fun h => by cases h)
  refine Sub.aggL ⟨.refl _, .refl _, .refl _, .refl _, sl _ _, sl _ _, ?_, sl _ _, sl _ _, sl _ _,
    Sub.slR 3 (fun h => by cases h) (SubR.map _ _ _ fun r _ => ⟨.refl _, sl _ _, sl _ _, trivial⟩), trivial⟩
  refine Sub.slR 5 (fun h => by cases h) ?_
  rw [show rows (blockC false) (p.blocks.set n (blkO k2 k3)) = (rows (blockC false) p.blocks).set n (blockC false (blkO k2 k3)) from List.map_set]
  exact subR_set n (SubR.map _ _ _ fun r _ => ⟨sl _ _, .refl _, .refl _, .refl _, .refl _, trivial⟩) ⟨.nil _ _, .refl _, .refl _, .refl _, .refl _, trivial⟩
set_option maxHeartbeats 4000000 in
theorem local_ok (x : Raw31) (hx : x.By) (k0 k1 k2 k3 : Int) (hk0 : 0 ≤ k0 ∧ k0 ≤ 255) (hk1 : 0 ≤ k1 ∧ k1 ≤ 255) (hk2 : 0 ≤ k2 ∧ k2 ≤ 255) (hk3 : 0 ≤ k3 ∧ k3 ≤ 255) :
    FnEq Try.prog 5 [.agg (raw31C false x), .agg [.sc (.int .u8 k0), .sc (.int .u8 k1), .sc (.int .u8 k2), .sc (.int .u8 k3)]] (.bool true) := by
  have hd := made_des hx
  have hg := (gridM_ok x.g).1
  have hM := made31_ok x hx
  generalize packM x = p at *
  generalize layM x = l at *
  generalize gridM x.g = g at *
  obtain ⟨hf, n1, n2, n3⟩ := hd
  have hE := encoded_ok p g hg l (by omega) (by omega) (fun r hr => by have := n3 r hr; omega)
  rw [encF_fit hg hf] at hE
  have hcl := encC_len p g l
  refine FnEq.of_awp Try.func5 ok5 (by show 2 ≤ _; decide) (by simp only [push_cast, reduceIte, Nat.reduceEqDiff, Nat.reduceAdd, Nat.reduceSub, Nat.reduceMul, Nat.reduceBEq, Nat.reduceLT, Nat.reduceLeDiff, reduceCtorEq, Int.reduceToNat, Int.reduceNeg] <;> first | exact fun _ _ => trivial | simp) ?_
  simp only [ac5, rv5, push_cast, reduceIte, Nat.reduceEqDiff, Nat.reduceAdd, Nat.reduceSub, Nat.reduceMul, Nat.reduceBEq, Nat.reduceLT, Nat.reduceLeDiff, reduceCtorEq, Int.reduceToNat, Int.reduceNeg]
  refine cal_eq examples_ok ?_
  simp only [push_cast, reduceIte, Nat.reduceEqDiff, Nat.reduceAdd, Nat.reduceSub, Nat.reduceMul, Nat.reduceBEq, Nat.reduceLT, Nat.reduceLeDiff, reduceCtorEq, Int.reduceToNat, Int.reduceNeg]
  refine cal_eq hM ?_
  simp only [push_cast, reduceIte, Nat.reduceEqDiff, Nat.reduceAdd, Nat.reduceSub, Nat.reduceMul, Nat.reduceBEq, Nat.reduceLT, Nat.reduceLeDiff, reduceCtorEq, Int.reduceToNat, Int.reduceNeg]
  refine cal_sub hE (by exact ⟨desC_sub g p l, trivial⟩) ?_
  simp only [push_cast, reduceIte, Nat.reduceEqDiff, Nat.reduceAdd, Nat.reduceSub, Nat.reduceMul, Nat.reduceBEq, Nat.reduceLT, Nat.reduceLeDiff, reduceCtorEq, Int.reduceToNat, Int.reduceNeg]
  refine cond_dec (fun h => ?_) fun h => ?_
  · have u1 := Int.emod_lt_of_pos k0 (show 0 < (l.routes.length : Int) by omega)
    have u2 := Int.emod_nonneg k0 (show (l.routes.length : Int) ≠ 0 by omega)
    generalize k0 % (l.routes.length : Int) = i at *
    obtain ⟨n, rfl⟩ : ∃ n : Nat, i = n := ⟨i.toNat, by omega⟩
    have hn : n < l.routes.length := by omega
    rw [Int.toNat_natCast, show ((n : Int) + 1).toNat = n + 1 by omega]
    obtain ⟨r, hrm, hrk⟩ : ∃ r, r ∈ l.routes ∧ l.routes.getD n default = r := ⟨l.routes[n], List.getElem_mem hn, by rw [List.getD_eq_getElem?_getD, List.getElem?_eq_getElem hn]; rfl⟩
    have hr : l.routes = List.take n l.routes ++ r :: List.drop (n + 1) l.routes := by
      rw [← hrk, List.getD_eq_getElem?_getD, List.getElem?_eq_getElem hn]
      simp
    have hA := List.length_take (i := n) (l := l.routes)
    have hBl := List.length_drop (i := n + 1) (l := l.routes)
    have hf1 : FitsF p g ⟨l.pos, List.take n l.routes ++ r :: List.drop (n + 1) l.routes⟩ := by rw [← hr]; exact hf
    have hnB : ∀ s ∈ List.take n l.routes ++ List.drop (n + 1) l.routes, s ∈ l.routes := fun s hs => by
      rcases List.mem_append.1 hs with hs | hs
      · exact List.mem_of_mem_take hs
      · exact List.mem_of_mem_drop hs
    generalize List.take n l.routes = A at *
    generalize List.drop (n + 1) l.routes = B at *
    repeat (refine And.intro (by omega) ?_)
    rw [List.take_of_length_le (by rw [List.length_append]; exact Nat.le_refl _)]
    have hE1 := encoded_ok p g hg ⟨l.pos, A ++ B⟩ (by show (l.pos.length : Int) ≤ _; omega) (by show ((A ++ B).length : Int) ≤ _; rw [List.length_append]; omega) (fun s hs => by have := n3 s (hnB s hs); omega)
    rw [encF_fit hg (less_fits hf1)] at hE1
    have hld := less_differ hg hf1
    have hl1 : (⟨l.pos, A ++ r :: B⟩ : Layout) = l := by rw [← hr]
    rw [hl1] at hld
    have hcl1 := encC_len p g ⟨l.pos, A ++ B⟩
    generalize encC p g ⟨l.pos, A ++ B⟩ = c1 at *
    refine cal_sub hE1 ⟨lessS g p l (A ++ B), trivial⟩ ?_
    simp only [push_cast, reduceIte, Nat.reduceEqDiff, Nat.reduceAdd, Nat.reduceSub, Nat.reduceMul, Nat.reduceBEq, Nat.reduceLT, Nat.reduceLeDiff, reduceCtorEq, Int.reduceToNat, Int.reduceNeg]
    have hL := ldiffer_ok (encC p g l) c1 (cfgLn_sm hg hcl) (cfgLn_sm hg hcl1)
    rw [hld.1] at hL
    obtain ⟨_, d2, d3⟩ := hld
    refine cal_sub hL ⟨cfgS _, cfgS _, trivial⟩ ?_
    generalize (differF (encC p g l) c1).1 = X at *
    simp only [push_cast, reduceIte, Nat.reduceEqDiff, Nat.reduceAdd, Nat.reduceSub, Nat.reduceMul, Nat.reduceBEq, Nat.reduceLT, Nat.reduceLeDiff, reduceCtorEq, Int.reduceToNat, Int.reduceNeg]
    (repeat (first
      | (refine grd_decf rfl (fun e => absurd e (by decide)) fun _ => ?_; simp only [List.length_nil, List.length_singleton, push_cast, reduceIte, Nat.reduceEqDiff, Nat.reduceAdd, Nat.reduceSub, Nat.reduceMul, Nat.reduceBEq, Nat.reduceLT, Nat.reduceLeDiff, reduceCtorEq, Int.reduceToNat, Int.reduceNeg])
      | (refine dgrd_decf rfl (fun e => absurd e (by decide)) fun _ => ?_; simp only [List.length_nil, List.length_singleton, push_cast, reduceIte, Nat.reduceEqDiff, Nat.reduceAdd, Nat.reduceSub, Nat.reduceMul, Nat.reduceBEq, Nat.reduceLT, Nat.reduceLeDiff, reduceCtorEq, Int.reduceToNat, Int.reduceNeg])))
    have hXr : X.length ≤ 16 ∧ 0 < r.nodes.length := by have := n3 r hrm; have := List.length_pos_iff.2 (hf.sh r hrm).ne; omega
    simp only [hrk]
    repeat (refine And.intro (by omega) ?_)
    refine cond_dec (fun e => absurd d2 e) fun _ => ?_
    refine loop_of (fun m st => ∃ j : Nat, j ≤ X.length ∧ m = X.length - j ∧ st = ⟨[(3, .ptr 3 0), (5, .bool true), (6, .ptr 6 0), (7, .ptr 7 0), (9, .ptr 9 0), (10, .int n), (12, .ptr 12 0), (13, .int j)],
      [(3, [.sc (.int .u8 k0), .sc (.int .u8 k1), .sc (.int .u8 k2), .sc (.int .u8 k3)]), (6, desC true g p l), (7, cfgC true (encC p g l) ++ [.int 0]), (9, desC true g p l), (12, [.sl true 1 (ints X), .sl true 1 (ints [])])], [], []⟩) X.length ?_ ?_
    · refine ⟨0, by omega, by omega, ?_⟩
      simp only [push_cast, reduceIte, Nat.reduceEqDiff, Nat.reduceAdd, Nat.reduceSub, Nat.reduceMul, Nat.reduceBEq, Nat.reduceLT, Nat.reduceLeDiff, reduceCtorEq, Int.reduceToNat, Int.reduceNeg]
      try done
    rintro m st ⟨j, hj, rfl, rfl⟩
    simp only [push_cast, reduceIte, Nat.reduceEqDiff, Nat.reduceAdd, Nat.reduceSub, Nat.reduceMul, Nat.reduceBEq, Nat.reduceLT, Nat.reduceLeDiff, reduceCtorEq, Int.reduceToNat, Int.reduceNeg]
    refine cond_dec (fun h2 => ?_) fun h2 => ?_
    · have hyj := d3 _ (getD_mem (l := X) (k := j) (by omega))
      generalize hy : X.getD j 0 = y at *
      refine loop_of (fun q st => ∃ m : Nat, (1 ≤ m ∧ m ≤ r.nodes.length) ∧ q = r.nodes.length - m ∧ st = ⟨[(3, .ptr 3 0), (5, .bool true), (6, .ptr 6 0), (7, .ptr 7 0), (9, .ptr 9 0), (10, .int n), (12, .ptr 12 0), (13, .int j), (14, .bool (hasT r.nodes y m)), (15, .int m)],
        [(3, [.sc (.int .u8 k0), .sc (.int .u8 k1), .sc (.int .u8 k2), .sc (.int .u8 k3)]), (6, desC true g p l), (7, cfgC true (encC p g l) ++ [.int 0]), (9, desC true g p l), (12, [.sl true 1 (ints X), .sl true 1 (ints [])])], [], []⟩) (r.nodes.length - 1) ?_ ?_
      · refine ⟨1, by omega, by omega, ?_⟩
        simp only [hasT, Nat.lt_irrefl, push_cast, reduceIte, Nat.reduceEqDiff, Nat.reduceAdd, Nat.reduceSub, Nat.reduceMul, Nat.reduceBEq, Nat.reduceLT, Nat.reduceLeDiff, reduceCtorEq, Int.reduceToNat, Int.reduceNeg]
        try rfl
      rintro q st ⟨m, hm, rfl, rfl⟩
      simp only [hrk, push_cast, reduceIte, Nat.reduceEqDiff, Nat.reduceAdd, Nat.reduceSub, Nat.reduceMul, Nat.reduceBEq, Nat.reduceLT, Nat.reduceLeDiff, reduceCtorEq, Int.reduceToNat, Int.reduceNeg]
      refine ⟨by omega, by omega, ?_⟩
      refine cond_dec (fun h3 => ?_) fun h3 => ?_
      · have hTs : hasT r.nodes y (m + 1) = (hasT r.nodes y m || decide (r.nodes.getD m 0 = y)) := by rw [hasT, decide_eq_true (show 0 < m by omega), Bool.true_and]
        refine dgrd_bf rfl (fun e => ?_) fun e => ?_ <;> simp only [hrk, push_cast, reduceIte, Nat.reduceEqDiff, Nat.reduceAdd, Nat.reduceSub, Nat.reduceMul, Nat.reduceBEq, Nat.reduceLT, Nat.reduceLeDiff, reduceCtorEq, Int.reduceToNat, Int.reduceNeg]
        · rw [e, Bool.true_or] at hTs
          refine ⟨by omega, _, ?_, m + 1, by omega, rfl, ?_⟩
          · omega
          · rw [hTs]
            simp only [push_cast, reduceIte, Nat.reduceEqDiff, Nat.reduceAdd, Nat.reduceSub, Nat.reduceMul, Nat.reduceBEq, Nat.reduceLT, Nat.reduceLeDiff, reduceCtorEq, Int.reduceToNat, Int.reduceNeg]
        · rw [e, Bool.false_or] at hTs
          rw [show X.getD j default = y from hy, show r.nodes.getD m default = r.nodes.getD m 0 from rfl]
          repeat (refine And.intro (by omega) ?_)
          refine ⟨_, ?_, m + 1, by omega, rfl, ?_⟩
          · omega
          · rw [hTs]
            simp only [push_cast, reduceIte, Nat.reduceEqDiff, Nat.reduceAdd, Nat.reduceSub, Nat.reduceMul, Nat.reduceBEq, Nat.reduceLT, Nat.reduceLeDiff, reduceCtorEq, Int.reduceToNat, Int.reduceNeg]
      rw [show m = r.nodes.length by omega, hasT_iff.2 hyj]
      simp only [push_cast, reduceIte, Nat.reduceEqDiff, Nat.reduceAdd, Nat.reduceSub, Nat.reduceMul, Nat.reduceBEq, Nat.reduceLT, Nat.reduceLeDiff, reduceCtorEq, Int.reduceToNat, Int.reduceNeg]
      refine ⟨by omega, _, ?_, j + 1, by omega, rfl, ?_⟩
      · omega
      · simp only [push_cast, reduceIte, Nat.reduceEqDiff, Nat.reduceAdd, Nat.reduceSub, Nat.reduceMul, Nat.reduceBEq, Nat.reduceLT, Nat.reduceLeDiff, reduceCtorEq, Int.reduceToNat, Int.reduceNeg]
    refine cond_dec (fun hb => ?_) fun hb => ?_
    · have t1 := Int.emod_lt_of_pos k1 (show 0 < (p.blocks.length : Int) by omega)
      have t2 := Int.emod_nonneg k1 (show (p.blocks.length : Int) ≠ 0 by omega)
      generalize k1 % (p.blocks.length : Int) = i at *
      obtain ⟨n, rfl⟩ : ∃ n : Nat, i = n := ⟨i.toNat, by omega⟩
      have hn : n < p.blocks.length := by omega
      have hpl : l.pos.length = p.blocks.length := hf.len
      rw [Int.toNat_natCast]
      repeat (refine And.intro (by omega) ?_)
      have hB : ∀ t, BlockFit g (p.blocks.getD n default) t → BlockFit g (blkO k2 k3) t := fun t h => blkO_fit hk2 hk3 h
      have hf2 := other_fits hf hB
      have hdf := other_differ hf hn hB
      have hE2 := encoded_ok { p with blocks := p.blocks.set n (blkO k2 k3) } g hg l (by omega) (by omega) (fun r hr => by have := n3 r hr; omega)
      rw [encF_fit hg hf2] at hE2
      have hcl2 := encC_len { p with blocks := p.blocks.set n (blkO k2 k3) } g l
      generalize encC { p with blocks := p.blocks.set n (blkO k2 k3) } g l = c2 at *
      rw [List.take_of_length_le (by simp [rows])]
      refine cal_sub hE2 ⟨otherS g p l n k2 k3, trivial⟩ ?_
      simp only [push_cast, reduceIte, Nat.reduceEqDiff, Nat.reduceAdd, Nat.reduceSub, Nat.reduceMul, Nat.reduceBEq, Nat.reduceLT, Nat.reduceLeDiff, reduceCtorEq, Int.reduceToNat, Int.reduceNeg]
      have hL := ldiffer_ok (encC p g l) c2 (cfgLn_sm hg hcl) (cfgLn_sm hg hcl2)
      obtain ⟨d1, d2⟩ := hdf
      rw [d1] at hL
      rcases d2 with d2 | d2 <;> rw [d2] at hL
      · refine cal_sub hL ⟨cfgS _, cfgS _, trivial⟩ ?_
        simp only [push_cast, reduceIte, Nat.reduceEqDiff, Nat.reduceAdd, Nat.reduceSub, Nat.reduceMul, Nat.reduceBEq, Nat.reduceLT, Nat.reduceLeDiff, reduceCtorEq, Int.reduceToNat, Int.reduceNeg]
        repeat (first
          | (refine grd_decf rfl (fun e => absurd e (by decide)) fun _ => ?_; simp only [List.length_nil, List.length_singleton, push_cast, reduceIte, Nat.reduceEqDiff, Nat.reduceAdd, Nat.reduceSub, Nat.reduceMul, Nat.reduceBEq, Nat.reduceLT, Nat.reduceLeDiff, reduceCtorEq, Int.reduceToNat, Int.reduceNeg])
          | (refine grd_decf rfl (fun _ => ?_) fun e => absurd (by decide) e; simp only [List.length_nil, List.length_singleton, push_cast, reduceIte, Nat.reduceEqDiff, Nat.reduceAdd, Nat.reduceSub, Nat.reduceMul, Nat.reduceBEq, Nat.reduceLT, Nat.reduceLeDiff, reduceCtorEq, Int.reduceToNat, Int.reduceNeg])
          | (refine grd_dec rfl (fun e => absurd e (by decide)) fun _ => ?_; simp only [List.length_nil, List.length_singleton, push_cast, reduceIte, Nat.reduceEqDiff, Nat.reduceAdd, Nat.reduceSub, Nat.reduceMul, Nat.reduceBEq, Nat.reduceLT, Nat.reduceLeDiff, reduceCtorEq, Int.reduceToNat, Int.reduceNeg])
          | (refine grd_dec rfl (fun _ => ?_) fun e => absurd (by decide) e; simp only [List.length_nil, List.length_singleton, push_cast, reduceIte, Nat.reduceEqDiff, Nat.reduceAdd, Nat.reduceSub, Nat.reduceMul, Nat.reduceBEq, Nat.reduceLT, Nat.reduceLeDiff, reduceCtorEq, Int.reduceToNat, Int.reduceNeg])
          | (refine dgrd_dec rfl (fun e => absurd e (by decide)) fun _ => ?_; simp only [List.length_nil, List.length_singleton, push_cast, reduceIte, Nat.reduceEqDiff, Nat.reduceAdd, Nat.reduceSub, Nat.reduceMul, Nat.reduceBEq, Nat.reduceLT, Nat.reduceLeDiff, reduceCtorEq, Int.reduceToNat, Int.reduceNeg])
          | (refine dgrd_dec rfl (fun _ => ?_) fun e => absurd (by decide) e; simp only [List.length_nil, List.length_singleton, push_cast, reduceIte, Nat.reduceEqDiff, Nat.reduceAdd, Nat.reduceSub, Nat.reduceMul, Nat.reduceBEq, Nat.reduceLT, Nat.reduceLeDiff, reduceCtorEq, Int.reduceToNat, Int.reduceNeg]))
        try trivial
      · refine cal_sub hL ⟨cfgS _, cfgS _, trivial⟩ ?_
        simp only [push_cast, reduceIte, Nat.reduceEqDiff, Nat.reduceAdd, Nat.reduceSub, Nat.reduceMul, Nat.reduceBEq, Nat.reduceLT, Nat.reduceLeDiff, reduceCtorEq, Int.reduceToNat, Int.reduceNeg]
        repeat (first
          | (refine grd_decf rfl (fun e => absurd e (by decide)) fun _ => ?_; simp only [List.length_nil, List.length_singleton, push_cast, reduceIte, Nat.reduceEqDiff, Nat.reduceAdd, Nat.reduceSub, Nat.reduceMul, Nat.reduceBEq, Nat.reduceLT, Nat.reduceLeDiff, reduceCtorEq, Int.reduceToNat, Int.reduceNeg])
          | (refine grd_decf rfl (fun _ => ?_) fun e => absurd (by decide) e; simp only [List.length_nil, List.length_singleton, push_cast, reduceIte, Nat.reduceEqDiff, Nat.reduceAdd, Nat.reduceSub, Nat.reduceMul, Nat.reduceBEq, Nat.reduceLT, Nat.reduceLeDiff, reduceCtorEq, Int.reduceToNat, Int.reduceNeg])
          | (refine grd_dec rfl (fun e => absurd e (by decide)) fun _ => ?_; simp only [List.length_nil, List.length_singleton, push_cast, reduceIte, Nat.reduceEqDiff, Nat.reduceAdd, Nat.reduceSub, Nat.reduceMul, Nat.reduceBEq, Nat.reduceLT, Nat.reduceLeDiff, reduceCtorEq, Int.reduceToNat, Int.reduceNeg])
          | (refine grd_dec rfl (fun _ => ?_) fun e => absurd (by decide) e; simp only [List.length_nil, List.length_singleton, push_cast, reduceIte, Nat.reduceEqDiff, Nat.reduceAdd, Nat.reduceSub, Nat.reduceMul, Nat.reduceBEq, Nat.reduceLT, Nat.reduceLeDiff, reduceCtorEq, Int.reduceToNat, Int.reduceNeg])
          | (refine dgrd_dec rfl (fun e => absurd e (by decide)) fun _ => ?_; simp only [List.length_nil, List.length_singleton, push_cast, reduceIte, Nat.reduceEqDiff, Nat.reduceAdd, Nat.reduceSub, Nat.reduceMul, Nat.reduceBEq, Nat.reduceLT, Nat.reduceLeDiff, reduceCtorEq, Int.reduceToNat, Int.reduceNeg])
          | (refine dgrd_dec rfl (fun _ => ?_) fun e => absurd (by decide) e; simp only [List.length_nil, List.length_singleton, push_cast, reduceIte, Nat.reduceEqDiff, Nat.reduceAdd, Nat.reduceSub, Nat.reduceMul, Nat.reduceBEq, Nat.reduceLT, Nat.reduceLeDiff, reduceCtorEq, Int.reduceToNat, Int.reduceNeg]))
        refine ⟨by omega, by omega, by omega, ?_⟩
        exact cond_dec (fun e => absurd rfl e) fun _ => trivial
    trivial
  refine cond_dec (fun hb => ?_) fun hb => ?_
  · have t1 := Int.emod_lt_of_pos k1 (show 0 < (p.blocks.length : Int) by omega)
    have t2 := Int.emod_nonneg k1 (show (p.blocks.length : Int) ≠ 0 by omega)
    generalize k1 % (p.blocks.length : Int) = i at *
    obtain ⟨n, rfl⟩ : ∃ n : Nat, i = n := ⟨i.toNat, by omega⟩
    have hn : n < p.blocks.length := by omega
    have hpl : l.pos.length = p.blocks.length := hf.len
    rw [Int.toNat_natCast]
    repeat (refine And.intro (by omega) ?_)
    have hB : ∀ t, BlockFit g (p.blocks.getD n default) t → BlockFit g (blkO k2 k3) t := fun t h => blkO_fit hk2 hk3 h
    have hf2 := other_fits hf hB
    have hdf := other_differ hf hn hB
    have hE2 := encoded_ok { p with blocks := p.blocks.set n (blkO k2 k3) } g hg l (by omega) (by omega) (fun r hr => by have := n3 r hr; omega)
    rw [encF_fit hg hf2] at hE2
    have hcl2 := encC_len { p with blocks := p.blocks.set n (blkO k2 k3) } g l
    generalize encC { p with blocks := p.blocks.set n (blkO k2 k3) } g l = c2 at *
    rw [List.take_of_length_le (by simp [rows])]
    refine cal_sub hE2 ⟨otherS g p l n k2 k3, trivial⟩ ?_
    simp only [push_cast, reduceIte, Nat.reduceEqDiff, Nat.reduceAdd, Nat.reduceSub, Nat.reduceMul, Nat.reduceBEq, Nat.reduceLT, Nat.reduceLeDiff, reduceCtorEq, Int.reduceToNat, Int.reduceNeg]
    have hL := ldiffer_ok (encC p g l) c2 (cfgLn_sm hg hcl) (cfgLn_sm hg hcl2)
    obtain ⟨d1, d2⟩ := hdf
    rw [d1] at hL
    rcases d2 with d2 | d2 <;> rw [d2] at hL
    · refine cal_sub hL ⟨cfgS _, cfgS _, trivial⟩ ?_
      simp only [push_cast, reduceIte, Nat.reduceEqDiff, Nat.reduceAdd, Nat.reduceSub, Nat.reduceMul, Nat.reduceBEq, Nat.reduceLT, Nat.reduceLeDiff, reduceCtorEq, Int.reduceToNat, Int.reduceNeg]
      repeat (first
        | (refine grd_decf rfl (fun e => absurd e (by decide)) fun _ => ?_; simp only [List.length_nil, List.length_singleton, push_cast, reduceIte, Nat.reduceEqDiff, Nat.reduceAdd, Nat.reduceSub, Nat.reduceMul, Nat.reduceBEq, Nat.reduceLT, Nat.reduceLeDiff, reduceCtorEq, Int.reduceToNat, Int.reduceNeg])
        | (refine grd_decf rfl (fun _ => ?_) fun e => absurd (by decide) e; simp only [List.length_nil, List.length_singleton, push_cast, reduceIte, Nat.reduceEqDiff, Nat.reduceAdd, Nat.reduceSub, Nat.reduceMul, Nat.reduceBEq, Nat.reduceLT, Nat.reduceLeDiff, reduceCtorEq, Int.reduceToNat, Int.reduceNeg])
        | (refine grd_dec rfl (fun e => absurd e (by decide)) fun _ => ?_; simp only [List.length_nil, List.length_singleton, push_cast, reduceIte, Nat.reduceEqDiff, Nat.reduceAdd, Nat.reduceSub, Nat.reduceMul, Nat.reduceBEq, Nat.reduceLT, Nat.reduceLeDiff, reduceCtorEq, Int.reduceToNat, Int.reduceNeg])
        | (refine grd_dec rfl (fun _ => ?_) fun e => absurd (by decide) e; simp only [List.length_nil, List.length_singleton, push_cast, reduceIte, Nat.reduceEqDiff, Nat.reduceAdd, Nat.reduceSub, Nat.reduceMul, Nat.reduceBEq, Nat.reduceLT, Nat.reduceLeDiff, reduceCtorEq, Int.reduceToNat, Int.reduceNeg])
        | (refine dgrd_dec rfl (fun e => absurd e (by decide)) fun _ => ?_; simp only [List.length_nil, List.length_singleton, push_cast, reduceIte, Nat.reduceEqDiff, Nat.reduceAdd, Nat.reduceSub, Nat.reduceMul, Nat.reduceBEq, Nat.reduceLT, Nat.reduceLeDiff, reduceCtorEq, Int.reduceToNat, Int.reduceNeg])
        | (refine dgrd_dec rfl (fun _ => ?_) fun e => absurd (by decide) e; simp only [List.length_nil, List.length_singleton, push_cast, reduceIte, Nat.reduceEqDiff, Nat.reduceAdd, Nat.reduceSub, Nat.reduceMul, Nat.reduceBEq, Nat.reduceLT, Nat.reduceLeDiff, reduceCtorEq, Int.reduceToNat, Int.reduceNeg]))
      try trivial
    · refine cal_sub hL ⟨cfgS _, cfgS _, trivial⟩ ?_
      simp only [push_cast, reduceIte, Nat.reduceEqDiff, Nat.reduceAdd, Nat.reduceSub, Nat.reduceMul, Nat.reduceBEq, Nat.reduceLT, Nat.reduceLeDiff, reduceCtorEq, Int.reduceToNat, Int.reduceNeg]
      repeat (first
        | (refine grd_decf rfl (fun e => absurd e (by decide)) fun _ => ?_; simp only [List.length_nil, List.length_singleton, push_cast, reduceIte, Nat.reduceEqDiff, Nat.reduceAdd, Nat.reduceSub, Nat.reduceMul, Nat.reduceBEq, Nat.reduceLT, Nat.reduceLeDiff, reduceCtorEq, Int.reduceToNat, Int.reduceNeg])
        | (refine grd_decf rfl (fun _ => ?_) fun e => absurd (by decide) e; simp only [List.length_nil, List.length_singleton, push_cast, reduceIte, Nat.reduceEqDiff, Nat.reduceAdd, Nat.reduceSub, Nat.reduceMul, Nat.reduceBEq, Nat.reduceLT, Nat.reduceLeDiff, reduceCtorEq, Int.reduceToNat, Int.reduceNeg])
        | (refine grd_dec rfl (fun e => absurd e (by decide)) fun _ => ?_; simp only [List.length_nil, List.length_singleton, push_cast, reduceIte, Nat.reduceEqDiff, Nat.reduceAdd, Nat.reduceSub, Nat.reduceMul, Nat.reduceBEq, Nat.reduceLT, Nat.reduceLeDiff, reduceCtorEq, Int.reduceToNat, Int.reduceNeg])
        | (refine grd_dec rfl (fun _ => ?_) fun e => absurd (by decide) e; simp only [List.length_nil, List.length_singleton, push_cast, reduceIte, Nat.reduceEqDiff, Nat.reduceAdd, Nat.reduceSub, Nat.reduceMul, Nat.reduceBEq, Nat.reduceLT, Nat.reduceLeDiff, reduceCtorEq, Int.reduceToNat, Int.reduceNeg])
        | (refine dgrd_dec rfl (fun e => absurd e (by decide)) fun _ => ?_; simp only [List.length_nil, List.length_singleton, push_cast, reduceIte, Nat.reduceEqDiff, Nat.reduceAdd, Nat.reduceSub, Nat.reduceMul, Nat.reduceBEq, Nat.reduceLT, Nat.reduceLeDiff, reduceCtorEq, Int.reduceToNat, Int.reduceNeg])
        | (refine dgrd_dec rfl (fun _ => ?_) fun e => absurd (by decide) e; simp only [List.length_nil, List.length_singleton, push_cast, reduceIte, Nat.reduceEqDiff, Nat.reduceAdd, Nat.reduceSub, Nat.reduceMul, Nat.reduceBEq, Nat.reduceLT, Nat.reduceLeDiff, reduceCtorEq, Int.reduceToNat, Int.reduceNeg]))
      refine ⟨by omega, by omega, by omega, ?_⟩
      exact cond_dec (fun e => absurd rfl e) fun _ => trivial
  trivial
end Go.Proofs.Ytledbjkolidhkaa
namespace Go.Proofs.Ytledbjkolidhkaa
open Go Go.ChangeShapes Go.WideShapes Go.ChangeAt Go.RowKit Go.Vc
theorem flat0 : flatOk Try.prog 9 28 raw31T = true := by kernel_rfl
theorem flat1 : flatOk Try.prog 9 36 (List.replicate 4 (.i .u8)) = true := by kernel_rfl
theorem Try.own : ownKnob Try.prog.godebug = none := by kernel_rfl
theorem Try.laidOut : laidOutB Try.prog = true := by kernel_rfl
theorem boolU : Try.prog.underlying 4 = some .bool := by kernel_rfl
theorem paramsT : Try.f5.params = #[28, 36] := by kernel_rfl
set_option maxRecDepth 100000 in
theorem local_lifted (os : Os) (started : os.Started) (H : Type) (enc : TypeId × Value → H) :
    ReturnsInHanded {} Try.checked os 5 .any (Rows.configLocalSpec.pre6 enc Try.prog Try.f5 Rows.configLocalRow.domain false) (Rows.configLocalSpec.post enc Try.prog Try.f5 false true false false) := by
  refine returnsInHanded_of_change (C := Try.checked) Try.own started (by kernel_rfl) Try.func5
    (ChangeSpec.witness6 (enc := enc) (C := Try.checked) false ⟨#[], #[.agg #[.int .u8 0, .int .u8 0, .int .u8 0, .int .u8 0, .slice none 0 0, .slice none 0 0, .slice none 0 0], .agg #[.int .u8 0, .int .u8 0, .int .u8 0, .int .u8 0]], []⟩ 8 (by kernel_rfl) (by kernel_rfl) (by kernel_rfl) (by kernel_rfl)) ?_
  intro W base args ds gs before hval0 hW hcnd _
  have hval : ∀ (j : Nat) t v, Try.f5.params[j]? = some t → args[j]? = some v → Value.okWide Try.prog W .any base t v := hval0
  have hW' := hW
  obtain ⟨p, q, hA0, hV, rfl, hfz, hnd⟩ := hW
  have hA : DataW.TrodAll enc Try.prog W 0 (fun _ => true) true Try.f5.params.toList args.toList ds p := hA0
  rw [paramsT] at hA hval
  obtain ⟨v0, v1, d0, d1, p0, p1, rfl, rfl, rfl, h0, h1⟩ := trodAll_two hA
  obtain ⟨rfl, rfl⟩ := trodVars_none hV
  obtain ⟨a0, r0, t0⟩ := argTy flat0 (by kernel_rfl) (hval 0 _ v0 rfl rfl) h0
  obtain ⟨a1, r1, t1⟩ := argTy flat1 (by kernel_rfl) (hval 1 _ v1 rfl rfl) h1
  have hlt : ∀ x ∈ p0 ++ p1, x.block < W.heap.size := fun x hx => hW'.lt x (by simpa using hx)
  refine (zw_call (raw4_true local_ok r0 r1) rfl fun j cc hj => ?_).mono fun e W' ⟨he, hb⟩ => ?_
  · match j with
    | 0 => simp at hj; subst hj; exact t0
    | 1 => simp at hj; subst hj; exact t1
    | j + 2 => simp at hj
  · refine ⟨_, he, _, _, _, [], _, [], hW', ?_, trodAll_mk2 (Below.trod Try.laidOut (by kernel_rfl) (of_decide_eq_true (by kernel_rfl)) h0 hb fun x hx => hlt x (by simp [hx])) (Below.trod Try.laidOut (by kernel_rfl) (of_decide_eq_true (by kernel_rfl)) h1 hb fun x hx => hlt x (by simp [hx])), rfl, hb.frame _, fun h => by cases h⟩
    exact trodAll_mk1 (shut_bool boolU true)
theorem local_holds : Rows.ConfigLocalSaid :=
  OpenClaim.holds_of_wide 5 Try.f5 rfl rfl rfl rfl rfl rfl rfl ⟨rfl, rfl, rfl, rfl, rfl⟩ rfl rfl rfl rfl rfl (by kernel_rfl) Try.func5 (by kernel_rfl)
    (of_decide_eq_true (by kernel_rfl)) (by unfold Func.isWrapper; first | (rw [if_pos (by decide +kernel)]; kernel_rfl) | (rw [if_neg (by decide +kernel)]; exact ⟨rfl, rfl⟩))
    (fun os started H enc _ => local_lifted os started H enc)
end Go.Proofs.Ytledbjkolidhkaa
