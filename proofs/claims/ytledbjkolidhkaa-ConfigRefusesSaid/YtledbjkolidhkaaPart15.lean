/- ZX PRefuses: ConfigRefuses holds for every raw design and all bytes: the row. -/
import Derived.Test.YtledbjkolidhkaaPart14
import Derived.Test.YtledbjkolidhkaaRows
set_option linter.unusedSimpArgs false
set_option linter.unusedVariables false
namespace Go.Proofs.Ytledbjkolidhkaa
open Go Go.Vc Txt
structure DRow where
  i : List (List PV)
  b : List (List PV)
  o : List (List PV)
  d : List (List PV)
  p : List (List PV)
  r : List (List PV)
instance : Inhabited DRow := ⟨⟨[], [], [], [], [], []⟩⟩
def dR (g : Grid) (y : DRow) : List PV := [.int g.w, .int g.h, .int g.tracks, .int g.pads, .sl true 1 (ints g.kind), .sl true 3 y.i, .sl true 5 y.b, .sl true 3 y.o, .sl true 1 y.d, .sl true 1 y.p, .sl true 3 y.r]
@[push_cast] theorem dR_eq (g : Grid) (y : DRow) : dR g y = [.int g.w, .int g.h, .int g.tracks, .int g.pads, .sl true 1 (ints g.kind), .sl true 3 y.i, .sl true 5 y.b, .sl true 3 y.o, .sl true 1 y.d, .sl true 1 y.p, .sl true 3 y.r] := rfl
def BadR (g : Grid) (y : DRow) : Prop := ∃ p l, Sub (.agg (dR g y)) (.agg (desC false g p l)) ∧ ¬ FitsF p g l ∧ (l.pos.length : Int) ≤ 1000000 ∧ (l.routes.length : Int) ≤ 1000000 ∧ ∀ r ∈ l.routes, (r.nodes.length : Int) ≤ 1000000
theorem gc_tail (n : Nat) (q : Int) (b : List (Nat × List PV)) (a : List (Nat × Arr)) : St.gc ⟨[(5, .bool true), (7, .view 29 0 n), (18, .sc (.int .i64 q))], b, a, []⟩ [0, 216, 5, 7, 18] = ⟨[(5, .bool true), (7, .view 29 0 n), (18, .sc (.int .i64 q))], [], a.filter (fun x => 29 == x.1), []⟩ := by
  have e1 : ∀ j : Nat, ([(5, PV.bool true), (7, PV.view 29 0 n), (18, PV.sc (.int .i64 q))] : List (Nat × PV)).any (fun y => y.2.toV (fun i => i == j) nul) = false := fun j => by simp [PV.toV, PV.toA, PV.to, nul]
  have e2 : ∀ j : Nat, ([(5, PV.bool true), (7, PV.view 29 0 n), (18, PV.sc (.int .i64 q))] : List (Nat × PV)).any (fun y => y.2.toV nul (fun i => i == j)) = (29 == j) := fun j => by simp [PV.toV, PV.toA, PV.to]
  have e3 : ([(5, PV.bool true), (7, PV.view 29 0 n), (18, PV.sc (.int .i64 q))] : List (Nat × PV)).filter (fun x => inK [0, 216, 5, 7, 18] x.1) = [(5, PV.bool true), (7, PV.view 29 0 n), (18, PV.sc (.int .i64 q))] := rfl
  have e4 : ∀ l : List (Nat × List PV), l.filter (fun _ => false) = [] := fun l => List.filter_eq_nil_iff.2 fun _ _ => by simp
  simp only [St.gc, e3, e1, e2, List.any_nil, Bool.or_false, e4, List.filter_nil]
set_option maxHeartbeats 4000000 in
theorem ref_tail (g : Grid) (hg : GOk g) (bad : List DRow) (hb : ∀ r ∈ bad, BadR g r) (hl : bad.length ≤ 100) (b : List (Nat × List PV)) (a : List (Nat × Arr)) (ha : a.filter (fun x => 29 == x.1) = [(29, ⟨11, 47, rows (dR g) bad⟩)])
    (st : St) (hst : st.keepS [0, 216, 5, 7] = ⟨[(5, .bool true), (7, .view 29 0 bad.length)], b, a, []⟩) :
    awp (Env.of Try.prog) ac8p_r33 (retK [RV.tmp 4] fun v => Sub v (.bool true)) st := by
  simp only [ac8p_r33, hst, push_cast, reduceIte, Nat.reduceEqDiff, Nat.reduceAdd, Nat.reduceSub, Nat.reduceMul, Nat.reduceBEq, Nat.reduceLT, Nat.reduceLeDiff, reduceCtorEq, Int.reduceToNat, Int.reduceNeg]
  refine loop_of (fun m st => ∃ k : Nat, k ≤ bad.length ∧ m = bad.length - k ∧ st = ⟨[(5, .bool true), (7, .view 29 0 bad.length), (18, .int k)], [], [(29, ⟨11, 47, rows (dR g) bad⟩)], []⟩) bad.length ?_ ?_
  · refine ⟨0, by omega, by omega, ?_⟩
    rw [gc_tail, ha]
    rfl
  rintro m st ⟨k, hk, rfl, rfl⟩
  simp only [push_cast, reduceIte, Nat.reduceEqDiff, Nat.reduceAdd, Nat.reduceSub, Nat.reduceMul, Nat.reduceBEq, Nat.reduceLT, Nat.reduceLeDiff, reduceCtorEq, Int.reduceToNat, Int.reduceNeg]
  refine cond_dec (fun h => ?_) fun h => ?_
  · obtain ⟨y, hrk⟩ : ∃ y, bad.getD k default = y := ⟨_, rfl⟩
    have hrm : y ∈ bad := by rw [← hrk, List.getD_eq_getElem?_getD, List.getElem?_eq_getElem (by omega)]; exact List.getElem_mem _
    obtain ⟨p, l, b2, b3, b4, b5, b6⟩ := hb y hrm
    have hE := encoded_ok p g hg l b4 b5 b6
    rw [encF_not hg b3] at hE
    rw [hrk]
    refine ⟨by omega, by omega, ?_⟩
    refine cal_sub hE ⟨b2, trivial⟩ ?_
    simp only [cfg0, push_cast, reduceIte, Nat.reduceEqDiff, Nat.reduceAdd, Nat.reduceSub, Nat.reduceMul, Nat.reduceBEq, Nat.reduceLT, Nat.reduceLeDiff, reduceCtorEq, Int.reduceToNat, Int.reduceNeg]
    refine grd_decf rfl (fun e => absurd rfl e) fun _ => ?_
    simp only [List.length_nil, push_cast, reduceIte, Nat.reduceEqDiff, Nat.reduceAdd, Nat.reduceSub, Nat.reduceMul, Nat.reduceBEq, Nat.reduceLT, Nat.reduceLeDiff, reduceCtorEq, Int.reduceToNat, Int.reduceNeg]
    refine cond_dec (fun e => absurd rfl e) fun _ => ?_
    refine ⟨by omega, _, ?_, k + 1, by omega, rfl, ?_⟩
    · omega
    · simp only [push_cast, reduceIte, Nat.reduceEqDiff, Nat.reduceAdd, Nat.reduceSub, Nat.reduceMul, Nat.reduceBEq, Nat.reduceLT, Nat.reduceLeDiff, reduceCtorEq, Int.reduceToNat, Int.reduceNeg]
  trivial
theorem ref_tailE (g : Grid) (hg : GOk g) (bad : List DRow) (hb : ∀ r ∈ bad, BadR g r) (hl : bad.length ≤ 100) (st : St)
    (h : ∃ b a, st.keepS [0, 216, 5, 7] = ⟨[(5, .bool true), (7, .view 29 0 bad.length)], b, a, []⟩ ∧ a.filter (fun x => 29 == x.1) = [(29, ⟨11, 47, rows (dR g) bad⟩)]) :
    awp (Env.of Try.prog) ac8p_r33 (retK [RV.tmp 4] fun v => Sub v (.bool true)) st := by
  obtain ⟨b, a, h1, h2⟩ := h
  exact ref_tail g hg bad hb hl b a h2 st h1
theorem subR_app : ∀ {xs ys : List (List PV)} {x y : List PV}, SubR xs ys → SubL x y → SubR (xs ++ [x]) (ys ++ [y])
  | [], [], _, _, _, h2 => ⟨h2, trivial⟩
  | _ :: _, _ :: _, _, _, h, h2 => ⟨h.1, subR_app h.2 h2⟩
theorem pin2 {g : Grid} (hg : GOk g) : driversF g 2 ≠ [] := by
  have h1 := hg.all
  have h2 := hg.each
  have h3 := hg.count
  have h4 := hg.pads
  have hw := hg.w
  have hh := hg.h
  have ht := hg.tracks
  have he : eachI g = 6 + 2 * g.tracks := rfl
  have : (6 : Int) ∈ driversF g 2 := by
    rw [driversF_memC hg (by omega)]
    refine ⟨by omega, ?_⟩
    have e2 : descF g 2 = ⟨3, 0 % g.w, 0 / g.w, 0⟩ := by
      rw [descF, if_neg (by omega), if_neg (by omega)]
      have q1 : (2 : Int) % eachI g = 2 := Int.emod_eq_of_lt (by omega) (by omega)
      have q2 : (2 : Int) / eachI g = 0 := Int.ediv_eq_zero_of_lt (by omega) (by omega)
      dsimp only
      rw [q1, q2, if_neg (by omega), if_neg (by omega), if_pos (by omega)]
      rfl
    have e6 : descF g 6 = ⟨4, 0 % g.w, 0 / g.w, 0⟩ := by
      rw [descF, if_neg (by omega), if_neg (by omega)]
      have q1 : (6 : Int) % eachI g = 6 := Int.emod_eq_of_lt (by omega) (by omega)
      have q2 : (6 : Int) / eachI g = 0 := Int.ediv_eq_zero_of_lt (by omega) (by omega)
      dsimp only
      rw [q1, q2, if_neg (by omega), if_pos (by omega)]
      rfl
    rw [e2, e6]
    simp only [CanD, Adj, Int.zero_emod, Int.zero_ediv]
    simp
    omega
  intro e
  rw [e] at this
  cases this
def yR (p : Packed) (l : Layout) (rs : List (List PV)) : DRow := ⟨rows wireC p.ins, rows (blockC true) p.blocks, rows wireC p.out, ints p.drive, ints l.pos, rs⟩
theorem sl_ff (es : Nat) (xs : List (List PV)) : Sub (.sl true es xs) (.sl false es xs) := .slp _ _ _ _ (fun h => by cases h)
theorem badS {g : Grid} {p : Packed} {l : Layout} {rs : List (List PV)} {R : List Route} (hs : SubR rs (rows (routeC false) R)) (hf : ¬ FitsF p g { l with routes := R }) (h1 : (l.pos.length : Int) ≤ 1000000) (h2 : (R.length : Int) ≤ 1000000) (h3 : ∀ r ∈ R, (r.nodes.length : Int) ≤ 1000000) : BadR g (yR p l rs) :=
  ⟨p, { l with routes := R }, Sub.aggL ⟨.refl _, .refl _, .refl _, .refl _, sl_ff _ _, sl_ff _ _,
    Sub.slR 5 (fun h => by cases h) (SubR.map _ _ _ fun r _ => ⟨sl_ff _ _, .refl _, .refl _, .refl _, .refl _, trivial⟩), sl_ff _ _, sl_ff _ _, sl_ff _ _, Sub.slR 3 (fun h => by cases h) hs, trivial⟩, hf, h1, h2, h3⟩
theorem rtSub (rs : List Route) : SubR (rows (routeC true) rs) (rows (routeC false) rs) := SubR.map _ _ _ fun r _ => ⟨.refl _, sl_ff _ _, sl_ff _ _, trivial⟩
theorem rows_app1 {α : Type} (f : α → List PV) (l : List α) (x : α) : rows f (l ++ [x]) = rows f l ++ [f x] := by simp [rows]
theorem badO {g : Grid} {p : Packed} {l : Layout} {o : List PV} {s : Route} (hs : SubL o (routeC false s)) (hf : ¬ FitsF p g { l with routes := l.routes ++ [s] }) (h1 : (l.pos.length : Int) ≤ 12) (h2 : (l.routes.length : Int) ≤ 5) (h3 : ∀ r ∈ l.routes, r.nodes.length ≤ 16) (h4 : s.nodes.length ≤ 16) : BadR g (yR p l (rows (routeC true) l.routes ++ [o])) :=
  badS (R := l.routes ++ [s]) (by rw [show rows (routeC false) (l.routes ++ [s]) = rows (routeC false) l.routes ++ [routeC false s] by simp [rows]]; exact subR_app (rtSub _) hs) hf (by omega) (by rw [List.length_append]; simp; omega)
    (fun r hr => by
      rw [List.mem_append, List.mem_singleton] at hr
      rcases hr with hr | rfl
      · have := h3 r hr; omega
      · omega)
set_option maxHeartbeats 8000000 in
set_option maxRecDepth 20000 in
theorem ref_routes (x : Raw31) (g : Grid) (hg : GOk g) (p : Packed) (l : Layout) (hd : DesOk g p l) (k0 k1 : Int) (hk1 : 0 ≤ k1 ∧ k1 ≤ 255) (bad : List DRow) (hb : ∀ r ∈ bad, BadR g r) (hl : bad.length ≤ 3) (q : Bool) (y1 y2 y3 : DRow) (A1 A2 A3 : Arr) (st : St)
    (hst : st.keepS [0, 216, 3, 5, 6, 7] = ⟨[(3, .ptr 3 0), (5, .bool true), (6, .ptr 6 0), (7, .view 29 0 bad.length)], [(2, raw31C false x), (3, [.sc (.int .u8 k0), .sc (.int .u8 k1)]), (6, desC true g p l)] ++ (bif q then [(9, dR g y1), (10, dR g y2), (11, dR g y3)] else []),
      [(29, ⟨11, 47, rows (dR g) bad⟩)] ++ (bif q then [(55, A1), (70, A2), (99, A3)] else []), []⟩) :
    awp (Env.of Try.prog) ac8p_r19 (retK [RV.tmp 4] fun v => Sub v (.bool true)) st := by
  obtain ⟨hf, n1, n2, n3⟩ := hd
  cases q <;> simp only [ac8p_r19, hst, List.cons_append, List.nil_append, List.append_nil, push_cast, reduceIte, Nat.reduceEqDiff, Nat.reduceAdd, Nat.reduceSub, Nat.reduceMul, Nat.reduceBEq, Nat.reduceLT, Nat.reduceLeDiff, reduceCtorEq, Int.reduceToNat, Int.reduceNeg]
  all_goals
    refine cond_dec (fun h => ?_) fun h => ?_
    · have u1 := Int.emod_lt_of_pos k1 (show 0 < (l.routes.length : Int) by omega)
      have u2 := Int.emod_nonneg k1 (show (l.routes.length : Int) ≠ 0 by omega)
      generalize k1 % (l.routes.length : Int) = i at *
      obtain ⟨n, rfl⟩ : ∃ n : Nat, i = n := ⟨i.toNat, by omega⟩
      have hn : n < l.routes.length := by omega
      rw [Int.toNat_natCast]
      obtain ⟨r, hrm, hrk⟩ : ∃ r, r ∈ l.routes ∧ l.routes.getD n default = r := ⟨l.routes[n], List.getElem_mem hn, by rw [List.getD_eq_getElem?_getD, List.getElem?_eq_getElem hn]; rfl⟩
      have hsh := hf.sh r hrm
      have hr0 := List.length_pos_iff.2 hsh.ne
      have hrl := hsh.len
      have hr16 := n3 r hrm
      rw [hrk]
      simp only [List.replicate_zero, List.replicate_one, List.length_nil, List.length_singleton, List.length_drop]
      repeat (refine And.intro (by omega) ?_)
      rw [show List.take (0 + r.nodes.length) ([] ++ r.nodes) = r.nodes from by rw [Nat.zero_add, List.nil_append, List.take_length], List.take_of_length_le (show (0 :: List.drop 1 r.frm).length ≤ 1 + (r.frm.length - 1) by simp; omega)]
      refine loop_of (fun m st => ∃ j : Nat, j ≤ 4 ∧ m = 4 - j ∧ ∃ bd : List DRow, (∀ y ∈ bd, BadR g y) ∧ bd.length = bad.length + j ∧ st = ⟨[(5, .bool true), (6, .ptr 6 0), (7, .view 29 0 bd.length), (12, .int n), (13, .ptr 13 0), (14, .view 135 0 4), (15, .int j)], [(6, desC true g p l), (13, routeC true r)],
        [(29, ⟨11, 47, rows (dR g) bd⟩), (135, ⟨3, 72, [[.int r.sig, .sl true 1 (ints r.nodes), .sl true 1 (ints r.frm)], [.int 0, .nil, .nil], [.int 0, .sl true 1 (ints [2]), .sl true 1 (ints [-1])], [.int 0, .sl true 1 (ints r.nodes), .sl true 1 (ints (0 :: List.drop 1 r.frm))]]⟩)], []⟩) 4 ?_ ?_
      · refine ⟨0, by omega, by omega, bad, hb, by omega, ?_⟩
        simp only [push_cast, reduceIte, Nat.reduceEqDiff, Nat.reduceAdd, Nat.reduceSub, Nat.reduceMul, Nat.reduceBEq, Nat.reduceLT, Nat.reduceLeDiff, reduceCtorEq, Int.reduceToNat, Int.reduceNeg]
      rintro m st ⟨j, hj, rfl, bd, hbd, hbl, rfl⟩
      by_cases h4 : j = 4
      · subst h4
        simp only [push_cast, reduceIte, Nat.reduceEqDiff, Nat.reduceAdd, Nat.reduceSub, Nat.reduceMul, Nat.reduceBEq, Nat.reduceLT, Nat.reduceLeDiff, reduceCtorEq, Int.reduceToNat, Int.reduceNeg]
        refine cond_dec (fun h => absurd h (by decide)) fun _ => ?_
        simp only [List.replicate_zero, List.replicate_one, List.length_nil, List.length_singleton, List.nil_append, Nat.zero_add, true_and]
        repeat (refine And.intro (by omega) ?_)
        rw [show r.nodes.getD 0 default = r.nodes.getD 0 0 from rfl, show List.take (r.nodes.length + 1) (r.nodes ++ [r.nodes.getD 0 0]) = r.nodes ++ [r.nodes.getD 0 0] from List.take_of_length_le (by simp), show List.take (r.frm.length + 1) (r.frm ++ [0]) = r.frm ++ [0] from List.take_of_length_le (by simp), List.take_of_length_le (by simp [rows])]
        obtain ⟨Y, hY⟩ : ∃ Y, Y = yR p l ((rows (routeC true) l.routes).set n [.int 0, .sl true 1 (ints (r.nodes ++ [r.nodes.getD 0 0])), .sl true 1 (ints (r.frm ++ [0]))]) := ⟨_, rfl⟩
        have hYL : bd.length + 1 = (bd ++ [Y]).length := by simp
        have hYR : rows (dR g) (bd ++ [Y]) = rows (dR g) bd ++ [dR g Y] := rows_app1 _ _ _
        have hYB : ∀ y ∈ bd ++ [Y], BadR g y := by
          intro y hy
          rw [List.mem_append, List.mem_singleton] at hy
          rcases hy with hy | rfl
          · exact hbd y hy
          · rw [hY]
            refine badS (R := l.routes.set n ⟨0, r.nodes ++ [r.nodes.getD 0 0], r.frm ++ [0]⟩) ?_ (bad_twice (r := r) hn rfl hsh.ne) (by omega) (by rw [List.length_set]; omega) fun t ht => ?_
            · rw [show rows (routeC false) (l.routes.set n ⟨0, r.nodes ++ [r.nodes.getD 0 0], r.frm ++ [0]⟩) = (rows (routeC false) l.routes).set n (routeC false ⟨0, r.nodes ++ [r.nodes.getD 0 0], r.frm ++ [0]⟩) from List.map_set]
              exact subR_set n (rtSub _) ⟨.refl _, sl_ff _ _, sl_ff _ _, trivial⟩
            · rcases List.mem_or_eq_of_mem_set ht with ht | rfl
              · have := n3 t ht; omega
              · simp; omega
        rw [hYL]
        refine ref_tailE g hg (bd ++ [Y]) hYB (by rw [← hYL]; omega) _ ⟨_, _, rfl, ?_⟩
        rw [hYR, hY]
        rfl
      · have hpo := hf.len
        obtain rfl | rfl | rfl | rfl : j = 0 ∨ j = 1 ∨ j = 2 ∨ j = 3 := by omega
        · simp only [List.getD_cons_zero, List.getD_cons_succ, List.replicate_zero, List.length_nil, List.nil_append, push_cast, reduceIte, Nat.reduceEqDiff, Nat.reduceAdd, Nat.reduceSub, Nat.reduceMul, Nat.reduceBEq, Nat.reduceLT, Nat.reduceLeDiff, reduceCtorEq, Int.reduceToNat, Int.reduceNeg]
          refine cond_dec (fun _ => ?_) fun h => absurd (by decide) h
          repeat (refine And.intro (by omega) ?_)
          refine ⟨_, ?_, 0 + 1, by omega, rfl, bd ++ [yR p l (rows (routeC true) l.routes ++ [[.int r.sig, .sl true 1 (ints r.nodes), .sl true 1 (ints r.frm)]])], ?_, ?_, ?_⟩
          · omega
          · intro y hy
            rw [List.mem_append, List.mem_singleton] at hy
            rcases hy with hy | rfl
            · exact hbd y hy
            · exact badO (s := r) ⟨.refl _, sl_ff _ _, sl_ff _ _, trivial⟩ (bad_again hrm hsh.ne) (by omega) (by omega) n3 (by first | omega | (simp; done) | (simp; omega))
          · simp only [List.length_append, List.length_singleton]; omega
          · rw [List.take_of_length_le (by simp [rows])]
            simp only [List.length_append, List.length_singleton, yR, rows_app1, push_cast, reduceIte, Nat.reduceEqDiff, Nat.reduceAdd, Nat.reduceSub, Nat.reduceMul, Nat.reduceBEq, Nat.reduceLT, Nat.reduceLeDiff, reduceCtorEq, Int.reduceToNat, Int.reduceNeg]
            try rfl
        · rw [show ((1 : Nat) : Int) = (1 : Int) from rfl]
          simp only [List.getD_cons_zero, List.getD_cons_succ, List.replicate_zero, List.length_nil, List.nil_append, push_cast, reduceIte, Nat.reduceEqDiff, Nat.reduceAdd, Nat.reduceSub, Nat.reduceMul, Nat.reduceBEq, Nat.reduceLT, Nat.reduceLeDiff, reduceCtorEq, Int.reduceToNat, Int.reduceNeg]
          refine cond_dec (fun _ => ?_) fun h => absurd (by decide) h
          repeat (refine And.intro (by omega) ?_)
          refine ⟨_, ?_, 1 + 1, by omega, rfl, bd ++ [yR p l (rows (routeC true) l.routes ++ [[.int 0, .nil, .nil]])], ?_, ?_, ?_⟩
          · omega
          · intro y hy
            rw [List.mem_append, List.mem_singleton] at hy
            rcases hy with hy | rfl
            · exact hbd y hy
            · exact badO (s := ⟨0, [], []⟩) ⟨.refl _, .nil _ _, .nil _ _, trivial⟩ (bad_route fun h => h.ne rfl) (by omega) (by omega) n3 (by first | omega | (simp; done) | (simp; omega))
          · simp only [List.length_append, List.length_singleton]; omega
          · rw [List.take_of_length_le (by simp [rows])]
            simp only [List.length_append, List.length_singleton, yR, rows_app1, push_cast, reduceIte, Nat.reduceEqDiff, Nat.reduceAdd, Nat.reduceSub, Nat.reduceMul, Nat.reduceBEq, Nat.reduceLT, Nat.reduceLeDiff, reduceCtorEq, Int.reduceToNat, Int.reduceNeg]
            try rfl
        · rw [show ((2 : Nat) : Int) = (2 : Int) from rfl]
          simp only [List.getD_cons_zero, List.getD_cons_succ, List.replicate_zero, List.length_nil, List.nil_append, push_cast, reduceIte, Nat.reduceEqDiff, Nat.reduceAdd, Nat.reduceSub, Nat.reduceMul, Nat.reduceBEq, Nat.reduceLT, Nat.reduceLeDiff, reduceCtorEq, Int.reduceToNat, Int.reduceNeg]
          refine cond_dec (fun _ => ?_) fun h => absurd (by decide) h
          repeat (refine And.intro (by omega) ?_)
          refine ⟨_, ?_, 2 + 1, by omega, rfl, bd ++ [yR p l (rows (routeC true) l.routes ++ [[.int 0, .sl true 1 (ints [2]), .sl true 1 (ints [-1])]])], ?_, ?_, ?_⟩
          · omega
          · intro y hy
            rw [List.mem_append, List.mem_singleton] at hy
            rcases hy with hy | rfl
            · exact hbd y hy
            · exact badO (s := ⟨0, [2], [-1]⟩) ⟨.refl _, sl_ff _ _, sl_ff _ _, trivial⟩ (bad_route fun h => pin2 hg h.src) (by omega) (by omega) n3 (by first | omega | (simp; done) | (simp; omega))
          · simp only [List.length_append, List.length_singleton]; omega
          · rw [List.take_of_length_le (by simp [rows])]
            simp only [List.length_append, List.length_singleton, yR, rows_app1, push_cast, reduceIte, Nat.reduceEqDiff, Nat.reduceAdd, Nat.reduceSub, Nat.reduceMul, Nat.reduceBEq, Nat.reduceLT, Nat.reduceLeDiff, reduceCtorEq, Int.reduceToNat, Int.reduceNeg]
            try rfl
        · rw [show ((3 : Nat) : Int) = (3 : Int) from rfl]
          simp only [List.getD_cons_zero, List.getD_cons_succ, List.replicate_zero, List.length_nil, List.nil_append, push_cast, reduceIte, Nat.reduceEqDiff, Nat.reduceAdd, Nat.reduceSub, Nat.reduceMul, Nat.reduceBEq, Nat.reduceLT, Nat.reduceLeDiff, reduceCtorEq, Int.reduceToNat, Int.reduceNeg]
          refine cond_dec (fun _ => ?_) fun h => absurd (by decide) h
          repeat (refine And.intro (by omega) ?_)
          refine ⟨_, ?_, 3 + 1, by omega, rfl, bd ++ [yR p l (rows (routeC true) l.routes ++ [[.int 0, .sl true 1 (ints r.nodes), .sl true 1 (ints (0 :: List.drop 1 r.frm))]])], ?_, ?_, ?_⟩
          · omega
          · intro y hy
            rw [List.mem_append, List.mem_singleton] at hy
            rcases hy with hy | rfl
            · exact hbd y hy
            · exact badO (s := ⟨0, r.nodes, 0 :: List.drop 1 r.frm⟩) ⟨.refl _, sl_ff _ _, sl_ff _ _, trivial⟩ (bad_route fun h => absurd h.frm (by simp)) (by omega) (by omega) n3 (by first | omega | (simp; done) | (simp; omega))
          · simp only [List.length_append, List.length_singleton]; omega
          · rw [List.take_of_length_le (by simp [rows])]
            simp only [List.length_append, List.length_singleton, yR, rows_app1, push_cast, reduceIte, Nat.reduceEqDiff, Nat.reduceAdd, Nat.reduceSub, Nat.reduceMul, Nat.reduceBEq, Nat.reduceLT, Nat.reduceLeDiff, reduceCtorEq, Int.reduceToNat, Int.reduceNeg]
            try rfl
    · exact ref_tailE g hg bad hb (by omega) _ ⟨_, _, rfl, rfl⟩
set_option maxHeartbeats 4000000 in
set_option maxRecDepth 20000 in
theorem refuses_ok (x : Raw31) (hx : x.By) (k0 k1 : Int) (hk0 : 0 ≤ k0 ∧ k0 ≤ 255) (hk1 : 0 ≤ k1 ∧ k1 ≤ 255) :
    FnEq Try.prog 8 [.agg (raw31C false x), .agg [.sc (.int .u8 k0), .sc (.int .u8 k1)]] (.bool true) := by
  have hd := made_des hx
  have hg := (gridM_ok x.g).1
  have hM := made31_ok x hx
  generalize packM x = p at *
  generalize layM x = l at *
  generalize gridM x.g = g at *
  have hd2 := hd
  obtain ⟨hf, n1, n2, n3⟩ := hd2
  have hE := encoded_ok p g hg l (by omega) (by omega) (fun r hr => by have := n3 r hr; omega)
  rw [encF_fit hg hf] at hE
  have hcl := encC_len p g l
  have hpl : l.pos.length = p.blocks.length := hf.len
  refine FnEq.of_awp Try.func8 ok8p (by show 2 ≤ _; decide) (by simp only [push_cast, reduceIte, Nat.reduceEqDiff, Nat.reduceAdd, Nat.reduceSub, Nat.reduceMul, Nat.reduceBEq, Nat.reduceLT, Nat.reduceLeDiff, reduceCtorEq, Int.reduceToNat, Int.reduceNeg] <;> first | exact fun _ _ => trivial | simp) ?_
  simp only [ac8p, rv8p, push_cast, reduceIte, Nat.reduceEqDiff, Nat.reduceAdd, Nat.reduceSub, Nat.reduceMul, Nat.reduceBEq, Nat.reduceLT, Nat.reduceLeDiff, reduceCtorEq, Int.reduceToNat, Int.reduceNeg]
  refine cal_eq examples_ok ?_
  simp only [push_cast, reduceIte, Nat.reduceEqDiff, Nat.reduceAdd, Nat.reduceSub, Nat.reduceMul, Nat.reduceBEq, Nat.reduceLT, Nat.reduceLeDiff, reduceCtorEq, Int.reduceToNat, Int.reduceNeg]
  refine cal_eq hM ?_
  simp only [push_cast, reduceIte, Nat.reduceEqDiff, Nat.reduceAdd, Nat.reduceSub, Nat.reduceMul, Nat.reduceBEq, Nat.reduceLT, Nat.reduceLeDiff, reduceCtorEq, Int.reduceToNat, Int.reduceNeg]
  refine cal_sub hE (by exact ⟨desC_sub g p l, trivial⟩) ?_
  simp only [push_cast, reduceIte, Nat.reduceEqDiff, Nat.reduceAdd, Nat.reduceSub, Nat.reduceMul, Nat.reduceBEq, Nat.reduceLT, Nat.reduceLeDiff, reduceCtorEq, Int.reduceToNat, Int.reduceNeg]
  refine cond_dec (fun h => absurd rfl h) fun _ => ?_
  refine cond_dec (fun h => ?_) fun h => ?_
  · have u1 := Int.emod_lt_of_pos k0 (show 0 < (l.pos.length : Int) by omega)
    have u2 := Int.emod_nonneg k0 (show (l.pos.length : Int) ≠ 0 by omega)
    generalize k0 % (l.pos.length : Int) = i at *
    obtain ⟨n, rfl⟩ : ∃ n : Nat, i = n := ⟨i.toNat, by omega⟩
    have hn : n < l.pos.length := by omega
    rw [Int.toNat_natCast]
    simp only [List.replicate_zero, List.replicate_one, List.length_nil, List.length_singleton, List.nil_append, Nat.zero_add, true_and]
    repeat (refine And.intro (by omega) ?_)
    rw [show l.pos.getD n default = l.pos.getD n 0 from rfl, show List.take (l.pos.length + 1) (l.pos ++ [l.pos.getD n 0]) = l.pos ++ [l.pos.getD n 0] from List.take_of_length_le (by simp), List.take_of_length_le (show (rows (blockC true) p.blocks ++ [_]).length ≤ p.blocks.length + 1 by simp [rows]), show List.take p.blocks.length ((rows (blockC true) p.blocks).set n [.nil, .int 0, .int 1, .int 1, .sc (.int .u64 0)]) = (rows (blockC true) p.blocks).set n [.nil, .int 0, .int 1, .int 1, .sc (.int .u64 0)] from List.take_of_length_le (by simp [rows])]
    refine ref_routes x g hg p l hd k0 k1 hk1 [⟨rows wireC p.ins, rows (blockC true) p.blocks ++ [blockC true (p.blocks.getD n default)], rows wireC p.out, ints p.drive, ints (l.pos ++ [l.pos.getD n 0]), rows (routeC true) l.routes⟩,
      ⟨rows wireC p.ins, (rows (blockC true) p.blocks).set n [.nil, .int 0, .int 1, .int 1, .sc (.int .u64 0)], rows wireC p.out, ints p.drive, ints l.pos, rows (routeC true) l.routes⟩,
      ⟨rows wireC p.ins, rows (blockC true) p.blocks, rows wireC p.out, ints p.drive, ints (l.pos.drop 1), rows (routeC true) l.routes⟩] ?_ (by simp) true ⟨rows wireC p.ins, rows (blockC true) p.blocks ++ [blockC true (p.blocks.getD n default)], rows wireC p.out, ints p.drive, ints (l.pos ++ [l.pos.getD n 0]), rows (routeC true) l.routes⟩
      ⟨rows wireC p.ins, (rows (blockC true) p.blocks).set n [.nil, .int 0, .int 1, .int 1, .sc (.int .u64 0)], rows wireC p.out, ints p.drive, ints l.pos, rows (routeC true) l.routes⟩
      ⟨rows wireC p.ins, rows (blockC true) p.blocks, rows wireC p.out, ints p.drive, ints (l.pos.drop 1), rows (routeC true) l.routes⟩ ?A1 ?A2 ?A3 _ ?hst
    case hst => rfl
    intro y hy
    simp only [List.mem_cons, List.not_mem_nil, or_false] at hy
    rcases hy with rfl | rfl | rfl
    · refine ⟨{ p with blocks := p.blocks ++ [p.blocks.getD n default] }, { l with pos := l.pos ++ [l.pos.getD n 0] }, ?_, bad_dup (p := p) hn, by rw [List.length_append]; simp; omega, by show (l.routes.length : Int) ≤ _; omega, fun t ht => by have := n3 t ht; omega⟩
      refine Sub.aggL ⟨.refl _, .refl _, .refl _, .refl _, sl_ff _ _, sl_ff _ _, ?_, sl_ff _ _, sl_ff _ _, sl_ff _ _, Sub.slR 3 (fun h => by cases h) (rtSub _), trivial⟩
      rw [← rows_app1]
      exact Sub.slR 5 (fun h => by cases h) (SubR.map _ _ _ fun r _ => ⟨sl_ff _ _, .refl _, .refl _, .refl _, .refl _, trivial⟩)
    · refine ⟨{ p with blocks := p.blocks.set n ⟨[], 0, 1, 1, 0⟩ }, l, ?_, bad_block hpl (by omega), by omega, by omega, fun t ht => by have := n3 t ht; omega⟩
      refine Sub.aggL ⟨.refl _, .refl _, .refl _, .refl _, sl_ff _ _, sl_ff _ _, ?_, sl_ff _ _, sl_ff _ _, sl_ff _ _, Sub.slR 3 (fun h => by cases h) (rtSub _), trivial⟩
      refine Sub.slR 5 (fun h => by cases h) ?_
      rw [show rows (blockC false) (p.blocks.set n ⟨[], 0, 1, 1, 0⟩) = (rows (blockC false) p.blocks).set n (blockC false ⟨[], 0, 1, 1, 0⟩) from List.map_set]
      exact subR_set n (SubR.map _ _ _ fun r _ => ⟨sl_ff _ _, .refl _, .refl _, .refl _, .refl _, trivial⟩) ⟨.nil _ _, .refl _, .refl _, .refl _, .refl _, trivial⟩
    · refine ⟨p, { l with pos := l.pos.drop 1 }, ?_, bad_len hpl (by omega), by rw [List.length_drop]; omega, by show (l.routes.length : Int) ≤ _; omega, fun t ht => by have := n3 t ht; omega⟩
      exact Sub.aggL ⟨.refl _, .refl _, .refl _, .refl _, sl_ff _ _, sl_ff _ _,
        Sub.slR 5 (fun h => by cases h) (SubR.map _ _ _ fun r _ => ⟨sl_ff _ _, .refl _, .refl _, .refl _, .refl _, trivial⟩), sl_ff _ _, sl_ff _ _, sl_ff _ _, Sub.slR 3 (fun h => by cases h) (rtSub _), trivial⟩
  · exact ref_routes x g hg p l hd k0 k1 hk1 [] (by simp) (by simp) false default default default ⟨0, 0, []⟩ ⟨0, 0, []⟩ ⟨0, 0, []⟩ _ rfl
end Go.Proofs.Ytledbjkolidhkaa
namespace Go.Proofs.Ytledbjkolidhkaa
open Go Go.ChangeShapes Go.WideShapes Go.ChangeAt Go.RowKit Go.Vc
theorem flat0 : flatOk Try.prog 9 28 raw31T = true := by kernel_rfl
theorem flat1 : flatOk Try.prog 9 84 (List.replicate 2 (.i .u8)) = true := by kernel_rfl
theorem Try.own : ownKnob Try.prog.godebug = none := by kernel_rfl
theorem Try.laidOut : laidOutB Try.prog = true := by kernel_rfl
theorem boolU : Try.prog.underlying 4 = some .bool := by kernel_rfl
theorem paramsT : Try.f8.params = #[28, 84] := by kernel_rfl
set_option maxRecDepth 100000 in
theorem refuses_lifted (os : Os) (started : os.Started) (H : Type) (enc : TypeId × Value → H) :
    ReturnsInHanded {} Try.checked os 8 .any (Rows.configRefusesSpec.pre6 enc Try.prog Try.f8 Rows.configRefusesRow.domain false) (Rows.configRefusesSpec.post enc Try.prog Try.f8 false true false false) := by
  refine returnsInHanded_of_change (C := Try.checked) Try.own started (by kernel_rfl) Try.func8
    (ChangeSpec.witness6 (enc := enc) (C := Try.checked) false ⟨#[], #[.agg #[.int .u8 0, .int .u8 0, .int .u8 0, .int .u8 0, .slice none 0 0, .slice none 0 0, .slice none 0 0], .agg #[.int .u8 0, .int .u8 0]], []⟩ 8 (by kernel_rfl) (by kernel_rfl) (by kernel_rfl) (by kernel_rfl)) ?_
  intro W base args ds gs before hval0 hW hcnd _
  have hval : ∀ (j : Nat) t v, Try.f8.params[j]? = some t → args[j]? = some v → Value.okWide Try.prog W .any base t v := hval0
  have hW' := hW
  obtain ⟨p, q, hA0, hV, rfl, hfz, hnd⟩ := hW
  have hA : DataW.TrodAll enc Try.prog W 0 (fun _ => true) true Try.f8.params.toList args.toList ds p := hA0
  rw [paramsT] at hA hval
  obtain ⟨v0, v1, d0, d1, p0, p1, rfl, rfl, rfl, h0, h1⟩ := trodAll_two hA
  obtain ⟨rfl, rfl⟩ := trodVars_none hV
  obtain ⟨a0, r0, t0⟩ := argTy flat0 (by kernel_rfl) (hval 0 _ v0 rfl rfl) h0
  obtain ⟨a1, r1, t1⟩ := argTy flat1 (by kernel_rfl) (hval 1 _ v1 rfl rfl) h1
  have hlt : ∀ x ∈ p0 ++ p1, x.block < W.heap.size := fun x hx => hW'.lt x (by simpa using hx)
  refine (zw_call (raw2_true refuses_ok r0 r1) rfl fun j cc hj => ?_).mono fun e W' ⟨he, hb⟩ => ?_
  · match j with
    | 0 => simp at hj; subst hj; exact t0
    | 1 => simp at hj; subst hj; exact t1
    | j + 2 => simp at hj
  · refine ⟨_, he, _, _, _, [], _, [], hW', ?_, trodAll_mk2 (Below.trod Try.laidOut (by kernel_rfl) (of_decide_eq_true (by kernel_rfl)) h0 hb fun x hx => hlt x (by simp [hx])) (Below.trod Try.laidOut (by kernel_rfl) (of_decide_eq_true (by kernel_rfl)) h1 hb fun x hx => hlt x (by simp [hx])), rfl, hb.frame _, fun h => by cases h⟩
    exact trodAll_mk1 (shut_bool boolU true)
theorem refuses_holds : Rows.ConfigRefusesSaid :=
  OpenClaim.holds_of_wide 8 Try.f8 rfl rfl rfl rfl rfl rfl rfl ⟨rfl, rfl, rfl, rfl, rfl⟩ rfl rfl rfl rfl rfl (by kernel_rfl) Try.func8 (by kernel_rfl)
    (of_decide_eq_true (by kernel_rfl)) (by unfold Func.isWrapper; first | (rw [if_pos (by decide +kernel)]; kernel_rfl) | (rw [if_neg (by decide +kernel)]; exact ⟨rfl, rfl⟩))
    (fun os started H enc _ => refuses_lifted os started H enc)
end Go.Proofs.Ytledbjkolidhkaa
