/- DA S R DB DC DD TxtG: lemmas -/
import Derived.Test.YtledbjkolidhkaaPart10
import Derived.Test.YtledbjkolidhkaaPart06
import Derived.Test.YtledbjkolidhkaaChecked
set_option linter.unusedSimpArgs false
set_option linter.unusedVariables false
open Nat (reduceEqDiff reduceAdd reduceSub reduceMul reduceLT reduceLeDiff)
open Int (reduceToNat reduceNeg)
namespace Go.Proofs.Ytledbjkolidhkaa
open Go Go.Vc Txt
theorem compactUpTo_ord (zs : List Int) (hs : zs.Pairwise (· <= ·)) : ∀ m,m <= zs.length -> (Go.Lib.compactUpTo zs.toArray m).Pairwise (· < ·) /\ ∀ x,x ∈ Go.Lib.compactUpTo zs.toArray m ↔ x ∈ zs.take m
 | 0,_ => by simp [Go.Lib.compactUpTo]
 | m + 1, hm => by
   obtain ⟨h1,h2⟩ := compactUpTo_ord zs hs m (by omega)
   have hlt : m < zs.length := by omega
   have hget : zs.toArray[m]! = zs[m] := by simp [hlt]
   have htk : zs.take (m + 1) = zs.take m ++ [zs[m]] := List.take_succ_eq_append_getElem hlt
   rw [Go.Lib.compactUpTo_succ,htk,hget]
   have hle : ∀ a b (ha : a < zs.length) (hb : b < zs.length),a <= b -> zs[a] <= zs[b] := fun a b ha hb hab => by
    by_cases e : a = b
    ·subst e; exact Int.le_refl _
    ·exact List.pairwise_iff_getElem.1 hs a b ha hb (by omega)
   by_cases hm0 : m = 0
   ·subst hm0
    rw [if_pos (Go.Lib.keeps_lt_one _ 0 (by omega))]
    simp [Go.Lib.compactUpTo]
   have hget2 : zs.toArray[m - 1]! = zs[m - 1] := by simp [show m - 1 < zs.length by omega]
   by_cases e : zs[m - 1] = zs[m]
   ·rw [if_neg (by rw [Go.Lib.keeps_neg (by omega) (by rw [hget,hget2,e])]; decide),List.append_nil]
    refine ⟨h1,fun x => ?_⟩
    rw [h2 x,List.mem_append,List.mem_singleton]
    refine ⟨.inl,fun h => h.elim _root_.id fun e2 => ?_⟩
    subst e2
    rw [<- e]
    exact List.mem_iff_getElem.2 ⟨m - 1,by simp; omega,by simp⟩
   ·rw [if_pos (Go.Lib.keeps_pos (by rw [hget,hget2]; exact Ne.symm e))]
    refine ⟨List.pairwise_append.2 ⟨h1,List.pairwise_singleton _ _,fun x hx y hy => ?_⟩,fun x => by rw [List.mem_append,List.mem_append,h2 x]⟩
    rw [List.mem_singleton] at hy
    subst hy
    have hx := (h2 x).1 hx
    obtain ⟨j,hj,rfl⟩ := List.getElem_of_mem hx
    have hj2 : j < m := by simp at hj; omega
    rw [List.getElem_take]
    have h3 := hle j (m - 1) (by omega) (by omega) (by omega)
    have h4 := hle (m - 1) m (by omega) hlt (by omega)
    omega
theorem sortF_ord (l : List Int) : (sortF l).Pairwise (· <= ·) := by
 have := List.pairwise_mergeSort (le := fun x y : Int => decide (x <= y)) (fun a b c h1 h2 => by simp at *; omega) (fun a b => by simp; omega) l
 exact this.imp fun h => by simpa using h
theorem sortF_mem (l : List Int) (x : Int) : x ∈ sortF l ↔ x ∈ l := List.mem_mergeSort
theorem compact_ord (l : List Int) : (Go.Lib.compact (sortF l)).Pairwise (· < ·) /\ ∀ x,x ∈ Go.Lib.compact (sortF l) ↔ x ∈ l := by
 obtain ⟨h1,h2⟩ := compactUpTo_ord (sortF l) (sortF_ord l) (sortF l).length (Nat.le_refl _)
 refine ⟨h1,fun x => ?_⟩
 rw [Go.Lib.compact,h2 x,List.take_length,sortF_mem]
theorem sortedF_ord (l : List Int) (b : Int) : (sortedF l b).Pairwise (· < ·) /\ ∀ x,x ∈ sortedF l b ↔ x ∈ l /\ x ≠ b := by
 obtain ⟨h1,h2⟩ := compact_ord l
 refine ⟨h1.filter _,fun x => ?_⟩
 rw [sortedF,delF,List.mem_filter,h2 x]
 simp
theorem driversF_ord (g : Grid) (n : Int) : (driversF g n).Pairwise (· < ·) := by
 rw [driversF]
 split
 ·exact (sortedF_ord _ _).1
 ·exact .nil
theorem driversF_mem (g : Grid) (n x : Int) : x ∈ driversF g n ↔ (descE g n).2 = 0 /\ x ∈ rawD g (descE g n).1 /\ x ≠ n := by
 rw [driversF]
 split
 ·rename_i h; rw [(sortedF_ord _ _).2]; simp [h]
 ·rename_i h; simp [h]
theorem rawD_len (g : Grid) (hg : GOk g) (s : Spot) : ((rawD g s).length : Int) <= 100000 := by
 have ht := hg.tracks
 have hal : ∀ x y,(allF g [] x y).length <= 256 := fun x y => by
  have := allN_len g x y [] g.tracks.toNat
  rw [allF]
  simp only [List.length_nil] at this
  omega
 rw [rawD]
 split
 ·split
  ·have := addF_len g (allF g [] s.x s.y) ⟨1,s.x,s.y - 1,0⟩
   have := hal s.x s.y
   omega
  ·have := hal s.x s.y; omega
 ·split
  ·have := hal (g.w - 1) s.y; omega
  ·split
   ·have h1 := endF_len g hg s [] s.x s.y
    have h2 := fun x y => endF_len g hg s (endF g s [] s.x s.y) x y
    simp only [List.length_nil] at h1
    have e : endsF g s [] = endsF2 g s (endF g s [] s.x s.y) := rfl
    rw [e,endsF2]
    split <;> split <;> first | omega | (have := h2 (s.x + 1) s.y; omega) | (have := h2 s.x (s.y + 1); omega)
   ·simp
theorem driversF_len (g : Grid) (hg : GOk g) (n : Int) : ((driversF g n).length : Int) <= 100000 := by
 rw [driversF]
 split
 ·rename_i h
  have h1 := rawD_len g hg (descE g n).1
  have h2 : (sortedF (rawD g (descE g n).1) n).length <= (rawD g (descE g n).1).length := by
   refine Nat.le_trans (List.length_filter_le _ _) (Nat.le_trans (Go.Lib.compact_length_le _) ?_)
   rw [sortF,List.length_mergeSort]; exact Nat.le_refl _
  omega
 ·simp
theorem foldO_take {α β : Type} {f : α -> β -> Option α} {a b : α} {l : List β} {k : Nat} {x : β} (hk : l[k]? = some x) (h : foldO f a (l.take k) = some b) : foldO f a (l.take (k + 1)) = f b x := by
 have : l.take (k + 1) = l.take k ++ [x] := by rw [List.take_add_one,hk]; rfl
 rw [this,foldO_append,h]
 simp only [Option.bind_some,foldO]
 cases f b x <;> rfl
theorem foldO_none {α β : Type} {f : α -> β -> Option α} {a : α} {l : List β} {k : Nat} (h : foldO f a (l.take k) = none) : foldO f a l = none := by
 rw [<- List.take_append_drop k l,foldO_append,h]; rfl
def seenM (l : List Int) : List (Value × PV) := l.map fun x => (.int .i64 x,.sc (.bool true))
theorem vEq_i64 (x y : Int) : vEq (.int .i64 x) (.int .i64 y) = decide (x = y) := by
 by_cases h : x = y <;> simp [vEq,h]
theorem mget_seen (x : Int) : ∀ l : List Int,mget (seenM l) (.int .i64 x) = if x ∈ l then some (.sc (.bool true)) else none
 | [] => rfl
 | y :: r => by
   show (if vEq (.int .i64 y) (.int .i64 x) = true then _ else mget (seenM r) _) = _
   rw [vEq_i64,mget_seen x r]
   by_cases h : y = x
   ·simp [h]
   ·simp [h,Ne.symm h]
theorem mput_seen (x : Int) : ∀ l : List Int,x ∉ l -> mput (seenM l) (.int .i64 x) (.sc (.bool true)) = seenM (l ++ [x])
 | [],_ => rfl
 | y :: r, h => by
   show (if vEq (.int .i64 y) (.int .i64 x) = true then _ else _ :: mput (seenM r) _ _) = _
   rw [vEq_i64,mput_seen x r (fun e => h (List.mem_cons_of_mem _ e))]
   have : ¬ y = x := fun e => h (by rw [e]; exact List.mem_cons_self)
   simp [this,seenM]
def rtB (g : Grid) (r : Route) : List (Nat × List PV) := [(6,[.nil,.nil,.nil,.nil]),(7,[.int 0]),(12,routeC false r),(19,wrC g)]
def rtS (l : Layout) (k : Nat) (r : Route) : List (Nat × PV) := [(6,.ptr 6 0),(7,.ptr 7 0),(8,.ptr 19 0),(12,.ptr 12 0),(46,.sl false 3 (rows (routeC false) l.routes)),(47,.int l.routes.length),(48,.int k),(52,.ptr 19 0),(53,.agg (routeC false r)),(60,.clo 55 [6,7])]
def rtM (seen : List Int) : List (Nat × Mp) := [(17,⟨.int .i64,seenM seen,none⟩)]
def onS (l : Layout) (k : Nat) (r : Route) (i : Nat) (node : Int) : List (Nat × PV) := rtS l k r ++ [(100,.ptr 19 0),(103,.ptr 103 0),(104,.int i),(105,.int node),(131,.sl false 1 (ints r.nodes)),(132,.int r.nodes.length),(133,.int i),(138,.ptr 19 0),(139,.int node)]
set_option maxRecDepth 20000 in
theorem once_ok (bad : Prop) (g : Grid) (hg : GOk g) (l : Layout) (k : Nat) (r : Route) (i : Nat) (c : Cfg) (hsl : c.sel.length = (countF g).toNat) (node : Int) (sn : List Int) (hbad : ¬ ((0 <= node /\ node <= (c.sel.length : Int) - 1) /\ node ∉ sn) -> bad) :
  FnX ⟨Try.prog,0,fun _ _ _ _ => False,panE bad⟩ 76 [.ptr 19 0,.int node] ⟨onS l k r i node,rtB g r ++ [(103,routeC false r)],encA c,rtM sn⟩
   (fun rv st' => rv = .tup [] /\ ((0 <= node /\ node <= (c.sel.length : Int) - 1) /\ node ∉ sn) /\ st' = ⟨onS l k r i node,rtB g r ++ [(103,routeC false r)],encA c,rtM (sn ++ [node])⟩) := by
 have h1 := hg.count
 simp only [onS,rtS,rtB,rtM,List.cons_append,List.nil_append,push_cast,reduceIte,reduceEqDiff,reduceAdd,reduceSub,reduceMul,Nat.reduceBEq,reduceLT,reduceLeDiff,reduceCtorEq,reduceToNat,reduceNeg]
 refine fnX_of 300 Try.func76 ok76_300 (by show 2 <= _; decide) rfl (Nat.zero_le _) (fun ch st h => panE_low (by decide) ch st h) ?_
 simp only [ac76_300,rv76_300,push_cast,reduceIte,reduceEqDiff,reduceAdd,reduceSub,reduceMul,Nat.reduceBEq,reduceLT,reduceLeDiff,reduceCtorEq,reduceToNat,reduceNeg]
 refine ⟨by omega,?_⟩
 refine cal_eq (within_ok _ _ _) ?_
 refine sB ?_
 have F : ∀ {st : St},bad -> (lk st.s 6 = some (.ptr 6 0) /\ lk st.s 7 = some (.ptr 7 0) /\ lk st.s 60 = some (.clo 55 [6,7])) -> lk st.b 6 = some [.nil,.nil,.nil,.nil] /\ lk st.b 7 = some [.int 0] -> panE bad unfitE st := fun h1 h2 h3 => ⟨⟨rfl,h1⟩,h2,h3⟩
 refine grd_dec rfl (fun e1 => ?_) fun e1 => ?_ <;> refine sB ?_
 rotate_left
 ·refine must_clx (fun _ => F (hbad fun h => e1 ?_) ⟨rfl,rfl,rfl⟩ ⟨rfl,rfl⟩) fun h => absurd h (by decide)
  omega
 have hmg : mlkT false (.sc (.bool false)) (mget (seenM sn) (.int .i64 node)) = .sc (.bool (decide (node ∈ sn))) := by
  rw [mget_seen]
  by_cases h : node ∈ sn <;> simp [h,mlkT]
 simp only [hmg,push_cast,reduceIte,reduceEqDiff,reduceAdd,reduceSub,reduceMul,Nat.reduceBEq,reduceLT,reduceLeDiff,reduceCtorEq,reduceToNat,reduceNeg]
 refine must_clx (fun e2 => F (hbad fun h => h.2 (by simpa using e2)) ⟨rfl,rfl,rfl⟩ ⟨rfl,rfl⟩) fun e2 => ?_
 have e2 : node ∉ sn := by simpa using e2
 simp only [mput_seen node sn e2,push_cast,reduceIte,reduceEqDiff,reduceAdd,reduceSub,reduceMul,Nat.reduceBEq,reduceLT,reduceLeDiff,reduceCtorEq,reduceToNat,reduceNeg]
 exact ⟨⟨by omega,by omega⟩,e2⟩
def rtL (l : Layout) (k : Nat) (r : Route) (i : Nat) : List (Nat × PV) := rtS l k r ++ [(100,.ptr 19 0),(103,.ptr 103 0),(131,.sl false 1 (ints r.nodes)),(132,.int r.nodes.length),(133,.int i)]
set_option maxHeartbeats 4000000 in
set_option maxRecDepth 20000 in
theorem route_q (bad : Prop) (g : Grid) (hg : GOk g) (l : Layout) (k : Nat) (c : Cfg) (hc : CfgOk g c) (seen : List Int) (r : Route) (hr : (r.nodes.length : Int) <= 1000000) (hbad : routeF g (c.sel, seen) r = none -> bad)
  {Q : PV -> St -> Prop} (hQ : ∀ a,routeF g (c.sel,seen) r = some a -> Q (.tup []) ⟨rtS l k r,rtB g r ++ [(103,routeC false r)],encA { c with sel := a.1 },rtM a.2⟩) : FnX ⟨Try.prog,0,fun _ _ _ _ => False,panE bad⟩ 58 [.ptr 19 0,.agg (routeC false r)] ⟨rtS l k r,rtB g r,encA c,rtM seen⟩ Q := by
 have h1 := hg.count
 have hcs := hc.sel
 simp only [rtS,rtB,rtM,List.cons_append,List.nil_append,push_cast,reduceIte,reduceEqDiff,reduceAdd,reduceSub,reduceMul,Nat.reduceBEq,reduceLT,reduceLeDiff,reduceCtorEq,reduceToNat,reduceNeg] at hQ ⊢
 refine fnX_of 100 Try.func58 ok58_100 (by show 2 <= _; decide) rfl (Nat.zero_le _) (fun ch st h => panE_low (by decide) ch st h) ?_
 simp only [ac58_100,rv58_100,push_cast,reduceIte,reduceEqDiff,reduceAdd,reduceSub,reduceMul,Nat.reduceBEq,reduceLT,reduceLeDiff,reduceCtorEq,reduceToNat,reduceNeg]
 have F : ∀ {st : St},bad -> (lk st.s 6 = some (.ptr 6 0) /\ lk st.s 7 = some (.ptr 7 0) /\ lk st.s 60 = some (.clo 55 [6,7])) -> lk st.b 6 = some [.nil,.nil,.nil,.nil] /\ lk st.b 7 = some [.int 0] -> panE bad unfitE st := fun h1 h2 h3 => ⟨⟨rfl,h1⟩,h2,h3⟩
 refine grd_dec rfl (fun e1 => ?_) fun e1 => ?_ <;> refine sB ?_
 rotate_left
 ·refine must_clx (fun _ => F (hbad ?_) ⟨rfl,rfl,rfl⟩ ⟨rfl,rfl⟩) fun h => absurd h (by decide)
  rw [routeF,if_neg (fun h => e1 ?_)]
  have := List.length_pos_iff.2 h.1
  omega
 refine grd_dec rfl (fun e2 => ?_) fun e2 => ?_ <;> refine sB ?_
 rotate_left
 ·refine must_clx (fun _ => F (hbad ?_) ⟨rfl,rfl,rfl⟩ ⟨rfl,rfl⟩) fun h => absurd h (by decide)
  rw [routeF,if_neg (fun h => e2 ?_)]
  omega
 refine ⟨by omega,by omega,?_⟩
 refine must_dec (fun e3 => F (hbad ?_) ⟨rfl,rfl,rfl⟩ ⟨rfl,rfl⟩) fun e3 => ?_
 ·rw [routeF,if_neg (fun h => e3 h.2.2)]
 have hne : r.nodes ≠ [] := fun e => by rw [e] at e1; simp at e1
 have hlen : r.frm.length = r.nodes.length := by omega
 have hif : routeF g (c.sel,seen) r = foldO (stepF g r) (c.sel,seen) (List.range r.nodes.length) := by rw [routeF,if_pos ⟨hne,hlen,e3⟩]
 rw [hif] at hbad
 simp only [hif] at hQ
 refine sB ?_
 refine loop_of (fun m st => ∃ (i : Nat) (a : List Int × List Int),i <= r.nodes.length /\ m = r.nodes.length - i /\ a.1.length = (countF g).toNat /\ foldO (stepF g r) (c.sel,seen) ((List.range r.nodes.length).take i) = some a /\
  st = ⟨rtL l k r i,rtB g r ++ [(103,routeC false r)],encA { c with sel := a.1 },rtM a.2⟩) r.nodes.length ?_ ?_
 ·refine ⟨0,(c.sel,seen),by omega,by omega,hcs,rfl,?_⟩
  simp only [rtL,rtS,rtB,rtM,List.cons_append,List.nil_append,push_cast,reduceIte,reduceEqDiff,reduceAdd,reduceSub,reduceMul,Nat.reduceBEq,reduceLT,reduceLeDiff,reduceCtorEq,reduceToNat,reduceNeg]
 rintro m st ⟨i,⟨sel,sn⟩,hi,rfl,hsl,hf,rfl⟩
 simp only at hsl hf
 simp only [rtL,rtS,rtB,rtM,List.cons_append,List.nil_append,push_cast,reduceIte,reduceEqDiff,reduceAdd,reduceSub,reduceMul,Nat.reduceBEq,reduceLT,reduceLeDiff,reduceCtorEq,reduceToNat,reduceNeg]
 refine cond_dec (fun h => ⟨by omega,by omega,?_⟩) fun h => ?_
 ·have hi' : i < r.nodes.length := by omega
  have hri : (List.range r.nodes.length)[i]? = some i := by simp [hi']
  have hstep := foldO_take hri hf
  have hbs : stepF g r (sel,sn) i = none -> bad := fun e => hbad (foldO_none (k := i + 1) (by rw [hstep]; exact e))
  have e0 : ∀ (l : List Int) (j : Nat),l.getD j default = l.getD j 0 := fun _ _ => rfl
  simp only [e0]
  simp only [stepF] at hstep hbs
  generalize hnd : r.nodes.getD i 0 = node at hstep hbs ⊢
  refine clx_of (once_ok bad g hg l k r i { c with sel := sel } hsl node sn (fun hn => hbs (if_neg hn))) ?_
  rintro rv st' ⟨rfl,hn,rfl⟩
  simp only [onS,rtS,rtB,rtM,List.cons_append,List.nil_append,push_cast,reduceIte,reduceEqDiff,reduceAdd,reduceSub,reduceMul,Nat.reduceBEq,reduceLT,reduceLeDiff,reduceCtorEq,reduceToNat,reduceNeg]
  simp only at hn
  have hsN : ∀ f x,stepN g (sel,sn) i node f x = _ := fun f x => if_pos hn
  simp only [hsN] at hstep hbs
  refine cal_sub (drivers_ok g hg node (by omega)) sC ?_
  refine sB ?_
  refine cond_dec (fun h0 => ?_) fun h0 => ?_
  ·have h0 : i = 0 := by omega
   rw [if_pos h0] at hstep hbs
   refine must_dec (fun hd => F (hbs (if_neg fun e => hd (by rw [e]; rfl))) ⟨rfl,rfl,rfl⟩ ⟨rfl,rfl⟩) fun hd => ?_
   have hd : driversF g node = [] := List.length_eq_zero_iff.1 (by omega)
   rw [if_pos hd] at hstep
   refine sB ?_
   refine ⟨by omega,_,?_,i + 1,(sel,sn ++ [node]),by omega,rfl,hsl,hstep,?_⟩
   ·omega
   ·simp only [rtL,rtS,rtB,rtM,List.cons_append,List.nil_append,push_cast,reduceIte,reduceEqDiff,reduceAdd,reduceSub,reduceMul,Nat.reduceBEq,reduceLT,reduceLeDiff,reduceCtorEq,reduceToNat,reduceNeg]
  ·have h0' : ¬ i = 0 := by omega
   simp only [if_neg h0'] at hstep hbs
   refine ⟨by omega,by omega,by omega,?_⟩
   refine cal_eq (within_ok _ _ _) ?_
   simp only [e0,push_cast,reduceIte,reduceEqDiff,reduceAdd,reduceSub,reduceMul,Nat.reduceBEq,reduceLT,reduceLeDiff,reduceCtorEq,reduceToNat,reduceNeg]
   generalize hfd : r.frm.getD i 0 = f at hstep hbs ⊢
   refine must_dec (fun hw => F (hbs (if_neg hw)) ⟨rfl,rfl,rfl⟩ ⟨rfl,rfl⟩) fun hw => ?_
   simp only [if_pos hw] at hstep hbs
   simp only [ac58_100_q10,e0,push_cast,reduceIte,reduceEqDiff,reduceAdd,reduceSub,reduceMul,Nat.reduceBEq,reduceLT,reduceLeDiff,reduceCtorEq,reduceToNat,reduceNeg]
   simp only [hfd]
   generalize r.nodes.getD f.toNat 0 = x at hstep hbs ⊢
   refine ⟨by omega,by omega,by omega,by omega,?_⟩
   have hdl := driversF_len g hg node
   refine cal_sub (bsearch_ok (driversF g node) x ((driversF_ord g node).imp fun h => Int.le_of_lt h) (by omega)) sC ?_
   refine sB ?_
   refine must_clx (fun e => F (hbs (if_neg (by simpa using e))) ⟨rfl,rfl,rfl⟩ ⟨rfl,rfl⟩) fun e => ?_
   rw [if_pos (by simpa using e)] at hstep
   have hcp : (driversF g node).countP (fun y => decide (y < x)) <= (driversF g node).length := List.countP_le_length
   refine sB ?_
   refine ⟨by omega,by omega,by omega,by omega,_,?_,i + 1,_,by omega,rfl,?_,hstep,?_⟩
   ·omega
   ·simpa using hsl
   ·simp only [rtL,rtS,rtB,rtM,List.cons_append,List.nil_append,push_cast,reduceIte,reduceEqDiff,reduceAdd,reduceSub,reduceMul,Nat.reduceBEq,reduceLT,reduceLeDiff,reduceCtorEq,reduceToNat,reduceNeg]
 ·rw [List.take_of_length_le (by simp; omega)] at hf
  exact hQ _ hf
theorem stepF_len {g : Grid} {r : Route} {a b : List Int × List Int} {i : Nat} (h : stepF g r a i = some b) : b.1.length = a.1.length := by
 unfold stepF stepN at h
 split at h <;> try cases h
 split at h <;> split at h <;> try cases h
 ·rfl
 ·split at h <;> cases h
  simp
theorem foldO_len {α β γ : Type} {f : α -> β -> Option α} {m : α -> γ} (hf : ∀ a x b,f a x = some b -> m b = m a) : ∀ (l : List β) (a b : α),foldO f a l = some b -> m b = m a
 | [],a,b,h => by cases h; rfl
 | x :: r, a, b, h => by
   simp only [foldO] at h
   cases e : f a x with
   | none => rw [e] at h; cases h
   | some c => rw [e] at h; exact (foldO_len hf r c b h).trans (hf a x c e)
theorem routeF_len {g : Grid} {r : Route} {a b : List Int × List Int} (h : routeF g a r = some b) : b.1.length = a.1.length := by
 unfold routeF at h
 split at h
 ·exact foldO_len (m := fun x => x.1.length) (fun a i b h => stepF_len h) _ _ _ h
 ·cases h
theorem route_ok (bad : Prop) (g : Grid) (hg : GOk g) (l : Layout) (k : Nat) (c : Cfg) (hc : CfgOk g c) (seen : List Int) (r : Route) (hr : (r.nodes.length : Int) <= 1000000) (hbad : routeF g (c.sel, seen) r = none -> bad) :
  FnX ⟨Try.prog,0,fun _ _ _ _ => False,panE bad⟩ 58 [.ptr 19 0,.agg (routeC false r)] ⟨rtS l k r,rtB g r,encA c,rtM seen⟩
   (fun rv st' => rv = .tup [] /\ ∃ a,routeF g (c.sel,seen) r = some a /\ st' = ⟨rtS l k r,rtB g r,encA { c with sel := a.1 },rtM a.2⟩) :=
 FnX.dropB 103 (route_q bad g hg l k c hc seen r hr hbad fun a h => ⟨rfl,a,h,rfl⟩)
theorem blockF_ok {g : Grid} {c c' : Cfg} {x : Block × Int} (hc : CfgOk g c) (h : blockF g c x = some c') : CfgOk g c' := by
 unfold blockF at h
 split at h <;> try cases h
 split at h <;> try cases h
 split at h <;> cases h
 have h1 := hc.sel
 have h2 := hc.mode
 have h3 := hc.tab
 have h4 := hc.ram
 unfold blockSet
 split
 ·exact ⟨h1,by simpa using h2,h3,by simpa using h4⟩
 ·split
  ·exact ⟨h1,by simpa using h2,by simpa using h3,by simpa using h4⟩
  ·exact ⟨h1,by simpa using h2,by simpa using h3,h4⟩
set_option maxHeartbeats 4000000 in
set_option maxRecDepth 20000 in
theorem encode_ok (p : Packed) (g : Grid) (hg : GOk g) (l : Layout) (hl : (l.pos.length : Int) <= 1000000) (hl2 : (l.routes.length : Int) <= 1000000) (hl3 : ∀ r ∈ l.routes,(r.nodes.length : Int) <= 1000000) : FnEq Try.prog 36 [.agg (packC false p),.agg (gridC false g),.agg (layC false l)] (encV (encF p g l)) := by
 refine FnOK.res (FnOK.mono (FnOK.of_dfr (post := fun x => Sub x (encV (encF p g l))) (ids := [6,7]) (pan := panE (encF p g l = (cfg0,350))) Try.func36 ok36 (by show 3 <= _; decide) (enc_pan id) ?_) fun _ hx => ⟨_,hx,by simp only [encV,push_cast,reduceIte,reduceEqDiff,reduceAdd,reduceSub,reduceMul,Nat.reduceBEq,reduceLT,reduceLeDiff,reduceCtorEq,reduceToNat,reduceNeg] <;> simp,rfl⟩)
 have e60 : Try.f36.ntmps = 60 := by kernel_rfl
 simp only [ac36,ac36b,List.map_cons,List.map_nil,e60,push_cast,reduceIte,reduceEqDiff,reduceAdd,reduceSub,reduceMul,Nat.reduceBEq,reduceLT,reduceLeDiff,reduceCtorEq,reduceToNat,reduceNeg]
 generalize hQ : Exit.thn _ _ _ = Q
 show allK _ xs36_2 7 [] _ _
 suffices hfin : Q ⟨[(3, .ptr 3 0), (4, .ptr 4 0), (5, .ptr 5 0), (6, .ptr 6 0), (7, .ptr 7 0), (8, .ptr 19 0), (14, .agg (gridC false g)), (15, .agg (gridC false g)), (16, .agg [.view 109 0 (countF g).toNat, .view 111 0 g.kind.length, .view 113 0 g.kind.length, .view 115 0 g.kind.length]),
   (17,.mp 17),(18,.agg (wrC g)),(19,.ptr 19 0),(60,.clo 55 [6,7])],encB p g l ++ [(19,wrC g)],encA (blankF g),[(17,⟨.int .i64,[],none⟩)]⟩ by
  repeat' (first
   | exact hfin
   | (with_reducible refine allK_nil ?_ ?_)
   | (refine (?_ : allDn _ _ = true); rfl)
   | (refine (?_ : allDn _ _ = false); rfl)
   | (refine (?_ : List.all _ _ = true); rfl)
   | (with_reducible refine allK_cons ?_ ?_ ?_; rotate_left 2; rw [xs36_2_all]; simp only [rdyB,List.contains_cons,List.contains_nil,List.all_cons,List.all_nil,Nat.reduceBEq,Bool.not_true,Bool.not_false,Bool.or_false,Bool.or_true,Bool.and_true,Bool.and_false,Bool.true_and,Bool.false_and,Bool.false_or,Bool.true_or,beq_self_eq_true,Bool.false_eq_true,true_implies,false_implies,true_and,and_true]; simp only [push_cast,reduceIte,reduceEqDiff,reduceAdd,reduceSub,reduceMul,Nat.reduceBEq,reduceLT,reduceLeDiff,reduceCtorEq,reduceToNat,reduceNeg])
   | (refine clm_eq (blankm_ok p g hg l false false) ?_; simp only [bSt,encB,List.cons_append,List.nil_append,push_cast,reduceIte,reduceEqDiff,reduceAdd,reduceSub,reduceMul,Nat.reduceBEq,reduceLT,reduceLeDiff,reduceCtorEq,reduceToNat,reduceNeg])
   | (refine clm_eq (blankm_ok p g hg l false true) ?_; simp only [bSt,encB,List.cons_append,List.nil_append,push_cast,reduceIte,reduceEqDiff,reduceAdd,reduceSub,reduceMul,Nat.reduceBEq,reduceLT,reduceLeDiff,reduceCtorEq,reduceToNat,reduceNeg])
   | (refine clm_eq (blankm_ok p g hg l true false) ?_; simp only [bSt,encB,List.cons_append,List.nil_append,push_cast,reduceIte,reduceEqDiff,reduceAdd,reduceSub,reduceMul,Nat.reduceBEq,reduceLT,reduceLeDiff,reduceCtorEq,reduceToNat,reduceNeg])
   | (refine clm_eq (blankm_ok p g hg l true true) ?_; simp only [bSt,encB,List.cons_append,List.nil_append,push_cast,reduceIte,reduceEqDiff,reduceAdd,reduceSub,reduceMul,Nat.reduceBEq,reduceLT,reduceLeDiff,reduceCtorEq,reduceToNat,reduceNeg])
   | (refine And.intro ?_ ?_))
 subst hQ
 simp only [encB,List.cons_append,List.nil_append,push_cast,reduceIte,reduceEqDiff,reduceAdd,reduceSub,reduceMul,Nat.reduceBEq,reduceLT,reduceLeDiff,reduceCtorEq,reduceToNat,reduceNeg]
 refine must_dec (fun h1 => ⟨⟨rfl,?_⟩,⟨rfl,rfl,rfl⟩,rfl,rfl⟩) fun h1 => ?_
 ·have h1 : ¬ l.pos.length = p.blocks.length := by omega
  rw [encF,encO,if_neg h1]
 have hlen : l.pos.length = p.blocks.length := by omega
 refine sB ?_
 refine loop_of (fun m st => ∃ (k : Nat) (c : Cfg),k <= l.pos.length /\ m = l.pos.length - k /\ CfgOk g c /\ foldO (blockF g) (blankF g) ((p.blocks.zip l.pos).take k) = some c /\ st = ⟨[(3,.ptr 3 0),(5,.ptr 5 0),(6,.ptr 6 0),(7,.ptr 7 0),(8,.ptr 19 0),(29,.sl false 1 (ints l.pos)),(30,.int l.pos.length),(31,.int k),(60,.clo 55 [6,7])],
  [(3,packC false p),(5,layC false l),(6,[.nil,.nil,.nil,.nil]),(7,[.int 0]),(19,wrC g)],encA c,[(17,⟨.int .i64,[],none⟩)]⟩) l.pos.length ?_ ?_
 ·refine ⟨0,blankF g,by omega,by omega,⟨by simp [blankF],by simp [blankF],by simp [blankF],by simp [blankF]⟩,rfl,?_⟩
  exact sC
 rintro m st ⟨k,c,hk,rfl,hc,hf,rfl⟩
 refine sB ?_
 refine cond_dec (fun h => ⟨by omega,by omega,?_⟩) fun h => ?_
 ·have hk' : k < l.pos.length := by omega
  have hz : (p.blocks.zip l.pos)[k]? = some (p.blocks.getD k default,l.pos.getD k default) := by
   rw [List.getElem?_eq_getElem (by simp; omega)]
   simp [show k < p.blocks.length by omega,hk']
  have hstep := foldO_take hz hf
  refine ⟨by omega,by omega,?_⟩
  refine clx_of (block_ok (encF p g l = (cfg0,350)) p g hg l k c hc (p.blocks.getD k default) (l.pos.getD k default) (fun hn => ?_)) ?_
  ·rw [encF,encO,if_pos hlen,foldO_none (k := k + 1) (by rw [hstep]; exact hn)]
   rfl
  rintro r st' ⟨rfl,c',hb,rfl⟩
  rw [hb] at hstep
  simp only [bkS,bkB,bkM,push_cast,reduceIte,reduceEqDiff,reduceAdd,reduceSub,reduceMul,Nat.reduceBEq,reduceLT,reduceLeDiff,reduceCtorEq,reduceToNat,reduceNeg]
  refine ⟨by omega,_,?_,k + 1,c',by omega,rfl,blockF_ok hc hb,hstep,?_⟩
  ·omega
  ·exact sC
 rw [List.take_of_length_le (by simp; omega)] at hf
 have hif : encO p g l = (foldO (routeF g) (c.sel,[]) l.routes).map fun a => { c with sel := a.1 } := by rw [encO,if_pos hlen,hf]; rfl
 refine loop_of (fun m st => ∃ (k : Nat) (a : List Int × List Int),k <= l.routes.length /\ m = l.routes.length - k /\ CfgOk g { c with sel := a.1 } /\ foldO (routeF g) (c.sel,[]) (l.routes.take k) = some a /\ st = ⟨[(6,.ptr 6 0),(7,.ptr 7 0),(8,.ptr 19 0),(46,.sl false 3 (rows (routeC false) l.routes)),(47,.int l.routes.length),(48,.int k),(60,.clo 55 [6,7])],
  [(6,[.nil,.nil,.nil,.nil]),(7,[.int 0]),(19,wrC g)],encA { c with sel := a.1 },rtM a.2⟩) l.routes.length ?_ ?_
 ·refine ⟨0,(c.sel,[]),by omega,by omega,hc,rfl,?_⟩
  simp only [rtM,push_cast,reduceIte,reduceEqDiff,reduceAdd,reduceSub,reduceMul,Nat.reduceBEq,reduceLT,reduceLeDiff,reduceCtorEq,reduceToNat,reduceNeg]
  rfl
 rintro m st ⟨k,a,hk,rfl,hca,hfr,rfl⟩
 simp only [rtM,push_cast,reduceIte,reduceEqDiff,reduceAdd,reduceSub,reduceMul,Nat.reduceBEq,reduceLT,reduceLeDiff,reduceCtorEq,reduceToNat,reduceNeg]
 refine cond_dec (fun h => ⟨by omega,by omega,?_⟩) fun h => ?_
 ·have hk' : k < l.routes.length := by omega
  have hz : l.routes[k]? = some (l.routes.getD k default) := by simp [hk']
  have hstep := foldO_take hz hfr
  refine clx_of (route_ok (encF p g l = (cfg0,350)) g hg l k { c with sel := a.1 } hca a.2 (l.routes.getD k default) (hl3 _ (List.mem_of_getElem? hz)) (fun hn => ?_)) ?_
  ·rw [encF,hif,foldO_none (k := k + 1) (by rw [hstep]; exact hn)]
   rfl
  rintro rv st' ⟨rfl,a',ha,rfl⟩
  have ha' : routeF g a (l.routes.getD k default) = some a' := ha
  rw [ha'] at hstep
  have hla := routeF_len ha'
  simp only [rtS,rtB,rtM,push_cast,reduceIte,reduceEqDiff,reduceAdd,reduceSub,reduceMul,Nat.reduceBEq,reduceLT,reduceLeDiff,reduceCtorEq,reduceToNat,reduceNeg]
  refine ⟨by omega,_,?_,k + 1,a',by omega,rfl,⟨hla.trans hca.sel,hc.mode,hc.tab,hc.ram⟩,hstep,?_⟩
  ·omega
  ·exact sC
 ·rw [List.take_of_length_le (by omega)] at hfr
  have hE : encF p g l = ({ c with sel := a.1 },0) := by rw [encF,hif,hfr]; rfl
  have h1 := hca.sel
  have h2 := hc.mode
  have h3 := hc.tab
  have h4 := hc.ram
  simp only at h1
  refine ⟨rfl,rfl,FnD.sub ⟨encP,_,_,_⟩ (FnD.mono clos0_ok ?_) (subL_lk (r := encP) ⟨rfl,rfl,trivial⟩) (fun i v hl => hl) (fun i v hl => hl) (fun i v hl => hl)⟩
  rintro st' rfl
  rw [hE]
  simp only [encP,encV,rv36,push_cast,reduceIte,reduceEqDiff,reduceAdd,reduceSub,reduceMul,Nat.reduceBEq,reduceLT,reduceLeDiff,reduceCtorEq,reduceToNat,reduceNeg]
  rw [List.take_of_length_le (by omega),List.take_of_length_le (by omega),List.take_of_length_le (by omega),List.take_of_length_le (by omega)]
  exact ⟨⟨fun _ _ => trivial,fun _ _ => trivial,fun _ _ => trivial,fun _ _ => trivial⟩,.refl _,.refl _,.refl _,.refl _⟩
def Rng (g : Grid) (n : Int) : Prop := 0 <= n /\ n < countF g
structure DOk (g : Grid) (d : Spot) : Prop where
 kind : 1 <= d.kind /\ d.kind <= 7
 pos : d.kind <= 5 -> (0 <= d.x /\ d.x < g.w) /\ (0 <= d.y /\ d.y < g.h)
 i0 : d.kind <= 2 -> d.i = 0
 i3 : d.kind = 3 -> 0 <= d.i /\ d.i < 4
 i4 : d.kind = 4 \/ d.kind = 5 -> 0 <= d.i /\ d.i < g.tracks
 k6 : d.kind = 6 -> d.x = -1 /\ d.y = d.i % g.h /\ 0 <= d.i /\ d.i < g.pads
 k7 : d.kind = 7 -> d.x = g.w /\ d.y = d.i % g.h /\ 0 <= d.i /\ d.i < g.pads
theorem desc_all {g : Grid} (hg : GOk g) {n : Int} (hn : Rng g n) : DOk g (descF g n) /\ nodeN g (descF g n) = n := by
 obtain ⟨n1,n2⟩ := hn
 have h1 := hg.each
 have h2 := hg.w
 have h3 := hg.h
 have h4 := hg.tracks
 have h5 := hg.pads
 have hc : countF g = allI g + 2 * g.pads := rfl
 rw [descF]
 split
 ·refine ⟨⟨by simp,fun h => by simp at h,fun h => by simp at h,fun h => by simp at h,fun h => by simp at h,fun h => by simp at h,fun _ => ⟨rfl,rfl,by simp only; omega,by simp only; omega⟩⟩,?_⟩
  simp only [nodeN]; simp; omega
 rename_i c1
 split
 ·refine ⟨⟨by simp,fun h => by simp at h,fun h => by simp at h,fun h => by simp at h,fun h => by simp at h,fun _ => ⟨rfl,rfl,by simp only; omega,by simp only; omega⟩,fun h => by simp at h⟩,?_⟩
  simp only [nodeN]; simp; omega
 rename_i c2
 have ha : n < g.w * g.h * eachI g := by unfold allI at c2; omega
 have hdm : eachI g * (n / eachI g) + n % eachI g = n := Int.mul_ediv_add_emod n (eachI g)
 have hm1 : 0 <= n % eachI g := Int.emod_nonneg _ (by omega)
 have hm2 : n % eachI g < eachI g := Int.emod_lt_of_pos _ (by omega)
 have he : eachI g = 6 + 2 * g.tracks := rfl
 have ht0 : 0 <= n / eachI g := Int.ediv_nonneg n1 (by omega)
 have ht1 : n / eachI g < g.w * g.h := Int.ediv_lt_of_lt_mul (by omega) ha
 dsimp only
 generalize n / eachI g = t at *
 generalize n % eachI g = i at *
 have hdm2 : g.w * (t / g.w) + t % g.w = t := Int.mul_ediv_add_emod t g.w
 have hx1 : 0 <= t % g.w := Int.emod_nonneg _ (by omega)
 have hx2 : t % g.w < g.w := Int.emod_lt_of_pos _ (by omega)
 have hy1 : 0 <= t / g.w := Int.ediv_nonneg ht0 (by omega)
 have hy2 : t / g.w < g.h := Int.ediv_lt_of_lt_mul (by omega) (by rw [Int.mul_comm]; exact ht1)
 have hb : (t / g.w * g.w + t % g.w) * eachI g + i = n := by rw [Int.mul_comm (t / g.w),hdm2,Int.mul_comm]; exact hdm
 generalize t % g.w = x at *
 generalize t / g.w = y at *
 have hbase : ∀ k j : Int,baseF g ⟨k,x,y,j⟩ + i = n := fun k j => hb
 split
 ·refine ⟨⟨by simp,fun _ => ⟨⟨hx1,hx2⟩,hy1,hy2⟩,fun h => by simp at h,fun h => by simp at h,fun _ => ⟨by simp only; omega,by simp only; omega⟩,fun h => by simp at h,fun h => by simp at h⟩,?_⟩
  have := hbase 5 (i - 6 - g.tracks)
  simp only [nodeN]; simp; omega
 split
 ·refine ⟨⟨by simp,fun _ => ⟨⟨hx1,hx2⟩,hy1,hy2⟩,fun h => by simp at h,fun h => by simp at h,fun _ => ⟨by simp only; omega,by simp only; omega⟩,fun h => by simp at h,fun h => by simp at h⟩,?_⟩
  have := hbase 4 (i - 6)
  simp only [nodeN]; simp; omega
 split
 ·refine ⟨⟨by simp,fun _ => ⟨⟨hx1,hx2⟩,hy1,hy2⟩,fun h => by simp at h,fun _ => ⟨by simp only; omega,by simp only; omega⟩,fun h => by simp at h,fun h => by simp at h,fun h => by simp at h⟩,?_⟩
  have := hbase 3 (i - 2)
  simp only [nodeN]; simp; omega
 split
 ·refine ⟨⟨by simp,fun _ => ⟨⟨hx1,hx2⟩,hy1,hy2⟩,fun _ => rfl,fun h => by simp at h,fun h => by simp at h,fun h => by simp at h,fun h => by simp at h⟩,?_⟩
  have := hbase 2 0
  simp only [nodeN]; simp; omega
 ·refine ⟨⟨by simp,fun _ => ⟨⟨hx1,hx2⟩,hy1,hy2⟩,fun _ => rfl,fun h => by simp at h,fun h => by simp at h,fun h => by simp at h,fun h => by simp at h⟩,?_⟩
  have := hbase 1 0
  simp only [nodeN]; simp; omega
theorem descE_rng {g : Grid} {n : Int} (h : Rng g n) : descE g n = (descF g n,0) := by
 unfold Rng at h
 rw [descE,if_neg (by omega)]
theorem descE_err {g : Grid} {n : Int} (h : (descE g n).2 = 0) : Rng g n := by
 unfold descE at h
 unfold Rng
 split at h
 ·cases h
 ·omega
theorem addF_mem {g : Grid} (hg : GOk g) (l : List Int) (s : Spot) (x : Int) : x ∈ addF g l s ↔ x ∈ l \/ (Rng g x /\ descF g x = s) := by
 have key : ∀ x,Rng g x -> descF g x = s -> nodeF g s = (x,0) := fun x hx e => by
  obtain ⟨_,h⟩ := desc_all hg hx
  rw [e] at h
  rw [nodeF,h,descE_rng hx,if_pos ⟨rfl,e⟩]
 rw [addF]
 split
 ·rename_i h
  rw [List.mem_append,List.mem_singleton]
  have h2 : (descE g (nodeN g s)).2 = 0 /\ (descE g (nodeN g s)).1 = s := by
   unfold nodeF at h
   split at h
   ·assumption
   ·cases h
  have h3 := descE_err h2.1
  have h4 : descF g (nodeN g s) = s := by rw [descE_rng h3] at h2; exact h2.2
  rw [key _ h3 h4]
  refine or_congr_right ⟨fun e => by subst e; exact ⟨h3,h4⟩,fun e => ?_⟩
  have := key x e.1 e.2
  rw [key _ h3 h4] at this
  cases this; rfl
 ·rename_i h
  refine ⟨.inl,fun e => e.elim id fun e => absurd ?_ h⟩
  rw [key x e.1 e.2]
def WireAt (g : Grid) (d : Spot) (x y : Int) : Prop := ¬ (x < 0 \/ g.w <= x \/ y < 0 \/ g.h <= y) /\ ((d.kind = 4 /\ d.y = y /\ (d.x = x \/ d.x = x - 1)) \/ (d.kind = 5 /\ d.x = x /\ (d.y = y \/ d.y = y - 1)))
theorem spot_ext (d : Spot) (k x y i : Int) : d = ⟨k,x,y,i⟩ ↔ d.kind = k /\ d.x = x /\ d.y = y /\ d.i = i := by
 obtain ⟨a,b,c,e⟩ := d
 simp
section
variable {g : Grid} (hg : GOk g)
include hg
theorem wiresF_mem (l : List Int) (x y t n : Int) : n ∈ wiresF g l x y t ↔ n ∈ l \/ (Rng g n /\ (descF g n).i = t /\ WireAt g (descF g n) x y) := by
 unfold wiresF WireAt
 split
 ·rename_i h
  simp [h]
 ·rename_i h
  simp only [addF_mem hg,spot_ext]
  generalize descF g n = d
  constructor
  ·rintro ((((h1 | ⟨r,h1⟩) | ⟨r,h1⟩) | ⟨r,h1⟩) | ⟨r,h1⟩)
   ·exact .inl h1
   all_goals exact .inr ⟨r,by omega,h,by omega⟩
  ·rintro (h1 | ⟨r,h1,_,h2⟩)
   ·exact .inl (.inl (.inl (.inl h1)))
   ·rcases h2 with ⟨a,b,c | c⟩ | ⟨a,b,c | c⟩
    ·exact .inl (.inl (.inl (.inr ⟨r,by omega⟩)))
    ·exact .inl (.inr ⟨r,by omega⟩)
    ·exact .inl (.inl (.inr ⟨r,by omega⟩))
    ·exact .inr ⟨r,by omega⟩
theorem allN_mem (x y n : Int) (l : List Int) : ∀ m : Nat,n ∈ allN g x y l m ↔ n ∈ l \/ (Rng g n /\ (0 <= (descF g n).i /\ (descF g n).i < m) /\ WireAt g (descF g n) x y)
 | 0 => by
   rw [allN]
   refine ⟨.inl,fun h => h.elim id fun h => ?_⟩
   have := h.2.1
   omega
 | m + 1 => by
   rw [allN,wiresF_mem hg,allN_mem x y n l m]
   constructor
   ·rintro ((h | ⟨r,h1,h2⟩) | ⟨r,h1,h2⟩)
    ·exact .inl h
    ·exact .inr ⟨r,by omega,h2⟩
    ·exact .inr ⟨r,by omega,h2⟩
   ·rintro (h | ⟨r,h1,h2⟩)
    ·exact .inl (.inl h)
    ·by_cases e : (descF g n).i = m
     ·exact .inr ⟨r,e,h2⟩
     ·exact .inl (.inr ⟨r,by omega,h2⟩)
theorem allF_mem (x y n : Int) : n ∈ allF g [] x y ↔ Rng g n /\ WireAt g (descF g n) x y := by
 have ht := hg.tracks
 rw [allF,allN_mem hg]
 constructor
 ·rintro (h | ⟨r,_,h⟩)
  ·cases h
  ·exact ⟨r,h⟩
 ·rintro ⟨r,h⟩
  have hd := (desc_all hg r).1.i4 (by unfold WireAt at h; omega)
  exact .inr ⟨r,by omega,h⟩
theorem padR_mem (y n : Int) : ∀ (f : Nat) (k : Int) (l : List Int),g.pads <= k + f -> (n ∈ padR g y f k l ↔ n ∈ l \/ (Rng g n /\ (descF g n).kind = 6 /\ (descF g n).x = -1 /\ (descF g n).y = y /\ k <= (descF g n).i /\ (descF g n).i < g.pads /\ ((descF g n).i - k) % g.h = 0))
 | 0, k, l, hf => by
   rw [padR]
   refine ⟨.inl,fun h => h.elim id fun h => ?_⟩
   omega
 | f + 1, k, l, hf => by
   have hh := hg.h
   rw [padR]
   split
   ·rename_i hk
    rw [padR_mem y n f (k + g.h) _ (by omega),addF_mem hg,spot_ext]
    generalize descF g n = d
    have e : (d.i - (k + g.h)) % g.h = (d.i - k) % g.h := by
     rw [show d.i - (k + g.h) = d.i - k - g.h by omega]
     exact Int.sub_emod_right (d.i - k) g.h
    rw [e]
    constructor
    ·rintro ((h | ⟨r,h⟩) | ⟨r,h⟩)
     ·exact .inl h
     ·refine .inr ⟨r,h.1,h.2.1,h.2.2.1,by omega,by omega,?_⟩
      rw [h.2.2.2]; simp
     ·exact .inr ⟨r,h.1,h.2.1,h.2.2.1,by omega,by omega,h.2.2.2.2.2⟩
    ·rintro (h | ⟨r,h1,h2,h3,h4,h5,h6⟩)
     ·exact .inl (.inl h)
     ·by_cases e2 : d.i = k
      ·exact .inl (.inr ⟨r,h1,h2,h3,e2⟩)
      ·refine .inr ⟨r,h1,h2,h3,?_,h5,h6⟩
       have := Int.emod_lt_of_pos (d.i - k) (show 0 < g.h by omega)
       by_cases e3 : d.i - k < g.h
       ·rw [Int.emod_eq_of_lt (by omega) e3] at h6; omega
       ·omega
   ·rename_i hk
    refine ⟨.inl,fun h => h.elim id fun h => ?_⟩
    omega
theorem padsF_mem (l : List Int) (y n : Int) (hy : 0 <= y /\ y < g.h) : n ∈ padsF g l y ↔ n ∈ l \/ (Rng g n /\ (descF g n).kind = 6 /\ (descF g n).y = y) := by
 have hp := hg.pads
 rw [padsF,padR_mem hg _ _ _ _ _ (by omega)]
 refine or_congr_right ⟨fun h => ⟨h.1,h.2.1,h.2.2.2.1⟩,fun ⟨r,h1,h2⟩ => ?_⟩
 obtain ⟨k1,k2,k3,k4⟩ := (desc_all hg r).1.k6 h1
 generalize descF g n = d at *
 have hh := hg.h
 have e := Int.mul_ediv_add_emod d.i g.h
 have hle : d.i % g.h <= d.i := by
  have := Int.ediv_nonneg k3 (show 0 <= g.h by omega)
  have := Int.mul_nonneg (show 0 <= g.h by omega) this
  omega
 refine ⟨r,h1,k1,h2,by omega,k4,?_⟩
 rw [show d.i - y = g.h * (d.i / g.h) by omega]
 exact Int.mul_emod_right _ _
theorem endF_mem (s : Spot) (l : List Int) (x y n : Int) (hy : 0 <= y /\ y < g.h) : n ∈ endF g s l x y ↔ n ∈ l \/ (Rng g n /\ (((descF g n).kind = 1 /\ (descF g n).x = x /\ (descF g n).y = y) \/ ((descF g n).kind = 2 /\ (descF g n).x = x /\ (descF g n).y = y) \/
  ((descF g n).i = s.i /\ WireAt g (descF g n) x y) \/ (x = 0 /\ (descF g n).kind = 6 /\ (descF g n).y = y))) := by
 have key : n ∈ wiresF g (addF g (addF g l ⟨1,x,y,0⟩) ⟨2,x,y,0⟩) x y s.i ↔ n ∈ l \/ (Rng g n /\ (((descF g n).kind = 1 /\ (descF g n).x = x /\ (descF g n).y = y) \/ ((descF g n).kind = 2 /\ (descF g n).x = x /\ (descF g n).y = y) \/
  ((descF g n).i = s.i /\ WireAt g (descF g n) x y))) := by
  rw [wiresF_mem hg,addF_mem hg,addF_mem hg,spot_ext,spot_ext]
  constructor
  ·rintro (((h | ⟨r,h⟩) | ⟨r,h⟩) | ⟨r,h⟩)
   ·exact .inl h
   ·exact .inr ⟨r,.inl ⟨h.1,h.2.1,h.2.2.1⟩⟩
   ·exact .inr ⟨r,.inr (.inl ⟨h.1,h.2.1,h.2.2.1⟩)⟩
   ·exact .inr ⟨r,.inr (.inr h)⟩
  ·rintro (h | ⟨r,h | h | h⟩)
   ·exact .inl (.inl (.inl h))
   ·exact .inl (.inl (.inr ⟨r,h.1,h.2.1,h.2.2,(desc_all hg r).1.i0 (by omega)⟩))
   ·exact .inl (.inr ⟨r,h.1,h.2.1,h.2.2,(desc_all hg r).1.i0 (by omega)⟩)
   ·exact .inr ⟨r,h⟩
 simp only [endF]
 split
 ·rename_i hx
  rw [padsF_mem hg _ _ _ hy,key]
  constructor
  ·rintro ((h | ⟨r,h | h | h⟩) | ⟨r,h⟩)
   ·exact .inl h
   ·exact .inr ⟨r,.inl h⟩
   ·exact .inr ⟨r,.inr (.inl h)⟩
   ·exact .inr ⟨r,.inr (.inr (.inl h))⟩
   ·exact .inr ⟨r,.inr (.inr (.inr ⟨hx,h⟩))⟩
  ·rintro (h | ⟨r,h | h | h | h⟩)
   ·exact .inl (.inl h)
   ·exact .inl (.inr ⟨r,.inl h⟩)
   ·exact .inl (.inr ⟨r,.inr (.inl h)⟩)
   ·exact .inl (.inr ⟨r,.inr (.inr h)⟩)
   ·exact .inr ⟨r,h.2⟩
 ·rename_i hx
  rw [key]
  constructor
  ·rintro (h | ⟨r,h | h | h⟩)
   ·exact .inl h
   ·exact .inr ⟨r,.inl h⟩
   ·exact .inr ⟨r,.inr (.inl h)⟩
   ·exact .inr ⟨r,.inr (.inr (.inl h))⟩
  ·rintro (h | ⟨r,h | h | h | h⟩)
   ·exact .inl h
   ·exact .inr ⟨r,.inl h⟩
   ·exact .inr ⟨r,.inr (.inl h)⟩
   ·exact .inr ⟨r,.inr (.inr h)⟩
   ·exact absurd h.1 hx
end
theorem adj_no {g : Grid} {w : Spot} {x y : Int} (h : w.kind ≠ 4) (h2 : w.kind ≠ 5) : ¬ Adj g w x y := by unfold Adj; omega
theorem adj_wire {g : Grid} {d : Spot} {x y : Int} : Adj g d x y ↔ WireAt g d x y := by
 obtain ⟨k,dx,dy,i⟩ := d
 simp only [Adj,WireAt]
 refine and_congr_right fun _ => ?_
 omega
def Can2 (g : Grid) (a b : Spot) : Prop := (a.kind = 1 /\ (Adj g b a.x a.y \/ (b.kind = 3 /\ b.i = 3 /\ b.x = a.x /\ b.y = a.y + 1))) \/ (a.kind = 2 /\ Adj g b a.x a.y) \/ (a.kind = 6 /\ Adj g b 0 a.y) \/
 ((a.kind = 4 \/ a.kind = 5) /\ (b.kind = 4 \/ b.kind = 5) /\ a ≠ b /\ a.i = b.i /\ Meet g a b) \/ ((a.kind = 4 \/ a.kind = 5) /\ b.kind = 3 /\ Adj g a b.x b.y) \/ ((a.kind = 4 \/ a.kind = 5) /\ b.kind = 7 /\ Adj g a (g.w - 1) b.y)
theorem canD_eq (g : Grid) (a b : Spot) : CanD g a b ↔ Can2 g a b := by
 unfold CanD Can2
 by_cases h1 : a.kind = 1
 ·simp [h1]
 by_cases h2 : a.kind = 2
 ·simp [h2]
 by_cases h6 : a.kind = 6
 ·simp [h6]
 by_cases h4 : a.kind = 4 \/ a.kind = 5
 ·rw [if_neg h1,if_neg h2,if_neg h6,if_pos h4]
  simp only [h1,h2,h6,h4,false_and,false_or,true_and]
  split
  ·rename_i hb
   have h3 : ¬ b.kind = 3 := by omega
   have h7 : ¬ b.kind = 7 := by omega
   simp [hb,h3,h7]
  ·rename_i hb
   simp [hb]
 ·rw [if_neg h1,if_neg h2,if_neg h6,if_neg h4]
  simp [h1,h2,h6,h4]
section
variable {g : Grid} (hg : GOk g)
include hg
theorem raw_pin (s : Spot) (hs : DOk g s) (k3 : s.kind = 3) (n : Int) (hn : Rng g n) : (n ∈ rawD g s /\ descF g n ≠ s) ↔ CanD g (descF g n) s := by
 have hd := (desc_all hg hn).1
 have e1 : n ∈ rawD g s ↔ WireAt g (descF g n) s.x s.y \/ (s.i = 3 /\ (descF g n).kind = 1 /\ (descF g n).x = s.x /\ (descF g n).y = s.y - 1) := by
  rw [rawD,if_pos k3]
  split
  ·rename_i h3
   rw [addF_mem hg,allF_mem hg,spot_ext]
   refine or_congr ⟨fun h => h.2,fun h => ⟨hn,h⟩⟩ ⟨fun h => ⟨h3,h.2.1,h.2.2.1,h.2.2.2.1⟩,fun h => ⟨hn,h.2.1,h.2.2.1,h.2.2.2,hd.i0 (by omega)⟩⟩
  ·rename_i h3
   rw [allF_mem hg]
   exact ⟨fun h => .inl h.2,fun h => h.elim (fun h => ⟨hn,h⟩) fun h => absurd h.1 h3⟩
 have n1 : ∀ x y,¬ Adj g s x y := fun x y => adj_no (by omega) (by omega)
 rw [e1,canD_eq,Can2]
 simp only [n1,adj_wire,k3,true_and,false_or,and_false,show ¬ ((3 : Int) = 4 \/ (3 : Int) = 5) by decide,show ¬ (3 : Int) = 7 by decide,false_and,or_false]
 generalize descF g n = d at *
 constructor
 ·rintro ⟨h | h,_⟩
  ·refine .inr ⟨?_,h⟩
   unfold WireAt at h; omega
  ·exact .inl ⟨h.2.1,h.1,h.2.2.1.symm,by omega⟩
 ·rintro (h | h)
  ·exact ⟨.inr ⟨h.2.1,h.1,h.2.2.1.symm,by omega⟩,fun e => by rw [e] at h; omega⟩
  ·exact ⟨.inl h.2,fun e => by rw [e] at h; omega⟩
theorem raw_out (s : Spot) (hs : DOk g s) (k7 : s.kind = 7) (n : Int) (hn : Rng g n) : (n ∈ rawD g s /\ descF g n ≠ s) ↔ CanD g (descF g n) s := by
 have e1 : n ∈ rawD g s ↔ WireAt g (descF g n) (g.w - 1) s.y := by
  rw [rawD,if_neg (by omega),if_pos k7,allF_mem hg]
  exact ⟨fun h => h.2,fun h => ⟨hn,h⟩⟩
 have n1 : ∀ x y,¬ Adj g s x y := fun x y => adj_no (by omega) (by omega)
 rw [e1,canD_eq,Can2]
 simp only [n1,adj_wire,k7,true_and,false_or,and_false,show ¬ ((7 : Int) = 4 \/ (7 : Int) = 5) by decide,show ¬ (7 : Int) = 3 by decide,false_and,or_false]
 generalize descF g n = d at *
 constructor
 ·rintro ⟨h,_⟩
  refine ⟨?_,h⟩
  unfold WireAt at h; omega
 ·rintro h
  exact ⟨h.2,fun e => by rw [e] at h; omega⟩
omit hg in
theorem raw_none (s : Spot) (k : s.kind = 1 \/ s.kind = 2 \/ s.kind = 6) (n : Int) : (n ∈ rawD g s /\ descF g n ≠ s) ↔ CanD g (descF g n) s := by
 have e1 : rawD g s = [] := by rw [rawD,if_neg (by omega),if_neg (by omega),if_neg (by omega)]
 have n1 : ∀ x y,¬ Adj g s x y := fun x y => adj_no (by omega) (by omega)
 rw [e1,canD_eq,Can2]
 simp only [n1,List.not_mem_nil,false_and,false_or,and_false,show ¬ (s.kind = 4 \/ s.kind = 5) by omega,show ¬ s.kind = 3 by omega,show ¬ s.kind = 7 by omega,or_false]
end
theorem meet_wire {g : Grid} (d s : Spot) (hs : s.kind = 4 \/ s.kind = 5) (hsx : (0 <= s.x /\ s.x < g.w) /\ (0 <= s.y /\ s.y < g.h)) (hdx : (0 <= d.x /\ d.x < g.w) /\ (0 <= d.y /\ d.y < g.h)) (hd : d.kind = 4 \/ d.kind = 5) :
  Meet g d s ↔ WireAt g d s.x s.y \/ (s.kind = 4 /\ s.x + 1 < g.w /\ WireAt g d (s.x + 1) s.y) \/ (s.kind = 5 /\ s.y + 1 < g.h /\ WireAt g d s.x (s.y + 1)) := by
 obtain ⟨k,x,y,i⟩ := d
 obtain ⟨k',x',y',i'⟩ := s
 simp only [Meet,Adj,WireAt] at *
 rcases hs with rfl | rfl <;> rcases hd with rfl | rfl <;> simp only [show ¬ (4 : Int) = 5 by decide,show ¬ (5 : Int) = 4 by decide,or_false,false_or,true_or,or_true,true_and,false_and] <;> omega
section
variable {g : Grid} (hg : GOk g)
include hg
theorem raw_wire (s : Spot) (hs : DOk g s) (k : s.kind = 4 \/ s.kind = 5) (n : Int) (hn : Rng g n) : (n ∈ rawD g s /\ descF g n ≠ s) ↔ CanD g (descF g n) s := by
 have hd := (desc_all hg hn).1
 obtain ⟨sx,sy⟩ := hs.pos (by omega)
 have hw := hg.w
 have hh := hg.h
 have e1 : n ∈ rawD g s ↔ n ∈ endsF2 g s (endF g s [] s.x s.y) := by
  rw [rawD,if_neg (by omega),if_neg (by omega),if_pos k]; rfl
 have hsk3 : ¬ s.kind = 3 := by omega
 have hsk7 : ¬ s.kind = 7 := by omega
 have hh0 : 0 < g.h := by omega
 let E : Int -> Int -> Prop := fun x y => ((descF g n).kind = 1 /\ (descF g n).x = x /\ (descF g n).y = y) \/ ((descF g n).kind = 2 /\ (descF g n).x = x /\ (descF g n).y = y) \/ ((descF g n).i = s.i /\ WireAt g (descF g n) x y) \/ (x = 0 /\ (descF g n).kind = 6 /\ (descF g n).y = y)
 have e2 : n ∈ endsF2 g s (endF g s [] s.x s.y) ↔ E s.x s.y \/ (s.kind = 4 /\ s.x + 1 < g.w /\ E (s.x + 1) s.y) \/ (s.kind = 5 /\ s.y + 1 < g.h /\ E s.x (s.y + 1)) := by
  have m1 : n ∈ endF g s [] s.x s.y ↔ E s.x s.y := by
   rw [endF_mem hg _ _ _ _ _ sy]
   simp only [List.not_mem_nil,false_or,hn,true_and]
   rfl
  rw [endsF2]
  split
  ·rename_i k4
   have h5 : ¬ s.kind = 5 := by omega
   simp only [k4,show ¬ (4 : Int) = 5 by decide,false_and,or_false,true_and]
   split
   ·rename_i hh2
    rw [endF_mem hg _ _ _ _ _ sy,m1]
    exact or_congr_right ⟨fun h => ⟨hh2.1,h.2⟩,fun h => ⟨hn,h.2⟩⟩
   ·rename_i hh2
    rw [m1]
    exact ⟨.inl,fun h => h.elim _root_.id fun h => absurd ⟨h.1,sy.2⟩ hh2⟩
  ·rename_i k4
   have h5 : s.kind = 5 := by omega
   simp only [h5,show ¬ (5 : Int) = 4 by decide,false_and,false_or,true_and]
   split
   ·rename_i hh2
    rw [endF_mem hg _ _ _ _ _ (by omega),m1]
    exact or_congr_right ⟨fun h => ⟨hh2.2,h.2⟩,fun h => ⟨hn,h.2⟩⟩
   ·rename_i hh2
    rw [m1]
    exact ⟨.inl,fun h => h.elim _root_.id fun h => absurd ⟨sx.2,h.1⟩ hh2⟩
 rw [e1,e2,canD_eq,Can2]
 show ((((descF g n).kind = 1 /\ _ /\ _) \/ _) \/ _) /\ _ ↔ _
 have dpos := hd.pos
 have d6 := hd.k6
 have hmw := meet_wire (g := g) (descF g n) s k ⟨sx,sy⟩
 have dk := hd.kind
 have dy : (descF g n).kind = 6 -> 0 <= (descF g n).y /\ (descF g n).y < g.h := fun h => by
  obtain ⟨_,e,_⟩ := d6 h
  rw [e]
  exact ⟨Int.emod_nonneg _ (fun e => by rw [e] at hh0; exact absurd hh0 (by decide)),Int.emod_lt_of_pos _ hh0⟩
 simp only [E]
 clear e1 e2 E hs hd d6
 generalize descF g n = d at *
 have hne : ¬ (d.kind = 4 \/ d.kind = 5) -> d ≠ s := fun h e => by rw [e] at h; exact h k
 have hwn : ¬ (d.kind = 4 \/ d.kind = 5) -> ∀ x y,¬ WireAt g d x y := fun h x y hW => h (hW.2.elim (fun z => .inl z.1) fun z => .inr z.1)
 by_cases k45 : d.kind = 4 \/ d.kind = 5
 ·have m := hmw (dpos (by rcases k45 with h | h <;> rw [h] <;> decide)) k45
  have a1 : ¬ d.kind = 1 := fun e => by rw [e] at k45; exact absurd k45 (by decide)
  have a2 : ¬ d.kind = 2 := fun e => by rw [e] at k45; exact absurd k45 (by decide)
  have a6 : ¬ d.kind = 6 := fun e => by rw [e] at k45; exact absurd k45 (by decide)
  simp only [a1,a2,a6,hsk3,hsk7,k45,k,m,false_and,and_false,or_false,false_or,true_and]
  constructor
  ·rintro ⟨h | ⟨b,c,h⟩ | ⟨b,c,h⟩,h2⟩
   ·exact ⟨h2,h.1,.inl h.2⟩
   ·exact ⟨h2,h.1,.inr (.inl ⟨b,c,h.2⟩)⟩
   ·exact ⟨h2,h.1,.inr (.inr ⟨b,c,h.2⟩)⟩
  ·rintro ⟨h2,h1,h | ⟨b,c,h⟩ | ⟨b,c,h⟩⟩
   ·exact ⟨.inl ⟨h1,h⟩,h2⟩
   ·exact ⟨.inr (.inl ⟨b,c,h1,h⟩),h2⟩
   ·exact ⟨.inr (.inr ⟨b,c,h1,h⟩),h2⟩
 ·have hn2 := hne k45
  have hw2 := hwn k45
  clear hne hwn hmw
  simp only [hw2,hn2,k45,hsk3,hsk7,and_false,false_and,or_false,false_or,ne_eq,not_false_eq_true,and_true]
  by_cases a1 : d.kind = 1
  ·have dp := dpos (by rw [a1]; decide)
   clear dpos dy hw2
   simp only [a1,true_and,show ¬ (1 : Int) = 2 by decide,show ¬ (1 : Int) = 6 by decide,false_and,and_false,or_false,Adj,k,true_and]
   omega
  by_cases a2 : d.kind = 2
  ·have dp := dpos (by rw [a2]; decide)
   clear dpos dy hw2
   simp only [a2,true_and,show ¬ (2 : Int) = 1 by decide,show ¬ (2 : Int) = 6 by decide,false_and,and_false,or_false,false_or,Adj,k,true_and]
   omega
  by_cases a6 : d.kind = 6
  ·have dp := dy a6
   clear dpos dy hw2
   simp only [a6,true_and,show ¬ (6 : Int) = 1 by decide,show ¬ (6 : Int) = 2 by decide,false_and,and_false,or_false,false_or,and_true,Adj,k]
   omega
  ·simp only [a1,a2,a6,false_and,and_false,or_false]
theorem raw_can (s : Spot) (hs : DOk g s) (n : Int) (hn : Rng g n) : (n ∈ rawD g s /\ descF g n ≠ s) ↔ CanD g (descF g n) s := by
 have h1 := hs.kind
 by_cases k3 : s.kind = 3
 ·exact raw_pin hg s hs k3 n hn
 by_cases k7 : s.kind = 7
 ·exact raw_out hg s hs k7 n hn
 by_cases k4 : s.kind = 4 \/ s.kind = 5
 ·exact raw_wire hg s hs k4 n hn
 ·exact raw_none s (by omega) n
theorem raw_rng (s : Spot) (hs : DOk g s) (n : Int) (h : n ∈ rawD g s) : Rng g n := by
 have hE : ∀ (x y : Int) (l : List Int),(n ∈ l -> Rng g n) -> 0 <= y /\ y < g.h -> n ∈ endF g s l x y -> Rng g n := fun x y l hl hy hm => by
  rw [endF_mem hg _ _ _ _ _ hy] at hm
  exact hm.elim hl fun h => h.1
 rw [rawD] at h
 split at h
 ·split at h
  ·rw [addF_mem hg,allF_mem hg] at h
   exact h.elim (fun h => h.1) fun h => h.1
  ·rw [allF_mem hg] at h
   exact h.1
 ·split at h
  ·rw [allF_mem hg] at h
   exact h.1
  ·split at h
   ·rename_i k
    obtain ⟨sx,sy⟩ := hs.pos (by omega)
    have h0 := hE s.x s.y [] (fun h => by cases h) sy
    simp only [endsF] at h
    split at h
    ·split at h
     ·exact hE _ _ _ h0 sy h
     ·exact h0 h
    ·split at h
     ·exact hE _ _ _ h0 (by omega) h
     ·exact h0 h
   ·cases h
end
theorem pair_eq : ∀ {l1 l2 : List Int},l1.Pairwise (· < ·) -> l2.Pairwise (· < ·) -> (∀ x,x ∈ l1 ↔ x ∈ l2) -> l1 = l2
 | [],[],_,_,_ => rfl
 | [],y :: r,_,_,h => by have := (h y).2 List.mem_cons_self; cases this
 | x :: r,[],_,_,h => by have := (h x).1 List.mem_cons_self; cases this
 | x :: r, y :: s, h1, h2, h => by
   have e : x = y := by
    have a := (h x).1 List.mem_cons_self
    have b := (h y).2 List.mem_cons_self
    rcases List.mem_cons.1 a with a | a
    ·exact a
    rcases List.mem_cons.1 b with b | b
    ·exact b.symm
    have c := (List.pairwise_cons.1 h2).1 x a
    have d := (List.pairwise_cons.1 h1).1 y b
    omega
   subst e
   rw [pair_eq (List.pairwise_cons.1 h1).2 (List.pairwise_cons.1 h2).2 fun z => ⟨fun hz => ?_,fun hz => ?_⟩]
   ·have := (h z).1 (List.mem_cons_of_mem _ hz)
    rcases List.mem_cons.1 this with e | e
    ·subst e
     have := (List.pairwise_cons.1 h1).1 z hz
     omega
    ·exact e
   ·have := (h z).2 (List.mem_cons_of_mem _ hz)
    rcases List.mem_cons.1 this with e | e
    ·subst e
     have := (List.pairwise_cons.1 h2).1 z hz
     omega
    ·exact e
theorem candN_ord (g : Grid) (s : Spot) : ∀ k : Nat,(candN g s k).Pairwise (· < ·) /\ ∀ x,x ∈ candN g s k ↔ (0 <= x /\ x < k) /\ CanD g (descF g x) s
 | 0 => ⟨.nil,fun x => by simp [candN]; omega⟩
 | k + 1 => by
   obtain ⟨h1,h2⟩ := candN_ord g s k
   have hm : ∀ x,x ∈ candN g s (k + 1) ↔ (0 <= x /\ x < ((k + 1 : Nat) : Int)) /\ CanD g (descF g x) s := fun x => by
    rw [candN,List.mem_append,h2 x]
    split
    ·rename_i hc
     rw [List.mem_singleton]
     constructor
     ·rintro (h | h)
      ·exact ⟨by omega,h.2⟩
      ·subst h; exact ⟨by omega,hc⟩
     ·rintro ⟨h,h3⟩
      by_cases e : x = k
      ·exact .inr e
      ·exact .inl ⟨by omega,h3⟩
    ·rename_i hc
     simp only [List.not_mem_nil,or_false]
     constructor
     ·exact fun h => ⟨by omega,h.2⟩
     ·rintro ⟨h,h3⟩
      by_cases e : x = k
      ·subst e; exact absurd h3 hc
      ·exact ⟨by omega,h3⟩
   refine ⟨?_,hm⟩
   rw [candN]
   split
   ·refine List.pairwise_append.2 ⟨h1,List.pairwise_singleton _ _,fun x hx y hy => ?_⟩
    rw [List.mem_singleton] at hy
    have := ((h2 x).1 hx).1
    omega
   ·simpa using h1
theorem drivers_eq {g : Grid} (hg : GOk g) (n : Int) : driversF g n = rdrF g n := by
 have hc := hg.count
 rw [rdrF]
 split
 ·rename_i h
  have hr := descE_err h
  have he := descE_rng hr
  refine pair_eq (driversF_ord g n) (candN_ord g _ _).1 fun x => ?_
  rw [driversF_mem,(candN_ord g _ _).2 x,he]
  simp only [true_and]
  obtain ⟨hd,hN⟩ := desc_all hg hr
  constructor
  ·rintro ⟨h1,h2⟩
   have hx := raw_rng hg _ hd x h1
   refine ⟨by unfold Rng at hx; omega,(raw_can hg _ hd x hx).1 ⟨h1,fun e => h2 ?_⟩⟩
   rw [<- (desc_all hg hx).2,e,hN]
  ·rintro ⟨h1,h2⟩
   have hx : Rng g x := by unfold Rng; omega
   have := (raw_can hg _ hd x hx).2 h2
   exact ⟨this.1,fun e => this.2 (by rw [e])⟩
 ·rename_i h
  rw [driversF,if_neg h]
end Go.Proofs.Ytledbjkolidhkaa
namespace Go.Proofs.Ytledbjkolidhkaa.Txt
open Go Go.Vc
set_option maxRecDepth 100000
def ac13 : AC :=
 (.seq (.reg [0,18,0] [
 (aO 1 (.box (.t 0))),(aO 2 (.alc [.nil,.nil,.nil,.nil,zI]))])
 (.seq (.reg [0,18,1,2] [
 (aO 6 (.fa 5 (.t 1))),(aO 7 (.ld true 4 (.t 6))),(aO 8 (.fa 0 (.t 1))),(aO 9 (.ld true 5 (.t 8))),(aO 10 (.fa 9 (.t 1))),(aO 11 (.ld true 2 (.t 10))),(aO 12 (.cal 36 [(.t 7),(.t 9),(.t 11)])),(aO 5 (.mv (.t 12))),(aO 13 (.ext (.t 5) 0)),(aO 14 (.ext (.t 5) 1)),(aO 3 (.alc [.nil,.nil,.nil,.nil])),(aN (.sto 4 (.t 3) (.t 13))),(aO 4 (.mv (.t 14)))])
 (.seq (.reg [0,18,2,3,4] [
 (aO 15 (.ld true 4 (.t 3))),(aO 16 (.mv (.t 4))),(aO 17 (.bld [.nil,.nil,.nil,.nil,zI] [(0,4,(.t 15)),(4,1,(.t 16))])),(aN (.sto 5 (.t 2) (.t 17)))])
 .ret)))
def rv13 : List RV := [.cell 2 true 5]
theorem ok13 : fnOk Try.prog ac13 rv13 Try.f13 = true := by kernel_rfl

def ac15 : AC :=
 (.seq (.reg [0,31,0,1] [
 (aO 2 (.box (.t 0))),(aO 3 (.box (.t 1))),(aO 4 (.mv (.c (.sc (.bool false)))))])
 (.seq (.reg [0,31,2,3] [
 (aO 5 (.fa 0 (.t 2))),(aO 6 (.ld false 1 (.t 5))),(aO 7 (.fa 0 (.t 3))),(aO 8 (.ld false 1 (.t 7))),(aO 9 (.cal 25 [(.t 6),(.t 8)])),(aO 10 (.mv (.t 9))),⟨some 11,some (10,true),.fa 1 (.t 2)⟩,⟨some 12,some (10,true),.ld false 1 (.t 11)⟩,⟨some 13,some (10,true),.fa 1 (.t 3)⟩,⟨some 14,some (10,true),.ld false 1 (.t 13)⟩,⟨some 15,some (10,true),.cal 25 [(.t 12),(.t 14)]⟩,(aO 16 (.pick (.t 10) (.t 15) (.c (.sc (.bool false))))),(aO 17 (.mv (.t 16))),⟨some 18,some (17,true),.fa 2 (.t 2)⟩,⟨some 19,some (17,true),.ld false 1 (.t 18)⟩,⟨some 20,some (17,true),.fa 2 (.t 3)⟩,⟨some 21,some (17,true),.ld false 1 (.t 20)⟩,⟨some 22,some (17,true),.cal 25 [(.t 19),(.t 21)]⟩,(aO 23 (.pick (.t 17) (.t 22) (.c (.sc (.bool false))))),(aO 24 (.mv (.t 23))),⟨some 25,some (24,true),.fa 3 (.t 2)⟩,⟨some 26,some (24,true),.ld false 1 (.t 25)⟩,⟨some 27,some (24,true),.fa 3 (.t 3)⟩,⟨some 28,some (24,true),.ld false 1 (.t 27)⟩,⟨some 29,some (24,true),.cal 25 [(.t 26),(.t 28)]⟩,(aO 30 (.pick (.t 24) (.t 29) (.c (.sc (.bool false))))),(aO 4 (.mv (.t 30)))])
 .ret))
def rv15 : List RV := [.tmp 4]
theorem ok15 : fnOk Try.prog ac15 rv15 Try.f15 = true := by kernel_rfl

def ac19 : AC :=
 (.seq (.reg [0,82,0,1] [
 (aO 2 (.box (.t 0))),(aO 3 (.box (.t 1))),(aO 4 (.mv (kI 0)))])
 (.seq (.reg [0,82,2,3] [
 (aO 8 (.fa 0 (.t 2))),(aO 9 (.ld false 1 (.t 8))),(aO 10 (.fa 1 (.t 2))),(aO 11 (.ld false 1 (.t 10))),(aO 12 (.ari .mul true .i64 (.t 9) (.t 11))),(aO 5 (.mv (.t 12)))])
 (.seq (.seq (.drw [0,82,2,3,5] [
 (eT 13 (.fa 0 (.t 3))),(eT 14 (.ld false 1 (.t 13))),(eT 15 (.len (.t 14))),(eT 16 (.ld true 5 (.t 2))),(eT 17 (.cal 22 [(.t 16)])),(eF 18 (.cmp .neq .i64 (.t 15) (.t 17))),(eF 19 (.mv (.t 18))),⟨⟨some 20,some (19,false),.fa 1 (.t 3)⟩,[],[],true⟩,⟨⟨some 21,some (19,false),.ld false 1 (.t 20)⟩,[],[],true⟩,⟨⟨some 22,some (19,false),.len (.t 21)⟩,[],[],true⟩,⟨⟨some 23,some (19,false),.mv (.t 5)⟩,[],[],true⟩,⟨⟨some 24,some (19,false),.cmp .neq .i64 (.t 22) (.t 23)⟩,[],[],false⟩,(eF 25 (.pick (.t 19) (.c (.sc (.bool true))) (.t 24))),(eF 26 (.mv (.t 25))),⟨⟨some 27,some (26,false),.fa 2 (.t 3)⟩,[],[],true⟩,⟨⟨some 28,some (26,false),.ld false 1 (.t 27)⟩,[],[],true⟩,⟨⟨some 29,some (26,false),.len (.t 28)⟩,[],[],true⟩,⟨⟨some 30,some (26,false),.mv (.t 5)⟩,[],[],true⟩,⟨⟨some 31,some (26,false),.cmp .neq .i64 (.t 29) (.t 30)⟩,[],[],false⟩,(eF 32 (.pick (.t 26) (.c (.sc (.bool true))) (.t 31))),(eF 33 (.mv (.t 32))),⟨⟨some 34,some (33,false),.fa 3 (.t 3)⟩,[],[],true⟩,⟨⟨some 35,some (33,false),.ld false 1 (.t 34)⟩,[],[],true⟩,⟨⟨some 36,some (33,false),.len (.t 35)⟩,[],[],true⟩,⟨⟨some 37,some (33,false),.mv (.t 5)⟩,[],[],true⟩,⟨⟨some 38,some (33,false),.cmp .neq .i64 (.t 36) (.t 37)⟩,[],[],false⟩,(eF 39 (.pick (.t 33) (.c (.sc (.bool true))) (.t 38)))])
 (.cut [0,82,2,3,5,39] (.cond (.t 39)
 (.seq (.reg [0,82] [
 (aO 4 (.mv (kI 310)))])
 .ret)
 .skip)))
 (.seq (.seq (.reg [0,82,2,3,5] [
 (aO 6 (.mv (kI 0)))])
 (.block 0
 (.loop [0,82,2,3,5,6]
 (.seq (.seq (.reg [0,82,2,3,5,6] [
 (aO 40 (.mv (.t 6))),(aO 41 (.fa 0 (.t 3))),(aO 42 (.ld false 1 (.t 41))),(aO 43 (.len (.t 42))),(aO 44 (.cmp .lss .i64 (.t 40) (.t 43)))])
 (.cond (.t 44)
 .skip
 (.exit 0)))
 (.seq (.block 1
 (.seq (.drw [0,82,2,3,5,6] [
 (eT 47 (.fa 0 (.t 3))),(eT 48 (.ld false 1 (.t 47))),(eT 49 (.mv (.t 6))),(eF 50 (.ixs 1 (.t 48) (.t 49))),(eF 51 (.ld false 1 (.t 50))),(eF 52 (.cmp .neq .i64 (.t 51) (kI 0))),(eF 53 (.mv (.t 52))),⟨⟨some 54,some (53,true),.fa 0 (.t 3)⟩,[],[],true⟩,⟨⟨some 55,some (53,true),.ld false 1 (.t 54)⟩,[],[],true⟩,⟨⟨some 56,some (53,true),.mv (.t 6)⟩,[],[],true⟩,⟨⟨some 57,some (53,true),.ixs 1 (.t 55) (.t 56)⟩,[],[],false⟩,⟨⟨some 58,some (53,true),.ld false 1 (.t 57)⟩,[],[],false⟩,⟨⟨some 59,some (53,true),.cmp .lss .i64 (.t 58) (kI 0)⟩,[],[],false⟩,⟨⟨some 60,some (53,true),.mv (.t 59)⟩,[],[],false⟩,⟨⟨some 61,some (60,false),.fa 0 (.t 3)⟩,[],[],true⟩,⟨⟨some 62,some (60,false),.ld false 1 (.t 61)⟩,[],[],true⟩,⟨⟨some 63,some (60,false),.mv (.t 6)⟩,[],[],true⟩,⟨⟨some 64,some (60,false),.ixs 1 (.t 62) (.t 63)⟩,[],[],true⟩,⟨⟨some 65,some (60,false),.ld false 1 (.t 64)⟩,[],[],true⟩,⟨⟨some 66,some (60,false),.ld true 5 (.t 2)⟩,[],[],true⟩,⟨⟨some 67,some (60,false),.mv (.t 6)⟩,[],[],true⟩,⟨⟨some 68,some (60,false),.cal 39 [(.t 66),(.t 67)]⟩,[],[],true⟩,⟨⟨some 69,some (60,false),.cmp .gtr .i64 (.t 65) (.t 68)⟩,[],[],false⟩,⟨⟨some 70,some (53,true),.pick (.t 60) (.c (.sc (.bool true))) (.t 69)⟩,[],[],false⟩,(eF 71 (.pick (.t 53) (.t 70) (.c (.sc (.bool false)))))])
 (.cut [0,82,2,3,5,6,71] (.cond (.t 71)
 (.seq (.reg [0,82] [
 (aO 4 (.mv (kI 310)))])
 .ret)
 .skip))))
 (.reg [0,82,2,3,5,6] [
 (aO 45 (.mv (.t 6))),(aO 46 (.ari .add true .i64 (.t 45) (kI 1))),(aO 6 (.mv (.t 46)))]))))))
 (.seq (.seq (.reg [0,82,2,3,5] [
 (aO 7 (.mv (kI 0)))])
 (.block 2
 (.loop [0,82,2,3,5,7]
 (.seq (.seq (.reg [0,82,2,3,5,7] [
 (aO 72 (.mv (.t 7))),(aO 73 (.mv (.t 5))),(aO 74 (.cmp .lss .i64 (.t 72) (.t 73)))])
 (.cond (.t 74)
 .skip
 (.exit 2)))
 (.seq (.block 3
 (.seq (.reg [0,82,2,3,5,7] [
 (aO 77 (.ld true 5 (.t 2))),(aO 78 (.ld true 4 (.t 3))),(aO 79 (.mv (.t 7))),(aO 80 (.cal 44 [(.t 77),(.t 78),(.t 79)])),(aO 81 (.not (.t 80)))])
 (.cond (.t 81)
 (.seq (.reg [0,82] [
 (aO 4 (.mv (kI 310)))])
 .ret)
 .skip)))
 (.reg [0,82,2,3,5,7] [
 (aO 75 (.mv (.t 7))),(aO 76 (.ari .add true .i64 (.t 75) (kI 1))),(aO 7 (.mv (.t 76)))]))))))
 (.seq (.reg [0,82] [
 (aO 4 (.mv (kI 0)))])
 .ret))))))
def rv19 : List RV := [.tmp 4]
theorem ok19 : fnOk Try.prog ac19 rv19 Try.f19 = true := by kernel_rfl

def ac21 : AC :=
 (.seq (.reg [0,19,0] [
 (aO 1 (.box (.t 0))),(aO 2 (.alc [.nil,.nil,.nil,.nil]))])
 (.seq (.reg [0,19,1,2] [
 (aO 4 (.fa 0 (.t 1))),(aO 5 (.ld false 1 (.t 4))),(aO 6 (.fa 1 (.t 1))),(aO 7 (.ld false 1 (.t 6))),(aO 8 (.ari .mul true .i64 (.t 5) (.t 7))),(aO 3 (.mv (.t 8)))])
 (.seq (.drw [0,19,1,2,3] [
 (eU 9 (.ld true 5 (.t 1)) [] [13,15,17]),(eU 10 (.cal 22 [(.t 9)]) [] [13,15,17]),(eU 11 (.mks 1 3 8 [zI] (.t 10) (.t 10)) [11] [13,15,17]),(eU 12 (.mv (.t 3)) [] [11,15,17]),(eU 13 (.mks 1 3 8 [zI] (.t 12) (.t 12)) [13] [11,15,17]),(eU 14 (.mv (.t 3)) [] [11,13,17]),(eU 15 (.mks 1 3 8 [zI] (.t 14) (.t 14)) [15] [11,13,17]),(eU 16 (.mv (.t 3)) [] [11,13,15]),(eU 17 (.mks 1 3 8 [zI] (.t 16) (.t 16)) [17] [11,13,15]),(eF 18 (.bld [.nil,.nil,.nil,.nil] [(0,1,(.t 11)),(1,1,(.t 13)),(2,1,(.t 15)),(3,1,(.t 17))])),⟨(aN (.sto 4 (.t 2) (.t 18))),[],[],false⟩])
 .ret)))
def rv21 : List RV := [.cell 2 true 4]
theorem ok21 : fnOk Try.prog ac21 rv21 Try.f21 = true := by kernel_rfl

def ac23 : AC :=
 (.seq (.reg [0,19,0,1,2] [
 (aO 3 (.box (.t 0))),(aO 4 (.box (.t 1))),(aO 6 (.alc [zI,zI]))])
 (.seq (.reg [0,19,2,3,4,6] [
 (aO 10 (.ld true 5 (.t 3))),(aO 11 (.ld true 4 (.t 4))),(aO 12 (.mv (.t 2))),(aO 13 (.cal 46 [(.t 10),(.t 11),(.t 12)])),(aO 9 (.mv (.t 13))),(aO 14 (.ext (.t 9) 0)),(aO 15 (.ext (.t 9) 1)),(aO 7 (.mv (.t 14))),(aO 8 (.mv (.t 15)))])
 (.seq (.reg [0,19,6,7,8] [
 (aO 16 (.mv (.t 7))),(aO 17 (.mv (.t 8))),(aO 18 (.bld [zI,zI] [(0,1,(.t 16)),(1,1,(.t 17))])),(aN (.sto 2 (.t 6) (.t 18)))])
 .ret)))
def rv23 : List RV := [.cell 6 true 2]
theorem ok23 : fnOk Try.prog ac23 rv23 Try.f23 = true := by kernel_rfl

def ac24 : AC :=
 (.seq (.reg [0,49,0,1,2] [
 (aO 3 (.box (.t 0))),(aO 4 (.box (.t 1))),(aO 6 (.alc [zI,zI]))])
 (.seq (.seq (.reg [0,49,2,3,4,6] [
 (aO 9 (.mv (.t 2))),(aO 10 (.cmp .lss .i64 (.t 9) (kI 0))),(aO 11 (.mv (.t 10))),⟨some 12,some (11,false),.mv (.t 2)⟩,⟨some 13,some (11,false),.ld true 5 (.t 3)⟩,⟨some 14,some (11,false),.cal 22 [(.t 13)]⟩,⟨some 15,some (11,false),.cmp .geq .i64 (.t 12) (.t 14)⟩,(aO 16 (.pick (.t 11) (.c (.sc (.bool true))) (.t 15)))])
 (.cut [0,49,2,3,4,6,16] (.cond (.t 16)
 (.seq (.reg [0,49,6] [
 (aO 17 (.bld [zI,zI] [(1,1,(kI 4))])),(aN (.sto 2 (.t 6) (.t 17)))])
 .ret)
 .skip)))
 (.seq (.seq (.reg [0,49,2,3,4,6] [
 (aO 7 (.mv (kI 0)))])
 (.block 0
 (.loop [0,49,2,3,4,6,7]
 (.seq (.seq (.reg [0,49,2,3,4,6,7] [
 (aO 18 (.mv (.t 7))),(aO 19 (.ld true 5 (.t 3))),(aO 20 (.cal 22 [(.t 19)])),(aO 21 (.cmp .leq .i64 (.t 18) (.t 20)))])
 (.cond (.t 21)
 .skip
 (.exit 0)))
 (.seq (.block 1
 (.seq (.reg [0,49,2,3,4,6,7] [
 (aO 24 (.ld true 5 (.t 3))),(aO 25 (.mv (.t 2))),(aO 26 (.cal 31 [(.t 24),(.t 25)])),(aO 8 (.mv (.t 26)))])
 (.seq (.seq (.reg [0,49,2,3,4,6,7,8] [
 (aO 27 (.mv (.t 8))),(aO 28 (.len (.t 27))),(aO 29 (.cmp .eql .i64 (.t 28) (kI 0)))])
 (.cond (.t 29)
 (.seq (.reg [0,49,2,6] [
 (aO 30 (.mv (.t 2))),(aO 31 (.bld [zI,zI] [(0,1,(.t 30))])),(aN (.sto 2 (.t 6) (.t 31)))])
 .ret)
 .skip))
 (.seq (.seq (.reg [0,49,2,3,4,6,7,8] [
 (aO 32 (.fa 0 (.t 4))),(aO 33 (.ld false 1 (.t 32))),(aO 34 (.mv (.t 2))),(aO 35 (.ixs 1 (.t 33) (.t 34))),(aO 36 (.ld false 1 (.t 35))),(aO 37 (.cmp .eql .i64 (.t 36) (kI 0)))])
 (.cond (.t 37)
 (.seq (.reg [0,49,6] [
 (aO 38 (.bld [zI,zI] [(1,1,(kI 4))])),(aN (.sto 2 (.t 6) (.t 38)))])
 .ret)
 .skip))
 (.reg [0,49,2,3,4,6,7,8] [
 (aO 39 (.mv (.t 8))),(aO 40 (.fa 0 (.t 4))),(aO 41 (.ld false 1 (.t 40))),(aO 42 (.mv (.t 2))),(aO 43 (.ixs 1 (.t 41) (.t 42))),(aO 44 (.ld false 1 (.t 43))),(aO 45 (.ari .sub true .i64 (.t 44) (kI 1))),(aO 46 (.ixs 1 (.t 39) (.t 45))),(aO 47 (.ld false 1 (.t 46))),(aO 2 (.mv (.t 47)))])))))
 (.reg [0,49,2,3,4,6,7] [
 (aO 22 (.mv (.t 7))),(aO 23 (.ari .add true .i64 (.t 22) (kI 1))),(aO 7 (.mv (.t 23)))]))))))
 (.seq (.reg [0,49,6] [
 (aO 48 (.bld [zI,zI] [(1,1,(kI 50))])),(aN (.sto 2 (.t 6) (.t 48)))])
 .ret))))
def rv24 : List RV := [.cell 6 true 2]
theorem ok24 : fnOk Try.prog ac24 rv24 Try.f24 = true := by kernel_rfl

def ac27 : AC :=
 (.seq (.reg [0,26,0,1] [
 (aO 2 (.box (.t 0))),(aO 3 (.box (.t 1))),(aO 4 (.mv (.c (.nil))))])
 (.seq (.reg [0,26,3] [
 (aO 7 (.bsl 1 3 [zI] 0 [])),(aO 5 (.mv (.t 7)))])
 (.seq (.seq (.reg [0,26,3,5] [
 (aO 6 (.mv (kI 0)))])
 (.block 0
 (.loop [0,26,3,5,6]
 (.seq (.seq (.reg [0,26,3,5,6] [
 (aO 8 (.mv (.t 6))),(aO 9 (.fa 0 (.t 3))),(aO 10 (.ld false 1 (.t 9))),(aO 11 (.len (.t 10))),(aO 12 (.cmp .lss .i64 (.t 8) (.t 11)))])
 (.cond (.t 12)
 .skip
 (.exit 0)))
 (.seq (.block 1
 (.seq (.reg [0,26,3,5,6] [
 (aO 15 (.fa 0 (.t 3))),(aO 16 (.ld false 1 (.t 15))),(aO 17 (.mv (.t 6))),(aO 18 (.ixs 1 (.t 16) (.t 17))),(aO 19 (.ld false 1 (.t 18))),(aO 20 (.cmp .neq .i64 (.t 19) (kI 0)))])
 (.cond (.t 20)
 (.reg [0,26,3,5,6] [
 (aO 21 (.mv (.t 5))),(aO 22 (.mv (.t 6))),(aO 23 (.bsl 1 3 [zI] 1 [(0,(.t 22))])),(aO 24 (.app 1 3 8 (.t 21) (.t 23))),(aO 5 (.mv (.t 24)))])
 .skip)))
 (.reg [0,26,3,5,6] [
 (aO 13 (.mv (.t 6))),(aO 14 (.ari .add true .i64 (.t 13) (kI 1))),(aO 6 (.mv (.t 14)))]))))))
 (.seq (.reg [0,26,5] [
 (aO 25 (.mv (.t 5))),(aO 4 (.mv (.t 25)))])
 .ret))))
def rv27 : List RV := [.tmp 4]
theorem ok27 : fnOk Try.prog ac27 rv27 Try.f27 = true := by kernel_rfl

def ac28 : AC :=
 (.seq (.reg [0,16,0,1] [
 (aO 2 (.box (.t 0))),(aO 3 (.box (.t 1))),(aO 4 (.alc [.nil,.nil]))])
 (.seq (.reg [0,16,2,3,4] [
 (aO 8 (.ld true 4 (.t 2))),(aO 9 (.ld true 4 (.t 3))),(aO 10 (.cal 47 [(.t 8),(.t 9)])),(aO 7 (.mv (.t 10))),(aO 11 (.ext (.t 7) 0)),(aO 12 (.ext (.t 7) 1)),(aO 5 (.mv (.t 11))),(aO 6 (.mv (.t 12)))])
 (.seq (.reg [0,16,4,5,6] [
 (aO 13 (.mv (.t 5))),(aO 14 (.mv (.t 6))),(aO 15 (.bld [.nil,.nil] [(0,1,(.t 13)),(1,1,(.t 14))])),(aN (.sto 2 (.t 4) (.t 15)))])
 .ret)))
def rv28 : List RV := [.cell 4 true 2]
theorem ok28 : fnOk Try.prog ac28 rv28 Try.f28 = true := by kernel_rfl

def ac33 : AC :=
 (.seq (.reg [0,3] [
 (aO 0 (.alc [zI,zI,zI,zI,.nil]))])
 (.seq (.reg [0,3,0] [
 (aO 1 (.bsl 1 3 [zI] 2 [(0,(kI 1)),(1,(kI 2))])),(aO 2 (.bld [zI,zI,zI,zI,.nil] [(0,1,(kI 2)),(1,1,(kI 1)),(2,1,(kI 1)),(3,1,(kI 1)),(4,1,(.t 1))])),(aN (.sto 5 (.t 0) (.t 2)))])
 .ret))
def rv33 : List RV := [.cell 0 true 5]
theorem ok33 : fnOk Try.prog ac33 rv33 Try.f33 = true := by kernel_rfl

def ac34 : AC :=
 (.seq (.reg [0,103,0,1] [
 (aO 2 (.box (.t 0))),(aO 4 (.alc [zI,zI,zI,zI,.nil,.nil,.nil,.nil,.nil,.nil,.nil]))])
 (.seq (.seq (.reg [0,103,1,2,4] [
 (aO 5 (.mv (kI 0)))])
 (.block 0
 (.loop [0,103,1,2,4,5]
 (.seq (.seq (.reg [0,103,1,2,4,5] [
 (aO 8 (.mv (.t 5))),(aO 9 (.mv (.t 1))),(aO 10 (.len (.t 9))),(aO 11 (.cmp .lss .i64 (.t 8) (.t 10))),(aO 12 (.mv (.t 11))),⟨some 13,some (12,true),.mv (.t 5)⟩,⟨some 14,some (12,true),.cmp .lss .i64 (.t 13) (kI 12)⟩,(aO 15 (.pick (.t 12) (.t 14) (.c (.sc (.bool false)))))])
 (.cut [0,103,1,2,4,5,15] (.cond (.t 15)
 .skip
 (.exit 0))))
 (.seq (.block 1
 (.seq (.drw [0,103,1,2,4,5] [
 (eT 18 (.mv (.t 1))),(eT 19 (.mv (.t 5))),(eT 20 (.ixs 3 (.t 18) (.t 19))),(eT 21 (.ixa 3 1 (.t 20) (kI 0))),(eT 22 (.ld false 1 (.t 21))),(eT 23 (.cnv true .i64 (.t 22))),(eT 24 (.fa 0 (.t 2))),(eT 25 (.fa 0 (.t 24))),(eT 26 (.ld false 1 (.t 25))),(eT 27 (.fa 0 (.t 2))),(eT 28 (.fa 1 (.t 27))),(eT 29 (.ld false 1 (.t 28))),(eT 30 (.ari .mul true .i64 (.t 26) (.t 29))),(eF 31 (.dvd .rem true .i64 (.t 23) (.t 30))),(eF 6 (.mv (.t 31)))])
 (.seq (.drw [0,103,1,2,4,5,6] [
 (eU 32 (.mv (.t 1)) [] [7]),(eU 33 (.mv (.t 5)) [] [7]),(eU 34 (.ixs 3 (.t 32) (.t 33)) [] [7]),(eU 35 (.ixa 3 1 (.t 34) (kI 1)) [] [7]),(eU 36 (.ld false 1 (.t 35)) [] [7]),(eU 37 (.cnv true .i64 (.t 36)) [] [7]),(eU 38 (.ari .mul true .i64 (kI 256) (.t 37)) [] [7]),(eU 39 (.mv (.t 1)) [] [7]),(eU 40 (.mv (.t 5)) [] [7]),(eU 41 (.ixs 3 (.t 39) (.t 40)) [] [7]),(eU 42 (.ixa 3 1 (.t 41) (kI 2)) [] [7]),(eU 43 (.ld false 1 (.t 42)) [] [7]),(eU 44 (.cnv true .i64 (.t 43)) [] [7]),(eU 45 (.ari .add true .i64 (.t 38) (.t 44)) [] [7]),(eU 46 (.bld [.nil,zI,zI,zI,.sc (.int .u64 0)] [(1,1,(.t 45)),(2,1,(kI (-1))),(3,1,(kI (-1)))]) [] [7]),(eU 7 (.alc [.nil,zI,zI,zI,.sc (.int .u64 0)]) [7] []),⟨(aN (.sto 5 (.t 7) (.t 46))),[],[],false⟩])
 (.seq (.seq (.reg [0,103,1,2,4,5,6,7] [
 (aO 47 (.mv (.t 1))),(aO 48 (.mv (.t 5))),(aO 49 (.ixs 3 (.t 47) (.t 48))),(aO 50 (.ixa 3 1 (.t 49) (kI 1))),(aO 51 (.ld false 1 (.t 50))),(aO 52 (.dvd .rem true .u8 (.t 51) (.c (.sc (.int .u8 3)))))])
 (.block 2
 (.seq (.reg [0,103,1,2,4,5,6,7,52] [
 (aO 54 (.cmp .eql .u8 (.t 52) (.c (.sc (.int .u8 1))))),(aO 53 (.mv (.t 54)))])
 (.cond (.t 53)
 (.reg [0,103,1,2,4,5,6,7] [
 (aO 55 (.mv (.t 1))),(aO 56 (.mv (.t 5))),(aO 57 (.ixs 3 (.t 55) (.t 56))),(aO 58 (.ixa 3 1 (.t 57) (kI 2))),(aO 59 (.ld false 1 (.t 58))),(aO 60 (.dvd .rem true .u8 (.t 59) (.c (.sc (.int .u8 24))))),(aO 61 (.cnv true .i64 (.t 60))),(aO 62 (.fa 3 (.t 7))),(aN (.sto 1 (.t 62) (.t 61)))])
 (.seq (.reg [0,103,1,2,4,5,6,7,52] [
 (aO 64 (.cmp .eql .u8 (.t 52) (.c (.sc (.int .u8 2))))),(aO 63 (.mv (.t 64)))])
 (.cond (.t 63)
 (.reg [0,103,1,2,4,5,6,7] [
 (aO 65 (.mv (.t 1))),(aO 66 (.mv (.t 5))),(aO 67 (.ixs 3 (.t 65) (.t 66))),(aO 68 (.ixa 3 1 (.t 67) (kI 2))),(aO 69 (.ld false 1 (.t 68))),(aO 70 (.dvd .rem true .u8 (.t 69) (.c (.sc (.int .u8 16))))),(aO 71 (.cnv true .i64 (.t 70))),(aO 72 (.fa 2 (.t 7))),(aN (.sto 1 (.t 72) (.t 71)))])
 .skip))))))
 (.seq (.reg [0,103,1,2,4,5,6,7] [
 (aO 73 (.fa 9 (.t 2))),(aO 74 (.fa 0 (.t 73))),(aO 75 (.ld false 1 (.t 74))),(aO 76 (.mv (.t 6))),(aO 77 (.cal 38 [(.t 75),(.t 76)])),(aO 78 (.cmp .lss .i64 (.t 77) (kI 0))),(aO 79 (.mv (.t 78))),⟨some 80,some (79,true),.fa 0 (.t 2)⟩,⟨some 81,some (79,true),.ld true 5 (.t 80)⟩,⟨some 82,some (79,true),.ld true 5 (.t 7)⟩,⟨some 83,some (79,true),.mv (.t 6)⟩,⟨some 84,some (79,true),.cal 52 [(.t 81),(.t 82),(.t 83)]⟩,(aO 85 (.pick (.t 79) (.t 84) (.c (.sc (.bool false)))))])
 (.cut [0,103,1,2,4,5,6,7,85] (.cond (.t 85)
 (.seq (.reg [0,103,1,2,4,5,6,7] [
 (aO 86 (.fa 5 (.t 2))),(aO 87 (.fa 1 (.t 86))),(aO 88 (.ld false 1 (.t 87))),(aO 89 (.ld true 5 (.t 7))),(aO 90 (.bsl 5 76 [.nil,zI,zI,zI,.sc (.int .u64 0)] 1 [(0,(.t 89))])),(aO 91 (.app 5 76 56 (.t 88) (.t 90))),(aO 92 (.fa 5 (.t 2))),(aO 93 (.fa 1 (.t 92))),(aN (.sto 1 (.t 93) (.t 91)))])
 (.reg [0,103,1,2,4,5,6] [
 (aO 94 (.fa 9 (.t 2))),(aO 95 (.fa 0 (.t 94))),(aO 96 (.ld false 1 (.t 95))),(aO 97 (.mv (.t 6))),(aO 98 (.bsl 1 3 [zI] 1 [(0,(.t 97))])),(aO 99 (.app 1 3 8 (.t 96) (.t 98))),(aO 100 (.fa 9 (.t 2))),(aO 101 (.fa 0 (.t 100))),(aN (.sto 1 (.t 101) (.t 99)))]))
 .skip)))))))
 (.reg [0,103,1,2,4,5] [
 (aO 16 (.mv (.t 5))),(aO 17 (.ari .add true .i64 (.t 16) (kI 1))),(aO 5 (.mv (.t 17)))]))))))
 (.seq (.reg [0,103,2,4] [
 (aO 102 (.ld true 11 (.t 2))),(aN (.sto 11 (.t 4) (.t 102)))])
 .ret)))
def rv34 : List RV := [.cell 4 true 11]
theorem ok34 : fnOk Try.prog ac34 rv34 Try.f34 = true := by kernel_rfl

def ac35 : AC :=
 (.seq (.reg [0,120,0,1,2] [
 (aO 3 (.box (.t 0))),(aO 6 (.alc [zI,.nil,.nil]))])
 (.seq (.reg [0,120,1,2,3,6] [
 (aO 14 (.ld true 5 (.t 3))),(aO 15 (.cal 53 [(.t 14)])),(aO 7 (.mv (.t 15)))])
 (.seq (.reg [0,120,1,2,3,6,7] [
 (aO 16 (.bld [zI,.nil,.nil] [])),(aO 8 (.alc [zI,.nil,.nil])),(aN (.sto 3 (.t 8) (.t 16)))])
 (.seq (.seq (.reg [0,120,1,2,3,6,7,8] [
 (aO 9 (.mv (kI 0)))])
 (.block 0
 (.loop [0,120,1,2,3,6,7,8,9]
 (.seq (.seq (.reg [0,120,1,2,3,6,7,8,9] [
 (aO 17 (.mv (.t 9))),(aO 18 (.mv (.t 2))),(aO 19 (.len (.t 18))),(aO 20 (.cmp .lss .i64 (.t 17) (.t 19))),(aO 21 (.mv (.t 20))),⟨some 22,some (21,true),.mv (.t 9)⟩,⟨some 23,some (21,true),.cmp .lss .i64 (.t 22) (kI 16)⟩,(aO 24 (.pick (.t 21) (.t 23) (.c (.sc (.bool false)))))])
 (.cut [0,120,1,2,3,6,7,8,9,24] (.cond (.t 24)
 .skip
 (.exit 0))))
 (.seq (.block 1
 (.seq (.seq (.reg [0,120,1,2,3,6,7,8,9] [
 (aO 27 (.fa 1 (.t 8))),(aO 28 (.ld false 1 (.t 27))),(aO 29 (.len (.t 28))),(aO 30 (.cmp .eql .i64 (.t 29) (kI 0)))])
 (.cond (.t 30)
 (.seq (.reg [0,120,1,2,3,6,7,8,9] [
 (aO 31 (.mv (.t 7))),(aO 32 (.mv (.t 2))),(aO 33 (.mv (.t 9))),(aO 34 (.ixs 1 (.t 32) (.t 33))),(aO 35 (.ld false 1 (.t 34))),(aO 36 (.cnv true .i64 (.t 35))),(aO 37 (.mv (.t 7))),(aO 38 (.len (.t 37))),(aO 39 (.dvd .rem true .i64 (.t 36) (.t 38))),(aO 40 (.ixs 1 (.t 31) (.t 39))),(aO 41 (.ld false 1 (.t 40))),(aO 10 (.mv (.t 41)))])
 (.seq (.seq (.reg [0,120,1,2,3,6,7,8,9,10] [
 (aO 42 (.mv (.t 1))),(aO 43 (.mv (.t 10))),(aO 44 (.ixs 1 (.t 42) (.t 43))),(aO 45 (.ld false 1 (.t 44))),(aO 46 (.not (.t 45)))])
 (.cond (.t 46)
 (.seq (.reg [0,120,1,2,3,6,7,8,9,10] [
 (aO 47 (.fa 1 (.t 8))),(aO 48 (.ld false 1 (.t 47))),(aO 49 (.mv (.t 10))),(aO 50 (.bsl 1 3 [zI] 1 [(0,(.t 49))])),(aO 51 (.app 1 3 8 (.t 48) (.t 50))),(aO 52 (.fa 1 (.t 8))),(aN (.sto 1 (.t 52) (.t 51)))])
 (.reg [0,120,1,2,3,6,7,8,9] [
 (aO 53 (.fa 2 (.t 8))),(aO 54 (.ld false 1 (.t 53))),(aO 55 (.bsl 1 3 [zI] 1 [(0,(kI (-1)))])),(aO 56 (.app 1 3 8 (.t 54) (.t 55))),(aO 57 (.fa 2 (.t 8))),(aN (.sto 1 (.t 57) (.t 56)))]))
 .skip))
 (.exit 1)))
 .skip))
 (.seq (.drw [0,120,1,2,3,6,7,8,9] [
 (eT 58 (.fa 1 (.t 8))),(eT 59 (.ld false 1 (.t 58))),(eT 60 (.len (.t 59))),(eT 61 (.ari .sub true .i64 (.t 60) (kI 1))),(eT 62 (.mv (.t 2))),(eT 63 (.mv (.t 9))),(eT 64 (.ixs 1 (.t 62) (.t 63))),(eT 65 (.ld false 1 (.t 64))),(eT 66 (.dvd .quo true .u8 (.t 65) (.c (.sc (.int .u8 64))))),(eT 67 (.cnv true .i64 (.t 66))),(eT 68 (.fa 1 (.t 8))),(eT 69 (.ld false 1 (.t 68))),(eT 70 (.len (.t 69))),(eT 71 (.dvd .rem true .i64 (.t 67) (.t 70))),(eF 72 (.ari .sub true .i64 (.t 61) (.t 71))),(eF 11 (.mv (.t 72)))])
 (.seq (.drw [0,120,1,2,3,6,7,8,9,11] [
 (eT 73 (.ld true 5 (.t 3))),(eT 74 (.fa 1 (.t 8))),(eT 75 (.ld false 1 (.t 74))),(eT 76 (.mv (.t 11))),(eT 77 (.ixs 1 (.t 75) (.t 76))),(eT 78 (.ld false 1 (.t 77))),(eF 79 (.cal 54 [(.t 73),(.t 78)])),(eF 12 (.mv (.t 79)))])
 (.seq (.seq (.reg [0,120,1,2,3,6,7,8,9,11,12] [
 (aO 80 (.mv (.t 12))),(aO 81 (.len (.t 80))),(aO 82 (.cmp .eql .i64 (.t 81) (kI 0)))])
 (.cond (.t 82)
 (.exit 1)
 .skip))
 (.seq (.reg [0,120,1,2,3,6,7,8,9,11,12] [
 (aO 83 (.mv (.t 12))),(aO 84 (.mv (.t 2))),(aO 85 (.mv (.t 9))),(aO 86 (.ixs 1 (.t 84) (.t 85))),(aO 87 (.ld false 1 (.t 86))),(aO 88 (.dvd .rem true .u8 (.t 87) (.c (.sc (.int .u8 64))))),(aO 89 (.cnv true .i64 (.t 88))),(aO 90 (.mv (.t 12))),(aO 91 (.len (.t 90))),(aO 92 (.dvd .rem true .i64 (.t 89) (.t 91))),(aO 93 (.ixs 1 (.t 83) (.t 92))),(aO 94 (.ld false 1 (.t 93))),(aO 13 (.mv (.t 94)))])
 (.seq (.reg [0,120,1,2,3,6,7,8,9,11,13] [
 (aO 95 (.mv (.t 1))),(aO 96 (.mv (.t 13))),(aO 97 (.ixs 1 (.t 95) (.t 96))),(aO 98 (.ld false 1 (.t 97))),(aO 99 (.not (.t 98))),(aO 100 (.mv (.t 99))),⟨some 101,some (100,true),.fa 1 (.t 8)⟩,⟨some 102,some (100,true),.ld false 1 (.t 101)⟩,⟨some 103,some (100,true),.mv (.t 13)⟩,⟨some 104,some (100,true),.cal 38 [(.t 102),(.t 103)]⟩,⟨some 105,some (100,true),.cmp .lss .i64 (.t 104) (kI 0)⟩,(aO 106 (.pick (.t 100) (.t 105) (.c (.sc (.bool false)))))])
 (.cut [0,120,1,2,3,6,7,8,9,11,13,106] (.cond (.t 106)
 (.seq (.reg [0,120,1,2,3,6,7,8,9,11,13] [
 (aO 107 (.fa 1 (.t 8))),(aO 108 (.ld false 1 (.t 107))),(aO 109 (.mv (.t 13))),(aO 110 (.bsl 1 3 [zI] 1 [(0,(.t 109))])),(aO 111 (.app 1 3 8 (.t 108) (.t 110))),(aO 112 (.fa 1 (.t 8))),(aN (.sto 1 (.t 112) (.t 111)))])
 (.reg [0,120,1,2,3,6,7,8,9,11] [
 (aO 113 (.fa 2 (.t 8))),(aO 114 (.ld false 1 (.t 113))),(aO 115 (.mv (.t 11))),(aO 116 (.bsl 1 3 [zI] 1 [(0,(.t 115))])),(aO 117 (.app 1 3 8 (.t 114) (.t 116))),(aO 118 (.fa 2 (.t 8))),(aN (.sto 1 (.t 118) (.t 117)))]))
 .skip)))))))))
 (.reg [0,120,1,2,3,6,7,8,9] [
 (aO 25 (.mv (.t 9))),(aO 26 (.ari .add true .i64 (.t 25) (kI 1))),(aO 9 (.mv (.t 26)))]))))))
 (.seq (.reg [0,120,6,8] [
 (aO 119 (.ld true 3 (.t 8))),(aN (.sto 3 (.t 6) (.t 119)))])
 .ret)))))
def rv35 : List RV := [.cell 6 true 3]
theorem ok35 : fnOk Try.prog ac35 rv35 Try.f35 = true := by kernel_rfl

def ac38 : AC :=
 (.seq (.reg [0,19,0,1] [
 (aO 4 (.mv (kI 0)))])
 (.seq (.seq (.reg [0,19,0,1] [
 (aO 5 (.mv (kI 0)))])
 (.block 0
 (.loop [0,19,0,1,5]
 (.seq (.seq (.reg [0,19,0,1,5] [
 (aO 6 (.mv (.t 5))),(aO 7 (.mv (.t 0))),(aO 8 (.len (.t 7))),(aO 9 (.cmp .lss .i64 (.t 6) (.t 8)))])
 (.cond (.t 9)
 .skip
 (.exit 0)))
 (.seq (.block 1
 (.seq (.reg [0,19,0,1,5] [
 (aO 12 (.mv (.t 0))),(aO 13 (.mv (.t 5))),(aO 14 (.ixs 1 (.t 12) (.t 13))),(aO 15 (.ld false 1 (.t 14))),(aO 16 (.mv (.t 1))),(aO 17 (.cmp .eql .i64 (.t 15) (.t 16)))])
 (.cond (.t 17)
 (.seq (.reg [0,19,5] [
 (aO 18 (.mv (.t 5))),(aO 4 (.mv (.t 18)))])
 .ret)
 .skip)))
 (.reg [0,19,0,1,5] [
 (aO 10 (.mv (.t 5))),(aO 11 (.ari .add true .i64 (.t 10) (kI 1))),(aO 5 (.mv (.t 11)))]))))))
 (.seq (.reg [0,19] [
 (aO 4 (.mv (kI (-1))))])
 .ret)))
def rv38 : List RV := [.tmp 4]
theorem ok38 : fnOk Try.prog ac38 rv38 Try.f38 = true := by kernel_rfl

def ac44 : AC :=
 (.seq (.reg [0,109,0,1,2] [
 (aO 3 (.box (.t 0))),(aO 4 (.box (.t 1))),(aO 6 (.mv (.c (.sc (.bool false)))))])
 (.seq (.reg [0,109,2,3,4] [
 (aO 10 (.fa 1 (.t 4))),(aO 11 (.ld false 1 (.t 10))),(aO 12 (.mv (.t 2))),(aO 13 (.ixs 1 (.t 11) (.t 12))),(aO 14 (.ld false 1 (.t 13))),(aO 7 (.mv (.t 14)))])
 (.seq (.seq (.reg [0,109,2,3,4,7] [
 (aO 15 (.mv (.t 7))),(aO 16 (.cmp .lss .i64 (.t 15) (kI 0))),(aO 17 (.mv (.t 16))),⟨some 18,some (17,false),.mv (.t 7)⟩,⟨some 19,some (17,false),.cmp .gtr .i64 (.t 18) (kI 3)⟩,(aO 20 (.pick (.t 17) (.c (.sc (.bool true))) (.t 19))),(aO 21 (.mv (.t 20))),⟨some 22,some (21,false),.fa 4 (.t 3)⟩,⟨some 23,some (21,false),.ld false 1 (.t 22)⟩,⟨some 24,some (21,false),.mv (.t 2)⟩,⟨some 25,some (21,false),.ixs 1 (.t 23) (.t 24)⟩,⟨some 26,some (21,false),.ld false 1 (.t 25)⟩,⟨some 27,some (21,false),.cmp .eql .i64 (.t 26) (kI 0)⟩,⟨some 28,some (21,false),.mv (.t 27)⟩,⟨some 29,some (28,true),.mv (.t 7)⟩,⟨some 30,some (28,true),.cmp .neq .i64 (.t 29) (kI 0)⟩,⟨some 31,some (21,false),.pick (.t 28) (.t 30) (.c (.sc (.bool false)))⟩,(aO 32 (.pick (.t 21) (.c (.sc (.bool true))) (.t 31))),(aO 33 (.mv (.t 32))),⟨some 34,some (33,false),.fa 4 (.t 3)⟩,⟨some 35,some (33,false),.ld false 1 (.t 34)⟩,⟨some 36,some (33,false),.mv (.t 2)⟩,⟨some 37,some (33,false),.ixs 1 (.t 35) (.t 36)⟩,⟨some 38,some (33,false),.ld false 1 (.t 37)⟩,⟨some 39,some (33,false),.cmp .eql .i64 (.t 38) (kI 1)⟩,⟨some 40,some (33,false),.mv (.t 39)⟩,⟨some 41,some (40,true),.mv (.t 7)⟩,⟨some 42,some (40,true),.cmp .eql .i64 (.t 41) (kI 3)⟩,⟨some 43,some (33,false),.pick (.t 40) (.t 42) (.c (.sc (.bool false)))⟩,(aO 44 (.pick (.t 33) (.c (.sc (.bool true))) (.t 43)))])
 (.cut [0,109,2,4,7,44] (.cond (.t 44)
 (.seq (.reg [0,109] [
 (aO 6 (.mv (.c (.sc (.bool false)))))])
 .ret)
 .skip)))
 (.seq (.reg [0,109,2,4,7] [
 (aO 45 (.mv (.t 7))),(aO 46 (.cmp .eql .i64 (.t 45) (kI 1))),(aO 47 (.mv (.t 46))),⟨some 48,some (47,false),.mv (.t 7)⟩,⟨some 49,some (47,false),.cmp .eql .i64 (.t 48) (kI 2)⟩,(aO 50 (.pick (.t 47) (.c (.sc (.bool true))) (.t 49))),(aO 51 (.mv (.t 7))),(aO 52 (.cmp .eql .i64 (.t 51) (kI 2))),(aO 53 (.mv (.t 52))),⟨some 54,some (53,false),.mv (.t 7)⟩,⟨some 55,some (53,false),.cmp .eql .i64 (.t 54) (kI 3)⟩,(aO 56 (.pick (.t 53) (.c (.sc (.bool true))) (.t 55))),(aO 8 (.mv (.t 50))),(aO 9 (.mv (.t 56)))])
 (.cut [0,109,2,4,8,9] (.seq (.reg [0,109,2,4,8,9] [
 (aO 57 (.fa 2 (.t 4))),(aO 58 (.ld false 1 (.t 57))),(aO 59 (.mv (.t 2))),(aO 60 (.ixs 1 (.t 58) (.t 59))),(aO 61 (.ld false 1 (.t 60))),(aO 62 (.cmp .geq .i64 (.t 61) (kI 0))),(aO 63 (.mv (.t 62))),⟨some 64,some (63,true),.fa 2 (.t 4)⟩,⟨some 65,some (63,true),.ld false 1 (.t 64)⟩,⟨some 66,some (63,true),.mv (.t 2)⟩,⟨some 67,some (63,true),.ixs 1 (.t 65) (.t 66)⟩,⟨some 68,some (63,true),.ld false 1 (.t 67)⟩,⟨some 69,some (63,true),.cmp .leq .i64 (.t 68) (kI 65535)⟩,(aO 70 (.pick (.t 63) (.t 69) (.c (.sc (.bool false))))),(aO 71 (.mv (.t 70))),⟨some 72,some (71,true),.mv (.t 8)⟩,⟨some 73,some (71,true),.mv (.t 72)⟩,⟨some 74,some (73,false),.fa 2 (.t 4)⟩,⟨some 75,some (73,false),.ld false 1 (.t 74)⟩,⟨some 76,some (73,false),.mv (.t 2)⟩,⟨some 77,some (73,false),.ixs 1 (.t 75) (.t 76)⟩,⟨some 78,some (73,false),.ld false 1 (.t 77)⟩,⟨some 79,some (73,false),.cmp .eql .i64 (.t 78) (kI 0)⟩,⟨some 80,some (71,true),.pick (.t 73) (.c (.sc (.bool true))) (.t 79)⟩,(aO 81 (.pick (.t 71) (.t 80) (.c (.sc (.bool false))))),(aO 82 (.mv (.t 81))),⟨some 83,some (82,true),.fa 3 (.t 4)⟩,⟨some 84,some (82,true),.ld false 1 (.t 83)⟩,⟨some 85,some (82,true),.mv (.t 2)⟩,⟨some 86,some (82,true),.ixs 1 (.t 84) (.t 85)⟩,⟨some 87,some (82,true),.ld false 1 (.t 86)⟩,⟨some 88,some (82,true),.cmp .geq .i64 (.t 87) (kI 0)⟩,(aO 89 (.pick (.t 82) (.t 88) (.c (.sc (.bool false))))),(aO 90 (.mv (.t 89))),⟨some 91,some (90,true),.fa 3 (.t 4)⟩,⟨some 92,some (90,true),.ld false 1 (.t 91)⟩,⟨some 93,some (90,true),.mv (.t 2)⟩,⟨some 94,some (90,true),.ixs 1 (.t 92) (.t 93)⟩,⟨some 95,some (90,true),.ld false 1 (.t 94)⟩,⟨some 96,some (90,true),.cmp .leq .i64 (.t 95) (kI 255)⟩,(aO 97 (.pick (.t 90) (.t 96) (.c (.sc (.bool false))))),(aO 98 (.mv (.t 97))),⟨some 99,some (98,true),.mv (.t 9)⟩,⟨some 100,some (98,true),.mv (.t 99)⟩,⟨some 101,some (100,false),.fa 3 (.t 4)⟩,⟨some 102,some (100,false),.ld false 1 (.t 101)⟩,⟨some 103,some (100,false),.mv (.t 2)⟩,⟨some 104,some (100,false),.ixs 1 (.t 102) (.t 103)⟩,⟨some 105,some (100,false),.ld false 1 (.t 104)⟩,⟨some 106,some (100,false),.cmp .eql .i64 (.t 105) (kI 0)⟩,⟨some 107,some (98,true),.pick (.t 100) (.c (.sc (.bool true))) (.t 106)⟩,(aO 108 (.pick (.t 98) (.t 107) (.c (.sc (.bool false))))),(aO 6 (.mv (.t 108)))])
 .ret))))))
def rv44 : List RV := [.tmp 6]
theorem ok44 : fnOk Try.prog ac44 rv44 Try.f44 = true := by kernel_rfl

def ac46 : AC :=
 (.seq (.reg [0,48,0,1,2] [
 (aO 3 (.box (.t 0))),(aO 4 (.box (.t 1))),(aO 6 (.mv (kI 0))),(aO 7 (.mv (kI 0)))])
 (.seq (.seq (.reg [0,48,2,3,4] [
 (aO 10 (.mv (.t 2))),(aO 11 (.fa 0 (.t 4))),(aO 12 (.ld false 1 (.t 11))),(aO 13 (.len (.t 12))),(aO 14 (.ari .sub true .i64 (.t 13) (kI 1))),(aO 15 (.cal 41 [(.t 10),(kI 0),(.t 14)])),(aO 16 (.not (.t 15)))])
 (.cond (.t 16)
 (.seq (.reg [0,48] [
 (aO 6 (.mv (kI 0))),(aO 7 (.mv (kI 4)))])
 .ret)
 .skip))
 (.seq (.seq (.reg [0,48,2,3,4] [
 (aO 17 (.mkm (.int .i64))),(aO 8 (.mv (.t 17)))])
 (.block 0
 (.loop [0,48,2,3,4,8]
 (.seq (.seq (.reg [0,48,2,3,4,8] [
 (aO 18 (.mv (.t 8))),(aO 19 (.mv (.t 2))),(aO 20 (.mlk (.int .i64) false (.sc (.bool false)) (.t 18) (.t 19))),(aO 21 (.not (.t 20)))])
 (.cond (.t 21)
 .skip
 (.exit 0)))
 (.block 1
 (.seq (.reg [0,48,2,3,4,8] [
 (aO 22 (.mv (.t 8))),(aO 23 (.mv (.t 2))),(aN (.mup (.int .i64) (.t 22) (.t 23) (.c (.sc (.bool true)))))])
 (.seq (.reg [0,48,2,3,4,8] [
 (aO 24 (.ld true 5 (.t 3))),(aO 25 (.mv (.t 2))),(aO 26 (.cal 42 [(.t 24),(.t 25)])),(aO 9 (.mv (.t 26)))])
 (.seq (.block 2
 (.seq (.reg [0,48,2,3,4,8,9] [
 (aO 28 (.mv (.t 9))),(aO 29 (.len (.t 28))),(aO 30 (.cmp .eql .i64 (.t 29) (kI 0))),(aO 27 (.mv (.t 30)))])
 (.cond (.t 27)
 (.seq (.reg [0,48,2] [
 (aO 31 (.mv (.t 2))),(aO 6 (.mv (.t 31))),(aO 7 (.mv (kI 0)))])
 .ret)
 (.seq (.reg [0,48,2,3,4,8,9] [
 (aO 33 (.fa 0 (.t 4))),(aO 34 (.ld false 1 (.t 33))),(aO 35 (.mv (.t 2))),(aO 36 (.ixs 1 (.t 34) (.t 35))),(aO 37 (.ld false 1 (.t 36))),(aO 38 (.cmp .eql .i64 (.t 37) (kI 0))),(aO 32 (.mv (.t 38)))])
 (.cond (.t 32)
 (.seq (.reg [0,48] [
 (aO 6 (.mv (kI 0))),(aO 7 (.mv (kI 4)))])
 .ret)
 .skip)))))
 (.reg [0,48,2,3,4,8,9] [
 (aO 39 (.mv (.t 9))),(aO 40 (.fa 0 (.t 4))),(aO 41 (.ld false 1 (.t 40))),(aO 42 (.mv (.t 2))),(aO 43 (.ixs 1 (.t 41) (.t 42))),(aO 44 (.ld false 1 (.t 43))),(aO 45 (.ari .sub true .i64 (.t 44) (kI 1))),(aO 46 (.ixs 1 (.t 39) (.t 45))),(aO 47 (.ld false 1 (.t 46))),(aO 2 (.mv (.t 47)))])))))))))
 (.seq (.reg [0,48] [
 (aO 6 (.mv (kI 0))),(aO 7 (.mv (kI 50)))])
 .ret))))
def rv46 : List RV := [.tmp 6,.tmp 7]
theorem ok46 : fnOk Try.prog ac46 rv46 Try.f46 = true := by kernel_rfl

def ac52 : AC :=
 (.seq (.reg [0,77,0,1,2] [
 (aO 3 (.box (.t 0))),(aO 4 (.box (.t 1))),(aO 6 (.mv (.c (.sc (.bool false)))))])
 (.seq (.seq (.reg [0,77,2,3,4] [
 (aO 7 (.mv (.t 2))),(aO 8 (.cmp .lss .i64 (.t 7) (kI 0))),(aO 9 (.mv (.t 8))),⟨some 10,some (9,false),.mv (.t 2)⟩,⟨some 11,some (9,false),.fa 0 (.t 3)⟩,⟨some 12,some (9,false),.ld false 1 (.t 11)⟩,⟨some 13,some (9,false),.fa 1 (.t 3)⟩,⟨some 14,some (9,false),.ld false 1 (.t 13)⟩,⟨some 15,some (9,false),.ari .mul true .i64 (.t 12) (.t 14)⟩,⟨some 16,some (9,false),.cmp .geq .i64 (.t 10) (.t 15)⟩,(aO 17 (.pick (.t 9) (.c (.sc (.bool true))) (.t 16))),(aO 18 (.mv (.t 17))),⟨some 19,some (18,false),.fa 4 (.t 3)⟩,⟨some 20,some (18,false),.ld false 1 (.t 19)⟩,⟨some 21,some (18,false),.mv (.t 2)⟩,⟨some 22,some (18,false),.ixs 1 (.t 20) (.t 21)⟩,⟨some 23,some (18,false),.ld false 1 (.t 22)⟩,⟨some 24,some (18,false),.cmp .eql .i64 (.t 23) (kI 0)⟩,(aO 25 (.pick (.t 18) (.c (.sc (.bool true))) (.t 24))),(aO 26 (.mv (.t 25))),⟨some 27,some (26,false),.fa 4 (.t 3)⟩,⟨some 28,some (26,false),.ld false 1 (.t 27)⟩,⟨some 29,some (26,false),.mv (.t 2)⟩,⟨some 30,some (26,false),.ixs 1 (.t 28) (.t 29)⟩,⟨some 31,some (26,false),.ld false 1 (.t 30)⟩,⟨some 32,some (26,false),.cmp .eql .i64 (.t 31) (kI 1)⟩,⟨some 33,some (26,false),.mv (.t 32)⟩,⟨some 34,some (33,true),.fa 2 (.t 4)⟩,⟨some 35,some (33,true),.ld false 1 (.t 34)⟩,⟨some 36,some (33,true),.cmp .neq .i64 (.t 35) (kI (-1))⟩,⟨some 37,some (26,false),.pick (.t 33) (.t 36) (.c (.sc (.bool false)))⟩,(aO 38 (.pick (.t 26) (.c (.sc (.bool true))) (.t 37)))])
 (.cut [0,77,4,38] (.cond (.t 38)
 (.seq (.reg [0,77] [
 (aO 6 (.mv (.c (.sc (.bool false)))))])
 .ret)
 .skip)))
 (.seq (.reg [0,77,4] [
 (aO 39 (.fa 1 (.t 4))),(aO 40 (.ld false 1 (.t 39))),(aO 41 (.cmp .geq .i64 (.t 40) (kI 0))),(aO 42 (.mv (.t 41))),⟨some 43,some (42,true),.fa 1 (.t 4)⟩,⟨some 44,some (42,true),.ld false 1 (.t 43)⟩,⟨some 45,some (42,true),.cmp .leq .i64 (.t 44) (kI 65535)⟩,(aO 46 (.pick (.t 42) (.t 45) (.c (.sc (.bool false))))),(aO 47 (.mv (.t 46))),⟨some 48,some (47,true),.fa 2 (.t 4)⟩,⟨some 49,some (47,true),.ld false 1 (.t 48)⟩,⟨some 50,some (47,true),.cmp .geq .i64 (.t 49) (kI (-1))⟩,(aO 51 (.pick (.t 47) (.t 50) (.c (.sc (.bool false))))),(aO 52 (.mv (.t 51))),⟨some 53,some (52,true),.fa 2 (.t 4)⟩,⟨some 54,some (52,true),.ld false 1 (.t 53)⟩,⟨some 55,some (52,true),.cmp .leq .i64 (.t 54) (kI 255)⟩,(aO 56 (.pick (.t 52) (.t 55) (.c (.sc (.bool false))))),(aO 57 (.mv (.t 56))),⟨some 58,some (57,true),.fa 3 (.t 4)⟩,⟨some 59,some (57,true),.ld false 1 (.t 58)⟩,⟨some 60,some (57,true),.cmp .geq .i64 (.t 59) (kI (-1))⟩,(aO 61 (.pick (.t 57) (.t 60) (.c (.sc (.bool false))))),(aO 62 (.mv (.t 61))),⟨some 63,some (62,true),.fa 3 (.t 4)⟩,⟨some 64,some (62,true),.ld false 1 (.t 63)⟩,⟨some 65,some (62,true),.cmp .leq .i64 (.t 64) (kI 255)⟩,(aO 66 (.pick (.t 62) (.t 65) (.c (.sc (.bool false))))),(aO 67 (.mv (.t 66))),⟨some 68,some (67,true),.fa 2 (.t 4)⟩,⟨some 69,some (67,true),.ld false 1 (.t 68)⟩,⟨some 70,some (67,true),.cmp .eql .i64 (.t 69) (kI (-1))⟩,⟨some 71,some (67,true),.mv (.t 70)⟩,⟨some 72,some (71,false),.fa 3 (.t 4)⟩,⟨some 73,some (71,false),.ld false 1 (.t 72)⟩,⟨some 74,some (71,false),.cmp .eql .i64 (.t 73) (kI (-1))⟩,⟨some 75,some (67,true),.pick (.t 71) (.c (.sc (.bool true))) (.t 74)⟩,(aO 76 (.pick (.t 67) (.t 75) (.c (.sc (.bool false))))),(aO 6 (.mv (.t 76)))])
 .ret)))
def rv52 : List RV := [.tmp 6]
theorem ok52 : fnOk Try.prog ac52 rv52 Try.f52 = true := by kernel_rfl

def ac53 : AC :=
 (.seq (.reg [0,33,0] [
 (aO 1 (.box (.t 0))),(aO 2 (.mv (.c (.nil))))])
 (.seq (.reg [0,33,1] [
 (aO 6 (.bsl 1 3 [zI] 0 [])),(aO 3 (.mv (.t 6)))])
 (.seq (.seq (.reg [0,33,1,3] [
 (aO 4 (.mv (kI 0)))])
 (.block 0
 (.loop [0,33,1,3,4]
 (.seq (.seq (.reg [0,33,1,3,4] [
 (aO 7 (.mv (.t 4))),(aO 8 (.ld true 5 (.t 1))),(aO 9 (.cal 22 [(.t 8)])),(aO 10 (.cmp .lss .i64 (.t 7) (.t 9)))])
 (.cond (.t 10)
 .skip
 (.exit 0)))
 (.seq (.block 1
 (.seq (.reg [0,33,1,3,4] [
 (aO 13 (.ld true 5 (.t 1))),(aO 14 (.mv (.t 4))),(aO 15 (.cal 50 [(.t 13),(.t 14)])),(aO 16 (.fl true 0 4 (.t 15))),(aO 17 (.fl false 0 1 (.t 16))),(aO 5 (.mv (.t 17)))])
 (.seq (.reg [0,33,1,3,4,5] [
 (aO 18 (.mv (.t 5))),(aO 19 (.cmp .eql .i64 (.t 18) (kI 1))),(aO 20 (.mv (.t 19))),⟨some 21,some (20,false),.mv (.t 5)⟩,⟨some 22,some (20,false),.cmp .eql .i64 (.t 21) (kI 2)⟩,(aO 23 (.pick (.t 20) (.c (.sc (.bool true))) (.t 22))),(aO 24 (.mv (.t 23))),⟨some 25,some (24,false),.mv (.t 5)⟩,⟨some 26,some (24,false),.cmp .eql .i64 (.t 25) (kI 6)⟩,(aO 27 (.pick (.t 24) (.c (.sc (.bool true))) (.t 26)))])
 (.cut [0,33,1,3,4,27] (.cond (.t 27)
 (.reg [0,33,1,3,4] [
 (aO 28 (.mv (.t 3))),(aO 29 (.mv (.t 4))),(aO 30 (.bsl 1 3 [zI] 1 [(0,(.t 29))])),(aO 31 (.app 1 3 8 (.t 28) (.t 30))),(aO 3 (.mv (.t 31)))])
 .skip)))))
 (.reg [0,33,1,3,4] [
 (aO 11 (.mv (.t 4))),(aO 12 (.ari .add true .i64 (.t 11) (kI 1))),(aO 4 (.mv (.t 12)))]))))))
 (.seq (.reg [0,33,3] [
 (aO 32 (.mv (.t 3))),(aO 2 (.mv (.t 32)))])
 .ret))))
def rv53 : List RV := [.tmp 2]
theorem ok53 : fnOk Try.prog ac53 rv53 Try.f53 = true := by kernel_rfl

def ac54 : AC :=
 (.seq (.reg [0,36,0,1] [
 (aO 2 (.box (.t 0))),(aO 4 (.mv (.c (.nil))))])
 (.seq (.reg [0,36,1,2] [
 (aO 8 (.bsl 1 3 [zI] 0 [])),(aO 5 (.mv (.t 8)))])
 (.seq (.reg [0,36,1,2,5] [
 (aO 9 (.ld true 5 (.t 2))),(aO 10 (.mv (.t 1))),(aO 11 (.cal 50 [(.t 9),(.t 10)])),(aO 6 (.alc [zI,zI,zI,zI,zI])),(aN (.sto 5 (.t 6) (.t 11)))])
 (.seq (.seq (.reg [0,36,2,5,6] [
 (aO 7 (.mv (kI 0)))])
 (.block 0
 (.loop [0,36,2,5,6,7]
 (.seq (.seq (.reg [0,36,2,5,6,7] [
 (aO 12 (.mv (.t 7))),(aO 13 (.ld true 5 (.t 2))),(aO 14 (.cal 22 [(.t 13)])),(aO 15 (.cmp .lss .i64 (.t 12) (.t 14))),(aO 16 (.mv (.t 15))),⟨some 17,some (16,true),.fa 4 (.t 6)⟩,⟨some 18,some (16,true),.ld false 1 (.t 17)⟩,⟨some 19,some (16,true),.cmp .eql .i64 (.t 18) (kI 0)⟩,(aO 20 (.pick (.t 16) (.t 19) (.c (.sc (.bool false)))))])
 (.cut [0,36,2,5,6,7,20] (.cond (.t 20)
 .skip
 (.exit 0))))
 (.seq (.block 1
 (.seq (.drw [0,36,2,5,6,7] [
 (eT 23 (.ld true 5 (.t 2))),(eT 24 (.fa 0 (.t 6))),(eT 25 (.ld true 4 (.t 24))),(eT 26 (.ld true 5 (.t 2))),(eT 27 (.mv (.t 7))),(eT 28 (.cal 50 [(.t 26),(.t 27)])),(eT 29 (.fl true 0 4 (.t 28))),(eF 30 (.cal 51 [(.t 23),(.t 25),(.t 29)]))])
 (.cond (.t 30)
 (.reg [0,36,2,5,6,7] [
 (aO 31 (.mv (.t 5))),(aO 32 (.mv (.t 7))),(aO 33 (.bsl 1 3 [zI] 1 [(0,(.t 32))])),(aO 34 (.app 1 3 8 (.t 31) (.t 33))),(aO 5 (.mv (.t 34)))])
 .skip)))
 (.reg [0,36,2,5,6,7] [
 (aO 21 (.mv (.t 7))),(aO 22 (.ari .add true .i64 (.t 21) (kI 1))),(aO 7 (.mv (.t 22)))]))))))
 (.seq (.reg [0,36,5] [
 (aO 35 (.mv (.t 5))),(aO 4 (.mv (.t 35)))])
 .ret)))))
def rv54 : List RV := [.tmp 4]
theorem ok54 : fnOk Try.prog ac54 rv54 Try.f54 = true := by kernel_rfl

def ac59 : AC :=
 (.seq (.reg [0,87,0,1] [
 (aO 2 (.box (.t 0))),(aO 3 (.box (.t 1))),(aO 4 (.mv (.c (.sc (.bool false)))))])
 (.seq (.seq (.reg [0,87,2,3] [
 (aO 7 (.fa 1 (.t 3))),(aO 8 (.ld false 1 (.t 7))),(aO 9 (.len (.t 8))),(aO 10 (.cmp .eql .i64 (.t 9) (kI 0))),(aO 11 (.mv (.t 10))),⟨some 12,some (11,false),.fa 2 (.t 3)⟩,⟨some 13,some (11,false),.ld false 1 (.t 12)⟩,⟨some 14,some (11,false),.len (.t 13)⟩,⟨some 15,some (11,false),.fa 1 (.t 3)⟩,⟨some 16,some (11,false),.ld false 1 (.t 15)⟩,⟨some 17,some (11,false),.len (.t 16)⟩,⟨some 18,some (11,false),.cmp .neq .i64 (.t 14) (.t 17)⟩,(aO 19 (.pick (.t 11) (.c (.sc (.bool true))) (.t 18))),(aO 20 (.mv (.t 19))),⟨some 21,some (20,false),.fa 2 (.t 3)⟩,⟨some 22,some (20,false),.ld false 1 (.t 21)⟩,⟨some 23,some (20,false),.ixs 1 (.t 22) (kI 0)⟩,⟨some 24,some (20,false),.ld false 1 (.t 23)⟩,⟨some 25,some (20,false),.cmp .neq .i64 (.t 24) (kI (-1))⟩,(aO 26 (.pick (.t 20) (.c (.sc (.bool true))) (.t 25)))])
 (.cut [0,87,2,3,26] (.cond (.t 26)
 (.seq (.reg [0,87] [
 (aO 4 (.mv (.c (.sc (.bool false)))))])
 .ret)
 .skip)))
 (.seq (.drw [0,87,2,3] [
 (eU 27 (.ld true 5 (.t 2)) [] [5]),(eU 28 (.fa 1 (.t 3)) [] [5]),(eU 29 (.ld false 1 (.t 28)) [] [5]),(eU 30 (.ixs 1 (.t 29) (kI 0)) [] [5]),(eU 31 (.ld false 1 (.t 30)) [] [5]),(eU 32 (.cal 50 [(.t 27),(.t 31)]) [] [5]),(eU 5 (.alc [zI,zI,zI,zI,zI]) [5] []),⟨(aN (.sto 5 (.t 5) (.t 32))),[],[],false⟩])
 (.seq (.seq (.drw [0,87,2,3,5] [
 (eF 33 (.fa 4 (.t 5))),(eF 34 (.ld false 1 (.t 33))),(eF 35 (.cmp .neq .i64 (.t 34) (kI 0))),(eF 36 (.mv (.t 35))),⟨⟨some 37,some (36,false),.ld true 5 (.t 2)⟩,[],[],true⟩,⟨⟨some 38,some (36,false),.fa 1 (.t 3)⟩,[],[],true⟩,⟨⟨some 39,some (36,false),.ld false 1 (.t 38)⟩,[],[],true⟩,⟨⟨some 40,some (36,false),.ixs 1 (.t 39) (kI 0)⟩,[],[],true⟩,⟨⟨some 41,some (36,false),.ld false 1 (.t 40)⟩,[],[],true⟩,⟨⟨some 42,some (36,false),.cal 39 [(.t 37),(.t 41)]⟩,[],[],false⟩,⟨⟨some 43,some (36,false),.cmp .gtr .i64 (.t 42) (kI 0)⟩,[],[],false⟩,(eF 44 (.pick (.t 36) (.c (.sc (.bool true))) (.t 43)))])
 (.cut [0,87,2,3,44] (.cond (.t 44)
 (.seq (.reg [0,87] [
 (aO 4 (.mv (.c (.sc (.bool false)))))])
 .ret)
 .skip)))
 (.seq (.seq (.reg [0,87,2,3] [
 (aO 6 (.mv (kI 1)))])
 (.block 0
 (.loop [0,87,2,3,6]
 (.seq (.seq (.reg [0,87,2,3,6] [
 (aO 45 (.mv (.t 6))),(aO 46 (.fa 1 (.t 3))),(aO 47 (.ld false 1 (.t 46))),(aO 48 (.len (.t 47))),(aO 49 (.cmp .lss .i64 (.t 45) (.t 48)))])
 (.cond (.t 49)
 .skip
 (.exit 0)))
 (.seq (.block 1
 (.seq (.drw [0,87,2,3,6] [
 (eT 52 (.fa 2 (.t 3))),(eT 53 (.ld false 1 (.t 52))),(eT 54 (.mv (.t 6))),(eF 55 (.ixs 1 (.t 53) (.t 54))),(eF 56 (.ld false 1 (.t 55))),(eF 57 (.cmp .lss .i64 (.t 56) (kI 0))),(eF 58 (.mv (.t 57))),⟨⟨some 59,some (58,false),.fa 2 (.t 3)⟩,[],[],true⟩,⟨⟨some 60,some (58,false),.ld false 1 (.t 59)⟩,[],[],true⟩,⟨⟨some 61,some (58,false),.mv (.t 6)⟩,[],[],true⟩,⟨⟨some 62,some (58,false),.ixs 1 (.t 60) (.t 61)⟩,[],[],true⟩,⟨⟨some 63,some (58,false),.ld false 1 (.t 62)⟩,[],[],true⟩,⟨⟨some 64,some (58,false),.mv (.t 6)⟩,[],[],true⟩,⟨⟨some 65,some (58,false),.cmp .geq .i64 (.t 63) (.t 64)⟩,[],[],false⟩,(eF 66 (.pick (.t 58) (.c (.sc (.bool true))) (.t 65))),(eF 67 (.mv (.t 66))),⟨⟨some 68,some (67,false),.ld true 5 (.t 2)⟩,[],[],true⟩,⟨⟨some 69,some (67,false),.fa 1 (.t 3)⟩,[],[],true⟩,⟨⟨some 70,some (67,false),.ld false 1 (.t 69)⟩,[],[],true⟩,⟨⟨some 71,some (67,false),.mv (.t 6)⟩,[],[],true⟩,⟨⟨some 72,some (67,false),.ixs 1 (.t 70) (.t 71)⟩,[],[],true⟩,⟨⟨some 73,some (67,false),.ld false 1 (.t 72)⟩,[],[],true⟩,⟨⟨some 74,some (67,false),.cal 31 [(.t 68),(.t 73)]⟩,[],[],true⟩,⟨⟨some 75,some (67,false),.fa 1 (.t 3)⟩,[],[],true⟩,⟨⟨some 76,some (67,false),.ld false 1 (.t 75)⟩,[],[],true⟩,⟨⟨some 77,some (67,false),.fa 2 (.t 3)⟩,[],[],true⟩,⟨⟨some 78,some (67,false),.ld false 1 (.t 77)⟩,[],[],true⟩,⟨⟨some 79,some (67,false),.mv (.t 6)⟩,[],[],true⟩,⟨⟨some 80,some (67,false),.ixs 1 (.t 78) (.t 79)⟩,[],[],true⟩,⟨⟨some 81,some (67,false),.ld false 1 (.t 80)⟩,[],[],true⟩,⟨⟨some 82,some (67,false),.ixs 1 (.t 76) (.t 81)⟩,[],[],true⟩,⟨⟨some 83,some (67,false),.ld false 1 (.t 82)⟩,[],[],true⟩,⟨⟨some 84,some (67,false),.cal 38 [(.t 74),(.t 83)]⟩,[],[],false⟩,⟨⟨some 85,some (67,false),.cmp .lss .i64 (.t 84) (kI 0)⟩,[],[],false⟩,(eF 86 (.pick (.t 67) (.c (.sc (.bool true))) (.t 85)))])
 (.cut [0,87,2,3,6,86] (.cond (.t 86)
 (.seq (.reg [0,87] [
 (aO 4 (.mv (.c (.sc (.bool false)))))])
 .ret)
 .skip))))
 (.reg [0,87,2,3,6] [
 (aO 50 (.mv (.t 6))),(aO 51 (.ari .add true .i64 (.t 50) (kI 1))),(aO 6 (.mv (.t 51)))]))))))
 (.seq (.reg [0,87] [
 (aO 4 (.mv (.c (.sc (.bool true)))))])
 .ret))))))
def rv59 : List RV := [.tmp 4]
theorem ok59 : fnOk Try.prog ac59 rv59 Try.f59 = true := by kernel_rfl

def ac11 : AC :=
 (.seq (.reg [0,71,0] [
 (aO 1 (.box (.t 0))),(aO 2 (.alc [zI,zI,zI,zI,.nil,.nil,.nil,.nil,.nil,.nil,.nil]))])
 (.seq (.reg [0,71,1,2] [
 (aO 9 (.fa 0 (.t 1))),(aO 10 (.ld true 5 (.t 9))),(aO 11 (.cal 30 [(.t 10)])),(aO 3 (.alc [zI,zI,zI,zI,.nil])),(aN (.sto 5 (.t 3) (.t 11)))])
 (.seq (.reg [0,71,1,2,3] [
 (aO 12 (.fa 3 (.t 3))),(aN (.sto 1 (.t 12) (kI 4)))])
 (.seq (.reg [0,71,1,2,3] [
 (aO 13 (.ld true 5 (.t 3))),(aO 14 (.bld [zI,zI,zI,zI,.nil,.nil,.nil,.nil,.nil,.nil,.nil] [(0,5,(.t 13))])),(aO 15 (.fa 5 (.t 1))),(aO 16 (.ld false 1 (.t 15))),(aO 17 (.cal 34 [(.t 14),(.t 16)])),(aO 4 (.alc [zI,zI,zI,zI,.nil,.nil,.nil,.nil,.nil,.nil,.nil])),(aN (.sto 11 (.t 4) (.t 17)))])
 (.seq (.reg [0,71,1,2,4] [
 (aO 18 (.fa 0 (.t 4))),(aO 19 (.ld true 5 (.t 18))),(aO 20 (.cal 22 [(.t 19)])),(aO 21 (.mks 1 4 1 [.sc (.bool false)] (.t 20) (.t 20))),(aO 5 (.mv (.t 21)))])
 (.seq (.seq (.reg [0,71,1,2,4,5] [
 (aO 6 (.mv (kI 0)))])
 (.block 0
 (.loop [0,71,1,2,4,5,6]
 (.seq (.seq (.reg [0,71,1,2,4,5,6] [
 (aO 22 (.mv (.t 6))),(aO 23 (.fa 6 (.t 1))),(aO 24 (.ld false 1 (.t 23))),(aO 25 (.len (.t 24))),(aO 26 (.cmp .lss .i64 (.t 22) (.t 25))),(aO 27 (.mv (.t 26))),⟨some 28,some (27,true),.mv (.t 6)⟩,⟨some 29,some (27,true),.cmp .lss .i64 (.t 28) (kI 5)⟩,(aO 30 (.pick (.t 27) (.t 29) (.c (.sc (.bool false)))))])
 (.cut [0,71,1,2,4,5,6,30] (.cond (.t 30)
 .skip
 (.exit 0))))
 (.seq (.block 1
 (.seq (.drw [0,71,1,2,4,5,6] [
 (eU 33 (.fa 0 (.t 4)) [] [7]),(eU 34 (.ld true 5 (.t 33)) [] [7]),(eU 35 (.mv (.t 5)) [] [7]),(eU 36 (.fa 6 (.t 1)) [] [7]),(eU 37 (.ld false 1 (.t 36)) [] [7]),(eU 38 (.mv (.t 6)) [] [7]),(eU 39 (.ixs 1 (.t 37) (.t 38)) [] [7]),(eU 40 (.ld false 1 (.t 39)) [] [7]),(eU 41 (.cal 35 [(.t 34),(.t 35),(.t 40)]) [] [7]),(eU 7 (.alc [zI,.nil,.nil]) [7] []),⟨(aN (.sto 3 (.t 7) (.t 41))),[],[],false⟩])
 (.seq (.seq (.reg [0,71,1,2,4,5,6,7] [
 (aO 42 (.fa 1 (.t 7))),(aO 43 (.ld false 1 (.t 42))),(aO 44 (.len (.t 43))),(aO 45 (.cmp .eql .i64 (.t 44) (kI 0)))])
 (.cond (.t 45)
 (.exit 1)
 .skip))
 (.seq (.reg [0,71,1,2,4,5,6,7] [
 (aO 46 (.mv (.t 6))),(aO 47 (.fa 0 (.t 7))),(aN (.sto 1 (.t 47) (.t 46)))])
 (.seq (.seq (.reg [0,71,1,2,4,5,6,7] [
 (aO 8 (.mv (kI 0)))])
 (.block 2
 (.loop [0,71,1,2,4,5,6,7,8]
 (.seq (.seq (.reg [0,71,1,2,4,5,6,7,8] [
 (aO 48 (.mv (.t 8))),(aO 49 (.fa 1 (.t 7))),(aO 50 (.ld false 1 (.t 49))),(aO 51 (.len (.t 50))),(aO 52 (.cmp .lss .i64 (.t 48) (.t 51)))])
 (.cond (.t 52)
 .skip
 (.exit 2)))
 (.seq (.block 3
 (.reg [0,71,1,2,4,5,6,7,8] [
 (aO 55 (.mv (.t 5))),(aO 56 (.fa 1 (.t 7))),(aO 57 (.ld false 1 (.t 56))),(aO 58 (.mv (.t 8))),(aO 59 (.ixs 1 (.t 57) (.t 58))),(aO 60 (.ld false 1 (.t 59))),(aO 61 (.ixs 1 (.t 55) (.t 60))),(aN (.sto 1 (.t 61) (.c (.sc (.bool true)))))]))
 (.reg [0,71,1,2,4,5,6,7,8] [
 (aO 53 (.mv (.t 8))),(aO 54 (.ari .add true .i64 (.t 53) (kI 1))),(aO 8 (.mv (.t 54)))]))))))
 (.reg [0,71,1,2,4,5,6,7] [
 (aO 62 (.fa 9 (.t 4))),(aO 63 (.fa 1 (.t 62))),(aO 64 (.ld false 1 (.t 63))),(aO 65 (.ld true 3 (.t 7))),(aO 66 (.bsl 3 72 [zI,.nil,.nil] 1 [(0,(.t 65))])),(aO 67 (.app 3 72 56 (.t 64) (.t 66))),(aO 68 (.fa 9 (.t 4))),(aO 69 (.fa 1 (.t 68))),(aN (.sto 1 (.t 69) (.t 67)))]))))))
 (.reg [0,71,1,2,4,5,6] [
 (aO 31 (.mv (.t 6))),(aO 32 (.ari .add true .i64 (.t 31) (kI 1))),(aO 6 (.mv (.t 32)))]))))))
 (.seq (.reg [0,71,2,4] [
 (aO 70 (.ld true 11 (.t 4))),(aN (.sto 11 (.t 2) (.t 70)))])
 .ret)))))))
def rv11 : List RV := [.cell 2 true 11]
theorem ok11 : fnOk Try.prog ac11 rv11 Try.f11 = true := by kernel_rfl

def ac9 : AC :=
 (.seq (.reg [0,143] [
 (aO 0 (.mv (.c (.sc (.bool false)))))])
 (.seq (.reg [0,143] [
 (aO 5 (.cal 33 [])),(aO 6 (.bsl 1 3 [zI] 3 [(0,(kI 0)),(1,(kI 6)),(2,(kI 10))])),(aO 7 (.bsl 1 3 [zI] 3 [(0,(kI (-1))),(1,(kI 0)),(2,(kI 1))])),(aO 8 (.bld [zI,.nil,.nil] [(1,1,(.t 6)),(2,1,(.t 7))])),(aO 9 (.bsl 3 72 [zI,.nil,.nil] 1 [(0,(.t 8))])),(aO 10 (.bld [.nil,.nil] [(1,1,(.t 9))])),(aO 11 (.bld [zI,zI,zI,zI,.nil,.nil,.nil,.nil,.nil,.nil,.nil] [(0,5,(.t 5)),(9,2,(.t 10))])),(aO 1 (.alc [zI,zI,zI,zI,.nil,.nil,.nil,.nil,.nil,.nil,.nil])),(aN (.sto 11 (.t 1) (.t 11)))])
 (.seq (.reg [0,143,1] [
 (aO 12 (.ld true 11 (.t 1))),(aO 13 (.cal 13 [(.t 12)])),(aO 2 (.alc [.nil,.nil,.nil,.nil,zI])),(aN (.sto 5 (.t 2) (.t 13)))])
 (.seq (.seq (.reg [0,143,1,2] [
 (aO 14 (.fa 4 (.t 2))),(aO 15 (.ld false 1 (.t 14))),(aO 16 (.cmp .neq .i64 (.t 15) (kI 0))),(aO 17 (.mv (.t 16))),⟨some 18,some (17,false),.fa 0 (.t 1)⟩,⟨some 19,some (17,false),.ld true 5 (.t 18)⟩,⟨some 20,some (17,false),.fa 0 (.t 2)⟩,⟨some 21,some (17,false),.ld true 4 (.t 20)⟩,⟨some 22,some (17,false),.cal 19 [(.t 19),(.t 21)]⟩,⟨some 23,some (17,false),.cmp .neq .i64 (.t 22) (kI 0)⟩,(aO 24 (.pick (.t 17) (.c (.sc (.bool true))) (.t 23))),(aO 25 (.mv (.t 24))),⟨some 26,some (25,false),.fa 0 (.t 2)⟩,⟨some 27,some (25,false),.fa 0 (.t 26)⟩,⟨some 28,some (25,false),.ld false 1 (.t 27)⟩,⟨some 29,some (25,false),.len (.t 28)⟩,⟨some 30,some (25,false),.cmp .neq .i64 (.t 29) (kI 18)⟩,(aO 31 (.pick (.t 25) (.c (.sc (.bool true))) (.t 30))),(aO 32 (.mv (.t 31))),⟨some 33,some (32,false),.fa 0 (.t 2)⟩,⟨some 34,some (32,false),.fa 0 (.t 33)⟩,⟨some 35,some (32,false),.ld false 1 (.t 34)⟩,⟨some 36,some (32,false),.ixs 1 (.t 35) (kI 6)⟩,⟨some 37,some (32,false),.ld false 1 (.t 36)⟩,⟨some 38,some (32,false),.cmp .neq .i64 (.t 37) (kI 1)⟩,(aO 39 (.pick (.t 32) (.c (.sc (.bool true))) (.t 38))),(aO 40 (.mv (.t 39))),⟨some 41,some (40,false),.fa 0 (.t 2)⟩,⟨some 42,some (40,false),.fa 0 (.t 41)⟩,⟨some 43,some (40,false),.ld false 1 (.t 42)⟩,⟨some 44,some (40,false),.ixs 1 (.t 43) (kI 10)⟩,⟨some 45,some (40,false),.ld false 1 (.t 44)⟩,⟨some 46,some (40,false),.cmp .neq .i64 (.t 45) (kI 1)⟩,(aO 47 (.pick (.t 40) (.c (.sc (.bool true))) (.t 46))),(aO 48 (.mv (.t 47))),⟨some 49,some (48,false),.fa 0 (.t 1)⟩,⟨some 50,some (48,false),.ld true 5 (.t 49)⟩,⟨some 51,some (48,false),.fa 0 (.t 2)⟩,⟨some 52,some (48,false),.ld true 4 (.t 51)⟩,⟨some 53,some (48,false),.cal 18 [(.t 50),(.t 52)]⟩,⟨some 54,some (48,false),.cmp .neq .i64 (.t 53) (kI 0)⟩,(aO 55 (.pick (.t 48) (.c (.sc (.bool true))) (.t 54))),(aO 56 (.mv (.t 55))),⟨some 57,some (56,false),.fa 0 (.t 1)⟩,⟨some 58,some (56,false),.ld true 5 (.t 57)⟩,⟨some 59,some (56,false),.fa 0 (.t 2)⟩,⟨some 60,some (56,false),.ld true 4 (.t 59)⟩,⟨some 61,some (56,false),.cal 26 [(.t 58),(.t 60)]⟩,⟨some 62,some (56,false),.bsl 1 3 [zI] 2 [(0,(kI 6)),(1,(kI 10))]⟩,⟨some 63,some (56,false),.cal 25 [(.t 61),(.t 62)]⟩,⟨some 64,some (56,false),.not (.t 63)⟩,(aO 65 (.pick (.t 56) (.c (.sc (.bool true))) (.t 64))),(aO 66 (.mv (.t 65))),⟨some 67,some (66,false),.fa 0 (.t 1)⟩,⟨some 68,some (66,false),.ld true 5 (.t 67)⟩,⟨some 69,some (66,false),.fa 0 (.t 2)⟩,⟨some 70,some (66,false),.ld true 4 (.t 69)⟩,⟨some 71,some (66,false),.cal 23 [(.t 68),(.t 70),(kI 10)]⟩,⟨some 72,some (66,false),.bld [zI,zI] []⟩,⟨some 73,some (66,false),.eqa true 2 (.t 71) (.t 72)⟩,(aO 74 (.pick (.t 66) (.c (.sc (.bool true))) (.t 73))),(aO 75 (.mv (.t 74))),⟨some 76,some (75,false),.fa 0 (.t 1)⟩,⟨some 77,some (75,false),.ld true 5 (.t 76)⟩,⟨some 78,some (75,false),.fa 0 (.t 2)⟩,⟨some 79,some (75,false),.ld true 4 (.t 78)⟩,⟨some 80,some (75,false),.cal 23 [(.t 77),(.t 79),(kI 11)]⟩,⟨some 81,some (75,false),.fl false 1 1 (.t 80)⟩,⟨some 82,some (75,false),.cmp .neq .i64 (.t 81) (kI 4)⟩,(aO 83 (.pick (.t 75) (.c (.sc (.bool true))) (.t 82)))])
 (.cut [0,143,1,2,83] (.cond (.t 83)
 (.seq (.reg [0,143] [
 (aO 0 (.mv (.c (.sc (.bool false)))))])
 .ret)
 .skip)))
 (.seq (.reg [0,143,1,2] [
 (aO 84 (.fa 0 (.t 2))),(aO 85 (.ld true 4 (.t 84))),(aO 3 (.alc [.nil,.nil,.nil,.nil])),(aN (.sto 4 (.t 3) (.t 85)))])
 (.seq (.reg [0,143,1,2,3] [
 (aO 86 (.bsl 1 3 [zI] 0 [])),(aO 87 (.fa 0 (.t 2))),(aO 88 (.fa 0 (.t 87))),(aO 89 (.ld false 1 (.t 88))),(aO 90 (.app 1 3 8 (.t 86) (.t 89))),(aO 91 (.fa 0 (.t 3))),(aN (.sto 1 (.t 91) (.t 90)))])
 (.seq (.reg [0,143,1,2,3] [
 (aO 92 (.fa 0 (.t 3))),(aO 93 (.ld false 1 (.t 92))),(aO 94 (.ixs 1 (.t 93) (kI 6))),(aN (.sto 1 (.t 94) (kI 6)))])
 (.seq (.reg [0,143,1,2,3] [
 (aO 95 (.fa 0 (.t 3))),(aO 96 (.ld false 1 (.t 95))),(aO 97 (.ixs 1 (.t 96) (kI 14))),(aN (.sto 1 (.t 97) (kI 1)))])
 (.seq (.reg [0,143,1,2,3] [
 (aO 98 (.ld true 4 (.t 3))),(aO 99 (.fa 0 (.t 2))),(aO 100 (.ld true 4 (.t 99))),(aO 101 (.cal 28 [(.t 98),(.t 100)])),(aO 4 (.alc [.nil,.nil])),(aN (.sto 2 (.t 4) (.t 101)))])
 (.seq (.drw [0,143,1,3,4] [
 (eT 102 (.fa 0 (.t 1))),(eT 103 (.ld true 5 (.t 102))),(eT 104 (.ld true 4 (.t 3))),(eF 105 (.cal 23 [(.t 103),(.t 104),(kI 10)])),(eF 106 (.fl false 1 1 (.t 105))),(eF 107 (.cmp .eql .i64 (.t 106) (kI 50))),(eF 108 (.mv (.t 107))),⟨⟨some 109,some (108,true),.fa 0 (.t 1)⟩,[],[],true⟩,⟨⟨some 110,some (108,true),.ld true 5 (.t 109)⟩,[],[],true⟩,⟨⟨some 111,some (108,true),.ld true 4 (.t 3)⟩,[],[],true⟩,⟨⟨some 112,some (108,true),.cal 18 [(.t 110),(.t 111)]⟩,[],[],false⟩,⟨⟨some 113,some (108,true),.cmp .eql .i64 (.t 112) (kI 0)⟩,[],[],false⟩,(eF 114 (.pick (.t 108) (.t 113) (.c (.sc (.bool false))))),(eF 115 (.mv (.t 114))),⟨⟨some 116,some (115,true),.fa 0 (.t 4)⟩,[],[118],true⟩,⟨⟨some 117,some (115,true),.ld false 1 (.t 116)⟩,[],[118],true⟩,⟨⟨some 118,some (115,true),.bsl 1 3 [zI] 2 [(0,(kI 6)),(1,(kI 14))]⟩,[118],[],true⟩,⟨⟨some 119,some (115,true),.cal 25 [(.t 117),(.t 118)]⟩,[],[],false⟩,(eF 120 (.pick (.t 115) (.t 119) (.c (.sc (.bool false))))),(eF 121 (.mv (.t 120))),⟨⟨some 122,some (121,true),.fa 1 (.t 4)⟩,[],[],false⟩,⟨⟨some 123,some (121,true),.ld false 1 (.t 122)⟩,[],[],false⟩,⟨⟨some 124,some (121,true),.len (.t 123)⟩,[],[],false⟩,⟨⟨some 125,some (121,true),.cmp .eql .i64 (.t 124) (kI 0)⟩,[],[],false⟩,(eF 126 (.pick (.t 121) (.t 125) (.c (.sc (.bool false))))),(eF 127 (.mv (.t 126))),⟨⟨some 128,some (127,true),.fa 0 (.t 1)⟩,[],[],true⟩,⟨⟨some 129,some (127,true),.ld true 5 (.t 128)⟩,[],[],true⟩,⟨⟨some 130,some (127,true),.cal 20 [(.t 129)]⟩,[],[],true⟩,⟨⟨some 131,some (127,true),.fa 0 (.t 1)⟩,[],[],true⟩,⟨⟨some 132,some (127,true),.ld true 5 (.t 131)⟩,[],[],true⟩,⟨⟨some 133,some (127,true),.cal 21 [(.t 132)]⟩,[],[],false⟩,⟨⟨some 134,some (127,true),.cal 15 [(.t 130),(.t 133)]⟩,[],[],false⟩,(eF 135 (.pick (.t 127) (.t 134) (.c (.sc (.bool false))))),(eF 136 (.mv (.t 135))),⟨⟨some 137,some (136,true),.fa 0 (.t 1)⟩,[],[],true⟩,⟨⟨some 138,some (136,true),.ld true 5 (.t 137)⟩,[],[],true⟩,⟨⟨some 139,some (136,true),.bld [.nil,.nil,.nil,.nil] []⟩,[],[],true⟩,⟨⟨some 140,some (136,true),.cal 18 [(.t 138),(.t 139)]⟩,[],[],false⟩,⟨⟨some 141,some (136,true),.cmp .eql .i64 (.t 140) (kI 310)⟩,[],[],false⟩,(eF 142 (.pick (.t 136) (.t 141) (.c (.sc (.bool false))))),(eF 0 (.mv (.t 142)))])
 .ret))))))))))
def rv9 : List RV := [.tmp 0]
theorem ok9 : fnOk Try.prog ac9 rv9 Try.f9 = true := by kernel_rfl
end Go.Proofs.Ytledbjkolidhkaa.Txt
