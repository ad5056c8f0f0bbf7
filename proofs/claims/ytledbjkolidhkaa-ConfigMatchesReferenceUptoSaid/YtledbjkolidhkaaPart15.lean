/- ZS MC MD MA TxtK ZY MF MG PMatches: ConfigMatchesReference holds for every raw design and all odd arguments that are together of bulk at most 1048576: the row's second form. -/
import Derived.Test.YtledbjkolidhkaaPart14
import Derived.Test.YtledbjkolidhkaaPart13
import Derived.Test.YtledbjkolidhkaaPart11
import Derived.Test.YtledbjkolidhkaaPart12
import Derived.Test.YtledbjkolidhkaaPart06
import Derived.Test.YtledbjkolidhkaaChecked
import Derived.Test.YtledbjkolidhkaaRows
import Derived.JoinedCond
set_option linter.unusedSimpArgs false
set_option linter.unusedVariables false
open Nat (reduceEqDiff reduceAdd reduceSub reduceMul reduceLT reduceLeDiff)
open Int (reduceToNat reduceNeg)
namespace Go.Proofs.Ytledbjkolidhkaa
open Go Go.Vc Txt
open Classical in
theorem rdesc_all (g : Grid) (hg : GOk g) (n : Int) : FnEq Try.prog 50 [.agg (gridC false g),.int n] (.agg (spottedC (descE g n))) := by
 have h3 := hg.count
 by_cases h : 0 <= n /\ n < countF g
 ·exact rdesc_ok g hg n (by omega)
 refine FnEq.of_awp Try.func50 ok50 (by show 2 <= _; decide) (by simp only [push_cast,reduceIte,reduceEqDiff,reduceAdd,reduceSub,reduceMul,Nat.reduceBEq,reduceLT,reduceLeDiff,reduceCtorEq,reduceToNat,reduceNeg] <;> first | exact fun _ _ => trivial | simp) ?_
 simp only [ac50,rv50,push_cast,reduceIte,reduceEqDiff,reduceAdd,reduceSub,reduceMul,Nat.reduceBEq,reduceLT,reduceLeDiff,reduceCtorEq,reduceToNat,reduceNeg]
 refine cut_of ⟨[(1,.int n),(2,.ptr 2 0),(4,.ptr 4 0),(18,.bool true)],[(2,gridC false g),(4,[.int 0,.int 0,.int 0,.int 0,.int 0])],[],[]⟩ ?_ ?_
 ·refine grd_decf rfl (fun h1 => ?_) fun h1 => ?_ <;> simp only [push_cast,reduceIte,reduceEqDiff,reduceAdd,reduceSub,reduceMul,Nat.reduceBEq,reduceLT,reduceLeDiff,reduceCtorEq,reduceToNat,reduceNeg]
  refine cal_sub (rcount_ok g hg) sC ?_
  refine sB ?_
  rw [decide_eq_true (show countF g <= n by omega)]
 refine sB ?_
 rw [descE,if_pos (by omega)]
 exact sC
theorem rdrivers_all (g : Grid) (hg : GOk g) (n : Int) : FnEq Try.prog 31 [.agg (gridC false g),.int n] (.sl true 1 (ints (driversF g n))) := by
 have h3 := hg.count
 by_cases hE : 0 <= n /\ n < countF g
 ·rw [drivers_eq hg]
  exact rdrivers_ok g hg n (by omega)
 ·have hD := rdesc_all g hg n
  have e : descE g n = (⟨0,0,0,0⟩,1) := by rw [descE,if_pos (by omega)]
  have e2 : driversF g n = [] := by rw [drivers_eq hg,rdrF,e]; rfl
  refine FnEq.of_awp Try.func31 ok31 (by show 2 <= _; decide) (by simp only [push_cast,reduceIte,reduceEqDiff,reduceAdd,reduceSub,reduceMul,Nat.reduceBEq,reduceLT,reduceLeDiff,reduceCtorEq,reduceToNat,reduceNeg] <;> first | exact fun _ _ => trivial | simp) ?_
  simp only [ac31,rv31,push_cast,reduceIte,reduceEqDiff,reduceAdd,reduceSub,reduceMul,Nat.reduceBEq,reduceLT,reduceLeDiff,reduceCtorEq,reduceToNat,reduceNeg]
  rw [e2]
  rw [e] at hD
  refine cal_sub hD sC ?_
  refine sB ?_
  refine loop_of (fun m st => m = 0 /\ st = ⟨[(2,.ptr 2 0),(5,.view 8 0 0),(6,.ptr 6 0),(7,.int 0)],[(2,gridC false g),(6,[.int 0,.int 0,.int 0,.int 0,.int 1])],[(8,⟨1,3,ints []⟩)],[]⟩) 0 ?_ ?_
  ·refine ⟨rfl,?_⟩
   refine sB ?_
   rfl
  ·rintro m st ⟨rfl,rfl⟩
   refine sB ?_
   refine cal_sub (rcount_ok g hg) sC ?_
   refine sB ?_
   refine grd_dec rfl (fun _ => ?_) fun h => absurd (by omega) h
   refine sB ?_
   refine cond_dec (fun h => absurd h (by decide)) fun _ => ?_
   simp
theorem rdrv_all (g : Grid) (hg : GOk g) (n : Int) : FnEq Try.prog 39 [.agg (gridC false g),.int n] (.int (driversF g n).length) := by
 refine FnEq.of_awp Try.func39 ok39 (by show 2 <= _; decide) (by simp only [push_cast,reduceIte,reduceEqDiff,reduceAdd,reduceSub,reduceMul,Nat.reduceBEq,reduceLT,reduceLeDiff,reduceCtorEq,reduceToNat,reduceNeg] <;> first | exact fun _ _ => trivial | simp) ?_
 simp only [ac39,rv39,push_cast,reduceIte,reduceEqDiff,reduceAdd,reduceSub,reduceMul,Nat.reduceBEq,reduceLT,reduceLeDiff,reduceCtorEq,reduceToNat,reduceNeg]
 refine cal_sub (rdrivers_all g hg n) sC ?_
 exact sC
theorem drv_out {g : Grid} (hg : GOk g) {n : Int} (h : ¬ (0 <= n /\ n < countF g)) : driversF g n = [] := by
 rw [drivers_eq hg,rdrF,descE,if_pos (show n < 0 \/ countF g <= n by omega)]
 rfl
theorem drvs_len {g : Grid} (hg : GOk g) (n : Int) : ((driversF g n).length : Int) <= 600000 := by
 have h3 := hg.count
 rw [drivers_eq hg,rdrF]
 split
 ·have := candN_len g (descE g n).1 (countF g).toNat
  omega
 ·simp
def RtUp (g : Grid) (r : Route) (k : Nat) : Prop := ∀ i,0 < i -> i < k -> (0 <= r.frm.getD i 0 /\ r.frm.getD i 0 < i) /\ r.nodes.getD (r.frm.getD i 0).toNat 0 ∈ driversF g (r.nodes.getD i 0)
theorem routeSh_iff {g : Grid} (hg : GOk g) {r : Route} : RouteSh g r ↔ (r.nodes ≠ [] /\ r.frm.length = r.nodes.length /\ r.frm.getD 0 0 = -1) /\ ((descE g (r.nodes.getD 0 0)).2 = 0 /\ driversF g (r.nodes.getD 0 0) = []) /\ RtUp g r r.nodes.length := by
 constructor
 ·rintro ⟨h1,h2,h3,h4,h5,h6⟩
  have h0 := h4 _ (getD_mem (l := r.nodes) (k := 0) (List.length_pos_iff.2 h1))
  exact ⟨⟨h1,h2,h3⟩,⟨by rw [descE,if_neg (by omega)],h5⟩,h6⟩
 ·rintro ⟨⟨h1,h2,h3⟩,⟨h4,h5⟩,h6⟩
  refine ⟨h1,h2,h3,fun x hx => ?_,h5,h6⟩
  obtain ⟨i,hi,rfl⟩ := getD_at hx
  by_cases e : i = 0
  ·subst e
   rw [descE] at h4
   split at h4
   ·cases h4
   ·omega
  ·refine Classical.byContradiction fun hn => ?_
   have := (h6 i (by omega) hi).2
   rw [drv_out hg hn] at this
   cases this
open Classical in
set_option maxHeartbeats 4000000 in
theorem rroute_ok (g : Grid) (hg : GOk g) (r : Route) (h1 : (r.nodes.length : Int) <= 1000000) (h2 : (r.frm.length : Int) <= 1000000) : FnEq Try.prog 59 [.agg (gridC false g),.agg (routeC false r)] (.bool (decide (RouteSh g r))) := by
 have e0 : ∀ (l : List Int) (j : Nat),l.getD j default = l.getD j 0 := fun _ _ => rfl
 have hiff := routeSh_iff hg (r := r)
 refine FnEq.of_awp Try.func59 ok59 (by show 2 <= _; decide) (by simp only [push_cast,reduceIte,reduceEqDiff,reduceAdd,reduceSub,reduceMul,Nat.reduceBEq,reduceLT,reduceLeDiff,reduceCtorEq,reduceToNat,reduceNeg] <;> first | exact fun _ _ => trivial | simp) ?_
 simp only [ac59,rv59,push_cast,reduceIte,reduceEqDiff,reduceAdd,reduceSub,reduceMul,Nat.reduceBEq,reduceLT,reduceLeDiff,reduceCtorEq,reduceToNat,reduceNeg]
 obtain ⟨B,hB⟩ : ∃ B,B = decide (¬ (r.nodes ≠ [] /\ r.frm.length = r.nodes.length /\ r.frm.getD 0 0 = -1)) := ⟨_,rfl⟩
 have hne : r.nodes ≠ [] ↔ 0 < r.nodes.length := List.length_pos_iff.symm
 refine cut_of ⟨[(2,.ptr 2 0),(3,.ptr 3 0),(26,.bool B)],[(2,gridC false g),(3,routeC false r)],[],[]⟩ ?_ ?_
 ·refine grd_decf rfl (fun e1 => ?_) fun e1 => ?_ <;> simp only [e0,push_cast,reduceIte,reduceEqDiff,reduceAdd,reduceSub,reduceMul,Nat.reduceBEq,reduceLT,reduceLeDiff,reduceCtorEq,reduceToNat,reduceNeg]
  ·rw [show B = true from by rw [hB]; exact decide_eq_true fun h => by have := hne.1 h.1; omega]
  ·refine grd_decf rfl (fun e2 => ?_) fun e2 => ?_ <;> simp only [e0,push_cast,reduceIte,reduceEqDiff,reduceAdd,reduceSub,reduceMul,Nat.reduceBEq,reduceLT,reduceLeDiff,reduceCtorEq,reduceToNat,reduceNeg]
   ·rw [show B = true from by rw [hB]; exact decide_eq_true fun h => e2 (by omega)]
   ·refine ⟨by omega,by omega,?_⟩
    rw [show B = decide (r.frm.getD 0 0 ≠ -1) from by rw [hB,decide_eq_decide,hne]; exact ⟨fun h q => h ⟨by omega,by omega,q⟩,fun h q => h q.2.2⟩]
 simp only [e0,push_cast,reduceIte,reduceEqDiff,reduceAdd,reduceSub,reduceMul,Nat.reduceBEq,reduceLT,reduceLeDiff,reduceCtorEq,reduceToNat,reduceNeg]
 refine cond_of (fun e => ?_) fun e => ?_
 ·rw [hB,decide_eq_true_eq] at e
  rw [decide_eq_false fun h => e (hiff.1 h).1]
 rw [hB,decide_eq_false_iff_not,Classical.not_not] at e
 have hn0 := hne.1 e.1
 have hD := rdesc_all g hg (r.nodes.getD 0 0)
 have hV := rdrv_all g hg (r.nodes.getD 0 0)
 refine ⟨by omega,by omega,?_⟩
 refine dcal_sub hD sC rfl ?_
 simp only [spottedC,push_cast,reduceIte,reduceEqDiff,reduceAdd,reduceSub,reduceMul,Nat.reduceBEq,reduceLT,reduceLeDiff,reduceCtorEq,reduceToNat,reduceNeg]
 obtain ⟨C,hC⟩ : ∃ C,C = decide (¬ ((descE g (r.nodes.getD 0 0)).2 = 0 /\ driversF g (r.nodes.getD 0 0) = [])) := ⟨_,rfl⟩
 refine dcut_of ⟨[(2,.ptr 2 0),(3,.ptr 3 0),(44,.bool C)],[(2,gridC false g),(3,routeC false r),(5,spottedC (descE g (r.nodes.getD 0 0)))],[],[]⟩ ?_ ?_
 ·refine dgrd_decf rfl (fun e1 => ?_) fun e1 => ?_ <;> simp only [e0,spottedC,push_cast,reduceIte,reduceEqDiff,reduceAdd,reduceSub,reduceMul,Nat.reduceBEq,reduceLT,reduceLeDiff,reduceCtorEq,reduceToNat,reduceNeg]
  ·rw [show C = true from by rw [hC]; exact decide_eq_true fun h => e1 h.1]
  ·refine ⟨by omega,by omega,?_⟩
   refine cal_sub hV sC ?_
   refine sB ?_
   rw [show C = decide (0 < ((driversF g (r.nodes.getD 0 0)).length : Int)) from by
    rw [hC,decide_eq_decide]
    exact ⟨fun h => by
     have : driversF g (r.nodes.getD 0 0) ≠ [] := fun q => h ⟨by omega,q⟩
     have := List.length_pos_iff.2 this
     omega,fun h q => by rw [q.2] at h; simp at h⟩]
 refine sB ?_
 refine cond_of (fun e1 => ?_) fun e1 => ?_
 ·rw [hC,decide_eq_true_eq] at e1
  rw [decide_eq_false fun h => e1 (hiff.1 h).2.1]
 rw [hC,decide_eq_false_iff_not,Classical.not_not] at e1
 refine loop_of (fun m st => ∃ k : Nat,(1 <= k /\ k <= r.nodes.length) /\ m = r.nodes.length - k /\ RtUp g r k /\ st = ⟨[(2,.ptr 2 0),(3,.ptr 3 0),(6,.int k)],[(2,gridC false g),(3,routeC false r)],[],[]⟩) (r.nodes.length - 1) ?_ ?_
 ·refine ⟨1,by omega,rfl,fun i h1 h2 => by omega,?_⟩
  refine sB ?_
  try rfl
 rintro m st ⟨k,hk,rfl,hup,rfl⟩
 simp only [e0,push_cast,reduceIte,reduceEqDiff,reduceAdd,reduceSub,reduceMul,Nat.reduceBEq,reduceLT,reduceLeDiff,reduceCtorEq,reduceToNat,reduceNeg]
 refine cond_dec (fun h => ?_) fun h => ?_
 ·obtain ⟨D,hD2⟩ : ∃ D,D = decide (¬ ((0 <= r.frm.getD k 0 /\ r.frm.getD k 0 < k) /\ r.nodes.getD (r.frm.getD k 0).toNat 0 ∈ driversF g (r.nodes.getD k 0))) := ⟨_,rfl⟩
  refine ⟨by omega,by omega,?_⟩
  refine dcut_of ⟨[(2,.ptr 2 0),(3,.ptr 3 0),(6,.int k),(86,.bool D)],[(2,gridC false g),(3,routeC false r)],[],[]⟩ ?_ ?_
  ·refine dgrd_decf rfl (fun q1 => ?_) fun q1 => ?_ <;> simp only [e0,push_cast,reduceIte,reduceEqDiff,reduceAdd,reduceSub,reduceMul,Nat.reduceBEq,reduceLT,reduceLeDiff,reduceCtorEq,reduceToNat,reduceNeg]
   ·rw [show D = true from by rw [hD2]; exact decide_eq_true fun h => by omega]
   ·refine ⟨by omega,by omega,?_⟩
    refine dgrd_decf rfl (fun q2 => ?_) fun q2 => ?_ <;> simp only [e0,push_cast,reduceIte,reduceEqDiff,reduceAdd,reduceSub,reduceMul,Nat.reduceBEq,reduceLT,reduceLeDiff,reduceCtorEq,reduceToNat,reduceNeg]
    ·rw [show D = true from by rw [hD2]; exact decide_eq_true fun h => by omega]
    ·refine ⟨by omega,by omega,?_⟩
     refine dcal_sub (rdrivers_all g hg (r.nodes.getD k 0)) sC rfl ?_
     simp only [e0,push_cast,reduceIte,reduceEqDiff,reduceAdd,reduceSub,reduceMul,Nat.reduceBEq,reduceLT,reduceLeDiff,reduceCtorEq,reduceToNat,reduceNeg]
     have hdl := drvs_len hg (r.nodes.getD k 0)
     repeat (refine And.intro (by omega) ?_)
     have hix := index_ok (driversF g (r.nodes.getD k 0)) (by omega) (r.nodes.getD (r.frm.getD k 0).toNat 0)
     refine cal_sub hix ⟨.slp _ _ _ _ (fun h => by cases h),.refl _,trivial⟩ ?_
     refine sB ?_
     rw [show D = decide (indexF (driversF g (r.nodes.getD k 0)) (r.nodes.getD (r.frm.getD k 0).toNat 0) < 0) from by
      rw [hD2,decide_eq_decide]
      unfold indexF
      split
      ·rename_i q3; exact ⟨fun q4 => absurd ⟨⟨by omega,by omega⟩,q3⟩ q4,fun q4 => by omega⟩
      ·rename_i q3; exact ⟨fun _ => by omega,fun _ q4 => q3 q4.2⟩]
  refine sB ?_
  refine cond_of (fun q => ?_) fun q => ?_
  ·rw [hD2,decide_eq_true_eq] at q
   rw [decide_eq_false fun h2 => q ((hiff.1 h2).2.2 k (by omega) (by omega))]
  ·rw [hD2,decide_eq_false_iff_not,Classical.not_not] at q
   refine ⟨by omega,_,?_,k + 1,by omega,rfl,fun i h1 h2 => ?_,?_⟩
   ·omega
   ·by_cases h3 : i = k
    ·subst h3; exact q
    ·exact hup i h1 (by omega)
   ·exact sC
 rw [decide_eq_true (hiff.2 ⟨e,e1,by rw [show r.nodes.length = k by omega]; exact hup⟩)]
structure FitsU (p : Packed) (g : Grid) (l : Layout) : Prop where
 len : l.pos.length = p.blocks.length
 fit : ∀ k,k < l.pos.length -> BlockFit g (p.blocks.getD k default) (l.pos.getD k 0) /\ l.pos.getD k 0 ∉ l.pos.take k
 sh : ∀ r ∈ l.routes,RouteSh g r
 nds : (flatN l.routes).Nodup
theorem fitsU_iff {p : Packed} {g : Grid} {l : Layout} : FitsU p g l ↔ FitsF p g l := by
 constructor
 ·rintro ⟨h1,h2,h3,h4⟩
  refine ⟨h1,fun z hz => ?_,(nodup_iff _).2 fun i hi => (h2 i hi).2,h3,h4⟩
  obtain ⟨i,hi,e⟩ := List.getElem_of_mem hz
  rw [List.getElem_zip] at e
  rw [List.length_zip] at hi
  have := (h2 i (by omega)).1
  rw [<- e]
  simpa [show i < p.blocks.length by omega,show i < l.pos.length by omega] using this
 ·rintro ⟨h1,h2,h3,h4,h5⟩
  refine ⟨h1,fun k hk => ⟨?_,(nodup_iff _).1 h3 k hk⟩,h4,h5⟩
  have := h2 (p.blocks[k]'(by omega),l.pos[k]) (List.mem_iff_getElem.2 ⟨k,by rw [List.length_zip]; omega,by rw [List.getElem_zip]⟩)
  simpa [show k < p.blocks.length by omega,hk] using this
theorem flatN_take {rs : List Route} {k : Nat} (h : k < rs.length) : flatN (rs.take (k + 1)) = flatN (rs.take k) ++ (rs.getD k default).nodes := by
 unfold flatN
 rw [List.take_add_one,List.getElem?_eq_getElem h,List.map_append,List.flatten_append,List.getD_eq_getElem?_getD,List.getElem?_eq_getElem h]
 simp
theorem flatN_split {rs : List Route} {k : Nat} (h : k < rs.length) : flatN rs = flatN (rs.take k) ++ ((rs.getD k default).nodes ++ flatN (rs.drop (k + 1))) := by
 rw [<- List.append_assoc,<- flatN_take h]
 unfold flatN
 rw [<- List.flatten_append,<- List.map_append,List.take_append_drop]
open Classical in
set_option maxHeartbeats 4000000 in
theorem rfits_ok (p : Packed) (g : Grid) (hg : GOk g) (l : Layout) (h1 : (l.pos.length : Int) <= 1000000) (h2 : (l.routes.length : Int) <= 1000000) (h3 : ∀ r ∈ l.routes, (r.nodes.length : Int) <= 1000000 /\ (r.frm.length : Int) <= 1000000) :
  FnEq Try.prog 37 [.agg (packC false p),.agg (gridC false g),.agg (layC false l)] (.bool (decide (FitsF p g l))) := by
 have hcn := hg.count
 have hiff := fitsU_iff (p := p) (g := g) (l := l)
 refine FnEq.of_awp Try.func37 ok37m (by show 3 <= _; decide) (by simp only [push_cast,reduceIte,reduceEqDiff,reduceAdd,reduceSub,reduceMul,Nat.reduceBEq,reduceLT,reduceLeDiff,reduceCtorEq,reduceToNat,reduceNeg] <;> first | exact fun _ _ => trivial | simp) ?_
 simp only [ac37m,rv37m,push_cast,reduceIte,reduceEqDiff,reduceAdd,reduceSub,reduceMul,Nat.reduceBEq,reduceLT,reduceLeDiff,reduceCtorEq,reduceToNat,reduceNeg]
 refine cond_dec (fun e => ?_) fun e => ?_
 ·rw [decide_eq_false fun h => by have := h.len; omega]
 have hlen : l.pos.length = p.blocks.length := by omega
 refine loop_of (fun m st => ∃ k : Nat,k <= l.pos.length /\ m = l.pos.length - k /\ (∀ i,i < k -> BlockFit g (p.blocks.getD i default) (l.pos.getD i 0) /\ l.pos.getD i 0 ∉ l.pos.take i) /\
  st = ⟨[(3,.ptr 3 0),(4,.ptr 4 0),(5,.ptr 5 0),(7,.int k)],[(3,packC false p),(4,gridC false g),(5,layC false l)],[],[]⟩) l.pos.length ?_ ?_
 ·refine ⟨0,by omega,by omega,fun i hi => by omega,?_⟩
  simp only [push_cast,reduceIte,reduceEqDiff,reduceAdd,reduceSub,reduceMul,Nat.reduceBEq,reduceLT,reduceLeDiff,reduceCtorEq,reduceToNat,reduceNeg]
  try done
 rintro m st ⟨k,hk,rfl,hup,rfl⟩
 have e0 : ∀ (l : List Int) (j : Nat),l.getD j default = l.getD j 0 := fun _ _ => rfl
 simp only [e0,push_cast,reduceIte,reduceEqDiff,reduceAdd,reduceSub,reduceMul,Nat.reduceBEq,reduceLT,reduceLeDiff,reduceCtorEq,reduceToNat,reduceNeg]
 refine cond_dec (fun h => ?_) fun h => ?_
 ·obtain ⟨C,hC⟩ : ∃ C,C = decide (¬ (BlockFit g (p.blocks.getD k default) (l.pos.getD k 0) /\ l.pos.getD k 0 ∉ l.pos.take k)) := ⟨_,rfl⟩
  repeat (refine And.intro (by omega) ?_)
  first | refine dcal_sub (rblock_ok g hg (p.blocks.getD k default) (l.pos.getD k 0)) (by exact ⟨.refl _,.refl _,.refl _,trivial⟩) rfl ?_ | refine cal_sub (rblock_ok g hg (p.blocks.getD k default) (l.pos.getD k 0)) (by exact ⟨.refl _,.refl _,.refl _,trivial⟩) ?_
  simp only [e0,push_cast,reduceIte,reduceEqDiff,reduceAdd,reduceSub,reduceMul,Nat.reduceBEq,reduceLT,reduceLeDiff,reduceCtorEq,reduceToNat,reduceNeg]
  refine dcut_of ⟨[(3,.ptr 3 0),(4,.ptr 4 0),(5,.ptr 5 0),(7,.int k),(50,.bool C)],[(3,packC false p),(4,gridC false g),(5,layC false l)],[],[]⟩ ?_ ?_
  ·refine dgrd_bf rfl (fun q1 => ?_) fun q1 => ?_ <;> simp only [e0,push_cast,reduceIte,reduceEqDiff,reduceAdd,reduceSub,reduceMul,Nat.reduceBEq,reduceLT,reduceLeDiff,reduceCtorEq,reduceToNat,reduceNeg]
   ·rw [show C = true from by rw [hC]; exact decide_eq_true fun h => not_dec q1 h.1]
   ·replace q1 := not_dec' q1
    repeat (refine And.intro (by omega) ?_)
    refine cal_sub (index_ok (l.pos.take k) (by rw [List.length_take]; omega) (l.pos.getD k 0)) sC ?_
    refine sB ?_
    rw [show C = decide (0 <= indexF (l.pos.take k) (l.pos.getD k 0)) from by
     rw [hC,decide_eq_decide]
     unfold indexF
     split
     ·rename_i q3; exact ⟨fun _ => by omega,fun _ h => h.2 q3⟩
     ·rename_i q3; exact ⟨fun h => absurd ⟨q1,q3⟩ h,fun h => by omega⟩]
  refine sB ?_
  refine cond_of (fun q => ?_) fun q => ?_
  ·rw [hC,decide_eq_true_eq] at q
   rw [decide_eq_false fun h2 => q ((hiff.2 h2).fit k (by omega))]
  ·rw [hC,decide_eq_false_iff_not,Classical.not_not] at q
   refine ⟨by omega,_,?_,k + 1,by omega,rfl,fun i hi => ?_,?_⟩
   ·omega
   ·by_cases h3 : i = k
    ·subst h3; exact q
    ·exact hup i (by omega)
   ·exact sC
 have hk2 : k = l.pos.length := by omega
 subst hk2
 refine cal_sub (rcount_ok g hg) sC ?_
 refine sB ?_
 repeat (refine And.intro (by omega) ?_)
 obtain ⟨c,hc⟩ : ∃ c : Nat,countF g = c := ⟨(countF g).toNat,by omega⟩
 rw [hc,Int.toNat_natCast,List.length_replicate,seenB_nil]
 refine loop_of (fun m st => ∃ k : Nat,k <= l.routes.length /\ m = l.routes.length - k /\ ((∀ i,i < k -> RouteSh g (l.routes.getD i default)) /\ (flatN (l.routes.take k)).Nodup) /\
  st = ⟨[(4,.ptr 4 0),(5,.ptr 5 0),(8,.view 53 0 c),(9,.int k)],[(4,gridC false g),(5,layC false l)],[(53,⟨1,4,rows boolC (seenB c (flatN (l.routes.take k)))⟩)],[]⟩) l.routes.length ?_ ?_
 ·refine ⟨0,by omega,by omega,⟨fun i hi => by omega,by simp [flatN]⟩,?_⟩
  simp only [List.take_zero,show flatN [] = [] from rfl,push_cast,reduceIte,reduceEqDiff,reduceAdd,reduceSub,reduceMul,Nat.reduceBEq,reduceLT,reduceLeDiff,reduceCtorEq,reduceToNat,reduceNeg]
  try done
 rintro m st ⟨k,hk,rfl,⟨hsh,hnd⟩,rfl⟩
 simp only [e0,push_cast,reduceIte,reduceEqDiff,reduceAdd,reduceSub,reduceMul,Nat.reduceBEq,reduceLT,reduceLeDiff,reduceCtorEq,reduceToNat,reduceNeg]
 refine cond_dec (fun h => ?_) fun h => ?_
 ·have hkl : k < l.routes.length := by omega
  have hrm : l.routes.getD k default ∈ l.routes := by simp [hkl]
  have hft := flatN_take hkl
  have hfs := flatN_split hkl
  have hrl := h3 _ hrm
  have hRt := rroute_ok g hg (l.routes.getD k default) hrl.1 hrl.2
  generalize hr : l.routes.getD k default = r at *
  repeat (refine And.intro (by omega) ?_)
  first | refine dcal_sub hRt (by exact ⟨.refl _,.refl _,trivial⟩) rfl ?_ | refine cal_sub hRt (by exact ⟨.refl _,.refl _,trivial⟩) ?_
  refine sB ?_
  refine cond_of (fun q => ?_) fun q => ?_
  ·rw [decide_eq_false fun h2 => not_dec q (h2.sh _ hrm)]
  replace q := not_dec' q
  generalize hF : flatN (l.routes.take k) = sn at *
  refine loop_of (fun m st => ∃ j : Nat,j <= r.nodes.length /\ m = r.nodes.length - j /\ (sn ++ r.nodes.take j).Nodup /\
   st = ⟨[(4,.ptr 4 0),(5,.ptr 5 0),(8,.view 53 0 c),(9,.int k),(10,.int j)],[(4,gridC false g),(5,layC false l)],[(53,⟨1,4,rows boolC (seenB c (sn ++ r.nodes.take j))⟩)],[]⟩) r.nodes.length ?_ ?_
  ·refine ⟨0,by omega,by omega,by simpa using hnd,?_⟩
   simp only [List.take_zero,List.append_nil,push_cast,reduceIte,reduceEqDiff,reduceAdd,reduceSub,reduceMul,Nat.reduceBEq,reduceLT,reduceLeDiff,reduceCtorEq,reduceToNat,reduceNeg]
   try done
  rintro m st ⟨j,hj,rfl,hnj,rfl⟩
  simp only [e0,hr,push_cast,reduceIte,reduceEqDiff,reduceAdd,reduceSub,reduceMul,Nat.reduceBEq,reduceLT,reduceLeDiff,reduceCtorEq,reduceToNat,reduceNeg]
  repeat (refine And.intro (by omega) ?_)
  refine cond_dec (fun h4 => ?_) fun h4 => ?_
  ·have hjl : j < r.nodes.length := by omega
   have hn := q.rng _ (getD_mem (l := r.nodes) (k := j) hjl)
   have ht := take_next (l := r.nodes) (k := j) hjl
   simp only [seenB_len,push_cast,reduceIte,reduceEqDiff,reduceAdd,reduceSub,reduceMul,Nat.reduceBEq,reduceLT,reduceLeDiff,reduceCtorEq,reduceToNat,reduceNeg]
   repeat (refine And.intro (by omega) ?_)
   rw [show ((seenB c (sn ++ List.take j r.nodes)).getD (r.nodes.getD j 0).toNat default) = decide (r.nodes.getD j 0 ∈ sn ++ List.take j r.nodes) from seenB_get (by omega) _]
   refine cond_dec (fun q2 => ?_) fun q2 => ?_
   ·rw [decide_eq_false fun h2 => ?_]
    have hN := (hiff.2 h2).nds
    rw [hfs,<- List.append_assoc] at hN
    have hsub : (sn ++ r.nodes.take (j + 1)).Sublist (sn ++ r.nodes ++ flatN (l.routes.drop (k + 1))) := (List.Sublist.append (List.Sublist.refl _) (List.take_sublist _ _)).trans (List.sublist_append_left _ _)
    have := hN.sublist hsub
    rw [ht,<- List.append_assoc,List.nodup_append] at this
    exact this.2.2 _ q2 _ (List.mem_singleton.2 rfl) rfl
   ·refine ⟨by omega,by omega,by omega,by omega,by omega,by omega,by omega,_,?_,j + 1,by omega,rfl,?_,?_⟩
    ·omega
    ·rw [ht,<- List.append_assoc,List.nodup_append]
     exact ⟨hnj,by simp,fun a ha b hb e => q2 (by rw [List.mem_singleton] at hb; subst hb; subst e; exact ha)⟩
    ·rw [ht,<- List.append_assoc,<- seenB_set (by omega)]
     exact sC
  rw [List.take_of_length_le (show r.nodes.length <= j by omega)] at hnj ⊢
  refine ⟨by omega,_,?_,k + 1,by omega,rfl,⟨fun i hi => ?_,?_⟩,?_⟩
  ·omega
  ·by_cases h5 : i = k
   ·subst h5; rw [hr]; exact q
   ·exact hsh i (by omega)
  ·rw [hft]; exact hnj
  ·rw [hft]
   exact sC
 have hk3 : k = l.routes.length := by omega
 subst hk3
 rw [List.take_length] at hnd
 rw [decide_eq_true (hiff.1 ⟨hlen,hup,fun r hr => ?_,hnd⟩)]
 obtain ⟨i,hi,rfl⟩ := List.getElem_of_mem hr
 have := hsh i hi
 simpa [hi] using this
theorem idxOf_countP {x : Int} : ∀ {l : List Int},l.Pairwise (· < ·) -> x ∈ l -> l.idxOf x = l.countP (· < x)
 | y :: l, hp, hx => by
   rw [List.pairwise_cons] at hp
   rw [List.idxOf_cons,List.countP_cons]
   by_cases e : y = x
   ·subst e
    have h0 : l.countP (· < y) = 0 := List.countP_eq_zero.2 fun z hz => by have := hp.1 z hz; simp; omega
    simp [h0]
   ·have hx' : x ∈ l := by
     rcases List.mem_cons.1 hx with h | h
     ·exact absurd h.symm e
     ·exact h
    have := hp.1 x hx'
    rw [idxOf_countP hp.2 hx',show (y == x) = false from by simpa using e,decide_eq_true this]
    rfl
theorem setBs_snoc (z : Block × Int) : ∀ (xs : List (Block × Int)) (c : Cfg),setBs c (xs ++ [z]) = blockSet (setBs c xs) z.1 z.2.toNat
 | [],_ => rfl
 | x :: xs,c => by rw [List.cons_append,setBs,setBs,setBs_snoc z xs]
theorem setBs_ln {g : Grid} : ∀ (xs : List (Block × Int)) {c : Cfg},CfgLn g c -> CfgLn g (setBs c xs)
 | [],_,h => h
 | x :: xs,_,h => setBs_ln xs (blockSet_len h)
theorem selRs_snoc (g : Grid) (r : Route) : ∀ (rs : List Route) (sel : List Int),selRs g sel (rs ++ [r]) = selR g (selRs g sel rs) r
 | [],_ => rfl
 | x :: rs,sel => by rw [List.cons_append,selRs,selRs,selRs_snoc g r rs]
def eiS (p : Packed) (g : Grid) (l : Layout) : St := ⟨[(3,.ptr 3 0),(4,.ptr 4 0),(5,.ptr 5 0),(6,.ptr 6 0),(20,.agg (gridC false g))],[(3,packC false p),(4,gridC false g),(5,layC false l),(6,[.nil,.nil,.nil,.nil,.int 0])],[],[]⟩
theorem rblanke_ok (p : Packed) (g : Grid) (hg : GOk g) (l : Layout) : FnM (Env.of Try.prog) 21 [.agg (gridC false g)] (eiS p g l) (fun v st' => v = .agg (wilV (blankF g)) /\ st' = { eiS p g l with a := wilA (blankF g) }) := by
 have h1 := hg.count
 have h2 := hg.wh
 have h3 := hg.kind
 refine FnM.dropB 201 (FnM.dropB 202 ?_)
 simp only [eiS,push_cast,reduceIte,reduceEqDiff,reduceAdd,reduceSub,reduceMul,Nat.reduceBEq,reduceLT,reduceLeDiff,reduceCtorEq,reduceToNat,reduceNeg]
 refine fnM_of 200 Try.func21 ok21_200w (by show 1 <= _; decide) rfl (by decide) ?_
 simp only [ac21_200w,rv21_200w,push_cast,reduceIte,reduceEqDiff,reduceAdd,reduceSub,reduceMul,Nat.reduceBEq,reduceLT,reduceLeDiff,reduceCtorEq,reduceToNat,reduceNeg]
 refine ⟨by omega,?_⟩
 refine dcal_sub (rcount_ok g hg) sC rfl ?_
 refine sB ?_
 refine ⟨by omega,by omega,by omega,by omega,?_,?_⟩
 ·simp [wilV,blankF]
  omega
 ·rw [show (g.w * g.h).toNat = g.kind.length by omega]
  simp only [wilA,blankF,List.length_replicate,push_cast,reduceIte,reduceEqDiff,reduceAdd,reduceSub,reduceMul,Nat.reduceBEq,reduceLT,reduceLeDiff,reduceCtorEq,reduceToNat,reduceNeg]
open Classical in
set_option maxHeartbeats 8000000 in
theorem rencode_ok (p : Packed) (g : Grid) (hg : GOk g) (l : Layout) (h1 : (l.pos.length : Int) <= 1000000) (h2 : (l.routes.length : Int) <= 1000000) (h3 : ∀ r ∈ l.routes, (r.nodes.length : Int) <= 1000000 /\ (r.frm.length : Int) <= 1000000) :
  FnEq Try.prog 14 [.agg (packC false p),.agg (gridC false g),.agg (layC false l)] (.agg (cfgC true (encF p g l).1 ++ [.int (encF p g l).2])) := by
 have hcn := hg.count
 have hkd := hg.kind
 have hwh := hg.wh
 have hF := rfits_ok p g hg l h1 h2 h3
 refine FnEq.of_awp Try.func14 ok14w (by show 3 <= _; decide) (by simp only [push_cast,reduceIte,reduceEqDiff,reduceAdd,reduceSub,reduceMul,Nat.reduceBEq,reduceLT,reduceLeDiff,reduceCtorEq,reduceToNat,reduceNeg] <;> first | exact fun _ _ => trivial | simp) ?_
 simp only [ac14w,rv14w,push_cast,reduceIte,reduceEqDiff,reduceAdd,reduceSub,reduceMul,Nat.reduceBEq,reduceLT,reduceLeDiff,reduceCtorEq,reduceToNat,reduceNeg]
 refine cal_sub hF (by exact ⟨.refl _,.refl _,.refl _,trivial⟩) ?_
 refine sB ?_
 refine cond_of (fun e => ?_) fun e => ?_
 ·rw [encF_not hg (not_dec e)]
  refine sB ?_
  exact ⟨rfl,rfl,rfl,rfl⟩
 have hf := not_dec' e
 rw [encF_fit hg hf]
 refine clm_eq (rblanke_ok p g hg l) ?_
 simp only [wilV,wilA,eiS,push_cast,reduceIte,reduceEqDiff,reduceAdd,reduceSub,reduceMul,Nat.reduceBEq,reduceLT,reduceLeDiff,reduceCtorEq,reduceToNat,reduceNeg]
 obtain ⟨zs,hzs⟩ : ∃ zs,zs = p.blocks.zip l.pos := ⟨_,rfl⟩
 have hzl : zs.length = l.pos.length := by rw [hzs,List.length_zip,<- hf.len]; omega
 refine loop_of (fun m st => ∃ k : Nat,k <= l.pos.length /\ m = l.pos.length - k /\ st = ⟨[(3,.ptr 3 0),(4,.ptr 4 0),(5,.ptr 5 0),(6,.ptr 6 0),(7,.ptr 7 0),(8,.int k)],[(3,packC false p),(4,gridC false g),(5,layC false l),(6,[.nil,.nil,.nil,.nil,.int 0]),(7,wilV (setBs (blankF g) (zs.take k)))],wilA (setBs (blankF g) (zs.take k)),[]⟩) l.pos.length ?_ ?_
 ·refine ⟨0,by omega,by omega,?_⟩
  simp only [wilV,wilA,List.take_zero,setBs,push_cast,reduceIte,reduceEqDiff,reduceAdd,reduceSub,reduceMul,Nat.reduceBEq,reduceLT,reduceLeDiff,reduceCtorEq,reduceToNat,reduceNeg]
  try done
 rintro m st ⟨k,hk,rfl,rfl⟩
 have e0 : ∀ (l : List Int) (j : Nat),l.getD j default = l.getD j 0 := fun _ _ => rfl
 have hln := setBs_ln (zs.take k) (blankF_len g)
 have hnx : k < l.pos.length -> setBs (blankF g) (zs.take (k + 1)) = blockSet (setBs (blankF g) (zs.take k)) (p.blocks.getD k default) (l.pos.getD k 0).toNat := fun h => by
  rw [List.take_add_one,List.getElem?_eq_getElem (by omega),Option.toList_some,setBs_snoc]
  simp only [hzs,List.getElem_zip]
  rw [List.getD_eq_getElem?_getD,List.getElem?_eq_getElem (by have := hf.len; omega),List.getD_eq_getElem?_getD,List.getElem?_eq_getElem h]
  rfl
 have hfit : k < l.pos.length -> BlockFit g (p.blocks.getD k default) (l.pos.getD k 0) := fun h => ((fitsU_iff.2 hf).fit k h).1
 generalize hc : setBs (blankF g) (zs.take k) = c at *
 obtain ⟨n1,n2,n3,n4⟩ := hln
 simp only [wilV,wilA,push_cast,reduceIte,reduceEqDiff,reduceAdd,reduceSub,reduceMul,Nat.reduceBEq,reduceLT,reduceLeDiff,reduceCtorEq,reduceToNat,reduceNeg]
 refine cond_dec (fun h => ?_) fun h => ?_
 ·have hkl : k < l.pos.length := by omega
  replace hnx := hnx hkl
  obtain ⟨⟨b1,b2,b3⟩,⟨b4,b5,b6⟩,b7⟩ := hfit hkl
  generalize hb : p.blocks.getD k default = b at *
  generalize ht : l.pos.getD k 0 = t at *
  obtain ⟨bi,bt,br,bg,bk⟩ := b
  simp only at b3 b4 b5 b6 b7 hnx
  simp only [e0,hb,ht,push_cast,reduceIte,reduceEqDiff,reduceAdd,reduceSub,reduceMul,Nat.reduceBEq,reduceLT,reduceLeDiff,reduceCtorEq,reduceToNat,reduceNeg]
  have hfl := hf.len
  repeat (refine And.intro (by omega) ?_)
  refine cond_dec (fun q1 => ?_) fun q1 => ?_
  ·refine ⟨by omega,by omega,by omega,by omega,by omega,_,?_,k + 1,by omega,rfl,?_⟩
   ·omega
   ·rw [hnx,blockSet,if_pos (show 0 <= br by omega)]
    simp only [wilV,wilA,List.length_set,push_cast,reduceIte,reduceEqDiff,reduceAdd,reduceSub,reduceMul,Nat.reduceBEq,reduceLT,reduceLeDiff,reduceCtorEq,reduceToNat,reduceNeg]
  refine cond_dec (fun q2 => ?_) fun q2 => ?_
  ·refine ⟨by omega,by omega,by omega,by omega,by omega,by omega,by omega,_,?_,k + 1,by omega,rfl,?_⟩
   ·omega
   ·rw [hnx,blockSet,if_neg (show ¬ 0 <= br by omega),if_pos (show 0 <= bg by omega)]
    simp only [wilV,wilA,List.length_set,push_cast,reduceIte,reduceEqDiff,reduceAdd,reduceSub,reduceMul,Nat.reduceBEq,reduceLT,reduceLeDiff,reduceCtorEq,reduceToNat,reduceNeg]
  ·refine ⟨by omega,by omega,by omega,by omega,by omega,_,?_,k + 1,by omega,rfl,?_⟩
   ·omega
   ·rw [hnx,blockSet,if_neg (show ¬ 0 <= br by omega),if_neg (show ¬ 0 <= bg by omega)]
    simp only [wilV,wilA,List.length_set,push_cast,reduceIte,reduceEqDiff,reduceAdd,reduceSub,reduceMul,Nat.reduceBEq,reduceLT,reduceLeDiff,reduceCtorEq,reduceToNat,reduceNeg]
 rw [List.take_of_length_le (by omega)] at hc
 have hcs : c.sel = List.replicate (countF g).toNat 0 := by rw [<- hc,setBs_sel]; rfl
 have hE : encC p g l = { c with sel := selRs g c.sel l.routes } := by rw [hcs,encC,<- hzs,hc]
 rw [hE]
 clear hfit hnx hc hE
 refine loop_of (fun m st => ∃ k : Nat,k <= l.routes.length /\ m = l.routes.length - k /\ st = ⟨[(4,.ptr 4 0),(5,.ptr 5 0),(6,.ptr 6 0),(7,.ptr 7 0),(11,.int k)],[(4,gridC false g),(5,layC false l),(6,[.nil,.nil,.nil,.nil,.int 0]),(7,wilV { c with sel := selRs g c.sel (l.routes.take k) })],wilA { c with sel := selRs g c.sel (l.routes.take k) },[]⟩) l.routes.length ?_ ?_
 ·refine ⟨0,by omega,by omega,?_⟩
  simp only [wilV,wilA,List.take_zero,selRs,push_cast,reduceIte,reduceEqDiff,reduceAdd,reduceSub,reduceMul,Nat.reduceBEq,reduceLT,reduceLeDiff,reduceCtorEq,reduceToNat,reduceNeg]
  try done
 rintro m st ⟨k,hk,rfl,rfl⟩
 simp only [wilV,wilA,push_cast,reduceIte,reduceEqDiff,reduceAdd,reduceSub,reduceMul,Nat.reduceBEq,reduceLT,reduceLeDiff,reduceCtorEq,reduceToNat,reduceNeg]
 refine cond_dec (fun h => ?_) fun h => ?_
 ·have hkl : k < l.routes.length := by omega
  have hrm : l.routes.getD k default ∈ l.routes := by simp [hkl]
  have hnx : selRs g c.sel (l.routes.take (k + 1)) = selN g (l.routes.getD k default) (selRs g c.sel (l.routes.take k)) (l.routes.getD k default).nodes.length := by
   rw [List.take_add_one,List.getElem?_eq_getElem hkl,Option.toList_some,selRs_snoc,List.getD_eq_getElem?_getD,List.getElem?_eq_getElem hkl]
   rfl
  have hsh := hf.sh _ hrm
  have hrl := h3 _ hrm
  have hS := selRs_len g (l.routes.take k) c.sel
  generalize hr : l.routes.getD k default = r at *
  generalize selRs g c.sel (l.routes.take k) = S at *
  have hne := List.length_pos_iff.2 hsh.ne
  have hfl := hsh.len
  repeat (refine And.intro (by omega) ?_)
  refine loop_of (fun m st => ∃ j : Nat,(1 <= j /\ j <= r.nodes.length) /\ m = r.nodes.length - j /\ st = ⟨[(4,.ptr 4 0),(5,.ptr 5 0),(6,.ptr 6 0),(7,.ptr 7 0),(11,.int k),(12,.ptr 12 0),(13,.int j)],[(4,gridC false g),(5,layC false l),(6,[.nil,.nil,.nil,.nil,.int 0]),(7,wilV { c with sel := selN g r S j }),(12,routeC false r)],wilA { c with sel := selN g r S j },[]⟩) (r.nodes.length - 1) ?_ ?_
  ·refine ⟨1,by omega,rfl,?_⟩
   simp only [wilV,wilA,hr,show selN g r S 1 = S from rfl,Int.zero_add,push_cast,reduceIte,reduceEqDiff,reduceAdd,reduceSub,reduceMul,Nat.reduceBEq,reduceLT,reduceLeDiff,reduceCtorEq,reduceToNat,reduceNeg]
   try done
  rintro m st ⟨j,hj,rfl,rfl⟩
  have hL := selN_len g r S j
  have hX : selN g r S (j + 1) = (selN g r S j).set (r.nodes.getD j 0).toNat (selAt g r j) := by rw [selN,if_neg (by omega)]
  generalize hT : selN g r S j = T at *
  simp only [wilV,wilA,e0,push_cast,reduceIte,reduceEqDiff,reduceAdd,reduceSub,reduceMul,Nat.reduceBEq,reduceLT,reduceLeDiff,reduceCtorEq,reduceToNat,reduceNeg]
  refine cond_dec (fun h4 => ?_) fun h4 => ?_
  ·have hjl : j < r.nodes.length := by omega
   have hn := hsh.rng _ (getD_mem (l := r.nodes) (k := j) hjl)
   obtain ⟨d1,d2⟩ := hsh.drv j (by omega) hjl
   have hdl := drvs_len hg (r.nodes.getD j 0)
   have hix := index_ok (driversF g (r.nodes.getD j 0)) (by omega) (r.nodes.getD (r.frm.getD j 0).toNat 0)
   have hI : indexF (driversF g (r.nodes.getD j 0)) (r.nodes.getD (r.frm.getD j 0).toNat 0) + 1 = selAt g r j := by
    rw [indexF,if_pos d2,idxOf_countP (driversF_ord g _) d2,selAt]
    omega
   have hle : 0 <= indexF (driversF g (r.nodes.getD j 0)) (r.nodes.getD (r.frm.getD j 0).toNat 0) /\ indexF (driversF g (r.nodes.getD j 0)) (r.nodes.getD (r.frm.getD j 0).toNat 0) <= (driversF g (r.nodes.getD j 0)).length := by
    rw [indexF,if_pos d2]
    have := List.idxOf_lt_length_of_mem d2
    omega
   generalize hnn : r.nodes.getD j 0 = n at *
   repeat (refine And.intro (by omega) ?_)
   first | refine dcal_sub (rdrivers_all g hg n) (by exact ⟨.refl _,.refl _,trivial⟩) rfl ?_ | refine cal_sub (rdrivers_all g hg n) (by exact ⟨.refl _,.refl _,trivial⟩) ?_
   simp only [e0,push_cast,reduceIte,reduceEqDiff,reduceAdd,reduceSub,reduceMul,Nat.reduceBEq,reduceLT,reduceLeDiff,reduceCtorEq,reduceToNat,reduceNeg]
   repeat (refine And.intro (by omega) ?_)
   refine dcal_sub hix (by exact ⟨.slp _ _ _ _ (fun h => by cases h),.refl _,trivial⟩) rfl ?_
   simp only [e0,push_cast,reduceIte,reduceEqDiff,reduceAdd,reduceSub,reduceMul,Nat.reduceBEq,reduceLT,reduceLeDiff,reduceCtorEq,reduceToNat,reduceNeg]
   repeat (refine And.intro (by omega) ?_)
   refine ⟨_,?_,j + 1,by omega,rfl,?_⟩
   ·omega
   ·rw [hX,<- hI,Int.add_comm 1]
    simp only [wilV,wilA,List.length_set,push_cast,reduceIte,reduceEqDiff,reduceAdd,reduceSub,reduceMul,Nat.reduceBEq,reduceLT,reduceLeDiff,reduceCtorEq,reduceToNat,reduceNeg]
  rw [show r.nodes.length = j by omega,hT] at hnx
  refine ⟨by omega,_,?_,k + 1,by omega,rfl,?_⟩
  ·omega
  ·rw [hnx]
   simp only [wilV,wilA,push_cast,reduceIte,reduceEqDiff,reduceAdd,reduceSub,reduceMul,Nat.reduceBEq,reduceLT,reduceLeDiff,reduceCtorEq,reduceToNat,reduceNeg]
 rw [List.take_of_length_le (by omega)]
 exact ⟨⟨fun _ _ => trivial,fun _ _ => trivial,fun _ _ => trivial,fun _ _ => trivial⟩,.refl _⟩
def refS (g : Grid) (c : Cfg) : Nat -> Int -> Int × Int
 | 0,_ => (0,50)
 | f + 1,n => if driversF g n = [] then (n,0) else if c.sel.getD n.toNat 0 = 0 then (0,4) else refS g c f ((driversF g n).getD (c.sel.getD n.toNat 0 - 1).toNat 0)
theorem refS_loop {g : Grid} {c : Cfg} {sn : List Int} (h : ∀ y ∈ sn,driversF g y ≠ [] /\ c.sel.getD y.toNat 0 ≠ 0 /\ (driversF g y).getD (c.sel.getD y.toNat 0 - 1).toNat 0 ∈ sn) : ∀ f,∀ y ∈ sn,refS g c f y = (0,50)
 | 0,_,_ => rfl
 | f + 1, y, hy => by
   obtain ⟨h1,h2,h3⟩ := h y hy
   rw [refS,if_neg h1,if_neg h2]
   exact refS_loop h f _ h3
theorem sourceS_ref {g : Grid} {c : Cfg} : ∀ (f : Nat) (sn : List Int) (n : Int) (_ : ∀ y ∈ sn,driversF g y ≠ [] /\ c.sel.getD y.toNat 0 ≠ 0 /\ ((driversF g y).getD (c.sel.getD y.toNat 0 - 1).toNat 0 ∈ sn \/ (driversF g y).getD (c.sel.getD y.toNat 0 - 1).toNat 0 = n)),sourceS g c f sn n = refS g c f n
 | 0,_,_,_ => rfl
 | f + 1, sn, n, h => by
   rw [sourceS]
   by_cases e : n ∈ sn
   ·rw [if_pos e]
    refine (refS_loop (sn := sn) (fun y hy => ?_) (f + 1) n e).symm
    obtain ⟨h1,h2,h3⟩ := h y hy
    exact ⟨h1,h2,h3.elim id fun q => q ▸ e⟩
   ·rw [if_neg e,refS]
    by_cases h1 : driversF g n = []
    ·rw [if_pos h1,if_pos h1]
    ·rw [if_neg h1,if_neg h1]
     by_cases h2 : c.sel.getD n.toNat 0 = 0
     ·rw [if_pos h2,if_pos h2]
     ·rw [if_neg h2,if_neg h2]
      refine sourceS_ref f _ _ fun y hy => ?_
      rw [List.mem_append,List.mem_singleton] at hy
      rcases hy with hy | rfl
      ·obtain ⟨q1,q2,q3⟩ := h y hy
       refine ⟨q1,q2,.inl ?_⟩
       rw [List.mem_append,List.mem_singleton]
       exact q3
      ·exact ⟨h1,h2,.inr rfl⟩
set_option maxHeartbeats 2000000 in
theorem rsource_ok (g : Grid) (hg : GOk g) (c : Cfg) (hc : SelsOk g c) (n : Int) : FnEq Try.prog 24 [.agg (gridC false g),.agg (cfgC false c),.int n] (.agg [.int (sourceF g c n).1,.int (sourceF g c n).2]) := by
 have hcn := hg.count
 have hl := hc.len
 have e0 : ∀ (l : List Int) (j : Nat),l.getD j default = l.getD j 0 := fun _ _ => rfl
 refine FnEq.of_awp Try.func24 ok24 (by show 3 <= _; decide) (by simp only [push_cast,reduceIte,reduceEqDiff,reduceAdd,reduceSub,reduceMul,Nat.reduceBEq,reduceLT,reduceLeDiff,reduceCtorEq,reduceToNat,reduceNeg] <;> first | exact fun _ _ => trivial | simp) ?_
 simp only [ac24,rv24,push_cast,reduceIte,reduceEqDiff,reduceAdd,reduceSub,reduceMul,Nat.reduceBEq,reduceLT,reduceLeDiff,reduceCtorEq,reduceToNat,reduceNeg]
 obtain ⟨B,hB⟩ : ∃ B,B = decide (¬ (0 <= n /\ n <= (c.sel.length : Int) - 1)) := ⟨_,rfl⟩
 refine cut_of ⟨[(2,.int n),(3,.ptr 3 0),(4,.ptr 4 0),(6,.ptr 6 0),(16,.bool B)],[(3,gridC false g),(4,cfgC false c),(6,[.int 0,.int 0])],[],[]⟩ ?_ ?_
 ·refine grd_decf rfl (fun h => ?_) fun h => ?_ <;> simp only [push_cast,reduceIte,reduceEqDiff,reduceAdd,reduceSub,reduceMul,Nat.reduceBEq,reduceLT,reduceLeDiff,reduceCtorEq,reduceToNat,reduceNeg]
  ·rw [hB,decide_eq_true (show ¬ (0 <= n /\ n <= (c.sel.length : Int) - 1) by omega)]
  ·refine cal_sub (rcount_ok g hg) sC ?_
   refine sB ?_
   rw [show B = decide (countF g <= n) from by rw [hB,decide_eq_decide]; omega]
 refine sB ?_
 refine cond_of (fun e => ?_) fun e => ?_
 ·rw [hB,decide_eq_true_eq] at e
  rw [sourceF,if_neg e]
  exact sC
 rw [hB,decide_eq_false_iff_not,Classical.not_not] at e
 rw [sourceF,if_pos e,sourceS_ref _ _ _ (by simp)]
 refine loop_of (fun m st => ∃ (k : Nat) (x : Int),k <= c.sel.length + 1 /\ m = c.sel.length + 1 - k /\ (0 <= x /\ x <= (c.sel.length : Int) - 1) /\ refS g c (c.sel.length + 1) n = refS g c (c.sel.length + 1 - k) x /\
  st = ⟨[(2,.int x),(3,.ptr 3 0),(4,.ptr 4 0),(6,.ptr 6 0),(7,.int k)],[(3,gridC false g),(4,cfgC false c),(6,[.int 0,.int 0])],[],[]⟩) (c.sel.length + 1) ?_ ?_
 ·refine ⟨0,n,by omega,by omega,e,rfl,?_⟩
  exact sC
 generalize refS g c (c.sel.length + 1) n = T
 rintro m st ⟨k,x,hk,rfl,hx,hR,rfl⟩
 refine sB ?_
 refine cal_sub (rcount_ok g hg) sC ?_
 refine sB ?_
 rw [hR]
 refine cond_dec (fun h => ?_) fun h => ?_
 ·obtain ⟨f,hf⟩ : ∃ f,c.sel.length + 1 - k = f + 1 := ⟨c.sel.length - k,by omega⟩
  rw [hf] at hR ⊢
  rw [refS]
  refine cal_sub (rdrivers_ok g hg x (by omega)) sC ?_
  rw [<- drivers_eq hg]
  simp only [e0,push_cast,reduceIte,reduceEqDiff,reduceAdd,reduceSub,reduceMul,Nat.reduceBEq,reduceLT,reduceLeDiff,reduceCtorEq,reduceToNat,reduceNeg]
  refine cond_dec (fun h1 => ?_) fun h1 => ?_
  ·rw [if_pos (List.length_eq_zero_iff.1 (by omega))]
   exact ⟨rfl,rfl⟩
  have hd : driversF g x ≠ [] := fun q => h1 (by rw [q]; rfl)
  rw [if_neg hd]
  refine ⟨by omega,by omega,?_⟩
  refine cond_dec (fun h2 => ?_) fun h2 => ?_
  ·rw [if_pos h2]
   exact ⟨rfl,rfl⟩
  have hs := hc.sel x.toNat (by omega) h2
  rw [Int.toNat_of_nonneg hx.1] at hs
  obtain ⟨k1,k2,k3⟩ := driverF_sel hg hc (n := x) (by omega) h2
  rw [refS,if_neg hd,if_neg h2,<- k1] at hR
  rw [<- k1,if_neg h2,<- hR]
  have hdl : ((driversF g x).length : Int) <= 600000 := by
   rw [drivers_eq hg,rdrF]
   split
   ·have := candN_len g (descE g x).1 (countF g).toNat
    omega
   ·simp
  refine ⟨by omega,by omega,by omega,by omega,by omega,by omega,_,?_,k + 1,driverF g c x,by omega,rfl,by omega,?_,?_⟩
  ·omega
  ·rw [show c.sel.length + 1 - (k + 1) = f by omega]
   exact hR
  ·exact sC
 rw [show c.sel.length + 1 - k = 0 by omega,refS]
 exact ⟨rfl,rfl⟩
end Go.Proofs.Ytledbjkolidhkaa
namespace Go.Proofs.Ytledbjkolidhkaa.Txt
open Go Go.Vc
set_option maxRecDepth 100000
def ac17v : AC :=
 (.seq (.reg [0,69,0,1,2] [
 (aO 3 (.box (.t 0))),(aO 4 (.box (.t 1))),(aO 6 (.alc [.nil,.nil,.nil,.nil]))])
 (.seq (.drw [0,69,2,3,4,6] [
 (eU 9 (.bsl 1 3 [zI] 0 []) [9] [13,17,21]),(eU 10 (.fa 0 (.t 3)) [] [9,13,17,21]),(eU 11 (.ld false 1 (.t 10)) [] [9,13,17,21]),(eU 12 (.app 1 3 8 (.t 9) (.t 11)) [12,9] [13,17,21]),(eU 13 (.bsl 1 3 [zI] 0 []) [13] [9,12,17,21]),(eU 14 (.fa 1 (.t 3)) [] [9,12,13,17,21]),(eU 15 (.ld false 1 (.t 14)) [] [9,12,13,17,21]),(eU 16 (.app 1 3 8 (.t 13) (.t 15)) [16,13] [17,21]),(eU 17 (.bsl 1 3 [zI] 0 []) [17] [9,12,13,16,21]),(eU 18 (.fa 2 (.t 3)) [] [9,12,13,16,17,21]),(eU 19 (.ld false 1 (.t 18)) [] [9,12,13,16,17,21]),(eU 20 (.app 1 3 8 (.t 17) (.t 19)) [20,17] [21]),(eU 21 (.bsl 1 3 [zI] 0 []) [21] [9,12,13,16,17,20]),(eU 22 (.fa 3 (.t 3)) [] [9,12,13,16,17,20,21]),(eU 23 (.ld false 1 (.t 22)) [] [9,12,13,16,17,20,21]),(eF 24 (.app 1 3 8 (.t 21) (.t 23))),(eF 25 (.xo (.bsx 1 [.nil]) [(.t 12),(.t 16),(.t 20),(.t 24)])),(eF 7 (.mv (.t 25)))])
 (.seq (.reg [0,69,2,4,6,7] [
 (aO 26 (.ixa 4 1 (.t 4) (kI 0))),(aO 27 (.ld false 1 (.t 26))),(aO 28 (.dvd .rem true .u8 (.t 27) (.c (.sc (.int .u8 4))))),(aO 29 (.cnv true .i64 (.t 28))),(aO 8 (.mv (.t 29)))])
 (.seq (.seq (.reg [0,69,2,4,6,7,8] [
 (aO 30 (.mv (.t 7))),(aO 31 (.mv (.t 8))),(aO 32 (.ixs 1 (.t 30) (.t 31))),(aO 33 (.ld false 1 (.t 32))),(aO 34 (.len (.t 33))),(aO 35 (.cmp .gtr .i64 (.t 34) (kI 0)))])
 (.cond (.t 35)
 (.drw [0,69,2,4,6,7,8] [
 (eT 36 (.mv (.t 7))),(eT 37 (.mv (.t 8))),(eT 38 (.ixs 1 (.t 36) (.t 37))),(eT 39 (.ld false 1 (.t 38))),(eT 40 (.ixa 4 1 (.t 4) (kI 1))),(eT 41 (.ld false 1 (.t 40))),(eT 42 (.cnv true .i64 (.t 41))),(eT 43 (.ari .mul true .i64 (kI 256) (.t 42))),(eT 44 (.ixa 4 1 (.t 4) (kI 2))),(eT 45 (.ld false 1 (.t 44))),(eT 46 (.cnv true .i64 (.t 45))),(eT 47 (.ari .add true .i64 (.t 43) (.t 46))),(eT 48 (.mv (.t 7))),(eT 49 (.mv (.t 8))),(eT 50 (.ixs 1 (.t 48) (.t 49))),(eT 51 (.ld false 1 (.t 50))),(eT 52 (.len (.t 51))),(eT 53 (.dvd .rem true .i64 (.t 47) (.t 52))),(eT 54 (.mv (.t 2))),(eF 55 (.ixs 1 (.t 39) (.t 53))),⟨(aN (.sto 1 (.t 55) (.t 54))),[],[],false⟩])
 .skip))
 (.seq (.drw [0,69,6,7] [
 (eT 56 (.mv (.t 7))),(eT 57 (.ixs 1 (.t 56) (kI 0))),(eT 58 (.ld false 1 (.t 57))),(eT 59 (.mv (.t 7))),(eT 60 (.ixs 1 (.t 59) (kI 1))),(eT 61 (.ld false 1 (.t 60))),(eT 62 (.mv (.t 7))),(eT 63 (.ixs 1 (.t 62) (kI 2))),(eT 64 (.ld false 1 (.t 63))),(eT 65 (.mv (.t 7))),(eT 66 (.ixs 1 (.t 65) (kI 3))),(eT 67 (.ld false 1 (.t 66))),(eF 68 (.bld [.nil,.nil,.nil,.nil] [(0,1,(.t 58)),(1,1,(.t 61)),(2,1,(.t 64)),(3,1,(.t 67))])),⟨(aN (.sto 4 (.t 6) (.t 68))),[],[],false⟩])
 .ret)))))
def rv17v : List RV := [.cell 6 true 4]
theorem ok17v : fnOk Try.prog ac17v rv17v Try.f17 = true := by kernel_rfl
end Go.Proofs.Ytledbjkolidhkaa.Txt
namespace Go.Proofs.Ytledbjkolidhkaa
open Go Go.Vc Txt
set_option maxHeartbeats 4000000 in
theorem changed_ok (c : Cfg) (hc : CfgSm c) (k0 k1 k2 k3 v : Int) (h0 : 0 <= k0 /\ k0 <= 255) (h1 : 0 <= k1 /\ k1 <= 255) (h2 : 0 <= k2 /\ k2 <= 255) :
  FnEq Try.prog 17 [.agg (cfgC false c),.agg [.sc (.int .u8 k0),.sc (.int .u8 k1),.sc (.int .u8 k2),.sc (.int .u8 k3)],.int v] (.agg (cfgC true (changedF c k0 k1 k2 v))) := by
 obtain ⟨s1,s2,s3,s4⟩ := hc
 refine FnEq.of_awp Try.func17 ok17v (by show 3 <= _; decide) (by simp only [push_cast,reduceIte,reduceEqDiff,reduceAdd,reduceSub,reduceMul,Nat.reduceBEq,reduceLT,reduceLeDiff,reduceCtorEq,reduceToNat,reduceNeg] <;> first | exact fun _ _ => trivial | simp) ?_
 have hk : k0 % 4 = 0 \/ k0 % 4 = 1 \/ k0 % 4 = 2 \/ k0 % 4 = 3 := by omega
 unfold changedF setJ pickJ
 rcases hk with e | e | e | e
 ·rw [if_pos (show k0 % 4 = 0 by omega)]
  simp only [ac17v,rv17v,push_cast,reduceIte,reduceEqDiff,reduceAdd,reduceSub,reduceMul,Nat.reduceBEq,reduceLT,reduceLeDiff,reduceCtorEq,reduceToNat,reduceNeg]
  simp only [e,List.replicate_zero,List.nil_append,List.length_nil,push_cast,reduceIte,reduceEqDiff,reduceAdd,reduceSub,reduceMul,Nat.reduceBEq,reduceLT,reduceLeDiff,reduceCtorEq,reduceToNat,reduceNeg]
  repeat (refine And.intro (by omega) ?_)
  refine cond_dec (fun h => ?_) fun h => ?_
  ·rw [if_pos (show 0 < c.sel.length by omega)]
   have t1 := Int.emod_lt_of_pos (256 * k1 + k2) (show 0 < (c.sel.length : Int) by omega)
   have t2 := Int.emod_nonneg (256 * k1 + k2) (show (c.sel.length : Int) ≠ 0 by omega)
   generalize (256 * k1 + k2) % (c.sel.length : Int) = t at *
   repeat (refine And.intro (by omega) ?_)
   rw [List.take_of_length_le (by simp)]
   exact ⟨⟨fun _ _ => trivial,fun _ _ => trivial,fun _ _ => trivial,fun _ _ => trivial⟩,.refl _⟩
  ·rw [if_neg (show ¬ 0 < c.sel.length by omega)]
   repeat (refine And.intro (by omega) ?_)
   exact ⟨⟨fun _ _ => trivial,fun _ _ => trivial,fun _ _ => trivial,fun _ _ => trivial⟩,.refl _⟩
 ·rw [if_neg (show ¬ k0 % 4 = 0 by omega),if_pos (show k0 % 4 = 1 by omega)]
  simp only [ac17v,rv17v,push_cast,reduceIte,reduceEqDiff,reduceAdd,reduceSub,reduceMul,Nat.reduceBEq,reduceLT,reduceLeDiff,reduceCtorEq,reduceToNat,reduceNeg]
  simp only [e,List.replicate_zero,List.nil_append,List.length_nil,push_cast,reduceIte,reduceEqDiff,reduceAdd,reduceSub,reduceMul,Nat.reduceBEq,reduceLT,reduceLeDiff,reduceCtorEq,reduceToNat,reduceNeg]
  repeat (refine And.intro (by omega) ?_)
  refine cond_dec (fun h => ?_) fun h => ?_
  ·rw [if_pos (show 0 < c.mode.length by omega)]
   have t1 := Int.emod_lt_of_pos (256 * k1 + k2) (show 0 < (c.mode.length : Int) by omega)
   have t2 := Int.emod_nonneg (256 * k1 + k2) (show (c.mode.length : Int) ≠ 0 by omega)
   generalize (256 * k1 + k2) % (c.mode.length : Int) = t at *
   repeat (refine And.intro (by omega) ?_)
   rw [List.take_of_length_le (by simp)]
   exact ⟨⟨fun _ _ => trivial,fun _ _ => trivial,fun _ _ => trivial,fun _ _ => trivial⟩,.refl _⟩
  ·rw [if_neg (show ¬ 0 < c.mode.length by omega)]
   repeat (refine And.intro (by omega) ?_)
   exact ⟨⟨fun _ _ => trivial,fun _ _ => trivial,fun _ _ => trivial,fun _ _ => trivial⟩,.refl _⟩
 ·rw [if_neg (show ¬ k0 % 4 = 0 by omega),if_neg (show ¬ k0 % 4 = 1 by omega),if_pos (show k0 % 4 = 2 by omega)]
  simp only [ac17v,rv17v,push_cast,reduceIte,reduceEqDiff,reduceAdd,reduceSub,reduceMul,Nat.reduceBEq,reduceLT,reduceLeDiff,reduceCtorEq,reduceToNat,reduceNeg]
  simp only [e,List.replicate_zero,List.nil_append,List.length_nil,push_cast,reduceIte,reduceEqDiff,reduceAdd,reduceSub,reduceMul,Nat.reduceBEq,reduceLT,reduceLeDiff,reduceCtorEq,reduceToNat,reduceNeg]
  repeat (refine And.intro (by omega) ?_)
  refine cond_dec (fun h => ?_) fun h => ?_
  ·rw [if_pos (show 0 < c.tab.length by omega)]
   have t1 := Int.emod_lt_of_pos (256 * k1 + k2) (show 0 < (c.tab.length : Int) by omega)
   have t2 := Int.emod_nonneg (256 * k1 + k2) (show (c.tab.length : Int) ≠ 0 by omega)
   generalize (256 * k1 + k2) % (c.tab.length : Int) = t at *
   repeat (refine And.intro (by omega) ?_)
   rw [List.take_of_length_le (by simp)]
   exact ⟨⟨fun _ _ => trivial,fun _ _ => trivial,fun _ _ => trivial,fun _ _ => trivial⟩,.refl _⟩
  ·rw [if_neg (show ¬ 0 < c.tab.length by omega)]
   repeat (refine And.intro (by omega) ?_)
   exact ⟨⟨fun _ _ => trivial,fun _ _ => trivial,fun _ _ => trivial,fun _ _ => trivial⟩,.refl _⟩
 ·rw [if_neg (show ¬ k0 % 4 = 0 by omega),if_neg (show ¬ k0 % 4 = 1 by omega),if_neg (show ¬ k0 % 4 = 2 by omega)]
  simp only [ac17v,rv17v,push_cast,reduceIte,reduceEqDiff,reduceAdd,reduceSub,reduceMul,Nat.reduceBEq,reduceLT,reduceLeDiff,reduceCtorEq,reduceToNat,reduceNeg]
  simp only [e,List.replicate_zero,List.nil_append,List.length_nil,push_cast,reduceIte,reduceEqDiff,reduceAdd,reduceSub,reduceMul,Nat.reduceBEq,reduceLT,reduceLeDiff,reduceCtorEq,reduceToNat,reduceNeg]
  repeat (refine And.intro (by omega) ?_)
  refine cond_dec (fun h => ?_) fun h => ?_
  ·rw [if_pos (show 0 < c.ram.length by omega)]
   have t1 := Int.emod_lt_of_pos (256 * k1 + k2) (show 0 < (c.ram.length : Int) by omega)
   have t2 := Int.emod_nonneg (256 * k1 + k2) (show (c.ram.length : Int) ≠ 0 by omega)
   generalize (256 * k1 + k2) % (c.ram.length : Int) = t at *
   repeat (refine And.intro (by omega) ?_)
   rw [List.take_of_length_le (by simp)]
   exact ⟨⟨fun _ _ => trivial,fun _ _ => trivial,fun _ _ => trivial,fun _ _ => trivial⟩,.refl _⟩
  ·rw [if_neg (show ¬ 0 < c.ram.length by omega)]
   repeat (refine And.intro (by omega) ?_)
   exact ⟨⟨fun _ _ => trivial,fun _ _ => trivial,fun _ _ => trivial,fun _ _ => trivial⟩,.refl _⟩
structure PLok (d : Packed × Layout) : Prop where
 pos : (d.2.pos.length : Int) <= 1000000
 rts : (d.2.routes.length : Int) <= 1000000
 nds : ∀ r ∈ d.2.routes,(r.nodes.length : Int) <= 1000000 /\ (r.frm.length : Int) <= 1000000
theorem encF_ln {p : Packed} {g : Grid} (hg : GOk g) {l : Layout} : CfgSm (encF p g l).1 := by
 by_cases h : FitsF p g l
 ·rw [encF_fit hg h]; exact cfgLn_sm hg (encC_len p g l)
 ·rw [encF_not hg h]; exact ⟨by decide,by decide,by decide,by decide⟩
theorem setM_len (l : List Int) (k v : Int) : (setM l k v).length = l.length := by simp [setM]
theorem spoilF_ok {d : Packed × Layout} {k0 k1 k2 v : Int} (h : PLok d) : PLok (spoilF d.1 d.2 k0 k1 k2 v) := by
 obtain ⟨p,l⟩ := d
 obtain ⟨h1,h2,h3⟩ := h
 simp only at h1 h2 h3
 unfold spoilF
 split
 ·exact ⟨by simp only [setM_len]; exact h1,h2,h3⟩
 ·split
  ·exact ⟨h1,h2,h3⟩
  ·split
   ·rename_i hl
    replace hl : 0 < l.routes.length := hl
    refine ⟨h1,by simp only [List.length_set]; exact h2,fun r hr => ?_⟩
    rcases List.mem_or_eq_of_mem_set hr with hr | rfl
    ·exact h3 r hr
    ·have hm : l.routes.getD (k1 % (l.routes.length : Int)).toNat default ∈ l.routes := by
      have t1 := Int.emod_lt_of_pos k1 (show 0 < (l.routes.length : Int) by omega)
      have t2 := Int.emod_nonneg k1 (show (l.routes.length : Int) ≠ 0 by omega)
      have : (k1 % (l.routes.length : Int)).toNat < l.routes.length := by omega
      simp [this]
     have := h3 _ hm
     unfold rtV
     split
     ·simp only [setM_len]; exact this
     ·simp only [setM_len]; exact this
   ·exact ⟨h1,h2,h3⟩
theorem wrap_i64 {x : Int} (h0 : -9223372036854775808 <= x) (h1 : x <= 9223372036854775807) : IntKind.wrap .i64 x = x := by
 unfold IntKind.wrap
 have h2 : (2 ^ IntKind.i64.bits : Int) = 18446744073709551616 := by decide
 have h4 : (2 ^ (IntKind.i64.bits - 1) : Int) = 9223372036854775808 := by decide
 have h3 : IntKind.i64.signed = true := rfl
 simp only [h2,h3,h4,Bool.true_and,decide_eq_true_eq]
 split <;> omega
theorem and_mask (a : Int) (k : Nat) (hk : k < 60) : 0 <= bitF .and .i64 a ((2 ^ k - 1 : Nat) : Int) /\ bitF .and .i64 a ((2 ^ k - 1 : Nat) : Int) < 2 ^ k := by
 have hp : 2 ^ k <= 2 ^ 60 := Nat.pow_le_pow_right (by decide) (by omega)
 have hp0 : 0 < 2 ^ k := Nat.pow_pos (by decide)
 have hb : (BitVec.ofInt IntKind.i64.bits a &&& BitVec.ofInt IntKind.i64.bits ((2 ^ k - 1 : Nat) : Int)).toNat < 2 ^ k := by
  have h3 : IntKind.i64.bits = 64 := rfl
  rw [h3,BitVec.toNat_and,BitVec.toNat_ofInt,BitVec.toNat_ofInt]
  have e2 : (((2 ^ k - 1 : Nat) : Int) % ((2 ^ 64 : Nat) : Int)).toNat = 2 ^ k - 1 := by
   have : 2 ^ 60 < 2 ^ 64 := by decide
   omega
  rw [e2,Nat.and_two_pow_sub_one_eq_mod]
  exact Nat.mod_lt _ hp0
 unfold bitF
 simp only
 have hp6 : (2 : Nat) ^ 60 < 9223372036854775807 := by decide
 rw [wrap_i64 (by omega) (by omega)]
 have : ((2 ^ k : Nat) : Int) = (2 : Int) ^ k := by simp
 omega
def desP (g : Grid) (d : Packed × Layout) : List PV := desC false g d.1 d.2
@[push_cast] theorem desP_eq (g : Grid) (d : Packed × Layout) : desP g d = desC false g d.1 d.2 := rfl
theorem desL (g : Grid) (d : Packed × Layout) : SubL (desC true g d.1 d.2) (desP g d) := by
 have sl : ∀ (es : Nat) (xs : List (List PV)),Sub (.sl true es xs) (.sl false es xs) := fun es xs => .slp _ _ _ _ (fun h => by cases h)
 exact ⟨.refl _,.refl _,.refl _,.refl _,sl _ _,sl _ _,Sub.slR 5 (fun h => by cases h) (SubR.map _ _ _ fun r _ => ⟨sl _ _,.refl _,.refl _,.refl _,.refl _,trivial⟩),sl _ _,sl _ _,sl _ _,
  Sub.slR 3 (fun h => by cases h) (SubR.map _ _ _ fun r _ => ⟨.refl _,sl _ _,sl _ _,trivial⟩),trivial⟩
theorem differ_len {c d : Cfg} (hc : CfgSm c) (hd : CfgSm d) : ((differF c d).1.length : Int) <= 1000000 /\ ((differF c d).2.length : Int) <= 1000000 := by
 obtain ⟨c1,c2,c3,c4⟩ := hc
 obtain ⟨d1,d2,d3,d4⟩ := hd
 rw [differF_at]
 have h1 := idxF_len (atN c.sel d.sel) (max c.sel.length d.sel.length)
 have h2 := idxF_len (tileN c d) (mostF c d)
 have h3 : (mostF c d : Int) <= 1000000 := by unfold mostF; omega
 refine ⟨?_,?_⟩
 ·show ((idxF (atN c.sel d.sel) (max c.sel.length d.sel.length)).length : Int) <= _
  omega
 ·show ((idxF (tileN c d) (mostF c d)).length : Int) <= _
  omega
theorem ints_self (a : List Int) (h : (a.length : Int) <= 1000000) : FnEq Try.prog 25 [.sl false 1 (ints a),.sl false 1 (ints a)] (.bool true) := by
 have := ints_ok a a h h
 rwa [decide_eq_true (show a = a from rfl)] at this
theorem packS (p : Packed) : Sub (.agg (packC true p)) (.agg (packC false p)) := by
 have sl : ∀ (es : Nat) (xs : List (List PV)),Sub (.sl true es xs) (.sl false es xs) := fun es xs => .slp _ _ _ _ (fun h => by cases h)
 exact Sub.aggL ⟨sl _ _,Sub.slR 5 (fun h => by cases h) (SubR.map _ _ _ fun r _ => ⟨sl _ _,.refl _,.refl _,.refl _,.refl _,trivial⟩),sl _ _,sl _ _,trivial⟩
theorem layS (l : Layout) : Sub (.agg (layC true l)) (.agg (layC false l)) := by
 have sl : ∀ (es : Nat) (xs : List (List PV)),Sub (.sl true es xs) (.sl false es xs) := fun es xs => .slp _ _ _ _ (fun h => by cases h)
 exact Sub.aggL ⟨sl _ _,Sub.slR 3 (fun h => by cases h) (SubR.map _ _ _ fun r _ => ⟨.refl _,sl _ _,sl _ _,trivial⟩),trivial⟩
theorem tileW_ok {g : Grid} {c : Cfg} (hl : CfgLn g c) {t0 : Nat} {b : Int} (hb : 0 <= b /\ b <= 255) (h : ∀ t,t < g.kind.length -> TileAt g c t) : ∀ t,t < g.kind.length -> TileAt g (tileW g c t0 b) t := by
 obtain ⟨l1,l2,l3,l4⟩ := hl
 intro t ht
 have h0 := h t ht
 unfold tileW
 split
 ·exact h0
 ·rename_i hk
  split
  ·unfold TileAt
   simp only [getD_set]
   by_cases e : t0 = t
   ·subst e
    rw [if_pos ⟨rfl,by omega⟩,if_pos ⟨rfl,by omega⟩,if_pos ⟨rfl,by omega⟩]
    refine ⟨by omega,?_,by simp; omega,by simp⟩
    unfold holdsF
    rw [if_neg hk]
    split <;> simp
   ·rw [if_neg (fun q => e q.1),if_neg (fun q => e q.1),if_neg (fun q => e q.1)]
    exact h0
  ·split
   ·unfold TileAt
    simp only [getD_set]
    by_cases e : t0 = t
    ·subst e
     rw [if_pos ⟨rfl,by omega⟩,if_pos ⟨rfl,by omega⟩,if_pos ⟨rfl,by omega⟩]
     refine ⟨by omega,?_,by simp; omega,by simp; omega⟩
     unfold holdsF
     rw [if_neg hk]
     split <;> simp
    ·rw [if_neg (fun q => e q.1),if_neg (fun q => e q.1),if_neg (fun q => e q.1)]
     exact h0
   ·exact h0
theorem wildN_tile {g : Grid} {l : List Int} (hb : ∀ x ∈ l,0 <= x /\ x <= 255) : ∀ j t,t < g.kind.length -> TileAt g (wildN g l j) t
 | 0, t, ht => by
   have e : ∀ n i,(List.replicate n (0 : Int)).getD i 0 = 0 := fun n i => by
    rw [List.getD_eq_getElem?_getD,List.getElem?_replicate]
    split <;> rfl
   unfold TileAt
   simp only [wildN,blankF,e]
   refine ⟨by omega,?_,by simp,by simp⟩
   unfold holdsF
   split
   ·simp
   ·split <;> simp
 | j + 1, t, ht => by
   have hx : ∀ i,0 <= l.getD i 0 /\ l.getD i 0 <= 255 := fun i => by
    by_cases h : i < l.length
    ·exact hb _ (getD_mem h)
    ·rw [List.getD_eq_getElem?_getD,List.getElem?_eq_none (by omega)]; decide
   have hs : ∀ t,t < g.kind.length -> TileAt g (selW g (wildN g l j) ((7 * ((2 * j : Nat) : Int) + l.getD (2 * j) 0) % ((wildN g l j).sel.length : Int)) (l.getD (2 * j + 1) 0)) t := fun t ht => by
    have := wildN_tile hb j t ht
    unfold selW
    split
    ·exact this
    ·exact this
   exact tileW_ok (selW_len (wildN_len g l j)) (hx _) hs t ht
theorem wild_valid {g : Grid} (hg : GOk g) {l : List Int} (hb : ∀ x ∈ l,0 <= x /\ x <= 255) : validE g (wildF g l) = 0 :=
 validE_yes (wildN_len g l _) (wild_sels hg l).sel (wildN_tile hb _)
set_option maxHeartbeats 8000000 in
theorem matches_ok (x : Raw31) (hx : x.By) (z : OddA) (hz : z.By) (hb : z.Bd) : FnEq Try.prog 3 [.agg (raw31C false x),.agg (oddC false z)] (.bool true) := by
 have hd := made_des hx
 have hg := (gridM_ok x.g).1
 have hM := made31_ok x hx
 generalize packM x = p at *
 generalize layM x = l at *
 generalize gridM x.g = g at *
 obtain ⟨hf,n1,n2,n3'⟩ := hd
 refine FnEq.of_awp Try.func3 ok3m (by show 2 <= _; decide) (by simp only [push_cast,reduceIte,reduceEqDiff,reduceAdd,reduceSub,reduceMul,Nat.reduceBEq,reduceLT,reduceLeDiff,reduceCtorEq,reduceToNat,reduceNeg] <;> first | exact fun _ _ => trivial | simp) ?_
 simp only [ac3m,rv3m,push_cast,reduceIte,reduceEqDiff,reduceAdd,reduceSub,reduceMul,Nat.reduceBEq,reduceLT,reduceLeDiff,reduceCtorEq,reduceToNat,reduceNeg]
 refine cal_eq examples_ok ?_
 refine sB ?_
 refine cal_sub (small_ok z hb) ⟨.refl _,trivial⟩ ?_
 refine sB ?_
 refine cond_of (fun e => ?_) fun e => ?_
 ·simp only [push_cast,reduceIte,reduceEqDiff,reduceAdd,reduceSub,reduceMul,Nat.reduceBEq,reduceLT,reduceLeDiff,reduceCtorEq,reduceToNat,reduceNeg]
  done
 have hs : sizeZ z <= 800 := not_dec' e
 have hm127 := and_mask z.v 7 (by decide)
 have hm31 := and_mask z.v 5 (by decide)
 have hm1023 := and_mask z.n 10 (by decide)
 replace hm127 : 0 <= bitF .and .i64 z.v 127 /\ bitF .and .i64 z.v 127 < 128 := hm127
 replace hm31 : 0 <= bitF .and .i64 z.v 31 /\ bitF .and .i64 z.v 31 < 32 := hm31
 replace hm1023 : 0 <= bitF .and .i64 z.n 1023 /\ bitF .and .i64 z.n 1023 < 1024 := hm1023
 generalize hv1 : bitF .and .i64 z.v 127 = v1 at *
 generalize hv2 : bitF .and .i64 z.v 31 = v2 at *
 generalize hn3 : bitF .and .i64 z.n 1023 = n3 at *
 have hrts : ∀ r ∈ l.routes,0 < r.nodes.length /\ r.frm.length = r.nodes.length /\ (r.nodes.length : Int) <= 1000000 := fun r hr => ⟨List.length_pos_iff.2 (hf.sh r hr).ne,(hf.sh r hr).len,by have := n3' r hr; omega⟩
 have hpl := hf.len
 have gS : Sub (.agg (gridC true g)) (.agg (gridC false g)) := Sub.aggL ⟨.refl _,.refl _,.refl _,.refl _,.slp _ _ _ _ (fun h => by cases h),trivial⟩
 have cS : ∀ c : Cfg,Sub (.agg (cfgC true c)) (.agg (cfgC false c)) := fun c => Sub.aggL ⟨.slp _ _ _ _ (fun h => by cases h),.slp _ _ _ _ (fun h => by cases h),.slp _ _ _ _ (fun h => by cases h),.slp _ _ _ _ (fun h => by cases h),trivial⟩
 have sl : ∀ xs : List Int,Sub (.sl true 1 (ints xs)) (.sl false 1 (ints xs)) := fun xs => .slp _ _ _ _ (fun h => by cases h)
 have sp1 := spoiled_ok g p l (by omega) (by omega) (by omega) hrts z.k0 z.k1 z.k2 z.k3 (v1 - 2) hz.k0 hz.k1 hz.k2
 have sp2 := spoiled_ok g p l (by omega) (by omega) (by omega) hrts z.k0 z.k1 z.k2 z.k3 z.v hz.k0 hz.k1 hz.k2
 have hP0 : PLok (p,l) := ⟨by show (l.pos.length : Int) <= _; omega,by show (l.routes.length : Int) <= _; omega,fun r hr => by obtain ⟨a1,a2,a3⟩ := hrts r hr; omega⟩
 have hP1 := spoilF_ok (v := v1 - 2) (k0 := z.k0) (k1 := z.k1) (k2 := z.k2) hP0
 have hP2 := spoilF_ok (v := z.v) (k0 := z.k0) (k1 := z.k1) (k2 := z.k2) hP0
 have hP3 : PLok (⟨[],z.blocks,[],[]⟩,z.l) := by
  unfold sizeZ baseZ at hs
  have hsl := sizeL_len z.l.routes
  refine ⟨by show (z.l.pos.length : Int) <= _; omega,by show (z.l.routes.length : Int) <= _; omega,fun r hr => ?_⟩
  have : 1 + r.nodes.length + r.frm.length <= sizeL z.l.routes := sizeL_mem hr
  omega
 simp only at hP1 hP2
 generalize spoilF p l z.k0 z.k1 z.k2 (v1 - 2) = d1 at *
 generalize spoilF p l z.k0 z.k1 z.k2 z.v = d2 at *
 refine cal_eq hM ?_
 simp only [hv1,push_cast,reduceIte,reduceEqDiff,reduceAdd,reduceSub,reduceMul,Nat.reduceBEq,reduceLT,reduceLeDiff,reduceCtorEq,reduceToNat,reduceNeg]
 refine ⟨by omega,?_⟩
 refine cal_sub sp1 ⟨.refl _,.refl _,.refl _,trivial⟩ ?_
 refine sB ?_
 first | refine dcal_sub sp2 (by exact ⟨.refl _,.refl _,.refl _,trivial⟩) rfl ?_ | refine cal_sub sp2 (by exact ⟨.refl _,.refl _,.refl _,trivial⟩) ?_
 refine sB ?_
 refine wk_of ⟨[(3,.ptr 3 0),(5,.bool true),(6,.ptr 6 0),(7,.ptr 7 0),(9,.view 55 0 4),(10,.int 0)],[(2,raw31C false x),(3,oddC false z),(6,desC true g p l),(7,gridC true g),(8,desC true g d1.1 d1.2)],[(55,⟨11,47,rows (desP g) [(p,l),d1,d2,(⟨[],z.blocks,[],[]⟩,z.l)]⟩)],[]⟩ ?_ ?_
 ·simp only [List.cons_append,List.nil_append,push_cast,reduceIte,reduceEqDiff,reduceAdd,reduceSub,reduceMul,Nat.reduceBEq,reduceLT,reduceLeDiff,reduceCtorEq,reduceToNat,reduceNeg]
  have sl : ∀ (es : Nat) (xs : List (List PV)),Sub (.sl true es xs) (.sl false es xs) := fun es xs => .slp _ _ _ _ (fun h => by cases h)
  exact ⟨desL g (p,l),desL g d1,desL g d2,⟨.refl _,.refl _,.refl _,.refl _,sl _ _,.nil _ _,.refl _,.nil _ _,.nil _ _,.refl _,.refl _,trivial⟩,trivial⟩
 obtain ⟨ds,hds⟩ : ∃ ds,ds = [(p,l),d1,d2,((⟨[],z.blocks,[],[]⟩ : Packed),z.l)] := ⟨_,rfl⟩
 have hdl : ds.length = 4 := by rw [hds]; rfl
 have hdp : ∀ k,k < 4 -> PLok (ds.getD k default) := fun k hk => by
  rw [hds]
  obtain rfl | rfl | rfl | rfl : k = 0 \/ k = 1 \/ k = 2 \/ k = 3 := by omega
  ·exact hP0
  ·exact hP1
  ·exact hP2
  ·exact hP3
 rw [<- hds]
 clear hP1 hP2 hP3 sp1 sp2
 refine loop_of (fun m st => ∃ k : Nat,k <= 4 /\ m = 4 - k /\ st = ⟨[(3,.ptr 3 0),(5,.bool true),(6,.ptr 6 0),(7,.ptr 7 0),(9,.view 55 0 4),(10,.int k)],[(3,oddC false z),(6,desC true g p l),(7,gridC true g)],[(55,⟨11,47,rows (desP g) ds⟩)],[]⟩) 4 ?_ ?_
 ·refine ⟨0,by omega,by omega,?_⟩
  simp only [push_cast,reduceIte,reduceEqDiff,reduceAdd,reduceSub,reduceMul,Nat.reduceBEq,reduceLT,reduceLeDiff,reduceCtorEq,reduceToNat,reduceNeg]
  try done
 rintro m st ⟨k,hk,rfl,rfl⟩
 simp only [hdl,push_cast,reduceIte,reduceEqDiff,reduceAdd,reduceSub,reduceMul,Nat.reduceBEq,reduceLT,reduceLeDiff,reduceCtorEq,reduceToNat,reduceNeg]
 refine cond_dec (fun h => ?_) fun h => ?_
 ·have hkp := hdp k (by omega)
  have hE := encoded_ok (ds.getD k default).1 g hg (ds.getD k default).2 hkp.pos hkp.rts fun r hr => (hkp.nds r hr).1
  have hR := rencode_ok (ds.getD k default).1 g hg (ds.getD k default).2 hkp.pos hkp.rts hkp.nds
  have hL := encF_ln (p := (ds.getD k default).1) hg (l := (ds.getD k default).2)
  generalize hdk : ds.getD k default = d at *
  repeat (refine And.intro (by omega) ?_)
  first | refine dcal_sub hE (by exact ⟨.refl _,trivial⟩) rfl ?_ | refine cal_sub hE (by exact ⟨.refl _,trivial⟩) ?_
  simp only [hdk,push_cast,reduceIte,reduceEqDiff,reduceAdd,reduceSub,reduceMul,Nat.reduceBEq,reduceLT,reduceLeDiff,reduceCtorEq,reduceToNat,reduceNeg]
  repeat (refine And.intro (by omega) ?_)
  first | refine dcal_sub hR (by exact ⟨.refl _,gS,.refl _,trivial⟩) rfl ?_ | refine cal_sub hR (by exact ⟨.refl _,gS,.refl _,trivial⟩) ?_
  refine sB ?_
  have hSm := same_ok (encF d.1 g d.2).1 (encF d.1 g d.2).1 hL hL
  rw [decide_eq_true (show (encF d.1 g d.2).1 = (encF d.1 g d.2).1 from rfl)] at hSm
  refine cut_of ⟨[(3,.ptr 3 0),(5,.bool true),(6,.ptr 6 0),(7,.ptr 7 0),(9,.view 55 0 4),(10,.int k),(91,.bool false)],[(3,oddC false z),(6,desC true g p l),(7,gridC true g),(11,cfgC true (encF d.1 g d.2).1 ++ [.int (encF d.1 g d.2).2]),(12,cfgC true (encF d.1 g d.2).1 ++ [.int (encF d.1 g d.2).2])],[(55,⟨11,47,rows (desP g) ds⟩)],[]⟩ ?_ ?_
  ·refine grd_decf rfl (fun e => absurd rfl e) fun _ => ?_
   refine sB ?_
   refine cal_sub hSm ⟨cS _,cS _,trivial⟩ ?_
   simp only [push_cast,reduceIte,reduceEqDiff,reduceAdd,reduceSub,reduceMul,Nat.reduceBEq,reduceLT,reduceLeDiff,reduceCtorEq,reduceToNat,reduceNeg]
   done
  refine sB ?_
  refine ⟨by omega,_,?_,k + 1,by omega,rfl,?_⟩
  ·omega
  ·exact sC
 clear hdp hds hdl
 have hR0 := rencode_ok p g hg l hP0.pos hP0.rts hP0.nds
 rw [encF_fit hg hf] at hR0
 have hw := wild_ok g hg z.b hz.bl hz.b
 have hwv := wild_valid hg hz.b
 have hws := wild_sels hg z.b
 have hwl : CfgLn g (wildF g z.b) := wildN_len _ _ _
 have hcs := encC_sels hg hf
 have hcl := encC_len p g l
 generalize wildF g z.b = w at *
 generalize encC p g l = c at *
 have hcm := cfgLn_sm hg hcl
 have hwm := cfgLn_sm hg hwl
 have hch := changed_ok w hwm z.k0 z.k1 z.k2 z.k3 (v2 - 1) hz.k0 hz.k1 hz.k2
 have hom := cfgLn_sm hg (changedF_len hwl z.k0 z.k1 z.k2 (v2 - 1))
 generalize changedF w z.k0 z.k1 z.k2 (v2 - 1) = o at *
 have hzc : CfgSm z.c := by unfold sizeZ baseZ at hs; exact ⟨by omega,by omega,by omega,by omega⟩
 have hzd : CfgSm z.d := by unfold sizeZ baseZ at hs; exact ⟨by omega,by omega,by omega,by omega⟩
 refine dcal_sub hR0 (by exact ⟨packS p,gS,layS l,trivial⟩) rfl ?_
 refine sB ?_
 first | refine dcal_sub hw (by exact ⟨gS,.refl _,trivial⟩) rfl ?_ | refine cal_sub hw (by exact ⟨gS,.refl _,trivial⟩) ?_
 simp only [hv2,push_cast,reduceIte,reduceEqDiff,reduceAdd,reduceSub,reduceMul,Nat.reduceBEq,reduceLT,reduceLeDiff,reduceCtorEq,reduceToNat,reduceNeg]
 refine ⟨by omega,?_⟩
 refine cal_sub hch ⟨cS _,.refl _,.refl _,trivial⟩ ?_
 refine sB ?_
 have V1 := valid_ok g hg o hom
 have V2 := rvalid_ok g hg o hom
 have V3 := valid_ok g hg z.c hzc
 have V4 := rvalid_ok g hg z.c hzc
 have V5 := valid_ok g hg w hwm
 rw [hwv] at V5
 first | refine dcal_sub V1 (by exact ⟨gS,cS _,trivial⟩) rfl ?_ | refine cal_sub V1 (by exact ⟨gS,cS _,trivial⟩) ?_
 refine sB ?_
 first | refine dcal_sub V2 (by exact ⟨gS,cS _,trivial⟩) rfl ?_ | refine cal_sub V2 (by exact ⟨gS,cS _,trivial⟩) ?_
 refine sB ?_
 refine dcut_of ⟨[(3,.ptr 3 0),(5,.bool true),(7,.ptr 7 0),(13,.ptr 13 0),(14,.ptr 14 0),(15,.ptr 15 0),(142,.bool false)],[(3,oddC false z),(6,desC true g p l),(7,gridC true g),(13,cfgC true c),(14,cfgC true w),(15,cfgC true o)],[(55,⟨11,47,rows (desP g) ds⟩)],[]⟩ ?_ ?_
 ·refine dgrd_decf rfl (fun e => absurd rfl e) fun _ => ?_
  refine sB ?_
  first | refine dcal_sub V3 (by exact ⟨gS,.refl _,trivial⟩) rfl ?_ | refine cal_sub V3 (by exact ⟨gS,.refl _,trivial⟩) ?_
  refine sB ?_
  first | refine dcal_sub V4 (by exact ⟨gS,.refl _,trivial⟩) rfl ?_ | refine cal_sub V4 (by exact ⟨gS,.refl _,trivial⟩) ?_
  refine sB ?_
  refine dgrd_decf rfl (fun e => absurd rfl e) fun _ => ?_
  refine sB ?_
  first | refine dcal_sub V5 (by exact ⟨gS,cS _,trivial⟩) rfl ?_ | refine cal_sub V5 (by exact ⟨gS,cS _,trivial⟩) ?_
  refine sB ?_
  refine dgrd_decf rfl (fun e => absurd rfl e) fun _ => ?_
  refine sB ?_
  first | refine dcal_sub (blank_ok g hg) (by exact ⟨gS,trivial⟩) rfl ?_ | refine cal_sub (blank_ok g hg) (by exact ⟨gS,trivial⟩) ?_
  refine sB ?_
  first | refine dcal_sub (rblank_ok g hg) (by exact ⟨gS,trivial⟩) rfl ?_ | refine cal_sub (rblank_ok g hg) (by exact ⟨gS,trivial⟩) ?_
  refine sB ?_
  have hSb := same_ok (blankF g) (blankF g) (cfgLn_sm hg (blankF_len g)) (cfgLn_sm hg (blankF_len g))
  rw [decide_eq_true (show blankF g = blankF g from rfl)] at hSb
  first | refine dcal_sub hSb (by exact ⟨cS _,cS _,trivial⟩) rfl ?_ | refine cal_sub hSb (by exact ⟨cS _,cS _,trivial⟩) ?_
  exact sC
 refine sB ?_
 have hcnt := hg.count
 first | refine dcal_sub (rcount_ok g hg) (by exact ⟨gS,trivial⟩) rfl ?_ | refine cal_sub (rcount_ok g hg) (by exact ⟨gS,trivial⟩) ?_
 refine sB ?_
 simp only [hn3,push_cast,reduceIte,reduceEqDiff,reduceAdd,reduceSub,reduceMul,Nat.reduceBEq,reduceLT,reduceLeDiff,reduceCtorEq,reduceToNat,reduceNeg]
 refine ⟨by omega,?_⟩
 first | refine dcal_sub (lsource_ok g hg c hcs (n3 % countF g)) (by exact ⟨gS,cS _,.refl _,trivial⟩) rfl ?_ | refine cal_sub (lsource_ok g hg c hcs (n3 % countF g)) (by exact ⟨gS,cS _,.refl _,trivial⟩) ?_
 refine sB ?_
 first | refine dcal_sub (rsource_ok g hg c hcs (n3 % countF g)) (by exact ⟨gS,cS _,.refl _,trivial⟩) rfl ?_ | refine cal_sub (rsource_ok g hg c hcs (n3 % countF g)) (by exact ⟨gS,cS _,.refl _,trivial⟩) ?_
 refine sB ?_
 first | refine dcal_sub (lsource_ok g hg w hws (n3 % countF g)) (by exact ⟨gS,cS _,.refl _,trivial⟩) rfl ?_ | refine cal_sub (lsource_ok g hg w hws (n3 % countF g)) (by exact ⟨gS,cS _,.refl _,trivial⟩) ?_
 refine sB ?_
 first | refine dcal_sub (rsource_ok g hg w hws (n3 % countF g)) (by exact ⟨gS,cS _,.refl _,trivial⟩) rfl ?_ | refine cal_sub (rsource_ok g hg w hws (n3 % countF g)) (by exact ⟨gS,cS _,.refl _,trivial⟩) ?_
 refine sB ?_
 first | refine dcal_sub (lsource_ok g hg w hws z.n) (by exact ⟨gS,cS _,.refl _,trivial⟩) rfl ?_ | refine cal_sub (lsource_ok g hg w hws z.n) (by exact ⟨gS,cS _,.refl _,trivial⟩) ?_
 refine sB ?_
 first | refine dcal_sub (rsource_ok g hg w hws z.n) (by exact ⟨gS,cS _,.refl _,trivial⟩) rfl ?_ | refine cal_sub (rsource_ok g hg w hws z.n) (by exact ⟨gS,cS _,.refl _,trivial⟩) ?_
 refine sB ?_
 first | refine dcal_sub (used_ok g w hwm.sel) (by exact ⟨gS,cS _,trivial⟩) rfl ?_ | refine cal_sub (used_ok g w hwm.sel) (by exact ⟨gS,cS _,trivial⟩) ?_
 refine sB ?_
 first | refine dcal_sub (rused_ok g w hwm.sel) (by exact ⟨gS,cS _,trivial⟩) rfl ?_ | refine cal_sub (rused_ok g w hwm.sel) (by exact ⟨gS,cS _,trivial⟩) ?_
 refine sB ?_
 have hul : (usedF w.sel).length <= w.sel.length := idxF_len _ _
 have hI := ints_ok (usedF w.sel) (usedF w.sel) (by have := hwm.sel; omega) (by have := hwm.sel; omega)
 rw [decide_eq_true (show usedF w.sel = usedF w.sel from rfl)] at hI
 first | refine dcal_sub hI (by exact ⟨sl _,sl _,trivial⟩) rfl ?_ | refine cal_sub hI (by exact ⟨sl _,sl _,trivial⟩) ?_
 refine sB ?_
 have q1 := differ_len hcm hom
 have q2 := differ_len hzc hzd
 have D1 := ldiffer_ok c o hcm hom
 have D2 := rdiffer_ok c o hcm hom
 have D3 := ldiffer_ok z.c z.d hzc hzd
 have D4 := rdiffer_ok z.c z.d hzc hzd
 generalize differF c o = x1 at *
 generalize differF z.c z.d = x2 at *
 first | refine dcal_sub D1 (by exact ⟨cS _,cS _,trivial⟩) rfl ?_ | refine cal_sub D1 (by exact ⟨cS _,cS _,trivial⟩) ?_
 refine sB ?_
 first | refine dcal_sub D2 (by exact ⟨cS _,cS _,trivial⟩) rfl ?_ | refine cal_sub D2 (by exact ⟨cS _,cS _,trivial⟩) ?_
 refine sB ?_
 first | refine dcal_sub D3 (by exact ⟨.refl _,.refl _,trivial⟩) rfl ?_ | refine cal_sub D3 (by exact ⟨.refl _,.refl _,trivial⟩) ?_
 refine sB ?_
 first | refine dcal_sub D4 (by exact ⟨.refl _,.refl _,trivial⟩) rfl ?_ | refine cal_sub D4 (by exact ⟨.refl _,.refl _,trivial⟩) ?_
 refine sB ?_
 first | refine dcal_sub (ints_self x1.1 q1.1) (by exact ⟨sl _,sl _,trivial⟩) rfl ?_ | refine cal_sub (ints_self x1.1 q1.1) (by exact ⟨sl _,sl _,trivial⟩) ?_
 refine sB ?_
 first | refine dcal_sub (ints_self x1.2 q1.2) (by exact ⟨sl _,sl _,trivial⟩) rfl ?_ | refine cal_sub (ints_self x1.2 q1.2) (by exact ⟨sl _,sl _,trivial⟩) ?_
 refine sB ?_
 first | refine dcal_sub (ints_self x2.1 q2.1) (by exact ⟨sl _,sl _,trivial⟩) rfl ?_ | refine cal_sub (ints_self x2.1 q2.1) (by exact ⟨sl _,sl _,trivial⟩) ?_
 refine sB ?_
 first | refine dcal_sub (ints_self x2.2 q2.2) (by exact ⟨sl _,sl _,trivial⟩) rfl ?_ | refine cal_sub (ints_self x2.2 q2.2) (by exact ⟨sl _,sl _,trivial⟩) ?_
 exact sC
end Go.Proofs.Ytledbjkolidhkaa
namespace Go.Vc
theorem CellB.mono {B C : Nat} (hB : B <= C) {t : Ty} {c : PV} (h : CellB B t c) : CellB C t c := by
 induction h with
 | b x => exact .b x
 | i k n h1 h2 => exact .i k n h1 h2
 | sl es ts rows h1 h2 _ ih => exact .sl es ts rows (Nat.le_trans h1 hB) h2 ih
end Go.Vc
namespace Go.Proofs.Ytledbjkolidhkaa
open Go Go.Vc Txt
end Go.Proofs.Ytledbjkolidhkaa
namespace Go.Vc
theorem CellB.len {B : Nat} {t : Ty} {p : Bool} {es : Nat} {xs : List (List PV)} (h : CellB B t (.sl p es xs)) : xs.length <= B := by
 cases h; assumption
end Go.Vc
namespace Go.Proofs.Ytledbjkolidhkaa
open Go Go.Vc Txt
theorem rowB_mono {B C : Nat} (hB : B <= C) {ts : List Ty} {a : List PV} (h : RowB B ts a) : RowB C ts a := ⟨h.1,fun j t c h1 h2 => (h.2 j t c h1 h2).mono hB⟩
theorem odd_bd {z : OddA} (h : RowB 1048576 oddT (oddC true z)) : z.Bd := by
 have key : ∀ (j : Nat) (t : Ty) (p : Bool) (es : Nat) (xs : List (List PV)),oddT[j]? = some t -> (oddC true z)[j]? = some (.sl p es xs) -> xs.length <= 1048576 := fun j t p es xs h1 h2 => (h.2 j t _ h1 h2).len
 have il : ∀ l : List Int,(ints l).length = l.length := fun l => by simp [ints,rows]
 refine ⟨?_,?_,?_,?_,?_,?_,?_,?_,?_,?_,?_,?_,?_⟩
 ·have := key 0 _ _ _ _ rfl rfl; rwa [il] at this
 ·have := key 1 _ _ _ _ rfl rfl; rwa [il] at this
 ·have := key 2 _ _ _ _ rfl rfl; rwa [il] at this
 ·have := key 3 _ _ _ _ rfl rfl; rwa [il] at this
 ·have := key 4 _ _ _ _ rfl rfl; rwa [il] at this
 ·have := key 5 _ _ _ _ rfl rfl; rwa [il] at this
 ·have := key 6 _ _ _ _ rfl rfl; rwa [il] at this
 ·have := key 7 _ _ _ _ rfl rfl; rwa [il] at this
 ·have := key 8 _ _ _ _ rfl rfl; rwa [il] at this
 ·have := key 9 _ _ _ _ rfl rfl; simpa [rows] using this
 ·intro r hr
  have hc := h.2 9 (.sl 3 routeT) (.sl true 3 (rows (routeC true) z.l.routes)) rfl rfl
  cases hc with
  | sl _ _ _ h1 h2 h3 =>
    have hm : routeC true r ∈ rows (routeC true) z.l.routes := List.mem_map_of_mem hr
    have e1 := (h3 _ hm 1 intsT _ rfl rfl).len
    have e2 := (h3 _ hm 2 intsT _ rfl rfl).len
    rw [il] at e1 e2
    exact ⟨e1,e2⟩
 ·have := key 10 _ _ _ _ rfl rfl; simpa [rows] using this
 ·have := key 12 _ _ _ _ rfl rfl; simpa [bytes8,rows] using this
theorem rawodd_true {f : Nat} (hok : ∀ (x : Raw31), x.By -> ∀ z : OddA, z.By -> z.Bd -> FnEq Try.prog f [.agg (raw31C false x), .agg (oddC false z)] (.bool true)) {a b : List PV} (ha : RowV raw31T a) (hb : RowB 1048576 oddT b) :
  FnEq Try.prog f [.agg a,.agg b] (.bool true) := by
 obtain ⟨x,hx,rfl⟩ := raw31_of ha
 obtain ⟨z,hz,rfl⟩ := odd_of (rowB_mono (by decide) hb)
 exact FnOK.sub (hok x hx z hz (odd_bd hb)) ⟨raw31C_sub x,oddC_sub z,trivial⟩
end Go.Proofs.Ytledbjkolidhkaa
namespace Go.Proofs.Ytledbjkolidhkaa
open Go Go.ChangeShapes Go.WideShapes Go.ChangeAt Go.RowKit Go.Vc
theorem flat0 : flatOk Try.prog 9 28 raw31T = true := by kernel_rfl
theorem flat1 : flatOk Try.prog 9 38 oddT = true := by kernel_rfl
theorem Try.own : ownKnob Try.prog.godebug = none := by kernel_rfl
theorem Try.laidOut : laidOutB Try.prog = true := by kernel_rfl
theorem boolU : Try.prog.underlying 4 = some .bool := by kernel_rfl
theorem paramsT : Try.f3.params = #[28,38] := by kernel_rfl
theorem bulk_one {H : Type} (d : DataW H) : 1 <= Rows.uptoBulk d := by
 cases d with
 | lit l => cases l <;> simp [Rows.uptoBulk]
 | _ => simp [Rows.uptoBulk]
theorem bulk_part {H : Type} {d : DataW H} : ∀ {l : List (DataW H)},d ∈ l -> Rows.uptoBulk d <= Rows.uptoBulkAll l
 | x :: r, h => by
   simp only [Rows.uptoBulkAll]
   rcases List.mem_cons.1 h with rfl | h
   ·omega
   ·have := bulk_part h; omega
theorem bulk_len {H : Type} : ∀ l : List (DataW H),l.length <= Rows.uptoBulkAll l
 | [] => by simp
 | x :: r => by
   have h1 := bulk_one x
   have h2 := bulk_len r
   simp only [Rows.uptoBulkAll,List.length_cons]
   omega
theorem bulk_meas {H : Type} : Meas (H := H) Rows.uptoBulk := by
 refine ⟨fun l r => ?_,fun l r e he => ?_,fun l e he => ?_⟩
 ·have := bulk_len l
  simp only [Rows.uptoBulk]
  omega
 ·have := bulk_part he
  simp only [Rows.uptoBulk]
  omega
 ·have := bulk_part he
  simp only [Rows.uptoBulk]
  omega
theorem bulk_fits {H : Type} {ds gs : List (DataW H)} (h : Rows.uptoSmall H (ds ++ gs) = true) {d : DataW H} (hd : d ∈ ds) : Fits 1048576 d := by
 have h1 : Rows.uptoBulkAll (ds ++ gs) <= 1048576 := of_decide_eq_true h
 exact .inr ⟨Rows.uptoBulk,bulk_meas,Nat.le_trans (bulk_part (List.mem_append_left gs hd)) h1⟩
set_option maxRecDepth 100000 in
theorem matches_lifted (os : Os) (started : os.Started) (H : Type) (enc : TypeId × Value -> H) (F : Stop.Interp) :
  ReturnsInHanded {} Try.checked os 3 .any ((Rows.OpenSpec.upto Rows.configMatchesReferenceSpec).pre6 enc Try.prog Try.f3 Rows.configMatchesReferenceUptoRow.domain false) (((Rows.OpenSpec.upto Rows.configMatchesReferenceSpec).at F).post enc Try.prog Try.f3 false true false false) := by
 refine returnsInHanded_of_cond (C := Try.checked) (s := Rows.OpenSpec.upto Rows.configMatchesReferenceSpec) (k := Rows.uptoSmall) rfl Try.own started (by kernel_rfl) Try.func3
  (OpenSpec.witness (enc := enc) (C := Try.checked) (s := Rows.OpenSpec.upto Rows.configMatchesReferenceSpec) (k := Rows.uptoSmall) rfl false ⟨#[], #[.agg #[.int .u8 0, .int .u8 0, .int .u8 0, .int .u8 0, .slice none 0 0, .slice none 0 0, .slice none 0 0],
    .agg #[.slice none 0 0,.slice none 0 0,.slice none 0 0,.slice none 0 0,.slice none 0 0,.slice none 0 0,.slice none 0 0,.slice none 0 0,.slice none 0 0,.slice none 0 0,.slice none 0 0,.int .i64 0,.slice none 0 0,.int .u8 0,.int .u8 0,.int .u8 0,.int .u8 0,.int .i64 0]],[]⟩ 8 (by kernel_rfl) (by kernel_rfl) (by kernel_rfl)
   (x := ([.agg [.agg [.lit (.int .u8 0),.lit (.int .u8 0),.lit (.int .u8 0),.lit (.int .u8 0),.nil],.nil,.nil],
    .agg [.agg [.nil,.nil,.nil,.nil],.agg [.nil,.nil,.nil,.nil],.agg [.nil,.nil],.nil,.lit (.int .i64 0),.nil,.agg [.lit (.int .u8 0),.lit (.int .u8 0),.lit (.int .u8 0),.lit (.int .u8 0)],.lit (.int .i64 0)]],[],[])) (by kernel_rfl) rfl (by kernel_rfl)) ?_
 intro W base args ds gs before hval0 hW _ hk _
 have hval : ∀ (j : Nat) t v,Try.f3.params[j]? = some t -> args[j]? = some v -> Value.okWide Try.prog W .any base t v := hval0
 have hW' := hW
 obtain ⟨p,q,hA0,hV,rfl,hfz,hnd⟩ := hW
 have hA : DataW.TrodAll enc Try.prog W 0 (fun _ => true) true Try.f3.params.toList args.toList ds p := hA0
 rw [paramsT] at hA hval
 obtain ⟨v0,v1,d0,d1,p0,p1,rfl,rfl,rfl,h0,h1⟩ := trodAll_two hA
 obtain ⟨rfl,rfl⟩ := trodVars_none hV
 obtain ⟨a0,r0,t0⟩ := argTy flat0 (by kernel_rfl) (hval 0 _ v0 rfl rfl) h0
 obtain ⟨a1,r1,t1⟩ := argTyB flat1 (by kernel_rfl) (hval 1 _ v1 rfl rfl) (bulk_fits hk (d := d1) (by simp)) h1
 have hlt : ∀ x ∈ p0 ++ p1,x.block < W.heap.size := fun x hx => hW'.lt x (by simpa using hx)
 refine (zw_call (rawodd_true matches_ok r0 r1) rfl fun j cc hj => ?_).mono fun e W' ⟨he,hb⟩ => ?_
 ·match j with
  | 0 => simp at hj; subst hj; exact t0
  | 1 => simp at hj; subst hj; exact t1
  | j + 2 => simp at hj
 ·refine ⟨_,he,_,_,_,[],_,[],hW',?_,trodAll_mk2 (Below.trod Try.laidOut (by kernel_rfl) (of_decide_eq_true (by kernel_rfl)) h0 hb fun x hx => hlt x (by simp [hx])) (Below.trod Try.laidOut (by kernel_rfl) (of_decide_eq_true (by kernel_rfl)) h1 hb fun x hx => hlt x (by simp [hx])),rfl,hb.frame _,fun h => by cases h⟩
  exact trodAll_mk1 (shut_bool boolU true)
theorem matches_holds : Rows.ConfigMatchesReferenceUptoSaid :=
 OpenClaim.holds_of_cond 3 Try.f3 rfl rfl rfl rfl rfl rfl rfl ⟨rfl,rfl,rfl,rfl,rfl⟩ rfl rfl rfl rfl rfl (by kernel_rfl) Try.func3 (by kernel_rfl)
  (of_decide_eq_true (by kernel_rfl)) (by unfold Func.isWrapper; first | (rw [if_pos (by decide +kernel)]; kernel_rfl) | (rw [if_neg (by decide +kernel)]; exact ⟨rfl,rfl⟩))
  (fun os started H enc _ F => matches_lifted os started H enc F)
end Go.Proofs.Ytledbjkolidhkaa
