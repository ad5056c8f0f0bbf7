/- MD ZN VcBr ZE ZO ZP TxtY HA TxtW VcZs: lemmas -/
import Derived.Test.YtdmkfgkmnpohlaaGreatPart13
import Derived.Test.YtdmkfgkmnpohlaaGreatPart11
import Derived.Test.YtdmkfgkmnpohlaaGreatPart12
import Derived.Test.YtdmkfgkmnpohlaaGreatPart08
import Derived.ProofKit
import Derived.Test.YtdmkfgkmnpohlaaGreatPart06
import Derived.Test.YtdmkfgkmnpohlaaGreatChecked
import Derived.Test.YtdmkfgkmnpohlaaGreatPart09
set_option linter.unusedSimpArgs false
set_option linter.unusedVariables false
open Nat (reduceEqDiff reduceAdd reduceSub reduceMul reduceLT reduceLeDiff)
open Int (reduceToNat reduceNeg)
namespace Go.Proofs.YtdmkfgkmnpohlaaGreat
open Go Go.Vc Txt
theorem qEb {x : Int} : ∀ {l : List Int},l.Pairwise (· < ·) -> x ∈ l -> l.idxOf x = l.countP (· < x)
 | y :: l, hp, hx => by
   rw [List.pairwise_cons] at hp
   rw [List.idxOf_cons,List.countP_cons]
   by_cases e : y = x
   ·subst e
    have h0 : l.countP (· < y) = 0 := List.countP_eq_zero.2 fun z hz => by have := hp.1 z hz; simp; omega
    simp [h0]
   ·have hx' : x ∈ l := by
     rcases List.mem_cons.1 hx with h | h
     ·exact absurd h.symm e
     ·exact h
    have := hp.1 x hx'
    rw [qEb hp.2 hx',show (y == x) = false from by simpa using e,decide_eq_true this]
    rfl
theorem qEc (z : Block × Int) : ∀ (xs : List (Block × Int)) (c : Cfg),qB0 c (xs ++ [z]) = qwO (qB0 c xs) z.1 z.2.toNat
 | [],_ => rfl
 | x :: xs,c => by rw [List.cons_append,qB0,qB0,qEc z xs]
theorem qEd {g : Grid} : ∀ (xs : List (Block × Int)) {c : Cfg},qzs g c -> qzs g (qB0 c xs)
 | [],_,h => h
 | x :: xs,_,h => qEd xs (qAU h)
theorem qEe (g : Grid) (r : Route) : ∀ (rs : List Route) (sel : List Int),qAM g sel (rs ++ [r]) = selR g (qAM g sel rs) r
 | [],_ => rfl
 | x :: rs,sel => by rw [List.cons_append,qAM,qAM,qEe g r rs]
def eiS (p : Packed) (g : Grid) (l : Layout) : St := ⟨[(3,.ptr 3 0),(4,.ptr 4 0),(5,.ptr 5 0),(6,.ptr 6 0),(20,.agg (quy false g))],[(3,qwC false p),(4,quy false g),(5,layC false l),(6,[.nil,.nil,.nil,.nil,.int 0])],[],[]⟩
theorem qEf (p : Packed) (g : Grid) (hg : GOk g) (l : Layout) : FnM (Env.of Tryz.prog) 37 [.agg (quy false g)] (eiS p g l) (fun v st' => v = .agg (wilV (qwM g)) /\ st' = { eiS p g l with a := wilA (qwM g) }) := by
 have h1 := hg.count
 have h2 := hg.wh
 have h3 := hg.kind
 refine FnM.dropB 201 (FnM.dropB 202 ?_)
 simp only [eiS,push_cast,reduceIte,reduceEqDiff,reduceAdd,reduceSub,reduceMul,Nat.reduceBEq,reduceLT,reduceLeDiff,reduceCtorEq,reduceToNat,reduceNeg]
 refine qtT 200 Tryz.func37 ok37_200w (by show 1 <= _; decide) rfl (by decide) ?_
 simp only [ac37_200w,rv37_200w,push_cast,reduceIte,reduceEqDiff,reduceAdd,reduceSub,reduceMul,Nat.reduceBEq,reduceLT,reduceLeDiff,reduceCtorEq,reduceToNat,reduceNeg]
 refine ⟨by omega,?_⟩
 refine qro (quI g hg) sC rfl ?_
 refine sB ?_
 refine ⟨by omega,by omega,by omega,by omega,?_,?_⟩
 ·simp [wilV,qwM]
  omega
 ·rw [show (g.w * g.h).toNat = g.kind.length by omega]
  simp only [wilA,qwM,List.length_replicate,push_cast,reduceIte,reduceEqDiff,reduceAdd,reduceSub,reduceMul,Nat.reduceBEq,reduceLT,reduceLeDiff,reduceCtorEq,reduceToNat,reduceNeg]
open Classical in
set_option maxHeartbeats 8000000 in
theorem qEg (p : Packed) (g : Grid) (hg : GOk g) (l : Layout) (h1 : (l.pos.length : Int) <= 1000000) (h2 : (l.routes.length : Int) <= 1000000) (h3 : ∀ r ∈ l.routes, (r.nodes.length : Int) <= 1000000 /\ (r.frm.length : Int) <= 1000000) :
  FnEq Tryz.prog 23 [.agg (qwC false p),.agg (quy false g),.agg (layC false l)] (.agg (cfgC true (encF p g l).1 ++ [.int (encF p g l).2])) := by
 have hcn := hg.count
 have hkd := hg.kind
 have hwh := hg.wh
 have hF := qEa p g hg l h1 h2 h3
 refine FnEq.of_awp Tryz.func23 ok23w (by show 3 <= _; decide) (by simp only [push_cast,reduceIte,reduceEqDiff,reduceAdd,reduceSub,reduceMul,Nat.reduceBEq,reduceLT,reduceLeDiff,reduceCtorEq,reduceToNat,reduceNeg] <;> first | exact fun _ _ => trivial | simp) ?_
 simp only [ac23w,rv23w,push_cast,reduceIte,reduceEqDiff,reduceAdd,reduceSub,reduceMul,Nat.reduceBEq,reduceLT,reduceLeDiff,reduceCtorEq,reduceToNat,reduceNeg]
 refine qrm hF (by exact ⟨.refl _,.refl _,.refl _,trivial⟩) ?_
 refine sB ?_
 refine qnQ (fun e => ?_) fun e => ?_
 ·rw [qB8 hg (qyX e)]
  refine sB ?_
  exact ⟨rfl,rfl,rfl,rfl⟩
 have hf := qyY e
 rw [qB7 hg hf]
 refine qst (qEf p g hg l) ?_
 simp only [wilV,wilA,eiS,push_cast,reduceIte,reduceEqDiff,reduceAdd,reduceSub,reduceMul,Nat.reduceBEq,reduceLT,reduceLeDiff,reduceCtorEq,reduceToNat,reduceNeg]
 obtain ⟨zs,hzs⟩ : ∃ zs,zs = p.blocks.zip l.pos := ⟨_,rfl⟩
 have hzl : zs.length = l.pos.length := by rw [hzs,List.length_zip,<- hf.len]; omega
 refine qoH (fun m st => ∃ k : Nat,k <= l.pos.length /\ m = l.pos.length - k /\ st = ⟨[(3,.ptr 3 0),(4,.ptr 4 0),(5,.ptr 5 0),(6,.ptr 6 0),(7,.ptr 7 0),(8,.int k)],[(3,qwC false p),(4,quy false g),(5,layC false l),(6,[.nil,.nil,.nil,.nil,.int 0]),(7,wilV (qB0 (qwM g) (zs.take k)))],wilA (qB0 (qwM g) (zs.take k)),[]⟩) l.pos.length ?_ ?_
 ·refine ⟨0,by omega,by omega,?_⟩
  simp only [wilV,wilA,List.take_zero,qB0,push_cast,reduceIte,reduceEqDiff,reduceAdd,reduceSub,reduceMul,Nat.reduceBEq,reduceLT,reduceLeDiff,reduceCtorEq,reduceToNat,reduceNeg]
  try done
 rintro m st ⟨k,hk,rfl,rfl⟩
 have e0 : ∀ (l : List Int) (j : Nat),l.getD j default = l.getD j 0 := fun _ _ => rfl
 have hln := qEd (zs.take k) (qB3 g)
 have hnx : k < l.pos.length -> qB0 (qwM g) (zs.take (k + 1)) = qwO (qB0 (qwM g) (zs.take k)) (p.blocks.getD k default) (l.pos.getD k 0).toNat := fun h => by
  rw [List.take_add_one,List.getElem?_eq_getElem (by omega),Option.toList_some,qEc]
  simp only [hzs,List.getElem_zip]
  rw [List.getD_eq_getElem?_getD,List.getElem?_eq_getElem (by have := hf.len; omega),List.getD_eq_getElem?_getD,List.getElem?_eq_getElem h]
  rfl
 have hfit : k < l.pos.length -> qzX g (p.blocks.getD k default) (l.pos.getD k 0) := fun h => ((fitsU_iff.2 hf).fit k h).1
 generalize hc : qB0 (qwM g) (zs.take k) = c at *
 obtain ⟨n1,n2,n3,n4⟩ := hln
 simp only [wilV,wilA,push_cast,reduceIte,reduceEqDiff,reduceAdd,reduceSub,reduceMul,Nat.reduceBEq,reduceLT,reduceLeDiff,reduceCtorEq,reduceToNat,reduceNeg]
 refine qnR (fun h => ?_) fun h => ?_
 ·have hkl : k < l.pos.length := by omega
  replace hnx := hnx hkl
  obtain ⟨⟨b1,b2,b3⟩,⟨b4,b5,b6⟩,b7⟩ := hfit hkl
  generalize hb : p.blocks.getD k default = b at *
  generalize ht : l.pos.getD k 0 = t at *
  obtain ⟨bi,bt,br,bg,bk⟩ := b
  simp only at b3 b4 b5 b6 b7 hnx
  simp only [e0,hb,ht,push_cast,reduceIte,reduceEqDiff,reduceAdd,reduceSub,reduceMul,Nat.reduceBEq,reduceLT,reduceLeDiff,reduceCtorEq,reduceToNat,reduceNeg]
  have hfl := hf.len
  repeat (refine And.intro (by omega) ?_)
  refine qnR (fun q1 => ?_) fun q1 => ?_
  ·refine ⟨by omega,by omega,by omega,by omega,by omega,_,?_,k + 1,by omega,rfl,?_⟩
   ·omega
   ·rw [hnx,qwO,if_pos (show 0 <= br by omega)]
    simp only [wilV,wilA,List.length_set,push_cast,reduceIte,reduceEqDiff,reduceAdd,reduceSub,reduceMul,Nat.reduceBEq,reduceLT,reduceLeDiff,reduceCtorEq,reduceToNat,reduceNeg]
  refine qnR (fun q2 => ?_) fun q2 => ?_
  ·refine ⟨by omega,by omega,by omega,by omega,by omega,by omega,by omega,_,?_,k + 1,by omega,rfl,?_⟩
   ·omega
   ·rw [hnx,qwO,if_neg (show ¬ 0 <= br by omega),if_pos (show 0 <= bg by omega)]
    simp only [wilV,wilA,List.length_set,push_cast,reduceIte,reduceEqDiff,reduceAdd,reduceSub,reduceMul,Nat.reduceBEq,reduceLT,reduceLeDiff,reduceCtorEq,reduceToNat,reduceNeg]
  ·refine ⟨by omega,by omega,by omega,by omega,by omega,_,?_,k + 1,by omega,rfl,?_⟩
   ·omega
   ·rw [hnx,qwO,if_neg (show ¬ 0 <= br by omega),if_neg (show ¬ 0 <= bg by omega)]
    simp only [wilV,wilA,List.length_set,push_cast,reduceIte,reduceEqDiff,reduceAdd,reduceSub,reduceMul,Nat.reduceBEq,reduceLT,reduceLeDiff,reduceCtorEq,reduceToNat,reduceNeg]
 rw [List.take_of_length_le (by omega)] at hc
 have hcs : c.sel = List.replicate (quD g).toNat 0 := by rw [<- hc,qB5]; rfl
 have hE : encC p g l = { c with sel := qAM g c.sel l.routes } := by rw [hcs,encC,<- hzs,hc]
 rw [hE]
 clear hfit hnx hc hE
 refine qoH (fun m st => ∃ k : Nat,k <= l.routes.length /\ m = l.routes.length - k /\ st = ⟨[(4,.ptr 4 0),(5,.ptr 5 0),(6,.ptr 6 0),(7,.ptr 7 0),(11,.int k)],[(4,quy false g),(5,layC false l),(6,[.nil,.nil,.nil,.nil,.int 0]),(7,wilV { c with sel := qAM g c.sel (l.routes.take k) })],wilA { c with sel := qAM g c.sel (l.routes.take k) },[]⟩) l.routes.length ?_ ?_
 ·refine ⟨0,by omega,by omega,?_⟩
  simp only [wilV,wilA,List.take_zero,qAM,push_cast,reduceIte,reduceEqDiff,reduceAdd,reduceSub,reduceMul,Nat.reduceBEq,reduceLT,reduceLeDiff,reduceCtorEq,reduceToNat,reduceNeg]
  try done
 rintro m st ⟨k,hk,rfl,rfl⟩
 simp only [wilV,wilA,push_cast,reduceIte,reduceEqDiff,reduceAdd,reduceSub,reduceMul,Nat.reduceBEq,reduceLT,reduceLeDiff,reduceCtorEq,reduceToNat,reduceNeg]
 refine qnR (fun h => ?_) fun h => ?_
 ·have hkl : k < l.routes.length := by omega
  have hrm : l.routes.getD k default ∈ l.routes := by simp [hkl]
  have hnx : qAM g c.sel (l.routes.take (k + 1)) = selN g (l.routes.getD k default) (qAM g c.sel (l.routes.take k)) (l.routes.getD k default).nodes.length := by
   rw [List.take_add_one,List.getElem?_eq_getElem hkl,Option.toList_some,qEe,List.getD_eq_getElem?_getD,List.getElem?_eq_getElem hkl]
   rfl
  have hsh := hf.sh _ hrm
  have hrl := h3 _ hrm
  have hS := qAO g (l.routes.take k) c.sel
  generalize hr : l.routes.getD k default = r at *
  generalize qAM g c.sel (l.routes.take k) = S at *
  have hne := List.length_pos_iff.2 hsh.ne
  have hfl := hsh.len
  repeat (refine And.intro (by omega) ?_)
  refine qoH (fun m st => ∃ j : Nat,(1 <= j /\ j <= r.nodes.length) /\ m = r.nodes.length - j /\ st = ⟨[(4,.ptr 4 0),(5,.ptr 5 0),(6,.ptr 6 0),(7,.ptr 7 0),(11,.int k),(12,.ptr 12 0),(13,.int j)],[(4,quy false g),(5,layC false l),(6,[.nil,.nil,.nil,.nil,.int 0]),(7,wilV { c with sel := selN g r S j }),(12,qwD false r)],wilA { c with sel := selN g r S j },[]⟩) (r.nodes.length - 1) ?_ ?_
  ·refine ⟨1,by omega,rfl,?_⟩
   simp only [wilV,wilA,hr,show selN g r S 1 = S from rfl,Int.zero_add,push_cast,reduceIte,reduceEqDiff,reduceAdd,reduceSub,reduceMul,Nat.reduceBEq,reduceLT,reduceLeDiff,reduceCtorEq,reduceToNat,reduceNeg]
   try done
  rintro m st ⟨j,hj,rfl,rfl⟩
  have hL := qAE g r S j
  have hX : selN g r S (j + 1) = (selN g r S j).set (r.nodes.getD j 0).toNat (qAD g r j) := by rw [selN,if_neg (by omega)]
  generalize hT : selN g r S j = T at *
  simp only [wilV,wilA,e0,push_cast,reduceIte,reduceEqDiff,reduceAdd,reduceSub,reduceMul,Nat.reduceBEq,reduceLT,reduceLeDiff,reduceCtorEq,reduceToNat,reduceNeg]
  refine qnR (fun h4 => ?_) fun h4 => ?_
  ·have hjl : j < r.nodes.length := by omega
   have hn := hsh.rng _ (qza (l := r.nodes) (k := j) hjl)
   obtain ⟨d1,d2⟩ := hsh.drv j (by omega) hjl
   have hdl := qDS hg (r.nodes.getD j 0)
   have hix := qzW (qvM g (r.nodes.getD j 0)) (by omega) (r.nodes.getD (r.frm.getD j 0).toNat 0)
   have hI : qzU (qvM g (r.nodes.getD j 0)) (r.nodes.getD (r.frm.getD j 0).toNat 0) + 1 = qAD g r j := by
    rw [qzU,if_pos d2,qEb (qy2 g _) d2,qAD]
    omega
   have hle : 0 <= qzU (qvM g (r.nodes.getD j 0)) (r.nodes.getD (r.frm.getD j 0).toNat 0) /\ qzU (qvM g (r.nodes.getD j 0)) (r.nodes.getD (r.frm.getD j 0).toNat 0) <= (qvM g (r.nodes.getD j 0)).length := by
    rw [qzU,if_pos d2]
    have := List.idxOf_lt_length_of_mem d2
    omega
   generalize hnn : r.nodes.getD j 0 = n at *
   repeat (refine And.intro (by omega) ?_)
   first | refine qro (qDP g hg n) (by exact ⟨.refl _,.refl _,trivial⟩) rfl ?_ | refine qrm (qDP g hg n) (by exact ⟨.refl _,.refl _,trivial⟩) ?_
   simp only [e0,push_cast,reduceIte,reduceEqDiff,reduceAdd,reduceSub,reduceMul,Nat.reduceBEq,reduceLT,reduceLeDiff,reduceCtorEq,reduceToNat,reduceNeg]
   repeat (refine And.intro (by omega) ?_)
   refine qro hix (by exact ⟨.slp _ _ _ _ (fun h => by cases h),.refl _,trivial⟩) rfl ?_
   simp only [e0,push_cast,reduceIte,reduceEqDiff,reduceAdd,reduceSub,reduceMul,Nat.reduceBEq,reduceLT,reduceLeDiff,reduceCtorEq,reduceToNat,reduceNeg]
   repeat (refine And.intro (by omega) ?_)
   refine ⟨_,?_,j + 1,by omega,rfl,?_⟩
   ·omega
   ·rw [hX,<- hI,Int.add_comm 1]
    simp only [wilV,wilA,List.length_set,push_cast,reduceIte,reduceEqDiff,reduceAdd,reduceSub,reduceMul,Nat.reduceBEq,reduceLT,reduceLeDiff,reduceCtorEq,reduceToNat,reduceNeg]
  rw [show r.nodes.length = j by omega,hT] at hnx
  refine ⟨by omega,_,?_,k + 1,by omega,rfl,?_⟩
  ·omega
  ·rw [hnx]
   simp only [wilV,wilA,push_cast,reduceIte,reduceEqDiff,reduceAdd,reduceSub,reduceMul,Nat.reduceBEq,reduceLT,reduceLeDiff,reduceCtorEq,reduceToNat,reduceNeg]
 rw [List.take_of_length_le (by omega)]
 exact ⟨⟨fun _ _ => trivial,fun _ _ => trivial,fun _ _ => trivial,fun _ _ => trivial⟩,.refl _⟩
def qEh (q : Bool) (l : List Int) : List PV := [.sl q 1 (qk8 l)]
@[push_cast] theorem qEi (q : Bool) (l : List Int) : qEh q l = [.sl q 1 (qk8 l)] := rfl
def qEj (q : Bool) (x : Raw31) : List PV := qzi q x.g ++ [.sl q 3 (rows qAp x.blocks),.sl q 1 (rows (qEh q) x.routes)]
@[push_cast] theorem qEk (q : Bool) (x : Raw31) : qEj q x = qzi q x.g ++ [.sl q 3 (rows qAp x.blocks),.sl q 1 (rows (qEh q) x.routes)] := rfl
def lvR (id : Nat) : List Route -> PV
 | [] => .nil
 | x :: l => .view id 0 (l.length + 1)
def laR (id : Nat) : List Route -> List (Nat × Arr)
 | [] => []
 | x :: l => [(id,⟨3,115,rows (qwD true) (x :: l)⟩)]
@[push_cast] theorem qEm (id : Nat) : lvR id [] = .nil := rfl
@[push_cast] theorem qEn (id : Nat) (x : Route) (l : List Route) : lvR id (x :: l) = .view id 0 (l.length + 1) := rfl
@[push_cast] theorem qEo (id : Nat) : laR id [] = [] := rfl
@[push_cast] theorem qEp (id : Nat) (x : Route) (l : List Route) : laR id (x :: l) = [(id,⟨3,115,rows (qwD true) (x :: l)⟩)] := rfl
@[push_cast] theorem qEq (pb pa : Nat -> Bool) (id : Nat) (rs : List Route) : PV.to pb pa (lvR id rs) = (pa id && !rs.isEmpty) := by cases rs <;> simp [lvR,PV.to]
set_option maxHeartbeats 4000000 in
theorem qEr (x : Raw31) (hx : x.By) : FnEq Tryz.prog 22 [.agg (qEj false x)] (.agg (desC true (qBX x.g) (qBY x) (layM x))) := by
 obtain ⟨hg,hp⟩ := qBZ x.g
 have hcn := hg.count
 refine FnEq.of_awp Tryz.func22 ok22 (by show 1 <= _; decide) (by simp only [push_cast,reduceIte,reduceEqDiff,reduceAdd,reduceSub,reduceMul,Nat.reduceBEq,reduceLT,reduceLeDiff,reduceCtorEq,reduceToNat,reduceNeg] <;> first | exact fun _ _ => trivial | simp) ?_
 simp only [ac22,rv22,push_cast,reduceIte,reduceEqDiff,reduceAdd,reduceSub,reduceMul,Nat.reduceBEq,reduceLT,reduceLeDiff,reduceCtorEq,reduceToNat,reduceNeg]
 refine qoF (qzl x.g hx.g.ok) ?_
 refine sB ?_
 refine qrm (qAA (qBX x.g) hg x.blocks hx.bl hx.blocks) ⟨.refl _,.refl _,trivial⟩ ?_
 have hrt := qC1 hg x.routes (fun l hl => (hx.routes l hl).2)
 have hP : qBY x = ⟨[],(blkF (qBX x.g) x.blocks).1,[],[]⟩ := rfl
 have hL : layM x = ⟨(blkF (qBX x.g) x.blocks).2,(rtN (qBX x.g) x.routes (min x.routes.length 5)).2⟩ := rfl
 rw [hP,hL]
 generalize blkF (qBX x.g) x.blocks = bt
 obtain ⟨bs,ts⟩ := bt
 generalize qBX x.g = g at *
 clear hP hL
 have hrl := hx.rl
 have hrr := hx.routes
 generalize hxs : x.routes = xs at *
 refine sB ?_
 refine qrm (quI g hg) sC ?_
 refine sB ?_
 repeat (refine And.intro (by omega) ?_)
 obtain ⟨c,hc⟩ : ∃ c : Nat,quD g = c := ⟨(quD g).toNat,by omega⟩
 rw [hc,Int.toNat_natCast,List.length_replicate,qA9]
 refine qoH (fun m st => ∃ k : Nat,k <= min xs.length 5 /\ m = min xs.length 5 - k /\ st = ⟨[(1,.ptr 1 0),(2,.ptr 2 0),(4,.ptr 4 0),(5,.view 21 0 c),(6,.int k)],
  [(1,qEj false x),(2,[.int 0,.int 0,.int 0,.int 0,.nil,.nil,.nil,.nil,.nil,.nil,.nil]),(4,desN g bs ts (lvR 67 (rtN g xs k).2))],(21,⟨1,4,rows qk7 (qA5 c (rtN g xs k).1)⟩) :: laR 67 (rtN g xs k).2,[]⟩) (min xs.length 5) ?_ ?_
 ·refine ⟨0,by omega,by omega,?_⟩
  simp only [rtN,hxs,List.cons_append,List.nil_append,push_cast,reduceIte,reduceEqDiff,reduceAdd,reduceSub,reduceMul,Nat.reduceBEq,reduceLT,reduceLeDiff,reduceCtorEq,reduceToNat,reduceNeg]
  done
 rintro m st ⟨k,hk,rfl,rfl⟩
 obtain ⟨q1,q2,q3,q4,q5⟩ := hrt k
 have hS : rtN g xs (k + 1) = rtS1 g (rtN g xs k) k (xs.getD k []) := rfl
 rcases ha : rtN g xs k with ⟨sn,rs⟩
 rw [ha] at q1 q2 q3 q4 q5 hS
 simp only at q1 q2 q3 q4 q5 ⊢
 obtain ⟨B,hB⟩ : ∃ B,B = decide (k < xs.length /\ k < 5) := ⟨_,rfl⟩
 simp only [hxs,push_cast,reduceIte,reduceEqDiff,reduceAdd,reduceSub,reduceMul,Nat.reduceBEq,reduceLT,reduceLeDiff,reduceCtorEq,reduceToNat,reduceNeg]
 refine qry ⟨[(1,.ptr 1 0),(2,.ptr 2 0),(4,.ptr 4 0),(5,.view 21 0 c),(6,.int k),(30,.bool B)],
  [(1,qzi false x.g ++ [.sl false 3 (rows qAp x.blocks),.sl false 1 (rows (qEh false) xs)]),(2,[.int 0,.int 0,.int 0,.int 0,.nil,.nil,.nil,.nil,.nil,.nil,.nil]),(4,desN g bs ts (lvR 67 rs))],(21,⟨1,4,rows qk7 (qA5 c sn)⟩) :: laR 67 rs,[]⟩ ?_ ?_
 ·refine qrq rfl (fun e1 => ?_) fun e1 => ?_ <;> simp only [push_cast,reduceIte,reduceEqDiff,reduceAdd,reduceSub,reduceMul,Nat.reduceBEq,reduceLT,reduceLeDiff,reduceCtorEq,reduceToNat,reduceNeg]
  ·rw [show B = decide ((k : Int) < 5) from by rw [hB,decide_eq_decide]; omega]
  ·rw [show B = false from by rw [hB]; exact decide_eq_false (by omega)]
 refine sB ?_
 refine qnQ (fun e => ?_) fun e => ?_
 rotate_left
 ·rw [hB,decide_eq_false_iff_not] at e
  rw [show min xs.length 5 = k by omega,ha]
  refine sB ?_
  cases rs with
  | nil =>
    refine sB ?_
    exact ⟨fun _ _ => trivial,fun _ _ _ _ => trivial,fun _ _ => trivial⟩
  | cons r rs =>
    rw [qEn,qEp]
    refine sB ?_
    rw [List.take_of_length_le (by simp)]
    exact ⟨⟨fun _ _ => trivial,fun _ _ _ _ => trivial,fun _ _ => trivial,fun _ _ => ⟨fun _ _ => trivial,fun _ _ => trivial⟩⟩,.refl _⟩
 rw [hB,decide_eq_true_eq] at e
 obtain ⟨e1,e2⟩ := e
 have hxk := hrr (xs.getD k []) (by simp [e1])
 have hct : (quD g).toNat = c := by omega
 have hGr := qAo g hg sn (xs.getD k []) hxk.1 hxk.2
 have hGo := qAn hg sn (xs.getD k []) hxk.2 (min (xs.getD k []).length 16)
 have hGF : qAl g sn (xs.getD k []) = ⟨0,(qAk g sn (xs.getD k []) (min (xs.getD k []).length 16)).1,(qAk g sn (xs.getD k []) (min (xs.getD k []).length 16)).2⟩ := rfl
 rw [hct] at hGr
 rw [rtS1] at hS
 rw [show xs.getD k default = xs.getD k [] from rfl]
 have hsb : List.take c (qA5 c sn) = qA5 c sn := List.take_of_length_le (by rw [qA6]; exact Nat.le_refl _)
 generalize xs.getD k [] = l at *
 rw [hGF] at hS hGr
 simp only at hS
 obtain ⟨⟨o1,o2⟩,o3⟩ := hGo
 generalize qAk g sn l (min l.length 16) = nf at *
 obtain ⟨ns,fr⟩ := nf
 simp only at hS hGr o1 o2 o3
 refine ⟨by omega,e1,?_⟩
 refine qro hGr ⟨Sub.aggL ⟨.refl _,.refl _,.refl _,.refl _,.slp _ _ _ _ (fun h => by cases h),trivial⟩,by rw [hsb]; exact .refl _,.refl _,trivial⟩ rfl ?_
 refine sB ?_
 refine qnR (fun h => ?_) fun h => ?_
 ·have hn : ns = [] := List.length_eq_zero_iff.1 (by omega)
  rw [if_pos hn] at hS
  refine ⟨by omega,_,?_,k + 1,by omega,rfl,?_⟩
  ·omega
  ·rw [hS]
   cases rs <;> exact sC
 have hn : ns ≠ [] := fun e => h (by rw [e]; rfl)
 rw [if_neg hn] at hS
 refine qoH (fun m st => ∃ j : Nat,j <= ns.length /\ m = ns.length - j /\ st = ⟨[(1,.ptr 1 0),(2,.ptr 2 0),(4,.ptr 4 0),(5,.view 21 0 c),(6,.int k),(7,.ptr 7 0),(8,.int j)],
  [(1,qzi false x.g ++ [.sl false 3 (rows qAp x.blocks),.sl false 1 (rows (qEh false) xs)]),(2,[.int 0,.int 0,.int 0,.int 0,.nil,.nil,.nil,.nil,.nil,.nil,.nil]),(4,desN g bs ts (lvR 67 rs)),(7,[.int k,.sl true 1 (ints ns),.sl true 1 (ints fr)])],(21,⟨1,4,rows qk7 (qA5 c (sn ++ ns.take j))⟩) :: laR 67 rs,[]⟩) ns.length ?_ ?_
 ·refine ⟨0,by omega,by omega,?_⟩
  cases rs <;> simp only [List.take_zero,List.append_nil,push_cast,reduceIte,reduceEqDiff,reduceAdd,reduceSub,reduceMul,Nat.reduceBEq,reduceLT,reduceLeDiff,reduceCtorEq,reduceToNat,reduceNeg]
 rintro m st ⟨j,hj,rfl,rfl⟩
 simp only [qA6,push_cast,reduceIte,reduceEqDiff,reduceAdd,reduceSub,reduceMul,Nat.reduceBEq,reduceLT,reduceLeDiff,reduceCtorEq,reduceToNat,reduceNeg]
 refine qnR (fun h2 => ?_) fun h2 => ?_
 ·have hnj := o2 _ (qza (l := ns) (k := j) (by omega))
  have ht := qAB (l := ns) (k := j) (by omega)
  rw [show ns.getD j default = ns.getD j 0 from rfl]
  refine ⟨by omega,by omega,by omega,by omega,by omega,_,?_,j + 1,by omega,rfl,?_⟩
  ·omega
  ·rw [ht,<- List.append_assoc,<- qA8 (by omega)]
   cases rs <;> exact sC
 rw [List.take_of_length_le (show ns.length <= j by omega)]
 cases rs with
 | nil =>
   rw [qEm,qEo]
   refine sB ?_
   refine ⟨by omega,_,?_,k + 1,by omega,rfl,?_⟩
   ·omega
   ·rw [hS]
    simp [rows,qwD,lvR,laR]
 | cons r rs =>
   rw [qEn,qEp]
   simp only [List.length_cons] at q4
   refine sB ?_
   refine ⟨by omega,by omega,_,?_,k + 1,by omega,rfl,?_⟩
   ·omega
   ·rw [hS]
    simp [rows,qwD,lvR,laR]
end Go.Proofs.YtdmkfgkmnpohlaaGreat
namespace Go.Vc
open Go Go.RowKit
inductive Ty where
 | b
 | i (k : IntKind)
 | sl (es : Nat) (ts : List Ty)
def qEs (P : Program) : Nat -> TypeId -> List Ty -> Bool
 | 0,_,_ => false
 | n + 1, t, ts => match P.underlying t with
   | some .bool => (match ts with | [.b] => true | _ => false)
   | some (.int k) => (match ts with | [.i k'] => k == k' | _ => false)
   | some (.slice e) => (match ts with | [.sl es us] => us.length == es && P.cellsOf e == es && decide (0 < es) && qEs P n e us | _ => false)
   | some (.struct fs) => fs.toList.all (fun f => qEs P n f.type ((ts.drop f.offset).take (P.cellsOf f.type))) && ts.length == P.cellsOf t &&
     (List.range ts.length).all fun j => fs.toList.any fun f => decide (f.offset <= j) && decide (j < f.offset + P.cellsOf f.type)
   | some (.array m e) => (List.range m).all (fun i => qEs P n e ((ts.drop (i * P.cellsOf e)).take (P.cellsOf e))) && ts.length == P.cellsOf t &&
     (List.range ts.length).all fun j => (List.range m).any fun i => decide (i * P.cellsOf e <= j) && decide (j < i * P.cellsOf e + P.cellsOf e)
   | _ => false
inductive CellB (B : Nat) : Ty -> PV -> Prop
 | b (x) : CellB B .b (.sc (.bool x))
 | i (k n) : k.min <= n -> n <= k.max -> CellB B (.i k) (.sc (.int k n))
 | sl (es ts) (rows : List (List PV)) : rows.length <= B -> (∀ r ∈ rows,r.length = ts.length) -> (∀ r ∈ rows,∀ (j : Nat) (t : Ty) (c : PV),ts[j]? = some t -> r[j]? = some c -> CellB B t c) -> CellB B (.sl es ts) (.sl true es rows)
abbrev qEt : Ty -> PV -> Prop := CellB maxLen
structure Meas {H : Type} (μ : DataW H -> Nat) : Prop where
 len : ∀ l r,l.length <= μ (.slice l r)
 el : ∀ l r,∀ e ∈ l,μ e <= μ (.slice l r)
 agg : ∀ l,∀ e ∈ l,μ e <= μ (.agg l)
def Fits {H : Type} (B : Nat) (d : DataW H) : Prop := maxLen <= B \/ ∃ μ : DataW H -> Nat,Meas μ /\ μ d <= B
theorem Fits.agg {H : Type} {B : Nat} {l : List (DataW H)} {e : DataW H} (h : Fits B (.agg l)) (he : e ∈ l) : Fits B e := h.imp _root_.id fun ⟨μ,h1,h2⟩ => ⟨μ,h1,Nat.le_trans (h1.agg l e he) h2⟩
theorem Fits.el {H : Type} {B : Nat} {l r : List (DataW H)} {e : DataW H} (h : Fits B (.slice l r)) (he : e ∈ l) : Fits B e := h.imp _root_.id fun ⟨μ,h1,h2⟩ => ⟨μ,h1,Nat.le_trans (h1.el l r e he) h2⟩
theorem Fits.len {H : Type} {B : Nat} {l r : List (DataW H)} (h : Fits B (.slice l r)) (hl : l.length <= maxLen) : l.length <= B := by
 rcases h with h | ⟨μ,h1,h2⟩
 ·omega
 ·have := h1.len l r; omega
theorem qEu {α β : Type} {f : α -> Option β} : ∀ {l : List α} {r : List β},l.mapM f = some r -> r.length = l.length
 | [],r,h => by simp at h; subst h; rfl
 | a :: l, r, h => by
   rw [List.mapM_cons] at h
   cases ha : f a with
   | none => rw [ha] at h; cases h
   | some y =>
     rw [ha] at h
     cases hl : l.mapM f with
     | none => rw [hl] at h; cases h
     | some ys =>
       rw [hl] at h
       cases h
       simp [qEu hl]
theorem qEv {α β : Type} {f : α -> Option β} : ∀ {l : List α} {r : List β},l.mapM f = some r -> ∀ x ∈ l,∃ y ∈ r,f x = some y
 | [],_,_,x,hx => by cases hx
 | a :: l, r, h, x, hx => by
   rw [List.mapM_cons] at h
   cases ha : f a with
   | none => rw [ha] at h; cases h
   | some y =>
     rw [ha] at h
     cases hl : l.mapM f with
     | none => rw [hl] at h; cases h
     | some ys =>
       rw [hl] at h
       cases h
       rcases List.mem_cons.1 hx with rfl | hx
       ·exact ⟨y,by simp,ha⟩
       ·obtain ⟨z,h1,h2⟩ := qEv hl x hx
        exact ⟨z,by simp [h1],h2⟩
theorem qEw {α : Type} {Q : Nat -> α -> Prop} : ∀ n : Nat,(∀ j,j < n -> ∃ c,Q j c) -> ∃ l : List α,l.length = n /\ ∀ j c,l[j]? = some c -> Q j c
 | 0,_ => ⟨[],rfl,fun j c h => by simp at h⟩
 | n + 1, h => by
   obtain ⟨l,h1,h2⟩ := qEw n fun j hj => h j (by omega)
   obtain ⟨c,hc⟩ := h n (by omega)
   refine ⟨l ++ [c],by simp [h1],fun j c' hj => ?_⟩
   by_cases hjn : j < l.length
   ·rw [List.getElem?_append_left hjn] at hj; exact h2 j c' hj
   ·rw [List.getElem?_append_right (by omega)] at hj
    have : j - l.length = 0 := by
     have := (List.getElem?_eq_some_iff.1 hj).1
     simp at this; omega
    rw [this] at hj
    simp at hj
    subst hj
    have : j = n := by omega
    rw [this]; exact hc
theorem qEx (a : Addr) (m n : Nat) : (a.add m).add n = a.add (m + n) := by
 unfold Addr.add
 by_cases hm : m = 0
 ·subst hm; simp
 ·by_cases hn : n = 0
  ·subst hn; simp
  ·simp [hm,hn,show m + n ≠ 0 by omega,Nat.add_assoc]
def ZW (w : World) : Zone := fun _ b => b < w.heap.size
section
variable {H : Type} {enc : TypeId × Value -> H} {P : Program} {w : World} {sp : Nat -> Bool} {hd : Bool}
theorem qEA {B : Nat} : ∀ (n fuel : Nat) (t : TypeId) (ts : List Ty) (cs : List Value) (x : DataW H × List MemPlace), qEs P n t ts = true -> Fits B x.1 -> DataW.trod enc P w 0 sp hd fuel t cs = some x ->
  cs.length = ts.length /\ ∀ (j : Nat) (t' : Ty),ts[j]? = some t' -> ∃ (c : PV) (v : Value),cs[j]? = some v /\ CellB B t' c /\ TR w (ZW w) c v /\ v.oneCell' = true := by
 intro n
 induction n with
 | zero => intro fuel t ts cs x h; simp [qEs] at h
 | succ n ih =>
   intro fuel t ts cs x h hB hx
   cases fuel with
   | zero => simp [DataW.trod] at hx
   | succ fuel =>
     unfold qEs at h
     unfold DataW.trod at hx
     split at h
     ·rename_i hu
      rw [hu] at hx
      split at h
      ·split at hx <;> first | (cases hx; done) | skip
       all_goals first
        | (rename_i h1; cases h1; done)
        | skip
       rename_i b _
       refine ⟨rfl,fun j t' hj => ?_⟩
       cases j with
       | zero => simp at hj; subst hj; exact ⟨.sc (.bool b),.bool b,rfl,.b b,.sc _ rfl,rfl⟩
       | succ j => simp at hj
      ·cases h
     ·rename_i k hu
      rw [hu] at hx
      split at h
      ·rename_i k'
       have hk : k = k' := by cases k <;> cases k' <;> first | rfl | (cases h; done)
       subst hk
       split at hx <;> first | (cases hx; done) | skip
       all_goals first
        | (rename_i h1; cases h1; done)
        | skip
       rename_i k2 k1 m h1
       cases h1
       split at hx
       ·rename_i hh
        obtain ⟨rfl,hw⟩ := hh
        simp only [Lit.wf,Bool.and_eq_true,decide_eq_true_eq] at hw
        refine ⟨rfl,fun j t' hj => ?_⟩
        cases j with
        | zero => simp at hj; subst hj; exact ⟨.sc (.int _ m),.int _ m,rfl,.i _ m hw.1 hw.2,.sc _ rfl,rfl⟩
        | succ j => simp at hj
       ·cases hx
      ·cases h
     ·rename_i e hu
      rw [hu] at hx
      split at h
      ·rename_i es us
       simp only [Bool.and_eq_true,beq_iff_eq,decide_eq_true_eq] at h
       obtain ⟨⟨⟨h1,h2⟩,h3⟩,h4⟩ := h
       rcases cs with _ | ⟨v,_ | ⟨v2,r⟩⟩
       ·cases hx
       ·have nilCase : ∀ (p : Option Addr) (cap : Nat), cap <= maxLen -> ([Value.slice p 0 cap] : List Value).length = [Ty.sl es us].length /\ ∀ (j : Nat) (t' : Ty), [Ty.sl es us][j]? = some t' -> ∃ (c : PV) (v' : Value), [Value.slice p 0 cap][j]? = some v' /\ CellB B t' c /\ TR w (ZW w) c v' /\ v'.oneCell' = true := fun p cap hcap => by
         refine ⟨rfl,fun j t' hj => ?_⟩
         cases j with
         | zero =>
           simp at hj; subst hj
           exact ⟨.sl true es [],_,rfl,.sl es us [] (Nat.zero_le _) (fun r hr => by cases hr) (fun r hr => by cases hr),.sl0 true es p cap hcap,rfl⟩
         | succ j => simp at hj
        cases v <;> first | (cases hx; done) | skip
        rename_i p len cap
        cases p with
        | none =>
          cases len with
          | zero => cases cap with
            | zero => exact nilCase none 0 (Nat.zero_le _)
            | succ c => cases hx
          | succ l => cases hx
        | some ad =>
          simp only at hx
          split at hx
          ·rename_i hb
           obtain ⟨_,hlc,hcm⟩ := hb
           cases hm : (List.range len).mapM (fun i => (w.cells? 0 (ad.add (i * P.cellsOf e)) (P.cellsOf e)).bind (DataW.trod enc P w 0 sp hd fuel e)) with
           | none => rw [hm] at hx; cases hx
           | some elems =>
             have hxs : ∃ r,x.1 = .slice (elems.map (·.1)) r := by
              rw [hm] at hx
              obtain ⟨rest,_,hx⟩ := Option.map_eq_some_iff.1 hx
              exact ⟨_,by rw [<- hx]⟩
             obtain ⟨rest,hxs⟩ := hxs
             rw [hxs] at hB
             have hel := qEu hm
             rw [List.length_range] at hel
             have hlB : len <= B := by
              have := hB.len (by rw [List.length_map]; omega)
              rw [List.length_map] at this
              omega
             clear hx
             by_cases hl0 : len = 0
             ·subst hl0; exact nilCase (some ad) cap hcm
             have row : ∀ i,i < len -> ∃ rr : List PV,rr.length = es /\ ∀ (j : Nat) (c : PV),rr[j]? = some c -> ∃ v',w.cell? (ad.add (i * es + j)) = some v' /\ (∀ t',us[j]? = some t' -> CellB B t' c) /\ TR w (ZW w) c v' /\ v'.oneCell' = true := fun i hi => by
              obtain ⟨y,hye,hy⟩ := qEv hm i (List.mem_range.2 hi)
              cases hc : w.cells? 0 (ad.add (i * P.cellsOf e)) (P.cellsOf e) with
              | none => rw [hc] at hy; cases hy
              | some cs' =>
                rw [hc] at hy
                have hy : DataW.trod enc P w 0 sp hd fuel e cs' = some y := hy
                obtain ⟨g1,g2⟩ := ih fuel e us cs' y h4 (hB.el (List.mem_map_of_mem hye)) hy
                rw [h2] at hc
                obtain ⟨_,hlen,hat⟩ := World.cells?_some hc
                refine qEw (Q := fun j c => ∃ v',w.cell? (ad.add (i * es + j)) = some v' /\ (∀ t',us[j]? = some t' -> CellB B t' c) /\ TR w (ZW w) c v' /\ v'.oneCell' = true) es fun j hj => ?_
                obtain ⟨c,v',q1,q2,q3,q4⟩ := g2 j us[j] (List.getElem?_eq_getElem (by omega))
                refine ⟨c,v',?_,fun t' ht' => ?_,q3,q4⟩
                ·rw [<- qEx,hat j hj]; exact q1
                ·rw [List.getElem?_eq_getElem (by omega)] at ht'; cases ht'; exact q2
             obtain ⟨rows,hr1,hr2⟩ := qEw (Q := fun i (rr : List PV) => rr.length = es /\ ∀ (j : Nat) (c : PV),rr[j]? = some c -> ∃ v',w.cell? (ad.add (i * es + j)) = some v' /\ (∀ t',us[j]? = some t' -> CellB B t' c) /\ TR w (ZW w) c v' /\ v'.oneCell' = true) len row
             have hrow : ∀ r ∈ rows,∃ i,i < len /\ rows[i]? = some r := fun r hr => by
              obtain ⟨i,hi,rfl⟩ := List.getElem_of_mem hr
              exact ⟨i,by omega,List.getElem?_eq_getElem hi⟩
             have hspot : ad.spot = none /\ ad.block < w.heap.size := by
              obtain ⟨r0,hr0⟩ : ∃ r0,rows[0]? = some r0 := ⟨rows[0],List.getElem?_eq_getElem (by omega)⟩
              obtain ⟨e1,e2⟩ := hr2 0 r0 hr0
              obtain ⟨v',e3,_⟩ := e2 0 r0[0] (List.getElem?_eq_getElem (by omega))
              simp only [Nat.zero_mul,Nat.zero_add,Addr.add,if_true] at e3
              unfold World.cell? at e3
              split at e3
              ·rename_i hb
               split at e3
               ·cases e3
               ·rename_i hs
                refine ⟨by cases hsp : ad.spot <;> simp_all,?_⟩
                exact (Array.getElem?_eq_some_iff.1 hb).1
              ·cases e3
             have haddr : ∀ k,ad.add k = ⟨ad.block,ad.off + k,none⟩ := fun k => by
              obtain ⟨b0,o0,s0⟩ := ad
              have : s0 = none := hspot.1
              subst this
              unfold Addr.add
              split
              ·rename_i hk; subst hk; rfl
              ·rfl
             refine ⟨rfl,fun j t' hj => ?_⟩
             cases j with
             | succ j => simp at hj
             | zero =>
               simp at hj; subst hj
               refine ⟨.sl true es rows,_,rfl,.sl es us rows (by omega) (fun r hr => ?_) (fun r hr j t'' c ht hc => ?_),?_,rfl⟩
               ·obtain ⟨i,hi,hri⟩ := hrow r hr; rw [(hr2 i r hri).1,h1]
               ·obtain ⟨i,hi,hri⟩ := hrow r hr
                obtain ⟨v',_,q,_⟩ := (hr2 i r hri).2 j c hc
                exact q t'' ht
               ·have had : ad = ⟨ad.block, ad.off, none⟩ := by
                 obtain ⟨b0,o0,s0⟩ := ad
                 have : s0 = none := hspot.1
                 subst this; rfl
                rw [had,<- hr1]
                refine TR.sl true es rows ad.block ad.off cap (fun i j => (w.cell? (ad.add (i * es + j))).getD undef) h3 hspot.2 (by omega) (by omega) hcm (fun r hr => ?_) (fun i j hi hj => ?_) (fun i j r c hi hj => ?_)
                ·obtain ⟨i,hi,hri⟩ := hrow r hr; exact (hr2 i r hri).1
                ·have hri : rows[i]? = some rows[i] := List.getElem?_eq_getElem hi
                 obtain ⟨e1,e2⟩ := hr2 i _ hri
                 obtain ⟨v',e3,_,_,e4⟩ := e2 j rows[i][j] (List.getElem?_eq_getElem (by omega))
                 rw [e3,<- haddr,e3]
                 exact ⟨rfl,e4⟩
                ·obtain ⟨v',e3,_,e5,_⟩ := (hr2 i r hi).2 j c hj
                 rw [e3]; exact e5
          ·cases hx
       ·exfalso
        split at hx <;> first | (cases hx; done) | (rename_i h5 h6; cases h5; done) | (rename_i h5 h6; cases h6; done) | simp_all
      ·cases h
     ·rename_i fs hu
      rw [hu] at hx
      simp only [Bool.and_eq_true,beq_iff_eq,List.all_eq_true,List.any_eq_true,decide_eq_true_eq] at h
      obtain ⟨⟨h1,h2⟩,h3⟩ := h
      have hx : (if cs.length = P.cellsOf t then ((fs.toList.mapM fun f => DataW.trod enc P w 0 sp hd fuel f.type ((cs.drop f.offset).take (P.cellsOf f.type))).map fun xs => (DataW.agg (xs.map (·.1)),xs.flatMap (·.2))) else none) = some x := hx
      split at hx
      ·rename_i hl
       refine ⟨by omega,fun j t' hj => ?_⟩
       have hjl := (List.getElem?_eq_some_iff.1 hj).1
       obtain ⟨f,hf,hf1,hf2⟩ := h3 j (List.mem_range.2 hjl)
       cases hm : fs.toList.mapM (fun f => DataW.trod enc P w 0 sp hd fuel f.type ((cs.drop f.offset).take (P.cellsOf f.type))) with
       | none => rw [hm] at hx; cases hx
       | some ys =>
         obtain ⟨y,hye,hy⟩ := qEv hm f hf
         have hxa : x.1 = .agg (ys.map (·.1)) := by
          rw [hm] at hx
          have hx : some (DataW.agg (ys.map (·.1)),ys.flatMap (·.2)) = some x := hx
          cases hx; rfl
         rw [hxa] at hB
         obtain ⟨g1,g2⟩ := ih fuel f.type _ _ y (h1 f hf) (hB.agg (List.mem_map_of_mem hye)) hy
         have hj' : ((ts.drop f.offset).take (P.cellsOf f.type))[j - f.offset]? = some t' := by
          rw [List.getElem?_take,if_pos (by omega),List.getElem?_drop,show f.offset + (j - f.offset) = j from by omega]; exact hj
         obtain ⟨c,v,q1,q2⟩ := g2 _ t' hj'
         refine ⟨c,v,?_,q2⟩
         rw [List.getElem?_take,if_pos (by omega),List.getElem?_drop,show f.offset + (j - f.offset) = j from by omega] at q1
         exact q1
      ·cases hx
     ·rename_i m e hu
      rw [hu] at hx
      simp only [Bool.and_eq_true,beq_iff_eq,List.all_eq_true,List.any_eq_true,decide_eq_true_eq] at h
      obtain ⟨⟨h1,h2⟩,h3⟩ := h
      have hx : (if cs.length = P.cellsOf t then (((List.range m).mapM fun i => DataW.trod enc P w 0 sp hd fuel e ((cs.drop (i * P.cellsOf e)).take (P.cellsOf e))).map fun xs => (DataW.agg (xs.map (·.1)),xs.flatMap (·.2))) else none) = some x := hx
      split at hx
      ·rename_i hl
       refine ⟨by omega,fun j t' hj => ?_⟩
       have hjl := (List.getElem?_eq_some_iff.1 hj).1
       obtain ⟨i,hi,hf1,hf2⟩ := h3 j (List.mem_range.2 hjl)
       cases hm : (List.range m).mapM (fun i => DataW.trod enc P w 0 sp hd fuel e ((cs.drop (i * P.cellsOf e)).take (P.cellsOf e))) with
       | none => rw [hm] at hx; cases hx
       | some ys =>
         obtain ⟨y,hye,hy⟩ := qEv hm i hi
         have hxa : x.1 = .agg (ys.map (·.1)) := by
          rw [hm] at hx
          have hx : some (DataW.agg (ys.map (·.1)),ys.flatMap (·.2)) = some x := hx
          cases hx; rfl
         rw [hxa] at hB
         obtain ⟨g1,g2⟩ := ih fuel e _ _ y (h1 i hi) (hB.agg (List.mem_map_of_mem hye)) hy
         have hj' : ((ts.drop (i * P.cellsOf e)).take (P.cellsOf e))[j - i * P.cellsOf e]? = some t' := by
          rw [List.getElem?_take,if_pos (by omega),List.getElem?_drop,show i * P.cellsOf e + (j - i * P.cellsOf e) = j from by omega]; exact hj
         obtain ⟨c,v,q1,q2⟩ := g2 _ t' hj'
         refine ⟨c,v,?_,q2⟩
         rw [List.getElem?_take,if_pos (by omega),List.getElem?_drop,show i * P.cellsOf e + (j - i * P.cellsOf e) = j from by omega] at q1
         exact q1
      ·cases hx
     ·cases h
def aggT (P : Program) (t : TypeId) : Bool := match P.underlying t with | some (.struct _) | some (.array _ _) => true | _ => false
def RowB (B : Nat) (ts : List Ty) (pc : List PV) : Prop := pc.length = ts.length /\ ∀ (j : Nat) (t : Ty) (c : PV),ts[j]? = some t -> pc[j]? = some c -> CellB B t c
abbrev RowV : List Ty -> List PV -> Prop := RowB maxLen
theorem qEB {B : Nat} {n : Nat} {t : TypeId} {ts : List Ty} {v : Value} {base : Nat} {d : DataW H} {ps : List MemPlace} (hf : qEs P n t ts = true) (hs : aggT P t = true) (hok : Value.okWide P w .any base t v)
  (hB : Fits B d) (h : DataW.Trod enc P w 0 sp hd t v d ps) : ∃ pc : List PV,RowB B ts pc /\ TV w (ZW w) (.agg pc) v := by
 obtain ⟨fuel,h⟩ := h
 have hv : ∃ cs : Array Value,v = .agg cs := by
  unfold Value.okWide at hok
  unfold aggT at hs
  split at hs
  ·rename_i hu; rw [hu] at hok; obtain ⟨cs,e,_⟩ := hok; exact ⟨cs,e⟩
  ·rename_i hu; rw [hu] at hok; obtain ⟨cs,e,_⟩ := hok; exact ⟨cs,e⟩
  ·cases hs
 obtain ⟨cs,rfl⟩ := hv
 obtain ⟨g1,g2⟩ := qEA n fuel t ts cs.toList (d,ps) hf hB h
 obtain ⟨pc,h1,h2⟩ := qEw (Q := fun j c => ∃ v,cs.toList[j]? = some v /\ (∀ t',ts[j]? = some t' -> CellB B t' c) /\ TR w (ZW w) c v /\ v.oneCell' = true) ts.length fun j hj => by
  obtain ⟨c,v,q1,q2,q3,q4⟩ := g2 j ts[j] (List.getElem?_eq_getElem hj)
  exact ⟨c,v,q1,fun t' ht => by rw [List.getElem?_eq_getElem hj] at ht; cases ht; exact q2,q3,q4⟩
 refine ⟨pc,⟨h1,fun j t' c ht hc => ?_⟩,cs,rfl,by rw [h1,<- g1]; simp,fun j c hc => ?_⟩
 ·obtain ⟨v,_,q,_⟩ := h2 j c hc; exact q t' ht
 ·obtain ⟨v,q1,_,q3,q4⟩ := h2 j c hc
  have : cs.getD j undef = v := by
   rw [Array.getD_eq_getD_getElem?]
   have : cs[j]? = some v := by simpa using q1
   rw [this]; rfl
  rw [this]; exact ⟨q3,q4⟩
theorem qEC {n : Nat} {t : TypeId} {ts : List Ty} {v : Value} {base : Nat} {d : DataW H} {ps : List MemPlace} (hf : qEs P n t ts = true) (hs : aggT P t = true) (hok : Value.okWide P w .any base t v)
  (h : DataW.Trod enc P w 0 sp hd t v d ps) : ∃ pc : List PV,RowV ts pc /\ TV w (ZW w) (.agg pc) v := qEB hf hs hok (.inl (Nat.le_refl _)) h
theorem qED {B : Nat} {n : Nat} {t : TypeId} {t' : Ty} {v : Value} {d : DataW H} {ps : List MemPlace} (hf : qEs P n t [t'] = true) (hv : v.cells = #[v])
  (hB : Fits B d) (h : DataW.Trod enc P w 0 sp hd t v d ps) : ∃ c : PV,CellB B t' c /\ TV w (ZW w) c v := by
 obtain ⟨fuel,h⟩ := h
 rw [hv] at h
 obtain ⟨g1,g2⟩ := qEA n fuel t [t'] _ (d,ps) hf hB h
 obtain ⟨c,u,q1,q2,q3,q4⟩ := g2 0 t' rfl
 simp at q1; subst q1
 refine ⟨c,q2,?_⟩
 cases c <;> simp only [TV,TA] <;> first | exact q3 | (cases q3)
theorem argC {n : Nat} {t : TypeId} {t' : Ty} {v : Value} {d : DataW H} {ps : List MemPlace} (hf : qEs P n t [t'] = true) (hv : v.cells = #[v])
  (h : DataW.Trod enc P w 0 sp hd t v d ps) : ∃ c : PV,qEt t' c /\ TV w (ZW w) c v := qED hf hv (.inl (Nat.le_refl _)) h
theorem qEE {f : FuncId} {args : List PV} {vs : Array Value} (hc : FnEq P f args (.bool true)) (hn : vs.size = args.length) (h : ∀ (j : Nat) (c : PV), args[j]? = some c -> TV w (ZW w) c (vs.getD j undef)) :
  Calls P f vs w fun e w' => e = .returned (.bool true) /\ Below w.heap.size w w' := by
 refine (hc w (ZW w) (fun _ h => h) (fun _ _ h => h) vs hn h).mono ?_
 rintro e w' ⟨v,r,rfl,rfl,h1,h2⟩
 cases h1
 exact ⟨rfl,h2⟩
end
end Go.Vc
namespace Go.Proofs.YtdmkfgkmnpohlaaGreat
open Go Go.Vc Txt
theorem qEH {a : List PV} (h : RowV [] a) : a = [] := List.length_eq_zero_iff.1 h.1
theorem qmn {t : Ty} {ts : List Ty} {a : List PV} (h : RowV (t :: ts) a) : ∃ c r,a = c :: r /\ qEt t c /\ RowV ts r := by
 obtain ⟨h1,h2⟩ := h
 cases a with
 | nil => cases h1
 | cons c r => exact ⟨c,r,rfl,h2 0 t c rfl rfl,by simpa using h1,fun j t' c' ht hc => h2 (j + 1) t' c' ht hc⟩
theorem qEI {k : IntKind} {c : PV} (h : qEt (.i k) c) : ∃ n : Int,c = .sc (.int k n) /\ k.min <= n /\ n <= k.max := by
 cases h with | i k n h1 h2 => exact ⟨n,rfl,h1,h2⟩
theorem qEJ {c : PV} (h : qEt (.i .u8) c) : ∃ n : Int,c = .sc (.int .u8 n) /\ 0 <= n /\ n <= 255 := by
 obtain ⟨n,h1,h2,h3⟩ := qEI h
 exact ⟨n,h1,h2,h3⟩
theorem qEK {c : PV} (h : qEt (.i .i64) c) : ∃ n : Int,c = .int n /\ -9223372036854775808 <= n /\ n <= 9223372036854775807 := by
 obtain ⟨n,h1,h2,h3⟩ := qEI h
 exact ⟨n,h1,h2,h3⟩
theorem qEL {es : Nat} {ts : List Ty} {c : PV} (h : qEt (.sl es ts) c) : ∃ rs : List (List PV),c = .sl true es rs /\ rs.length <= maxLen /\ ∀ r ∈ rs,RowV ts r := by
 cases h with | sl es ts rs h1 h2 h3 => exact ⟨rs,rfl,h1,fun r hr => ⟨h2 r hr,h3 r hr⟩⟩
theorem qEM {α : Type} {f : α -> List PV} {Q : α -> Prop} : ∀ {rs : List (List PV)},(∀ r ∈ rs,∃ x,r = f x /\ Q x) -> ∃ l : List α,rs = rows f l /\ ∀ x ∈ l,Q x
 | [],_ => ⟨[],rfl,fun x hx => by cases hx⟩
 | r :: rs, h => by
   obtain ⟨x,rfl,hx⟩ := h r (by simp)
   obtain ⟨l,rfl,hl⟩ := qEM (f := f) (Q := Q) (rs := rs) fun r hr => h r (by simp [hr])
   refine ⟨x :: l,rfl,fun y hy => ?_⟩
   rcases List.mem_cons.1 hy with rfl | hy
   ·exact hx
   ·exact hl y hy
theorem qEN {c : PV} (h : qEt (.sl 1 [.i .u8]) c) : ∃ l : List Int,c = .sl true 1 (qk8 l) /\ (l.length : Int) <= 9223372036854775807 /\ ∀ b ∈ l,0 <= b /\ b <= 255 := by
 obtain ⟨rs,rfl,h1,h2⟩ := qEL h
 obtain ⟨l,rfl,hl⟩ := qEM (f := fun x : Int => [PV.sc (.int .u8 x)]) (Q := fun b => 0 <= b /\ b <= 255) (rs := rs) fun r hr => by
  obtain ⟨c,q,rfl,hc,h3⟩ := qmn (h2 r hr)
  obtain ⟨n,rfl,hn⟩ := qEJ hc
  rw [qEH h3]
  exact ⟨n,rfl,hn⟩
 simp only [rows,List.length_map] at h1
 have : maxLen = 9223372036854775807 := rfl
 exact ⟨l,rfl,by omega,hl⟩
theorem qEO {c : PV} (h : qEt (.sl 1 [.i .i64]) c) : ∃ l : List Int,c = .sl true 1 (ints l) /\ ∀ b ∈ l,-9223372036854775808 <= b /\ b <= 9223372036854775807 := by
 obtain ⟨rs,rfl,_,h2⟩ := qEL h
 obtain ⟨l,rfl,hl⟩ := qEM (f := fun x : Int => [PV.int x]) (Q := fun b => -9223372036854775808 <= b /\ b <= 9223372036854775807) (rs := rs) fun r hr => by
  obtain ⟨c,q,rfl,hc,h3⟩ := qmn (h2 r hr)
  obtain ⟨n,rfl,hn⟩ := qEK hc
  rw [qEH h3]
  exact ⟨n,rfl,hn⟩
 exact ⟨l,rfl,hl⟩
theorem qER {P : Program} {W : World} {base : Nat} {t : TypeId} {k : IntKind} {v : Value} (hu : P.underlying t = some (.int k)) (h : Value.okWide P W .any base t v) : ∃ n,v = .int k n := by
 unfold Value.okWide Cell.okWide Cell.ok at h
 rw [hu] at h
 cases v <;> first
  | (rename_i k' n; simp only at h; exact ⟨n,by rw [h.1]⟩)
  | (simp only at h)
structure DesOk (g : Grid) (p : Packed) (l : Layout) : Prop where
 fit : FitsF p g l
 pos : l.pos.length <= 12
 rts : l.routes.length <= 5
 nds : ∀ r ∈ l.routes,r.nodes.length <= 16
theorem qET {x : Raw31} (hx : x.By) : DesOk (qBX x.g) (qBY x) (layM x) := by
 obtain ⟨h1,h2⟩ := qAs (qBX x.g) x.blocks (min x.blocks.length 12)
 obtain ⟨q1,q2,q3,q4,q5⟩ := qC1 (qBZ x.g).1 x.routes (fun l hl => (hx.routes l hl).2) (min x.routes.length 5)
 refine ⟨qC2 hx,?_,?_,q5⟩
 ·have := h1.len
  show (blkN _ _ _).2.length <= 12
  omega
 ·show (rtN _ _ _).2.length <= 5
  omega
def qEW : List Ty := [.i .u8,.i .u8,.i .u8,.i .u8,.sl 1 [.i .u8],.sl 3 [.i .u8,.i .u8,.i .u8],.sl 1 [.sl 1 [.i .u8]]]
theorem qEX {a : List PV} (h : RowV qEW a) : ∃ x : Raw31,x.By /\ a = qEj true x := by
 obtain ⟨c0,a0,rfl,h0,k0⟩ := qmn h
 obtain ⟨c1,a1,rfl,h1,k1⟩ := qmn k0
 obtain ⟨c2,a2,rfl,h2,k2⟩ := qmn k1
 obtain ⟨c3,a3,rfl,h3,k3⟩ := qmn k2
 obtain ⟨c4,a4,rfl,h4,k4⟩ := qmn k3
 obtain ⟨c5,a5,rfl,h5,k5⟩ := qmn k4
 obtain ⟨c6,a6,rfl,h6,k6⟩ := qmn k5
 obtain ⟨n0,rfl,b0⟩ := qEJ h0
 obtain ⟨n1,rfl,b1⟩ := qEJ h1
 obtain ⟨n2,rfl,b2⟩ := qEJ h2
 obtain ⟨n3,rfl,b3⟩ := qEJ h3
 obtain ⟨l,rfl,hn,hl⟩ := qEN h4
 obtain ⟨rs,rfl,hrl,hr⟩ := qEL h5
 obtain ⟨bs,rfl,hbs⟩ := qEM (f := qAp) (Q := fun y => (0 <= y.1 /\ y.1 <= 255) /\ (0 <= y.2.1 /\ y.2.1 <= 255) /\ (0 <= y.2.2 /\ y.2.2 <= 255)) (rs := rs) fun r hr2 => by
  obtain ⟨d0,q0,rfl,e0,g0⟩ := qmn (hr r hr2)
  obtain ⟨d1,q1,rfl,e1,g1⟩ := qmn g0
  obtain ⟨d2,q2,rfl,e2,g2⟩ := qmn g1
  obtain ⟨m0,rfl,f0⟩ := qEJ e0
  obtain ⟨m1,rfl,f1⟩ := qEJ e1
  obtain ⟨m2,rfl,f2⟩ := qEJ e2
  rw [qEH g2]
  exact ⟨(m0,m1,m2),rfl,f0,f1,f2⟩
 obtain ⟨ss,rfl,hsl,hs⟩ := qEL h6
 obtain ⟨xs,rfl,hxs⟩ := qEM (f := qEh true) (Q := fun l => (l.length : Int) <= 9223372036854775807 /\ ∀ y ∈ l,0 <= y /\ y <= 255) (rs := ss) fun r hr2 => by
  obtain ⟨d0,q0,rfl,e0,g0⟩ := qmn (hs r hr2)
  obtain ⟨m,rfl,f0,f1⟩ := qEN e0
  rw [qEH g0]
  exact ⟨m,rfl,f0,f1⟩
 rw [qEH k6]
 have : maxLen = 9223372036854775807 := rfl
 simp only [rows,List.length_map] at hrl hsl
 exact ⟨⟨⟨n0,n1,n2,n3,l⟩,bs,xs⟩,⟨⟨b0,b1,b2,b3,hn,hl⟩,by show (bs.length : Int) <= _; omega,hbs,by show (xs.length : Int) <= _; omega,hxs⟩,rfl⟩
theorem qEY (x : Raw31) : Sub (.agg (qEj true x)) (.agg (qEj false x)) := by
 have sl : ∀ (es : Nat) (xs : List (List PV)),Sub (.sl true es xs) (.sl false es xs) := fun es xs => .slp _ _ _ _ (fun h => by cases h)
 exact Sub.aggL ⟨.refl _,.refl _,.refl _,.refl _,sl _ _,sl _ _,Sub.slR 1 (fun h => by cases h) (SubR.map _ _ _ fun r _ => ⟨sl _ _,trivial⟩),trivial⟩
end Go.Proofs.YtdmkfgkmnpohlaaGreat
namespace Go.Proofs.YtdmkfgkmnpohlaaGreat.Txt
open Go Go.Vc
set_option maxRecDepth 100000
def ac7c : AC :=
 (.seq (.reg [0,43,0] [
 (aO 1 (.box (.t 0))),(aO 2 (.mv (.c (.sc (.bool false)))))])
 (.seq (.rgs [
 ([0,43,1],[
 (aO 5 (.fa 10 (.t 1))),(aO 6 (.fa 0 (.t 5))),(aO 7 (.ld false 1 (.t 6))),(aO 8 (.len (.t 7))),(aO 9 (.fa 10 (.t 1))),(aO 10 (.fa 1 (.t 9))),(aO 11 (.ld false 1 (.t 10))),(aO 12 (.len (.t 11))),(aO 13 (.ari .add false .i64 (.t 8) (.t 12))),(aO 14 (.fa 12 (.t 1))),(aO 15 (.fa 0 (.t 14))),(aO 16 (.ld false 1 (.t 15)))]),([0,43,1,13,16],[
 (aO 17 (.len (.t 16))),(aO 18 (.ari .add false .i64 (.t 13) (.t 17))),(aO 19 (.fa 12 (.t 1))),(aO 20 (.fa 1 (.t 19))),(aO 21 (.ld false 1 (.t 20))),(aO 22 (.len (.t 21))),(aO 23 (.ari .add false .i64 (.t 18) (.t 22))),(aO 3 (.mv (.t 23)))])])
 (.seq (.seq (.reg [0,43,1,3] [
 (aO 4 (.mv (kI 0)))])
 (.block 0
 (.loop [0,43,1,3,4]
 (.seq (.seq (.reg [0,43,1,3,4] [
 (aO 24 (.mv (.t 4))),(aO 25 (.fa 10 (.t 1))),(aO 26 (.fa 1 (.t 25))),(aO 27 (.ld false 1 (.t 26))),(aO 28 (.len (.t 27))),(aO 29 (.cmp .lss .i64 (.t 24) (.t 28)))])
 (.cond (.t 29)
 .skip
 (.exit 0)))
 (.seq (.block 1
 (.reg [0,43,1,3,4] [
 (aO 32 (.mv (.t 3))),(aO 33 (.fa 10 (.t 1))),(aO 34 (.fa 1 (.t 33))),(aO 35 (.ld false 1 (.t 34))),(aO 36 (.mv (.t 4))),(aO 37 (.ixs 1 (.t 35) (.t 36))),(aO 38 (.ld false 1 (.t 37))),(aO 39 (.len (.t 38))),(aO 40 (.ari .add false .i64 (.t 32) (.t 39))),(aO 3 (.mv (.t 40)))]))
 (.reg [0,43,1,3,4] [
 (aO 30 (.mv (.t 4))),(aO 31 (.ari .add false .i64 (.t 30) (kI 1))),(aO 4 (.mv (.t 31)))]))))))
 (.seq (.reg [0,43,3] [
 (aO 41 (.mv (.t 3))),(aO 42 (.cmp .leq .i64 (.t 41) (kI 100))),(aO 2 (.mv (.t 42)))])
 .ret))))
def rv7c : List RV := [.tmp 2]
theorem ok7c : fnOk Tryz.prog ac7c rv7c Tryz.f7 = true := by kernel_rfl

def ac8c : AC :=
 (.seq (.reg [0,35,0] [
 (aO 1 (.box (.t 0))),(aO 2 (.alc [zI,zI,zI,zI,.nil,.nil,.nil,.nil,.nil,.nil,.nil,.nil,.nil]))])
 (.seq (.reg [0,35,1,2] [
 (aO 5 (.fa 0 (.t 1))),(aO 6 (.ld true 7 (.t 5))),(aO 7 (.cal 22 [(.t 6)])),(aO 3 (.alc [zI,zI,zI,zI,.nil,.nil,.nil,.nil,.nil,.nil,.nil])),(aN (.sto 11 (.t 3) (.t 7)))])
 (.seq (.reg [0,35,1,2,3] [
 (aO 8 (.fa 5 (.t 3))),(aO 9 (.ld true 4 (.t 8))),(aO 10 (.fa 0 (.t 3))),(aO 11 (.ld true 5 (.t 10))),(aO 12 (.fa 9 (.t 3))),(aO 13 (.ld true 2 (.t 12))),(aO 14 (.cal 23 [(.t 9),(.t 11),(.t 13)])),(aO 15 (.fl true 0 4 (.t 14))),(aO 4 (.alc [.nil,.nil,.nil,.nil])),(aN (.sto 4 (.t 4) (.t 15)))])
 (.seq (.seq (.reg [0,35,1,2,3,4] [
 (aO 16 (.fa 7 (.t 1))),(aO 17 (.ld false 1 (.t 16))),(aO 18 (.len (.t 17))),(aO 19 (.cmp .gtr .i64 (.t 18) (kI 0)))])
 (.cond (.t 19)
 (.reg [0,35,1,2,3,4] [
 (aO 20 (.fa 0 (.t 3))),(aO 21 (.ld true 5 (.t 20))),(aO 22 (.fa 7 (.t 1))),(aO 23 (.ld false 1 (.t 22))),(aO 24 (.cal 24 [(.t 21),(.t 23)])),(aN (.sto 4 (.t 4) (.t 24)))])
 .skip))
 (.seq (.drw [0,35,1,2,3,4] [
 (eT 25 (.fa 0 (.t 3))),(eT 26 (.ld true 5 (.t 25))),(eT 27 (.ld true 4 (.t 4))),(eT 28 (.cal 25 [(.t 26),(.t 27)])),(eT 29 (.fa 10 (.t 1))),(eT 30 (.ld true 2 (.t 29))),(eT 31 (.fa 14 (.t 1))),(eT 32 (.ld false 1 (.t 31))),(eT 33 (.cal 12 [(kI 4),(.t 32)])),(eF 34 (.cal 16 [(.t 28),(.t 30),(.t 33)])),⟨(aN (.sto 13 (.t 2) (.t 34))),[],[],false⟩])
 .ret)))))
def rv8c : List RV := [.cell 2 true 13]
theorem ok8c : fnOk Tryz.prog ac8c rv8c Tryz.f8 = true := by kernel_rfl

def ac4c : AC :=
 (.seq (.reg [0,123,0,1] [
 (aO 2 (.box (.t 0))),(aO 4 (.mv (.c (.sc (.bool false)))))])
 (.seq (.reg [0,123,1,2] [
 (aO 15 (.cal 6 [])),(aO 5 (.mv (.t 15)))])
 (.seq (.seq (.reg [0,123,1,2,5] [
 (aO 16 (.mv (.t 5))),(aO 17 (.not (.t 16)))])
 (.cond (.t 17)
 (.seq (.reg [0,123] [
 (aO 4 (.mv (.c (.sc (.bool false)))))])
 .ret)
 .skip))
 (.seq (.seq (.reg [0,123,1,2,5] [
 (aO 18 (.ld true 16 (.t 2))),(aO 19 (.cal 7 [(.t 18)])),(aO 20 (.not (.t 19)))])
 (.cond (.t 20)
 (.seq (.reg [0,123,5] [
 (aO 21 (.mv (.t 5))),(aO 4 (.mv (.t 21)))])
 .ret)
 .skip))
 (.seq (.reg [0,123,1,2,5] [
 (aO 22 (.ld true 16 (.t 2))),(aO 23 (.cal 8 [(.t 22)])),(aO 6 (.alc [zI,zI,zI,zI,.nil,.nil,.nil,.nil,.nil,.nil,.nil,.nil,.nil])),(aN (.sto 13 (.t 6) (.t 23)))])
 (.seq (.reg [0,123,1,5,6] [
 (aO 24 (.fa 5 (.t 6))),(aO 25 (.fa 0 (.t 24))),(aO 26 (.ld false 1 (.t 25))),(aO 27 (.len (.t 26))),(aO 28 (.fa 0 (.t 6))),(aO 29 (.fa 3 (.t 28))),(aO 30 (.ld false 1 (.t 29))),(aO 31 (.ari .mul true .i64 (kI 2) (.t 30))),(aO 32 (.ari .sub true .i64 (.t 27) (.t 31))),(aO 7 (.mv (.t 32)))])
 (.seq (.reg [0,123,1,5,6,7] [
 (aO 33 (.mv (.t 1))),(aO 34 (.dvd .rem true .u8 (.t 33) (.c (.sc (.int .u8 4))))),(aO 35 (.cnv true .i64 (.t 34))),(aO 8 (.mv (.t 35)))])
 (.seq (.drw [0,123,5,6,7,8] [
 (eU 36 (.ld true 13 (.t 6)) [] [9]),(eU 37 (.fa 10 (.t 6)) [] [9]),(eU 38 (.ld true 2 (.t 37)) [] [9]),(eU 39 (.fa 12 (.t 6)) [] [9]),(eU 40 (.ld false 1 (.t 39)) [] [9]),(eU 41 (.mv (.t 8)) [] [9]),(eU 42 (.cal 17 [(.t 40),(.t 41)]) [] [9]),(eU 43 (.cal 16 [(.t 36),(.t 38),(.t 42)]) [] [9]),(eU 9 (.alc [zI,zI,zI,zI,.nil,.nil,.nil,.nil,.nil,.nil,.nil,.nil,.nil]) [9] []),⟨(aN (.sto 13 (.t 9) (.t 43))),[],[],false⟩])
 (.seq (.drw [0,123,5,6,7,8,9] [
 (eT 44 (.ld true 13 (.t 6))),(eT 45 (.cal 11 [(.t 44)])),(eT 46 (.ld true 13 (.t 9))),(eF 47 (.cal 11 [(.t 46)])),(eF 10 (.mv (.t 45))),(eF 11 (.mv (.t 47)))])
 (.seq (.seq (.drw [0,123,5,6,7,8,10,11] [
 (eT 48 (.mv (.t 10))),(eT 49 (.len (.t 48))),(eT 50 (.fa 5 (.t 6))),(eT 51 (.fa 0 (.t 50))),(eT 52 (.ld false 1 (.t 51))),(eT 53 (.len (.t 52))),(eF 54 (.cmp .neq .i64 (.t 49) (.t 53))),(eF 55 (.mv (.t 54))),⟨⟨some 56,some (55,false),.mv (.t 11)⟩,[],[],true⟩,⟨⟨some 57,some (55,false),.len (.t 56)⟩,[],[],true⟩,⟨⟨some 58,some (55,false),.mv (.t 10)⟩,[],[],true⟩,⟨⟨some 59,some (55,false),.len (.t 58)⟩,[],[],true⟩,⟨⟨some 60,some (55,false),.cmp .neq .i64 (.t 57) (.t 59)⟩,[],[],false⟩,(eF 61 (.pick (.t 55) (.c (.sc (.bool true))) (.t 60))),(eF 62 (.mv (.t 61))),⟨⟨some 63,some (62,false),.mv (.t 10)⟩,[],[],true⟩,⟨⟨some 64,some (62,false),.mv (.t 7)⟩,[],[],true⟩,⟨⟨some 65,some (62,false),.mv (.t 8)⟩,[],[],true⟩,⟨⟨some 66,some (62,false),.ari .add true .i64 (.t 64) (.t 65)⟩,[],[],true⟩,⟨⟨some 67,some (62,false),.ixs 1 (.t 63) (.t 66)⟩,[],[],true⟩,⟨⟨some 68,some (62,false),.ld false 1 (.t 67)⟩,[],[],true⟩,⟨⟨some 69,some (62,false),.mv (.t 11)⟩,[],[],true⟩,⟨⟨some 70,some (62,false),.mv (.t 7)⟩,[],[],true⟩,⟨⟨some 71,some (62,false),.mv (.t 8)⟩,[],[],true⟩,⟨⟨some 72,some (62,false),.ari .add true .i64 (.t 70) (.t 71)⟩,[],[],true⟩,⟨⟨some 73,some (62,false),.ixs 1 (.t 69) (.t 72)⟩,[],[],true⟩,⟨⟨some 74,some (62,false),.ld false 1 (.t 73)⟩,[],[],true⟩,⟨⟨some 75,some (62,false),.eqb false (.t 68) (.t 74)⟩,[],[],false⟩,(eF 76 (.pick (.t 62) (.c (.sc (.bool true))) (.t 75)))])
 (.cut [0,123,5,6,7,8,10,11,76] (.cond (.t 76)
 (.seq (.reg [0,123] [
 (aO 4 (.mv (.c (.sc (.bool false)))))])
 .ret)
 .skip)))
 (.seq (.reg [0,123,5,6,7,8,10,11] [
 (aO 12 (.mv (.c (.sc (.bool false)))))])
 (.seq (.seq (.reg [0,123,5,6,7,8,10,11,12] [
 (aO 13 (.mv (kI 0)))])
 (.block 0
 (.loop [0,123,5,6,7,8,10,11,12,13]
 (.seq (.seq (.reg [0,123,5,6,7,8,10,11,12,13] [
 (aO 77 (.mv (.t 13))),(aO 78 (.fa 9 (.t 6))),(aO 79 (.ld false 1 (.t 78))),(aO 80 (.len (.t 79))),(aO 81 (.cmp .lss .i64 (.t 77) (.t 80)))])
 (.cond (.t 81)
 .skip
 (.exit 0)))
 (.seq (.block 1
 (.reg [0,123,5,6,7,8,10,11,12,13] [
 (aO 84 (.mv (.t 12))),(aO 85 (.mv (.t 84))),⟨some 86,some (85,false),.fa 9 (.t 6)⟩,⟨some 87,some (85,false),.ld false 1 (.t 86)⟩,⟨some 88,some (85,false),.mv (.t 13)⟩,⟨some 89,some (85,false),.ixs 1 (.t 87) (.t 88)⟩,⟨some 90,some (85,false),.ld false 1 (.t 89)⟩,⟨some 91,some (85,false),.mv (.t 7)⟩,⟨some 92,some (85,false),.mv (.t 8)⟩,⟨some 93,some (85,false),.ari .add true .i64 (.t 91) (.t 92)⟩,⟨some 94,some (85,false),.cmp .eql .i64 (.t 90) (.t 93)⟩,(aO 95 (.pick (.t 85) (.c (.sc (.bool true))) (.t 94))),(aO 12 (.mv (.t 95)))]))
 (.reg [0,123,5,6,7,8,10,11,12,13] [
 (aO 82 (.mv (.t 13))),(aO 83 (.ari .add true .i64 (.t 82) (kI 1))),(aO 13 (.mv (.t 83)))]))))))
 (.seq (.seq (.reg [0,123,5,7,8,10,11,12] [
 (aO 14 (.mv (kI 0)))])
 (.block 2
 (.loop [0,123,5,7,8,10,11,12,14]
 (.seq (.seq (.reg [0,123,5,7,8,10,11,12,14] [
 (aO 96 (.mv (.t 14))),(aO 97 (.mv (.t 10))),(aO 98 (.len (.t 97))),(aO 99 (.cmp .lss .i64 (.t 96) (.t 98))),(aO 100 (.mv (.t 99))),⟨some 101,some (100,true),.mv (.t 12)⟩,⟨some 102,some (100,true),.not (.t 101)⟩,(aO 103 (.pick (.t 100) (.t 102) (.c (.sc (.bool false)))))])
 (.cut [0,123,5,7,8,10,11,12,14,103] (.cond (.t 103)
 .skip
 (.exit 2))))
 (.seq (.block 3
 (.seq (.drw [0,123,5,7,8,10,11,12,14] [
 (eT 106 (.mv (.t 14))),(eT 107 (.mv (.t 7))),(eT 108 (.mv (.t 8))),(eT 109 (.ari .add true .i64 (.t 107) (.t 108))),(eF 110 (.cmp .neq .i64 (.t 106) (.t 109))),(eF 111 (.mv (.t 110))),⟨⟨some 112,some (111,true),.mv (.t 10)⟩,[],[],true⟩,⟨⟨some 113,some (111,true),.mv (.t 14)⟩,[],[],true⟩,⟨⟨some 114,some (111,true),.ixs 1 (.t 112) (.t 113)⟩,[],[],true⟩,⟨⟨some 115,some (111,true),.ld false 1 (.t 114)⟩,[],[],true⟩,⟨⟨some 116,some (111,true),.mv (.t 11)⟩,[],[],true⟩,⟨⟨some 117,some (111,true),.mv (.t 14)⟩,[],[],true⟩,⟨⟨some 118,some (111,true),.ixs 1 (.t 116) (.t 117)⟩,[],[],true⟩,⟨⟨some 119,some (111,true),.ld false 1 (.t 118)⟩,[],[],true⟩,⟨⟨some 120,some (111,true),.eqb true (.t 115) (.t 119)⟩,[],[],false⟩,(eF 121 (.pick (.t 111) (.t 120) (.c (.sc (.bool false)))))])
 (.cut [0,123,5,7,8,10,11,12,14,121] (.cond (.t 121)
 (.seq (.reg [0,123] [
 (aO 4 (.mv (.c (.sc (.bool false)))))])
 .ret)
 .skip))))
 (.reg [0,123,5,7,8,10,11,12,14] [
 (aO 104 (.mv (.t 14))),(aO 105 (.ari .add true .i64 (.t 104) (kI 1))),(aO 14 (.mv (.t 105)))]))))))
 (.seq (.reg [0,123,5] [
 (aO 122 (.mv (.t 5))),(aO 4 (.mv (.t 122)))])
 .ret))))))))))))))
def rv4c : List RV := [.tmp 4]
theorem ok4c : fnOk Tryz.prog ac4c rv4c Tryz.f4 = true := by kernel_rfl
end Go.Proofs.YtdmkfgkmnpohlaaGreat.Txt
namespace Go.Proofs.YtdmkfgkmnpohlaaGreat
open Go Go.Vc Txt
theorem qF0 (p : Packed) : Sub (.agg (qwC true p)) (.agg (qwC false p)) :=
 Sub.aggL ⟨slTF _ _,Sub.slR 5 (fun h => by cases h) (SubR.map _ _ _ fun r _ => ⟨slTF _ _,.refl _,.refl _,.refl _,.refl _,trivial⟩),slTF _ _,slTF _ _,trivial⟩
theorem qF1 (l : Layout) : Sub (.agg (layC true l)) (.agg (layC false l)) :=
 Sub.aggL ⟨slTF _ _,Sub.slR 3 (fun h => by cases h) (SubR.map _ _ _ fun r _ => ⟨.refl _,slTF _ _,slTF _ _,trivial⟩),trivial⟩
structure CaseA where
 x : Raw31
 wild : List Int
 ins : List (Int × Int × Int)
 out : List (Int × Int × Int)
 s : PSt
 heads : List (Bool × Int)
 rooms : List Bool
 pads : List Int
 v : List Int
def qF2 (h : Bool × Int) : List PV := [.bool h.1,.int h.2]
@[push_cast] theorem qF3 (h : Bool × Int) : qF2 h = [.bool h.1,.int h.2] := rfl
def qF4 (q : Bool) (z : CaseA) : List PV := qEj q z.x ++ [.sl q 1 (qk8 z.wild),.sl q 3 (rows qAp z.ins),.sl q 3 (rows qAp z.out)] ++ pstC q z.s ++ [.sl q 2 (rows qF2 z.heads),.sl q 1 (rows qk7 z.rooms),.sl q 1 (qk8 z.pads),.sl q 1 (qk8 z.v)]
@[push_cast] theorem qF5 (q : Bool) (z : CaseA) : qF4 q z = qEj q z.x ++ [.sl q 1 (qk8 z.wild),.sl q 3 (rows qAp z.ins),.sl q 3 (rows qAp z.out)] ++ pstC q z.s ++ [.sl q 2 (rows qF2 z.heads),.sl q 1 (rows qk7 z.rooms),.sl q 1 (qk8 z.pads),.sl q 1 (qk8 z.v)] := rfl
structure CaseA.By (z : CaseA) : Prop where
 x : z.x.By
 wl : (z.wild.length : Int) <= 9223372036854775807
 wb : ∀ y ∈ z.wild,0 <= y /\ y <= 255
 pl : (z.pads.length : Int) <= 9223372036854775807
 pb : ∀ y ∈ z.pads,0 <= y /\ y <= 255
 vl : (z.v.length : Int) <= 9223372036854775807
 vb : ∀ y ∈ z.v,0 <= y /\ y <= 255
 ml : (z.s.mems.length : Int) <= 9223372036854775807
def qF6 (z : CaseA) : Cfg := if 0 < z.wild.length then qzr (qBX z.x.g) z.wild else encC (qBY z.x) (qBX z.x.g) (layM z.x)
theorem qF7 {z : CaseA} (hz : z.By) : CfgG (qBX z.x.g) (qF6 z) := by
 have hg := (qBZ z.x.g).1
 unfold qF6
 split
 ·exact qC6 hg hz.wb
 ·exact qC7 hg (qC2 hz.x)
theorem qF8 {x : Int} (h0 : -9223372036854775808 <= x) (h1 : x <= 9223372036854775807) : IntKind.wrap .i64 x = x := by
 unfold IntKind.wrap
 have h2 : (2 ^ IntKind.i64.bits : Int) = 18446744073709551616 := by decide
 have h4 : (2 ^ (IntKind.i64.bits - 1) : Int) = 9223372036854775808 := by decide
 have h3 : IntKind.i64.signed = true := rfl
 simp only [h2,h3,h4,Bool.true_and,decide_eq_true_eq]
 split <;> omega
set_option maxHeartbeats 4000000 in
theorem qF9 (z : CaseA) (hz : z.By) : FnOK Tryz.prog 7 [.agg (qF4 true z)] (fun r => ∃ b : Bool,r = .bool b) := by
 refine FnOK.of_awp Tryz.func7 ok7c (by show 1 <= _; decide) ?_
 simp only [ac7c,rv7c,List.cons_append,List.nil_append,push_cast,reduceIte,reduceEqDiff,reduceAdd,reduceSub,reduceMul,Nat.reduceBEq,reduceLT,reduceLeDiff,reduceCtorEq,reduceToNat,reduceNeg]
 have hml := hz.ml
 refine qoH (fun m st => ∃ (k : Nat) (n : Int),k <= z.s.mems.length /\ m = z.s.mems.length - k /\ st = ⟨[(1,.ptr 1 0),(3,.int n),(4,.int k)],[(1,qF4 true z)],[],[]⟩) z.s.mems.length ?_ ?_
 ·refine ⟨0,IntKind.wrap .i64 (IntKind.wrap .i64 (IntKind.wrap .i64 ((z.s.regs.length : Int) + z.s.mems.length) + z.heads.length) + z.rooms.length),by omega,by omega,?_⟩
  simp only [List.cons_append,List.nil_append,push_cast,reduceIte,reduceEqDiff,reduceAdd,reduceSub,reduceMul,Nat.reduceBEq,reduceLT,reduceLeDiff,reduceCtorEq,reduceToNat,reduceNeg]
 rintro m st ⟨k,n,hk,rfl,rfl⟩
 simp only [List.cons_append,List.nil_append,push_cast,reduceIte,reduceEqDiff,reduceAdd,reduceSub,reduceMul,Nat.reduceBEq,reduceLT,reduceLeDiff,reduceCtorEq,reduceToNat,reduceNeg]
 refine qnR (fun h => ?_) fun h => ?_
 ·have hw : IntKind.wrap .i64 ((k : Int) + 1) = (k : Int) + 1 := qF8 (by omega) (by omega)
  rw [hw]
  refine ⟨by omega,by omega,_,?_,k + 1,IntKind.wrap .i64 (n + ((z.s.mems.getD k default).length : Int)),by omega,rfl,?_⟩
  ·omega
  ·rfl
 ·exact ⟨_,rfl⟩
set_option maxHeartbeats 4000000 in
theorem qFa (z : CaseA) (hz : z.By) : FnEq Tryz.prog 8 [.agg (qF4 true z)] (.agg (qDX true (qBX z.x.g) (qF6 z) (qCs (qBX z.x.g) (qF6 z) (qF6 z).sel.length) z.s (qx7 4 z.pads))) := by
 refine FnEq.of_awp Tryz.func8 ok8c (by show 1 <= _; decide) (by simp only [push_cast,reduceIte,reduceEqDiff,reduceAdd,reduceSub,reduceMul,Nat.reduceBEq,reduceLT,reduceLeDiff,reduceCtorEq,reduceToNat,reduceNeg] <;> first | exact fun _ _ => trivial | simp) ?_
 have hM := qEr z.x hz.x
 have hcf := qF7 hz
 obtain ⟨hf,n1,n2,n3⟩ := qET hz.x
 have hg := (qBZ z.x.g).1
 have hW := qzx (qBX z.x.g) hg z.wild hz.wl hz.wb
 have hE := qEg (qBY z.x) (qBX z.x.g) hg (layM z.x) (by omega) (by omega) (fun r hr => ⟨by have := n3 r hr; omega,by have := n3 r hr; have := (hf.sh r hr).len; omega⟩)
 rw [qB7 hg hf] at hE
 have hO := qE1 (qBX z.x.g) hg (qF6 z) hcf
 have hB := qx8 4 (by decide) z.pads hz.pl hz.pb
 have hdf : qF6 z = if 0 < z.wild.length then qzr (qBX z.x.g) z.wild else encC (qBY z.x) (qBX z.x.g) (layM z.x) := rfl
 generalize qCs (qBX z.x.g) (qF6 z) (qF6 z).sel.length = dr at *
 generalize qF6 z = c at *
 generalize qx7 4 z.pads = bp at *
 generalize qBX z.x.g = g at *
 generalize qBY z.x = p at *
 generalize layM z.x = l at *
 simp only [ac8c,rv8c,List.cons_append,List.nil_append,push_cast,reduceIte,reduceEqDiff,reduceAdd,reduceSub,reduceMul,Nat.reduceBEq,reduceLT,reduceLeDiff,reduceCtorEq,reduceToNat,reduceNeg]
 refine qrm hM ⟨qEY z.x,trivial⟩ ?_
 simp only [List.cons_append,List.nil_append,push_cast,reduceIte,reduceEqDiff,reduceAdd,reduceSub,reduceMul,Nat.reduceBEq,reduceLT,reduceLeDiff,reduceCtorEq,reduceToNat,reduceNeg]
 refine qrm hE ⟨qF0 p,qDV g,qF1 l,trivial⟩ ?_
 simp only [List.cons_append,List.nil_append,push_cast,reduceIte,reduceEqDiff,reduceAdd,reduceSub,reduceMul,Nat.reduceBEq,reduceLT,reduceLeDiff,reduceCtorEq,reduceToNat,reduceNeg]
 refine qnR (fun h => ?_) fun h => ?_
 ·rw [if_pos (by omega)] at hdf
  refine qrm hW ⟨qDV g,slTF _ _,trivial⟩ ?_
  rw [<- hdf]
  simp only [List.cons_append,List.nil_append,push_cast,reduceIte,reduceEqDiff,reduceAdd,reduceSub,reduceMul,Nat.reduceBEq,reduceLT,reduceLeDiff,reduceCtorEq,reduceToNat,reduceNeg]
  refine qro hO sC rfl ?_
  simp only [List.cons_append,List.nil_append,push_cast,reduceIte,reduceEqDiff,reduceAdd,reduceSub,reduceMul,Nat.reduceBEq,reduceLT,reduceLeDiff,reduceCtorEq,reduceToNat,reduceNeg]
  refine qro hB ?_ ?_ ?_
  ·exact ⟨.refl _,slTF _ _,trivial⟩
  ·rfl
  simp only [List.cons_append,List.nil_append,push_cast,reduceIte,reduceEqDiff,reduceAdd,reduceSub,reduceMul,Nat.reduceBEq,reduceLT,reduceLeDiff,reduceCtorEq,reduceToNat,reduceNeg]
  refine qrm (qE2 g c dr ⟨[],[]⟩ z.s [] bp) ?_ ?_
  ·exact sC
  simp only [List.cons_append,List.nil_append,push_cast,reduceIte,reduceEqDiff,reduceAdd,reduceSub,reduceMul,Nat.reduceBEq,reduceLT,reduceLeDiff,reduceCtorEq,reduceToNat,reduceNeg]
  exact ⟨fun _ _ => trivial,fun _ _ => trivial,fun _ _ => trivial,fun _ _ => trivial,fun _ _ => trivial,fun _ _ => trivial,fun _ _ => trivial,fun _ _ _ _ => trivial,fun _ _ => trivial⟩
 ·rw [if_neg (by omega)] at hdf
  rw [<- hdf]
  refine qro hO sC rfl ?_
  simp only [List.cons_append,List.nil_append,push_cast,reduceIte,reduceEqDiff,reduceAdd,reduceSub,reduceMul,Nat.reduceBEq,reduceLT,reduceLeDiff,reduceCtorEq,reduceToNat,reduceNeg]
  refine qro hB ?_ ?_ ?_
  ·exact ⟨.refl _,slTF _ _,trivial⟩
  ·rfl
  simp only [List.cons_append,List.nil_append,push_cast,reduceIte,reduceEqDiff,reduceAdd,reduceSub,reduceMul,Nat.reduceBEq,reduceLT,reduceLeDiff,reduceCtorEq,reduceToNat,reduceNeg]
  refine qrm (qE2 g c dr ⟨[],[]⟩ z.s [] bp) ?_ ?_
  ·exact sC
  simp only [List.cons_append,List.nil_append,push_cast,reduceIte,reduceEqDiff,reduceAdd,reduceSub,reduceMul,Nat.reduceBEq,reduceLT,reduceLeDiff,reduceCtorEq,reduceToNat,reduceNeg]
  exact ⟨fun _ _ => trivial,fun _ _ => trivial,fun _ _ => trivial,fun _ _ => trivial,fun _ _ => trivial,fun _ _ => trivial,fun _ _ => trivial,fun _ _ _ _ => trivial,fun _ _ => trivial⟩
end Go.Proofs.YtdmkfgkmnpohlaaGreat
namespace Go.Proofs.YtdmkfgkmnpohlaaGreat.Txt
open Go Go.Vc
set_option maxRecDepth 100000
def ac70 : AC :=
 (.seq (.reg [0,120,0,1,2,3] [
 (aO 4 (.box (.t 0))),(aO 5 (.box (.t 1))),(aO 8 (.mv (.c (.nil))))])
 (.seq (.reg [0,120,2,3,4,5] [
 (aO 12 (.fa 0 (.t 4))),(aO 13 (.ld false 1 (.t 12))),(aO 14 (.len (.t 13))),(aO 15 (.mks 1 4 1 [.sc (.bool false)] (.t 14) (.t 14))),(aO 9 (.mv (.t 15)))])
 (.seq (.seq (.reg [0,120,2,3,4,5,9] [
 (aO 16 (.fa 0 (.t 4))),(aO 17 (.ld false 1 (.t 16))),(aO 18 (.len (.t 17))),(aO 19 (.mv (kI 0)))])
 (.block 0
 (.loop [0,120,2,3,5,9,17,18,19]
 (.seq (.reg [0,120,2,3,5,9,17,18,19] [
 (aO 20 (.cmp .lss .i64 (.t 19) (.t 18)))])
 (.seq (.cond (.t 20)
 .skip
 (.exit 0))
 (.seq (.block 1
 (.seq (.reg [0,120,2,3,5,9,17,18,19] [
 (aO 21 (.mv (.t 19))),(aO 22 (.ixs 3 (.t 17) (.t 19))),(aO 23 (.ld true 3 (.t 22))),(aO 11 (.alc [zI,zI,zI])),(aO 10 (.mv (.t 21))),(aN (.sto 3 (.t 11) (.t 23)))])
 (.block 2
 (.seq (.reg [0,120,2,3,5,9,10,11,17,18,19] [
 (aO 25 (.fa 0 (.t 11))),(aO 26 (.ld false 1 (.t 25))),(aO 27 (.cmp .eql .i64 (.t 26) (kI 1))),(aO 28 (.mv (.t 27))),⟨some 29,some (28,true),.fa 1 (.t 11)⟩,⟨some 30,some (28,true),.ld false 1 (.t 29)⟩,⟨some 31,some (28,true),.fa 0 (.t 5)⟩,⟨some 32,some (28,true),.ld false 1 (.t 31)⟩,⟨some 33,some (28,true),.len (.t 32)⟩,⟨some 34,some (28,true),.cmp .lss .i64 (.t 30) (.t 33)⟩,(aO 35 (.pick (.t 28) (.t 34) (.c (.sc (.bool false))))),(aO 24 (.mv (.t 35)))])
 (.cut [0,120,2,3,5,9,10,11,17,18,19,24] (.cond (.t 24)
 (.drw [0,120,2,3,5,9,10,11,17,18,19] [
 (eT 36 (.mv (.t 9))),(eT 37 (.mv (.t 10))),(eT 38 (.fa 0 (.t 5))),(eT 39 (.ld false 1 (.t 38))),(eT 40 (.fa 1 (.t 11))),(eT 41 (.ld false 1 (.t 40))),(eT 42 (.ixs 1 (.t 39) (.t 41))),(eT 43 (.ld false 1 (.t 42))),(eT 44 (.fa 2 (.t 11))),(eT 45 (.ld false 1 (.t 44))),(eT 46 (.cal 88 [(.t 43),(.t 45)])),(eF 47 (.ixs 1 (.t 36) (.t 37))),⟨(aN (.sto 1 (.t 47) (.t 46))),[],[],false⟩])
 (.seq (.reg [0,120,2,3,5,9,10,11,17,18,19] [
 (aO 49 (.fa 0 (.t 11))),(aO 50 (.ld false 1 (.t 49))),(aO 51 (.cmp .eql .i64 (.t 50) (kI 2))),(aO 52 (.mv (.t 51))),⟨some 53,some (52,true),.fa 1 (.t 11)⟩,⟨some 54,some (52,true),.ld false 1 (.t 53)⟩,⟨some 55,some (52,true),.mv (.t 2)⟩,⟨some 56,some (52,true),.len (.t 55)⟩,⟨some 57,some (52,true),.cmp .lss .i64 (.t 54) (.t 56)⟩,(aO 58 (.pick (.t 52) (.t 57) (.c (.sc (.bool false))))),(aO 48 (.mv (.t 58)))])
 (.cut [0,120,2,3,5,9,10,11,17,18,19,48] (.cond (.t 48)
 (.drw [0,120,2,3,5,9,10,11,17,18,19] [
 (eT 59 (.mv (.t 9))),(eT 60 (.mv (.t 10))),(eT 61 (.mv (.t 2))),(eT 62 (.fa 1 (.t 11))),(eT 63 (.ld false 1 (.t 62))),(eT 64 (.ixs 2 (.t 61) (.t 63))),(eT 65 (.fa 0 (.t 64))),(eT 66 (.ld false 1 (.t 65))),(eT 67 (.mv (.t 66))),⟨⟨some 68,some (67,true),.mv (.t 2)⟩,[],[],true⟩,⟨⟨some 69,some (67,true),.fa 1 (.t 11)⟩,[],[],true⟩,⟨⟨some 70,some (67,true),.ld false 1 (.t 69)⟩,[],[],true⟩,⟨⟨some 71,some (67,true),.ixs 2 (.t 68) (.t 70)⟩,[],[],true⟩,⟨⟨some 72,some (67,true),.fa 1 (.t 71)⟩,[],[],true⟩,⟨⟨some 73,some (67,true),.ld false 1 (.t 72)⟩,[],[],true⟩,⟨⟨some 74,some (67,true),.fa 2 (.t 11)⟩,[],[],true⟩,⟨⟨some 75,some (67,true),.ld false 1 (.t 74)⟩,[],[],true⟩,⟨⟨some 76,some (67,true),.cal 88 [(.t 73),(.t 75)]⟩,[],[],true⟩,(eT 77 (.pick (.t 67) (.t 76) (.c (.sc (.bool false))))),(eF 78 (.ixs 1 (.t 59) (.t 60))),⟨(aN (.sto 1 (.t 78) (.t 77))),[],[],false⟩])
 (.seq (.reg [0,120,2,3,5,9,10,11,17,18,19] [
 (aO 80 (.fa 0 (.t 11))),(aO 81 (.ld false 1 (.t 80))),(aO 82 (.cmp .eql .i64 (.t 81) (kI 3))),(aO 83 (.mv (.t 82))),⟨some 84,some (83,true),.fa 1 (.t 11)⟩,⟨some 85,some (83,true),.ld false 1 (.t 84)⟩,⟨some 86,some (83,true),.mv (.t 2)⟩,⟨some 87,some (83,true),.len (.t 86)⟩,⟨some 88,some (83,true),.cmp .lss .i64 (.t 85) (.t 87)⟩,(aO 89 (.pick (.t 83) (.t 88) (.c (.sc (.bool false))))),(aO 79 (.mv (.t 89)))])
 (.cut [0,120,2,3,5,9,10,11,17,18,19,79] (.cond (.t 79)
 (.reg [0,120,2,3,5,9,10,11,17,18,19] [
 (aO 90 (.mv (.t 9))),(aO 91 (.mv (.t 10))),(aO 92 (.mv (.t 2))),(aO 93 (.fa 1 (.t 11))),(aO 94 (.ld false 1 (.t 93))),(aO 95 (.ixs 2 (.t 92) (.t 94))),(aO 96 (.fa 0 (.t 95))),(aO 97 (.ld false 1 (.t 96))),(aO 98 (.ixs 1 (.t 90) (.t 91))),(aN (.sto 1 (.t 98) (.t 97)))])
 (.seq (.reg [0,120,2,3,5,9,10,11,17,18,19] [
 (aO 100 (.fa 0 (.t 11))),(aO 101 (.ld false 1 (.t 100))),(aO 102 (.cmp .eql .i64 (.t 101) (kI 4))),(aO 103 (.mv (.t 102))),⟨some 104,some (103,true),.fa 1 (.t 11)⟩,⟨some 105,some (103,true),.ld false 1 (.t 104)⟩,⟨some 106,some (103,true),.mv (.t 3)⟩,⟨some 107,some (103,true),.len (.t 106)⟩,⟨some 108,some (103,true),.cmp .lss .i64 (.t 105) (.t 107)⟩,(aO 109 (.pick (.t 103) (.t 108) (.c (.sc (.bool false))))),(aO 99 (.mv (.t 109)))])
 (.cut [0,120,2,3,5,9,10,11,17,18,19,99] (.cond (.t 99)
 (.reg [0,120,2,3,5,9,10,11,17,18,19] [
 (aO 110 (.mv (.t 9))),(aO 111 (.mv (.t 10))),(aO 112 (.mv (.t 3))),(aO 113 (.fa 1 (.t 11))),(aO 114 (.ld false 1 (.t 113))),(aO 115 (.ixs 1 (.t 112) (.t 114))),(aO 116 (.ld false 1 (.t 115))),(aO 117 (.ixs 1 (.t 110) (.t 111))),(aN (.sto 1 (.t 117) (.t 116)))])
 .skip)))))))))))))))
 (.reg [0,120,2,3,5,9,17,18,19] [
 (aO 118 (.ari .add true .i64 (.t 19) (kI 1))),(aO 19 (.mv (.t 118)))])))))))
 (.seq (.reg [0,120,9] [
 (aO 119 (.mv (.t 9))),(aO 8 (.mv (.t 119)))])
 .ret))))
def rv70 : List RV := [.tmp 8]
theorem ok70 : fnOk Tryz.prog ac70 rv70 Tryz.f70 = true := by kernel_rfl

def xs71_7 : List XO := [⟨0,[],(aO 41 (.mv (.t 10)))⟩,⟨1,[],(aO 42 (.fa 0 (.t 12)))⟩,⟨2,[1],(aO 43 (.ld false 1 (.t 42)))⟩,⟨3,[],(aO 44 (.fa 1 (.t 12)))⟩,⟨4,[3],(aO 45 (.ld false 1 (.t 44)))⟩,⟨5,[2,4],(aO 46 (.bld [zI,zI] [(0,1,(.t 43)),(1,1,(.t 45))]))⟩,⟨6,[0,5],(aO 47 (.mlk (.st 2) false (zI) (.t 41) (.t 46)))⟩,⟨7,[],(aO 48 (.fa 2 (.t 12)))⟩,⟨8,[7],(aO 49 (.ld false 1 (.t 48)))⟩,⟨9,[8],(aO 50 (.shf .shl .i64 (kI 1) (.t 49)))⟩,⟨10,[6,9],(aO 51 (.bit .or .i64 (.t 47) (.t 50)))⟩,⟨11,[0,1,2,3,4,5,7,8,9],(aO 52 (.men (.st 2) (zI) (.t 41) (.t 46)))⟩,⟨12,[11],(aO 53 (.ext (.t 52) 1))⟩,⟨13,[0,1,2,3,4,5,6,7,8,9,10,11,12],(aN (.est (.t 41) (.t 53) (.t 51)))⟩]
theorem xs71_7_all {p : XO -> Prop} : (∀ x ∈ xs71_7,p x) ↔ p ⟨0,[],(aO 41 (.mv (.t 10)))⟩ /\ p ⟨1,[],(aO 42 (.fa 0 (.t 12)))⟩ /\ p ⟨2,[1],(aO 43 (.ld false 1 (.t 42)))⟩ /\ p ⟨3,[],(aO 44 (.fa 1 (.t 12)))⟩ /\ p ⟨4,[3],(aO 45 (.ld false 1 (.t 44)))⟩ /\ p ⟨5,[2,4],(aO 46 (.bld [zI,zI] [(0,1,(.t 43)),(1,1,(.t 45))]))⟩ /\ p ⟨6,[0,5],(aO 47 (.mlk (.st 2) false (zI) (.t 41) (.t 46)))⟩ /\ p ⟨7,[],(aO 48 (.fa 2 (.t 12)))⟩ /\ p ⟨8,[7],(aO 49 (.ld false 1 (.t 48)))⟩ /\ p ⟨9,[8],(aO 50 (.shf .shl .i64 (kI 1) (.t 49)))⟩ /\ p ⟨10,[6,9],(aO 51 (.bit .or .i64 (.t 47) (.t 50)))⟩ /\ p ⟨11,[0,1,2,3,4,5,7,8,9],(aO 52 (.men (.st 2) (zI) (.t 41) (.t 46)))⟩ /\ p ⟨12,[11],(aO 53 (.ext (.t 52) 1))⟩ /\ p ⟨13,[0,1,2,3,4,5,6,7,8,9,10,11,12],(aN (.est (.t 41) (.t 53) (.t 51)))⟩ := by simp only [xs71_7,List.forall_mem_cons,List.not_mem_nil,false_implies,implies_true,and_true]
def xs71_13 : List XO := [⟨0,[],(aO 61 (.fa 1 (.t 13)))⟩,⟨1,[0],(aO 62 (.fa 0 (.t 61)))⟩,⟨2,[1],(aO 63 (.ld false 1 (.t 62)))⟩,⟨3,[],(aO 64 (.mv (.t 10)))⟩,⟨4,[],(aO 65 (.mv (.t 14)))⟩,⟨5,[4],(aO 66 (.bld [zI,zI] [(0,1,(kI 1)),(1,1,(.t 65))]))⟩,⟨6,[3,5],(aO 67 (.mlk (.st 2) false (zI) (.t 64) (.t 66)))⟩,⟨7,[6],(aO 68 (.bsl 1 3 [zI] 1 [(0,(.t 67))]))⟩,⟨8,[2,7],(aO 69 (.app 1 3 8 (.t 63) (.t 68)))⟩,⟨9,[0,1,2,3,4,5,6,7,8],(aO 70 (.fa 1 (.t 13)))⟩,⟨10,[0,1,2,3,4,5,6,7,8,9],(aO 71 (.fa 0 (.t 70)))⟩,⟨11,[0,1,2,3,4,5,6,7,8,10],(aN (.sto 1 (.t 71) (.t 69)))⟩]
theorem xs71_13_all {p : XO -> Prop} : (∀ x ∈ xs71_13,p x) ↔ p ⟨0,[],(aO 61 (.fa 1 (.t 13)))⟩ /\ p ⟨1,[0],(aO 62 (.fa 0 (.t 61)))⟩ /\ p ⟨2,[1],(aO 63 (.ld false 1 (.t 62)))⟩ /\ p ⟨3,[],(aO 64 (.mv (.t 10)))⟩ /\ p ⟨4,[],(aO 65 (.mv (.t 14)))⟩ /\ p ⟨5,[4],(aO 66 (.bld [zI,zI] [(0,1,(kI 1)),(1,1,(.t 65))]))⟩ /\ p ⟨6,[3,5],(aO 67 (.mlk (.st 2) false (zI) (.t 64) (.t 66)))⟩ /\ p ⟨7,[6],(aO 68 (.bsl 1 3 [zI] 1 [(0,(.t 67))]))⟩ /\ p ⟨8,[2,7],(aO 69 (.app 1 3 8 (.t 63) (.t 68)))⟩ /\ p ⟨9,[0,1,2,3,4,5,6,7,8],(aO 70 (.fa 1 (.t 13)))⟩ /\ p ⟨10,[0,1,2,3,4,5,6,7,8,9],(aO 71 (.fa 0 (.t 70)))⟩ /\ p ⟨11,[0,1,2,3,4,5,6,7,8,10],(aN (.sto 1 (.t 71) (.t 69)))⟩ := by simp only [xs71_13,List.forall_mem_cons,List.not_mem_nil,false_implies,implies_true,and_true]
def xs71_27 : List XO := [⟨0,[],(aO 119 (.fa 3 (.t 13)))⟩,⟨1,[0],(aO 120 (.ld false 1 (.t 119)))⟩,⟨2,[],(aO 121 (.mv (.t 9)))⟩,⟨3,[],(aO 122 (.mv (.t 18)))⟩,⟨4,[3],(aO 123 (.bld [zI,zI] [(0,1,(kI 5)),(1,1,(.t 122))]))⟩,⟨5,[2,4],(aO 124 (.mlk (.st 2) false (.sc (.bool false)) (.t 121) (.t 123)))⟩,⟨6,[5],(aO 125 (.bsl 1 4 [.sc (.bool false)] 1 [(0,(.t 124))]))⟩,⟨7,[1,6],(aO 126 (.app 1 4 1 (.t 120) (.t 125)))⟩,⟨8,[0,1,2,3,4,5,6,7],(aO 127 (.fa 3 (.t 13)))⟩,⟨9,[0,1,2,3,4,5,6,7,8],(aN (.sto 1 (.t 127) (.t 126)))⟩]
theorem xs71_27_all {p : XO -> Prop} : (∀ x ∈ xs71_27,p x) ↔ p ⟨0,[],(aO 119 (.fa 3 (.t 13)))⟩ /\ p ⟨1,[0],(aO 120 (.ld false 1 (.t 119)))⟩ /\ p ⟨2,[],(aO 121 (.mv (.t 9)))⟩ /\ p ⟨3,[],(aO 122 (.mv (.t 18)))⟩ /\ p ⟨4,[3],(aO 123 (.bld [zI,zI] [(0,1,(kI 5)),(1,1,(.t 122))]))⟩ /\ p ⟨5,[2,4],(aO 124 (.mlk (.st 2) false (.sc (.bool false)) (.t 121) (.t 123)))⟩ /\ p ⟨6,[5],(aO 125 (.bsl 1 4 [.sc (.bool false)] 1 [(0,(.t 124))]))⟩ /\ p ⟨7,[1,6],(aO 126 (.app 1 4 1 (.t 120) (.t 125)))⟩ /\ p ⟨8,[0,1,2,3,4,5,6,7],(aO 127 (.fa 3 (.t 13)))⟩ /\ p ⟨9,[0,1,2,3,4,5,6,7,8],(aN (.sto 1 (.t 127) (.t 126)))⟩ := by simp only [xs71_27,List.forall_mem_cons,List.not_mem_nil,false_implies,implies_true,and_true]
def ac71 : AC :=
 (.seq (.reg [0,152,0,1,2,3] [
 (aO 4 (.box (.t 0))),(aO 5 (.box (.t 1))),(aO 7 (.box (.t 3))),(aO 8 (.alc [.sc (.bool false),.nil,.nil,.nil,.nil]))])
 (.seq (.reg [0,152,2,4,5,7,8] [
 (aO 21 (.mkm (.st 2))),(aO 22 (.mkm (.st 2))),(aO 9 (.mv (.t 21))),(aO 10 (.mv (.t 22)))])
 (.seq (.seq (.reg [0,152,2,4,5,7,8,9,10] [
 (aO 23 (.fa 2 (.t 4))),(aO 24 (.ld false 1 (.t 23))),(aO 25 (.len (.t 24))),(aO 26 (.mv (kI 0)))])
 (.block 0
 (.loop [0,152,2,5,7,8,9,10,24,25,26]
 (.seq (.reg [0,152,2,5,7,8,9,10,24,25,26] [
 (aO 27 (.cmp .lss .i64 (.t 26) (.t 25)))])
 (.seq (.cond (.t 27)
 .skip
 (.exit 0))
 (.seq (.block 1
 (.seq (.reg [0,152,2,5,7,8,9,10,24,25,26] [
 (aO 28 (.mv (.t 26))),(aO 29 (.ixs 3 (.t 24) (.t 26))),(aO 30 (.ld true 3 (.t 29))),(aO 12 (.alc [zI,zI,zI])),(aO 11 (.mv (.t 28))),(aN (.sto 3 (.t 12) (.t 30)))])
 (.seq (.reg [0,152,2,5,7,8,9,10,11,12,24,25,26] [
 (aO 31 (.mv (.t 2))),(aO 32 (.mv (.t 11))),(aO 33 (.ixs 1 (.t 31) (.t 32))),(aO 34 (.ld false 1 (.t 33)))])
 (.cond (.t 34)
 (.seq (.reg [0,152,2,5,7,8,9,10,12,24,25,26] [
 (aO 35 (.mv (.t 9))),(aO 36 (.fa 0 (.t 12))),(aO 37 (.ld false 1 (.t 36))),(aO 38 (.fa 1 (.t 12))),(aO 39 (.ld false 1 (.t 38))),(aO 40 (.bld [zI,zI] [(0,1,(.t 37)),(1,1,(.t 39))])),(aN (.mup (.st 2) (.t 35) (.t 40) (.c (.sc (.bool true)))))])
 (.obs 10 (.dra [0,152,2,5,7,8,9,10,12,24,25,26] xs71_7)))
 .skip))))
 (.reg [0,152,2,5,7,8,9,10,24,25,26] [
 (aO 54 (.ari .add true .i64 (.t 26) (kI 1))),(aO 26 (.mv (.t 54)))])))))))
 (.seq (.reg [0,152,5,7,8,9,10] [
 (aO 13 (.alc [.sc (.bool false),.nil,.nil,.nil,.nil]))])
 (.seq (.seq (.reg [0,152,5,7,8,9,10,13] [
 (aO 55 (.fa 0 (.t 5))),(aO 56 (.ld false 1 (.t 55))),(aO 57 (.len (.t 56))),(aO 58 (.mv (kI 0)))])
 (.block 2
 (.loop [0,152,5,7,8,9,10,13,57,58]
 (.seq (.reg [0,152,5,7,8,9,10,13,57,58] [
 (aO 59 (.cmp .lss .i64 (.t 58) (.t 57)))])
 (.seq (.cond (.t 59)
 .skip
 (.exit 2))
 (.seq (.block 3
 (.seq (.reg [0,152,5,7,8,9,10,13,57,58] [
 (aO 60 (.mv (.t 58))),(aO 14 (.mv (.t 60)))])
 (.dra [0,152,5,7,8,9,10,13,14,57,58] xs71_13)))
 (.reg [0,152,5,7,8,9,10,13,57,58] [
 (aO 72 (.ari .add true .i64 (.t 58) (kI 1))),(aO 58 (.mv (.t 72)))])))))))
 (.seq (.seq (.reg [0,152,5,7,8,9,10,13] [
 (aO 73 (.fa 1 (.t 5))),(aO 74 (.ld false 1 (.t 73))),(aO 75 (.len (.t 74))),(aO 76 (.mv (kI 0)))])
 (.block 4
 (.loop [0,152,7,8,9,10,13,74,75,76]
 (.seq (.reg [0,152,7,8,9,10,13,74,75,76] [
 (aO 77 (.cmp .lss .i64 (.t 76) (.t 75)))])
 (.seq (.cond (.t 77)
 .skip
 (.exit 4))
 (.seq (.block 5
 (.seq (.reg [0,152,7,8,9,10,13,74,75,76] [
 (aO 78 (.mv (.t 76))),(aO 79 (.ixs 1 (.t 74) (.t 76))),(aO 80 (.ld false 1 (.t 79))),(aO 15 (.mv (.t 78))),(aO 16 (.mv (.t 80)))])
 (.seq (.reg [0,152,7,8,9,10,13,15,16,74,75,76] [
 (aO 81 (.mv (.t 16))),(aO 82 (.cal 89 [(.t 81)])),(aO 16 (.mv (.t 82)))])
 (.seq (.seq (.reg [0,152,7,8,9,10,13,15,16,74,75,76] [
 (aO 83 (.mv (.t 10))),(aO 84 (.mv (.t 15))),(aO 85 (.bld [zI,zI] [(0,1,(kI 9)),(1,1,(.t 84))])),(aO 86 (.mlk (.st 2) false (zI) (.t 83) (.t 85))),(aO 17 (.mv (.t 86)))])
 (.seq (.reg [0,152,7,8,9,10,13,15,16,17,74,75,76] [
 (aO 87 (.mv (.t 9))),(aO 88 (.mv (.t 15))),(aO 89 (.bld [zI,zI] [(0,1,(kI 8)),(1,1,(.t 88))])),(aO 90 (.mlk (.st 2) false (.sc (.bool false)) (.t 87) (.t 89))),(aO 91 (.mv (.t 90))),⟨some 92,some (91,true),.mv (.t 17)⟩,⟨some 93,some (91,true),.mv (.t 16)⟩,⟨some 94,some (91,true),.len (.t 93)⟩,⟨some 95,some (91,true),.cmp .lss .i64 (.t 92) (.t 94)⟩,(aO 96 (.pick (.t 91) (.t 95) (.c (.sc (.bool false)))))])
 (.cut [0,152,7,8,9,10,13,15,16,17,74,75,76,96] (.cond (.t 96)
 (.reg [0,152,7,8,9,10,13,15,16,17,74,75,76] [
 (aO 97 (.mv (.t 16))),(aO 98 (.mv (.t 17))),(aO 99 (.mv (.t 10))),(aO 100 (.mv (.t 15))),(aO 101 (.bld [zI,zI] [(0,1,(kI 10)),(1,1,(.t 100))])),(aO 102 (.mlk (.st 2) false (zI) (.t 99) (.t 101))),(aO 103 (.ixs 1 (.t 97) (.t 98))),(aN (.sto 1 (.t 103) (.t 102)))])
 .skip))))
 (.reg [0,152,7,8,9,10,13,16,74,75,76] [
 (aO 104 (.fa 1 (.t 13))),(aO 105 (.fa 1 (.t 104))),(aO 106 (.ld false 1 (.t 105))),(aO 107 (.mv (.t 16))),(aO 108 (.bsl 1 29 [.nil] 1 [(0,(.t 107))])),(aO 109 (.app 1 29 24 (.t 106) (.t 108))),(aO 110 (.fa 1 (.t 13))),(aO 111 (.fa 1 (.t 110))),(aN (.sto 1 (.t 111) (.t 109)))])))))
 (.reg [0,152,7,8,9,10,13,74,75,76] [
 (aO 112 (.ari .add true .i64 (.t 76) (kI 1))),(aO 76 (.mv (.t 112)))])))))))
 (.seq (.seq (.reg [0,152,7,8,9,10,13] [
 (aO 113 (.ixa 2 1 (.t 7) (kI 0))),(aO 114 (.ld false 1 (.t 113))),(aO 115 (.mn true (.t 114) (kI 0))),(aO 116 (.mv (kI 0)))])
 (.block 6
 (.loop [0,152,7,8,9,10,13,115,116]
 (.seq (.reg [0,152,7,8,9,10,13,115,116] [
 (aO 117 (.cmp .lss .i64 (.t 116) (.t 115)))])
 (.seq (.cond (.t 117)
 .skip
 (.exit 6))
 (.seq (.block 7
 (.seq (.reg [0,152,7,8,9,10,13,115,116] [
 (aO 118 (.mv (.t 116))),(aO 18 (.mv (.t 118)))])
 (.dra [0,152,7,8,9,10,13,18,115,116] xs71_27)))
 (.reg [0,152,7,8,9,10,13,115,116] [
 (aO 128 (.ari .add true .i64 (.t 116) (kI 1))),(aO 116 (.mv (.t 128)))])))))))
 (.seq (.seq (.reg [0,152,7,8,9,10,13] [
 (aO 129 (.ixa 2 1 (.t 7) (kI 1))),(aO 130 (.ld false 1 (.t 129))),(aO 131 (.mn true (.t 130) (kI 0))),(aO 132 (.mv (kI 0)))])
 (.block 8
 (.loop [0,152,8,9,10,13,131,132]
 (.seq (.reg [0,152,8,9,10,13,131,132] [
 (aO 133 (.cmp .lss .i64 (.t 132) (.t 131)))])
 (.seq (.cond (.t 133)
 .skip
 (.exit 8))
 (.seq (.block 9
 (.seq (.reg [0,152,8,9,10,13,131,132] [
 (aO 134 (.mv (.t 132))),(aO 19 (.mv (.t 134)))])
 (.seq (.reg [0,152,8,9,10,13,19,131,132] [
 (aO 20 (.alc [.sc (.bool false),zI]))])
 (.seq (.seq (.reg [0,152,8,9,10,13,19,20,131,132] [
 (aO 135 (.mv (.t 9))),(aO 136 (.mv (.t 19))),(aO 137 (.bld [zI,zI] [(0,1,(kI 6)),(1,1,(.t 136))])),(aO 138 (.mlk (.st 2) false (.sc (.bool false)) (.t 135) (.t 137)))])
 (.cond (.t 138)
 (.reg [0,152,8,9,10,13,19,20,131,132] [
 (aO 139 (.mv (.t 10))),(aO 140 (.mv (.t 19))),(aO 141 (.bld [zI,zI] [(0,1,(kI 7)),(1,1,(.t 140))])),(aO 142 (.mlk (.st 2) false (zI) (.t 139) (.t 141))),(aO 143 (.bld [.sc (.bool false),zI] [(0,1,(.c (.sc (.bool true)))),(1,1,(.t 142))])),(aN (.sto 2 (.t 20) (.t 143)))])
 .skip))
 (.reg [0,152,8,9,10,13,20,131,132] [
 (aO 144 (.fa 4 (.t 13))),(aO 145 (.ld false 1 (.t 144))),(aO 146 (.ld true 2 (.t 20))),(aO 147 (.bsl 2 166 [.sc (.bool false),zI] 1 [(0,(.t 146))])),(aO 148 (.app 2 166 16 (.t 145) (.t 147))),(aO 149 (.fa 4 (.t 13))),(aN (.sto 1 (.t 149) (.t 148)))])))))
 (.reg [0,152,8,9,10,13,131,132] [
 (aO 150 (.ari .add true .i64 (.t 132) (kI 1))),(aO 132 (.mv (.t 150)))])))))))
 (.seq (.reg [0,152,8,13] [
 (aO 151 (.ld true 5 (.t 13))),(aN (.sto 5 (.t 8) (.t 151)))])
 .ret)))))))))
def rv71 : List RV := [.cell 8 true 5]
theorem ok71 : fnOk Tryz.prog ac71 rv71 Tryz.f71 = true := by kernel_rfl

def xs38_1 : List XO := [⟨0,[],(aO 21 (.ld true 5 (.t 6)))⟩,⟨1,[],(aO 22 (.ld true 4 (.t 7)))⟩,⟨2,[],(aO 23 (.ld true 2 (.t 9)))⟩,⟨3,[],(aO 24 (.ixa 2 1 (.t 8) (kI 0)))⟩,⟨4,[3],(aO 25 (.ld false 1 (.t 24)))⟩,⟨5,[4],(aO 26 (.bld [.nil,.nil,.nil,.nil] [(0,1,(.t 25))]))⟩,⟨6,[],(aO 27 (.ld true 2 (.t 9)))⟩,⟨7,[],(aO 28 (.mv (.t 4)))⟩,⟨8,[],(aO 29 (.mv (.t 5)))⟩,⟨9,[5,6,7,8],(aO 30 (.cal 70 [(.t 26),(.t 27),(.t 28),(.t 29)]))⟩,⟨10,[0,1,2,9],(aO 31 (.clm 60 [(.t 21),(.t 22),(.t 23),(.t 30)]))⟩,⟨11,[0,1,2,3,4,5,6,7,8,9,10],(aO 13 (.mv (.t 31)))⟩]
theorem xs38_1_all {p : XO -> Prop} : (∀ x ∈ xs38_1,p x) ↔ p ⟨0,[],(aO 21 (.ld true 5 (.t 6)))⟩ /\ p ⟨1,[],(aO 22 (.ld true 4 (.t 7)))⟩ /\ p ⟨2,[],(aO 23 (.ld true 2 (.t 9)))⟩ /\ p ⟨3,[],(aO 24 (.ixa 2 1 (.t 8) (kI 0)))⟩ /\ p ⟨4,[3],(aO 25 (.ld false 1 (.t 24)))⟩ /\ p ⟨5,[4],(aO 26 (.bld [.nil,.nil,.nil,.nil] [(0,1,(.t 25))]))⟩ /\ p ⟨6,[],(aO 27 (.ld true 2 (.t 9)))⟩ /\ p ⟨7,[],(aO 28 (.mv (.t 4)))⟩ /\ p ⟨8,[],(aO 29 (.mv (.t 5)))⟩ /\ p ⟨9,[5,6,7,8],(aO 30 (.cal 70 [(.t 26),(.t 27),(.t 28),(.t 29)]))⟩ /\ p ⟨10,[0,1,2,9],(aO 31 (.clm 60 [(.t 21),(.t 22),(.t 23),(.t 30)]))⟩ /\ p ⟨11,[0,1,2,3,4,5,6,7,8,9,10],(aO 13 (.mv (.t 31)))⟩ := by simp only [xs38_1,List.forall_mem_cons,List.not_mem_nil,false_implies,implies_true,and_true]
def ac38 : AC :=
 (.seq (.reg [0,118,0,1,2,3,4,5] [
 (aO 6 (.box (.t 0))),(aO 7 (.box (.t 1))),(aO 8 (.box (.t 2))),(aO 9 (.box (.t 3))),(aO 12 (.alc [.sc (.bool false),.nil,.nil,.nil,.nil]))])
 (.seq (.dra [0,118,4,5,6,7,8,9,12] xs38_1)
 (.seq (.reg [0,118,4,5,6,7,8,9,12,13] [
 (aO 32 (.mv (.t 13))),(aO 33 (.cal 61 [(.t 32)])),(aO 14 (.mv (.t 33)))])
 (.seq (.reg [0,118,4,5,6,7,8,9,12,13,14] [
 (aO 15 (.alc [.nil,.nil,.nil,.nil]))])
 (.seq (.reg [0,118,4,5,6,7,8,9,12,13,14,15] [
 (aO 16 (.mv (.c (.nil))))])
 (.seq (.seq (.reg [0,118,4,5,6,7,8,9,12,13,14,15,16] [
 (aO 34 (.fa 1 (.t 7))),(aO 35 (.ld false 1 (.t 34))),(aO 36 (.len (.t 35))),(aO 37 (.mv (kI 0)))])
 (.block 0
 (.loop [0,118,4,5,6,7,8,9,12,13,14,15,16,35,36,37]
 (.seq (.reg [0,118,4,5,6,7,8,9,12,13,14,15,16,35,36,37] [
 (aO 38 (.cmp .lss .i64 (.t 37) (.t 36)))])
 (.seq (.cond (.t 38)
 .skip
 (.exit 0))
 (.seq (.block 1
 (.seq (.reg [0,118,4,5,6,7,8,9,12,13,14,15,16,35,36,37] [
 (aO 39 (.mv (.t 37))),(aO 40 (.ixs 1 (.t 35) (.t 37))),(aO 41 (.ld false 1 (.t 40))),(aO 17 (.mv (.t 39))),(aO 18 (.mv (.t 41)))])
 (.seq (.reg [0,118,4,5,6,7,8,9,12,13,14,15,16,17,18,35,36,37] [
 (aO 42 (.mv (.t 18))),(aO 43 (.cmp .eql .i64 (.t 42) (kI 2)))])
 (.cond (.t 43)
 (.seq (.drw [0,118,4,5,6,7,8,9,12,13,14,15,16,17,35,36,37] [
 (eU 44 (.fa 2 (.t 15)) [] [59]),(eU 45 (.ld false 1 (.t 44)) [] [59]),(eT 46 (.fa 3 (.t 7))),(eT 47 (.ld false 1 (.t 46))),(eT 48 (.mv (.t 17))),(eT 49 (.ixs 1 (.t 47) (.t 48))),(eT 50 (.ld false 1 (.t 49))),(eT 51 (.dvd .quo true .i64 (.t 50) (kI 8))),(eT 52 (.fa 3 (.t 7))),(eT 53 (.ld false 1 (.t 52))),(eT 54 (.mv (.t 17))),(eT 55 (.ixs 1 (.t 53) (.t 54))),(eT 56 (.ld false 1 (.t 55))),(eT 57 (.dvd .rem true .i64 (.t 56) (kI 8))),(eT 58 (.bld [zI,zI,zI] [(0,1,(kI 1)),(1,1,(.t 51)),(2,1,(.t 57))])),(eU 59 (.bsl 3 151 [zI,zI,zI] 1 [(0,(.t 58))]) [59] []),(eF 60 (.app 3 151 24 (.t 45) (.t 59))),(eF 61 (.fa 2 (.t 15))),⟨(aN (.sto 1 (.t 61) (.t 60))),[],[],false⟩])
 (.reg [0,118,4,5,6,7,8,9,12,13,14,15,16,17,35,36,37] [
 (aO 62 (.mv (.t 16))),(aO 63 (.mv (.t 14))),(aO 64 (.mv (.t 13))),(aO 65 (.nck (.t 64))),(aO 66 (.fa 5 (.t 65))),(aO 67 (.ld false 1 (.t 66))),(aO 68 (.mv (.t 17))),(aO 69 (.ixs 1 (.t 67) (.t 68))),(aO 70 (.ld false 1 (.t 69))),(aO 71 (.ixs 1 (.t 63) (.t 70))),(aO 72 (.ld false 1 (.t 71))),(aO 73 (.bsl 1 4 [.sc (.bool false)] 1 [(0,(.t 72))])),(aO 74 (.app 1 4 1 (.t 62) (.t 73))),(aO 16 (.mv (.t 74)))]))
 .skip))))
 (.reg [0,118,4,5,6,7,8,9,12,13,14,15,16,35,36,37] [
 (aO 75 (.ari .add true .i64 (.t 37) (kI 1))),(aO 37 (.mv (.t 75)))])))))))
 (.seq (.reg [0,118,4,5,6,8,9,12,14,15,16] [
 (aO 76 (.fa 2 (.t 15))),(aO 77 (.ld false 1 (.t 76))),(aO 78 (.ixa 2 1 (.t 8) (kI 1))),(aO 79 (.ld false 1 (.t 78))),(aO 80 (.app 3 151 24 (.t 77) (.t 79))),(aO 81 (.fa 2 (.t 15))),(aN (.sto 1 (.t 81) (.t 80)))])
 (.seq (.reg [0,118,4,5,6,8,9,12,14,15,16] [
 (aO 82 (.mv (.t 14))),(aO 83 (.mv (.t 14))),(aO 84 (.len (.t 83))),(aO 85 (.fa 3 (.t 6))),(aO 86 (.ld false 1 (.t 85))),(aO 87 (.ari .sub true .i64 (.t 84) (.t 86))),(aO 88 (.slc 1 (.t 82) (some (.t 87)) none)),(aO 19 (.mv (.t 88)))])
 (.seq (.seq (.reg [0,118,4,5,8,9,12,15,16,19] [
 (aO 89 (.ixa 2 1 (.t 8) (kI 1))),(aO 90 (.ld false 1 (.t 89))),(aO 91 (.len (.t 90))),(aO 92 (.mv (kI 0)))])
 (.block 2
 (.loop [0,118,4,5,9,12,15,16,19,91,92]
 (.seq (.reg [0,118,4,5,9,12,15,16,19,91,92] [
 (aO 93 (.cmp .lss .i64 (.t 92) (.t 91)))])
 (.seq (.cond (.t 93)
 .skip
 (.exit 2))
 (.seq (.block 3
 (.seq (.reg [0,118,4,5,9,12,15,16,19,91,92] [
 (aO 94 (.mv (.t 92))),(aO 20 (.mv (.t 94)))])
 (.reg [0,118,4,5,9,12,15,16,19,20,91,92] [
 (aO 95 (.mv (.t 16))),(aO 96 (.mv (.t 20))),(aO 97 (.mv (.t 19))),(aO 98 (.len (.t 97))),(aO 99 (.cmp .lss .i64 (.t 96) (.t 98))),(aO 100 (.mv (.t 99))),⟨some 101,some (100,true),.mv (.t 19)⟩,⟨some 102,some (100,true),.mv (.t 20)⟩,⟨some 103,some (100,true),.ixs 1 (.t 101) (.t 102)⟩,⟨some 104,some (100,true),.ld false 1 (.t 103)⟩,(aO 105 (.pick (.t 100) (.t 104) (.c (.sc (.bool false))))),(aO 106 (.bsl 1 4 [.sc (.bool false)] 1 [(0,(.t 105))])),(aO 107 (.app 1 4 1 (.t 95) (.t 106))),(aO 16 (.mv (.t 107)))])))
 (.reg [0,118,4,5,9,12,15,16,19,91,92] [
 (aO 108 (.ari .add true .i64 (.t 92) (kI 1))),(aO 92 (.mv (.t 108)))])))))))
 (.seq (.reg [0,118,4,5,9,12,15,16] [
 (aO 109 (.ld true 4 (.t 15))),(aO 110 (.ld true 2 (.t 9))),(aO 111 (.mv (.t 16))),(aO 112 (.mv (.t 4))),(aO 113 (.len (.t 112))),(aO 114 (.mv (.t 5))),(aO 115 (.len (.t 114))),(aO 116 (.bld [zI,zI] [(0,1,(.t 113)),(1,1,(.t 115))])),(aO 117 (.cal 71 [(.t 109),(.t 110),(.t 111),(.t 116)])),(aN (.sto 5 (.t 12) (.t 117)))])
 .ret))))))))))
def rv38 : List RV := [.cell 12 true 5]
theorem ok38 : fnOk Tryz.prog ac38 rv38 Tryz.f38 = true := by kernel_rfl

def ac20 : AC :=
 (.seq (.reg [0,23,0,1,2] [
 (aO 3 (.box (.t 0))),(aO 4 (.box (.t 1))),(aO 5 (.box (.t 2))),(aO 6 (.alc [.sc (.bool false),.nil,.nil,.nil,.nil]))])
 (.seq (.rgs [
 ([0,23,3,4,5,6],[
 (aO 7 (.fa 0 (.t 3))),(aO 8 (.ld true 5 (.t 7))),(aO 9 (.fa 5 (.t 3))),(aO 10 (.ld true 4 (.t 9))),(aO 11 (.fa 0 (.t 4))),(aO 12 (.ld false 1 (.t 11))),(aO 13 (.fa 1 (.t 4))),(aO 14 (.ld false 1 (.t 13))),(aO 15 (.bld [.nil,.nil] [(0,1,(.t 12)),(1,1,(.t 14))])),(aO 16 (.fa 10 (.t 3))),(aO 17 (.ld true 2 (.t 16))),(aO 18 (.fa 0 (.t 5)))]),([0,23,5,6,8,10,15,17,18],[
 (aO 19 (.ld false 1 (.t 18))),(aO 20 (.fa 1 (.t 5))),(aO 21 (.ld false 1 (.t 20))),(aO 22 (.cal 38 [(.t 8),(.t 10),(.t 15),(.t 17),(.t 19),(.t 21)])),(aN (.sto 5 (.t 6) (.t 22)))])])
 .ret))
def rv20 : List RV := [.cell 6 true 5]
theorem ok20 : fnOk Tryz.prog ac20 rv20 Tryz.f20 = true := by kernel_rfl

def ac6 : AC :=
 (.seq (.reg [0,110] [
 (aO 0 (.mv (.c (.sc (.bool false)))))])
 (.seq (.reg [0,110] [
 (aO 7 (.cal 19 [(kI 2)])),(aO 8 (.cal 19 [(kI 1)])),(aO 1 (.alc [zI,zI,zI,zI,.nil,.nil,.nil,.nil,.nil,.nil,.nil,.nil,.nil])),(aO 2 (.alc [zI,zI,zI,zI,.nil,.nil,.nil,.nil,.nil,.nil,.nil,.nil,.nil])),(aN (.sto 13 (.t 1) (.t 7))),(aN (.sto 13 (.t 2) (.t 8)))])
 (.seq (.reg [0,110,1,2] [
 (aO 9 (.bsl 1 3 [zI] 1 [(0,(kI 0))])),(aO 10 (.fa 10 (.t 1))),(aO 11 (.fa 0 (.t 10))),(aN (.sto 1 (.t 11) (.t 9)))])
 (.seq (.reg [0,110,1,2] [
 (aO 12 (.ld true 13 (.t 1))),(aO 13 (.cal 11 [(.t 12)])),(aO 3 (.mv (.t 13)))])
 (.seq (.reg [0,110,1,2,3] [
 (aO 14 (.ld true 13 (.t 1))),(aO 15 (.bld [.nil,.nil] [])),(aO 16 (.bld [.nil,.nil] [])),(aO 17 (.cal 20 [(.t 14),(.t 15),(.t 16)])),(aO 4 (.alc [.sc (.bool false),.nil,.nil,.nil,.nil])),(aN (.sto 5 (.t 4) (.t 17)))])
 (.seq (.reg [0,110,1,2,3,4] [
 (aO 18 (.bsl 1 3 [zI] 1 [(0,(kI 1))])),(aO 19 (.fa 10 (.t 1))),(aO 20 (.fa 0 (.t 19))),(aN (.sto 1 (.t 20) (.t 18)))])
 (.seq (.reg [0,110,1,2,3,4] [
 (aO 21 (.ld true 13 (.t 1))),(aO 22 (.cal 11 [(.t 21)])),(aO 5 (.mv (.t 22)))])
 (.seq (.reg [0,110,1,2,3,4,5] [
 (aO 23 (.ld true 13 (.t 1))),(aO 24 (.bld [.nil,.nil] [])),(aO 25 (.bld [.nil,.nil] [])),(aO 26 (.cal 20 [(.t 23),(.t 24),(.t 25)])),(aO 6 (.alc [.sc (.bool false),.nil,.nil,.nil,.nil])),(aN (.sto 5 (.t 6) (.t 26)))])
 (.seq (.seq (.rgs [
 ([0,110,1,2,3,4,5,6],[
 (aO 27 (.mv (.t 3))),(aO 28 (.len (.t 27))),(aO 29 (.cmp .neq .i64 (.t 28) (kI 18))),(aO 30 (.mv (.t 29))),⟨some 31,some (30,false),.mv (.t 5)⟩,⟨some 32,some (30,false),.len (.t 31)⟩,⟨some 33,some (30,false),.cmp .neq .i64 (.t 32) (kI 18)⟩,(aO 34 (.pick (.t 30) (.c (.sc (.bool true))) (.t 33))),(aO 35 (.mv (.t 34))),⟨some 36,some (35,false),.mv (.t 3)⟩,⟨some 37,some (35,false),.ixs 1 (.t 36) (kI 0)⟩,⟨some 38,some (35,false),.ld false 1 (.t 37)⟩]),([0,110,1,2,3,4,5,6,35,38],[
 ⟨some 39,some (35,false),.not (.t 38)⟩,(aO 40 (.pick (.t 35) (.c (.sc (.bool true))) (.t 39))),(aO 41 (.mv (.t 40))),⟨some 42,some (41,false),.mv (.t 3)⟩,⟨some 43,some (41,false),.ixs 1 (.t 42) (kI 6)⟩,⟨some 44,some (41,false),.ld false 1 (.t 43)⟩,(aO 45 (.pick (.t 41) (.c (.sc (.bool true))) (.t 44))),(aO 46 (.mv (.t 45))),⟨some 47,some (46,false),.mv (.t 5)⟩,⟨some 48,some (46,false),.ixs 1 (.t 47) (kI 0)⟩,⟨some 49,some (46,false),.ld false 1 (.t 48)⟩,(aO 50 (.pick (.t 46) (.c (.sc (.bool true))) (.t 49)))]),([0,110,1,2,3,4,5,6,50],[
 (aO 51 (.mv (.t 50))),⟨some 52,some (51,false),.mv (.t 5)⟩,⟨some 53,some (51,false),.ixs 1 (.t 52) (kI 1)⟩,⟨some 54,some (51,false),.ld false 1 (.t 53)⟩,⟨some 55,some (51,false),.not (.t 54)⟩,(aO 56 (.pick (.t 51) (.c (.sc (.bool true))) (.t 55))),(aO 57 (.mv (.t 56))),⟨some 58,some (57,false),.mv (.t 5)⟩,⟨some 59,some (57,false),.ixs 1 (.t 58) (kI 6)⟩,⟨some 60,some (57,false),.ld false 1 (.t 59)⟩,⟨some 61,some (57,false),.not (.t 60)⟩,(aO 62 (.pick (.t 57) (.c (.sc (.bool true))) (.t 61)))]),([0,110,1,2,3,4,5,6,62],[
 (aO 63 (.mv (.t 62))),⟨some 64,some (63,false),.fa 1 (.t 4)⟩,⟨some 65,some (63,false),.fa 0 (.t 64)⟩,⟨some 66,some (63,false),.ld false 1 (.t 65)⟩,⟨some 67,some (63,false),.bsl 1 3 [zI] 1 [(0,(kI 1))]⟩,⟨some 68,some (63,false),.cal 21 [(.t 66),(.t 67)]⟩,⟨some 69,some (63,false),.not (.t 68)⟩,(aO 70 (.pick (.t 63) (.c (.sc (.bool true))) (.t 69))),(aO 71 (.mv (.t 70))),⟨some 72,some (71,false),.fa 1 (.t 6)⟩,⟨some 73,some (71,false),.fa 0 (.t 72)⟩,⟨some 74,some (71,false),.ld false 1 (.t 73)⟩]),([0,110,1,2,3,5,71,74],[
 ⟨some 75,some (71,false),.bsl 1 3 [zI] 1 [(0,(kI 0))]⟩,⟨some 76,some (71,false),.cal 21 [(.t 74),(.t 75)]⟩,⟨some 77,some (71,false),.not (.t 76)⟩,(aO 78 (.pick (.t 71) (.c (.sc (.bool true))) (.t 77)))])])
 (.cut [0,110,1,2,3,5,78] (.cond (.t 78)
 (.seq (.reg [0,110] [
 (aO 0 (.mv (.c (.sc (.bool false)))))])
 .ret)
 .skip)))
 (.seq (.rgs [
 ([0,110,1,2,3,5],[
 (aO 79 (.fa 0 (.t 1))),(aO 80 (.ld true 5 (.t 79))),(aO 81 (.fa 5 (.t 1))),(aO 82 (.ld true 4 (.t 81))),(aO 83 (.cal 10 [(.t 80),(.t 82)])),(aO 84 (.not (.t 83))),(aO 85 (.mv (.t 84))),⟨some 86,some (85,true),.fa 0 (.t 2)⟩,⟨some 87,some (85,true),.ld true 5 (.t 86)⟩,⟨some 88,some (85,true),.fa 5 (.t 2)⟩,⟨some 89,some (85,true),.ld true 4 (.t 88)⟩,⟨some 90,some (85,true),.cal 10 [(.t 87),(.t 89)]⟩]),([0,110,1,3,5,85,90],[
 (aO 91 (.pick (.t 85) (.t 90) (.c (.sc (.bool false))))),(aO 92 (.mv (.t 91))),⟨some 93,some (92,true),.ld true 13 (.t 1)⟩,⟨some 94,some (92,true),.mv (.t 5)⟩,⟨some 95,some (92,true),.cal 13 [(.t 93),(.t 94)]⟩,(aO 96 (.pick (.t 92) (.t 95) (.c (.sc (.bool false))))),(aO 97 (.mv (.t 96))),⟨some 98,some (97,true),.ld true 13 (.t 1)⟩,⟨some 99,some (97,true),.mv (.t 3)⟩,⟨some 100,some (97,true),.cal 13 [(.t 98),(.t 99)]⟩,⟨some 101,some (97,true),.not (.t 100)⟩,(aO 102 (.pick (.t 97) (.t 101) (.c (.sc (.bool false)))))]),([0,110,1,5,102],[
 (aO 103 (.mv (.t 102))),⟨some 104,some (103,true),.ld true 13 (.t 1)⟩,⟨some 105,some (103,true),.mv (.t 5)⟩,⟨some 106,some (103,true),.cal 15 [(.t 104),(.t 105)]⟩,⟨some 107,some (103,true),.mv (.t 5)⟩,⟨some 108,some (103,true),.cal 14 [(.t 106),(.t 107)]⟩,(aO 109 (.pick (.t 103) (.t 108) (.c (.sc (.bool false))))),(aO 0 (.mv (.t 109)))])])
 .ret))))))))))
def rv6 : List RV := [.tmp 0]
theorem ok6 : fnOk Tryz.prog ac6 rv6 Tryz.f6 = true := by kernel_rfl
end Go.Proofs.YtdmkfgkmnpohlaaGreat.Txt
namespace Go.Vc
open Go Go.RowKit
theorem FnM.stkc {P : Program} {f : Nat} {args : List PV} {s ps t : List (Nat × PV)} {b : List (Nat × List PV)} {a : List (Nat × Arr)} {m : List (Nat × Mp)} {Q : PV -> St -> Prop}
  (ls : List (Nat × List (List PV))) (l : Nat × List (List PV)) (i0 : Nat) (h0 : lk s 0 = some (stkC ls)) (h1 : lk s i0 = some (.sl false l.1 l.2)) (hps : ∀ i v,lk ps i = some v -> i ≠ 0 /\ ∃ id,v = .ptr id 0)
  (ht : ∀ i v,lk t i = some v -> lk s i = some v /\ ((∃ x,v = .sc x) \/ i = 0 \/ i = i0 \/ (∃ id k,v = .ptr id 0 /\ lk ps k = some v) \/ ∃ g ids,v = .clo g ids /\ ∀ id ∈ ids,∃ k,lk ps k = some (.ptr id 0)))
  (h : FnM (Env.of P) f args ⟨(0,stkC (l :: ls)) :: ps,b,a,m⟩ fun r st' => ∃ b' a' m',st' = ⟨(0,stkC (l :: ls)) :: ps,b',a',m'⟩ /\ Q r ⟨t,b',a',m'⟩) : FnM (Env.of P) f args ⟨s,b,a,m⟩ Q := by
 refine ⟨h.1,fun w0 Z0 X G Z L w vs h2 h3 h4 => ?_⟩
 obtain ⟨vs0,e0,z0,c0⟩ := stk_vr.1 (Inv.slotG h3 h0)
 have c1 : TR w Z (.sl false l.1 l.2) (G i0) := Inv.slotG h3 h1
 have hz : vs0.size = ls.length := z0
 let G' : Nat -> Value := fun i => if i = 0 then .tuple (#[G i0] ++ vs0) else qu2 L ((lk ps i).getD .bot)
 have hG0 : G' 0 = .tuple (#[G i0] ++ vs0) := if_pos rfl
 have hGi : ∀ i v,lk ps i = some v -> G' i = qu2 L v := fun i v hi => by
  show (if i = 0 then _ else _) = _
  rw [if_neg (hps i v hi).1,hi]
  rfl
 have hm : Mem w0 Z0 X G' Z L ⟨(0,stkC (l :: ls)) :: ps,b,a,m⟩ w := Inv.setG h3 fun i v hl => by
  simp only [lk] at hl
  split at hl
  ·rename_i e
   cases hl
   subst e
   rw [hG0]
   refine stk_vr.2 ⟨_,rfl,by simp [hz]; omega,fun j x hx => ?_⟩
   cases j with
   | zero =>
     simp at hx
     subst hx
     rw [Array.getD_eq_getD_getElem?,Array.getElem?_append_left (by simp)]
     exact c1
   | succ j =>
     simp at hx
     have := c0 j x hx
     rw [Array.getD_eq_getD_getElem?] at this ⊢
     rw [Array.getElem?_append_right (by simp)]
     simpa using this
  ·obtain ⟨e1,id,rfl⟩ := hps i v hl
   rw [hGi i _ hl]
   rfl
 refine (h.2 w0 Z0 X G' Z L w vs (EnvOK.of P w0 Z0 X G') hm h4).mono ?_
 rintro e w' ⟨v,r,st',Z',L',e1,⟨b',a',m',rfl,hq⟩,h5,h6⟩
 have hbx : ∀ id k,lk ps k = some (.ptr id 0) -> L'.bx id = L.bx id := fun id k hk => by
  have p3 : VR w' Z' L' (.ptr id 0) (G' k) := Inv.slotG h5 (by simp only [lk]; rw [if_neg (fun e => (hps k _ hk).1 e.symm)]; exact hk)
  rw [hGi k _ hk] at p3
  have p4 : Value.pointer (some ⟨L.bx id,0,none⟩) = Value.pointer (some ⟨L'.bx id,0,none⟩) := p3
  injection p4 with p4
  injection p4 with p4
  injection p4 with p4
  exact p4.symm
 refine ⟨v,r,_,Z',L',e1,hq,Inv.setG h5 fun i u hl => ?_,h6⟩
 obtain ⟨g1,g2⟩ := ht i u hl
 have hstk : VR w' Z' L' (stkC (l :: ls)) (G' 0) := Inv.slotG h5 (by simp [lk])
 rw [hG0] at hstk
 obtain ⟨vs1,e2,z1,c2⟩ := stk_vr.1 hstk
 injection e2 with e2
 subst e2
 rcases g2 with ⟨x,rfl⟩ | rfl | rfl | ⟨id,k,rfl,hk⟩ | ⟨g,ids,rfl,hk⟩
 ·have := Inv.slotG h3 g1
  have : TR w Z (.sc x) (G i) := this
  show TR w' Z' (.sc x) (G i)
  cases this with
  | sc _ hx => exact .sc _ hx
 ·rw [h0] at g1
  cases g1
  rw [e0]
  refine stk_vr.2 ⟨_,rfl,hz,fun j x hx => ?_⟩
  have := c2 (j + 1) x (by simpa using hx)
  rw [Array.getD_eq_getD_getElem?] at this ⊢
  rw [Array.getElem?_append_right (by simp)] at this
  simpa using this
 ·rw [h1] at g1
  cases g1
  have := c2 0 l rfl
  rw [Array.getD_eq_getD_getElem?,Array.getElem?_append_left (by simp)] at this
  exact this
 ·show G i = .pointer (some ⟨L'.bx id,0,none⟩)
  have p2 : G i = .pointer (some ⟨L.bx id,0,none⟩) := Inv.slotG h3 g1
  rw [p2,hbx id k hk]
 ·have p2 : G i = .func (.func g) #[] (ids.map fun i => Value.pointer (some ⟨L.bx i,0,none⟩)).toArray := Inv.slotG h3 g1
  show G i = .func (.func g) #[] (ids.map fun i => Value.pointer (some ⟨L'.bx i,0,none⟩)).toArray
  rw [p2]
  congr 2
  refine List.map_congr_left fun id hid => ?_
  obtain ⟨k,hk⟩ := hk id hid
  rw [hbx id k hk]
def stT (s ps : List (Nat × PV)) (i0 : Nat) : List (Nat × PV) -> Prop
 | [] => True
 | (i,v) :: r => (lk s i = some v /\ (i = 0 \/ i = i0 \/ frV ps v)) /\ stT s ps i0 r
@[push_cast] theorem qFb (s ps : List (Nat × PV)) (i0 : Nat) : stT s ps i0 [] = True := rfl
@[push_cast] theorem qFc (s ps r : List (Nat × PV)) (i0 i : Nat) (v : PV) : stT s ps i0 ((i,v) :: r) = ((lk s i = some v /\ (i = 0 \/ i = i0 \/ frV ps v)) /\ stT s ps i0 r) := rfl
theorem qFd {s ps : List (Nat × PV)} {i0 : Nat} : ∀ {t : List (Nat × PV)},stT s ps i0 t -> ∀ i v,lk t i = some v -> lk s i = some v /\ (i = 0 \/ i = i0 \/ frV ps v)
 | [],_,i,v,hl => by cases hl
 | (k, u) :: r, h, i, v, hl => by
   simp only [lk] at hl
   split at hl
   ·rename_i e
    cases hl
    subst e
    exact h.1
   ·exact qFd h.2 i v hl
def noZ (ps : List (Nat × PV)) : Bool := ps.all fun x => x.1 != 0
theorem qFe {ps : List (Nat × PV)} (h : noZ ps = true) {i : Nat} {v : PV} (hl : lk ps i = some v) : i ≠ 0 := by
 obtain ⟨x,hx,e⟩ := quv hl
 have := List.all_eq_true.1 h x hx
 rw [<- e]
 simpa using this
theorem FnM.stkf {P : Program} {f : Nat} {args : List PV} {s : List (Nat × PV)} (ps t : List (Nat × PV)) {b : List (Nat × List PV)} {a : List (Nat × Arr)} {m : List (Nat × Mp)} {Q : PV -> St -> Prop}
  (ls : List (Nat × List (List PV))) (l : Nat × List (List PV)) (i0 : Nat) (h0 : lk s 0 = some (stkC ls)) (h1 : lk s i0 = some (.sl false l.1 l.2)) (hp : allP ps = true) (ho : quu ps = true) (hz : noZ ps = true) (ht : stT s ps i0 t)
  (h : FnM (Env.of P) f args ⟨(0,stkC (l :: ls)) :: ps,b,a,m⟩ fun r st' => ∃ b' a' m',st' = ⟨(0,stkC (l :: ls)) :: ps,b',a',m'⟩ /\ Q r ⟨t,b',a',m'⟩) : FnM (Env.of P) f args ⟨s,b,a,m⟩ Q := by
 refine FnM.stkc ls l i0 h0 h1 (fun i v hl => ⟨qFe hz hl,qut hp i v hl⟩) (fun i v hl => ?_) h
 obtain ⟨g1,g2⟩ := qFd ht i v hl
 refine ⟨g1,?_⟩
 rcases g2 with g2 | g2 | g2
 ·exact .inr (.inl g2)
 ·exact .inr (.inr (.inl g2))
 cases v with
 | sc x => exact .inl ⟨x,rfl⟩
 | ptr id o =>
   obtain ⟨rfl,g3⟩ := g2
   obtain ⟨k,hk⟩ := quw hp ho g3
   exact .inr (.inr (.inr (.inl ⟨id,k,rfl,hk⟩)))
 | clo g ids => exact .inr (.inr (.inr (.inr ⟨g,ids,rfl,fun id hid => quw hp ho (List.all_eq_true.1 g2 id hid)⟩)))
 | _ => exact g2.elim
theorem FnM.stkf0 {P : Program} {f : Nat} {args : List PV} {s : List (Nat × PV)} (ps t : List (Nat × PV)) {b : List (Nat × List PV)} {a : List (Nat × Arr)} {m : List (Nat × Mp)} {Q : PV -> St -> Prop}
  (hp : allP ps = true) (ho : quu ps = true) (hz : noZ ps = true) (ht : frT s ps t)
  (h : FnM (Env.of P) f args ⟨(0,stkC []) :: ps,b,a,m⟩ fun r st' => ∃ b' a' m',st' = ⟨(0,stkC []) :: ps,b',a',m'⟩ /\ Q r ⟨t,b',a',m'⟩) : FnM (Env.of P) f args ⟨s,b,a,m⟩ Q := by
 refine FnM.frame ps t hp ho ht ?_
 refine FnM.stk0 (t := ps) (fun i v hl => ⟨qFe hz hl,qut hp i v hl⟩) (fun i v hl => ⟨hl,?_⟩) (FnM.mono h ?_)
 ·obtain ⟨id,rfl⟩ := qut hp i v hl
  exact .inr ⟨id,i,rfl,hl⟩
 ·rintro r st' ⟨b',a',m',rfl,hq⟩
  exact ⟨b',a',m',rfl,b',a',m',rfl,hq⟩
end Go.Vc
