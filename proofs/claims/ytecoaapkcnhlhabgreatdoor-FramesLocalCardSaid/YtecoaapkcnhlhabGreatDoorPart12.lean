/- U TxtI V W X Y Z ZA TxtJ ZB ZC ZD ZE TxtA HM VcZs: lemmas -/
import Derived.Test.YtecoaapkcnhlhabGreatDoorPart11
import Derived.Test.YtecoaapkcnhlhabGreatDoorPart06
import Derived.Test.YtecoaapkcnhlhabGreatDoorChecked
import Derived.Test.YtecoaapkcnhlhabGreatDoorPart08
import Derived.Test.YtecoaapkcnhlhabGreatDoorPart01
import Derived.Test.YtecoaapkcnhlhabGreatDoorPart09
import Derived.Test.YtecoaapkcnhlhabGreatDoorPart10
set_option linter.unusedSimpArgs false
set_option linter.unusedVariables false
open Bool renaming and_eq_true->zN
open List renaming getD_eq_getElem?_getD->zK,length_append->zU,length_cons->zV,take_of_length_le->zY,take_succ_eq_append_getElem->zZ,any_eq_false->yD,all_eq_true->yE,length_set->yF,length_map->yG
open Int renaming reduceToNat->zH,reduceNeg->zJ
open Nat renaming reduceEqDiff->zA,reduceAdd->zB,reduceSub->zC,reduceMul->zD,reduceBEq->zE,reduceLT->zF,reduceLeDiff->zG
namespace Go.Proofs.YtecoaapkcnhlhabGreatDoor
open Go Go.Vc Txt
def unF(a b:List Int)(i:Nat):Bool:=decide (a.length<=i\/b.length<=i\/a.getD i 0≠b.getD i 0)
def qyg(a b:List Int):List Int:=idxF (unF a b) (max a.length b.length)
theorem qyh(a b:List Int)(ha:(a.length:Int)<=1000000)(hb:(b.length:Int)<=1000000):FnEq Tryz.prog 28 [.sl false 1 (ints a),.sl false 1 (ints b)] (.sl true 1 (ints (qyg a b))):=by
 obtain⟨n,hn⟩: ∃n,n=max a.length b.length:=⟨_,rfl⟩
 refine FnEq.of_awp Tryz.func28 ok28 (by show 2<=_;decide) (by simp only[push_cast,reduceIte,zA,zB,zC,zD,zE,zF,zG,reduceCtorEq,zH,zJ,cNI]<;>first|exact fun _ _=>trivial|simp) ?_
 simp only[ac28,rv28,push_cast,reduceIte,zA,zB,zC,zD,zE,zF,zG,reduceCtorEq,zH,zJ,cNI]
 refine qoP (fun m st=> ∃k:Nat,k<=n/\m=n-k/\st=⟨[(0,.sl false 1 (ints a)),(1,.sl false 1 (ints b)),(5,lvN 39 (idxF (unF a b) k)),(11,.int n),(12,.int k)],[],laN 39 (idxF (unF a b) k),[]⟩) n ?_ ?_
 ·refine⟨0,oM,oM,?_⟩
  simp only[idxF,push_cast,reduceIte,zA,zB,zC,zD,zE,zF,zG,reduceCtorEq,zH,zJ,cNI]
  rw[show max (a.length:Int) b.length=(n:Int)by omega]
 rintro m st ⟨k,hk,rfl,rfl⟩
 have hlen:=qya (unF a b) k
 have hq:qyg a b=idxF (unF a b) n:=by rw[hn];rfl
 generalize hl0:idxF (unF a b) k=l0 at hlen ⊢
 have hs:idxF (unF a b) (k+1)=l0++if unF a b k=true then[(k:Int)]else[]:=by rw[idxF,hl0]
 refine sB ?_
 refine qnY (fun h=> ?_) fun h=> ?_
 ·refine qrI ⟨[(0,.sl false 1 (ints a)),(1,.sl false 1 (ints b)),(5,lvN 39 l0),(6,.int k),(11,.int n),(12,.int k),(35,.bool (unF a b k))],[],laN 39 l0,[]⟩ ?_ ?_
  ·have hu:unF a b k=decide (a.length<=k\/b.length<=k\/a.getD k default≠b.getD k default):=rfl
   refine qrE rfl (fun h1=> ?_) fun h1=> ?_<;>simp only[push_cast,reduceIte,zA,zB,zC,zD,zE,zF,zG,reduceCtorEq,zH,zJ,cNI]
   ·rw[hu,decide_eq_true (.inl oM)]
   ·refine qrE rfl (fun h2=> ?_) fun h2=> ?_<;>simp only[push_cast,reduceIte,zA,zB,zC,zD,zE,zF,zG,reduceCtorEq,zH,zJ,cNI]
    ·rw[hu,decide_eq_true (.inr (.inl oM))]
    ·refine⟨oM,oM,oM,oM,?_⟩
     rw[hu,show decide (a.getD k default≠b.getD k default)=decide (a.length<=k\/b.length<=k\/a.getD k default≠b.getD k default)from by
      rw[decide_eq_decide]
      exact⟨fun h=> .inr (.inr h),fun h=>h.elim (fun h=>by omega) fun h=>h.elim (fun h=>by omega) _root_.id⟩]
  generalize hp:unF a b k=p at hs ⊢
  cases l0 with
  |nil=>
    refine sB ?_
    refine qnX (fun h2=> ?_) fun h2=> ?_
    ·refine⟨by simp,?_⟩
     simp only[qvn,push_cast,reduceIte,zA,zB,zC,zD,zE,zF,zG,reduceCtorEq,zH,zJ,cNI]
     refine⟨oM,_,?_,k+1,oM,rfl,?_⟩
     ·omega
     ·rw[hs,if_pos h2]
      simp only[List.nil_append,push_cast,reduceIte,zA,zB,zC,zD,zE,zF,zG,reduceCtorEq,zH,zJ,cNI]
      simp[qvn]
      rfl
    ·refine⟨oM,_,?_,k+1,oM,rfl,?_⟩
     ·omega
     ·rw[hs,if_neg (by rw[h2];decide)]
      simp only[List.append_nil,push_cast,reduceIte,zA,zB,zC,zD,zE,zF,zG,reduceCtorEq,zH,zJ,cNI]
  |cons x l1=>
    simp only[zV]at hlen
    refine sB ?_
    refine qnX (fun h2=> ?_) fun h2=> ?_
    ·refine⟨by simp,⟨oM,oM⟩,oM,_,?_,k+1,oM,rfl,?_⟩
     ·omega
     ·rw[hs,if_pos h2]
      simp only[List.cons_append,zU,zV,List.length_nil,push_cast,reduceIte,zA,zB,zC,zD,zE,zF,zG,reduceCtorEq,zH,zJ,cNI]
    ·refine⟨oM,_,?_,k+1,oM,rfl,?_⟩
     ·omega
     ·rw[hs,if_neg (by rw[h2];decide)]
      simp only[List.append_nil,push_cast,reduceIte,zA,zB,zC,zD,zE,zF,zG,reduceCtorEq,zH,zJ,cNI]
 ·rw[hq,show n=k by omega,hl0]
  cases l0 with
  |nil=>simp only[push_cast,reduceIte,zA,zB,zC,zD,zE,zF,zG,reduceCtorEq,zH,zJ,cNI]
  |cons x l1=>
    refine sB ?_
    rw[zY (by simp)]
    exact⟨fun _ _=>trivial,.refl _⟩
end Go.Proofs.YtecoaapkcnhlhabGreatDoor
namespace Go.Vc
theorem Inv.trim {w0 : World} {Z0 : Zone} {N : Fr} {Z : Zone} {L : Lay} {st : St} {a : Act} {w : World} (h : Inv w0 Z0 N Z L st a w) {id : Nat} {A : Arr} (hA : lk st.a id = some A) (m : Nat) (hm : m <= A.xs.length) (hno : st.noTo nul (fun j => j == id) = true) :
  Inv w0 Z0 N Z { L with al:=fun j=>if j=id then m else L.al j } { st with a:=up st.a id { A with xs:=A.xs.take m } } a w:=by
 have hl:LSame L { L with al:=fun j=>if j=id then m else L.al j } nul (fun j=>j==id):=⟨fun _ _=>rfl,fun _ _=>rfl,fun _ _=>rfl,fun _ _=>rfl,fun j hj=>by simp only[beq_eq_false_iff_ne]at hj;simp[hj],fun _ _=>rfl,fun _ _=>rfl⟩
 have hk:Kept Z w w:=⟨fun _ _ _=>rfl⟩
 have hR:=Rest.keep (pb:=nul) (pa:=fun j=>j==id) h.rest hk (fun _ _ h=>h) (fun _ _ _ _ _ hp=>hp) (fun _ _ _ _=>rfl) (Nat.le_refl _) hl (m' :=st.m) (fun i M hM=>⟨hM,rfl,by unfold Mp.to;split<;>rfl⟩)
 refine⟨h.zt,h.z0,h.zn,h.zb,h.below,h.ownb,fun i B hi=> ?_,h.injb,fun i j x y hx hy he=> ?_,fun i j x y hx hy he=> ?_,fun i cs hi=> ?_,fun i B hi=> ?_,hR.1,hR.2.1,hR.2.2.1,h.oth,h.yb,h.size,h.defers,fun i v hi=> ?_⟩
 ·rw[qa2]at hi
  split at hi
  ·rename_i e;subst e;exact h.owna id A hA
  ·exact h.owna i B hi
 ·rw[qa2]at hx hy
  have key: ∀k z,(if id=k then some ({ A with xs:=A.xs.take m } :Arr)else lk st.a k)=some z-> ∃z',lk st.a k=some z' :=fun k z hz=>by
   split at hz
   ·rename_i e;subst e;exact⟨A,hA⟩
   ·exact⟨z,hz⟩
  obtain⟨x',hx'⟩:=key i x hx
  obtain⟨y',hy'⟩:=key j y hy
  exact h.inja i j x' y' hx' hy' he
 ·rw[qa2]at hy
  split at hy
  ·rename_i e;subst e;exact h.injx i id x A hx hA he
  ·exact h.injx i j x y hx hy he
 ·exact(h.boxes i cs hi).keep hk (fun _ _ h=>h) rfl hl rfl (St.noTo_box hno hi)
 ·rw[qa2]at hi
  split at hi
  ·rename_i e
   cases hi
   subst e
   obtain⟨cur,hX⟩:=h.arrs id A hA
   refine⟨cur,hX.pos,hX.ae,?_,hX.blk,hX.size,?_,hX.max,fun r hr=>hX.rows r (List.mem_of_mem_take hr),fun p q r c hp hq=> ?_⟩
   ·simp;omega
   ·exact Nat.le_trans (by simp;omega) hX.fits
   ·rw[List.getElem?_take]at hp
    split at hp
    ·exact hX.cell p q r c hp hq
    ·cases hp
  ·rename_i e
   obtain⟨c,hX⟩:=h.arrs i B hi
   exact⟨c,hX.keep hk (fun _ _ h=>h) rfl hl (by simpa using Ne.symm e)⟩
 ·exact(h.slots i v hi).keep hk (fun _ _ h=>h) hl (St.noTo_slot hno hi)
end Go.Vc
namespace Go.Proofs.YtecoaapkcnhlhabGreatDoor
open Go Go.Vc Txt
end Go.Proofs.YtecoaapkcnhlhabGreatDoor
namespace Go.Vc
theorem FnM.trimA{E:Env}{f:Nat}{args:List PV}{st:St}{Q:PV->St->Prop}(id m:Nat)(h:FnM E f args st fun r st' =>r= .view id 0 m/\ ∃A,lk st'.a id=some A/\m<=A.xs.length/\st'.noTo nul (fun j=>j==id)=true/\Q r { st' with a:=up st'.a id { A with xs:=A.xs.take m } }):FnM E f args st Q:=
 ⟨h.1,fun w0 Z0 X G Z L w vs h1 h2 h3=>(h.2 w0 Z0 X G Z L w vs h1 h2 h3).mono fun _ _ ⟨v,r,st',Z',L',e1,⟨e2,A,e3,e4,e5,e6⟩,e7,e8⟩=>by
  subst e2
  obtain⟨ad,cap',c1,c2,c3,c4,c5,c6⟩:=e8
  exact⟨v,_,_,Z',_,e1,e6,e7.trim e3 m e4 e5,ad,cap',c1,c2,c3,by simp,c5,c6⟩⟩
end Go.Vc
namespace Go.Proofs.YtecoaapkcnhlhabGreatDoor
open Go Go.Vc Txt
def ccB(c d:Cfg):List (Nat×List PV):=[(2,cfgC false c),(3,cfgC false d)]
def lsC(l:List Int):List PV:=[.sl true 1 (ints l)]
@[push_cast] theorem qyi(l:List Int):lsC l=[.sl true 1 (ints l)]:=rfl
def ccA(ls:List (List Int)):Arr:=⟨1,28,rows lsC ls⟩
theorem qyj (c d : Cfg) (ls : List (List Int)) (q : Nat) (n : Nat) (hn : 0 < n) (hl : (n : Int) <= 10000000) : FnM (Env.of Tryz.prog) 47 [.nil, .int n] ⟨[(0, .ptr 2 0), (1, .ptr 3 0), (500, .view 22 0 q), (503, .int n), (523, .int n)], ccB c d, [(22, ccA ls)], []⟩
  (fun r st' =>r= .view 622 0 0/\st' =⟨[(0,.ptr 2 0),(1,.ptr 3 0),(500,.view 22 0 q),(503,.int n),(523,.int n)],ccB c d,[(22,ccA ls),(622,⟨1,3,[]⟩)],[]⟩):=by
 refine FnM.trimA 622 0 ?_
 simp only[ccB,ccA,push_cast,reduceIte,zA,zB,zC,zD,zE,zF,zG,reduceCtorEq,zH,zJ,cNI]
 refine quf 600 Tryz.func47 ok47_600 (by show 2<=_;decide) rfl (by show 0<=600;decide) ?_
 simp only[ac47_600,rv47_600,push_cast,reduceIte,zA,zB,zC,zD,zE,zF,zG,reduceCtorEq,zH,zJ,cNI]
 refine qnY (fun h=>by omega) fun _=> ?_
 refine⟨oM,oM,?_⟩
 refine qnY (fun _=> ?_) fun h=>by omega
 refine⟨oM,oM,oM,by simp,rfl,_,rfl,rfl,?_⟩
 simp only[List.take_zero,push_cast,reduceIte,zA,zB,zC,zD,zE,zF,zG,reduceCtorEq,zH,zJ,cNI]
theorem qyk (c d : Cfg) (ls : List (List Int)) (q : Nat) : FnM (Env.of Tryz.prog) 47 [.nil, .int 0] ⟨[(0, .ptr 2 0), (1, .ptr 3 0), (500, .view 22 0 q), (503, .int 0), (523, .int 0)], ccB c d, [(22, ccA ls)], []⟩
  (fun r st' =>r= .nil/\st' =⟨[(0,.ptr 2 0),(1,.ptr 3 0),(500,.view 22 0 q),(503,.int 0),(523,.int 0)],ccB c d,[(22,ccA ls)],[]⟩):=by
 simp only[ccB,ccA,push_cast,reduceIte,zA,zB,zC,zD,zE,zF,zG,reduceCtorEq,zH,zJ,cNI]
 refine quf 600 Tryz.func47 ok47_600 (by show 2<=_;decide) rfl (by show 0<=600;decide) ?_
 simp only[ac47_600,rv47_600,push_cast,reduceIte,zA,zB,zC,zD,zE,zF,zG,reduceCtorEq,zH,zJ,cNI]
 refine qnY (p:=(0:Int)<0) (fun h=>by omega) fun _=> ?_
 refine⟨oM,oM,?_⟩
 refine qnY (fun h=>by omega) fun _=> ?_
 trivial
def ccR(ls:List (List Int))(r:PV)(a:List (Nat×Arr)):Prop:=
 (r= .nil/\ls.flatten=[]/\a=[(22,ccA ls)])\/(ls.flatten≠[]/\r= .view 622 0 ls.flatten.length/\a=[(22,ccA ls),(622,⟨1,3,ints ls.flatten⟩)])
def ccP:List (Nat×PV):=[(0,.ptr 2 0),(1,.ptr 3 0)]
theorem qyl(ls:List (List Int))(k:Nat)(hk:k<ls.length):(ls.take (k+1)).flatten=(ls.take k).flatten++ls.getD k default:=by
 rw[zZ hk,List.flatten_append]
 simp[hk]
theorem qym (c d : Cfg) (ls : List (List Int)) (h3 : ls.length <= 3) (hb : ∀ l ∈ ls, (l.length : Int) <= 1000000) : FnM (Env.of Tryz.prog) 27 [.view 22 0 ls.length] ⟨ccP, ccB c d, [(22, ccA ls)], []⟩
  (fun r st' => ∃a,st' =⟨ccP,ccB c d,a,[]⟩/\ccR ls r a):=by
 have hbd: ∀k,k<=ls.length->((ls.take k).flatten.length:Int)<=k*1000000:=by
  intro k
  induction k with
  |zero=>intro _;simp
  |succ k ih=>
    intro hk
    have h1:=ih oM
    have h2:=hb (ls.getD k default) (by simp[show k<ls.length by omega])
    rw[qyl ls k oM,zU]
    omega
 simp only[ccP,ccB,ccA,push_cast,reduceIte,zA,zB,zC,zD,zE,zF,zG,reduceCtorEq,zH,zJ,cNI]
 refine quf 500 Tryz.func27 ok27_500 (by show 1<=_;decide) rfl (by show 0<=500;decide) ?_
 simp only[ac27_500,rv27_500,push_cast,reduceIte,zA,zB,zC,zD,zE,zF,zG,reduceCtorEq,zH,zJ,cNI]
 refine qoP (fun m st=> ∃k:Nat,k<=ls.length/\m=ls.length-k/\st=⟨ccP++[(500,.view 22 0 ls.length),(503,.int ((ls.take k).flatten.length:Nat)),(509,.view 22 0 ls.length),(510,.int ls.length),(511,.int k)],ccB c d,[(22,ccA ls)],[]⟩) ls.length ?_ ?_
 ·refine⟨0,oM,oM,?_⟩
  simp only[ccP,ccB,ccA,List.cons_append,List.nil_append,List.take_zero,List.flatten_nil,List.length_nil,push_cast,reduceIte,zA,zB,zC,zD,zE,zF,zG,reduceCtorEq,zH,zJ,cNI]
 rintro m st ⟨k,hk,rfl,rfl⟩
 have h1:=hbd k hk
 simp only[ccP,ccB,ccA,List.cons_append,List.nil_append,push_cast,reduceIte,zA,zB,zC,zD,zE,zF,zG,reduceCtorEq,zH,zJ,cNI]
 refine qnY (fun h=>⟨oM,oM,?_⟩) fun h=> ?_
 ·have h2:=hb (ls.getD k default) (by simp[show k<ls.length by omega])
  have h5:=qyl ls k oM
  refine⟨oM,?_⟩
  refine qnY (fun h=>by omega) fun _=> ?_
  refine⟨oM,_,?_,k+1,oM,rfl,?_⟩
  ·omega
  ·rw[h5,zU]
   simp only[ccP,ccB,ccA,List.cons_append,List.nil_append,push_cast,reduceIte,zA,zB,zC,zD,zE,zF,zG,reduceCtorEq,zH,zJ,cNI]
 ·rw[zY oM]at h1 ⊢
  by_cases hF:ls.flatten=[]
  ·have hall : ∀ k, ls.getD k default = [] := fun k => by
    by_cases hk:k<ls.length
    ·have:=List.flatten_eq_nil_iff.1 hF ls[k] (List.getElem_mem hk)
     simp[hk,this]
    ·rw[zK,List.getElem?_eq_none oM];rfl
   rw[hF]
   simp only[List.length_nil]
   refine qsP (qyk c d ls ls.length) ?_
   simp only[ccB,ccA,push_cast,reduceIte,zA,zB,zC,zD,zE,zF,zG,reduceCtorEq,zH,zJ,cNI]
   refine qoP (fun m st=> ∃k:Nat,k<=ls.length/\m=ls.length-k/\st=⟨ccP++[(506,.nil),(525,.view 22 0 ls.length),(526,.int ls.length),(527,.int k)],ccB c d,[(22,ccA ls)],[]⟩) ls.length ?_ ?_
   ·refine⟨0,oM,oM,?_⟩
    simp only[ccP,ccB,ccA,List.cons_append,List.nil_append,push_cast,reduceIte,zA,zB,zC,zD,zE,zF,zG,reduceCtorEq,zH,zJ,cNI]
   rintro m st ⟨k,hk,rfl,rfl⟩
   simp only[ccP,ccB,ccA,List.cons_append,List.nil_append,push_cast,reduceIte,zA,zB,zC,zD,zE,zF,zG,reduceCtorEq,zH,zJ,cNI]
   refine qnY (fun h=>⟨oM,oM,?_⟩) fun h=> ?_
   ·rw[hall k]
    simp only[show ints []=[]from rfl,push_cast,reduceIte,zA,zB,zC,zD,zE,zF,zG,reduceCtorEq,zH,zJ,cNI]
    refine⟨oM,_,?_,k+1,oM,rfl,?_⟩
    ·omega
    ·simp only[ccP,ccB,ccA,List.cons_append,List.nil_append,push_cast,reduceIte,zA,zB,zC,zD,zE,zF,zG,reduceCtorEq,zH,zJ,cNI]
   ·exact⟨_,rfl,.inl ⟨rfl,hF,rfl⟩⟩
  ·have hpos:=List.length_pos_iff.2 hF
   refine qsP (qyj c d ls ls.length ls.flatten.length hpos oM) ?_
   simp only[ccB,ccA,push_cast,reduceIte,zA,zB,zC,zD,zE,zF,zG,reduceCtorEq,zH,zJ,cNI]
   refine qoP (fun m st=> ∃k:Nat,k<=ls.length/\m=ls.length-k/\st=⟨ccP++[(506,.view 622 0 (ls.take k).flatten.length),(525,.view 22 0 ls.length),(526,.int ls.length),(527,.int k)],ccB c d,[(22,ccA ls),(622,⟨1,3,ints (ls.take k).flatten⟩)],[]⟩) ls.length ?_ ?_
   ·refine⟨0,oM,oM,?_⟩
    simp only[ccP,ccB,ccA,List.cons_append,List.nil_append,List.take_zero,List.flatten_nil,List.length_nil,push_cast,reduceIte,zA,zB,zC,zD,zE,zF,zG,reduceCtorEq,zH,zJ,cNI]
    rfl
   rintro m st ⟨k,hk,rfl,rfl⟩
   have h1:=hbd k hk
   simp only[ccP,ccB,ccA,List.cons_append,List.nil_append,push_cast,reduceIte,zA,zB,zC,zD,zE,zF,zG,reduceCtorEq,zH,zJ,cNI]
   refine qnY (fun h=>⟨oM,oM,?_⟩) fun h=> ?_
   ·have h2:=hb (ls.getD k default) (by simp[show k<ls.length by omega])
    have h5:=qyl ls k oM
    refine⟨⟨oM,oM⟩,oM,_,?_,k+1,oM,rfl,?_⟩
    ·omega
    ·rw[h5,zU]
     simp only[ccP,ccB,ccA,List.cons_append,List.nil_append,push_cast,reduceIte,zA,zB,zC,zD,zE,zF,zG,reduceCtorEq,zH,zJ,cNI]
   ·rw[zY oM]
    exact⟨rfl,_,rfl,.inr ⟨hF,rfl,rfl⟩⟩
def qyn(c d:Cfg):List Int:=qyg c.mode d.mode++qyg c.tab d.tab++qyg c.ram d.ram
def qyo(c d:Cfg):List Int×List Int:=(qyg c.sel d.sel,Go.Lib.compact (qvR (qyn c d)))
structure CfgSm (c:Cfg):Prop where
 sel:(c.sel.length:Int)<=1000000
 mode:(c.mode.length:Int)<=1000000
 tab:(c.tab.length:Int)<=1000000
 ram:(c.ram.length:Int)<=1000000
theorem qyp(a b:List Int)(ha:(a.length:Int)<=1000000)(hb:(b.length:Int)<=1000000):((qyg a b).length:Int)<=1000000:=by
 have:=qya (unF a b) (max a.length b.length)
 rw[qyg]
 omega
set_option maxHeartbeats 2000000 in
theorem qyq(c d:Cfg)(hc:CfgSm c)(hd:CfgSm d):FnEq Tryz.prog 10 [.agg (cfgC false c),.agg (cfgC false d)] (.tup [.sl true 1 (ints (qyo c d).1),.sl true 1 (ints (qyo c d).2)]):=by
 have u0:=qyh c.sel d.sel hc.sel hd.sel
 have u1:=qyh c.mode d.mode hc.mode hd.mode
 have u2:=qyh c.tab d.tab hc.tab hd.tab
 have u3:=qyh c.ram d.ram hc.ram hd.ram
 have l1:=qyp c.mode d.mode hc.mode hd.mode
 have l2:=qyp c.tab d.tab hc.tab hd.tab
 have l3:=qyp c.ram d.ram hc.ram hd.ram
 refine FnEq.of_awp Tryz.func10 ok10 (by show 2<=_;decide) (by simp only[push_cast,reduceIte,zA,zB,zC,zD,zE,zF,zG,reduceCtorEq,zH,zJ,cNI]<;>first|exact fun _ _=>trivial|simp) ?_
 simp only[ac10,rv10,push_cast,reduceIte,zA,zB,zC,zD,zE,zF,zG,reduceCtorEq,zH,zJ,cNI]
 refine qqU u1 (u:=[]) rfl ?_
 refine sB ?_
 refine qqU u2 (u:=[]) rfl ?_
 refine sB ?_
 refine qoM u3 ?_
 refine sB ?_
 obtain⟨ls,hls⟩: ∃ls,ls=[qyg c.mode d.mode,qyg c.tab d.tab,qyg c.ram d.ram]:=⟨_,rfl⟩
 have hfl:ls.flatten=qyn c d:=by rw[hls];simp[qyn]
 have hln:((qyn c d).length:Int)<=3000000:=by rw[qyn];simp only[zU];omega
 have hcc:=qym c d ls (by rw[hls];exact Nat.le_refl 3) (fun l hl=>by rw[hls]at hl;simp at hl;rcases hl with rfl|rfl|rfl<;>assumption)
 have hfr : FnM (Env.of Tryz.prog) 27 [.view 22 0 3] ⟨[(2, .ptr 2 0), (3, .ptr 3 0), (7, .ptr 2 1), (8, .sl false 1 (ints c.mode)), (9, .ptr 3 1), (10, .sl false 1 (ints d.mode)), (11, .sl true 1 (ints (qyg c.mode d.mode))), (12, .ptr 2 2),
   (13,.sl false 1 (ints c.tab)),(14,.ptr 3 2),(15,.sl false 1 (ints d.tab)),(16,.sl true 1 (ints (qyg c.tab d.tab))),(17,.ptr 2 3),(18,.sl false 1 (ints c.ram)),(19,.ptr 3 3),(20,.sl false 1 (ints d.ram)),(21,.sl true 1 (ints (qyg c.ram d.ram))),(22,.view 22 0 3)],ccB c d,[(22,ccA ls)],[]⟩
   (fun r st' => ∃a,st' =⟨[(2,.ptr 2 0),(3,.ptr 3 0)],ccB c d,a,[]⟩/\ccR ls r a):=by
  refine FnM.frame ccP [(2,.ptr 2 0),(3,.ptr 3 0)] rfl rfl (by simp only[ccP,push_cast,reduceIte,zA,zB,zC,zD,zE,zF,zG,reduceCtorEq,zH,zJ,cNI]) ?_
  rw[show(3:Nat)=ls.length by rw[hls];rfl]
  refine FnM.mono hcc ?_
  rintro r st' ⟨a,rfl,h⟩
  exact⟨_,_,_,rfl,a,rfl,h⟩
 rw[hls]at hfr
 refine qsO hfr ?_
 rintro r st' ⟨a,rfl,h⟩
 rw[<- hls]at h
 rcases h with⟨rfl,h1,rfl⟩|⟨h1,rfl,rfl⟩
 ·simp only[ccB,ccA,push_cast,reduceIte,zA,zB,zC,zD,zE,zF,zG,reduceCtorEq,zH,zJ,cNI]
  refine qsP qvP ?_
  refine sB ?_
  refine qoM u0 ?_
  refine sB ?_
  refine qsP qvQ ?_
  simp only[qyo,<- hfl,h1,push_cast,reduceIte,zA,zB,zC,zD,zE,zF,zG,reduceCtorEq,zH,zJ,cNI]
  refine⟨fun _ _=>trivial,?_⟩
  rw[qvR,List.mergeSort_nil]
  rfl
 ·simp only[ccB,ccA,hfl,push_cast,reduceIte,zA,zB,zC,zD,zE,zF,zG,reduceCtorEq,zH,zJ,cNI]
  refine qsP (qvS (id:=622) (ty:=3) rfl oM) ?_
  refine sB ?_
  refine qoM u0 ?_
  refine sB ?_
  have hsl:(qvR (qyn c d)).length=(qyn c d).length:=by rw[qvR,List.length_mergeSort]
  refine qsP (qw8 (id:=622) (ty:=3) hsl.symm rfl (by rw[hsl];omega)) ?_
  simp only[qyo,push_cast,reduceIte,zA,zB,zC,zD,zE,zF,zG,reduceCtorEq,zH,zJ,cNI]
  rw[List.take_left]
  first
   |exact⟨⟨fun _ _=>trivial,fun _ _=>trivial⟩,.refl _,.refl _⟩
   |exact⟨⟨fun _ _=>trivial,fun _ _=>trivial⟩,.refl _⟩
end Go.Proofs.YtecoaapkcnhlhabGreatDoor
namespace Go.Proofs.YtecoaapkcnhlhabGreatDoor.Txt
open Go Go.Vc
set_option maxRecDepth 100000
def ac65b_r6:AC:=
 (.seq (.reg [0,40,0,1,2,3,9,10] [
 (aO 23 (.mv (.t 1))),(aO 24 (.cal 63 [(.t 23),(kI 0),(kI 3)])),(aO 25 (.mv (.t 24))),⟨some 26,some (25,true),.mv (.t 0)⟩,⟨some 27,some (25,true),.mv (.t 1)⟩,⟨some 28,some (25,true),.cal 93 [(.t 26),(.t 27)]⟩,(aO 29 (.pick (.t 25) (.t 28) (.c (.sc (.bool false))))),(aO 30 (.mv (.t 29))),⟨some 31,some (30,true),.mv (.t 2)⟩,⟨some 32,some (30,true),.mv (.t 9)⟩,⟨some 33,some (30,true),.cal 63 [(.t 31),(kI 0),(.t 32)]⟩,(aO 34 (.pick (.t 30) (.t 33) (.c (.sc (.bool false))))),(aO 35 (.mv (.t 34))),⟨some 36,some (35,true),.mv (.t 3)⟩,⟨some 37,some (35,true),.mv (.t 10)⟩,⟨some 38,some (35,true),.cal 63 [(.t 36),(kI 0),(.t 37)]⟩,(aO 39 (.pick (.t 35) (.t 38) (.c (.sc (.bool false))))),(aO 8 (.mv (.t 39)))])
 .ret)
def ac65b:AC:=
 (.seq (.reg [0,40,0,1,2,3] [
 (aO 8 (.mv (.c (.sc (.bool false)))))])
 (.seq (.reg [0,40,0,1,2,3] [
 (aO 9 (.mv (kI 0))),(aO 10 (.mv (kI 0)))])
 (.seq (.seq (.reg [0,40,0,1,2,3,9,10] [
 (aO 11 (.mv (.t 1))),(aO 12 (.cmp .eql .i64 (.t 11) (kI 1))),(aO 13 (.mv (.t 12))),⟨some 14,some (13,false),.mv (.t 1)⟩,⟨some 15,some (13,false),.cmp .eql .i64 (.t 14) (kI 2)⟩,(aO 16 (.pick (.t 13) (.c (.sc (.bool true))) (.t 15)))])
 (.cut [0,40,0,1,2,3,9,10,16] (.cond (.t 16)
 (.reg [0,40,0,1,2,3,10] [
 (aO 9 (.mv (kI 65535)))])
 .skip)))
 (.seq (.seq (.reg [0,40,0,1,2,3,9,10] [
 (aO 17 (.mv (.t 1))),(aO 18 (.cmp .eql .i64 (.t 17) (kI 2))),(aO 19 (.mv (.t 18))),⟨some 20,some (19,false),.mv (.t 1)⟩,⟨some 21,some (19,false),.cmp .eql .i64 (.t 20) (kI 3)⟩,(aO 22 (.pick (.t 19) (.c (.sc (.bool true))) (.t 21)))])
 (.cut [0,40,0,1,2,3,9,10,22] (.cond (.t 22)
 (.reg [0,40,0,1,2,3,9] [
 (aO 10 (.mv (kI 255)))])
 .skip)))
 ac65b_r6))))
def rv65b:List RV:=[.tmp 8]
theorem ok65b:fnOk Tryz.prog ac65b rv65b Tryz.f65=true:=by kernel_rfl
end Go.Proofs.YtecoaapkcnhlhabGreatDoor.Txt
namespace Go.Proofs.YtecoaapkcnhlhabGreatDoor
open Go Go.Vc Txt
def qyr(k m t r:Int):Prop:=(0<=m/\m<=3)/\qwY k m=true/\(0<=t/\t<=if m=1\/m=2 then 65535 else 0)/\(0<=r/\r<=if m=2\/m=3 then 255 else 0)
instance (k m t r:Int):Decidable (qyr k m t r):=by unfold qyr;infer_instance
set_option maxHeartbeats 2000000 in
theorem qys(k m t r:Int):FnEq Tryz.prog 65 [.int k,.int m,.int t,.int r] (.bool (decide (qyr k m t r))):=by
 have key: ∀T R:Int,(T=if m=1\/m=2 then 65535 else 0)->(R=if m=2\/m=3 then 255 else 0)->(qyr k m t r ↔ (0<=m/\m<=3)/\qwY k m=true/\(0<=t/\t<=T)/\(0<=r/\r<=R)):=fun T R hT hR=>by rw[qyr,hT,hR]
 have fin : ∀ T R : Int, (T = if m = 1 \/ m = 2 then 65535 else 0) -> (R = if m = 2 \/ m = 3 then 255 else 0) -> ∀ {st : St}, st.keepS [0, 40, 0, 1, 2, 3, 9, 10] = ⟨[(0, .int k), (1, .int m), (2, .int t), (3, .int r), (9, .int T), (10, .int R)], [], [], []⟩ ->
   awp (Env.of Tryz.prog) ac65b_r6 (retK rv65b fun x=>Sub x (.bool (decide (qyr k m t r)))) st:=by
  intro T R hT hR st hst
  have hk:=key T R hT hR
  simp only[ac65b_r6,rv65b,push_cast,reduceIte,zA,zB,zC,zD,zE,zF,zG,reduceCtorEq,zH,zJ,cNI,hst]
  refine qoM (qwX _ _ _) ?_
  refine sB ?_
  refine qrz rfl (fun w1=> ?_) fun w1=> ?_<;>simp only[push_cast,reduceIte,zA,zB,zC,zD,zE,zF,zG,reduceCtorEq,zH,zJ,cNI]
  rotate_left
  ·rw[decide_eq_false fun h=>w1 (hk.1 h).1]
  refine qoM (qwZ _ _) ?_
  refine sB ?_
  refine qrB rfl (fun w2=> ?_) fun w2=> ?_<;>simp only[push_cast,reduceIte,zA,zB,zC,zD,zE,zF,zG,reduceCtorEq,zH,zJ,cNI]
  rotate_left
  ·rw[decide_eq_false fun h=>by have:=(hk.1 h).2.1;rw[w2]at this;cases this]
  refine qoM (qwX _ _ _) ?_
  refine sB ?_
  refine qrz rfl (fun w3=> ?_) fun w3=> ?_<;>simp only[push_cast,reduceIte,zA,zB,zC,zD,zE,zF,zG,reduceCtorEq,zH,zJ,cNI]
  rotate_left
  ·rw[decide_eq_false fun h=>w3 (hk.1 h).2.2.1]
  refine qoM (qwX _ _ _) ?_
  refine sB ?_
  rw[decide_eq_decide.2 (show(0<=r/\r<=R) ↔ qyr k m t r from⟨fun h=>hk.2 ⟨w1,w2,w3,h⟩,fun h=>(hk.1 h).2.2.2⟩)]
 refine FnEq.of_awp Tryz.func65 ok65b (by show 4<=_;decide) (by simp only[push_cast,reduceIte,zA,zB,zC,zD,zE,zF,zG,reduceCtorEq,zH,zJ,cNI]<;>first|exact fun _ _=>trivial|simp) ?_
 simp only[ac65b,push_cast,reduceIte,zA,zB,zC,zD,zE,zF,zG,reduceCtorEq,zH,zJ,cNI]
 cases e1:decide (m=1)<;>cases e2:decide (m=2)<;>cases e3:decide (m=3)
 all_goals have h1:=e1
 all_goals have h2:=e2
 all_goals have h3:=e3
 all_goals simp only[decide_eq_true_eq,decide_eq_false_iff_not]at h1 h2 h3
 all_goals first|(exfalso;omega)|skip
 all_goals simp only[e1,e2,e3,push_cast,reduceIte,zA,zB,zC,zD,zE,zF,zG,reduceCtorEq,zH,zJ,cNI]
 ·refine fin 0 0 (by rw[if_neg oM]) (by rw[if_neg oM]) ?_
  exact sC
 ·refine fin 0 255 (by rw[if_neg oM]) (by rw[if_pos oM]) ?_
  exact sC
 ·refine fin 65535 255 (by rw[if_pos oM]) (by rw[if_pos oM]) ?_
  exact sC
 ·refine fin 65535 0 (by rw[if_pos oM]) (by rw[if_neg oM]) ?_
  exact sC
def qyt(g:Grid)(c:Cfg):Prop:=(c.sel.length=(qv2 g).toNat/\c.mode.length=g.kind.length/\c.tab.length=g.kind.length/\c.ram.length=g.kind.length)/\
 (∀i,i<c.sel.length->c.sel.getD i 0≠0->1<=c.sel.getD i 0/\c.sel.getD i 0<=(qwb g i).length)/\ ∀t,t<g.kind.length->qyr (g.kind.getD t 0) (c.mode.getD t 0) (c.tab.getD t 0) (c.ram.getD t 0)
open Classical in
noncomputable def validE (g:Grid) (c:Cfg):Int:=if qyt g c then 0 else 310
theorem qyu{p:Prop} [Decidable p](h:(!decide p)=true): ¬p:=by simpa using h
theorem qyv{p:Prop} [Decidable p](h:(!decide p)=false):p:=by simpa using h
def qyw(g:Grid)(c:Cfg):Prop:=c.sel.length=(qv2 g).toNat/\c.mode.length=g.kind.length/\c.tab.length=g.kind.length/\c.ram.length=g.kind.length
instance (g:Grid) (c:Cfg):Decidable (qyw g c):=by unfold qyw;infer_instance
def qyx(g:Grid)(c:Cfg)(i:Nat):Prop:=c.sel.getD i 0≠0->1<=c.sel.getD i 0/\c.sel.getD i 0<=(qwb g i).length
def qyy(g:Grid)(c:Cfg)(t:Nat):Prop:=qyr (g.kind.getD t 0) (c.mode.getD t 0) (c.tab.getD t 0) (c.ram.getD t 0)
instance (g:Grid) (c:Cfg) (i:Nat):Decidable (qyx g c i):=by unfold qyx;infer_instance
instance (g:Grid) (c:Cfg) (t:Nat):Decidable (qyy g c t):=by unfold qyy;infer_instance
theorem qyz{g:Grid}{c:Cfg}(h1:qyw g c)(h2: ∀i,i<c.sel.length->qyx g c i)(h3: ∀t,t<g.kind.length->qyy g c t):validE g c=0:=if_pos ⟨h1,h2,h3⟩
theorem qyA{g:Grid}{c:Cfg}(h: ¬qyw g c):validE g c=310:=if_neg fun e=>h e.1
theorem qyB{g:Grid}{c:Cfg}{i:Nat}(hi:i<c.sel.length)(h: ¬qyx g c i):validE g c=310:=if_neg fun e=>h (e.2.1 i hi)
theorem qyC{g:Grid}{c:Cfg}{t:Nat}(ht:t<g.kind.length)(h: ¬qyy g c t):validE g c=310:=if_neg fun e=>h (e.2.2 t ht)
set_option maxHeartbeats 4000000 in
theorem qyD(g:Grid)(hg:GOk g)(c:Cfg)(hs:CfgSm c):FnEq Tryz.prog 44 [.agg (quX false g),.agg (cfgC false c)] (.int (validE g c)):=by
 have hc:=hg.count
 have hk:=hg.kind
 have hw:=hg.wh
 have s1:=hs.sel
 have s2:=hs.mode
 have s3:=hs.tab
 have s4:=hs.ram
 refine FnEq.of_awp Tryz.func44 ok44 (by show 2<=_;decide) (by simp only[push_cast,reduceIte,zA,zB,zC,zD,zE,zF,zG,reduceCtorEq,zH,zJ,cNI]<;>first|exact fun _ _=>trivial|simp) ?_
 simp only[ac44,rv44,push_cast,reduceIte,zA,zB,zC,zD,zE,zF,zG,reduceCtorEq,zH,zJ,cNI]
 refine qrx (qv5 g hg) sC rfl ?_
 refine sB ?_
 obtain⟨B,hB⟩: ∃B,B=decide (¬qyw g c):=⟨_,rfl⟩
 refine qrI ⟨[(2,.ptr 2 0),(3,.ptr 3 0),(39,.bool B)],[(2,quX false g),(3,cfgC false c)],[],[]⟩ ?_ ?_
 ·unfold qyw at hB
  repeat' (first
   |(refine qrE rfl (fun _=> ?_) fun _=> ?_<;>simp only[push_cast,reduceIte,zA,zB,zC,zD,zE,zF,zG,reduceCtorEq,zH,zJ,cNI])
   |(refine qrD rfl (fun _=> ?_) fun _=> ?_<;>simp only[push_cast,reduceIte,zA,zB,zC,zD,zE,zF,zG,reduceCtorEq,zH,zJ,cNI]))
  all_goals first
   |(rw[show B=true from by rw[hB];exact decide_eq_true oM];done)
   |(rw[show B=decide ((c.ram.length:Int)≠g.kind.length)from by rw[hB,decide_eq_decide];omega];done)
 refine sB ?_
 refine qnX (fun e=> ?_) fun e=> ?_
 ·rw[hB,decide_eq_true_eq]at e
  rw[qyA e]
 rw[hB,decide_eq_false_iff_not,Classical.not_not]at e
 have el:=e
 obtain⟨q1,q2,q3,q4⟩:=e
 refine qoP (fun m st=> ∃k:Nat,k<=c.sel.length/\m=c.sel.length-k/\(∀i,i<k->qyx g c i)/\st=⟨[(2,.ptr 2 0),(3,.ptr 3 0),(41,.sl false 1 (ints c.sel)),(42,.int c.sel.length),(43,.int k)],[(2,quX false g),(3,cfgC false c)],[],[]⟩) c.sel.length ?_ ?_
 ·refine⟨0,oM,oM,fun i hi=>by omega,?_⟩
  exact sC
 rintro m st ⟨k,hk,rfl,hP,rfl⟩
 refine sB ?_
 refine qnY (fun h=>⟨oM,oM,?_⟩) fun h=> ?_
 ·have next : qyx g c k -> ∀ i, i < k + 1 -> qyx g c i := fun hs i hi => by
   by_cases e:i=k
   ·rw[e];exact hs
   ·exact hP i oM
  have hdl:=qxu g hg k
  refine qrz rfl (fun h2=> ?_) fun h2=> ?_<;>simp only[push_cast,reduceIte,zA,zB,zC,zD,zE,zF,zG,reduceCtorEq,zH,zJ,cNI]
  ·refine qrv (qwf g hg k oM) sC ?_
   refine sB ?_
   refine qoM (qwX _ _ _) ?_
   refine sB ?_
   refine qnX (fun h3=> ?_) fun h3=> ?_
   ·have h3: ¬(1<=c.sel.getD k 0/\c.sel.getD k 0<=(qwb g k).length):=qyu h3
    rw[qyB (i:=k) oM (fun hs=>h3 (hs h2))]
   ·have h3:1<=c.sel.getD k 0/\c.sel.getD k 0<=(qwb g k).length:=qyv h3
    refine⟨oM,_,?_,k+1,oM,rfl,next (fun _=>h3),?_⟩
    ·omega
    ·exact sC
  ·refine⟨oM,_,?_,k+1,oM,rfl,next (fun h3=>absurd h3 h2),?_⟩
   ·omega
   ·exact sC
 have hsel: ∀i,i<c.sel.length->qyx g c i:=fun i hi=>hP i oM
 refine qoP (fun m st=> ∃k:Nat,k<=g.kind.length/\m=g.kind.length-k/\(∀i,i<k->qyy g c i)/\st=⟨[(3,.ptr 3 0),(61,.sl false 1 (ints g.kind)),(62,.int g.kind.length),(63,.int k)],[(3,cfgC false c)],[],[]⟩) g.kind.length ?_ ?_
 ·refine⟨0,oM,oM,fun i hi=>by omega,?_⟩
  exact sC
 rintro m st ⟨k,hk,rfl,hP,rfl⟩
 refine sB ?_
 refine qnY (fun h=>⟨oM,oM,?_⟩) fun h=> ?_
 ·refine⟨oM,oM,oM,oM,oM,oM,?_⟩
  refine qoM (qys _ _ _ _) ?_
  refine sB ?_
  refine qnX (fun h3=> ?_) fun h3=> ?_
  ·have h3: ¬qyy g c k:=qyu h3
   rw[qyC (t:=k) oM h3]
  ·have h3:qyy g c k:=qyv h3
   refine⟨oM,_,?_,k+1,oM,rfl,?_,?_⟩
   ·omega
   ·intro i hi
    by_cases e:i=k
    ·rw[e];exact h3
    ·exact hP i oM
   ·exact sC
 ·rw[qyz el hsel fun t ht=>hP t oM]
structure SelsOk (g:Grid) (c:Cfg):Prop where
 len:c.sel.length=(qv2 g).toNat
 sel: ∀i,i<c.sel.length->qyx g c i
theorem qyI{l:List Int}{k:Nat}(h:k<l.length):l.getD k 0∈l:=by simp[h]
theorem qyJ(c d:Cfg)(hc:CfgSm c)(hd:CfgSm d):FnEq Tryz.prog 16 [.agg (cfgC false c),.agg (cfgC false d)] (.bool (decide (c=d))):=by
 have i0:=qy6 c.sel d.sel hc.sel hd.sel
 have i1:=qy6 c.mode d.mode hc.mode hd.mode
 have i2:=qy6 c.tab d.tab hc.tab hd.tab
 have i3:=qy6 c.ram d.ram hc.ram hd.ram
 have hE:c=d ↔ c.sel=d.sel/\c.mode=d.mode/\c.tab=d.tab/\c.ram=d.ram:=by
  cases c;cases d;simp
 refine FnEq.of_awp Tryz.func16 ok16 (by show 2<=_;decide) (by simp only[push_cast,reduceIte,zA,zB,zC,zD,zE,zF,zG,reduceCtorEq,zH,zJ,cNI]<;>first|exact fun _ _=>trivial|simp) ?_
 simp only[ac16,rv16,push_cast,reduceIte,zA,zB,zC,zD,zE,zF,zG,reduceCtorEq,zH,zJ,cNI]
 refine qoM i0 ?_
 refine sB ?_
 refine qrz rfl (fun e1=> ?_) fun e1=> ?_<;>simp only[push_cast,reduceIte,zA,zB,zC,zD,zE,zF,zG,reduceCtorEq,zH,zJ,cNI]
 ·refine qoM i1 ?_
  refine sB ?_
  refine qrz rfl (fun e2=> ?_) fun e2=> ?_<;>simp only[push_cast,reduceIte,zA,zB,zC,zD,zE,zF,zG,reduceCtorEq,zH,zJ,cNI]
  ·refine qoM i2 ?_
   refine sB ?_
   refine qrz rfl (fun e3=> ?_) fun e3=> ?_<;>simp only[push_cast,reduceIte,zA,zB,zC,zD,zE,zF,zG,reduceCtorEq,zH,zJ,cNI]
   ·refine qoM i3 ?_
    refine sB ?_
    simp_all
   ·simp_all
  ·simp_all
 ·simp_all
def desC(q:Bool)(g:Grid)(p:Packed)(l:Layout):List PV:=quX q g++qx2 q p++layC q l
@[push_cast] theorem qyK(q:Bool)(g:Grid)(p:Packed)(l:Layout):desC q g p l=quX q g++qx2 q p++layC q l:=rfl
end Go.Proofs.YtecoaapkcnhlhabGreatDoor
namespace Go.Proofs.YtecoaapkcnhlhabGreatDoor.Txt
open Go Go.Vc
set_option maxRecDepth 100000
def ac22_200w:AC:=
 (.seq (.reg [200,19,200] [
 (aO 201 (.box (.t 200))),(aO 202 (.alc [.nil,.nil,.nil,.nil]))])
 (.seq (.reg [200,19,201,202] [
 (aO 204 (.fa 0 (.t 201))),(aO 205 (.ld false 1 (.t 204))),(aO 206 (.fa 1 (.t 201))),(aO 207 (.ld false 1 (.t 206))),(aO 208 (.ari .mul true .i64 (.t 205) (.t 207))),(aO 203 (.mv (.t 208)))])
 (.seq (.drw [200,19,201,202,203] [
 (eU 209 (.ld true 5 (.t 201)) [] [213,215,217]),(eU 210 (.cal 40 [(.t 209)]) [] [213,215,217]),(eU 211 (.mks 1 3 8 [zI] (.t 210) (.t 210)) [211] [213,215,217]),(eU 212 (.mv (.t 203)) [] [211,215,217]),(eU 213 (.mks 1 3 8 [zI] (.t 212) (.t 212)) [213] [211,215,217]),(eU 214 (.mv (.t 203)) [] [211,213,217]),(eU 215 (.mks 1 3 8 [zI] (.t 214) (.t 214)) [215] [211,213,217]),(eU 216 (.mv (.t 203)) [] [211,213,215]),(eU 217 (.mks 1 3 8 [zI] (.t 216) (.t 216)) [217] [211,213,215]),(eF 218 (.bld [.nil,.nil,.nil,.nil] [(0,1,(.t 211)),(1,1,(.t 213)),(2,1,(.t 215)),(3,1,(.t 217))])),⟨(aN (.sto 4 (.t 202) (.t 218))),[],[],false⟩])
 .ret)))
def rv22_200w:List RV:=[.cell 202 true 4]
theorem ok22_200w:qh6 Tryz.prog 200 ac22_200w rv22_200w Tryz.f22=true:=by kernel_rfl

def ac7w:AC:=
 (.seq (.reg [0,133,0,1] [
 (aO 2 (.box (.t 0))),(aO 4 (.alc [.nil,.nil,.nil,.nil]))])
 (.seq (.reg [0,133,1,2,4] [
 (aO 10 (.ld true 5 (.t 2))),(aO 11 (.clm 22 [(.t 10)])),(aO 5 (.alc [.nil,.nil,.nil,.nil])),(aN (.sto 4 (.t 5) (.t 11)))])
 (.seq (.seq (.reg [0,133,1,2,4,5] [
 (aO 6 (.mv (kI 0)))])
 (.block 0
 (.loop [0,133,1,2,4,5,6]
 (.seq (.seq (.reg [0,133,1,2,4,5,6] [
 (aO 12 (.mv (.t 6))),(aO 13 (.ari .add true .i64 (.t 12) (kI 1))),(aO 14 (.mv (.t 1))),(aO 15 (.len (.t 14))),(aO 16 (.cmp .lss .i64 (.t 13) (.t 15))),(aO 17 (.mv (.t 16))),⟨some 18,some (17,true),.mv (.t 6)⟩,⟨some 19,some (17,true),.cmp .lss .i64 (.t 18) (kI 80)⟩,(aO 20 (.pick (.t 17) (.t 19) (.c (.sc (.bool false)))))])
 (.cut [0,133,1,2,4,5,6,20] (.cond (.t 20)
 .skip
 (.exit 0))))
 (.seq (.block 1
 (.seq (.drw [0,133,1,2,4,5,6] [
 (eT 23 (.mv (.t 6))),(eT 24 (.ari .mul true .i64 (kI 7) (.t 23))),(eT 25 (.mv (.t 1))),(eT 26 (.mv (.t 6))),(eT 27 (.ixs 1 (.t 25) (.t 26))),(eT 28 (.ld false 1 (.t 27))),(eT 29 (.cnv true .i64 (.t 28))),(eT 30 (.ari .add true .i64 (.t 24) (.t 29))),(eT 31 (.fa 0 (.t 5))),(eT 32 (.ld false 1 (.t 31))),(eT 33 (.len (.t 32))),(eF 34 (.dvd .rem true .i64 (.t 30) (.t 33))),(eF 7 (.mv (.t 34)))])
 (.seq (.reg [0,133,1,2,4,5,6,7] [
 (aO 35 (.ld true 5 (.t 2))),(aO 36 (.mv (.t 7))),(aO 37 (.cal 23 [(.t 35),(.t 36)])),(aO 8 (.mv (.t 37)))])
 (.seq (.seq (.reg [0,133,1,2,4,5,6,7,8] [
 (aO 38 (.mv (.t 8))),(aO 39 (.cmp .gtr .i64 (.t 38) (kI 0)))])
 (.cond (.t 39)
 (.drw [0,133,1,2,4,5,6,7,8] [
 (eT 40 (.fa 0 (.t 5))),(eT 41 (.ld false 1 (.t 40))),(eT 42 (.mv (.t 7))),(eT 43 (.mv (.t 1))),(eT 44 (.mv (.t 6))),(eT 45 (.ari .add true .i64 (.t 44) (kI 1))),(eT 46 (.ixs 1 (.t 43) (.t 45))),(eT 47 (.ld false 1 (.t 46))),(eT 48 (.cnv true .i64 (.t 47))),(eT 49 (.mv (.t 8))),(eT 50 (.dvd .rem true .i64 (.t 48) (.t 49))),(eT 51 (.ari .add true .i64 (kI 1) (.t 50))),(eF 52 (.ixs 1 (.t 41) (.t 42))),⟨(aN (.sto 1 (.t 52) (.t 51))),[],[],false⟩])
 .skip))
 (.seq (.drw [0,133,1,2,4,5,6] [
 (eT 53 (.mv (.t 1))),(eT 54 (.mv (.t 6))),(eT 55 (.ixs 1 (.t 53) (.t 54))),(eT 56 (.ld false 1 (.t 55))),(eT 57 (.cnv true .i64 (.t 56))),(eT 58 (.fa 0 (.t 2))),(eT 59 (.ld false 1 (.t 58))),(eT 60 (.fa 1 (.t 2))),(eT 61 (.ld false 1 (.t 60))),(eT 62 (.ari .mul true .i64 (.t 59) (.t 61))),(eF 63 (.dvd .rem true .i64 (.t 57) (.t 62))),(eF 9 (.mv (.t 63)))])
 (.block 2
 (.seq (.reg [0,133,1,2,4,5,6,9] [
 (aO 65 (.fa 4 (.t 2))),(aO 66 (.ld false 1 (.t 65))),(aO 67 (.mv (.t 9))),(aO 68 (.ixs 1 (.t 66) (.t 67))),(aO 69 (.ld false 1 (.t 68))),(aO 70 (.cmp .eql .i64 (.t 69) (kI 0))),(aO 64 (.mv (.t 70)))])
 (.cond (.t 64)
 .skip
 (.seq (.reg [0,133,1,2,4,5,6,9] [
 (aO 72 (.mv (.t 1))),(aO 73 (.mv (.t 6))),(aO 74 (.ari .add true .i64 (.t 73) (kI 1))),(aO 75 (.ixs 1 (.t 72) (.t 74))),(aO 76 (.ld false 1 (.t 75))),(aO 77 (.dvd .rem true .u8 (.t 76) (.c (.sc (.int .u8 3))))),(aO 78 (.cmp .eql .u8 (.t 77) (.c (.sc (.int .u8 0))))),(aO 71 (.mv (.t 78)))])
 (.cond (.t 71)
 (.seq (.reg [0,133,1,2,4,5,6,9] [
 (aO 79 (.fa 1 (.t 5))),(aO 80 (.ld false 1 (.t 79))),(aO 81 (.mv (.t 9))),(aO 82 (.ixs 1 (.t 80) (.t 81))),(aN (.sto 1 (.t 82) (kI 1)))])
 (.seq (.drw [0,133,1,2,4,5,6,9] [
 (eT 83 (.fa 2 (.t 5))),(eT 84 (.ld false 1 (.t 83))),(eT 85 (.mv (.t 9))),(eT 86 (.mv (.t 1))),(eT 87 (.mv (.t 6))),(eT 88 (.ari .add true .i64 (.t 87) (kI 1))),(eT 89 (.ixs 1 (.t 86) (.t 88))),(eT 90 (.ld false 1 (.t 89))),(eT 91 (.cnv true .i64 (.t 90))),(eT 92 (.ari .mul true .i64 (kI 100) (.t 91))),(eF 93 (.ixs 1 (.t 84) (.t 85))),⟨(aN (.sto 1 (.t 93) (.t 92))),[],[],false⟩])
 (.reg [0,133,1,2,4,5,6,9] [
 (aO 94 (.fa 3 (.t 5))),(aO 95 (.ld false 1 (.t 94))),(aO 96 (.mv (.t 9))),(aO 97 (.ixs 1 (.t 95) (.t 96))),(aN (.sto 1 (.t 97) (kI 0)))])))
 (.seq (.reg [0,133,1,2,4,5,6,9] [
 (aO 99 (.mv (.t 1))),(aO 100 (.mv (.t 6))),(aO 101 (.ari .add true .i64 (.t 100) (kI 1))),(aO 102 (.ixs 1 (.t 99) (.t 101))),(aO 103 (.ld false 1 (.t 102))),(aO 104 (.dvd .rem true .u8 (.t 103) (.c (.sc (.int .u8 3))))),(aO 105 (.cmp .eql .u8 (.t 104) (.c (.sc (.int .u8 1))))),(aO 98 (.mv (.t 105)))])
 (.cond (.t 98)
 (.seq (.reg [0,133,1,2,4,5,6,9] [
 (aO 106 (.fa 1 (.t 5))),(aO 107 (.ld false 1 (.t 106))),(aO 108 (.mv (.t 9))),(aO 109 (.ixs 1 (.t 107) (.t 108))),(aN (.sto 1 (.t 109) (kI 2)))])
 (.seq (.drw [0,133,1,2,4,5,6,9] [
 (eT 110 (.fa 2 (.t 5))),(eT 111 (.ld false 1 (.t 110))),(eT 112 (.mv (.t 9))),(eT 113 (.mv (.t 1))),(eT 114 (.mv (.t 6))),(eT 115 (.ari .add true .i64 (.t 114) (kI 1))),(eT 116 (.ixs 1 (.t 113) (.t 115))),(eT 117 (.ld false 1 (.t 116))),(eT 118 (.cnv true .i64 (.t 117))),(eT 119 (.ari .mul true .i64 (kI 100) (.t 118))),(eF 120 (.ixs 1 (.t 111) (.t 112))),⟨(aN (.sto 1 (.t 120) (.t 119))),[],[],false⟩])
 (.drw [0,133,1,2,4,5,6,9] [
 (eT 121 (.fa 3 (.t 5))),(eT 122 (.ld false 1 (.t 121))),(eT 123 (.mv (.t 9))),(eT 124 (.mv (.t 1))),(eT 125 (.mv (.t 6))),(eT 126 (.ari .add true .i64 (.t 125) (kI 1))),(eT 127 (.ixs 1 (.t 124) (.t 126))),(eT 128 (.ld false 1 (.t 127))),(eT 129 (.dvd .quo true .u8 (.t 128) (.c (.sc (.int .u8 3))))),(eT 130 (.cnv true .i64 (.t 129))),(eF 131 (.ixs 1 (.t 122) (.t 123))),⟨(aN (.sto 1 (.t 131) (.t 130))),[],[],false⟩])))
 .skip))))))))))))
 (.reg [0,133,1,2,4,5,6] [
 (aO 21 (.mv (.t 6))),(aO 22 (.ari .add true .i64 (.t 21) (kI 2))),(aO 6 (.mv (.t 22)))]))))))
 (.seq (.reg [0,133,4,5] [
 (aO 132 (.ld true 4 (.t 5))),(aN (.sto 4 (.t 4) (.t 132)))])
 .ret))))
def rv7w:List RV:=[.cell 4 true 4]
theorem ok7w:fnOk Tryz.prog ac7w rv7w Tryz.f7=true:=by kernel_rfl
end Go.Proofs.YtecoaapkcnhlhabGreatDoor.Txt
namespace Go.Proofs.YtecoaapkcnhlhabGreatDoor
open Go Go.Vc Txt
theorem qyM{α:Type}(f:Nat->α)(k:Nat):(List.range (k+1)).map f=(List.range k).map f++[f k]:=by simp[List.range_succ]
def qyN(l:List Int)(i:Nat):Int:=if i<l.length/\l.getD i default%8<2 then l.getD i default%8 else 2
def qyO(n:Nat)(l:List Int):List Int:=(List.range n).map (qyN l)
theorem qyP (n : Nat) (hn : (n : Int) <= 1000000) (l : List Int) (hl : (l.length : Int) <= 9223372036854775807) (hb : ∀ x ∈ l, 0 <= x /\ x <= 255) :
  FnEq Tryz.prog 21 [.int n,.sl false 1 (qkf l)] (.sl true 1 (ints (qyO n l))):=by
 refine FnEq.of_awp Tryz.func21 ok21 (by show 2<=_;decide) (by simp only[push_cast,reduceIte,zA,zB,zC,zD,zE,zF,zG,reduceCtorEq,zH,zJ,cNI]<;>first|exact fun _ _=>trivial|simp) ?_
 simp only[ac21,rv21,push_cast,reduceIte,zA,zB,zC,zD,zE,zF,zG,reduceCtorEq,zH,zJ,cNI]
 refine qoP (fun m st=> ∃k:Nat,k<=n/\m=n-k/\
  st=⟨[(0,.int n),(1,.sl false 1 (qkf l)),(5,.view 8 0 k),(6,.int k)],[],[(8,⟨1,3,ints ((List.range k).map (qyN l))⟩)],[]⟩) n ?_ ?_
 ·refine⟨0,oM,oM,?_⟩
  refine sB ?_
  rfl
 ·rintro m st ⟨k,hk,rfl,rfl⟩
  refine sB ?_
  have hlen:((List.range k).map (qyN l)).length=k:=by simp
  have hsucc:=qyM (qyN l) k
  refine qnY (fun h=> ?_) fun h=> ?_
  ·refine qrH ⟨[(0,.int n),(1,.sl false 1 (qkf l)),(5,.view 8 0 k),(6,.int k),(7,.int 2),(25,.bool (decide (k<l.length/\l.getD k default%8<2)))],[],[(8,⟨1,3,ints ((List.range k).map (qyN l))⟩)],[]⟩ ?_ ?_
   ·refine qrz rfl (fun h1=> ?_) fun h1=> ?_<;>simp only[push_cast,reduceIte,zA,zB,zC,zD,zE,zF,zG,reduceCtorEq,zH,zJ,cNI]
    ·have h1' :k<l.length:=by omega
     have hx:=hb _ (show l.getD k default∈l by simp[zK,h1'])
     refine⟨⟨oM,oM⟩,h1',⟨oM,oM,oM⟩,?_⟩
     rw[show decide (k<l.length/\l.getD k default%8<2)=decide (l.getD k default%8<2)from by rw[decide_eq_decide];omega]
    ·have h1' : ¬k<l.length:=by omega
     simp[h1']
   refine sB ?_
   refine qnY (fun h1=> ?_) fun h1=> ?_
   ·have hx:=hb _ (show l.getD k default∈l by simp[zK,h1.1])
    have hf:qyN l k=l.getD k default%8:=by rw[qyN,if_pos h1]
    rw[hf]at hsucc
    refine⟨⟨oM,oM⟩,h1.1,⟨oM,oM,oM⟩,⟨oM,oM⟩,by simp,⟨hlen.symm,oM,oM⟩,⟨oM,oM⟩,_,?_,k+1,oM,rfl,?_⟩
    ·omega
    ·rw[hsucc];simp
   ·have hf:qyN l k=2:=by rw[qyN,if_neg h1]
    rw[hf]at hsucc
    refine⟨by simp,⟨hlen.symm,oM,oM⟩,⟨oM,oM⟩,_,?_,k+1,oM,rfl,?_⟩
    ·omega
    ·rw[hsucc];simp
  ·have hkk:k=n:=by omega
   subst hkk
   rw[zY oM]
   exact⟨fun _ _=>trivial,.refl _⟩
structure RawG where
 w:Int
 h:Int
 tracks:Int
 pads:Int
 kind:List Int
def qyQ(q:Bool)(x:RawG):List PV:=[.sc (.int .u8 x.w),.sc (.int .u8 x.h),.sc (.int .u8 x.tracks),.sc (.int .u8 x.pads),.sl q 1 (qkf x.kind)]
@[push_cast] theorem qyR(q:Bool)(x:RawG):qyQ q x=[.sc (.int .u8 x.w),.sc (.int .u8 x.h),.sc (.int .u8 x.tracks),.sc (.int .u8 x.pads),.sl q 1 (qkf x.kind)]:=rfl
structure RawG.Ok (x:RawG):Prop where
 w:0<=x.w/\x.w<=255
 h:0<=x.h/\x.h<=255
 tracks:0<=x.tracks/\x.tracks<=255
 pads:0<=x.pads/\x.pads<=255
 len:(x.kind.length:Int)<=9223372036854775807
 kind: ∀k∈x.kind,0<=k/\k<=255
def qyS(x:RawG):Grid:=⟨2+x.w%4,2+x.h%4,2+x.tracks%3,24,qyO ((2+x.w%4)*(2+x.h%4)).toNat x.kind⟩
theorem qyT(x:RawG)(hx:x.Ok):FnEq Tryz.prog 6 [.agg (qyQ false x)] (.agg (quX true (qyS x))):=by
 refine FnEq.of_awp Tryz.func6 ok6 (by show 1<=_;decide) (by simp only[push_cast,reduceIte,zA,zB,zC,zD,zE,zF,zG,reduceCtorEq,zH,zJ,cNI]<;>first|exact fun _ _=>trivial|simp) ?_
 simp only[ac6,rv6,push_cast,reduceIte,zA,zB,zC,zD,zE,zF,zG,reduceCtorEq,zH,zJ,cNI]
 obtain⟨h1,h2,h3,h4,h5,h6⟩:=hx
 have hm:0<=(2+x.w%4)*(2+x.h%4)/\(2+x.w%4)*(2+x.h%4)<=5*5:=⟨Int.mul_nonneg oM oM,Int.mul_le_mul oM oM oM oM⟩
 obtain⟨n,hn⟩: ∃n:Nat,(2+x.w%4)*(2+x.h%4)=n:=⟨((2+x.w%4)*(2+x.h%4)).toNat,oM⟩
 have hg:qyS x=⟨2+x.w%4,2+x.h%4,2+x.tracks%3,24,qyO n x.kind⟩:=by unfold qyS;rw[hn,Int.toNat_natCast]
 rw[hn]at hm ⊢
 rw[hg]
 refine⟨⟨oM,oM,oM⟩,⟨oM,oM⟩,⟨oM,oM⟩,⟨oM,oM,oM⟩,⟨oM,oM⟩,⟨oM,oM⟩,⟨oM,oM,oM⟩,⟨oM,oM⟩,⟨oM,oM⟩,⟨oM,oM⟩,?_⟩
 refine qrv (qyP n oM x.kind h5 h6) sC ?_
 refine sB ?_
 exact fun _ _=>trivial
theorem qyU(x:RawG):GOk (qyS x)/\(qyS x).pads=24:=by
 have hm:0<=(2+x.w%4)*(2+x.h%4):=Int.mul_nonneg oM oM
 refine⟨⟨?_,?_,?_,?_,?_⟩,rfl⟩<;>simp only[qyS,qyO,yG,List.length_range]<;>omega
def wilA(c:Cfg):List (Nat×Arr):=[(211,⟨1,3,ints c.sel⟩),(213,⟨1,3,ints c.mode⟩),(215,⟨1,3,ints c.tab⟩),(217,⟨1,3,ints c.ram⟩)]
def wilV(c:Cfg):List PV:=[.view 211 0 c.sel.length,.view 213 0 c.mode.length,.view 215 0 c.tab.length,.view 217 0 c.ram.length]
def wilS(l:List Int)(g:Grid):St:=⟨[(1,.sl false 1 (qkf l)),(2,.ptr 2 0),(4,.ptr 4 0),(10,.agg (quX false g))],[(2,quX false g),(4,[.nil,.nil,.nil,.nil])],[],[]⟩
theorem qyV(l:List Int)(g:Grid)(hg:GOk g):FnM (Env.of Tryz.prog) 22 [.agg (quX false g)] (wilS l g) (fun v st' =>v= .agg (wilV (qxc g))/\st' = { wilS l g with a:=wilA (qxc g) }):=by
 have h1:=hg.count
 have h2:=hg.wh
 have h3:=hg.kind
 refine FnM.dropB 201 (FnM.dropB 202 ?_)
 simp only[wilS,push_cast,reduceIte,zA,zB,zC,zD,zE,zF,zG,reduceCtorEq,zH,zJ,cNI]
 refine quf 200 Tryz.func22 ok22_200w (by show 1<=_;decide) rfl (by decide) ?_
 simp only[ac22_200w,rv22_200w,push_cast,reduceIte,zA,zB,zC,zD,zE,zF,zG,reduceCtorEq,zH,zJ,cNI]
 refine⟨oM,?_⟩
 refine qrx (qv7 g hg) sC rfl ?_
 refine sB ?_
 refine⟨oM,oM,oM,oM,?_,?_⟩
 ·simp[wilV,qxc]
  omega
 ·rw[show(g.w*g.h).toNat=g.kind.length by omega]
  simp only[wilA,qxc,List.length_replicate,push_cast,reduceIte,zA,zB,zC,zD,zE,zF,zG,reduceCtorEq,zH,zJ,cNI]
def selW(g:Grid)(c:Cfg)(n b:Int):Cfg:=if 0<((qwb g n).length:Int)then { c with sel:=c.sel.set n.toNat (1+b%((qwb g n).length:Int)) } else c
def qyW(g:Grid)(c:Cfg)(t:Nat)(b:Int):Cfg:=
 if g.kind.getD t 0=0 then c else if b%3=0 then { c with mode:=c.mode.set t 1,tab:=c.tab.set t (100*b),ram:=c.ram.set t 0 }
 else if b%3=1 then { c with mode:=c.mode.set t 2,tab:=c.tab.set t (100*b),ram:=c.ram.set t (b/3) } else c
def qyX(g:Grid)(l:List Int)(c:Cfg)(i:Nat):Cfg:=
 qyW g (selW g c ((7*(i:Int)+l.getD i 0)%(c.sel.length:Int)) (l.getD (i+1) 0)) (l.getD i 0%(g.w*g.h)).toNat (l.getD (i+1) 0)
def qyY(g:Grid)(l:List Int):Nat->Cfg
 |0=>qxc g
 |j+1=>qyX g l (qyY g l j) (2*j)
def qyZ(g:Grid)(l:List Int):Cfg:=qyY g l (min (l.length/2) 40)
def CfgLn(g:Grid)(c:Cfg):Prop:=c.sel.length=(qv2 g).toNat/\c.mode.length=g.kind.length/\c.tab.length=g.kind.length/\c.ram.length=g.kind.length
theorem qz0{g:Grid}{c:Cfg}{n b:Int}(h:CfgLn g c):CfgLn g (selW g c n b):=by
 obtain⟨h1,h2,h3,h4⟩:=h
 unfold selW
 split<;>refine⟨?_,?_,?_,?_⟩<;>simp[*]
theorem qz1{g:Grid}{c:Cfg}{t:Nat}{b:Int}(h:CfgLn g c):CfgLn g (qyW g c t b):=by
 obtain⟨h1,h2,h3,h4⟩:=h
 unfold qyW
 split
 ·exact⟨h1,h2,h3,h4⟩
 ·split
  ·refine⟨?_,?_,?_,?_⟩<;>simp[*]
  ·split
   ·refine⟨?_,?_,?_,?_⟩<;>simp[*]
   ·exact⟨h1,h2,h3,h4⟩
theorem qz2{g:Grid}{l:List Int}{c:Cfg}{i:Nat}(h:CfgLn g c):CfgLn g (qyX g l c i):=qz1 (qz0 h)
theorem qz3(g:Grid)(l:List Int): ∀j,CfgLn g (qyY g l j)
 |0=>by refine⟨?_,?_,?_,?_⟩<;>simp[qyY,qxc]
 |j+1=>qz2 (qz3 g l j)
set_option maxHeartbeats 4000000 in
theorem qz4(g:Grid)(hg:GOk g)(l:List Int)(hl:(l.length:Int)<=9223372036854775807)(hb: ∀x∈l,0<=x/\x<=255):FnEq Tryz.prog 7 [.agg (quX false g),.sl false 1 (qkf l)] (.agg (cfgC true (qyZ g l))):=by
 have h1:=hg.count
 have h2:=hg.wh
 have h3:=hg.kind
 refine FnEq.of_awp Tryz.func7 ok7w (by show 2<=_;decide) (by simp only[push_cast,reduceIte,zA,zB,zC,zD,zE,zF,zG,reduceCtorEq,zH,zJ,cNI]<;>first|exact fun _ _=>trivial|simp) ?_
 simp only[ac7w,rv7w,push_cast,reduceIte,zA,zB,zC,zD,zE,zF,zG,reduceCtorEq,zH,zJ,cNI]
 refine qsP (qyV l g hg) ?_
 simp only[wilV,wilA,wilS,push_cast,reduceIte,zA,zB,zC,zD,zE,zF,zG,reduceCtorEq,zH,zJ,cNI]
 refine qoP (fun m st=> ∃j:Nat,j<=min (l.length/2) 40/\m=min (l.length/2) 40-j/\st=⟨[(1,.sl false 1 (qkf l)),(2,.ptr 2 0),(4,.ptr 4 0),(5,.ptr 5 0),(6,.int (2*(j:Int)))],[(2,quX false g),(4,[.nil,.nil,.nil,.nil]),(5,wilV (qyY g l j))],wilA (qyY g l j),[]⟩) (min (l.length/2) 40) ?_ ?_
 ·refine⟨0,oM,oM,?_⟩
  simp only[wilV,wilA,qyY,Int.mul_zero,push_cast,reduceIte,zA,zB,zC,zD,zE,zF,zG,reduceCtorEq,zH,zJ,cNI]
 rintro m st ⟨j,hj,rfl,rfl⟩
 obtain⟨q1,q2,q3,q4⟩:=qz3 g l j
 have e0: ∀(l:List Int) (j:Nat),l.getD j default=l.getD j 0:=fun _ _=>rfl
 have hst:qyY g l (j+1)=qyX g l (qyY g l j) (2*j):=rfl
 have hcast:((2*j:Nat):Int)=2*(j:Int):=by omega
 have hF:qyZ g l=qyY g l (min (l.length/2) 40):=rfl
 have hba:0<=l.getD (2*j) 0/\l.getD (2*j) 0<=255:=by
  by_cases h:2*j<l.length
  ·exact hb _ (qyI h)
  ·rw[zK,List.getElem?_eq_none oM];decide
 have hbb:0<=l.getD (2*j+1) 0/\l.getD (2*j+1) 0<=255:=by
  by_cases h:2*j+1<l.length
  ·exact hb _ (qyI h)
  ·rw[zK,List.getElem?_eq_none oM];decide
 simp only[wilV,wilA,push_cast,reduceIte,zA,zB,zC,zD,zE,zF,zG,reduceCtorEq,zH,zJ,cNI]
 refine⟨oM,?_⟩
 obtain⟨B,hB⟩: ∃B,B=decide (2*j+1<l.length/\2*j<80):=⟨_,rfl⟩
 refine qrH ⟨[(1,.sl false 1 (qkf l)),(2,.ptr 2 0),(4,.ptr 4 0),(5,.ptr 5 0),(6,.int (2*j)),(20,.bool B)],[(2,quX false g),(4,[.nil,.nil,.nil,.nil]),(5,wilV (qyY g l j))],wilA (qyY g l j),[]⟩ ?_ ?_
 ·refine qrz rfl (fun e1=> ?_) fun e1=> ?_<;>simp only[push_cast,reduceIte,zA,zB,zC,zD,zE,zF,zG,reduceCtorEq,zH,zJ,cNI]
  ·rw[show B=decide (2*(j:Int)<80)from by rw[hB,decide_eq_decide];omega]
   simp only[wilV,wilA,push_cast,reduceIte,zA,zB,zC,zD,zE,zF,zG,reduceCtorEq,zH,zJ,cNI]
  ·rw[show B=false from by rw[hB];exact decide_eq_false oM]
   simp only[wilV,wilA,push_cast,reduceIte,zA,zB,zC,zD,zE,zF,zG,reduceCtorEq,zH,zJ,cNI]
 simp only[wilV,wilA,push_cast,reduceIte,zA,zB,zC,zD,zE,zF,zG,reduceCtorEq,zH,zJ,cNI]
 refine qnX (fun e=> ?_) fun e=> ?_
 rotate_left
 ·rw[hB,decide_eq_false_iff_not]at e
  rw[hF,show min (l.length/2) 40=j by omega]
  exact⟨⟨fun _ _=>trivial,fun _ _=>trivial,fun _ _=>trivial,fun _ _=>trivial⟩,.refl _,.refl _,.refl _,.refl _⟩
 rw[hB,decide_eq_true_eq]at e
 obtain⟨e1,e2⟩:=e
 generalize qyY g l j=c at *
 have ht:(2*(j:Int)).toNat=2*j:=by omega
 have ht1:(2*(j:Int)+1).toNat=2*j+1:=by omega
 have hm:(0<=l.getD (2*j) 0%(g.w*g.h)/\l.getD (2*j) 0%(g.w*g.h)<g.w*g.h):=⟨Int.emod_nonneg _ oM,Int.emod_lt_of_pos _ oM⟩
 rw[qyX,hcast]at hst
 have hn0:0<=(7*(2*(j:Int))+l.getD (2*j) 0)%(c.sel.length:Int)/\(7*(2*(j:Int))+l.getD (2*j) 0)%(c.sel.length:Int)<c.sel.length:=⟨Int.emod_nonneg _ oM,Int.emod_lt_of_pos _ oM⟩
 simp only[e0,ht,ht1,push_cast,reduceIte,zA,zB,zC,zD,zE,zF,zG,reduceCtorEq,zH,zJ,cNI]
 generalize hA:l.getD (2*j) 0=a at *
 generalize hC:l.getD (2*j+1) 0=b at *
 refine⟨oM,oM,oM,oM,oM,oM,?_⟩
 generalize (7*(2*(j:Int))+a)%(c.sel.length:Int)=n at *
 refine qoM (qy9 g hg n oM) ?_
 simp only[e0,ht,ht1,hA,hC,push_cast,reduceIte,zA,zB,zC,zD,zE,zF,zG,reduceCtorEq,zH,zJ,cNI]
 have hdl:=qxu g hg n
 rw[selW]at hst
 generalize (qwb g n).length=k at *
 generalize g.w*g.h=wh at *
 generalize a%wh=t at *
 have next:2*((j:Int)+1)=2*(j:Int)+2:=by omega
 refine qnY (fun hk=> ?_) fun hk=> ?_
 ·rw[if_pos hk]at hst
  have hbk:0<=b%(k:Int)/\b%(k:Int)<k:=⟨Int.emod_nonneg _ oM,Int.emod_lt_of_pos _ oM⟩
  refine⟨oM,oM,oM,oM,oM,oM,oM,oM,oM,oM,oM,oM,oM,oM,oM,?_⟩
  refine qnY (fun h0=> ?_) fun h0=> ?_
  ·refine⟨oM,_,?_,j+1,oM,rfl,?_⟩
   ·omega
   ·rw[hst,qyW,if_pos h0]
    simp only[wilV,wilA,yF,push_cast,reduceIte,zA,zB,zC,zD,zE,zF,zG,reduceCtorEq,zH,zJ,cNI]
    rw[next]
  refine⟨oM,oM,oM,oM,qnY (fun h4=> ?_) fun h4=> ?_⟩
  ·refine⟨oM,oM,oM,oM,oM,oM,oM,oM,oM,oM,oM,?_⟩
   refine⟨oM,_,?_,j+1,oM,rfl,?_⟩
   ·omega
   ·rw[hst,qyW,if_neg h0,if_pos h4]
    simp only[wilV,wilA,yF,push_cast,reduceIte,zA,zB,zC,zD,zE,zF,zG,reduceCtorEq,zH,zJ,cNI]
    rw[next]
  refine⟨oM,oM,oM,oM,qnY (fun h5=> ?_) fun h5=> ?_⟩
  ·refine⟨oM,oM,oM,oM,oM,oM,oM,oM,oM,oM,oM,oM,oM,oM,oM,oM,?_⟩
   refine⟨oM,_,?_,j+1,oM,rfl,?_⟩
   ·omega
   ·rw[hst,qyW,if_neg h0,if_neg h4,if_pos h5]
    simp only[wilV,wilA,yF,push_cast,reduceIte,zA,zB,zC,zD,zE,zF,zG,reduceCtorEq,zH,zJ,cNI]
    rw[next]
  ·refine⟨oM,_,?_,j+1,oM,rfl,?_⟩
   ·omega
   ·rw[hst,qyW,if_neg h0,if_neg h4,if_neg h5]
    simp only[wilV,wilA,yF,push_cast,reduceIte,zA,zB,zC,zD,zE,zF,zG,reduceCtorEq,zH,zJ,cNI]
    rw[next]
 ·rw[if_neg hk]at hst
  refine⟨oM,oM,oM,oM,oM,oM,oM,?_⟩
  refine qnY (fun h0=> ?_) fun h0=> ?_
  ·refine⟨oM,_,?_,j+1,oM,rfl,?_⟩
   ·omega
   ·rw[hst,qyW,if_pos h0]
    simp only[wilV,wilA,yF,push_cast,reduceIte,zA,zB,zC,zD,zE,zF,zG,reduceCtorEq,zH,zJ,cNI]
    rw[next]
  refine⟨oM,oM,oM,oM,qnY (fun h4=> ?_) fun h4=> ?_⟩
  ·refine⟨oM,oM,oM,oM,oM,oM,oM,oM,oM,oM,oM,?_⟩
   refine⟨oM,_,?_,j+1,oM,rfl,?_⟩
   ·omega
   ·rw[hst,qyW,if_neg h0,if_pos h4]
    simp only[wilV,wilA,yF,push_cast,reduceIte,zA,zB,zC,zD,zE,zF,zG,reduceCtorEq,zH,zJ,cNI]
    rw[next]
  refine⟨oM,oM,oM,oM,qnY (fun h5=> ?_) fun h5=> ?_⟩
  ·refine⟨oM,oM,oM,oM,oM,oM,oM,oM,oM,oM,oM,oM,oM,oM,oM,oM,?_⟩
   refine⟨oM,_,?_,j+1,oM,rfl,?_⟩
   ·omega
   ·rw[hst,qyW,if_neg h0,if_neg h4,if_pos h5]
    simp only[wilV,wilA,yF,push_cast,reduceIte,zA,zB,zC,zD,zE,zF,zG,reduceCtorEq,zH,zJ,cNI]
    rw[next]
  ·refine⟨oM,_,?_,j+1,oM,rfl,?_⟩
   ·omega
   ·rw[hst,qyW,if_neg h0,if_neg h4,if_neg h5]
    simp only[wilV,wilA,yF,push_cast,reduceIte,zA,zB,zC,zD,zE,zF,zG,reduceCtorEq,zH,zJ,cNI]
    rw[next]
theorem qz5(l:List Int)(i j:Nat)(v:Int):(l.set i v).getD j 0=if i=j/\i<l.length then v else l.getD j 0:=by
 rw[zK,List.getElem?_set,zK]
 by_cases h:i=j
 ·subst h
  by_cases h2:i<l.length<;>simp[h2]
 ·simp[h]
theorem qz6{g:Grid}{c:Cfg}{n b:Int}(hn:0<=n)(h: ∀i,i<c.sel.length->qyx g c i): ∀i,i<c.sel.length->qyx g (selW g c n b) i:=by
 intro i hi
 unfold selW
 split
 ·rename_i hk
  have hbk:0<=b%((qwb g n).length:Int)/\b%((qwb g n).length:Int)<((qwb g n).length:Int):=⟨Int.emod_nonneg _ oM,Int.emod_lt_of_pos _ oM⟩
  unfold qyx
  simp only
  rw[qz5]
  by_cases e:n.toNat=i/\n.toNat<c.sel.length
  ·rw[if_pos e]
   intro _
   rw[show((i:Nat):Int)=n by omega]
   omega
  ·rw[if_neg e]
   exact h i hi
 ·exact h i hi
theorem qz7(g:Grid)(c:Cfg)(t:Nat)(b:Int):(qyW g c t b).sel=c.sel:=by
 unfold qyW
 split
 ·rfl
 ·split
  ·rfl
  ·split<;>rfl
theorem qz8{g:Grid}(hg:GOk g)(l:List Int): ∀j,∀i,i<(qyY g l j).sel.length->qyx g (qyY g l j) i
 |0=>fun i hi h=>absurd (by simp[qyY,qxc,List.getElem?_replicate]at hi ⊢;split<;>rfl) h
 | j + 1 => fun i hi => by
   have h1:=hg.count
   have h2:=(qz3 g l j).1
   have h3:=(qz3 g l (j+1)).1
   have hn:=Int.emod_nonneg (7*((2*j:Nat):Int)+l.getD (2*j) 0) (show((qyY g l j).sel.length:Int)≠0 by omega)
   have:=qz6 (b:=l.getD (2*j+1) 0) hn (qz8 hg l j) i oM
   unfold qyx at this ⊢
   show(qyW _ _ _ _).sel.getD _ _≠0->_
   rw[qz7]
   intro h4
   show 1<=(qyW _ _ _ _).sel.getD _ _/\(qyW _ _ _ _).sel.getD _ _<=_
   rw[qz7]
   exact this h4
theorem qz9{g:Grid}(hg:GOk g)(l:List Int):SelsOk g (qyZ g l):=⟨(qz3 g l _).1,qz8 hg l _⟩
structure RawG.By (x:RawG):Prop where
 w:0<=x.w/\x.w<=255
 h:0<=x.h/\x.h<=255
 tracks:0<=x.tracks/\x.tracks<=255
 pads:0<=x.pads/\x.pads<=255
 len:(x.kind.length:Int)<=9223372036854775807
 kind: ∀k∈x.kind,0<=k/\k<=255
theorem RawG.By.ok{x:RawG}(h:x.By):x.Ok:=⟨h.w,h.h,h.tracks,h.pads,h.len,h.kind⟩
def qzp(l:List Int):List PV:=l.map fun n=> .sc (.int .u8 n)
def qzq:List Ty:=[.i .u8,.i .u8,.i .u8,.i .u8,.sl 1 [.i .u8]]
theorem qzr{a:List PV}(h:RowV [] a):a=[]:=List.length_eq_zero_iff.1 h.1
theorem qmu{t:Ty}{ts:List Ty}{a:List PV}(h:RowV (t::ts) a): ∃c r,a=c::r/\qrM t c/\RowV ts r:=by
 obtain⟨h1,h2⟩:=h
 cases a with
 |nil=>cases h1
 |cons c r=>exact⟨c,r,rfl,h2 0 t c rfl rfl,by simpa using h1,fun j t' c' ht hc=>h2 (j+1) t' c' ht hc⟩
theorem qzs{k:IntKind}{c:PV}(h:qrM (.i k) c): ∃n:Int,c= .sc (.int k n)/\k.min<=n/\n<=k.max:=by
 cases h with|i k n h1 h2=>exact⟨n,rfl,h1,h2⟩
theorem qzt{c:PV}(h:qrM (.i .u8) c): ∃n:Int,c= .sc (.int .u8 n)/\0<=n/\n<=255:=by
 obtain⟨n,h1,h2,h3⟩:=qzs h
 exact⟨n,h1,h2,h3⟩
theorem qzv{es:Nat}{ts:List Ty}{c:PV}(h:qrM (.sl es ts) c): ∃rs:List (List PV),c= .sl true es rs/\rs.length<=maxLen/\ ∀r∈rs,RowV ts r:=by
 cases h with|sl es ts rs h1 h2 h3=>exact⟨rs,rfl,h1,fun r hr=>⟨h2 r hr,h3 r hr⟩⟩
theorem qzw{α:Type}{f:α->List PV}{Q:α->Prop} : ∀ {rs:List (List PV)},(∀r∈rs,∃x,r=f x/\Q x)-> ∃l:List α,rs=rows f l/\ ∀x∈l,Q x
 |[],_=>⟨[],rfl,fun x hx=>by cases hx⟩
 | r :: rs, h => by
   obtain⟨x,rfl,hx⟩:=h r (by simp)
   obtain⟨l,rfl,hl⟩:=qzw (f:=f) (Q:=Q) (rs:=rs) fun r hr=>h r (by simp[hr])
   refine⟨x::l,rfl,fun y hy=> ?_⟩
   rcases List.mem_cons.1 hy with rfl|hy
   ·exact hx
   ·exact hl y hy
theorem qzx{c:PV}(h:qrM (.sl 1 [.i .u8]) c): ∃l:List Int,c= .sl true 1 (qkf l)/\(l.length:Int)<=9223372036854775807/\ ∀b∈l,0<=b/\b<=255:=by
 obtain⟨rs,rfl,h1,h2⟩:=qzv h
 obtain⟨l,rfl,hl⟩:=qzw (f:=fun x:Int=>[PV.sc (.int .u8 x)]) (Q:=fun b=>0<=b/\b<=255) (rs:=rs) fun r hr=>by
  obtain⟨c,q,rfl,hc,h3⟩:=qmu (h2 r hr)
  obtain⟨n,rfl,hn⟩:=qzt hc
  rw[qzr h3]
  exact⟨n,rfl,hn⟩
 simp only[rows,yG]at h1
 have:maxLen=9223372036854775807:=rfl
 exact⟨l,rfl,oM,hl⟩
theorem qzz: ∀ {n:Nat} {a:List PV},RowV (List.replicate n (.i .u8)) a-> ∃l:List Int,a=qzp l/\l.length=n/\ ∀b∈l,0<=b/\b<=255
 |0,a,h=>⟨[],by rw[qzr h];rfl,rfl,fun b hb=>by cases hb⟩
 | n + 1, a, h => by
   obtain⟨c,q,rfl,hc,h3⟩:=qmu h
   obtain⟨x,rfl,hx⟩:=qzt hc
   obtain⟨l,rfl,h1,h2⟩:=qzz (n:=n) h3
   refine⟨x::l,rfl,by simp[h1],fun y hy=> ?_⟩
   rcases List.mem_cons.1 hy with rfl|hy
   ·exact hx
   ·exact h2 y hy
theorem qzA{a:List PV}(h:RowV qzq a): ∃x:RawG,x.By/\a=qyQ true x:=by
 obtain⟨c0,a0,rfl,h0,k0⟩:=qmu h
 obtain⟨c1,a1,rfl,h1,k1⟩:=qmu k0
 obtain⟨c2,a2,rfl,h2,k2⟩:=qmu k1
 obtain⟨c3,a3,rfl,h3,k3⟩:=qmu k2
 obtain⟨c4,a4,rfl,h4,k4⟩:=qmu k3
 obtain⟨n0,rfl,b0⟩:=qzt h0
 obtain⟨n1,rfl,b1⟩:=qzt h1
 obtain⟨n2,rfl,b2⟩:=qzt h2
 obtain⟨n3,rfl,b3⟩:=qzt h3
 obtain⟨l,rfl,hn,hl⟩:=qzx h4
 rw[qzr k4]
 exact⟨⟨n0,n1,n2,n3,l⟩,⟨b0,b1,b2,b3,hn,hl⟩,rfl⟩
theorem okSl{P:Program}{W:World}{base:Nat}{t e:TypeId}{v:Value}(hu:P.underlying t=some (.slice e))(h:Value.okWide P W .any base t v):v.cells= #[v]:=by
 unfold Value.okWide Cell.okWide Cell.ok at h
 rw[hu]at h
 cases v<;>first
  |rfl
  |(simp only at h)
end Go.Proofs.YtecoaapkcnhlhabGreatDoor
namespace Go.Proofs.YtecoaapkcnhlhabGreatDoor.Txt
open Go Go.Vc
set_option maxRecDepth 100000
def ac71:AC:=
 (.seq (.reg [0,35,0] [
 (aO 2 (.mv (kI 0)))])
 (.seq (.reg [0,35,0] [
 (aO 3 (.mv (.t 0))),(aO 4 (.shf .shr .u64 (.t 3) (.c (.sc (.int .u64 1))))),(aO 5 (.bit .and .u64 (.t 4) (.c (.sc (.int .u64 6148914691236517205))))),(aO 6 (.mv (.t 0))),(aO 7 (.bit .and .u64 (.t 6) (.c (.sc (.int .u64 6148914691236517205))))),(aO 8 (.ari .add false .u64 (.t 5) (.t 7))),(aO 0 (.mv (.t 8)))])
 (.seq (.reg [0,35,0] [
 (aO 9 (.mv (.t 0))),(aO 10 (.shf .shr .u64 (.t 9) (.c (.sc (.int .u64 2))))),(aO 11 (.bit .and .u64 (.t 10) (.c (.sc (.int .u64 3689348814741910323))))),(aO 12 (.mv (.t 0))),(aO 13 (.bit .and .u64 (.t 12) (.c (.sc (.int .u64 3689348814741910323))))),(aO 14 (.ari .add false .u64 (.t 11) (.t 13))),(aO 0 (.mv (.t 14)))])
 (.seq (.reg [0,35,0] [
 (aO 15 (.mv (.t 0))),(aO 16 (.shf .shr .u64 (.t 15) (.c (.sc (.int .u64 4))))),(aO 17 (.mv (.t 0))),(aO 18 (.ari .add false .u64 (.t 16) (.t 17))),(aO 19 (.bit .and .u64 (.t 18) (.c (.sc (.int .u64 1085102592571150095))))),(aO 0 (.mv (.t 19)))])
 (.seq (.reg [0,35,0] [
 (aO 20 (.mv (.t 0))),(aO 21 (.mv (.t 0))),(aO 22 (.shf .shr .u64 (.t 21) (.c (.sc (.int .u64 8))))),(aO 23 (.ari .add false .u64 (.t 20) (.t 22))),(aO 0 (.mv (.t 23)))])
 (.seq (.reg [0,35,0] [
 (aO 24 (.mv (.t 0))),(aO 25 (.mv (.t 0))),(aO 26 (.shf .shr .u64 (.t 25) (.c (.sc (.int .u64 16))))),(aO 27 (.ari .add false .u64 (.t 24) (.t 26))),(aO 0 (.mv (.t 27)))])
 (.seq (.reg [0,35,0] [
 (aO 28 (.mv (.t 0))),(aO 29 (.mv (.t 0))),(aO 30 (.shf .shr .u64 (.t 29) (.c (.sc (.int .u64 32))))),(aO 31 (.ari .add false .u64 (.t 28) (.t 30))),(aO 0 (.mv (.t 31)))])
 (.seq (.reg [0,35,0] [
 (aO 32 (.mv (.t 0))),(aO 33 (.cnv true .i64 (.t 32))),(aO 34 (.bit .and .i64 (.t 33) (kI 127))),(aO 2 (.mv (.t 34)))])
 .ret))))))))
def rv71:List RV:=[.tmp 2]
theorem ok71:fnOk Tryz.prog ac71 rv71 Tryz.f71=true:=by kernel_rfl

def ac70:AC:=
 (.seq (.reg [0,15,0] [
 (aO 2 (.mv (kI 0)))])
 (.seq (.reg [0,15,0] [
 (aO 3 (.mv (kI 0)))])
 (.seq (.block 0
 (.loop [0,15,0,3]
 (.seq (.seq (.reg [0,15,0,3] [
 (aO 4 (.mv (.t 0))),(aO 5 (.cmp .neq .u64 (.t 4) (.c (.sc (.int .u64 0)))))])
 (.cond (.t 5)
 .skip
 (.exit 0)))
 (.seq (.block 1
 (.reg [0,15,0,3] [
 (aO 10 (.mv (.t 3))),(aO 11 (.mv (.t 0))),(aO 12 (.cal 94 [(.t 11)])),(aO 13 (.bit .xor .i64 (.t 10) (.t 12))),(aO 3 (.mv (.t 13)))]))
 (.reg [0,15,0,3] [
 (aO 6 (.mv (.t 0))),(aO 7 (.mv (.t 0))),(aO 8 (.ari .sub false .u64 (.t 7) (.c (.sc (.int .u64 1))))),(aO 9 (.bit .and .u64 (.t 6) (.t 8))),(aO 0 (.mv (.t 9)))])))))
 (.seq (.reg [0,15,3] [
 (aO 14 (.mv (.t 3))),(aO 2 (.mv (.t 14)))])
 .ret))))
def rv70:List RV:=[.tmp 2]
theorem ok70:fnOk Tryz.prog ac70 rv70 Tryz.f70=true:=by kernel_rfl

def ac84:AC:=
 (.seq (.reg [0,12,0] [
 (aO 2 (.mv (kI 0)))])
 (.seq (.block 0
 (.seq (.reg [0,12,0] [
 (aO 4 (.mv (.t 0))),(aO 5 (.cal 71 [(.t 4)])),(aO 6 (.dvd .rem true .i64 (.t 5) (kI 2))),(aO 7 (.cmp .eql .i64 (.t 6) (kI 1))),(aO 3 (.mv (.t 7)))])
 (.cond (.t 3)
 (.seq (.reg [0,12] [
 (aO 2 (.mv (kI 1)))])
 .ret)
 (.seq (.reg [0,12,0] [
 (aO 9 (.mv (.t 0))),(aO 10 (.cal 70 [(.t 9)])),(aO 11 (.cmp .neq .i64 (.t 10) (kI 0))),(aO 8 (.mv (.t 11)))])
 (.cond (.t 8)
 (.seq (.reg [0,12] [
 (aO 2 (.mv (kI 2)))])
 .ret)
 .skip)))))
 (.seq (.reg [0,12] [
 (aO 2 (.mv (kI 0)))])
 .ret)))
def rv84:List RV:=[.tmp 2]
theorem ok84:fnOk Tryz.prog ac84 rv84 Tryz.f84=true:=by kernel_rfl

def ac85:AC:=
 (.seq (.reg [0,16,0,1] [
 (aO 4 (.mv (.c (.sc (.int .u64 0)))))])
 (.seq (.seq (.reg [0,16,0,1] [
 (aO 5 (.mv (.t 1))),(aO 6 (.cmp .lss .i64 (.t 5) (kI 0))),(aO 7 (.mv (.t 6))),⟨some 8,some (7,false),.mv (.t 1)⟩,⟨some 9,some (7,false),.cmp .gtr .i64 (.t 8) (kI 63)⟩,(aO 10 (.pick (.t 7) (.c (.sc (.bool true))) (.t 9)))])
 (.cut [0,16,0,1,10] (.cond (.t 10)
 (.seq (.reg [0,16,0] [
 (aO 11 (.mv (.t 0))),(aO 4 (.mv (.t 11)))])
 .ret)
 .skip)))
 (.seq (.reg [0,16,0,1] [
 (aO 12 (.mv (.t 0))),(aO 13 (.mv (.t 1))),(aO 14 (.shf .shl .u64 (.c (.sc (.int .u64 1))) (.t 13))),(aO 15 (.bit .xor .u64 (.t 12) (.t 14))),(aO 4 (.mv (.t 15)))])
 .ret)))
def rv85:List RV:=[.tmp 4]
theorem ok85:fnOk Tryz.prog ac85 rv85 Tryz.f85=true:=by kernel_rfl

def ac69_200:AC:=
 (.seq (.reg [200,20,200] [
 (aO 202 (.mv (kI 0)))])
 (.seq (.reg [200,20,200,202] [
 (aO 203 (.mv (kI 3)))])
 (.block 0
 (.lps [200,20,200,202,203]
 (.seq (.seq (.reg [200,20,200,202,203] [
 (aO 204 (.mv (.t 203))),(aO 205 (.cmp .lss .i64 (.t 204) (kI 64)))])
 (.cond (.t 205)
 .skip
 (.exit 0)))
 (.seq (.block 1
 (.seq (.seq (.reg [200,20,200,202,203] [
 (aO 208 (.mv (.t 203))),(aO 209 (.mv (.t 203))),(aO 210 (.ari .sub true .i64 (.t 209) (kI 1))),(aO 211 (.bit .and .i64 (.t 208) (.t 210))),(aO 212 (.cmp .eql .i64 (.t 211) (kI 0)))])
 (.cond (.t 212)
 (.exit 1)
 .skip))
 (.seq (.seq (.reg [200,20,200,202,203] [
 (aO 213 (.mv (.t 200))),(aO 214 (.mv (.t 202))),(aO 215 (.mv (.t 203))),(aO 216 (.clv (.t 213) [(.t 214),(.t 215)])),(aO 217 (.not (.t 216)))])
 (.cond (.t 217)
 .ret
 .skip))
 (.reg [200,20,200,202,203] [
 (aO 218 (.mv (.t 202))),(aO 219 (.ari .add true .i64 (.t 218) (kI 1))),(aO 202 (.mv (.t 219)))]))))
 (.reg [200,20,200,202,203] [
 (aO 206 (.mv (.t 203))),(aO 207 (.ari .add true .i64 (.t 206) (kI 1))),(aO 203 (.mv (.t 207)))])))))))
def rv69_200:List RV:=[]
theorem ok69_200:qh6 Tryz.prog 200 ac69_200 rv69_200 Tryz.f69=true:=by kernel_rfl

def ac68_2000:AC:=
 (.drw [2000,7,2000,2001] [
 (eT 2003 (.ld false 1 (.t 2001))),(eT 2004 (.mv (.t 2000))),(eT 2005 (.shf .shl .u64 (.c (.sc (.int .u64 1))) (.t 2004))),(eF 2006 (.bit .or .u64 (.t 2003) (.t 2005))),⟨(aN (.sto 1 (.t 2001) (.t 2006))),[],[],false⟩])
def rv68_2000:List RV:=[]
theorem ok68_2000:qh6 Tryz.prog 2000 ac68_2000 rv68_2000 Tryz.f68=true:=by kernel_rfl

def ac46:AC:=
 (.seq (.reg [0,43,0] [
 (aO 1 (.box (.t 0))),(aO 2 (.mv (.c (.sc (.int .u64 0))))),(aO 3 (.mv (kI 0)))])
 (.seq (.seq (.reg [0,43,1] [
 (aO 10 (.ld false 1 (.t 1))),(aO 11 (.cmp .geq .u64 (.t 10) (.c (.sc (.int .u64 144115188075855872)))))])
 (.cond (.t 11)
 (.seq (.reg [0,43] [
 (aO 2 (.mv (.c (.sc (.int .u64 0))))),(aO 3 (.mv (kI 1)))])
 .ret)
 .skip))
 (.seq (.reg [0,43,1] [
 (aO 4 (.alc [.sc (.int .u64 0)]))])
 (.seq (.reg [0,43,1,4] [
 (aO 12 (.mkf 68 [(.t 4)])),(aO 5 (.alc [.sc .nilFunc])),(aN (.sto 1 (.t 5) (.t 12)))])
 (.seq (.block 0
 (.rngf ⟨(.c (.sc (.func (.func 69) #[] #[]))),0,43,1000,[0,43,1,4,5],999⟩ [1013,1014]
 (.seq (.reg [1000,43,1001,1005,1013,1014] [
 (aO 1006 (.mv (.t 1013)))])
 (.reg [1000,43,1001,1005,1006,1014] [
 (aO 1007 (.mv (.t 1014)))]))
 (.block 1
 (.seq (.reg [1000,43,1001,1005,1006,1007] [
 (aO 1015 (.ld false 1 (.t 1001))),(aO 1016 (.mv (.t 1006))),(aO 1017 (.shf .shr .u64 (.t 1015) (.t 1016))),(aO 1018 (.bit .and .u64 (.t 1017) (.c (.sc (.int .u64 1))))),(aO 1019 (.cmp .eql .u64 (.t 1018) (.c (.sc (.int .u64 1)))))])
 (.cond (.t 1019)
 (.reg [1000,43,1005,1007] [
 (aO 1020 (.ld false 1 (.t 1005))),(aO 1021 (.mv (.t 1007))),(aO 1022 (.clv (.t 1020) [(.t 1021)]))])
 .skip)))))
 (.seq (.reg [0,43,4,5] [
 (aO 23 (.ld false 1 (.t 4))),(aO 24 (.cal 70 [(.t 23)])),(aO 8 (.mv (.t 24)))])
 (.seq (.seq (.reg [0,43,4,5,8] [
 (aO 9 (.mv (kI 1)))])
 (.block 2
 (.loop [0,43,4,5,8,9]
 (.seq (.seq (.reg [0,43,4,5,8,9] [
 (aO 25 (.mv (.t 9))),(aO 26 (.cmp .lss .i64 (.t 25) (kI 64)))])
 (.cond (.t 26)
 .skip
 (.exit 2)))
 (.seq (.block 3
 (.seq (.reg [0,43,4,5,8,9] [
 (aO 29 (.mv (.t 8))),(aO 30 (.mv (.t 9))),(aO 31 (.bit .and .i64 (.t 29) (.t 30))),(aO 32 (.cmp .neq .i64 (.t 31) (kI 0)))])
 (.cond (.t 32)
 (.reg [0,43,4,5,8,9] [
 (aO 33 (.ld false 1 (.t 5))),(aO 34 (.mv (.t 9))),(aO 35 (.clv (.t 33) [(.t 34)]))])
 .skip)))
 (.reg [0,43,4,5,8,9] [
 (aO 27 (.mv (.t 9))),(aO 28 (.ari .mul true .i64 (.t 27) (kI 2))),(aO 9 (.mv (.t 28)))]))))))
 (.seq (.seq (.reg [0,43,4,5] [
 (aO 36 (.ld false 1 (.t 4))),(aO 37 (.cal 71 [(.t 36)])),(aO 38 (.dvd .rem true .i64 (.t 37) (kI 2))),(aO 39 (.cmp .eql .i64 (.t 38) (kI 1)))])
 (.cond (.t 39)
 (.reg [0,43,4,5] [
 (aO 40 (.ld false 1 (.t 5))),(aO 41 (.clv (.t 40) [(kI 0)]))])
 .skip))
 (.seq (.reg [0,43,4] [
 (aO 42 (.ld false 1 (.t 4))),(aO 2 (.mv (.t 42))),(aO 3 (.mv (kI 0)))])
 .ret)))))))))
def rv46:List RV:=[.tmp 2,.tmp 3]
theorem ok46:fnOk Tryz.prog ac46 rv46 Tryz.f46=true:=by kernel_rfl

def ac54_r6:AC:=
 (.seq (.reg [0,31,1,5] [
 (aO 6 (.alc [.sc (.int .u64 0)]))])
 (.seq (.block 0
 (.rngf ⟨(.c (.sc (.func (.func 69) #[] #[]))),0,31,1000,[0,31,1,5,6],999⟩ [1019,1020]
 (.seq (.reg [1000,31,1001,1006,1019,1020] [
 (aO 1007 (.mv (.t 1019)))])
 (.reg [1000,31,1001,1006,1007,1020] [
 (aO 1008 (.mv (.t 1020)))]))
 (.block 1
 (.drw [1000,31,1001,1006,1007,1008] [
 (eT 1021 (.ld false 1 (.t 1006))),(eT 1022 (.ld false 1 (.t 1001))),(eT 1023 (.mv (.t 1008))),(eT 1024 (.shf .shr .u64 (.t 1022) (.t 1023))),(eT 1025 (.bit .and .u64 (.t 1024) (.c (.sc (.int .u64 1))))),(eT 1026 (.mv (.t 1007))),(eT 1027 (.shf .shl .u64 (.t 1025) (.t 1026))),(eF 1028 (.bit .or .u64 (.t 1021) (.t 1027))),⟨(aN (.sto 1 (.t 1006) (.t 1028))),[],[],false⟩]))))
 (.seq (.reg [0,31,5,6] [
 (aO 29 (.ld false 1 (.t 6))),(aO 30 (.mv (.t 5))),(aO 2 (.mv (.t 29))),(aO 3 (.mv (.t 30))),(aO 4 (.mv (kI 0)))])
 .ret)))
def ac54:AC:=
 (.seq (.reg [0,31,0] [
 (aO 1 (.box (.t 0))),(aO 2 (.mv (.c (.sc (.int .u64 0))))),(aO 3 (.mv (kI 0))),(aO 4 (.mv (kI 0)))])
 (.seq (.reg [0,31,1] [
 (aO 9 (.ld false 1 (.t 1))),(aO 10 (.cal 84 [(.t 9)])),(aO 5 (.mv (.t 10)))])
 (.seq (.seq (.reg [0,31,1,5] [
 (aO 11 (.mv (.t 5))),(aO 12 (.cmp .eql .i64 (.t 11) (kI 2)))])
 (.cond (.t 12)
 (.seq (.reg [0,31] [
 (aO 2 (.mv (.c (.sc (.int .u64 0))))),(aO 3 (.mv (kI 0))),(aO 4 (.mv (kI 6)))])
 .ret)
 .skip))
 (.seq (.seq (.reg [0,31,1,5] [
 (aO 13 (.mv (.t 5))),(aO 14 (.cmp .eql .i64 (.t 13) (kI 1)))])
 (.cond (.t 14)
 (.drw [0,31,1,5] [
 (eT 15 (.ld false 1 (.t 1))),(eT 16 (.ld false 1 (.t 1))),(eT 17 (.cal 70 [(.t 16)])),(eF 18 (.cal 85 [(.t 15),(.t 17)])),⟨(aN (.sto 1 (.t 1) (.t 18))),[],[],false⟩])
 .skip))
 ac54_r6))))
def rv54:List RV:=[.tmp 2,.tmp 3,.tmp 4]
theorem ok54:fnOk Tryz.prog ac54 rv54 Tryz.f54=true:=by kernel_rfl
end Go.Proofs.YtecoaapkcnhlhabGreatDoor.Txt
namespace Go.Ham
def syn(w:Nat):Nat->Nat
 |0=>0
 |n+1=>if w.testBit n then syn w n^^^n else syn w n
def ons(w:Nat):Nat->Nat
 |0=>0
 |n+1=>ons w n+(w.testBit n).toNat
theorem qzD: ∀n,syn 0 n=0
 |0=>rfl
 |n+1=>by simp[syn,qzD n]
theorem xor3(a b n:Nat):a^^^n^^^b=a^^^b^^^n:=by rw[Nat.xor_assoc,Nat.xor_comm n b,<- Nat.xor_assoc]
theorem qzE(w v:Nat): ∀n,syn (w^^^v) n=syn w n^^^syn v n
 |0=>by simp[syn]
 | n + 1 => by
   simp only[syn,Nat.testBit_xor,qzE w v n]
   cases w.testBit n<;>cases v.testBit n<;>simp
   ·rw[Nat.xor_assoc]
   ·rw[xor3]
   ·rw[<- Nat.xor_assoc,xor3 _ _ n,Nat.xor_assoc _ n n];simp
theorem qzF(w v:Nat): ∀n,ons (w^^^v) n%2=(ons w n+ons v n)%2
 |0=>rfl
 | n + 1 => by
   have:=qzF w v n
   simp only[ons,Nat.testBit_xor]
   cases w.testBit n<;>cases v.testBit n<;>simp<;>omega
theorem qzG(i:Nat): ∀n,syn (2^i) n=if i<n then i else 0
 |0=>rfl
 | n + 1 => by
   simp only[syn,Nat.testBit_two_pow,qzG i n,decide_eq_true_eq]
   by_cases h:i=n
   ·subst h;simp
   ·by_cases h2:i<n
    ·simp[h,h2,Nat.lt_succ_of_lt h2]
    ·have: ¬i<n+1:=by omega
     simp[h,h2,this]
theorem qzH(i:Nat): ∀n,ons (2^i) n=if i<n then 1 else 0
 |0=>rfl
 | n + 1 => by
   simp only[ons,Nat.testBit_two_pow,qzH i n]
   by_cases h:i=n
   ·subst h;simp
   ·by_cases h2:i<n
    ·simp[h,h2,Nat.lt_succ_of_lt h2]
    ·have: ¬i<n+1:=by omega
     simp[h,h2,this]
theorem qzI(w:Nat): ∀n,n<=64->syn w n<64
 |0,_=>by simp[syn]
 | n + 1, h => by
   have h1:syn w n<2^6:=qzI w n (by omega)
   simp only[syn]
   split
   ·exact Nat.xor_lt_two_pow h1 (show n<2^6 by omega)
   ·exact h1
def plc:List (Nat×Nat):=(List.range 57).zip [3,5,6,7,9,10,11,12,13,14,15,17,18,19,20,21,22,23,24,25,26,27,28,29,30,31,33,34,35,36,37,38,39,40,41,42,43,44,45,46,47,48,49,50,51,52,53,54,55,56,57,58,59,60,61,62,63]
def sctL(d:Nat)(l:List (Nat×Nat)):Nat:=l.foldl (fun w x=>if d.testBit x.1 then w|||2^x.2 else w) 0
def gatL(w:Nat)(l:List (Nat×Nat)):Nat:=l.foldl (fun d x=>if w.testBit x.2 then d|||2^x.1 else d) 0
def sct(d:Nat):Nat:=sctL d plc
def gat(w:Nat):Nat:=gatL w plc
def prt(w s:Nat):Nat:=(List.range 6).foldl (fun w k=>if s.testBit k then w|||2^(2^k)else w) w
def fin(w:Nat):Nat:=if ons w 64%2=1 then w|||1 else w
def encW(d:Nat):Nat:=fin (prt (sct d) (syn (sct d) 64))
def chkW(w:Nat):Nat:=if ons w 64%2=1 then 1 else if syn w 64≠0 then 2 else 0
theorem qzJ{α:Type}(c:α->Bool)(e:α->Nat)(p:Nat): ∀(l:List α) (w:Nat),(l.foldl (fun w x=>if c x then w|||2^e x else w) w).testBit p=(w.testBit p||l.any fun x=>c x&&decide (e x=p))
 |[],w=>by simp
 | x :: l, w => by
   rw[List.foldl_cons,qzJ c e p l,List.any_cons]
   cases h:c x<;>simp[Nat.testBit_or,Nat.testBit_two_pow,Bool.or_assoc]
theorem qzK(d p:Nat):(sct d).testBit p=plc.any fun x=>d.testBit x.1&&decide (x.2=p):=by
 unfold sct sctL;rw[qzJ (fun x:Nat×Nat=>d.testBit x.1) (fun x=>x.2)];simp
theorem qzL(w p:Nat):(gat w).testBit p=plc.any fun x=>w.testBit x.2&&decide (x.1=p):=by
 unfold gat gatL;rw[qzJ (fun x:Nat×Nat=>w.testBit x.2) (fun x=>x.1)];simp
theorem qzM:plc.all (fun x=>plc.all fun y=>(decide (x.1=y.1))==decide (x.2=y.2))=true:=by decide+kernel
theorem qzN:(List.range 57).all (fun i=>plc.any fun x=>decide (x.1=i))=true:=by decide+kernel
theorem qzO:plc.all (fun x=>decide (x.1<57)&&decide (x.2<64)&&decide (x.2≠0)&&(List.range 6).all fun k=>decide (x.2≠2^k))=true:=by decide+kernel
theorem qzP:(List.range 64).all (fun p=>decide (p=0)||(List.range 6).any (fun k=>decide (p=2^k))||plc.any fun x=>decide (x.2=p))=true:=by decide+kernel
theorem inj1{x y:Nat×Nat}(hx:x∈plc)(hy:y∈plc):x.1=y.1 ↔ x.2=y.2:=by
 have:=yE.1 (yE.1 qzM x hx) y hy
 simpa using this
theorem qzQ{x:Nat×Nat}(hx:x∈plc):x.1<57/\x.2<64/\x.2≠0/\ ∀k,k<6->x.2≠2^k:=by
 have:=yE.1 qzO x hx
 simp only[zN,decide_eq_true_eq,yE,List.mem_range]at this
 exact⟨this.1.1.1,this.1.1.2,this.1.2,this.2⟩
theorem qzR(d:Nat){x:Nat×Nat}(hx:x∈plc):(sct d).testBit x.2=d.testBit x.1:=by
 rw[qzK]
 cases h:d.testBit x.1
 ·rw[yD]
  intro y hy
  by_cases e:y.2=x.2
  ·rw[(inj1 hy hx).2 e];simp[h]
  ·simp[e]
 ·rw[List.any_eq_true]
  exact⟨x,hx,by simp[h]⟩
theorem qzS(w:Nat){x:Nat×Nat}(hx:x∈plc):(gat w).testBit x.1=w.testBit x.2:=by
 rw[qzL]
 cases h:w.testBit x.2
 ·rw[yD]
  intro y hy
  by_cases e:y.1=x.1
  ·rw[(inj1 hy hx).1 e];simp[h]
  ·simp[e]
 ·rw[List.any_eq_true]
  exact⟨x,hx,by simp[h]⟩
theorem qzT(d p:Nat)(h: ∀x∈plc,x.2≠p):(sct d).testBit p=false:=by
 rw[qzK,yD]
 intro x hx
 simp[h x hx]
theorem qzU(w:Nat):gat w<2^57:=by
 apply Nat.lt_pow_two_of_testBit
 intro i hi
 rw[qzL,yD]
 intro x hx
 have:=(qzQ hx).1
 have:x.1≠i:=by omega
 simp[this]
theorem qzV{a b:Nat}(ha:a<2^57)(hb:b<2^57)(h: ∀x∈plc,a.testBit x.1=b.testBit x.1):a=b:=by
 apply Nat.eq_of_testBit_eq
 intro i
 by_cases hi:i<57
 ·have:=yE.1 qzN i (List.mem_range.2 hi)
  obtain⟨x,hx,hxi⟩:=List.any_eq_true.1 this
  have hxi:x.1=i:=by simpa using hxi
  rw[<- hxi];exact h x hx
 ·have e:2^57<=2^i:=Nat.pow_le_pow_right (by decide) (by omega)
  rw[Nat.testBit_lt_two_pow (by omega),Nat.testBit_lt_two_pow (by omega)]
theorem qzW{w d:Nat}(hd:d<2^57)(h: ∀x∈plc,w.testBit x.2=d.testBit x.1):gat w=d:=
 qzV (qzU w) hd fun x hx=>by rw[qzS w hx,h x hx]
theorem qzX(w s p:Nat):(prt w s).testBit p=(w.testBit p||(List.range 6).any fun k=>s.testBit k&&decide (2^k=p)):=by
 unfold prt;exact qzJ (fun k=>s.testBit k) (fun k=>2^k) p _ w
theorem qzY: ∀s,s<64->syn (prt 0 s) 64=s:=by
 have:(List.range 64).all (fun s=>decide (syn (prt 0 s) 64=s))=true:=by decide+kernel
 intro s hs
 simpa using yE.1 this s (List.mem_range.2 hs)
theorem qzZ(w s:Nat)(h: ∀k,k<6->w.testBit (2^k)=false):prt w s=w^^^prt 0 s:=by
 apply Nat.eq_of_testBit_eq
 intro p
 rw[Nat.testBit_xor,qzX,qzX,Nat.zero_testBit,Bool.false_or]
 cases ha:(List.range 6).any fun k=>s.testBit k&&decide (2^k=p)
 ·simp
 ·obtain⟨k,hk,h2⟩:=List.any_eq_true.1 ha
  simp only[zN,decide_eq_true_eq]at h2
  rw[<- h2.2,h k (List.mem_range.1 hk)];rfl
theorem qA0{w:Nat}(h:w.testBit 0=false):w|||1=w^^^1:=by
 apply Nat.eq_of_testBit_eq
 intro p
 rw[Nat.testBit_or,Nat.testBit_xor,show(1:Nat)=2^0 from rfl,Nat.testBit_two_pow]
 by_cases e:0=p
 ·subst e;rw[h];rfl
 ·simp[e]
theorem qA1(d k:Nat)(hk:k<6):(sct d).testBit (2^k)=false:=qzT d _ fun _ hx=>(qzQ hx).2.2.2 k hk
theorem qA2(d:Nat):(sct d).testBit 0=false:=qzT d _ fun _ hx=>(qzQ hx).2.2.1
theorem qA3(s:Nat):(prt 0 s).testBit 0=false:=by
 rw[qzX,Nat.zero_testBit,Bool.false_or,yD]
 intro k _
 have:2^k≠0:=by have:=Nat.two_pow_pos k;omega
 simp[this]
theorem qA4(s:Nat){x:Nat×Nat}(hx:x∈plc):(prt 0 s).testBit x.2=false:=by
 rw[qzX,Nat.zero_testBit,Bool.false_or,yD]
 intro k hk
 have:=(qzQ hx).2.2.2 k (List.mem_range.1 hk)
 have:2^k≠x.2:=fun e=>this e.symm
 simp[this]
theorem qA6(d:Nat):(∀x∈plc,(encW d).testBit x.2=d.testBit x.1)/\syn (encW d) 64=0/\ons (encW d) 64%2=0:=by
 have hs:syn (sct d) 64<64:=qzI _ _ (Nat.le_refl _)
 have h1:prt (sct d) (syn (sct d) 64)=sct d^^^prt 0 (syn (sct d) 64):=qzZ _ _ fun k hk=>qA1 d k hk
 have hb: ∀x∈plc,(prt (sct d) (syn (sct d) 64)).testBit x.2=d.testBit x.1:=fun x hx=>by
  rw[h1,Nat.testBit_xor,qzR d hx,qA4 _ hx];simp
 have hy:syn (prt (sct d) (syn (sct d) 64)) 64=0:=by rw[h1,qzE,qzY _ hs];simp
 have h0:(prt (sct d) (syn (sct d) 64)).testBit 0=false:=by rw[h1,Nat.testBit_xor,qA2,qA3];rfl
 unfold encW fin
 split
 ·rename_i ho
  rw[qA0 h0]
  refine⟨fun x hx=> ?_,?_,?_⟩
  ·rw[Nat.testBit_xor,hb x hx,show(1:Nat)=2^0 from rfl,Nat.testBit_two_pow]
   have:=(qzQ hx).2.2.1
   have:0≠x.2:=fun e=>this e.symm
   simp[this]
  ·rw[qzE,hy,show(1:Nat)=2^0 from rfl,qzG];rfl
  ·rw[qzF,show(1:Nat)=2^0 from rfl,qzH];simp;omega
 ·rename_i ho
  exact⟨hb,hy,by omega⟩
theorem qA7{w:Nat}{n:Nat}(h: ∀p,n<=p->w.testBit p=false):w<2^n:=Nat.lt_pow_two_of_testBit w h
theorem qA8(d:Nat):sct d<2^64:=qA7 fun p hp=>qzT d p fun x hx=>by have:=(qzQ hx).2.1;omega
theorem qA9(d:Nat):encW d<2^64:=by
 have h1:prt (sct d) (syn (sct d) 64)<2^64:=qA7 fun p hp=>by
  rw[qzX,Nat.testBit_lt_two_pow (Nat.lt_of_lt_of_le (qA8 d) (Nat.pow_le_pow_right (by decide) hp)),Bool.false_or,yD]
  intro k hk
  have hk:k<6:=List.mem_range.1 hk
  have:2^k<=2^5:=Nat.pow_le_pow_right (by decide) (by omega)
  have:2^k≠p:=by omega
  simp[this]
 unfold encW fin
 split
 ·exact Nat.or_lt_two_pow h1 (by decide)
 ·exact h1
theorem qAa{d:Nat}(hd:d<2^57):gat (encW d)=d:=qzW hd (qA6 d).1
theorem qAb(d:Nat):chkW (encW d)=0:=by
 obtain⟨_,h2,h3⟩:=qA6 d
 unfold chkW;rw[if_neg (by omega),if_neg (by omega)]
theorem qAc{x:Nat}(hx:x<2^64)(h1: ∀q∈plc,x.testBit q.2=false)(h2:syn x 64=0)(h3:ons x 64%2=0):x=0:=by
 have hx' :x=(if x.testBit 0 then 1 else 0)^^^prt 0 ((if x.testBit 1 then 1 else 0)+(if x.testBit 2 then 2 else 0)+(if x.testBit 4 then 4 else 0)+(if x.testBit 8 then 8 else 0)+(if x.testBit 16 then 16 else 0)+(if x.testBit 32 then 32 else 0)):=by
  apply Nat.eq_of_testBit_eq
  intro p
  by_cases hp:p<64
  ·have:=yE.1 qzP p (List.mem_range.2 hp)
   simp only[Bool.or_eq_true,decide_eq_true_eq,List.any_eq_true]at this
   rcases this with(rfl|⟨k,hk,rfl⟩)|⟨q,hq,rfl⟩
   ·rw[Nat.testBit_xor,qA3]
    cases x.testBit 0<;>rfl
   ·rw[Nat.testBit_xor]
    have e0:(if x.testBit 0 then 1 else 0:Nat).testBit (2^k)=false:=by
     have hk:k<6:=List.mem_range.1 hk
     cases x.testBit 0
     ·simp
     ·simp only[if_true];rw[show(1:Nat)=2^0 from rfl,Nat.testBit_two_pow];have:=Nat.two_pow_pos k;simp;omega
    rw[e0,Bool.false_xor]
    have hk:k<6:=List.mem_range.1 hk
    have key: ∀b1 b2 b3 b4 b5 b6:Bool,∀k,k<6->(prt 0 ((if b1 then 1 else 0)+(if b2 then 2 else 0)+(if b3 then 4 else 0)+(if b4 then 8 else 0)+(if b5 then 16 else 0)+(if b6 then 32 else 0))).testBit (2^k)=[b1,b2,b3,b4,b5,b6].getD k false:=by decide+kernel
    rw[key _ _ _ _ _ _ k hk]
    have:k=0\/k=1\/k=2\/k=3\/k=4\/k=5:=by omega
    rcases this with rfl|rfl|rfl|rfl|rfl|rfl<;>rfl
   ·rw[h1 q hq,Nat.testBit_xor,qA4 _ hq]
    obtain⟨_,_,q3,_⟩:=qzQ hq
    cases x.testBit 0
    ·simp
    ·simp only[if_true];rw[show(1:Nat)=2^0 from rfl,Nat.testBit_two_pow];simp;omega
  ·have e:2^64<=2^p:=Nat.pow_le_pow_right (by decide) (by omega)
   rw[Nat.testBit_lt_two_pow (by omega),Nat.testBit_xor,qzX,Nat.zero_testBit,Bool.false_or]
   have e1:(if x.testBit 0 then 1 else 0:Nat).testBit p=false:=by
    cases x.testBit 0
    ·simp
    ·simp only[if_true];rw[show(1:Nat)=2^0 from rfl,Nat.testBit_two_pow];simp;omega
   rw[e1,Bool.false_xor]
   refine(yD.2 fun k hk=> ?_).symm
   have hk:k<6:=List.mem_range.1 hk
   have:2^k<=2^5:=Nat.pow_le_pow_right (by decide) (by omega)
   have:2^k≠p:=by omega
   simp[this]
 revert h2 h3
 rw[hx']
 have key : ∀ b0 b1 b2 b3 b4 b5 b6 : Bool, syn ((if b0 then 1 else 0) ^^^ prt 0 ((if b1 then 1 else 0) + (if b2 then 2 else 0) + (if b3 then 4 else 0) + (if b4 then 8 else 0) + (if b5 then 16 else 0) + (if b6 then 32 else 0))) 64 = 0 -> ons ((if b0 then 1 else 0) ^^^ prt 0 ((if b1 then 1 else 0) + (if b2 then 2 else 0) + (if b3 then 4 else 0) + (if b4 then 8 else 0) + (if b5 then 16 else 0) + (if b6 then 32 else 0))) 64 % 2 = 0 ->
   (if b0 then 1 else 0)^^^prt 0 ((if b1 then 1 else 0)+(if b2 then 2 else 0)+(if b3 then 4 else 0)+(if b4 then 8 else 0)+(if b5 then 16 else 0)+(if b6 then 32 else 0))=0:=by decide+kernel
 exact key _ _ _ _ _ _ _
theorem qAd{w:Nat}(hw:w<2^64)(h:chkW w=0):encW (gat w)=w:=by
 unfold chkW at h
 have h1:ons w 64%2=0:=by
  by_cases e:ons w 64%2=1
  ·rw[if_pos e]at h;omega
  ·omega
 rw[if_neg (by omega)]at h
 have h2:syn w 64=0:=by
  by_cases e:syn w 64=0
  ·exact e
  ·rw[if_pos e]at h;omega
 obtain⟨g1,g2,g3⟩:=qA6 (gat w)
 have hz:encW (gat w)^^^w=0:=by
  refine qAc (Nat.xor_lt_two_pow (qA9 _) hw) (fun q hq=> ?_) ?_ ?_
  ·rw[Nat.testBit_xor,g1 q hq,qzS w hq];simp
  ·rw[qzE,g2,h2];rfl
  ·rw[qzF];omega
 have:=congrArg (· ^^^w) hz
 simpa[Nat.xor_assoc]using this
theorem qAe{w:Nat}(h:chkW w=0){i:Nat}(hi:i<64):chkW (w^^^2^i)=1/\syn (w^^^2^i) 64=i:=by
 unfold chkW at h
 have h1:ons w 64%2=0:=by
  by_cases e:ons w 64%2=1
  ·rw[if_pos e]at h;omega
  ·omega
 rw[if_neg (by omega)]at h
 have h2:syn w 64=0:=by
  by_cases e:syn w 64=0
  ·exact e
  ·rw[if_pos e]at h;omega
 constructor
 ·unfold chkW;rw[qzF,qzH,if_pos hi,if_pos (by omega)]
 ·rw[qzE,qzG,if_pos hi,h2];simp
theorem qAg(w v:Nat):w^^^v^^^v=w:=by rw[Nat.xor_assoc];simp
theorem fix1{w:Nat}(h:chkW w=1):syn w 64<64/\chkW (w^^^2^syn w 64)=0:=by
 have hs:=qzI w 64 (Nat.le_refl _)
 refine⟨hs,?_⟩
 have h1:ons w 64%2=1:=by
  unfold chkW at h
  by_cases e:ons w 64%2=1
  ·exact e
  ·rw[if_neg e]at h;split at h<;>omega
 unfold chkW
 rw[qzF,qzH,if_pos hs,if_neg (by omega),qzE,qzG,if_pos hs]
 simp
theorem qAi(w:Nat):chkW w=0\/chkW w=1\/chkW w=2:=by
 unfold chkW
 split
 ·exact .inr (.inl rfl)
 ·split
  ·exact .inr (.inr rfl)
  ·exact .inl rfl
theorem qAj(k m:Nat):(2^k*(2*m+1))&&&(2^k*(2*m+1)-1)=2^k*(2*m+1)^^^2^k/\2^k*(2*m+1)^^^2^k<2^k*(2*m+1)/\(2^k*(2*m+1)).testBit k=true:=by
 have hp:=Nat.two_pow_pos k
 have e1:2^k*(2*m+1)=2^(k+1)*m+2^k:=by rw[Nat.pow_succ,Nat.mul_add,Nat.mul_one,Nat.mul_assoc]
 have hlt:2^k<2^(k+1):=Nat.pow_lt_pow_right (by decide) (by omega)
 have e2:2^k*(2*m+1)-1=2^(k+1)*m+(2^k-1):=by omega
 have hx:2^k*(2*m+1)^^^2^k=2^(k+1)*m:=by
  apply Nat.eq_of_testBit_eq
  intro i
  rw[e1,Nat.testBit_xor,Nat.testBit_two_pow_mul_add _ hlt,Nat.testBit_two_pow_mul,Nat.testBit_two_pow]
  split
  ·rename_i h
   have: ¬k+1<=i:=by omega
   simp[this]
  ·rename_i h
   have h1:k+1<=i:=by omega
   have h2:k≠i:=by omega
   simp[h1,h2]
 refine⟨?_,by rw[hx];omega,?_⟩
 ·rw[hx,e2]
  apply Nat.eq_of_testBit_eq
  intro i
  rw[e1,Nat.testBit_and,Nat.testBit_two_pow_mul_add _ hlt,Nat.testBit_two_pow_mul_add _ (by omega),Nat.testBit_two_pow_mul,Nat.testBit_two_pow,Nat.testBit_two_pow_sub_one]
  split
  ·rename_i h
   have: ¬k+1<=i:=by omega
   have h3:(decide (k=i)&&decide (i<k))=false:=by
    by_cases e:k=i
    ·subst e;simp
    ·simp[e]
   rw[h3]
   simp[this]
  ·rename_i h
   have h1:k+1<=i:=by omega
   simp[h1]
 ·rw[e1,Nat.testBit_two_pow_mul_add _ hlt,if_pos (by omega),Nat.testBit_two_pow_self]
theorem qAk{b c:Nat}(y z:Nat)(hb:b<256)(hc:c<256):(256*y+b)&&&(256*z+c)=256*(y&&&z)+(b&&&c):=by
 have hbc:b&&&c<2^8:=Nat.and_lt_two_pow _ hc
 apply Nat.eq_of_testBit_eq
 intro i
 rw[show(256:Nat)=2^8 from rfl,Nat.testBit_and,Nat.testBit_two_pow_mul_add _ hb,Nat.testBit_two_pow_mul_add _ hc,Nat.testBit_two_pow_mul_add _ hbc]
 split<;>rw[Nat.testBit_and]
theorem qAl{b:Nat}(y:Nat)(hb:b<256): ∀n,ons (256*y+b) (n+8)=ons y n+ons b 8
 |0=>by simp[ons,show(256:Nat)=2^8 from rfl,Nat.testBit_two_pow_mul_add y (show b<2^8 from hb)]
 | n + 1 => by
   show ons _ (n+8)+_=_
   rw[qAl y hb n,show(256:Nat)=2^8 from rfl,Nat.testBit_two_pow_mul_add y (show b<2^8 from hb),if_neg (by omega)]
   simp only[ons,show n+8-8=n from by omega]
   omega
def sa(m x:Nat):Nat:=(x/2&&&m)+(x&&&m)
def sb(m x:Nat):Nat:=(x/4&&&m)+(x&&&m)
def sc(m x:Nat):Nat:=(x/16+x)&&&m
theorem qAm{b:Nat}(y m:Nat)(hb:b<256):sa (256*m+85) (256*y+b)=256*sa m y+sa 85 b:=by
 have key: ∀b,b<256-> ∀c,c<2->((b/2+128*c)&&&85)=(b/2&&&85):=by decide+kernel
 unfold sa
 rw[show(256*y+b)/2=256*(y/2)+(b/2+128*(y%2))from by omega,qAk _ _ (by omega) (by omega),qAk _ _ hb (by omega),key b hb _ (by omega)]
 omega
theorem qAn{b:Nat}(y m:Nat)(hb:b<256):sb (256*m+51) (256*y+b)=256*sb m y+sb 51 b:=by
 have key: ∀b,b<256-> ∀c,c<4->((b/4+64*c)&&&51)=(b/4&&&51):=by decide+kernel
 unfold sb
 rw[show(256*y+b)/4=256*(y/4)+(b/4+64*(y%4))from by omega,qAk _ _ (by omega) (by omega),qAk _ _ hb (by omega),key b hb _ (by omega)]
 omega
theorem qAo{b:Nat}(y m:Nat)(hb:b<69)(hy:y%16<5):sc (256*m+15) (256*y+b)=256*sc m y+sc 15 b:=by
 have key: ∀b,b<69-> ∀c,c<5->((b/16+16*c+b)&&&15)=(b/16+b&&&15):=by decide+kernel
 unfold sc
 rw[show(256*y+b)/16+(256*y+b)=256*(y/16+y)+(b/16+16*(y%16)+b)from by omega,qAk _ _ (by omega) (by omega),key b hb _ hy]
theorem qAp: ∀b,b<256->sa 85 b<256/\sb 51 (sa 85 b)<69/\sb 51 (sa 85 b)%16<5/\sc 15 (sb 51 (sa 85 b))=ons b 8/\ons b 8<=8:=by decide+kernel
def m0:Nat:=6148914691236517205
def m1:Nat:=3689348814741910323
def m2:Nat:=1085102592571150095
def sum8(x:Nat):Nat:=let a:=x+x/256;let b:=a+a/65536;let c:=b+b/4294967296;c%128
theorem qkf (x : Nat) (hx : x < 2 ^ 64) : ∃ b0 b1 b2 b3 b4 b5 b6 b7 : Nat, (b0 < 256 /\ b1 < 256 /\ b2 < 256 /\ b3 < 256 /\ b4 < 256 /\ b5 < 256 /\ b6 < 256 /\ b7 < 256) /\
  x=256*(256*(256*(256*(256*(256*(256*b7+b6)+b5)+b4)+b3)+b2)+b1)+b0:=
 ⟨x%256,x/256%256,x/65536%256,x/16777216%256,x/4294967296%256,x/1099511627776%256,x/281474976710656%256,x/72057594037927936,by omega,by omega⟩
def num:List Nat->Nat
 |[]=>0
 |b::r=>256*num r+b
def zad:List Nat->List Nat->List Nat
 |[],l=>l
 |l,[]=>l
 |a::r,b::s=>(a+b)::zad r s
theorem qAq: ∀a b,num a+num b=num (zad a b)
 |[],l=>by simp[num,zad]
 |a::r,[]=>by simp[num,zad]
 |a::r,b::s=>by simp only[num,zad,<- qAq r s];omega
theorem dv(b:Nat)(r:List Nat)(h:b<256):num (b::r)/256=num r:=by simp only[num];omega
theorem qAr(b:Nat)(r:List Nat)(h:b<128):num (b::r)%128=b:=by simp only[num];omega
theorem qAs (o0 o1 o2 o3 o4 o5 o6 o7 : Nat) (h0 : o0 <= 8) (h1 : o1 <= 8) (h2 : o2 <= 8) (h3 : o3 <= 8) (h4 : o4 <= 8) (h5 : o5 <= 8) (h6 : o6 <= 8) (h7 : o7 <= 8) :
  sum8 (256*(256*(256*(256*(256*(256*(256*o7+o6)+o5)+o4)+o3)+o2)+o1)+o0)=o7+o6+o5+o4+o3+o2+o1+o0:=by
 have e2: ∀x:Nat,x/65536=x/256/256:=fun x=>by rw[Nat.div_div_eq_div_mul]
 have e4: ∀x:Nat,x/4294967296=x/256/256/256/256:=fun x=>by rw[Nat.div_div_eq_div_mul,Nat.div_div_eq_div_mul,Nat.div_div_eq_div_mul]
 have hx:256*(256*(256*(256*(256*(256*(256*o7+o6)+o5)+o4)+o3)+o2)+o1)+o0=num [o0,o1,o2,o3,o4,o5,o6,o7]:=by simp[num]
 have a1:=dv o0 [o1,o2,o3,o4,o5,o6,o7] (by omega)
 have a2:num [o0,o1,o2,o3,o4,o5,o6,o7]+num [o1,o2,o3,o4,o5,o6,o7]=num [o0+o1,o1+o2,o2+o3,o3+o4,o4+o5,o5+o6,o6+o7,o7]:=qAq _ _
 have b1:num [o0+o1,o1+o2,o2+o3,o3+o4,o4+o5,o5+o6,o6+o7,o7]/65536=num [o2+o3,o3+o4,o4+o5,o5+o6,o6+o7,o7]:=by rw[e2,dv _ _ (by omega),dv _ _ (by omega)]
 have b2 : num [o0 + o1, o1 + o2, o2 + o3, o3 + o4, o4 + o5, o5 + o6, o6 + o7, o7] + num [o2 + o3, o3 + o4, o4 + o5, o5 + o6, o6 + o7, o7] =
   num [o0+o1+(o2+o3),o1+o2+(o3+o4),o2+o3+(o4+o5),o3+o4+(o5+o6),o4+o5+(o6+o7),o5+o6+o7,o6+o7,o7]:=qAq _ _
 have c1:num [o0+o1+(o2+o3),o1+o2+(o3+o4),o2+o3+(o4+o5),o3+o4+(o5+o6),o4+o5+(o6+o7),o5+o6+o7,o6+o7,o7]/4294967296=num [o4+o5+(o6+o7),o5+o6+o7,o6+o7,o7]:=by
  rw[e4,dv _ _ (by omega),dv _ _ (by omega),dv _ _ (by omega),dv _ _ (by omega)]
 have c2:num [o0+o1+(o2+o3),o1+o2+(o3+o4),o2+o3+(o4+o5),o3+o4+(o5+o6),o4+o5+(o6+o7),o5+o6+o7,o6+o7,o7]+num [o4+o5+(o6+o7),o5+o6+o7,o6+o7,o7]=num _:=qAq _ _
 simp only[sum8]
 rw[hx,a1,a2,b1,b2,c1,c2]
 simp only[zad]
 rw[qAr _ _ (by omega)]
 omega
theorem qAt(x:Nat)(hx:x<2^64):sa m0 x<2^64/\sb m1 (sa m0 x)<2^63/\sc m2 (sb m1 (sa m0 x))<2^60/\sum8 (sc m2 (sb m1 (sa m0 x)))=ons x 64:=by
 obtain⟨b0,b1,b2,b3,b4,b5,b6,b7,⟨h0,h1,h2,h3,h4,h5,h6,h7⟩,rfl⟩:=qkf x hx
 obtain⟨p0,q0,r0,s0,t0⟩:=qAp b0 h0
 obtain⟨p1,q1,r1,s1,t1⟩:=qAp b1 h1
 obtain⟨p2,q2,r2,s2,t2⟩:=qAp b2 h2
 obtain⟨p3,q3,r3,s3,t3⟩:=qAp b3 h3
 obtain⟨p4,q4,r4,s4,t4⟩:=qAp b4 h4
 obtain⟨p5,q5,r5,s5,t5⟩:=qAp b5 h5
 obtain⟨p6,q6,r6,s6,t6⟩:=qAp b6 h6
 obtain⟨p7,q7,r7,s7,t7⟩:=qAp b7 h7
 have em0:m0=256*(256*(256*(256*(256*(256*(256*85+85)+85)+85)+85)+85)+85)+85:=rfl
 have em1:m1=256*(256*(256*(256*(256*(256*(256*51+51)+51)+51)+51)+51)+51)+51:=rfl
 have em2:m2=256*(256*(256*(256*(256*(256*(256*15+15)+15)+15)+15)+15)+15)+15:=rfl
 have ea:=qAm (256*(256*(256*(256*(256*(256*b7+b6)+b5)+b4)+b3)+b2)+b1) (256*(256*(256*(256*(256*(256*85+85)+85)+85)+85)+85)+85) h0
 rw[qAm _ _ h1,qAm _ _ h2,qAm _ _ h3,qAm _ _ h4,qAm _ _ h5,qAm _ _ h6]at ea
 rw[em0,ea]
 have eb:=qAn (256*(256*(256*(256*(256*(256*sa 85 b7+sa 85 b6)+sa 85 b5)+sa 85 b4)+sa 85 b3)+sa 85 b2)+sa 85 b1) (256*(256*(256*(256*(256*(256*51+51)+51)+51)+51)+51)+51) p0
 rw[qAn _ _ p1,qAn _ _ p2,qAn _ _ p3,qAn _ _ p4,qAn _ _ p5,qAn _ _ p6]at eb
 rw[em1,eb]
 generalize sb 51 (sa 85 b0)=c0 at *
 generalize sb 51 (sa 85 b1)=c1 at *
 generalize sb 51 (sa 85 b2)=c2 at *
 generalize sb 51 (sa 85 b3)=c3 at *
 generalize sb 51 (sa 85 b4)=c4 at *
 generalize sb 51 (sa 85 b5)=c5 at *
 generalize sb 51 (sa 85 b6)=c6 at *
 generalize sb 51 (sa 85 b7)=c7 at *
 rw[em2,qAo _ _ q0 (by omega),qAo _ _ q1 (by omega),qAo _ _ q2 (by omega),qAo _ _ q3 (by omega),qAo _ _ q4 (by omega),qAo _ _ q5 (by omega),qAo _ _ q6 (by omega),s0,s1,s2,s3,s4,s5,s6,s7]
 have eo:=qAl (256*(256*(256*(256*(256*(256*b7+b6)+b5)+b4)+b3)+b2)+b1) h0 56
 rw[qAl _ h1 48,qAl _ h2 40,qAl _ h3 32,qAl _ h4 24,qAl _ h5 16,qAl _ h6 8]at eo
 rw[eo]
 clear eo ea eb em0 em1 em2
 generalize ons b0 8=o0 at *
 generalize ons b1 8=o1 at *
 generalize ons b2 8=o2 at *
 generalize ons b3 8=o3 at *
 generalize ons b4 8=o4 at *
 generalize ons b5 8=o5 at *
 generalize ons b6 8=o6 at *
 generalize ons b7 8=o7 at *
 refine⟨by omega,by omega,by omega,?_⟩
 rw[qAs _ _ _ _ _ _ _ _ t0 t1 t2 t3 t4 t5 t6 t7]
def datW(w:Nat):Nat:=gat (if chkW w=1 then w^^^2^syn w 64 else w)
def fixW(w:Nat):Nat:=if chkW w=2 then w else encW (datW w)
theorem qAu(w:Nat):datW w<2^57:=qzU _
end Go.Ham
namespace Go.Vc
open Go Go.RowKit
def stT(s ps:List (Nat×PV))(i0:Nat):List (Nat×PV)->Prop
 |[]=>True
 |(i,v)::r=>(lk s i=some v/\(i=0\/i=i0\/frV ps v))/\stT s ps i0 r
@[push_cast] theorem qAv(s ps:List (Nat×PV))(i0:Nat):stT s ps i0 []=True:=rfl
@[push_cast] theorem qAw(s ps r:List (Nat×PV))(i0 i:Nat)(v:PV):stT s ps i0 ((i,v)::r)=((lk s i=some v/\(i=0\/i=i0\/frV ps v))/\stT s ps i0 r):=rfl
end Go.Vc
