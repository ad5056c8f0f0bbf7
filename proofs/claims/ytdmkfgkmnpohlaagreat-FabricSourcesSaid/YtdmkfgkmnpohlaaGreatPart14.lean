/- GR TxtM MC MD ZN VcBr ZE ZO ZP TxtY HA: lemmas -/
import Derived.Test.YtdmkfgkmnpohlaaGreatPart13
import Derived.Test.YtdmkfgkmnpohlaaGreatPart06
import Derived.Test.YtdmkfgkmnpohlaaGreatChecked
import Derived.Test.YtdmkfgkmnpohlaaGreatPart11
import Derived.Test.YtdmkfgkmnpohlaaGreatPart12
import Derived.Test.YtdmkfgkmnpohlaaGreatPart08
import Derived.ProofKit
set_option linter.unusedSimpArgs false
set_option linter.unusedVariables false
open Nat (reduceEqDiff reduceAdd reduceSub reduceMul reduceLT reduceLeDiff)
open Int (reduceToNat reduceNeg)
namespace Go.Proofs.YtdmkfgkmnpohlaaGreat
open Go Go.Vc Txt
theorem slTF(es:Nat)(xs:List (List PV)):Sub (.sl true es xs) (.sl false es xs):= .slp _ _ _ _ (fun h=>by cases h)
theorem qDV(g:Grid):Sub (.agg (quy true g)) (.agg (quy false g)):=Sub.aggL ⟨.refl _,.refl _,.refl _,.refl _,slTF _ _,trivial⟩
theorem qDW(c:Cfg):Sub (.agg (cfgC true c)) (.agg (cfgC false c)):=Sub.aggL ⟨slTF _ _,slTF _ _,slTF _ _,slTF _ _,trivial⟩
def qDX(q:Bool)(g:Grid)(c:Cfg)(dr:List Int)(s:PSt)(pads:List Bool):List PV:=quy q g++cfgC q c++[.sl q 1 (ints dr)]++pstC q s++[.sl q 1 (rows qk7 pads)]
@[push_cast] theorem qDY(q:Bool)(g:Grid)(c:Cfg)(dr:List Int)(s:PSt)(pads:List Bool):qDX q g c dr s pads=
 [.int g.w,.int g.h,.int g.tracks,.int g.pads,.sl q 1 (ints g.kind),.sl q 1 (ints c.sel),.sl q 1 (ints c.mode),.sl q 1 (ints c.tab),.sl q 1 (ints c.ram),.sl q 1 (ints dr),.sl q 1 (ints s.regs),.sl q 1 (rows (memC q) s.mems),.sl q 1 (rows qk7 pads)]:=rfl
def ofC(g:Grid)(c:Cfg)(dr:List Int):List PV:=quy true g++cfgC true c++[.sl true 1 (ints dr),.nil,.nil,.nil]
@[push_cast] theorem qDZ(g:Grid)(c:Cfg)(dr:List Int):ofC g c dr=
 [.int g.w,.int g.h,.int g.tracks,.int g.pads,.sl true 1 (ints g.kind),.sl true 1 (ints c.sel),.sl true 1 (ints c.mode),.sl true 1 (ints c.tab),.sl true 1 (ints c.ram),.sl true 1 (ints dr),.nil,.nil,.nil]:=rfl
def natI(l:List Nat):List Int:=l.map fun(j:Nat)=>(j:Int)
section
variable (g:Grid) (hg:GOk g) (c:Cfg) (hc:CfgG g c)
include hg hc
set_option maxHeartbeats 4000000 in
theorem qE0:FnEq Tryz.prog 47 [.agg (quy false g),.agg (cfgC false c)] (.sl true 1 (ints (qCs g c c.sel.length))):=by
 have e0: ∀(l:List Int) (j:Nat),l.getD j default=l.getD j 0:=fun _ _=>rfl
 have hcn:=hg.count
 have l1:=hc.ln.1
 have hV: ∀j,qCs g c (j+1)=qCs g c j++[qzD g c (j:Int)]:=fun j=>qze _ j
 refine FnEq.of_awp Tryz.func47 ok47 (by show 2<=_;decide) (by simp only[push_cast,reduceIte,reduceEqDiff,reduceAdd,reduceSub,reduceMul,Nat.reduceBEq,reduceLT,reduceLeDiff,reduceCtorEq,reduceToNat,reduceNeg]<;>first|exact fun _ _=>trivial|simp) ?_
 simp only[ac47,rv47,push_cast,reduceIte,reduceEqDiff,reduceAdd,reduceSub,reduceMul,Nat.reduceBEq,reduceLT,reduceLeDiff,reduceCtorEq,reduceToNat,reduceNeg]
 refine qoH (fun m st=> ∃k:Nat,k<=c.sel.length/\m=c.sel.length-k/\st=⟨[(2,.ptr 2 0),(3,.ptr 3 0),(5,.view 8 0 k),(6,.int k)],[(2,quy false g),(3,cfgC false c)],[(8,⟨1,3,ints (qCs g c k)⟩)],[]⟩) c.sel.length ?_ ?_
 ·refine⟨0,by omega,by omega,?_⟩
  simp only[push_cast,reduceIte,reduceEqDiff,reduceAdd,reduceSub,reduceMul,Nat.reduceBEq,reduceLT,reduceLeDiff,reduceCtorEq,reduceToNat,reduceNeg]
  try rfl
 rintro m st ⟨k,hk,rfl,rfl⟩
 have hl:=qD6 g c k
 simp only[e0,push_cast,reduceIte,reduceEqDiff,reduceAdd,reduceSub,reduceMul,Nat.reduceBEq,reduceLT,reduceLeDiff,reduceCtorEq,reduceToNat,reduceNeg]
 have hV1:=hV k
 refine qnR (fun h=> ?_) fun h=> ?_
 ·refine⟨by omega,by omega,?_⟩
  have hdl:=qy5 g hg (k:Int)
  have hkk:((k:Int)).toNat=k:=Int.toNat_natCast k
  refine qnR (fun h2=> ?_) fun h2=> ?_
  ·have hsd:=qzE hg hc.sels (n:=(k:Int)) (by omega) (by rw[hkk];omega)
   have hsa:=hc.sels.sel k (by omega) (by omega)
   rw[hkk]at hsd
   refine qro (qDP g hg k) sC rfl ?_
   simp only[e0,push_cast,reduceIte,reduceEqDiff,reduceAdd,reduceSub,reduceMul,Nat.reduceBEq,reduceLT,reduceLeDiff,reduceCtorEq,reduceToNat,reduceNeg]
   refine⟨by omega,by omega,by omega,by omega,by omega,?_⟩
   rw[<- hsd.1]
   refine⟨by simp,⟨by omega,by omega,by omega⟩,by omega,_,?_,k+1,by omega,rfl,?_⟩
   ·omega
   ·rw[hV1];rfl
  ·have h3:c.sel.getD k 0=0:=Classical.byContradiction fun q=>by have:=hc.sels.sel k (by omega) q;omega
   have hd1:qzD g c (k:Int)= -1:=by rw[qzD,hkk];exact if_pos (.inl h3)
   rw[hd1]at hV1
   refine⟨by simp,⟨by omega,by omega,by omega⟩,by omega,_,?_,k+1,by omega,rfl,?_⟩
   ·omega
   ·rw[hV1];rfl
 ·have hkn:k=c.sel.length:=by omega
  subst hkn
  rw[List.take_of_length_le (by omega)]
  exact⟨fun _ _=>trivial,.refl _⟩
theorem qE1:FnEq Tryz.prog 25 [.agg (quy true g),.agg (cfgC true c)] (.agg (ofC g c (qCs g c c.sel.length))):=by
 have hD:=qE0 g hg c hc
 refine FnEq.of_awp Tryz.func25 ok25 (by show 2<=_;decide) (by simp only[push_cast,reduceIte,reduceEqDiff,reduceAdd,reduceSub,reduceMul,Nat.reduceBEq,reduceLT,reduceLeDiff,reduceCtorEq,reduceToNat,reduceNeg]<;>first|exact fun _ _=>trivial|simp) ?_
 simp only[ac25,rv25,push_cast,reduceIte,reduceEqDiff,reduceAdd,reduceSub,reduceMul,Nat.reduceBEq,reduceLT,reduceLeDiff,reduceCtorEq,reduceToNat,reduceNeg]
 refine qro hD ⟨qDV g,qDW c,trivial⟩ rfl ?_
 refine sB ?_
 exact⟨fun _ _=>trivial,fun _ _=>trivial,fun _ _=>trivial,fun _ _=>trivial,fun _ _=>trivial,fun _ _=>trivial⟩
end
theorem qE2(g:Grid)(c:Cfg)(dr:List Int)(s0 s:PSt)(p0 pads:List Bool):FnEq Tryz.prog 16 [.agg (qDX true g c dr s0 p0),.agg (pstC true s),.sl true 1 (rows qk7 pads)] (.agg (qDX true g c dr s pads)):=by
 refine FnEq.of_awp Tryz.func16 ok16 (by show 3<=_;decide) (by simp only[push_cast,reduceIte,reduceEqDiff,reduceAdd,reduceSub,reduceMul,Nat.reduceBEq,reduceLT,reduceLeDiff,reduceCtorEq,reduceToNat,reduceNeg]<;>first|exact fun _ _=>trivial|simp) ?_
 simp only[ac16,rv16,push_cast,reduceIte,reduceEqDiff,reduceAdd,reduceSub,reduceMul,Nat.reduceBEq,reduceLT,reduceLeDiff,reduceCtorEq,reduceToNat,reduceNeg]
 exact⟨fun _ _=>trivial,fun _ _=>trivial,fun _ _=>trivial,fun _ _=>trivial,fun _ _=>trivial,fun _ _=>trivial,fun _ _=>trivial,fun _ _ _ _=>trivial,fun _ _=>trivial⟩
section
variable (g:Grid) (hg:GOk g) (c:Cfg) (hc:CfgG g c) (s:PSt) (pads:List Bool)
include hg hc
theorem qE3:FnEq Tryz.prog 11 [.agg (qDX false g c (qCs g c c.sel.length) s pads)] (.sl true 1 (rows qk7 (setF g c s pads))):=by
 have hS:=qD8 g hg c hc s pads
 refine FnEq.of_awp Tryz.func11 ok11 (by show 1<=_;decide) (by simp only[push_cast,reduceIte,reduceEqDiff,reduceAdd,reduceSub,reduceMul,Nat.reduceBEq,reduceLT,reduceLeDiff,reduceCtorEq,reduceToNat,reduceNeg]<;>first|exact fun _ _=>trivial|simp) ?_
 simp only[ac11,rv11,push_cast,reduceIte,reduceEqDiff,reduceAdd,reduceSub,reduceMul,Nat.reduceBEq,reduceLT,reduceLeDiff,reduceCtorEq,reduceToNat,reduceNeg]
 refine qrm hS sC ?_
 refine sB ?_
 exact fun _ _=>trivial
theorem qE4(v:List Bool)(hv:v.length=c.sel.length):FnEq Tryz.prog 15 [.agg (qDX false g c (qCs g c c.sel.length) s pads),.sl false 1 (rows qk7 v)] (.sl true 1 (rows qk7 (qxj (rndF g c s pads) c.sel.length v))):=by
 have hS:=qDa g hg c hc s pads v hv
 refine FnEq.of_awp Tryz.func15 ok15 (by show 2<=_;decide) (by simp only[push_cast,reduceIte,reduceEqDiff,reduceAdd,reduceSub,reduceMul,Nat.reduceBEq,reduceLT,reduceLeDiff,reduceCtorEq,reduceToNat,reduceNeg]<;>first|exact fun _ _=>trivial|simp) ?_
 simp only[ac15,rv15,push_cast,reduceIte,reduceEqDiff,reduceAdd,reduceSub,reduceMul,Nat.reduceBEq,reduceLT,reduceLeDiff,reduceCtorEq,reduceToNat,reduceNeg]
 refine qrm hS sC ?_
 refine sB ?_
 exact fun _ _=>trivial
theorem qE5(v:List Bool)(hv:v.length=c.sel.length):FnEq Tryz.prog 13 [.agg (qDX false g c (qCs g c c.sel.length) s pads),.sl false 1 (rows qk7 v)] (.bool (decide (qxj (rndF g c s pads) c.sel.length v=v))):=by
 have hS:=qDb g hg c hc s pads v hv
 refine FnEq.of_awp Tryz.func13 ok13 (by show 2<=_;decide) (by simp only[push_cast,reduceIte,reduceEqDiff,reduceAdd,reduceSub,reduceMul,Nat.reduceBEq,reduceLT,reduceLeDiff,reduceCtorEq,reduceToNat,reduceNeg]<;>first|exact fun _ _=>trivial|simp) ?_
 simp only[ac13,rv13,push_cast,reduceIte,reduceEqDiff,reduceAdd,reduceSub,reduceMul,Nat.reduceBEq,reduceLT,reduceLeDiff,reduceCtorEq,reduceToNat,reduceNeg]
 refine qrm hS sC ?_
 exact sC
set_option maxHeartbeats 4000000 in
theorem qE6(n:Nat)(hn:n<c.sel.length):FnEq Tryz.prog 26 [.agg (qDX false g c (qCs g c c.sel.length) s pads),.int n] (.sl true 1 (ints (natI (depF g c n)))):=by
 have e0: ∀(l:List Int) (j:Nat),l.getD j default=l.getD j 0:=fun _ _=>rfl
 have hcn:=hg.count
 obtain⟨l1,l2,l3,l4⟩:=hc.ln
 have hD:=qDO g hg (n:Int)
 rw[show quK g n=(quJ g n,0)by rw[quK,if_neg (by omega)]]at hD
 have hdr:(qCs g c c.sel.length).getD n 0=qzD g c n:=qCB hn
 have hdl:=qD6 g c c.sel.length
 have hrg:=qCi hg hc hn
 generalize qCs g c c.sel.length=dr at *
 refine FnEq.of_awp Tryz.func26 ok26 (by show 2<=_;decide) (by simp only[push_cast,reduceIte,reduceEqDiff,reduceAdd,reduceSub,reduceMul,Nat.reduceBEq,reduceLT,reduceLeDiff,reduceCtorEq,reduceToNat,reduceNeg]<;>first|exact fun _ _=>trivial|simp) ?_
 simp only[ac26,rv26,push_cast,reduceIte,reduceEqDiff,reduceAdd,reduceSub,reduceMul,Nat.reduceBEq,reduceLT,reduceLeDiff,reduceCtorEq,reduceToNat,reduceNeg]
 refine qrm hD sC ?_
 refine sB ?_
 refine qnR (fun h1=> ?_) fun h1=> ?_
 ·refine qro (quH g hg) sC rfl ?_
  simp only[e0,push_cast,reduceIte,reduceEqDiff,reduceAdd,reduceSub,reduceMul,Nat.reduceBEq,reduceLT,reduceLeDiff,reduceCtorEq,reduceToNat,reduceNeg]
  have hk:=(qCf hg n).1 h1
  have ht:=qCe hg hk.1
  have hE:=qC8 hg
  have hq:(n:Int)/quC g=((n/qC4 g:Nat):Int):=by rw[<- hE.1];rfl
  have hT:=hc.tile _ ht
  have hdp:depF g c n=if c.mode.getD (n/qC4 g) 0=1\/c.mode.getD (n/qC4 g) 0=2 then[n+2,n+3,n+4,n+5]else if c.mode.getD (n/qC4 g) 0=3 then[n+2,n+3,n+4]else[]:=if_pos h1
  have hE1:=hg.each
  rw[hq,Int.toNat_natCast]
  generalize n/qC4 g=t at *
  refine⟨⟨by omega,by omega,by omega⟩,by omega,by omega,?_⟩
  refine qnR (fun h2=> ?_) fun h2=> ?_
  ·refine qnR (fun _=> ?_) fun q=>absurd h2 q
   rw[hdp,if_pos (.inl h2)]
   exact⟨by omega,by omega,by omega,by omega,by simp,fun _ _=>trivial,.refl _⟩
  refine qnR (fun h3=> ?_) fun h3=> ?_
  ·rw[hdp,if_pos (.inr h3)]
   exact⟨by omega,by omega,by omega,by omega,by simp,fun _ _=>trivial,.refl _⟩
  rw[if_neg (fun q=>q.elim h2 h3)]at hdp
  refine qnR (fun h4=> ?_) fun h4=> ?_
  ·rw[hdp,if_pos h4]
   exact⟨by omega,by omega,by omega,by simp,fun _ _=>trivial,.refl _⟩
  ·rw[hdp,if_neg h4]
   rfl
 ·refine⟨by omega,by omega,?_⟩
  simp only[e0,hdr]
  have hdp:depF g c n=if 0<=qzD g c n then[(qzD g c n).toNat]else[]:=if_neg h1
  refine qnR (fun h2=> ?_) fun h2=> ?_
  ·rw[hdp,if_pos h2]
   have e:natI [(qzD g c n).toNat]=[qzD g c n]:=by
    show[(((qzD g c n).toNat:Nat):Int)]=_
    rw[Int.toNat_of_nonneg h2]
   rw[e]
   exact⟨by omega,by omega,by simp,fun _ _=>trivial,.refl _⟩
  ·rw[hdp,if_neg h2]
   rfl
set_option maxHeartbeats 4000000 in
theorem qE7:FnEq Tryz.prog 9 [.agg (qDX false g c (qCs g c c.sel.length) s pads)] (.bool (decide (cntM (depF g c) c.sel.length (c.sel.length+1)<c.sel.length))):=by
 have e0: ∀(l:List Int) (j:Nat),l.getD j default=l.getD j 0:=fun _ _=>rfl
 have e1: ∀(l:List Bool) (j:Nat),l.getD j default=l.getD j false:=fun _ _=>rfl
 have hcn:=hg.count
 have l1:=hc.ln.1
 have hD:=qE6 g hg c hc s pads
 have hdl:=qD6 g c c.sel.length
 generalize qCs g c c.sel.length=dr at *
 have hrg:=(qCj hg hc s pads).rng
 have hdn: ∀k,(depF g c k).length<=4:=fun k=>by
  unfold depF
  split
  ·split
   ·simp
   ·split<;>simp
  ·split<;>simp
 generalize hdep:depF g c=dep at *
 generalize hn:c.sel.length=n at *
 have hM: ∀r k,k<=n->(qxy dep (qxz dep n r) k).length=n/\cntM dep n r+cntN dep (qxz dep n r) k<=n:=fun r k hk=>by
  obtain⟨o,ho,e⟩:=qxC dep n r
  obtain⟨o',ho',e'⟩:=ho.sweep k hk
  exact⟨ho'.len,by have:=ho'.cnt;omega⟩
 refine FnEq.of_awp Tryz.func9 ok9 (by show 1<=_;decide) (by simp only[push_cast,reduceIte,reduceEqDiff,reduceAdd,reduceSub,reduceMul,Nat.reduceBEq,reduceLT,reduceLeDiff,reduceCtorEq,reduceToNat,reduceNeg]<;>first|exact fun _ _=>trivial|simp) ?_
 simp only[ac9,rv9,push_cast,reduceIte,reduceEqDiff,reduceAdd,reduceSub,reduceMul,Nat.reduceBEq,reduceLT,reduceLeDiff,reduceCtorEq,reduceToNat,reduceNeg]
 refine⟨by omega,?_⟩
 refine qoH (fun m st=> ∃r:Nat,r<=n+1/\m=n+1-r/\st=⟨[(1,.ptr 1 0),(3,.view 14 0 n),(4,.int ((n:Int)-cntM dep n r)),(5,.int r)],[(1,qDX false g c dr s pads)],[(14,⟨1,4,rows qk7 (qxz dep n r)⟩)],[]⟩) (n+1) ?_ ?_
 ·refine⟨0,by omega,by omega,?_⟩
  simp only[cntM,qxz,List.length_replicate,hn,push_cast,reduceIte,reduceEqDiff,reduceAdd,reduceSub,reduceMul,Nat.reduceBEq,reduceLT,reduceLeDiff,reduceCtorEq,reduceToNat,reduceNeg]
  rw[Int.sub_zero]
  try rfl
 rintro m st ⟨r,hr,rfl,rfl⟩
 have hMr:=hM r
 obtain⟨hm0,hc0⟩:=hM r 0 (by omega)
 rw[qxy]at hm0
 rw[cntN]at hc0
 generalize hF:qxz dep n r=F at *
 generalize hC:cntM dep n r=C at *
 refine sB ?_
 refine qnR (fun h=> ?_) fun h=> ?_
 ·refine qoH (fun m st=> ∃k:Nat,k<=n/\m=n-k/\st=⟨[(1,.ptr 1 0),(3,.view 14 0 n),(4,.int ((n:Int)-C-cntN dep F k)),(5,.int r),(6,.int k)],[(1,qDX false g c dr s pads)],[(14,⟨1,4,rows qk7 (qxy dep F k)⟩)],[]⟩) n ?_ ?_
  ·refine⟨0,by omega,by omega,?_⟩
   simp only[cntN,qxy,push_cast,reduceIte,reduceEqDiff,reduceAdd,reduceSub,reduceMul,Nat.reduceBEq,reduceLT,reduceLeDiff,reduceCtorEq,reduceToNat,reduceNeg]
   rw[Int.sub_zero]
   try rfl
  rintro m st ⟨k,hk,rfl,rfl⟩
  refine sB ?_
  refine qnR (fun h1=> ?_) fun h1=> ?_
  ·refine qrm (hD k (by omega)) sC ?_
   simp only[e1,push_cast,reduceIte,reduceEqDiff,reduceAdd,reduceSub,reduceMul,Nat.reduceBEq,reduceLT,reduceLeDiff,reduceCtorEq,reduceToNat,reduceNeg]
   obtain⟨hms,hcs⟩:=hMr k (by omega)
   obtain⟨hms1,hcs1⟩:=hMr (k+1) (by omega)
   have hsw:qxy dep F (k+1)=qxx dep (qxy dep F k) k:=rfl
   have hcw:cntN dep F (k+1)=cntN dep F k+if qxw dep (qxy dep F k) k=true then 1 else 0:=rfl
   have hd4:=hdn k
   have hrk:=hrg k (by omega)
   unfold qxx qxw at hsw
   unfold qxw at hcw
   generalize qxy dep F k=S at *
   generalize cntN dep F k=D at *
   generalize dep k=l at *
   refine⟨by omega,by omega,?_⟩
   refine qoH (fun m st=> ∃i:Nat,i<=l.length/\m=l.length-i/\st=⟨[(1,.ptr 1 0),(3,.view 14 0 n),(4,.int ((n:Int)-C-D)),(5,.int r),(6,.int k),(7,.sl true 1 (ints (natI l))),(8,.bool (!S.getD k false&&(l.take i).all fun j=>S.getD j false)),(9,.int i)],[(1,qDX false g c dr s pads)],[(14,⟨1,4,rows qk7 S⟩)],[]⟩) l.length ?_ ?_
   ·refine⟨0,by omega,by omega,?_⟩
    simp only[List.take_zero,List.all_nil,Bool.and_true,push_cast,reduceIte,reduceEqDiff,reduceAdd,reduceSub,reduceMul,Nat.reduceBEq,reduceLT,reduceLeDiff,reduceCtorEq,reduceToNat,reduceNeg]
    try rfl
   rintro m st ⟨i,hi,rfl,rfl⟩
   have hnl:(natI l).length=l.length:=by simp[natI]
   simp only[e0,e1,hnl,push_cast,reduceIte,reduceEqDiff,reduceAdd,reduceSub,reduceMul,Nat.reduceBEq,reduceLT,reduceLeDiff,reduceCtorEq,reduceToNat,reduceNeg]
   refine qnR (fun h2=> ?_) fun h2=> ?_
   ·have hil:i<l.length:=by omega
    have hta:(l.take (i+1)).all (fun j=>S.getD j false)=((l.take i).all (fun j=>S.getD j false)&&S.getD (l.getD i 0) false):=by
     have e:l.getD i 0=l[i]:=by rw[List.getD_eq_getElem?_getD,List.getElem?_eq_getElem hil];rfl
     rw[e,List.take_add_one,List.getElem?_eq_getElem hil,List.all_append]
     simp
    have hgi:(natI l).getD i 0=((l.getD i 0:Nat):Int):=by
     rw[List.getD_eq_getElem?_getD,natI,List.getElem?_map,List.getElem?_eq_getElem hil,List.getD_eq_getElem?_getD,List.getElem?_eq_getElem hil];rfl
    have hlr:=hrk (l.getD i 0) (by rw[List.getD_eq_getElem?_getD,List.getElem?_eq_getElem hil];exact List.getElem_mem hil)
    generalize hb:(!S.getD k false&&(l.take i).all fun j=>S.getD j false)=b at *
    have hst:(!S.getD k false&&(l.take (i+1)).all fun j=>S.getD j false)=(b&&S.getD (l.getD i 0) false):=by rw[hta,<- Bool.and_assoc,hb]
    refine qrs rfl (fun eb=> ?_) fun eb=> ?_<;>simp only[e0,e1,hgi,push_cast,reduceIte,reduceEqDiff,reduceAdd,reduceSub,reduceMul,Nat.reduceBEq,reduceLT,reduceLeDiff,reduceCtorEq,reduceToNat,reduceNeg]
    ·rw[eb,Bool.true_and]at hst
     refine⟨by omega,by omega,by omega,by omega,by omega,_,?_,i+1,by omega,rfl,?_⟩
     ·omega
     ·rw[hst];rfl
    ·rw[eb,Bool.false_and]at hst
     refine⟨by omega,_,?_,i+1,by omega,rfl,?_⟩
     ·omega
     ·rw[hst];rfl
   ·have hil:i=l.length:=by omega
    rw[hil,List.take_length]
    refine qnQ (fun e=> ?_) fun e=> ?_
    ·rw[if_pos e]at hsw hcw
     refine⟨by omega,by omega,by omega,by omega,_,?_,k+1,by omega,rfl,?_⟩
     ·omega
     ·rw[hsw,hcw,show(n:Int)-C-D-1=(n:Int)-C-((D+1:Nat):Int)by omega]
      rfl
    ·rw[if_neg (by rw[e];decide)]at hsw hcw
     refine⟨by omega,_,?_,k+1,by omega,rfl,?_⟩
     ·omega
     ·rw[hsw,hcw]
      rfl
  ·have hkn:k=n:=by omega
   subst hkn
   refine⟨by omega,_,?_,r+1,by omega,rfl,?_⟩
   ·omega
   ·rw[cntM,qxz,hF,hC]
    rw[show(k:Int)-C-cntN dep F k=(k:Int)-((C+cntN dep F k:Nat):Int)by omega]
    rfl
 ·have hrn:r=n+1:=by omega
  rw[<- hrn,hC]
  have e:((0:Int)<(n:Int)-(C:Int)) ↔ C<n:=by omega
  simp only[e]
end
end Go.Proofs.YtdmkfgkmnpohlaaGreat
namespace Go.Proofs.YtdmkfgkmnpohlaaGreat.Txt
open Go Go.Vc
set_option maxRecDepth 100000
def ac43m:AC:=
 (.seq (.reg [0,103,0,1,2] [
 (aO 3 (.box (.t 0))),(aO 4 (.box (.t 1))),(aO 5 (.box (.t 2))),(aO 6 (.mv (.c (.sc (.bool false)))))])
 (.seq (.seq (.reg [0,103,3,4,5] [
 (aO 11 (.fa 0 (.t 5))),(aO 12 (.ld false 1 (.t 11))),(aO 13 (.len (.t 12))),(aO 14 (.fa 1 (.t 3))),(aO 15 (.ld false 1 (.t 14))),(aO 16 (.len (.t 15))),(aO 17 (.cmp .neq .i64 (.t 13) (.t 16)))])
 (.cond (.t 17)
 (.seq (.reg [0,103] [
 (aO 6 (.mv (.c (.sc (.bool false)))))])
 .ret)
 .skip))
 (.seq (.seq (.reg [0,103,3,4,5] [
 (aO 7 (.mv (kI 0)))])
 (.block 0
 (.loop [0,103,3,4,5,7]
 (.seq (.seq (.reg [0,103,3,4,5,7] [
 (aO 18 (.mv (.t 7))),(aO 19 (.fa 0 (.t 5))),(aO 20 (.ld false 1 (.t 19))),(aO 21 (.len (.t 20))),(aO 22 (.cmp .lss .i64 (.t 18) (.t 21)))])
 (.cond (.t 22)
 .skip
 (.exit 0)))
 (.seq (.block 1
 (.seq (.drw [0,103,3,4,5,7] [
 (eT 25 (.ld true 5 (.t 4))),(eT 26 (.fa 1 (.t 3))),(eT 27 (.ld false 1 (.t 26))),(eT 28 (.mv (.t 7))),(eT 29 (.ixs 5 (.t 27) (.t 28))),(eT 30 (.ld true 5 (.t 29))),(eT 31 (.fa 0 (.t 5))),(eT 32 (.ld false 1 (.t 31))),(eT 33 (.mv (.t 7))),(eT 34 (.ixs 1 (.t 32) (.t 33))),(eT 35 (.ld false 1 (.t 34))),(eF 36 (.cal 73 [(.t 25),(.t 30),(.t 35)])),(eF 37 (.not (.t 36))),(eF 38 (.mv (.t 37))),⟨⟨some 39,some (38,false),.fa 0 (.t 5)⟩,[],[],true⟩,⟨⟨some 40,some (38,false),.ld false 1 (.t 39)⟩,[],[],true⟩,⟨⟨some 41,some (38,false),.mv (.t 7)⟩,[],[],true⟩,⟨⟨some 42,some (38,false),.slc 1 (.t 40) none (some (.t 41))⟩,[],[],true⟩,⟨⟨some 43,some (38,false),.fa 0 (.t 5)⟩,[],[],true⟩,⟨⟨some 44,some (38,false),.ld false 1 (.t 43)⟩,[],[],true⟩,⟨⟨some 45,some (38,false),.mv (.t 7)⟩,[],[],true⟩,⟨⟨some 46,some (38,false),.ixs 1 (.t 44) (.t 45)⟩,[],[],true⟩,⟨⟨some 47,some (38,false),.ld false 1 (.t 46)⟩,[],[],true⟩,⟨⟨some 48,some (38,false),.cal 44 [(.t 42),(.t 47)]⟩,[],[],false⟩,⟨⟨some 49,some (38,false),.cmp .geq .i64 (.t 48) (kI 0)⟩,[],[],false⟩,(eF 50 (.pick (.t 38) (.c (.sc (.bool true))) (.t 49)))])
 (.cut [0,103,3,4,5,7,50] (.cond (.t 50)
 (.seq (.reg [0,103] [
 (aO 6 (.mv (.c (.sc (.bool false)))))])
 .ret)
 .skip))))
 (.reg [0,103,3,4,5,7] [
 (aO 23 (.mv (.t 7))),(aO 24 (.ari .add true .i64 (.t 23) (kI 1))),(aO 7 (.mv (.t 24)))]))))))
 (.seq (.reg [0,103,4,5] [
 (aO 51 (.ld true 5 (.t 4))),(aO 52 (.cal 41 [(.t 51)])),(aO 53 (.mks 1 4 1 [.sc (.bool false)] (.t 52) (.t 52))),(aO 8 (.mv (.t 53)))])
 (.seq (.seq (.reg [0,103,4,5,8] [
 (aO 9 (.mv (kI 0)))])
 (.block 2
 (.loop [0,103,4,5,8,9]
 (.seq (.seq (.reg [0,103,4,5,8,9] [
 (aO 54 (.mv (.t 9))),(aO 55 (.fa 1 (.t 5))),(aO 56 (.ld false 1 (.t 55))),(aO 57 (.len (.t 56))),(aO 58 (.cmp .lss .i64 (.t 54) (.t 57)))])
 (.cond (.t 58)
 .skip
 (.exit 2)))
 (.seq (.block 3
 (.seq (.seq (.drw [0,103,4,5,8,9] [
 (eT 61 (.ld true 5 (.t 4))),(eT 62 (.fa 1 (.t 5))),(eT 63 (.ld false 1 (.t 62))),(eT 64 (.mv (.t 9))),(eT 65 (.ixs 3 (.t 63) (.t 64))),(eT 66 (.ld true 3 (.t 65))),(eF 67 (.cal 76 [(.t 61),(.t 66)])),(eF 68 (.not (.t 67)))])
 (.cond (.t 68)
 (.seq (.reg [0,103] [
 (aO 6 (.mv (.c (.sc (.bool false)))))])
 .ret)
 .skip))
 (.seq (.reg [0,103,4,5,8,9] [
 (aO 10 (.mv (kI 0)))])
 (.block 4
 (.loop [0,103,4,5,8,9,10]
 (.seq (.seq (.reg [0,103,4,5,8,9,10] [
 (aO 69 (.mv (.t 10))),(aO 70 (.fa 1 (.t 5))),(aO 71 (.ld false 1 (.t 70))),(aO 72 (.mv (.t 9))),(aO 73 (.ixs 3 (.t 71) (.t 72))),(aO 74 (.fa 1 (.t 73))),(aO 75 (.ld false 1 (.t 74))),(aO 76 (.len (.t 75))),(aO 77 (.cmp .lss .i64 (.t 69) (.t 76)))])
 (.cond (.t 77)
 .skip
 (.exit 4)))
 (.seq (.block 5
 (.seq (.seq (.reg [0,103,4,5,8,9,10] [
 (aO 80 (.mv (.t 8))),(aO 81 (.fa 1 (.t 5))),(aO 82 (.ld false 1 (.t 81))),(aO 83 (.mv (.t 9))),(aO 84 (.ixs 3 (.t 82) (.t 83))),(aO 85 (.fa 1 (.t 84))),(aO 86 (.ld false 1 (.t 85))),(aO 87 (.mv (.t 10))),(aO 88 (.ixs 1 (.t 86) (.t 87))),(aO 89 (.ld false 1 (.t 88))),(aO 90 (.ixs 1 (.t 80) (.t 89))),(aO 91 (.ld false 1 (.t 90)))])
 (.cond (.t 91)
 (.seq (.reg [0,103] [
 (aO 6 (.mv (.c (.sc (.bool false)))))])
 .ret)
 .skip))
 (.reg [0,103,4,5,8,9,10] [
 (aO 92 (.mv (.t 8))),(aO 93 (.fa 1 (.t 5))),(aO 94 (.ld false 1 (.t 93))),(aO 95 (.mv (.t 9))),(aO 96 (.ixs 3 (.t 94) (.t 95))),(aO 97 (.fa 1 (.t 96))),(aO 98 (.ld false 1 (.t 97))),(aO 99 (.mv (.t 10))),(aO 100 (.ixs 1 (.t 98) (.t 99))),(aO 101 (.ld false 1 (.t 100))),(aO 102 (.ixs 1 (.t 92) (.t 101))),(aN (.sto 1 (.t 102) (.c (.sc (.bool true)))))])))
 (.reg [0,103,4,5,8,9,10] [
 (aO 78 (.mv (.t 10))),(aO 79 (.ari .add true .i64 (.t 78) (kI 1))),(aO 10 (.mv (.t 79)))]))))))))
 (.reg [0,103,4,5,8,9] [
 (aO 59 (.mv (.t 9))),(aO 60 (.ari .add true .i64 (.t 59) (kI 1))),(aO 9 (.mv (.t 60)))]))))))
 (.seq (.reg [0,103] [
 (aO 6 (.mv (.c (.sc (.bool true)))))])
 .ret))))))
def rv43m:List RV:=[.tmp 6]
theorem ok43m:fnOk Tryz.prog ac43m rv43m Tryz.f43=true:=by kernel_rfl
end Go.Proofs.YtdmkfgkmnpohlaaGreat.Txt
namespace Go.Proofs.YtdmkfgkmnpohlaaGreat
open Go Go.Vc Txt
structure FitsU (p:Packed) (g:Grid) (l:Layout):Prop where
 len:l.pos.length=p.blocks.length
 fit: ∀k,k<l.pos.length->qzX g (p.blocks.getD k default) (l.pos.getD k 0)/\l.pos.getD k 0∉l.pos.take k
 sh: ∀r∈l.routes,RouteSh g r
 nds:(qAK l.routes).Nodup
theorem fitsU_iff{p:Packed}{g:Grid}{l:Layout} :FitsU p g l ↔ FitsF p g l:=by
 constructor
 ·rintro⟨h1,h2,h3,h4⟩
  refine⟨h1,fun z hz=> ?_,(qAR _).2 fun i hi=>(h2 i hi).2,h3,h4⟩
  obtain⟨i,hi,e⟩:=List.getElem_of_mem hz
  rw[List.getElem_zip]at e
  rw[List.length_zip]at hi
  have:=(h2 i (by omega)).1
  rw[<- e]
  simpa[show i<p.blocks.length by omega,show i<l.pos.length by omega]using this
 ·rintro⟨h1,h2,h3,h4,h5⟩
  refine⟨h1,fun k hk=>⟨?_,(qAR _).1 h3 k hk⟩,h4,h5⟩
  have:=h2 (p.blocks[k]'(by omega),l.pos[k]) (List.mem_iff_getElem.2 ⟨k,by rw[List.length_zip];omega,by rw[List.getElem_zip]⟩)
  simpa[show k<p.blocks.length by omega,hk]using this
theorem qE8{rs:List Route}{k:Nat}(h:k<rs.length):qAK (rs.take (k+1))=qAK (rs.take k)++(rs.getD k default).nodes:=by
 unfold qAK
 rw[List.take_add_one,List.getElem?_eq_getElem h,List.map_append,List.flatten_append,List.getD_eq_getElem?_getD,List.getElem?_eq_getElem h]
 simp
theorem qE9{rs:List Route}{k:Nat}(h:k<rs.length):qAK rs=qAK (rs.take k)++((rs.getD k default).nodes++qAK (rs.drop (k+1))):=by
 rw[<- List.append_assoc,<- qE8 h]
 unfold qAK
 rw[<- List.flatten_append,<- List.map_append,List.take_append_drop]
open Classical in
set_option maxHeartbeats 4000000 in
theorem qEa (p : Packed) (g : Grid) (hg : GOk g) (l : Layout) (h1 : (l.pos.length : Int) <= 1000000) (h2 : (l.routes.length : Int) <= 1000000) (h3 : ∀ r ∈ l.routes, (r.nodes.length : Int) <= 1000000 /\ (r.frm.length : Int) <= 1000000) :
  FnEq Tryz.prog 43 [.agg (qwC false p),.agg (quy false g),.agg (layC false l)] (.bool (decide (FitsF p g l))):=by
 have hcn:=hg.count
 have hiff:=fitsU_iff (p:=p) (g:=g) (l:=l)
 refine FnEq.of_awp Tryz.func43 ok43m (by show 3<=_;decide) (by simp only[push_cast,reduceIte,reduceEqDiff,reduceAdd,reduceSub,reduceMul,Nat.reduceBEq,reduceLT,reduceLeDiff,reduceCtorEq,reduceToNat,reduceNeg]<;>first|exact fun _ _=>trivial|simp) ?_
 simp only[ac43m,rv43m,push_cast,reduceIte,reduceEqDiff,reduceAdd,reduceSub,reduceMul,Nat.reduceBEq,reduceLT,reduceLeDiff,reduceCtorEq,reduceToNat,reduceNeg]
 refine qnR (fun e=> ?_) fun e=> ?_
 ·rw[decide_eq_false fun h=>by have:=h.len;omega]
 have hlen:l.pos.length=p.blocks.length:=by omega
 refine qoH (fun m st=> ∃k:Nat,k<=l.pos.length/\m=l.pos.length-k/\(∀i,i<k->qzX g (p.blocks.getD i default) (l.pos.getD i 0)/\l.pos.getD i 0∉l.pos.take i)/\
  st=⟨[(3,.ptr 3 0),(4,.ptr 4 0),(5,.ptr 5 0),(7,.int k)],[(3,qwC false p),(4,quy false g),(5,layC false l)],[],[]⟩) l.pos.length ?_ ?_
 ·refine⟨0,by omega,by omega,fun i hi=>by omega,?_⟩
  simp only[push_cast,reduceIte,reduceEqDiff,reduceAdd,reduceSub,reduceMul,Nat.reduceBEq,reduceLT,reduceLeDiff,reduceCtorEq,reduceToNat,reduceNeg]
  try done
 rintro m st ⟨k,hk,rfl,hup,rfl⟩
 have e0: ∀(l:List Int) (j:Nat),l.getD j default=l.getD j 0:=fun _ _=>rfl
 simp only[e0,push_cast,reduceIte,reduceEqDiff,reduceAdd,reduceSub,reduceMul,Nat.reduceBEq,reduceLT,reduceLeDiff,reduceCtorEq,reduceToNat,reduceNeg]
 refine qnR (fun h=> ?_) fun h=> ?_
 ·obtain⟨C,hC⟩: ∃C,C=decide (¬(qzX g (p.blocks.getD k default) (l.pos.getD k 0)/\l.pos.getD k 0∉l.pos.take k)):=⟨_,rfl⟩
  repeat (refine And.intro (by omega) ?_)
  first|refine qro (qzY g hg (p.blocks.getD k default) (l.pos.getD k 0)) (by exact⟨.refl _,.refl _,.refl _,trivial⟩) rfl ?_|refine qrm (qzY g hg (p.blocks.getD k default) (l.pos.getD k 0)) (by exact⟨.refl _,.refl _,.refl _,trivial⟩) ?_
  simp only[e0,push_cast,reduceIte,reduceEqDiff,reduceAdd,reduceSub,reduceMul,Nat.reduceBEq,reduceLT,reduceLeDiff,reduceCtorEq,reduceToNat,reduceNeg]
  refine qrz ⟨[(3,.ptr 3 0),(4,.ptr 4 0),(5,.ptr 5 0),(7,.int k),(50,.bool C)],[(3,qwC false p),(4,quy false g),(5,layC false l)],[],[]⟩ ?_ ?_
  ·refine qrx rfl (fun q1=> ?_) fun q1=> ?_<;>simp only[e0,push_cast,reduceIte,reduceEqDiff,reduceAdd,reduceSub,reduceMul,Nat.reduceBEq,reduceLT,reduceLeDiff,reduceCtorEq,reduceToNat,reduceNeg]
   ·rw[show C=true from by rw[hC];exact decide_eq_true fun h=>qyX q1 h.1]
   ·replace q1:=qyY q1
    repeat (refine And.intro (by omega) ?_)
    refine qrm (qzW (l.pos.take k) (by rw[List.length_take];omega) (l.pos.getD k 0)) sC ?_
    refine sB ?_
    rw[show C=decide (0<=qzU (l.pos.take k) (l.pos.getD k 0))from by
     rw[hC,decide_eq_decide]
     unfold qzU
     split
     ·rename_i q3;exact⟨fun _=>by omega,fun _ h=>h.2 q3⟩
     ·rename_i q3;exact⟨fun h=>absurd ⟨q1,q3⟩ h,fun h=>by omega⟩]
  refine sB ?_
  refine qnQ (fun q=> ?_) fun q=> ?_
  ·rw[hC,decide_eq_true_eq]at q
   rw[decide_eq_false fun h2=>q ((hiff.2 h2).fit k (by omega))]
  ·rw[hC,decide_eq_false_iff_not,Classical.not_not]at q
   refine⟨by omega,_,?_,k+1,by omega,rfl,fun i hi=> ?_,?_⟩
   ·omega
   ·by_cases h3:i=k
    ·subst h3;exact q
    ·exact hup i (by omega)
   ·exact sC
 have hk2:k=l.pos.length:=by omega
 subst hk2
 refine qrm (quI g hg) sC ?_
 refine sB ?_
 repeat (refine And.intro (by omega) ?_)
 obtain⟨c,hc⟩: ∃c:Nat,quD g=c:=⟨(quD g).toNat,by omega⟩
 rw[hc,Int.toNat_natCast,List.length_replicate,qA9]
 refine qoH (fun m st=> ∃k:Nat,k<=l.routes.length/\m=l.routes.length-k/\((∀i,i<k->RouteSh g (l.routes.getD i default))/\(qAK (l.routes.take k)).Nodup)/\
  st=⟨[(4,.ptr 4 0),(5,.ptr 5 0),(8,.view 53 0 c),(9,.int k)],[(4,quy false g),(5,layC false l)],[(53,⟨1,4,rows qk7 (qA5 c (qAK (l.routes.take k)))⟩)],[]⟩) l.routes.length ?_ ?_
 ·refine⟨0,by omega,by omega,⟨fun i hi=>by omega,by simp[qAK]⟩,?_⟩
  simp only[List.take_zero,show qAK []=[]from rfl,push_cast,reduceIte,reduceEqDiff,reduceAdd,reduceSub,reduceMul,Nat.reduceBEq,reduceLT,reduceLeDiff,reduceCtorEq,reduceToNat,reduceNeg]
  try done
 rintro m st ⟨k,hk,rfl,⟨hsh,hnd⟩,rfl⟩
 simp only[e0,push_cast,reduceIte,reduceEqDiff,reduceAdd,reduceSub,reduceMul,Nat.reduceBEq,reduceLT,reduceLeDiff,reduceCtorEq,reduceToNat,reduceNeg]
 refine qnR (fun h=> ?_) fun h=> ?_
 ·have hkl:k<l.routes.length:=by omega
  have hrm:l.routes.getD k default∈l.routes:=by simp[hkl]
  have hft:=qE8 hkl
  have hfs:=qE9 hkl
  have hrl:=h3 _ hrm
  have hRt:=qDU g hg (l.routes.getD k default) hrl.1 hrl.2
  generalize hr:l.routes.getD k default=r at *
  repeat (refine And.intro (by omega) ?_)
  first|refine qro hRt (by exact⟨.refl _,.refl _,trivial⟩) rfl ?_|refine qrm hRt (by exact⟨.refl _,.refl _,trivial⟩) ?_
  refine sB ?_
  refine qnQ (fun q=> ?_) fun q=> ?_
  ·rw[decide_eq_false fun h2=>qyX q (h2.sh _ hrm)]
  replace q:=qyY q
  generalize hF:qAK (l.routes.take k)=sn at *
  refine qoH (fun m st=> ∃j:Nat,j<=r.nodes.length/\m=r.nodes.length-j/\(sn++r.nodes.take j).Nodup/\
   st=⟨[(4,.ptr 4 0),(5,.ptr 5 0),(8,.view 53 0 c),(9,.int k),(10,.int j)],[(4,quy false g),(5,layC false l)],[(53,⟨1,4,rows qk7 (qA5 c (sn++r.nodes.take j))⟩)],[]⟩) r.nodes.length ?_ ?_
  ·refine⟨0,by omega,by omega,by simpa using hnd,?_⟩
   simp only[List.take_zero,List.append_nil,push_cast,reduceIte,reduceEqDiff,reduceAdd,reduceSub,reduceMul,Nat.reduceBEq,reduceLT,reduceLeDiff,reduceCtorEq,reduceToNat,reduceNeg]
   try done
  rintro m st ⟨j,hj,rfl,hnj,rfl⟩
  simp only[e0,hr,push_cast,reduceIte,reduceEqDiff,reduceAdd,reduceSub,reduceMul,Nat.reduceBEq,reduceLT,reduceLeDiff,reduceCtorEq,reduceToNat,reduceNeg]
  repeat (refine And.intro (by omega) ?_)
  refine qnR (fun h4=> ?_) fun h4=> ?_
  ·have hjl:j<r.nodes.length:=by omega
   have hn:=q.rng _ (qza (l:=r.nodes) (k:=j) hjl)
   have ht:=qAB (l:=r.nodes) (k:=j) hjl
   simp only[qA6,push_cast,reduceIte,reduceEqDiff,reduceAdd,reduceSub,reduceMul,Nat.reduceBEq,reduceLT,reduceLeDiff,reduceCtorEq,reduceToNat,reduceNeg]
   repeat (refine And.intro (by omega) ?_)
   rw[show((qA5 c (sn++List.take j r.nodes)).getD (r.nodes.getD j 0).toNat default)=decide (r.nodes.getD j 0∈sn++List.take j r.nodes)from qA7 (by omega) _]
   refine qnR (fun q2=> ?_) fun q2=> ?_
   ·rw[decide_eq_false fun h2=> ?_]
    have hN:=(hiff.2 h2).nds
    rw[hfs,<- List.append_assoc]at hN
    have hsub:(sn++r.nodes.take (j+1)).Sublist (sn++r.nodes++qAK (l.routes.drop (k+1))):=(List.Sublist.append (List.Sublist.refl _) (List.take_sublist _ _)).trans (List.sublist_append_left _ _)
    have:=hN.sublist hsub
    rw[ht,<- List.append_assoc,List.nodup_append]at this
    exact this.2.2 _ q2 _ (List.mem_singleton.2 rfl) rfl
   ·refine⟨by omega,by omega,by omega,by omega,by omega,by omega,by omega,_,?_,j+1,by omega,rfl,?_,?_⟩
    ·omega
    ·rw[ht,<- List.append_assoc,List.nodup_append]
     exact⟨hnj,by simp,fun a ha b hb e=>q2 (by rw[List.mem_singleton]at hb;subst hb;subst e;exact ha)⟩
    ·rw[ht,<- List.append_assoc,<- qA8 (by omega)]
     exact sC
  rw[List.take_of_length_le (show r.nodes.length<=j by omega)]at hnj ⊢
  refine⟨by omega,_,?_,k+1,by omega,rfl,⟨fun i hi=> ?_,?_⟩,?_⟩
  ·omega
  ·by_cases h5:i=k
   ·subst h5;rw[hr];exact q
   ·exact hsh i (by omega)
  ·rw[hft];exact hnj
  ·rw[hft]
   exact sC
 have hk3:k=l.routes.length:=by omega
 subst hk3
 rw[List.take_length]at hnd
 rw[decide_eq_true (hiff.1 ⟨hlen,hup,fun r hr=> ?_,hnd⟩)]
 obtain⟨i,hi,rfl⟩:=List.getElem_of_mem hr
 have:=hsh i hi
 simpa[hi]using this
theorem qEb{x:Int} : ∀ {l:List Int},l.Pairwise (· < ·)->x∈l->l.idxOf x=l.countP (· <x)
 | y :: l, hp, hx => by
   rw[List.pairwise_cons]at hp
   rw[List.idxOf_cons,List.countP_cons]
   by_cases e:y=x
   ·subst e
    have h0:l.countP (· <y)=0:=List.countP_eq_zero.2 fun z hz=>by have:=hp.1 z hz;simp;omega
    simp[h0]
   ·have hx' :x∈l:=by
     rcases List.mem_cons.1 hx with h|h
     ·exact absurd h.symm e
     ·exact h
    have:=hp.1 x hx'
    rw[qEb hp.2 hx',show(y==x)=false from by simpa using e,decide_eq_true this]
    rfl
theorem qEc(z:Block×Int): ∀(xs:List (Block×Int)) (c:Cfg),qB0 c (xs++[z])=qwO (qB0 c xs) z.1 z.2.toNat
 |[],_=>rfl
 |x::xs,c=>by rw[List.cons_append,qB0,qB0,qEc z xs]
theorem qEd{g:Grid} : ∀(xs:List (Block×Int)) {c:Cfg},qzs g c->qzs g (qB0 c xs)
 |[],_,h=>h
 |x::xs,_,h=>qEd xs (qAU h)
theorem qEe(g:Grid)(r:Route): ∀(rs:List Route) (sel:List Int),qAM g sel (rs++[r])=selR g (qAM g sel rs) r
 |[],_=>rfl
 |x::rs,sel=>by rw[List.cons_append,qAM,qAM,qEe g r rs]
def eiS(p:Packed)(g:Grid)(l:Layout):St:=⟨[(3,.ptr 3 0),(4,.ptr 4 0),(5,.ptr 5 0),(6,.ptr 6 0),(20,.agg (quy false g))],[(3,qwC false p),(4,quy false g),(5,layC false l),(6,[.nil,.nil,.nil,.nil,.int 0])],[],[]⟩
theorem qEf(p:Packed)(g:Grid)(hg:GOk g)(l:Layout):FnM (Env.of Tryz.prog) 37 [.agg (quy false g)] (eiS p g l) (fun v st' =>v= .agg (wilV (qwM g))/\st' = { eiS p g l with a:=wilA (qwM g) }):=by
 have h1:=hg.count
 have h2:=hg.wh
 have h3:=hg.kind
 refine FnM.dropB 201 (FnM.dropB 202 ?_)
 simp only[eiS,push_cast,reduceIte,reduceEqDiff,reduceAdd,reduceSub,reduceMul,Nat.reduceBEq,reduceLT,reduceLeDiff,reduceCtorEq,reduceToNat,reduceNeg]
 refine qtT 200 Tryz.func37 ok37_200w (by show 1<=_;decide) rfl (by decide) ?_
 simp only[ac37_200w,rv37_200w,push_cast,reduceIte,reduceEqDiff,reduceAdd,reduceSub,reduceMul,Nat.reduceBEq,reduceLT,reduceLeDiff,reduceCtorEq,reduceToNat,reduceNeg]
 refine⟨by omega,?_⟩
 refine qro (quI g hg) sC rfl ?_
 refine sB ?_
 refine⟨by omega,by omega,by omega,by omega,?_,?_⟩
 ·simp[wilV,qwM]
  omega
 ·rw[show(g.w*g.h).toNat=g.kind.length by omega]
  simp only[wilA,qwM,List.length_replicate,push_cast,reduceIte,reduceEqDiff,reduceAdd,reduceSub,reduceMul,Nat.reduceBEq,reduceLT,reduceLeDiff,reduceCtorEq,reduceToNat,reduceNeg]
open Classical in
set_option maxHeartbeats 8000000 in
theorem qEg (p : Packed) (g : Grid) (hg : GOk g) (l : Layout) (h1 : (l.pos.length : Int) <= 1000000) (h2 : (l.routes.length : Int) <= 1000000) (h3 : ∀ r ∈ l.routes, (r.nodes.length : Int) <= 1000000 /\ (r.frm.length : Int) <= 1000000) :
  FnEq Tryz.prog 23 [.agg (qwC false p),.agg (quy false g),.agg (layC false l)] (.agg (cfgC true (encF p g l).1++[.int (encF p g l).2])):=by
 have hcn:=hg.count
 have hkd:=hg.kind
 have hwh:=hg.wh
 have hF:=qEa p g hg l h1 h2 h3
 refine FnEq.of_awp Tryz.func23 ok23w (by show 3<=_;decide) (by simp only[push_cast,reduceIte,reduceEqDiff,reduceAdd,reduceSub,reduceMul,Nat.reduceBEq,reduceLT,reduceLeDiff,reduceCtorEq,reduceToNat,reduceNeg]<;>first|exact fun _ _=>trivial|simp) ?_
 simp only[ac23w,rv23w,push_cast,reduceIte,reduceEqDiff,reduceAdd,reduceSub,reduceMul,Nat.reduceBEq,reduceLT,reduceLeDiff,reduceCtorEq,reduceToNat,reduceNeg]
 refine qrm hF (by exact⟨.refl _,.refl _,.refl _,trivial⟩) ?_
 refine sB ?_
 refine qnQ (fun e=> ?_) fun e=> ?_
 ·rw[qB8 hg (qyX e)]
  refine sB ?_
  exact⟨rfl,rfl,rfl,rfl⟩
 have hf:=qyY e
 rw[qB7 hg hf]
 refine qst (qEf p g hg l) ?_
 simp only[wilV,wilA,eiS,push_cast,reduceIte,reduceEqDiff,reduceAdd,reduceSub,reduceMul,Nat.reduceBEq,reduceLT,reduceLeDiff,reduceCtorEq,reduceToNat,reduceNeg]
 obtain⟨zs,hzs⟩: ∃zs,zs=p.blocks.zip l.pos:=⟨_,rfl⟩
 have hzl:zs.length=l.pos.length:=by rw[hzs,List.length_zip,<- hf.len];omega
 refine qoH (fun m st=> ∃k:Nat,k<=l.pos.length/\m=l.pos.length-k/\st=⟨[(3,.ptr 3 0),(4,.ptr 4 0),(5,.ptr 5 0),(6,.ptr 6 0),(7,.ptr 7 0),(8,.int k)],[(3,qwC false p),(4,quy false g),(5,layC false l),(6,[.nil,.nil,.nil,.nil,.int 0]),(7,wilV (qB0 (qwM g) (zs.take k)))],wilA (qB0 (qwM g) (zs.take k)),[]⟩) l.pos.length ?_ ?_
 ·refine⟨0,by omega,by omega,?_⟩
  simp only[wilV,wilA,List.take_zero,qB0,push_cast,reduceIte,reduceEqDiff,reduceAdd,reduceSub,reduceMul,Nat.reduceBEq,reduceLT,reduceLeDiff,reduceCtorEq,reduceToNat,reduceNeg]
  try done
 rintro m st ⟨k,hk,rfl,rfl⟩
 have e0: ∀(l:List Int) (j:Nat),l.getD j default=l.getD j 0:=fun _ _=>rfl
 have hln:=qEd (zs.take k) (qB3 g)
 have hnx:k<l.pos.length->qB0 (qwM g) (zs.take (k+1))=qwO (qB0 (qwM g) (zs.take k)) (p.blocks.getD k default) (l.pos.getD k 0).toNat:=fun h=>by
  rw[List.take_add_one,List.getElem?_eq_getElem (by omega),Option.toList_some,qEc]
  simp only[hzs,List.getElem_zip]
  rw[List.getD_eq_getElem?_getD,List.getElem?_eq_getElem (by have:=hf.len;omega),List.getD_eq_getElem?_getD,List.getElem?_eq_getElem h]
  rfl
 have hfit:k<l.pos.length->qzX g (p.blocks.getD k default) (l.pos.getD k 0):=fun h=>((fitsU_iff.2 hf).fit k h).1
 generalize hc:qB0 (qwM g) (zs.take k)=c at *
 obtain⟨n1,n2,n3,n4⟩:=hln
 simp only[wilV,wilA,push_cast,reduceIte,reduceEqDiff,reduceAdd,reduceSub,reduceMul,Nat.reduceBEq,reduceLT,reduceLeDiff,reduceCtorEq,reduceToNat,reduceNeg]
 refine qnR (fun h=> ?_) fun h=> ?_
 ·have hkl:k<l.pos.length:=by omega
  replace hnx:=hnx hkl
  obtain⟨⟨b1,b2,b3⟩,⟨b4,b5,b6⟩,b7⟩:=hfit hkl
  generalize hb:p.blocks.getD k default=b at *
  generalize ht:l.pos.getD k 0=t at *
  obtain⟨bi,bt,br,bg,bk⟩:=b
  simp only at b3 b4 b5 b6 b7 hnx
  simp only[e0,hb,ht,push_cast,reduceIte,reduceEqDiff,reduceAdd,reduceSub,reduceMul,Nat.reduceBEq,reduceLT,reduceLeDiff,reduceCtorEq,reduceToNat,reduceNeg]
  have hfl:=hf.len
  repeat (refine And.intro (by omega) ?_)
  refine qnR (fun q1=> ?_) fun q1=> ?_
  ·refine⟨by omega,by omega,by omega,by omega,by omega,_,?_,k+1,by omega,rfl,?_⟩
   ·omega
   ·rw[hnx,qwO,if_pos (show 0<=br by omega)]
    simp only[wilV,wilA,List.length_set,push_cast,reduceIte,reduceEqDiff,reduceAdd,reduceSub,reduceMul,Nat.reduceBEq,reduceLT,reduceLeDiff,reduceCtorEq,reduceToNat,reduceNeg]
  refine qnR (fun q2=> ?_) fun q2=> ?_
  ·refine⟨by omega,by omega,by omega,by omega,by omega,by omega,by omega,_,?_,k+1,by omega,rfl,?_⟩
   ·omega
   ·rw[hnx,qwO,if_neg (show ¬0<=br by omega),if_pos (show 0<=bg by omega)]
    simp only[wilV,wilA,List.length_set,push_cast,reduceIte,reduceEqDiff,reduceAdd,reduceSub,reduceMul,Nat.reduceBEq,reduceLT,reduceLeDiff,reduceCtorEq,reduceToNat,reduceNeg]
  ·refine⟨by omega,by omega,by omega,by omega,by omega,_,?_,k+1,by omega,rfl,?_⟩
   ·omega
   ·rw[hnx,qwO,if_neg (show ¬0<=br by omega),if_neg (show ¬0<=bg by omega)]
    simp only[wilV,wilA,List.length_set,push_cast,reduceIte,reduceEqDiff,reduceAdd,reduceSub,reduceMul,Nat.reduceBEq,reduceLT,reduceLeDiff,reduceCtorEq,reduceToNat,reduceNeg]
 rw[List.take_of_length_le (by omega)]at hc
 have hcs:c.sel=List.replicate (quD g).toNat 0:=by rw[<- hc,qB5];rfl
 have hE:encC p g l= { c with sel:=qAM g c.sel l.routes } :=by rw[hcs,encC,<- hzs,hc]
 rw[hE]
 clear hfit hnx hc hE
 refine qoH (fun m st=> ∃k:Nat,k<=l.routes.length/\m=l.routes.length-k/\st=⟨[(4,.ptr 4 0),(5,.ptr 5 0),(6,.ptr 6 0),(7,.ptr 7 0),(11,.int k)],[(4,quy false g),(5,layC false l),(6,[.nil,.nil,.nil,.nil,.int 0]),(7,wilV { c with sel:=qAM g c.sel (l.routes.take k) })],wilA { c with sel:=qAM g c.sel (l.routes.take k) },[]⟩) l.routes.length ?_ ?_
 ·refine⟨0,by omega,by omega,?_⟩
  simp only[wilV,wilA,List.take_zero,qAM,push_cast,reduceIte,reduceEqDiff,reduceAdd,reduceSub,reduceMul,Nat.reduceBEq,reduceLT,reduceLeDiff,reduceCtorEq,reduceToNat,reduceNeg]
  try done
 rintro m st ⟨k,hk,rfl,rfl⟩
 simp only[wilV,wilA,push_cast,reduceIte,reduceEqDiff,reduceAdd,reduceSub,reduceMul,Nat.reduceBEq,reduceLT,reduceLeDiff,reduceCtorEq,reduceToNat,reduceNeg]
 refine qnR (fun h=> ?_) fun h=> ?_
 ·have hkl:k<l.routes.length:=by omega
  have hrm:l.routes.getD k default∈l.routes:=by simp[hkl]
  have hnx:qAM g c.sel (l.routes.take (k+1))=selN g (l.routes.getD k default) (qAM g c.sel (l.routes.take k)) (l.routes.getD k default).nodes.length:=by
   rw[List.take_add_one,List.getElem?_eq_getElem hkl,Option.toList_some,qEe,List.getD_eq_getElem?_getD,List.getElem?_eq_getElem hkl]
   rfl
  have hsh:=hf.sh _ hrm
  have hrl:=h3 _ hrm
  have hS:=qAO g (l.routes.take k) c.sel
  generalize hr:l.routes.getD k default=r at *
  generalize qAM g c.sel (l.routes.take k)=S at *
  have hne:=List.length_pos_iff.2 hsh.ne
  have hfl:=hsh.len
  repeat (refine And.intro (by omega) ?_)
  refine qoH (fun m st=> ∃j:Nat,(1<=j/\j<=r.nodes.length)/\m=r.nodes.length-j/\st=⟨[(4,.ptr 4 0),(5,.ptr 5 0),(6,.ptr 6 0),(7,.ptr 7 0),(11,.int k),(12,.ptr 12 0),(13,.int j)],[(4,quy false g),(5,layC false l),(6,[.nil,.nil,.nil,.nil,.int 0]),(7,wilV { c with sel:=selN g r S j }),(12,qwD false r)],wilA { c with sel:=selN g r S j },[]⟩) (r.nodes.length-1) ?_ ?_
  ·refine⟨1,by omega,rfl,?_⟩
   simp only[wilV,wilA,hr,show selN g r S 1=S from rfl,Int.zero_add,push_cast,reduceIte,reduceEqDiff,reduceAdd,reduceSub,reduceMul,Nat.reduceBEq,reduceLT,reduceLeDiff,reduceCtorEq,reduceToNat,reduceNeg]
   try done
  rintro m st ⟨j,hj,rfl,rfl⟩
  have hL:=qAE g r S j
  have hX:selN g r S (j+1)=(selN g r S j).set (r.nodes.getD j 0).toNat (qAD g r j):=by rw[selN,if_neg (by omega)]
  generalize hT:selN g r S j=T at *
  simp only[wilV,wilA,e0,push_cast,reduceIte,reduceEqDiff,reduceAdd,reduceSub,reduceMul,Nat.reduceBEq,reduceLT,reduceLeDiff,reduceCtorEq,reduceToNat,reduceNeg]
  refine qnR (fun h4=> ?_) fun h4=> ?_
  ·have hjl:j<r.nodes.length:=by omega
   have hn:=hsh.rng _ (qza (l:=r.nodes) (k:=j) hjl)
   obtain⟨d1,d2⟩:=hsh.drv j (by omega) hjl
   have hdl:=qDS hg (r.nodes.getD j 0)
   have hix:=qzW (qvM g (r.nodes.getD j 0)) (by omega) (r.nodes.getD (r.frm.getD j 0).toNat 0)
   have hI:qzU (qvM g (r.nodes.getD j 0)) (r.nodes.getD (r.frm.getD j 0).toNat 0)+1=qAD g r j:=by
    rw[qzU,if_pos d2,qEb (qy2 g _) d2,qAD]
    omega
   have hle:0<=qzU (qvM g (r.nodes.getD j 0)) (r.nodes.getD (r.frm.getD j 0).toNat 0)/\qzU (qvM g (r.nodes.getD j 0)) (r.nodes.getD (r.frm.getD j 0).toNat 0)<=(qvM g (r.nodes.getD j 0)).length:=by
    rw[qzU,if_pos d2]
    have:=List.idxOf_lt_length_of_mem d2
    omega
   generalize hnn:r.nodes.getD j 0=n at *
   repeat (refine And.intro (by omega) ?_)
   first|refine qro (qDP g hg n) (by exact⟨.refl _,.refl _,trivial⟩) rfl ?_|refine qrm (qDP g hg n) (by exact⟨.refl _,.refl _,trivial⟩) ?_
   simp only[e0,push_cast,reduceIte,reduceEqDiff,reduceAdd,reduceSub,reduceMul,Nat.reduceBEq,reduceLT,reduceLeDiff,reduceCtorEq,reduceToNat,reduceNeg]
   repeat (refine And.intro (by omega) ?_)
   refine qro hix (by exact⟨.slp _ _ _ _ (fun h=>by cases h),.refl _,trivial⟩) rfl ?_
   simp only[e0,push_cast,reduceIte,reduceEqDiff,reduceAdd,reduceSub,reduceMul,Nat.reduceBEq,reduceLT,reduceLeDiff,reduceCtorEq,reduceToNat,reduceNeg]
   repeat (refine And.intro (by omega) ?_)
   refine⟨_,?_,j+1,by omega,rfl,?_⟩
   ·omega
   ·rw[hX,<- hI,Int.add_comm 1]
    simp only[wilV,wilA,List.length_set,push_cast,reduceIte,reduceEqDiff,reduceAdd,reduceSub,reduceMul,Nat.reduceBEq,reduceLT,reduceLeDiff,reduceCtorEq,reduceToNat,reduceNeg]
  rw[show r.nodes.length=j by omega,hT]at hnx
  refine⟨by omega,_,?_,k+1,by omega,rfl,?_⟩
  ·omega
  ·rw[hnx]
   simp only[wilV,wilA,push_cast,reduceIte,reduceEqDiff,reduceAdd,reduceSub,reduceMul,Nat.reduceBEq,reduceLT,reduceLeDiff,reduceCtorEq,reduceToNat,reduceNeg]
 rw[List.take_of_length_le (by omega)]
 exact⟨⟨fun _ _=>trivial,fun _ _=>trivial,fun _ _=>trivial,fun _ _=>trivial⟩,.refl _⟩
def qEh(q:Bool)(l:List Int):List PV:=[.sl q 1 (qk8 l)]
@[push_cast] theorem qEi(q:Bool)(l:List Int):qEh q l=[.sl q 1 (qk8 l)]:=rfl
def qEj(q:Bool)(x:Raw31):List PV:=qzi q x.g++[.sl q 3 (rows qAp x.blocks),.sl q 1 (rows (qEh q) x.routes)]
@[push_cast] theorem qEk(q:Bool)(x:Raw31):qEj q x=qzi q x.g++[.sl q 3 (rows qAp x.blocks),.sl q 1 (rows (qEh q) x.routes)]:=rfl
def lvR(id:Nat):List Route->PV
 |[]=> .nil
 |x::l=> .view id 0 (l.length+1)
def laR(id:Nat):List Route->List (Nat×Arr)
 |[]=>[]
 |x::l=>[(id,⟨3,115,rows (qwD true) (x::l)⟩)]
@[push_cast] theorem qEm(id:Nat):lvR id []= .nil:=rfl
@[push_cast] theorem qEn(id:Nat)(x:Route)(l:List Route):lvR id (x::l)= .view id 0 (l.length+1):=rfl
@[push_cast] theorem qEo(id:Nat):laR id []=[]:=rfl
@[push_cast] theorem qEp(id:Nat)(x:Route)(l:List Route):laR id (x::l)=[(id,⟨3,115,rows (qwD true) (x::l)⟩)]:=rfl
@[push_cast] theorem qEq(pb pa:Nat->Bool)(id:Nat)(rs:List Route):PV.to pb pa (lvR id rs)=(pa id&& !rs.isEmpty):=by cases rs<;>simp[lvR,PV.to]
set_option maxHeartbeats 4000000 in
theorem qEr(x:Raw31)(hx:x.By):FnEq Tryz.prog 22 [.agg (qEj false x)] (.agg (desC true (qBX x.g) (qBY x) (layM x))):=by
 obtain⟨hg,hp⟩:=qBZ x.g
 have hcn:=hg.count
 refine FnEq.of_awp Tryz.func22 ok22 (by show 1<=_;decide) (by simp only[push_cast,reduceIte,reduceEqDiff,reduceAdd,reduceSub,reduceMul,Nat.reduceBEq,reduceLT,reduceLeDiff,reduceCtorEq,reduceToNat,reduceNeg]<;>first|exact fun _ _=>trivial|simp) ?_
 simp only[ac22,rv22,push_cast,reduceIte,reduceEqDiff,reduceAdd,reduceSub,reduceMul,Nat.reduceBEq,reduceLT,reduceLeDiff,reduceCtorEq,reduceToNat,reduceNeg]
 refine qoF (qzl x.g hx.g.ok) ?_
 refine sB ?_
 refine qrm (qAA (qBX x.g) hg x.blocks hx.bl hx.blocks) ⟨.refl _,.refl _,trivial⟩ ?_
 have hrt:=qC1 hg x.routes (fun l hl=>(hx.routes l hl).2)
 have hP:qBY x=⟨[],(blkF (qBX x.g) x.blocks).1,[],[]⟩:=rfl
 have hL:layM x=⟨(blkF (qBX x.g) x.blocks).2,(rtN (qBX x.g) x.routes (min x.routes.length 5)).2⟩:=rfl
 rw[hP,hL]
 generalize blkF (qBX x.g) x.blocks=bt
 obtain⟨bs,ts⟩:=bt
 generalize qBX x.g=g at *
 clear hP hL
 have hrl:=hx.rl
 have hrr:=hx.routes
 generalize hxs:x.routes=xs at *
 refine sB ?_
 refine qrm (quI g hg) sC ?_
 refine sB ?_
 repeat (refine And.intro (by omega) ?_)
 obtain⟨c,hc⟩: ∃c:Nat,quD g=c:=⟨(quD g).toNat,by omega⟩
 rw[hc,Int.toNat_natCast,List.length_replicate,qA9]
 refine qoH (fun m st=> ∃k:Nat,k<=min xs.length 5/\m=min xs.length 5-k/\st=⟨[(1,.ptr 1 0),(2,.ptr 2 0),(4,.ptr 4 0),(5,.view 21 0 c),(6,.int k)],
  [(1,qEj false x),(2,[.int 0,.int 0,.int 0,.int 0,.nil,.nil,.nil,.nil,.nil,.nil,.nil]),(4,desN g bs ts (lvR 67 (rtN g xs k).2))],(21,⟨1,4,rows qk7 (qA5 c (rtN g xs k).1)⟩)::laR 67 (rtN g xs k).2,[]⟩) (min xs.length 5) ?_ ?_
 ·refine⟨0,by omega,by omega,?_⟩
  simp only[rtN,hxs,List.cons_append,List.nil_append,push_cast,reduceIte,reduceEqDiff,reduceAdd,reduceSub,reduceMul,Nat.reduceBEq,reduceLT,reduceLeDiff,reduceCtorEq,reduceToNat,reduceNeg]
  done
 rintro m st ⟨k,hk,rfl,rfl⟩
 obtain⟨q1,q2,q3,q4,q5⟩:=hrt k
 have hS:rtN g xs (k+1)=rtS1 g (rtN g xs k) k (xs.getD k []):=rfl
 rcases ha:rtN g xs k with⟨sn,rs⟩
 rw[ha]at q1 q2 q3 q4 q5 hS
 simp only at q1 q2 q3 q4 q5 ⊢
 obtain⟨B,hB⟩: ∃B,B=decide (k<xs.length/\k<5):=⟨_,rfl⟩
 simp only[hxs,push_cast,reduceIte,reduceEqDiff,reduceAdd,reduceSub,reduceMul,Nat.reduceBEq,reduceLT,reduceLeDiff,reduceCtorEq,reduceToNat,reduceNeg]
 refine qry ⟨[(1,.ptr 1 0),(2,.ptr 2 0),(4,.ptr 4 0),(5,.view 21 0 c),(6,.int k),(30,.bool B)],
  [(1,qzi false x.g++[.sl false 3 (rows qAp x.blocks),.sl false 1 (rows (qEh false) xs)]),(2,[.int 0,.int 0,.int 0,.int 0,.nil,.nil,.nil,.nil,.nil,.nil,.nil]),(4,desN g bs ts (lvR 67 rs))],(21,⟨1,4,rows qk7 (qA5 c sn)⟩)::laR 67 rs,[]⟩ ?_ ?_
 ·refine qrq rfl (fun e1=> ?_) fun e1=> ?_<;>simp only[push_cast,reduceIte,reduceEqDiff,reduceAdd,reduceSub,reduceMul,Nat.reduceBEq,reduceLT,reduceLeDiff,reduceCtorEq,reduceToNat,reduceNeg]
  ·rw[show B=decide ((k:Int)<5)from by rw[hB,decide_eq_decide];omega]
  ·rw[show B=false from by rw[hB];exact decide_eq_false (by omega)]
 refine sB ?_
 refine qnQ (fun e=> ?_) fun e=> ?_
 rotate_left
 ·rw[hB,decide_eq_false_iff_not]at e
  rw[show min xs.length 5=k by omega,ha]
  refine sB ?_
  cases rs with
  |nil=>
    refine sB ?_
    exact⟨fun _ _=>trivial,fun _ _ _ _=>trivial,fun _ _=>trivial⟩
  |cons r rs=>
    rw[qEn,qEp]
    refine sB ?_
    rw[List.take_of_length_le (by simp)]
    exact⟨⟨fun _ _=>trivial,fun _ _ _ _=>trivial,fun _ _=>trivial,fun _ _=>⟨fun _ _=>trivial,fun _ _=>trivial⟩⟩,.refl _⟩
 rw[hB,decide_eq_true_eq]at e
 obtain⟨e1,e2⟩:=e
 have hxk:=hrr (xs.getD k []) (by simp[e1])
 have hct:(quD g).toNat=c:=by omega
 have hGr:=qAo g hg sn (xs.getD k []) hxk.1 hxk.2
 have hGo:=qAn hg sn (xs.getD k []) hxk.2 (min (xs.getD k []).length 16)
 have hGF:qAl g sn (xs.getD k [])=⟨0,(qAk g sn (xs.getD k []) (min (xs.getD k []).length 16)).1,(qAk g sn (xs.getD k []) (min (xs.getD k []).length 16)).2⟩:=rfl
 rw[hct]at hGr
 rw[rtS1]at hS
 rw[show xs.getD k default=xs.getD k []from rfl]
 have hsb:List.take c (qA5 c sn)=qA5 c sn:=List.take_of_length_le (by rw[qA6];exact Nat.le_refl _)
 generalize xs.getD k []=l at *
 rw[hGF]at hS hGr
 simp only at hS
 obtain⟨⟨o1,o2⟩,o3⟩:=hGo
 generalize qAk g sn l (min l.length 16)=nf at *
 obtain⟨ns,fr⟩:=nf
 simp only at hS hGr o1 o2 o3
 refine⟨by omega,e1,?_⟩
 refine qro hGr ⟨Sub.aggL ⟨.refl _,.refl _,.refl _,.refl _,.slp _ _ _ _ (fun h=>by cases h),trivial⟩,by rw[hsb];exact .refl _,.refl _,trivial⟩ rfl ?_
 refine sB ?_
 refine qnR (fun h=> ?_) fun h=> ?_
 ·have hn:ns=[]:=List.length_eq_zero_iff.1 (by omega)
  rw[if_pos hn]at hS
  refine⟨by omega,_,?_,k+1,by omega,rfl,?_⟩
  ·omega
  ·rw[hS]
   cases rs<;>exact sC
 have hn:ns≠[]:=fun e=>h (by rw[e];rfl)
 rw[if_neg hn]at hS
 refine qoH (fun m st=> ∃j:Nat,j<=ns.length/\m=ns.length-j/\st=⟨[(1,.ptr 1 0),(2,.ptr 2 0),(4,.ptr 4 0),(5,.view 21 0 c),(6,.int k),(7,.ptr 7 0),(8,.int j)],
  [(1,qzi false x.g++[.sl false 3 (rows qAp x.blocks),.sl false 1 (rows (qEh false) xs)]),(2,[.int 0,.int 0,.int 0,.int 0,.nil,.nil,.nil,.nil,.nil,.nil,.nil]),(4,desN g bs ts (lvR 67 rs)),(7,[.int k,.sl true 1 (ints ns),.sl true 1 (ints fr)])],(21,⟨1,4,rows qk7 (qA5 c (sn++ns.take j))⟩)::laR 67 rs,[]⟩) ns.length ?_ ?_
 ·refine⟨0,by omega,by omega,?_⟩
  cases rs<;>simp only[List.take_zero,List.append_nil,push_cast,reduceIte,reduceEqDiff,reduceAdd,reduceSub,reduceMul,Nat.reduceBEq,reduceLT,reduceLeDiff,reduceCtorEq,reduceToNat,reduceNeg]
 rintro m st ⟨j,hj,rfl,rfl⟩
 simp only[qA6,push_cast,reduceIte,reduceEqDiff,reduceAdd,reduceSub,reduceMul,Nat.reduceBEq,reduceLT,reduceLeDiff,reduceCtorEq,reduceToNat,reduceNeg]
 refine qnR (fun h2=> ?_) fun h2=> ?_
 ·have hnj:=o2 _ (qza (l:=ns) (k:=j) (by omega))
  have ht:=qAB (l:=ns) (k:=j) (by omega)
  rw[show ns.getD j default=ns.getD j 0 from rfl]
  refine⟨by omega,by omega,by omega,by omega,by omega,_,?_,j+1,by omega,rfl,?_⟩
  ·omega
  ·rw[ht,<- List.append_assoc,<- qA8 (by omega)]
   cases rs<;>exact sC
 rw[List.take_of_length_le (show ns.length<=j by omega)]
 cases rs with
 |nil=>
   rw[qEm,qEo]
   refine sB ?_
   refine⟨by omega,_,?_,k+1,by omega,rfl,?_⟩
   ·omega
   ·rw[hS]
    simp[rows,qwD,lvR,laR]
 |cons r rs=>
   rw[qEn,qEp]
   simp only[List.length_cons]at q4
   refine sB ?_
   refine⟨by omega,by omega,_,?_,k+1,by omega,rfl,?_⟩
   ·omega
   ·rw[hS]
    simp[rows,qwD,lvR,laR]
end Go.Proofs.YtdmkfgkmnpohlaaGreat
namespace Go.Vc
open Go Go.RowKit
inductive Ty where
 |b
 |i (k:IntKind)
 |sl (es:Nat) (ts:List Ty)
def qEs(P:Program):Nat->TypeId->List Ty->Bool
 |0,_,_=>false
 | n + 1, t, ts => match P.underlying t with
   |some .bool=>(match ts with|[.b]=>true|_=>false)
   |some (.int k)=>(match ts with|[.i k']=>k==k' |_=>false)
   |some (.slice e)=>(match ts with|[.sl es us]=>us.length==es&&P.cellsOf e==es&&decide (0<es)&&qEs P n e us|_=>false)
   | some (.struct fs) => fs.toList.all (fun f => qEs P n f.type ((ts.drop f.offset).take (P.cellsOf f.type))) && ts.length == P.cellsOf t &&
     (List.range ts.length).all fun j=>fs.toList.any fun f=>decide (f.offset<=j)&&decide (j<f.offset+P.cellsOf f.type)
   | some (.array m e) => (List.range m).all (fun i => qEs P n e ((ts.drop (i * P.cellsOf e)).take (P.cellsOf e))) && ts.length == P.cellsOf t &&
     (List.range ts.length).all fun j=>(List.range m).any fun i=>decide (i*P.cellsOf e<=j)&&decide (j<i*P.cellsOf e+P.cellsOf e)
   |_=>false
inductive CellB (B:Nat):Ty->PV->Prop
 |b (x):CellB B .b (.sc (.bool x))
 |i (k n):k.min<=n->n<=k.max->CellB B (.i k) (.sc (.int k n))
 |sl (es ts) (rows:List (List PV)):rows.length<=B->(∀r∈rows,r.length=ts.length)->(∀r∈rows,∀(j:Nat) (t:Ty) (c:PV),ts[j]? =some t->r[j]? =some c->CellB B t c)->CellB B (.sl es ts) (.sl true es rows)
abbrev qEt:Ty->PV->Prop:=CellB maxLen
structure Meas {H:Type} (μ:DataW H->Nat):Prop where
 len: ∀l r,l.length<=μ (.slice l r)
 el: ∀l r,∀e∈l,μ e<=μ (.slice l r)
 agg: ∀l,∀e∈l,μ e<=μ (.agg l)
def Fits{H:Type}(B:Nat)(d:DataW H):Prop:=maxLen<=B\/ ∃μ:DataW H->Nat,Meas μ/\μ d<=B
theorem Fits.agg{H:Type}{B:Nat}{l:List (DataW H)}{e:DataW H}(h:Fits B (.agg l))(he:e∈l):Fits B e:=h.imp _root_.id fun⟨μ,h1,h2⟩=>⟨μ,h1,Nat.le_trans (h1.agg l e he) h2⟩
theorem Fits.el{H:Type}{B:Nat}{l r:List (DataW H)}{e:DataW H}(h:Fits B (.slice l r))(he:e∈l):Fits B e:=h.imp _root_.id fun⟨μ,h1,h2⟩=>⟨μ,h1,Nat.le_trans (h1.el l r e he) h2⟩
theorem Fits.len{H:Type}{B:Nat}{l r:List (DataW H)}(h:Fits B (.slice l r))(hl:l.length<=maxLen):l.length<=B:=by
 rcases h with h|⟨μ,h1,h2⟩
 ·omega
 ·have:=h1.len l r;omega
theorem qEu{α β:Type}{f:α->Option β} : ∀ {l:List α} {r:List β},l.mapM f=some r->r.length=l.length
 |[],r,h=>by simp at h;subst h;rfl
 | a :: l, r, h => by
   rw[List.mapM_cons]at h
   cases ha:f a with
   |none=>rw[ha]at h;cases h
   |some y=>
     rw[ha]at h
     cases hl:l.mapM f with
     |none=>rw[hl]at h;cases h
     |some ys=>
       rw[hl]at h
       cases h
       simp[qEu hl]
theorem qEv{α β:Type}{f:α->Option β} : ∀ {l:List α} {r:List β},l.mapM f=some r-> ∀x∈l,∃y∈r,f x=some y
 |[],_,_,x,hx=>by cases hx
 | a :: l, r, h, x, hx => by
   rw[List.mapM_cons]at h
   cases ha:f a with
   |none=>rw[ha]at h;cases h
   |some y=>
     rw[ha]at h
     cases hl:l.mapM f with
     |none=>rw[hl]at h;cases h
     |some ys=>
       rw[hl]at h
       cases h
       rcases List.mem_cons.1 hx with rfl|hx
       ·exact⟨y,by simp,ha⟩
       ·obtain⟨z,h1,h2⟩:=qEv hl x hx
        exact⟨z,by simp[h1],h2⟩
theorem qEw{α:Type}{Q:Nat->α->Prop} : ∀n:Nat,(∀j,j<n-> ∃c,Q j c)-> ∃l:List α,l.length=n/\ ∀j c,l[j]? =some c->Q j c
 |0,_=>⟨[],rfl,fun j c h=>by simp at h⟩
 | n + 1, h => by
   obtain⟨l,h1,h2⟩:=qEw n fun j hj=>h j (by omega)
   obtain⟨c,hc⟩:=h n (by omega)
   refine⟨l++[c],by simp[h1],fun j c' hj=> ?_⟩
   by_cases hjn:j<l.length
   ·rw[List.getElem?_append_left hjn]at hj;exact h2 j c' hj
   ·rw[List.getElem?_append_right (by omega)]at hj
    have:j-l.length=0:=by
     have:=(List.getElem?_eq_some_iff.1 hj).1
     simp at this;omega
    rw[this]at hj
    simp at hj
    subst hj
    have:j=n:=by omega
    rw[this];exact hc
theorem qEx(a:Addr)(m n:Nat):(a.add m).add n=a.add (m+n):=by
 unfold Addr.add
 by_cases hm:m=0
 ·subst hm;simp
 ·by_cases hn:n=0
  ·subst hn;simp
  ·simp[hm,hn,show m+n≠0 by omega,Nat.add_assoc]
def ZW(w:World):Zone:=fun _ b=>b<w.heap.size
section
variable {H:Type} {enc:TypeId×Value->H} {P:Program} {w:World} {sp:Nat->Bool} {hd:Bool}
theorem qEA {B : Nat} : ∀ (n fuel : Nat) (t : TypeId) (ts : List Ty) (cs : List Value) (x : DataW H × List MemPlace), qEs P n t ts = true -> Fits B x.1 -> DataW.trod enc P w 0 sp hd fuel t cs = some x ->
  cs.length=ts.length/\ ∀(j:Nat) (t' :Ty),ts[j]? =some t' -> ∃(c:PV) (v:Value),cs[j]? =some v/\CellB B t' c/\TR w (ZW w) c v/\v.oneCell' =true:=by
 intro n
 induction n with
 |zero=>intro fuel t ts cs x h;simp[qEs]at h
 |succ n ih=>
   intro fuel t ts cs x h hB hx
   cases fuel with
   |zero=>simp[DataW.trod]at hx
   |succ fuel=>
     unfold qEs at h
     unfold DataW.trod at hx
     split at h
     ·rename_i hu
      rw[hu]at hx
      split at h
      ·split at hx<;>first|(cases hx;done)|skip
       all_goals first
        |(rename_i h1;cases h1;done)
        |skip
       rename_i b _
       refine⟨rfl,fun j t' hj=> ?_⟩
       cases j with
       |zero=>simp at hj;subst hj;exact⟨.sc (.bool b),.bool b,rfl,.b b,.sc _ rfl,rfl⟩
       |succ j=>simp at hj
      ·cases h
     ·rename_i k hu
      rw[hu]at hx
      split at h
      ·rename_i k'
       have hk:k=k' :=by cases k<;>cases k' <;>first|rfl|(cases h;done)
       subst hk
       split at hx<;>first|(cases hx;done)|skip
       all_goals first
        |(rename_i h1;cases h1;done)
        |skip
       rename_i k2 k1 m h1
       cases h1
       split at hx
       ·rename_i hh
        obtain⟨rfl,hw⟩:=hh
        simp only[Lit.wf,Bool.and_eq_true,decide_eq_true_eq]at hw
        refine⟨rfl,fun j t' hj=> ?_⟩
        cases j with
        |zero=>simp at hj;subst hj;exact⟨.sc (.int _ m),.int _ m,rfl,.i _ m hw.1 hw.2,.sc _ rfl,rfl⟩
        |succ j=>simp at hj
       ·cases hx
      ·cases h
     ·rename_i e hu
      rw[hu]at hx
      split at h
      ·rename_i es us
       simp only[Bool.and_eq_true,beq_iff_eq,decide_eq_true_eq]at h
       obtain⟨⟨⟨h1,h2⟩,h3⟩,h4⟩:=h
       rcases cs with _|⟨v,_|⟨v2,r⟩⟩
       ·cases hx
       ·have nilCase : ∀ (p : Option Addr) (cap : Nat), cap <= maxLen -> ([Value.slice p 0 cap] : List Value).length = [Ty.sl es us].length /\ ∀ (j : Nat) (t' : Ty), [Ty.sl es us][j]? = some t' -> ∃ (c : PV) (v' : Value), [Value.slice p 0 cap][j]? = some v' /\ CellB B t' c /\ TR w (ZW w) c v' /\ v'.oneCell' = true := fun p cap hcap => by
         refine⟨rfl,fun j t' hj=> ?_⟩
         cases j with
         |zero=>
           simp at hj;subst hj
           exact⟨.sl true es [],_,rfl,.sl es us [] (Nat.zero_le _) (fun r hr=>by cases hr) (fun r hr=>by cases hr),.sl0 true es p cap hcap,rfl⟩
         |succ j=>simp at hj
        cases v<;>first|(cases hx;done)|skip
        rename_i p len cap
        cases p with
        |none=>
          cases len with
          | zero => cases cap with
            |zero=>exact nilCase none 0 (Nat.zero_le _)
            |succ c=>cases hx
          |succ l=>cases hx
        |some ad=>
          simp only at hx
          split at hx
          ·rename_i hb
           obtain⟨_,hlc,hcm⟩:=hb
           cases hm:(List.range len).mapM (fun i=>(w.cells? 0 (ad.add (i*P.cellsOf e)) (P.cellsOf e)).bind (DataW.trod enc P w 0 sp hd fuel e))with
           |none=>rw[hm]at hx;cases hx
           |some elems=>
             have hxs: ∃r,x.1= .slice (elems.map (·.1)) r:=by
              rw[hm]at hx
              obtain⟨rest,_,hx⟩:=Option.map_eq_some_iff.1 hx
              exact⟨_,by rw[<- hx]⟩
             obtain⟨rest,hxs⟩:=hxs
             rw[hxs]at hB
             have hel:=qEu hm
             rw[List.length_range]at hel
             have hlB:len<=B:=by
              have:=hB.len (by rw[List.length_map];omega)
              rw[List.length_map]at this
              omega
             clear hx
             by_cases hl0:len=0
             ·subst hl0;exact nilCase (some ad) cap hcm
             have row: ∀i,i<len-> ∃rr:List PV,rr.length=es/\ ∀(j:Nat) (c:PV),rr[j]? =some c-> ∃v',w.cell? (ad.add (i*es+j))=some v' /\(∀t',us[j]? =some t' ->CellB B t' c)/\TR w (ZW w) c v' /\v'.oneCell' =true:=fun i hi=>by
              obtain⟨y,hye,hy⟩:=qEv hm i (List.mem_range.2 hi)
              cases hc:w.cells? 0 (ad.add (i*P.cellsOf e)) (P.cellsOf e)with
              |none=>rw[hc]at hy;cases hy
              |some cs' =>
                rw[hc]at hy
                have hy:DataW.trod enc P w 0 sp hd fuel e cs' =some y:=hy
                obtain⟨g1,g2⟩:=ih fuel e us cs' y h4 (hB.el (List.mem_map_of_mem hye)) hy
                rw[h2]at hc
                obtain⟨_,hlen,hat⟩:=World.cells?_some hc
                refine qEw (Q:=fun j c=> ∃v',w.cell? (ad.add (i*es+j))=some v' /\(∀t',us[j]? =some t' ->CellB B t' c)/\TR w (ZW w) c v' /\v'.oneCell' =true) es fun j hj=> ?_
                obtain⟨c,v',q1,q2,q3,q4⟩:=g2 j us[j] (List.getElem?_eq_getElem (by omega))
                refine⟨c,v',?_,fun t' ht' => ?_,q3,q4⟩
                ·rw[<- qEx,hat j hj];exact q1
                ·rw[List.getElem?_eq_getElem (by omega)]at ht';cases ht';exact q2
             obtain⟨rows,hr1,hr2⟩:=qEw (Q:=fun i (rr:List PV)=>rr.length=es/\ ∀(j:Nat) (c:PV),rr[j]? =some c-> ∃v',w.cell? (ad.add (i*es+j))=some v' /\(∀t',us[j]? =some t' ->CellB B t' c)/\TR w (ZW w) c v' /\v'.oneCell' =true) len row
             have hrow: ∀r∈rows,∃i,i<len/\rows[i]? =some r:=fun r hr=>by
              obtain⟨i,hi,rfl⟩:=List.getElem_of_mem hr
              exact⟨i,by omega,List.getElem?_eq_getElem hi⟩
             have hspot:ad.spot=none/\ad.block<w.heap.size:=by
              obtain⟨r0,hr0⟩: ∃r0,rows[0]? =some r0:=⟨rows[0],List.getElem?_eq_getElem (by omega)⟩
              obtain⟨e1,e2⟩:=hr2 0 r0 hr0
              obtain⟨v',e3,_⟩:=e2 0 r0[0] (List.getElem?_eq_getElem (by omega))
              simp only[Nat.zero_mul,Nat.zero_add,Addr.add,if_true]at e3
              unfold World.cell? at e3
              split at e3
              ·rename_i hb
               split at e3
               ·cases e3
               ·rename_i hs
                refine⟨by cases hsp:ad.spot<;>simp_all,?_⟩
                exact(Array.getElem?_eq_some_iff.1 hb).1
              ·cases e3
             have haddr: ∀k,ad.add k=⟨ad.block,ad.off+k,none⟩:=fun k=>by
              obtain⟨b0,o0,s0⟩:=ad
              have:s0=none:=hspot.1
              subst this
              unfold Addr.add
              split
              ·rename_i hk;subst hk;rfl
              ·rfl
             refine⟨rfl,fun j t' hj=> ?_⟩
             cases j with
             |succ j=>simp at hj
             |zero=>
               simp at hj;subst hj
               refine⟨.sl true es rows,_,rfl,.sl es us rows (by omega) (fun r hr=> ?_) (fun r hr j t'' c ht hc=> ?_),?_,rfl⟩
               ·obtain⟨i,hi,hri⟩:=hrow r hr;rw[(hr2 i r hri).1,h1]
               ·obtain⟨i,hi,hri⟩:=hrow r hr
                obtain⟨v',_,q,_⟩:=(hr2 i r hri).2 j c hc
                exact q t'' ht
               ·have had : ad = ⟨ad.block, ad.off, none⟩ := by
                 obtain⟨b0,o0,s0⟩:=ad
                 have:s0=none:=hspot.1
                 subst this;rfl
                rw[had,<- hr1]
                refine TR.sl true es rows ad.block ad.off cap (fun i j=>(w.cell? (ad.add (i*es+j))).getD undef) h3 hspot.2 (by omega) (by omega) hcm (fun r hr=> ?_) (fun i j hi hj=> ?_) (fun i j r c hi hj=> ?_)
                ·obtain⟨i,hi,hri⟩:=hrow r hr;exact(hr2 i r hri).1
                ·have hri:rows[i]? =some rows[i]:=List.getElem?_eq_getElem hi
                 obtain⟨e1,e2⟩:=hr2 i _ hri
                 obtain⟨v',e3,_,_,e4⟩:=e2 j rows[i][j] (List.getElem?_eq_getElem (by omega))
                 rw[e3,<- haddr,e3]
                 exact⟨rfl,e4⟩
                ·obtain⟨v',e3,_,e5,_⟩:=(hr2 i r hi).2 j c hj
                 rw[e3];exact e5
          ·cases hx
       ·exfalso
        split at hx<;>first|(cases hx;done)|(rename_i h5 h6;cases h5;done)|(rename_i h5 h6;cases h6;done)|simp_all
      ·cases h
     ·rename_i fs hu
      rw[hu]at hx
      simp only[Bool.and_eq_true,beq_iff_eq,List.all_eq_true,List.any_eq_true,decide_eq_true_eq]at h
      obtain⟨⟨h1,h2⟩,h3⟩:=h
      have hx:(if cs.length=P.cellsOf t then((fs.toList.mapM fun f=>DataW.trod enc P w 0 sp hd fuel f.type ((cs.drop f.offset).take (P.cellsOf f.type))).map fun xs=>(DataW.agg (xs.map (·.1)),xs.flatMap (·.2)))else none)=some x:=hx
      split at hx
      ·rename_i hl
       refine⟨by omega,fun j t' hj=> ?_⟩
       have hjl:=(List.getElem?_eq_some_iff.1 hj).1
       obtain⟨f,hf,hf1,hf2⟩:=h3 j (List.mem_range.2 hjl)
       cases hm:fs.toList.mapM (fun f=>DataW.trod enc P w 0 sp hd fuel f.type ((cs.drop f.offset).take (P.cellsOf f.type)))with
       |none=>rw[hm]at hx;cases hx
       |some ys=>
         obtain⟨y,hye,hy⟩:=qEv hm f hf
         have hxa:x.1= .agg (ys.map (·.1)):=by
          rw[hm]at hx
          have hx:some (DataW.agg (ys.map (·.1)),ys.flatMap (·.2))=some x:=hx
          cases hx;rfl
         rw[hxa]at hB
         obtain⟨g1,g2⟩:=ih fuel f.type _ _ y (h1 f hf) (hB.agg (List.mem_map_of_mem hye)) hy
         have hj' :((ts.drop f.offset).take (P.cellsOf f.type))[j-f.offset]? =some t' :=by
          rw[List.getElem?_take,if_pos (by omega),List.getElem?_drop,show f.offset+(j-f.offset)=j from by omega];exact hj
         obtain⟨c,v,q1,q2⟩:=g2 _ t' hj'
         refine⟨c,v,?_,q2⟩
         rw[List.getElem?_take,if_pos (by omega),List.getElem?_drop,show f.offset+(j-f.offset)=j from by omega]at q1
         exact q1
      ·cases hx
     ·rename_i m e hu
      rw[hu]at hx
      simp only[Bool.and_eq_true,beq_iff_eq,List.all_eq_true,List.any_eq_true,decide_eq_true_eq]at h
      obtain⟨⟨h1,h2⟩,h3⟩:=h
      have hx:(if cs.length=P.cellsOf t then(((List.range m).mapM fun i=>DataW.trod enc P w 0 sp hd fuel e ((cs.drop (i*P.cellsOf e)).take (P.cellsOf e))).map fun xs=>(DataW.agg (xs.map (·.1)),xs.flatMap (·.2)))else none)=some x:=hx
      split at hx
      ·rename_i hl
       refine⟨by omega,fun j t' hj=> ?_⟩
       have hjl:=(List.getElem?_eq_some_iff.1 hj).1
       obtain⟨i,hi,hf1,hf2⟩:=h3 j (List.mem_range.2 hjl)
       cases hm:(List.range m).mapM (fun i=>DataW.trod enc P w 0 sp hd fuel e ((cs.drop (i*P.cellsOf e)).take (P.cellsOf e)))with
       |none=>rw[hm]at hx;cases hx
       |some ys=>
         obtain⟨y,hye,hy⟩:=qEv hm i hi
         have hxa:x.1= .agg (ys.map (·.1)):=by
          rw[hm]at hx
          have hx:some (DataW.agg (ys.map (·.1)),ys.flatMap (·.2))=some x:=hx
          cases hx;rfl
         rw[hxa]at hB
         obtain⟨g1,g2⟩:=ih fuel e _ _ y (h1 i hi) (hB.agg (List.mem_map_of_mem hye)) hy
         have hj' :((ts.drop (i*P.cellsOf e)).take (P.cellsOf e))[j-i*P.cellsOf e]? =some t' :=by
          rw[List.getElem?_take,if_pos (by omega),List.getElem?_drop,show i*P.cellsOf e+(j-i*P.cellsOf e)=j from by omega];exact hj
         obtain⟨c,v,q1,q2⟩:=g2 _ t' hj'
         refine⟨c,v,?_,q2⟩
         rw[List.getElem?_take,if_pos (by omega),List.getElem?_drop,show i*P.cellsOf e+(j-i*P.cellsOf e)=j from by omega]at q1
         exact q1
      ·cases hx
     ·cases h
def aggT(P:Program)(t:TypeId):Bool:=match P.underlying t with|some (.struct _)|some (.array _ _)=>true|_=>false
def RowB(B:Nat)(ts:List Ty)(pc:List PV):Prop:=pc.length=ts.length/\ ∀(j:Nat) (t:Ty) (c:PV),ts[j]? =some t->pc[j]? =some c->CellB B t c
abbrev RowV:List Ty->List PV->Prop:=RowB maxLen
theorem qEB {B : Nat} {n : Nat} {t : TypeId} {ts : List Ty} {v : Value} {base : Nat} {d : DataW H} {ps : List MemPlace} (hf : qEs P n t ts = true) (hs : aggT P t = true) (hok : Value.okWide P w .any base t v)
  (hB:Fits B d) (h:DataW.Trod enc P w 0 sp hd t v d ps): ∃pc:List PV,RowB B ts pc/\TV w (ZW w) (.agg pc) v:=by
 obtain⟨fuel,h⟩:=h
 have hv: ∃cs:Array Value,v= .agg cs:=by
  unfold Value.okWide at hok
  unfold aggT at hs
  split at hs
  ·rename_i hu;rw[hu]at hok;obtain⟨cs,e,_⟩:=hok;exact⟨cs,e⟩
  ·rename_i hu;rw[hu]at hok;obtain⟨cs,e,_⟩:=hok;exact⟨cs,e⟩
  ·cases hs
 obtain⟨cs,rfl⟩:=hv
 obtain⟨g1,g2⟩:=qEA n fuel t ts cs.toList (d,ps) hf hB h
 obtain⟨pc,h1,h2⟩:=qEw (Q:=fun j c=> ∃v,cs.toList[j]? =some v/\(∀t',ts[j]? =some t' ->CellB B t' c)/\TR w (ZW w) c v/\v.oneCell' =true) ts.length fun j hj=>by
  obtain⟨c,v,q1,q2,q3,q4⟩:=g2 j ts[j] (List.getElem?_eq_getElem hj)
  exact⟨c,v,q1,fun t' ht=>by rw[List.getElem?_eq_getElem hj]at ht;cases ht;exact q2,q3,q4⟩
 refine⟨pc,⟨h1,fun j t' c ht hc=> ?_⟩,cs,rfl,by rw[h1,<- g1];simp,fun j c hc=> ?_⟩
 ·obtain⟨v,_,q,_⟩:=h2 j c hc;exact q t' ht
 ·obtain⟨v,q1,_,q3,q4⟩:=h2 j c hc
  have:cs.getD j undef=v:=by
   rw[Array.getD_eq_getD_getElem?]
   have:cs[j]? =some v:=by simpa using q1
   rw[this];rfl
  rw[this];exact⟨q3,q4⟩
theorem qEC {n : Nat} {t : TypeId} {ts : List Ty} {v : Value} {base : Nat} {d : DataW H} {ps : List MemPlace} (hf : qEs P n t ts = true) (hs : aggT P t = true) (hok : Value.okWide P w .any base t v)
  (h:DataW.Trod enc P w 0 sp hd t v d ps): ∃pc:List PV,RowV ts pc/\TV w (ZW w) (.agg pc) v:=qEB hf hs hok (.inl (Nat.le_refl _)) h
theorem qED {B : Nat} {n : Nat} {t : TypeId} {t' : Ty} {v : Value} {d : DataW H} {ps : List MemPlace} (hf : qEs P n t [t'] = true) (hv : v.cells = #[v])
  (hB:Fits B d) (h:DataW.Trod enc P w 0 sp hd t v d ps): ∃c:PV,CellB B t' c/\TV w (ZW w) c v:=by
 obtain⟨fuel,h⟩:=h
 rw[hv]at h
 obtain⟨g1,g2⟩:=qEA n fuel t [t'] _ (d,ps) hf hB h
 obtain⟨c,u,q1,q2,q3,q4⟩:=g2 0 t' rfl
 simp at q1;subst q1
 refine⟨c,q2,?_⟩
 cases c<;>simp only[TV,TA]<;>first|exact q3|(cases q3)
theorem argC {n : Nat} {t : TypeId} {t' : Ty} {v : Value} {d : DataW H} {ps : List MemPlace} (hf : qEs P n t [t'] = true) (hv : v.cells = #[v])
  (h:DataW.Trod enc P w 0 sp hd t v d ps): ∃c:PV,qEt t' c/\TV w (ZW w) c v:=qED hf hv (.inl (Nat.le_refl _)) h
theorem qEE {f : FuncId} {args : List PV} {vs : Array Value} (hc : FnEq P f args (.bool true)) (hn : vs.size = args.length) (h : ∀ (j : Nat) (c : PV), args[j]? = some c -> TV w (ZW w) c (vs.getD j undef)) :
  Calls P f vs w fun e w' =>e= .returned (.bool true)/\Below w.heap.size w w' :=by
 refine(hc w (ZW w) (fun _ h=>h) (fun _ _ h=>h) vs hn h).mono ?_
 rintro e w' ⟨v,r,rfl,rfl,h1,h2⟩
 cases h1
 exact⟨rfl,h2⟩
end
end Go.Vc
namespace Go.Proofs.YtdmkfgkmnpohlaaGreat
open Go Go.Vc Txt
theorem qEH{a:List PV}(h:RowV [] a):a=[]:=List.length_eq_zero_iff.1 h.1
theorem qmn{t:Ty}{ts:List Ty}{a:List PV}(h:RowV (t::ts) a): ∃c r,a=c::r/\qEt t c/\RowV ts r:=by
 obtain⟨h1,h2⟩:=h
 cases a with
 |nil=>cases h1
 |cons c r=>exact⟨c,r,rfl,h2 0 t c rfl rfl,by simpa using h1,fun j t' c' ht hc=>h2 (j+1) t' c' ht hc⟩
theorem qEI{k:IntKind}{c:PV}(h:qEt (.i k) c): ∃n:Int,c= .sc (.int k n)/\k.min<=n/\n<=k.max:=by
 cases h with|i k n h1 h2=>exact⟨n,rfl,h1,h2⟩
theorem qEJ{c:PV}(h:qEt (.i .u8) c): ∃n:Int,c= .sc (.int .u8 n)/\0<=n/\n<=255:=by
 obtain⟨n,h1,h2,h3⟩:=qEI h
 exact⟨n,h1,h2,h3⟩
theorem qEK{c:PV}(h:qEt (.i .i64) c): ∃n:Int,c= .int n/\ -9223372036854775808<=n/\n<=9223372036854775807:=by
 obtain⟨n,h1,h2,h3⟩:=qEI h
 exact⟨n,h1,h2,h3⟩
theorem qEL{es:Nat}{ts:List Ty}{c:PV}(h:qEt (.sl es ts) c): ∃rs:List (List PV),c= .sl true es rs/\rs.length<=maxLen/\ ∀r∈rs,RowV ts r:=by
 cases h with|sl es ts rs h1 h2 h3=>exact⟨rs,rfl,h1,fun r hr=>⟨h2 r hr,h3 r hr⟩⟩
theorem qEM{α:Type}{f:α->List PV}{Q:α->Prop} : ∀ {rs:List (List PV)},(∀r∈rs,∃x,r=f x/\Q x)-> ∃l:List α,rs=rows f l/\ ∀x∈l,Q x
 |[],_=>⟨[],rfl,fun x hx=>by cases hx⟩
 | r :: rs, h => by
   obtain⟨x,rfl,hx⟩:=h r (by simp)
   obtain⟨l,rfl,hl⟩:=qEM (f:=f) (Q:=Q) (rs:=rs) fun r hr=>h r (by simp[hr])
   refine⟨x::l,rfl,fun y hy=> ?_⟩
   rcases List.mem_cons.1 hy with rfl|hy
   ·exact hx
   ·exact hl y hy
theorem qEN{c:PV}(h:qEt (.sl 1 [.i .u8]) c): ∃l:List Int,c= .sl true 1 (qk8 l)/\(l.length:Int)<=9223372036854775807/\ ∀b∈l,0<=b/\b<=255:=by
 obtain⟨rs,rfl,h1,h2⟩:=qEL h
 obtain⟨l,rfl,hl⟩:=qEM (f:=fun x:Int=>[PV.sc (.int .u8 x)]) (Q:=fun b=>0<=b/\b<=255) (rs:=rs) fun r hr=>by
  obtain⟨c,q,rfl,hc,h3⟩:=qmn (h2 r hr)
  obtain⟨n,rfl,hn⟩:=qEJ hc
  rw[qEH h3]
  exact⟨n,rfl,hn⟩
 simp only[rows,List.length_map]at h1
 have:maxLen=9223372036854775807:=rfl
 exact⟨l,rfl,by omega,hl⟩
theorem qEO{c:PV}(h:qEt (.sl 1 [.i .i64]) c): ∃l:List Int,c= .sl true 1 (ints l)/\ ∀b∈l,-9223372036854775808<=b/\b<=9223372036854775807:=by
 obtain⟨rs,rfl,_,h2⟩:=qEL h
 obtain⟨l,rfl,hl⟩:=qEM (f:=fun x:Int=>[PV.int x]) (Q:=fun b=> -9223372036854775808<=b/\b<=9223372036854775807) (rs:=rs) fun r hr=>by
  obtain⟨c,q,rfl,hc,h3⟩:=qmn (h2 r hr)
  obtain⟨n,rfl,hn⟩:=qEK hc
  rw[qEH h3]
  exact⟨n,rfl,hn⟩
 exact⟨l,rfl,hl⟩
theorem okSl{P:Program}{W:World}{base:Nat}{t e:TypeId}{v:Value}(hu:P.underlying t=some (.slice e))(h:Value.okWide P W .any base t v):v.cells= #[v]:=by
 unfold Value.okWide Cell.okWide Cell.ok at h
 rw[hu]at h
 cases v<;>first
  |rfl
  |(simp only at h)
theorem u16V{c:PV}(h:qEt (.i .u16) c): ∃n:Int,c= .sc (.int .u16 n)/\0<=n/\n<=65535:=by
 obtain⟨n,h1,h2,h3⟩:=qEI h
 exact⟨n,h1,h2,h3⟩
structure DesOk (g:Grid) (p:Packed) (l:Layout):Prop where
 fit:FitsF p g l
 pos:l.pos.length<=12
 rts:l.routes.length<=5
 nds: ∀r∈l.routes,r.nodes.length<=16
theorem qET{x:Raw31}(hx:x.By):DesOk (qBX x.g) (qBY x) (layM x):=by
 obtain⟨h1,h2⟩:=qAs (qBX x.g) x.blocks (min x.blocks.length 12)
 obtain⟨q1,q2,q3,q4,q5⟩:=qC1 (qBZ x.g).1 x.routes (fun l hl=>(hx.routes l hl).2) (min x.routes.length 5)
 refine⟨qC2 hx,?_,?_,q5⟩
 ·have:=h1.len
  show(blkN _ _ _).2.length<=12
  omega
 ·show(rtN _ _ _).2.length<=5
  omega
def qEW:List Ty:=[.i .u8,.i .u8,.i .u8,.i .u8,.sl 1 [.i .u8],.sl 3 [.i .u8,.i .u8,.i .u8],.sl 1 [.sl 1 [.i .u8]]]
theorem qEX{a:List PV}(h:RowV qEW a): ∃x:Raw31,x.By/\a=qEj true x:=by
 obtain⟨c0,a0,rfl,h0,k0⟩:=qmn h
 obtain⟨c1,a1,rfl,h1,k1⟩:=qmn k0
 obtain⟨c2,a2,rfl,h2,k2⟩:=qmn k1
 obtain⟨c3,a3,rfl,h3,k3⟩:=qmn k2
 obtain⟨c4,a4,rfl,h4,k4⟩:=qmn k3
 obtain⟨c5,a5,rfl,h5,k5⟩:=qmn k4
 obtain⟨c6,a6,rfl,h6,k6⟩:=qmn k5
 obtain⟨n0,rfl,b0⟩:=qEJ h0
 obtain⟨n1,rfl,b1⟩:=qEJ h1
 obtain⟨n2,rfl,b2⟩:=qEJ h2
 obtain⟨n3,rfl,b3⟩:=qEJ h3
 obtain⟨l,rfl,hn,hl⟩:=qEN h4
 obtain⟨rs,rfl,hrl,hr⟩:=qEL h5
 obtain⟨bs,rfl,hbs⟩:=qEM (f:=qAp) (Q:=fun y=>(0<=y.1/\y.1<=255)/\(0<=y.2.1/\y.2.1<=255)/\(0<=y.2.2/\y.2.2<=255)) (rs:=rs) fun r hr2=>by
  obtain⟨d0,q0,rfl,e0,g0⟩:=qmn (hr r hr2)
  obtain⟨d1,q1,rfl,e1,g1⟩:=qmn g0
  obtain⟨d2,q2,rfl,e2,g2⟩:=qmn g1
  obtain⟨m0,rfl,f0⟩:=qEJ e0
  obtain⟨m1,rfl,f1⟩:=qEJ e1
  obtain⟨m2,rfl,f2⟩:=qEJ e2
  rw[qEH g2]
  exact⟨(m0,m1,m2),rfl,f0,f1,f2⟩
 obtain⟨ss,rfl,hsl,hs⟩:=qEL h6
 obtain⟨xs,rfl,hxs⟩:=qEM (f:=qEh true) (Q:=fun l=>(l.length:Int)<=9223372036854775807/\ ∀y∈l,0<=y/\y<=255) (rs:=ss) fun r hr2=>by
  obtain⟨d0,q0,rfl,e0,g0⟩:=qmn (hs r hr2)
  obtain⟨m,rfl,f0,f1⟩:=qEN e0
  rw[qEH g0]
  exact⟨m,rfl,f0,f1⟩
 rw[qEH k6]
 have:maxLen=9223372036854775807:=rfl
 simp only[rows,List.length_map]at hrl hsl
 exact⟨⟨⟨n0,n1,n2,n3,l⟩,bs,xs⟩,⟨⟨b0,b1,b2,b3,hn,hl⟩,by show(bs.length:Int)<=_;omega,hbs,by show(xs.length:Int)<=_;omega,hxs⟩,rfl⟩
theorem qEY(x:Raw31):Sub (.agg (qEj true x)) (.agg (qEj false x)):=by
 have sl: ∀(es:Nat) (xs:List (List PV)),Sub (.sl true es xs) (.sl false es xs):=fun es xs=> .slp _ _ _ _ (fun h=>by cases h)
 exact Sub.aggL ⟨.refl _,.refl _,.refl _,.refl _,sl _ _,sl _ _,Sub.slR 1 (fun h=>by cases h) (SubR.map _ _ _ fun r _=>⟨sl _ _,trivial⟩),trivial⟩
end Go.Proofs.YtdmkfgkmnpohlaaGreat
namespace Go.Proofs.YtdmkfgkmnpohlaaGreat.Txt
open Go Go.Vc
set_option maxRecDepth 100000
def ac7c:AC:=
 (.seq (.reg [0,43,0] [
 (aO 1 (.box (.t 0))),(aO 2 (.mv (.c (.sc (.bool false)))))])
 (.seq (.rgs [
 ([0,43,1],[
 (aO 5 (.fa 10 (.t 1))),(aO 6 (.fa 0 (.t 5))),(aO 7 (.ld false 1 (.t 6))),(aO 8 (.len (.t 7))),(aO 9 (.fa 10 (.t 1))),(aO 10 (.fa 1 (.t 9))),(aO 11 (.ld false 1 (.t 10))),(aO 12 (.len (.t 11))),(aO 13 (.ari .add false .i64 (.t 8) (.t 12))),(aO 14 (.fa 12 (.t 1))),(aO 15 (.fa 0 (.t 14))),(aO 16 (.ld false 1 (.t 15)))]),([0,43,1,13,16],[
 (aO 17 (.len (.t 16))),(aO 18 (.ari .add false .i64 (.t 13) (.t 17))),(aO 19 (.fa 12 (.t 1))),(aO 20 (.fa 1 (.t 19))),(aO 21 (.ld false 1 (.t 20))),(aO 22 (.len (.t 21))),(aO 23 (.ari .add false .i64 (.t 18) (.t 22))),(aO 3 (.mv (.t 23)))])])
 (.seq (.seq (.reg [0,43,1,3] [
 (aO 4 (.mv (kI 0)))])
 (.block 0
 (.loop [0,43,1,3,4]
 (.seq (.seq (.reg [0,43,1,3,4] [
 (aO 24 (.mv (.t 4))),(aO 25 (.fa 10 (.t 1))),(aO 26 (.fa 1 (.t 25))),(aO 27 (.ld false 1 (.t 26))),(aO 28 (.len (.t 27))),(aO 29 (.cmp .lss .i64 (.t 24) (.t 28)))])
 (.cond (.t 29)
 .skip
 (.exit 0)))
 (.seq (.block 1
 (.reg [0,43,1,3,4] [
 (aO 32 (.mv (.t 3))),(aO 33 (.fa 10 (.t 1))),(aO 34 (.fa 1 (.t 33))),(aO 35 (.ld false 1 (.t 34))),(aO 36 (.mv (.t 4))),(aO 37 (.ixs 1 (.t 35) (.t 36))),(aO 38 (.ld false 1 (.t 37))),(aO 39 (.len (.t 38))),(aO 40 (.ari .add false .i64 (.t 32) (.t 39))),(aO 3 (.mv (.t 40)))]))
 (.reg [0,43,1,3,4] [
 (aO 30 (.mv (.t 4))),(aO 31 (.ari .add false .i64 (.t 30) (kI 1))),(aO 4 (.mv (.t 31)))]))))))
 (.seq (.reg [0,43,3] [
 (aO 41 (.mv (.t 3))),(aO 42 (.cmp .leq .i64 (.t 41) (kI 100))),(aO 2 (.mv (.t 42)))])
 .ret))))
def rv7c:List RV:=[.tmp 2]
theorem ok7c:fnOk Tryz.prog ac7c rv7c Tryz.f7=true:=by kernel_rfl

def ac8c:AC:=
 (.seq (.reg [0,35,0] [
 (aO 1 (.box (.t 0))),(aO 2 (.alc [zI,zI,zI,zI,.nil,.nil,.nil,.nil,.nil,.nil,.nil,.nil,.nil]))])
 (.seq (.reg [0,35,1,2] [
 (aO 5 (.fa 0 (.t 1))),(aO 6 (.ld true 7 (.t 5))),(aO 7 (.cal 22 [(.t 6)])),(aO 3 (.alc [zI,zI,zI,zI,.nil,.nil,.nil,.nil,.nil,.nil,.nil])),(aN (.sto 11 (.t 3) (.t 7)))])
 (.seq (.reg [0,35,1,2,3] [
 (aO 8 (.fa 5 (.t 3))),(aO 9 (.ld true 4 (.t 8))),(aO 10 (.fa 0 (.t 3))),(aO 11 (.ld true 5 (.t 10))),(aO 12 (.fa 9 (.t 3))),(aO 13 (.ld true 2 (.t 12))),(aO 14 (.cal 23 [(.t 9),(.t 11),(.t 13)])),(aO 15 (.fl true 0 4 (.t 14))),(aO 4 (.alc [.nil,.nil,.nil,.nil])),(aN (.sto 4 (.t 4) (.t 15)))])
 (.seq (.seq (.reg [0,35,1,2,3,4] [
 (aO 16 (.fa 7 (.t 1))),(aO 17 (.ld false 1 (.t 16))),(aO 18 (.len (.t 17))),(aO 19 (.cmp .gtr .i64 (.t 18) (kI 0)))])
 (.cond (.t 19)
 (.reg [0,35,1,2,3,4] [
 (aO 20 (.fa 0 (.t 3))),(aO 21 (.ld true 5 (.t 20))),(aO 22 (.fa 7 (.t 1))),(aO 23 (.ld false 1 (.t 22))),(aO 24 (.cal 24 [(.t 21),(.t 23)])),(aN (.sto 4 (.t 4) (.t 24)))])
 .skip))
 (.seq (.drw [0,35,1,2,3,4] [
 (eT 25 (.fa 0 (.t 3))),(eT 26 (.ld true 5 (.t 25))),(eT 27 (.ld true 4 (.t 4))),(eT 28 (.cal 25 [(.t 26),(.t 27)])),(eT 29 (.fa 10 (.t 1))),(eT 30 (.ld true 2 (.t 29))),(eT 31 (.fa 14 (.t 1))),(eT 32 (.ld false 1 (.t 31))),(eT 33 (.cal 12 [(kI 4),(.t 32)])),(eF 34 (.cal 16 [(.t 28),(.t 30),(.t 33)])),⟨(aN (.sto 13 (.t 2) (.t 34))),[],[],false⟩])
 .ret)))))
def rv8c:List RV:=[.cell 2 true 13]
theorem ok8c:fnOk Tryz.prog ac8c rv8c Tryz.f8=true:=by kernel_rfl

def ac5c:AC:=
 (.seq (.reg [0,120,0,1] [
 (aO 2 (.box (.t 0))),(aO 4 (.mv (.c (.sc (.bool false)))))])
 (.seq (.reg [0,120,1,2] [
 (aO 12 (.cal 6 [])),(aO 5 (.mv (.t 12)))])
 (.seq (.seq (.reg [0,120,1,2,5] [
 (aO 13 (.mv (.t 5))),(aO 14 (.not (.t 13)))])
 (.cond (.t 14)
 (.seq (.reg [0,120] [
 (aO 4 (.mv (.c (.sc (.bool false)))))])
 .ret)
 .skip))
 (.seq (.seq (.reg [0,120,1,2,5] [
 (aO 15 (.ld true 16 (.t 2))),(aO 16 (.cal 7 [(.t 15)])),(aO 17 (.not (.t 16)))])
 (.cond (.t 17)
 (.seq (.reg [0,120,5] [
 (aO 18 (.mv (.t 5))),(aO 4 (.mv (.t 18)))])
 .ret)
 .skip))
 (.seq (.reg [0,120,1,2,5] [
 (aO 19 (.ld true 16 (.t 2))),(aO 20 (.cal 8 [(.t 19)])),(aO 6 (.alc [zI,zI,zI,zI,.nil,.nil,.nil,.nil,.nil,.nil,.nil,.nil,.nil])),(aN (.sto 13 (.t 6) (.t 20)))])
 (.seq (.reg [0,120,1,5,6] [
 (aO 21 (.ld true 13 (.t 6))),(aO 22 (.cal 11 [(.t 21)])),(aO 7 (.mv (.t 22)))])
 (.seq (.seq (.reg [0,120,1,5,6,7] [
 (aO 23 (.mv (.t 7))),(aO 24 (.len (.t 23))),(aO 25 (.fa 5 (.t 6))),(aO 26 (.fa 0 (.t 25))),(aO 27 (.ld false 1 (.t 26))),(aO 28 (.len (.t 27))),(aO 29 (.cmp .neq .i64 (.t 24) (.t 28))),(aO 30 (.mv (.t 29))),⟨some 31,some (30,false),.ld true 13 (.t 6)⟩,⟨some 32,some (30,false),.mv (.t 7)⟩,⟨some 33,some (30,false),.cal 13 [(.t 31),(.t 32)]⟩,⟨some 34,some (30,false),.not (.t 33)⟩,(aO 35 (.pick (.t 30) (.c (.sc (.bool true))) (.t 34)))])
 (.cut [0,120,1,5,6,7,35] (.cond (.t 35)
 (.seq (.reg [0,120,5,6,7] [
 (aO 36 (.mv (.t 7))),(aO 37 (.len (.t 36))),(aO 38 (.fa 5 (.t 6))),(aO 39 (.fa 0 (.t 38))),(aO 40 (.ld false 1 (.t 39))),(aO 41 (.len (.t 40))),(aO 42 (.cmp .eql .i64 (.t 37) (.t 41))),(aO 43 (.mv (.t 42))),⟨some 44,some (43,true),.ld true 13 (.t 6)⟩,⟨some 45,some (43,true),.cal 9 [(.t 44)]⟩,(aO 46 (.pick (.t 43) (.t 45) (.c (.sc (.bool false))))),(aO 47 (.mv (.t 46))),⟨some 48,some (47,true),.mv (.t 5)⟩,(aO 49 (.pick (.t 47) (.t 48) (.c (.sc (.bool false))))),(aO 4 (.mv (.t 49)))])
 .ret)
 .skip)))
 (.seq (.seq (.reg [0,120,1,5,6,7] [
 (aO 8 (.mv (kI 0)))])
 (.block 0
 (.loop [0,120,1,5,6,7,8]
 (.seq (.seq (.reg [0,120,1,5,6,7,8] [
 (aO 50 (.mv (.t 8))),(aO 51 (.mv (.t 1))),(aO 52 (.len (.t 51))),(aO 53 (.cmp .lss .i64 (.t 50) (.t 52))),(aO 54 (.mv (.t 53))),⟨some 55,some (54,true),.mv (.t 8)⟩,⟨some 56,some (54,true),.cmp .lss .i64 (.t 55) (kI 12)⟩,(aO 57 (.pick (.t 54) (.t 56) (.c (.sc (.bool false)))))])
 (.cut [0,120,1,5,6,7,8,57] (.cond (.t 57)
 .skip
 (.exit 0))))
 (.seq (.block 1
 (.seq (.reg [0,120,1,5,6,7,8] [
 (aO 60 (.mv (.t 1))),(aO 61 (.mv (.t 8))),(aO 62 (.ixs 1 (.t 60) (.t 61))),(aO 63 (.ld false 1 (.t 62))),(aO 64 (.cnv true .i64 (.t 63))),(aO 65 (.mv (.t 7))),(aO 66 (.len (.t 65))),(aO 67 (.dvd .rem true .i64 (.t 64) (.t 66))),(aO 9 (.mv (.t 67)))])
 (.seq (.reg [0,120,1,5,6,7,8,9] [
 (aO 69 (.fa 0 (.t 6))),(aO 70 (.ld true 5 (.t 69))),(aO 71 (.fa 5 (.t 6))),(aO 72 (.ld true 4 (.t 71))),(aO 73 (.mv (.t 9))),(aO 74 (.cal 18 [(.t 70),(.t 72),(.t 73)])),(aO 68 (.mv (.t 74))),(aO 75 (.ext (.t 68) 0)),(aO 76 (.ext (.t 68) 1)),(aO 10 (.mv (.t 75))),(aO 11 (.mv (.t 76)))])
 (.seq (.drw [0,120,1,5,6,7,8,9,10,11] [
 (eF 77 (.mv (.t 11))),(eF 78 (.cmp .eql .i64 (.t 77) (kI 0))),(eF 79 (.mv (.t 78))),⟨⟨some 80,some (79,true),.mv (.t 10)⟩,[],[],false⟩,⟨⟨some 81,some (79,true),.cmp .lss .i64 (.t 80) (kI 0)⟩,[],[],false⟩,⟨⟨some 82,some (79,true),.mv (.t 81)⟩,[],[],false⟩,⟨⟨some 83,some (82,false),.mv (.t 10)⟩,[],[],true⟩,⟨⟨some 84,some (82,false),.mv (.t 7)⟩,[],[],true⟩,⟨⟨some 85,some (82,false),.len (.t 84)⟩,[],[],true⟩,⟨⟨some 86,some (82,false),.cmp .geq .i64 (.t 83) (.t 85)⟩,[],[],false⟩,⟨⟨some 87,some (79,true),.pick (.t 82) (.c (.sc (.bool true))) (.t 86)⟩,[],[],false⟩,⟨⟨some 88,some (79,true),.mv (.t 87)⟩,[],[],false⟩,⟨⟨some 89,some (88,false),.mv (.t 7)⟩,[],[],true⟩,⟨⟨some 90,some (88,false),.mv (.t 10)⟩,[],[],true⟩,⟨⟨some 91,some (88,false),.ixs 1 (.t 89) (.t 90)⟩,[],[],true⟩,⟨⟨some 92,some (88,false),.ld false 1 (.t 91)⟩,[],[],true⟩,⟨⟨some 93,some (88,false),.mv (.t 7)⟩,[],[],true⟩,⟨⟨some 94,some (88,false),.mv (.t 9)⟩,[],[],true⟩,⟨⟨some 95,some (88,false),.ixs 1 (.t 93) (.t 94)⟩,[],[],true⟩,⟨⟨some 96,some (88,false),.ld false 1 (.t 95)⟩,[],[],true⟩,⟨⟨some 97,some (88,false),.eqb true (.t 92) (.t 96)⟩,[],[],false⟩,⟨⟨some 98,some (79,true),.pick (.t 88) (.c (.sc (.bool true))) (.t 97)⟩,[],[],false⟩,(eF 99 (.pick (.t 79) (.t 98) (.c (.sc (.bool false))))),(eF 100 (.mv (.t 99))),⟨⟨some 101,some (100,false),.mv (.t 11)⟩,[],[],false⟩,⟨⟨some 102,some (100,false),.cmp .eql .i64 (.t 101) (kI 4)⟩,[],[],false⟩,⟨⟨some 103,some (100,false),.mv (.t 102)⟩,[],[],false⟩,⟨⟨some 104,some (103,true),.mv (.t 7)⟩,[],[],true⟩,⟨⟨some 105,some (103,true),.mv (.t 9)⟩,[],[],true⟩,⟨⟨some 106,some (103,true),.ixs 1 (.t 104) (.t 105)⟩,[],[],false⟩,⟨⟨some 107,some (103,true),.ld false 1 (.t 106)⟩,[],[],false⟩,⟨⟨some 108,some (100,false),.pick (.t 103) (.t 107) (.c (.sc (.bool false)))⟩,[],[],false⟩,⟨⟨some 109,some (100,false),.mv (.t 108)⟩,[],[],false⟩,⟨⟨some 110,some (109,true),.fa 5 (.t 6)⟩,[],[],true⟩,⟨⟨some 111,some (109,true),.fa 0 (.t 110)⟩,[],[],true⟩,⟨⟨some 112,some (109,true),.ld false 1 (.t 111)⟩,[],[],true⟩,⟨⟨some 113,some (109,true),.mv (.t 9)⟩,[],[],true⟩,⟨⟨some 114,some (109,true),.ixs 1 (.t 112) (.t 113)⟩,[],[],false⟩,⟨⟨some 115,some (109,true),.ld false 1 (.t 114)⟩,[],[],false⟩,⟨⟨some 116,some (109,true),.cmp .eql .i64 (.t 115) (kI 0)⟩,[],[],false⟩,⟨⟨some 117,some (100,false),.pick (.t 109) (.t 116) (.c (.sc (.bool false)))⟩,[],[],false⟩,(eF 118 (.pick (.t 100) (.c (.sc (.bool true))) (.t 117)))])
 (.cut [0,120,1,5,6,7,8,118] (.cond (.t 118)
 (.seq (.reg [0,120] [
 (aO 4 (.mv (.c (.sc (.bool false)))))])
 .ret)
 .skip))))))
 (.reg [0,120,1,5,6,7,8] [
 (aO 58 (.mv (.t 8))),(aO 59 (.ari .add true .i64 (.t 58) (kI 1))),(aO 8 (.mv (.t 59)))]))))))
 (.seq (.reg [0,120,5] [
 (aO 119 (.mv (.t 5))),(aO 4 (.mv (.t 119)))])
 .ret)))))))))
def rv5c:List RV:=[.tmp 4]
theorem ok5c:fnOk Tryz.prog ac5c rv5c Tryz.f5=true:=by kernel_rfl
end Go.Proofs.YtdmkfgkmnpohlaaGreat.Txt
namespace Go.Proofs.YtdmkfgkmnpohlaaGreat
open Go Go.Vc Txt
theorem qF0(p:Packed):Sub (.agg (qwC true p)) (.agg (qwC false p)):=
 Sub.aggL ⟨slTF _ _,Sub.slR 5 (fun h=>by cases h) (SubR.map _ _ _ fun r _=>⟨slTF _ _,.refl _,.refl _,.refl _,.refl _,trivial⟩),slTF _ _,slTF _ _,trivial⟩
theorem qF1(l:Layout):Sub (.agg (layC true l)) (.agg (layC false l)):=
 Sub.aggL ⟨slTF _ _,Sub.slR 3 (fun h=>by cases h) (SubR.map _ _ _ fun r _=>⟨.refl _,slTF _ _,slTF _ _,trivial⟩),trivial⟩
structure CaseA where
 x:Raw31
 wild:List Int
 ins:List (Int×Int×Int)
 out:List (Int×Int×Int)
 s:PSt
 heads:List (Bool×Int)
 rooms:List Bool
 pads:List Int
 v:List Int
def qF2(h:Bool×Int):List PV:=[.bool h.1,.int h.2]
@[push_cast] theorem qF3(h:Bool×Int):qF2 h=[.bool h.1,.int h.2]:=rfl
def qF4(q:Bool)(z:CaseA):List PV:=qEj q z.x++[.sl q 1 (qk8 z.wild),.sl q 3 (rows qAp z.ins),.sl q 3 (rows qAp z.out)]++pstC q z.s++[.sl q 2 (rows qF2 z.heads),.sl q 1 (rows qk7 z.rooms),.sl q 1 (qk8 z.pads),.sl q 1 (qk8 z.v)]
@[push_cast] theorem qF5(q:Bool)(z:CaseA):qF4 q z=qEj q z.x++[.sl q 1 (qk8 z.wild),.sl q 3 (rows qAp z.ins),.sl q 3 (rows qAp z.out)]++pstC q z.s++[.sl q 2 (rows qF2 z.heads),.sl q 1 (rows qk7 z.rooms),.sl q 1 (qk8 z.pads),.sl q 1 (qk8 z.v)]:=rfl
structure CaseA.By (z:CaseA):Prop where
 x:z.x.By
 wl:(z.wild.length:Int)<=9223372036854775807
 wb: ∀y∈z.wild,0<=y/\y<=255
 pl:(z.pads.length:Int)<=9223372036854775807
 pb: ∀y∈z.pads,0<=y/\y<=255
 vl:(z.v.length:Int)<=9223372036854775807
 vb: ∀y∈z.v,0<=y/\y<=255
 ml:(z.s.mems.length:Int)<=9223372036854775807
def qF6(z:CaseA):Cfg:=if 0<z.wild.length then qzr (qBX z.x.g) z.wild else encC (qBY z.x) (qBX z.x.g) (layM z.x)
theorem qF7{z:CaseA}(hz:z.By):CfgG (qBX z.x.g) (qF6 z):=by
 have hg:=(qBZ z.x.g).1
 unfold qF6
 split
 ·exact qC6 hg hz.wb
 ·exact qC7 hg (qC2 hz.x)
theorem qF8{x:Int}(h0: -9223372036854775808<=x)(h1:x<=9223372036854775807):IntKind.wrap .i64 x=x:=by
 unfold IntKind.wrap
 have h2:(2^IntKind.i64.bits:Int)=18446744073709551616:=by decide
 have h4:(2^(IntKind.i64.bits-1):Int)=9223372036854775808:=by decide
 have h3:IntKind.i64.signed=true:=rfl
 simp only[h2,h3,h4,Bool.true_and,decide_eq_true_eq]
 split<;>omega
set_option maxHeartbeats 4000000 in
theorem qF9(z:CaseA)(hz:z.By):FnOK Tryz.prog 7 [.agg (qF4 true z)] (fun r=> ∃b:Bool,r= .bool b):=by
 refine FnOK.of_awp Tryz.func7 ok7c (by show 1<=_;decide) ?_
 simp only[ac7c,rv7c,List.cons_append,List.nil_append,push_cast,reduceIte,reduceEqDiff,reduceAdd,reduceSub,reduceMul,Nat.reduceBEq,reduceLT,reduceLeDiff,reduceCtorEq,reduceToNat,reduceNeg]
 have hml:=hz.ml
 refine qoH (fun m st=> ∃(k:Nat) (n:Int),k<=z.s.mems.length/\m=z.s.mems.length-k/\st=⟨[(1,.ptr 1 0),(3,.int n),(4,.int k)],[(1,qF4 true z)],[],[]⟩) z.s.mems.length ?_ ?_
 ·refine⟨0,IntKind.wrap .i64 (IntKind.wrap .i64 (IntKind.wrap .i64 ((z.s.regs.length:Int)+z.s.mems.length)+z.heads.length)+z.rooms.length),by omega,by omega,?_⟩
  simp only[List.cons_append,List.nil_append,push_cast,reduceIte,reduceEqDiff,reduceAdd,reduceSub,reduceMul,Nat.reduceBEq,reduceLT,reduceLeDiff,reduceCtorEq,reduceToNat,reduceNeg]
 rintro m st ⟨k,n,hk,rfl,rfl⟩
 simp only[List.cons_append,List.nil_append,push_cast,reduceIte,reduceEqDiff,reduceAdd,reduceSub,reduceMul,Nat.reduceBEq,reduceLT,reduceLeDiff,reduceCtorEq,reduceToNat,reduceNeg]
 refine qnR (fun h=> ?_) fun h=> ?_
 ·have hw:IntKind.wrap .i64 ((k:Int)+1)=(k:Int)+1:=qF8 (by omega) (by omega)
  rw[hw]
  refine⟨by omega,by omega,_,?_,k+1,IntKind.wrap .i64 (n+((z.s.mems.getD k default).length:Int)),by omega,rfl,?_⟩
  ·omega
  ·rfl
 ·exact⟨_,rfl⟩
set_option maxHeartbeats 4000000 in
theorem qFa(z:CaseA)(hz:z.By):FnEq Tryz.prog 8 [.agg (qF4 true z)] (.agg (qDX true (qBX z.x.g) (qF6 z) (qCs (qBX z.x.g) (qF6 z) (qF6 z).sel.length) z.s (qx7 4 z.pads))):=by
 refine FnEq.of_awp Tryz.func8 ok8c (by show 1<=_;decide) (by simp only[push_cast,reduceIte,reduceEqDiff,reduceAdd,reduceSub,reduceMul,Nat.reduceBEq,reduceLT,reduceLeDiff,reduceCtorEq,reduceToNat,reduceNeg]<;>first|exact fun _ _=>trivial|simp) ?_
 have hM:=qEr z.x hz.x
 have hcf:=qF7 hz
 obtain⟨hf,n1,n2,n3⟩:=qET hz.x
 have hg:=(qBZ z.x.g).1
 have hW:=qzx (qBX z.x.g) hg z.wild hz.wl hz.wb
 have hE:=qEg (qBY z.x) (qBX z.x.g) hg (layM z.x) (by omega) (by omega) (fun r hr=>⟨by have:=n3 r hr;omega,by have:=n3 r hr;have:=(hf.sh r hr).len;omega⟩)
 rw[qB7 hg hf]at hE
 have hO:=qE1 (qBX z.x.g) hg (qF6 z) hcf
 have hB:=qx8 4 (by decide) z.pads hz.pl hz.pb
 have hdf:qF6 z=if 0<z.wild.length then qzr (qBX z.x.g) z.wild else encC (qBY z.x) (qBX z.x.g) (layM z.x):=rfl
 generalize qCs (qBX z.x.g) (qF6 z) (qF6 z).sel.length=dr at *
 generalize qF6 z=c at *
 generalize qx7 4 z.pads=bp at *
 generalize qBX z.x.g=g at *
 generalize qBY z.x=p at *
 generalize layM z.x=l at *
 simp only[ac8c,rv8c,List.cons_append,List.nil_append,push_cast,reduceIte,reduceEqDiff,reduceAdd,reduceSub,reduceMul,Nat.reduceBEq,reduceLT,reduceLeDiff,reduceCtorEq,reduceToNat,reduceNeg]
 refine qrm hM ⟨qEY z.x,trivial⟩ ?_
 simp only[List.cons_append,List.nil_append,push_cast,reduceIte,reduceEqDiff,reduceAdd,reduceSub,reduceMul,Nat.reduceBEq,reduceLT,reduceLeDiff,reduceCtorEq,reduceToNat,reduceNeg]
 refine qrm hE ⟨qF0 p,qDV g,qF1 l,trivial⟩ ?_
 simp only[List.cons_append,List.nil_append,push_cast,reduceIte,reduceEqDiff,reduceAdd,reduceSub,reduceMul,Nat.reduceBEq,reduceLT,reduceLeDiff,reduceCtorEq,reduceToNat,reduceNeg]
 refine qnR (fun h=> ?_) fun h=> ?_
 ·rw[if_pos (by omega)]at hdf
  refine qrm hW ⟨qDV g,slTF _ _,trivial⟩ ?_
  rw[<- hdf]
  simp only[List.cons_append,List.nil_append,push_cast,reduceIte,reduceEqDiff,reduceAdd,reduceSub,reduceMul,Nat.reduceBEq,reduceLT,reduceLeDiff,reduceCtorEq,reduceToNat,reduceNeg]
  refine qro hO sC rfl ?_
  simp only[List.cons_append,List.nil_append,push_cast,reduceIte,reduceEqDiff,reduceAdd,reduceSub,reduceMul,Nat.reduceBEq,reduceLT,reduceLeDiff,reduceCtorEq,reduceToNat,reduceNeg]
  refine qro hB ?_ ?_ ?_
  ·exact⟨.refl _,slTF _ _,trivial⟩
  ·rfl
  simp only[List.cons_append,List.nil_append,push_cast,reduceIte,reduceEqDiff,reduceAdd,reduceSub,reduceMul,Nat.reduceBEq,reduceLT,reduceLeDiff,reduceCtorEq,reduceToNat,reduceNeg]
  refine qrm (qE2 g c dr ⟨[],[]⟩ z.s [] bp) ?_ ?_
  ·exact sC
  simp only[List.cons_append,List.nil_append,push_cast,reduceIte,reduceEqDiff,reduceAdd,reduceSub,reduceMul,Nat.reduceBEq,reduceLT,reduceLeDiff,reduceCtorEq,reduceToNat,reduceNeg]
  exact⟨fun _ _=>trivial,fun _ _=>trivial,fun _ _=>trivial,fun _ _=>trivial,fun _ _=>trivial,fun _ _=>trivial,fun _ _=>trivial,fun _ _ _ _=>trivial,fun _ _=>trivial⟩
 ·rw[if_neg (by omega)]at hdf
  rw[<- hdf]
  refine qro hO sC rfl ?_
  simp only[List.cons_append,List.nil_append,push_cast,reduceIte,reduceEqDiff,reduceAdd,reduceSub,reduceMul,Nat.reduceBEq,reduceLT,reduceLeDiff,reduceCtorEq,reduceToNat,reduceNeg]
  refine qro hB ?_ ?_ ?_
  ·exact⟨.refl _,slTF _ _,trivial⟩
  ·rfl
  simp only[List.cons_append,List.nil_append,push_cast,reduceIte,reduceEqDiff,reduceAdd,reduceSub,reduceMul,Nat.reduceBEq,reduceLT,reduceLeDiff,reduceCtorEq,reduceToNat,reduceNeg]
  refine qrm (qE2 g c dr ⟨[],[]⟩ z.s [] bp) ?_ ?_
  ·exact sC
  simp only[List.cons_append,List.nil_append,push_cast,reduceIte,reduceEqDiff,reduceAdd,reduceSub,reduceMul,Nat.reduceBEq,reduceLT,reduceLeDiff,reduceCtorEq,reduceToNat,reduceNeg]
  exact⟨fun _ _=>trivial,fun _ _=>trivial,fun _ _=>trivial,fun _ _=>trivial,fun _ _=>trivial,fun _ _=>trivial,fun _ _=>trivial,fun _ _ _ _=>trivial,fun _ _=>trivial⟩
end Go.Proofs.YtdmkfgkmnpohlaaGreat
