/- ZB ZC FW ZG ZH ZD ZF ZI ZJ ZK: lemmas -/
import Derived.Test.YtdmkfgkmnpohlaaGreatPart11
set_option linter.unusedSimpArgs false
set_option linter.unusedVariables false
open Nat (reduceEqDiff reduceAdd reduceSub reduceMul reduceLT reduceLeDiff)
open Int (reduceToNat reduceNeg)
namespace Go.Proofs.YtdmkfgkmnpohlaaGreat
open Go Go.Vc Txt
theorem qze{α:Type}(f:Nat->α)(k:Nat):(List.range (k+1)).map f=(List.range k).map f++[f k]:=by simp[List.range_succ]
def qzf(l:List Int)(i:Nat):Int:=if i<l.length/\l.getD i default%8<2 then l.getD i default%8 else 2
def qzg(n:Nat)(l:List Int):List Int:=(List.range n).map (qzf l)
theorem qzh (n : Nat) (hn : (n : Int) <= 1000000) (l : List Int) (hl : (l.length : Int) <= 9223372036854775807) (hb : ∀ x ∈ l, 0 <= x /\ x <= 255) :
  FnEq Tryz.prog 72 [.int n,.sl false 1 (qk8 l)] (.sl true 1 (ints (qzg n l))):=by
 refine FnEq.of_awp Tryz.func72 ok72 (by show 2<=_;decide) (by simp only[push_cast,reduceIte,reduceEqDiff,reduceAdd,reduceSub,reduceMul,Nat.reduceBEq,reduceLT,reduceLeDiff,reduceCtorEq,reduceToNat,reduceNeg]<;>first|exact fun _ _=>trivial|simp) ?_
 simp only[ac72,rv72,push_cast,reduceIte,reduceEqDiff,reduceAdd,reduceSub,reduceMul,Nat.reduceBEq,reduceLT,reduceLeDiff,reduceCtorEq,reduceToNat,reduceNeg]
 refine qoH (fun m st=> ∃k:Nat,k<=n/\m=n-k/\
  st=⟨[(0,.int n),(1,.sl false 1 (qk8 l)),(5,.view 8 0 k),(6,.int k)],[],[(8,⟨1,3,ints ((List.range k).map (qzf l))⟩)],[]⟩) n ?_ ?_
 ·refine⟨0,by omega,by omega,?_⟩
  refine sB ?_
  rfl
 ·rintro m st ⟨k,hk,rfl,rfl⟩
  refine sB ?_
  have hlen:((List.range k).map (qzf l)).length=k:=by simp
  have hsucc:=qze (qzf l) k
  refine qnR (fun h=> ?_) fun h=> ?_
  ·refine qry ⟨[(0,.int n),(1,.sl false 1 (qk8 l)),(5,.view 8 0 k),(6,.int k),(7,.int 2),(25,.bool (decide (k<l.length/\l.getD k default%8<2)))],[],[(8,⟨1,3,ints ((List.range k).map (qzf l))⟩)],[]⟩ ?_ ?_
   ·refine qrq rfl (fun h1=> ?_) fun h1=> ?_<;>simp only[push_cast,reduceIte,reduceEqDiff,reduceAdd,reduceSub,reduceMul,Nat.reduceBEq,reduceLT,reduceLeDiff,reduceCtorEq,reduceToNat,reduceNeg]
    ·have h1' :k<l.length:=by omega
     have hx:=hb _ (show l.getD k default∈l by simp[List.getD_eq_getElem?_getD,h1'])
     refine⟨⟨by omega,by omega⟩,h1',⟨by omega,by omega,by omega⟩,?_⟩
     rw[show decide (k<l.length/\l.getD k default%8<2)=decide (l.getD k default%8<2)from by rw[decide_eq_decide];omega]
    ·have h1' : ¬k<l.length:=by omega
     simp[h1']
   refine sB ?_
   refine qnR (fun h1=> ?_) fun h1=> ?_
   ·have hx:=hb _ (show l.getD k default∈l by simp[List.getD_eq_getElem?_getD,h1.1])
    have hf:qzf l k=l.getD k default%8:=by rw[qzf,if_pos h1]
    rw[hf]at hsucc
    refine⟨⟨by omega,by omega⟩,h1.1,⟨by omega,by omega,by omega⟩,⟨by omega,by omega⟩,by simp,⟨hlen.symm,by omega,by omega⟩,⟨by omega,by omega⟩,_,?_,k+1,by omega,rfl,?_⟩
    ·omega
    ·rw[hsucc];simp
   ·have hf:qzf l k=2:=by rw[qzf,if_neg h1]
    rw[hf]at hsucc
    refine⟨by simp,⟨hlen.symm,by omega,by omega⟩,⟨by omega,by omega⟩,_,?_,k+1,by omega,rfl,?_⟩
    ·omega
    ·rw[hsucc];simp
  ·have hkk:k=n:=by omega
   subst hkk
   rw[List.take_of_length_le (by omega)]
   exact⟨fun _ _=>trivial,.refl _⟩
structure RawG where
 w:Int
 h:Int
 tracks:Int
 pads:Int
 kind:List Int
def qzi(q:Bool)(x:RawG):List PV:=[.sc (.int .u8 x.w),.sc (.int .u8 x.h),.sc (.int .u8 x.tracks),.sc (.int .u8 x.pads),.sl q 1 (qk8 x.kind)]
@[push_cast] theorem qzj(q:Bool)(x:RawG):qzi q x=[.sc (.int .u8 x.w),.sc (.int .u8 x.h),.sc (.int .u8 x.tracks),.sc (.int .u8 x.pads),.sl q 1 (qk8 x.kind)]:=rfl
structure RawG.Ok (x:RawG):Prop where
 w:0<=x.w/\x.w<=255
 h:0<=x.h/\x.h<=255
 tracks:0<=x.tracks/\x.tracks<=255
 pads:0<=x.pads/\x.pads<=255
 len:(x.kind.length:Int)<=9223372036854775807
 kind: ∀k∈x.kind,0<=k/\k<=255
def qzk(x:RawG):Grid:=⟨2+x.w%4,2+x.h%4,2+x.tracks%3,24,qzg ((2+x.w%4)*(2+x.h%4)).toNat x.kind⟩
theorem qzl(x:RawG)(hx:x.Ok):FnEq Tryz.prog 39 [.agg (qzi false x)] (.agg (quy true (qzk x))):=by
 refine FnEq.of_awp Tryz.func39 ok39 (by show 1<=_;decide) (by simp only[push_cast,reduceIte,reduceEqDiff,reduceAdd,reduceSub,reduceMul,Nat.reduceBEq,reduceLT,reduceLeDiff,reduceCtorEq,reduceToNat,reduceNeg]<;>first|exact fun _ _=>trivial|simp) ?_
 simp only[ac39,rv39,push_cast,reduceIte,reduceEqDiff,reduceAdd,reduceSub,reduceMul,Nat.reduceBEq,reduceLT,reduceLeDiff,reduceCtorEq,reduceToNat,reduceNeg]
 obtain⟨h1,h2,h3,h4,h5,h6⟩:=hx
 have hm:0<=(2+x.w%4)*(2+x.h%4)/\(2+x.w%4)*(2+x.h%4)<=5*5:=⟨Int.mul_nonneg (by omega) (by omega),Int.mul_le_mul (by omega) (by omega) (by omega) (by omega)⟩
 obtain⟨n,hn⟩: ∃n:Nat,(2+x.w%4)*(2+x.h%4)=n:=⟨((2+x.w%4)*(2+x.h%4)).toNat,by omega⟩
 have hg:qzk x=⟨2+x.w%4,2+x.h%4,2+x.tracks%3,24,qzg n x.kind⟩:=by unfold qzk;rw[hn,Int.toNat_natCast]
 rw[hn]at hm ⊢
 rw[hg]
 refine⟨⟨by omega,by omega,by omega⟩,⟨by omega,by omega⟩,⟨by omega,by omega⟩,⟨by omega,by omega,by omega⟩,⟨by omega,by omega⟩,⟨by omega,by omega⟩,⟨by omega,by omega,by omega⟩,⟨by omega,by omega⟩,⟨by omega,by omega⟩,⟨by omega,by omega⟩,?_⟩
 refine qrm (qzh n (by omega) x.kind h5 h6) sC ?_
 refine sB ?_
 exact fun _ _=>trivial
theorem qzm(x:RawG):GOk (qzk x)/\(qzk x).pads=24:=by
 have hm:0<=(2+x.w%4)*(2+x.h%4):=Int.mul_nonneg (by omega) (by omega)
 refine⟨⟨?_,?_,?_,?_,?_⟩,rfl⟩<;>simp only[qzk,qzg,List.length_map,List.length_range]<;>omega
def wilA(c:Cfg):List (Nat×Arr):=[(211,⟨1,3,ints c.sel⟩),(213,⟨1,3,ints c.mode⟩),(215,⟨1,3,ints c.tab⟩),(217,⟨1,3,ints c.ram⟩)]
def wilV(c:Cfg):List PV:=[.view 211 0 c.sel.length,.view 213 0 c.mode.length,.view 215 0 c.tab.length,.view 217 0 c.ram.length]
def wilS(l:List Int)(g:Grid):St:=⟨[(1,.sl false 1 (qk8 l)),(2,.ptr 2 0),(4,.ptr 4 0),(10,.agg (quy false g))],[(2,quy false g),(4,[.nil,.nil,.nil,.nil])],[],[]⟩
theorem qzn(l:List Int)(g:Grid)(hg:GOk g):FnM (Env.of Tryz.prog) 37 [.agg (quy false g)] (wilS l g) (fun v st' =>v= .agg (wilV (qwM g))/\st' = { wilS l g with a:=wilA (qwM g) }):=by
 have h1:=hg.count
 have h2:=hg.wh
 have h3:=hg.kind
 refine FnM.dropB 201 (FnM.dropB 202 ?_)
 simp only[wilS,push_cast,reduceIte,reduceEqDiff,reduceAdd,reduceSub,reduceMul,Nat.reduceBEq,reduceLT,reduceLeDiff,reduceCtorEq,reduceToNat,reduceNeg]
 refine qtT 200 Tryz.func37 ok37_200w (by show 1<=_;decide) rfl (by decide) ?_
 simp only[ac37_200w,rv37_200w,push_cast,reduceIte,reduceEqDiff,reduceAdd,reduceSub,reduceMul,Nat.reduceBEq,reduceLT,reduceLeDiff,reduceCtorEq,reduceToNat,reduceNeg]
 refine⟨by omega,?_⟩
 refine qro (quI g hg) sC rfl ?_
 refine sB ?_
 refine⟨by omega,by omega,by omega,by omega,?_,?_⟩
 ·simp[wilV,qwM]
  omega
 ·rw[show(g.w*g.h).toNat=g.kind.length by omega]
  simp only[wilA,qwM,List.length_replicate,push_cast,reduceIte,reduceEqDiff,reduceAdd,reduceSub,reduceMul,Nat.reduceBEq,reduceLT,reduceLeDiff,reduceCtorEq,reduceToNat,reduceNeg]
def selW(g:Grid)(c:Cfg)(n b:Int):Cfg:=if 0<((qvM g n).length:Int)then { c with sel:=c.sel.set n.toNat (1+b%((qvM g n).length:Int)) } else c
def qzo(g:Grid)(c:Cfg)(t:Nat)(b:Int):Cfg:=
 if g.kind.getD t 0=0 then c else if b%3=0 then { c with mode:=c.mode.set t 1,tab:=c.tab.set t (100*b),ram:=c.ram.set t 0 }
 else if b%3=1 then { c with mode:=c.mode.set t 2,tab:=c.tab.set t (100*b),ram:=c.ram.set t (b/3) } else c
def qzp(g:Grid)(l:List Int)(c:Cfg)(i:Nat):Cfg:=
 qzo g (selW g c ((7*(i:Int)+l.getD i 0)%(c.sel.length:Int)) (l.getD (i+1) 0)) (l.getD i 0%(g.w*g.h)).toNat (l.getD (i+1) 0)
def qzq(g:Grid)(l:List Int):Nat->Cfg
 |0=>qwM g
 |j+1=>qzp g l (qzq g l j) (2*j)
def qzr(g:Grid)(l:List Int):Cfg:=qzq g l (min (l.length/2) 40)
def qzs(g:Grid)(c:Cfg):Prop:=c.sel.length=(quD g).toNat/\c.mode.length=g.kind.length/\c.tab.length=g.kind.length/\c.ram.length=g.kind.length
theorem qzt{g:Grid}{c:Cfg}{n b:Int}(h:qzs g c):qzs g (selW g c n b):=by
 obtain⟨h1,h2,h3,h4⟩:=h
 unfold selW
 split<;>refine⟨?_,?_,?_,?_⟩<;>simp[*]
theorem qzu{g:Grid}{c:Cfg}{t:Nat}{b:Int}(h:qzs g c):qzs g (qzo g c t b):=by
 obtain⟨h1,h2,h3,h4⟩:=h
 unfold qzo
 split
 ·exact⟨h1,h2,h3,h4⟩
 ·split
  ·refine⟨?_,?_,?_,?_⟩<;>simp[*]
  ·split
   ·refine⟨?_,?_,?_,?_⟩<;>simp[*]
   ·exact⟨h1,h2,h3,h4⟩
theorem qzv{g:Grid}{l:List Int}{c:Cfg}{i:Nat}(h:qzs g c):qzs g (qzp g l c i):=qzu (qzt h)
theorem qzw(g:Grid)(l:List Int): ∀j,qzs g (qzq g l j)
 |0=>by refine⟨?_,?_,?_,?_⟩<;>simp[qzq,qwM]
 |j+1=>qzv (qzw g l j)
set_option maxHeartbeats 4000000 in
theorem qzx(g:Grid)(hg:GOk g)(l:List Int)(hl:(l.length:Int)<=9223372036854775807)(hb: ∀x∈l,0<=x/\x<=255):FnEq Tryz.prog 24 [.agg (quy false g),.sl false 1 (qk8 l)] (.agg (cfgC true (qzr g l))):=by
 have h1:=hg.count
 have h2:=hg.wh
 have h3:=hg.kind
 refine FnEq.of_awp Tryz.func24 ok24w (by show 2<=_;decide) (by simp only[push_cast,reduceIte,reduceEqDiff,reduceAdd,reduceSub,reduceMul,Nat.reduceBEq,reduceLT,reduceLeDiff,reduceCtorEq,reduceToNat,reduceNeg]<;>first|exact fun _ _=>trivial|simp) ?_
 simp only[ac24w,rv24w,push_cast,reduceIte,reduceEqDiff,reduceAdd,reduceSub,reduceMul,Nat.reduceBEq,reduceLT,reduceLeDiff,reduceCtorEq,reduceToNat,reduceNeg]
 refine qst (qzn l g hg) ?_
 simp only[wilV,wilA,wilS,push_cast,reduceIte,reduceEqDiff,reduceAdd,reduceSub,reduceMul,Nat.reduceBEq,reduceLT,reduceLeDiff,reduceCtorEq,reduceToNat,reduceNeg]
 refine qoH (fun m st=> ∃j:Nat,j<=min (l.length/2) 40/\m=min (l.length/2) 40-j/\st=⟨[(1,.sl false 1 (qk8 l)),(2,.ptr 2 0),(4,.ptr 4 0),(5,.ptr 5 0),(6,.int (2*(j:Int)))],[(2,quy false g),(4,[.nil,.nil,.nil,.nil]),(5,wilV (qzq g l j))],wilA (qzq g l j),[]⟩) (min (l.length/2) 40) ?_ ?_
 ·refine⟨0,by omega,by omega,?_⟩
  simp only[wilV,wilA,qzq,Int.mul_zero,push_cast,reduceIte,reduceEqDiff,reduceAdd,reduceSub,reduceMul,Nat.reduceBEq,reduceLT,reduceLeDiff,reduceCtorEq,reduceToNat,reduceNeg]
 rintro m st ⟨j,hj,rfl,rfl⟩
 obtain⟨q1,q2,q3,q4⟩:=qzw g l j
 have e0: ∀(l:List Int) (j:Nat),l.getD j default=l.getD j 0:=fun _ _=>rfl
 have hst:qzq g l (j+1)=qzp g l (qzq g l j) (2*j):=rfl
 have hcast:((2*j:Nat):Int)=2*(j:Int):=by omega
 have hF:qzr g l=qzq g l (min (l.length/2) 40):=rfl
 have hba:0<=l.getD (2*j) 0/\l.getD (2*j) 0<=255:=by
  by_cases h:2*j<l.length
  ·exact hb _ (qza h)
  ·rw[List.getD_eq_getElem?_getD,List.getElem?_eq_none (by omega)];decide
 have hbb:0<=l.getD (2*j+1) 0/\l.getD (2*j+1) 0<=255:=by
  by_cases h:2*j+1<l.length
  ·exact hb _ (qza h)
  ·rw[List.getD_eq_getElem?_getD,List.getElem?_eq_none (by omega)];decide
 simp only[wilV,wilA,push_cast,reduceIte,reduceEqDiff,reduceAdd,reduceSub,reduceMul,Nat.reduceBEq,reduceLT,reduceLeDiff,reduceCtorEq,reduceToNat,reduceNeg]
 refine⟨by omega,?_⟩
 obtain⟨B,hB⟩: ∃B,B=decide (2*j+1<l.length/\2*j<80):=⟨_,rfl⟩
 refine qry ⟨[(1,.sl false 1 (qk8 l)),(2,.ptr 2 0),(4,.ptr 4 0),(5,.ptr 5 0),(6,.int (2*j)),(20,.bool B)],[(2,quy false g),(4,[.nil,.nil,.nil,.nil]),(5,wilV (qzq g l j))],wilA (qzq g l j),[]⟩ ?_ ?_
 ·refine qrq rfl (fun e1=> ?_) fun e1=> ?_<;>simp only[push_cast,reduceIte,reduceEqDiff,reduceAdd,reduceSub,reduceMul,Nat.reduceBEq,reduceLT,reduceLeDiff,reduceCtorEq,reduceToNat,reduceNeg]
  ·rw[show B=decide (2*(j:Int)<80)from by rw[hB,decide_eq_decide];omega]
   simp only[wilV,wilA,push_cast,reduceIte,reduceEqDiff,reduceAdd,reduceSub,reduceMul,Nat.reduceBEq,reduceLT,reduceLeDiff,reduceCtorEq,reduceToNat,reduceNeg]
  ·rw[show B=false from by rw[hB];exact decide_eq_false (by omega)]
   simp only[wilV,wilA,push_cast,reduceIte,reduceEqDiff,reduceAdd,reduceSub,reduceMul,Nat.reduceBEq,reduceLT,reduceLeDiff,reduceCtorEq,reduceToNat,reduceNeg]
 simp only[wilV,wilA,push_cast,reduceIte,reduceEqDiff,reduceAdd,reduceSub,reduceMul,Nat.reduceBEq,reduceLT,reduceLeDiff,reduceCtorEq,reduceToNat,reduceNeg]
 refine qnQ (fun e=> ?_) fun e=> ?_
 rotate_left
 ·rw[hB,decide_eq_false_iff_not]at e
  rw[hF,show min (l.length/2) 40=j by omega]
  exact⟨⟨fun _ _=>trivial,fun _ _=>trivial,fun _ _=>trivial,fun _ _=>trivial⟩,.refl _,.refl _,.refl _,.refl _⟩
 rw[hB,decide_eq_true_eq]at e
 obtain⟨e1,e2⟩:=e
 generalize qzq g l j=c at *
 have ht:(2*(j:Int)).toNat=2*j:=by omega
 have ht1:(2*(j:Int)+1).toNat=2*j+1:=by omega
 have hm:(0<=l.getD (2*j) 0%(g.w*g.h)/\l.getD (2*j) 0%(g.w*g.h)<g.w*g.h):=⟨Int.emod_nonneg _ (by omega),Int.emod_lt_of_pos _ (by omega)⟩
 rw[qzp,hcast]at hst
 have hn0:0<=(7*(2*(j:Int))+l.getD (2*j) 0)%(c.sel.length:Int)/\(7*(2*(j:Int))+l.getD (2*j) 0)%(c.sel.length:Int)<c.sel.length:=⟨Int.emod_nonneg _ (by omega),Int.emod_lt_of_pos _ (by omega)⟩
 simp only[e0,ht,ht1,push_cast,reduceIte,reduceEqDiff,reduceAdd,reduceSub,reduceMul,Nat.reduceBEq,reduceLT,reduceLeDiff,reduceCtorEq,reduceToNat,reduceNeg]
 generalize hA:l.getD (2*j) 0=a at *
 generalize hC:l.getD (2*j+1) 0=b at *
 refine⟨by omega,by omega,by omega,by omega,by omega,by omega,?_⟩
 generalize (7*(2*(j:Int))+a)%(c.sel.length:Int)=n at *
 refine qoF (qyI g hg n (by omega)) ?_
 simp only[e0,ht,ht1,hA,hC,push_cast,reduceIte,reduceEqDiff,reduceAdd,reduceSub,reduceMul,Nat.reduceBEq,reduceLT,reduceLeDiff,reduceCtorEq,reduceToNat,reduceNeg]
 have hdl:=qy5 g hg n
 rw[selW]at hst
 generalize (qvM g n).length=k at *
 generalize g.w*g.h=wh at *
 generalize a%wh=t at *
 have next:2*((j:Int)+1)=2*(j:Int)+2:=by omega
 refine qnR (fun hk=> ?_) fun hk=> ?_
 ·rw[if_pos hk]at hst
  have hbk:0<=b%(k:Int)/\b%(k:Int)<k:=⟨Int.emod_nonneg _ (by omega),Int.emod_lt_of_pos _ (by omega)⟩
  refine⟨by omega,by omega,by omega,by omega,by omega,by omega,by omega,by omega,by omega,by omega,by omega,by omega,by omega,by omega,by omega,?_⟩
  refine qnR (fun h0=> ?_) fun h0=> ?_
  ·refine⟨by omega,_,?_,j+1,by omega,rfl,?_⟩
   ·omega
   ·rw[hst,qzo,if_pos h0]
    simp only[wilV,wilA,List.length_set,push_cast,reduceIte,reduceEqDiff,reduceAdd,reduceSub,reduceMul,Nat.reduceBEq,reduceLT,reduceLeDiff,reduceCtorEq,reduceToNat,reduceNeg]
    rw[next]
  refine⟨by omega,by omega,by omega,by omega,qnR (fun h4=> ?_) fun h4=> ?_⟩
  ·refine⟨by omega,by omega,by omega,by omega,by omega,by omega,by omega,by omega,by omega,by omega,by omega,?_⟩
   refine⟨by omega,_,?_,j+1,by omega,rfl,?_⟩
   ·omega
   ·rw[hst,qzo,if_neg h0,if_pos h4]
    simp only[wilV,wilA,List.length_set,push_cast,reduceIte,reduceEqDiff,reduceAdd,reduceSub,reduceMul,Nat.reduceBEq,reduceLT,reduceLeDiff,reduceCtorEq,reduceToNat,reduceNeg]
    rw[next]
  refine⟨by omega,by omega,by omega,by omega,qnR (fun h5=> ?_) fun h5=> ?_⟩
  ·refine⟨by omega,by omega,by omega,by omega,by omega,by omega,by omega,by omega,by omega,by omega,by omega,by omega,by omega,by omega,by omega,by omega,?_⟩
   refine⟨by omega,_,?_,j+1,by omega,rfl,?_⟩
   ·omega
   ·rw[hst,qzo,if_neg h0,if_neg h4,if_pos h5]
    simp only[wilV,wilA,List.length_set,push_cast,reduceIte,reduceEqDiff,reduceAdd,reduceSub,reduceMul,Nat.reduceBEq,reduceLT,reduceLeDiff,reduceCtorEq,reduceToNat,reduceNeg]
    rw[next]
  ·refine⟨by omega,_,?_,j+1,by omega,rfl,?_⟩
   ·omega
   ·rw[hst,qzo,if_neg h0,if_neg h4,if_neg h5]
    simp only[wilV,wilA,List.length_set,push_cast,reduceIte,reduceEqDiff,reduceAdd,reduceSub,reduceMul,Nat.reduceBEq,reduceLT,reduceLeDiff,reduceCtorEq,reduceToNat,reduceNeg]
    rw[next]
 ·rw[if_neg hk]at hst
  refine⟨by omega,by omega,by omega,by omega,by omega,by omega,by omega,?_⟩
  refine qnR (fun h0=> ?_) fun h0=> ?_
  ·refine⟨by omega,_,?_,j+1,by omega,rfl,?_⟩
   ·omega
   ·rw[hst,qzo,if_pos h0]
    simp only[wilV,wilA,List.length_set,push_cast,reduceIte,reduceEqDiff,reduceAdd,reduceSub,reduceMul,Nat.reduceBEq,reduceLT,reduceLeDiff,reduceCtorEq,reduceToNat,reduceNeg]
    rw[next]
  refine⟨by omega,by omega,by omega,by omega,qnR (fun h4=> ?_) fun h4=> ?_⟩
  ·refine⟨by omega,by omega,by omega,by omega,by omega,by omega,by omega,by omega,by omega,by omega,by omega,?_⟩
   refine⟨by omega,_,?_,j+1,by omega,rfl,?_⟩
   ·omega
   ·rw[hst,qzo,if_neg h0,if_pos h4]
    simp only[wilV,wilA,List.length_set,push_cast,reduceIte,reduceEqDiff,reduceAdd,reduceSub,reduceMul,Nat.reduceBEq,reduceLT,reduceLeDiff,reduceCtorEq,reduceToNat,reduceNeg]
    rw[next]
  refine⟨by omega,by omega,by omega,by omega,qnR (fun h5=> ?_) fun h5=> ?_⟩
  ·refine⟨by omega,by omega,by omega,by omega,by omega,by omega,by omega,by omega,by omega,by omega,by omega,by omega,by omega,by omega,by omega,by omega,?_⟩
   refine⟨by omega,_,?_,j+1,by omega,rfl,?_⟩
   ·omega
   ·rw[hst,qzo,if_neg h0,if_neg h4,if_pos h5]
    simp only[wilV,wilA,List.length_set,push_cast,reduceIte,reduceEqDiff,reduceAdd,reduceSub,reduceMul,Nat.reduceBEq,reduceLT,reduceLeDiff,reduceCtorEq,reduceToNat,reduceNeg]
    rw[next]
  ·refine⟨by omega,_,?_,j+1,by omega,rfl,?_⟩
   ·omega
   ·rw[hst,qzo,if_neg h0,if_neg h4,if_neg h5]
    simp only[wilV,wilA,List.length_set,push_cast,reduceIte,reduceEqDiff,reduceAdd,reduceSub,reduceMul,Nat.reduceBEq,reduceLT,reduceLeDiff,reduceCtorEq,reduceToNat,reduceNeg]
    rw[next]
theorem qzy(l:List Int)(i j:Nat)(v:Int):(l.set i v).getD j 0=if i=j/\i<l.length then v else l.getD j 0:=by
 rw[List.getD_eq_getElem?_getD,List.getElem?_set,List.getD_eq_getElem?_getD]
 by_cases h:i=j
 ·subst h
  by_cases h2:i<l.length<;>simp[h2]
 ·simp[h]
theorem qzz{g:Grid}{c:Cfg}{n b:Int}(hn:0<=n)(h: ∀i,i<c.sel.length->qz0 g c i): ∀i,i<c.sel.length->qz0 g (selW g c n b) i:=by
 intro i hi
 unfold selW
 split
 ·rename_i hk
  have hbk:0<=b%((qvM g n).length:Int)/\b%((qvM g n).length:Int)<((qvM g n).length:Int):=⟨Int.emod_nonneg _ (by omega),Int.emod_lt_of_pos _ (by omega)⟩
  unfold qz0
  simp only
  rw[qzy]
  by_cases e:n.toNat=i/\n.toNat<c.sel.length
  ·rw[if_pos e]
   intro _
   rw[show((i:Nat):Int)=n by omega]
   omega
  ·rw[if_neg e]
   exact h i hi
 ·exact h i hi
theorem qzA(g:Grid)(c:Cfg)(t:Nat)(b:Int):(qzo g c t b).sel=c.sel:=by
 unfold qzo
 split
 ·rfl
 ·split
  ·rfl
  ·split<;>rfl
theorem qzB{g:Grid}(hg:GOk g)(l:List Int): ∀j,∀i,i<(qzq g l j).sel.length->qz0 g (qzq g l j) i
 |0=>fun i hi h=>absurd (by simp[qzq,qwM,List.getElem?_replicate]at hi ⊢;split<;>rfl) h
 | j + 1 => fun i hi => by
   have h1:=hg.count
   have h2:=(qzw g l j).1
   have h3:=(qzw g l (j+1)).1
   have hn:=Int.emod_nonneg (7*((2*j:Nat):Int)+l.getD (2*j) 0) (show((qzq g l j).sel.length:Int)≠0 by omega)
   have:=qzz (b:=l.getD (2*j+1) 0) hn (qzB hg l j) i (by omega)
   unfold qz0 at this ⊢
   show(qzo _ _ _ _).sel.getD _ _≠0->_
   rw[qzA]
   intro h4
   show 1<=(qzo _ _ _ _).sel.getD _ _/\(qzo _ _ _ _).sel.getD _ _<=_
   rw[qzA]
   exact this h4
theorem qzC{g:Grid}(hg:GOk g)(l:List Int):SelsOk g (qzr g l):=⟨(qzw g l _).1,qzB hg l _⟩
def qzD(g:Grid)(c:Cfg)(n:Int):Int:=if c.sel.getD n.toNat 0=0\/((qvM g n).length:Int)<c.sel.getD n.toNat 0 then -1 else(qvM g n).getD (c.sel.getD n.toNat 0-1).toNat 0
theorem qzE{g:Grid}(hg:GOk g){c:Cfg}(hc:SelsOk g c){n:Int}(hn:0<=n/\n<c.sel.length)(h:c.sel.getD n.toNat 0≠0):qzD g c n=(qvM g n).getD (c.sel.getD n.toNat 0-1).toNat 0/\0<=qzD g c n/\qzD g c n<c.sel.length:=by
 have h1:=hg.count
 have h2:=hc.len
 have h3:=hc.sel n.toNat (by omega) h
 rw[show((n.toNat:Nat):Int)=n by omega]at h3
 have h4:qzD g c n=(qvM g n).getD (c.sel.getD n.toNat 0-1).toNat 0:=if_neg (by omega)
 have h5:=qz9 hg n _ (qza (l:=qvM g n) (k:=(c.sel.getD n.toNat 0-1).toNat) (by omega))
 rw[<- h4]at h5
 exact⟨h4,by omega,by omega⟩
theorem qzF{g:Grid}{c:Cfg}(hc:SelsOk g c){n:Int}(hn:0<=n/\n<c.sel.length)(h:qvM g n=[]):c.sel.getD n.toNat 0=0:=by
 by_cases e:c.sel.getD n.toNat 0=0
 ·exact e
 ·have:=hc.sel n.toNat (by omega) e
  rw[show((n.toNat:Nat):Int)=n by omega,h]at this
  simp at this
  omega
theorem qzS{g:Grid}{c:Cfg}(hl:qzs g c){t0:Nat}{b:Int}(hb:0<=b/\b<=255)(h: ∀t,t<g.kind.length->qz1 g c t): ∀t,t<g.kind.length->qz1 g (qzo g c t0 b) t:=by
 obtain⟨l1,l2,l3,l4⟩:=hl
 intro t ht
 have h0:=h t ht
 unfold qzo
 split
 ·exact h0
 ·rename_i hk
  split
  ·unfold qz1
   simp only[qzy]
   by_cases e:t0=t
   ·subst e
    rw[if_pos ⟨rfl,by omega⟩,if_pos ⟨rfl,by omega⟩,if_pos ⟨rfl,by omega⟩]
    refine⟨by omega,?_,by simp;omega,by simp⟩
    unfold qwy
    rw[if_neg hk]
    split<;>simp
   ·rw[if_neg (fun q=>e q.1),if_neg (fun q=>e q.1),if_neg (fun q=>e q.1)]
    exact h0
  ·split
   ·unfold qz1
    simp only[qzy]
    by_cases e:t0=t
    ·subst e
     rw[if_pos ⟨rfl,by omega⟩,if_pos ⟨rfl,by omega⟩,if_pos ⟨rfl,by omega⟩]
     refine⟨by omega,?_,by simp;omega,by simp;omega⟩
     unfold qwy
     rw[if_neg hk]
     split<;>simp
    ·rw[if_neg (fun q=>e q.1),if_neg (fun q=>e q.1),if_neg (fun q=>e q.1)]
     exact h0
   ·exact h0
theorem qzT{g:Grid}{l:List Int}(hb: ∀x∈l,0<=x/\x<=255): ∀j t,t<g.kind.length->qz1 g (qzq g l j) t
 | 0, t, ht => by
   have e: ∀n i,(List.replicate n (0:Int)).getD i 0=0:=fun n i=>by
    rw[List.getD_eq_getElem?_getD,List.getElem?_replicate]
    split<;>rfl
   unfold qz1
   simp only[qzq,qwM,e]
   refine⟨by omega,?_,by simp,by simp⟩
   unfold qwy
   split
   ·simp
   ·split<;>simp
 | j + 1, t, ht => by
   have hx: ∀i,0<=l.getD i 0/\l.getD i 0<=255:=fun i=>by
    by_cases h:i<l.length
    ·exact hb _ (qza h)
    ·rw[List.getD_eq_getElem?_getD,List.getElem?_eq_none (by omega)];decide
   have hs: ∀t,t<g.kind.length->qz1 g (selW g (qzq g l j) ((7*((2*j:Nat):Int)+l.getD (2*j) 0)%((qzq g l j).sel.length:Int)) (l.getD (2*j+1) 0)) t:=fun t ht=>by
    have:=qzT hb j t ht
    unfold selW
    split
    ·exact this
    ·exact this
   exact qzS (qzt (qzw g l j)) (hx _) hs t ht
def qzU(l:List Int)(n:Int):Int:=if n∈l then(l.idxOf n:Nat)else -1
theorem qzV{n:Int} : ∀ {l:List Int} {k:Nat},k<l.length->l.getD k 0=n->(∀i,i<k->l.getD i 0≠n)->l.idxOf n=k
 |x::l,0,_,h,_=>by simp at h;simp[h]
 | x :: l, k + 1, hk, h, h2 => by
   have h0:x≠n:=by simpa using h2 0 (by omega)
   have:=qzV (l:=l) (k:=k) (by simpa using hk) (by simpa using h) fun i hi=>by simpa using h2 (i+1) (by omega)
   rw[List.idxOf_cons,this,show(x==n)=false from beq_false_of_ne h0]
   rfl
theorem qzW(l:List Int)(hl:(l.length:Int)<=1000000000)(n:Int):FnEq Tryz.prog 44 [.sl false 1 (ints l),.int n] (.int (qzU l n)):=by
 refine FnEq.of_awp Tryz.func44 ok44 (by show 2<=_;decide) (by simp only[push_cast,reduceIte,reduceEqDiff,reduceAdd,reduceSub,reduceMul,Nat.reduceBEq,reduceLT,reduceLeDiff,reduceCtorEq,reduceToNat,reduceNeg]<;>first|exact fun _ _=>trivial|simp) ?_
 simp only[ac44,rv44,push_cast,reduceIte,reduceEqDiff,reduceAdd,reduceSub,reduceMul,Nat.reduceBEq,reduceLT,reduceLeDiff,reduceCtorEq,reduceToNat,reduceNeg]
 have e0: ∀(l:List Int) (j:Nat),l.getD j default=l.getD j 0:=fun _ _=>rfl
 refine qoH (fun m st=> ∃k:Nat,k<=l.length/\m=l.length-k/\(∀i,i<k->l.getD i 0≠n)/\st=⟨[(0,.sl false 1 (ints l)),(1,.int n),(5,.int k)],[],[],[]⟩) l.length ?_ ?_
 ·refine⟨0,by omega,by omega,fun i hi=>by omega,?_⟩
  exact sC
 rintro m st ⟨k,hk,rfl,hP,rfl⟩
 simp only[e0,push_cast,reduceIte,reduceEqDiff,reduceAdd,reduceSub,reduceMul,Nat.reduceBEq,reduceLT,reduceLeDiff,reduceCtorEq,reduceToNat,reduceNeg]
 refine qnR (fun h=>⟨by omega,by omega,qnR (fun h2=> ?_) fun h2=> ?_⟩) fun h=> ?_
 ·have hm:n∈l:=h2▸qza (by omega)
  rw[qzU,if_pos hm,qzV (k:=k) (by omega) h2 hP]
 ·refine⟨by omega,_,?_,k+1,by omega,rfl,?_,?_⟩
  ·omega
  ·intro i hi
   by_cases e:i=k
   ·rw[e];exact h2
   ·exact hP i (by omega)
  ·exact sC
 ·have hm : n ∉ l := fun hm => by
   obtain⟨i,hi,e⟩:=List.getElem_of_mem hm
   refine hP i (by omega) ?_
   simp[hi,e]
  rw[qzU,if_neg hm]
def qzX(g:Grid)(b:Block)(t:Int):Prop:=((0<=t/\t<g.kind.length)/\g.kind.getD t.toNat 0≠0/\ ¬(g.kind.getD t.toNat 0=1/\b.ram≠ -1))/\
 ((0<=b.table/\b.table<=65535)/\(-1<=b.ram/\b.ram<=255)/\(-1<=b.reg/\b.reg<=255))/\(b.ram= -1\/b.reg= -1)
instance (g:Grid) (b:Block) (t:Int):Decidable (qzX g b t):=by unfold qzX;infer_instance
set_option maxHeartbeats 4000000 in
theorem qzY(g:Grid)(hg:GOk g)(b:Block)(t:Int):FnEq Tryz.prog 73 [.agg (quy false g),.agg (qwB false b),.int t] (.bool (decide (qzX g b t))):=by
 have hk:=hg.kind
 have hw:=hg.wh
 refine FnEq.of_awp Tryz.func73 ok73 (by show 3<=_;decide) (by simp only[push_cast,reduceIte,reduceEqDiff,reduceAdd,reduceSub,reduceMul,Nat.reduceBEq,reduceLT,reduceLeDiff,reduceCtorEq,reduceToNat,reduceNeg]<;>first|exact fun _ _=>trivial|simp) ?_
 simp only[ac73,rv73,push_cast,reduceIte,reduceEqDiff,reduceAdd,reduceSub,reduceMul,Nat.reduceBEq,reduceLT,reduceLeDiff,reduceCtorEq,reduceToNat,reduceNeg]
 have e0: ∀(l:List Int) (j:Nat),l.getD j default=l.getD j 0:=fun _ _=>rfl
 obtain⟨B,hB⟩: ∃B,B=decide (¬((0<=t/\t<g.kind.length)/\g.kind.getD t.toNat 0≠0/\ ¬(g.kind.getD t.toNat 0=1/\b.ram≠ -1))):=⟨_,rfl⟩
 refine qry ⟨[(4,.ptr 4 0),(38,.bool B)],[(3,quy false g),(4,qwB false b)],[],[]⟩ ?_ ?_
 ·generalize hx:g.kind.getD t.toNat 0=x at *
  repeat' (first
   |(refine qrr rfl (fun _=> ?_) fun _=> ?_<;>simp only[e0,hx,<- hk,push_cast,reduceIte,reduceEqDiff,reduceAdd,reduceSub,reduceMul,Nat.reduceBEq,reduceLT,reduceLeDiff,reduceCtorEq,reduceToNat,reduceNeg])
   |(refine qrq rfl (fun _=> ?_) fun _=> ?_<;>simp only[e0,hx,<- hk,push_cast,reduceIte,reduceEqDiff,reduceAdd,reduceSub,reduceMul,Nat.reduceBEq,reduceLT,reduceLeDiff,reduceCtorEq,reduceToNat,reduceNeg])
   |(refine And.intro (by omega) ?_;try simp only[e0,hx,<- hk,push_cast,reduceIte,reduceEqDiff,reduceAdd,reduceSub,reduceMul,Nat.reduceBEq,reduceLT,reduceLeDiff,reduceCtorEq,reduceToNat,reduceNeg]))
  all_goals first
   |(rw[show B=true from by rw[hB];exact decide_eq_true (by omega)];done)
   |(rw[show B=false from by rw[hB];exact decide_eq_false (by omega)];done)
   |(rw[show B=decide (b.ram≠ -1)from by rw[hB,decide_eq_decide];omega];done)
   |(rw[show B=decide (x=0)from by rw[hB,decide_eq_decide];omega];done)
   |skip
 simp only[e0,push_cast,reduceIte,reduceEqDiff,reduceAdd,reduceSub,reduceMul,Nat.reduceBEq,reduceLT,reduceLeDiff,reduceCtorEq,reduceToNat,reduceNeg]
 refine qnQ (fun e=> ?_) fun e=> ?_
 ·rw[hB,decide_eq_true_eq]at e
  rw[decide_eq_false fun h=>e h.1]
 rw[hB,decide_eq_false_iff_not,Classical.not_not]at e
 obtain⟨C,hC⟩: ∃C,C=decide (qzX g b t):=⟨_,rfl⟩
 have hBF:qzX g b t ↔ ((0<=b.table/\b.table<=65535)/\(-1<=b.ram/\b.ram<=255)/\(-1<=b.reg/\b.reg<=255))/\(b.ram= -1\/b.reg= -1):=⟨fun h=>h.2,fun h=>⟨e,h⟩⟩
 rw[<- hC]
 clear e hB
 repeat' (first
  |(refine qrr rfl (fun _=> ?_) fun _=> ?_<;>simp only[push_cast,reduceIte,reduceEqDiff,reduceAdd,reduceSub,reduceMul,Nat.reduceBEq,reduceLT,reduceLeDiff,reduceCtorEq,reduceToNat,reduceNeg])
  |(refine qrq rfl (fun _=> ?_) fun _=> ?_<;>simp only[push_cast,reduceIte,reduceEqDiff,reduceAdd,reduceSub,reduceMul,Nat.reduceBEq,reduceLT,reduceLeDiff,reduceCtorEq,reduceToNat,reduceNeg]))
 all_goals first
  |(rw[show C=true from by rw[hC];exact decide_eq_true (hBF.2 (by omega))];done)
  |(rw[show C=false from by rw[hC];exact decide_eq_false fun h=>by have:=hBF.1 h;omega];done)
  |(rw[show C=decide (b.reg= -1)from by rw[hC,decide_eq_decide,hBF];omega];done)
  |skip
def SrcK(s:Spot):Prop:=s.kind=1\/s.kind=2\/s.kind=6
instance (s:Spot):Decidable (SrcK s):=by unfold SrcK;infer_instance
def qzZ(g:Grid):List Int:=idxF (fun k=>decide (SrcK (quJ g k))) (quD g).toNat
theorem qA0(p:Nat->Bool)(x:Int): ∀k,x∈idxF p k ↔ ∃i,i<k/\p i=true/\x=(i:Int)
 |0=>by simp[idxF]
 | k + 1 => by
   rw[idxF,List.mem_append,qA0 p x k]
   constructor
   ·rintro(⟨i,h1,h2,h3⟩|h)
    ·exact⟨i,by omega,h2,h3⟩
    ·split at h
     ·rename_i hp
      exact⟨k,by omega,hp,by simpa using h⟩
     ·simp at h
   ·rintro⟨i,h1,h2,h3⟩
    by_cases e:i=k
    ·subst e
     rw[if_pos h2]
     exact .inr (by simp[h3])
    ·exact .inl ⟨i,by omega,h2,h3⟩
set_option maxHeartbeats 2000000 in
theorem qA1(g:Grid)(hg:GOk g):FnEq Tryz.prog 74 [.agg (quy false g)] (.sl true 1 (ints (qzZ g))):=by
 have h3:=hg.count
 obtain⟨c,hc⟩: ∃c:Nat,quD g=c:=⟨(quD g).toNat,by omega⟩
 have hct:(quD g).toNat=c:=by omega
 rw[qzZ,hct]
 refine FnEq.of_awp Tryz.func74 ok74 (by show 1<=_;decide) (by simp only[push_cast,reduceIte,reduceEqDiff,reduceAdd,reduceSub,reduceMul,Nat.reduceBEq,reduceLT,reduceLeDiff,reduceCtorEq,reduceToNat,reduceNeg]<;>first|exact fun _ _=>trivial|simp) ?_
 simp only[ac74,rv74,push_cast,reduceIte,reduceEqDiff,reduceAdd,reduceSub,reduceMul,Nat.reduceBEq,reduceLT,reduceLeDiff,reduceCtorEq,reduceToNat,reduceNeg]
 refine qoH (fun m st=> ∃k:Nat,k<=c/\m=c-k/\st=⟨[(1,.ptr 1 0),(3,.view 6 0 (idxF (fun k=>decide (SrcK (quJ g k))) k).length),(4,.int k)],[(1,quy false g)],[(6,⟨1,3,ints (idxF (fun k=>decide (SrcK (quJ g k))) k)⟩)],[]⟩) c ?_ ?_
 ·refine⟨0,by omega,by omega,?_⟩
  simp only[idxF,push_cast,reduceIte,reduceEqDiff,reduceAdd,reduceSub,reduceMul,Nat.reduceBEq,reduceLT,reduceLeDiff,reduceCtorEq,reduceToNat,reduceNeg]
  rfl
 rintro m st ⟨k,hk,rfl,rfl⟩
 have hlen:=qyJ (fun k=>decide (SrcK (quJ g k))) k
 have hs:idxF (fun k=>decide (SrcK (quJ g k))) (k+1)=idxF (fun k=>decide (SrcK (quJ g k))) k++if SrcK (quJ g k)then[(k:Int)]else[]:=by rw[idxF];simp only[decide_eq_true_eq]
 generalize hL:idxF (fun k=>decide (SrcK (quJ g k))) k=L at hlen hs ⊢
 refine sB ?_
 refine qrm (quI g hg) sC ?_
 rw[hc]
 refine sB ?_
 refine qnR (fun h=> ?_) fun h=> ?_
 ·have hk2: ¬((k:Int)<0\/quD g<=k):=by omega
  have ek:quK g k=(quJ g k,0):=by rw[quK,if_neg hk2]
  have hDk:=qvY g hg k (by omega)
  rw[ek]at hDk
  refine qrm hDk sC ?_
  simp only[qvW,push_cast,reduceIte,reduceEqDiff,reduceAdd,reduceSub,reduceMul,Nat.reduceBEq,reduceLT,reduceLeDiff,reduceCtorEq,reduceToNat,reduceNeg]
  generalize quJ g k=s at hs ⊢
  obtain⟨B,hB⟩: ∃B,B=decide (SrcK s):=⟨_,rfl⟩
  have hSK:SrcK s ↔ s.kind=1\/s.kind=2\/s.kind=6:=Iff.rfl
  refine qry ⟨[(1,.ptr 1 0),(3,.view 6 0 L.length),(4,.int k),(27,.bool B)],[(1,quy false g)],[(6,⟨1,3,ints L⟩)],[]⟩ ?_ ?_
  ·repeat' (first
    |(refine qrr rfl (fun _=> ?_) fun _=> ?_<;>simp only[push_cast,reduceIte,reduceEqDiff,reduceAdd,reduceSub,reduceMul,Nat.reduceBEq,reduceLT,reduceLeDiff,reduceCtorEq,reduceToNat,reduceNeg])
    |(refine qrq rfl (fun _=> ?_) fun _=> ?_<;>simp only[push_cast,reduceIte,reduceEqDiff,reduceAdd,reduceSub,reduceMul,Nat.reduceBEq,reduceLT,reduceLeDiff,reduceCtorEq,reduceToNat,reduceNeg]))
   all_goals first
    |(rw[show B=true from by rw[hB];exact decide_eq_true (hSK.2 (by omega))];done)
    |(rw[show B=decide (s.kind=6)from by rw[hB,decide_eq_decide,hSK];omega];done)
  refine sB ?_
  refine qnQ (fun e=> ?_) fun e=> ?_
  ·rw[hB,decide_eq_true_eq]at e
   rw[if_pos e]at hs
   refine⟨by simp,by omega,by omega,_,?_,k+1,by omega,rfl,?_⟩
   ·omega
   ·rw[hs]
    simp
  ·rw[hB,decide_eq_false_iff_not]at e
   rw[if_neg e,List.append_nil]at hs
   refine⟨by omega,_,?_,k+1,by omega,rfl,?_⟩
   ·omega
   ·rw[hs]
    simp
 ·rw[show c=k by omega,hL]
  exact⟨fun _ _=>trivial,.refl _⟩
def qA2(g:Grid)(s:Spot)(k:Nat):List Int:=idxF (fun i=>decide (CanD g s (quJ g i))) k
def qA3(g:Grid)(n:Int):List Int:=if(quK g n).2=0 then qA2 g (quK g n).1 (quD g).toNat else[]
set_option maxHeartbeats 2000000 in
theorem qA4(g:Grid)(hg:GOk g)(n:Int)(hn:0<=n/\n<quD g):FnEq Tryz.prog 75 [.agg (quy false g),.int n] (.sl true 1 (ints (qA3 g n))):=by
 have h3:=hg.count
 have hD:=qvY g hg n (by omega)
 obtain⟨c,hc⟩: ∃c:Nat,quD g=c:=⟨(quD g).toNat,by omega⟩
 have hct:(quD g).toNat=c:=by omega
 have hE: ¬(n<0\/quD g<=n):=by omega
 have e:quK g n=(quJ g n,0):=by rw[quK,if_neg hE]
 obtain⟨r1,_⟩:=qvN hg hE
 have e2:qA3 g n=qA2 g (quJ g n) c:=by rw[qA3,e,hct];rfl
 rw[e2]
 rw[e]at hD
 clear e e2 hE
 refine FnEq.of_awp Tryz.func75 ok75 (by show 2<=_;decide) (by simp only[push_cast,reduceIte,reduceEqDiff,reduceAdd,reduceSub,reduceMul,Nat.reduceBEq,reduceLT,reduceLeDiff,reduceCtorEq,reduceToNat,reduceNeg]<;>first|exact fun _ _=>trivial|simp) ?_
 simp only[ac75,rv75,push_cast,reduceIte,reduceEqDiff,reduceAdd,reduceSub,reduceMul,Nat.reduceBEq,reduceLT,reduceLeDiff,reduceCtorEq,reduceToNat,reduceNeg]
 refine qrm hD sC ?_
 simp only[qvW,push_cast,reduceIte,reduceEqDiff,reduceAdd,reduceSub,reduceMul,Nat.reduceBEq,reduceLT,reduceLeDiff,reduceCtorEq,reduceToNat,reduceNeg]
 generalize quJ g n=s at r1 ⊢
 refine qoH (fun m st=> ∃k:Nat,k<=c/\m=c-k/\st=⟨[(2,.ptr 2 0),(5,.view 8 0 (qA2 g s k).length),(6,.ptr 6 0),(7,.int k)],[(2,quy false g),(6,[.int s.kind,.int s.x,.int s.y,.int s.i,.int 0])],[(8,⟨1,3,ints (qA2 g s k)⟩)],[]⟩) c ?_ ?_
 ·refine⟨0,by omega,by omega,?_⟩
  refine sB ?_
  rfl
 rintro m st ⟨k,hk,rfl,rfl⟩
 have hlen:(qA2 g s k).length<=k:=qyJ _ k
 have hs:qA2 g s (k+1)=qA2 g s k++if CanD g s (quJ g k)then[(k:Int)]else[]:=by rw[qA2,idxF];simp only[decide_eq_true_eq];rfl
 generalize hL:qA2 g s k=L at hlen hs ⊢
 refine sB ?_
 refine qrm (quI g hg) sC ?_
 rw[hc]
 refine sB ?_
 refine qry ⟨[(2,.ptr 2 0),(5,.view 8 0 L.length),(6,.ptr 6 0),(7,.int k),(20,.bool (decide (k<c)))],[(2,quy false g),(6,[.int s.kind,.int s.x,.int s.y,.int s.i,.int 0])],[(8,⟨1,3,ints L⟩)],[]⟩ ?_ ?_
 ·refine qrq rfl (fun h=> ?_) fun h=> ?_<;>simp only[push_cast,reduceIte,reduceEqDiff,reduceAdd,reduceSub,reduceMul,Nat.reduceBEq,reduceLT,reduceLeDiff,reduceCtorEq,reduceToNat,reduceNeg]
  ·rw[decide_eq_true (show k<c by omega)]
  ·rw[decide_eq_false (show ¬k<c by omega)]
 refine sB ?_
 refine qnR (fun h=> ?_) fun h=> ?_
 ·have hk2: ¬((k:Int)<0\/quD g<=k):=by omega
  have ek:quK g k=(quJ g k,0):=by rw[quK,if_neg hk2]
  have hDk:=qvY g hg k (by omega)
  rw[ek]at hDk
  obtain⟨q1,_⟩:=qvN hg hk2
  refine qro hDk sC rfl ?_
  simp only[qvW,push_cast,reduceIte,reduceEqDiff,reduceAdd,reduceSub,reduceMul,Nat.reduceBEq,reduceLT,reduceLeDiff,reduceCtorEq,reduceToNat,reduceNeg]
  refine qrm (qvV g hg s (quJ g k) r1 q1) sC ?_
  refine sB ?_
  refine qnR (fun h2=> ?_) fun h2=> ?_
  ·rw[if_pos h2]at hs
   refine⟨by simp,by omega,by omega,_,?_,k+1,by omega,rfl,?_⟩
   ·omega
   ·rw[hs]
    simp
  ·rw[if_neg h2,List.append_nil]at hs
   refine⟨by omega,_,?_,k+1,by omega,rfl,?_⟩
   ·omega
   ·rw[hs]
    simp
 ·rw[show c=k by omega,hL]
  exact⟨fun _ _=>trivial,.refl _⟩
structure RawG.By (x:RawG):Prop where
 w:0<=x.w/\x.w<=255
 h:0<=x.h/\x.h<=255
 tracks:0<=x.tracks/\x.tracks<=255
 pads:0<=x.pads/\x.pads<=255
 len:(x.kind.length:Int)<=9223372036854775807
 kind: ∀k∈x.kind,0<=k/\k<=255
theorem RawG.By.ok{x:RawG}(h:x.By):x.Ok:=⟨h.w,h.h,h.tracks,h.pads,h.len,h.kind⟩
def qA5(L:Nat)(sn:List Int):List Bool:=(List.range L).map fun(i:Nat)=>decide ((i:Int)∈sn)
theorem qA6(L:Nat)(sn:List Int):(qA5 L sn).length=L:=by simp[qA5]
theorem qA7{L:Nat}{sn:List Int}{x:Int}(hx:0<=x/\x<L)(d:Bool):(qA5 L sn).getD x.toNat d=decide (x∈sn):=by
 rw[List.getD_eq_getElem?_getD,qA5,List.getElem?_map,List.getElem?_range (by omega)]
 simp only[Option.map_some,Option.getD_some]
 rw[show((x.toNat:Nat):Int)=x by omega]
theorem qA8{L:Nat}{sn:List Int}{x:Int}(hx:0<=x/\x<L):(qA5 L sn).set x.toNat true=qA5 L (sn++[x]):=by
 refine List.ext_getElem? fun i=> ?_
 rw[List.getElem?_set]
 by_cases h:i<L
 ·by_cases e:x.toNat=i
  ·subst e
   simp[qA5,h]
   omega
  ·simp[qA5,h,e]
   omega
 ·simp[qA5,h]
  omega
theorem qA9(L:Nat):List.replicate L false=qA5 L []:=by
 refine List.ext_getElem? fun i=> ?_
 by_cases h:i<L<;>simp[qA5,h]
theorem qAg{g:Grid}(hg:GOk g)(x:Int):x∈qzZ g ↔ (0<=x/\x<quD g)/\SrcK (quJ g x):=by
 have:=hg.count
 rw[qzZ,qA0]
 constructor
 ·rintro⟨i,h1,h2,rfl⟩
  exact⟨by omega,of_decide_eq_true h2⟩
 ·rintro⟨h1,h2⟩
  exact⟨x.toNat,by omega,decide_eq_true (by rw[show((x.toNat:Nat):Int)=x by omega];exact h2),by omega⟩
theorem qAh{g:Grid}(hg:GOk g){n:Int}(hn:0<=n/\n<quD g)(x:Int):x∈qA3 g n ↔ (0<=x/\x<quD g)/\CanD g (quJ g n) (quJ g x):=by
 have:=hg.count
 have e:quK g n=(quJ g n,0):=by rw[quK,if_neg (by omega)]
 rw[qA3,e,if_pos rfl,qA2,qA0]
 constructor
 ·rintro⟨i,h1,h2,rfl⟩
  exact⟨by omega,of_decide_eq_true h2⟩
 ·rintro⟨h1,h2⟩
  exact⟨x.toNat,by omega,decide_eq_true (by rw[show((x.toNat:Nat):Int)=x by omega];exact h2),by omega⟩
theorem qAi{g:Grid}(hg:GOk g):qzZ g≠[]:=by
 have h1:=hg.count
 have h2:=hg.all
 have h3:=hg.pads
 have h4:=hg.each
 have h5:=hg.tracks
 have:(0:Int)∈qzZ g:=by
  rw[qAg hg]
  refine⟨by omega,.inl ?_⟩
  rw[quJ,if_neg (by omega),if_neg (by omega)]
  have hz:(0:Int)%quC g=0:=Int.zero_emod _
  dsimp only
  rw[hz,if_neg (by omega),if_neg (by omega),if_neg (by omega),if_neg (by omega)]
 intro e
 rw[e]at this
 simp at this
def qAj(g:Grid)(sn:List Int)(a:List Int×List Int)(b:Int):List Int×List Int:=
 if a.1=[]then
  if(qzZ g).getD (b%((qzZ g).length:Int)).toNat 0∈sn then a else([(qzZ g).getD (b%((qzZ g).length:Int)).toNat 0],[-1])
 else
  let f:=(a.1.length:Int)-1-b/64%(a.1.length:Int)
  let d:=qA3 g (a.1.getD f.toNat 0)
  if d=[]then a
  else
   let n:=d.getD (b%64%(d.length:Int)).toNat 0
   if n∉sn/\n∉a.1 then(a.1++[n],a.2++[f])else a
def qAk(g:Grid)(sn l:List Int):Nat->List Int×List Int
 |0=>([],[])
 |k+1=>qAj g sn (qAk g sn l k) (l.getD k 0)
def qAl(g:Grid)(sn l:List Int):Route:=⟨0,(qAk g sn l (min l.length 16)).1,(qAk g sn l (min l.length 16)).2⟩
structure GrOk (g:Grid) (a:List Int×List Int):Prop where
 len:a.2.length=a.1.length
 rng: ∀x∈a.1,0<=x/\x<quD g
theorem qAm{g:Grid}(hg:GOk g){sn:List Int}{a:List Int×List Int}{b:Int}(hb:0<=b/\b<=255)(h:GrOk g a):GrOk g (qAj g sn a b)/\(qAj g sn a b).1.length<=a.1.length+1:=by
 obtain⟨h1,h2⟩:=h
 have hse:=List.length_pos_iff.2 (qAi hg)
 unfold qAj
 split
 ·rename_i e
  split
  ·exact⟨⟨h1,h2⟩,by omega⟩
  ·refine⟨⟨rfl,fun x hx=> ?_⟩,by simp⟩
   rw[List.mem_singleton]at hx
   subst hx
   have hm:(qzZ g).getD (b%((qzZ g).length:Int)).toNat 0∈qzZ g:=qza (by have:=Int.emod_lt_of_pos b (show 0<((qzZ g).length:Int)by omega);have:=Int.emod_nonneg b (show((qzZ g).length:Int)≠0 by omega);omega)
   exact((qAg hg _).1 hm).1
 ·rename_i e
  have hlp:=List.length_pos_iff.2 e
  simp only
  have q1:=Int.emod_lt_of_pos (b/64) (show 0<(a.1.length:Int)by omega)
  have q2:=Int.emod_nonneg (b/64) (show(a.1.length:Int)≠0 by omega)
  generalize b/64%(a.1.length:Int)=q at *
  have hx:=h2 _ (qza (l:=a.1) (k:=((a.1.length:Int)-1-q).toNat) (by omega))
  generalize a.1.getD ((a.1.length:Int)-1-q).toNat 0=x at *
  split
  ·exact⟨⟨h1,h2⟩,by omega⟩
  ·rename_i e2
   have hdp:=List.length_pos_iff.2 e2
   split
   ·refine⟨⟨by simp[h1],fun y hy=> ?_⟩,by simp⟩
    rw[List.mem_append,List.mem_singleton]at hy
    rcases hy with hy|rfl
    ·exact h2 y hy
    ·have hm:(qA3 g x).getD (b%64%((qA3 g x).length:Int)).toNat 0∈qA3 g x:=qza (by have:=Int.emod_lt_of_pos (b%64) (show 0<((qA3 g x).length:Int)by omega);have:=Int.emod_nonneg (b%64) (show((qA3 g x).length:Int)≠0 by omega);omega)
     exact((qAh hg hx _).1 hm).1
   ·exact⟨⟨h1,h2⟩,by omega⟩
theorem qAn{g:Grid}(hg:GOk g)(sn l:List Int)(hb: ∀x∈l,0<=x/\x<=255): ∀k,GrOk g (qAk g sn l k)/\(qAk g sn l k).1.length<=k
 |0=>⟨⟨rfl,by simp[qAk]⟩,by simp[qAk]⟩
 | k + 1 => by
   have hbk:0<=l.getD k 0/\l.getD k 0<=255:=by
    by_cases h:k<l.length
    ·exact hb _ (qza h)
    ·rw[List.getD_eq_getElem?_getD,List.getElem?_eq_none (by omega)];decide
   obtain⟨h1,h2⟩:=qAn hg sn l hb k
   obtain⟨h3,h4⟩:=qAm hg (sn:=sn) hbk h1
   exact⟨h3,by rw[qAk];omega⟩
def grA(ns fr:List Int):List (Nat×Arr):=laN 51 ns++laN 56 fr
set_option maxHeartbeats 4000000 in
theorem qAo (g : Grid) (hg : GOk g) (sn l : List Int) (hl : (l.length : Int) <= 9223372036854775807) (hb : ∀ x ∈ l, 0 <= x /\ x <= 255) :
  FnEq Tryz.prog 42 [.agg (quy false g),.sl false 1 (rows qk7 (qA5 (quD g).toNat sn)),.sl false 1 (qk8 l)] (.agg (qwD true (qAl g sn l))):=by
 have h1:=hg.count
 have hse:=List.length_pos_iff.2 (qAi hg)
 have hsb:(qzZ g).length<=(quD g).toNat:=qyJ _ _
 refine FnEq.of_awp Tryz.func42 ok42 (by show 3<=_;decide) (by simp only[push_cast,reduceIte,reduceEqDiff,reduceAdd,reduceSub,reduceMul,Nat.reduceBEq,reduceLT,reduceLeDiff,reduceCtorEq,reduceToNat,reduceNeg]<;>first|exact fun _ _=>trivial|simp) ?_
 simp only[ac42,rv42,push_cast,reduceIte,reduceEqDiff,reduceAdd,reduceSub,reduceMul,Nat.reduceBEq,reduceLT,reduceLeDiff,reduceCtorEq,reduceToNat,reduceNeg]
 refine qrm (qA1 g hg) sC ?_
 refine sB ?_
 refine qoH (fun m st=> ∃k:Nat,k<=min l.length 16/\m=min l.length 16-k/\st=⟨[(1,.sl false 1 (rows qk7 (qA5 (quD g).toNat sn))),(2,.sl false 1 (qk8 l)),(3,.ptr 3 0),(6,.ptr 6 0),(7,.sl true 1 (ints (qzZ g))),(8,.ptr 8 0),(9,.int k)],
  [(3,quy false g),(6,[.int 0,.nil,.nil]),(8,[.int 0,lvN 51 (qAk g sn l k).1,lvN 56 (qAk g sn l k).2])],grA (qAk g sn l k).1 (qAk g sn l k).2,[]⟩) (min l.length 16) ?_ ?_
 ·refine⟨0,by omega,by omega,?_⟩
  simp only[qAk,grA,List.nil_append,push_cast,reduceIte,reduceEqDiff,reduceAdd,reduceSub,reduceMul,Nat.reduceBEq,reduceLT,reduceLeDiff,reduceCtorEq,reduceToNat,reduceNeg]
 rintro m st ⟨k,hk,rfl,rfl⟩
 obtain⟨⟨q1,q2⟩,q3⟩:=qAn hg sn l hb k
 have hS:qAk g sn l (k+1)=qAj g sn (qAk g sn l k) (l.getD k 0):=rfl
 have hF:qAl g sn l=⟨0,(qAk g sn l (min l.length 16)).1,(qAk g sn l (min l.length 16)).2⟩:=rfl
 have e0: ∀(l:List Int) (j:Nat),l.getD j default=l.getD j 0:=fun _ _=>rfl
 have hbk:0<=l.getD k 0/\l.getD k 0<=255:=by
  by_cases h:k<l.length
  ·exact hb _ (qza h)
  ·rw[List.getD_eq_getElem?_getD,List.getElem?_eq_none (by omega)];decide
 obtain⟨B,hB⟩: ∃B,B=decide (k<l.length/\k<16):=⟨_,rfl⟩
 rcases ha:qAk g sn l k with⟨ns,fr⟩
 rw[ha]at q1 q2 q3 hS
 simp only at q1 q2 q3 ⊢
 rcases ns with _|⟨x,ns⟩
 ·obtain rfl:fr=[]:=List.length_eq_zero_iff.1 q1
  simp only[grA,push_cast,reduceIte,reduceEqDiff,reduceAdd,reduceSub,reduceMul,Nat.reduceBEq,reduceLT,reduceLeDiff,reduceCtorEq,reduceToNat,reduceNeg]
  refine qry ⟨[(1,.sl false 1 (rows qk7 (qA5 (quD g).toNat sn))),(2,.sl false 1 (qk8 l)),(3,.ptr 3 0),(6,.ptr 6 0),(7,.sl true 1 (ints (qzZ g))),(8,.ptr 8 0),(9,.int k),(24,.bool B)],
   [(3,quy false g),(6,[.int 0,.nil,.nil]),(8,[.int 0,.nil,.nil])],[],[]⟩ ?_ ?_
  ·refine qrq rfl (fun e1=> ?_) fun e1=> ?_<;>simp only[push_cast,reduceIte,reduceEqDiff,reduceAdd,reduceSub,reduceMul,Nat.reduceBEq,reduceLT,reduceLeDiff,reduceCtorEq,reduceToNat,reduceNeg]
   ·rw[show B=decide ((k:Int)<16)from by rw[hB,decide_eq_decide];omega]
   ·rw[show B=false from by rw[hB];exact decide_eq_false (by omega)]
  refine sB ?_
  refine qnQ (fun e=> ?_) fun e=> ?_
  rotate_left
  ·rw[hB,decide_eq_false_iff_not]at e
   rw[hF,show min l.length 16=k by omega,ha]
   exact sC
  rw[hB,decide_eq_true_eq]at e
  obtain⟨e1,e2⟩:=e
  have ht1:=Int.emod_nonneg (l.getD k 0) (show((qzZ g).length:Int)≠0 by omega)
  have ht2:=Int.emod_lt_of_pos (l.getD k 0) (show 0<((qzZ g).length:Int)by omega)
  have hm:=qza (l:=qzZ g) (k:=(l.getD k 0%((qzZ g).length:Int)).toNat) (by omega)
  have hn:=((qAg hg _).1 hm).1
  simp only[qAj,if_true]at hS
  simp only[e0,qA6,push_cast,reduceIte,reduceEqDiff,reduceAdd,reduceSub,reduceMul,Nat.reduceBEq,reduceLT,reduceLeDiff,reduceCtorEq,reduceToNat,reduceNeg]
  generalize l.getD k 0=b at *
  generalize b%((qzZ g).length:Int)=t at *
  generalize (qzZ g).getD t.toNat 0=n at *
  refine⟨by omega,by omega,by omega,by omega,by omega,by omega,by omega,by omega,?_⟩
  rw[show(qA5 (quD g).toNat sn).getD n.toNat default=decide (n∈sn)from qA7 (by omega) _]
  refine qnQ (fun e3=> ?_) fun e3=> ?_
  ·have e3:n∉sn:=qyX e3
   rw[if_neg e3]at hS
   refine⟨by simp,?_⟩
   simp only[quY,push_cast,reduceIte,reduceEqDiff,reduceAdd,reduceSub,reduceMul,Nat.reduceBEq,reduceLT,reduceLeDiff,reduceCtorEq,reduceToNat,reduceNeg]
   refine⟨by simp,by omega,_,?_,k+1,by omega,rfl,?_⟩
   ·omega
   ·rw[hS]
    simp only[quY,push_cast,reduceIte,reduceEqDiff,reduceAdd,reduceSub,reduceMul,Nat.reduceBEq,reduceLT,reduceLeDiff,reduceCtorEq,reduceToNat,reduceNeg]
  ·have e3:n∈sn:=qyY e3
   rw[if_pos e3]at hS
   refine⟨by omega,_,?_,k+1,by omega,rfl,?_⟩
   ·omega
   ·rw[hS]
    exact sC
 ·obtain⟨y,fr,rfl⟩: ∃y fr2,fr=y::fr2:=by cases fr with|nil=>cases q1|cons y f=>exact⟨y,f,rfl⟩
  simp only[grA,List.cons_append,List.nil_append,push_cast,reduceIte,reduceEqDiff,reduceAdd,reduceSub,reduceMul,Nat.reduceBEq,reduceLT,reduceLeDiff,reduceCtorEq,reduceToNat,reduceNeg]
  simp only[List.length_cons]at q1 q3
  refine qry ⟨[(1,.sl false 1 (rows qk7 (qA5 (quD g).toNat sn))),(2,.sl false 1 (qk8 l)),(3,.ptr 3 0),(6,.ptr 6 0),(7,.sl true 1 (ints (qzZ g))),(8,.ptr 8 0),(9,.int k),(24,.bool B)],
   [(3,quy false g),(6,[.int 0,.nil,.nil]),(8,[.int 0,.view 51 0 (ns.length+1),.view 56 0 (fr.length+1)])],[(51,⟨1,3,ints (x::ns)⟩),(56,⟨1,3,ints (y::fr)⟩)],[]⟩ ?_ ?_
  ·refine qrq rfl (fun e1=> ?_) fun e1=> ?_<;>simp only[push_cast,reduceIte,reduceEqDiff,reduceAdd,reduceSub,reduceMul,Nat.reduceBEq,reduceLT,reduceLeDiff,reduceCtorEq,reduceToNat,reduceNeg]
   ·rw[show B=decide ((k:Int)<16)from by rw[hB,decide_eq_decide];omega]
   ·rw[show B=false from by rw[hB];exact decide_eq_false (by omega)]
  refine sB ?_
  refine qnQ (fun e=> ?_) fun e=> ?_
  rotate_left
  ·rw[hB,decide_eq_false_iff_not]at e
   rw[hF,show min l.length 16=k by omega,ha,List.take_of_length_le (by simp),List.take_of_length_le (by simp)]
   exact⟨⟨fun _ _=>trivial,fun _ _=>trivial⟩,rfl,Sub.refl _,Sub.refl _⟩
  rw[hB,decide_eq_true_eq]at e
  obtain⟨e1,e2⟩:=e
  refine qnR (fun h=>absurd h (by omega)) fun _=> ?_
  simp only[e0,qA6,push_cast,reduceIte,reduceEqDiff,reduceAdd,reduceSub,reduceMul,Nat.reduceBEq,reduceLT,reduceLeDiff,reduceCtorEq,reduceToNat,reduceNeg]
  have hlen:((x::ns).length:Int)=(ns.length:Int)+1:=by simp
  simp only[qAj,reduceCtorEq,if_false,hlen]at hS
  generalize hbe:l.getD k 0=b at *
  have t1:=Int.emod_lt_of_pos (b/64) (show 0<(ns.length:Int)+1 by omega)
  have t2:=Int.emod_nonneg (b/64) (show(ns.length:Int)+1≠0 by omega)
  have hb6:0<=b/64/\b/64<=255:=by omega
  have hb7:0<=b%64/\b%64<=255:=by omega
  generalize h6e:b/64=b6 at *
  generalize h7e:b%64=b7 at *
  generalize b6%((ns.length:Int)+1)=q at *
  have hz:=q2 _ (qza (l:=x::ns) (k:=((ns.length:Int)+1-1-q).toNat) (by simp;omega))
  generalize hfq:(ns.length:Int)+1-1-q=f at *
  refine⟨by omega,by omega,by omega,by omega,by omega,by omega,by omega,by omega,by omega,?_⟩
  generalize (x::ns).getD f.toNat 0=z at *
  refine qrm (qA4 g hg z hz) sC ?_
  simp only[e0,hbe,h7e,qA6,push_cast,reduceIte,reduceEqDiff,reduceAdd,reduceSub,reduceMul,Nat.reduceBEq,reduceLT,reduceLeDiff,reduceCtorEq,reduceToNat,reduceNeg]
  have hdl:(qA3 g z).length<=600000:=by
   unfold qA3
   split
   ·have:=qyJ (fun i=>decide (CanD g (quK g z).1 (quJ g i))) (quD g).toNat
    rw[qA2];omega
   ·simp
  have hdm:=qAh hg hz
  generalize qA3 g z=d at *
  refine qnR (fun h=> ?_) fun h=> ?_
  ·have hd:d=[]:=List.length_eq_zero_iff.1 (by omega)
   rw[if_pos hd]at hS
   refine⟨by omega,_,?_,k+1,by omega,rfl,?_⟩
   ·omega
   ·rw[hS]
    exact sC
  have hd:d≠[]:=fun e=>h (by rw[e];rfl)
  rw[if_neg hd]at hS
  have t3:=Int.emod_lt_of_pos b7 (show 0<(d.length:Int)by omega)
  have t4:=Int.emod_nonneg b7 (show(d.length:Int)≠0 by omega)
  have hn:=((hdm _).1 (qza (l:=d) (k:=(b7%(d.length:Int)).toNat) (by omega))).1
  generalize b7%(d.length:Int)=r at *
  generalize hnr:d.getD r.toNat 0=n at *
  refine⟨by omega,by omega,by omega,by omega,by omega,by omega,by omega,by omega,?_⟩
  rw[show(qA5 (quD g).toNat sn).getD n.toNat default=decide (n∈sn)from qA7 (by omega) _]
  refine⟨by omega,?_⟩
  refine qry ⟨[(1,.sl false 1 (rows qk7 (qA5 (quD g).toNat sn))),(2,.sl false 1 (qk8 l)),(3,.ptr 3 0),(6,.ptr 6 0),(7,.sl true 1 (ints (qzZ g))),(8,.ptr 8 0),(9,.int k),(11,.int f),(13,.int n),(106,.bool (decide (n∉sn/\n∉x::ns)))],
   [(3,quy false g),(6,[.int 0,.nil,.nil]),(8,[.int 0,.view 51 0 (ns.length+1),.view 56 0 (fr.length+1)])],[(51,⟨1,3,ints (x::ns)⟩),(56,⟨1,3,ints (y::fr)⟩)],[]⟩ ?_ ?_
  ·refine qrs rfl (fun e=> ?_) fun e=> ?_<;>simp only[push_cast,reduceIte,reduceEqDiff,reduceAdd,reduceSub,reduceMul,Nat.reduceBEq,reduceLT,reduceLeDiff,reduceCtorEq,reduceToNat,reduceNeg]
   ·have e:=qyX e
    refine qrm (qzW (x::ns) (by simp;omega) n) (by simp only[push_cast,reduceIte,reduceEqDiff,reduceAdd,reduceSub,reduceMul,Nat.reduceBEq,reduceLT,reduceLeDiff,reduceCtorEq,reduceToNat,reduceNeg];rw[List.take_of_length_le (by simp)];exact Sub.refl _) ?_
    refine sB ?_
    rw[show decide (n∉sn/\n∉x::ns)=decide (qzU (x::ns) n<0)from by
     rw[decide_eq_decide]
     unfold qzU
     split
     ·rename_i h;exact⟨fun h2=>absurd h h2.2,fun h2=>absurd h2 (by omega)⟩
     ·rename_i h;exact⟨fun _=>by omega,fun _=>⟨e,h⟩⟩]
   ·have e:=qyY e
    rw[show decide (n∉sn/\n∉x::ns)=false from decide_eq_false fun h=>h.1 e]
  refine sB ?_
  refine qnR (fun e4=> ?_) fun e4=> ?_
  ·rw[if_pos e4]at hS
   refine⟨by simp,by omega,by simp,by omega,by omega,_,?_,k+1,by omega,rfl,?_⟩
   ·omega
   ·rw[hS]
    simp only[List.cons_append,List.length_append,List.length_singleton,push_cast,reduceIte,reduceEqDiff,reduceAdd,reduceSub,reduceMul,Nat.reduceBEq,reduceLT,reduceLeDiff,reduceCtorEq,reduceToNat,reduceNeg]
  ·rw[if_neg e4]at hS
   refine⟨by omega,_,?_,k+1,by omega,rfl,?_⟩
   ·omega
   ·rw[hS]
    exact sC
def qAp(x:Int×Int×Int):List PV:=[.sc (.int .u8 x.1),.sc (.int .u8 x.2.1),.sc (.int .u8 x.2.2)]
@[push_cast] theorem qAq(x:Int×Int×Int):qAp x=[.sc (.int .u8 x.1),.sc (.int .u8 x.2.1),.sc (.int .u8 x.2.2)]:=rfl
def mkB(x:Int×Int×Int):Block:=⟨[],256*x.2.1+x.2.2,if x.2.1%3=2 then x.2.2%16 else -1,if x.2.1%3=1 then x.2.2%24 else -1,0⟩
def blkS(g:Grid)(a:List Block×List Int)(x:Int×Int×Int):List Block×List Int:=
 if x.1%(g.w*g.h)∉a.2/\qzX g (mkB x) (x.1%(g.w*g.h))then(a.1++[mkB x],a.2++[x.1%(g.w*g.h)])else a
def blkN(g:Grid)(l:List (Int×Int×Int)):Nat->List Block×List Int
 |0=>([],[])
 |k+1=>blkS g (blkN g l k) (l.getD k default)
def blkF(g:Grid)(l:List (Int×Int×Int)):List Block×List Int:=blkN g l (min l.length 12)
structure BlkOk (g:Grid) (a:List Block×List Int):Prop where
 len:a.2.length=a.1.length
 fit: ∀z∈a.1.zip a.2,qzX g z.1 z.2
 nod:a.2.Nodup
 pl: ∀b∈a.1,b.ins=[]/\b.key=0
theorem qAr{g:Grid}{a:List Block×List Int}{x:Int×Int×Int}(h:BlkOk g a):BlkOk g (blkS g a x)/\(blkS g a x).1.length<=a.1.length+1:=by
 obtain⟨h1,h2,h3,h4⟩:=h
 unfold blkS
 split
 ·rename_i e
  refine⟨⟨by simp[h1],fun z hz=> ?_,?_,fun b hb=> ?_⟩,by simp⟩
  ·rw[List.zip_append h1.symm,List.mem_append]at hz
   rcases hz with hz|hz
   ·exact h2 z hz
   ·simp at hz
    rw[hz];exact e.2
  ·exact List.nodup_append.2 ⟨h3,by simp,by intro a ha b hb h;simp at hb;subst hb;subst h;exact e.1 ha⟩
  ·rw[List.mem_append,List.mem_singleton]at hb
   rcases hb with hb|rfl
   ·exact h4 b hb
   ·exact⟨rfl,rfl⟩
 ·exact⟨⟨h1,h2,h3,h4⟩,by omega⟩
theorem qAs(g:Grid)(l:List (Int×Int×Int)): ∀k,BlkOk g (blkN g l k)/\(blkN g l k).1.length<=k
 |0=>⟨⟨rfl,by simp[blkN],.nil,by simp[blkN]⟩,by simp[blkN]⟩
 | k + 1 => by
   obtain⟨h1,h2⟩:=qAs g l k
   obtain⟨h3,h4⟩:=qAr (x:=l.getD k default) h1
   exact⟨h3,by rw[blkN];omega⟩
def blkR(b:Block):List PV:=[.nil,.int b.table,.int b.ram,.int b.reg,.sc (.int .u64 0)]
@[push_cast] theorem qAt(b:Block):blkR b=[.nil,.int b.table,.int b.ram,.int b.reg,.sc (.int .u64 0)]:=rfl
theorem qAu(q:Bool){bs:List Block}(h: ∀b∈bs,b.ins=[]/\b.key=0):Sub (.sl true 5 (rows blkR bs)) (.sl q 5 (rows (qwB q) bs)):=
 Sub.slR 5 (fun _=>rfl) (SubR.map blkR (qwB q) bs fun b hb=>by
  obtain⟨h1,h2⟩:=h b hb
  rw[qAt,qwF,h1,h2]
  exact⟨.nil _ _,.refl _,.refl _,.refl _,.refl _,trivial⟩)
def desN(g:Grid)(bs:List Block)(ts:List Int)(r:PV):List PV:=quy true g++[.nil,.sl true 5 (rows (qwB true) bs),.nil,.nil,.sl true 1 (ints ts),r]
@[push_cast] theorem qAv(g:Grid)(bs:List Block)(ts:List Int)(r:PV):desN g bs ts r=quy true g++[.nil,.sl true 5 (rows (qwB true) bs),.nil,.nil,.sl true 1 (ints ts),r]:=rfl
def lvB(id:Nat):List Block->PV
 |[]=> .nil
 |_::l=> .view id 0 (l.length+1)
def laB(id:Nat):List Block->List (Nat×Arr)
 |[]=>[]
 |x::l=>[(id,⟨5,120,rows blkR (x::l)⟩)]
@[push_cast] theorem qAw(id:Nat):lvB id []= .nil:=rfl
@[push_cast] theorem qAx(id:Nat)(x:Block)(l:List Block):lvB id (x::l)= .view id 0 (l.length+1):=rfl
@[push_cast] theorem qAy(id:Nat):laB id []=[]:=rfl
@[push_cast] theorem qAz(id:Nat)(x:Block)(l:List Block):laB id (x::l)=[(id,⟨5,120,rows blkR (x::l)⟩)]:=rfl
theorem indexF_neg{l:List Int}{n:Int} :qzU l n<0 ↔ n∉l:=by
 unfold qzU
 split
 ·rename_i h;exact⟨fun h2=>by omega,fun h2=>absurd h h2⟩
 ·rename_i h;exact⟨fun _=>h,fun _=>by omega⟩
set_option maxHeartbeats 4000000 in
theorem qAA (g : Grid) (hg : GOk g) (l : List (Int × Int × Int)) (hl : (l.length : Int) <= 9223372036854775807) (hb : ∀ x ∈ l, (0 <= x.1 /\ x.1 <= 255) /\ (0 <= x.2.1 /\ x.2.1 <= 255) /\ (0 <= x.2.2 /\ x.2.2 <= 255)) :
  FnEq Tryz.prog 40 [.agg [.int g.w,.int g.h,.int g.tracks,.int g.pads,.sl true 1 (ints g.kind),.nil,.nil,.nil,.nil,.nil,.nil],.sl false 3 (rows qAp l)]
   (.agg (desN g (blkF g l).1 (blkF g l).2 .nil)):=by
 have hw:=hg.wh
 have hkd:=hg.kind
 refine FnEq.of_awp Tryz.func40 ok40 (by show 2<=_;decide) (by simp only[push_cast,reduceIte,reduceEqDiff,reduceAdd,reduceSub,reduceMul,Nat.reduceBEq,reduceLT,reduceLeDiff,reduceCtorEq,reduceToNat,reduceNeg]<;>first|exact fun _ _=>trivial|simp) ?_
 simp only[ac40,rv40,push_cast,reduceIte,reduceEqDiff,reduceAdd,reduceSub,reduceMul,Nat.reduceBEq,reduceLT,reduceLeDiff,reduceCtorEq,reduceToNat,reduceNeg]
 refine qoH (fun m st=> ∃k:Nat,k<=min l.length 12/\m=min l.length 12-k/\st=⟨[(1,.sl false 3 (rows qAp l)),(2,.ptr 2 0),(4,.ptr 4 0),(5,.int k)],
  [(2,[.int g.w,.int g.h,.int g.tracks,.int g.pads,.sl true 1 (ints g.kind),.nil,lvB 91 (blkN g l k).1,.nil,.nil,lvN 99 (blkN g l k).2,.nil]),(4,[.int 0,.int 0,.int 0,.int 0,.nil,.nil,.nil,.nil,.nil,.nil,.nil])],laB 91 (blkN g l k).1++laN 99 (blkN g l k).2,[]⟩) (min l.length 12) ?_ ?_
 ·refine⟨0,by omega,by omega,?_⟩
  simp only[blkN,List.nil_append,push_cast,reduceIte,reduceEqDiff,reduceAdd,reduceSub,reduceMul,Nat.reduceBEq,reduceLT,reduceLeDiff,reduceCtorEq,reduceToNat,reduceNeg]
 rintro m st ⟨k,hk,rfl,rfl⟩
 obtain⟨⟨q1,q2,q3,q4⟩,q5⟩:=qAs g l k
 have hS:blkN g l (k+1)=blkS g (blkN g l k) (l.getD k default):=rfl
 have hF:blkF g l=blkN g l (min l.length 12):=rfl
 have hbk:(0<=(l.getD k default).1/\(l.getD k default).1<=255)/\(0<=(l.getD k default).2.1/\(l.getD k default).2.1<=255)/\(0<=(l.getD k default).2.2/\(l.getD k default).2.2<=255):=by
  by_cases h:k<l.length
  ·exact hb _ (by simp[List.getD_eq_getElem?_getD,h])
  ·rw[List.getD_eq_getElem?_getD,List.getElem?_eq_none (by omega)];decide
 obtain⟨B,hB⟩: ∃B,B=decide (k<l.length/\k<12):=⟨_,rfl⟩
 rcases ha:blkN g l k with⟨bs,ts⟩
 rw[ha]at q1 q2 q3 q4 q5 hS
 simp only at q1 q2 q3 q4 q5 ⊢
 rcases bs with _|⟨y,bs⟩
 ·obtain rfl:ts=[]:=List.length_eq_zero_iff.1 q1
  simp only[List.nil_append,push_cast,reduceIte,reduceEqDiff,reduceAdd,reduceSub,reduceMul,Nat.reduceBEq,reduceLT,reduceLeDiff,reduceCtorEq,reduceToNat,reduceNeg]
  refine qry ⟨[(1,.sl false 3 (rows qAp l)),(2,.ptr 2 0),(4,.ptr 4 0),(5,.int k),(15,.bool B)],
   [(2,[.int g.w,.int g.h,.int g.tracks,.int g.pads,.sl true 1 (ints g.kind),.nil,.nil,.nil,.nil,.nil,.nil]),(4,[.int 0,.int 0,.int 0,.int 0,.nil,.nil,.nil,.nil,.nil,.nil,.nil])],[],[]⟩ ?_ ?_
  ·refine qrq rfl (fun e1=> ?_) fun e1=> ?_<;>simp only[push_cast,reduceIte,reduceEqDiff,reduceAdd,reduceSub,reduceMul,Nat.reduceBEq,reduceLT,reduceLeDiff,reduceCtorEq,reduceToNat,reduceNeg]
   ·rw[show B=decide ((k:Int)<12)from by rw[hB,decide_eq_decide];omega]
   ·rw[show B=false from by rw[hB];exact decide_eq_false (by omega)]
  refine sB ?_
  refine qnQ (fun e=> ?_) fun e=> ?_
  rotate_left
  ·rw[hB,decide_eq_false_iff_not]at e
   rw[hF,show min l.length 12=k by omega,ha]
   refine sB ?_
   exact fun _ _=>trivial
  rw[hB,decide_eq_true_eq]at e
  obtain⟨e1,e2⟩:=e
  generalize hx:l.getD k default=x at *
  obtain⟨x1,x2,x3⟩:=x
  have h1:=Int.emod_nonneg x1 (show g.w*g.h≠0 by omega)
  have h2:=Int.emod_lt_of_pos x1 (show 0<g.w*g.h by omega)
  simp only[blkS]at hbk hS
  simp only
  generalize x1%(g.w*g.h)=t at *
  repeat (refine And.intro (by omega) ?_)
  have hG:Sub (.agg [.int g.w,.int g.h,.int g.tracks,.int g.pads,.sl true 1 (ints g.kind)]) (.agg (quy false g)):=Sub.aggL ⟨.refl _,.refl _,.refl _,.refl _,.slp _ _ _ _ (fun h=>by cases h),trivial⟩
  refine qnR (fun e3=> ?_) fun e3=> ?_
  ·have hm:mkB (x1,x2,x3)=⟨[],256*x2+x3,-1,x3%24,0⟩:=by simp only[mkB];rw[if_pos e3,if_neg (by omega)]
   repeat (refine And.intro (by omega) ?_)
   refine qrm (qzW ([]) (by simp only[List.length_nil,List.length_cons];omega) t) ⟨.nil _ _,.refl _,trivial⟩ ?_
   refine qry ⟨[(1, .sl false 3 (rows qAp l)), (2, .ptr 2 0), (4, .ptr 4 0), (5, .int k), (6, .int t), (7, .ptr 7 0), (85, .bool (decide (t ∉ [] /\ qzX g (mkB (x1, x2, x3)) t)))],
      [(2,[.int g.w,.int g.h,.int g.tracks,.int g.pads,.sl true 1 (ints g.kind),.nil,.nil,.nil,.nil,.nil,.nil]),(4,[.int 0,.int 0,.int 0,.int 0,.nil,.nil,.nil,.nil,.nil,.nil,.nil]),(7,blkR (mkB (x1,x2,x3)))],[],[]⟩ ?_ ?_
   ·refine sB ?_
    refine qrq rfl (fun e5=> ?_) fun e5=> ?_<;>simp only[push_cast,reduceIte,reduceEqDiff,reduceAdd,reduceSub,reduceMul,Nat.reduceBEq,reduceLT,reduceLeDiff,reduceCtorEq,reduceToNat,reduceNeg]
    ·refine qrm (qzY g hg (mkB (x1,x2,x3)) t) ⟨hG,Sub.aggL (by rw[hm];exact⟨.nil _ _,.refl _,.refl _,.refl _,.refl _,trivial⟩),.refl _,trivial⟩ ?_
     simp only[hm,push_cast,reduceIte,reduceEqDiff,reduceAdd,reduceSub,reduceMul,Nat.reduceBEq,reduceLT,reduceLeDiff,reduceCtorEq,reduceToNat,reduceNeg]
     rw[show decide (t∉[]/\qzX g ⟨[],256*x2+x3,(-1),(x3%24),0⟩ t)=decide (qzX g ⟨[],256*x2+x3,(-1),(x3%24),0⟩ t)from by rw[decide_eq_decide];exact⟨fun h=>h.2,fun h=>⟨indexF_neg.1 e5,h⟩⟩]
    ·simp only[hm,push_cast,reduceIte,reduceEqDiff,reduceAdd,reduceSub,reduceMul,Nat.reduceBEq,reduceLT,reduceLeDiff,reduceCtorEq,reduceToNat,reduceNeg]
     rw[show decide (t∉[]/\qzX g ⟨[],256*x2+x3,(-1),(x3%24),0⟩ t)=false from decide_eq_false fun h=>e5 (indexF_neg.2 h.1)]
   refine sB ?_
   refine qnR (fun e6=> ?_) fun e6=> ?_
   ·rw[if_pos e6]at hS
    refine⟨by simp,?_⟩
    simp only[quY,push_cast,reduceIte,reduceEqDiff,reduceAdd,reduceSub,reduceMul,Nat.reduceBEq,reduceLT,reduceLeDiff,reduceCtorEq,reduceToNat,reduceNeg]
    refine⟨by omega,_,?_,k+1,by omega,rfl,?_⟩
    ·omega
    ·rw[hS]
     simp only[quY,List.nil_append,List.cons_append,push_cast,reduceIte,reduceEqDiff,reduceAdd,reduceSub,reduceMul,Nat.reduceBEq,reduceLT,reduceLeDiff,reduceCtorEq,reduceToNat,reduceNeg]
   ·rw[if_neg e6]at hS
    refine⟨by omega,_,?_,k+1,by omega,rfl,?_⟩
    ·omega
    ·rw[hS]
     simp only[List.cons_append,List.nil_append,push_cast,reduceIte,reduceEqDiff,reduceAdd,reduceSub,reduceMul,Nat.reduceBEq,reduceLT,reduceLeDiff,reduceCtorEq,reduceToNat,reduceNeg]
  refine qnR (fun e4=> ?_) fun e4=> ?_
  ·have hm:mkB (x1,x2,x3)=⟨[],256*x2+x3,x3%16,-1,0⟩:=by simp only[mkB];rw[if_neg e3,if_pos e4]
   repeat (refine And.intro (by omega) ?_)
   refine qrm (qzW ([]) (by simp only[List.length_nil,List.length_cons];omega) t) ⟨.nil _ _,.refl _,trivial⟩ ?_
   refine qry ⟨[(1, .sl false 3 (rows qAp l)), (2, .ptr 2 0), (4, .ptr 4 0), (5, .int k), (6, .int t), (7, .ptr 7 0), (85, .bool (decide (t ∉ [] /\ qzX g (mkB (x1, x2, x3)) t)))],
      [(2,[.int g.w,.int g.h,.int g.tracks,.int g.pads,.sl true 1 (ints g.kind),.nil,.nil,.nil,.nil,.nil,.nil]),(4,[.int 0,.int 0,.int 0,.int 0,.nil,.nil,.nil,.nil,.nil,.nil,.nil]),(7,blkR (mkB (x1,x2,x3)))],[],[]⟩ ?_ ?_
   ·refine sB ?_
    refine qrq rfl (fun e5=> ?_) fun e5=> ?_<;>simp only[push_cast,reduceIte,reduceEqDiff,reduceAdd,reduceSub,reduceMul,Nat.reduceBEq,reduceLT,reduceLeDiff,reduceCtorEq,reduceToNat,reduceNeg]
    ·refine qrm (qzY g hg (mkB (x1,x2,x3)) t) ⟨hG,Sub.aggL (by rw[hm];exact⟨.nil _ _,.refl _,.refl _,.refl _,.refl _,trivial⟩),.refl _,trivial⟩ ?_
     simp only[hm,push_cast,reduceIte,reduceEqDiff,reduceAdd,reduceSub,reduceMul,Nat.reduceBEq,reduceLT,reduceLeDiff,reduceCtorEq,reduceToNat,reduceNeg]
     rw[show decide (t∉[]/\qzX g ⟨[],256*x2+x3,(x3%16),(-1),0⟩ t)=decide (qzX g ⟨[],256*x2+x3,(x3%16),(-1),0⟩ t)from by rw[decide_eq_decide];exact⟨fun h=>h.2,fun h=>⟨indexF_neg.1 e5,h⟩⟩]
    ·simp only[hm,push_cast,reduceIte,reduceEqDiff,reduceAdd,reduceSub,reduceMul,Nat.reduceBEq,reduceLT,reduceLeDiff,reduceCtorEq,reduceToNat,reduceNeg]
     rw[show decide (t∉[]/\qzX g ⟨[],256*x2+x3,(x3%16),(-1),0⟩ t)=false from decide_eq_false fun h=>e5 (indexF_neg.2 h.1)]
   refine sB ?_
   refine qnR (fun e6=> ?_) fun e6=> ?_
   ·rw[if_pos e6]at hS
    refine⟨by simp,?_⟩
    simp only[quY,push_cast,reduceIte,reduceEqDiff,reduceAdd,reduceSub,reduceMul,Nat.reduceBEq,reduceLT,reduceLeDiff,reduceCtorEq,reduceToNat,reduceNeg]
    refine⟨by omega,_,?_,k+1,by omega,rfl,?_⟩
    ·omega
    ·rw[hS]
     simp only[quY,List.nil_append,List.cons_append,push_cast,reduceIte,reduceEqDiff,reduceAdd,reduceSub,reduceMul,Nat.reduceBEq,reduceLT,reduceLeDiff,reduceCtorEq,reduceToNat,reduceNeg]
   ·rw[if_neg e6]at hS
    refine⟨by omega,_,?_,k+1,by omega,rfl,?_⟩
    ·omega
    ·rw[hS]
     simp only[List.cons_append,List.nil_append,push_cast,reduceIte,reduceEqDiff,reduceAdd,reduceSub,reduceMul,Nat.reduceBEq,reduceLT,reduceLeDiff,reduceCtorEq,reduceToNat,reduceNeg]
  ·have hm:mkB (x1,x2,x3)=⟨[],256*x2+x3,-1,-1,0⟩:=by simp only[mkB];rw[if_neg e3,if_neg e4]
   repeat (refine And.intro (by omega) ?_)
   refine qrm (qzW ([]) (by simp only[List.length_nil,List.length_cons];omega) t) ⟨.nil _ _,.refl _,trivial⟩ ?_
   refine qry ⟨[(1, .sl false 3 (rows qAp l)), (2, .ptr 2 0), (4, .ptr 4 0), (5, .int k), (6, .int t), (7, .ptr 7 0), (85, .bool (decide (t ∉ [] /\ qzX g (mkB (x1, x2, x3)) t)))],
      [(2,[.int g.w,.int g.h,.int g.tracks,.int g.pads,.sl true 1 (ints g.kind),.nil,.nil,.nil,.nil,.nil,.nil]),(4,[.int 0,.int 0,.int 0,.int 0,.nil,.nil,.nil,.nil,.nil,.nil,.nil]),(7,blkR (mkB (x1,x2,x3)))],[],[]⟩ ?_ ?_
   ·refine sB ?_
    refine qrq rfl (fun e5=> ?_) fun e5=> ?_<;>simp only[push_cast,reduceIte,reduceEqDiff,reduceAdd,reduceSub,reduceMul,Nat.reduceBEq,reduceLT,reduceLeDiff,reduceCtorEq,reduceToNat,reduceNeg]
    ·refine qrm (qzY g hg (mkB (x1,x2,x3)) t) ⟨hG,Sub.aggL (by rw[hm];exact⟨.nil _ _,.refl _,.refl _,.refl _,.refl _,trivial⟩),.refl _,trivial⟩ ?_
     simp only[hm,push_cast,reduceIte,reduceEqDiff,reduceAdd,reduceSub,reduceMul,Nat.reduceBEq,reduceLT,reduceLeDiff,reduceCtorEq,reduceToNat,reduceNeg]
     rw[show decide (t∉[]/\qzX g ⟨[],256*x2+x3,(-1),(-1),0⟩ t)=decide (qzX g ⟨[],256*x2+x3,(-1),(-1),0⟩ t)from by rw[decide_eq_decide];exact⟨fun h=>h.2,fun h=>⟨indexF_neg.1 e5,h⟩⟩]
    ·simp only[hm,push_cast,reduceIte,reduceEqDiff,reduceAdd,reduceSub,reduceMul,Nat.reduceBEq,reduceLT,reduceLeDiff,reduceCtorEq,reduceToNat,reduceNeg]
     rw[show decide (t∉[]/\qzX g ⟨[],256*x2+x3,(-1),(-1),0⟩ t)=false from decide_eq_false fun h=>e5 (indexF_neg.2 h.1)]
   refine sB ?_
   refine qnR (fun e6=> ?_) fun e6=> ?_
   ·rw[if_pos e6]at hS
    refine⟨by simp,?_⟩
    simp only[quY,push_cast,reduceIte,reduceEqDiff,reduceAdd,reduceSub,reduceMul,Nat.reduceBEq,reduceLT,reduceLeDiff,reduceCtorEq,reduceToNat,reduceNeg]
    refine⟨by omega,_,?_,k+1,by omega,rfl,?_⟩
    ·omega
    ·rw[hS]
     simp only[quY,List.nil_append,List.cons_append,push_cast,reduceIte,reduceEqDiff,reduceAdd,reduceSub,reduceMul,Nat.reduceBEq,reduceLT,reduceLeDiff,reduceCtorEq,reduceToNat,reduceNeg]
   ·rw[if_neg e6]at hS
    refine⟨by omega,_,?_,k+1,by omega,rfl,?_⟩
    ·omega
    ·rw[hS]
     simp only[List.cons_append,List.nil_append,push_cast,reduceIte,reduceEqDiff,reduceAdd,reduceSub,reduceMul,Nat.reduceBEq,reduceLT,reduceLeDiff,reduceCtorEq,reduceToNat,reduceNeg]
 ·obtain⟨z,ts,rfl⟩: ∃z ts2,ts=z::ts2:=by cases ts with|nil=>cases q1|cons z f=>exact⟨z,f,rfl⟩
  simp only[List.cons_append,List.nil_append,push_cast,reduceIte,reduceEqDiff,reduceAdd,reduceSub,reduceMul,Nat.reduceBEq,reduceLT,reduceLeDiff,reduceCtorEq,reduceToNat,reduceNeg]
  simp only[List.length_cons]at q1 q5
  refine qry ⟨[(1,.sl false 3 (rows qAp l)),(2,.ptr 2 0),(4,.ptr 4 0),(5,.int k),(15,.bool B)],
   [(2,[.int g.w,.int g.h,.int g.tracks,.int g.pads,.sl true 1 (ints g.kind),.nil,.view 91 0 (bs.length+1),.nil,.nil,.view 99 0 (ts.length+1),.nil]),(4,[.int 0,.int 0,.int 0,.int 0,.nil,.nil,.nil,.nil,.nil,.nil,.nil])],[(91,⟨5,120,rows blkR (y::bs)⟩),(99,⟨1,3,ints (z::ts)⟩)],[]⟩ ?_ ?_
  ·refine qrq rfl (fun e1=> ?_) fun e1=> ?_<;>simp only[push_cast,reduceIte,reduceEqDiff,reduceAdd,reduceSub,reduceMul,Nat.reduceBEq,reduceLT,reduceLeDiff,reduceCtorEq,reduceToNat,reduceNeg]
   ·rw[show B=decide ((k:Int)<12)from by rw[hB,decide_eq_decide];omega]
   ·rw[show B=false from by rw[hB];exact decide_eq_false (by omega)]
  refine sB ?_
  refine qnQ (fun e=> ?_) fun e=> ?_
  rotate_left
  ·rw[hB,decide_eq_false_iff_not]at e
   rw[hF,show min l.length 12=k by omega,ha]
   refine sB ?_
   rw[List.take_of_length_le (by simp),List.take_of_length_le (by simp)]
   exact⟨⟨fun _ _=>trivial,fun _ _=>trivial,fun _ _=>trivial⟩,qAu true q4,Sub.refl _⟩
  rw[hB,decide_eq_true_eq]at e
  obtain⟨e1,e2⟩:=e
  generalize hx:l.getD k default=x at *
  obtain⟨x1,x2,x3⟩:=x
  have h1:=Int.emod_nonneg x1 (show g.w*g.h≠0 by omega)
  have h2:=Int.emod_lt_of_pos x1 (show 0<g.w*g.h by omega)
  simp only[blkS]at hbk hS
  simp only
  generalize x1%(g.w*g.h)=t at *
  repeat (refine And.intro (by omega) ?_)
  have hG:Sub (.agg [.int g.w,.int g.h,.int g.tracks,.int g.pads,.sl true 1 (ints g.kind)]) (.agg (quy false g)):=Sub.aggL ⟨.refl _,.refl _,.refl _,.refl _,.slp _ _ _ _ (fun h=>by cases h),trivial⟩
  refine qnR (fun e3=> ?_) fun e3=> ?_
  ·have hm:mkB (x1,x2,x3)=⟨[],256*x2+x3,-1,x3%24,0⟩:=by simp only[mkB];rw[if_pos e3,if_neg (by omega)]
   repeat (refine And.intro (by omega) ?_)
   refine qrm (qzW (z::ts) (by simp only[List.length_nil,List.length_cons];omega) t) ⟨by rw[List.take_of_length_le (by simp)];exact Sub.refl _,.refl _,trivial⟩ ?_
   refine qry ⟨[(1, .sl false 3 (rows qAp l)), (2, .ptr 2 0), (4, .ptr 4 0), (5, .int k), (6, .int t), (7, .ptr 7 0), (85, .bool (decide (t ∉ z :: ts /\ qzX g (mkB (x1, x2, x3)) t)))],
      [(2,[.int g.w,.int g.h,.int g.tracks,.int g.pads,.sl true 1 (ints g.kind),.nil,.view 91 0 (bs.length+1),.nil,.nil,.view 99 0 (ts.length+1),.nil]),(4,[.int 0,.int 0,.int 0,.int 0,.nil,.nil,.nil,.nil,.nil,.nil,.nil]),(7,blkR (mkB (x1,x2,x3)))],[(91,⟨5,120,rows blkR (y::bs)⟩),(99,⟨1,3,ints (z::ts)⟩)],[]⟩ ?_ ?_
   ·refine sB ?_
    refine qrq rfl (fun e5=> ?_) fun e5=> ?_<;>simp only[push_cast,reduceIte,reduceEqDiff,reduceAdd,reduceSub,reduceMul,Nat.reduceBEq,reduceLT,reduceLeDiff,reduceCtorEq,reduceToNat,reduceNeg]
    ·refine qrm (qzY g hg (mkB (x1,x2,x3)) t) ⟨hG,Sub.aggL (by rw[hm];exact⟨.nil _ _,.refl _,.refl _,.refl _,.refl _,trivial⟩),.refl _,trivial⟩ ?_
     simp only[hm,push_cast,reduceIte,reduceEqDiff,reduceAdd,reduceSub,reduceMul,Nat.reduceBEq,reduceLT,reduceLeDiff,reduceCtorEq,reduceToNat,reduceNeg]
     rw[show decide (t∉z::ts/\qzX g ⟨[],256*x2+x3,(-1),(x3%24),0⟩ t)=decide (qzX g ⟨[],256*x2+x3,(-1),(x3%24),0⟩ t)from by rw[decide_eq_decide];exact⟨fun h=>h.2,fun h=>⟨indexF_neg.1 e5,h⟩⟩]
    ·simp only[hm,push_cast,reduceIte,reduceEqDiff,reduceAdd,reduceSub,reduceMul,Nat.reduceBEq,reduceLT,reduceLeDiff,reduceCtorEq,reduceToNat,reduceNeg]
     rw[show decide (t∉z::ts/\qzX g ⟨[],256*x2+x3,(-1),(x3%24),0⟩ t)=false from decide_eq_false fun h=>e5 (indexF_neg.2 h.1)]
   refine sB ?_
   refine qnR (fun e6=> ?_) fun e6=> ?_
   ·rw[if_pos e6]at hS
    repeat (refine And.intro (by first|omega|(simp;done)) ?_)
    refine⟨_,?_,k+1,by omega,rfl,?_⟩
    ·omega
    ·rw[hS]
     simp only[List.cons_append,List.length_append,List.length_singleton,push_cast,reduceIte,reduceEqDiff,reduceAdd,reduceSub,reduceMul,Nat.reduceBEq,reduceLT,reduceLeDiff,reduceCtorEq,reduceToNat,reduceNeg]
     simp[rows,blkR]
   ·rw[if_neg e6]at hS
    refine⟨by omega,_,?_,k+1,by omega,rfl,?_⟩
    ·omega
    ·rw[hS]
     simp only[List.cons_append,List.nil_append,push_cast,reduceIte,reduceEqDiff,reduceAdd,reduceSub,reduceMul,Nat.reduceBEq,reduceLT,reduceLeDiff,reduceCtorEq,reduceToNat,reduceNeg]
  refine qnR (fun e4=> ?_) fun e4=> ?_
  ·have hm:mkB (x1,x2,x3)=⟨[],256*x2+x3,x3%16,-1,0⟩:=by simp only[mkB];rw[if_neg e3,if_pos e4]
   repeat (refine And.intro (by omega) ?_)
   refine qrm (qzW (z::ts) (by simp only[List.length_nil,List.length_cons];omega) t) ⟨by rw[List.take_of_length_le (by simp)];exact Sub.refl _,.refl _,trivial⟩ ?_
   refine qry ⟨[(1, .sl false 3 (rows qAp l)), (2, .ptr 2 0), (4, .ptr 4 0), (5, .int k), (6, .int t), (7, .ptr 7 0), (85, .bool (decide (t ∉ z :: ts /\ qzX g (mkB (x1, x2, x3)) t)))],
      [(2,[.int g.w,.int g.h,.int g.tracks,.int g.pads,.sl true 1 (ints g.kind),.nil,.view 91 0 (bs.length+1),.nil,.nil,.view 99 0 (ts.length+1),.nil]),(4,[.int 0,.int 0,.int 0,.int 0,.nil,.nil,.nil,.nil,.nil,.nil,.nil]),(7,blkR (mkB (x1,x2,x3)))],[(91,⟨5,120,rows blkR (y::bs)⟩),(99,⟨1,3,ints (z::ts)⟩)],[]⟩ ?_ ?_
   ·refine sB ?_
    refine qrq rfl (fun e5=> ?_) fun e5=> ?_<;>simp only[push_cast,reduceIte,reduceEqDiff,reduceAdd,reduceSub,reduceMul,Nat.reduceBEq,reduceLT,reduceLeDiff,reduceCtorEq,reduceToNat,reduceNeg]
    ·refine qrm (qzY g hg (mkB (x1,x2,x3)) t) ⟨hG,Sub.aggL (by rw[hm];exact⟨.nil _ _,.refl _,.refl _,.refl _,.refl _,trivial⟩),.refl _,trivial⟩ ?_
     simp only[hm,push_cast,reduceIte,reduceEqDiff,reduceAdd,reduceSub,reduceMul,Nat.reduceBEq,reduceLT,reduceLeDiff,reduceCtorEq,reduceToNat,reduceNeg]
     rw[show decide (t∉z::ts/\qzX g ⟨[],256*x2+x3,(x3%16),(-1),0⟩ t)=decide (qzX g ⟨[],256*x2+x3,(x3%16),(-1),0⟩ t)from by rw[decide_eq_decide];exact⟨fun h=>h.2,fun h=>⟨indexF_neg.1 e5,h⟩⟩]
    ·simp only[hm,push_cast,reduceIte,reduceEqDiff,reduceAdd,reduceSub,reduceMul,Nat.reduceBEq,reduceLT,reduceLeDiff,reduceCtorEq,reduceToNat,reduceNeg]
     rw[show decide (t∉z::ts/\qzX g ⟨[],256*x2+x3,(x3%16),(-1),0⟩ t)=false from decide_eq_false fun h=>e5 (indexF_neg.2 h.1)]
   refine sB ?_
   refine qnR (fun e6=> ?_) fun e6=> ?_
   ·rw[if_pos e6]at hS
    repeat (refine And.intro (by first|omega|(simp;done)) ?_)
    refine⟨_,?_,k+1,by omega,rfl,?_⟩
    ·omega
    ·rw[hS]
     simp only[List.cons_append,List.length_append,List.length_singleton,push_cast,reduceIte,reduceEqDiff,reduceAdd,reduceSub,reduceMul,Nat.reduceBEq,reduceLT,reduceLeDiff,reduceCtorEq,reduceToNat,reduceNeg]
     simp[rows,blkR]
   ·rw[if_neg e6]at hS
    refine⟨by omega,_,?_,k+1,by omega,rfl,?_⟩
    ·omega
    ·rw[hS]
     simp only[List.cons_append,List.nil_append,push_cast,reduceIte,reduceEqDiff,reduceAdd,reduceSub,reduceMul,Nat.reduceBEq,reduceLT,reduceLeDiff,reduceCtorEq,reduceToNat,reduceNeg]
  ·have hm:mkB (x1,x2,x3)=⟨[],256*x2+x3,-1,-1,0⟩:=by simp only[mkB];rw[if_neg e3,if_neg e4]
   repeat (refine And.intro (by omega) ?_)
   refine qrm (qzW (z::ts) (by simp only[List.length_nil,List.length_cons];omega) t) ⟨by rw[List.take_of_length_le (by simp)];exact Sub.refl _,.refl _,trivial⟩ ?_
   refine qry ⟨[(1, .sl false 3 (rows qAp l)), (2, .ptr 2 0), (4, .ptr 4 0), (5, .int k), (6, .int t), (7, .ptr 7 0), (85, .bool (decide (t ∉ z :: ts /\ qzX g (mkB (x1, x2, x3)) t)))],
      [(2,[.int g.w,.int g.h,.int g.tracks,.int g.pads,.sl true 1 (ints g.kind),.nil,.view 91 0 (bs.length+1),.nil,.nil,.view 99 0 (ts.length+1),.nil]),(4,[.int 0,.int 0,.int 0,.int 0,.nil,.nil,.nil,.nil,.nil,.nil,.nil]),(7,blkR (mkB (x1,x2,x3)))],[(91,⟨5,120,rows blkR (y::bs)⟩),(99,⟨1,3,ints (z::ts)⟩)],[]⟩ ?_ ?_
   ·refine sB ?_
    refine qrq rfl (fun e5=> ?_) fun e5=> ?_<;>simp only[push_cast,reduceIte,reduceEqDiff,reduceAdd,reduceSub,reduceMul,Nat.reduceBEq,reduceLT,reduceLeDiff,reduceCtorEq,reduceToNat,reduceNeg]
    ·refine qrm (qzY g hg (mkB (x1,x2,x3)) t) ⟨hG,Sub.aggL (by rw[hm];exact⟨.nil _ _,.refl _,.refl _,.refl _,.refl _,trivial⟩),.refl _,trivial⟩ ?_
     simp only[hm,push_cast,reduceIte,reduceEqDiff,reduceAdd,reduceSub,reduceMul,Nat.reduceBEq,reduceLT,reduceLeDiff,reduceCtorEq,reduceToNat,reduceNeg]
     rw[show decide (t∉z::ts/\qzX g ⟨[],256*x2+x3,(-1),(-1),0⟩ t)=decide (qzX g ⟨[],256*x2+x3,(-1),(-1),0⟩ t)from by rw[decide_eq_decide];exact⟨fun h=>h.2,fun h=>⟨indexF_neg.1 e5,h⟩⟩]
    ·simp only[hm,push_cast,reduceIte,reduceEqDiff,reduceAdd,reduceSub,reduceMul,Nat.reduceBEq,reduceLT,reduceLeDiff,reduceCtorEq,reduceToNat,reduceNeg]
     rw[show decide (t∉z::ts/\qzX g ⟨[],256*x2+x3,(-1),(-1),0⟩ t)=false from decide_eq_false fun h=>e5 (indexF_neg.2 h.1)]
   refine sB ?_
   refine qnR (fun e6=> ?_) fun e6=> ?_
   ·rw[if_pos e6]at hS
    repeat (refine And.intro (by first|omega|(simp;done)) ?_)
    refine⟨_,?_,k+1,by omega,rfl,?_⟩
    ·omega
    ·rw[hS]
     simp only[List.cons_append,List.length_append,List.length_singleton,push_cast,reduceIte,reduceEqDiff,reduceAdd,reduceSub,reduceMul,Nat.reduceBEq,reduceLT,reduceLeDiff,reduceCtorEq,reduceToNat,reduceNeg]
     simp[rows,blkR]
   ·rw[if_neg e6]at hS
    refine⟨by omega,_,?_,k+1,by omega,rfl,?_⟩
    ·omega
    ·rw[hS]
     simp only[List.cons_append,List.nil_append,push_cast,reduceIte,reduceEqDiff,reduceAdd,reduceSub,reduceMul,Nat.reduceBEq,reduceLT,reduceLeDiff,reduceCtorEq,reduceToNat,reduceNeg]
theorem qAB{l:List Int}{k:Nat}(h:k<l.length):l.take (k+1)=l.take k++[l.getD k 0]:=by
 rw[List.take_add_one,List.getElem?_eq_getElem h,List.getD_eq_getElem?_getD,List.getElem?_eq_getElem h]
 rfl
def qAC(g:Grid)(r:Route)(seen:List Int)(i:Nat):Prop:=
 ((0<=r.nodes.getD i 0/\r.nodes.getD i 0<quD g)/\r.nodes.getD i 0∉seen++r.nodes.take i)/\
 (i=0->qvM g (r.nodes.getD i 0)=[])/\
 (i≠0->(0<=r.frm.getD i 0/\r.frm.getD i 0<=(i:Int)-1)/\r.nodes.getD (r.frm.getD i 0).toNat 0∈qvM g (r.nodes.getD i 0))
def qAD(g:Grid)(r:Route)(i:Nat):Int:=1+((qvM g (r.nodes.getD i 0)).countP (· <r.nodes.getD (r.frm.getD i 0).toNat 0):Nat)
def selN(g:Grid)(r:Route)(sel:List Int):Nat->List Int
 |0=>sel
 |k+1=>if k=0 then selN g r sel k else(selN g r sel k).set (r.nodes.getD k 0).toNat (qAD g r k)
theorem qAE(g:Grid)(r:Route)(sel:List Int): ∀k,(selN g r sel k).length=sel.length
 |0=>rfl
 | k + 1 => by
   rw[selN]
   split
   ·exact qAE g r sel k
   ·rw[List.length_set];exact qAE g r sel k
theorem qAF {g : Grid} {r : Route} {sel seen : List Int} (hs : (sel.length : Int) = quD g) {k : Nat} (hk : k < r.nodes.length) (a : List Int × List Int) :
  qwR g r (selN g r sel k,seen++r.nodes.take k) k=some a ↔ qAC g r seen k/\a=(selN g r sel (k+1),seen++r.nodes.take (k+1)):=by
 have e:=qAB hk
 unfold qwR qwQ qAC
 rw[selN,e,<- List.append_assoc]
 simp only[qAE]
 by_cases h1:(0<=r.nodes.getD k 0/\r.nodes.getD k 0<=(sel.length:Int)-1)/\r.nodes.getD k 0∉seen++r.nodes.take k
 ·rw[if_pos h1]
  have h1' :(0<=r.nodes.getD k 0/\r.nodes.getD k 0<quD g)/\r.nodes.getD k 0∉seen++r.nodes.take k:=⟨⟨h1.1.1,by omega⟩,h1.2⟩
  by_cases h0:k=0
  ·rw[if_pos h0,if_pos h0]
   by_cases hd:qvM g (r.nodes.getD k 0)=[]
   ·rw[if_pos hd,Option.some.injEq]
    constructor
    ·rintro rfl;exact⟨⟨h1',fun _=>hd,fun h=>absurd h0 h⟩,rfl⟩
    ·rintro⟨_,rfl⟩;rfl
   ·rw[if_neg hd]
    constructor
    ·intro h;cases h
    ·rintro⟨⟨_,h,_⟩,_⟩;exact absurd (h h0) hd
  ·rw[if_neg h0,if_neg h0]
   by_cases hf:0<=r.frm.getD k 0/\r.frm.getD k 0<=(k:Int)-1
   ·rw[if_pos hf]
    by_cases hx:r.nodes.getD (r.frm.getD k 0).toNat 0∈qvM g (r.nodes.getD k 0)
    ·rw[if_pos hx,Option.some.injEq]
     constructor
     ·rintro rfl;exact⟨⟨h1',fun h=>absurd h h0,fun _=>⟨hf,hx⟩⟩,rfl⟩
     ·rintro⟨_,rfl⟩;rfl
    ·rw[if_neg hx]
     constructor
     ·intro h;cases h
     ·rintro⟨⟨_,_,h⟩,_⟩;exact absurd (h h0).2 hx
   ·rw[if_neg hf]
    constructor
    ·intro h;cases h
    ·rintro⟨⟨_,_,h⟩,_⟩;exact absurd (h h0).1 hf
 ·rw[if_neg h1]
  constructor
  ·intro h;cases h
  ·rintro⟨⟨h,_⟩,_⟩;exact absurd ⟨⟨h.1.1,by omega⟩,h.2⟩ h1
theorem qAG{α β:Type}(f:α->β->Option α)(a:α)(x:β):qwK f a [x]=f a x:=by
 simp only[qwK]
 cases f a x<;>rfl
theorem qAH {g : Grid} {r : Route} {sel seen : List Int} (hs : (sel.length : Int) = quD g) : ∀ (k : Nat) (_ : k <= r.nodes.length) (a : List Int × List Int),
  qwK (qwR g r) (sel,seen) (List.range k)=some a ↔ (∀i,i<k->qAC g r seen i)/\a=(selN g r sel k,seen++r.nodes.take k)
 | 0, _, a => by
   show some (sel,seen)=some a ↔ _
   rw[Option.some.injEq,List.take_zero,List.append_nil]
   exact⟨fun h=>⟨fun i hi=>by omega,h.symm⟩,fun h=>h.2.symm⟩
 | k + 1, hk, a => by
   rw[List.range_succ,qwL,Option.bind_eq_some_iff]
   constructor
   ·rintro⟨b,hb,h⟩
    obtain⟨h1,rfl⟩:=(qAH hs k (by omega) b).1 hb
    rw[qAG]at h
    obtain⟨h2,h3⟩:=(qAF hs (by omega) _).1 h
    refine⟨fun i hi=> ?_,h3⟩
    by_cases e:i=k
    ·rw[e];exact h2
    ·exact h1 i (by omega)
   ·rintro⟨h1,rfl⟩
    refine⟨_,(qAH hs k (by omega) _).2 ⟨fun i hi=>h1 i (by omega),rfl⟩,?_⟩
    rw[qAG]
    exact(qAF hs (by omega) _).2 ⟨h1 k (by omega),rfl⟩
def qAI(g:Grid)(seen:List Int)(r:Route):Prop:=(r.nodes≠[]/\r.frm.length=r.nodes.length/\r.frm.getD 0 0= -1)/\ ∀i,i<r.nodes.length->qAC g r seen i
def selR(g:Grid)(sel:List Int)(r:Route):List Int:=selN g r sel r.nodes.length
theorem qAJ {g : Grid} {r : Route} {sel seen : List Int} (hs : (sel.length : Int) = quD g) (a : List Int × List Int) :
  qwS g (sel,seen) r=some a ↔ qAI g seen r/\a=(selR g sel r,seen++r.nodes):=by
 unfold qwS qAI selR
 by_cases h:r.nodes≠[]/\r.frm.length=r.nodes.length/\r.frm.getD 0 0= -1
 ·rw[if_pos h,qAH hs _ (Nat.le_refl _),List.take_length]
  exact⟨fun e=>⟨⟨h,e.1⟩,e.2⟩,fun e=>⟨e.1.2,e.2⟩⟩
 ·rw[if_neg h]
  exact⟨fun e=>(by cases e),fun e=>absurd e.1.1 h⟩
def qAK(rs:List Route):List Int:=(rs.map fun r=>r.nodes).flatten
def qAL(g:Grid):List Int->List Route->Prop
 |_,[]=>True
 |seen,r::rs=>qAI g seen r/\qAL g (seen++r.nodes) rs
def qAM(g:Grid):List Int->List Route->List Int
 |sel,[]=>sel
 |sel,r::rs=>qAM g (selR g sel r) rs
theorem qAN(g:Grid)(r:Route)(sel:List Int):(selR g sel r).length=sel.length:=qAE g r sel _
theorem qAO(g:Grid): ∀(rs:List Route) (sel:List Int),(qAM g sel rs).length=sel.length
 |[],_=>rfl
 |r::rs,sel=>by rw[qAM,qAO g rs,qAN]
theorem qAP {g : Grid} : ∀ (rs : List Route) (sel seen : List Int) (_ : (sel.length : Int) = quD g) (a : List Int × List Int),
  qwK (qwS g) (sel,seen) rs=some a ↔ qAL g seen rs/\a=(qAM g sel rs,seen++qAK rs)
 | [], sel, seen, _, a => by
   show some (sel,seen)=some a ↔ True/\a=(sel,seen++[])
   rw[Option.some.injEq,List.append_nil]
   exact⟨fun h=>⟨trivial,h.symm⟩,fun h=>h.2.symm⟩
 | r :: rs, sel, seen, hs, a => by
   rw[qwK,Option.bind_eq_some_iff]
   have e:seen++qAK (r::rs)=seen++r.nodes++qAK rs:=by simp[qAK]
   rw[e,qAL,qAM]
   constructor
   ·rintro⟨b,hb,h⟩
    obtain⟨h1,rfl⟩:=(qAJ hs b).1 hb
    obtain⟨h2,h3⟩:=(qAP rs _ _ (by rw[qAN];exact hs) a).1 h
    exact⟨⟨h1,h2⟩,h3⟩
   ·rintro⟨⟨h1,h2⟩,h3⟩
    exact⟨_,(qAJ hs _).2 ⟨h1,rfl⟩,(qAP rs _ _ (by rw[qAN];exact hs) a).2 ⟨h2,h3⟩⟩
structure RouteSh (g:Grid) (r:Route):Prop where
 ne:r.nodes≠[]
 len:r.frm.length=r.nodes.length
 frm:r.frm.getD 0 0= -1
 rng: ∀x∈r.nodes,0<=x/\x<quD g
 src:qvM g (r.nodes.getD 0 0)=[]
 drv: ∀i,0<i->i<r.nodes.length->(0<=r.frm.getD i 0/\r.frm.getD i 0<i)/\r.nodes.getD (r.frm.getD i 0).toNat 0∈qvM g (r.nodes.getD i 0)
theorem qAQ{l:List Int}{x:Int}(h:x∈l): ∃i,i<l.length/\l.getD i 0=x:=by
 obtain⟨i,hi,e⟩:=List.getElem_of_mem h
 exact⟨i,hi,by simp[hi,e]⟩
theorem take_mem{l:List Int}{x:Int}{k:Nat} :x∈l.take k ↔ ∃i,i<k/\i<l.length/\l.getD i 0=x:=by
 constructor
 ·intro h
  obtain⟨i,hi,e⟩:=List.getElem_of_mem h
  rw[List.length_take]at hi
  refine⟨i,by omega,by omega,?_⟩
  rw[List.getElem_take]at e
  simp[show i<l.length by omega,e]
 ·rintro⟨i,h1,h2,rfl⟩
  rw[List.mem_take_iff_getElem]
  exact⟨i,by omega,by simp[h2]⟩
theorem qAR(l:List Int):l.Nodup ↔ ∀i,i<l.length->l.getD i 0∉l.take i:=by
 constructor
 ·intro h i hi hm
  obtain⟨j,h1,h2,e⟩:=take_mem.1 hm
  rw[List.getD_eq_getElem?_getD,List.getD_eq_getElem?_getD,List.getElem?_eq_getElem hi,List.getElem?_eq_getElem h2]at e
  have:=(List.getElem_inj h).1 e
  omega
 ·intro h
  rw[List.nodup_iff_pairwise_ne,List.pairwise_iff_getElem]
  intro i j hi hj hij e
  refine h j hj (take_mem.2 ⟨i,hij,hi,?_⟩)
  simp[hi,hj,e]
theorem qAS{g:Grid}{seen:List Int}{r:Route} :qAI g seen r ↔ RouteSh g r/\r.nodes.Nodup/\ ∀x∈r.nodes,x∉seen:=by
 constructor
 ·rintro⟨⟨h1,h2,h3⟩,h4⟩
  have hl:=List.length_pos_iff.2 h1
  refine⟨⟨h1,h2,h3,fun x hx=> ?_,(h4 0 hl).2.1 rfl,fun i h0 hi=> ?_⟩,(qAR _).2 fun i hi hm=>(h4 i hi).1.2 (List.mem_append_right _ hm),fun x hx hm=> ?_⟩
  ·obtain⟨i,hi,rfl⟩:=qAQ hx
   exact(h4 i hi).1.1
  ·obtain⟨h5,h6⟩:=(h4 i hi).2.2 (by omega)
   exact⟨by omega,h6⟩
  ·obtain⟨i,hi,rfl⟩:=qAQ hx
   exact(h4 i hi).1.2 (List.mem_append_left _ hm)
 ·rintro⟨h,hn,hd⟩
  refine⟨⟨h.ne,h.len,h.frm⟩,fun i hi=>⟨⟨h.rng _ (qza hi),fun hm=> ?_⟩,fun e=>by rw[e];exact h.src,fun e=> ?_⟩⟩
  ·rcases List.mem_append.1 hm with hm|hm
   ·exact hd _ (qza hi) hm
   ·exact(qAR _).1 hn i hi hm
  ·obtain⟨h5,h6⟩:=h.drv i (by omega) hi
   exact⟨by omega,h6⟩
theorem qAT{g:Grid} : ∀(rs:List Route) (seen:List Int),qAL g seen rs ↔ (∀r∈rs,RouteSh g r)/\(qAK rs).Nodup/\ ∀x∈qAK rs,x∉seen
 |[],seen=>by simp[qAL,qAK]
 | r :: rs, seen => by
   have e:qAK (r::rs)=r.nodes++qAK rs:=by simp[qAK]
   rw[qAL,qAS,qAT rs,e,List.nodup_append]
   constructor
   ·rintro⟨⟨h1,h2,h3⟩,h4,h5,h6⟩
    refine⟨fun x hx=> ?_,⟨h2,h5,fun a ha b hb e=>h6 b hb (List.mem_append_right _ (e▸ha))⟩,fun x hx hm=> ?_⟩
    ·rcases List.mem_cons.1 hx with rfl|hx
     ·exact h1
     ·exact h4 x hx
    ·rcases List.mem_append.1 hx with hx|hx
     ·exact h3 x hx hm
     ·exact h6 x hx (List.mem_append_left _ hm)
   ·rintro⟨h1,⟨h2,h3,h4⟩,h5⟩
    refine⟨⟨h1 r (List.mem_cons_self ..),h2,fun x hx=>h5 x (List.mem_append_left _ hx)⟩,fun x hx=>h1 x (List.mem_cons_of_mem _ hx),h3,fun x hx hm=> ?_⟩
    rcases List.mem_append.1 hm with hm|hm
    ·exact h5 x (List.mem_append_right _ hx) hm
    ·exact h4 x hm x hx rfl
theorem qAU{g:Grid}{c:Cfg}{b:Block}{t:Nat}(h:qzs g c):qzs g (qwO c b t):=by
 obtain⟨h1,h2,h3,h4⟩:=h
 unfold qwO
 split
 ·refine⟨?_,?_,?_,?_⟩<;>simp[*]
 ·split
  ·refine⟨?_,?_,?_,?_⟩<;>simp[*]
  ·refine⟨?_,?_,?_,?_⟩<;>simp[*]
def qAV(b:Block):Int:=if 0<=b.ram then 3 else if 0<=b.reg then 2 else 1
def tabB(b:Block)(x:Int):Int:=if 0<=b.ram then x else b.table
def ramB(b:Block)(x:Int):Int:=if 0<=b.ram then b.ram else if 0<=b.reg then b.reg else x
theorem qAW{c:Cfg}{b:Block}{t:Nat}(h:t<c.mode.length)(i:Nat):(qwO c b t).mode.getD i 0=if t=i then qAV b else c.mode.getD i 0:=by
 unfold qwO qAV
 repeat' split
 all_goals simp only[qzy, *]at *
 all_goals simp_all
theorem qAX {g : Grid} {c : Cfg} (hc : qzs g c) (b : Block) (t : Int) (c' : Cfg) :
  qwP g c (b,t)=some c' ↔ (c.mode.getD t.toNat 0=0/\qzX g b t)/\c' =qwO c b t.toNat:=by
 have h2:=hc.2.1
 unfold qwP qzX
 simp only
 by_cases h:(0<=t/\t<=(g.kind.length:Int)-1)/\c.mode.getD t.toNat 0=0
 ·rw[if_pos h]
  have hm:=qAW (c:=c) (b:=b) (t:=t.toNat) (by omega) t.toNat
  rw[if_pos rfl]at hm
  rw[hm]
  have hh:qwN b->(qwy (g.kind.getD t.toNat 0) (qAV b)=true ↔ g.kind.getD t.toNat 0≠0/\ ¬(g.kind.getD t.toNat 0=1/\b.ram≠ -1)):=by
   rintro⟨h1,h2,h3,h4⟩
   generalize g.kind.getD t.toNat 0=k
   unfold qwy qAV
   repeat' split
   all_goals first|omega|(simp only[decide_eq_true_eq];omega)|(simp;omega)
  by_cases ho:qwN b
  ·rw[if_pos ho]
   have ho2:=ho
   obtain⟨q1,q2,q3,q4⟩:=ho2
   by_cases hq:qwy (g.kind.getD t.toNat 0) (qAV b)=true
   ·rw[if_pos hq,Option.some.injEq]
    have hq2:=(hh ho).1 hq
    constructor
    ·rintro rfl;exact⟨⟨h.2,⟨⟨by omega,by omega⟩,hq2⟩,⟨q3,q1,q2⟩,by omega⟩,rfl⟩
    ·rintro⟨_,rfl⟩;rfl
   ·rw[if_neg hq]
    exact⟨fun e=>(by cases e),fun e=>absurd ((hh ho).2 e.1.2.1.2) hq⟩
  ·rw[if_neg ho]
   refine⟨fun e=>(by cases e),?_⟩
   rintro⟨⟨_,_,⟨e1,e2,e3⟩,e4⟩,_⟩
   exact absurd ⟨e2,e3,e1,by omega⟩ ho
 ·rw[if_neg h]
  refine⟨fun e=>(by cases e),?_⟩
  rintro⟨⟨e1,⟨⟨e2,_⟩,_⟩⟩,_⟩
  exact absurd ⟨⟨e2.1,by omega⟩,e1⟩ h
theorem qAY(b:Block):qAV b≠0:=by
 unfold qAV
 repeat' split
 all_goals omega
def qAZ(g:Grid):List Int->List (Block×Int)->Prop
 |_,[]=>True
 |sn,z::zs=>(z.2∉sn/\qzX g z.1 z.2)/\qAZ g (sn++[z.2]) zs
def qB0:Cfg->List (Block×Int)->Cfg
 |c,[]=>c
 |c,z::zs=>qB0 (qwO c z.1 z.2.toNat) zs
theorem qB1 {g : Grid} : ∀ (zs : List (Block × Int)) (c : Cfg) (sn : List Int) (_ : qzs g c) (_ : ∀ t : Int, 0 <= t -> t < g.kind.length -> (c.mode.getD t.toNat 0 = 0 ↔ t ∉ sn)) (c' : Cfg),
  qwK (qwP g) c zs=some c' ↔ qAZ g sn zs/\c' =qB0 c zs
 | [], c, sn, _, _, c' => by
   show some c=some c' ↔ True/\c' =c
   rw[Option.some.injEq]
   exact⟨fun h=>⟨trivial,h.symm⟩,fun h=>h.2.symm⟩
 | (b, t) :: zs, c, sn, hc, hm, c' => by
   rw[qwK,Option.bind_eq_some_iff,qAZ,qB0]
   have hnx:qzX g b t-> ∀u:Int,0<=u->u<g.kind.length->((qwO c b t.toNat).mode.getD u.toNat 0=0 ↔ u∉sn++[t]):=fun hf u h1 h2=>by
    have h3:=hc.2.1
    have h4:=hf.1.1
    rw[qAW (by omega),List.mem_append,List.mem_singleton]
    by_cases e:t.toNat=u.toNat
    ·rw[if_pos e]
     exact⟨fun h=>absurd h (qAY b),fun h=>absurd (.inr (by omega)) h⟩
    ·rw[if_neg e,hm u h1 h2]
     exact⟨fun h h' =>h'.elim h (fun h' =>e (by omega)),fun h h' =>h (.inl h')⟩
   constructor
   ·rintro⟨x,hx,h⟩
    obtain⟨⟨h1,h2⟩,rfl⟩:=(qAX hc b t x).1 hx
    obtain⟨h3,h4⟩:=(qB1 zs _ _ (qAU hc) (hnx h2) c').1 h
    exact⟨⟨⟨(hm t h2.1.1.1 h2.1.1.2).1 h1,h2⟩,h3⟩,h4⟩
   ·rintro⟨⟨⟨h1,h2⟩,h3⟩,h4⟩
    exact⟨_,(qAX hc b t _).2 ⟨⟨(hm t h2.1.1.1 h2.1.1.2).2 h1,h2⟩,rfl⟩,(qB1 zs _ _ (qAU hc) (hnx h2) c').2 ⟨h3,h4⟩⟩
theorem qB2{g:Grid} : ∀(zs:List (Block×Int)) (sn:List Int),qAZ g sn zs ↔ (∀z∈zs,qzX g z.1 z.2)/\(zs.map Prod.snd).Nodup/\ ∀x∈zs.map Prod.snd,x∉sn
 |[],sn=>by simp[qAZ]
 | z :: zs, sn => by
   rw[qAZ,qB2 zs,List.map_cons,List.nodup_cons]
   constructor
   ·rintro⟨⟨h1,h2⟩,h3,h4,h5⟩
    refine⟨fun x hx=> ?_,⟨fun hm=>h5 _ hm (by simp),h4⟩,fun x hx hm=> ?_⟩
    ·rcases List.mem_cons.1 hx with rfl|hx
     ·exact h2
     ·exact h3 x hx
    ·rcases List.mem_cons.1 hx with rfl|hx
     ·exact h1 hm
     ·exact h5 x hx (List.mem_append_left _ hm)
   ·rintro⟨h1,⟨h2,h3⟩,h4⟩
    refine⟨⟨h4 _ (List.mem_cons_self ..),h1 z (List.mem_cons_self ..)⟩,fun x hx=>h1 x (List.mem_cons_of_mem _ hx),h3,fun x hx hm=> ?_⟩
    rcases List.mem_append.1 hm with hm|hm
    ·exact h4 x (List.mem_cons_of_mem _ hx) hm
    ·rw[List.mem_singleton]at hm
     exact h2 (hm▸hx)
structure FitsF (p:Packed) (g:Grid) (l:Layout):Prop where
 len:l.pos.length=p.blocks.length
 fit: ∀z∈p.blocks.zip l.pos,qzX g z.1 z.2
 pos:l.pos.Nodup
 sh: ∀r∈l.routes,RouteSh g r
 nod:(qAK l.routes).Nodup
def encC(p:Packed)(g:Grid)(l:Layout):Cfg:= { qB0 (qwM g) (p.blocks.zip l.pos)with sel:=qAM g (List.replicate (quD g).toNat 0) l.routes }
theorem qB3(g:Grid):qzs g (qwM g):=by refine⟨?_,?_,?_,?_⟩<;>simp[qwM]
theorem qB4(c:Cfg)(b:Block)(t:Nat):(qwO c b t).sel=c.sel:=by
 unfold qwO
 repeat' split
 all_goals rfl
theorem qB5: ∀(zs:List (Block×Int)) (c:Cfg),(qB0 c zs).sel=c.sel
 |[],_=>rfl
 |z::zs,c=>by rw[qB0,qB5 zs,qB4]
theorem qB6(p:Packed){g:Grid}(hg:GOk g)(l:Layout)(c:Cfg):encO p g l=some c ↔ FitsF p g l/\c=encC p g l:=by
 have hcn:=hg.count
 unfold encO
 by_cases h:l.pos.length=p.blocks.length
 ·rw[if_pos h,Option.bind_eq_some_iff]
  have hz:(p.blocks.zip l.pos).map Prod.snd=l.pos:=List.map_snd_zip (by omega)
  have h0: ∀t:Int,0<=t->t<g.kind.length->((qwM g).mode.getD t.toNat 0=0 ↔ t∉([]:List Int)):=fun t h1 h2=>by
   simp[qwM,List.getElem?_replicate]
   split<;>rfl
  have hlen:((qwM g).sel.length:Int)=quD g:=by simp[qwM];omega
  have key: ∀x:Cfg,qwK (qwP g) (qwM g) (p.blocks.zip l.pos)=some x->x.sel=(qwM g).sel:=fun x hx=>by
   obtain⟨_,rfl⟩:=(qB1 _ _ _ (qB3 g) h0 x).1 hx
   rw[qB5]
  constructor
  ·rintro⟨x,hx,hy⟩
   rw[Option.map_eq_some_iff]at hy
   obtain⟨a,ha,rfl⟩:=hy
   rw[key x hx]at ha
   obtain⟨h1,rfl⟩:=(qB1 _ _ _ (qB3 g) h0 x).1 hx
   obtain⟨h2,rfl⟩:=(qAP _ _ _ hlen a).1 ha
   obtain⟨q1,q2,_⟩:=(qB2 _ _).1 h1
   obtain⟨q3,q4,_⟩:=(qAT _ _).1 h2
   rw[hz]at q2
   exact⟨⟨h,q1,q2,q3,q4⟩,rfl⟩
  ·rintro⟨⟨_,q1,q2,q3,q4⟩,rfl⟩
   have hx:=(qB1 _ _ _ (qB3 g) h0 _).2 ⟨(qB2 _ _).2 ⟨q1,by rw[hz];exact q2,fun _ _ h=>by cases h⟩,rfl⟩
   refine⟨_,hx,?_⟩
   rw[Option.map_eq_some_iff,key _ hx]
   exact⟨_,(qAP _ _ _ hlen _).2 ⟨(qAT _ _).2 ⟨q3,q4,fun _ _ h=>by cases h⟩,rfl⟩,rfl⟩
 ·rw[if_neg h]
  exact⟨fun e=>(by cases e),fun e=>absurd e.1.len h⟩
theorem qB7{p:Packed}{g:Grid}(hg:GOk g){l:Layout}(h:FitsF p g l):encF p g l=(encC p g l,0):=by
 rw[encF,(qB6 p hg l _).2 ⟨h,rfl⟩]
theorem qB8{p:Packed}{g:Grid}(hg:GOk g){l:Layout}(h: ¬FitsF p g l):encF p g l=(cfg0,350):=by
 have:encO p g l=none:=by
  cases e:encO p g l with
  |none=>rfl
  |some c=>exact absurd ((qB6 p hg l c).1 e).1 h
 rw[encF,this]
end Go.Proofs.YtdmkfgkmnpohlaaGreat
