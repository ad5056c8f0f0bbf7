/- II IA IB IC TxtR IU HT IV TxtQ: lemmas -/
import Derived.Test.YtecoaapkcnhlhaaDoorPart13
import Derived.Test.YtecoaapkcnhlhaaDoorPart10
import Derived.Test.YtecoaapkcnhlhaaDoorPart06
import Derived.Test.YtecoaapkcnhlhaaDoorChecked
import Derived.Test.YtecoaapkcnhlhaaDoorPart12
set_option linter.unusedSimpArgs false
set_option linter.unusedVariables false
open Nat (reduceEqDiff reduceAdd reduceSub reduceMul reduceLT reduceLeDiff)
open Int (reduceToNat reduceNeg)
namespace Go.Proofs.YtecoaapkcnhlhaaDoor
open Go Go.Vc Go.Ham Txt
theorem qG0{g:Grid}(hg:GOk g){c:Cfg}(h:validE g c=0){f:Fld}(hf:FIn g f):cfgV c f.kind f.i<2^62:=by
 have h1:=(qDi hg h hf).2
 obtain⟨⟨l1,l2,l3,l4⟩,h2,h3⟩:=(qDg g c).1 h
 rcases hf.key with⟨a,b,d⟩|⟨a,b,d⟩|⟨a,b,d⟩|⟨a,b,d⟩
 ·have hs:=h2 f.i (by rw[l1];exact b)
  have hd:=qxn g hg f.i
  unfold qyl at hs
  unfold cfgV
  rw[a]
  simp only[cfgI,if_true]
  by_cases e:c.sel.getD f.i 0=0
  ·rw[e];decide
  ·have:=hs e
   omega
 all_goals
  rw[d]at h1
  exact Nat.lt_of_lt_of_le h1 (Nat.pow_le_pow_right (by decide) (by decide))
theorem qG1{g:Grid}{f:Fld}(hf:FIn g f):f.n<=64:=by
 rcases hf.key with⟨a,b,d⟩|⟨a,b,d⟩|⟨a,b,d⟩|⟨a,b,d⟩<;>rw[d]
 ·exact qDN 64 _
 all_goals decide
def outP(h:Nat->Nat)(D:Nat->List Nat)(x:Nat):PV:=if D x=[]then .nil else .sl true 1 (rows u64C (nats ((D x).map h)))
def datP(D:Nat->List Nat)(x:Nat):PV:=if D x=[]then .nil else .sl true 1 (rows u64C (nats (D x)))
def outC(h:Nat->Nat)(n:Nat)(D:Nat->List Nat)(k:Nat):List PV:=(List.range n).map fun x=>if x<k then outP h D x else .nil
def datC(n:Nat)(D:Nat->List Nat):List PV:=(List.range n).map (datP D)
theorem qG2{h:Nat->Nat}(n:Nat)(D:Nat->List Nat)(k:Nat):(outC h n D k).length=n:=by simp[outC]
theorem qG3(n:Nat)(D:Nat->List Nat):(datC n D).length=n:=by simp[datC]
theorem qG4{h:Nat->Nat}{n k:Nat}(hk:k<n)(D:Nat->List Nat):(outC h n D k).getD k .bot= .nil:=by simp[outC,List.getD_eq_getElem?_getD,hk]
theorem qG5{n k:Nat}(h:k<n)(D:Nat->List Nat):(datC n D).getD k .bot=datP D k:=by simp[datC,List.getD_eq_getElem?_getD,h]
theorem qG6{h:Nat->Nat}{n k:Nat}(D:Nat->List Nat):(outC h n D k).set k (outP h D k)=outC h n D (k+1):=by
 apply List.ext_getElem (by simp[outC])
 intro i h1 h2
 rw[List.getElem_set]
 simp only[outC,List.getElem_map,List.getElem_range]
 split
 ·next e=>subst e;rw[if_pos (by omega)]
 ·next e=>
  by_cases h3:i<k
  ·rw[if_pos h3,if_pos (by omega)]
  ·rw[if_neg h3,if_neg (by omega)]
theorem qG7{h:Nat->Nat}{n k:Nat}(D:Nat->List Nat)(h0:D k=[]):outC h n D k=outC h n D (k+1):=by
 unfold outC
 apply List.map_congr_left
 intro x _
 by_cases e:x=k
 ·subst e
  rw[if_neg (by omega),if_pos (by omega),outP,if_pos h0]
 ·by_cases h2:x<k
  ·rw[if_pos h2,if_pos (by omega)]
  ·rw[if_neg h2,if_neg (by omega)]
theorem qG8{h:Nat->Nat}{n:Nat}(D:Nat->List Nat)(k:Nat)(pb pa:Nat->Bool):anyT pb pa (outC h n D k)=false:=by
 rw[<- qhH,List.any_eq_false]
 intro c hc
 obtain⟨x,_,rfl⟩:=List.mem_map.1 hc
 unfold outP
 split
 ·split<;>simp[PV.to]
 ·simp[PV.to]
theorem qG9{n:Nat}(D:Nat->List Nat)(pb pa:Nat->Bool):anyT pb pa (datC n D)=false:=by
 rw[<- qhH,List.any_eq_false]
 intro c hc
 obtain⟨x,_,rfl⟩:=List.mem_map.1 hc
 unfold datP
 split<;>simp[PV.to]
theorem qGa{h:Nat->Nat}(n:Nat)(D:Nat->List Nat)(k:Nat):(outC h n D k).all qbM=true:=by
 rw[List.all_eq_true]
 intro c hc
 obtain⟨x,_,rfl⟩:=List.mem_map.1 hc
 unfold outP
 split
 ·split<;>rfl
 ·rfl
set_option maxHeartbeats 2000000 in
theorem qGc (n : Nat) (hn : n <= 1000) (D : Nat -> List Nat) (hD : ∀ x, (D x).length < 100000000) (hD2 : ∀ x, ∀ w ∈ D x, w < 2 ^ 57) (Q : Exit -> St -> Prop) (st : St)
  (h0:SWk st ⟨[(6,.bv 24 1 n),(8,.ptr 8 0)],[(8,[.bv 32 1 n]),(24,outC encW n D 0),(32,datC n D)],[],[]⟩)
  (hQ:Q .ret ⟨[(4,.sl true 1 ((outC encW n D n).map fun c=>[c])),(5,.int 0),(6,.sl true 1 ((outC encW n D n).map fun c=>[c])),(124,.sl true 1 ((outC encW n D n).map fun c=>[c]))],[(8,[.bv 32 1 n]),(32,datC n D)],[],[]⟩):
  awp (Env.of Tryd.prog) ac33_r17 Q st:=by
 simp only[ac33_r17,push_cast,reduceIte,reduceEqDiff,reduceAdd,reduceSub,reduceMul,Nat.reduceBEq,reduceLT,reduceLeDiff,reduceCtorEq,reduceToNat,reduceNeg,cNI]
 refine qr5 _ h0 ?_
 refine sB ?_
 refine qoK (fun j st=> ∃k:Nat,k<=n/\j=n-k/\st=⟨[(6,.bv 24 1 n),(8,.ptr 8 0),(92,.int n),(93,.int k)],[(8,[.bv 32 1 n]),(24,outC encW n D k),(32,datC n D)],[],[]⟩) n ⟨_,SWk.refl _,0,by omega,by omega,by simp only[push_cast,reduceIte,reduceEqDiff,reduceAdd,reduceSub,reduceMul,Nat.reduceBEq,reduceLT,reduceLeDiff,reduceCtorEq,reduceToNat,reduceNeg,cNI]⟩ ?_
 rintro j st ⟨k,hk,rfl,rfl⟩
 refine sB ?_
 refine qnU (fun h=> ?_) fun h=> ?_
 ·have hk' :k<n:=by omega
  simp only[Nat.mul_one,qF8 (datC n D),qG3,qG5 hk',push_cast,reduceIte,reduceEqDiff,reduceAdd,reduceSub,reduceMul,Nat.reduceBEq,reduceLT,reduceLeDiff,reduceCtorEq,reduceToNat,reduceNeg,cNI]
  refine⟨⟨by omega,by omega⟩,by omega,?_⟩
  unfold datP
  by_cases hE:D k=[]
  ·rw[if_pos hE]
   refine sB ?_
   refine qoK (fun _ s=>s=_) 0 ⟨_,SWk.refl _,rfl⟩ ?_
   rintro _ _ rfl
   refine sB ?_
   refine qnU (fun h=>absurd h (by decide)) fun _=> ?_
   refine⟨⟨by omega,by omega⟩,_,SWk.refl _,n-(k+1),by omega,k+1,by omega,rfl,?_⟩
   rw[qG7 D hE]
   rfl
  ·rw[if_neg hE]
   have hlen:=hD k
   have hR: ∀j,(((D k).map encW).take j).length=min j (D k).length:=fun j=>by simp
   have hcl: ∀v,((outC encW n D k).set k v).length=n:=fun v=>by rw[List.length_set,qG2]
   have hcx: ∀v,((outC encW n D k).set k v).getD k .bot=v:=fun v=>by rw[List.getD_eq_getElem?_getD,List.getElem?_set_self (by rw[qG2];omega)];rfl
   have hset2: ∀v w,((outC encW n D k).set k v).set k w=(outC encW n D k).set k w:=fun v w=>List.set_set ..
   have f8: ∀j c,c.to nul (isId j)=false->anyT nul (isId j) ((outC encW n D k).set k c)=false:=fun j c hc=>qF7 _ _ _ _ _ (qG8 D k _ _) hc
   have g8:=fun j=>qG9 (n:=n) D nul (isId j)
   have b5:=fun m=>qFG (j:=119) (outC encW n D k) k m (by rw[qG2];omega)
   have b6:=fun m=>qFF (j:=119) (outC encW n D k) k m (by rw[qG2];omega) (qF7 _ _ _ _ _ (qG8 D k _ _) rfl)
   have hn0:(outC encW n D k).set k .nil=outC encW n D k:=by
    have e:=qG4 (h:=encW) hk' D
    apply List.ext_getElem (by simp)
    intro i h1 h2
    rw[List.getElem_set]
    split
    ·next q=>subst q;rw[List.getD_eq_getElem?_getD,List.getElem?_eq_getElem h2]at e;exact e.symm
    ·rfl
   have e8: ∀m,anyT nul (isId 118) ((outC encW n D k).set k (.view 119 0 m))=false:=fun m=>f8 _ _ rfl
   have hspl: ∀v w,spl ((outC encW n D k).set k v) k [w]=(outC encW n D k).set k w:=fun v w=>by rw[qF9 _ _ _ (by rw[hcl];omega),hset2]
   simp only[qER,push_cast,reduceIte,reduceEqDiff,reduceAdd,reduceSub,reduceMul,Nat.reduceBEq,reduceLT,reduceLeDiff,reduceCtorEq,reduceToNat,reduceNeg,cNI]
   refine qoK (fun m st=> ∃j:Nat,j<=(D k).length/\m=(D k).length-j/\st=⟨[(6,.bv 24 1 n),(8,.ptr 8 0),(12,.int k),(92,.int n),(93,.int k),(99,.sl true 1 (rows u64C (nats (D k)))),(100,.int (D k).length),(101,.int j)],
    [(8,[.bv 32 1 n]),(24,(outC encW n D k).set k (if j=0 then .nil else .view 119 0 j)),(32,datC n D)],(if j=0 then[]else[(119,⟨1,54,rows u64C (nats (((D k).map encW).take j))⟩)]),[]⟩) (D k).length ⟨_,SWk.refl _,0,by omega,by omega,?_⟩ ?_
   ·simp only[if_true,hn0,push_cast,reduceIte,reduceEqDiff,reduceAdd,reduceSub,reduceMul,Nat.reduceBEq,reduceLT,reduceLeDiff,reduceCtorEq,reduceToNat,reduceNeg,cNI]
   rintro m st ⟨j,hj,rfl,rfl⟩
   simp only[qER,push_cast,reduceIte,reduceEqDiff,reduceAdd,reduceSub,reduceMul,Nat.reduceBEq,reduceLT,reduceLeDiff,reduceCtorEq,reduceToNat,reduceNeg,cNI]
   refine qnU (fun h2=> ?_) fun h2=> ?_
   ·have hj' :j<(D k).length:=by omega
    have hw:(D k).getD j 0<2^57:=hD2 k _ (by rw[List.getD_eq_getElem?_getD,List.getElem?_eq_getElem hj'];exact List.getElem_mem hj')
    have hen:=qEg ((D k).getD j 0) hw
    have htk:((D k).map encW).take (j+1)=((D k).map encW).take j++[encW ((D k).getD j 0)]:=by
     rw[List.take_succ_eq_append_getElem (by simpa using hj'),List.getElem_map,List.getD_eq_getElem?_getD,List.getElem?_eq_getElem hj']
     rfl
    refine⟨⟨by omega,by omega⟩,by omega,?_⟩
    rw[qFx]
    refine qrr hen sC ?_
    cases j with
    |zero=>
      simp only[if_true,Nat.mul_one,qF8,hcl,hcx,hset2,hn0,f8,qG8,g8,rep1,List.set_cons_zero,List.length_cons,List.length_nil,qG2,qG4 hk',qF9 _ k _ (by rw[qG2];omega:k<(outC encW n D k).length),push_cast,reduceIte,reduceEqDiff,reduceAdd,reduceSub,reduceMul,Nat.reduceBEq,reduceLT,reduceLeDiff,reduceCtorEq,reduceToNat,reduceNeg,cNI]
      refine⟨⟨by omega,by omega⟩,by omega,⟨by omega,by omega⟩,by omega,⟨by omega,by omega⟩,_,SWk.drop (fun _=>true) (fun i=>i !=118),(D k).length-1,by omega,1,by omega,rfl,?_⟩
      rw[htk]
      rfl
    |succ j=>
      simp only[if_neg (Nat.succ_ne_zero j),Nat.mul_one,qF8,hcl,hcx,hset2,hn0,e8,hspl,b5,b6,f8,qG8,g8,rep1,List.set_cons_zero,List.length_cons,List.length_nil,qG2,qG4 hk',push_cast,reduceIte,reduceEqDiff,reduceAdd,reduceSub,reduceMul,Nat.reduceBEq,reduceLT,reduceLeDiff,reduceCtorEq,reduceToNat,reduceNeg,cNI]
      refine⟨⟨by omega,by omega⟩,by omega,⟨by rw[qER,hR];omega,by omega,by omega⟩,⟨by omega,by omega⟩,by omega,⟨by omega,by omega⟩,_,SWk.drop (fun _=>true) (fun i=>i !=118),(D k).length-(j+1+1),by omega,j+1+1,by omega,rfl,?_⟩
      rw[htk,<- qFL]
      rfl
   ·obtain rfl:j=(D k).length:=by omega
    have hz: ¬(D k).length=0:=fun e=>hE (List.length_eq_zero_iff.1 e)
    have hfz:(outC encW n D k).map (PV.fz 119 ⟨1,54,rows u64C (nats ((D k).map encW))⟩)=outC encW n D k:=by rw[qjY,qk1 _ _ (qG8 D k _ _)]
    rw[if_neg hz,if_neg hz,List.take_of_length_le (by simp)]
    refine⟨⟨by omega,by omega⟩,_,SWk.frz _ 119,n-(k+1),by omega,k+1,by omega,rfl,?_⟩
    simp only[b5,qG9,qk1 _ _ (qG9 D _ _),<- qjY,push_cast,reduceIte,reduceEqDiff,reduceAdd,reduceSub,reduceMul,Nat.reduceBEq,reduceLT,reduceLeDiff,reduceCtorEq,reduceToNat,reduceNeg,cNI]
    have e:PV.fz 119 ⟨1,54,rows u64C (nats ((D k).map encW))⟩ (.view 119 0 (D k).length)=outP encW D k:=by
     rw[outP,if_neg hE,qjO,if_pos rfl]
     simp only[List.drop_zero]
     rw[List.take_of_length_le (by simp[rows,nats])]
    rw[List.map_set,hfz,e,qG6]
 ·obtain rfl:k=n:=by omega
  refine qr5 ⟨[(6,.sl true 1 ((outC encW k D k).map fun c=>[c])),(8,.ptr 8 0),(92,.int k),(93,.int k),(94,.bool (decide ((k:Int)<k)))],[(8,[.bv 32 1 k]),(32,datC k D)],[],[]⟩ (SWk.frzB 24 (cs:=outC encW k D k) rfl (qGa _ _ _) ?_ ?_) ?_
  ·simp only[List.map_cons,List.map_nil,PV.fbV,PV.fbA,PV.fb,qG2,if_true,and_self,PV.kill]
   rfl
  ·have e : (datC k D).map (PV.fb 24 (outC encW k D k)) = datC k D := by
    conv=>rhs;rw[<- List.map_id (datC k D)]
    apply List.map_congr_left
    intro c hc
    obtain⟨x,_,rfl⟩:=List.mem_map.1 hc
    unfold datP
    split<;>rfl
   simp only[List.map_cons,List.map_nil,e]
   rfl
  refine sB ?_
  exact hQ
def bxV(g:Grid)(c:Cfg)(cells v:List PV):List (Nat×List PV):=[(2,quQ false g),(3,cfgC false c),(7,[.view 28 0 (wN g+1)]),(8,[.bv 32 1 (wN g+1)]),(24,List.replicate (wN g+1) .nil),(32,cells),(102,quQ false g),(103,[.ptr 3 0]),(105,[.int (quU g)]),(204,[.yl 999]),(1010,v)]
theorem qGd(g:Grid)(c:Cfg)(D:Nat->List Bool)(v:List PV):up (bitB g c D) 1010 v=bxV g c (qAR 2000 (rsD (wN g+1) D)) v:=rfl
theorem qGe(g:Grid)(c:Cfg)(cells v w:List PV):up (bxV g c cells v) 1010 w=bxV g c cells w:=rfl
theorem qGf(g:Grid)(c:Cfg)(cells v:List PV):lk (bxV g c cells v) 1010=some v:=rfl
theorem qGg(g:Grid)(c:Cfg)(cells:List PV)(p:PV)(n:Int):bxV g c cells [p,.int n]=bxE g c cells p n:=rfl
theorem qGh(g:Grid)(c:Cfg)(D:Nat->List Bool):qiC (isId 1010) nul (bitB g c D)=bitB g c D:=by
 have h:anyT (isId 1010) nul (qAR 2000 (rsD (wN g+1) D))=false:=by
  rw[<- qhH];exact qAW _ _ _ _ fun _ _=>rfl
 unfold bitB
 simp only[h,qFr,push_cast,reduceIte,reduceEqDiff,reduceAdd,reduceSub,reduceMul,Nat.reduceBEq,reduceLT,reduceLeDiff,reduceCtorEq,reduceToNat,reduceNeg,cNI]
theorem qGi{g:Grid}{c:Cfg}(h:validE g c=0)(hg:GOk g){f:Fld}(hf:FIn g f): ∃l,cfK (.sl false 1 (ints c.sel)) (.sl false 1 (ints c.mode)) (.sl false 1 (ints c.tab)) (.sl false 1 (ints c.ram)) f.kind= .sl false 1 (ints l)/\f.i<l.length/\l.getD f.i default=(cfgV c f.kind f.i:Int):=by
 have hc:=hg.n.c
 have hk:=hg.n.k
 have h1:=(qDi hg h hf).1
 obtain⟨⟨l1,l2,l3,l4⟩,_⟩:=(qDg g c).1 h
 unfold cfgV
 rcases hf.key with⟨a,b,d⟩|⟨a,b,d⟩|⟨a,b,d⟩|⟨a,b,d⟩<;>rw[a]at h1 ⊢
 ·exact⟨c.sel,rfl,by omega,by simp only[cfgI,if_true]at h1 ⊢;exact(Int.toNat_of_nonneg h1).symm⟩
 ·exact⟨c.mode,rfl,by omega,(Int.toNat_of_nonneg h1).symm⟩
 ·exact⟨c.tab,rfl,by omega,(Int.toNat_of_nonneg h1).symm⟩
 ·exact⟨c.ram,rfl,by omega,(Int.toNat_of_nonneg h1).symm⟩
set_option maxHeartbeats 4000000 in
theorem qGj(g:Grid)(hg:GOk g)(c:Cfg)(hs:CfgSm c)(h0:validE g c=0):FnEq Tryd.prog 33 [.agg (quQ false g),.agg (cfgC false c)] (.tup [.sl true 1 (rows (frmC true) (qDl g c)),.int 0]):=by
 have hn:=hg.n
 have hv:=qyr g hg c hs
 refine FnEq.of_awp Tryd.func33 ok33 (by show 2<=_;decide) (by simp only[push_cast,reduceIte,reduceEqDiff,reduceAdd,reduceSub,reduceMul,Nat.reduceBEq,reduceLT,reduceLeDiff,reduceCtorEq,reduceToNat,reduceNeg,cNI]<;>first|exact fun _ _=>trivial|simp) ?_
 simp only[ac33,rv33,push_cast,reduceIte,reduceEqDiff,reduceAdd,reduceSub,reduceMul,Nat.reduceBEq,reduceLT,reduceLeDiff,reduceCtorEq,reduceToNat,reduceNeg,cNI]
 refine qrr hv (by exact⟨.refl _,.refl _,trivial⟩) ?_
 simp only[qFr,push_cast,reduceIte,reduceEqDiff,reduceAdd,reduceSub,reduceMul,Nat.reduceBEq,reduceLT,reduceLeDiff,reduceCtorEq,reduceToNat,reduceNeg,cNI]
 have hw:=hg.w
 have hw2:=hn.w
 refine qnU (fun h=>absurd h0 h) fun _=> ?_
 rw[show(g.w+1).toNat=wN g+1 by omega,List.length_replicate]
 refine⟨⟨by omega,by omega⟩,⟨by omega,by omega,by omega⟩,⟨by omega,by omega⟩,⟨by omega,by omega,by omega,by omega⟩,⟨by omega,by omega⟩,⟨by omega,by omega,by omega⟩,?_⟩
 have hF : FnM (Env.of Tryd.prog) 53 [.agg (quQ false g), .ptr 3 0] ⟨[(2, .ptr 2 0), (3, .ptr 3 0), (6, .bv 24 1 (wN g + 1)), (7, .ptr 7 0), (8, .ptr 8 0), (33, .agg (quQ false g))], [(2, quQ false g), (3, cfgC false c), (7, [.view 28 0 (wN g + 1)]), (8, [.bv 32 1 (wN g + 1)]), (24, List.replicate (wN g + 1) .nil), (32, List.replicate (wN g + 1) .nil)], [(28, ⟨1, 3, ints (List.replicate (wN g + 1) 0)⟩)], []⟩
   (fun v st' =>v= .clo 75 [103,102,105]/\st' =⟨[(2,.ptr 2 0),(3,.ptr 3 0),(6,.bv 24 1 (wN g+1)),(7,.ptr 7 0),(8,.ptr 8 0),(33,.agg (quQ false g))],[(2,quQ false g),(3,cfgC false c),(7,[.view 28 0 (wN g+1)]),(8,[.bv 32 1 (wN g+1)]),(24,List.replicate (wN g+1) .nil),(32,List.replicate (wN g+1) .nil),(102,quQ false g),(103,[.ptr 3 0]),(105,[.int (quU g)])],[(28,⟨1,3,ints (List.replicate (wN g+1) 0)⟩)],[]⟩):=by
  refine qub 100 Tryd.func53 ok53_100 (by show 2<=_;decide) rfl (by decide) ?_
  have ht:=hg.tracks
  simp only[ac53_100,rv53_100,qFr,push_cast,reduceIte,reduceEqDiff,reduceAdd,reduceSub,reduceMul,Nat.reduceBEq,reduceLT,reduceLeDiff,reduceCtorEq,reduceToNat,reduceNeg,cNI]
  exact⟨⟨by omega,by omega⟩,⟨by omega,by omega⟩,rfl⟩
 refine qsL hF ?_
 simp only[qFr,push_cast,reduceIte,reduceEqDiff,reduceAdd,reduceSub,reduceMul,Nat.reduceBEq,reduceLT,reduceLeDiff,reduceCtorEq,reduceToNat,reduceNeg,cNI]
 refine qu9 (st1:=⟨[(6,.bv 24 1 (wN g+1)),(7,.ptr 7 0),(8,.ptr 8 0),(34,.clo 75 [103,102,105])],[(2,quQ false g),(3,cfgC false c),(7,[.view 28 0 (wN g+1)]),(8,[.bv 32 1 (wN g+1)]),(24,List.replicate (wN g+1) .nil),(32,List.replicate (wN g+1) .nil),(102,quQ false g),(103,[.ptr 3 0]),(105,[.int (quU g)])],bitA g (qDH g []) (fun x=>qBL [] (cfgV c) x),[]⟩) (Env.of_noY _) rfl ?_
  (qD4 (s:=[(6,.bv 24 1 (wN g+1)),(7,.ptr 7 0),(8,.ptr 8 0),(34,.clo 75 [103,102,105])]) rfl (by show 125<=200;decide) (fun _ _ h=>h) rfl g hg 103 102 105 3 _ _ _ _ _ (fun pre=>bitB g c fun x=>qBL pre (cfgV c) x) (fun pre=>bitA g (qDH g pre) fun x=>qBL pre (cfgV c) x) rfl rfl rfl sC ?_ (fun pre hp=>⟨rfl,rfl,rfl,rfl,rfl⟩) (fun pre hp=>⟨rfl,rfl,rfl,rfl⟩) ?_ ⟨by decide,by decide,by decide,by decide⟩ ⟨qFs _,qFs _,qFs _,qFs _⟩ ?_) ?_
 ·simp only[qFr,push_cast,reduceIte,reduceEqDiff,reduceAdd,reduceSub,reduceMul,Nat.reduceBEq,reduceLT,reduceLeDiff,reduceCtorEq,reduceToNat,reduceNeg,cNI]
  rw[qDT,bitA,show(fun x=>qBL [] (cfgV c) x)=fun _=>[]from rfl,qFo,qFq]
 ·simp only[qFr,push_cast,reduceIte,reduceEqDiff,reduceAdd,reduceSub,reduceMul,Nat.reduceBEq,reduceLT,reduceLeDiff,reduceCtorEq,reduceToNat,reduceNeg,cNI]
  rw[bitB,show(fun x=>qBL [] (cfgV c) x)=fun _=>[]from rfl,qFo,qFp]
  rfl
 ·have hc:=hn.c
  have hk:=hn.k
  obtain⟨⟨l1,l2,l3,l4⟩,_⟩:=(qDg g c).1 h0
  refine⟨?_,?_,?_,?_⟩<;>simp[qCJ,rows,l1,l2,l3,l4,cN,hk]
 ·intro pre f hpf t ht h4 hft
  have hm:midL 0 125 ([(6,.bv 24 1 (wN g+1)),(7,.ptr 7 0),(8,.ptr 8 0),(34,.clo 75 [103,102,105])]++t)=[(6,.bv 24 1 (wN g+1)),(7,.ptr 7 0),(8,.ptr 8 0),(34,.clo 75 [103,102,105])]:=by
   simp only[List.cons_append,List.nil_append,qtQ]
   rw[qCH fun x hx=>by have:=h4 x hx;omega]
   rfl
  have hs:qtT 1000 ([(6,.bv 24 1 (wN g+1)),(7,.ptr 7 0),(8,.ptr 8 0),(34,.clo 75 [103,102,105])]++t)=true:=by simpa[qtT]using ht
  refine qCt rfl rfl hs ?_
  rw[hm]
  have hS: ∀j,1000<=j->farL j ([(6,.bv 24 1 (wN g+1)),(7,.ptr 7 0),(8,.ptr 8 0),(34,.clo 75 [103,102,105])]++t):=by
   intro j hj
   have n1: ∀i,i<1000->(i==j)=false:=fun i hi=>beq_false_of_ne (by omega)
   simp only[qCO,n1 7 (by decide),n1 8 (by decide),n1 24 (by decide),n1 103 (by decide),n1 102 (by decide),n1 105 (by decide),hft j hj,push_cast,reduceIte,reduceEqDiff,reduceAdd,reduceSub,reduceMul,Nat.reduceBEq,reduceLT,reduceLeDiff,reduceCtorEq,reduceToNat,reduceNeg,cNI]
  have hg6:getL ([(6,.bv 24 1 (wN g+1)),(7,.ptr 7 0),(8,.ptr 8 0),(34,.clo 75 [103,102,105])]++t) 6= .bv 24 1 (wN g+1):=rfl
  have hg7:getL ([(6,.bv 24 1 (wN g+1)),(7,.ptr 7 0),(8,.ptr 8 0),(34,.clo 75 [103,102,105])]++t) 7= .ptr 7 0:=rfl
  have hg8:getL ([(6,.bv 24 1 (wN g+1)),(7,.ptr 7 0),(8,.ptr 8 0),(34,.clo 75 [103,102,105])]++t) 8= .ptr 8 0:=rfl
  have hg34:getL ([(6,.bv 24 1 (wN g+1)),(7,.ptr 7 0),(8,.ptr 8 0),(34,.clo 75 [103,102,105])]++t) 34= .clo 75 [103,102,105]:=rfl
  clear hm ht h4
  generalize [(6,PV.bv 24 1 (wN g+1)),(7,.ptr 7 0),(8,.ptr 8 0),(34,.clo 75 [103,102,105])]++t=S at hs hS hg6 hg7 hg8 hg34 ⊢
  unfold qu6
  have hfi:=qCW hg (hpf.subset (List.mem_append_right _ List.mem_cons_self))
  have hfx:=hfi.x
  have hbd:=qDO hg hpf f.x
  rw[qBQ]at hbd
  simp only[qBM,if_true]at hbd
  have hv1:=qDi hg h0 hfi
  have hv2:=qG0 hg h0 hfi
  have hfn:=qG1 hfi
  obtain⟨l,hl,hil,hlv⟩:=qGi h0 hg hfi
  obtain⟨p1,p2⟩:=qCL (a:=[]) (v:= .sl false 1 (ints l)) rfl f.i
  obtain⟨p3,-⟩:=(qFs l).2 f.i 1010 (by decide)
  have hfl:=qBN (cfgV c) f.x pre
  simp only[qCo hs,qCn hs,hg6,hg7,hg8,hg34,qCp hs,qCq hs,qCr hs,qCS,qCP (hS 1010 (by decide)),hl,p1,p2,p3,qGh,qGd,qGe,qGf,push_cast,reduceIte,reduceEqDiff,reduceAdd,reduceSub,reduceMul,Nat.reduceBEq,reduceLT,reduceLeDiff,reduceCtorEq,reduceToNat,reduceNeg,cNI]
  simp only[qGg]
  refine qFS g hg c hs hS (fun x=>qBL pre (cfgV c) x) f.x f.n f.i l hil hfx (qDH g pre) (qDP g pre) (by rw[qDQ hfx,hfl]) (by omega) hfn (cfgV c f.kind f.i) hlv hv2 [(1036,.agg [qCI (.sl false 1 (ints l)) f.i,.int f.n])] sC _ fun A hA=> ?_
  simp only[qCo hs,qCn hs,qCp hs,qCq hs,qCr hs,push_cast,reduceIte,reduceEqDiff,reduceAdd,reduceSub,reduceMul,Nat.reduceBEq,reduceLT,reduceLeDiff,reduceCtorEq,reduceToNat,reduceNeg,cNI]
  refine⟨_,qFR g c (fun x=>qBL pre (cfgV c) x) f.x hfx (hS _ (by omega)) (hS 1055 (by decide)) _ l f.i f.n _ A hA,hs,?_⟩
  have e1:updD (fun x=>qBL pre (cfgV c) x) f.x (qBL pre (cfgV c) f.x++qBl (cfgV c f.kind f.i) f.n)=fun x=>qBL (pre++[f]) (cfgV c) x:=by
   funext y
   unfold updD
   rw[qBO,qBP,show qBL [] (cfgV c) y=[]from rfl,List.append_nil]
   by_cases e:y=f.x
   ·rw[if_pos e,if_pos e.symm,e]
   ·rw[if_neg e,if_neg (fun h=>e h.symm),List.append_nil]
  rw[e1,hfl,qDR]
 ·rintro _ _ rfl
  have hw1:wN g+1<=1000:=by omega
  have hkc:anyT (isId 999) nul (qAR 2000 (rsD (wN g+1) fun x=>qBL (qCe g) (cfgV c) x))=false:=by
   rw[<- qhH];exact qAW _ _ _ _ fun _ _=>rfl
  simp only[bitB,bitA,hkc,qFr,push_cast,reduceIte,reduceEqDiff,reduceAdd,reduceSub,reduceMul,Nat.reduceBEq,reduceLT,reduceLeDiff,reduceCtorEq,reduceToNat,reduceNeg,cNI]
  refine qGc (wN g+1) hw1 (fun x=>qBy (qBL (qCe g) (cfgV c) x)) (fun x=> ?_) (fun x w hw=>qBB hw) _ _ ?_ ?_
  ·have hb:=qDO hg List.prefix_rfl x
   rw[qBA,qBN]
   simp only[nW];omega
  ·have hrf:=qB5 1 54 (fun x=>x.1 !=28) 2000 (rsD (wN g+1) fun x=>qBL (qCe g) (cfgV c) x) fun y r _=>bne_iff_ne.2 (show 2000+y≠28 by omega)
   refine SWk.trans (SWk.dropS (fun i=>i==6||i==8) (fun i=>i==8||i==24||i==32) (fun i=>i !=28)) ?_
   have ha:((28,⟨1,3,ints (qDH g (qCe g))⟩)::qAS 1 54 2000 (rsD (wN g+1) fun x=>qBL (qCe g) (cfgV c) x)).filter (fun x:Nat×Arr=>x.1 !=28)=qAS 1 54 2000 (rsD (wN g+1) fun x=>qBL (qCe g) (cfgV c) x):=(List.filter_cons_of_neg Bool.false_ne_true).trans hrf
   rw[ha]
   have hz:=SWk.frzRows (s:=[(6,PV.bv 24 1 (wN g+1)),(8,.ptr 8 0)]) (b1:=[(8,[.bv 32 1 (wN g+1)]),(24,List.replicate (wN g+1) .nil)]) (b2:=[]) (id:=32) (k:=2000) (ty:=54) [] (rsD (wN g+1) fun x=>qBL (qCe g) (cfgV c) x)
    (fun j hj=>by simp only[beq_false_of_ne (show 24≠j by omega),beq_false_of_ne (show 8≠j by omega),push_cast,reduceIte,reduceEqDiff,reduceAdd,reduceSub,reduceMul,Nat.reduceBEq,reduceLT,reduceLeDiff,reduceCtorEq,reduceToNat,reduceNeg,cNI]) (fun j hj=>by simp only[qFr,qin,qim,push_cast,reduceIte,reduceEqDiff,reduceAdd,reduceSub,reduceMul,Nat.reduceBEq,reduceLT,reduceLeDiff,reduceCtorEq,reduceToNat,reduceNeg,cNI]) (fun j hj=>rfl)
   have e1:List.replicate (wN g+1) PV.nil=outC encW (wN g+1) (fun x=>qBy (qBL (qCe g) (cfgV c) x)) 0:=by
    symm
    rw[List.eq_replicate_iff]
    refine⟨qG2 _ _ _,fun b hb=> ?_⟩
    obtain⟨x,_,rfl⟩:=List.mem_map.1 hb
    rfl
   have e2:(rsD (wN g+1) fun x=>qBL (qCe g) (cfgV c) x).map rowP=datC (wN g+1) (fun x=>qBy (qBL (qCe g) (cfgV c) x)):=by
    unfold rsD datC
    rw[List.map_map]
    apply List.map_congr_left
    intro x _
    show rowP (rowO _)=_
    unfold rowO datP
    have:qBy (qBL (qCe g) (cfgV c) x)=[] ↔ qBL (qCe g) (cfgV c) x=[]:=by
     rw[<- List.length_eq_zero_iff,<- List.length_eq_zero_iff,qBA];simp only[nW];omega
    by_cases h:qBL (qCe g) (cfgV c) x=[]
    ·rw[if_pos h,if_pos (this.2 h)];rfl
    ·rw[if_neg h,if_neg fun e=>h (this.1 e)];rfl
   rw[List.nil_append,e2]at hz
   rw[<- e1]
   exact hz
  ·refine sB ?_
   refine⟨fun x hx d hd=> ?_,?_⟩
   ·obtain⟨e,he,rfl⟩:=List.mem_map.1 hx
    obtain⟨y,_,rfl⟩:=List.mem_map.1 he
    obtain rfl:d=_:=by simpa using hd
    split
    ·unfold outP
     split
     ·exact .nil
     ·exact .sl _ _ _ rfl fun x hx c hc => by
       obtain⟨z,_,rfl⟩:=List.mem_map.1 hx
       obtain rfl:c=_:=by simpa[u64C]using hc
       exact .sc _
    ·exact .nil
   ·unfold outC qDl rows
    rw[List.map_map,List.map_map]
    refine qFU _ _ (fun h=>h) (fun _ _=>rfl) fun x hx=> ?_
    have hx:=List.mem_range.1 hx
    show SubL [_] [_]
    simp only[if_pos hx,rowB,qBZ]
    refine⟨?_,trivial⟩
    unfold outP
    split
    ·next h=>
     have h:qBy (qBL (qCe g) (cfgV c) x)=[]:=h
     rw[h];exact .nil _ _
    ·exact .refl _
end Go.Proofs.YtecoaapkcnhlhaaDoor
namespace Go.Proofs.YtecoaapkcnhlhaaDoor
open Go Go.Vc Txt Go.Ham
theorem qGk(a b:List Nat)(ha:a.length<=1000000)(hb:b.length<=1000000):FnEq Tryd.prog 70 [.sl false 1 (rows u64C (nats a)),.sl false 1 (rows u64C (nats b))] (.bool (decide (a=b))):=by
 refine FnEq.of_awp Tryd.func70 ok70 (by show 2<=_;decide) (by simp only[push_cast,reduceIte,reduceEqDiff,reduceAdd,reduceSub,reduceMul,Nat.reduceBEq,reduceLT,reduceLeDiff,reduceCtorEq,reduceToNat,reduceNeg,cNI]<;>first|exact fun _ _=>trivial|simp) ?_
 simp only[ac70,rv70,push_cast,reduceIte,reduceEqDiff,reduceAdd,reduceSub,reduceMul,Nat.reduceBEq,reduceLT,reduceLeDiff,reduceCtorEq,reduceToNat,reduceNeg,cNI]
 simp only[qER]
 refine qnU (fun h=> ?_) fun h=> ?_
 ·rw[decide_eq_false];intro e;exact h (by rw[e])
 have hab:a.length=b.length:=by omega
 refine qoL (fun m st=> ∃k:Nat,k<=a.length/\m=a.length-k/\a.take k=b.take k/\st=⟨[(0,.sl false 1 (rows u64C (nats a))),(1,.sl false 1 (rows u64C (nats b))),(5,.int k)],[],[],[]⟩) a.length ?_ ?_
 ·refine⟨0,by omega,by omega,by simp,?_⟩
  simp only[push_cast,reduceIte,reduceEqDiff,reduceAdd,reduceSub,reduceMul,Nat.reduceBEq,reduceLT,reduceLeDiff,reduceCtorEq,reduceToNat,reduceNeg,cNI]
  try rfl
 ·rintro m st ⟨k,hk,rfl,h1,rfl⟩
  simp only[qER,qEQ,push_cast,reduceIte,reduceEqDiff,reduceAdd,reduceSub,reduceMul,Nat.reduceBEq,reduceLT,reduceLeDiff,reduceCtorEq,reduceToNat,reduceNeg,cNI]
  refine qnU (fun h2=> ?_) fun h2=> ?_
  ·have ka:k<a.length:=by omega
   have kb:k<b.length:=by omega
   have ga:a.getD k default=a[k]:=by simp[ka]
   have gb:b.getD k default=b[k]:=by simp[kb]
   rw[ga,gb]
   refine⟨⟨by omega,by omega⟩,ka,⟨by omega,by omega⟩,kb,qnU (fun h3=> ?_) fun h3=> ?_⟩
   ·rw[decide_eq_false];intro e;subst e;exact h3 rfl
   ·refine⟨⟨by omega,by omega⟩,_,?_,k+1,by omega,rfl,?_,?_⟩
    ·omega
    ·rw[List.take_succ_eq_append_getElem ka,List.take_succ_eq_append_getElem kb,h1,show a[k]=b[k]by omega]
    ·try simp
     try rfl
  ·rw[List.take_of_length_le (by omega),List.take_of_length_le (by omega)]at h1
   rw[decide_eq_true h1]
theorem qGl(a b:List Nat)(ha:a.length<=1000000)(hb:b.length<=1000000):FnEq Tryd.prog 49 [.sl false 1 (rows u64C (nats a)),.sl false 1 (rows u64C (nats b))] (.bool (decide (a=b))):=by
 refine FnEq.of_awp Tryd.func49 ok49 (by show 2<=_;decide) (by simp only[push_cast,reduceIte,reduceEqDiff,reduceAdd,reduceSub,reduceMul,Nat.reduceBEq,reduceLT,reduceLeDiff,reduceCtorEq,reduceToNat,reduceNeg,cNI]<;>first|exact fun _ _=>trivial|simp) ?_
 simp only[ac49,rv49,push_cast,reduceIte,reduceEqDiff,reduceAdd,reduceSub,reduceMul,Nat.reduceBEq,reduceLT,reduceLeDiff,reduceCtorEq,reduceToNat,reduceNeg,cNI]
 simp only[qER]
 refine qnU (fun h=> ?_) fun h=> ?_
 ·rw[decide_eq_false];intro e;exact h (by rw[e])
 have hab:a.length=b.length:=by omega
 refine qoL (fun m st=> ∃k:Nat,k<=a.length/\m=a.length-k/\a.take k=b.take k/\st=⟨[(0,.sl false 1 (rows u64C (nats a))),(1,.sl false 1 (rows u64C (nats b))),(12,.int a.length),(13,.int k)],[],[],[]⟩) a.length ?_ ?_
 ·refine⟨0,by omega,by omega,by simp,?_⟩
  simp only[push_cast,reduceIte,reduceEqDiff,reduceAdd,reduceSub,reduceMul,Nat.reduceBEq,reduceLT,reduceLeDiff,reduceCtorEq,reduceToNat,reduceNeg,cNI]
  try rfl
 ·rintro m st ⟨k,hk,rfl,h1,rfl⟩
  simp only[qER,qEQ,push_cast,reduceIte,reduceEqDiff,reduceAdd,reduceSub,reduceMul,Nat.reduceBEq,reduceLT,reduceLeDiff,reduceCtorEq,reduceToNat,reduceNeg,cNI]
  refine qnU (fun h2=> ?_) fun h2=> ?_
  ·have ka:k<a.length:=by omega
   have kb:k<b.length:=by omega
   have ga:a.getD k default=a[k]:=by simp[ka]
   have gb:b.getD k default=b[k]:=by simp[kb]
   rw[ga,gb]
   refine⟨⟨by omega,by omega⟩,ka,⟨by omega,by omega⟩,kb,qnU (fun h3=> ?_) fun h3=> ?_⟩
   ·rw[decide_eq_false];intro e;subst e;exact h3 rfl
   ·refine⟨⟨by omega,by omega⟩,_,?_,k+1,by omega,rfl,?_,?_⟩
    ·omega
    ·rw[List.take_succ_eq_append_getElem ka,List.take_succ_eq_append_getElem kb,h1,show a[k]=b[k]by omega]
    ·try simp
     try rfl
  ·rw[List.take_of_length_le (by omega),List.take_of_length_le (by omega)]at h1
   rw[decide_eq_true h1]
theorem qGm(a b:List Int)(ha:(a.length:Int)<=1000000)(hb:(b.length:Int)<=1000000):FnEq Tryd.prog 23 [.sl false 1 (ints a),.sl false 1 (ints b)] (.bool (decide (a=b))):=by
 refine FnEq.of_awp Tryd.func23 ok23 (by show 2<=_;decide) (by simp only[push_cast,reduceIte,reduceEqDiff,reduceAdd,reduceSub,reduceMul,Nat.reduceBEq,reduceLT,reduceLeDiff,reduceCtorEq,reduceToNat,reduceNeg,cNI]<;>first|exact fun _ _=>trivial|simp) ?_
 simp only[ac23,rv23,push_cast,reduceIte,reduceEqDiff,reduceAdd,reduceSub,reduceMul,Nat.reduceBEq,reduceLT,reduceLeDiff,reduceCtorEq,reduceToNat,reduceNeg,cNI]
 refine qnU (fun h=> ?_) fun h=> ?_
 ·rw[decide_eq_false];intro e;exact h (by rw[e])
 have hab:a.length=b.length:=by omega
 refine qoL (fun m st=> ∃k:Nat,k<=a.length/\m=a.length-k/\a.take k=b.take k/\st=⟨[(0,.sl false 1 (ints a)),(1,.sl false 1 (ints b)),(5,.int k)],[],[],[]⟩) a.length ?_ ?_
 ·refine⟨0,by omega,by omega,by simp,?_⟩
  exact sC
 ·rintro m st ⟨k,hk,rfl,h1,rfl⟩
  refine sB ?_
  refine qnU (fun h2=> ?_) fun h2=> ?_
  ·have ka:k<a.length:=by omega
   have kb:k<b.length:=by omega
   have ga:a.getD k default=a[k]:=by simp[ka]
   have gb:b.getD k default=b[k]:=by simp[kb]
   rw[ga,gb]
   refine⟨⟨by omega,by omega⟩,ka,⟨by omega,by omega⟩,kb,qnU (fun h3=> ?_) fun h3=> ?_⟩
   ·rw[decide_eq_false];intro e;subst e;exact h3 rfl
   ·refine⟨⟨by omega,by omega⟩,_,?_,k+1,by omega,rfl,?_,?_⟩
    ·omega
    ·rw[List.take_succ_eq_append_getElem ka,List.take_succ_eq_append_getElem kb,h1,Classical.not_not.1 h3]
    ·simp
  ·rw[List.take_of_length_le (by omega),List.take_of_length_le (by omega)]at h1
   rw[decide_eq_true h1]
def difB(a b:List (List Nat))(i:Nat):Bool:=decide (a.length<=i)||decide (b.length<=i)|| !decide (a.getD i default=b.getD i default)
def difN(a b:List (List Nat))(k:Nat):List Int:=((List.range k).filter (difB a b)).map fun i:Nat=>(i:Int)
def qGn(a b:List (List Nat)):List Int:=difN a b (max a.length b.length)
theorem qGo(a b:List (List Nat))(k:Nat):difN a b (k+1)=if difB a b k then difN a b k++[(k:Int)]else difN a b k:=by
 unfold difN
 rw[List.range_succ,List.filter_append,List.map_append]
 cases h:difB a b k<;>simp[h]
theorem qGp(a b:List (List Nat))(k:Nat):(difN a b k).length<=k:=by
 unfold difN;rw[List.length_map];exact Nat.le_trans (List.length_filter_le _ _) (by simp)
theorem qGq{l:List (List Nat)}(h:FrmSm l){k:Nat}(hk:k<l.length):(l.getD k default).length<=1000:=h.len _ (by simp[List.getD_eq_getElem?_getD,hk])
theorem qGr(a b:List (List Nat))(ha:FrmSm a)(hb:FrmSm b):FnEq Tryd.prog 45 [.sl false 1 (rows (frmC false) a),.sl false 1 (rows (frmC false) b)] (.sl true 1 (ints (qGn a b))):=by
 have ha1:=ha.n
 have hb1:=hb.n
 refine FnEq.of_awp Tryd.func45 ok45 (by show 2<=_;decide) (by simp only[push_cast,reduceIte,reduceEqDiff,reduceAdd,reduceSub,reduceMul,Nat.reduceBEq,reduceLT,reduceLeDiff,reduceCtorEq,reduceToNat,reduceNeg,cNI]<;>first|exact fun _ _=>trivial|simp) ?_
 simp only[ac45,rv45,push_cast,reduceIte,reduceEqDiff,reduceAdd,reduceSub,reduceMul,Nat.reduceBEq,reduceLT,reduceLeDiff,reduceCtorEq,reduceToNat,reduceNeg,cNI]
 refine qoL (fun m st=> ∃k:Nat,k<=max a.length b.length/\m=max a.length b.length-k/\st=⟨[(0,.sl false 1 (rows (frmC false) a)),(1,.sl false 1 (rows (frmC false) b)),(5,.view 7 0 (difN a b k).length),(6,.int k)],[],[(7,⟨1,3,ints (difN a b k)⟩)],[]⟩) (max a.length b.length) ?_ ?_
 ·refine⟨0,by omega,by omega,?_⟩
  refine sB ?_
  rfl
 rintro m st ⟨k,hk,rfl,rfl⟩
 have hdl:=qGp a b k
 refine sB ?_
 refine qrD ⟨[(0,.sl false 1 (rows (frmC false) a)),(1,.sl false 1 (rows (frmC false) b)),(5,.view 7 0 (difN a b k).length),(6,.int k),(17,.bool (decide (k<max a.length b.length)))],[],[(7,⟨1,3,ints (difN a b k)⟩)],[]⟩ ?_ ?_
 ·refine qrw rfl (fun h1=> ?_) fun h1=> ?_<;>simp only[push_cast,reduceIte,reduceEqDiff,reduceAdd,reduceSub,reduceMul,Nat.reduceBEq,reduceLT,reduceLeDiff,reduceCtorEq,reduceToNat,reduceNeg,cNI]
  ·rw[decide_eq_true (show k<max a.length b.length by omega)]
  ·rw[decide_eq_decide.2 (show((k:Int)<b.length ↔ k<max a.length b.length)by omega)]
 refine sB ?_
 refine qnU (fun h=> ?_) fun h=> ?_
 ·refine qrE ⟨[(0,.sl false 1 (rows (frmC false) a)),(1,.sl false 1 (rows (frmC false) b)),(5,.view 7 0 (difN a b k).length),(6,.int k),(43,.bool (difB a b k))],[],[(7,⟨1,3,ints (difN a b k)⟩)],[]⟩ ?_ ?_
  ·refine qrA rfl (fun h1=> ?_) fun h1=> ?_<;>simp only[push_cast,reduceIte,reduceEqDiff,reduceAdd,reduceSub,reduceMul,Nat.reduceBEq,reduceLT,reduceLeDiff,reduceCtorEq,reduceToNat,reduceNeg,cNI]
   ·rw[show difB a b k=true from by unfold difB;rw[decide_eq_true (show a.length<=k by omega)];rfl]
    try rfl
   ·have ka:k<a.length:=by omega
    refine qrA rfl (fun h2=> ?_) fun h2=> ?_<;>simp only[push_cast,reduceIte,reduceEqDiff,reduceAdd,reduceSub,reduceMul,Nat.reduceBEq,reduceLT,reduceLeDiff,reduceCtorEq,reduceToNat,reduceNeg,cNI]
    ·rw[show difB a b k=true from by unfold difB;rw[decide_eq_true (show b.length<=k by omega)];simp]
     try rfl
    ·have kb:k<b.length:=by omega
     have la:=qGq ha ka
     have lb:=qGq hb kb
     have hd:difB a b k= !decide (a.getD k default=b.getD k default):=by
      unfold difB
      rw[decide_eq_false (show ¬a.length<=k by omega),decide_eq_false (show ¬b.length<=k by omega)]
      simp
     rw[hd]
     refine⟨⟨by omega,by omega⟩,ka,⟨by omega,by omega⟩,kb,?_⟩
     refine qrr (qGk (a.getD k default) (b.getD k default) (by omega) (by omega)) sC ?_
     simp only[push_cast,reduceIte,reduceEqDiff,reduceAdd,reduceSub,reduceMul,Nat.reduceBEq,reduceLT,reduceLeDiff,reduceCtorEq,reduceToNat,reduceNeg,cNI]
     done
  simp only[rep1,List.set_cons_zero,List.length_cons,List.length_nil,push_cast,reduceIte,reduceEqDiff,reduceAdd,reduceSub,reduceMul,Nat.reduceBEq,reduceLT,reduceLeDiff,reduceCtorEq,reduceToNat,reduceNeg,cNI]
  refine qnT (fun h1=> ?_) fun h1=> ?_
  ·refine⟨⟨by omega,by omega⟩,⟨by omega,by omega⟩,max a.length b.length-(k+1),by omega,k+1,by omega,rfl,?_⟩
   rw[qGo,if_pos h1,List.length_append]
   rfl
  ·refine⟨⟨by omega,by omega⟩,max a.length b.length-(k+1),by omega,k+1,by omega,rfl,?_⟩
   rw[qGo,if_neg (by rw[h1];decide)]
   rfl
 ·rw[show k=max a.length b.length by omega]
  exact⟨fun _ _=>trivial,.refl _⟩
end Go.Proofs.YtecoaapkcnhlhaaDoor
namespace Go.Proofs.YtecoaapkcnhlhaaDoor
open Go Go.Vc Txt Go.Ham
theorem qGs(a b:List (List Nat)):qGn a b=[] ↔ a=b:=by
 constructor
 ·intro h
  have key: ∀i,i<max a.length b.length->difB a b i=false:=fun i hi=>by
   cases hd:difB a b i
   ·rfl
   ·exfalso
    have:(i:Int)∈qGn a b:=by
     unfold qGn difN
     rw[List.mem_map]
     exact⟨i,List.mem_filter.2 ⟨List.mem_range.2 hi,hd⟩,rfl⟩
    rw[h]at this;cases this
  have hlen:a.length=b.length:=by
   apply Classical.byContradiction
   intro hn
   have h1:=key (min a.length b.length) (by omega)
   unfold difB at h1
   rw[Bool.or_eq_false_iff,Bool.or_eq_false_iff]at h1
   have h2:=h1.1.1
   have h3:=h1.1.2
   simp at h2 h3
   omega
  apply List.ext_getElem hlen
  intro i h1 h2
  have h3:=key i (by omega)
  unfold difB at h3
  rw[Bool.or_eq_false_iff]at h3
  have h4:=h3.2
  rw[Bool.not_eq_false',decide_eq_true_eq]at h4
  simpa[List.getD_eq_getElem?_getD,h1,h2]using h4
 ·rintro rfl
  unfold qGn difN
  have:(List.range (max a.length a.length)).filter (difB a a)=[]:=by
   rw[List.filter_eq_nil_iff]
   intro i hi
   have:=List.mem_range.1 hi
   unfold difB
   rw[decide_eq_false (show ¬a.length<=i by omega)]
   simp
  rw[this];rfl
theorem qGt(a b:List (List Nat))(ha:FrmSm a)(hb:FrmSm b):FnEq Tryd.prog 22 [.sl false 1 (rows (frmC false) a),.sl false 1 (rows (frmC false) b)] (.bool (decide (a=b))):=by
 refine FnEq.of_awp Tryd.func22 ok22 (by show 2<=_;decide) (by simp only[push_cast,reduceIte,reduceEqDiff,reduceAdd,reduceSub,reduceMul,Nat.reduceBEq,reduceLT,reduceLeDiff,reduceCtorEq,reduceToNat,reduceNeg,cNI]<;>first|exact fun _ _=>trivial|simp) ?_
 simp only[ac22,rv22,push_cast,reduceIte,reduceEqDiff,reduceAdd,reduceSub,reduceMul,Nat.reduceBEq,reduceLT,reduceLeDiff,reduceCtorEq,reduceToNat,reduceNeg,cNI]
 refine qrr (qGr a b ha hb) sC ?_
 refine sB ?_
 have e:decide ((qGn a b).length=(0:Int))=decide (a=b):=decide_eq_decide.2 (by rw[<- qGs];exact⟨fun h=>List.length_eq_zero_iff.1 (by omega),fun h=>by rw[h];rfl⟩)
 rw[e]
def nlS(id:Nat)(l:List Int):PV:=match l with|[]=> .nil|_::_=> .view id 0 l.length
def nlA(id ty:Nat)(l:List Int):List (Nat×Arr):=match l with|[]=>[]|_::_=>[(id,⟨1,ty,ints l⟩)]
theorem qGu(id:Nat):nlS id []= .nil:=rfl
theorem qGv(id:Nat)(y:Int)(l:List Int):nlS id (y::l)= .view id 0 (l.length+1):=rfl
theorem qGw(id ty:Nat):nlA id ty []=[]:=rfl
theorem qGx(id ty:Nat)(y:Int)(l:List Int):nlA id ty (y::l)=[(id,⟨1,ty,ints (y::l)⟩)]:=rfl
set_option maxHeartbeats 1000000 in
theorem qGy(a b:List (List Nat))(ha:FrmSm a)(hb:FrmSm b):FnEq Tryd.prog 27 [.sl false 1 (rows (frmC false) a),.sl false 1 (rows (frmC false) b)] (.sl true 1 (ints (qGn a b))):=by
 have ha1:=ha.n
 have hb1:=hb.n
 refine FnEq.of_awp Tryd.func27 ok27 (by show 2<=_;decide) (by simp only[push_cast,reduceIte,reduceEqDiff,reduceAdd,reduceSub,reduceMul,Nat.reduceBEq,reduceLT,reduceLeDiff,reduceCtorEq,reduceToNat,reduceNeg,cNI]<;>first|exact fun _ _=>trivial|simp) ?_
 simp only[ac27,rv27,push_cast,reduceIte,reduceEqDiff,reduceAdd,reduceSub,reduceMul,Nat.reduceBEq,reduceLT,reduceLeDiff,reduceCtorEq,reduceToNat,reduceNeg,cNI]
 refine qoL (fun m st=> ∃k:Nat,k<=max a.length b.length/\m=max a.length b.length-k/\st=⟨[(0,.sl false 1 (rows (frmC false) a)),(1,.sl false 1 (rows (frmC false) b)),(5,nlS 42 (difN a b k)),(11,.int (max (a.length:Int) b.length)),(12,.int k)],[],nlA 42 3 (difN a b k),[]⟩) (max a.length b.length) ?_ ?_
 ·refine⟨0,by omega,by omega,?_⟩
  refine sB ?_
  rfl
 rintro m st ⟨k,hk,rfl,rfl⟩
 have hdl:=qGp a b k
 have hds:=qGo a b k
 cases hD:difN a b k with
 |nil=>
   rw[hD]at hds hdl
   simp only[qGu,qGw,push_cast,reduceIte,reduceEqDiff,reduceAdd,reduceSub,reduceMul,Nat.reduceBEq,reduceLT,reduceLeDiff,reduceCtorEq,reduceToNat,reduceNeg,cNI]
   refine qnU (fun h=> ?_) fun h=> ?_
   ·refine qrE ⟨[(0,.sl false 1 (rows (frmC false) a)),(1,.sl false 1 (rows (frmC false) b)),(5,.nil),(6,.int k),(11,.int (max (a.length:Int) b.length)),(12,.int k),(38,.bool (difB a b k))],[],[],[]⟩ ?_ ?_
    ·refine qrA rfl (fun h1=> ?_) fun h1=> ?_<;>simp only[push_cast,reduceIte,reduceEqDiff,reduceAdd,reduceSub,reduceMul,Nat.reduceBEq,reduceLT,reduceLeDiff,reduceCtorEq,reduceToNat,reduceNeg,cNI]
     ·rw[show difB a b k=true from by unfold difB;rw[decide_eq_true (show a.length<=k by omega)];rfl]
      try rfl
     ·have ka:k<a.length:=by omega
      refine qrA rfl (fun h2=> ?_) fun h2=> ?_<;>simp only[push_cast,reduceIte,reduceEqDiff,reduceAdd,reduceSub,reduceMul,Nat.reduceBEq,reduceLT,reduceLeDiff,reduceCtorEq,reduceToNat,reduceNeg,cNI]
      ·rw[show difB a b k=true from by unfold difB;rw[decide_eq_true (show b.length<=k by omega)];simp]
       try rfl
      ·have kb:k<b.length:=by omega
       have la:=qGq ha ka
       have lb:=qGq hb kb
       have hd:difB a b k= !decide (a.getD k default=b.getD k default):=by
        unfold difB
        rw[decide_eq_false (show ¬a.length<=k by omega),decide_eq_false (show ¬b.length<=k by omega)]
        simp
       rw[hd]
       refine⟨⟨by omega,by omega⟩,ka,⟨by omega,by omega⟩,kb,?_⟩
       refine qrr (qGl (a.getD k default) (b.getD k default) (by omega) (by omega)) sC ?_
       exact sC
    simp only[rep1,List.set_cons_zero,List.length_cons,List.length_nil,push_cast,reduceIte,reduceEqDiff,reduceAdd,reduceSub,reduceMul,Nat.reduceBEq,reduceLT,reduceLeDiff,reduceCtorEq,reduceToNat,reduceNeg,cNI]
    refine qnT (fun h1=> ?_) fun h1=> ?_
    ·rw[if_pos h1]at hds
     refine⟨⟨by omega,by omega⟩,max a.length b.length-(k+1),by omega,k+1,by omega,rfl,?_⟩
     rw[hds]
     rfl
    ·rw[if_neg (by rw[h1];decide)]at hds
     refine⟨⟨by omega,by omega⟩,max a.length b.length-(k+1),by omega,k+1,by omega,rfl,?_⟩
     rw[hds]
     rfl
   ·rw[show k=max a.length b.length by omega]at hD
    have hD:qGn a b=[]:=hD
    rw[hD]
 |cons y l=>
   rw[hD]at hds hdl
   rw[List.length_cons]at hdl
   simp only[qGv,qGx,push_cast,reduceIte,reduceEqDiff,reduceAdd,reduceSub,reduceMul,Nat.reduceBEq,reduceLT,reduceLeDiff,reduceCtorEq,reduceToNat,reduceNeg,cNI]
   refine qnU (fun h=> ?_) fun h=> ?_
   ·refine qrE ⟨[(0,.sl false 1 (rows (frmC false) a)),(1,.sl false 1 (rows (frmC false) b)),(5,.view 42 0 (l.length+1)),(6,.int k),(11,.int (max (a.length:Int) b.length)),(12,.int k),(38,.bool (difB a b k))],[],[(42,⟨1,3,ints (y::l)⟩)],[]⟩ ?_ ?_
    ·refine qrA rfl (fun h1=> ?_) fun h1=> ?_<;>simp only[push_cast,reduceIte,reduceEqDiff,reduceAdd,reduceSub,reduceMul,Nat.reduceBEq,reduceLT,reduceLeDiff,reduceCtorEq,reduceToNat,reduceNeg,cNI]
     ·rw[show difB a b k=true from by unfold difB;rw[decide_eq_true (show a.length<=k by omega)];rfl]
      try rfl
     ·have ka:k<a.length:=by omega
      refine qrA rfl (fun h2=> ?_) fun h2=> ?_<;>simp only[push_cast,reduceIte,reduceEqDiff,reduceAdd,reduceSub,reduceMul,Nat.reduceBEq,reduceLT,reduceLeDiff,reduceCtorEq,reduceToNat,reduceNeg,cNI]
      ·rw[show difB a b k=true from by unfold difB;rw[decide_eq_true (show b.length<=k by omega)];simp]
       try rfl
      ·have kb:k<b.length:=by omega
       have la:=qGq ha ka
       have lb:=qGq hb kb
       have hd:difB a b k= !decide (a.getD k default=b.getD k default):=by
        unfold difB
        rw[decide_eq_false (show ¬a.length<=k by omega),decide_eq_false (show ¬b.length<=k by omega)]
        simp
       rw[hd]
       refine⟨⟨by omega,by omega⟩,ka,⟨by omega,by omega⟩,kb,?_⟩
       refine qrr (qGl (a.getD k default) (b.getD k default) (by omega) (by omega)) sC ?_
       exact sC
    simp only[rep1,List.set_cons_zero,List.length_cons,List.length_nil,push_cast,reduceIte,reduceEqDiff,reduceAdd,reduceSub,reduceMul,Nat.reduceBEq,reduceLT,reduceLeDiff,reduceCtorEq,reduceToNat,reduceNeg,cNI]
    refine qnT (fun h1=> ?_) fun h1=> ?_
    ·rw[if_pos h1]at hds
     refine⟨⟨by omega,by omega⟩,⟨by omega,by omega⟩,max a.length b.length-(k+1),by omega,k+1,by omega,rfl,?_⟩
     rw[hds]
     rw[List.cons_append]
     simp only[nlS,nlA,List.length_cons,List.length_append,List.length_nil]
     rfl
    ·rw[if_neg (by rw[h1];decide)]at hds
     refine⟨⟨by omega,by omega⟩,max a.length b.length-(k+1),by omega,k+1,by omega,rfl,?_⟩
     rw[hds]
     rfl
   ·rw[show k=max a.length b.length by omega]at hD
    have hD:qGn a b=y::l:=hD
    rw[hD]
    rw[List.take_of_length_le (by simp)]
    exact⟨fun _ _=>trivial,.refl _⟩
end Go.Proofs.YtecoaapkcnhlhaaDoor
namespace Go.Proofs.YtecoaapkcnhlhaaDoor
open Go Go.Vc Txt Go.Ham
def spC(x:Nat×Nat):List PV:=[.int (x.1:Nat),.int (x.2:Nat)]
@[push_cast] theorem qGz(x:Nat×Nat):spC x=[.int (x.1:Nat),.int (x.2:Nat)]:=rfl
def qGA(l:List (List Nat))(i:Nat):List (Nat×Nat):=(List.range (l.getD i default).length).map fun k=>(i,k)
def qGB(l:List (List Nat))(k:Nat):List (Nat×Nat):=(List.range k).flatMap (qGA l)
def qGC(l:List (List Nat)):List (Nat×Nat):=qGB l l.length
theorem qGD(l:List (List Nat))(k:Nat):qGB l (k+1)=qGB l k++qGA l k:=by simp[qGB,List.range_succ]
def qGH(l:List (List Nat)):List Int:=l.map fun ws=>(ws.length:Int)
theorem qGI(f:List Nat)(hf:f.length<=1000)(n:Int):FnEq Tryd.prog 55 [.agg (frmC false f),.int n] (.bool (decide ((f.length:Int)=n))):=by
 refine FnEq.of_awp Tryd.func55 ok55 (by show 2<=_;decide) (by simp only[push_cast,reduceIte,reduceEqDiff,reduceAdd,reduceSub,reduceMul,Nat.reduceBEq,reduceLT,reduceLeDiff,reduceCtorEq,reduceToNat,reduceNeg,cNI]<;>first|exact fun _ _=>trivial|simp) ?_
 simp only[ac55,rv55,push_cast,reduceIte,reduceEqDiff,reduceAdd,reduceSub,reduceMul,Nat.reduceBEq,reduceLT,reduceLeDiff,reduceCtorEq,reduceToNat,reduceNeg,cNI]
 simp only[qER]
theorem qGJ(l:List (List Nat)){k:Nat}(h:k<l.length):(qGH l).getD k default=((l.getD k default).length:Int):=by
 simp[qGH,List.getD_eq_getElem?_getD,h]
theorem qGK(l:List (List Nat))(hl:FrmSm l)(n:List Int)(hn:n.length<=1000000):FnEq Tryd.prog 54 [.sl false 1 (rows (frmC false) l),.sl false 1 (ints n),.sc (.func (.func 55) #[] #[])] (.bool (decide (qGH l=n))):=by
 have h1:=hl.n
 have hll:(qGH l).length=l.length:=by simp[qGH]
 refine FnEq.of_awp Tryd.func54 ok54 (by show 3<=_;decide) (by simp only[push_cast,reduceIte,reduceEqDiff,reduceAdd,reduceSub,reduceMul,Nat.reduceBEq,reduceLT,reduceLeDiff,reduceCtorEq,reduceToNat,reduceNeg,cNI]<;>first|exact fun _ _=>trivial|simp) ?_
 simp only[ac54,rv54,push_cast,reduceIte,reduceEqDiff,reduceAdd,reduceSub,reduceMul,Nat.reduceBEq,reduceLT,reduceLeDiff,reduceCtorEq,reduceToNat,reduceNeg,cNI]
 refine qnU (fun h=> ?_) fun h=> ?_
 ·rw[decide_eq_false];intro e;apply h;rw[<- e,hll]
 refine qoL (fun m st=> ∃k:Nat,k<=l.length/\m=l.length-k/\(qGH l).take k=n.take k/\st=⟨[(1,.sl false 1 (ints n)),(2,.sc (.func (.func 55) #[] #[])),(15,.sl false 1 (rows (frmC false) l)),(16,.int l.length),(17,.int k)],[],[],[]⟩) l.length ⟨0,by omega,by omega,by simp,?_⟩ ?_
 ·simp only[push_cast,reduceIte,reduceEqDiff,reduceAdd,reduceSub,reduceMul,Nat.reduceBEq,reduceLT,reduceLeDiff,reduceCtorEq,reduceToNat,reduceNeg,cNI]
  try rfl
 rintro m st ⟨k,hk,rfl,hT,rfl⟩
 refine sB ?_
 refine qnU (fun h2=> ?_) fun h2=> ?_
 ·have hw:=qGq hl (show k<l.length by omega)
  refine⟨⟨by omega,by omega⟩,by omega,⟨by omega,by omega⟩,by omega,?_⟩
  refine qsL (FnM.of_ok (by kernel_rfl) (show FnOK _ _ _ _ from qGI (l.getD k default) (by omega) (n.getD k default)) fun r hr=>⟨hr,rfl⟩) ?_
  refine sB ?_
  have hk1:k<(qGH l).length:=by omega
  have hk2:k<n.length:=by omega
  have hg1:(qGH l)[k]=((l.getD k default).length:Int):=by
   rw[<- qGJ l (by omega)];simp[List.getD_eq_getElem?_getD,hk1]
  have hg2:n.getD k default=n[k]:=by simp[List.getD_eq_getElem?_getD,hk2]
  refine qnT (fun h3=> ?_) fun h3=> ?_
  ·have h4: ¬((l.getD k default).length:Int)=n.getD k default:=by simpa using h3
   rw[decide_eq_false]
   intro e
   apply h4
   rw[hg2,<- hg1]
   simp[e]
  ·have h4:((l.getD k default).length:Int)=n.getD k default:=by simpa using h3
   refine⟨⟨by omega,by omega⟩,l.length-(k+1),by omega,k+1,by omega,rfl,?_,?_⟩
   ·rw[List.take_succ_eq_append_getElem hk1,List.take_succ_eq_append_getElem hk2,hT,hg1,h4,hg2]
   ·exact sC
 ·rw[List.take_of_length_le (by omega),List.take_of_length_le (by omega)]at hT
  rw[decide_eq_true hT]
end Go.Proofs.YtecoaapkcnhlhaaDoor
namespace Go.Proofs.YtecoaapkcnhlhaaDoor.Txt
open Go Go.Vc
set_option maxRecDepth 100000
def ac68_2500:AC:=
 (.seq (.reg [2500,37,2500] [
 (aO 2502 (.mv (.c (.nil))))])
 (.seq (.reg [2500,37,2500] [
 (aO 2505 (.mv (.t 2500))),(aO 2506 (.len (.t 2505))),(aO 2507 (.xo (.mkx 24 (.nil)) [(.t 2506)])),(aO 2503 (.mv (.t 2507)))])
 (.seq (.seq (.reg [2500,37,2500,2503] [
 (aO 2508 (.mv (.t 2500))),(aO 2509 (.len (.t 2508))),(aO 2510 (.mv (kI 0)))])
 (.block 0
 (.lps [2500,37,2500,2503,2509,2510]
 (.seq (.reg [2500,37,2500,2503,2509,2510] [
 (aO 2511 (.cmp .lss .i64 (.t 2510) (.t 2509)))])
 (.seq (.cond (.t 2511)
 .skip
 (.exit 0))
 (.seq (.block 1
 (.seq (.reg [2500,37,2500,2503,2509,2510] [
 (aO 2512 (.mv (.t 2510))),(aO 2504 (.mv (.t 2512)))])
 (.seq (.reg [2500,37,2500,2503,2504,2509,2510] [
 (aO 2513 (.mv (.t 2503))),(aO 2514 (.mv (.t 2504))),(aO 2515 (.mv (.t 2500))),(aO 2516 (.mv (.t 2504))),(aO 2517 (.ixs 1 (.t 2515) (.t 2516))),(aO 2518 (.fa 0 (.t 2517))),(aO 2519 (.ld false 1 (.t 2518))),(aO 2520 (.len (.t 2519))),(aO 2521 (.mks 1 54 8 [.sc (.int .u64 0)] (.t 2520) (.t 2520))),(aO 2522 (.ixs 1 (.t 2513) (.t 2514))),(aO 2523 (.fa 0 (.t 2522))),(aN (.sto 1 (.t 2523) (.t 2521)))])
 (.drw [2500,37,2500,2503,2504,2509,2510] [
 (eT 2524 (.mv (.t 2503))),(eT 2525 (.mv (.t 2504))),(eT 2526 (.ixs 1 (.t 2524) (.t 2525))),(eT 2527 (.fa 0 (.t 2526))),(eT 2528 (.ld false 1 (.t 2527))),(eT 2529 (.mv (.t 2500))),(eT 2530 (.mv (.t 2504))),(eT 2531 (.ixs 1 (.t 2529) (.t 2530))),(eT 2532 (.fa 0 (.t 2531))),(eT 2533 (.ld false 1 (.t 2532))),(eF 2534 (.cpy 1 (.t 2528) (.t 2533)))]))))
 (.reg [2500,37,2500,2503,2509,2510] [
 (aO 2535 (.ari .add true .i64 (.t 2510) (kI 1))),(aO 2510 (.mv (.t 2535)))])))))))
 (.seq (.reg [2500,37,2503] [
 (aO 2536 (.mv (.t 2503))),(aO 2502 (.mv (.t 2536)))])
 .ret))))
def rv68_2500:List RV:=[.tmp 2502]
theorem ok68_2500:qh3 Tryd.prog 2500 ac68_2500 rv68_2500 Tryd.f68=true:=by kernel_rfl

def ac44_r9:AC:=
 (.seq (.seq (.reg [0,52,5,6,7,8,9,10,16,17] [
 (aO 20 (.mv (.t 5))),(aO 21 (.mv (.t 9))),(aO 22 (.ixs 1 (.t 20) (.t 21))),(aO 23 (.fa 0 (.t 22))),(aO 24 (.ld false 1 (.t 23))),(aO 25 (.len (.t 24))),(aO 26 (.mv (kI 0)))])
 (.block 2
 (.lps [0,52,5,6,7,8,9,10,16,17,25,26]
 (.seq (.reg [0,52,5,6,7,8,9,10,16,17,25,26] [
 (aO 27 (.cmp .lss .i64 (.t 26) (.t 25)))])
 (.seq (.cond (.t 27)
 .skip
 (.exit 2))
 (.seq (.block 3
 (.seq (.reg [0,52,5,6,7,8,9,10,16,17,25,26] [
 (aO 28 (.mv (.t 26))),(aO 11 (.mv (.t 28)))])
 (.reg [0,52,5,6,7,8,9,10,11,16,17,25,26] [
 (aO 29 (.mv (.t 8))),(aO 30 (.mv (.t 5))),(aO 31 (.mv (.t 9))),(aO 32 (.ixs 1 (.t 30) (.t 31))),(aO 33 (.fa 0 (.t 32))),(aO 34 (.ld false 1 (.t 33))),(aO 35 (.mv (.t 11))),(aO 36 (.ixs 1 (.t 34) (.t 35))),(aO 37 (.clv (.t 29) [(.t 36)])),(aO 38 (.mv (.t 37))),⟨some 39,some (38,true),.mv (.t 10)⟩,(aO 40 (.pick (.t 38) (.t 39) (.c (.sc (.bool false))))),(aO 10 (.mv (.t 40)))])))
 (.reg [0,52,5,6,7,8,9,10,16,17,25,26] [
 (aO 41 (.ari .add true .i64 (.t 26) (kI 1))),(aO 26 (.mv (.t 41)))])))))))
 (.seq (.reg [0,52,5,6,7,8,9,10,16,17] [
 (aO 42 (.mv (.t 10))),(aO 43 (.not (.t 42)))])
 (.cond (.t 43)
 (.reg [0,52,5,6,7,8,9,16,17] [
 (aO 44 (.mv (.t 7))),(aO 45 (.mv (.t 9))),(aO 46 (.bsl 1 3 [zI] 1 [(0,(.t 45))])),(aO 47 (.app 1 3 8 (.t 44) (.t 46))),(aO 7 (.mv (.t 47)))])
 .skip)))
def ac44_r5:AC:=
 (.seq (.seq (.reg [0,52,5,6,7,8] [
 (aO 15 (.mv (.t 5))),(aO 16 (.len (.t 15))),(aO 17 (.mv (kI 0)))])
 (.block 0
 (.lps [0,52,5,6,7,8,16,17]
 (.seq (.reg [0,52,5,6,7,8,16,17] [
 (aO 18 (.cmp .lss .i64 (.t 17) (.t 16)))])
 (.seq (.cond (.t 18)
 .skip
 (.exit 0))
 (.seq (.block 1
 (.seq (.reg [0,52,5,6,7,8,16,17] [
 (aO 19 (.mv (.t 17))),(aO 9 (.mv (.t 19)))])
 (.seq (.reg [0,52,5,6,7,8,9,16,17] [
 (aO 10 (.mv (.c (.sc (.bool true)))))])
 ac44_r9)))
 (.reg [0,52,5,6,7,8,16,17] [
 (aO 48 (.ari .add true .i64 (.t 17) (kI 1))),(aO 17 (.mv (.t 48)))])))))))
 (.seq (.wk (.drw [0,52,5,6,7] [
 (eT 49 (.mv (.t 5))),(eT 50 (.ld false 1 (.t 6))),(eT 51 (.mv (.t 7))),(eT 2 (.mv (.t 49))),(eT 3 (.mv (.t 50))),(eF 4 (.mv (.t 51)))]))
 .ret))
def ac44:AC:=
 (.seq (.reg [0,52,0] [
 (aO 2 (.mv (.c (.nil)))),(aO 3 (.mv (kI 0))),(aO 4 (.mv (.c (.nil))))])
 (.seq (.reg [0,52,0] [
 (aO 12 (.mv (.t 0))),(aO 13 (.clm 68 [(.t 12)])),(aO 5 (.mv (.t 13)))])
 (.seq (.reg [0,52,5] [
 (aO 6 (.alc [zI])),(aN (.sto 1 (.t 6) (kI 0)))])
 (.seq (.reg [0,52,5,6] [
 (aO 7 (.mv (.c (.nil))))])
 (.seq (.reg [0,52,5,6,7] [
 (aO 14 (.mkf 69 [(.t 6)])),(aO 8 (.mv (.t 14)))])
 ac44_r5)))))
def rv44:List RV:=[.tmp 2,.tmp 3,.tmp 4]
theorem ok44:fnOk Tryd.prog ac44 rv44 Tryd.f44=true:=by kernel_rfl

def ac69_1000:AC:=
 (.seq (.reg [1000,27,1000,1001] [
 (aO 1003 (.mv (.c (.sc (.bool false)))))])
 (.seq (.reg [1000,27,1000,1001] [
 (aO 1008 (.mv (.t 1000))),(aO 1009 (.nck (.t 1008))),(aO 1010 (.ld false 1 (.t 1009))),(aO 1011 (.cal 25 [(.t 1010)])),(aO 1007 (.mv (.t 1011))),(aO 1012 (.ext (.t 1007) 0)),(aO 1013 (.ext (.t 1007) 1)),(aO 1014 (.ext (.t 1007) 2)),(aO 1004 (.mv (.t 1012))),(aO 1005 (.mv (.t 1013))),(aO 1006 (.mv (.t 1014)))])
 (.seq (.seq (.reg [1000,27,1000,1001,1004,1005,1006] [
 (aO 1015 (.mv (.t 1006))),(aO 1016 (.cmp .neq .i64 (.t 1015) (kI 0)))])
 (.cond (.t 1016)
 (.seq (.reg [1000,27] [
 (aO 1003 (.mv (.c (.sc (.bool false)))))])
 .ret)
 .skip))
 (.seq (.reg [1000,27,1000,1001,1004,1005] [
 (aO 1017 (.ld false 1 (.t 1001))),(aO 1018 (.mv (.t 1005))),(aO 1019 (.ari .add true .i64 (.t 1017) (.t 1018))),(aN (.sto 1 (.t 1001) (.t 1019)))])
 (.seq (.reg [1000,27,1000,1004] [
 (aO 1021 (.mv (.t 1000))),(aO 1022 (.mv (.t 1004))),(aO 1023 (.cal 26 [(.t 1022)])),(aO 1020 (.mv (.t 1023))),(aO 1024 (.ext (.t 1020) 0)),(aO 1025 (.ext (.t 1020) 1)),(aO 1026 (.nck (.t 1021))),(aN (.sto 1 (.t 1026) (.t 1024)))])
 (.seq (.reg [1000,27] [
 (aO 1003 (.mv (.c (.sc (.bool true)))))])
 .ret))))))
def rv69_1000:List RV:=[.tmp 1003]
theorem ok69_1000:qh3 Tryd.prog 1000 ac69_1000 rv69_1000 Tryd.f69=true:=by kernel_rfl

def ac43_r4:AC:=
 (.seq (.drw [0,62,3,6] [
 (eT 46 (.mv (.t 6))),(eT 47 (.fa 0 (.t 3))),(eT 48 (.ld false 1 (.t 47))),(eT 49 (.ixs 1 (.t 46) (.t 48))),(eT 50 (.fa 0 (.t 49))),(eT 51 (.ld false 1 (.t 50))),(eT 52 (.fa 1 (.t 3))),(eT 53 (.ld false 1 (.t 52))),(eT 54 (.ixs 1 (.t 51) (.t 53))),(eT 55 (.ld false 1 (.t 54))),(eT 56 (.fa 2 (.t 3))),(eT 57 (.ld false 1 (.t 56))),(eT 58 (.shf .shl .u64 (.c (.sc (.int .u64 1))) (.t 57))),(eF 59 (.bit .xor .u64 (.t 55) (.t 58))),(eF 60 (.ixs 1 (.t 51) (.t 53))),⟨(aN (.sto 1 (.t 60) (.t 59))),[],[],false⟩])
 (.seq (.wk (.reg [0,62,6] [
 (aO 61 (.mv (.t 6))),(aO 4 (.mv (.t 61))),(aO 5 (.mv (kI 0)))]))
 .ret))
def ac43_r3:AC:=
 (.seq (.reg [0,62,0,3] [
 (aO 44 (.mv (.t 0))),(aO 45 (.clm 68 [(.t 44)])),(aO 6 (.mv (.t 45)))])
 ac43_r4)
def ac43:AC:=
 (.seq (.reg [0,62,0,1] [
 (aO 3 (.box (.t 1))),(aO 4 (.mv (.c (.nil)))),(aO 5 (.mv (kI 0)))])
 (.seq (.seq (.drw [0,62,0,3] [
 (eF 7 (.fa 0 (.t 3))),(eF 8 (.ld false 1 (.t 7))),(eF 9 (.cmp .lss .i64 (.t 8) (kI 0))),(eF 10 (.mv (.t 9))),⟨⟨some 11,some (10,false),.fa 0 (.t 3)⟩,[],[],true⟩,⟨⟨some 12,some (10,false),.ld false 1 (.t 11)⟩,[],[],true⟩,⟨⟨some 13,some (10,false),.mv (.t 0)⟩,[],[],true⟩,⟨⟨some 14,some (10,false),.len (.t 13)⟩,[],[],true⟩,⟨⟨some 15,some (10,false),.cmp .geq .i64 (.t 12) (.t 14)⟩,[],[],false⟩,(eF 16 (.pick (.t 10) (.c (.sc (.bool true))) (.t 15))),(eF 17 (.mv (.t 16))),⟨⟨some 18,some (17,false),.fa 1 (.t 3)⟩,[],[],false⟩,⟨⟨some 19,some (17,false),.ld false 1 (.t 18)⟩,[],[],false⟩,⟨⟨some 20,some (17,false),.cmp .lss .i64 (.t 19) (kI 0)⟩,[],[],false⟩,(eF 21 (.pick (.t 17) (.c (.sc (.bool true))) (.t 20))),(eF 22 (.mv (.t 21))),⟨⟨some 23,some (22,false),.fa 1 (.t 3)⟩,[],[],true⟩,⟨⟨some 24,some (22,false),.ld false 1 (.t 23)⟩,[],[],true⟩,⟨⟨some 25,some (22,false),.mv (.t 0)⟩,[],[],true⟩,⟨⟨some 26,some (22,false),.fa 0 (.t 3)⟩,[],[],true⟩,⟨⟨some 27,some (22,false),.ld false 1 (.t 26)⟩,[],[],true⟩,⟨⟨some 28,some (22,false),.ixs 1 (.t 25) (.t 27)⟩,[],[],true⟩,⟨⟨some 29,some (22,false),.fa 0 (.t 28)⟩,[],[],true⟩,⟨⟨some 30,some (22,false),.ld false 1 (.t 29)⟩,[],[],true⟩,⟨⟨some 31,some (22,false),.len (.t 30)⟩,[],[],true⟩,⟨⟨some 32,some (22,false),.cmp .geq .i64 (.t 24) (.t 31)⟩,[],[],false⟩,(eF 33 (.pick (.t 22) (.c (.sc (.bool true))) (.t 32))),(eF 34 (.mv (.t 33))),⟨⟨some 35,some (34,false),.fa 2 (.t 3)⟩,[],[],false⟩,⟨⟨some 36,some (34,false),.ld false 1 (.t 35)⟩,[],[],false⟩,⟨⟨some 37,some (34,false),.cmp .lss .i64 (.t 36) (kI 0)⟩,[],[],false⟩,(eF 38 (.pick (.t 34) (.c (.sc (.bool true))) (.t 37))),(eF 39 (.mv (.t 38))),⟨⟨some 40,some (39,false),.fa 2 (.t 3)⟩,[],[],false⟩,⟨⟨some 41,some (39,false),.ld false 1 (.t 40)⟩,[],[],false⟩,⟨⟨some 42,some (39,false),.cmp .gtr .i64 (.t 41) (kI 63)⟩,[],[],false⟩,(eF 43 (.pick (.t 39) (.c (.sc (.bool true))) (.t 42)))])
 (.cut [0,62,0,3,43] (.cond (.t 43)
 (.seq (.reg [0,62] [
 (aO 4 (.mv (.c (.nil)))),(aO 5 (.mv (kI 1)))])
 .ret)
 .skip)))
 ac43_r3))
def rv43:List RV:=[.tmp 4,.tmp 5]
theorem ok43:fnOk Tryd.prog ac43 rv43 Tryd.f43=true:=by kernel_rfl
end Go.Proofs.YtecoaapkcnhlhaaDoor.Txt
namespace Go.Proofs.YtecoaapkcnhlhaaDoor
open Go Go.Vc Go.Ham Txt
def rsK(l:List (List Nat))(k:Nat):List (Option (List (List PV))):=(List.range l.length).map fun x=>if x<k then some (rows u64C (nats (l.getD x [])))else none
theorem qGL(l:List (List Nat))(k:Nat):(rsK l k).length=l.length:=by simp[rsK]
theorem qGM{l:List (List Nat)}{x:Nat}(h:x<l.length)(k:Nat):(rsK l k)[x]? =some (if x<k then some (rows u64C (nats (l.getD x [])))else none):=by
 rw[rsK,List.getElem?_map,List.getElem?_range h];rfl
theorem qGN(l:List (List Nat)):rsK l 0=List.replicate l.length none:=by
 rw[List.eq_replicate_iff]
 exact⟨qGL _ _,fun b hb=>by obtain⟨x,_,rfl⟩:=List.mem_map.1 hb;rfl⟩
theorem qGO(l:List (List Nat))(k:Nat):(rsK l k).set k (some (rows u64C (nats (l.getD k []))))=rsK l (k+1):=by
 refine List.ext_getElem (by simp[rsK]) fun i h1 h2=> ?_
 rw[List.getElem_set]
 simp only[rsK,List.getElem_map,List.getElem_range]
 split
 ·next h=>rw[h,if_pos (by omega)]
 ·next h=>
  by_cases h3:i<k
  ·rw[if_pos h3,if_pos (by omega)]
  ·rw[if_neg h3,if_neg (by omega)]
set_option maxHeartbeats 400000 in
theorem qGP(l:List (List Nat))(hl:FrmSm l):FnM (Env.of Tryd.prog) 68 [.sl false 1 (rows (frmC false) l)] ⟨[],[],[],[]⟩ (fun v st' =>v= .bv 2507 1 l.length/\st' =⟨[],[(2507,qAR 3000 (rsK l l.length))],qAS 1 54 3000 (rsK l l.length),[]⟩):=by
 have h1:=hl.n
 refine qub 2500 Tryd.func68 ok68_2500 (by show 1<=_;decide) rfl (by decide) ?_
 simp only[ac68_2500,rv68_2500,qFr,push_cast,reduceIte,reduceEqDiff,reduceAdd,reduceSub,reduceMul,Nat.reduceBEq,reduceLT,reduceLeDiff,reduceCtorEq,reduceToNat,reduceNeg,cNI]
 refine⟨⟨by omega,by omega,by omega⟩,?_⟩
 refine qoK (fun j st=> ∃k:Nat,k<=l.length/\j=l.length-k/\st=⟨[(2500,.sl false 1 (rows (frmC false) l)),(2503,.bv 2507 1 l.length),(2509,.int l.length),(2510,.int k)],[(2507,qAR 3000 (rsK l k))],qAS 1 54 3000 (rsK l k),[]⟩) l.length ⟨_,SWk.refl _,0,by omega,by omega,?_⟩ ?_
 ·rw[qGN,qFp,qFq]
  exact sC
 rintro j st ⟨k,hk,rfl,rfl⟩
 refine sB ?_
 refine qnU (fun h=> ?_) fun h=> ?_
 ·have hk' :k<l.length:=by omega
  obtain⟨ws,hws⟩: ∃ws,ws=l.getD k default:=⟨_,rfl⟩
  have hmem:ws∈l:=by rw[hws,List.getD_eq_getElem?_getD,List.getElem?_eq_getElem hk'];exact List.getElem_mem hk'
  have hln:=hl.len ws hmem
  have hcl:(qAR 3000 (rsK l k)).length=l.length:=by rw[qAT,qGL]
  have hfar:anyT nul (isId 2521) (qAR 3000 (rsK l k))=false:=qF6 _ _ _ fun y r _=>beq_false_of_ne (by omega)
  have hup: ∀A,up (qAS 1 54 3000 (rsK l k)) 2521 A=(2521,A)::qAS 1 54 3000 (rsK l k):=fun A=>qB2 _ _ _ fun y hy=>by have:=qB3 1 54 3000 _ y hy;omega
  have hspl: ∀v,spl (qAR 3000 (rsK l k)) k [v]=(qAR 3000 (rsK l k)).set k v:=fun v=>qF9 _ _ _ (by omega)
  have hcx: ∀v,((qAR 3000 (rsK l k)).set k v).getD k .bot=v:=fun v=>by rw[List.getD_eq_getElem?_getD,List.getElem?_set_self (by omega)];rfl
  have hcl2: ∀v,((qAR 3000 (rsK l k)).set k v).length=l.length:=fun v=>by rw[List.length_set,hcl]
  have hqc:=fun v off d r st K=>qF8 (P:=Env.of Tryd.prog) ((qAR 3000 (rsK l k)).set k v) off d r st K
  have hcp:cpyF (rows u64C (List.replicate ws.length (0:Int))) 0 (rows u64C (List.take ws.length (nats ws)))=rows u64C (nats ws):=by
   rw[List.take_of_length_le (by rw[qER];exact Nat.le_refl _)]
   unfold cpyF
   rw[List.take_zero,List.nil_append,qkg,qER,List.drop_of_length_le (by rw[qkg,List.length_replicate];omega),List.append_nil]
  simp only[<- hws,qER,Nat.mul_one,hcl,hfar,hup,hspl,hqc,hcx,hcl2,hcp,List.length_replicate,push_cast,reduceIte,reduceEqDiff,reduceAdd,reduceSub,reduceMul,Nat.reduceBEq,reduceLT,reduceLeDiff,reduceCtorEq,reduceToNat,reduceNeg,cNI]
  refine⟨⟨by omega,by omega⟩,hk',⟨by omega,by omega,by omega,by omega⟩,⟨by omega,by omega⟩,by omega,⟨by omega,by omega⟩,by omega,⟨by omega,by omega⟩,hk',⟨by omega,by omega⟩,?_⟩
  have hdk:l.getD k []=ws:=hws.symm
  have hset:=qGO l k
  have h07:PV.toV (isId (3000+k)) nul (.bv 2507 1 l.length)=false:=beq_false_of_ne (show 2507≠3000+k by omega)
  rw[hdk]at hset
  refine⟨_,SWk.renEq (A:=⟨1,54,rows u64C (nats ws)⟩) (b' :=[(2507,qAR 3000 (rsK l (k+1)))]) (a' :=qAS 1 54 3000 (rsK l (k+1))) 2521 (3000+k) rfl ?_ ⟨⟨rfl,rfl⟩,⟨rfl,rfl⟩,⟨rfl,rfl⟩,⟨rfl,rfl⟩,trivial⟩ ⟨⟨rfl,rfl⟩,⟨h07,rfl⟩,⟨rfl,rfl⟩,⟨rfl,rfl⟩,trivial⟩ ?_ ?_ ?_,l.length-(k+1),by omega,k+1,by omega,rfl,rfl⟩
  ·rw[lk,if_neg (by omega),qB1,qGM hk',if_neg (Nat.lt_irrefl k)];rfl
  ·have f := qF6 (isId (3000 + k)) 3000 (rsK l k) fun y r hy => by
    refine beq_false_of_ne fun e=> ?_
    obtain rfl:y=k:=by omega
    rw[qGM hk',if_neg (Nat.lt_irrefl _)]at hy
    cases hy
   have h21:PV.to nul (isId (3000+k)) (.view 2521 0 ws.length)=false:=beq_false_of_ne (show 2521≠3000+k by omega)
   rw[qin,qF7 _ _ _ _ _ f h21];rfl
  ·have e:=qF5 2521 3000 (rsK l k) k (rows u64C (nats ws)) (by rw[qGL];exact hk') (by decide)
   rw[hset,qkg,qER]at e
   simp only[List.map_cons,List.map_nil,e]
  ·rw[qF2,qF3 _ _ _ _ _ (by decide),qB4 _ _ _ _ _ _ (by rw[qGL];exact hk'),hset]
 ·obtain rfl:k=l.length:=by omega
  exact sC
theorem qGQ(es ty:Nat): ∀(k:Nat) (rs:List (Option (List (List PV)))),∀y∈qAS es ty k rs,∃x,x<rs.length/\y.1=k+x
 |_,[],y,h=>by cases h
 | k, none :: rs, y, h => by
   obtain⟨x,h1,h2⟩:=qGQ es ty (k+1) rs y h
   exact⟨x+1,by simpa using h1,by omega⟩
 | k, some r :: rs, y, h => by
   rcases List.mem_cons.1 h with rfl|h
   ·exact⟨0,by simp,rfl⟩
   ·obtain⟨x,h1,h2⟩:=qGQ es ty (k+1) rs y h
    exact⟨x+1,by simpa using h1,by omega⟩
def naK(n:Nat):List Nat:=(List.range n).map fun x=>3000+x
theorem qGR{n x:Nat}(h:x<n):inL (naK n) (3000+x)=true:=by
 unfold inL naK
 rw[List.contains_iff_mem]
 exact List.mem_map.2 ⟨x,List.mem_range.2 h,rfl⟩
theorem qGS(l:List (List Nat)):qDC [2507] (naK l.length) (.bv 2507 1 l.length) ⟨[],[(2507,qAR 3000 (rsK l l.length))],qAS 1 54 3000 (rsK l l.length),[]⟩=true:=by
 simp only[qDC,Bool.and_eq_true,List.all_cons,List.all_nil,List.all_eq_true]
 refine⟨⟨⟨rfl,rfl⟩,⟨⟨rfl,?_⟩,trivial⟩,fun y hy=> ?_⟩,rfl⟩
 ·rw [qAW (outL [2507]) (outL (naK l.length)) 3000 _ fun x hx => by
   rw[qGL]at hx
   unfold outL
   rw[qGR hx];rfl]
  rfl
 ·obtain⟨x,h1,h2⟩:=qGQ _ _ _ _ y hy
  rw[qGL]at h1
  rw[h2]
  exact qGR h1
def rsW(l:List (List Nat)):List (Option (List (List PV))):=l.map fun ws=>some (rows u64C (nats ws))
theorem qGT(l:List (List Nat)):(rsW l).length=l.length:=by simp[rsW]
theorem qGU{l:List (List Nat)}{x:Nat}(h:x<l.length):(rsW l)[x]? =some (some (rows u64C (nats (l.getD x [])))):=by
 rw[rsW,List.getElem?_map,List.getD_eq_getElem?_getD,List.getElem?_eq_getElem h];rfl
theorem qGV(l:List (List Nat))(x:Nat)(ws:List Nat):(rsW l).set x (some (rows u64C (nats ws)))=rsW (l.set x ws):=by
 simp[rsW,List.map_set]
theorem qGW(l:List (List Nat)):rsK l l.length=rsW l:=by
 refine List.ext_getElem (by simp[rsK,rsW]) fun i h1 h2=> ?_
 have hi:i<l.length:=by simpa[rsK]using h1
 simp[rsK,rsW,hi,List.getD_eq_getElem?_getD]
theorem qGX{l:List (List Nat)}{x:Nat}(h:x<l.length):(qAR 3000 (rsW l)).getD x .bot= .view (3000+x) 0 (l.getD x []).length:=by
 rw[List.getD_eq_getElem?_getD,qAU,qGU h]
 simp[rowC,qkg,qER]
theorem qGY{l:List (List Nat)}{x:Nat}(h:x<l.length):lk (qAS 1 54 3000 (rsW l)) (3000+x)=some ⟨1,54,rows u64C (nats (l.getD x []))⟩:=by
 rw[qB1,qGU h];rfl
theorem qGZ{l:List (List Nat)}{x:Nat}(h:x<l.length)(ws:List Nat):up (qAS 1 54 3000 (rsW l)) (3000+x) ⟨1,54,rows u64C (nats ws)⟩=qAS 1 54 3000 (rsW (l.set x ws)):=by
 rw[qB4 _ _ _ _ _ _ (by rw[qGT];exact h),qGV]
theorem qH0(l:List (List Nat)):((rsW l).map rowP).map (fun c=>[c])=rows (frmC true) l:=by
 unfold rsW rows
 rw[List.map_map,List.map_map]
 rfl
theorem qH1(l:List (List Nat)):((rsW l).map rowP).all qbM=true:=by
 rw[List.all_eq_true]
 intro c hc
 obtain⟨r,hr,rfl⟩:=List.mem_map.1 hc
 obtain⟨ws,_,rfl⟩:=List.mem_map.1 hr
 rfl
theorem qH2{l:List (List Nat)}{x:Nat}(hx:x<l.length){ws:List Nat}(h:ws.length=(l.getD x []).length):qAR 3000 (rsW l)=qAR 3000 (rsW (l.set x ws)):=by
 rw[<- qGV,<- qAV]
 have hc:=qGX hx
 rw[<- h]at hc
 have hl:x<(qAR 3000 (rsW l)).length:=by rw[qAT,qGT];exact hx
 simp only[rowC,qkg,qER]
 apply List.ext_getElem (by simp)
 intro i h1 h2
 rw[List.getElem_set]
 split
 ·next q=>subst q;rw[List.getD_eq_getElem?_getD,List.getElem?_eq_getElem h1]at hc;exact hc
 ·rfl
theorem qH3(s s' :List (Nat×PV))(l:List (List Nat))(hs: ∀j,3000<=j->farL j s)(h:(s.map fun x=>(x.1,x.2.fbV 2507 ((rsW l).map rowP)))=s'):SWk ⟨s,[(2507,qAR 3000 (rsW l))],qAS 1 54 3000 (rsW l),[]⟩ ⟨s',[],[],[]⟩:=by
 refine SWk.trans (SWk.frzRows (b1:=[]) (b2:=[]) (id:=2507) (k:=3000) [] (rsW l) hs (fun _ _=>rfl) (fun _ _=>rfl)) ?_
 exact SWk.frzB 2507 rfl (qH1 l) h rfl
end Go.Proofs.YtecoaapkcnhlhaaDoor
namespace Go.Proofs.YtecoaapkcnhlhaaDoor
open Go Go.Vc Go.Ham
def qH4(l:List (List Nat))(x k b:Nat):List (List Nat):=l.set x ((l.getD x []).set k (((l.getD x []).getD k 0)^^^2^b))
def atW(l:List (List Nat))(x k:Nat):Nat:=(l.getD x []).getD k 0
def inW(l:List (List Nat))(x k:Nat):Prop:=x<l.length/\k<(l.getD x []).length
theorem qH5{α:Type}(l:List α)(i j:Nat)(v d:α):(l.set i v).getD j d=if i=j/\i<l.length then v else l.getD j d:=by
 simp only[List.getD_eq_getElem?_getD,List.getElem?_set]
 by_cases e:i=j
 ·subst e
  by_cases h:i<l.length
  ·simp[h]
  ·simp[h]
 ·simp[e]
theorem qH6(l:List (List Nat))(x k b x' :Nat):(qH4 l x k b).getD x' []=if x=x' /\x<l.length then(l.getD x []).set k (atW l x k^^^2^b)else l.getD x' []:=by
 rw[qH4,qH5];rfl
theorem qH7{l:List (List Nat)}{x k b:Nat}(h:inW l x k)(x' k' :Nat):atW (qH4 l x k b) x' k' =if x=x' /\k=k' then atW l x k^^^2^b else atW l x' k' :=by
 unfold atW
 rw[qH6]
 by_cases e:x=x'
 ·subst e
  rw[if_pos ⟨rfl,h.1⟩,qH5]
  by_cases e2:k=k'
  ·subst e2;rw[if_pos ⟨rfl,h.2⟩,if_pos ⟨rfl,rfl⟩];rfl
  ·rw[if_neg (fun z=>e2 z.1),if_neg (fun z=>e2 z.2)]
 ·rw[if_neg (fun z=>e z.1),if_neg (fun z=>e z.1)]
theorem qH8(l:List (List Nat))(x k b:Nat):(qH4 l x k b).length=l.length:=by simp[qH4]
theorem qH9(l:List (List Nat))(x k b x' :Nat):((qH4 l x k b).getD x' []).length=(l.getD x' []).length:=by
 rw[qH6];split
 ·rename_i h;rw[List.length_set,h.1]
 ·rfl
theorem qHa{l m:List (List Nat)}(h1:l.length=m.length)(h2: ∀x,(l.getD x []).length=(m.getD x []).length):l.map List.length=m.map List.length:=by
 apply List.ext_getElem
 ·simpa using h1
 ·intro i a b
  have:=h2 i
  simp only[List.length_map]at a b
  simpa[List.getD_eq_getElem?_getD,a,b]using this
theorem qHb(l:List (List Nat))(x k b:Nat):(qH4 l x k b).map List.length=l.map List.length:=qHa (qH8 l x k b) (qH9 l x k b)
theorem flipB_in{l:List (List Nat)}{x k b x' k' :Nat} :inW (qH4 l x k b) x' k' ↔ inW l x' k' :=by unfold inW;rw[qH8,qH9]
theorem qHc{l m:List (List Nat)}(h:l.map List.length=m.map List.length)(h2: ∀x k,inW l x k->atW l x k=atW m x k):l=m:=by
 have hl:l.length=m.length:=by have:=congrArg List.length h;simpa using this
 apply List.ext_getElem hl
 intro x hx hx'
 have hr:l[x].length=m[x].length:=by
  have:=congrArg (fun z=>z[x]?) h
  simp only[List.getElem?_map,List.getElem?_eq_getElem hx,List.getElem?_eq_getElem hx',Option.map_some,Option.some.injEq]at this
  exact this
 apply List.ext_getElem hr
 intro k hk hk'
 have:=h2 x k ⟨hx,by simp[List.getD_eq_getElem?_getD,hx];exact hk⟩
 simpa[atW,List.getD_eq_getElem?_getD,hx,hx',hk,hk']using this
theorem qHd{l m:List (List Nat)}(h:l.map List.length=m.map List.length)(x k:Nat):inW l x k ↔ inW m x k:=by
 have hl:l.length=m.length:=by have:=congrArg List.length h;simpa using this
 have hr:(l.getD x []).length=(m.getD x []).length:=by
  by_cases hx:x<l.length
  ·have:=congrArg (fun z=>z[x]?) h
   simp only[List.getElem?_map,List.getElem?_eq_getElem hx,List.getElem?_eq_getElem (show x<m.length by omega),Option.map_some,Option.some.injEq]at this
   simpa[List.getD_eq_getElem?_getD,hx,show x<m.length by omega]using this
  ·simp[List.getD_eq_getElem?_getD,List.getElem?_eq_none (show l.length<=x by omega),List.getElem?_eq_none (show m.length<=x by omega)]
 unfold inW;rw[hl,hr]
theorem qHe{l:List (List Nat)}{ws:List Nat}(h:ws∈l){w:Nat}(hw:w∈ws): ∃x k,inW l x k/\atW l x k=w:=by
 obtain⟨x,hx,rfl⟩:=List.getElem_of_mem h
 obtain⟨k,hk,rfl⟩:=List.getElem_of_mem hw
 exact⟨x,k,⟨hx,by simpa[List.getD_eq_getElem?_getD,hx]using hk⟩,by simp[atW,List.getD_eq_getElem?_getD,hx,hk]⟩
theorem qHf{l:List (List Nat)}{x k:Nat}(h:inW l x k): ∃ws∈l,atW l x k∈ws:=by
 obtain⟨h1,h2⟩:=h
 have e:l.getD x []=l[x]:=by simp[List.getD_eq_getElem?_getD,h1]
 rw[e]at h2
 refine⟨l[x],List.getElem_mem h1,?_⟩
 unfold atW
 rw[e]
 simp[List.getD_eq_getElem?_getD,h2]
def qHg(l:List (List Nat)):Nat:=(l.map qDn).sum
theorem qHh: ∀(l:List (List Nat)) (x:Nat) (r:List Nat),x<l.length->((l.set x r).map qDn).sum+qDn (l.getD x [])=(l.map qDn).sum+qDn r
 |[],x,r,h=>by simp at h
 |a::l,0,r,h=>by simp;omega
 | a :: l, x + 1, r, h => by
   have:=qHh l x r (by simpa using h)
   simp only[List.set_cons_succ,List.map_cons,List.sum_cons,List.getD_cons_succ];omega
theorem qHi: ∀(l:List Nat) (k v:Nat),k<l.length->qDn (l.set k v)+(if chkW (l.getD k 0)=1 then 1 else 0)=qDn l+(if chkW v=1 then 1 else 0)
 |[],k,v,h=>by simp at h
 | a :: l, 0, v, h => by
   simp only[qDn,List.set_cons_zero,List.countP_cons,List.getD_cons_zero,decide_eq_true_eq];omega
 | a :: l, k + 1, v, h => by
   have:=qHi l k v (by simpa using h)
   simp only[qDn,List.set_cons_succ,List.countP_cons,List.getD_cons_succ]at this ⊢;omega
theorem qHj{l:List (List Nat)}{x k b:Nat}(h:inW l x k):qHg (qH4 l x k b)+(if chkW (atW l x k)=1 then 1 else 0)=qHg l+(if chkW (atW l x k^^^2^b)=1 then 1 else 0):=by
 have h1:=qHh l x ((l.getD x []).set k (atW l x k^^^2^b)) h.1
 have h2:=qHi (l.getD x []) k (atW l x k^^^2^b) h.2
 show((l.set x ((l.getD x []).set k (atW l x k^^^2^b))).map qDn).sum+_=_
 unfold qHg
 change _+(if chkW (atW l x k)=1 then 1 else 0)=_ at h2
 omega
structure Near (l m:List (List Nat)):Prop where
 size:m.map List.length=l.map List.length
 at' : ∀x k,inW l x k->atW m x k=atW l x k\/ ∃b,b<64/\atW m x k=atW l x k^^^2^b
theorem Near.refl(l:List (List Nat)):Near l l:=⟨rfl,fun _ _ _=> .inl rfl⟩
theorem Near.flip{l m:List (List Nat)}(h:Near l m){x k b:Nat}(hi:inW l x k)(hb:b<64)(he:atW m x k=atW l x k):Near l (qH4 m x k b):=by
 have hm:inW m x k:=(qHd h.size x k).2 hi
 refine⟨by rw[qHb];exact h.size,fun x' k' hi' => ?_⟩
 rw[qH7 hm]
 split
 ·rename_i e
  obtain⟨rfl,rfl⟩:=e
  exact .inr ⟨b,hb,by rw[he]⟩
 ·exact h.at' x' k' hi'
theorem qHl{w v:Nat}(hw:w<2^64)(hc:chkW w=0)(h:v=w\/ ∃b,b<64/\v=w^^^2^b):chkW v≠2/\datW v=datW w/\fixW v=w:=by
 have hf:fixW w=w:=by
  unfold fixW datW
  rw[if_neg (by omega),if_neg (by omega),qA1 hw hc]
 rcases h with rfl|⟨b,hb,rfl⟩
 ·exact⟨by omega,rfl,hf⟩
 ·obtain⟨h1,h2⟩:=qA2 hc hb
  have hd:datW (w^^^2^b)=datW w:=by
   unfold datW
   rw[if_pos h1,h2,if_neg (by omega),qA4]
  refine⟨by omega,hd,?_⟩
  unfold fixW
  rw[if_neg (by omega),hd]
  unfold fixW at hf
  rw[if_neg (by omega)]at hf
  exact hf
theorem qHm{l m:List (List Nat)}(hl:qDo l)(hc: ∀ws∈l,∀w∈ws,chkW w=0)(h:Near l m):(∀ws∈m,qDm ws=true)/\(∀x,datF m x=datF l x)/\m.map (fun ws=>ws.map fixW)=l:=by
 have key: ∀x k,inW m x k->chkW (atW m x k)≠2/\datW (atW m x k)=datW (atW l x k)/\fixW (atW m x k)=atW l x k:=fun x k hi=>by
  have hi' :=(qHd h.size x k).1 hi
  obtain⟨ws,h1,h2⟩:=qHf hi'
  exact qHl (hl ws h1 _ h2) (hc ws h1 _ h2) (h.at' x k hi')
 have hlen:m.length=l.length:=by have:=congrArg List.length h.size;simpa using this
 have hrow: ∀x,(m.getD x []).length=(l.getD x []).length:=fun x=>by
  by_cases hx:x<m.length
  ·have:=congrArg (fun z=>z[x]?) h.size
   simp only[List.getElem?_map,List.getElem?_eq_getElem hx,List.getElem?_eq_getElem (show x<l.length by omega),Option.map_some,Option.some.injEq]at this
   simpa[List.getD_eq_getElem?_getD,hx,show x<l.length by omega]using this
  ·simp[List.getD_eq_getElem?_getD,List.getElem?_eq_none (show l.length<=x by omega),List.getElem?_eq_none (show m.length<=x by omega)]
 refine⟨fun ws hws=>List.all_eq_true.2 fun w hw=> ?_,fun x=> ?_,qHc ?_ fun x k hi=> ?_⟩
 ·obtain⟨x,k,hi,rfl⟩:=qHe hws hw
  simpa using(key x k hi).1
 ·unfold datF
  apply List.ext_getElem
  ·simpa using hrow x
  ·intro k h1 h2
   have hk:k<(m.getD x []).length:=by simpa using h1
   have hx:x<m.length:=by
    apply Classical.byContradiction
    intro hn
    rw[List.getD_eq_getElem?_getD,List.getElem?_eq_none (by omega)]at hk
    simp at hk
   have:=(key x k ⟨hx,hk⟩).2.1
   rw[List.getElem_map,List.getElem_map]
   have hk2:k<(l.getD x []).length:=by rw[<- hrow];exact hk
   have e1:atW m x k=(m.getD x [])[k]:=by unfold atW;rw[List.getD_eq_getElem?_getD,List.getElem?_eq_getElem hk];rfl
   have e2:atW l x k=(l.getD x [])[k]:=by unfold atW;rw[List.getD_eq_getElem?_getD,List.getElem?_eq_getElem hk2];rfl
   rw[<- e1,<- e2];exact this
 ·rw[List.map_map,<- h.size]
  exact List.map_congr_left fun ws _=>by simp
 ·have hi2:inW m x k:=by
   unfold inW at hi ⊢
   rw[List.length_map]at hi
   refine⟨hi.1,?_⟩
   have:=hi.2
   rw[List.getD_eq_getElem?_getD,List.getElem?_map,List.getElem?_eq_getElem hi.1]at this
   simpa[List.getD_eq_getElem?_getD,hi.1]using this
  have e:atW (m.map fun ws=>ws.map fixW) x k=fixW (atW m x k):=by
   have hx:=hi2.1
   have hk:=hi2.2
   rw[List.getD_eq_getElem?_getD,List.getElem?_eq_getElem hx]at hk
   simp only[Option.getD_some]at hk
   simp[atW,List.getD_eq_getElem?_getD,hx,hk]
  rw[e];exact(key x k hi2).2.2
end Go.Proofs.YtecoaapkcnhlhaaDoor
namespace Go.Proofs.YtecoaapkcnhlhaaDoor
open Go Go.Vc Go.Ham Txt
structure FlipA where
 x:Int
 k:Int
 b:Int
 deriving DecidableEq,Inhabited
def qHn(f:FlipA):List PV:=[.int f.x,.int f.k,.int f.b]
@[push_cast] theorem qHo(f:FlipA):qHn f=[.int f.x,.int f.k,.int f.b]:=rfl
def qHp(l:List (List Nat))(f:FlipA):Prop:=0<=f.x/\f.x<l.length/\0<=f.k/\f.k<(l.getD f.x.toNat []).length/\0<=f.b/\f.b<=63
instance (l:List (List Nat)) (f:FlipA):Decidable (qHp l f):=by unfold qHp;infer_instance
def qHq(l:List (List Nat))(f:FlipA):PV:=if qHp l f then .tup [.sl true 1 (rows (frmC true) (qH4 l f.x.toNat f.k.toNat f.b.toNat)),.int 0]else .tup [.nil,.int 1]
set_option maxHeartbeats 400000 in
theorem qHr(l:List (List Nat))(hl:FrmSm l)(f:FlipA):FnEq Tryd.prog 43 [.sl false 1 (rows (frmC false) l),.agg (qHn f)] (qHq l f):=by
 have hn:=hl.n
 have hP:Perm (qHq l f):=by
  unfold qHq
  split
  ·simp only[push_cast,reduceIte,reduceEqDiff,reduceAdd,reduceSub,reduceMul,Nat.reduceBEq,reduceLT,reduceLeDiff,reduceCtorEq,reduceToNat,reduceNeg,cNI];simp
  ·exact sC
 refine FnEq.of_awp Tryd.func43 ok43 (by show 2<=_;decide) hP ?_
 simp only[ac43,rv43,push_cast,reduceIte,reduceEqDiff,reduceAdd,reduceSub,reduceMul,Nat.reduceBEq,reduceLT,reduceLeDiff,reduceCtorEq,reduceToNat,reduceNeg,cNI]
 refine qrE ⟨[(0,.sl false 1 (rows (frmC false) l)),(3,.ptr 3 0),(43,.bool (!decide (qHp l f)))],[(3,[.int f.x,.int f.k,.int f.b])],[],[]⟩ ?_ ?_
 ·have no: ¬qHp l f->decide (qHp l f)=false:=fun h=>decide_eq_false h
  refine qrA rfl (fun h1=> ?_) fun h1=> ?_<;>simp only[push_cast,reduceIte,reduceEqDiff,reduceAdd,reduceSub,reduceMul,Nat.reduceBEq,reduceLT,reduceLeDiff,reduceCtorEq,reduceToNat,reduceNeg,cNI]
  ·rw[no fun h=>by have:=h.1;omega];rfl
  first|(refine qrA rfl (fun h2=> ?_) fun h2=> ?_<;>simp only[push_cast,reduceIte,reduceEqDiff,reduceAdd,reduceSub,reduceMul,Nat.reduceBEq,reduceLT,reduceLeDiff,reduceCtorEq,reduceToNat,reduceNeg,cNI])|(refine qrw rfl (fun h2=> ?_) fun h2=> ?_<;>simp only[push_cast,reduceIte,reduceEqDiff,reduceAdd,reduceSub,reduceMul,Nat.reduceBEq,reduceLT,reduceLeDiff,reduceCtorEq,reduceToNat,reduceNeg,cNI])
  ·rw[no fun h=>by have:=h.2.1;omega];rfl
  first|(refine qrA rfl (fun h3=> ?_) fun h3=> ?_<;>simp only[push_cast,reduceIte,reduceEqDiff,reduceAdd,reduceSub,reduceMul,Nat.reduceBEq,reduceLT,reduceLeDiff,reduceCtorEq,reduceToNat,reduceNeg,cNI])|(refine qrw rfl (fun h3=> ?_) fun h3=> ?_<;>simp only[push_cast,reduceIte,reduceEqDiff,reduceAdd,reduceSub,reduceMul,Nat.reduceBEq,reduceLT,reduceLeDiff,reduceCtorEq,reduceToNat,reduceNeg,cNI])
  ·rw[no fun h=>by have:=h.2.2.1;omega];rfl
  have hx:f.x.toNat<l.length:=by omega
  simp only[qER,push_cast,reduceIte,reduceEqDiff,reduceAdd,reduceSub,reduceMul,Nat.reduceBEq,reduceLT,reduceLeDiff,reduceCtorEq,reduceToNat,reduceNeg,cNI]
  refine⟨⟨by omega,by omega⟩,hx,?_⟩
  first|(refine qrA rfl (fun h4=> ?_) fun h4=> ?_<;>simp only[push_cast,reduceIte,reduceEqDiff,reduceAdd,reduceSub,reduceMul,Nat.reduceBEq,reduceLT,reduceLeDiff,reduceCtorEq,reduceToNat,reduceNeg,cNI])|(refine qrw rfl (fun h4=> ?_) fun h4=> ?_<;>simp only[push_cast,reduceIte,reduceEqDiff,reduceAdd,reduceSub,reduceMul,Nat.reduceBEq,reduceLT,reduceLeDiff,reduceCtorEq,reduceToNat,reduceNeg,cNI])
  ·rw[no fun h=>by have h5:f.k<(l.getD f.x.toNat default).length:=h.2.2.2.1;omega];rfl
  first|(refine qrA rfl (fun h5=> ?_) fun h5=> ?_<;>simp only[push_cast,reduceIte,reduceEqDiff,reduceAdd,reduceSub,reduceMul,Nat.reduceBEq,reduceLT,reduceLeDiff,reduceCtorEq,reduceToNat,reduceNeg,cNI])|(refine qrw rfl (fun h5=> ?_) fun h5=> ?_<;>simp only[push_cast,reduceIte,reduceEqDiff,reduceAdd,reduceSub,reduceMul,Nat.reduceBEq,reduceLT,reduceLeDiff,reduceCtorEq,reduceToNat,reduceNeg,cNI])
  ·rw[no fun h=>by have:=h.2.2.2.2.1;omega];rfl
  have e:decide (63<f.b)= !decide (qHp l f):=by
   by_cases h6:63<f.b
   ·rw[decide_eq_true h6,no fun h=>by have:=h.2.2.2.2.2;omega];rfl
   ·rw[decide_eq_false h6,decide_eq_true (show qHp l f from⟨by omega,by omega,by omega,by show f.k<(l.getD f.x.toNat default).length;omega,by omega,by omega⟩)];rfl
  rw[e]
 ·refine qnT (fun h=> ?_) fun h=> ?_
  ·have hf: ¬qHp l f:=by simpa using h
   unfold qHq
   rw[if_neg hf]
   exact sC
  ·have hf:qHp l f:=by simpa using h
   unfold qHq
   rw[if_pos hf]
   obtain⟨q1,q2,q3,q4,q5,q6⟩:=hf
   simp only[ac43_r3,push_cast,reduceIte,reduceEqDiff,reduceAdd,reduceSub,reduceMul,Nat.reduceBEq,reduceLT,reduceLeDiff,reduceCtorEq,reduceToNat,reduceNeg,cNI]
   refine qDG [2507] (naK l.length) (qGP l hl) rfl rfl (qGS l) ?_
   have hx:f.x.toNat<l.length:=by omega
   obtain⟨x,hxe⟩: ∃x,x=f.x.toNat:=⟨_,rfl⟩
   obtain⟨k,hke⟩: ∃k,k=f.k.toNat:=⟨_,rfl⟩
   obtain⟨b,hbe⟩: ∃b,b=f.b.toNat:=⟨_,rfl⟩
   have hfb:f.b=(b:Int):=by omega
   have hkl:k<(l.getD x []).length:=by rw[<- hxe]at q4;omega
   have hb64:b<64:=by omega
   have hmem:l.getD x []∈l:=by rw[List.getD_eq_getElem?_getD,List.getElem?_eq_getElem (by omega)];exact List.getElem_mem _
   have hw:(l.getD x []).getD k 0<2^64:=by
    rw[List.getD_eq_getElem?_getD,List.getElem?_eq_getElem hkl]
    exact hl.ok _ hmem _ (List.getElem_mem _)
   rw[qGW,<- hxe,<- hke,<- hbe,hfb]
   rw[<- hxe]at hx
   have hcl:(qAR 3000 (rsW l)).length=l.length:=by rw[qAT,qGT]
   have hxor:bitF .xor .u64 ((((l.getD x []).getD k 0:Nat):Int)) (shfF .shl .u64 1 (b:Int))=(((l.getD x []).getD k 0^^^2^b:Nat):Int):=by
    rw[shl1 hb64,qBe hw (Nat.pow_lt_pow_right (by decide) hb64)]
   simp only[ac43_r4,List.cons_append,List.nil_append,<- hxe,<- hke,Nat.mul_one,qF8 (qAR 3000 (rsW l)),hcl,qGX hx,qGY hx,qER,qFx,hxor,qFy,qGZ hx,push_cast,reduceIte,reduceEqDiff,reduceAdd,reduceSub,reduceMul,Nat.reduceBEq,reduceLT,reduceLeDiff,reduceCtorEq,reduceToNat,reduceNeg,cNI]
   have hdef:qH4 l x k b=l.set x ((l.getD x []).set k ((l.getD x []).getD k 0^^^2^b)):=rfl
   refine⟨⟨by omega,by omega⟩,by omega,⟨by omega,by omega⟩,hkl,by omega,⟨by omega,by omega⟩,hkl,?_⟩
   rw[qH2 hx (ws:=(l.getD x []).set k ((l.getD x []).getD k 0^^^2^b)) (by rw[List.length_set]),<- hdef]
   have hfl:(qH4 l x k b).length=l.length:=by rw[hdef,List.length_set]
   refine qr5 ⟨[(6,.sl true 1 (rows (frmC true) (qH4 l x k b)))],[],[],[]⟩ (SWk.trans (SWk.dropS (fun i=>i==6) (fun i=>i==2507) (fun _=>true)) ?_) ?_
   ·have hfa:(qAS 1 54 3000 (rsW (qH4 l x k b))).filter (fun _=>true)=qAS 1 54 3000 (rsW (qH4 l x k b)):=List.filter_eq_self.2 fun _ _=>rfl
    rw[hfa]
    refine qH3 [(6,.bv 2507 1 l.length)] _ (qH4 l x k b) (fun j hj=>⟨⟨beq_false_of_ne (show 2507≠j by omega),rfl⟩,trivial⟩) ?_
    rw[<- qH0]
    simp only[List.map_cons,List.map_nil,PV.fbV,PV.fbA,PV.fb,if_true,List.length_map,qGT,hfl,and_self]
   ·refine sB ?_
    exact fun _ _ _ _=>trivial
end Go.Proofs.YtecoaapkcnhlhaaDoor
namespace Go.Proofs.YtecoaapkcnhlhaaDoor.Txt
open Go Go.Vc
set_option maxRecDepth 100000
def xs34_15:List XO:=[⟨0,[],(aO 58 (.ld false 1 (.t 8)))⟩,⟨1,[],(aO 59 (.mv (.t 9)))⟩,⟨2,[],(aO 60 (.ld false 1 (.t 8)))⟩,⟨3,[],(aO 61 (.mv (.t 9)))⟩,⟨4,[2,3],(aO 62 (.ixs 1 (.t 60) (.t 61)))⟩,⟨5,[4],(aO 63 (.ld false 1 (.t 62)))⟩,⟨6,[],(aO 64 (.mv (.t 13)))⟩,⟨7,[6],(aO 65 (.bsl 1 54 [.sc (.int .u64 0)] 1 [(0,(.t 64))]))⟩,⟨8,[5,7],(aO 66 (.app 1 54 8 (.t 63) (.t 65)))⟩,⟨9,[0,1,2,3,4,5,6,7,8],(aO 67 (.ixs 1 (.t 58) (.t 59)))⟩,⟨10,[0,1,2,3,4,5,6,7,8,9],(aN (.sto 1 (.t 67) (.t 66)))⟩]
theorem xs34_15_all{p:XO->Prop} :(∀x∈xs34_15,p x) ↔ p ⟨0,[],(aO 58 (.ld false 1 (.t 8)))⟩/\p ⟨1,[],(aO 59 (.mv (.t 9)))⟩/\p ⟨2,[],(aO 60 (.ld false 1 (.t 8)))⟩/\p ⟨3,[],(aO 61 (.mv (.t 9)))⟩/\p ⟨4,[2,3],(aO 62 (.ixs 1 (.t 60) (.t 61)))⟩/\p ⟨5,[4],(aO 63 (.ld false 1 (.t 62)))⟩/\p ⟨6,[],(aO 64 (.mv (.t 13)))⟩/\p ⟨7,[6],(aO 65 (.bsl 1 54 [.sc (.int .u64 0)] 1 [(0,(.t 64))]))⟩/\p ⟨8,[5,7],(aO 66 (.app 1 54 8 (.t 63) (.t 65)))⟩/\p ⟨9,[0,1,2,3,4,5,6,7,8],(aO 67 (.ixs 1 (.t 58) (.t 59)))⟩/\p ⟨10,[0,1,2,3,4,5,6,7,8,9],(aN (.sto 1 (.t 67) (.t 66)))⟩:=by simp only[xs34_15,List.forall_mem_cons,List.not_mem_nil,false_implies,implies_true,and_true]
def xs34_27:List XO:=[⟨0,[],(aO 1085 (.fa 0 (.t 1020)))⟩,⟨1,[0],(aO 1086 (.ld false 1 (.t 1085)))⟩,⟨2,[1],(aO 1087 (.nck (.t 1086)))⟩,⟨3,[2],(aO 1088 (.ld false 1 (.t 1087)))⟩,⟨4,[],(aO 1089 (.ld false 1 (.t 1018)))⟩,⟨5,[],(aO 1090 (.mv (.t 1019)))⟩,⟨6,[4,5],(aO 1091 (.clv (.t 1089) [(.t 1090)]))⟩,⟨7,[],(aO 1092 (.mv (.t 1021)))⟩,⟨8,[6,7],(aO 1093 (.shf .shl .i64 (.t 1091) (.t 1092)))⟩,⟨9,[3,8],(aO 1094 (.bit .or .i64 (.t 1088) (.t 1093)))⟩,⟨10,[0,1,2,3,4,5,6,7,8,9],(aO 1095 (.nck (.t 1086)))⟩,⟨11,[0,1,2,3,4,5,6,7,8,9,10],(aN (.sto 1 (.t 1095) (.t 1094)))⟩]
theorem xs34_27_all{p:XO->Prop} :(∀x∈xs34_27,p x) ↔ p ⟨0,[],(aO 1085 (.fa 0 (.t 1020)))⟩/\p ⟨1,[0],(aO 1086 (.ld false 1 (.t 1085)))⟩/\p ⟨2,[1],(aO 1087 (.nck (.t 1086)))⟩/\p ⟨3,[2],(aO 1088 (.ld false 1 (.t 1087)))⟩/\p ⟨4,[],(aO 1089 (.ld false 1 (.t 1018)))⟩/\p ⟨5,[],(aO 1090 (.mv (.t 1019)))⟩/\p ⟨6,[4,5],(aO 1091 (.clv (.t 1089) [(.t 1090)]))⟩/\p ⟨7,[],(aO 1092 (.mv (.t 1021)))⟩/\p ⟨8,[6,7],(aO 1093 (.shf .shl .i64 (.t 1091) (.t 1092)))⟩/\p ⟨9,[3,8],(aO 1094 (.bit .or .i64 (.t 1088) (.t 1093)))⟩/\p ⟨10,[0,1,2,3,4,5,6,7,8,9],(aO 1095 (.nck (.t 1086)))⟩/\p ⟨11,[0,1,2,3,4,5,6,7,8,9,10],(aN (.sto 1 (.t 1095) (.t 1094)))⟩:=by simp only[xs34_27,List.forall_mem_cons,List.not_mem_nil,false_implies,implies_true,and_true]
def ac34_r14:AC:=
 (.seq (.reg [0,126,1,2,4,7,8,9,13,14,32,33,34,40,41,42] [
 (aO 55 (.mv (.t 7))),(aO 56 (.mv (.t 14))),(aO 57 (.ari .add true .i64 (.t 55) (.t 56))),(aO 7 (.mv (.t 57)))])
 (.dra [0,126,1,2,4,7,8,9,13,32,33,34,40,41,42] xs34_15))
def ac34_r8:AC:=
 (.seq (.reg [0,126,1,2,4,7,8,9,10,32,33,34] [
 (aO 39 (.fa 0 (.t 10))),(aO 40 (.ld false 1 (.t 39))),(aO 41 (.len (.t 40))),(aO 42 (.mv (kI 0)))])
 (.block 2
 (.lps [0,126,1,2,4,7,8,9,32,33,34,40,41,42]
 (.seq (.reg [0,126,1,2,4,7,8,9,32,33,34,40,41,42] [
 (aO 43 (.cmp .lss .i64 (.t 42) (.t 41)))])
 (.seq (.cond (.t 43)
 .skip
 (.exit 2))
 (.seq (.block 3
 (.seq (.reg [0,126,1,2,4,7,8,9,32,33,34,40,41,42] [
 (aO 44 (.ixs 1 (.t 40) (.t 42))),(aO 45 (.ld false 1 (.t 44))),(aO 12 (.mv (.t 45)))])
 (.seq (.reg [0,126,1,2,4,7,8,9,12,32,33,34,40,41,42] [
 (aO 47 (.mv (.t 12))),(aO 48 (.cal 25 [(.t 47)])),(aO 46 (.mv (.t 48))),(aO 49 (.ext (.t 46) 0)),(aO 50 (.ext (.t 46) 1)),(aO 51 (.ext (.t 46) 2)),(aO 13 (.mv (.t 49))),(aO 14 (.mv (.t 50))),(aO 15 (.mv (.t 51)))])
 (.seq (.seq (.reg [0,126,1,2,4,7,8,9,13,14,15,32,33,34,40,41,42] [
 (aO 52 (.mv (.t 15))),(aO 53 (.cmp .neq .i64 (.t 52) (kI 0)))])
 (.cond (.t 53)
 (.seq (.reg [0,126,4] [
 (aO 54 (.bld [.nil,.nil,.nil,.nil] [])),(aN (.sto 4 (.t 4) (.t 54))),(aO 5 (.mv (kI 0))),(aO 6 (.mv (kI 380)))])
 .ret)
 .skip))
 ac34_r14))))
 (.reg [0,126,1,2,4,7,8,9,32,33,34,40,41,42] [
 (aO 68 (.ari .add true .i64 (.t 42) (kI 1))),(aO 42 (.mv (.t 68)))])))))))
def ac34_r26:AC:=
 (.seq (.reg [1000,126,1018,1019,1020,1081,1082] [
 (aO 1084 (.mv (.t 1082))),(aO 1021 (.mv (.t 1084)))])
 (.dra [1000,126,1018,1019,1020,1021,1081,1082] xs34_27))
def ac34_r24:AC:=
 (.seq (.reg [1000,126,1018,1019,1020] [
 (aO 1080 (.fa 1 (.t 1020))),(aO 1081 (.ld false 1 (.t 1080))),(aO 1082 (.mv (kI 0)))])
 (.block 6
 (.lps [1000,126,1018,1019,1020,1081,1082]
 (.seq (.reg [1000,126,1018,1019,1020,1081,1082] [
 (aO 1083 (.cmp .lss .i64 (.t 1082) (.t 1081)))])
 (.seq (.cond (.t 1083)
 .skip
 (.exit 6))
 (.seq (.block 7
 ac34_r26)
 (.reg [1000,126,1018,1019,1020,1081,1082] [
 (aO 1096 (.ari .add true .i64 (.t 1082) (kI 1))),(aO 1082 (.mv (.t 1096)))])))))))
def ac34_r31:AC:=
 (.seq (.reg [0,126,2,4,7,8,16,17,18,98,99] [
 (aO 101 (.mv (.t 99))),(aO 22 (.mv (.t 101)))])
 (.block 10
 (.lps [0,126,2,4,7,8,16,17,18,22,98,99]
 (.seq (.seq (.drw [0,126,2,4,7,8,16,17,18,22,98,99] [
 (eT 102 (.ld false 1 (.t 17))),(eT 103 (.mv (.t 22))),(eT 104 (.ixs 1 (.t 102) (.t 103))),(eT 105 (.ld false 1 (.t 104))),(eT 106 (.ld false 1 (.t 8))),(eT 107 (.mv (.t 22))),(eT 108 (.ixs 1 (.t 106) (.t 107))),(eT 109 (.ld false 1 (.t 108))),(eT 110 (.len (.t 109))),(eT 111 (.ari .mul true .i64 (kI 57) (.t 110))),(eF 112 (.cmp .lss .i64 (.t 105) (.t 111)))])
 (.cond (.t 112)
 .skip
 (.exit 10)))
 (.block 11
 (.seq (.reg [0,126,2,4,7,8,16,17,18,22,98,99] [
 (aO 113 (.ld false 1 (.t 18))),(aO 114 (.mv (.t 22))),(aO 115 (.clv (.t 113) [(.t 114)])),(aO 116 (.cmp .neq .i64 (.t 115) (kI 0)))])
 (.cond (.t 116)
 (.seq (.reg [0,126,4] [
 (aO 117 (.bld [.nil,.nil,.nil,.nil] [])),(aN (.sto 4 (.t 4) (.t 117))),(aO 5 (.mv (kI 0))),(aO 6 (.mv (kI 380)))])
 .ret)
 .skip)))))))
def ac34_r36:AC:=
 (.seq (.seq (.reg [0,126,2,4,7,16] [
 (aO 119 (.ld true 5 (.t 2))),(aO 120 (.ld true 4 (.t 16))),(aO 121 (.cal 18 [(.t 119),(.t 120)])),(aO 122 (.cmp .neq .i64 (.t 121) (kI 0)))])
 (.cond (.t 122)
 (.seq (.reg [0,126,4] [
 (aO 123 (.bld [.nil,.nil,.nil,.nil] [])),(aN (.sto 4 (.t 4) (.t 123))),(aO 5 (.mv (kI 0))),(aO 6 (.mv (kI 380)))])
 .ret)
 .skip))
 (.seq (.reg [0,126,4,7,16] [
 (aO 124 (.ld true 4 (.t 16))),(aO 125 (.mv (.t 7))),(aN (.sto 4 (.t 4) (.t 124))),(aO 5 (.mv (.t 125))),(aO 6 (.mv (kI 0)))])
 .ret))
def ac34_r29:AC:=
 (.seq (.seq (.reg [0,126,1,2,4,7,8,16,17,18] [
 (aO 97 (.mv (.t 1))),(aO 98 (.len (.t 97))),(aO 99 (.mv (kI 0)))])
 (.block 8
 (.lps [0,126,2,4,7,8,16,17,18,98,99]
 (.seq (.reg [0,126,2,4,7,8,16,17,18,98,99] [
 (aO 100 (.cmp .lss .i64 (.t 99) (.t 98)))])
 (.seq (.cond (.t 100)
 .skip
 (.exit 8))
 (.seq (.block 9
 ac34_r31)
 (.reg [0,126,2,4,7,8,16,17,18,98,99] [
 (aO 118 (.ari .add true .i64 (.t 99) (kI 1))),(aO 99 (.mv (.t 118)))])))))))
 ac34_r36)
def ac34_r21:AC:=
 (.seq (.seq (.reg [0,126,1,2,4,7,8,16,17,18] [
 (aO 76 (.ld true 5 (.t 2))),(aO 77 (.clm 53 [(.t 76),(.t 16)]))])
 (.block 4
 (.rngf ⟨(.t 77),0,126,1000,[0,126,1,2,4,7,8,16,17,18,77],999⟩ [1078,1079]
 (.seq (.reg [1000,126,1018,1078,1079] [
 (aO 1019 (.mv (.t 1078)))])
 (.reg [1000,126,1018,1019,1079] [
 (aO 1020 (.alc [.sc (.pointer none),zI])),(aN (.sto 2 (.t 1020) (.t 1079)))]))
 (.block 5
 ac34_r24))))
 ac34_r29)
def ac34_r18:AC:=
 (.seq (.reg [0,126,1,2,4,7,8] [
 (aO 70 (.ld true 5 (.t 2))),(aO 71 (.clm 56 [(.t 70)])),(aO 16 (.alc [.nil,.nil,.nil,.nil])),(aN (.sto 4 (.t 16) (.t 71)))])
 (.seq (.reg [0,126,1,2,4,7,8,16] [
 (aO 72 (.mv (.t 1))),(aO 73 (.len (.t 72))),(aO 74 (.mks 1 3 8 [zI] (.t 73) (.t 73))),(aO 17 (.alc [.nil])),(aN (.sto 1 (.t 17) (.t 74)))])
 (.seq (.reg [0,126,1,2,4,7,8,16,17] [
 (aO 75 (.mkf 57 [(.t 8),(.t 17)])),(aO 18 (.alc [.sc .nilFunc])),(aN (.sto 1 (.t 18) (.t 75)))])
 ac34_r21)))
def ac34_r3:AC:=
 (.seq (.reg [0,126,1,2,4] [
 (aO 7 (.mv (kI 0)))])
 (.seq (.reg [0,126,1,2,4,7] [
 (aO 29 (.mv (.t 1))),(aO 30 (.len (.t 29))),(aO 31 (.xo (.mkx 24 (.nil)) [(.t 30)])),(aO 8 (.alc [.nil])),(aN (.sto 1 (.t 8) (.t 31)))])
 (.seq (.seq (.reg [0,126,1,2,4,7,8] [
 (aO 32 (.mv (.t 1))),(aO 33 (.len (.t 32))),(aO 34 (.mv (kI 0)))])
 (.block 0
 (.lps [0,126,1,2,4,7,8,32,33,34]
 (.seq (.reg [0,126,1,2,4,7,8,32,33,34] [
 (aO 35 (.cmp .lss .i64 (.t 34) (.t 33)))])
 (.seq (.cond (.t 35)
 .skip
 (.exit 0))
 (.seq (.block 1
 (.seq (.reg [0,126,1,2,4,7,8,32,33,34] [
 (aO 36 (.mv (.t 34))),(aO 37 (.ixs 1 (.t 32) (.t 34))),(aO 38 (.ld true 1 (.t 37))),(aO 10 (.alc [.nil])),(aO 9 (.mv (.t 36))),(aN (.sto 1 (.t 10) (.t 38)))])
 ac34_r8))
 (.reg [0,126,1,2,4,7,8,32,33,34] [
 (aO 69 (.ari .add true .i64 (.t 34) (kI 1))),(aO 34 (.mv (.t 69)))])))))))
 ac34_r18)))
def ac34:AC:=
 (.seq (.reg [0,126,0,1] [
 (aO 2 (.box (.t 0))),(aO 4 (.alc [.nil,.nil,.nil,.nil])),(aO 5 (.mv (kI 0))),(aO 6 (.mv (kI 0)))])
 (.seq (.seq (.reg [0,126,1,2,4] [
 (aO 23 (.mv (.t 1))),(aO 24 (.ld true 5 (.t 2))),(aO 25 (.cal 15 [(.t 24)])),(aO 26 (.cal 54 [(.t 23),(.t 25),(.c (.sc (.func (.func 55) #[] #[])))])),(aO 27 (.not (.t 26)))])
 (.cond (.t 27)
 (.seq (.reg [0,126,4] [
 (aO 28 (.bld [.nil,.nil,.nil,.nil] [])),(aN (.sto 4 (.t 4) (.t 28))),(aO 5 (.mv (kI 0))),(aO 6 (.mv (kI 380)))])
 .ret)
 .skip))
 ac34_r3))
def rv34:List RV:=[.cell 4 true 4,.tmp 5,.tmp 6]
theorem ok34:fnOk Tryd.prog ac34 rv34 Tryd.f34=true:=by kernel_rfl

def ac57_2000:AC:=
 (.seq (.reg [2000,32,2000,2001,2002] [
 (aO 2004 (.mv (kI 0)))])
 (.seq (.drw [2000,32,2000,2001,2002] [
 (eT 2006 (.ld false 1 (.t 2001))),(eT 2007 (.mv (.t 2000))),(eT 2008 (.ixs 1 (.t 2006) (.t 2007))),(eT 2009 (.ld false 1 (.t 2008))),(eT 2010 (.ld false 1 (.t 2002))),(eT 2011 (.mv (.t 2000))),(eT 2012 (.ixs 1 (.t 2010) (.t 2011))),(eT 2013 (.ld false 1 (.t 2012))),(eT 2014 (.dvd .quo true .i64 (.t 2013) (kI 57))),(eT 2015 (.ixs 1 (.t 2009) (.t 2014))),(eT 2016 (.ld false 1 (.t 2015))),(eT 2017 (.ld false 1 (.t 2002))),(eT 2018 (.mv (.t 2000))),(eT 2019 (.ixs 1 (.t 2017) (.t 2018))),(eT 2020 (.ld false 1 (.t 2019))),(eT 2021 (.dvd .rem true .i64 (.t 2020) (kI 57))),(eF 2022 (.shf .shr .u64 (.t 2016) (.t 2021))),(eF 2023 (.bit .and .u64 (.t 2022) (.c (.sc (.int .u64 1))))),(eF 2005 (.mv (.t 2023)))])
 (.seq (.reg [2000,32,2000,2002,2005] [
 (aO 2024 (.ld false 1 (.t 2002))),(aO 2025 (.mv (.t 2000))),(aO 2026 (.ixs 1 (.t 2024) (.t 2025))),(aO 2027 (.ld false 1 (.t 2026))),(aO 2028 (.ari .add true .i64 (.t 2027) (kI 1))),(aO 2029 (.ixs 1 (.t 2024) (.t 2025))),(aN (.sto 1 (.t 2029) (.t 2028)))])
 (.seq (.reg [2000,32,2005] [
 (aO 2030 (.mv (.t 2005))),(aO 2031 (.cnv true .i64 (.t 2030))),(aO 2004 (.mv (.t 2031)))])
 .ret))))
def rv57_2000:List RV:=[.tmp 2004]
theorem ok57_2000:qh3 Tryd.prog 2000 ac57_2000 rv57_2000 Tryd.f57=true:=by kernel_rfl

def ac56_100:AC:=
 (.seq (.reg [100,17,100] [
 (aO 101 (.box (.t 100))),(aO 102 (.alc [.nil,.nil,.nil,.nil]))])
 (.seq (.reg [100,17,101,102] [
 (aO 104 (.fa 4 (.t 101))),(aO 105 (.ld false 1 (.t 104))),(aO 106 (.len (.t 105))),(aO 103 (.mv (.t 106)))])
 (.seq (.drw [100,17,101,102,103] [
 (eU 107 (.ld true 5 (.t 101)) [] [111,113,115]),(eU 108 (.cal 39 [(.t 107)]) [] [111,113,115]),(eU 109 (.mks 1 3 8 [zI] (.t 108) (.t 108)) [109] [111,113,115]),(eU 110 (.mv (.t 103)) [] [109,113,115]),(eU 111 (.mks 1 3 8 [zI] (.t 110) (.t 110)) [111] [109,113,115]),(eU 112 (.mv (.t 103)) [] [109,111,115]),(eU 113 (.mks 1 3 8 [zI] (.t 112) (.t 112)) [113] [109,111,115]),(eU 114 (.mv (.t 103)) [] [109,111,113]),(eU 115 (.mks 1 3 8 [zI] (.t 114) (.t 114)) [115] [109,111,113]),(eF 116 (.bld [.nil,.nil,.nil,.nil] [(0,1,(.t 109)),(1,1,(.t 111)),(2,1,(.t 113)),(3,1,(.t 115))])),⟨(aN (.sto 4 (.t 102) (.t 116))),[],[],false⟩])
 .ret)))
def rv56_100:List RV:=[.cell 102 true 4]
theorem ok56_100:qh3 Tryd.prog 100 ac56_100 rv56_100 Tryd.f56=true:=by kernel_rfl
end Go.Proofs.YtecoaapkcnhlhaaDoor.Txt
