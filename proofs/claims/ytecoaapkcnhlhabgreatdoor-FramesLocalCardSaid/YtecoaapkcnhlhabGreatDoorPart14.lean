/- VcZr IF TxtF HW HX TxtC HU HY HZ VcZy VcZz IGa: lemmas -/
import Derived.Test.YtecoaapkcnhlhabGreatDoorPart11
import Derived.Test.YtecoaapkcnhlhabGreatDoorPart13
import Derived.Test.YtecoaapkcnhlhabGreatDoorPart06
import Derived.Test.YtecoaapkcnhlhabGreatDoorChecked
set_option linter.unusedSimpArgs false
set_option linter.unusedVariables false
open Bool renaming and_eq_true->zN
open List renaming getD_eq_getElem?_getD->zK,getElem?_eq_getElem->zL,getElem?_eq_some_iff->zM,mem_of_getElem? ->zP,getElem?_map->zS,mem_cons_of_mem->zT,length_append->zU,length_cons->zV,map_cons->zW,mem_cons_self->zX,take_of_length_le->zY,take_succ_eq_append_getElem->zZ,any_eq_false->yD,all_eq_true->yE,length_map->yG,map_append->yH
open Int renaming reduceToNat->zH,reduceNeg->zJ
open Nat renaming reduceEqDiff->zA,reduceAdd->zB,reduceSub->zC,reduceMul->zD,reduceBEq->zE,reduceLT->zF,reduceLeDiff->zG
namespace Go.Vc
open Go Go.RowKit
def outL(l:List Nat)(i:Nat):Bool:= !inL l i
def qDO(nb na:List Nat)(r:PV)(st:St):Bool:=
 (st.s.isEmpty&&st.m.isEmpty)&&(st.b.all (fun x=>inL nb x.1&& !x.2.any (PV.to (outL nb) (outL na)))&&st.a.all (fun x=>inL na x.1))&& !r.toV (outL nb) (outL na)
def qDP(nb na:List Nat)(st:St):Bool:=st.noTo (inL nb) (inL na)&&(st.b.all (fun x=> !inL nb x.1)&&st.a.all (fun x=> !inL na x.1))
theorem qDQ{α:Type}{l:List (Nat×α)}{i:Nat}{v:α}(h:lk l i=some v):(i,v)∈l:=by
 induction l with
 |nil=>cases h
 |cons x r ih=>
   obtain⟨k,u⟩:=x
   simp only[lk]at h
   split at h
   ·rename_i e;cases h;subst e;simp
   ·exact zT _ (ih h)
theorem qDR{α:Type}{l r:List (Nat×α)}{i:Nat}{v:α}(h:lk (l++r) i=some v):lk l i=some v\/lk r i=some v:=by
 induction l with
 |nil=>exact .inr h
 |cons x l ih=>
   obtain⟨k,u⟩:=x
   simp only[List.cons_append,lk]at h ⊢
   split at h
   ·rename_i e;rw[if_pos e];exact .inl h
   ·rename_i e;rw[if_neg e];exact ih h
section
variable {w0:World} {Z0:Zone} {X:Gh} {G:Nat->Value} {Z:Zone} {L:Lay} {st:St} {w:World}
theorem Inv.join (hM : Mem w0 Z0 X G Z L st w) {w' : World} {Z' : Zone} {L' : Lay} {st' : St} {nb na : List Nat} {r : PV} {X' : Gh} {G' : Nat -> Value} (hX : X'.y = X.y) (hN : Mem w Z X' G' Z' L' st' w') (ho : qDO nb na r st' = true) (hst : qDP nb na st = true) :
  ∃L2,LSame L' L2 (outL nb) (outL na)/\Mem w0 Z0 X G Z' L2 ⟨st.s,st.b++st'.b,st.a++st'.a,st.m⟩ w' :=by
 simp only[qDO,qDP,zN,yE,Bool.not_eq_true']at ho hst
 obtain⟨⟨⟨hs0,hm0⟩,hob,hoa⟩,_⟩:=ho
 obtain⟨hno,hsb,hsa⟩:=hst
 let L2:Lay:=⟨fun i=>if inL nb i=true then L'.bx i else L.bx i,fun i=>if inL na i=true then L'.ab i else L.ab i,fun i=>if inL na i=true then L'.ac i else L.ac i,fun i=>if inL na i=true then L'.ae i else L.ae i,fun i=>if inL na i=true then L'.al i else L.al i,L.yb,fun i=>if inL nb i=true then L'.bc i else L.bc i⟩
 have hyb: ∀i,L'.yb i=L.yb i:=fun i=>by rw[hN.yb i,hM.yb i];exact congrFun hX i
 have l1:LSame L L2 (inL nb) (inL na):=⟨fun i hi=>by simp[L2,hi],fun i hi=>by simp[L2,hi],fun i hi=>by simp[L2,hi],fun i hi=>by simp[L2,hi],fun i hi=>by simp[L2,hi],fun _ _=>rfl,fun i hi=>by simp[L2,hi]⟩
 have l2:LSame L' L2 (outL nb) (outL na):=⟨fun i hi=>by simp[outL]at hi;simp[L2,hi],fun i hi=>by simp[outL]at hi;simp[L2,hi],fun i hi=>by simp[outL]at hi;simp[L2,hi],fun i hi=>by simp[outL]at hi;simp[L2,hi],fun i hi=>by simp[outL]at hi;simp[L2,hi],fun i _=>(hyb i).symm,fun i hi=>by simp[outL]at hi;simp[L2,hi]⟩
 refine⟨L2,l2,?_⟩
 have hmv:Mem w0 Z0 X G Z' L st w' :=hM.move hN.z0 hN.zt hN.zn hN.zb hN.below
 have hw:w0.heap.size<=w.heap.size:=hM.below.size
 have hk:Kept Z' w' w' :=⟨fun _ _ _=>rfl⟩
 have hz: ∀p b,Z' p b->Z' p b:=fun _ _ h=>h
 have ob: ∀ {i cs},lk st.b i=some cs->inL nb i=false:=fun h=>hsb _ (qDQ h)
 have oa: ∀ {i A},lk st.a i=some A->inL na i=false:=fun h=>hsa _ (qDQ h)
 have nB: ∀ {i cs},lk st'.b i=some cs->inL nb i=true/\cs.any (PV.to (outL nb) (outL na))=false:=fun h=>hob _ (qDQ h)
 have nA: ∀ {i A},lk st'.a i=some A->inL na i=true:=fun h=>hoa _ (qDQ h)
 have obx: ∀ {i cs},lk st.b i=some cs->L2.bx i=L.bx i:=fun h=>l1.bx _ (ob h)
 have oax: ∀ {i A},lk st.a i=some A->L2.ab i=L.ab i:=fun h=>l1.ab _ (oa h)
 have nbx: ∀ {i cs},lk st'.b i=some cs->L2.bx i=L'.bx i:=fun h=>l2.bx _ (by simp[outL,(nB h).1])
 have nax: ∀ {i A},lk st'.a i=some A->L2.ab i=L'.ab i:=fun h=>l2.ab _ (by simp[outL,nA h])
 refine⟨hmv.zt,hmv.z0,hmv.zn,hmv.zb,hmv.below,?_,?_,?_,?_,?_,?_,?_,?_,?_,?_,hmv.oth,hM.yb,hmv.size,hmv.defers,?_⟩
 ·intro i cs hi
  rcases qDR hi with hi|hi
  ·rw[obx hi];exact hmv.ownb i cs hi
  ·rw[nbx hi];exact⟨Nat.le_trans hw (hN.ownb i cs hi).1,(hN.ownb i cs hi).2⟩
 ·intro i A hi
  rcases qDR hi with hi|hi
  ·rw[oax hi];exact hmv.owna i A hi
  ·rw[nax hi];exact⟨Nat.le_trans hw (hN.owna i A hi).1,(hN.owna i A hi).2⟩
 ·intro i j x y hi hj he
  rcases qDR hi with hi|hi<;>rcases qDR hj with hj|hj
  ·rw[obx hi,obx hj]at he;exact hM.injb i j x y hi hj he
  ·rw[obx hi,nbx hj]at he
   have h1:=(hM.ownb i x hi).2.1;have h2:=(hN.ownb j y hj).1;omega
  ·rw[nbx hi,obx hj]at he
   have h1:=(hN.ownb i x hi).1;have h2:=(hM.ownb j y hj).2.1;omega
  ·rw[nbx hi,nbx hj]at he;exact hN.injb i j x y hi hj he
 ·intro i j x y hi hj he
  rcases qDR hi with hi|hi<;>rcases qDR hj with hj|hj
  ·rw[oax hi,oax hj]at he;exact hM.inja i j x y hi hj he
  ·rw[oax hi,nax hj]at he
   have h1:=(hM.owna i x hi).2.1;have h2:=(hN.owna j y hj).1;omega
  ·rw[nax hi,oax hj]at he
   have h1:=(hN.owna i x hi).1;have h2:=(hM.owna j y hj).2.1;omega
  ·rw[nax hi,nax hj]at he;exact hN.inja i j x y hi hj he
 ·intro i j x y hi hj he
  rcases qDR hi with hi|hi<;>rcases qDR hj with hj|hj
  ·rw[obx hi,oax hj]at he;exact hM.injx i j x y hi hj he
  ·rw[obx hi,nax hj]at he
   have h1:=(hM.ownb i x hi).2.1;have h2:=(hN.owna j y hj).1;omega
  ·rw[nbx hi,oax hj]at he
   have h1:=(hN.ownb i x hi).1;have h2:=(hM.owna j y hj).2.1;omega
  ·rw[nbx hi,nax hj]at he;exact hN.injx i j x y hi hj he
 ·intro i cs hi
  rcases qDR hi with hi|hi
  ·exact(hmv.boxes i cs hi).keep hk hz rfl l1 (ob hi) (St.noTo_box hno hi)
  ·exact(hN.boxes i cs hi).keep hk hz rfl l2 (by simp[outL,(nB hi).1]) (nB hi).2
 ·intro i A hi
  rcases qDR hi with hi|hi
  ·obtain⟨cur,hx⟩:=hmv.arrs i A hi
   exact⟨cur,hx.keep hk hz rfl l1 (oa hi)⟩
  ·obtain⟨cur,hx⟩:=hN.arrs i A hi
   exact⟨cur,hx.keep hk hz rfl l2 (by simp[outL,nA hi])⟩
 ·intro i M hi
  rw[show L2.bx i=L.bx i from l1.bx i (St.noTo_map hno hi).1]
  exact hmv.ownm i M hi
 ·intro i j x y hi hj he
  rw[show L2.bx i=L.bx i from l1.bx i (St.noTo_map hno hi).1,show L2.bx j=L.bx j from l1.bx j (St.noTo_map hno hj).1]at he
  exact hM.injm i j x y hi hj he
 ·intro i M hi
  obtain⟨ents,clock,hR⟩:=hmv.maps i M hi
  refine⟨ents,clock,hR.keep hk hz rfl (fun j x y e=>⟨rfl,?_⟩) l1 (St.noTo_map hno hi).1 (St.noTo_map hno hi).2⟩
  have hit:=hR.it
  rw[e]at hit
  obtain⟨seen,_,_,h3,_⟩:=hit
  exact h3
 ·intro i v hi
  exact(hmv.slots i v hi).keep hk hz l1 (St.noTo_slot hno hi)
end
theorem FnM.fresh {E : Env} {f : Nat} {args : List PV} {st : St} {Q0 : PV -> St -> Prop} (nb na : List Nat) (hp : args.all qbO = true) (hst : qDP nb na st = true) (ho : ∀ r st', Q0 r st' -> qDO nb na r st' = true)
  (h:FnM (Env.of E.p) f args ⟨[],[],[],[]⟩ Q0):FnM E f args st fun r st' => ∃st0,Q0 r st0/\st' =⟨st.s,st.b++st0.b,st.a++st0.a,st.m⟩:=by
 refine⟨h.1,fun w0 Z0 X G Z L w vs hE hM hA=> ?_⟩
 have hin:Mem w Z ⟨[],X.y⟩ (fun _=>undef) Z { L00 with yb:=X.y } ⟨[],[],[],[]⟩ w:=by
  refine⟨hM.zt,fun _ _ h=>h,fun _ _ h=> .inl h,hM.zb,Below.refl _ _,?_,?_,?_,?_,?_,?_,?_,?_,?_,?_,fun x hx=>(by cases hx),fun _=>rfl,rfl,fun _ e=>(by cases e),fun i v hl=>(by cases hl)⟩
  all_goals (intros;rename_i hl _;first|(cases hl;done)|skip)
  all_goals (simp[lk]at *)
 have hargs:ArgsR w Z { L00 with yb:=X.y } args vs:=⟨hA.1,fun j c hj=>by
  have:=yE.1 hp c (zP hj)
  exact qbr (qck (hA.2 j c hj) this)⟩
 refine(h.2 w Z ⟨[],X.y⟩ (fun _=>undef) Z { L00 with yb:=X.y } w vs (EnvOK.of E.p w Z ⟨[],X.y⟩ (fun _=>undef) (hE.1.below hM.below)) hin hargs).mono ?_
 rintro e w' ⟨v,r,st',Z',L',rfl,hq,hN,hr⟩
 have hoo:=ho r st' hq
 obtain⟨L2,l2,hJ⟩:=hM.join (X' :=⟨[],X.y⟩) rfl hN hoo hst
 refine⟨v,r,_,Z',L2,rfl,⟨st',hq,rfl⟩,hJ,hr.keep ⟨fun _ _ _=>rfl⟩ (fun _ _ h=>h) l2 ?_⟩
 simp only[qDO,zN,Bool.not_eq_true']at hoo
 exact hoo.2
theorem qDS {P : Env} {d : Option Nat} {f : Nat} {args : List PV} {r : List AO} {st : St} {K : St -> Prop} {v : PV} {b' : List (Nat × List PV)} {a' : List (Nat × Arr)} (nb na : List Nat)
  (h:FnM (Env.of P.p) f args ⟨[],[],[],[]⟩ fun rv st' =>rv=v/\st' =⟨[],b',a',[]⟩) (hp:args.all qbO=true) (hst:qDP nb na st=true) (ho:qDO nb na v ⟨[],b',a',[]⟩=true)
  (hk:opsK P r ((⟨st.s,st.b++b',st.a++a',st.m⟩:St).put d v) K):clmK P d f args r st K:=by
 refine qsO (FnM.fresh nb na hp hst (fun rv st' h=> ?_) h) ?_
 ·obtain⟨rfl,rfl⟩:=h;exact ho
 ·rintro rv st' ⟨st0,⟨rfl,rfl⟩,rfl⟩
  exact hk
end Go.Vc
namespace Go.Proofs.YtecoaapkcnhlhabGreatDoor
open Go Go.Vc Go.Ham Txt
def qDT(g:Grid)(fs:List Fld):List Int:=(List.range (wN g+1)).map fun x=>(qBY fs x:Int)
theorem qDU{m:Nat}(x:Nat): ∀(fs:List Fld),(∀f∈fs,f.n<=m)->qBY fs x<=m*fs.length
 |[],_=>Nat.zero_le _
 | f :: r, h => by
   have h1:=qDU x r fun f hf=>h f (zT _ hf)
   have h2:=h f zX
   rw[qBY,zV,Nat.mul_add,Nat.mul_one]
   split<;>omega
theorem qDV(g:Grid)(x a n:Nat):(qCk g x a n).length=n:=by simp[qCk]
theorem qDW(g:Grid)(x:Nat): ∀k,(qCn g x k).length=k*(eN g+3)
 |0=>by simp[qCn]
 |k+1=>by rw[qCs,zU,qDW g x k,qCm,zU,qDV,Nat.add_mul,Nat.one_mul];rfl
theorem qDX(g:Grid): ∀k,(qCo g k).length=k*(hN g*(eN g+3))
 |0=>by simp[qCo]
 |k+1=>by rw[qCr,zU,qDX g k,qDW,Nat.add_mul,Nat.one_mul]
theorem qDY{g:Grid}(hg:GOk g):(qCq g).length<=10000000:=by
 have hn:=hg.n
 have hc:=hg.count
 have hcc:=hn.c
 have h1:hN g*(eN g+3)<=64*137:=Nat.mul_le_mul hn.h2 (by have:=hn.e2;omega)
 have h2:wN g*(hN g*(eN g+3))<=64*(64*137):=Nat.mul_le_mul hn.w2 h1
 rw[qCq,zU,qDX,qCp,qDV]
 omega
theorem qDZ: ∀(k n:Nat),Go.Lib.bitLenAux k n<=k
 |0,_=>Nat.le_refl _
 | k + 1, n => by
   have h:=qDZ k
   unfold Go.Lib.bitLenAux
   split<;>first|omega|(have:=h (n/2);omega)
theorem qE0{g:Grid}(hg:GOk g){fs:List Fld}(h:fs<+:qCq g)(x:Nat):qBY fs x<=1000000000:=by
 obtain⟨r,hr⟩:=h
 have h1:=qDU (m:=64) x (qCq g) fun f hf=>by
  rcases(qD8 hg hf).key with h|h|h|h<;>rw[h.2.2]<;>first|exact qDZ 64 _|decide
 rw[<- hr,qC2]at h1
 have:=qDY hg
 rw[hr]at h1
 omega
theorem qE1(g:Grid)(fs:List Fld):(qDT g fs).length=wN g+1:=by simp[qDT]
theorem qE2{g:Grid}{x:Nat}(h:x<=wN g)(fs:List Fld):(qDT g fs).getD x default=(qBY fs x:Int):=by
 rw[zK,qDT,zS,List.getElem?_range oM];rfl
theorem qE3{g:Grid}{f:Fld}(fs:List Fld):(qDT g fs).set f.x ((qBY fs f.x:Int)+f.n)=qDT g (fs++[f]):=by
 refine List.ext_getElem (by simp[qDT]) fun i h1 h2=> ?_
 rw[List.getElem_set]
 simp only[qDT,List.getElem_map,List.getElem_range,qC2,qBY]
 split
 all_goals first|omega|simp_all
theorem qE4(l:List Int):farV (.sl true 1 (ints l)):=⟨fun _ _=>⟨rfl,rfl⟩,fun _ _ _=>⟨rfl,rfl⟩⟩
theorem qE5(g:Grid):qDT g []=List.replicate (wN g+1) 0:=by
 rw[List.eq_replicate_iff]
 refine⟨by simp[qDT],fun b hb=> ?_⟩
 obtain⟨x,_,rfl⟩:=List.mem_map.1 hb
 rfl
set_option maxHeartbeats 4000000 in
theorem qE6(g:Grid)(hg:GOk g):FnM (Env.of Tryz.prog) 36 [.agg (quX false g)] ⟨[],[],[],[]⟩ (fun v st' =>v= .view 62 0 (wN g+1)/\ ∃b,st' =⟨[],b,[(62,⟨1,3,ints (qDT g (qCq g))⟩)],[]⟩):=by
 have hn:=hg.n
 have hb:=qy7 g hg
 refine quf 50 Tryz.func36 ok36_50 (by show 1<=_;decide) rfl (by decide) ?_
 simp only[ac36_50,rv36_50,push_cast,reduceIte,zA,zB,zC,zD,zE,zF,zG,reduceCtorEq,zH,zJ,cNI]
 refine qrv hb sC ?_
 refine sB ?_
 have hw:=hg.w
 have hw2:=hn.w
 refine⟨⟨oM,oM⟩,⟨oM,oM,oM,oM⟩,?_⟩
 rw[show(g.w+1).toNat=wN g+1 by omega,List.length_replicate,<- qE5 g]
 have hF : FnM (Env.of Tryz.prog) 45 [.agg (quX false g), .ptr 53 0] ⟨[(51, .ptr 51 0), (53, .ptr 53 0), (54, .ptr 54 0), (63, .agg (quX false g))], [(51, quX false g), (53, cfgC true (qxc g)), (54, [.view 62 0 (wN g + 1 : Nat)])], [(62, ⟨1, 3, ints (qDT g [])⟩)], []⟩
   (fun v st' =>v= .clo 66 [103,102,105]/\st' =⟨[(51,.ptr 51 0),(53,.ptr 53 0),(54,.ptr 54 0),(63,.agg (quX false g))],[(51,quX false g),(53,cfgC true (qxc g)),(54,[.view 62 0 (wN g+1:Nat)]),(102,quX false g),(103,[.ptr 53 0]),(105,[.int (qv1 g)])],[(62,⟨1,3,ints (qDT g [])⟩)],[]⟩):=by
  refine quf 100 Tryz.func45 ok45_100 (by show 2<=_;decide) rfl (by decide) ?_
  have ht:=hg.tracks
  simp only[ac45_100,rv45_100,push_cast,reduceIte,zA,zB,zC,zD,zE,zF,zG,reduceCtorEq,zH,zJ,cNI]
  exact⟨⟨oM,oM⟩,⟨oM,oM⟩,rfl⟩
 refine qsP hF ?_
 refine sB ?_
 refine qud (st1:=⟨[(54,.ptr 54 0),(64,.clo 66 [103,102,105])],[(51,quX false g),(53,cfgC true (qxc g)),(54,[.view 62 0 (wN g+1)]),(102,quX false g),(103,[.ptr 53 0]),(105,[.int (qv1 g)])],[(62,⟨1,3,ints (qDT g [])⟩)],[]⟩) (Env.of_noY _) rfl sC
  (qDg (s:=[(54,.ptr 54 0),(64,.clo 66 [103,102,105])]) rfl (by show 76<=200;decide) (fun _ _ h=>h) rfl g hg 103 102 105 53 _ _ _ _ _ (fun _=>[(51,quX false g),(53,cfgC true (qxc g)),(54,[.view 62 0 (wN g+1)]),(102,quX false g),(103,[.ptr 53 0]),(105,[.int (qv1 g)]),(204,[.yl 999])]) (fun pre=>[(62,⟨1,3,ints (qDT g pre)⟩)]) rfl rfl rfl sC sC (fun pre hp=>⟨rfl,rfl,rfl,rfl,rfl⟩) (fun pre hp=>⟨rfl,rfl,rfl,rfl⟩) ?_ ⟨by decide,by decide,by decide,by decide⟩ ⟨qE4 _,qE4 _,qE4 _,qE4 _⟩ ?_) ?_
 ·have hc:=hn.c
  have hk:=hn.k
  refine⟨?_,?_,?_,?_⟩<;>simp[qCV,qxc,cN,hk,rows]
 ·intro pre f hpf t ht h4 hft
  have hm:midL 50 26 ([(54,.ptr 54 0),(64,.clo 66 [103,102,105])]++t)=[(54,.ptr 54 0),(64,.clo 66 [103,102,105])]:=by
   rw[List.cons_append,List.cons_append,List.nil_append,qtU,qtU,qCT fun x hx=>by have:=h4 x hx;omega]
   rfl
  have hs:qtX 1000 ([(54,.ptr 54 0),(64,.clo 66 [103,102,105])]++t)=true:=by simpa[qtX]using ht
  refine qCF rfl rfl hs ?_
  rw[hm]
  have hS: ∀j,1000<=j->farL j ([(54,.ptr 54 0),(64,.clo 66 [103,102,105])]++t):=by
   intro j hj
   have n1: ∀i,i<1000->(i==j)=false:=fun i hi=>beq_false_of_ne oM
   simp only[qD0,n1 54 (by decide),n1 103 (by decide),n1 102 (by decide),n1 105 (by decide),hft j hj,push_cast,reduceIte,zA,zB,zC,zD,zE,zF,zG,reduceCtorEq,zH,zJ,cNI]
  have hg4:getL ([(54,.ptr 54 0),(64,.clo 66 [103,102,105])]++t) 54= .ptr 54 0:=rfl
  clear hm ht h4
  generalize [(54,PV.ptr 54 0),(64,.clo 66 [103,102,105])]++t=S at hs hS hg4 ⊢
  unfold qua
  have hfi:=qD8 hg (hpf.subset (List.mem_append_right _ zX))
  have hfx:=hfi.x
  have hbd:=qE0 hg hpf f.x
  rw[qC2]at hbd
  simp only[qBY,if_true]at hbd
  obtain⟨l,hl⟩: ∃l,cfK (.sl true 1 (ints (qxc g).sel)) (.sl true 1 (ints (qxc g).mode)) (.sl true 1 (ints (qxc g).tab)) (.sl true 1 (ints (qxc g).ram)) f.kind= .sl true 1 (ints l):=by
   rcases hfi.key with h|h|h|h<;>rw[h.1]<;>exact⟨_,rfl⟩
  obtain⟨p1,p2⟩:=qCX (a:=[]) (v:= .sl true 1 (ints l)) rfl f.i
  obtain⟨p3,-⟩:=(qE4 l).2 f.i 1006 (by decide)
  simp only[qCA hs,qCz hs,hg4,qCB hs,qCC hs,qCD hs,qD4,qD1 (hS 1006 (by decide)),hl,p1,p2,p3,push_cast,reduceIte,zA,zB,zC,zD,zE,zF,zG,reduceCtorEq,zH,zJ,cNI]
  rw[qE2 hfx,qE3,qE1]
  exact⟨⟨oM,oM⟩,oM,⟨oM,oM⟩,⟨oM,oM⟩,oM,_,SWk.drop (fun i=>Nat.blt i 1000) (fun _=>true),hs,rfl⟩
 ·rintro _ _ rfl
  refine sB ?_
  exact⟨rfl,_,rfl⟩
theorem qE7(g:Grid)(hg:GOk g):FnM (Env.of Tryz.prog) 36 [.agg (quX false g)] ⟨[],[],[],[]⟩ (fun v st' =>v= .view 62 0 (wN g+1)/\st' =⟨[],[],[(62,⟨1,3,ints (qDT g (qCq g))⟩)],[]⟩):=by
 refine FnM.mono (FnM.postB (fun _=>[]) (qE6 g hg)) ?_
 rintro v _ ⟨_,⟨rfl,b,rfl⟩,rfl⟩
 exact⟨rfl,by rw[qum];congr 1;induction b with
  |nil=>rfl
  |cons x r ih=>exact ih⟩
def midV(g:Grid)(k:Nat):List Int:=(List.range (wN g+1)).map fun x=>if x<k then(nW (qDv g x):Int)else(qDv g x:Int)
theorem qE8(g:Grid)(k:Nat):(midV g k).length=wN g+1:=by simp[midV]
theorem qE9{g:Grid}{k:Nat}(h:k<=wN g):(midV g k).getD k default=(qDv g k:Int):=by
 rw[zK,midV,zS,List.getElem?_range oM,Option.map_some,if_neg oM];rfl
theorem qEa(g:Grid)(k:Nat):(midV g k).set k (nW (qDv g k):Int)=midV g (k+1):=by
 refine List.ext_getElem (by simp[midV]) fun i h1 h2=> ?_
 rw[List.getElem_set]
 simp only[midV,List.getElem_map,List.getElem_range]
 split
 ·next h=>subst h;rw[if_pos oM]
 ·next h => by_cases h3 : i < k
            ·rw[if_pos h3,if_pos oM]
            ·rw[if_neg h3,if_neg oM]
theorem qEb(g:Grid):midV g 0=qDT g (qCq g):=rfl
theorem qEc(g:Grid):midV g (wN g+1)=(qDw g).map Int.ofNat:=by
 rw[midV,qDw,List.map_map]
 exact List.map_congr_left fun x hx=>by rw[if_pos (List.mem_range.1 hx)];rfl
theorem qEd(g:Grid)(hg:GOk g):FnEq Tryz.prog 17 [.agg (quX false g)] (.sl true 1 (ints ((qDw g).map Int.ofNat))):=by
 have hn:=hg.n
 refine FnEq.of_awp Tryz.func17 ok17 (by show 1<=_;decide) (by simp only[push_cast,reduceIte,zA,zB,zC,zD,zE,zF,zG,reduceCtorEq,zH,zJ,cNI]<;>first|exact fun _ _=>trivial|simp) ?_
 simp only[ac17,rv17,push_cast,reduceIte,zA,zB,zC,zD,zE,zF,zG,reduceCtorEq,zH,zJ,cNI]
 refine qDS [] [62] (qE7 g hg) rfl rfl rfl ?_
 refine sB ?_
 rw[<- qEb]
 refine qoP (fun j st=> ∃k:Nat,k<=wN g+1/\j=wN g+1-k/\st=⟨[(3,.view 62 0 (wN g+1)),(8,.int ((wN g:Int)+1)),(9,.int k)],[],[(62,⟨1,3,ints (midV g k)⟩)],[]⟩) (wN g+1) ⟨0,oM,oM,by simp only[push_cast,reduceIte,zA,zB,zC,zD,zE,zF,zG,reduceCtorEq,zH,zJ,cNI]⟩ ?_
 rintro j st ⟨k,hk,rfl,rfl⟩
 refine sB ?_
 have hw2:=hn.w2
 refine qnY (fun h=> ?_) fun h=> ?_
 ·have hb:=qE0 hg List.prefix_rfl k
  have hb2:qDv g k<=1000000000:=hb
  rw[qE9 oM,qE8,show((qDv g k:Int)+57-1)/57=(nW (qDv g k):Int)from by unfold nW;omega,qEa]
  exact⟨⟨oM,oM⟩,oM,⟨oM,oM⟩,⟨oM,oM⟩,⟨oM,oM,by decide⟩,⟨oM,oM⟩,oM,⟨oM,oM⟩,wN g+1-(k+1),oM,k+1,oM,rfl,rfl⟩
 ·obtain rfl:k=wN g+1:=by omega
  rw[zY (by rw[qE8];exact Nat.le_refl _),qEc]
  exact⟨fun _ _=>trivial,.refl _⟩
end Go.Proofs.YtecoaapkcnhlhabGreatDoor
namespace Go.Proofs.YtecoaapkcnhlhabGreatDoor.Txt
open Go Go.Vc
set_option maxRecDepth 100000
def xs26_13:List XO:=[⟨0,[],(aO 1048 (.ld false 1 (.t 1008)))⟩,⟨1,[],(aO 1049 (.mv (.t 1009)))⟩,⟨2,[],(aO 1050 (.ld false 1 (.t 1008)))⟩,⟨3,[],(aO 1051 (.mv (.t 1009)))⟩,⟨4,[2,3],(aO 1052 (.ixs 1 (.t 1050) (.t 1051)))⟩,⟨5,[4],(aO 1053 (.ld false 1 (.t 1052)))⟩,⟨6,[],(aO 1054 (.bsl 1 52 [.sc (.int .u64 0)] 1 [(0,(.c (.sc (.int .u64 0))))]))⟩,⟨7,[5,6],(aO 1055 (.app 1 52 8 (.t 1053) (.t 1054)))⟩,⟨8,[0,1,2,3,4,5,6,7],(aO 1056 (.ixs 1 (.t 1048) (.t 1049)))⟩,⟨9,[0,1,2,3,4,5,6,7,8],(aN (.sto 1 (.t 1056) (.t 1055)))⟩]
theorem xs26_13_all{p:XO->Prop} :(∀x∈xs26_13,p x) ↔ p ⟨0,[],(aO 1048 (.ld false 1 (.t 1008)))⟩/\p ⟨1,[],(aO 1049 (.mv (.t 1009)))⟩/\p ⟨2,[],(aO 1050 (.ld false 1 (.t 1008)))⟩/\p ⟨3,[],(aO 1051 (.mv (.t 1009)))⟩/\p ⟨4,[2,3],(aO 1052 (.ixs 1 (.t 1050) (.t 1051)))⟩/\p ⟨5,[4],(aO 1053 (.ld false 1 (.t 1052)))⟩/\p ⟨6,[],(aO 1054 (.bsl 1 52 [.sc (.int .u64 0)] 1 [(0,(.c (.sc (.int .u64 0))))]))⟩/\p ⟨7,[5,6],(aO 1055 (.app 1 52 8 (.t 1053) (.t 1054)))⟩/\p ⟨8,[0,1,2,3,4,5,6,7],(aO 1056 (.ixs 1 (.t 1048) (.t 1049)))⟩/\p ⟨9,[0,1,2,3,4,5,6,7,8],(aN (.sto 1 (.t 1056) (.t 1055)))⟩:=by simp only[xs26_13,List.forall_mem_cons,List.not_mem_nil,false_implies,implies_true,and_true]
def ac26_r14:AC:=
 (.seq (.drw [1000,125,1007,1008,1009,1010,1011,1038,1039] [
 (eT 1057 (.ld false 1 (.t 1008))),(eT 1058 (.mv (.t 1009))),(eT 1059 (.ixs 1 (.t 1057) (.t 1058))),(eT 1060 (.ld false 1 (.t 1059))),(eT 1061 (.ld false 1 (.t 1007))),(eT 1062 (.mv (.t 1009))),(eT 1063 (.ixs 1 (.t 1061) (.t 1062))),(eT 1064 (.ld false 1 (.t 1063))),(eT 1065 (.dvd .quo true .i64 (.t 1064) (kI 57))),(eT 1066 (.ixs 1 (.t 1060) (.t 1065))),(eT 1067 (.ld false 1 (.t 1066))),(eT 1068 (.fa 0 (.t 1010))),(eT 1069 (.ld false 1 (.t 1068))),(eT 1070 (.nck (.t 1069))),(eT 1071 (.ld false 1 (.t 1070))),(eT 1072 (.mv (.t 1011))),(eT 1073 (.shf .shr .i64 (.t 1071) (.t 1072))),(eT 1074 (.bit .and .i64 (.t 1073) (kI 1))),(eT 1075 (.cnv true .u64 (.t 1074))),(eT 1076 (.ld false 1 (.t 1007))),(eT 1077 (.mv (.t 1009))),(eT 1078 (.ixs 1 (.t 1076) (.t 1077))),(eT 1079 (.ld false 1 (.t 1078))),(eT 1080 (.dvd .rem true .i64 (.t 1079) (kI 57))),(eT 1081 (.shf .shl .u64 (.t 1075) (.t 1080))),(eF 1082 (.bit .or .u64 (.t 1067) (.t 1081))),(eF 1083 (.ixs 1 (.t 1060) (.t 1065))),⟨(aN (.sto 1 (.t 1083) (.t 1082))),[],[],false⟩])
 (.reg [1000,125,1007,1008,1009,1010,1038,1039] [
 (aO 1084 (.ld false 1 (.t 1007))),(aO 1085 (.mv (.t 1009))),(aO 1086 (.ixs 1 (.t 1084) (.t 1085))),(aO 1087 (.ld false 1 (.t 1086))),(aO 1088 (.ari .add true .i64 (.t 1087) (kI 1))),(aO 1089 (.ixs 1 (.t 1084) (.t 1085))),(aN (.sto 1 (.t 1089) (.t 1088)))]))
def ac26_r11:AC:=
 (.seq (.reg [1000,125,1007,1008,1009,1010,1038,1039] [
 (aO 1041 (.mv (.t 1039))),(aO 1011 (.mv (.t 1041)))])
 (.seq (.seq (.reg [1000,125,1007,1008,1009,1010,1011,1038,1039] [
 (aO 1042 (.ld false 1 (.t 1007))),(aO 1043 (.mv (.t 1009))),(aO 1044 (.ixs 1 (.t 1042) (.t 1043))),(aO 1045 (.ld false 1 (.t 1044))),(aO 1046 (.dvd .rem true .i64 (.t 1045) (kI 57))),(aO 1047 (.cmp .eql .i64 (.t 1046) (kI 0)))])
 (.cond (.t 1047)
 (.dra [1000,125,1007,1008,1009,1010,1011,1038,1039] xs26_13)
 .skip))
 ac26_r14))
def ac26_r9:AC:=
 (.seq (.reg [1000,125,1007,1008,1009,1010] [
 (aO 1037 (.fa 1 (.t 1010))),(aO 1038 (.ld false 1 (.t 1037))),(aO 1039 (.mv (kI 0)))])
 (.block 2
 (.lps [1000,125,1007,1008,1009,1010,1038,1039]
 (.seq (.reg [1000,125,1007,1008,1009,1010,1038,1039] [
 (aO 1040 (.cmp .lss .i64 (.t 1039) (.t 1038)))])
 (.seq (.cond (.t 1040)
 .skip
 (.exit 2))
 (.seq (.block 3
 ac26_r11)
 (.reg [1000,125,1007,1008,1009,1010,1038,1039] [
 (aO 1090 (.ari .add true .i64 (.t 1039) (kI 1))),(aO 1039 (.mv (.t 1090)))])))))))
def ac26_r17:AC:=
 (.seq (.seq (.wk (.reg [0,125,6,8] [
 (aO 91 (.mv (.t 6))),(aO 92 (.len (.t 91))),(aO 93 (.mv (kI 0)))]))
 (.block 4
 (.lps [0,125,6,8,92,93]
 (.seq (.reg [0,125,6,8,92,93] [
 (aO 94 (.cmp .lss .i64 (.t 93) (.t 92)))])
 (.seq (.cond (.t 94)
 .skip
 (.exit 4))
 (.seq (.block 5
 (.seq (.reg [0,125,6,8,92,93] [
 (aO 95 (.mv (.t 93))),(aO 12 (.mv (.t 95)))])
 (.seq (.reg [0,125,6,8,12,92,93] [
 (aO 96 (.ld false 1 (.t 8))),(aO 97 (.mv (.t 12))),(aO 98 (.ixs 1 (.t 96) (.t 97))),(aO 99 (.ld false 1 (.t 98))),(aO 100 (.len (.t 99))),(aO 101 (.mv (kI 0)))])
 (.block 6
 (.lps [0,125,6,8,12,92,93,99,100,101]
 (.seq (.reg [0,125,6,8,12,92,93,99,100,101] [
 (aO 102 (.cmp .lss .i64 (.t 101) (.t 100)))])
 (.seq (.cond (.t 102)
 .skip
 (.exit 6))
 (.seq (.block 7
 (.seq (.reg [0,125,6,8,12,92,93,99,100,101] [
 (aO 103 (.ixs 1 (.t 99) (.t 101))),(aO 104 (.ld false 1 (.t 103))),(aO 14 (.mv (.t 104)))])
 (.seq (.reg [0,125,6,8,12,14,92,93,99,100,101] [
 (aO 106 (.mv (.t 14))),(aO 107 (.cal 46 [(.t 106)])),(aO 105 (.mv (.t 107))),(aO 108 (.ext (.t 105) 0)),(aO 109 (.ext (.t 105) 1)),(aO 15 (.mv (.t 108))),(aO 16 (.mv (.t 109)))])
 (.reg [0,125,6,8,12,15,92,93,99,100,101] [
 (aO 110 (.mv (.t 6))),(aO 111 (.mv (.t 12))),(aO 112 (.mv (.t 6))),(aO 113 (.mv (.t 12))),(aO 114 (.ixs 1 (.t 112) (.t 113))),(aO 115 (.fa 0 (.t 114))),(aO 116 (.ld false 1 (.t 115))),(aO 117 (.mv (.t 15))),(aO 118 (.bsl 1 52 [.sc (.int .u64 0)] 1 [(0,(.t 117))])),(aO 119 (.app 1 52 8 (.t 116) (.t 118))),(aO 120 (.ixs 1 (.t 110) (.t 111))),(aO 121 (.fa 0 (.t 120))),(aN (.sto 1 (.t 121) (.t 119)))]))))
 (.reg [0,125,6,8,12,92,93,99,100,101] [
 (aO 122 (.ari .add true .i64 (.t 101) (kI 1))),(aO 101 (.mv (.t 122)))])))))))))
 (.reg [0,125,6,8,92,93] [
 (aO 123 (.ari .add true .i64 (.t 93) (kI 1))),(aO 93 (.mv (.t 123)))])))))))
 (.seq (.wk (.reg [0,125,6] [
 (aO 124 (.mv (.t 6))),(aO 4 (.mv (.t 124))),(aO 5 (.mv (kI 0)))]))
 .ret))
def ac26:AC:=
 (.seq (.reg [0,125,0,1] [
 (aO 2 (.box (.t 0))),(aO 3 (.box (.t 1))),(aO 4 (.mv (.c (.nil)))),(aO 5 (.mv (kI 0)))])
 (.seq (.seq (.reg [0,125,2,3] [
 (aO 17 (.ld true 5 (.t 2))),(aO 18 (.ld true 4 (.t 3))),(aO 19 (.cal 44 [(.t 17),(.t 18)])),(aO 20 (.cmp .neq .i64 (.t 19) (kI 0)))])
 (.cond (.t 20)
 (.seq (.reg [0,125] [
 (aO 4 (.mv (.c (.nil)))),(aO 5 (.mv (kI 310)))])
 .ret)
 .skip))
 (.seq (.reg [0,125,2,3] [
 (aO 21 (.fa 0 (.t 2))),(aO 22 (.ld false 1 (.t 21))),(aO 23 (.ari .add true .i64 (.t 22) (kI 1))),(aO 24 (.xo (.mkx 24 (.nil)) [(.t 23)])),(aO 6 (.mv (.t 24)))])
 (.seq (.reg [0,125,2,3,6] [
 (aO 25 (.fa 0 (.t 2))),(aO 26 (.ld false 1 (.t 25))),(aO 27 (.ari .add true .i64 (.t 26) (kI 1))),(aO 28 (.mks 1 3 8 [zI] (.t 27) (.t 27))),(aO 7 (.alc [.nil])),(aN (.sto 1 (.t 7) (.t 28)))])
 (.seq (.reg [0,125,2,3,6,7] [
 (aO 29 (.fa 0 (.t 2))),(aO 30 (.ld false 1 (.t 29))),(aO 31 (.ari .add true .i64 (.t 30) (kI 1))),(aO 32 (.xo (.mkx 24 (.nil)) [(.t 31)])),(aO 8 (.alc [.nil])),(aN (.sto 1 (.t 8) (.t 32)))])
 (.seq (.seq (.reg [0,125,2,3,6,7,8] [
 (aO 33 (.ld true 5 (.t 2))),(aO 34 (.clm 45 [(.t 33),(.t 3)]))])
 (.block 0
 (.rngf ⟨(.t 34),0,125,1000,[0,125,6,7,8,34],999⟩ [1035,1036]
 (.seq (.reg [1000,125,1007,1008,1035,1036] [
 (aO 1009 (.mv (.t 1035)))])
 (.reg [1000,125,1007,1008,1009,1036] [
 (aO 1010 (.alc [.sc (.pointer none),zI])),(aN (.sto 2 (.t 1010) (.t 1036)))]))
 (.block 1
 ac26_r9))))
 ac26_r17))))))
def rv26:List RV:=[.tmp 4,.tmp 5]
theorem ok26:fnOk Tryz.prog ac26 rv26 Tryz.f26=true:=by kernel_rfl
end Go.Proofs.YtecoaapkcnhlhabGreatDoor.Txt
namespace Go.Proofs.YtecoaapkcnhlhabGreatDoor
open Go Go.Vc Txt Go.Ham
theorem qEe{w:Nat}(h0:w≠0)(h:w<2^64):Go.Lib.ctz 64 w<64/\w&&&(w-1)=w^^^2^Go.Lib.ctz 64 w/\w&&&(w-1)<w:=by
 obtain⟨m,h1,h2⟩:=Go.Lib.ctzFrom_spec 64 w oM h
 have e:Go.Lib.ctz 64 w=Go.Lib.ctzFrom 64 w:=by unfold Go.Lib.ctz;rw[if_neg h0]
 rw[e]
 obtain⟨a1,a2,_⟩:=qAj (Go.Lib.ctzFrom 64 w) m
 rw[<- h1]at a1 a2
 exact⟨h2,a1,by rw[a1];exact a2⟩
theorem qEf(n:Nat)(h:n<2^64):FnEq Tryz.prog 70 [.sc (.int .u64 n)] (.int (syn n 64:Nat)):=by
 refine FnEq.of_awp Tryz.func70 ok70 (by show 1<=_;decide) (by simp only[push_cast,reduceIte,zA,zB,zC,zD,zE,zF,zG,reduceCtorEq,zH,zJ,cNI]<;>first|exact fun _ _=>trivial|simp) ?_
 simp only[ac70,rv70,push_cast,reduceIte,zA,zB,zC,zD,zE,zF,zG,reduceCtorEq,zH,zJ,cNI]
 refine qoP (fun m st=> ∃w s:Nat,m=w/\w<2^64/\s<64/\s^^^syn w 64=syn n 64/\st=⟨[(0,.sc (.int .u64 w)),(3,.int s)],[],[],[]⟩) n ?_ ?_
 ·refine⟨n,0,rfl,h,by decide,by simp,?_⟩
  simp only[push_cast,reduceIte,zA,zB,zC,zD,zE,zF,zG,reduceCtorEq,zH,zJ,cNI]
  try rfl
 rintro w st ⟨_,s,rfl,hw,hs,he,rfl⟩
 refine sB ?_
 refine qnY (fun h1=> ?_) fun h1=> ?_
 ·have hw0:w≠0:=by omega
  obtain⟨c1,c2,c3⟩:=qEe hw0 hw
  refine qrv (qBk w hw) sC ?_
  refine sB ?_
  have e1:bitF .xor .i64 (s:Int) (Go.Lib.ctz 64 w:Nat)=((s^^^Go.Lib.ctz 64 w:Nat):Int):=qBt oM oM
  have e2:IntKind.u64.wrap ((w:Int)-1)=((w-1:Nat):Int):=by rw[show(w:Int)-1=((w-1:Nat):Int)from by omega];exact qBm oM
  rw[e1,e2,qBo hw oM]
  refine⟨_,?_,_,_,rfl,?_,?_,?_,rfl⟩
  ·exact c3
  ·omega
  ·exact Nat.xor_lt_two_pow (n:=6) hs c1
  ·rw[<- he,c2,qzE,qzG,if_pos c1,Nat.xor_assoc,Nat.xor_comm (syn w 64),<- Nat.xor_assoc (Go.Lib.ctz 64 w),Nat.xor_self,Nat.zero_xor]
 ·have hw0:w=0:=by omega
  subst hw0
  rw[qzD,Nat.xor_zero]at he
  rw[he]
theorem qEg(w:Nat): ∀n,ons w n<=n
 |0=>Nat.le_refl _
 |n+1=>by have:=qEg w n;rw[ons];cases w.testBit n<;>simp<;>omega
theorem qEh(n:Nat)(h:n<2^64):FnEq Tryz.prog 84 [.sc (.int .u64 n)] (.int (chkW n:Nat)):=by
 refine FnEq.of_awp Tryz.func84 ok84 (by show 1<=_;decide) (by simp only[push_cast,reduceIte,zA,zB,zC,zD,zE,zF,zG,reduceCtorEq,zH,zJ,cNI]<;>first|exact fun _ _=>trivial|simp) ?_
 simp only[ac84,rv84,push_cast,reduceIte,zA,zB,zC,zD,zE,zF,zG,reduceCtorEq,zH,zJ,cNI]
 have hol:=qEg n 64
 refine qrv (qBw n h) sC ?_
 refine sB ?_
 refine⟨oM,?_⟩
 refine qnY (fun h1=> ?_) fun h1=> ?_
 ·unfold chkW
  rw[if_pos oM]
  rfl
 ·refine qrv (qEf n h) sC ?_
  refine sB ?_
  refine qnY (fun h2=> ?_) fun h2=> ?_
  ·unfold chkW
   rw[if_neg oM,if_pos oM]
   rfl
  ·unfold chkW
   rw[if_neg oM,if_neg oM]
   rfl
theorem shl1{i:Nat}(hi:i<64):shfF .shl .u64 1 (i:Int)=((2^i:Nat):Int):=by
 have:=qBv (a:=1) (k:=i) oM (by rw[Nat.one_mul];exact Nat.pow_lt_pow_right (by decide) hi)
 rw[Nat.one_mul]at this
 exact this
theorem qEi(n i:Nat)(h:n<2^64)(hi:i<64):FnEq Tryz.prog 85 [.sc (.int .u64 n),.int i] (.sc (.int .u64 (n^^^2^i:Nat))):=by
 refine FnEq.of_awp Tryz.func85 ok85 (by show 2<=_;decide) (by simp only[push_cast,reduceIte,zA,zB,zC,zD,zE,zF,zG,reduceCtorEq,zH,zJ,cNI]<;>first|exact fun _ _=>trivial|simp) ?_
 simp only[ac85,rv85,push_cast,reduceIte,zA,zB,zC,zD,zE,zF,zG,reduceCtorEq,zH,zJ,cNI]
 rw[decide_eq_false (show ¬(i:Int)<0 by omega)]
 refine sB ?_
 rw[decide_eq_false (show ¬(63:Int)<i by omega)]
 refine sB ?_
 rw[shl1 hi,qBq h (Nat.pow_lt_pow_right (by decide) hi)]
 exact⟨oM,rfl⟩
theorem qEj {E : Env} (hE : E.p = Tryz.prog) (hkk : E.kk <= 2000) {s : List (Nat × PV)} {b : List (Nat × List PV)} {a : List (Nat × Arr)} {m : List (Nat × Mp)} (hpn : ∀ ch st, ¬ E.pan ch st) (hs : qtX 2000 s = true) (id w p : Nat) (hb : lk b id = some [.sc (.int .u64 w)]) (hw : w < 2 ^ 64) (hp : p < 64) :
  FnM E 68 [.int p,.ptr id 0] ⟨s,b,a,m⟩ (fun r st' =>r= .tup []/\st' =⟨s,up b id [.sc (.int .u64 (w|||2^p:Nat))],a,m⟩):=by
 refine quf 2000 (by rw[hE];exact Tryz.func68) (by rw[hE];exact ok68_2000) (by show 2<=_;decide) hs hkk ?_ hpn
 simp only[ac68_2000,rv68_2000,qCA hs,qCz hs,qCB hs,qCC hs,qCD hs,hb,push_cast,reduceIte,zA,zB,zC,zD,zE,zF,zG,reduceCtorEq,zH,zJ,cNI]
 rw[shl1 hp,qBp hw (Nat.pow_lt_pow_right (by decide) hp)]
 exact⟨oM,rfl⟩
def npl(p:Nat):Nat:=plc.countP fun x=>decide (x.2<p)
theorem qEk{p:Nat}(h1:3<=p)(h2:p<64):(p&&&(p-1)=0->npl (p+1)=npl p)/\(p&&&(p-1)≠0->plc[npl p]? =some (npl p,p)/\npl (p+1)=npl p+1)/\npl p<=57:=by
 have key:(List.range 64).all (fun p=>decide (p<3)||(if p&&&(p-1)=0 then decide (npl (p+1)=npl p)else decide (plc[npl p]? =some (npl p,p))&&decide (npl (p+1)=npl p+1))&&decide (npl p<=57))=true:=by decide+kernel
 have:=yE.1 key p (List.mem_range.2 h2)
 rw[decide_eq_false (show ¬p<3 by omega),Bool.false_or,zN,decide_eq_true_eq]at this
 obtain⟨h3,h4⟩:=this
 refine⟨fun e=> ?_,fun e=> ?_,h4⟩
 ·rw[if_pos e]at h3;simpa using h3
 ·rw[if_neg e,zN,decide_eq_true_eq,decide_eq_true_eq]at h3;exact h3
def plT(k p:Nat):List (Nat×PV):=[(200,.yl 999),(202,.int k),(203,.int p),(213,.yl 999),(214,.int k),(215,.int p)]
theorem qEl {E : Env} (hE : E.p = Tryz.prog) (hkk : E.kk <= 200) (hpn : ∀ ch st, ¬ E.pan ch st) {s : List (Nat × PV)} (hs : qtX 200 s = true) (B : Nat -> List (Nat × List PV)) (a : List (Nat × Arr)) (m : List (Nat × Mp))
  (hY: ∀k p:Nat,plc[k]? =some (k,p)->p<64->E.Y 999 [.int k,.int p] ⟨s++plT k p,B k,a,m⟩ (fun st' =>st' =⟨s++plT k p,B (k+1),a,m⟩)):
  FnM E 69 [.yl 999] ⟨s,B 0,a,m⟩ (fun _ st' =>st' =⟨s,B 57,a,m⟩):=by
 refine quf 200 (by rw[hE];exact Tryz.func69) (by rw[hE];exact ok69_200) (by show 1<=_;decide) hs hkk ?_ hpn
 simp only[ac69_200,rv69_200,qCA hs,qCz hs,qCB hs,qCC hs,qCD hs,push_cast,reduceIte,zA,zB,zC,zD,zE,zF,zG,reduceCtorEq,zH,zJ,cNI]
 refine qoO (fun n st=> ∃p:Nat,3<=p/\p<=64/\n=64-p/\st=⟨s++[(200,.yl 999),(202,.int (npl p:Nat)),(203,.int p)],B (npl p),a,m⟩) 61 ⟨_,SWk.refl _,3,oM,oM,rfl,?_⟩ ?_
 ·simp only[qCz hs,qCB hs,qCC hs,push_cast,reduceIte,zA,zB,zC,zD,zE,zF,zG,reduceCtorEq,zH,zJ,cNI]
  rfl
 rintro n st ⟨p,h3,h64,rfl,rfl⟩
 simp only[qCA hs,qCz hs,qCB hs,qCC hs,qCD hs,push_cast,reduceIte,zA,zB,zC,zD,zE,zF,zG,reduceCtorEq,zH,zJ,cNI]
 refine qnY (fun h=> ?_) fun h=> ?_
 ·have hp2:p<64:=by omega
  obtain⟨n1,n2,n3⟩:=qEk h3 hp2
  have e1:bitF .and .i64 (p:Int) ((p:Int)-1)=((p&&&(p-1):Nat):Int):=by
   rw[show(p:Int)-1=((p-1:Nat):Int)by omega];exact qBr oM oM
  rw[e1]
  refine⟨oM,?_⟩
  refine qnY (fun h2=> ?_) fun h2=> ?_
  ·refine⟨oM,_,SWk.refl _,64-(p+1),oM,p+1,oM,oM,rfl,?_⟩
   rw[n1 oM]
   rfl
  ·obtain⟨g1,g2⟩:=n2 oM
   refine⟨_,hY (npl p) p g1 hp2,?_⟩
   rintro _ rfl
   simp only[plT,qCA hs,qCz hs,qCB hs,qCC hs,qCD hs,push_cast,reduceIte,zA,zB,zC,zD,zE,zF,zG,reduceCtorEq,zH,zJ,cNI]
   refine⟨oM,oM,_,SWk.refl _,64-(p+1),oM,p+1,oM,oM,rfl,?_⟩
   rw[g2]
   rfl
 ·have hp2:p=64:=by omega
  subst hp2
  rw[show npl 64=57 from by decide+kernel]
def sctN(d k:Nat):Nat:=sctL d (plc.take k)
theorem qEm{d k p:Nat}(h:plc[k]? =some (k,p)):sctN d (k+1)=if d.testBit k then sctN d k|||2^p else sctN d k:=by
 obtain⟨h1,h2⟩:=zM.1 h
 unfold sctN sctL
 rw[zZ h1,List.foldl_append,h2]
 rfl
theorem qEn(d:Nat):sctN d 57=sct d:=by unfold sctN sct;rw[zY (by decide)]
theorem qEo(d:Nat): ∀k,k<=57->sctN d k<2^64
 |0,_=>by simp[sctN,sctL]
 | k + 1, h => by
   have hl : k < plc.length := by have : plc.length = 57 := by decide
                                  omega
   have h1:plc[k]? =some (k,plc[k].2):=by
    rw[zL hl]
    have:plc[k].1=k:=by simp[plc]
    exact congrArg some (Prod.ext this rfl)
   have:=qEo d k oM
   have h2:=(qzQ (List.getElem_mem hl)).2.1
   rw[qEm h1]
   split
   ·exact Nat.or_lt_two_pow this (Nat.pow_lt_pow_right (by decide) h2)
   ·exact this
def pw(k:Nat):Nat:=2^k
theorem qEp(s k:Nat):s&&&pw k≠0 ↔ s.testBit k=true:=by
 unfold pw
 constructor
 ·intro h
  cases hb:s.testBit k
  ·exfalso
   apply h
   apply Nat.eq_of_testBit_eq
   intro i
   rw[Nat.testBit_and,Nat.testBit_two_pow,Nat.zero_testBit]
   by_cases e:k=i
   ·subst e;rw[hb];rfl
   ·simp[e]
  ·rfl
 ·intro h e
  have:=congrArg (fun x=>x.testBit k) e
  simp[Nat.testBit_and,Nat.testBit_two_pow,h]at this
def prtN(w s k:Nat):Nat:=(List.range k).foldl (fun w k=>if s.testBit k then w|||2^(2^k)else w) w
theorem qEq(w s k:Nat):prtN w s (k+1)=if s.testBit k then prtN w s k|||2^pw k else prtN w s k:=by
 unfold prtN;rw[List.range_succ,List.foldl_append];rfl
theorem qEr{w:Nat}(h:w<2^64)(s:Nat): ∀k,k<=6->prtN w s k<2^64
 |0,_=>h
 | k + 1, hk => by
   have:=qEr h s k oM
   rw[qEq]
   split
   ·refine Nat.or_lt_two_pow this (Nat.pow_lt_pow_right (by decide) ?_)
    exact Nat.lt_of_le_of_lt (Nat.pow_le_pow_right (by decide) (show k<=5 by omega)) (by decide)
   ·exact this
set_option maxHeartbeats 1000000 in
theorem qEs(n:Nat)(h:n<2^57):FnEq Tryz.prog 46 [.sc (.int .u64 n)] (.tup [.sc (.int .u64 (encW n:Nat)),.int 0]):=by
 refine FnEq.of_awp Tryz.func46 ok46 (by show 1<=_;decide) (by simp only[push_cast,reduceIte,zA,zB,zC,zD,zE,zF,zG,reduceCtorEq,zH,zJ,cNI]<;>first|exact fun _ _=>trivial|simp) ?_
 simp only[ac46,rv46,push_cast,reduceIte,zA,zB,zC,zD,zE,zF,zG,reduceCtorEq,zH,zJ,cNI]
 refine qnY (fun h1=>by omega) fun _=> ?_
 refine que (st1:=⟨[(1,.ptr 1 0),(4,.ptr 4 0),(5,.ptr 5 0)],[(1,[.sc (.int .u64 n)]),(4,[.sc (.int .u64 (sctN n 0:Nat))]),(5,[.clo 68 [4]])],[],[]⟩) (Env.of_noY _) rfl
  (qEl (s:=[(1,.ptr 1 0),(4,.ptr 4 0),(5,.ptr 5 0)]) rfl (by show 0+43<=200;decide) (fun _ _ h=>h) rfl (fun k=>[(1,[.sc (.int .u64 n)]),(4,[.sc (.int .u64 (sctN n k:Nat))]),(5,[.clo 68 [4]])]) [] [] fun k p hk hp=> ?_) ?_
 ·simp only[plT,List.cons_append,List.nil_append]
  refine qCI rfl rfl sC ?_
  unfold qua
  refine sB ?_
  have hk57:k<57:=(zM.1 hk).1
  have hW:=qEo n k oM
  have e1:bitF .and .u64 (shfF .shr .u64 (n:Int) (k:Int)) 1=((n/2^k&&&1:Nat):Int):=by
   rw[qBu n k oM]
   exact qBo (b:=1) (Nat.lt_of_le_of_lt (Nat.div_le_self _ _) oM) (by decide)
  have e2:(n/2^k&&&1=1) ↔ n.testBit k=true:=by rw[Nat.testBit_eq_decide_div_mod_eq,decide_eq_true_eq,Nat.and_one_is_mod]
  rw[e1]
  refine⟨oM,?_⟩
  refine qnY (fun h2=> ?_) fun h2=> ?_
  ·have hb:n.testBit k=true:=e2.1 oM
   refine qsP (qEj rfl (by decide) (fun _ _ h=>h) rfl 4 (sctN n k) p rfl hW hp) ?_
   refine sB ?_
   rw[qEm hk,if_pos hb]
  ·have hb:n.testBit k=false:=by
    cases hb:n.testBit k
    ·rfl
    ·have:=e2.2 hb;omega
   rw[qEm hk,if_neg (by rw[hb];decide)]
 ·rintro rv _ rfl
  rw[qEn]
  refine sB ?_
  have hs:sct n<2^64:=qA8 n
  have hS:=qzI (sct n) 64 (Nat.le_refl _)
  refine qrv (qEf _ hs) sC ?_
  refine sB ?_
  refine qoP (fun j st=> ∃k:Nat,k<=6/\j=6-k/\st=⟨[(4,.ptr 4 0),(5,.ptr 5 0),(8,.int (syn (sct n) 64:Nat)),(9,.int (pw k:Nat))],[(4,[.sc (.int .u64 (prtN (sct n) (syn (sct n) 64) k:Nat))]),(5,[.clo 68 [4]])],[],[]⟩) 6 ⟨0,oM,rfl,?_⟩ ?_
  ·refine sB ?_
   rfl
  rintro j st ⟨k,hk,rfl,rfl⟩
  have hP:=qEr hs (syn (sct n) 64) k hk
  refine sB ?_
  have hpk:pw k<=64/\(pw k<64 ↔ k<6):=by
   have:k=0\/k=1\/k=2\/k=3\/k=4\/k=5\/k=6:=by omega
   rcases this with rfl|rfl|rfl|rfl|rfl|rfl|rfl<;>decide
  refine qnY (fun h1=> ?_) fun h1=> ?_
  ·have hk6:k<6:=hpk.2.1 oM
   have e1:bitF .and .i64 (syn (sct n) 64:Nat) (pw k:Nat)=((syn (sct n) 64&&&pw k:Nat):Int):=qBr oM oM
   have e2:syn (sct n) 64&&&pw k≠0 ↔ (syn (sct n) 64).testBit k=true:=by
    exact qEp _ k
   have e3:pw (k+1)=pw k*2:=Nat.pow_succ ..
   rw[e1]
   refine qnY (fun h2=> ?_) fun h2=> ?_
   ·have hb:=e2.1 oM
    refine qsP (qEj rfl (by decide) (fun _ _ h=>h) rfl 4 _ (pw k) rfl hP oM) ?_
    refine sB ?_
    refine⟨oM,6-(k+1),oM,k+1,oM,rfl,?_⟩
    rw[qEq,if_pos hb,e3]
    rfl
   ·have hb : (syn (sct n) 64).testBit k = false := by
     cases hb:(syn (sct n) 64).testBit k
     ·rfl
     ·have:=e2.2 hb;omega
    refine⟨oM,6-(k+1),oM,k+1,oM,rfl,?_⟩
    rw[qEq,if_neg (by rw[hb];decide),e3]
    rfl
  ·have hk6:k=6:=by omega
   subst hk6
   have hl:=qEg (prtN (sct n) (syn (sct n) 64) 6) 64
   refine qrv (qBw _ hP) sC ?_
   refine sB ?_
   refine⟨oM,?_⟩
   refine qnY (fun h2=> ?_) fun h2=> ?_
   ·refine qsP (qEj rfl (by decide) (fun _ _ h=>h) rfl 4 _ 0 rfl hP (by decide)) ?_
    refine sB ?_
    have:encW n=prtN (sct n) (syn (sct n) 64) 6|||2^0:=by
     show fin (prtN (sct n) (syn (sct n) 64) 6)=_
     unfold fin
     rw[if_pos oM]
    rw[this]
    done
   ·have : encW n = prtN (sct n) (syn (sct n) 64) 6 := by
     show fin (prtN (sct n) (syn (sct n) 64) 6)=_
     unfold fin
     rw[if_neg oM]
    rw[this]
    done
end Go.Proofs.YtecoaapkcnhlhabGreatDoor
namespace Go.Proofs.YtecoaapkcnhlhabGreatDoor
open Go Go.Vc Txt Go.Ham
def gatN(w k:Nat):Nat:=gatL w (plc.take k)
theorem qEt{w k p:Nat}(h:plc[k]? =some (k,p)):gatN w (k+1)=if w.testBit p then gatN w k|||2^k else gatN w k:=by
 obtain⟨h1,h2⟩:=zM.1 h
 unfold gatN gatL
 rw[zZ h1,List.foldl_append,h2]
 rfl
theorem qEu(w:Nat):gatN w 57=gat w:=by unfold gatN gat;rw[zY (by decide)]
theorem qEv{k:Nat}(h:k<57): ∃p,plc[k]? =some (k,p)/\p<64:=by
 have hl : k < plc.length := by have : plc.length = 57 := by decide
                                omega
 refine⟨plc[k].2,?_,(qzQ (List.getElem_mem hl)).2.1⟩
 rw[zL hl]
 have:plc[k].1=k:=by simp[plc]
 exact congrArg some (Prod.ext this rfl)
theorem qEw(w:Nat): ∀k,k<=57->gatN w k<2^57
 |0,_=>by simp[gatN,gatL]
 | k + 1, h => by
   obtain⟨p,hp,_⟩:=qEv (show k<57 by omega)
   have:=qEw w k oM
   rw[qEt hp]
   split
   ·exact Nat.or_lt_two_pow this (Nat.pow_lt_pow_right (by decide) oM)
   ·exact this
def decV(w:Nat):PV:=if chkW w=2 then .tup [.sc (.int .u64 0),.int 0,.int 6]else .tup [.sc (.int .u64 (datW w:Nat)),.int (chkW w:Nat),.int 0]
theorem qEx(n v:Nat)(hv:v<2^64)(hc:chkW n≠2)(hd:datW n=gat v):awp (Env.of Tryz.prog) ac54_r6 (retK rv54 fun x=>Sub x (decV n)) ⟨[(1,.ptr 1 0),(5,.int (chkW n:Nat))],[(1,[.sc (.int .u64 v)])],[],[]⟩:=by
 simp only[ac54_r6,rv54,push_cast,reduceIte,zA,zB,zC,zD,zE,zF,zG,reduceCtorEq,zH,zJ,cNI]
 refine que (st1:=⟨[(1,.ptr 1 0),(5,.int (chkW n:Nat)),(6,.ptr 6 0)],[(1,[.sc (.int .u64 v)]),(6,[.sc (.int .u64 (gatN v 0:Nat))])],[],[]⟩) (Env.of_noY _) rfl
  (qEl (s:=[(1,.ptr 1 0),(5,.int (chkW n:Nat)),(6,.ptr 6 0)]) rfl (by show 0+31<=200;decide) (fun _ _ h=>h) rfl (fun k=>[(1,[.sc (.int .u64 v)]),(6,[.sc (.int .u64 (gatN v k:Nat))])]) [] [] fun k p hk hp=> ?_) ?_
 ·simp only[plT,List.cons_append,List.nil_append]
  refine qCI rfl rfl sC ?_
  unfold qua
  refine sB ?_
  have hk57:k<57:=(zM.1 hk).1
  have hW:=qEw v k oM
  have e1:bitF .and .u64 (shfF .shr .u64 (v:Int) (p:Int)) 1=((v/2^p&&&1:Nat):Int):=by
   rw[qBu v p oM]
   exact qBo (b:=1) (Nat.lt_of_le_of_lt (Nat.div_le_self _ _) oM) (by decide)
  have e3:v/2^p&&&1=(v.testBit p).toNat:=by
   rw[Nat.testBit_eq_decide_div_mod_eq,Nat.and_one_is_mod]
   rcases Nat.mod_two_eq_zero_or_one (v/2^p)with e|e<;>rw[e]<;>rfl
  have e4:(v.testBit p).toNat*2^k<2^57:=by
   have:2^k<2^57:=Nat.pow_lt_pow_right (by decide) hk57
   cases v.testBit p<;>simp<;>omega
  rw[e1,e3,qBv oM oM,qBp oM oM]
  refine⟨oM,oM,?_⟩
  rw[show gatN v k|||(v.testBit p).toNat*2^k=gatN v (k+1)from by rw[qEt hk];cases v.testBit p<;>simp]
 ·rintro rv _ rfl
  rw[qEu]
  refine sB ?_
  unfold decV
  rw[if_neg hc,hd]
  simp only[push_cast,reduceIte,zA,zB,zC,zD,zE,zF,zG,reduceCtorEq,zH,zJ,cNI]
  done
set_option maxHeartbeats 1000000 in
theorem qEy(n:Nat)(h:n<2^64):FnEq Tryz.prog 54 [.sc (.int .u64 n)] (decV n):=by
 have hp:Perm (decV n):=by unfold decV;split<;>(simp only[push_cast,reduceIte,zA,zB,zC,zD,zE,zF,zG,reduceCtorEq,zH,zJ,cNI]<;>exact fun _ _=>trivial)
 refine FnEq.of_awp Tryz.func54 ok54 (by show 1<=_;decide) hp ?_
 simp only[ac54,push_cast,reduceIte,zA,zB,zC,zD,zE,zF,zG,reduceCtorEq,zH,zJ,cNI]
 refine qrv (qEh n h) sC ?_
 refine sB ?_
 refine qnY (fun h1=> ?_) fun h1=> ?_
 ·unfold decV
  rw[if_pos oM]
  simp only[rv54,push_cast,reduceIte,zA,zB,zC,zD,zE,zF,zG,reduceCtorEq,zH,zJ,cNI]
  done
 refine qnY (fun h2=> ?_) fun h2=> ?_
 ·have hc:chkW n=1:=by omega
  obtain⟨hs,_⟩:=fix1 hc
  refine qrx (qEf n h) sC rfl ?_
  refine sB ?_
  refine qrv (qEi n (syn n 64) h hs) sC ?_
  refine sB ?_
  exact qEx n _ (Nat.xor_lt_two_pow h (Nat.pow_lt_pow_right (by decide) hs)) oM (by unfold datW;rw[if_pos hc])
 ·exact qEx n n h oM (by unfold datW;rw[if_neg oM])
end Go.Proofs.YtecoaapkcnhlhabGreatDoor
namespace Go.Proofs.YtecoaapkcnhlhabGreatDoor.Txt
open Go Go.Vc
set_option maxRecDepth 100000
def ac59_200:AC:=
 (.seq (.reg [200,27,200,201] [
 (aO 207 (.mv (.t 201))),(aO 208 (.len (.t 207))),(aO 209 (.mv (kI 0)))])
 (.block 0
 (.lps [200,27,200,207,208,209]
 (.seq (.reg [200,27,200,207,208,209] [
 (aO 210 (.cmp .lss .i64 (.t 209) (.t 208)))])
 (.seq (.cond (.t 210)
 .skip
 (.exit 0))
 (.seq (.block 1
 (.seq (.reg [200,27,200,207,208,209] [
 (aO 211 (.ixs 1 (.t 207) (.t 209))),(aO 212 (.ld false 1 (.t 211))),(aO 205 (.mv (.t 212)))])
 (.seq (.reg [200,27,200,205,207,208,209] [
 (aO 213 (.mv (.t 200))),(aO 214 (.nck (.t 213))),(aO 215 (.ld false 1 (.t 214))),(aO 216 (.mv (.t 205))),(aO 217 (.bit .xor .u64 (.t 215) (.t 216))),(aO 218 (.ari .mul false .u64 (.t 217) (.c (.sc (.int .u64 15485907386658061715))))),(aO 206 (.mv (.t 218)))])
 (.reg [200,27,200,206,207,208,209] [
 (aO 219 (.mv (.t 200))),(aO 220 (.mv (.t 206))),(aO 221 (.mv (.t 206))),(aO 222 (.shf .shr .u64 (.t 221) (.c (.sc (.int .u64 32))))),(aO 223 (.bit .xor .u64 (.t 220) (.t 222))),(aO 224 (.ari .mul false .u64 (.t 223) (.c (.sc (.int .u64 11562461410679940143))))),(aO 225 (.nck (.t 219))),(aN (.sto 1 (.t 225) (.t 224)))]))))
 (.reg [200,27,200,207,208,209] [
 (aO 226 (.ari .add true .i64 (.t 209) (kI 1))),(aO 209 (.mv (.t 226)))])))))))
def rv59_200:List RV:=[]
theorem ok59_200:qh6 Tryz.prog 200 ac59_200 rv59_200 Tryz.f59=true:=by kernel_rfl

def ac39:AC:=
 (.seq (.reg [0,27,0] [
 (aO 2 (.mv (.c (.sc (.int .u64 0)))))])
 (.seq (.reg [0,27,0] [
 (aO 3 (.alc [.sc (.int .u64 0)])),(aN (.sto 1 (.t 3) (.c (.sc (.int .u64 512970876019)))))])
 (.seq (.reg [0,27,0,3] [
 (aO 7 (.xo (.pf (.bm 59)) [(.t 3)])),(aO 4 (.mv (.t 7)))])
 (.seq (.seq (.reg [0,27,0,3,4] [
 (aO 8 (.mv (.t 0))),(aO 9 (.len (.t 8))),(aO 10 (.mv (kI 0)))])
 (.block 0
 (.loop [0,27,0,3,4,8,9,10]
 (.seq (.reg [0,27,0,3,4,8,9,10] [
 (aO 11 (.cmp .lss .i64 (.t 10) (.t 9)))])
 (.seq (.cond (.t 11)
 .skip
 (.exit 0))
 (.seq (.block 1
 (.seq (.reg [0,27,0,3,4,8,9,10] [
 (aO 12 (.ixs 1 (.t 8) (.t 10))),(aO 13 (.ld false 1 (.t 12))),(aO 6 (.mv (.t 13)))])
 (.reg [0,27,0,3,4,6,8,9,10] [
 (aO 14 (.mv (.t 4))),(aO 15 (.mv (.t 6))),(aO 16 (.cnv false .u64 (.t 15))),(aO 17 (.bsl 1 52 [.sc (.int .u64 0)] 1 [(0,(.t 16))])),(aO 18 (.clv (.t 14) [(.t 17)]))])))
 (.reg [0,27,0,3,4,8,9,10] [
 (aO 19 (.ari .add true .i64 (.t 10) (kI 1))),(aO 10 (.mv (.t 19)))])))))))
 (.seq (.reg [0,27,0,3,4] [
 (aO 20 (.mv (.t 4))),(aO 21 (.mv (.t 0))),(aO 22 (.len (.t 21))),(aO 23 (.cnv false .u64 (.t 22))),(aO 24 (.bsl 1 52 [.sc (.int .u64 0)] 1 [(0,(.t 23))])),(aO 25 (.clv (.t 20) [(.t 24)]))])
 (.seq (.reg [0,27,3] [
 (aO 26 (.ld false 1 (.t 3))),(aO 2 (.mv (.t 26)))])
 .ret))))))
def rv39:List RV:=[.tmp 2]
theorem ok39:fnOk Tryz.prog ac39 rv39 Tryz.f39=true:=by kernel_rfl

def ac20:AC:=
 (.seq (.reg [0,39,0] [
 (aO 2 (.mv (.c (.sc (.int .u64 0)))))])
 (.seq (.reg [0,39,0] [
 (aO 8 (.mv (.t 0))),(aO 9 (.len (.t 8))),(aO 10 (.bsl 1 3 [zI] 1 [(0,(.t 9))])),(aO 3 (.mv (.t 10)))])
 (.seq (.seq (.reg [0,39,0,3] [
 (aO 11 (.mv (.t 0))),(aO 12 (.len (.t 11))),(aO 13 (.mv (kI 0)))])
 (.block 0
 (.loop [0,39,3,11,12,13]
 (.seq (.reg [0,39,3,11,12,13] [
 (aO 14 (.cmp .lss .i64 (.t 13) (.t 12)))])
 (.seq (.cond (.t 14)
 .skip
 (.exit 0))
 (.seq (.block 1
 (.seq (.reg [0,39,3,11,12,13] [
 (aO 15 (.ixs 1 (.t 11) (.t 13))),(aO 16 (.ld true 1 (.t 15))),(aO 5 (.alc [.nil])),(aN (.sto 1 (.t 5) (.t 16)))])
 (.seq (.reg [0,39,3,5,11,12,13] [
 (aO 17 (.mv (.t 3))),(aO 18 (.fa 0 (.t 5))),(aO 19 (.ld false 1 (.t 18))),(aO 20 (.len (.t 19))),(aO 21 (.bsl 1 3 [zI] 1 [(0,(.t 20))])),(aO 22 (.app 1 3 8 (.t 17) (.t 21))),(aO 3 (.mv (.t 22)))])
 (.seq (.reg [0,39,3,5,11,12,13] [
 (aO 23 (.fa 0 (.t 5))),(aO 24 (.ld false 1 (.t 23))),(aO 25 (.len (.t 24))),(aO 26 (.mv (kI 0)))])
 (.block 2
 (.loop [0,39,3,11,12,13,24,25,26]
 (.seq (.reg [0,39,3,11,12,13,24,25,26] [
 (aO 27 (.cmp .lss .i64 (.t 26) (.t 25)))])
 (.seq (.cond (.t 27)
 .skip
 (.exit 2))
 (.seq (.block 3
 (.seq (.reg [0,39,3,11,12,13,24,25,26] [
 (aO 28 (.ixs 1 (.t 24) (.t 26))),(aO 29 (.ld false 1 (.t 28))),(aO 7 (.mv (.t 29)))])
 (.reg [0,39,3,7,11,12,13,24,25,26] [
 (aO 30 (.mv (.t 3))),(aO 31 (.mv (.t 7))),(aO 32 (.cnv false .i64 (.t 31))),(aO 33 (.bsl 1 3 [zI] 1 [(0,(.t 32))])),(aO 34 (.app 1 3 8 (.t 30) (.t 33))),(aO 3 (.mv (.t 34)))])))
 (.reg [0,39,3,11,12,13,24,25,26] [
 (aO 35 (.ari .add true .i64 (.t 26) (kI 1))),(aO 26 (.mv (.t 35)))]))))))))))
 (.reg [0,39,3,11,12,13] [
 (aO 36 (.ari .add true .i64 (.t 13) (kI 1))),(aO 13 (.mv (.t 36)))])))))))
 (.seq (.reg [0,39,3] [
 (aO 37 (.mv (.t 3))),(aO 38 (.cal 39 [(.t 37)])),(aO 2 (.mv (.t 38)))])
 .ret))))
def rv20:List RV:=[.tmp 2]
theorem ok20:fnOk Tryz.prog ac20 rv20 Tryz.f20=true:=by kernel_rfl

def ac12:AC:=
 (.seq (.reg [0,35,0,1] [
 (aO 2 (.box (.t 0))),(aO 4 (.mv (kI 0)))])
 (.seq (.reg [0,35,1,2] [
 (aO 6 (.mv (.t 1))),(aO 7 (.fa 2 (.t 2))),(aO 8 (.ld false 1 (.t 7))),(aO 9 (.ari .mul true .i64 (kI 2) (.t 8))),(aO 10 (.ari .add true .i64 (kI 6) (.t 9))),(aO 11 (.dvd .quo true .i64 (.t 6) (.t 10))),(aO 5 (.mv (.t 11)))])
 (.seq (.block 0
 (.seq (.reg [0,35,1,2,5] [
 (aO 13 (.mv (.t 1))),(aO 14 (.cmp .lss .i64 (.t 13) (kI 0))),(aO 15 (.mv (.t 14))),⟨some 16,some (15,false),.mv (.t 1)⟩,⟨some 17,some (15,false),.ld true 5 (.t 2)⟩,⟨some 18,some (15,false),.cal 32 [(.t 17)]⟩,⟨some 19,some (15,false),.cmp .geq .i64 (.t 16) (.t 18)⟩,(aO 20 (.pick (.t 15) (.c (.sc (.bool true))) (.t 19))),(aO 12 (.mv (.t 20)))])
 (.cut [0,35,2,5,12] (.cond (.t 12)
 (.seq (.reg [0,35] [
 (aO 4 (.mv (kI (-1))))])
 .ret)
 (.seq (.reg [0,35,2,5] [
 (aO 22 (.mv (.t 5))),(aO 23 (.fa 0 (.t 2))),(aO 24 (.ld false 1 (.t 23))),(aO 25 (.fa 1 (.t 2))),(aO 26 (.ld false 1 (.t 25))),(aO 27 (.ari .mul true .i64 (.t 24) (.t 26))),(aO 28 (.cmp .geq .i64 (.t 22) (.t 27))),(aO 21 (.mv (.t 28)))])
 (.cond (.t 21)
 (.seq (.reg [0,35,2] [
 (aO 29 (.fa 0 (.t 2))),(aO 30 (.ld false 1 (.t 29))),(aO 4 (.mv (.t 30)))])
 .ret)
 .skip))))))
 (.seq (.reg [0,35,2,5] [
 (aO 31 (.mv (.t 5))),(aO 32 (.fa 0 (.t 2))),(aO 33 (.ld false 1 (.t 32))),(aO 34 (.dvd .rem true .i64 (.t 31) (.t 33))),(aO 4 (.mv (.t 34)))])
 .ret))))
def rv12:List RV:=[.tmp 4]
theorem ok12:fnOk Tryz.prog ac12 rv12 Tryz.f12=true:=by kernel_rfl

def ac50:AC:=
 (.seq (.reg [0,26,0,1] [
 (aO 4 (.mv (.c (.sc (.bool false)))))])
 (.seq (.seq (.reg [0,26,0,1] [
 (aO 6 (.mv (.t 0))),(aO 7 (.len (.t 6))),(aO 8 (.mv (.t 1))),(aO 9 (.len (.t 8))),(aO 10 (.cmp .neq .i64 (.t 7) (.t 9)))])
 (.cond (.t 10)
 (.seq (.reg [0,26] [
 (aO 4 (.mv (.c (.sc (.bool false)))))])
 .ret)
 .skip))
 (.seq (.seq (.reg [0,26,0,1] [
 (aO 5 (.mv (kI 0)))])
 (.block 0
 (.loop [0,26,0,1,5]
 (.seq (.seq (.reg [0,26,0,1,5] [
 (aO 11 (.mv (.t 5))),(aO 12 (.mv (.t 0))),(aO 13 (.len (.t 12))),(aO 14 (.cmp .lss .i64 (.t 11) (.t 13)))])
 (.cond (.t 14)
 .skip
 (.exit 0)))
 (.seq (.block 1
 (.seq (.drw [0,26,0,1,5] [
 (eT 17 (.mv (.t 0))),(eT 18 (.mv (.t 5))),(eT 19 (.ixs 1 (.t 17) (.t 18))),(eT 20 (.ld false 1 (.t 19))),(eT 21 (.mv (.t 1))),(eT 22 (.mv (.t 5))),(eT 23 (.ixs 1 (.t 21) (.t 22))),(eT 24 (.ld false 1 (.t 23))),(eF 25 (.cmp .neq .u64 (.t 20) (.t 24)))])
 (.cond (.t 25)
 (.seq (.reg [0,26] [
 (aO 4 (.mv (.c (.sc (.bool false)))))])
 .ret)
 .skip)))
 (.reg [0,26,0,1,5] [
 (aO 15 (.mv (.t 5))),(aO 16 (.ari .add true .i64 (.t 15) (kI 1))),(aO 5 (.mv (.t 16)))]))))))
 (.seq (.reg [0,26] [
 (aO 4 (.mv (.c (.sc (.bool true)))))])
 .ret))))
def rv50:List RV:=[.tmp 4]
theorem ok50:fnOk Tryz.prog ac50 rv50 Tryz.f50=true:=by kernel_rfl

def ac31:AC:=
 (.seq (.reg [0,49,0,1] [
 (aO 4 (.mv (.c (.nil))))])
 (.seq (.reg [0,49,0,1] [
 (aO 7 (.bsl 1 3 [zI] 0 [])),(aO 5 (.mv (.t 7)))])
 (.seq (.seq (.reg [0,49,0,1,5] [
 (aO 6 (.mv (kI 0)))])
 (.block 0
 (.loop [0,49,0,1,5,6]
 (.seq (.seq (.reg [0,49,0,1,5,6] [
 (aO 8 (.mv (.t 6))),(aO 9 (.mv (.t 0))),(aO 10 (.len (.t 9))),(aO 11 (.cmp .lss .i64 (.t 8) (.t 10))),(aO 12 (.mv (.t 11))),⟨some 13,some (12,false),.mv (.t 6)⟩,⟨some 14,some (12,false),.mv (.t 1)⟩,⟨some 15,some (12,false),.len (.t 14)⟩,⟨some 16,some (12,false),.cmp .lss .i64 (.t 13) (.t 15)⟩,(aO 17 (.pick (.t 12) (.c (.sc (.bool true))) (.t 16)))])
 (.cut [0,49,0,1,5,6,17] (.cond (.t 17)
 .skip
 (.exit 0))))
 (.seq (.block 1
 (.seq (.drw [0,49,0,1,5,6] [
 (eT 20 (.mv (.t 6))),(eT 21 (.mv (.t 0))),(eT 22 (.len (.t 21))),(eF 23 (.cmp .geq .i64 (.t 20) (.t 22))),(eF 24 (.mv (.t 23))),⟨⟨some 25,some (24,false),.mv (.t 6)⟩,[],[],true⟩,⟨⟨some 26,some (24,false),.mv (.t 1)⟩,[],[],true⟩,⟨⟨some 27,some (24,false),.len (.t 26)⟩,[],[],true⟩,⟨⟨some 28,some (24,false),.cmp .geq .i64 (.t 25) (.t 27)⟩,[],[],false⟩,(eF 29 (.pick (.t 24) (.c (.sc (.bool true))) (.t 28))),(eF 30 (.mv (.t 29))),⟨⟨some 31,some (30,false),.mv (.t 0)⟩,[],[],true⟩,⟨⟨some 32,some (30,false),.mv (.t 6)⟩,[],[],true⟩,⟨⟨some 33,some (30,false),.ixs 1 (.t 31) (.t 32)⟩,[],[],true⟩,⟨⟨some 34,some (30,false),.fa 0 (.t 33)⟩,[],[],true⟩,⟨⟨some 35,some (30,false),.ld false 1 (.t 34)⟩,[],[],true⟩,⟨⟨some 36,some (30,false),.mv (.t 1)⟩,[],[],true⟩,⟨⟨some 37,some (30,false),.mv (.t 6)⟩,[],[],true⟩,⟨⟨some 38,some (30,false),.ixs 1 (.t 36) (.t 37)⟩,[],[],true⟩,⟨⟨some 39,some (30,false),.fa 0 (.t 38)⟩,[],[],true⟩,⟨⟨some 40,some (30,false),.ld false 1 (.t 39)⟩,[],[],true⟩,⟨⟨some 41,some (30,false),.cal 50 [(.t 35),(.t 40)]⟩,[],[],false⟩,⟨⟨some 42,some (30,false),.not (.t 41)⟩,[],[],false⟩,(eF 43 (.pick (.t 30) (.c (.sc (.bool true))) (.t 42)))])
 (.cut [0,49,0,1,5,6,43] (.cond (.t 43)
 (.reg [0,49,0,1,5,6] [
 (aO 44 (.mv (.t 5))),(aO 45 (.mv (.t 6))),(aO 46 (.bsl 1 3 [zI] 1 [(0,(.t 45))])),(aO 47 (.app 1 3 8 (.t 44) (.t 46))),(aO 5 (.mv (.t 47)))])
 .skip))))
 (.reg [0,49,0,1,5,6] [
 (aO 18 (.mv (.t 6))),(aO 19 (.ari .add true .i64 (.t 18) (kI 1))),(aO 6 (.mv (.t 19)))]))))))
 (.seq (.reg [0,49,5] [
 (aO 48 (.mv (.t 5))),(aO 4 (.mv (.t 48)))])
 .ret))))
def rv31:List RV:=[.tmp 4]
theorem ok31:fnOk Tryz.prog ac31 rv31 Tryz.f31=true:=by kernel_rfl

def ac11:AC:=
 (.seq (.reg [0,10,0,1] [
 (aO 4 (.mv (.c (.sc (.bool false)))))])
 (.seq (.reg [0,10,0,1] [
 (aO 5 (.mv (.t 0))),(aO 6 (.mv (.t 1))),(aO 7 (.cal 31 [(.t 5),(.t 6)])),(aO 8 (.len (.t 7))),(aO 9 (.cmp .eql .i64 (.t 8) (kI 0))),(aO 4 (.mv (.t 9)))])
 .ret))
def rv11:List RV:=[.tmp 4]
theorem ok11:fnOk Tryz.prog ac11 rv11 Tryz.f11=true:=by kernel_rfl

def ac33:AC:=
 (.seq (.reg [0,26,0,1] [
 (aO 4 (.mv (.c (.sc (.bool false)))))])
 (.seq (.seq (.reg [0,26,0,1] [
 (aO 6 (.mv (.t 0))),(aO 7 (.len (.t 6))),(aO 8 (.mv (.t 1))),(aO 9 (.len (.t 8))),(aO 10 (.cmp .neq .i64 (.t 7) (.t 9)))])
 (.cond (.t 10)
 (.seq (.reg [0,26] [
 (aO 4 (.mv (.c (.sc (.bool false)))))])
 .ret)
 .skip))
 (.seq (.seq (.reg [0,26,0,1] [
 (aO 11 (.mv (.t 0))),(aO 12 (.len (.t 11))),(aO 13 (.mv (kI 0)))])
 (.block 0
 (.loop [0,26,0,1,12,13]
 (.seq (.reg [0,26,0,1,12,13] [
 (aO 14 (.cmp .lss .i64 (.t 13) (.t 12)))])
 (.seq (.cond (.t 14)
 .skip
 (.exit 0))
 (.seq (.block 1
 (.seq (.reg [0,26,0,1,12,13] [
 (aO 15 (.mv (.t 13))),(aO 5 (.mv (.t 15)))])
 (.seq (.drw [0,26,0,1,5,12,13] [
 (eT 16 (.mv (.t 0))),(eT 17 (.mv (.t 5))),(eT 18 (.ixs 1 (.t 16) (.t 17))),(eT 19 (.ld false 1 (.t 18))),(eT 20 (.mv (.t 1))),(eT 21 (.mv (.t 5))),(eT 22 (.ixs 1 (.t 20) (.t 21))),(eT 23 (.ld false 1 (.t 22))),(eF 24 (.cmp .neq .u64 (.t 19) (.t 23)))])
 (.cond (.t 24)
 (.seq (.reg [0,26] [
 (aO 4 (.mv (.c (.sc (.bool false)))))])
 .ret)
 .skip))))
 (.reg [0,26,0,1,12,13] [
 (aO 25 (.ari .add true .i64 (.t 13) (kI 1))),(aO 13 (.mv (.t 25)))])))))))
 (.seq (.reg [0,26] [
 (aO 4 (.mv (.c (.sc (.bool true)))))])
 .ret))))
def rv33:List RV:=[.tmp 4]
theorem ok33:fnOk Tryz.prog ac33 rv33 Tryz.f33=true:=by kernel_rfl

def ac14:AC:=
 (.seq (.reg [0,45,0,1] [
 (aO 4 (.mv (.c (.nil))))])
 (.seq (.reg [0,45,0,1] [
 (aO 5 (.mv (.c (.nil))))])
 (.seq (.seq (.reg [0,45,0,1,5] [
 (aO 7 (.mv (.t 0))),(aO 8 (.len (.t 7))),(aO 9 (.mv (.t 1))),(aO 10 (.len (.t 9))),(aO 11 (.mn true (.t 8) (.t 10))),(aO 12 (.mv (kI 0)))])
 (.block 0
 (.loop [0,45,0,1,5,11,12]
 (.seq (.reg [0,45,0,1,5,11,12] [
 (aO 13 (.cmp .lss .i64 (.t 12) (.t 11)))])
 (.seq (.cond (.t 13)
 .skip
 (.exit 0))
 (.seq (.block 1
 (.seq (.reg [0,45,0,1,5,11,12] [
 (aO 14 (.mv (.t 12))),(aO 6 (.mv (.t 14)))])
 (.seq (.drw [0,45,0,1,5,6,11,12] [
 (eT 15 (.mv (.t 6))),(eT 16 (.mv (.t 0))),(eT 17 (.len (.t 16))),(eF 18 (.cmp .geq .i64 (.t 15) (.t 17))),(eF 19 (.mv (.t 18))),⟨⟨some 20,some (19,false),.mv (.t 6)⟩,[],[],true⟩,⟨⟨some 21,some (19,false),.mv (.t 1)⟩,[],[],true⟩,⟨⟨some 22,some (19,false),.len (.t 21)⟩,[],[],true⟩,⟨⟨some 23,some (19,false),.cmp .geq .i64 (.t 20) (.t 22)⟩,[],[],false⟩,(eF 24 (.pick (.t 19) (.c (.sc (.bool true))) (.t 23))),(eF 25 (.mv (.t 24))),⟨⟨some 26,some (25,false),.mv (.t 0)⟩,[],[],true⟩,⟨⟨some 27,some (25,false),.mv (.t 6)⟩,[],[],true⟩,⟨⟨some 28,some (25,false),.ixs 1 (.t 26) (.t 27)⟩,[],[],true⟩,⟨⟨some 29,some (25,false),.fa 0 (.t 28)⟩,[],[],true⟩,⟨⟨some 30,some (25,false),.ld false 1 (.t 29)⟩,[],[],true⟩,⟨⟨some 31,some (25,false),.mv (.t 1)⟩,[],[],true⟩,⟨⟨some 32,some (25,false),.mv (.t 6)⟩,[],[],true⟩,⟨⟨some 33,some (25,false),.ixs 1 (.t 31) (.t 32)⟩,[],[],true⟩,⟨⟨some 34,some (25,false),.fa 0 (.t 33)⟩,[],[],true⟩,⟨⟨some 35,some (25,false),.ld false 1 (.t 34)⟩,[],[],true⟩,⟨⟨some 36,some (25,false),.cal 33 [(.t 30),(.t 35)]⟩,[],[],false⟩,⟨⟨some 37,some (25,false),.not (.t 36)⟩,[],[],false⟩,(eF 38 (.pick (.t 25) (.c (.sc (.bool true))) (.t 37)))])
 (.cut [0,45,0,1,5,6,11,12,38] (.cond (.t 38)
 (.reg [0,45,0,1,5,6,11,12] [
 (aO 39 (.mv (.t 5))),(aO 40 (.mv (.t 6))),(aO 41 (.bsl 1 3 [zI] 1 [(0,(.t 40))])),(aO 42 (.app 1 3 8 (.t 39) (.t 41))),(aO 5 (.mv (.t 42)))])
 .skip)))))
 (.reg [0,45,0,1,5,11,12] [
 (aO 43 (.ari .add true .i64 (.t 12) (kI 1))),(aO 12 (.mv (.t 43)))])))))))
 (.seq (.reg [0,45,5] [
 (aO 44 (.mv (.t 5))),(aO 4 (.mv (.t 44)))])
 .ret))))
def rv14:List RV:=[.tmp 4]
theorem ok14:fnOk Tryz.prog ac14 rv14 Tryz.f14=true:=by kernel_rfl

def ac52:AC:=
 (.seq (.reg [0,32,0,1,2] [
 (aO 6 (.mv (.c (.sc (.bool false)))))])
 (.seq (.seq (.reg [0,32,0,1,2] [
 (aO 10 (.mv (.t 0))),(aO 11 (.len (.t 10))),(aO 12 (.mv (.t 1))),(aO 13 (.len (.t 12))),(aO 14 (.cmp .neq .i64 (.t 11) (.t 13)))])
 (.cond (.t 14)
 (.seq (.reg [0,32] [
 (aO 6 (.mv (.c (.sc (.bool false)))))])
 .ret)
 .skip))
 (.seq (.seq (.reg [0,32,0,1,2] [
 (aO 15 (.mv (.t 0))),(aO 16 (.len (.t 15))),(aO 17 (.mv (kI 0)))])
 (.block 0
 (.loop [0,32,1,2,15,16,17]
 (.seq (.reg [0,32,1,2,15,16,17] [
 (aO 18 (.cmp .lss .i64 (.t 17) (.t 16)))])
 (.seq (.cond (.t 18)
 .skip
 (.exit 0))
 (.seq (.block 1
 (.seq (.reg [0,32,1,2,15,16,17] [
 (aO 19 (.mv (.t 17))),(aO 20 (.ixs 1 (.t 15) (.t 17))),(aO 21 (.ld true 1 (.t 20))),(aO 8 (.alc [.nil])),(aO 7 (.mv (.t 19))),(aN (.sto 1 (.t 8) (.t 21)))])
 (.seq (.reg [0,32,1,2,7,8,15,16,17] [
 (aO 22 (.mv (.t 1))),(aO 23 (.mv (.t 7))),(aO 24 (.ixs 1 (.t 22) (.t 23))),(aO 25 (.ld false 1 (.t 24))),(aO 9 (.mv (.t 25)))])
 (.seq (.reg [0,32,1,2,8,9,15,16,17] [
 (aO 26 (.mv (.t 2))),(aO 27 (.ld true 1 (.t 8))),(aO 28 (.mv (.t 9))),(aO 29 (.clv (.t 26) [(.t 27),(.t 28)])),(aO 30 (.not (.t 29)))])
 (.cond (.t 30)
 (.seq (.reg [0,32] [
 (aO 6 (.mv (.c (.sc (.bool false)))))])
 .ret)
 .skip)))))
 (.reg [0,32,1,2,15,16,17] [
 (aO 31 (.ari .add true .i64 (.t 17) (kI 1))),(aO 17 (.mv (.t 31)))])))))))
 (.seq (.reg [0,32] [
 (aO 6 (.mv (.c (.sc (.bool true)))))])
 .ret))))
def rv52:List RV:=[.tmp 6]
theorem ok52:fnOk Tryz.prog ac52 rv52 Tryz.f52=true:=by kernel_rfl

def ac53:AC:=
 (.seq (.reg [0,10,0,1] [
 (aO 2 (.box (.t 0))),(aO 4 (.mv (.c (.sc (.bool false)))))])
 (.seq (.reg [0,10,1,2] [
 (aO 5 (.fa 0 (.t 2))),(aO 6 (.ld false 1 (.t 5))),(aO 7 (.len (.t 6))),(aO 8 (.mv (.t 1))),(aO 9 (.cmp .eql .i64 (.t 7) (.t 8))),(aO 4 (.mv (.t 9)))])
 .ret))
def rv53:List RV:=[.tmp 4]
theorem ok53:fnOk Tryz.prog ac53 rv53 Tryz.f53=true:=by kernel_rfl

def ac13:AC:=
 (.seq (.reg [0,26,0,1] [
 (aO 4 (.mv (.c (.sc (.bool false)))))])
 (.seq (.seq (.reg [0,26,0,1] [
 (aO 6 (.mv (.t 0))),(aO 7 (.len (.t 6))),(aO 8 (.mv (.t 1))),(aO 9 (.len (.t 8))),(aO 10 (.cmp .neq .i64 (.t 7) (.t 9)))])
 (.cond (.t 10)
 (.seq (.reg [0,26] [
 (aO 4 (.mv (.c (.sc (.bool false)))))])
 .ret)
 .skip))
 (.seq (.seq (.reg [0,26,0,1] [
 (aO 5 (.mv (kI 0)))])
 (.block 0
 (.loop [0,26,0,1,5]
 (.seq (.seq (.reg [0,26,0,1,5] [
 (aO 11 (.mv (.t 5))),(aO 12 (.mv (.t 0))),(aO 13 (.len (.t 12))),(aO 14 (.cmp .lss .i64 (.t 11) (.t 13)))])
 (.cond (.t 14)
 .skip
 (.exit 0)))
 (.seq (.block 1
 (.seq (.drw [0,26,0,1,5] [
 (eT 17 (.mv (.t 0))),(eT 18 (.mv (.t 5))),(eT 19 (.ixs 1 (.t 17) (.t 18))),(eT 20 (.ld false 1 (.t 19))),(eT 21 (.mv (.t 1))),(eT 22 (.mv (.t 5))),(eT 23 (.ixs 1 (.t 21) (.t 22))),(eT 24 (.ld false 1 (.t 23))),(eF 25 (.cmp .neq .i64 (.t 20) (.t 24)))])
 (.cond (.t 25)
 (.seq (.reg [0,26] [
 (aO 4 (.mv (.c (.sc (.bool false)))))])
 .ret)
 .skip)))
 (.reg [0,26,0,1,5] [
 (aO 15 (.mv (.t 5))),(aO 16 (.ari .add true .i64 (.t 15) (kI 1))),(aO 5 (.mv (.t 16)))]))))))
 (.seq (.reg [0,26] [
 (aO 4 (.mv (.c (.sc (.bool true)))))])
 .ret))))
def rv13:List RV:=[.tmp 4]
theorem ok13:fnOk Tryz.prog ac13 rv13 Tryz.f13=true:=by kernel_rfl
end Go.Proofs.YtecoaapkcnhlhabGreatDoor.Txt
namespace Go.Ham
def dgA(h w:Nat):Nat:=((h^^^w)*15485907386658061715)%2^64
def dgS(h w:Nat):Nat:=((dgA h w^^^(dgA h w>>>32))*11562461410679940143)%2^64
def dig0:Nat:=512970876019
def qEz(h:Nat)(l:List Nat):Nat:=l.foldl dgS h
def digW(l:List Nat):Nat:=dgS (qEz dig0 l) l.length
theorem qEA(h w:Nat):dgS h w<2^64:=Nat.mod_lt _ (by decide)
theorem qEB: ∀(l:List Nat) (h:Nat),h<2^64->qEz h l<2^64
 |[],_,h=>h
 |w::l,h,_=>qEB l _ (qEA _ _)
def qEL(l:List (List Nat)):List Nat:=l.length::l.flatMap fun ws=>ws.length::ws
def digF(l:List (List Nat)):Nat:=digW (qEL l)
end Go.Ham
namespace Go.Proofs.YtecoaapkcnhlhabGreatDoor
open Go Go.Vc Txt Go.Ham
def nats(l:List Nat):List Int:=l.map fun n:Nat=>(n:Int)
def frmC(q:Bool)(ws:List Nat):List PV:=[.sl q 1 (rows u64C (nats ws))]
@[push_cast] theorem qEM(q:Bool)(ws:List Nat):frmC q ws=[.sl q 1 (rows u64C (nats ws))]:=rfl
theorem qEN(a b:Nat):IntKind.u64.wrap ((a:Int)*b)=((a*b%2^64:Nat):Int):=by
 rw[IntKind.wrap_u64,<- Int.natCast_mul];rfl
theorem qEO {E : Env} (hE : E.p = Tryz.prog) (hkk : E.kk <= 200) (hpn : ∀ ch st, ¬ E.pan ch st) {s : List (Nat × PV)} {b : List (Nat × List PV)} {a : List (Nat × Arr)} {m : List (Nat × Mp)} (hs : qtX 200 s = true)
  (id v ty h w:Nat) (hb:lk b id=some [.sc (.int .u64 h)]) (ha:lk a v=some ⟨1,ty,rows u64C [(w:Int)]⟩) (hh:h<2^64) (hw:w<2^64):
  FnM E 59 [.ptr id 0,.view v 0 1] ⟨s,b,a,m⟩ (fun r st' =>r= .tup []/\st' =⟨s,up b id [.sc (.int .u64 (dgS h w:Nat))],a,m⟩):=by
 refine quf 200 (by rw[hE];exact Tryz.func59) (by rw[hE];exact ok59_200) (by show 2<=_;decide) hs hkk ?_ hpn
 simp only[ac59_200,rv59_200,qCA hs,qCz hs,qCB hs,qCC hs,qCD hs,hb,ha,push_cast,reduceIte,zA,zB,zC,zD,zE,zF,zG,reduceCtorEq,zH,zJ,cNI]
 refine qoO (fun n st=>(n=1/\st=⟨s++[(200,.ptr id 0),(207,.view v 0 1),(208,.int 1),(209,.int 0)],b,a,m⟩)\/(n=0/\st=⟨s++[(200,.ptr id 0),(207,.view v 0 1),(208,.int 1),(209,.int 1)],up b id [.sc (.int .u64 (dgS h w:Nat))],a,m⟩)) 1 ⟨_,SWk.refl _,.inl ⟨rfl,?_⟩⟩ ?_
 ·simp only[qCz hs,qCB hs,qCC hs,Int.zero_add,push_cast,reduceIte,zA,zB,zC,zD,zE,zF,zG,reduceCtorEq,zH,zJ,cNI]
 rintro n st (⟨rfl,rfl⟩|⟨rfl,rfl⟩)
 ·simp only[qCA hs,qCz hs,qCB hs,qCC hs,qCD hs,hb,ha,List.getD_cons_zero,zV,List.length_nil,push_cast,reduceIte,zA,zB,zC,zD,zE,zF,zG,reduceCtorEq,zH,zJ,cNI]
  refine qnY (fun _=> ?_) fun h=>absurd (by decide) h
  have hx:h^^^w<2^64:=Nat.xor_lt_two_pow hh hw
  have hA:dgA h w<2^64:=Nat.mod_lt _ (by decide)
  have e1:IntKind.u64.wrap (bitF .xor .u64 (h:Int) (w:Int)*15485907386658061715)=((dgA h w:Nat):Int):=by
   rw[qBq hh hw];exact qEN (h^^^w) 15485907386658061715
  have e2:IntKind.u64.wrap (bitF .xor .u64 (dgA h w:Int) (shfF .shr .u64 (dgA h w:Int) 32)*11562461410679940143)=((dgS h w:Nat):Int):=by
   rw[show shfF .shr .u64 (dgA h w:Int) 32=((dgA h w>>>32:Nat):Int)from(qBu _ 32 (by decide)).trans (by rw[Nat.shiftRight_eq_div_pow]),qBq hA (by rw[Nat.shiftRight_eq_div_pow];exact Nat.lt_of_le_of_lt (Nat.div_le_self _ _) hA)]
   exact qEN (dgA h w^^^dgA h w>>>32) 11562461410679940143
  simp only[e1,e2,push_cast,reduceIte,zA,zB,zC,zD,zE,zF,zG,reduceCtorEq,zH,zJ,cNI]
  exact⟨⟨by decide,by decide⟩,by decide,⟨by decide,by decide⟩,_,SWk.refl _,0,by decide,.inr ⟨rfl,rfl⟩⟩
 ·simp only[qCA hs,qCz hs,qCB hs,qCC hs,qCD hs,hb,ha,push_cast,reduceIte,zA,zB,zC,zD,zE,zF,zG,reduceCtorEq,zH,zJ,cNI]
  exact qnY (fun h=>absurd h (by decide)) fun _=>trivial
def toW(n:Int):Nat:=(n%18446744073709551616).toNat
theorem qEP(n:Int):toW n<2^64:=by unfold toW;omega
theorem qEQ(n:Int):IntKind.u64.wrap n=((toW n:Nat):Int):=by rw[IntKind.wrap_u64];unfold toW;omega
theorem qER{α β:Type}(f:β->α->β)(h:β)(l:List α)(w:α):(l++[w]).foldl f h=f (l.foldl f h) w:=by simp
theorem qES(h:Nat)(l:List Nat)(w:Nat):qEz h (l++[w])=dgS (qEz h l) w:=qER dgS h l w
theorem qET(l:List Int)(k:Nat)(h:k<l.length):l.take (k+1)=l.take k++[l.getD k default]:=by
 rw[zZ h];simp[zK,h]
theorem qEU(l:List Int)(hl:(l.length:Int)<=1000000):FnEq Tryz.prog 39 [.sl false 1 (ints l)] (.sc (.int .u64 (digW (l.map toW):Nat))):=by
 refine FnEq.of_awp Tryz.func39 ok39 (by show 1<=_;decide) (by simp only[push_cast,reduceIte,zA,zB,zC,zD,zE,zF,zG,reduceCtorEq,zH,zJ,cNI]<;>first|exact fun _ _=>trivial|simp) ?_
 simp only[ac39,rv39,push_cast,reduceIte,zA,zB,zC,zD,zE,zF,zG,reduceCtorEq,zH,zJ,cNI]
 refine qoP (fun n st=> ∃k:Nat,k<=l.length/\n=l.length-k/\st=⟨[(0,.sl false 1 (ints l)),(3,.ptr 3 0),(4,.bm 59 3),(8,.sl false 1 (ints l)),(9,.int l.length),(10,.int k)],[(3,[.sc (.int .u64 (qEz dig0 ((l.take k).map toW):Nat))])],[],[]⟩) l.length ⟨0,oM,oM,?_⟩ ?_
 ·refine sB ?_
  rfl
 rintro n st ⟨k,hk,rfl,rfl⟩
 have hF:qEz dig0 ((l.take k).map toW)<2^64:=qEB _ _ (by decide)
 refine sB ?_
 have e1: ∀x:Int,(List.replicate 1 (0:Int)).set 0 x=[x]:=fun _=>rfl
 refine qnY (fun h=> ?_) fun h=> ?_
 ·simp only[e1,qEQ,zV,List.length_nil,List.length_replicate,push_cast,reduceIte,zA,zB,zC,zD,zE,zF,zG,reduceCtorEq,zH,zJ,cNI]
  refine⟨⟨oM,oM⟩,oM,?_⟩
  refine qsP (qEO rfl (by decide) (fun _ _ h=>h) rfl 3 17 52 _ _ rfl rfl hF (qEP _)) ?_
  refine sB ?_
  refine⟨oM,l.length-(k+1),oM,k+1,oM,rfl,?_⟩
  rw[qET l k oM,yH,zW,List.map_nil,qES]
  rfl
 ·have:k=l.length:=by omega
  subst this
  rw[List.take_length]at hF ⊢
  simp only[e1,qEQ,zV,List.length_nil,List.length_replicate,push_cast,reduceIte,zA,zB,zC,zD,zE,zF,zG,reduceCtorEq,zH,zJ,cNI]
  refine qsP (qEO rfl (by decide) (fun _ _ h=>h) rfl 3 24 52 _ _ rfl rfl hF (qEP _)) ?_
  refine sB ?_
  have:digW (l.map toW)=dgS (qEz dig0 (l.map toW)) (toW l.length):=by
   unfold digW
   rw[yG]
   congr 1
   unfold toW;omega
  rw[this]
end Go.Proofs.YtecoaapkcnhlhabGreatDoor
namespace Go.Proofs.YtecoaapkcnhlhabGreatDoor
open Go Go.Vc Txt Go.Ham
theorem qEV{w:Nat}(h:w<2^64):toW (IntKind.i64.wrap (w:Int))=w:=by
 unfold toW
 rw[IntKind.wrap_i64]
 omega
def wI(w:Nat):Int:=IntKind.i64.wrap (w:Int)
def numR(ws:List Nat):List Int:=(ws.length:Int)::ws.map wI
def qEW(n:Nat)(l:List (List Nat)):List Int:=(n:Int)::l.flatMap numR
theorem qEX{n:Nat}(h:n<2^64):toW (n:Int)=n:=by unfold toW;omega
theorem qEY{ws:List Nat}(h: ∀w∈ws,w<2^64)(hl:ws.length<2^64):(numR ws).map toW=ws.length::ws:=by
 unfold numR
 rw[zW,qEX hl,List.map_map]
 congr 1
 conv=>rhs;rw[<- List.map_id ws]
 exact List.map_congr_left fun w hw=>qEV (h w hw)
theorem qEZ{l:List (List Nat)}(h:qDA l)(hl: ∀ws∈l,ws.length<2^64)(hn:l.length<2^64):(qEW l.length l).map toW=qEL l:=by
 unfold qEW qEL
 rw[zW,qEX hn,List.map_flatMap]
 congr 1
 unfold qDA at h
 clear hn
 induction l with
 |nil=>rfl
 |cons ws l ih=>
   rw[List.flatMap_cons,List.flatMap_cons,qEY (h ws zX) (hl ws zX),ih (fun v hv=>h v (zT _ hv)) fun v hv=>hl v (zT _ hv)]
structure FrmSm (l:List (List Nat)):Prop where
 ok:qDA l
 n:l.length<=900
 len: ∀ws∈l,ws.length<=1000
theorem qF0{l:List (List Nat)}(h: ∀ws∈l,ws.length<=1000)(n:Nat):(qEW n l).length<=1+1001*l.length:=by
 unfold qEW
 rw[zV]
 induction l with
 |nil=>simp
 |cons ws l ih=>
   have h1:=h ws zX
   have h2:=ih fun v hv=>h v (zT _ hv)
   have h3:(numR ws).length=ws.length+1:=by simp[numR]
   rw[List.flatMap_cons,zU,h3,zV]
   omega
theorem qF1{α:Type} [Inhabited α](l:List α)(k:Nat)(h:k<l.length):l.take (k+1)=l.take k++[l.getD k default]:=by
 rw[zZ h];simp[zK,h]
theorem qF2(l:List Nat)(k:Nat):(nats l).getD k default=((l.getD k default:Nat):Int):=by
 simp only[nats,zK,zS]
 cases l[k]? <;>rfl
theorem qF3(l:List Nat):(nats l).length=l.length:=by simp[nats]
theorem rep1{α:Type}(a:α):List.replicate 1 a=[a]:=rfl
theorem qF4(n:Nat)(l:List (List Nat))(ws:List Nat):qEW n (l++[ws])=qEW n l++numR ws:=by simp[qEW]
theorem qF5(l:List (List Nat))(hl:FrmSm l):FnEq Tryz.prog 20 [.sl false 1 (rows (frmC false) l)] (.sc (.int .u64 (digF l:Nat))):=by
 have h1:=hl.n
 refine FnEq.of_awp Tryz.func20 ok20 (by show 1<=_;decide) (by simp only[push_cast,reduceIte,zA,zB,zC,zD,zE,zF,zG,reduceCtorEq,zH,zJ,cNI]<;>first|exact fun _ _=>trivial|simp) ?_
 simp only[ac20,rv20,push_cast,reduceIte,zA,zB,zC,zD,zE,zF,zG,reduceCtorEq,zH,zJ,cNI]
 simp only[rep1,List.set_cons_zero,zV,List.length_nil,push_cast,reduceIte,zA,zB,zC,zD,zE,zF,zG,reduceCtorEq,zH,zJ,cNI]
 refine qoP (fun n st=> ∃k:Nat,k<=l.length/\n=l.length-k/\st=⟨[(3,.view 10 0 (qEW l.length (l.take k)).length),(11,.sl false 1 (rows (frmC false) l)),(12,.int l.length),(13,.int k)],[],[(10,⟨1,3,ints (qEW l.length (l.take k))⟩)],[]⟩) l.length ⟨0,oM,oM,?_⟩ ?_
 ·refine sB ?_
  rfl
 rintro n st ⟨k,hk,rfl,rfl⟩
 have hn:=qF0 (l:=l.take k) (fun ws hws=>hl.len ws (List.mem_of_mem_take hws)) l.length
 have htk:(l.take k).length=k:=by rw[List.length_take];omega
 simp only[rep1,List.set_cons_zero,zV,List.length_nil,push_cast,reduceIte,zA,zB,zC,zD,zE,zF,zG,reduceCtorEq,zH,zJ,cNI]
 refine qnY (fun h=> ?_) fun h=> ?_
 ·have hws:=hl.len _ (show l.getD k default∈l by simp[zK,show k<l.length by omega])
  have hT:=qF1 l k oM
  generalize l.getD k default=ws at hws hT ⊢
  simp only[qF3]
  refine⟨⟨oM,oM⟩,oM,⟨oM,oM⟩,?_⟩
  refine qoP (fun n st=> ∃j:Nat,j<=ws.length/\n=ws.length-j/\st=⟨[(3,.view 10 0 (qEW l.length (l.take k)++((ws.length:Int)::(ws.take j).map wI)).length),(11,.sl false 1 (rows (frmC false) l)),(12,.int l.length),(13,.int k),(24,.sl false 1 (rows u64C (nats ws))),(25,.int ws.length),(26,.int j)],[],[(10,⟨1,3,ints (qEW l.length (l.take k)++((ws.length:Int)::(ws.take j).map wI))⟩)],[]⟩) ws.length ⟨0,oM,oM,?_⟩ ?_
  ·simp only[List.take_zero,List.map_nil,zU,zV,List.length_nil,push_cast,reduceIte,zA,zB,zC,zD,zE,zF,zG,reduceCtorEq,zH,zJ,cNI]
   try rfl
  rintro n st ⟨j,hj,rfl,rfl⟩
  have htj:(ws.take j).length=j:=by rw[List.length_take];omega
  simp only[rep1,List.set_cons_zero,zV,List.length_nil,zU,yG,htj,push_cast,reduceIte,zA,zB,zC,zD,zE,zF,zG,reduceCtorEq,zH,zJ,cNI]
  refine qnY (fun h2=> ?_) fun h2=> ?_
  ·have hTj:=qF1 ws j oM
   simp only[qF2,qF3]
   refine⟨⟨oM,oM⟩,oM,⟨oM,oM⟩,⟨oM,oM⟩,ws.length-(j+1),oM,j+1,oM,rfl,?_⟩
   rw[hTj,yH,zW,List.map_nil,List.append_assoc,List.cons_append,zU,htj]
   rfl
  ·have:j=ws.length:=by omega
   subst this
   rw[List.take_length]
   refine⟨⟨oM,oM⟩,l.length-(k+1),oM,k+1,oM,rfl,?_⟩
   rw[hT,qF4,zU,show(numR ws).length=ws.length+1 from by simp[numR]]
   rfl
 ·have:k=l.length:=by omega
  subst this
  rw[List.take_length]
  rw[List.take_length]at hn
  refine qrv (qEU (qEW l.length l) oM) sC ?_
  refine sB ?_
  rw[qEZ hl.ok (fun ws hws=>by have:=hl.len ws hws;omega) oM]
  rfl
def colF(g:Grid)(n:Int):Int:=if qv2 g<=n then -1 else if g.w*g.h<=n/qv1 g then g.w else n/qv1 g%g.w
theorem qF6(g:Grid)(hg:GOk g)(n:Int)(hn:0<=n/\n<=1000000000):FnEq Tryz.prog 12 [.agg (quX false g),.int n] (.int (colF g n)):=by
 have h1:=hg.count
 have h2:=hg.each
 have h3:=hg.tracks
 have h4:=hg.w
 have h5:=hg.wh
 have he:6+2*g.tracks=qv1 g:=rfl
 refine FnEq.of_awp Tryz.func12 ok12 (by show 2<=_;decide) (by simp only[push_cast,reduceIte,zA,zB,zC,zD,zE,zF,zG,reduceCtorEq,zH,zJ,cNI]<;>first|exact fun _ _=>trivial|simp) ?_
 simp only[ac12,rv12,push_cast,reduceIte,zA,zB,zC,zD,zE,zF,zG,reduceCtorEq,zH,zJ,cNI]
 rw[decide_eq_false (show ¬n<0 by omega)]
 refine⟨⟨oM,oM⟩,⟨oM,oM⟩,⟨oM,oM,oM⟩,?_⟩
 refine sB ?_
 refine qrv (qv5 g hg) sC ?_
 refine sB ?_
 have hq:0<=n/qv1 g:=Int.ediv_nonneg hn.1 oM
 have hq2:n/qv1 g<=n:=Int.ediv_le_self _ hn.1
 unfold colF
 rw[he]
 refine qnY (fun h=> ?_) fun h=> ?_
 ·rw[if_pos h]
  done
 rw[if_neg h]
 refine⟨⟨oM,oM⟩,?_⟩
 refine qnY (fun h=> ?_) fun h=> ?_
 ·rw[if_pos h]
 ·rw[if_neg h]
  exact⟨⟨hq,oM,oM⟩,rfl⟩
end Go.Proofs.YtecoaapkcnhlhabGreatDoor
namespace Go.Vc
open Go Go.RowKit
theorem qF7{i j:Nat}{c:PV}(h:c.to nul (isId i)=false):c.ren i j=c:=by
 cases c<;>first|rfl|skip
 ·rename_i id lo n
  have h:(id==i)=false:=h
  have h:id≠i:=by simpa using h
  simp only[PV.ren,if_neg h]
 ·rename_i id lo n
  have h:(id==i)=false:=h
  have h:id≠i:=by simpa using h
  simp only[PV.ren,if_neg h]
theorem qF8{i j:Nat} : ∀ {l:List PV},anyT nul (isId i) l=false->l.map (PV.ren i j)=l
 |[],_=>rfl
 | c :: r, h => by
   rw[qhN,Bool.or_eq_false_iff]at h
   rw[zW,qF7 h.1,qF8 h.2]
theorem qF9{i j:Nat}{c:PV}(h:c.toA nul (isId i)=false):c.renA i j=c:=by
 by_cases hc: ∃cs,c= .agg cs
 ·obtain⟨cs,rfl⟩:=hc
  rw[qhQ]at h;simp only[PV.renA,qF8 h]
 ·have e:c.renA i j=c.ren i j:=by cases c<;>first|rfl|exact absurd ⟨_,rfl⟩ hc
  have e2:c.toA nul (isId i)=c.to nul (isId i):=by cases c<;>first|rfl|exact absurd ⟨_,rfl⟩ hc
  rw[e,qF7 (by rw[<- e2];exact h)]
theorem qFa{i j:Nat}{c:PV}(h:c.toV nul (isId i)=false):c.renV i j=c:=by
 by_cases hc: ∃cs,c= .tup cs
 ·obtain⟨cs,rfl⟩:=hc
  simp only[PV.renV]
  congr 1
  have h:cs.any (PV.toA nul (isId i))=false:=h
  conv=>rhs;rw[<- List.map_id cs]
  apply List.map_congr_left
  intro c hc
  exact qF9 (by simpa using yD.1 h c hc)
 ·have e:c.renV i j=c.renA i j:=by cases c<;>first|rfl|exact absurd ⟨_,rfl⟩ hc
  have e2:c.toV nul (isId i)=c.toA nul (isId i):=by cases c<;>first|rfl|exact absurd ⟨_,rfl⟩ hc
  rw[e,qF9 (by rw[<- e2];exact h)]
theorem qFb{i j:Nat} : ∀ {s:List (Nat×PV)},farL i s->(s.map fun x=>(x.1,x.2.renV i j))=s
 |[],_=>rfl
 |(k,v)::r,h=>by rw[zW,qFb h.2,qFa h.1.2]
theorem qFc{i:Nat} : ∀ {s:List (Nat×PV)},farL i s->s.all (fun x=> !x.2.toV nul (isId i))=true
 |[],_=>rfl
 |(k,v)::r,h=>by rw[List.all_cons,qFc h.2,h.1.2];rfl
theorem SWk.renEq {s : List (Nat × PV)} {b b' : List (Nat × List PV)} {a a' : List (Nat × Arr)} {A : Arr} (i j : Nat) (hA : lk a i = some A) (hj : lk a j = none) (hfi : farL i s) (hfj : farL j s)
  (hbj:refB nul (isId j) b=false) (hb:(b.map fun x=>(x.1,x.2.map (PV.ren i j)))=b') (ha:up (rm a i) j A=a'):SWk ⟨s,b,a,[]⟩ ⟨s,b',a',[]⟩:=by
 have h:=SWk.ren (st:=⟨s,b,a,[]⟩) i j hA hj (by
  simp only[St.noTo,zN]
  refine⟨⟨qFc hfj,?_⟩,rfl⟩
  rw[<- qim]at hbj
  rw[yE]
  intro x hx
  have:=yD.1 hbj x hx
  rw[Bool.not_eq_true]at this
  rw[Bool.not_eq_true']
  exact this)
 simp only[St.ren]at h
 rw[qFb hfi,hb,ha]at h
 exact h
theorem qFd{α:Type}(l:List (Nat×α)){k i:Nat}(v:α)(h:k≠i):rm ((k,v)::l) i=(k,v)::rm l i:=by
 show(if k=i then rm l i else(k,v)::rm l i)=_
 rw[if_neg h]
theorem qFe{α:Type}(l:List (Nat×α))(k:Nat)(v:α):rm ((k,v)::l) k=rm l k:=by
 show(if k=k then rm l k else(k,v)::rm l k)=_
 rw[if_pos rfl]
theorem rowsA_rm(es ty:Nat): ∀(k:Nat) (rs:List (Option (List (List PV)))) (x:Nat),rm (qB4 es ty k rs) (k+x)=qB4 es ty k (rs.set x none)
 |_,[],x=>by simp[qB4,Go.Vc.rm]
 | k, none :: rs, 0 => by
   rw[List.set_cons_zero]
   exact rm_ge es ty (k+1) rs k (by omega)
 | k, some r :: rs, 0 => by
   rw[List.set_cons_zero];show rm ((k,_)::qB4 es ty (k+1) rs) k=_;rw[qFe]
   exact rm_ge es ty (k+1) rs k (by omega)
 |k,none::rs,x+1=>by rw[qB4,List.set_cons_succ,qB4,show k+(x+1)=k+1+x from by omega,rowsA_rm es ty (k+1) rs x]
 |k,some r::rs,x+1=>by rw[qB4,List.set_cons_succ,qB4,qFd _ _ (show k≠k+(x+1)by omega),show k+(x+1)=k+1+x from by omega,rowsA_rm es ty (k+1) rs x]
where
 rm_ge (es ty:Nat): ∀(k:Nat) (rs:List (Option (List (List PV)))) (i:Nat),i<k->rm (qB4 es ty k rs) i=qB4 es ty k rs
  |_,[],_,_=>rfl
  |k,none::rs,i,h=>rm_ge es ty (k+1) rs i (by omega)
  |k,some r::rs,i,h=>by rw[qB4,qFd _ _ (show k≠i by omega),rm_ge es ty (k+1) rs i (by omega)]
theorem qFf(es ty:Nat)(k:Nat)(rs:List (Option (List (List PV))))(i:Nat)(h:i<k):rm (qB4 es ty k rs) i=qB4 es ty k rs:=rowsA_rm.rm_ge es ty k rs i h
theorem qFg: ∀(j k:Nat) (rs:List (Option (List (List PV)))) (x:Nat) (r:List (List PV)),rs[x]? =some (some r)->(qB3 k rs).map (PV.ren (k+x) j)=(qB3 k (rs.set x none)).set x (.view j 0 r.length)
 |_,_,[],x,r,h=>by simp at h
 | j, k, q :: rs, 0, r, h => by
   simp at h;subst h
   rw[qB3,zW,List.set_cons_zero,qB3,List.set_cons_zero,qBb (k+0) j (k+1) rs fun x _=>by omega]
   simp[rowC,PV.ren]
 | j, k, q :: rs, x + 1, r, h => by
   rw[qB3,zW,List.set_cons_succ,qB3,List.set_cons_succ,show k+(x+1)=k+1+x from by omega,qFg j (k+1) rs x r (by simpa using h)]
   congr 1
   cases q with
   |none=>rfl
   |some q=>simp only[rowC,PV.ren,if_neg (show k≠k+1+x by omega)]
theorem qFh: ∀(j k:Nat) (rs:List (Option (List (List PV)))) (x:Nat) (r:List (List PV)),x<rs.length->j<k->((qB3 k rs).set x (.view j 0 r.length)).map (PV.ren j (k+x))=qB3 k (rs.set x (some r))
 |_,_,[],x,r,h,_=>by simp at h
 | j, k, q :: rs, 0, r, h, hj => by
   rw[qB3,List.set_cons_zero,zW,List.set_cons_zero,qB3,qBb j (k+0) (k+1) rs fun x _=>by omega]
   simp[rowC,PV.ren]
 | j, k, q :: rs, x + 1, r, h, hj => by
   rw[qB3,List.set_cons_succ,zW,List.set_cons_succ,qB3,show k+(x+1)=k+1+x from by omega,qFh j (k+1) rs x r (by simpa using h) (by omega)]
   congr 1
   cases q with
   |none=>rfl
   |some q=>simp only[rowC,PV.ren,if_neg (show k≠j by omega)]
theorem qFi(pa:Nat->Bool): ∀(k:Nat) (rs:List (Option (List (List PV)))),(∀x r,rs[x]? =some (some r)->pa (k+x)=false)->anyT nul pa (qB3 k rs)=false
 |_,[],_=>rfl
 | k, r :: rs, h => by
   rw[qB3,qhN,qFi pa (k+1) rs fun x r hx=>by rw[show k+1+x=k+(x+1)from by omega];exact h (x+1) r (by simpa using hx),Bool.or_false]
   cases r with
   |none=>rfl
   |some r=>exact h 0 r (by simp)
theorem qFj(pb pa:Nat->Bool)(c:PV): ∀(l:List PV) (x:Nat),anyT pb pa l=false->c.to pb pa=false->anyT pb pa (l.set x c)=false
 |[],_,_,_=>rfl
 | d :: l, 0, h, hc => by
   rw[qhN,Bool.or_eq_false_iff]at h
   rw[List.set_cons_zero,qhN,hc,h.2];rfl
 | d :: l, x + 1, h, hc => by
   rw[qhN,Bool.or_eq_false_iff]at h
   rw[List.set_cons_succ,qhN,h.1,qFj pb pa c l x h.2 hc];rfl
theorem qFk{P:Env}(cs:List PV)(off:Nat)(d:Option Nat)(r:List AO)(st:St)(K:St->Prop):qS P d (rowV false 1 off cs) r st K=(off+1<=cs.length/\opsK P r (st.put d (cs.getD off .bot)) K):=rfl
theorem qFl(cs:List PV)(i:Nat)(v:PV)(h:i<cs.length):spl cs i [v]=cs.set i v:=by
 unfold spl
 rw[List.set_eq_take_append_cons_drop,if_pos h]
 simp
end Go.Vc
namespace Go.Vc
open Go Go.RowKit
theorem qFm(pb pa:Nat->Bool): ∀(s:List (Nat×PV)) (i:Nat) (v:PV),qiE pb pa (up s i v)=up (qiE pb pa s) i (v.killV pb pa)
 | [], i, v => by
   simp only[up,qiI,qiJ]
   cases h:v.toV pb pa
   ·rw[qiQ pb pa h];rfl
   ·rfl
 | (k, u) :: r, i, v => by
   have e: ∀k:Nat,(k,bif v.toV pb pa then v.killV pb pa else v)=(k,v.killV pb pa):=fun k=>by
    cases h:v.toV pb pa
    ·rw[qiQ pb pa h];rfl
    ·rfl
   simp only[up,qiJ]
   split
   ·simp only[qiJ,e]
   ·split
    ·simp only[qiJ,e]
    ·rw[qiJ,qFm pb pa r i v]
theorem qFn(pb pa:Nat->Bool)(V:Nat->PV)(dn:List Nat): ∀(ops:List XO) (s:List (Nat×PV)),qiE pb pa (slD V dn ops s)=slD (fun i=>(V i).killV pb pa) dn ops (qiE pb pa s)
 |[],_=>rfl
 | x :: r, s => by
   rw[qAz,qAz,qFn pb pa V dn r]
   congr 1
   split
   ·unfold putD
    split
    ·exact qFm pb pa s _ _
    ·rfl
   ·rfl
theorem qFo{V V' :Nat->PV}{dn:List Nat}(h: ∀i,dn.contains i=true->V i=V' i): ∀(ops:List XO) (s:List (Nat×PV)),slD V dn ops s=slD V' dn ops s
 |[],_=>rfl
 | x :: r, s => by
   rw[qAz,qAz,qFo h r]
   split
   ·next hx=>
    unfold putD
    rw[h x.i hx]
   ·rfl
theorem qFp {P : Env} {ops : List XO} {V : List Nat -> Nat -> PV} {s0 : List (Nat × PV)} (mem : List Nat -> List (Nat × List PV) × List (Nat × Arr) × List (Nat × Mp)) (hops : qAA ops = true) (hg : ops.all (fun x => x.o.g.isNone) = true)
  (step: ∀x∈ops,∀dn,rdyB dn x=true->qAI ops dn-> ∀K:St->Prop,K ⟨putD (V (x.i::dn)) x (slD (V (x.i::dn)) dn ops s0),(mem (x.i::dn)).1,(mem (x.i::dn)).2.1,(mem (x.i::dn)).2.2⟩->
   opK P x.o ⟨slD (V dn) dn ops s0,(mem dn).1,(mem dn).2.1,(mem dn).2.2⟩ K) {K:St->Prop}
  (hK: ∀dn,(∀x∈ops,dn.contains x.i=true)->K ⟨slD (V dn) dn ops s0,(mem dn).1,(mem dn).2.1,(mem dn).2.2⟩):
  ∀(n:Nat) (dn:List Nat),dn.length+n=ops.length->dn.Nodup->(∀j∈dn,j∈ops.map (·.i))->qAI ops dn->allK P ops n dn ⟨slD (V dn) dn ops s0,(mem dn).1,(mem dn).2.1,(mem dn).2.2⟩ K
 | 0, dn, hl, hn, hs, _ => by
   have hall: ∀x∈ops,dn.contains x.i=true:=fun x hx=>by
    refine Classical.byContradiction fun hc=> ?_
    have hm:x.i∉dn:=by simpa using hc
    have:=qAJ (l1:=x.i::dn) (l2:=ops.map (·.i)) (List.nodup_cons.2 ⟨hm,hn⟩) fun j hj=>(List.mem_cons.1 hj).elim (fun e=>by rw[e];exact List.mem_map_of_mem hx) (hs j)
    simp at this
    omega
   exact⟨yE.2 hall,hK dn hall⟩
 | n + 1, dn, hl, hn, hs, hc => by
   refine⟨fun e=>hK dn (yE.1 e),fun x hx hr=> ?_⟩
   have h2:x.o.g=none:=by simpa using yE.1 hg x hx
   have hr2:=hr
   simp only[rdyB,zN,Bool.not_eq_true',yE]at hr2
   have hm:x.i∉dn:=by simpa using hr2.1
   simp only[h2,grdK]
   refine step x hx dn hr hc _ ?_
   rw[<- qAF hr2.1 hops hx]
   refine qFp mem hops hg step hK n (x.i::dn) (by simp;omega) (List.nodup_cons.2 ⟨hm,hn⟩) (fun j hj=>(List.mem_cons.1 hj).elim (fun e=>by rw[e];exact List.mem_map_of_mem hx) (hs j)) ?_
   intro y hy hyd j hj
   rw[List.contains_cons,Bool.or_eq_true]at hyd ⊢
   rcases hyd with e|hyd
   ·have e:y.i=x.i:=by simpa using e
    have:y=x:=qAK hops hy hx e
    subst this
    exact .inr (hr2.2 j hj)
   ·exact .inr (hc y hy hyd j hj)
theorem qFq {P : Env} {ops : List XO} (V : List Nat -> Nat -> PV) {s0 : List (Nat × PV)} (mem : List Nat -> List (Nat × List PV) × List (Nat × Arr) × List (Nat × Mp)) (hops : qAA ops = true) (hg : ops.all (fun x => x.o.g.isNone) = true)
  (step: ∀x∈ops,∀(dn:List Nat) (S:List (Nat×PV)),rdyB dn x=true->qAI ops dn->S=slD (V dn) dn ops s0->(∀t,knW ops dn t->getL S t=vlW ops (V dn) s0 t)->
   ∀K:St->Prop,K ⟨putD (V (x.i::dn)) x (slD (V (x.i::dn)) dn ops s0),(mem (x.i::dn)).1,(mem (x.i::dn)).2.1,(mem (x.i::dn)).2.2⟩->opsK P [x.o] ⟨S,(mem dn).1,(mem dn).2.1,(mem dn).2.2⟩ K) {K:St->Prop}
  (hK: ∀dn,(∀x∈ops,dn.contains x.i=true)->K ⟨slA (V dn) ops s0,(mem dn).1,(mem dn).2.1,(mem dn).2.2⟩) {st:St} (hst:st=⟨s0,(mem []).1,(mem []).2.1,(mem []).2.2⟩):allK P ops ops.length [] st K:=by
 have h0:slD (V []) [] ops s0=s0:=by
  have: ∀(l:List XO) (s:List (Nat×PV)),slD (V []) [] l s=s:=by
   intro l
   induction l with
   |nil=>exact fun _=>rfl
   |cons x r ih=>exact fun s=>by rw[qAz,if_neg (by simp)];exact ih s
  exact this ops s0
 subst hst
 have key:=qFp (P:=P) (ops:=ops) (V:=V) (s0:=s0) mem hops hg (fun x hx dn hr hc K hk=>qAT (by simpa using yE.1 hg x hx) (step x hx dn _ hr hc rfl (fun t ht=>qAO hops ht) K hk)) (K:=K) (fun dn h=>by rw[qAP h];exact hK dn h) ops.length [] (by simp) .nil (fun j hj=>by cases hj) (fun x _ h=>by simp at h)
 rw[h0]at key
 exact key
theorem qFr{K:Nat} : ∀ {s:List (Nat×PV)} {i:Nat} {v:PV},qtX K s=true->i<K->qtX K (up s i v)=true
 |[],i,v,_,hi=>by simp[up,qtX,hi]
 | (k, u) :: r, i, v, h, hi => by
   have h' :decide (k<K)=true/\qtX K r=true:=by simpa[qtX]using h
   simp only[up]
   split
   ·simpa[qtX]using h'
   ·split
    ·simp[qtX,hi,h'.2];simpa using h'.1
    ·have:=qFr (v:=v) h'.2 hi
     simp[qtX,this];simpa using h'.1
theorem qFs{K:Nat}{V:Nat->PV}{dn:List Nat} : ∀ {ops:List XO} {s:List (Nat×PV)},qtX K s=true->(ops.all fun x=>match x.o.d with|some d=>decide (d<K)|none=>true)=true->qtX K (slD V dn ops s)=true
 |[],_,h,_=>h
 | x :: r, s, h, ho => by
   rw[List.all_cons,zN]at ho
   rw[qAz]
   refine qFs ?_ ho.2
   split
   ·unfold putD
    split
    ·next d hd=>
     rw[hd]at ho
     exact qFr h (by simpa using ho.1)
    ·exact h
   ·exact h
end Go.Vc
namespace Go.Proofs.YtecoaapkcnhlhabGreatDoor
open Go Go.Vc Txt
def qFt(n xi len:Nat)(cell cell' :PV)(dn:List Nat):Nat->PV
 |0=> .bv 32 1 n
 |1=> .int xi
 |2=> .bv 32 1 n
 |3=> .int xi
 |4=> .ptr 32 xi
 |5=>if dn.contains 7=true then cell' else cell
 |6=> .view 1054 0 1
 |7=> .view 1055 0 (len+1)
 |8=> .ptr 32 xi
 |_=> .bot
def qFu(b b7 b9:List (Nat×List PV))(a a6 a7:List (Nat×Arr))(dn:List Nat):List (Nat×List PV)×List (Nat×Arr)×List (Nat×Mp):=
 (if dn.contains 9=true then b9 else if dn.contains 7=true then b7 else b,if dn.contains 7=true then a7 else if dn.contains 6=true then a6 else a,[])
def qFv(a:List (Nat×Arr))(W:List (List PV))(cell cell' :PV):Prop:=(cell= .nil/\W=[]/\cell' = .nil)\/(cell= .view 1055 0 W.length/\lk a 1055=some ⟨1,52,W⟩/\cell' = .bot)
set_option maxHeartbeats 4000000 in
theorem qFw {P : Env} {s0 : List (Nat × PV)} {b b7 : List (Nat × List PV)} {a : List (Nat × Arr)} (n xi : Nat) (W : List (List PV)) (cell cell' : PV) (C C7 : List PV) (K : St -> Prop)
  (hP:getL s0 1008= .ptr 8 0) (hX:getL s0 1009= .int xi) (hx:xi<n) (hW:W.length<100000000)
  (hb1:lk b 8=some [.bv 32 1 n]) (hb2:lk b7 8=some [.bv 32 1 n]) (hc:lk b 32=some C) (hc7:lk b7 32=some C7) (hC:C.length=n) (hC7:C7.length=n) (hcell:C.getD xi .bot=cell)
  (k6:qiF nul (isId 1054) b=b) (k7:qiF nul (isId 1055) b=b7) (f6:qiE nul (isId 1054) s0=s0) (f7:qiE nul (isId 1055) s0=s0)
  (h:qFv a W cell cell')
  (hK:K ⟨slA (qFt n xi W.length cell cell' [7]) xs26_13 s0,up b7 32 (C7.set xi (.view 1055 0 (W.length+1))),up (up a 1054 ⟨1,52,[[.sc (.int .u64 0)]]⟩) 1055 ⟨1,52,W++[[.sc (.int .u64 0)]]⟩,[]⟩):
  allK P xs26_13 xs26_13.length [] ⟨s0,b,a,[]⟩ K:=by
 have hlk: ∀(l:List (Nat×Arr)) (A:Arr),lk (up l 1054 A) 1055=lk l 1055:=fun l A=>by rw[qa2,if_neg (by decide)]
 have hlk6: ∀(l:List (Nat×Arr)) (A:Arr),lk (up l 1054 A) 1054=some A:=fun l A=>by rw[qa2,if_pos rfl]
 have hub: ∀(c:List PV),lk (up b7 32 c) 8=some [.bv 32 1 n]:=fun c=>by rw[qa2,if_neg (by decide)];exact hb2
 refine qFq (ops:=xs26_13) (qFt n xi W.length cell cell') (qFu b b7 (up b7 32 (C7.set xi (.view 1055 0 (W.length+1)))) a (up a 1054 ⟨1,52,[[.sc (.int .u64 0)]]⟩) (up (up a 1054 ⟨1,52,[[.sc (.int .u64 0)]]⟩) 1055 ⟨1,52,W++[[.sc (.int .u64 0)]]⟩)) rfl rfl ?_ ?_ rfl
 ·rw[xs26_13_all]
  refine⟨?_,?_,?_,?_,?_,?_,?_,?_,?_,?_⟩
  ·intro dn S hr hc' hS L K hK
   have h9:dn.contains 9=false:=qAW hc' hr (zP (i:=9) rfl) (by decide)
   have g0:getL S 1008= .ptr 8 0:=(L 1008 trivial).trans hP
   have e:qFt n xi W.length cell cell' (0::dn)=qFt n xi W.length cell cell' dn:=rfl
   have em:qFu b b7 (up b7 32 (C7.set xi (.view 1055 0 (W.length+1)))) a (up a 1054 ⟨1,52,[[.sc (.int .u64 0)]]⟩) (up (up a 1054 ⟨1,52,[[.sc (.int .u64 0)]]⟩) 1055 ⟨1,52,W++[[.sc (.int .u64 0)]]⟩) (0::dn)=qFu b b7 (up b7 32 (C7.set xi (.view 1055 0 (W.length+1)))) a (up a 1054 ⟨1,52,[[.sc (.int .u64 0)]]⟩) (up (up a 1054 ⟨1,52,[[.sc (.int .u64 0)]]⟩) 1055 ⟨1,52,W++[[.sc (.int .u64 0)]]⟩) dn:=rfl
   rw[em,e,<- hS]at hK
   revert hK
   unfold qFu
   rw[h9]
   intro hK
   cases h7:dn.contains 7<;>rw[h7]at hK<;>simp only[g0,hb1,hb2,push_cast,reduceIte,zA,zB,zC,zD,zE,zF,zG,reduceCtorEq,zH,zJ,cNI]at hK ⊢ <;>exact hK
  ·intro dn S hr hc' hS L K hK
   have g0:getL S 1009= .int xi:=(L 1009 trivial).trans hX
   have e:qFt n xi W.length cell cell' (1::dn)=qFt n xi W.length cell cell' dn:=rfl
   rw[e,<- hS]at hK
   simp only[g0,push_cast,reduceIte,zA,zB,zC,zD,zE,zF,zG,reduceCtorEq,zH,zJ,cNI]
   exact hK
  ·intro dn S hr hc' hS L K hK
   have h9:dn.contains 9=false:=qAW hc' hr (zP (i:=9) rfl) (by decide)
   have g0:getL S 1008= .ptr 8 0:=(L 1008 trivial).trans hP
   have e:qFt n xi W.length cell cell' (2::dn)=qFt n xi W.length cell cell' dn:=rfl
   have em:qFu b b7 (up b7 32 (C7.set xi (.view 1055 0 (W.length+1)))) a (up a 1054 ⟨1,52,[[.sc (.int .u64 0)]]⟩) (up (up a 1054 ⟨1,52,[[.sc (.int .u64 0)]]⟩) 1055 ⟨1,52,W++[[.sc (.int .u64 0)]]⟩) (2::dn)=qFu b b7 (up b7 32 (C7.set xi (.view 1055 0 (W.length+1)))) a (up a 1054 ⟨1,52,[[.sc (.int .u64 0)]]⟩) (up (up a 1054 ⟨1,52,[[.sc (.int .u64 0)]]⟩) 1055 ⟨1,52,W++[[.sc (.int .u64 0)]]⟩) dn:=rfl
   rw[em,e,<- hS]at hK
   revert hK
   unfold qFu
   rw[h9]
   intro hK
   cases h7:dn.contains 7<;>rw[h7]at hK<;>simp only[g0,hb1,hb2,push_cast,reduceIte,zA,zB,zC,zD,zE,zF,zG,reduceCtorEq,zH,zJ,cNI]at hK ⊢ <;>exact hK
  ·intro dn S hr hc' hS L K hK
   have g0:getL S 1009= .int xi:=(L 1009 trivial).trans hX
   have e:qFt n xi W.length cell cell' (3::dn)=qFt n xi W.length cell cell' dn:=rfl
   rw[e,<- hS]at hK
   simp only[g0,push_cast,reduceIte,zA,zB,zC,zD,zE,zF,zG,reduceCtorEq,zH,zJ,cNI]
   exact hK
  ·intro dn S hr hc' hS L K hK
   have g1:getL S 1050= .bv 32 1 n:=L 1050 (qAU hr (j:=2) (by decide))
   have g2:getL S 1051= .int xi:=L 1051 (qAU hr (j:=3) (by decide))
   have e:qFt n xi W.length cell cell' (4::dn)=qFt n xi W.length cell cell' dn:=rfl
   rw[e,<- hS]at hK
   simp only[g1,g2,Nat.mul_one,push_cast,reduceIte,zA,zB,zC,zD,zE,zF,zG,reduceCtorEq,zH,zJ,cNI]
   exact⟨⟨oM,oM⟩,hK⟩
  ·intro dn S hr hc' hS L K hK
   have g1:getL S 1052= .ptr 32 xi:=L 1052 (qAU hr (j:=4) (by decide))
   have h7:dn.contains 7=false:=qAW hc' hr (zP (i:=7) rfl) (by decide)
   have h9:dn.contains 9=false:=qAW hc' hr (zP (i:=9) rfl) (by decide)
   have e:qFt n xi W.length cell cell' (5::dn)=qFt n xi W.length cell cell' dn:=rfl
   have em: ∀q1 q2 q3 q4 q5 q6,qFu q1 q2 q3 q4 q5 q6 (5::dn)=qFu q1 q2 q3 q4 q5 q6 dn:=fun _ _ _ _ _ _=>rfl
   rw[em,e,<- hS]at hK
   have e5:qFt n xi W.length cell cell' dn 5=cell:=by
    show(if dn.contains 7=true then cell' else cell)=cell
    rw[h7];rfl
   have hK:K ⟨up S 1053 (qFt n xi W.length cell cell' dn 5),_,_,_⟩:=hK
   rw[e5]at hK
   revert hK
   unfold qFu
   rw[h9,h7]
   intro hK
   simp only[g1,hc,qFk C,hcell,hC,push_cast,reduceIte,zA,zB,zC,zD,zE,zF,zG,reduceCtorEq,zH,zJ,cNI]at hK ⊢
   exact⟨oM,hK⟩
  ·intro dn S hr hc' hS L K hK
   have h7:dn.contains 7=false:=qAW hc' hr (zP (i:=7) rfl) (by decide)
   have h9:dn.contains 9=false:=qAW hc' hr (zP (i:=9) rfl) (by decide)
   have h6:dn.contains 6=false:=qAV hr
   have e:qFt n xi W.length cell cell' (6::dn)=qFt n xi W.length cell cell' dn:=rfl
   have em: ∀q1 q2 q3 q4 q5 q6,qFu q1 q2 q3 q4 q5 q6 (6::dn)=(q1,q5,[]):=fun q1 q2 q3 q4 q5 q6=>by
    show(if dn.contains 9=true then _ else if dn.contains 7=true then _ else _,if dn.contains 7=true then _ else if true=true then _ else _,_)=_
    rw[h9,h7];rfl
   have em0: ∀q1 q2 q3 q4 q5 q6,qFu q1 q2 q3 q4 q5 q6 dn=(q1,q4,[]):=fun q1 q2 q3 q4 q5 q6=>by
    unfold qFu
    rw[h9,h7,h6];rfl
   rw[em,e,<- hS]at hK
   rw[em0]
   have hkS:qiE nul (isId 1054) S=S:=by
    rw[hS,qFn,f6]
    apply qFo
    intro i hi
    rcases i with _|_|_|_|_|_|_|_|_|_|i<;>try rfl
    ·show PV.killV nul (isId 1054) (if dn.contains 7=true then cell' else cell)=(if dn.contains 7=true then cell' else cell)
     rw[h7]
     rcases h with⟨h1,-,-⟩|⟨h1,-,-⟩<;>rw[h1]<;>rfl
    ·rw[h6]at hi;cases hi
   simp only[hkS,k6,rep1,List.set_cons_zero,zV,List.length_nil,push_cast,reduceIte,zA,zB,zC,zD,zE,zF,zG,reduceCtorEq,zH,zJ,cNI]at hK ⊢
   first|exact hK|exact⟨by decide,hK⟩
  ·intro dn S hr hc' hS L K hK
   have h9:dn.contains 9=false:=qAW hc' hr (zP (i:=9) rfl) (by decide)
   have h7:dn.contains 7=false:=qAV hr
   have h6:dn.contains 6=true:=qAU hr (j:=6) (by decide)
   have g5:getL S 1053=cell:=by
    rw[L 1053 (qAU hr (j:=5) (by decide))]
    show(if dn.contains 7=true then cell' else cell)=cell
    rw[h7];rfl
   have g6:getL S 1054= .view 1054 0 1:=L 1054 (qAU hr (j:=6) (by decide))
   have em: ∀q1 q2 q3 q4 q5 q6,qFu q1 q2 q3 q4 q5 q6 (7::dn)=(q2,q6,[]):=fun q1 q2 q3 q4 q5 q6=>by
    show(if dn.contains 9=true then _ else if true=true then _ else _,if true=true then _ else if dn.contains 6=true then _ else _,_)=_
    rw[h9];rfl
   have em0: ∀q1 q2 q3 q4 q5 q6,qFu q1 q2 q3 q4 q5 q6 dn=(q1,q5,[]):=fun q1 q2 q3 q4 q5 q6=>by
    unfold qFu
    rw[h9,h7,h6];rfl
   rw[em]at hK
   rw[em0]
   have hkS:qiE nul (isId 1055) S=slD (qFt n xi W.length cell cell' (7::dn)) dn xs26_13 s0:=by
    rw[hS,qFn,f7]
    apply qFo
    intro i hi
    rcases i with _|_|_|_|_|_|_|_|_|_|i<;>try rfl
    ·show PV.killV nul (isId 1055) (if dn.contains 7=true then cell' else cell)=cell'
     rw[h7]
     rcases h with⟨h1,-,h3⟩|⟨h1,-,h3⟩<;>rw[h1,h3]<;>rfl
    ·rw[h7]at hi;cases hi
   have hK:K ⟨up (slD (qFt n xi W.length cell cell' (7::dn)) dn xs26_13 s0) 1055 (.view 1055 0 (W.length+1)),_,_,_⟩:=hK
   rw[<- hkS]at hK
   rcases h with⟨h1,h2,h3⟩|⟨h1,h2,h3⟩
   ·subst h2
    rw[h1]at g5
    simp only[g5,g6,hlk6,k7,List.take_succ_cons,List.take_zero,zV,List.length_nil,List.nil_append,push_cast,reduceIte,zA,zB,zC,zD,zE,zF,zG,reduceCtorEq,zH,zJ,cNI]at hK ⊢
    first|exact hK|exact⟨by decide,hK⟩
   ·rw[h1]at g5
    simp only[g5,g6,hlk,hlk6,h2,k7,List.take_succ_cons,List.take_zero,zV,List.length_nil,push_cast,reduceIte,zA,zB,zC,zD,zE,zF,zG,reduceCtorEq,zH,zJ,cNI]at hK ⊢
    exact⟨⟨oM,oM⟩,hK⟩
  ·intro dn S hr hc' hS L K hK
   have h9:dn.contains 9=false:=qAW hc' hr (zP (i:=9) rfl) (by decide)
   have g1:getL S 1048= .bv 32 1 n:=L 1048 (qAU hr (j:=0) (by decide))
   have g2:getL S 1049= .int xi:=L 1049 (qAU hr (j:=1) (by decide))
   have e:qFt n xi W.length cell cell' (8::dn)=qFt n xi W.length cell cell' dn:=rfl
   rw[e,<- hS]at hK
   simp only[g1,g2,Nat.mul_one,push_cast,reduceIte,zA,zB,zC,zD,zE,zF,zG,reduceCtorEq,zH,zJ,cNI]
   exact⟨⟨oM,oM⟩,hK⟩
  ·intro dn S hr hc' hS L K hK
   have h9:dn.contains 9=false:=qAV hr
   have h7:dn.contains 7=true:=qAU hr (j:=7) (by decide)
   have g1:getL S 1056= .ptr 32 xi:=L 1056 (qAU hr (j:=8) (by decide))
   have g2:getL S 1055= .view 1055 0 (W.length+1):=L 1055 (qAU hr (j:=7) (by decide))
   have e:qFt n xi W.length cell cell' (9::dn)=qFt n xi W.length cell cell' dn:=rfl
   have em: ∀q1 q2 q3 q4 q5 q6,qFu q1 q2 q3 q4 q5 q6 (9::dn)=(q3,q6,[]):=fun q1 q2 q3 q4 q5 q6=>by
    show(if true=true then _ else if dn.contains 7=true then _ else _,if dn.contains 7=true then _ else if dn.contains 6=true then _ else _,_)=_
    rw[h7];rfl
   have em0: ∀q1 q2 q3 q4 q5 q6,qFu q1 q2 q3 q4 q5 q6 dn=(q2,q6,[]):=fun q1 q2 q3 q4 q5 q6=>by
    unfold qFu
    rw[h9,h7];rfl
   rw[em,e,<- hS]at hK
   rw[em0]
   have hK:K ⟨S,_,_,_⟩:=hK
   simp only[g1,g2,hc7,hC7,qFl C7 xi _ oM,push_cast,reduceIte,zA,zB,zC,zD,zE,zF,zG,reduceCtorEq,zH,zJ,cNI]at hK ⊢
   exact⟨oM,hK⟩
 ·intro dn h
  rw[xs26_13_all]at h
  obtain⟨h0,h1,h2,h3,h4,h5,h6,h7,h8,h9⟩:=h
  have em: ∀q1 q2 q3 q4 q5 q6,qFu q1 q2 q3 q4 q5 q6 dn=(q3,q6,[]):=fun q1 q2 q3 q4 q5 q6=>by
   unfold qFu
   rw[if_pos h9,if_pos h7]
  have ev:qFt n xi W.length cell cell' dn=qFt n xi W.length cell cell' [7]:=by
   funext i
   rcases i with _|_|_|_|_|_|_|_|_|_|i<;>try rfl
   show(if dn.contains 7=true then cell' else cell)=cell'
   rw[if_pos h7]
  rw[em,ev]
  exact hK
end Go.Proofs.YtecoaapkcnhlhabGreatDoor
