/- VcZt VcZu HV HP HQ HO TxtD VcZv VcZw VcZx ID HR IE HS: lemmas -/
import Derived.Test.YtecoaapkcnhlhabGreatDoorPart11
import Derived.Test.YtecoaapkcnhlhabGreatDoorPart12
import Derived.Shelf.Spec.TrailingZeros
import Derived.Test.YtecoaapkcnhlhabGreatDoorPart10
import Derived.Lib.ItoaNum
import Derived.Test.YtecoaapkcnhlhabGreatDoorPart06
import Derived.Test.YtecoaapkcnhlhabGreatDoorChecked
set_option linter.unusedSimpArgs false
set_option linter.unusedVariables false
open Option renaming map_eq_some_iff->zR
open Array renaming getD_eq_getD_getElem? ->zO
open Bool renaming and_eq_true->zN
open List renaming getD_eq_getElem?_getD->zK,getElem?_eq_getElem->zL,getElem?_map->zS,mem_cons_of_mem->zT,length_append->zU,length_cons->zV,map_cons->zW,mem_cons_self->zX,take_of_length_le->zY,getElem?_append_left->yA,getElem?_append_right->yB,mem_append->yC,all_eq_true->yE,length_set->yF,length_map->yG,map_append->yH
open Int renaming reduceToNat->zH,reduceNeg->zJ
open Nat renaming reduceEqDiff->zA,reduceAdd->zB,reduceSub->zC,reduceMul->zD,reduceBEq->zE,reduceLT->zF,reduceLeDiff->zG
namespace Go.Vc
open Go Go.RowKit
def slD(V:Nat->PV)(dn:List Nat):List XO->List (Nat×PV)->List (Nat×PV)
 |[],s=>s
 |x::r,s=>slD V dn r (if dn.contains x.i=true then(match x.o.d with|some d=>up s d (V x.i)|none=>s)else s)
def putD(V:Nat->PV)(x:XO)(s:List (Nat×PV)):List (Nat×PV):=match x.o.d with|some d=>up s d (V x.i)|none=>s
theorem qAz(V:Nat->PV)(dn:List Nat)(x:XO)(r:List XO)(s:List (Nat×PV)):slD V dn (x::r) s=slD V dn r (if dn.contains x.i=true then putD V x s else s):=rfl
def qAA:List XO->Bool
 |[]=>true
 |x::r=>r.all (fun y=>x.i !=y.i&&(match x.o.d,y.o.d with|some d,some e=>d !=e|_,_=>true))&&qAA r
theorem qAB(V:Nat->PV){x y:XO}(h: ∀d e,x.o.d=some d->y.o.d=some e->d≠e)(s:List (Nat×PV)):putD V x (putD V y s)=putD V y (putD V x s):=by
 unfold putD
 cases hx:x.o.d with
 |none=>cases y.o.d<;>rfl
 |some d=>
   cases hy:y.o.d with
   |none=>rfl
   |some e=>exact qa3 s _ _ (fun q=>h d e hx hy q.symm)
theorem qAC{V:Nat->PV}{dn:List Nat}{x:XO} : ∀ {r:List XO} (_: ∀y∈r,∀d e,x.o.d=some d->y.o.d=some e->d≠e) (s:List (Nat×PV)),slD V dn r (putD V x s)=putD V x (slD V dn r s)
 |[],_,_=>rfl
 | y :: r, h, s => by
   rw[qAz,qAz]
   split
   ·rw[<- qAB V (h y (by simp)) s]
    exact qAC (fun z hz=>h z (by simp[hz])) _
   ·exact qAC (fun z hz=>h z (by simp[hz])) _
theorem qAD{x:XO}{r:List XO}(h:qAA (x::r)=true):(∀y∈r,x.i≠y.i/\ ∀d e,x.o.d=some d->y.o.d=some e->d≠e)/\qAA r=true:=by
 simp only[qAA,zN,yE]at h
 refine⟨fun y hy=> ?_,h.2⟩
 obtain⟨h1,h2⟩:=h.1 y hy
 refine⟨by simpa using h1,fun d e e1 e2=> ?_⟩
 rw[e1,e2]at h2
 simpa using h2
theorem qAE{V:Nat->PV}{dn:List Nat}{i:Nat} : ∀ {r:List XO} (_: ∀y∈r,i≠y.i) (s:List (Nat×PV)),slD V (i::dn) r s=slD V dn r s
 |[],_,_=>rfl
 | y :: r, h, s => by
   have e:(i::dn).contains y.i=dn.contains y.i:=by
    have:=h y (by simp)
    simp[this.symm]
   rw[qAz,qAz,e]
   exact qAE (fun z hz=>h z (by simp[hz])) _
theorem qAF{V:Nat->PV}{dn:List Nat}{x:XO}(hnd:dn.contains x.i=false): ∀ {ops:List XO} (_:qAA ops=true) (_:x∈ops) (s:List (Nat×PV)),slD V (x.i::dn) ops s=putD V x (slD V dn ops s)
 | y :: r, h, hx, s => by
   obtain⟨h1,h2⟩:=qAD h
   rw[qAz,qAz]
   rcases List.mem_cons.1 hx with rfl|hx
   ·rw[if_pos (by simp),hnd,if_neg (by decide),qAE (fun z hz=>(h1 z hz).1),qAC fun z hz=>(h1 z hz).2]
   ·have hne:=(h1 x hx).1
    have e:(x.i::dn).contains y.i=dn.contains y.i:=by simp[hne]
    rw[e]
    exact qAF hnd h2 hx _
theorem qAG{V:Nat->PV}{dn:List Nat}{j:Nat} : ∀ {r:List XO} (_:r.all (fun y=>y.o.d !=some j)=true) (s:List (Nat×PV)),lk (slD V dn r s) j=lk s j
 |[],_,_=>rfl
 | y :: r, h, s => by
   simp only[List.all_cons,zN]at h
   rw[qAz,qAG h.2]
   split
   ·unfold putD
    split
    ·rename_i d hd
     rw[qa2,if_neg]
     intro e
     rw[hd,e]at h
     simp at h
    ·rfl
   ·rfl
theorem qAH{V:Nat->PV}{dn:List Nat}{x:XO}{d:Nat}(hd:x.o.d=some d)(hdn:dn.contains x.i=true): ∀ {ops:List XO} (_:qAA ops=true) (_:x∈ops) (s:List (Nat×PV)),lk (slD V dn ops s) d=some (V x.i)
 | y :: r, h, hx, s => by
   obtain⟨h1,h2⟩:=qAD h
   rw[qAz]
   rcases List.mem_cons.1 hx with rfl|hx
   ·rw[if_pos hdn,qAG]
    ·unfold putD
     rw[hd]
     simp only
     rw[qa2,if_pos rfl]
    ·rw[yE]
     intro z hz
     have:=(h1 z hz).2
     cases he:z.o.d with
     |none=>rfl
     |some e=>
       have:=this d e hd he
       simp[this.symm]
   ·exact qAH hd hdn h2 hx _
def qAI(ops:List XO)(dn:List Nat):Prop:= ∀x∈ops,dn.contains x.i=true-> ∀j∈x.deps,dn.contains j=true
theorem qAJ: ∀ {l1 l2:List Nat},l1.Nodup->(∀x∈l1,x∈l2)->l1.length<=l2.length
 |[],_,_,_=>Nat.zero_le _
 | x :: l1, l2, h, hs => by
   rw[List.nodup_cons]at h
   have hx:=hs x (by simp)
   have h1:=qAJ (l1:=l1) (l2:=l2.erase x) h.2 fun y hy=>(List.mem_erase_of_ne (fun e=>h.1 (by rw[<- e];exact hy))).2 (hs y (by simp[hy]))
   rw[List.length_erase_of_mem hx]at h1
   have:=List.length_pos_of_mem hx
   rw[zV]
   omega
theorem qAK{ops:List XO}(h:qAA ops=true){x y:XO}(hx:x∈ops)(hy:y∈ops)(e:x.i=y.i):x=y:=by
 induction ops with
 |nil=>cases hx
 |cons z r ih=>
   obtain⟨h1,h2⟩:=qAD h
   rcases List.mem_cons.1 hx with e1|hx2
   ·rcases List.mem_cons.1 hy with e2|hy2
    ·rw[e1,e2]
    ·exact absurd (by rw[<- e1,e]) (h1 y hy2).1
   ·rcases List.mem_cons.1 hy with e2|hy2
    ·exact absurd (by rw[<- e2,e]) (h1 x hx2).1
    ·exact ih h2 hx2 hy2
def dstB:Option Nat->Nat->Bool
 |some d,t=>d==t
 |none,_=>false
def idxW:List XO->Nat->Option Nat
 |[],_=>none
 |x::r,t=>if dstB x.o.d t=true then some x.i else idxW r t
def knW(ops:List XO)(dn:List Nat)(t:Nat):Prop:=match idxW ops t with|none=>True|some i=>dn.contains i=true
def vlW(ops:List XO)(V:Nat->PV)(s0:List (Nat×PV))(t:Nat):PV:=match idxW ops t with|none=>getL s0 t|some i=>V i
theorem dstB_iff{o:Option Nat}{t:Nat} :dstB o t=true ↔ o=some t:=by cases o<;>simp[dstB]
theorem qAM: ∀ {ops:List XO} {t:Nat},idxW ops t=none->ops.all (fun y=>y.o.d !=some t)=true
 |[],_,_=>rfl
 | x :: r, t, h => by
   unfold idxW at h
   split at h
   ·cases h
   ·rename_i hd
    rw[List.all_cons,qAM h,Bool.and_true]
    simp only[bne_iff_ne,ne_eq]
    exact fun e=>hd (dstB_iff.2 e)
theorem qAN: ∀ {ops:List XO} {t i:Nat},idxW ops t=some i-> ∃x∈ops,x.o.d=some t/\x.i=i
 |[],_,_,h=>by cases h
 | x :: r, t, i, h => by
   unfold idxW at h
   split at h
   ·rename_i hd
    injection h with h
    exact⟨x,by simp,dstB_iff.1 hd,h⟩
   ·obtain⟨y,hy,h2⟩:=qAN h
    exact⟨y,by simp[hy],h2⟩
theorem qAO{ops:List XO}{V:Nat->PV}{s0:List (Nat×PV)}{dn:List Nat}(hops:qAA ops=true){t:Nat}(h:knW ops dn t):getL (slD V dn ops s0) t=vlW ops V s0 t:=by
 unfold knW at h
 unfold vlW
 cases e:idxW ops t with
 |none=>rw[<- qhb,qAG (qAM e),qhb]
 |some i=>
   rw[e]at h
   obtain⟨x,hx,h1,rfl⟩:=qAN e
   rw[<- qhb,qAH h1 h hops hx]
   rfl
def slA(V:Nat->PV):List XO->List (Nat×PV)->List (Nat×PV)
 |[],s=>s
 |x::r,s=>slA V r (putD V x s)
theorem qAP{V:Nat->PV}{dn:List Nat} : ∀ {ops:List XO} (_: ∀x∈ops,dn.contains x.i=true) (s:List (Nat×PV)),slD V dn ops s=slA V ops s
 |[],_,_=>rfl
 | x :: r, h, s => by
   rw[qAz,if_pos (h x (by simp)),slA]
   exact qAP (fun y hy=>h y (by simp[hy])) _
theorem qAT{P:Env}{o:AO}{st:St}{K:St->Prop}(hg:o.g=none)(h:opsK P [o] st K):opK P o st K:=by
 obtain⟨d,g,op⟩:=o
 subst hg
 exact h
theorem qAU{dn:List Nat}{x:XO}(h:rdyB dn x=true){j:Nat}(hj:j∈x.deps):dn.contains j=true:=by
 simp only[rdyB,zN,yE]at h
 exact h.2 j hj
theorem qAV{dn:List Nat}{x:XO}(h:rdyB dn x=true):dn.contains x.i=false:=by
 simp only[rdyB,zN,Bool.not_eq_true']at h
 exact h.1
theorem qAW{ops:List XO}{dn:List Nat}{x y:XO}(hc:qAI ops dn)(hr:rdyB dn x=true)(hy:y∈ops)(hj:x.i∈y.deps):dn.contains y.i=false:=by
 cases h:dn.contains y.i with
 |false=>rfl
 |true=>exact absurd ((qAV hr).symm.trans (hc y hy h x.i hj)) (by decide)
end Go.Vc
namespace Go.Vc
open Go Go.RowKit
def PV.ren(i j:Nat):PV->PV
 | .view id lo n=> .view (if id=i then j else id) lo n
 | .eptr id k off=> .eptr (if id=i then j else id) k off
 |c=>c
def PV.renA(i j:Nat):PV->PV
 | .agg cs=> .agg (cs.map (PV.ren i j))
 |c=>c.ren i j
def PV.renV(i j:Nat):PV->PV
 | .tup cs=> .tup (cs.map (PV.renA i j))
 |c=>c.renA i j
def Lay.ren(L:Lay)(i j:Nat):Lay:= { L with ab:=fun k=>if k=j then L.ab i else L.ab k,ac:=fun k=>if k=j then L.ac i else L.ac k,ae:=fun k=>if k=j then L.ae i else L.ae k,al:=fun k=>if k=j then L.al i else L.al k }
def St.ren(st:St)(i j:Nat)(A:Arr):St:= { s:=st.s.map fun x=>(x.1,x.2.renV i j),b:=st.b.map fun x=>(x.1,x.2.map (PV.ren i j)),a:=up (rm st.a i) j A,m:=st.m }
section
variable {w w0:World} {Z Z0:Zone} {L:Lay} {N:Fr} {st:St} {a:Act} {i j:Nat} {c:PV} {v:Value}
theorem CR.ren(h:CR w Z L c v)(hn:c.to nul (fun k=>k==j)=false):CR w Z (L.ren i j) (c.ren i j) v:=by
 cases c<;>simp only[PV.ren]<;>first|exact h|skip
 ·rename_i id lo n
  have hn:id≠j:=by simpa[PV.to]using hn
  by_cases e:id=i
  ·subst e
   simp only[CR,Lay.ren,if_pos]at h ⊢;exact h
  ·rw[if_neg e]
   simp only[CR,Lay.ren,if_neg hn]at h ⊢;exact h
 ·rename_i id lo n
  have hn:id≠j:=by simpa[PV.to]using hn
  by_cases e:id=i
  ·subst e
   simp only[CR,Lay.ren,if_pos]at h ⊢;exact h
  ·rw[if_neg e]
   simp only[CR,Lay.ren,if_neg hn]at h ⊢;exact h
theorem AR.ren(h:AR w Z L c v)(hn:c.toA nul (fun k=>k==j)=false):AR w Z (L.ren i j) (c.renA i j) v:=by
 cases c with
 |agg cs=>
   obtain⟨vs,h1,h2,h3⟩:=h
   refine⟨vs,h1,by simpa using h2,fun k d hk=> ?_⟩
   rw[zS]at hk
   obtain⟨x,hx,rfl⟩:=zR.1 hk
   exact⟨(h3 k x hx).1.ren (qa1 hn hx),(h3 k x hx).2⟩
 |_=>exact AR.cr (CR.ren (AR.toCR (by simp) h) hn)
theorem VR.ren(h:VR w Z L c v)(hn:c.toV nul (fun k=>k==j)=false):VR w Z (L.ren i j) (c.renV i j) v:=by
 cases c with
 |tup cs=>
   obtain⟨vs,h1,h2,h3⟩:=h
   refine⟨vs,h1,by simpa using h2,fun k d hk=> ?_⟩
   rw[zS]at hk
   obtain⟨x,hx,rfl⟩:=zR.1 hk
   exact(h3 k x hx).ren (qa1 hn hx)
 |_=>exact VR.ar (AR.ren (VR.toAR (by simp) h) hn)
theorem XR.ren{A:Arr}{cur:Array Value}{k:Nat}(h:XR w Z L k A cur)(L' :Lay)(k' :Nat)(h1:L'.ab k' =L.ab k)(h2:L'.ac k' =L.ac k)(h3:L'.ae k' =L.ae k)(h4:L'.al k' =L.al k):XR w Z L' k' A cur:=
 ⟨h.pos,h3.trans h.ae,h4.trans h.al,by rw[h1];exact h.blk,by rw[h2];exact h.size,by rw[h2];exact h.fits,by rw[h2];exact h.max,h.rows,h.cell⟩
theorem Inv.ren{A:Arr}(h:Inv w0 Z0 N Z L st a w)(hA:lk st.a i=some A)(hj:lk st.a j=none)(hn:st.noTo nul (fun k=>k==j)=true):Inv w0 Z0 N Z (L.ren i j) (st.ren i j A) a w:=by
 have hij:i≠j:=fun e=>by rw[e,hj]at hA;cases hA
 have key: ∀k B,lk (up (rm st.a i) j A) k=some B-> ∃k0,lk st.a k0=some B/\(L.ren i j).ab k=L.ab k0/\(L.ren i j).ac k=L.ac k0/\(L.ren i j).ae k=L.ae k0/\(L.ren i j).al k=L.al k0/\((k=j/\k0=i)\/(k≠j/\k0=k/\k≠i)):=fun k B hB=>by
  rw[qa2]at hB
  split at hB
  ·rename_i e;subst e;cases hB
   refine⟨i,hA,?_,?_,?_,?_,.inl ⟨rfl,rfl⟩⟩<;>simp[Lay.ren]
  ·rename_i e
   rw[qa4]at hB
   split at hB
   ·cases hB
   ·rename_i e2
    have e' :k≠j:=fun h=>e h.symm
    refine⟨k,hB,?_,?_,?_,?_,.inr ⟨e',rfl,fun h=>e2 h.symm⟩⟩<;>simp[Lay.ren,e']
 have hx: ∀k cs,lk (st.b.map fun x=>(x.1,x.2.map (PV.ren i j))) k=some cs-> ∃u,lk st.b k=some u/\cs=u.map (PV.ren i j):=fun k cs hl=>qbK st.b _ k cs hl
 refine⟨h.zt,h.z0,h.zn,h.zb,h.below,fun k cs hl=> ?_,fun k B hl=> ?_,fun p q x y hp hq=> ?_,fun p q x y hp hq e=> ?_,fun p q x y hp hq=> ?_,fun k cs hl=> ?_,fun k B hl=> ?_,h.ownm,h.injm,fun k M hl=> ?_,h.oth,h.yb,h.size,h.defers,fun k x hl=> ?_⟩
 ·obtain⟨u,h1,_⟩:=hx k cs hl;exact h.ownb k u h1
 ·obtain⟨k0,h1,e1,_⟩:=key k B hl;rw[e1];exact h.owna k0 B h1
 ·obtain⟨u,h1,_⟩:=hx p x hp;obtain⟨u',h2,_⟩:=hx q y hq;exact h.injb p q u u' h1 h2
 ·obtain⟨p0,h1,e1,_,_,_,f1⟩:=key p x hp
  obtain⟨q0,h2,e2,_,_,_,f2⟩:=key q y hq
  rw[e1,e2]at e
  have:=h.inja p0 q0 x y h1 h2 e
  rcases f1 with⟨rfl,rfl⟩|⟨f1,rfl,g1⟩<;>rcases f2 with⟨rfl,rfl⟩|⟨f2,rfl,g2⟩
  ·rfl
  ·exact absurd this.symm g2
  ·exact absurd this g1
  ·exact this
 ·obtain⟨u,h1,_⟩:=hx p x hp
  obtain⟨q0,h2,e2,_⟩:=key q y hq
  rw[e2];exact h.injx p q0 u y h1 h2
 ·obtain⟨u,h1,rfl⟩:=hx k cs hl
  obtain⟨vs,T,g1,g2,g3⟩:=h.boxes k u h1
  refine⟨vs,T,g1,by rw[yG];exact g2,fun m d hd=> ?_⟩
  rw[zS]at hd
  obtain⟨x,hx',rfl⟩:=zR.1 hd
  exact⟨(g3 m x hx').1.ren (qa1 (St.noTo_box hn h1) hx'),(g3 m x hx').2⟩
 ·obtain⟨k0,h1,e1,e2,e3,e4,_⟩:=key k B hl
  obtain⟨cur,hX⟩:=h.arrs k0 B h1
  exact⟨cur,hX.ren _ _ e1 e2 e3 e4⟩
 ·obtain⟨ents,clock,hM⟩:=h.maps k M hl
  exact⟨ents,clock,⟨hM.blk,hM.size,hM.ent,hM.kind,hM.old,hM.born,hM.it⟩⟩
 ·obtain⟨u,h1,rfl⟩:=qbK st.s _ k x hl
  exact(h.slots k u h1).ren (St.noTo_slot hn h1)
end
theorem SWk.ren{st:St}{A:Arr}(i j:Nat)(hA:lk st.a i=some A)(hj:lk st.a j=none)(hn:st.noTo nul (fun k=>k==j)=true):SWk st (st.ren i j A):=fun _ _ _ _ _ ⟨Z,L,h⟩=>⟨Z,L.ren i j,h.ren hA hj hn⟩
theorem SWk.eq{st st' :St}(h:st=st'):SWk st st' :=h▸fun _ _ _ _ _ h=>h
theorem SWk.frz(st:St)(id:Nat):SWk st (st.frz id):=fun _ _ _ _ _ ⟨_,L,h⟩=>(h.frz id).imp fun _ h=>⟨L,h⟩
def rowC(k:Nat):Option (List (List PV))->PV
 |none=> .nil
 |some r=> .view k 0 r.length
def qB3:Nat->List (Option (List (List PV)))->List PV
 |_,[]=>[]
 |k,r::rs=>rowC k r::qB3 (k+1) rs
def qB4(es ty:Nat):Nat->List (Option (List (List PV)))->List (Nat×Arr)
 |_,[]=>[]
 |k,none::rs=>qB4 es ty (k+1) rs
 |k,some r::rs=>(k,⟨es,ty,r⟩)::qB4 es ty (k+1) rs
theorem qB5: ∀(k:Nat) (rs:List (Option (List (List PV)))),(qB3 k rs).length=rs.length
 |_,[]=>rfl
 |k,r::rs=>by rw[qB3,zV,zV,qB5 (k+1) rs]
theorem qB6: ∀(k:Nat) (rs:List (Option (List (List PV)))) (x:Nat),(qB3 k rs)[x]? =rs[x]?.map (rowC (k+x))
 |_,[],x=>by simp[qB3]
 |k,r::rs,0=>by simp[qB3]
 |k,r::rs,x+1=>by rw[qB3,List.getElem?_cons_succ,List.getElem?_cons_succ,qB6 (k+1) rs x,show k+1+x=k+(x+1)from by omega]
theorem qB7: ∀(k:Nat) (rs:List (Option (List (List PV)))) (x:Nat) (r:Option (List (List PV))),(qB3 k rs).set x (rowC (k+x) r)=qB3 k (rs.set x r)
 |_,[],x,r=>by simp[qB3]
 |k,q::rs,0,r=>by simp[qB3]
 |k,q::rs,x+1,r=>by rw[qB3,List.set_cons_succ,List.set_cons_succ,qB3,show k+(x+1)=k+1+x from by omega,qB7 (k+1) rs x r]
theorem qB8(pb pa:Nat->Bool): ∀(k:Nat) (rs:List (Option (List (List PV)))),(∀x,x<rs.length->pa (k+x)=false)->(qB3 k rs).any (PV.to pb pa)=false
 |_,[],_=>rfl
 | k, r :: rs, h => by
   rw[qB3,List.any_cons,qB8 pb pa (k+1) rs fun x hx=>by rw[show k+1+x=k+(x+1)from by omega];exact h (x+1) (by simpa using hx),Bool.or_false]
   cases r with
   |none=>rfl
   |some r=>exact h 0 (by simp)
theorem qBb: ∀(i j k:Nat) (rs:List (Option (List (List PV)))),(∀x,x<rs.length->k+x≠i)->(qB3 k rs).map (PV.ren i j)=qB3 k rs
 |_,_,_,[],_=>rfl
 | i, j, k, r :: rs, h => by
   rw[qB3,zW,qBb i j (k+1) rs fun x hx=>by rw[show k+1+x=k+(x+1)from by omega];exact h (x+1) (by simpa using hx)]
   congr 1
   cases r with
   |none=>rfl
   |some r=>
     have:k≠i:=h 0 (by simp)
     simp[rowC,PV.ren,this]
theorem qBc(es ty:Nat): ∀(k:Nat) (rs:List (Option (List (List PV)))) (id:Nat),id<k->lk (qB4 es ty k rs) id=none
 |_,[],_,_=>rfl
 |k,none::rs,id,h=>qBc es ty (k+1) rs id (by omega)
 |k,some r::rs,id,h=>by rw[qB4,lk,if_neg (by omega)];exact qBc es ty (k+1) rs id (by omega)
theorem qBd(es ty:Nat): ∀(k:Nat) (rs:List (Option (List (List PV)))) (x:Nat),lk (qB4 es ty k rs) (k+x)=(rs[x]?.bind id).map fun r=>⟨es,ty,r⟩
 |_,[],x=>by simp[qB4,lk]
 |k,none::rs,0=>by rw[qB4,qBc es ty (k+1) rs _ (by omega)];simp
 |k,none::rs,x+1=>by rw[qB4,show k+(x+1)=k+1+x from by omega,qBd es ty (k+1) rs x];simp
 |k,some r::rs,0=>by simp[qB4,lk]
 |k,some r::rs,x+1=>by rw[qB4,lk,if_neg (by omega),show k+(x+1)=k+1+x from by omega,qBd es ty (k+1) rs x];simp
theorem qBe{α:Type}(l:List (Nat×α))(i:Nat)(v:α)(h: ∀x∈l,i<x.1):up l i v=(i,v)::l:=by
 cases l with
 |nil=>rfl
 |cons x r=>
   obtain⟨k,u⟩:=x
   have:i<k:=h (k,u) zX
   rw[up,if_neg (by omega),if_pos this]
theorem qBf(es ty:Nat): ∀(k:Nat) (rs:List (Option (List (List PV)))),∀x∈qB4 es ty k rs,k<=x.1
 |_,[],x,h=>by cases h
 |k,none::rs,x,h=>by have:=qBf es ty (k+1) rs x h;omega
 | k, some r :: rs, x, h => by
   rcases List.mem_cons.1 h with rfl|h
   ·exact Nat.le_refl _
   ·have:=qBf es ty (k+1) rs x h;omega
theorem qBg(es ty:Nat): ∀(k:Nat) (rs:List (Option (List (List PV)))) (x:Nat) (r:List (List PV)),x<rs.length->up (qB4 es ty k rs) (k+x) ⟨es,ty,r⟩=qB4 es ty k (rs.set x (some r))
 |_,[],x,r,h=>by simp at h
 | k, none :: rs, 0, r, h => by
   rw[qB4,List.set_cons_zero,qB4]
   exact qBe _ _ _ fun x hx=>by have:=qBf es ty (k+1) rs x hx;omega
 |k,some q::rs,0,r,h=>by simp[qB4,up]
 |k,none::rs,x+1,r,h=>by rw[qB4,List.set_cons_succ,qB4,show k+(x+1)=k+1+x from by omega,qBg es ty (k+1) rs x r (by simpa using h)]
 |k,some q::rs,x+1,r,h=>by rw[qB4,List.set_cons_succ,qB4,up,if_neg (by omega),if_neg (by omega),show k+(x+1)=k+1+x from by omega,qBg es ty (k+1) rs x r (by simpa using h)]
theorem qBh(es ty:Nat)(p:Nat×Arr->Bool): ∀(k:Nat) (rs:List (Option (List (List PV)))),(∀x r,rs[x]? =some (some r)->p (k+x,⟨es,ty,r⟩)=true)->(qB4 es ty k rs).filter p=qB4 es ty k rs
 |_,[],_=>rfl
 |k,none::rs,h=>by rw[qB4];exact qBh es ty p (k+1) rs fun x r hx=>by rw[show k+1+x=k+(x+1)from by omega];exact h (x+1) r (by simpa using hx)
 | k, some q :: rs, h => by
   rw[qB4,List.filter_cons_of_pos (show p (k,⟨es,ty,q⟩)=true from h 0 q (by simp))]
   congr 1
   exact qBh es ty p (k+1) rs fun x r hx=>by rw[show k+1+x=k+(x+1)from by omega];exact h (x+1) r (by simpa using hx)
end Go.Vc
namespace Go.Proofs
open Go.Shelf
def Tryz.lays29_ren:Go.Shelf.Ren:=⟨fun |29=>94|n=>n,fun |0=>0|3=>3|4=>4|5=>5|22=>52|25=>103|54=>154|n=>n,fun |1=>0|n=>n⟩
theorem Tryz.lays29:Go.Proofs.Lays7.n29 Tryz.prog Tryz.lays29_ren:= {
 mixed:=by kernel_rfl
 f29:=Tryz.func94.trans (congrArg some (by kernel_rfl))
 t0:=Tryz.underlying0
 a0:=Tryz.isAgg0
 z0:=Tryz.sizeOf0
 v0:=Tryz.zeroValue0
 i0:=by kernel_rfl
 t3:=Tryz.underlying3
 a3:=Tryz.isAgg3
 z3:=Tryz.sizeOf3
 v3:=Tryz.zeroValue3
 i3:=by kernel_rfl
 t4:=Tryz.underlying4
 a4:=Tryz.isAgg4
 z4:=Tryz.sizeOf4
 v4:=Tryz.zeroValue4
 i4:=by kernel_rfl
 t5:=Tryz.underlying5
 a5:=Tryz.isAgg5
 z5:=Tryz.sizeOf5
 v5:=Tryz.zeroValue5
 i5:=by kernel_rfl
 t22:=Tryz.underlying52
 a22:=Tryz.isAgg52
 z22:=Tryz.sizeOf52
 v22:=Tryz.zeroValue52
 i22:=by kernel_rfl
 t25:=Tryz.underlying103
 a25:=Tryz.isAgg103
 z25:=Tryz.sizeOf103
 v25:=Tryz.zeroValue103
 i25:=by kernel_rfl
 t54:=Tryz.underlying154
 a54:=Tryz.isAgg154
 z54:=Tryz.sizeOf154
 g1:=by kernel_rfl }
end Go.Proofs
namespace Go.Proofs.YtecoaapkcnhlhabGreatDoor
open Go Go.Vc Txt Go.Ham
theorem qBj{P:Program}{f:FuncId}{c r:Value}(hr:scOk r=true)(h: ∀w,GL P w->Calls P f #[c] w fun e w' =>e= .returned r/\w' =w):FnEq P f [.sc c] (.sc r):=by
 intro w Z hg zt zb vs hs hrel
 have h0:TR w Z (.sc c) (vs.getD 0 undef):=hrel 0 (.sc c) rfl
 have hv:vs.getD 0 undef=c:=by
  generalize vs.getD 0 undef=u at h0
  cases h0;rfl
 have e:vs= #[c]:=by
  have hs1:vs.size=1:=hs
  rw[<- hv]
  apply Array.ext
  ·simpa using hs1
  ·intro i h7 h8
   have:i=0:=by simp at h8;omega
   subst this
   simp[zO,Array.getElem?_eq_getElem h7]
 subst e
 refine(h w hg).mono ?_
 rintro e w' ⟨rfl,rfl⟩
 exact⟨r,.sc r,rfl,rfl,TR.sc r hr,Go.RowKit.Below.refl _ _⟩
theorem qBk(n:Nat)(h:n<2^64):FnEq Tryz.prog 94 [.sc (.int .u64 n)] (.int (Go.Lib.ctz 64 n:Nat)):=by
 refine qBj rfl fun w hg=> ?_
 refine Any7.bits_TrailingZeros64 Tryz.lays29 n h w fun _ j hj=> ?_
 have h1:=hg 0 (by kernel_rfl) j hj
 exact h1
theorem qBl(n:Nat)(h:n<2^64):FnEq Tryz.prog 49 [.sc (.int .u64 n)] (.int (Go.Lib.bitLen n:Nat)):=by
 refine qBj rfl fun w hg=> ?_
 have:=Tryz.bits_Len n w oM oM
 exact this
abbrev PV.w (n:Nat):PV:= .sc (.int .u64 (n:Int))
theorem qBm{n:Nat}(h:n<2^64):IntKind.u64.wrap (n:Int)=(n:Int):=qap (by simp only[ikLo];omega) (by simp only[ikHi];omega)
theorem qBn{n:Nat}(h:n<2^64):(BitVec.ofInt 64 (n:Int)).toNat=n:=by
 rw[BitVec.ofInt_natCast,BitVec.toNat_ofNat];exact Nat.mod_eq_of_lt h
theorem qBo{a b:Nat}(ha:a<2^64)(hb:b<2^64):bitF .and .u64 a b=((a&&&b:Nat):Int):=by
 show IntKind.u64.wrap ((BitVec.ofInt 64 (a:Int)&&&BitVec.ofInt 64 (b:Int)).toNat:Int)=_
 rw[BitVec.toNat_and,qBn ha,qBn hb];exact qBm (Nat.and_lt_two_pow _ hb)
theorem qBp{a b:Nat}(ha:a<2^64)(hb:b<2^64):bitF .or .u64 a b=((a|||b:Nat):Int):=by
 show IntKind.u64.wrap ((BitVec.ofInt 64 (a:Int)|||BitVec.ofInt 64 (b:Int)).toNat:Int)=_
 rw[BitVec.toNat_or,qBn ha,qBn hb];exact qBm (Nat.or_lt_two_pow ha hb)
theorem qBq{a b:Nat}(ha:a<2^64)(hb:b<2^64):bitF .xor .u64 a b=((a^^^b:Nat):Int):=by
 show IntKind.u64.wrap ((BitVec.ofInt 64 (a:Int)^^^BitVec.ofInt 64 (b:Int)).toNat:Int)=_
 rw[BitVec.toNat_xor,qBn ha,qBn hb];exact qBm (Nat.xor_lt_two_pow ha hb)
theorem qBr{a b:Nat}(ha:a<2^63)(hb:b<2^63):bitF .and .i64 a b=((a&&&b:Nat):Int):=by
 show IntKind.i64.wrap ((BitVec.ofInt 64 (a:Int)&&&BitVec.ofInt 64 (b:Int)).toNat:Int)=_
 have:=Nat.and_lt_two_pow a hb
 rw[BitVec.toNat_and,qBn oM,qBn oM];exact qap (by simp only[ikLo];omega) (by simp only[ikHi];omega)
theorem qBs{a b:Nat}(ha:a<2^63)(hb:b<2^63):bitF .or .i64 a b=((a|||b:Nat):Int):=by
 show IntKind.i64.wrap ((BitVec.ofInt 64 (a:Int)|||BitVec.ofInt 64 (b:Int)).toNat:Int)=_
 have:=Nat.or_lt_two_pow ha hb
 rw[BitVec.toNat_or,qBn oM,qBn oM];exact qap (by simp only[ikLo];omega) (by simp only[ikHi];omega)
theorem qBt{a b:Nat}(ha:a<2^63)(hb:b<2^63):bitF .xor .i64 a b=((a^^^b:Nat):Int):=by
 show IntKind.i64.wrap ((BitVec.ofInt 64 (a:Int)^^^BitVec.ofInt 64 (b:Int)).toNat:Int)=_
 have:=Nat.xor_lt_two_pow ha hb
 rw[BitVec.toNat_xor,qBn oM,qBn oM];exact qap (by simp only[ikLo];omega) (by simp only[ikHi];omega)
theorem qBu(a k:Nat)(hk:k<=64):shfF .shr .u64 a k=((a/2^k:Nat):Int):=by
 show(a:Int).fdiv (2^(min (k:Int).toNat 64))=_
 rw[Int.toNat_natCast,Nat.min_eq_left hk,Int.fdiv_eq_ediv_of_nonneg _ (Int.pow_nonneg (by decide)),Int.natCast_ediv]
 norm_cast
theorem qBv{a k:Nat}(hk:k<=64)(h:a*2^k<2^64):shfF .shl .u64 a k=((a*2^k:Nat):Int):=by
 show IntKind.u64.wrap ((a:Int)*2^(min (k:Int).toNat 64))=_
 rw[Int.toNat_natCast,Nat.min_eq_left hk]
 rw[show(a:Int)*2^k=((a*2^k:Nat):Int)from by norm_cast]
 exact qBm h
theorem qBw(n:Nat)(h:n<2^64):FnEq Tryz.prog 71 [.sc (.int .u64 n)] (.int (ons n 64:Nat)):=by
 obtain⟨h1,h2,h3,h4⟩:=qAt n h
 refine FnEq.of_awp Tryz.func71 ok71 (by show 1<=_;decide) (by simp only[push_cast,reduceIte,zA,zB,zC,zD,zE,zF,zG,reduceCtorEq,zH,zJ,cNI]<;>first|exact fun _ _=>trivial|simp) ?_
 simp only[ac71,rv71,push_cast,reduceIte,zA,zB,zC,zD,zE,zF,zG,reduceCtorEq,zH,zJ,cNI]
 have s1:shfF .shr .u64 (n:Int) 1=((n/2:Nat):Int):=qBu n 1 (by decide)
 have e1:IntKind.u64.wrap (bitF .and .u64 (shfF .shr .u64 (n:Int) 1) 6148914691236517205+bitF .and .u64 (n:Int) 6148914691236517205)=((sa m0 n:Nat):Int):=by
  rw[s1]
  show IntKind.u64.wrap (bitF .and .u64 ((n/2:Nat):Int) (m0:Nat)+bitF .and .u64 (n:Int) (m0:Nat))=_
  rw[qBo oM (by decide),qBo h (by decide)]
  exact qBm h1
 rw[e1]
 have s2:shfF .shr .u64 (sa m0 n:Int) 2=((sa m0 n/4:Nat):Int):=qBu _ 2 (by decide)
 have e2:IntKind.u64.wrap (bitF .and .u64 (shfF .shr .u64 (sa m0 n:Int) 2) 3689348814741910323+bitF .and .u64 (sa m0 n:Int) 3689348814741910323)=((sb m1 (sa m0 n):Nat):Int):=by
  rw[s2]
  show IntKind.u64.wrap (bitF .and .u64 ((sa m0 n/4:Nat):Int) (m1:Nat)+bitF .and .u64 (sa m0 n:Int) (m1:Nat))=_
  rw[qBo oM (by decide),qBo h1 (by decide)]
  exact qBm (Nat.lt_of_lt_of_le h2 (by decide))
 rw[e2]
 generalize sb m1 (sa m0 n)=y at h2 h3 h4 ⊢
 have s3:shfF .shr .u64 (y:Int) 4=((y/16:Nat):Int):=qBu _ 4 (by decide)
 have e3:bitF .and .u64 (IntKind.u64.wrap (shfF .shr .u64 (y:Int) 4+y)) 1085102592571150095=((sc m2 y:Nat):Int):=by
  rw[s3,show((y/16:Nat):Int)+y=((y/16+y:Nat):Int)from rfl,qBm oM]
  exact qBo (b:=m2) oM (by decide)
 rw[e3]
 generalize sc m2 y=z at h3 h4 ⊢
 have q1:z/256<2^60:=by omega
 have s4:shfF .shr .u64 (z:Int) 8=((z/256:Nat):Int):=qBu _ 8 (by decide)
 have e4:IntKind.u64.wrap (z+shfF .shr .u64 (z:Int) 8)=((z+z/256:Nat):Int):=by rw[s4];exact qBm (n:=z+z/256) oM
 rw[e4]
 have hv:z+z/256<2^61:=by omega
 have h4' :sum8 z=(((z+z/256)+(z+z/256)/65536)+((z+z/256)+(z+z/256)/65536)/4294967296)%128:=rfl
 generalize z+z/256=v at hv h4' ⊢
 have s5:shfF .shr .u64 (v:Int) 16=((v/65536:Nat):Int):=qBu _ 16 (by decide)
 have e5:IntKind.u64.wrap (v+shfF .shr .u64 (v:Int) 16)=((v+v/65536:Nat):Int):=by rw[s5];exact qBm (n:=v+v/65536) oM
 rw[e5]
 have hu:v+v/65536<2^62:=by omega
 generalize v+v/65536=u at hu h4' ⊢
 have s6:shfF .shr .u64 (u:Int) 32=((u/4294967296:Nat):Int):=qBu _ 32 (by decide)
 have e6:IntKind.u64.wrap (u+shfF .shr .u64 (u:Int) 32)=((u+u/4294967296:Nat):Int):=by rw[s6];exact qBm (n:=u+u/4294967296) oM
 rw[e6]
 refine⟨oM,oM,oM,oM,oM,oM,oM,?_⟩
 rw[show bitF .and .i64 ((u+u/4294967296:Nat):Int) 127=((u+u/4294967296)%128:Nat)from(qBr (b:=127) oM (by decide)).trans (by rw[Nat.and_two_pow_sub_one_eq_mod _ 7])]
 rw[<- h4',h4]
end Go.Proofs.YtecoaapkcnhlhabGreatDoor
namespace Go.Ham
def qBx(v n:Nat):List Bool:=(List.range n).map v.testBit
def valB:List Bool->Nat
 |[]=>0
 |b::r=>b.toNat+2*valB r
theorem qBy(v n:Nat):(qBx v n).length=n:=by simp[qBx]
theorem qBz(v n:Nat):qBx v (n+1)=qBx v n++[v.testBit n]:=by simp[qBx,List.range_succ]
theorem qBA(v n:Nat):qBx v (n+1)=v.testBit 0::qBx (v/2) n:=by
 simp only[qBx,List.range_succ_eq_map,zW,List.map_map]
 congr 1
 apply List.map_congr_left
 intro i _
 simp[Function.comp,Nat.testBit_succ]
theorem qBB: ∀l:List Bool,valB l<2^l.length
 |[]=>by simp[valB]
 | b :: r => by
   have:=qBB r
   simp only[valB,zV,Nat.pow_succ]
   cases b<;>simp<;>omega
theorem qBC: ∀(n v:Nat),v<2^n->valB (qBx v n)=v
 |0,v,h=>by simp at h;subst h;rfl
 | n + 1, v, h => by
   rw[qBA,valB,qBC n (v/2) (by rw[Nat.pow_succ]at h;omega),Nat.testBit_zero]
   rcases Nat.mod_two_eq_zero_or_one v with e|e<;>simp[e]<;>omega
theorem qBD: ∀(l:List Bool) (i:Nat),(valB l).testBit i=l.getD i false
 |[],i=>by simp[valB]
 |b::r,0=>by simp only[valB,Nat.testBit_zero,List.getD_cons_zero];cases b<;>simp<;>omega
 | b :: r, i + 1 => by
   rw[Nat.testBit_succ,show valB (b::r)/2=valB r from by simp only[valB];cases b<;>simp<;>omega,qBD r i,List.getD_cons_succ]
theorem qBF: ∀(l m:List Bool),valB (l++m)=valB l+2^l.length*valB m
 |[],m=>by simp[valB]
 | b :: r, m => by
   rw[List.cons_append,valB,valB,qBF r m,zV,Nat.pow_succ,Nat.mul_add,<- Nat.mul_assoc,Nat.mul_comm 2 (2^r.length)]
   omega
theorem qBG(l:List Bool)(b:Bool):valB (l++[b])=valB l+2^l.length*b.toNat:=by rw[qBF];simp[valB]
theorem qBH(l:List Bool)(b:Bool):valB (l++[b])=valB l|||(b.toNat<<<l.length):=by
 rw[qBG,Nat.shiftLeft_eq,Nat.mul_comm b.toNat]
 have:=qBB l
 rw[Nat.add_comm,Nat.two_pow_add_eq_or_of_lt this,Nat.or_comm]
def qBJ(l:List Bool)(n:Nat):List Nat:=(List.range n).map fun i=>valB ((l.drop (57*i)).take 57)
def nW(n:Nat):Nat:=(n+56)/57
def qBK(l:List Bool):List Nat:=qBJ l (nW l.length)
theorem qBM(l:List Bool):(qBK l).length=nW l.length:=by simp[qBK,qBJ]
theorem qBN{l:List Bool}{w:Nat}(h:w∈qBK l):w<2^57:=by
 simp only[qBK,qBJ,List.mem_map]at h
 obtain⟨i,_,rfl⟩:=h
 have:=qBB ((l.drop (57*i)).take 57)
 exact Nat.lt_of_lt_of_le this (Nat.pow_le_pow_right (by decide) (by simp;omega))
theorem qBP(l:List Bool)(b:Bool)(h:l.length%57=0):qBK (l++[b])=qBK l++[b.toNat]:=by
 have e:nW (l++[b]).length=nW l.length+1:=by simp only[nW,zU,zV,List.length_nil];omega
 have hl:57*nW l.length=l.length:=by simp only[nW];omega
 rw[qBK,e,qBJ,List.range_succ,yH,qBK,qBJ]
 congr 1
 ·apply List.map_congr_left
  intro i hi
  have hi:i<nW l.length:=List.mem_range.1 hi
  have h1:57*i+57<=l.length:=by omega
  rw[List.drop_append_of_le_length (by omega),List.take_append_of_le_length (by rw[List.length_drop];omega)]
 ·simp only[zW,List.map_nil,hl]
  rw[List.drop_append_of_le_length (Nat.le_refl _),List.drop_length]
  cases b<;>rfl
theorem qBQ(l:List Bool)(b:Bool)(h:l.length%57≠0):qBK (l++[b])=(qBK l).set (l.length/57) ((qBK l).getD (l.length/57) 0|||(b.toNat<<<(l.length%57))):=by
 have e:nW (l++[b]).length=nW l.length:=by simp only[nW,zU,zV,List.length_nil];omega
 have e2:nW l.length=l.length/57+1:=by simp only[nW];omega
 apply List.ext_getElem
 ·rw[qBM,e,yF,qBM]
 ·intro i h1 h2
  have hi:i<nW l.length:=by rw[qBM,e]at h1;exact h1
  rw[List.getElem_set]
  simp only[qBK,qBJ,e,List.getElem_map,List.getElem_range]
  split
  ·rename_i hs
   subst hs
   have hd:(l++[b]).drop (57*(l.length/57))=l.drop (57*(l.length/57))++[b]:=List.drop_append_of_le_length (by omega)
   have hn:(l.drop (57*(l.length/57))).length=l.length%57:=by rw[List.length_drop];omega
   rw[hd,zY (by rw[zU,hn];simp;omega),qBH,hn]
   rw[zK,zS,List.getElem?_range (by omega)]
   simp only[Option.map_some,Option.getD_some]
   rw[zY (by rw[hn];omega)]
  ·rename_i hs
   have h3:57*i+57<=l.length:=by omega
   rw[List.drop_append_of_le_length (by omega),List.take_append_of_le_length (by rw[List.length_drop];omega)]
def unW(l:List Nat):List Bool:=l.flatMap fun w=>qBx w 57
theorem qBR: ∀l:List Nat,(unW l).length=57*l.length
 |[]=>rfl
 | w :: l => by
   show(qBx w 57++unW l).length=_
   rw[zU,qBy,qBR l,zV];omega
theorem qBU(l:List Nat)(j:Nat):(unW l).getD j false=(l.getD (j/57) 0).testBit (j%57):=by
 induction l generalizing j with
 |nil=>simp[unW]
 |cons w l ih=>
   show(qBx w 57++unW l).getD j false=_
   by_cases h:j<57
   ·rw[zK,yA (by rw[qBy];exact h)]
    rw[Nat.div_eq_of_lt h,Nat.mod_eq_of_lt h]
    simp[qBx,h]
   ·rw[zK,yB (by rw[qBy];omega),qBy,<- zK,ih (j-57)]
    have e1:j/57=(j-57)/57+1:=by omega
    have e2:(j-57)%57=j%57:=by omega
    rw[e1,e2,List.getD_cons_succ]
theorem qBW(l:List Bool)(j:Nat):(unW (qBK l)).getD j false=l.getD j false:=by
 rw[qBU]
 by_cases h:j/57<nW l.length
 ·rw [show (qBK l).getD (j / 57) 0 = valB ((l.drop (57 * (j / 57))).take 57) from by
   simp[qBK,qBJ,zK,h]]
  rw[qBD,zK,List.getElem?_take,if_pos (Nat.mod_lt _ (by decide)),List.getElem?_drop,zK]
  congr 2
  omega
 ·have h1 : (qBK l).getD (j / 57) 0 = 0 := by
   rw[zK,List.getElem?_eq_none (by rw[qBM];omega)];rfl
  have h2:l.length<=j:=by simp only[nW]at h;omega
  rw[h1,Nat.zero_testBit,zK,List.getElem?_eq_none h2];rfl
end Go.Ham
namespace Go.Ham
structure Fld where
 x:Nat
 kind:Nat
 i:Nat
 n:Nat
 deriving DecidableEq,Inhabited
def qBX(fs:List Fld)(c:Nat->Nat->Nat)(x:Nat):List Bool:=fs.flatMap fun f=>if f.x=x then qBx (c f.kind f.i) f.n else[]
def qBY:List Fld->Nat->Nat
 |[],_=>0
 |f::r,x=>(if f.x=x then f.n else 0)+qBY r x
theorem qBZ(c:Nat->Nat->Nat)(x:Nat): ∀fs,(qBX fs c x).length=qBY fs x
 |[]=>rfl
 | f :: r => by
   show((if f.x=x then qBx (c f.kind f.i) f.n else[])++qBX r c x).length=_
   rw[zU,qBZ c x r,qBY]
   split<;>simp[qBy]
theorem qC0(fs gs:List Fld)(c:Nat->Nat->Nat)(x:Nat):qBX (fs++gs) c x=qBX fs c x++qBX gs c x:=by simp[qBX]
theorem qC1(f:Fld)(r:List Fld)(c:Nat->Nat->Nat)(x:Nat):qBX (f::r) c x=(if f.x=x then qBx (c f.kind f.i) f.n else[])++qBX r c x:=rfl
theorem qC2: ∀(fs gs:List Fld) (x:Nat),qBY (fs++gs) x=qBY fs x+qBY gs x
 |[],gs,x=>by simp[qBY]
 |f::r,gs,x=>by simp only[List.cons_append,qBY,qC2 r gs x];omega
def dropS(S:Nat->List Bool)(f:Fld):Nat->List Bool:=fun x=>if x=f.x then(S x).drop f.n else S x
def qC3:List Fld->(Nat->List Bool)->List (Fld×Nat)
 |[],_=>[]
 |f::r,S=>(f,valB ((S f.x).take f.n))::qC3 r (dropS S f)
theorem qC4: ∀(fs:List Fld) (S:Nat->List Bool),(qC3 fs S).map (·.1)=fs
 |[],_=>rfl
 |f::r,S=>by simp[qC3,qC4 r]
theorem qC5: ∀(fs gs:List Fld) (S:Nat->List Bool),qC3 (fs++gs) S=qC3 fs S++qC3 gs (fun x=>(S x).drop (qBY fs x))
 |[],gs,S=>by simp[qC3,qBY]
 | f :: r, gs, S => by
   simp only[List.cons_append,qC3,qC5 r gs]
   congr 3
   funext x
   simp only[dropS,qBY]
   by_cases e:x=f.x
   ·subst e;simp[List.drop_drop]
   ·have: ¬f.x=x:=fun h=>e h.symm
    simp[e,this]
theorem qC6(c:Nat->Nat->Nat): ∀(fs:List Fld) (S:Nat->List Bool),(∀f∈fs,c f.kind f.i<2^f.n)->(∀x,(S x).take (qBY fs x)=qBX fs c x)->qC3 fs S=fs.map fun f=>(f,c f.kind f.i)
 |[],_,_,_=>rfl
 | f :: r, S, hc, hS => by
   have h1:=hS f.x
   rw[qC1,if_pos rfl,qBY,if_pos rfl]at h1
   have hl:=qBy (c f.kind f.i) f.n
   have h2:(S f.x).take f.n=qBx (c f.kind f.i) f.n:=by
    have:=congrArg (List.take f.n) h1
    rw[List.take_take,Nat.min_eq_left (by omega),List.take_append_of_le_length (by omega)]at this
    rw[this,zY (by omega)]
   rw[qC3,h2,qBC _ _ (hc f zX),zW]
   congr 1
   refine qC6 c r _ (fun g hg=>hc g (zT _ hg)) fun x=> ?_
   have h3:=hS x
   rw[qC1,qBY]at h3
   unfold dropS
   by_cases e:x=f.x
   ·subst e
    rw[if_pos rfl,if_pos rfl]at h3
    have:=congrArg (List.drop f.n) h3
    rw[List.drop_take,Nat.add_sub_cancel_left,List.drop_append_of_le_length (by omega),List.drop_of_length_le (l:=qBx _ _) (by omega),List.nil_append]at this
    rw[if_pos rfl];exact this
   ·have e2: ¬f.x=x:=fun h=>e h.symm
    rw[if_neg e2,if_neg e2,Nat.zero_add,List.nil_append]at h3
    rw[if_neg e];exact h3
def qCb(fs:List Fld)(c:Nat->Nat->Nat)(x:Nat):List Nat:=qBK (qBX fs c x)
def rowB(fs:List Fld)(c:Nat->Nat->Nat)(x:Nat):List Nat:=(qCb fs c x).map encW
theorem qCc(fs:List Fld)(c:Nat->Nat->Nat)(x:Nat):(qCb fs c x).length=nW (qBY fs x):=by rw[qCb,qBM,qBZ]
def qCd(l:List Nat)(n:Nat):Prop:= ∀j,n<=j->(unW l).getD j false=false
theorem qCe(fs:List Fld)(c:Nat->Nat->Nat)(x:Nat):qCd (qCb fs c x) (qBY fs x):=fun j hj=>by
 rw[qCb,qBW,zK,List.getElem?_eq_none (by rw[qBZ];exact hj)];rfl
theorem qCf(fs:List Fld)(c:Nat->Nat->Nat)(x:Nat):(unW (qCb fs c x)).take (qBY fs x)=qBX fs c x:=by
 have hl:=qBZ c x fs
 have h2:qBY fs x<=(unW (qCb fs c x)).length:=by rw[qBR,qCc];simp only[nW];omega
 apply List.ext_getElem
 ·rw[List.length_take,hl];omega
 ·intro i h1 h3
  have:=qBW (qBX fs c x) i
  rw[List.getElem_take]
  rw[zK,zK,zL h3,zL (show i<(unW (qBK (qBX fs c x))).length from by rw[hl]at h3;exact Nat.lt_of_lt_of_le h3 h2)]at this
  simp only[Option.getD_some]at this
  exact this
end Go.Ham
namespace Go.Proofs.YtecoaapkcnhlhabGreatDoor
open Go Go.Vc Go.Ham
theorem qCi(n:Nat)(h:n<2^64):n<2^Go.Lib.bitLen n:=by
 by_cases h0:n=0
 ·subst h0;exact Nat.two_pow_pos _
 ·exact(Go.Lib.bitLenAux_bounds 64 n h h0).2.2
def wN(g:Grid):Nat:=g.w.toNat
def hN(g:Grid):Nat:=g.h.toNat
def eN(g:Grid):Nat:=(qv1 g).toNat
def cN(g:Grid):Nat:=(qv2 g).toNat
def qCj(g:Grid)(n:Nat):Nat:=Go.Lib.bitLen (qwb g n).length
def qCk(g:Grid)(x a n:Nat):List Fld:=(List.range n).map fun j=>⟨x,0,a+j,qCj g (a+j)⟩
def qCl(x t:Nat):List Fld:=[⟨x,1,t,2⟩,⟨x,2,t,16⟩,⟨x,3,t,8⟩]
def qCm(g:Grid)(x t:Nat):List Fld:=qCk g x (t*eN g) (eN g)++qCl x t
def qCn(g:Grid)(x k:Nat):List Fld:=(List.range k).flatMap fun y=>qCm g x (y*wN g+x)
def qCo(g:Grid)(k:Nat):List Fld:=(List.range k).flatMap fun x=>qCn g x (hN g)
def qCp(g:Grid):List Fld:=qCk g (wN g) (wN g*hN g*eN g) (cN g-wN g*hN g*eN g)
def qCq(g:Grid):List Fld:=qCo g (wN g)++qCp g
structure GN (g:Grid):Prop where
 w:(wN g:Int)=g.w
 h:(hN g:Int)=g.h
 e:(eN g:Int)=qv1 g
 c:(cN g:Int)=qv2 g
 k:g.kind.length=wN g*hN g
 all:((wN g*hN g*eN g:Nat):Int)=allI g
 ce:cN g=wN g*hN g*eN g+(2*g.pads).toNat
 w1:1<=wN g
 h1:1<=hN g
 e1:8<=eN g
 w2:wN g<=64
 h2:hN g<=64
 e2:eN g<=134
theorem GOk.n{g:Grid}(hg:GOk g):GN g:=by
 have h1:=hg.w
 have h2:=hg.h
 have h3:=hg.each
 have h4:=hg.count
 have h5:=hg.pads
 have h6:=hg.kind
 have hw:(wN g:Int)=g.w:=by unfold wN;omega
 have hh:(hN g:Int)=g.h:=by unfold hN;omega
 have he:(eN g:Int)=qv1 g:=by unfold eN;omega
 have hall:((wN g*hN g*eN g:Nat):Int)=allI g:=by rw[Int.natCast_mul,Int.natCast_mul,hw,hh,he];rfl
 have hc:(cN g:Int)=qv2 g:=by unfold cN;omega
 refine⟨hw,hh,he,hc,?_,hall,?_,oM,oM,oM,oM,oM,oM⟩
 ·have:((wN g*hN g:Nat):Int)=g.kind.length:=by rw[Int.natCast_mul,hw,hh,h6]
  omega
 ·have:qv2 g=allI g+2*g.pads:=rfl
  omega
theorem qCr(g:Grid)(x:Nat):qCo g (x+1)=qCo g x++qCn g x (hN g):=by simp[qCo,List.range_succ]
theorem qCs(g:Grid)(x y:Nat):qCn g x (y+1)=qCn g x y++qCm g x (y*wN g+x):=by simp[qCn,List.range_succ]
theorem qCt(g:Grid): ∀ {x z:Nat},x<=z->qCo g x<+:qCo g z:=fun {x z} h=>by
 induction h with
 |refl=>exact List.prefix_rfl
 |step _ ih=>exact ih.trans (by rw[qCr];exact List.prefix_append _ _)
theorem qCu(g:Grid)(x:Nat): ∀ {y z:Nat},y<=z->qCn g x y<+:qCn g x z:=fun {y z} h=>by
 induction h with
 |refl=>exact List.prefix_rfl
 |step _ ih=>exact ih.trans (by rw[qCs];exact List.prefix_append _ _)
theorem qCv{g:Grid}{x y:Nat}(hx:x<wN g)(hy:y<hN g):qCo g x++qCn g x y++qCm g x (y*wN g+x)<+:qCq g:=by
 refine List.IsPrefix.trans ?_ (List.prefix_append _ _)
 refine List.IsPrefix.trans ?_ (qCt g (show x+1<=wN g from hx))
 rw[qCr,List.append_assoc,List.prefix_append_right_inj,<- qCs]
 exact qCu g x hy
theorem qCw(g:Grid)(x a n:Nat):qCk g x a (n+1)=qCk g x a n++[⟨x,0,a+n,qCj g (a+n)⟩]:=by simp[qCk,List.range_succ]
theorem qCx(g:Grid)(x a:Nat): ∀ {k n:Nat},k<=n->qCk g x a k<+:qCk g x a n:=fun {k n} h=>by
 induction h with
 |refl=>exact List.prefix_rfl
 |step _ ih=>exact ih.trans (by rw[qCw];exact List.prefix_append _ _)
end Go.Proofs.YtecoaapkcnhlhabGreatDoor
namespace Go.Proofs.YtecoaapkcnhlhabGreatDoor.Txt
open Go Go.Vc
set_option maxRecDepth 100000
def ac45_100:AC:=
 (.seq (.reg [100,11,100,101] [
 (aO 102 (.box (.t 100))),(aO 103 (.box (.t 101))),(aO 104 (.mv (.c (.sc .nilFunc))))])
 (.seq (.reg [100,11,102,103] [
 (aO 106 (.fa 2 (.t 102))),(aO 107 (.ld false 1 (.t 106))),(aO 108 (.ari .mul true .i64 (kI 2) (.t 107))),(aO 109 (.ari .add true .i64 (kI 6) (.t 108))),(aO 105 (.alc [zI])),(aN (.sto 1 (.t 105) (.t 109)))])
 (.seq (.reg [100,11,102,103,105] [
 (aO 110 (.mkf 66 [(.t 103),(.t 102),(.t 105)])),(aO 104 (.mv (.t 110)))])
 .ret)))
def rv45_100:List RV:=[.tmp 104]
theorem ok45_100:qh6 Tryz.prog 100 ac45_100 rv45_100 Tryz.f45=true:=by kernel_rfl

def ac66_200:AC:=
 (.seq (.reg [200,91,200,201,202,203] [
 (aO 204 (.box (.t 200)))])
 (.seq (.reg [200,91,201,202,203,204] [
 (aO 209 (.mkf 67 [(.t 204),(.t 201),(.t 202)])),(aO 205 (.mv (.t 209)))])
 (.seq (.seq (.reg [200,91,201,202,203,204,205] [
 (aO 210 (.fa 0 (.t 202))),(aO 211 (.ld false 1 (.t 210))),(aO 212 (.mv (kI 0)))])
 (.block 0
 (.lps [200,91,201,202,203,204,205,211,212]
 (.seq (.reg [200,91,201,202,203,204,205,211,212] [
 (aO 213 (.cmp .lss .i64 (.t 212) (.t 211)))])
 (.seq (.cond (.t 213)
 .skip
 (.exit 0))
 (.seq (.block 1
 (.seq (.reg [200,91,201,202,203,204,205,211,212] [
 (aO 214 (.mv (.t 212))),(aO 206 (.mv (.t 214)))])
 (.seq (.reg [200,91,201,202,203,204,205,206,211,212] [
 (aO 215 (.fa 1 (.t 202))),(aO 216 (.ld false 1 (.t 215))),(aO 217 (.mv (kI 0)))])
 (.block 2
 (.lps [200,91,201,202,203,204,205,206,211,212,216,217]
 (.seq (.reg [200,91,201,202,203,204,205,206,211,212,216,217] [
 (aO 218 (.cmp .lss .i64 (.t 217) (.t 216)))])
 (.seq (.cond (.t 218)
 .skip
 (.exit 2))
 (.seq (.block 3
 (.seq (.reg [200,91,201,202,203,204,205,206,211,212,216,217] [
 (aO 219 (.mv (.t 217))),(aO 207 (.mv (.t 219)))])
 (.seq (.reg [200,91,201,202,203,204,205,206,207,211,212,216,217] [
 (aO 220 (.mv (.t 207))),(aO 221 (.fa 0 (.t 202))),(aO 222 (.ld false 1 (.t 221))),(aO 223 (.ari .mul true .i64 (.t 220) (.t 222))),(aO 224 (.mv (.t 206))),(aO 225 (.ari .add true .i64 (.t 223) (.t 224))),(aO 208 (.mv (.t 225)))])
 (.seq (.drw [200,91,201,202,203,204,205,206,208,211,212,216,217] [
 (eT 226 (.mv (.t 205))),(eT 227 (.mv (.t 206))),(eT 228 (.mv (.t 208))),(eT 229 (.ld false 1 (.t 203))),(eT 230 (.ari .mul true .i64 (.t 228) (.t 229))),(eT 231 (.mv (.t 208))),(eT 232 (.ari .add true .i64 (.t 231) (kI 1))),(eT 233 (.ld false 1 (.t 203))),(eT 234 (.ari .mul true .i64 (.t 232) (.t 233))),(eF 235 (.clv (.t 226) [(.t 227),(.t 230),(.t 234)])),(eF 236 (.not (.t 235))),(eF 237 (.mv (.t 236))),⟨⟨some 238,some (237,false),.ld false 1 (.t 204)⟩,[],[],true⟩,⟨⟨some 239,some (237,false),.mv (.t 206)⟩,[],[],true⟩,⟨⟨some 240,some (237,false),.ld false 1 (.t 201)⟩,[],[],true⟩,⟨⟨some 241,some (237,false),.nck (.t 240)⟩,[],[],true⟩,⟨⟨some 242,some (237,false),.fa 1 (.t 241)⟩,[],[],true⟩,⟨⟨some 243,some (237,false),.ld false 1 (.t 242)⟩,[],[],true⟩,⟨⟨some 244,some (237,false),.mv (.t 208)⟩,[],[],true⟩,⟨⟨some 245,some (237,false),.ixs 1 (.t 243) (.t 244)⟩,[],[],true⟩,⟨⟨some 246,some (237,false),.bld [.sc (.pointer none),zI] [(0,1,(.t 245)),(1,1,(kI 2))]⟩,[],[],true⟩,⟨⟨some 247,some (237,false),.clv (.t 238) [(.t 239),(.t 246)]⟩,[],[],false⟩,⟨⟨some 248,some (237,false),.not (.t 247)⟩,[],[],false⟩,(eF 249 (.pick (.t 237) (.c (.sc (.bool true))) (.t 248))),(eF 250 (.mv (.t 249))),⟨⟨some 251,some (250,false),.ld false 1 (.t 204)⟩,[],[],true⟩,⟨⟨some 252,some (250,false),.mv (.t 206)⟩,[],[],true⟩,⟨⟨some 253,some (250,false),.ld false 1 (.t 201)⟩,[],[],true⟩,⟨⟨some 254,some (250,false),.nck (.t 253)⟩,[],[],true⟩,⟨⟨some 255,some (250,false),.fa 2 (.t 254)⟩,[],[],true⟩,⟨⟨some 256,some (250,false),.ld false 1 (.t 255)⟩,[],[],true⟩,⟨⟨some 257,some (250,false),.mv (.t 208)⟩,[],[],true⟩,⟨⟨some 258,some (250,false),.ixs 1 (.t 256) (.t 257)⟩,[],[],true⟩,⟨⟨some 259,some (250,false),.bld [.sc (.pointer none),zI] [(0,1,(.t 258)),(1,1,(kI 16))]⟩,[],[],true⟩,⟨⟨some 260,some (250,false),.clv (.t 251) [(.t 252),(.t 259)]⟩,[],[],false⟩,⟨⟨some 261,some (250,false),.not (.t 260)⟩,[],[],false⟩,(eF 262 (.pick (.t 250) (.c (.sc (.bool true))) (.t 261))),(eF 263 (.mv (.t 262))),⟨⟨some 264,some (263,false),.ld false 1 (.t 204)⟩,[],[],true⟩,⟨⟨some 265,some (263,false),.mv (.t 206)⟩,[],[],true⟩,⟨⟨some 266,some (263,false),.ld false 1 (.t 201)⟩,[],[],true⟩,⟨⟨some 267,some (263,false),.nck (.t 266)⟩,[],[],true⟩,⟨⟨some 268,some (263,false),.fa 3 (.t 267)⟩,[],[],true⟩,⟨⟨some 269,some (263,false),.ld false 1 (.t 268)⟩,[],[],true⟩,⟨⟨some 270,some (263,false),.mv (.t 208)⟩,[],[],true⟩,⟨⟨some 271,some (263,false),.ixs 1 (.t 269) (.t 270)⟩,[],[],true⟩,⟨⟨some 272,some (263,false),.bld [.sc (.pointer none),zI] [(0,1,(.t 271)),(1,1,(kI 8))]⟩,[],[],true⟩,⟨⟨some 273,some (263,false),.clv (.t 264) [(.t 265),(.t 272)]⟩,[],[],false⟩,⟨⟨some 274,some (263,false),.not (.t 273)⟩,[],[],false⟩,(eF 275 (.pick (.t 263) (.c (.sc (.bool true))) (.t 274)))])
 (.cut [200,91,201,202,203,204,205,206,211,212,216,217,275] (.cond (.t 275)
 .ret
 .skip))))))
 (.reg [200,91,201,202,203,204,205,206,211,212,216,217] [
 (aO 276 (.ari .add true .i64 (.t 217) (kI 1))),(aO 217 (.mv (.t 276)))])))))))))
 (.reg [200,91,201,202,203,204,205,211,212] [
 (aO 277 (.ari .add true .i64 (.t 212) (kI 1))),(aO 212 (.mv (.t 277)))])))))))
 (.drw [200,91,202,203,205] [
 (eT 278 (.mv (.t 205))),(eT 279 (.fa 0 (.t 202))),(eT 280 (.ld false 1 (.t 279))),(eT 281 (.fa 0 (.t 202))),(eT 282 (.ld false 1 (.t 281))),(eT 283 (.fa 1 (.t 202))),(eT 284 (.ld false 1 (.t 283))),(eT 285 (.ari .mul true .i64 (.t 282) (.t 284))),(eT 286 (.ld false 1 (.t 203))),(eT 287 (.ari .mul true .i64 (.t 285) (.t 286))),(eT 288 (.ld true 5 (.t 202))),(eT 289 (.cal 32 [(.t 288)])),(eF 290 (.clv (.t 278) [(.t 280),(.t 287),(.t 289)]))]))))
def rv66_200:List RV:=[]
theorem ok66_200:qh6 Tryz.prog 200 ac66_200 rv66_200 Tryz.f66=true:=by kernel_rfl

def ac67_400:AC:=
 (.seq (.reg [400,34,400,401,402,403,404,405] [
 (aO 409 (.mv (.c (.sc (.bool false)))))])
 (.seq (.seq (.reg [400,34,400,401,402,403,404,405] [
 (aO 411 (.mv (.t 401))),(aO 410 (.mv (.t 411)))])
 (.block 0
 (.lps [400,34,400,402,403,404,405,410]
 (.seq (.seq (.reg [400,34,400,402,403,404,405,410] [
 (aO 412 (.mv (.t 410))),(aO 413 (.mv (.t 402))),(aO 414 (.cmp .lss .i64 (.t 412) (.t 413)))])
 (.cond (.t 414)
 .skip
 (.exit 0)))
 (.seq (.block 1
 (.seq (.drw [400,34,400,402,403,404,405,410] [
 (eT 417 (.ld false 1 (.t 403))),(eT 418 (.mv (.t 400))),(eT 419 (.ld false 1 (.t 404))),(eT 420 (.nck (.t 419))),(eT 421 (.fa 0 (.t 420))),(eT 422 (.ld false 1 (.t 421))),(eT 423 (.mv (.t 410))),(eT 424 (.ixs 1 (.t 422) (.t 423))),(eT 425 (.ld true 5 (.t 405))),(eT 426 (.mv (.t 410))),(eT 427 (.cal 64 [(.t 425),(.t 426)])),(eT 428 (.len (.t 427))),(eT 429 (.cnv true .u64 (.t 428))),(eT 430 (.cal 49 [(.t 429)])),(eT 431 (.bld [.sc (.pointer none),zI] [(0,1,(.t 424)),(1,1,(.t 430))])),(eF 432 (.clv (.t 417) [(.t 418),(.t 431)])),(eF 433 (.not (.t 432)))])
 (.cond (.t 433)
 (.seq (.reg [400,34] [
 (aO 409 (.mv (.c (.sc (.bool false)))))])
 .ret)
 .skip)))
 (.reg [400,34,400,402,403,404,405,410] [
 (aO 415 (.mv (.t 410))),(aO 416 (.ari .add true .i64 (.t 415) (kI 1))),(aO 410 (.mv (.t 416)))]))))))
 (.seq (.reg [400,34] [
 (aO 409 (.mv (.c (.sc (.bool true)))))])
 .ret)))
def rv67_400:List RV:=[.tmp 409]
theorem ok67_400:qh6 Tryz.prog 400 ac67_400 rv67_400 Tryz.f67=true:=by kernel_rfl
end Go.Proofs.YtecoaapkcnhlhabGreatDoor.Txt
namespace Go.Vc
open Go Go.RowKit
section
variable {K:Nat} {s:List (Nat×PV)}
theorem qCy: ∀ {s:List (Nat×PV)},qtX K s=true-> ∀x∈s,x.1<K:=by
 intro s h
 rw[<- qtY,yE]at h
 exact fun x hx=>by simpa using h x hx
theorem qCz(h:qtX K s=true)(t:List (Nat×PV))(i:Nat)(v:PV)(hi:K<=i):up (s++t) i v=s++up t i v:=by
 have h:=qCy h
 induction s with
 |nil=>rfl
 |cons x r ih=>
   obtain⟨k,u⟩:=x
   have hk:k<K:=h (k,u) zX
   rw[List.cons_append,up,if_neg (by omega),if_neg (by omega),ih (by rw[<- qtY,yE];exact fun y hy=>by simpa using h y (zT _ hy)) fun y hy=>h y (zT _ hy)]
   rfl
theorem qCA(h:qtX K s=true)(i:Nat)(v:PV)(hi:K<=i):up s i v=s++[(i,v)]:=by
 have:=qCz h [] i v hi
 rw[List.append_nil]at this
 rw[this];rfl
theorem qCB(h:qtX K s=true)(t:List (Nat×PV))(i:Nat)(hi:K<=i):getL (s++t) i=getL t i:=by
 have h:=qCy h
 induction s with
 |nil=>rfl
 |cons x r ih=>
   obtain⟨k,u⟩:=x
   have hk:k<K:=h (k,u) zX
   rw[List.cons_append,getL,if_neg (by omega),ih (by rw[<- qtY,yE];exact fun y hy=>by simpa using h y (zT _ hy)) fun y hy=>h y (zT _ hy)]
theorem qCC(h:qtX K s=true)(n:Nat)(r:List Nat)(t:List (Nat×PV)):qhn (K::n::r) (s++t)=s++qhn (K::n::r) t:=by
 have h:=qCy h
 induction s with
 |nil=>rfl
 |cons x q ih=>
   obtain⟨k,u⟩:=x
   have hk:k<K:=h (k,u) zX
   rw[List.cons_append,qhn,if_pos (by simp[inK,hk]),ih (by rw[<- qtY,yE];exact fun y hy=>by simpa using h y (zT _ hy)) fun y hy=>h y (zT _ hy)]
   rfl
theorem qCD(h:qtX K s=true)(t:List (Nat×PV)):lowL K (s++t)=s++lowL K t:=by
 rw[<- qtJ,<- qtJ,List.filter_append]
 congr 1
 rw[List.filter_eq_self]
 exact fun x hx=>by simpa using qCy h x hx
theorem qCE(h:qtX K s=true)(k:Nat)(t:List (Nat×PV))(hk:K<=k):qtX k (s++t)=qtX k t:=by
 rw[<- qtY,<- qtY,List.all_append]
 have:s.all (fun x=>decide (x.1<k))=true:=yE.2 fun x hx=>by have:=qCy h x hx;simp;omega
 rw[this,Bool.true_and]
end
theorem SWk.gc(st:St)(ks:List Nat):SWk st (st.gc ks):=fun _ _ _ _ _ ⟨Z,L,h⟩=>
 ⟨Z,L,h.forget (fun i v hl=> .inl (qa8 _ _ (fun _ _=>rfl) i v hl)) (fun i v hl=>qa8 _ _ (fun _ _=>rfl) i v hl) (fun i v hl=>qa8 _ _ (fun _ _=>rfl) i v hl) (fun i v hl=>qa8 _ _ (fun _ _=>rfl) i v hl)⟩
theorem qCF {ρ : RF} {ps : List Nat} {B : St -> (St -> Prop) -> Prop} {id : Nat} {args : List PV} {s : List (Nat × PV)} {b : List (Nat × List PV)} {a : List (Nat × Arr)} {m : List (Nat × Mp)} {K : St -> Prop} (hid : id = ρ.id) (hl : args.length = ps.length) (ha : qtX ρ.K2 s = true)
  (hb:B ⟨qcQ ps args (qcP ρ.K ρ.K2 s (midL ρ.K ρ.n s) s),b,a,m⟩ fun st2=> ∃st3,SWk (st2.low ρ.K2) st3/\qtX ρ.K2 st3.s=true/\K st3):rngY ρ ps B id args ⟨s,b,a,m⟩ K:=by
 refine⟨hid,hl,by rw[qtY];exact ha,?_⟩
 simp only[qtS,qtY]
 exact hb
theorem qCG{P:Env}{ass body:AC}{st:St}{K K' :St->Prop}(h: ∀st,K st->K' st)(hb:qua P ass body st K):qua P ass body st K' :=by
 unfold qua at hb ⊢
 refine qwu ass ?_ st hb
 intro e st1 h1
 cases e<;>first|exact h1|skip
 exact qwu body (fun e st2 h2=>⟨h2.1,h _ h2.2⟩) st1 h1
theorem qCH(st:St)(k:Nat)(ks:List Nat):((st.low k).gc ks).s.all (fun x=>decide (x.1<k))=true:=by
 rw[yE]
 intro x hx
 have h1:=(List.mem_filter.1 hx).1
 exact(List.mem_filter.1 h1).2
theorem qCI {P : Env} {ass body : AC} {ρ : RF} {ps : List Nat} {id : Nat} {args : List PV} {s : List (Nat × PV)} {b : List (Nat × List PV)} {a : List (Nat × Arr)} {m : List (Nat × Mp)} {K : St -> Prop} (hid : id = ρ.id) (hl : args.length = ps.length) (ha : qtX ρ.K2 s = true)
  (hb:qua P ass body ⟨qcQ ps args (qcP ρ.K ρ.K2 s (midL ρ.K ρ.n s) s),b,a,m⟩ fun st2=>K ((st2.low ρ.K2).gc [0,0])):rngY ρ ps (qua P ass body) id args ⟨s,b,a,m⟩ K:=by
 refine⟨hid,hl,by rw[qtY];exact ha,?_⟩
 simp only[qtS]
 exact qCG (fun st2 h=>⟨_,SWk.gc _ _,qCH _ _ _,h⟩) hb
section
variable (pb pa:Nat->Bool)
@[push_cast] theorem qCJ(f i:Nat):PV.to pb pa (.bm f i)=pb i:=rfl
@[push_cast] theorem qCK(f i:Nat):PV.toA pb pa (.bm f i)=pb i:=rfl
@[push_cast] theorem qCL(f i:Nat):PV.toV pb pa (.bm f i)=pb i:=rfl
@[push_cast] theorem qCM(f i:Nat):PV.killed pb (.bm f i)= .bot:=rfl
@[push_cast] theorem qCN(f i:Nat):PV.killV pb pa (.bm f i)=bif pb i then .bot else .bm f i:=rfl
@[push_cast] theorem qCO(f i:Nat)(r:List PV):qbL (.bm f i::r)=qbL r:=rfl
@[push_cast] theorem qCP(f i:Nat):cellsOf (.bm f i)=[.bm f i]:=rfl
@[push_cast] theorem qCQ(f i:Nat):qas (.bm f i)=true:=rfl
@[push_cast] theorem qCR(f i:Nat):qgW (.bm f i)=true:=rfl
@[push_cast] theorem qCS(i:Nat):qas (.yl i)=true:=rfl
end
end Go.Vc
namespace Go.Vc
open Go Go.RowKit
theorem qCT: ∀ {t:List (Nat×PV)} {k n:Nat},(∀x∈t,k+n<=x.1)->midL k n t=[]
 |[],_,_,_=>rfl
 | (i, v) :: t, k, n, h => by
   have h1:=h (i,v) zX
   rw[qtU,if_neg (by simp only at h1;omega)]
   exact qCT fun x hx=>h x (zT _ hx)
def qCU:PV->Nat->PV
 | .sl p _ xs,n=> .iptr p (xs.getD n []) 0
 | .view id lo _,n=> .eptr id (lo+n) 0
 |_,_=> .bot
def qCV:PV->Nat
 | .sl _ _ xs=>xs.length
 | .view _ _ n=>n
 |_=>0
def slOk(a:List (Nat×Arr)):PV->Prop
 | .sl _ es _=>es=1
 | .view id _ _=> ∃ty xs,lk a id=some ⟨1,ty,xs⟩
 |_=>False
theorem qCW{a:List (Nat×Arr)}{v:PV}(h:slOk a v){n:Nat}(hn:n<qCV v): ∃C:Prop,C/\ ∀(s:List (Nat×PV)) (b:List (Nat×List PV)) (m:List (Nat×Mp)),ixsV ⟨s,b,a,m⟩ 1 v (.sc (.int .i64 n))=(C,qCU v n):=by
 cases v<;>first|exact h.elim|skip
 ·rename_i p es xs
  have h:es=1:=h
  subst h
  have hn:n<xs.length:=hn
  exact⟨1=1/\0<=(n:Int)/\(n:Int)<xs.length,⟨rfl,by omega,by omega⟩,fun _ _ _=>qm9 _ _ _ _ _ _ _⟩
 ·rename_i id lo l
  obtain⟨ty,xs,h⟩:=h
  have hn:n<l:=hn
  exact⟨1=1/\0<=(n:Int)/\(n:Int)<l,⟨rfl,by omega,by omega⟩,fun _ _ _=>by rw[qm8,h,qm7];rfl⟩
theorem qCX{a:List (Nat×Arr)}{v:PV}(h:slOk a v)(n:Nat):qas (qCU v n)=true/\cellsOf (qCU v n)=[qCU v n]:=by
 cases v<;>first|exact h.elim|exact⟨rfl,rfl⟩
end Go.Vc
namespace Go.Vc
open Go Go.RowKit
theorem SWk.drop{s:List (Nat×PV)}{b:List (Nat×List PV)}{a:List (Nat×Arr)}{m:List (Nat×Mp)}(pb pa:Nat->Bool):SWk ⟨s,b,a,m⟩ ⟨s,b.filter (fun x=>pb x.1),a.filter (fun x=>pa x.1),m⟩:=fun _ _ _ _ _ ⟨Z,L,h⟩=>
 ⟨Z,L,h.forget (fun _ _ hl=> .inl hl) (fun i v hl=>qa8 _ _ (fun _ _=>rfl) i v hl) (fun i v hl=>qa8 _ _ (fun _ _=>rfl) i v hl) (fun _ _ hl=>hl)⟩
def farL(j:Nat):List (Nat×PV)->Prop
 |[]=>True
 |(_,v)::r=>(v.toV (isId j) nul=false/\v.toV nul (isId j)=false)/\farL j r
@[push_cast] theorem qCY(j:Nat):farL j []=True:=rfl
@[push_cast] theorem qCZ(j i:Nat)(v:PV)(r:List (Nat×PV)):farL j ((i,v)::r)=((v.toV (isId j) nul=false/\v.toV nul (isId j)=false)/\farL j r):=rfl
theorem qD0(j:Nat): ∀(s t:List (Nat×PV)),farL j (s++t)=(farL j s/\farL j t)
 |[],t=>by simp[farL]
 |(i,v)::r,t=>by simp only[List.cons_append,qCZ,qD0 j r t,and_assoc]
theorem qD1{j:Nat} : ∀ {s:List (Nat×PV)},farL j s->qiE (isId j) nul s=s
 |[],_=>rfl
 |(i,v)::r,h=>by rw[qiJ,h.1.1,qD1 h.2];rfl
theorem qD2{j:Nat} : ∀ {s:List (Nat×PV)},farL j s->qiE nul (isId j) s=s
 |[],_=>rfl
 |(i,v)::r,h=>by rw[qiJ,h.1.2,qD2 h.2];rfl
theorem qD3(pb pa:Nat->Bool)(v:PV)(n:Nat):(qCU v n).toV pb pa=(qCU v n).to pb pa:=by
 cases v<;>rfl
theorem qD4(pb pa:Nat->Bool)(s t:List (Nat×PV)):qiE pb pa (s++t)=qiE pb pa s++qiE pb pa t:=by
 rw[<- qjd,<- qjd,<- qjd,yH]
end Go.Vc
namespace Go.Proofs.YtecoaapkcnhlhabGreatDoor
open Go Go.Vc Txt
set_option maxHeartbeats 2000000 in
theorem qD5 {E : Env} (hE : E.p = Tryz.prog) (hkk : E.kk <= 400) (hpn : ∀ ch st, ¬ E.pan ch st) {s : List (Nat × PV)} (hs : qtX 400 s = true) (g : Grid) (hg : GOk g) (iy ic ig cf : Nat) (v0 v1 v2 v3 : PV) (x frm n e : Nat) (he : e = frm + n)
  (B:Nat->List (Nat×List PV)) (A:Nat->List (Nat×Arr)) (m:List (Nat×Mp))
  (hB: ∀k,k<=n->lk (B k) iy=some [.yl 999]/\lk (B k) ic=some [.ptr cf 0]/\lk (B k) ig=some (quX false g)/\lk (B k) cf=some [v0,v1,v2,v3])
  (hv: ∀k,k<=n->slOk (A k) v0) (hl:frm+n<=qCV v0) (hb:frm+n<=1000000)
  (hf:iy<1000/\ic<1000/\ig<1000/\cf<1000) (hvv: ∀j,1000<=j->v0.toV (isId j) nul=false/\v0.toV nul (isId j)=false) (hv0: ∀n j,1000<=j->(qCU v0 n).to (isId j) nul=false/\(qCU v0 n).to nul (isId j)=false)
  (hY: ∀k,k<n-> ∀t:List (Nat×PV),qtX 1000 t=true->(∀x∈t,400<=x.1)->(∀j,1000<=j->farL j t)->E.Y 999 [.int x,.agg [qCU v0 (frm+k),.int (qCj g (frm+k):Nat)]] ⟨s++t,B k,A k,m⟩ (fun st' =>st' =⟨s++t,B (k+1),A (k+1),m⟩)):
  FnM E 67 [.int x,.int frm,.int e,.ptr iy 0,.ptr ic 0,.ptr ig 0] ⟨s,B 0,A 0,m⟩ (fun r st' =>r= .bool true/\st' =⟨s,B n,A n,m⟩):=by
 refine quf 400 (by rw[hE];exact Tryz.func67) (by rw[hE];exact ok67_400) (by show 6<=_;decide) hs hkk ?_ hpn
 simp only[ac67_400,rv67_400,qCA hs,qCz hs,qCB hs,qCC hs,qCD hs,push_cast,reduceIte,zA,zB,zC,zD,zE,zF,zG,reduceCtorEq,zH,zJ,cNI]
 refine qoO (fun j st=> ∃k p:Nat,k<=n/\p=frm+k/\j=n-k/\st=⟨s++[(400,.int x),(402,.int e),(403,.ptr iy 0),(404,.ptr ic 0),(405,.ptr ig 0),(410,.int p)],B k,A k,m⟩) n ⟨_,SWk.refl _,0,frm,oM,oM,oM,?_⟩ ?_
 ·simp only[qCz hs,qCB hs,qCC hs,push_cast,reduceIte,zA,zB,zC,zD,zE,zF,zG,reduceCtorEq,zH,zJ,cNI]
 rintro j st ⟨k,p,hk,hp,rfl,rfl⟩
 obtain⟨b1,b2,b3,b4⟩:=hB k hk
 simp only[qCA hs,qCz hs,qCB hs,qCC hs,qCD hs,b1,b2,b3,b4,push_cast,reduceIte,zA,zB,zC,zD,zE,zF,zG,reduceCtorEq,zH,zJ,cNI]
 refine qnY (fun h=> ?_) fun h=> ?_
 ·obtain⟨C,hC,hix⟩:=qCW (hv k hk) (n:=p) oM
  obtain⟨p1,p2⟩:=qCX (hv k hk) p
  have hdl:=qxu g hg p
  simp only[hix,qCA hs,qCz hs,qCB hs,qCC hs,qCD hs,b1,b2,b3,b4,push_cast,reduceIte,zA,zB,zC,zD,zE,zF,zG,reduceCtorEq,zH,zJ,cNI]
  refine⟨hC,?_⟩
  refine qrx (by rw[hE];exact qwf g hg p oM) sC rfl ?_
  simp only[p1,p2,qCA hs,qCz hs,qCB hs,qCC hs,qCD hs,push_cast,reduceIte,zA,zB,zC,zD,zE,zF,zG,reduceCtorEq,zH,zJ,cNI]
  refine⟨⟨oM,oM⟩,?_⟩
  refine qrx (by rw[hE];exact qBl (qwb g p).length oM) sC rfl ?_
  simp only[p1,p2,qCA hs,qCz hs,qCB hs,qCC hs,qCD hs,push_cast,reduceIte,zA,zB,zC,zD,zE,zF,zG,reduceCtorEq,zH,zJ,cNI]
  have hYk:=hY k oM
  rw[<- hp]at hYk
  refine⟨_,hYk _ sC (by simp) (fun j hj=> ?_),?_⟩
  ·obtain⟨f1,f2,f3,f4⟩:=hf
   have n1:(iy==j)=false:=beq_false_of_ne oM
   have n2:(ic==j)=false:=beq_false_of_ne oM
   have n3:(ig==j)=false:=beq_false_of_ne oM
   have n4:(cf==j)=false:=beq_false_of_ne oM
   have n5:(999==j)=false:=beq_false_of_ne oM
   obtain⟨q1,q2⟩:=hvv j hj
   obtain⟨q3,q4⟩:=hv0 p j hj
   simp only[n1,n2,n3,n4,n5,q1,q2,q3,q4,qD3,push_cast,reduceIte,zA,zB,zC,zD,zE,zF,zG,reduceCtorEq,zH,zJ,cNI]
  rintro _ rfl
  obtain⟨c1,c2,c3,c4⟩:=hB (k+1) oM
  simp only[qCA hs,qCz hs,qCB hs,qCC hs,qCD hs,push_cast,reduceIte,zA,zB,zC,zD,zE,zF,zG,reduceCtorEq,zH,zJ,cNI]
  exact⟨⟨oM,oM⟩,_,SWk.refl _,n-(k+1),oM,k+1,p+1,oM,oM,rfl,rfl⟩
 ·obtain rfl:k=n:=by omega
  rfl
end Go.Proofs.YtecoaapkcnhlhabGreatDoor
namespace Go.Proofs.YtecoaapkcnhlhabGreatDoor
open Go Go.Vc Go.Ham
structure FIn (g:Grid) (f:Fld):Prop where
 x:f.x<=wN g
 key:(f.kind=0/\f.i<cN g/\f.n=qCj g f.i)\/(f.kind=1/\f.i<g.kind.length/\f.n=2)\/(f.kind=2/\f.i<g.kind.length/\f.n=16)\/(f.kind=3/\f.i<g.kind.length/\f.n=8)
theorem qD6{w h x y:Nat}(hx:x<w)(hy:y<h):y*w+x<w*h:=by
 have:(y+1)*w<=h*w:=Nat.mul_le_mul_right _ oM
 rw[Nat.add_mul,Nat.one_mul]at this
 rw[Nat.mul_comm w h];omega
theorem qD7{e t j n:Nat}(ht:t<n)(hj:j<e):t*e+j<n*e:=by
 have:(t+1)*e<=n*e:=Nat.mul_le_mul_right _ oM
 rw[Nat.add_mul,Nat.one_mul]at this
 omega
theorem qD8{g:Grid}(hg:GOk g){f:Fld}(h:f∈qCq g):FIn g f:=by
 have hn:=hg.n
 rcases yC.1 h with h|h
 ·simp only[qCo,qCn,List.mem_flatMap,List.mem_range]at h
  obtain⟨x,hx,y,hy,h⟩:=h
  have ht:=qD6 hx hy
  rcases yC.1 h with h|h
  ·simp only[qCk,List.mem_map,List.mem_range]at h
   obtain⟨j,hj,rfl⟩:=h
   have:=qD7 (e:=eN g) ht hj
   have:=hn.ce
   exact⟨by show x<=_;omega,.inl ⟨rfl,by show(y*wN g+x)*eN g+j<cN g;omega,rfl⟩⟩
  ·have hk:=hn.k
   simp only[qCl,List.mem_cons,List.not_mem_nil,or_false]at h
   rcases h with rfl|rfl|rfl
   ·exact⟨by show x<=_;omega,.inr (.inl ⟨rfl,by show y*wN g+x<g.kind.length;omega,rfl⟩)⟩
   ·exact⟨by show x<=_;omega,.inr (.inr (.inl ⟨rfl,by show y*wN g+x<g.kind.length;omega,rfl⟩))⟩
   ·exact⟨by show x<=_;omega,.inr (.inr (.inr ⟨rfl,by show y*wN g+x<g.kind.length;omega,rfl⟩))⟩
 ·simp only[qCp,qCk,List.mem_map,List.mem_range]at h
  obtain⟨j,hj,rfl⟩:=h
  exact⟨Nat.le_refl _,.inl ⟨rfl,by show wN g*hN g*eN g+j<cN g;omega,rfl⟩⟩
theorem qD9{g:Grid}(hg:GOk g){n:Nat}(h:n<cN g): ∃f∈qCq g,f.kind=0/\f.i=n/\f.x=(if n<wN g*hN g*eN g then n/eN g%wN g else wN g):=by
 have hn:=hg.n
 by_cases h2:n<wN g*hN g*eN g
 ·have he:=hn.e1
  have hw:=hn.w1
  have ht:n/eN g<wN g*hN g:=(Nat.div_lt_iff_lt_mul oM).2 h2
  have hy:n/eN g/wN g<hN g:=(Nat.div_lt_iff_lt_mul oM).2 (by rw[Nat.mul_comm];exact ht)
  have hd:n/eN g/wN g*wN g+n/eN g%wN g=n/eN g:=by rw[Nat.mul_comm];exact Nat.div_add_mod _ _
  have hd2:n/eN g*eN g+n%eN g=n:=by rw[Nat.mul_comm];exact Nat.div_add_mod _ _
  refine⟨⟨n/eN g%wN g,0,n,qCj g n⟩,List.mem_append_left _ ?_,rfl,rfl,by rw[if_pos h2]⟩
  simp only[qCo,qCn,List.mem_flatMap,List.mem_range]
  refine⟨n/eN g%wN g,Nat.mod_lt _ oM,n/eN g/wN g,hy,List.mem_append_left _ ?_⟩
  simp only[qCk,List.mem_map,List.mem_range]
  refine⟨n%eN g,Nat.mod_lt _ oM,?_⟩
  rw[hd,hd2]
 ·refine⟨⟨wN g,0,n,qCj g n⟩,List.mem_append_right _ ?_,rfl,rfl,by rw[if_neg h2]⟩
  simp only[qCp,qCk,List.mem_map,List.mem_range]
  refine⟨n-wN g*hN g*eN g,oM,?_⟩
  rw[show wN g*hN g*eN g+(n-wN g*hN g*eN g)=n from by omega]
theorem qDa{g:Grid}(hg:GOk g){t:Nat}(h:t<g.kind.length){k:Nat}(hk:k=1\/k=2\/k=3): ∃f∈qCq g,f.kind=k/\f.i=t/\f.x=t%wN g:=by
 have hn:=hg.n
 have hw:=hn.w1
 rw[hn.k]at h
 have hy:t/wN g<hN g:=(Nat.div_lt_iff_lt_mul oM).2 (by rw[Nat.mul_comm];exact h)
 have hd:t/wN g*wN g+t%wN g=t:=by rw[Nat.mul_comm];exact Nat.div_add_mod _ _
 have key: ∀f,f∈qCl (t%wN g) t->f∈qCq g:=fun f hf=>by
  refine List.mem_append_left _ ?_
  simp only[qCo,qCn,List.mem_flatMap,List.mem_range]
  exact⟨t%wN g,Nat.mod_lt _ oM,t/wN g,hy,List.mem_append_right _ (by rw[hd];exact hf)⟩
 rcases hk with rfl|rfl|rfl
 ·exact⟨_,key ⟨t%wN g,1,t,2⟩ (by simp[qCl]),rfl,rfl,rfl⟩
 ·exact⟨_,key ⟨t%wN g,2,t,16⟩ (by simp[qCl]),rfl,rfl,rfl⟩
 ·exact⟨_,key ⟨t%wN g,3,t,8⟩ (by simp[qCl]),rfl,rfl,rfl⟩
def fkey(f:Fld):Nat×Nat:=(f.kind,f.i)
theorem qDb{α:Type}(n:Nat)(f:Nat->α)(h: ∀i j,i<n->j<n->f i=f j->i=j):((List.range n).map f).Nodup:=by
 rw[List.Nodup,List.pairwise_map]
 refine List.Pairwise.imp_of_mem ?_ (List.nodup_range (n:=n))
 intro a b ha hb hab e
 exact hab (h a b (List.mem_range.1 ha) (List.mem_range.1 hb) e)
theorem qDc{α:Type}(n:Nat)(f:Nat->List α)(h1: ∀i,i<n->(f i).Nodup)(h2: ∀i j x,i<n->j<n->x∈f i->x∈f j->i=j):((List.range n).flatMap f).Nodup:=by
 induction n with
 |zero=>simp
 |succ n ih=>
   rw[List.range_succ,List.flatMap_append,List.nodup_append]
   refine⟨ih (fun i hi=>h1 i oM) fun i j x hi hj=>h2 i j x oM oM,by simpa using h1 n oM,?_⟩
   intro a ha b hb e
   subst e
   simp only[List.mem_flatMap,List.mem_range,List.mem_singleton]at ha hb
   obtain⟨i,hi,ha⟩:=ha
   obtain⟨j,rfl,hb⟩:=hb
   have:=h2 i j a oM oM ha hb
   omega
theorem qDd{g:Grid}(hg:GOk g):((qCq g).map fkey).Nodup:=by
 have hn:=hg.n
 have hw:=hn.w1
 have he:=hn.e1
 have hdiv: ∀t j,j<eN g->(t*eN g+j)/eN g=t:=fun t j hj=>by rw[Nat.mul_comm,Nat.mul_add_div oM,Nat.div_eq_of_lt hj];omega
 have hmod: ∀y x,x<wN g->(y*wN g+x)%wN g=x/\(y*wN g+x)/wN g=y:=fun y x hx=>by
  rw[Nat.mul_comm];exact⟨by rw[Nat.mul_add_mod,Nat.mod_eq_of_lt hx],by rw[Nat.mul_add_div oM,Nat.div_eq_of_lt hx];omega⟩
 have inT: ∀x t k,k∈(qCm g x t).map fkey->(k.1=0/\ ∃j,j<eN g/\k.2=t*eN g+j)\/((k.1=1\/k.1=2\/k.1=3)/\k.2=t):=fun x t k hk=>by
  simp only[qCm,yH,yC,qCk,List.map_map,List.mem_map,List.mem_range,Function.comp,fkey]at hk
  rcases hk with⟨j,hj,rfl⟩|⟨f,hf,rfl⟩
  ·exact .inl ⟨rfl,j,hj,rfl⟩
  ·simp only[qCl,List.mem_cons,List.not_mem_nil,or_false]at hf
   rcases hf with rfl|rfl|rfl
   ·exact .inr ⟨.inl rfl,rfl⟩
   ·exact .inr ⟨.inr (.inl rfl),rfl⟩
   ·exact .inr ⟨.inr (.inr rfl),rfl⟩
 have sameT: ∀x t x' t' k,k∈(qCm g x t).map fkey->k∈(qCm g x' t').map fkey->t=t' :=fun x t x' t' k h1 h2=>by
  rcases inT x t k h1 with⟨a,j,hj,b⟩|⟨a,b⟩<;>rcases inT x' t' k h2 with⟨a',j',hj',b'⟩|⟨a',b'⟩
  ·have e1:=hdiv t j hj
   have e2:=hdiv t' j' hj'
   rw[<- b]at e1;rw[<- b']at e2
   omega
  ·omega
  ·omega
  ·omega
 have ndT: ∀x t,((qCm g x t).map fkey).Nodup:=fun x t=>by
  rw[qCm,yH,List.nodup_append]
  refine⟨?_,?_,?_⟩
  ·rw[qCk,List.map_map]
   refine qDb _ _ fun i j _ _ e=> ?_
   simp only[Function.comp,fkey,Prod.mk.injEq]at e
   omega
  ·simp[qCl,fkey]
  ·intro a ha b hb e
   subst e
   simp only[qCk,List.map_map,List.mem_map,Function.comp,fkey]at ha
   obtain⟨j,_,rfl⟩:=ha
   simp[qCl,fkey]at hb
 rw[qCq,yH,List.nodup_append]
 refine⟨?_,?_,?_⟩
 ·rw[qCo,List.map_flatMap]
  refine qDc _ _ (fun x hx=> ?_) fun i j k hi hj h1 h2=> ?_
  ·rw[qCn,List.map_flatMap]
   refine qDc _ _ (fun y _=>ndT _ _) fun y y' k _ _ h1 h2=> ?_
   have:=sameT _ _ _ _ k h1 h2
   have e1:=(hmod y x hx).2
   have e2:=(hmod y' x hx).2
   rw[this]at e1;omega
  ·simp only[qCn,List.map_flatMap,List.mem_flatMap,List.mem_range]at h1 h2
   obtain⟨y,_,h1⟩:=h1
   obtain⟨y',_,h2⟩:=h2
   have:=sameT _ _ _ _ k h1 h2
   have e1:=(hmod y i hi).1
   have e2:=(hmod y' j hj).1
   rw[this]at e1;omega
 ·rw[qCp,qCk,List.map_map]
  refine qDb _ _ fun i j _ _ e=> ?_
  simp only[Function.comp,fkey,Prod.mk.injEq]at e
  omega
 ·intro a ha b hb e
  subst e
  simp only[qCp,qCk,List.map_map,List.mem_map,List.mem_range,Function.comp,fkey]at hb
  obtain⟨j,hj,rfl⟩:=hb
  simp only[qCo,qCn,List.map_flatMap,List.mem_flatMap,List.mem_range]at ha
  obtain⟨x,hx,y,hy,ha⟩:=ha
  rcases inT _ _ _ ha with⟨_,j',hj',b⟩|⟨b,_⟩
  ·have:=qD7 (e:=eN g) (qD6 hx hy) hj'
   simp only at b
   omega
  ·simp at b
end Go.Proofs.YtecoaapkcnhlhabGreatDoor
namespace Go.Proofs.YtecoaapkcnhlhabGreatDoor
open Go Go.Vc Go.Ham Txt
def cfK(v0 v1 v2 v3:PV):Nat->PV
 |0=>v0
 |1=>v1
 |2=>v2
 |_=>v3
def farV(v:PV):Prop:=(∀j,1000<=j->v.toV (isId j) nul=false/\v.toV nul (isId j)=false)/\ ∀n j,1000<=j->(qCU v n).to (isId j) nul=false/\(qCU v n).to nul (isId j)=false
theorem qDe{k:Nat}{t:List (Nat×PV)}(h:(t.all fun x=>Nat.ble k x.1)=true): ∀x∈t,k<=x.1:=fun x hx=>Nat.le_of_ble_eq_true (yE.1 h x hx)
theorem qDf(g:Grid){pre:List Fld}(h:pre<+:qCp g):qCo g (wN g)++pre<+:qCq g:=by
 rw[qCq,List.prefix_append_right_inj]
 exact h
set_option maxHeartbeats 4000000 in
theorem qDg {E : Env} (hE : E.p = Tryz.prog) (hkk : E.kk <= 200) (hpn : ∀ ch st, ¬ E.pan ch st) {s : List (Nat × PV)} (hs : qtX 200 s = true) (g : Grid) (hg : GOk g) (ic ig ie cf : Nat) (v0 v1 v2 v3 : PV)
  (b0:List (Nat×List PV)) (B:List Fld->List (Nat×List PV)) (A:List Fld->List (Nat×Arr))
  (hc1:(ic==204)=false) (hc2:(ig==204)=false) (hc3:(ie==204)=false) (hks:qiE (isId 204) nul s=s) (h0:up (qiF (isId 204) nul b0) 204 [.yl 999]=B [])
  (hB: ∀pre,pre<+:qCq g->lk (B pre) 204=some [.yl 999]/\lk (B pre) ic=some [.ptr cf 0]/\lk (B pre) ig=some (quX false g)/\lk (B pre) ie=some [.int (qv1 g)]/\lk (B pre) cf=some [v0,v1,v2,v3])
  (hA: ∀pre,pre<+:qCq g->slOk (A pre) v0/\slOk (A pre) v1/\slOk (A pre) v2/\slOk (A pre) v3)
  (hl:qCV v0=cN g/\qCV v1=wN g*hN g/\qCV v2=wN g*hN g/\qCV v3=wN g*hN g)
  (hf:ic<1000/\ig<1000/\ie<1000/\cf<1000) (hfv:farV v0/\farV v1/\farV v2/\farV v3)
  (hY: ∀pre f,pre++[f]<+:qCq g-> ∀t:List (Nat×PV),qtX 1000 t=true->(∀x∈t,200<=x.1)->(∀j,1000<=j->farL j t)->E.Y 999 [.int f.x,.agg [qCU (cfK v0 v1 v2 v3 f.kind) f.i,.int f.n]] ⟨s++t,B pre,A pre,[]⟩ (fun st' =>st' =⟨s++t,B (pre++[f]),A (pre++[f]),[]⟩)):
  FnM E 66 [.yl 999,.ptr ic 0,.ptr ig 0,.ptr ie 0] ⟨s,b0,A [],[]⟩ (fun _ st' =>st' =⟨s,B (qCq g),A (qCq g),[]⟩):=by
 have hn:=hg.n
 have hfar: ∀j,1000<=j->(204==j)=false/\(999==j)=false/\(ic==j)=false/\(ig==j)=false/\(ie==j)=false/\(cf==j)=false:=by
  obtain⟨f1,f2,f3,f4⟩:=hf
  exact fun j hj=>⟨beq_false_of_ne oM,beq_false_of_ne oM,beq_false_of_ne oM,beq_false_of_ne oM,beq_false_of_ne oM,beq_false_of_ne oM⟩
 obtain⟨fv0,fv1,fv2,fv3⟩:=hfv
 have hk2: ∀t,qiE (isId 204) nul (s++t)=s++qiE (isId 204) nul t:=fun t=>by rw[qD4,hks]
 refine quf 200 (by rw[hE];exact Tryz.func66) (by rw[hE];exact ok66_200) (by show 4<=_;decide) hs hkk ?_ hpn
 simp only[ac66_200,rv66_200,qCA hs,qCz hs,qCB hs,qCC hs,qCD hs,hk2,h0,hc1,hc2,hc3,push_cast,reduceIte,zA,zB,zC,zD,zE,zF,zG,reduceCtorEq,zH,zJ,cNI]
 obtain⟨b0,b1,b2,b3,b4⟩:=hB [] List.nil_prefix
 simp only[qCA hs,qCz hs,qCB hs,qCC hs,qCD hs,b0,b1,b2,b3,b4,push_cast,reduceIte,zA,zB,zC,zD,zE,zF,zG,reduceCtorEq,zH,zJ,cNI]
 refine qoO (fun j st=> ∃x:Nat,x<=wN g/\j=wN g-x/\st=⟨s++[(201,.ptr ic 0),(202,.ptr ig 0),(203,.ptr ie 0),(204,.ptr 204 0),(205,.clo 67 [204,ic,ig]),(211,.int (wN g)),(212,.int x)],B (qCo g x),A (qCo g x),[]⟩) (wN g) ⟨_,SWk.refl _,0,oM,oM,?_⟩ ?_
 ·simp only[qCz hs,qCB hs,qCC hs,hn.w,push_cast,reduceIte,zA,zB,zC,zD,zE,zF,zG,reduceCtorEq,zH,zJ,cNI]
  rfl
 rintro j st ⟨x,hx,rfl,rfl⟩
 simp only[qCA hs,qCz hs,qCB hs,qCC hs,qCD hs,push_cast,reduceIte,zA,zB,zC,zD,zE,zF,zG,reduceCtorEq,zH,zJ,cNI]
 refine qnY (fun h=> ?_) fun h=> ?_
 ·obtain⟨b0,b1,b2,b3,b4⟩:=hB _ ((qCt g hx).trans (List.prefix_append _ _))
  simp only[b0,b1,b2,b3,b4,qCA hs,qCz hs,qCB hs,qCC hs,qCD hs,hk2,hc1,hc2,hc3,push_cast,reduceIte,zA,zB,zC,zD,zE,zF,zG,reduceCtorEq,zH,zJ,cNI]
  refine qoO (fun j st=> ∃y:Nat,y<=hN g/\j=hN g-y/\st=⟨s++[(201,.ptr ic 0),(202,.ptr ig 0),(203,.ptr ie 0),(204,.ptr 204 0),(205,.clo 67 [204,ic,ig]),(206,.int x),(211,.int (wN g)),(212,.int x),(216,.int (hN g)),(217,.int y)],B (qCo g x++qCn g x y),A (qCo g x++qCn g x y),[]⟩) (hN g) ⟨_,SWk.refl _,0,oM,oM,?_⟩ ?_
  ·rw[show qCo g x++qCn g x 0=qCo g x from List.append_nil _]
   simp only[hn.h,qCA hs,qCz hs,qCB hs,qCC hs,qCD hs,hk2,hc1,hc2,hc3,push_cast,reduceIte,zA,zB,zC,zD,zE,zF,zG,reduceCtorEq,zH,zJ,cNI]
  rintro j st ⟨y,hy,rfl,rfl⟩
  simp only[qCA hs,qCz hs,qCB hs,qCC hs,qCD hs,hk2,hc1,hc2,hc3,push_cast,reduceIte,zA,zB,zC,zD,zE,zF,zG,reduceCtorEq,zH,zJ,cNI]
  refine qnY (fun h2=> ?_) fun h2=> ?_
  ·have hx' :x<wN g:=by omega
   have hy' :y<hN g:=by omega
   have hp:=qCv hx' hy'
   obtain⟨t,ht⟩: ∃t,t=y*wN g+x:=⟨_,rfl⟩
   obtain⟨q,hq⟩: ∃q,q=t*eN g:=⟨_,rfl⟩
   obtain⟨r,hr⟩: ∃r,r=q+eN g:=⟨_,rfl⟩
   have htI:(y:Int)*g.w+x=t:=by rw[ht,Int.natCast_add,Int.natCast_mul,hn.w]
   have hqI:(t:Int)*qv1 g=q:=by rw[hq,Int.natCast_mul,hn.e]
   have hrI:((t:Int)+1)*qv1 g=r:=by rw[hr,Int.natCast_add,Int.add_mul,hqI,hn.e,Int.one_mul]
   have ht1:t+1<=wN g*hN g:=by
    have h3:(y+1)*wN g<=hN g*wN g:=Nat.mul_le_mul_right _ hy'
    rw[Nat.add_mul,Nat.one_mul,Nat.mul_comm (hN g)]at h3
    omega
   have hr1:r<=wN g*hN g*eN g:=by
    have h3:=Nat.mul_le_mul_right (eN g) ht1
    rw[Nat.add_mul,Nat.one_mul,<- hq,<- hr]at h3
    exact h3
   have hce:=hn.ce
   have hw2:=hn.w2
   have hh2:=hn.h2
   have he2:=hn.e2
   have hwh2:wN g*hN g<=64*64:=Nat.mul_le_mul hw2 hh2
   have hr2:wN g*hN g*eN g<=4096*134:=Nat.mul_le_mul hwh2 he2
   have hyw:(0:Int)<=y*g.w:=Int.mul_nonneg oM (by have:=hn.w;omega)
   rw[<- ht]at hp
   generalize hpre:qCo g x++qCn g x y=pre at hp ⊢
   have hp1:pre++qCk g x q (eN g)++[⟨x,1,t,2⟩]++[⟨x,2,t,16⟩]++[⟨x,3,t,8⟩]<+:qCq g:=by
    rw[qCm,<- hq]at hp
    simpa[qCl]using hp
   have hp2:=(List.prefix_append _ _).trans hp1
   have hp3:=(List.prefix_append _ _).trans hp2
   have hp4:=(List.prefix_append _ _).trans hp3
   have hp5:=(List.prefix_append _ _).trans hp4
   obtain⟨b0,b1,b2,b3,b4⟩:=hB _ hp5
   simp only[b0,b1,b2,b3,b4,htI,hqI,hrI,qCA hs,qCz hs,qCB hs,qCC hs,qCD hs,hk2,hc1,hc2,hc3,push_cast,reduceIte,zA,zB,zC,zD,zE,zF,zG,reduceCtorEq,zH,zJ,cNI]
   refine⟨⟨oM,oM⟩,⟨oM,oM⟩,⟨oM,oM⟩,⟨oM,oM⟩,⟨oM,oM⟩,?_⟩
   have hsel:=qD5 hE oM hpn (s:=s++[(201,.ptr ic 0),(202,.ptr ig 0),(203,.ptr ie 0),(204,.ptr 204 0),(205,.clo 67 [204,ic,ig]),(206,.int x),(208,.int t),(211,.int (wN g)),(212,.int x),(216,.int (hN g)),(217,.int y),(226,.clo 67 [204,ic,ig]),(227,.int x),(228,.int t),(229,.int (qv1 g)),(230,.int q),(231,.int t),(232,.int ((t:Int)+1)),(233,.int (qv1 g)),(234,.int r)]) (by rw[qCE hs _ _ oM];rfl) g hg 204 ic ig cf v0 v1 v2 v3 x q (eN g) r hr (fun k=>B (pre++qCk g x q k)) (fun k=>A (pre++qCk g x q k)) []
    (fun k hk=>by
     obtain⟨b0,b1,b2,b3,b4⟩:=hB _ (((List.prefix_append_right_inj pre).2 (qCx g x q hk)).trans hp4)
     exact⟨b0,b1,b2,b4⟩)
    (fun k hk=>(hA _ (((List.prefix_append_right_inj pre).2 (qCx g x q hk)).trans hp4)).1)
    oM oM ⟨oM,hf.1,hf.2.1,hf.2.2.2⟩ fv0.1 fv0.2
    (fun k hk t ht h4 hft=>by
     have h5:=hY (pre++qCk g x q k) ⟨x,0,q+k,qCj g (q+k)⟩ (by rw[List.append_assoc,<- qCw];exact((List.prefix_append_right_inj pre).2 (qCx g x q hk)).trans hp4)
     rw[List.append_assoc,<- qCw]at h5
     rw[List.append_assoc]
     exact h5 _ (by simp only[ht,push_cast,reduceIte,zA,zB,zC,zD,zE,zF,zG,reduceCtorEq,zH,zJ,cNI]) (by
      intro z hz
      rcases yC.1 hz with hz|hz
      ·exact qDe (k:=200) rfl z hz
      ·have:=h4 z hz;omega) (by
      intro j hj
      obtain⟨n1,n2,n3,n4,n5,n6⟩:=hfar j hj
      simp only[qD0,n1,n2,n3,n4,n5,n6,hft j hj,push_cast,reduceIte,zA,zB,zC,zD,zE,zF,zG,reduceCtorEq,zH,zJ,cNI]))
   simp only[show qCk g x q 0=[]from rfl,List.append_nil]at hsel
   refine qsP hsel ?_
   obtain⟨C1,hC1,hx1⟩:=qCW (hA _ hp4).2.1 (n:=t) oM
   obtain⟨C2,hC2,hx2⟩:=qCW (hA _ hp3).2.2.1 (n:=t) oM
   obtain⟨C3,hC3,hx3⟩:=qCW (hA _ hp2).2.2.2 (n:=t) oM
   obtain⟨p1,p2⟩:=qCX (hA _ hp4).2.1 t
   obtain⟨p3,p4⟩:=qCX (hA _ hp3).2.2.1 t
   obtain⟨p5,p6⟩:=qCX (hA _ hp2).2.2.2 t
   have y1:=hY _ _ hp3
   have y2:=hY _ _ hp2
   have y3:=hY _ _ hp1
   obtain⟨c0,c1,c2,c3,c4⟩:=hB _ hp4
   obtain⟨d0,d1,d2,d3,d4⟩:=hB _ hp3
   obtain⟨e0,e1,e2,e3,e4⟩:=hB _ hp2
   simp only[c0,c1,c2,c3,c4,hx1,p1,p2,qCA hs,qCz hs,qCB hs,qCC hs,qCD hs,hk2,hc1,hc2,hc3,push_cast,reduceIte,zA,zB,zC,zD,zE,zF,zG,reduceCtorEq,zH,zJ,cNI]
   refine⟨hC1,_,y1 _ sC (qDe rfl) (fun j hj=>by
    obtain⟨n1,n2,n3,n4,n5,n6⟩:=hfar j hj
    simp only[n1,n2,n3,n4,n5,n6,qD3,(fv1.1 j hj).1,(fv1.1 j hj).2,(fv1.2 t j hj).1,(fv1.2 t j hj).2,push_cast,reduceIte,zA,zB,zC,zD,zE,zF,zG,reduceCtorEq,zH,zJ,cNI]),?_⟩
   rintro _ rfl
   simp only[d0,d1,d2,d3,d4,hx2,p3,p4,qCA hs,qCz hs,qCB hs,qCC hs,qCD hs,hk2,hc1,hc2,hc3,push_cast,reduceIte,zA,zB,zC,zD,zE,zF,zG,reduceCtorEq,zH,zJ,cNI]
   refine⟨hC2,_,y2 _ sC (qDe rfl) (fun j hj=>by
    obtain⟨n1,n2,n3,n4,n5,n6⟩:=hfar j hj
    simp only[n1,n2,n3,n4,n5,n6,qD3,(fv1.1 j hj).1,(fv1.1 j hj).2,(fv1.2 t j hj).1,(fv1.2 t j hj).2,(fv2.1 j hj).1,(fv2.1 j hj).2,(fv2.2 t j hj).1,(fv2.2 t j hj).2,push_cast,reduceIte,zA,zB,zC,zD,zE,zF,zG,reduceCtorEq,zH,zJ,cNI]),?_⟩
   rintro _ rfl
   generalize hKK:Exit.thn (awp E (AC.cut _ _) _) _=KK
   simp only[e0,e1,e2,e3,e4,qCA hs,qCz hs,qCB hs,qCC hs,qCD hs,hk2,hc1,hc2,hc3,push_cast,reduceIte,zA,zB,zC,zD,zE,zF,zG,reduceCtorEq,zH,zJ,cNI]
   rw[hx3]
   simp only[p5,p6,qCA hs,qCz hs,qCB hs,qCC hs,qCD hs,hk2,hc1,hc2,hc3,push_cast,reduceIte,zA,zB,zC,zD,zE,zF,zG,reduceCtorEq,zH,zJ,cNI]
   refine⟨hC3,_,y3 _ sC (qDe rfl) (fun j hj=>by
    obtain⟨n1,n2,n3,n4,n5,n6⟩:=hfar j hj
    simp only[n1,n2,n3,n4,n5,n6,qD3,(fv1.1 j hj).1,(fv1.1 j hj).2,(fv1.2 t j hj).1,(fv1.2 t j hj).2,(fv2.1 j hj).1,(fv2.1 j hj).2,(fv2.2 t j hj).1,(fv2.2 t j hj).2,(fv3.1 j hj).1,(fv3.1 j hj).2,(fv3.2 t j hj).1,(fv3.2 t j hj).2,push_cast,reduceIte,zA,zB,zC,zD,zE,zF,zG,reduceCtorEq,zH,zJ,cNI]),?_⟩
   rintro _ rfl
   simp only[qCA hs,qCz hs,qCB hs,qCC hs,qCD hs,hk2,hc1,hc2,hc3,push_cast,reduceIte,zA,zB,zC,zD,zE,zF,zG,reduceCtorEq,zH,zJ,cNI]
   subst hKK
   rw[qnP]
   simp only[qCA hs,qCz hs,qCB hs,qCC hs,qCD hs,hk2,hc1,hc2,hc3,push_cast,reduceIte,zA,zB,zC,zD,zE,zF,zG,reduceCtorEq,zH,zJ,cNI]
   refine⟨⟨oM,oM⟩,_,SWk.refl _,hN g-(y+1),oM,y+1,oM,rfl,?_⟩
   rw[qCs,<- List.append_assoc,hpre,qCm,qCl,<- ht,<- hq]
   simp only[List.append_assoc,List.cons_append,List.nil_append]
   rfl
  ·obtain rfl:y=hN g:=by omega
   have hw2:=hn.w2
   rw[<- qCr]
   exact⟨⟨oM,oM⟩,_,SWk.refl _,wN g-(x+1),oM,x+1,oM,rfl,rfl⟩
 ·obtain⟨b0,b1,b2,b3,b4⟩:=hB _ ((qCt g hx).trans (List.prefix_append _ _))
  simp only[b0,b1,b2,b3,b4,qCA hs,qCz hs,qCB hs,qCC hs,qCD hs,hk2,hc1,hc2,hc3,push_cast,reduceIte,zA,zB,zC,zD,zE,zF,zG,reduceCtorEq,zH,zJ,cNI]
  obtain rfl:x=wN g:=by omega
  have hc:=hn.c
  have hall:=hn.all
  have hce:=hn.ce
  have hwh2:wN g*hN g<=64*64:=Nat.mul_le_mul hn.w2 hn.h2
  have hr2:wN g*hN g*eN g<=4096*134:=Nat.mul_le_mul hwh2 hn.e2
  obtain⟨q,hq⟩: ∃q,q=wN g*hN g*eN g:=⟨_,rfl⟩
  have hwh:g.w*g.h=((wN g*hN g:Nat):Int):=by rw[Int.natCast_mul,hn.w,hn.h]
  have hqI:g.w*g.h*qv1 g=q:=by rw[hq,Int.natCast_mul,hwh,hn.e]
  have hcb:=hg.count
  have hpq:=hg.pads
  have hsel := qD5 hE oM hpn (s := s ++ [(202, .ptr ig 0), (203, .ptr ie 0), (205, .clo 67 [204, ic, ig]), (278, .clo 67 [204, ic, ig]), (279, .ptr ig 0), (280, .int g.w), (281, .ptr ig 0), (282, .int g.w), (283, .ptr ig 1), (284, .int g.h), (285, .int (g.w * g.h)), (286, .int (qv1 g)), (287, .int q), (288, .agg (quX false g)), (289, .int (qv2 g))]) (by rw [qCE hs _ _ oM]; rfl) g hg 204 ic ig cf v0 v1 v2 v3 (wN g) q (cN g - q) (cN g) oM (fun k => B (qCo g (wN g) ++ qCk g (wN g) q k)) (fun k => A (qCo g (wN g) ++ qCk g (wN g) q k)) []
    (fun k hk=>by
     obtain⟨b0,b1,b2,b3,b4⟩:=hB _ (qDf g (by rw[qCp,<- hq];exact qCx g _ q hk))
     exact⟨b0,b1,b2,b4⟩)
    (fun k hk=>(hA _ (qDf g (by rw[qCp,<- hq];exact qCx g _ q hk))).1)
    oM oM ⟨oM,hf.1,hf.2.1,hf.2.2.2⟩ fv0.1 fv0.2
    (fun k hk t ht h4 hft=>by
     have h5:=hY (qCo g (wN g)++qCk g (wN g) q k) ⟨wN g,0,q+k,qCj g (q+k)⟩ (by rw[List.append_assoc,<- qCw];exact qDf g (by rw[qCp,<- hq];exact qCx g _ q hk))
     rw[List.append_assoc,<- qCw]at h5
     rw[List.append_assoc]
     exact h5 _ (by simp only[ht,push_cast,reduceIte,zA,zB,zC,zD,zE,zF,zG,reduceCtorEq,zH,zJ,cNI]) (by
      intro z hz
      rcases yC.1 hz with hz|hz
      ·exact qDe (k:=200) rfl z hz
      ·have:=h4 z hz;omega) (by
      intro j hj
      obtain⟨n1,n2,n3,n4,n5,n6⟩:=hfar j hj
      simp only[qD0,n1,n2,n3,n4,n5,n6,hft j hj,push_cast,reduceIte,zA,zB,zC,zD,zE,zF,zG,reduceCtorEq,zH,zJ,cNI]))
  simp only[show qCk g (wN g) q 0=[]from rfl,List.append_nil]at hsel
  rw[hqI]
  refine⟨⟨oM,oM⟩,⟨oM,oM⟩,?_⟩
  refine qrx (by rw[hE];exact qv5 g hg) sC rfl ?_
  simp only[qCA hs,qCz hs,qCB hs,qCC hs,qCD hs,hk2,hc1,hc2,hc3,push_cast,reduceIte,zA,zB,zC,zD,zE,zF,zG,reduceCtorEq,zH,zJ,cNI]
  rw[hn.w,hn.c]at hsel
  refine qsP hsel ?_
  simp only[qCA hs,qCz hs,qCB hs,qCC hs,qCD hs,hk2,hc1,hc2,hc3,push_cast,reduceIte,zA,zB,zC,zD,zE,zF,zG,reduceCtorEq,zH,zJ,cNI]
  rw[qCq,qCp,<- hq]
end Go.Proofs.YtecoaapkcnhlhabGreatDoor
namespace Go.Proofs.YtecoaapkcnhlhabGreatDoor
open Go Go.Vc Go.Ham
def cfgI(c:Cfg)(k i:Nat):Int:=if k=0 then c.sel.getD i 0 else if k=1 then c.mode.getD i 0 else if k=2 then c.tab.getD i 0 else c.ram.getD i 0
def cfgV(c:Cfg)(k i:Nat):Nat:=(cfgI c k i).toNat
def qDh(c:Cfg)(k i:Nat)(v:Int):Cfg:=if k=0 then { c with sel:=c.sel.set i v } else if k=1 then { c with mode:=c.mode.set i v } else if k=2 then { c with tab:=c.tab.set i v } else { c with ram:=c.ram.set i v }
def keyIn(g:Grid)(k i:Nat):Prop:=(k=0/\i<cN g)\/((k=1\/k=2\/k=3)/\i<g.kind.length)
theorem FIn.keyIn{g:Grid}{f:Fld}(h:FIn g f):keyIn g f.kind f.i:=by
 rcases h.key with⟨a,b,_⟩|⟨a,b,_⟩|⟨a,b,_⟩|⟨a,b,_⟩
 ·exact .inl ⟨a,b⟩
 ·exact .inr ⟨.inl a,b⟩
 ·exact .inr ⟨.inr (.inl a),b⟩
 ·exact .inr ⟨.inr (.inr a),b⟩
theorem CfgLn.lens{g:Grid}{c:Cfg}(h:CfgLn g c):c.sel.length=cN g/\c.mode.length=g.kind.length/\c.tab.length=g.kind.length/\c.ram.length=g.kind.length:=h
theorem qDi{g:Grid}{c:Cfg}(h:CfgLn g c)(k i:Nat)(v:Int):CfgLn g (qDh c k i v):=by
 obtain⟨h1,h2,h3,h4⟩:=h
 unfold qDh
 repeat' split
 all_goals (refine⟨?_,?_,?_,?_⟩<;>simp[*])
theorem qDj(l:List Int)(i j:Nat)(v:Int)(h:i<l.length):(l.set i v).getD j 0=if i=j then v else l.getD j 0:=by
 simp only[zK,List.getElem?_set]
 split
 ·subst_vars;simp[h]
 ·rfl
theorem qDk{g:Grid}{c:Cfg}(hl:CfgLn g c){k i k' i' :Nat}(h:keyIn g k i)(h' :keyIn g k' i')(v:Int):cfgI (qDh c k i v) k' i' =if k=k' /\i=i' then v else cfgI c k' i' :=by
 obtain⟨h1,h2,h3,h4⟩:=hl.lens
 rcases h with⟨rfl,h⟩|⟨rfl|rfl|rfl,h⟩<;>rcases h' with⟨rfl,h'⟩|⟨rfl|rfl|rfl,h'⟩<;>simp[cfgI,qDh,-zK]<;>(rw[qDj _ _ _ _ oM])
theorem qDl {g : Grid} : ∀ (rl : List (Fld × Nat)) (c : Cfg), CfgLn g c -> (∀ p ∈ rl, keyIn g p.1.kind p.1.i) -> (rl.map fun p => fkey p.1).Nodup ->
  CfgLn g (rl.foldl (fun c p=>qDh c p.1.kind p.1.i p.2) c)/\(∀p∈rl,cfgI (rl.foldl (fun c p=>qDh c p.1.kind p.1.i p.2) c) p.1.kind p.1.i=p.2)/\
  ∀k i,keyIn g k i->(k,i)∉rl.map (fun p=>fkey p.1)->cfgI (rl.foldl (fun c p=>qDh c p.1.kind p.1.i p.2) c) k i=cfgI c k i
 |[],c,h,_,_=>⟨h,fun p hp=>(by cases hp),fun _ _ _ _=>rfl⟩
 | q :: r, c, h, hk, hn => by
   rw[zW,List.nodup_cons]at hn
   obtain⟨a1,a2,a3⟩:=qDl r (qDh c q.1.kind q.1.i q.2) (qDi h _ _ _) (fun p hp=>hk p (zT _ hp)) hn.2
   have hq:=hk q zX
   refine⟨a1,fun p hp=> ?_,fun k i h1 h2=> ?_⟩
   ·rcases List.mem_cons.1 hp with rfl|hp
    ·rw[List.foldl_cons,a3 _ _ hq hn.1,qDk h hq hq,if_pos ⟨rfl,rfl⟩]
    ·exact a2 p hp
   ·rw[zW,List.mem_cons,not_or]at h2
    rw[List.foldl_cons,a3 k i h1 h2.2,qDk h hq h1,if_neg]
    rintro⟨rfl,rfl⟩
    exact h2.1 rfl
theorem ext0{l m:List Int}{n:Nat}(hl:l.length=n)(hm:m.length=n)(h: ∀i,i<n->l.getD i 0=m.getD i 0):l=m:=by
 apply List.ext_getElem oM
 intro i h1 h2
 have:=h i oM
 simpa[zK,h1,h2]using this
theorem qDm{g:Grid}{c d:Cfg}(hc:CfgLn g c)(hd:CfgLn g d)(h: ∀k i,keyIn g k i->cfgI c k i=cfgI d k i):c=d:=by
 obtain⟨a1,a2,a3,a4⟩:=hc.lens
 obtain⟨b1,b2,b3,b4⟩:=hd.lens
 have e1:=ext0 a1 b1 fun i hi=>h 0 i (.inl ⟨rfl,hi⟩)
 have e2:=ext0 a2 b2 fun i hi=>h 1 i (.inr ⟨.inl rfl,hi⟩)
 have e3:=ext0 a3 b3 fun i hi=>h 2 i (.inr ⟨.inr (.inl rfl),hi⟩)
 have e4:=ext0 a4 b4 fun i hi=>h 3 i (.inr ⟨.inr (.inr rfl),hi⟩)
 cases c;cases d
 simp only at e1 e2 e3 e4
 rw[e1,e2,e3,e4]
theorem qDn(g:Grid):CfgLn g (qxc g):=by refine⟨?_,?_,?_,?_⟩<;>simp[qxc]
def decC(g:Grid)(S:Nat->List Bool):Cfg:=(qC3 (qCq g) S).foldl (fun c p=>qDh c p.1.kind p.1.i p.2) (qxc g)
theorem qDo{g:Grid}(hg:GOk g){k i:Nat}(h:keyIn g k i): ∃f∈qCq g,f.kind=k/\f.i=i:=by
 rcases h with⟨rfl,h⟩|⟨hk,h⟩
 ·obtain⟨f,h1,h2,h3,_⟩:=qD9 hg h;exact⟨f,h1,h2,h3⟩
 ·obtain⟨f,h1,h2,h3,_⟩:=qDa hg h hk;exact⟨f,h1,h2,h3⟩
theorem qDp(g:Grid)(S:Nat->List Bool):(qC3 (qCq g) S).map (fun p=>fkey p.1)=(qCq g).map fkey:=by
 rw[show(fun p:Fld×Nat=>fkey p.1)=fkey ∘ Prod.fst from rfl,<- List.map_map,qC4]
theorem qDq{g:Grid}{S:Nat->List Bool}{p:Fld×Nat}(h:p∈qC3 (qCq g) S):p.1∈qCq g:=by
 rw[<- qC4 (qCq g) S];exact List.mem_map_of_mem h
theorem qDr{g:Grid}(hg:GOk g)(S:Nat->List Bool):CfgLn g (decC g S)/\ ∀p∈qC3 (qCq g) S,cfgI (decC g S) p.1.kind p.1.i=p.2:=by
 obtain⟨a1,a2,_⟩:=qDl (qC3 (qCq g) S) (qxc g) (qDn g) (fun p hp=>(qD8 hg (qDq hp)).keyIn) (by rw[qDp];exact qDd hg)
 exact⟨a1,a2⟩
theorem qDs(g:Grid)(c:Cfg):validE g c=0 ↔ qyw g c/\(∀i,i<c.sel.length->qyx g c i)/\ ∀t,t<g.kind.length->qyy g c t:=by
 constructor
 ·intro h
  unfold validE at h
  split at h
  ·rename_i e;exact e
  ·cases h
 ·rintro⟨h1,h2,h3⟩
  exact qyz h1 h2 h3
theorem qDt{g:Grid}(hg:GOk g)(n:Nat):(qwb g n).length<2^64:=by
 have:=qxu g hg n
 omega
theorem qDu{g:Grid}(hg:GOk g){c:Cfg}(h:validE g c=0){f:Fld}(hf:FIn g f):0<=cfgI c f.kind f.i/\cfgV c f.kind f.i<2^f.n:=by
 obtain⟨⟨l1,l2,l3,l4⟩,h2,h3⟩:=(qDs g c).1 h
 unfold cfgV
 rcases hf.key with⟨a,b,d⟩|⟨a,b,d⟩|⟨a,b,d⟩|⟨a,b,d⟩
 ·have hs:=h2 f.i (by rw[l1];exact b)
  have hb:=qCi _ (qDt hg f.i)
  unfold qyx at hs
  rw[a,d]
  simp only[cfgI,if_true,qCj]
  by_cases e:c.sel.getD f.i 0=0
  ·rw[e];exact⟨Int.le_refl _,Nat.two_pow_pos _⟩
  ·have:=hs e
   exact⟨oM,oM⟩
 ·have ht:=h3 f.i b
  unfold qyy qyr at ht
  rw[a,d]
  simp[cfgI,-zK]
  omega
 ·have ht:=h3 f.i b
  unfold qyy qyr at ht
  rw[a,d]
  simp[cfgI,-zK]
  have:=ht.2.2.1
  split at this<;>omega
 ·have ht:=h3 f.i b
  unfold qyy qyr at ht
  rw[a,d]
  simp[cfgI,-zK]
  have:=ht.2.2.2
  split at this<;>omega
def qDv(g:Grid)(x:Nat):Nat:=qBY (qCq g) x
def qDw(g:Grid):List Nat:=(List.range (wN g+1)).map fun x=>nW (qDv g x)
def qDx(g:Grid)(c:Cfg):List (List Nat):=(List.range (wN g+1)).map (rowB (qCq g) (cfgV c))
def qDy(ws:List Nat):Bool:=ws.all fun w=>decide (chkW w≠2)
def qDz(ws:List Nat):Nat:=ws.countP fun w=>decide (chkW w=1)
def datF(l:List (List Nat))(x:Nat):List Nat:=(l.getD x []).map datW
structure Dec38 (g:Grid) (l:List (List Nat)):Prop where
 size:l.map List.length=qDw g
 ok: ∀ws∈l,qDy ws=true
 rest: ∀x,x<wN g+1->qCd (datF l x) (qDv g x)
 valid:validE g (decC g fun x=>unW (datF l x))=0
def qDA(l:List (List Nat)):Prop:= ∀ws∈l,∀w∈ws,w<2^64
theorem qDB{d:Nat}(h:d<2^57):datW (encW d)=d:=by
 unfold datW;rw[if_neg (by rw[qAb];decide),qAa h]
theorem qDC{g:Grid}(hg:GOk g){x:Nat}(h:wN g<x):qDv g x=0:=by
 have key: ∀fs:List Fld,(∀f∈fs,f.x<=wN g)->qBY fs x=0:=by
  intro fs
  induction fs with
  |nil=>intro _;rfl
  |cons f r ih=>
    intro hf
    have:=hf f zX
    rw[qBY,if_neg oM,ih fun f hf' =>hf f (zT _ hf')]
 exact key _ fun f hf=>(qD8 hg hf).x
theorem qDG{g:Grid}{c:Cfg}{x:Nat}(hx:x<wN g+1):(qDx g c).getD x []=rowB (qCq g) (cfgV c) x:=by
 simp[qDx,zK,hx]
theorem qDH {g : Grid} (hg : GOk g) {c : Cfg} (hc : validE g c = 0) {l : List (List Nat)} (hs : l.map List.length = qDw g) (ho : ∀ ws ∈ l, qDy ws = true) (hd : ∀ x, x < wN g + 1 -> datF l x = qCb (qCq g) (cfgV c) x) :
  Dec38 g l/\decC g (fun x=>unW (datF l x))=c:=by
 have hlen:l.length=wN g+1:=by
  have:=congrArg List.length hs
  simpa[qDw]using this
 have hn:=hg.n
 obtain⟨hL,hp⟩:=qDr hg fun x=>unW (datF l x)
 have hread:qC3 (qCq g) (fun x=>unW (datF l x))=(qCq g).map fun f=>(f,cfgV c f.kind f.i):=by
  refine qC6 (cfgV c) _ _ (fun f hf=>(qDu hg hc (qD8 hg hf)).2) fun x=> ?_
  by_cases hx:x<wN g+1
  ·rw[hd x hx];exact qCf _ _ _
  ·have h0:qBY (qCq g) x=0:=qDC hg oM
   have h1:=qBZ (cfgV c) x (qCq g)
   rw[h0]at h1
   rw[h0,List.take_zero,List.length_eq_zero_iff.1 h1]
 have hceq:decC g (fun x=>unW (datF l x))=c:=by
  have hcl:CfgLn g c:=((qDs g c).1 hc).1
  refine qDm hL hcl fun k i hk=> ?_
  obtain⟨f,hf,rfl,rfl⟩:=qDo hg hk
  have h1:=hp (f,cfgV c f.kind f.i) (by rw[hread];exact List.mem_map_of_mem (f:=fun f=>(f,cfgV c f.kind f.i)) hf)
  have h2:=(qDu hg hc (qD8 hg hf)).1
  simp only at h1
  rw[h1,cfgV]
  omega
 refine⟨⟨hs,ho,fun x hx=>by rw[hd x hx];exact qCe _ _ _,by rw[hceq];exact hc⟩,hceq⟩
theorem qDI(fs:List Fld)(c:Nat->Nat->Nat)(x:Nat):(rowB fs c x).length=nW (qBY fs x):=by rw[rowB,yG,qCc]
theorem qDJ(g:Grid)(c:Cfg):(qDx g c).map List.length=qDw g:=by
 rw[qDx,List.map_map]
 exact List.map_congr_left fun x _=>qDI _ _ _
theorem qDK{g:Grid}{c:Cfg}{ws:List Nat}(h:ws∈qDx g c){w:Nat}(hw:w∈ws): ∃d,d<2^57/\w=encW d:=by
 simp only[qDx,List.mem_map]at h
 obtain⟨x,_,rfl⟩:=h
 simp only[rowB,List.mem_map]at hw
 obtain⟨d,hd,rfl⟩:=hw
 exact⟨d,qBN hd,rfl⟩
theorem qDL(g:Grid)(c:Cfg):qDA (qDx g c):=fun ws hws w hw=>by
 obtain⟨d,_,rfl⟩:=qDK hws hw
 exact qA9 d
theorem qDM{g:Grid}{c:Cfg}{ws:List Nat}(h:ws∈qDx g c){w:Nat}(hw:w∈ws):chkW w=0:=by
 obtain⟨d,_,rfl⟩:=qDK h hw
 exact qAb d
theorem qDN{g:Grid}{c:Cfg}{x:Nat}(hx:x<wN g+1):datF (qDx g c) x=qCb (qCq g) (cfgV c) x:=by
 unfold datF
 rw[qDG hx,rowB,List.map_map]
 conv=>rhs;rw[<- List.map_id (qCb (qCq g) (cfgV c) x)]
 apply List.map_congr_left
 intro d hd
 exact qDB (qBN hd)
end Go.Proofs.YtecoaapkcnhlhabGreatDoor
