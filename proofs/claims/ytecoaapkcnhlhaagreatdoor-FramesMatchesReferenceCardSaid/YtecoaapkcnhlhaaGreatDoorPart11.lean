/- VcZu HV HP HQ HO TxtD VcZv VcZw VcZx ID HR IE HS VcZr: lemmas -/
import Derived.Test.YtecoaapkcnhlhaaGreatDoorPart10
import Derived.Shelf.Spec.TrailingZeros
import Derived.Test.YtecoaapkcnhlhaaGreatDoorPart08
import Derived.Test.YtecoaapkcnhlhaaGreatDoorPart09
import Derived.Lib.ItoaNum
import Derived.Test.YtecoaapkcnhlhaaGreatDoorPart05
import Derived.Test.YtecoaapkcnhlhaaGreatDoorChecked
set_option linter.unusedSimpArgs false
set_option linter.unusedVariables false
open Option renaming map_eq_some_iff->zR
open Array renaming getD_eq_getD_getElem? ->zO
open Bool renaming and_eq_true->zN
open List renaming getD_eq_getElem?_getD->zK,getElem?_eq_getElem->zL,mem_of_getElem? ->zP,getElem?_map->zS,mem_cons_of_mem->zT,length_append->zU,length_cons->zV,map_cons->zW,mem_cons_self->zX,take_of_length_le->zY,getElem?_append_left->yA,getElem?_append_right->yB,mem_append->yC,all_eq_true->yE,length_set->yF,length_map->yG,map_append->yH
open Int renaming reduceToNat->zH,reduceNeg->zJ
open Nat renaming reduceEqDiff->zA,reduceAdd->zB,reduceSub->zC,reduceMul->zD,reduceBEq->zE,reduceLT->zF,reduceLeDiff->zG
namespace Go.Vc
open Go Go.RowKit
def PV.ren(i j:Nat):PV->PV
 | .view id lo n=> .view (if id=i then j else id) lo n
 | .eptr id k off=> .eptr (if id=i then j else id) k off
 |c=>c
def PV.renA(i j:Nat):PV->PV
 | .agg cs=> .agg (cs.map (PV.ren i j))
 |c=>c.ren i j
def PV.renV(i j:Nat):PV->PV
 | .tup cs=> .tup (cs.map (PV.renA i j))
 |c=>c.renA i j
def Lay.ren(L:Lay)(i j:Nat):Lay:= { L with ab:=fun k=>if k=j then L.ab i else L.ab k,ac:=fun k=>if k=j then L.ac i else L.ac k,ae:=fun k=>if k=j then L.ae i else L.ae k,al:=fun k=>if k=j then L.al i else L.al k }
def St.ren(st:St)(i j:Nat)(A:Arr):St:= { s:=st.s.map fun x=>(x.1,x.2.renV i j),b:=st.b.map fun x=>(x.1,x.2.map (PV.ren i j)),a:=up (rm st.a i) j A,m:=st.m }
section
variable {w w0:World} {Z Z0:Zone} {L:Lay} {N:Fr} {st:St} {a:Act} {i j:Nat} {c:PV} {v:Value}
theorem CR.ren(h:CR w Z L c v)(hn:c.to nul (fun k=>k==j)=false):CR w Z (L.ren i j) (c.ren i j) v:=by
 cases c<;>simp only[PV.ren]<;>first|exact h|skip
 ·rename_i id lo n
  have hn:id≠j:=by simpa[PV.to]using hn
  by_cases e:id=i
  ·subst e
   simp only[CR,Lay.ren,if_pos]at h ⊢;exact h
  ·rw[if_neg e]
   simp only[CR,Lay.ren,if_neg hn]at h ⊢;exact h
 ·rename_i id lo n
  have hn:id≠j:=by simpa[PV.to]using hn
  by_cases e:id=i
  ·subst e
   simp only[CR,Lay.ren,if_pos]at h ⊢;exact h
  ·rw[if_neg e]
   simp only[CR,Lay.ren,if_neg hn]at h ⊢;exact h
theorem AR.ren(h:AR w Z L c v)(hn:c.toA nul (fun k=>k==j)=false):AR w Z (L.ren i j) (c.renA i j) v:=by
 cases c with
 |agg cs=>
   obtain⟨vs,h1,h2,h3⟩:=h
   refine⟨vs,h1,by simpa using h2,fun k d hk=> ?_⟩
   rw[zS]at hk
   obtain⟨x,hx,rfl⟩:=zR.1 hk
   exact⟨(h3 k x hx).1.ren (qa1 hn hx),(h3 k x hx).2⟩
 |_=>exact AR.cr (CR.ren (AR.toCR (by simp) h) hn)
theorem VR.ren(h:VR w Z L c v)(hn:c.toV nul (fun k=>k==j)=false):VR w Z (L.ren i j) (c.renV i j) v:=by
 cases c with
 |tup cs=>
   obtain⟨vs,h1,h2,h3⟩:=h
   refine⟨vs,h1,by simpa using h2,fun k d hk=> ?_⟩
   rw[zS]at hk
   obtain⟨x,hx,rfl⟩:=zR.1 hk
   exact(h3 k x hx).ren (qa1 hn hx)
 |_=>exact VR.ar (AR.ren (VR.toAR (by simp) h) hn)
theorem XR.ren{A:Arr}{cur:Array Value}{k:Nat}(h:XR w Z L k A cur)(L' :Lay)(k' :Nat)(h1:L'.ab k' =L.ab k)(h2:L'.ac k' =L.ac k)(h3:L'.ae k' =L.ae k)(h4:L'.al k' =L.al k):XR w Z L' k' A cur:=
 ⟨h.pos,h3.trans h.ae,h4.trans h.al,by rw[h1];exact h.blk,by rw[h2];exact h.size,by rw[h2];exact h.fits,by rw[h2];exact h.max,h.rows,h.cell⟩
theorem Inv.ren{A:Arr}(h:Inv w0 Z0 N Z L st a w)(hA:lk st.a i=some A)(hj:lk st.a j=none)(hn:st.noTo nul (fun k=>k==j)=true):Inv w0 Z0 N Z (L.ren i j) (st.ren i j A) a w:=by
 have hij:i≠j:=fun e=>by rw[e,hj]at hA;cases hA
 have key: ∀k B,lk (up (rm st.a i) j A) k=some B-> ∃k0,lk st.a k0=some B/\(L.ren i j).ab k=L.ab k0/\(L.ren i j).ac k=L.ac k0/\(L.ren i j).ae k=L.ae k0/\(L.ren i j).al k=L.al k0/\((k=j/\k0=i)\/(k≠j/\k0=k/\k≠i)):=fun k B hB=>by
  rw[qa2]at hB
  split at hB
  ·rename_i e;subst e;cases hB
   refine⟨i,hA,?_,?_,?_,?_,.inl ⟨rfl,rfl⟩⟩<;>simp[Lay.ren]
  ·rename_i e
   rw[qa4]at hB
   split at hB
   ·cases hB
   ·rename_i e2
    have e' :k≠j:=fun h=>e h.symm
    refine⟨k,hB,?_,?_,?_,?_,.inr ⟨e',rfl,fun h=>e2 h.symm⟩⟩<;>simp[Lay.ren,e']
 have hx: ∀k cs,lk (st.b.map fun x=>(x.1,x.2.map (PV.ren i j))) k=some cs-> ∃u,lk st.b k=some u/\cs=u.map (PV.ren i j):=fun k cs hl=>qbK st.b _ k cs hl
 refine⟨h.zt,h.z0,h.zn,h.zb,h.below,fun k cs hl=> ?_,fun k B hl=> ?_,fun p q x y hp hq=> ?_,fun p q x y hp hq e=> ?_,fun p q x y hp hq=> ?_,fun k cs hl=> ?_,fun k B hl=> ?_,h.ownm,h.injm,fun k M hl=> ?_,h.oth,h.yb,h.size,h.defers,fun k x hl=> ?_⟩
 ·obtain⟨u,h1,_⟩:=hx k cs hl;exact h.ownb k u h1
 ·obtain⟨k0,h1,e1,_⟩:=key k B hl;rw[e1];exact h.owna k0 B h1
 ·obtain⟨u,h1,_⟩:=hx p x hp;obtain⟨u',h2,_⟩:=hx q y hq;exact h.injb p q u u' h1 h2
 ·obtain⟨p0,h1,e1,_,_,_,f1⟩:=key p x hp
  obtain⟨q0,h2,e2,_,_,_,f2⟩:=key q y hq
  rw[e1,e2]at e
  have:=h.inja p0 q0 x y h1 h2 e
  rcases f1 with⟨rfl,rfl⟩|⟨f1,rfl,g1⟩<;>rcases f2 with⟨rfl,rfl⟩|⟨f2,rfl,g2⟩
  ·rfl
  ·exact absurd this.symm g2
  ·exact absurd this g1
  ·exact this
 ·obtain⟨u,h1,_⟩:=hx p x hp
  obtain⟨q0,h2,e2,_⟩:=key q y hq
  rw[e2];exact h.injx p q0 u y h1 h2
 ·obtain⟨u,h1,rfl⟩:=hx k cs hl
  obtain⟨vs,T,g1,g2,g3⟩:=h.boxes k u h1
  refine⟨vs,T,g1,by rw[yG];exact g2,fun m d hd=> ?_⟩
  rw[zS]at hd
  obtain⟨x,hx',rfl⟩:=zR.1 hd
  exact⟨(g3 m x hx').1.ren (qa1 (St.noTo_box hn h1) hx'),(g3 m x hx').2⟩
 ·obtain⟨k0,h1,e1,e2,e3,e4,_⟩:=key k B hl
  obtain⟨cur,hX⟩:=h.arrs k0 B h1
  exact⟨cur,hX.ren _ _ e1 e2 e3 e4⟩
 ·obtain⟨ents,clock,hM⟩:=h.maps k M hl
  exact⟨ents,clock,⟨hM.blk,hM.size,hM.ent,hM.kind,hM.old,hM.born,hM.it⟩⟩
 ·obtain⟨u,h1,rfl⟩:=qbK st.s _ k x hl
  exact(h.slots k u h1).ren (St.noTo_slot hn h1)
end
theorem SWk.ren{st:St}{A:Arr}(i j:Nat)(hA:lk st.a i=some A)(hj:lk st.a j=none)(hn:st.noTo nul (fun k=>k==j)=true):SWk st (st.ren i j A):=fun _ _ _ _ _ ⟨Z,L,h⟩=>⟨Z,L.ren i j,h.ren hA hj hn⟩
theorem SWk.frz(st:St)(id:Nat):SWk st (st.frz id):=fun _ _ _ _ _ ⟨_,L,h⟩=>(h.frz id).imp fun _ h=>⟨L,h⟩
def rowC(k:Nat):Option (List (List PV))->PV
 |none=> .nil
 |some r=> .view k 0 r.length
def qB0:Nat->List (Option (List (List PV)))->List PV
 |_,[]=>[]
 |k,r::rs=>rowC k r::qB0 (k+1) rs
def qB1(es ty:Nat):Nat->List (Option (List (List PV)))->List (Nat×Arr)
 |_,[]=>[]
 |k,none::rs=>qB1 es ty (k+1) rs
 |k,some r::rs=>(k,⟨es,ty,r⟩)::qB1 es ty (k+1) rs
theorem qB2: ∀(k:Nat) (rs:List (Option (List (List PV)))),(qB0 k rs).length=rs.length
 |_,[]=>rfl
 |k,r::rs=>by rw[qB0,zV,zV,qB2 (k+1) rs]
theorem qB3: ∀(k:Nat) (rs:List (Option (List (List PV)))) (x:Nat),(qB0 k rs)[x]? =rs[x]?.map (rowC (k+x))
 |_,[],x=>by simp[qB0]
 |k,r::rs,0=>by simp[qB0]
 |k,r::rs,x+1=>by rw[qB0,List.getElem?_cons_succ,List.getElem?_cons_succ,qB3 (k+1) rs x,show k+1+x=k+(x+1)from by omega]
theorem qB4: ∀(k:Nat) (rs:List (Option (List (List PV)))) (x:Nat) (r:Option (List (List PV))),(qB0 k rs).set x (rowC (k+x) r)=qB0 k (rs.set x r)
 |_,[],x,r=>by simp[qB0]
 |k,q::rs,0,r=>by simp[qB0]
 |k,q::rs,x+1,r=>by rw[qB0,List.set_cons_succ,List.set_cons_succ,qB0,show k+(x+1)=k+1+x from by omega,qB4 (k+1) rs x r]
theorem qB5(pb pa:Nat->Bool): ∀(k:Nat) (rs:List (Option (List (List PV)))),(∀x,x<rs.length->pa (k+x)=false)->(qB0 k rs).any (PV.to pb pa)=false
 |_,[],_=>rfl
 | k, r :: rs, h => by
   rw[qB0,List.any_cons,qB5 pb pa (k+1) rs fun x hx=>by rw[show k+1+x=k+(x+1)from by omega];exact h (x+1) (by simpa using hx),Bool.or_false]
   cases r with
   |none=>rfl
   |some r=>exact h 0 (by simp)
theorem qB8: ∀(i j k:Nat) (rs:List (Option (List (List PV)))),(∀x,x<rs.length->k+x≠i)->(qB0 k rs).map (PV.ren i j)=qB0 k rs
 |_,_,_,[],_=>rfl
 | i, j, k, r :: rs, h => by
   rw[qB0,zW,qB8 i j (k+1) rs fun x hx=>by rw[show k+1+x=k+(x+1)from by omega];exact h (x+1) (by simpa using hx)]
   congr 1
   cases r with
   |none=>rfl
   |some r=>
     have:k≠i:=h 0 (by simp)
     simp[rowC,PV.ren,this]
theorem qB9(es ty:Nat): ∀(k:Nat) (rs:List (Option (List (List PV)))) (id:Nat),id<k->lk (qB1 es ty k rs) id=none
 |_,[],_,_=>rfl
 |k,none::rs,id,h=>qB9 es ty (k+1) rs id (by omega)
 |k,some r::rs,id,h=>by rw[qB1,lk,if_neg (by omega)];exact qB9 es ty (k+1) rs id (by omega)
theorem qBa(es ty:Nat): ∀(k:Nat) (rs:List (Option (List (List PV)))) (x:Nat),lk (qB1 es ty k rs) (k+x)=(rs[x]?.bind id).map fun r=>⟨es,ty,r⟩
 |_,[],x=>by simp[qB1,lk]
 |k,none::rs,0=>by rw[qB1,qB9 es ty (k+1) rs _ (by omega)];simp
 |k,none::rs,x+1=>by rw[qB1,show k+(x+1)=k+1+x from by omega,qBa es ty (k+1) rs x];simp
 |k,some r::rs,0=>by simp[qB1,lk]
 |k,some r::rs,x+1=>by rw[qB1,lk,if_neg (by omega),show k+(x+1)=k+1+x from by omega,qBa es ty (k+1) rs x];simp
theorem qBb{α:Type}(l:List (Nat×α))(i:Nat)(v:α)(h: ∀x∈l,i<x.1):up l i v=(i,v)::l:=by
 cases l with
 |nil=>rfl
 |cons x r=>
   obtain⟨k,u⟩:=x
   have:i<k:=h (k,u) zX
   rw[up,if_neg (by omega),if_pos this]
theorem qBc(es ty:Nat): ∀(k:Nat) (rs:List (Option (List (List PV)))),∀x∈qB1 es ty k rs,k<=x.1
 |_,[],x,h=>by cases h
 |k,none::rs,x,h=>by have:=qBc es ty (k+1) rs x h;omega
 | k, some r :: rs, x, h => by
   rcases List.mem_cons.1 h with rfl|h
   ·exact Nat.le_refl _
   ·have:=qBc es ty (k+1) rs x h;omega
theorem qBd(es ty:Nat): ∀(k:Nat) (rs:List (Option (List (List PV)))) (x:Nat) (r:List (List PV)),x<rs.length->up (qB1 es ty k rs) (k+x) ⟨es,ty,r⟩=qB1 es ty k (rs.set x (some r))
 |_,[],x,r,h=>by simp at h
 | k, none :: rs, 0, r, h => by
   rw[qB1,List.set_cons_zero,qB1]
   exact qBb _ _ _ fun x hx=>by have:=qBc es ty (k+1) rs x hx;omega
 |k,some q::rs,0,r,h=>by simp[qB1,up]
 |k,none::rs,x+1,r,h=>by rw[qB1,List.set_cons_succ,qB1,show k+(x+1)=k+1+x from by omega,qBd es ty (k+1) rs x r (by simpa using h)]
 |k,some q::rs,x+1,r,h=>by rw[qB1,List.set_cons_succ,qB1,up,if_neg (by omega),if_neg (by omega),show k+(x+1)=k+1+x from by omega,qBd es ty (k+1) rs x r (by simpa using h)]
theorem qBe(es ty:Nat)(p:Nat×Arr->Bool): ∀(k:Nat) (rs:List (Option (List (List PV)))),(∀x r,rs[x]? =some (some r)->p (k+x,⟨es,ty,r⟩)=true)->(qB1 es ty k rs).filter p=qB1 es ty k rs
 |_,[],_=>rfl
 |k,none::rs,h=>by rw[qB1];exact qBe es ty p (k+1) rs fun x r hx=>by rw[show k+1+x=k+(x+1)from by omega];exact h (x+1) r (by simpa using hx)
 | k, some q :: rs, h => by
   rw[qB1,List.filter_cons_of_pos (show p (k,⟨es,ty,q⟩)=true from h 0 q (by simp))]
   congr 1
   exact qBe es ty p (k+1) rs fun x r hx=>by rw[show k+1+x=k+(x+1)from by omega];exact h (x+1) r (by simpa using hx)
end Go.Vc
namespace Go.Proofs
open Go.Shelf
def Tryz.lays29_ren:Go.Shelf.Ren:=⟨fun |29=>106|n=>n,fun |0=>0|3=>3|4=>4|5=>5|22=>59|25=>77|54=>159|n=>n,fun |1=>0|n=>n⟩
theorem Tryz.lays29:Go.Proofs.Lays7.n29 Tryz.prog Tryz.lays29_ren:= {
 mixed:=by kernel_rfl
 f29:=Tryz.func106.trans (congrArg some (by kernel_rfl))
 t0:=Tryz.underlying0
 a0:=Tryz.isAgg0
 z0:=Tryz.sizeOf0
 v0:=Tryz.zeroValue0
 i0:=by kernel_rfl
 t3:=Tryz.underlying3
 a3:=Tryz.isAgg3
 z3:=Tryz.sizeOf3
 v3:=Tryz.zeroValue3
 i3:=by kernel_rfl
 t4:=Tryz.underlying4
 a4:=Tryz.isAgg4
 z4:=Tryz.sizeOf4
 v4:=Tryz.zeroValue4
 i4:=by kernel_rfl
 t5:=Tryz.underlying5
 a5:=Tryz.isAgg5
 z5:=Tryz.sizeOf5
 v5:=Tryz.zeroValue5
 i5:=by kernel_rfl
 t22:=Tryz.underlying59
 a22:=Tryz.isAgg59
 z22:=Tryz.sizeOf59
 v22:=Tryz.zeroValue59
 i22:=by kernel_rfl
 t25:=Tryz.underlying77
 a25:=Tryz.isAgg77
 z25:=Tryz.sizeOf77
 v25:=Tryz.zeroValue77
 i25:=by kernel_rfl
 t54:=Tryz.underlying159
 a54:=Tryz.isAgg159
 z54:=Tryz.sizeOf159
 g1:=by kernel_rfl }
end Go.Proofs
namespace Go.Proofs.YtecoaapkcnhlhaaGreatDoor
open Go Go.Vc Txt Go.Ham
theorem qBg{P:Program}{f:FuncId}{c r:Value}(hr:scOk r=true)(h: ∀w,GL P w->Calls P f #[c] w fun e w' =>e= .returned r/\w' =w):FnEq P f [.sc c] (.sc r):=by
 intro w Z hg zt zb vs hs hrel
 have h0:TR w Z (.sc c) (vs.getD 0 undef):=hrel 0 (.sc c) rfl
 have hv:vs.getD 0 undef=c:=by
  generalize vs.getD 0 undef=u at h0
  cases h0;rfl
 have e:vs= #[c]:=by
  have hs1:vs.size=1:=hs
  rw[<- hv]
  apply Array.ext
  ·simpa using hs1
  ·intro i h7 h8
   have:i=0:=by simp at h8;omega
   subst this
   simp[zO,Array.getElem?_eq_getElem h7]
 subst e
 refine(h w hg).mono ?_
 rintro e w' ⟨rfl,rfl⟩
 exact⟨r,.sc r,rfl,rfl,TR.sc r hr,Go.RowKit.Below.refl _ _⟩
theorem qBh(n:Nat)(h:n<2^64):FnEq Tryz.prog 106 [.sc (.int .u64 n)] (.int (Go.Lib.ctz 64 n:Nat)):=by
 refine qBg rfl fun w hg=> ?_
 refine Any7.bits_TrailingZeros64 Tryz.lays29 n h w fun _ j hj=> ?_
 have h1:=hg 0 (by kernel_rfl) j hj
 exact h1
theorem qBi(n:Nat)(h:n<2^64):FnEq Tryz.prog 84 [.sc (.int .u64 n)] (.int (Go.Lib.bitLen n:Nat)):=by
 refine qBg rfl fun w hg=> ?_
 have:=Tryz.bits_Len n w oM oM
 exact this
abbrev PV.w (n:Nat):PV:= .sc (.int .u64 (n:Int))
theorem qBj{n:Nat}(h:n<2^64):IntKind.u64.wrap (n:Int)=(n:Int):=qap (by simp only[ikLo];omega) (by simp only[ikHi];omega)
theorem qBk{n:Nat}(h:n<2^64):(BitVec.ofInt 64 (n:Int)).toNat=n:=by
 rw[BitVec.ofInt_natCast,BitVec.toNat_ofNat];exact Nat.mod_eq_of_lt h
theorem qBl{a b:Nat}(ha:a<2^64)(hb:b<2^64):bitF .and .u64 a b=((a&&&b:Nat):Int):=by
 show IntKind.u64.wrap ((BitVec.ofInt 64 (a:Int)&&&BitVec.ofInt 64 (b:Int)).toNat:Int)=_
 rw[BitVec.toNat_and,qBk ha,qBk hb];exact qBj (Nat.and_lt_two_pow _ hb)
theorem qBm{a b:Nat}(ha:a<2^64)(hb:b<2^64):bitF .or .u64 a b=((a|||b:Nat):Int):=by
 show IntKind.u64.wrap ((BitVec.ofInt 64 (a:Int)|||BitVec.ofInt 64 (b:Int)).toNat:Int)=_
 rw[BitVec.toNat_or,qBk ha,qBk hb];exact qBj (Nat.or_lt_two_pow ha hb)
theorem qBn{a b:Nat}(ha:a<2^64)(hb:b<2^64):bitF .xor .u64 a b=((a^^^b:Nat):Int):=by
 show IntKind.u64.wrap ((BitVec.ofInt 64 (a:Int)^^^BitVec.ofInt 64 (b:Int)).toNat:Int)=_
 rw[BitVec.toNat_xor,qBk ha,qBk hb];exact qBj (Nat.xor_lt_two_pow ha hb)
theorem qBo{a b:Nat}(ha:a<2^63)(hb:b<2^63):bitF .and .i64 a b=((a&&&b:Nat):Int):=by
 show IntKind.i64.wrap ((BitVec.ofInt 64 (a:Int)&&&BitVec.ofInt 64 (b:Int)).toNat:Int)=_
 have:=Nat.and_lt_two_pow a hb
 rw[BitVec.toNat_and,qBk oM,qBk oM];exact qap (by simp only[ikLo];omega) (by simp only[ikHi];omega)
theorem qBp{a b:Nat}(ha:a<2^63)(hb:b<2^63):bitF .or .i64 a b=((a|||b:Nat):Int):=by
 show IntKind.i64.wrap ((BitVec.ofInt 64 (a:Int)|||BitVec.ofInt 64 (b:Int)).toNat:Int)=_
 have:=Nat.or_lt_two_pow ha hb
 rw[BitVec.toNat_or,qBk oM,qBk oM];exact qap (by simp only[ikLo];omega) (by simp only[ikHi];omega)
theorem qBq{a b:Nat}(ha:a<2^63)(hb:b<2^63):bitF .xor .i64 a b=((a^^^b:Nat):Int):=by
 show IntKind.i64.wrap ((BitVec.ofInt 64 (a:Int)^^^BitVec.ofInt 64 (b:Int)).toNat:Int)=_
 have:=Nat.xor_lt_two_pow ha hb
 rw[BitVec.toNat_xor,qBk oM,qBk oM];exact qap (by simp only[ikLo];omega) (by simp only[ikHi];omega)
theorem qBr(a k:Nat)(hk:k<=64):shfF .shr .u64 a k=((a/2^k:Nat):Int):=by
 show(a:Int).fdiv (2^(min (k:Int).toNat 64))=_
 rw[Int.toNat_natCast,Nat.min_eq_left hk,Int.fdiv_eq_ediv_of_nonneg _ (Int.pow_nonneg (by decide)),Int.natCast_ediv]
 norm_cast
theorem qBs{a k:Nat}(hk:k<=64)(h:a*2^k<2^64):shfF .shl .u64 a k=((a*2^k:Nat):Int):=by
 show IntKind.u64.wrap ((a:Int)*2^(min (k:Int).toNat 64))=_
 rw[Int.toNat_natCast,Nat.min_eq_left hk]
 rw[show(a:Int)*2^k=((a*2^k:Nat):Int)from by norm_cast]
 exact qBj h
theorem qBt(n:Nat)(h:n<2^64):FnEq Tryz.prog 88 [.sc (.int .u64 n)] (.int (ons n 64:Nat)):=by
 obtain⟨h1,h2,h3,h4⟩:=qAq n h
 refine FnEq.of_awp Tryz.func88 ok88 (by show 1<=_;decide) (by simp only[push_cast,reduceIte,zA,zB,zC,zD,zE,zF,zG,reduceCtorEq,zH,zJ,cNI]<;>first|exact fun _ _=>trivial|simp) ?_
 simp only[ac88,rv88,push_cast,reduceIte,zA,zB,zC,zD,zE,zF,zG,reduceCtorEq,zH,zJ,cNI]
 have s1:shfF .shr .u64 (n:Int) 1=((n/2:Nat):Int):=qBr n 1 (by decide)
 have e1:IntKind.u64.wrap (bitF .and .u64 (shfF .shr .u64 (n:Int) 1) 6148914691236517205+bitF .and .u64 (n:Int) 6148914691236517205)=((sa m0 n:Nat):Int):=by
  rw[s1]
  show IntKind.u64.wrap (bitF .and .u64 ((n/2:Nat):Int) (m0:Nat)+bitF .and .u64 (n:Int) (m0:Nat))=_
  rw[qBl oM (by decide),qBl h (by decide)]
  exact qBj h1
 rw[e1]
 have s2:shfF .shr .u64 (sa m0 n:Int) 2=((sa m0 n/4:Nat):Int):=qBr _ 2 (by decide)
 have e2:IntKind.u64.wrap (bitF .and .u64 (shfF .shr .u64 (sa m0 n:Int) 2) 3689348814741910323+bitF .and .u64 (sa m0 n:Int) 3689348814741910323)=((sb m1 (sa m0 n):Nat):Int):=by
  rw[s2]
  show IntKind.u64.wrap (bitF .and .u64 ((sa m0 n/4:Nat):Int) (m1:Nat)+bitF .and .u64 (sa m0 n:Int) (m1:Nat))=_
  rw[qBl oM (by decide),qBl h1 (by decide)]
  exact qBj (Nat.lt_of_lt_of_le h2 (by decide))
 rw[e2]
 generalize sb m1 (sa m0 n)=y at h2 h3 h4 ⊢
 have s3:shfF .shr .u64 (y:Int) 4=((y/16:Nat):Int):=qBr _ 4 (by decide)
 have e3:bitF .and .u64 (IntKind.u64.wrap (shfF .shr .u64 (y:Int) 4+y)) 1085102592571150095=((sc m2 y:Nat):Int):=by
  rw[s3,show((y/16:Nat):Int)+y=((y/16+y:Nat):Int)from rfl,qBj oM]
  exact qBl (b:=m2) oM (by decide)
 rw[e3]
 generalize sc m2 y=z at h3 h4 ⊢
 have q1:z/256<2^60:=by omega
 have s4:shfF .shr .u64 (z:Int) 8=((z/256:Nat):Int):=qBr _ 8 (by decide)
 have e4:IntKind.u64.wrap (z+shfF .shr .u64 (z:Int) 8)=((z+z/256:Nat):Int):=by rw[s4];exact qBj (n:=z+z/256) oM
 rw[e4]
 have hv:z+z/256<2^61:=by omega
 have h4' :sum8 z=(((z+z/256)+(z+z/256)/65536)+((z+z/256)+(z+z/256)/65536)/4294967296)%128:=rfl
 generalize z+z/256=v at hv h4' ⊢
 have s5:shfF .shr .u64 (v:Int) 16=((v/65536:Nat):Int):=qBr _ 16 (by decide)
 have e5:IntKind.u64.wrap (v+shfF .shr .u64 (v:Int) 16)=((v+v/65536:Nat):Int):=by rw[s5];exact qBj (n:=v+v/65536) oM
 rw[e5]
 have hu:v+v/65536<2^62:=by omega
 generalize v+v/65536=u at hu h4' ⊢
 have s6:shfF .shr .u64 (u:Int) 32=((u/4294967296:Nat):Int):=qBr _ 32 (by decide)
 have e6:IntKind.u64.wrap (u+shfF .shr .u64 (u:Int) 32)=((u+u/4294967296:Nat):Int):=by rw[s6];exact qBj (n:=u+u/4294967296) oM
 rw[e6]
 refine⟨oM,oM,oM,oM,oM,oM,oM,?_⟩
 rw[show bitF .and .i64 ((u+u/4294967296:Nat):Int) 127=((u+u/4294967296)%128:Nat)from(qBo (b:=127) oM (by decide)).trans (by rw[Nat.and_two_pow_sub_one_eq_mod _ 7])]
 rw[<- h4',h4]
end Go.Proofs.YtecoaapkcnhlhaaGreatDoor
namespace Go.Ham
def qBu(v n:Nat):List Bool:=(List.range n).map v.testBit
def valB:List Bool->Nat
 |[]=>0
 |b::r=>b.toNat+2*valB r
theorem qBv(v n:Nat):(qBu v n).length=n:=by simp[qBu]
theorem qBw(v n:Nat):qBu v (n+1)=qBu v n++[v.testBit n]:=by simp[qBu,List.range_succ]
theorem qBx(v n:Nat):qBu v (n+1)=v.testBit 0::qBu (v/2) n:=by
 simp only[qBu,List.range_succ_eq_map,zW,List.map_map]
 congr 1
 apply List.map_congr_left
 intro i _
 simp[Function.comp,Nat.testBit_succ]
theorem qBy: ∀l:List Bool,valB l<2^l.length
 |[]=>by simp[valB]
 | b :: r => by
   have:=qBy r
   simp only[valB,zV,Nat.pow_succ]
   cases b<;>simp<;>omega
theorem qBz: ∀(n v:Nat),v<2^n->valB (qBu v n)=v
 |0,v,h=>by simp at h;subst h;rfl
 | n + 1, v, h => by
   rw[qBx,valB,qBz n (v/2) (by rw[Nat.pow_succ]at h;omega),Nat.testBit_zero]
   rcases Nat.mod_two_eq_zero_or_one v with e|e<;>simp[e]<;>omega
theorem qBA: ∀(l:List Bool) (i:Nat),(valB l).testBit i=l.getD i false
 |[],i=>by simp[valB]
 |b::r,0=>by simp only[valB,Nat.testBit_zero,List.getD_cons_zero];cases b<;>simp<;>omega
 | b :: r, i + 1 => by
   rw[Nat.testBit_succ,show valB (b::r)/2=valB r from by simp only[valB];cases b<;>simp<;>omega,qBA r i,List.getD_cons_succ]
theorem qBC: ∀(l m:List Bool),valB (l++m)=valB l+2^l.length*valB m
 |[],m=>by simp[valB]
 | b :: r, m => by
   rw[List.cons_append,valB,valB,qBC r m,zV,Nat.pow_succ,Nat.mul_add,<- Nat.mul_assoc,Nat.mul_comm 2 (2^r.length)]
   omega
theorem qBD(l:List Bool)(b:Bool):valB (l++[b])=valB l+2^l.length*b.toNat:=by rw[qBC];simp[valB]
theorem qBE(l:List Bool)(b:Bool):valB (l++[b])=valB l|||(b.toNat<<<l.length):=by
 rw[qBD,Nat.shiftLeft_eq,Nat.mul_comm b.toNat]
 have:=qBy l
 rw[Nat.add_comm,Nat.two_pow_add_eq_or_of_lt this,Nat.or_comm]
def qBG(l:List Bool)(n:Nat):List Nat:=(List.range n).map fun i=>valB ((l.drop (57*i)).take 57)
def nW(n:Nat):Nat:=(n+56)/57
def qBH(l:List Bool):List Nat:=qBG l (nW l.length)
theorem qBJ(l:List Bool):(qBH l).length=nW l.length:=by simp[qBH,qBG]
theorem qBK{l:List Bool}{w:Nat}(h:w∈qBH l):w<2^57:=by
 simp only[qBH,qBG,List.mem_map]at h
 obtain⟨i,_,rfl⟩:=h
 have:=qBy ((l.drop (57*i)).take 57)
 exact Nat.lt_of_lt_of_le this (Nat.pow_le_pow_right (by decide) (by simp;omega))
theorem qBM(l:List Bool)(b:Bool)(h:l.length%57=0):qBH (l++[b])=qBH l++[b.toNat]:=by
 have e:nW (l++[b]).length=nW l.length+1:=by simp only[nW,zU,zV,List.length_nil];omega
 have hl:57*nW l.length=l.length:=by simp only[nW];omega
 rw[qBH,e,qBG,List.range_succ,yH,qBH,qBG]
 congr 1
 ·apply List.map_congr_left
  intro i hi
  have hi:i<nW l.length:=List.mem_range.1 hi
  have h1:57*i+57<=l.length:=by omega
  rw[List.drop_append_of_le_length (by omega),List.take_append_of_le_length (by rw[List.length_drop];omega)]
 ·simp only[zW,List.map_nil,hl]
  rw[List.drop_append_of_le_length (Nat.le_refl _),List.drop_length]
  cases b<;>rfl
theorem qBN(l:List Bool)(b:Bool)(h:l.length%57≠0):qBH (l++[b])=(qBH l).set (l.length/57) ((qBH l).getD (l.length/57) 0|||(b.toNat<<<(l.length%57))):=by
 have e:nW (l++[b]).length=nW l.length:=by simp only[nW,zU,zV,List.length_nil];omega
 have e2:nW l.length=l.length/57+1:=by simp only[nW];omega
 apply List.ext_getElem
 ·rw[qBJ,e,yF,qBJ]
 ·intro i h1 h2
  have hi:i<nW l.length:=by rw[qBJ,e]at h1;exact h1
  rw[List.getElem_set]
  simp only[qBH,qBG,e,List.getElem_map,List.getElem_range]
  split
  ·rename_i hs
   subst hs
   have hd:(l++[b]).drop (57*(l.length/57))=l.drop (57*(l.length/57))++[b]:=List.drop_append_of_le_length (by omega)
   have hn:(l.drop (57*(l.length/57))).length=l.length%57:=by rw[List.length_drop];omega
   rw[hd,zY (by rw[zU,hn];simp;omega),qBE,hn]
   rw[zK,zS,List.getElem?_range (by omega)]
   simp only[Option.map_some,Option.getD_some]
   rw[zY (by rw[hn];omega)]
  ·rename_i hs
   have h3:57*i+57<=l.length:=by omega
   rw[List.drop_append_of_le_length (by omega),List.take_append_of_le_length (by rw[List.length_drop];omega)]
def unW(l:List Nat):List Bool:=l.flatMap fun w=>qBu w 57
theorem qBO: ∀l:List Nat,(unW l).length=57*l.length
 |[]=>rfl
 | w :: l => by
   show(qBu w 57++unW l).length=_
   rw[zU,qBv,qBO l,zV];omega
theorem qBR(l:List Nat)(j:Nat):(unW l).getD j false=(l.getD (j/57) 0).testBit (j%57):=by
 induction l generalizing j with
 |nil=>simp[unW]
 |cons w l ih=>
   show(qBu w 57++unW l).getD j false=_
   by_cases h:j<57
   ·rw[zK,yA (by rw[qBv];exact h)]
    rw[Nat.div_eq_of_lt h,Nat.mod_eq_of_lt h]
    simp[qBu,h]
   ·rw[zK,yB (by rw[qBv];omega),qBv,<- zK,ih (j-57)]
    have e1:j/57=(j-57)/57+1:=by omega
    have e2:(j-57)%57=j%57:=by omega
    rw[e1,e2,List.getD_cons_succ]
theorem qBT(l:List Bool)(j:Nat):(unW (qBH l)).getD j false=l.getD j false:=by
 rw[qBR]
 by_cases h:j/57<nW l.length
 ·rw [show (qBH l).getD (j / 57) 0 = valB ((l.drop (57 * (j / 57))).take 57) from by
   simp[qBH,qBG,zK,h]]
  rw[qBA,zK,List.getElem?_take,if_pos (Nat.mod_lt _ (by decide)),List.getElem?_drop,zK]
  congr 2
  omega
 ·have h1 : (qBH l).getD (j / 57) 0 = 0 := by
   rw[zK,List.getElem?_eq_none (by rw[qBJ];omega)];rfl
  have h2:l.length<=j:=by simp only[nW]at h;omega
  rw[h1,Nat.zero_testBit,zK,List.getElem?_eq_none h2];rfl
end Go.Ham
namespace Go.Ham
structure Fld where
 x:Nat
 kind:Nat
 i:Nat
 n:Nat
 deriving DecidableEq,Inhabited
def qBU(fs:List Fld)(c:Nat->Nat->Nat)(x:Nat):List Bool:=fs.flatMap fun f=>if f.x=x then qBu (c f.kind f.i) f.n else[]
def qBV:List Fld->Nat->Nat
 |[],_=>0
 |f::r,x=>(if f.x=x then f.n else 0)+qBV r x
theorem qBW(c:Nat->Nat->Nat)(x:Nat): ∀fs,(qBU fs c x).length=qBV fs x
 |[]=>rfl
 | f :: r => by
   show((if f.x=x then qBu (c f.kind f.i) f.n else[])++qBU r c x).length=_
   rw[zU,qBW c x r,qBV]
   split<;>simp[qBv]
theorem qBX(fs gs:List Fld)(c:Nat->Nat->Nat)(x:Nat):qBU (fs++gs) c x=qBU fs c x++qBU gs c x:=by simp[qBU]
theorem qBY(f:Fld)(r:List Fld)(c:Nat->Nat->Nat)(x:Nat):qBU (f::r) c x=(if f.x=x then qBu (c f.kind f.i) f.n else[])++qBU r c x:=rfl
theorem qBZ: ∀(fs gs:List Fld) (x:Nat),qBV (fs++gs) x=qBV fs x+qBV gs x
 |[],gs,x=>by simp[qBV]
 |f::r,gs,x=>by simp only[List.cons_append,qBV,qBZ r gs x];omega
def dropS(S:Nat->List Bool)(f:Fld):Nat->List Bool:=fun x=>if x=f.x then(S x).drop f.n else S x
def qC0:List Fld->(Nat->List Bool)->List (Fld×Nat)
 |[],_=>[]
 |f::r,S=>(f,valB ((S f.x).take f.n))::qC0 r (dropS S f)
theorem qC1: ∀(fs:List Fld) (S:Nat->List Bool),(qC0 fs S).map (·.1)=fs
 |[],_=>rfl
 |f::r,S=>by simp[qC0,qC1 r]
theorem qC2: ∀(fs gs:List Fld) (S:Nat->List Bool),qC0 (fs++gs) S=qC0 fs S++qC0 gs (fun x=>(S x).drop (qBV fs x))
 |[],gs,S=>by simp[qC0,qBV]
 | f :: r, gs, S => by
   simp only[List.cons_append,qC0,qC2 r gs]
   congr 3
   funext x
   simp only[dropS,qBV]
   by_cases e:x=f.x
   ·subst e;simp[List.drop_drop]
   ·have: ¬f.x=x:=fun h=>e h.symm
    simp[e,this]
theorem qC3(c:Nat->Nat->Nat): ∀(fs:List Fld) (S:Nat->List Bool),(∀f∈fs,c f.kind f.i<2^f.n)->(∀x,(S x).take (qBV fs x)=qBU fs c x)->qC0 fs S=fs.map fun f=>(f,c f.kind f.i)
 |[],_,_,_=>rfl
 | f :: r, S, hc, hS => by
   have h1:=hS f.x
   rw[qBY,if_pos rfl,qBV,if_pos rfl]at h1
   have hl:=qBv (c f.kind f.i) f.n
   have h2:(S f.x).take f.n=qBu (c f.kind f.i) f.n:=by
    have:=congrArg (List.take f.n) h1
    rw[List.take_take,Nat.min_eq_left (by omega),List.take_append_of_le_length (by omega)]at this
    rw[this,zY (by omega)]
   rw[qC0,h2,qBz _ _ (hc f zX),zW]
   congr 1
   refine qC3 c r _ (fun g hg=>hc g (zT _ hg)) fun x=> ?_
   have h3:=hS x
   rw[qBY,qBV]at h3
   unfold dropS
   by_cases e:x=f.x
   ·subst e
    rw[if_pos rfl,if_pos rfl]at h3
    have:=congrArg (List.drop f.n) h3
    rw[List.drop_take,Nat.add_sub_cancel_left,List.drop_append_of_le_length (by omega),List.drop_of_length_le (l:=qBu _ _) (by omega),List.nil_append]at this
    rw[if_pos rfl];exact this
   ·have e2: ¬f.x=x:=fun h=>e h.symm
    rw[if_neg e2,if_neg e2,Nat.zero_add,List.nil_append]at h3
    rw[if_neg e];exact h3
def qC8(fs:List Fld)(c:Nat->Nat->Nat)(x:Nat):List Nat:=qBH (qBU fs c x)
def rowB(fs:List Fld)(c:Nat->Nat->Nat)(x:Nat):List Nat:=(qC8 fs c x).map encW
theorem qC9(fs:List Fld)(c:Nat->Nat->Nat)(x:Nat):(qC8 fs c x).length=nW (qBV fs x):=by rw[qC8,qBJ,qBW]
def qCa(l:List Nat)(n:Nat):Prop:= ∀j,n<=j->(unW l).getD j false=false
theorem qCb(fs:List Fld)(c:Nat->Nat->Nat)(x:Nat):qCa (qC8 fs c x) (qBV fs x):=fun j hj=>by
 rw[qC8,qBT,zK,List.getElem?_eq_none (by rw[qBW];exact hj)];rfl
theorem qCc(fs:List Fld)(c:Nat->Nat->Nat)(x:Nat):(unW (qC8 fs c x)).take (qBV fs x)=qBU fs c x:=by
 have hl:=qBW c x fs
 have h2:qBV fs x<=(unW (qC8 fs c x)).length:=by rw[qBO,qC9];simp only[nW];omega
 apply List.ext_getElem
 ·rw[List.length_take,hl];omega
 ·intro i h1 h3
  have:=qBT (qBU fs c x) i
  rw[List.getElem_take]
  rw[zK,zK,zL h3,zL (show i<(unW (qBH (qBU fs c x))).length from by rw[hl]at h3;exact Nat.lt_of_lt_of_le h3 h2)]at this
  simp only[Option.getD_some]at this
  exact this
end Go.Ham
namespace Go.Proofs.YtecoaapkcnhlhaaGreatDoor
open Go Go.Vc Go.Ham
theorem qCf(n:Nat)(h:n<2^64):n<2^Go.Lib.bitLen n:=by
 by_cases h0:n=0
 ·subst h0;exact Nat.two_pow_pos _
 ·exact(Go.Lib.bitLenAux_bounds 64 n h h0).2.2
def wN(g:Grid):Nat:=g.w.toNat
def hN(g:Grid):Nat:=g.h.toNat
def eN(g:Grid):Nat:=(qv1 g).toNat
def cN(g:Grid):Nat:=(qv2 g).toNat
def qCg(g:Grid)(n:Nat):Nat:=Go.Lib.bitLen (qwb g n).length
def qCh(g:Grid)(x a n:Nat):List Fld:=(List.range n).map fun j=>⟨x,0,a+j,qCg g (a+j)⟩
def qCi(x t:Nat):List Fld:=[⟨x,1,t,2⟩,⟨x,2,t,16⟩,⟨x,3,t,8⟩]
def qCj(g:Grid)(x t:Nat):List Fld:=qCh g x (t*eN g) (eN g)++qCi x t
def qCk(g:Grid)(x k:Nat):List Fld:=(List.range k).flatMap fun y=>qCj g x (y*wN g+x)
def qCl(g:Grid)(k:Nat):List Fld:=(List.range k).flatMap fun x=>qCk g x (hN g)
def qCm(g:Grid):List Fld:=qCh g (wN g) (wN g*hN g*eN g) (cN g-wN g*hN g*eN g)
def qCn(g:Grid):List Fld:=qCl g (wN g)++qCm g
structure GN (g:Grid):Prop where
 w:(wN g:Int)=g.w
 h:(hN g:Int)=g.h
 e:(eN g:Int)=qv1 g
 c:(cN g:Int)=qv2 g
 k:g.kind.length=wN g*hN g
 all:((wN g*hN g*eN g:Nat):Int)=allI g
 ce:cN g=wN g*hN g*eN g+(2*g.pads).toNat
 w1:1<=wN g
 h1:1<=hN g
 e1:8<=eN g
 w2:wN g<=64
 h2:hN g<=64
 e2:eN g<=134
theorem GOk.n{g:Grid}(hg:GOk g):GN g:=by
 have h1:=hg.w
 have h2:=hg.h
 have h3:=hg.each
 have h4:=hg.count
 have h5:=hg.pads
 have h6:=hg.kind
 have hw:(wN g:Int)=g.w:=by unfold wN;omega
 have hh:(hN g:Int)=g.h:=by unfold hN;omega
 have he:(eN g:Int)=qv1 g:=by unfold eN;omega
 have hall:((wN g*hN g*eN g:Nat):Int)=allI g:=by rw[Int.natCast_mul,Int.natCast_mul,hw,hh,he];rfl
 have hc:(cN g:Int)=qv2 g:=by unfold cN;omega
 refine⟨hw,hh,he,hc,?_,hall,?_,oM,oM,oM,oM,oM,oM⟩
 ·have:((wN g*hN g:Nat):Int)=g.kind.length:=by rw[Int.natCast_mul,hw,hh,h6]
  omega
 ·have:qv2 g=allI g+2*g.pads:=rfl
  omega
theorem qCo(g:Grid)(x:Nat):qCl g (x+1)=qCl g x++qCk g x (hN g):=by simp[qCl,List.range_succ]
theorem qCp(g:Grid)(x y:Nat):qCk g x (y+1)=qCk g x y++qCj g x (y*wN g+x):=by simp[qCk,List.range_succ]
theorem qCq(g:Grid): ∀ {x z:Nat},x<=z->qCl g x<+:qCl g z:=fun {x z} h=>by
 induction h with
 |refl=>exact List.prefix_rfl
 |step _ ih=>exact ih.trans (by rw[qCo];exact List.prefix_append _ _)
theorem qCr(g:Grid)(x:Nat): ∀ {y z:Nat},y<=z->qCk g x y<+:qCk g x z:=fun {y z} h=>by
 induction h with
 |refl=>exact List.prefix_rfl
 |step _ ih=>exact ih.trans (by rw[qCp];exact List.prefix_append _ _)
theorem qCs{g:Grid}{x y:Nat}(hx:x<wN g)(hy:y<hN g):qCl g x++qCk g x y++qCj g x (y*wN g+x)<+:qCn g:=by
 refine List.IsPrefix.trans ?_ (List.prefix_append _ _)
 refine List.IsPrefix.trans ?_ (qCq g (show x+1<=wN g from hx))
 rw[qCo,List.append_assoc,List.prefix_append_right_inj,<- qCp]
 exact qCr g x hy
theorem qCt(g:Grid)(x a n:Nat):qCh g x a (n+1)=qCh g x a n++[⟨x,0,a+n,qCg g (a+n)⟩]:=by simp[qCh,List.range_succ]
theorem qCu(g:Grid)(x a:Nat): ∀ {k n:Nat},k<=n->qCh g x a k<+:qCh g x a n:=fun {k n} h=>by
 induction h with
 |refl=>exact List.prefix_rfl
 |step _ ih=>exact ih.trans (by rw[qCt];exact List.prefix_append _ _)
end Go.Proofs.YtecoaapkcnhlhaaGreatDoor
namespace Go.Proofs.YtecoaapkcnhlhaaGreatDoor.Txt
open Go Go.Vc
set_option maxRecDepth 100000
def ac58_100:AC:=
 (.seq (.reg [100,11,100,101] [
 xT 102 100,xT 103 101,aO 104 (.mv (.c (.sc .nilFunc)))])
 (.seq (.reg [100,11,102,103] [
 fA 106 2 102,lF 107 1 106,aO 108 (.ari .mul true .i64 (kI 2) (.t 107)),aO 109 (.ari .add true .i64 (kI 6) (.t 108)),aO 105 (.alc [zI]),sT 1 105 109])
 (.seq (.reg [100,11,102,103,105] [
 aO 110 (.mkf 82 [(.t 103),(.t 102),(.t 105)]),mT 104 110])
 .ret)))
def rv58_100:List RV:=[.tmp 104]
theorem ok58_100:qh6 Tryz.prog 100 ac58_100 rv58_100 Tryz.f58=true:=by kernel_rfl

def ac82_200:AC:=
 (.seq (.reg [200,91,200,201,202,203] [
 xT 204 200])
 (.seq (.reg [200,91,201,202,203,204] [
 aO 209 (.mkf 83 [(.t 204),(.t 201),(.t 202)]),mT 205 209])
 (.seq (.seq (.reg [200,91,201,202,203,204,205] [
 fA 210 0 202,lF 211 1 210,mK 212 0])
 (.block 0
 (.lps [200,91,201,202,203,204,205,211,212]
 (.seq (.reg [200,91,201,202,203,204,205,211,212] [
 lS 213 212 211])
 (.seq (.cond (.t 213)
 .skip
 (.exit 0))
 (.seq (.block 1
 (.seq (.reg [200,91,201,202,203,204,205,211,212] [
 mT 214 212,mT 206 214])
 (.seq (.reg [200,91,201,202,203,204,205,206,211,212] [
 fA 215 1 202,lF 216 1 215,mK 217 0])
 (.block 2
 (.lps [200,91,201,202,203,204,205,206,211,212,216,217]
 (.seq (.reg [200,91,201,202,203,204,205,206,211,212,216,217] [
 lS 218 217 216])
 (.seq (.cond (.t 218)
 .skip
 (.exit 2))
 (.seq (.block 3
 (.seq (.reg [200,91,201,202,203,204,205,206,211,212,216,217] [
 mT 219 217,mT 207 219])
 (.seq (.reg [200,91,201,202,203,204,205,206,207,211,212,216,217] [
 mT 220 207,fA 221 0 202,lF 222 1 221,aO 223 (.ari .mul true .i64 (.t 220) (.t 222)),mT 224 206,aO 225 (.ari .add true .i64 (.t 223) (.t 224)),mT 208 225])
 (.seq (.drw [200,91,201,202,203,204,205,206,208,211,212,216,217] [
 eM 226 205,eM 227 206,eM 228 208,eL 229 1 203,eT 230 (.ari .mul true .i64 (.t 228) (.t 229)),eM 231 208,eT 232 (.ari .add true .i64 (.t 231) (kI 1)),eL 233 1 203,eT 234 (.ari .mul true .i64 (.t 232) (.t 233)),eF 235 (.clv (.t 226) [(.t 227),(.t 230),(.t 234)]),eF 236 (.not (.t 235)),eF 237 (.mv (.t 236)),uC 238 237 (.ld false 1 (.t 204)),uC 239 237 (.mv (.t 206)),uC 240 237 (.ld false 1 (.t 201)),uC 241 237 (.nck (.t 240)),uC 242 237 (.fa 1 (.t 241)),uC 243 237 (.ld false 1 (.t 242)),uC 244 237 (.mv (.t 208)),uC 245 237 (.ixs 1 (.t 243) (.t 244)),uC 246 237 (.bld [.sc (.pointer none),zI] [(0,1,(.t 245)),(1,1,(kI 2))]),⟨uA 247 237 (.clv (.t 238) [(.t 239),(.t 246)]),[],[],false⟩,⟨uA 248 237 (.not (.t 247)),[],[],false⟩,eF 249 (uG 237 248),eF 250 (.mv (.t 249)),uC 251 250 (.ld false 1 (.t 204)),uC 252 250 (.mv (.t 206)),uC 253 250 (.ld false 1 (.t 201)),uC 254 250 (.nck (.t 253)),uC 255 250 (.fa 2 (.t 254)),uC 256 250 (.ld false 1 (.t 255)),uC 257 250 (.mv (.t 208)),uC 258 250 (.ixs 1 (.t 256) (.t 257)),uC 259 250 (.bld [.sc (.pointer none),zI] [(0,1,(.t 258)),(1,1,(kI 16))]),⟨uA 260 250 (.clv (.t 251) [(.t 252),(.t 259)]),[],[],false⟩,⟨uA 261 250 (.not (.t 260)),[],[],false⟩,eF 262 (uG 250 261),eF 263 (.mv (.t 262)),uC 264 263 (.ld false 1 (.t 204)),uC 265 263 (.mv (.t 206)),uC 266 263 (.ld false 1 (.t 201)),uC 267 263 (.nck (.t 266)),uC 268 263 (.fa 3 (.t 267)),uC 269 263 (.ld false 1 (.t 268)),uC 270 263 (.mv (.t 208)),uC 271 263 (.ixs 1 (.t 269) (.t 270)),uC 272 263 (.bld [.sc (.pointer none),zI] [(0,1,(.t 271)),(1,1,(kI 8))]),⟨uA 273 263 (.clv (.t 264) [(.t 265),(.t 272)]),[],[],false⟩,⟨uA 274 263 (.not (.t 273)),[],[],false⟩,eF 275 (uG 263 274)])
 (.cut [200,91,201,202,203,204,205,206,211,212,216,217,275] (.cond (.t 275)
 .ret
 .skip))))))
 (.reg [200,91,201,202,203,204,205,206,211,212,216,217] [
 uF 276 217 1,mT 217 276])))))))))
 (.reg [200,91,201,202,203,204,205,211,212] [
 uF 277 212 1,mT 212 277])))))))
 (.drw [200,91,202,203,205] [
 eM 278 205,eA 279 0 202,eL 280 1 279,eA 281 0 202,eL 282 1 281,eA 283 1 202,eL 284 1 283,eT 285 (.ari .mul true .i64 (.t 282) (.t 284)),eL 286 1 203,eT 287 (.ari .mul true .i64 (.t 285) (.t 286)),eT 288 (.ld true 5 (.t 202)),eT 289 (.cal 40 [(.t 288)]),eF 290 (.clv (.t 278) [(.t 280),(.t 287),(.t 289)])]))))
def rv82_200:List RV:=[]
theorem ok82_200:qh6 Tryz.prog 200 ac82_200 rv82_200 Tryz.f82=true:=by kernel_rfl

def ac83_400:AC:=
 (.seq (.reg [400,34,400,401,402,403,404,405] [
 aO 409 (.mv bF)])
 (.seq (.seq (.reg [400,34,400,401,402,403,404,405] [
 mT 411 401,mT 410 411])
 (.block 0
 (.lps [400,34,400,402,403,404,405,410]
 (.seq (.seq (.reg [400,34,400,402,403,404,405,410] [
 mT 412 410,mT 413 402,lS 414 412 413])
 (.cond (.t 414)
 .skip
 (.exit 0)))
 (.seq (.block 1
 (.seq (.drw [400,34,400,402,403,404,405,410] [
 eL 417 1 403,eM 418 400,eL 419 1 404,eT 420 (.nck (.t 419)),eA 421 0 420,eL 422 1 421,eM 423 410,eI 424 1 422 423,eT 425 (.ld true 5 (.t 405)),eM 426 410,eT 427 (.cal 80 [(.t 425),(.t 426)]),eT 428 (.len (.t 427)),eT 429 (.cnv true .u64 (.t 428)),eT 430 (.cal 84 [(.t 429)]),eT 431 (.bld [.sc (.pointer none),zI] [(0,1,(.t 424)),(1,1,(.t 430))]),eF 432 (.clv (.t 417) [(.t 418),(.t 431)]),eF 433 (.not (.t 432))])
 (.cond (.t 433)
 (.seq (.reg [400,34] [
 aO 409 (.mv bF)])
 .ret)
 .skip)))
 (.reg [400,34,400,402,403,404,405,410] [
 mT 415 410,uF 416 415 1,mT 410 416]))))))
 (.seq (.reg [400,34] [
 aO 409 (.mv bT)])
 .ret)))
def rv83_400:List RV:=[.tmp 409]
theorem ok83_400:qh6 Tryz.prog 400 ac83_400 rv83_400 Tryz.f83=true:=by kernel_rfl
end Go.Proofs.YtecoaapkcnhlhaaGreatDoor.Txt
namespace Go.Vc
open Go Go.RowKit
section
variable {K:Nat} {s:List (Nat×PV)}
theorem qCv: ∀ {s:List (Nat×PV)},qtX K s=true-> ∀x∈s,x.1<K:=by
 intro s h
 rw[<- qtY,yE]at h
 exact fun x hx=>by simpa using h x hx
theorem qCw(h:qtX K s=true)(t:List (Nat×PV))(i:Nat)(v:PV)(hi:K<=i):up (s++t) i v=s++up t i v:=by
 have h:=qCv h
 induction s with
 |nil=>rfl
 |cons x r ih=>
   obtain⟨k,u⟩:=x
   have hk:k<K:=h (k,u) zX
   rw[List.cons_append,up,if_neg (by omega),if_neg (by omega),ih (by rw[<- qtY,yE];exact fun y hy=>by simpa using h y (zT _ hy)) fun y hy=>h y (zT _ hy)]
   rfl
theorem qCx(h:qtX K s=true)(i:Nat)(v:PV)(hi:K<=i):up s i v=s++[(i,v)]:=by
 have:=qCw h [] i v hi
 rw[List.append_nil]at this
 rw[this];rfl
theorem qCy(h:qtX K s=true)(t:List (Nat×PV))(i:Nat)(hi:K<=i):getL (s++t) i=getL t i:=by
 have h:=qCv h
 induction s with
 |nil=>rfl
 |cons x r ih=>
   obtain⟨k,u⟩:=x
   have hk:k<K:=h (k,u) zX
   rw[List.cons_append,getL,if_neg (by omega),ih (by rw[<- qtY,yE];exact fun y hy=>by simpa using h y (zT _ hy)) fun y hy=>h y (zT _ hy)]
theorem qCz(h:qtX K s=true)(n:Nat)(r:List Nat)(t:List (Nat×PV)):qhn (K::n::r) (s++t)=s++qhn (K::n::r) t:=by
 have h:=qCv h
 induction s with
 |nil=>rfl
 |cons x q ih=>
   obtain⟨k,u⟩:=x
   have hk:k<K:=h (k,u) zX
   rw[List.cons_append,qhn,if_pos (by simp[inK,hk]),ih (by rw[<- qtY,yE];exact fun y hy=>by simpa using h y (zT _ hy)) fun y hy=>h y (zT _ hy)]
   rfl
theorem qCA(h:qtX K s=true)(t:List (Nat×PV)):lowL K (s++t)=s++lowL K t:=by
 rw[<- qtJ,<- qtJ,List.filter_append]
 congr 1
 rw[List.filter_eq_self]
 exact fun x hx=>by simpa using qCv h x hx
theorem qCB(h:qtX K s=true)(k:Nat)(t:List (Nat×PV))(hk:K<=k):qtX k (s++t)=qtX k t:=by
 rw[<- qtY,<- qtY,List.all_append]
 have:s.all (fun x=>decide (x.1<k))=true:=yE.2 fun x hx=>by have:=qCv h x hx;simp;omega
 rw[this,Bool.true_and]
end
theorem SWk.gc(st:St)(ks:List Nat):SWk st (st.gc ks):=fun _ _ _ _ _ ⟨Z,L,h⟩=>
 ⟨Z,L,h.forget (fun i v hl=> .inl (qa8 _ _ (fun _ _=>rfl) i v hl)) (fun i v hl=>qa8 _ _ (fun _ _=>rfl) i v hl) (fun i v hl=>qa8 _ _ (fun _ _=>rfl) i v hl) (fun i v hl=>qa8 _ _ (fun _ _=>rfl) i v hl)⟩
theorem qCC {ρ : RF} {ps : List Nat} {B : St -> (St -> Prop) -> Prop} {id : Nat} {args : List PV} {s : List (Nat × PV)} {b : List (Nat × List PV)} {a : List (Nat × Arr)} {m : List (Nat × Mp)} {K : St -> Prop} (hid : id = ρ.id) (hl : args.length = ps.length) (ha : qtX ρ.K2 s = true)
  (hb:B ⟨qcQ ps args (qcP ρ.K ρ.K2 s (midL ρ.K ρ.n s) s),b,a,m⟩ fun st2=> ∃st3,SWk (st2.low ρ.K2) st3/\qtX ρ.K2 st3.s=true/\K st3):rngY ρ ps B id args ⟨s,b,a,m⟩ K:=by
 refine⟨hid,hl,by rw[qtY];exact ha,?_⟩
 simp only[qtS,qtY]
 exact hb
theorem qCD{P:Env}{ass body:AC}{st:St}{K K' :St->Prop}(h: ∀st,K st->K' st)(hb:qua P ass body st K):qua P ass body st K' :=by
 unfold qua at hb ⊢
 refine qwu ass ?_ st hb
 intro e st1 h1
 cases e<;>first|exact h1|skip
 exact qwu body (fun e st2 h2=>⟨h2.1,h _ h2.2⟩) st1 h1
theorem qCE(st:St)(k:Nat)(ks:List Nat):((st.low k).gc ks).s.all (fun x=>decide (x.1<k))=true:=by
 rw[yE]
 intro x hx
 have h1:=(List.mem_filter.1 hx).1
 exact(List.mem_filter.1 h1).2
theorem qCF {P : Env} {ass body : AC} {ρ : RF} {ps : List Nat} {id : Nat} {args : List PV} {s : List (Nat × PV)} {b : List (Nat × List PV)} {a : List (Nat × Arr)} {m : List (Nat × Mp)} {K : St -> Prop} (hid : id = ρ.id) (hl : args.length = ps.length) (ha : qtX ρ.K2 s = true)
  (hb:qua P ass body ⟨qcQ ps args (qcP ρ.K ρ.K2 s (midL ρ.K ρ.n s) s),b,a,m⟩ fun st2=>K ((st2.low ρ.K2).gc [0,0])):rngY ρ ps (qua P ass body) id args ⟨s,b,a,m⟩ K:=by
 refine⟨hid,hl,by rw[qtY];exact ha,?_⟩
 simp only[qtS]
 exact qCD (fun st2 h=>⟨_,SWk.gc _ _,qCE _ _ _,h⟩) hb
section
variable (pb pa:Nat->Bool)
@[push_cast] theorem qCG(f i:Nat):PV.to pb pa (.bm f i)=pb i:=rfl
@[push_cast] theorem qCH(f i:Nat):PV.toA pb pa (.bm f i)=pb i:=rfl
@[push_cast] theorem qCI(f i:Nat):PV.toV pb pa (.bm f i)=pb i:=rfl
@[push_cast] theorem qCJ(f i:Nat):PV.killed pb (.bm f i)= .bot:=rfl
@[push_cast] theorem qCK(f i:Nat):PV.killV pb pa (.bm f i)=bif pb i then .bot else .bm f i:=rfl
@[push_cast] theorem qCL(f i:Nat)(r:List PV):qbL (.bm f i::r)=qbL r:=rfl
@[push_cast] theorem qCM(f i:Nat):cellsOf (.bm f i)=[.bm f i]:=rfl
@[push_cast] theorem qCN(f i:Nat):qas (.bm f i)=true:=rfl
@[push_cast] theorem qCO(f i:Nat):qgW (.bm f i)=true:=rfl
@[push_cast] theorem qCP(i:Nat):qas (.yl i)=true:=rfl
end
end Go.Vc
namespace Go.Vc
open Go Go.RowKit
theorem qCQ: ∀ {t:List (Nat×PV)} {k n:Nat},(∀x∈t,k+n<=x.1)->midL k n t=[]
 |[],_,_,_=>rfl
 | (i, v) :: t, k, n, h => by
   have h1:=h (i,v) zX
   rw[qtU,if_neg (by simp only at h1;omega)]
   exact qCQ fun x hx=>h x (zT _ hx)
def qCR:PV->Nat->PV
 | .sl p _ xs,n=> .iptr p (xs.getD n []) 0
 | .view id lo _,n=> .eptr id (lo+n) 0
 |_,_=> .bot
def qCS:PV->Nat
 | .sl _ _ xs=>xs.length
 | .view _ _ n=>n
 |_=>0
def slOk(a:List (Nat×Arr)):PV->Prop
 | .sl _ es _=>es=1
 | .view id _ _=> ∃ty xs,lk a id=some ⟨1,ty,xs⟩
 |_=>False
theorem qCT{a:List (Nat×Arr)}{v:PV}(h:slOk a v){n:Nat}(hn:n<qCS v): ∃C:Prop,C/\ ∀(s:List (Nat×PV)) (b:List (Nat×List PV)) (m:List (Nat×Mp)),ixsV ⟨s,b,a,m⟩ 1 v (.sc (.int .i64 n))=(C,qCR v n):=by
 cases v<;>first|exact h.elim|skip
 ·rename_i p es xs
  have h:es=1:=h
  subst h
  have hn:n<xs.length:=hn
  exact⟨1=1/\0<=(n:Int)/\(n:Int)<xs.length,⟨rfl,by omega,by omega⟩,fun _ _ _=>qm9 _ _ _ _ _ _ _⟩
 ·rename_i id lo l
  obtain⟨ty,xs,h⟩:=h
  have hn:n<l:=hn
  exact⟨1=1/\0<=(n:Int)/\(n:Int)<l,⟨rfl,by omega,by omega⟩,fun _ _ _=>by rw[qm8,h,qm7];rfl⟩
theorem qCU{a:List (Nat×Arr)}{v:PV}(h:slOk a v)(n:Nat):qas (qCR v n)=true/\cellsOf (qCR v n)=[qCR v n]:=by
 cases v<;>first|exact h.elim|exact⟨rfl,rfl⟩
end Go.Vc
namespace Go.Vc
open Go Go.RowKit
theorem SWk.drop{s:List (Nat×PV)}{b:List (Nat×List PV)}{a:List (Nat×Arr)}{m:List (Nat×Mp)}(pb pa:Nat->Bool):SWk ⟨s,b,a,m⟩ ⟨s,b.filter (fun x=>pb x.1),a.filter (fun x=>pa x.1),m⟩:=fun _ _ _ _ _ ⟨Z,L,h⟩=>
 ⟨Z,L,h.forget (fun _ _ hl=> .inl hl) (fun i v hl=>qa8 _ _ (fun _ _=>rfl) i v hl) (fun i v hl=>qa8 _ _ (fun _ _=>rfl) i v hl) (fun _ _ hl=>hl)⟩
def farL(j:Nat):List (Nat×PV)->Prop
 |[]=>True
 |(_,v)::r=>(v.toV (isId j) nul=false/\v.toV nul (isId j)=false)/\farL j r
@[push_cast] theorem qCV(j:Nat):farL j []=True:=rfl
@[push_cast] theorem qCW(j i:Nat)(v:PV)(r:List (Nat×PV)):farL j ((i,v)::r)=((v.toV (isId j) nul=false/\v.toV nul (isId j)=false)/\farL j r):=rfl
theorem qCX(j:Nat): ∀(s t:List (Nat×PV)),farL j (s++t)=(farL j s/\farL j t)
 |[],t=>by simp[farL]
 |(i,v)::r,t=>by simp only[List.cons_append,qCW,qCX j r t,and_assoc]
theorem qCY{j:Nat} : ∀ {s:List (Nat×PV)},farL j s->qiE (isId j) nul s=s
 |[],_=>rfl
 |(i,v)::r,h=>by rw[qiJ,h.1.1,qCY h.2];rfl
theorem qCZ{j:Nat} : ∀ {s:List (Nat×PV)},farL j s->qiE nul (isId j) s=s
 |[],_=>rfl
 |(i,v)::r,h=>by rw[qiJ,h.1.2,qCZ h.2];rfl
theorem qD0(pb pa:Nat->Bool)(v:PV)(n:Nat):(qCR v n).toV pb pa=(qCR v n).to pb pa:=by
 cases v<;>rfl
theorem qD1(pb pa:Nat->Bool)(s t:List (Nat×PV)):qiE pb pa (s++t)=qiE pb pa s++qiE pb pa t:=by
 rw[<- qjd,<- qjd,<- qjd,yH]
end Go.Vc
namespace Go.Proofs.YtecoaapkcnhlhaaGreatDoor
open Go Go.Vc Txt
set_option maxHeartbeats 2000000 in
theorem qD2 {E : Env} (hE : E.p = Tryz.prog) (hkk : E.kk <= 400) (hpn : ∀ ch st, ¬ E.pan ch st) {s : List (Nat × PV)} (hs : qtX 400 s = true) (g : Grid) (hg : GOk g) (iy ic ig cf : Nat) (v0 v1 v2 v3 : PV) (x frm n e : Nat) (he : e = frm + n)
  (B:Nat->List (Nat×List PV)) (A:Nat->List (Nat×Arr)) (m:List (Nat×Mp))
  (hB: ∀k,k<=n->lk (B k) iy=some [.yl 999]/\lk (B k) ic=some [.ptr cf 0]/\lk (B k) ig=some (quX false g)/\lk (B k) cf=some [v0,v1,v2,v3])
  (hv: ∀k,k<=n->slOk (A k) v0) (hl:frm+n<=qCS v0) (hb:frm+n<=1000000)
  (hf:iy<1000/\ic<1000/\ig<1000/\cf<1000) (hvv: ∀j,1000<=j->v0.toV (isId j) nul=false/\v0.toV nul (isId j)=false) (hv0: ∀n j,1000<=j->(qCR v0 n).to (isId j) nul=false/\(qCR v0 n).to nul (isId j)=false)
  (hY: ∀k,k<n-> ∀t:List (Nat×PV),qtX 1000 t=true->(∀x∈t,400<=x.1)->(∀j,1000<=j->farL j t)->E.Y 999 [.int x,.agg [qCR v0 (frm+k),.int (qCg g (frm+k):Nat)]] ⟨s++t,B k,A k,m⟩ (fun st' =>st' =⟨s++t,B (k+1),A (k+1),m⟩)):
  FnM E 83 [.int x,.int frm,.int e,.ptr iy 0,.ptr ic 0,.ptr ig 0] ⟨s,B 0,A 0,m⟩ (fun r st' =>r= .bool true/\st' =⟨s,B n,A n,m⟩):=by
 refine quf 400 (by rw[hE];exact Tryz.func83) (by rw[hE];exact ok83_400) (by show 6<=_;decide) hs hkk ?_ hpn
 simp only[ac83_400,rv83_400,qCx hs,qCw hs,qCy hs,qCz hs,qCA hs,push_cast,reduceIte,zA,zB,zC,zD,zE,zF,zG,reduceCtorEq,zH,zJ,cNI]
 refine qoO (fun j st=> ∃k p:Nat,k<=n/\p=frm+k/\j=n-k/\st=⟨s++[(400,.int x),(402,.int e),(403,.ptr iy 0),(404,.ptr ic 0),(405,.ptr ig 0),(410,.int p)],B k,A k,m⟩) n ⟨_,SWk.refl _,0,frm,oM,oM,oM,?_⟩ ?_
 ·simp only[qCw hs,qCy hs,qCz hs,push_cast,reduceIte,zA,zB,zC,zD,zE,zF,zG,reduceCtorEq,zH,zJ,cNI]
 rintro j st ⟨k,p,hk,hp,rfl,rfl⟩
 obtain⟨b1,b2,b3,b4⟩:=hB k hk
 simp only[qCx hs,qCw hs,qCy hs,qCz hs,qCA hs,b1,b2,b3,b4,push_cast,reduceIte,zA,zB,zC,zD,zE,zF,zG,reduceCtorEq,zH,zJ,cNI]
 refine qnY (fun h=> ?_) fun h=> ?_
 ·obtain⟨C,hC,hix⟩:=qCT (hv k hk) (n:=p) oM
  obtain⟨p1,p2⟩:=qCU (hv k hk) p
  have hdl:=qxu g hg p
  simp only[hix,qCx hs,qCw hs,qCy hs,qCz hs,qCA hs,b1,b2,b3,b4,push_cast,reduceIte,zA,zB,zC,zD,zE,zF,zG,reduceCtorEq,zH,zJ,cNI]
  refine⟨hC,?_⟩
  refine qrx (by rw[hE];exact qwf g hg p oM) sC rfl ?_
  simp only[p1,p2,qCx hs,qCw hs,qCy hs,qCz hs,qCA hs,push_cast,reduceIte,zA,zB,zC,zD,zE,zF,zG,reduceCtorEq,zH,zJ,cNI]
  refine⟨⟨oM,oM⟩,?_⟩
  refine qrx (by rw[hE];exact qBi (qwb g p).length oM) sC rfl ?_
  simp only[p1,p2,qCx hs,qCw hs,qCy hs,qCz hs,qCA hs,push_cast,reduceIte,zA,zB,zC,zD,zE,zF,zG,reduceCtorEq,zH,zJ,cNI]
  have hYk:=hY k oM
  rw[<- hp]at hYk
  refine⟨_,hYk _ sC (by simp) (fun j hj=> ?_),?_⟩
  ·obtain⟨f1,f2,f3,f4⟩:=hf
   have n1:(iy==j)=false:=beq_false_of_ne oM
   have n2:(ic==j)=false:=beq_false_of_ne oM
   have n3:(ig==j)=false:=beq_false_of_ne oM
   have n4:(cf==j)=false:=beq_false_of_ne oM
   have n5:(999==j)=false:=beq_false_of_ne oM
   obtain⟨q1,q2⟩:=hvv j hj
   obtain⟨q3,q4⟩:=hv0 p j hj
   simp only[n1,n2,n3,n4,n5,q1,q2,q3,q4,qD0,push_cast,reduceIte,zA,zB,zC,zD,zE,zF,zG,reduceCtorEq,zH,zJ,cNI]
  rintro _ rfl
  obtain⟨c1,c2,c3,c4⟩:=hB (k+1) oM
  simp only[qCx hs,qCw hs,qCy hs,qCz hs,qCA hs,push_cast,reduceIte,zA,zB,zC,zD,zE,zF,zG,reduceCtorEq,zH,zJ,cNI]
  exact⟨⟨oM,oM⟩,_,SWk.refl _,n-(k+1),oM,k+1,p+1,oM,oM,rfl,rfl⟩
 ·obtain rfl:k=n:=by omega
  rfl
end Go.Proofs.YtecoaapkcnhlhaaGreatDoor
namespace Go.Proofs.YtecoaapkcnhlhaaGreatDoor
open Go Go.Vc Go.Ham
structure FIn (g:Grid) (f:Fld):Prop where
 x:f.x<=wN g
 key:(f.kind=0/\f.i<cN g/\f.n=qCg g f.i)\/(f.kind=1/\f.i<g.kind.length/\f.n=2)\/(f.kind=2/\f.i<g.kind.length/\f.n=16)\/(f.kind=3/\f.i<g.kind.length/\f.n=8)
theorem qD3{w h x y:Nat}(hx:x<w)(hy:y<h):y*w+x<w*h:=by
 have:(y+1)*w<=h*w:=Nat.mul_le_mul_right _ oM
 rw[Nat.add_mul,Nat.one_mul]at this
 rw[Nat.mul_comm w h];omega
theorem qD4{e t j n:Nat}(ht:t<n)(hj:j<e):t*e+j<n*e:=by
 have:(t+1)*e<=n*e:=Nat.mul_le_mul_right _ oM
 rw[Nat.add_mul,Nat.one_mul]at this
 omega
theorem qD5{g:Grid}(hg:GOk g){f:Fld}(h:f∈qCn g):FIn g f:=by
 have hn:=hg.n
 rcases yC.1 h with h|h
 ·simp only[qCl,qCk,List.mem_flatMap,List.mem_range]at h
  obtain⟨x,hx,y,hy,h⟩:=h
  have ht:=qD3 hx hy
  rcases yC.1 h with h|h
  ·simp only[qCh,List.mem_map,List.mem_range]at h
   obtain⟨j,hj,rfl⟩:=h
   have:=qD4 (e:=eN g) ht hj
   have:=hn.ce
   exact⟨by show x<=_;omega,.inl ⟨rfl,by show(y*wN g+x)*eN g+j<cN g;omega,rfl⟩⟩
  ·have hk:=hn.k
   simp only[qCi,List.mem_cons,List.not_mem_nil,or_false]at h
   rcases h with rfl|rfl|rfl
   ·exact⟨by show x<=_;omega,.inr (.inl ⟨rfl,by show y*wN g+x<g.kind.length;omega,rfl⟩)⟩
   ·exact⟨by show x<=_;omega,.inr (.inr (.inl ⟨rfl,by show y*wN g+x<g.kind.length;omega,rfl⟩))⟩
   ·exact⟨by show x<=_;omega,.inr (.inr (.inr ⟨rfl,by show y*wN g+x<g.kind.length;omega,rfl⟩))⟩
 ·simp only[qCm,qCh,List.mem_map,List.mem_range]at h
  obtain⟨j,hj,rfl⟩:=h
  exact⟨Nat.le_refl _,.inl ⟨rfl,by show wN g*hN g*eN g+j<cN g;omega,rfl⟩⟩
theorem qD6{g:Grid}(hg:GOk g){n:Nat}(h:n<cN g): ∃f∈qCn g,f.kind=0/\f.i=n/\f.x=(if n<wN g*hN g*eN g then n/eN g%wN g else wN g):=by
 have hn:=hg.n
 by_cases h2:n<wN g*hN g*eN g
 ·have he:=hn.e1
  have hw:=hn.w1
  have ht:n/eN g<wN g*hN g:=(Nat.div_lt_iff_lt_mul oM).2 h2
  have hy:n/eN g/wN g<hN g:=(Nat.div_lt_iff_lt_mul oM).2 (by rw[Nat.mul_comm];exact ht)
  have hd:n/eN g/wN g*wN g+n/eN g%wN g=n/eN g:=by rw[Nat.mul_comm];exact Nat.div_add_mod _ _
  have hd2:n/eN g*eN g+n%eN g=n:=by rw[Nat.mul_comm];exact Nat.div_add_mod _ _
  refine⟨⟨n/eN g%wN g,0,n,qCg g n⟩,List.mem_append_left _ ?_,rfl,rfl,by rw[if_pos h2]⟩
  simp only[qCl,qCk,List.mem_flatMap,List.mem_range]
  refine⟨n/eN g%wN g,Nat.mod_lt _ oM,n/eN g/wN g,hy,List.mem_append_left _ ?_⟩
  simp only[qCh,List.mem_map,List.mem_range]
  refine⟨n%eN g,Nat.mod_lt _ oM,?_⟩
  rw[hd,hd2]
 ·refine⟨⟨wN g,0,n,qCg g n⟩,List.mem_append_right _ ?_,rfl,rfl,by rw[if_neg h2]⟩
  simp only[qCm,qCh,List.mem_map,List.mem_range]
  refine⟨n-wN g*hN g*eN g,oM,?_⟩
  rw[show wN g*hN g*eN g+(n-wN g*hN g*eN g)=n from by omega]
theorem qD7{g:Grid}(hg:GOk g){t:Nat}(h:t<g.kind.length){k:Nat}(hk:k=1\/k=2\/k=3): ∃f∈qCn g,f.kind=k/\f.i=t/\f.x=t%wN g:=by
 have hn:=hg.n
 have hw:=hn.w1
 rw[hn.k]at h
 have hy:t/wN g<hN g:=(Nat.div_lt_iff_lt_mul oM).2 (by rw[Nat.mul_comm];exact h)
 have hd:t/wN g*wN g+t%wN g=t:=by rw[Nat.mul_comm];exact Nat.div_add_mod _ _
 have key: ∀f,f∈qCi (t%wN g) t->f∈qCn g:=fun f hf=>by
  refine List.mem_append_left _ ?_
  simp only[qCl,qCk,List.mem_flatMap,List.mem_range]
  exact⟨t%wN g,Nat.mod_lt _ oM,t/wN g,hy,List.mem_append_right _ (by rw[hd];exact hf)⟩
 rcases hk with rfl|rfl|rfl
 ·exact⟨_,key ⟨t%wN g,1,t,2⟩ (by simp[qCi]),rfl,rfl,rfl⟩
 ·exact⟨_,key ⟨t%wN g,2,t,16⟩ (by simp[qCi]),rfl,rfl,rfl⟩
 ·exact⟨_,key ⟨t%wN g,3,t,8⟩ (by simp[qCi]),rfl,rfl,rfl⟩
def fkey(f:Fld):Nat×Nat:=(f.kind,f.i)
theorem qD8{α:Type}(n:Nat)(f:Nat->α)(h: ∀i j,i<n->j<n->f i=f j->i=j):((List.range n).map f).Nodup:=by
 rw[List.Nodup,List.pairwise_map]
 refine List.Pairwise.imp_of_mem ?_ (List.nodup_range (n:=n))
 intro a b ha hb hab e
 exact hab (h a b (List.mem_range.1 ha) (List.mem_range.1 hb) e)
theorem qD9{α:Type}(n:Nat)(f:Nat->List α)(h1: ∀i,i<n->(f i).Nodup)(h2: ∀i j x,i<n->j<n->x∈f i->x∈f j->i=j):((List.range n).flatMap f).Nodup:=by
 induction n with
 |zero=>simp
 |succ n ih=>
   rw[List.range_succ,List.flatMap_append,List.nodup_append]
   refine⟨ih (fun i hi=>h1 i oM) fun i j x hi hj=>h2 i j x oM oM,by simpa using h1 n oM,?_⟩
   intro a ha b hb e
   subst e
   simp only[List.mem_flatMap,List.mem_range,List.mem_singleton]at ha hb
   obtain⟨i,hi,ha⟩:=ha
   obtain⟨j,rfl,hb⟩:=hb
   have:=h2 i j a oM oM ha hb
   omega
theorem qDa{g:Grid}(hg:GOk g):((qCn g).map fkey).Nodup:=by
 have hn:=hg.n
 have hw:=hn.w1
 have he:=hn.e1
 have hdiv: ∀t j,j<eN g->(t*eN g+j)/eN g=t:=fun t j hj=>by rw[Nat.mul_comm,Nat.mul_add_div oM,Nat.div_eq_of_lt hj];omega
 have hmod: ∀y x,x<wN g->(y*wN g+x)%wN g=x/\(y*wN g+x)/wN g=y:=fun y x hx=>by
  rw[Nat.mul_comm];exact⟨by rw[Nat.mul_add_mod,Nat.mod_eq_of_lt hx],by rw[Nat.mul_add_div oM,Nat.div_eq_of_lt hx];omega⟩
 have inT: ∀x t k,k∈(qCj g x t).map fkey->(k.1=0/\ ∃j,j<eN g/\k.2=t*eN g+j)\/((k.1=1\/k.1=2\/k.1=3)/\k.2=t):=fun x t k hk=>by
  simp only[qCj,yH,yC,qCh,List.map_map,List.mem_map,List.mem_range,Function.comp,fkey]at hk
  rcases hk with⟨j,hj,rfl⟩|⟨f,hf,rfl⟩
  ·exact .inl ⟨rfl,j,hj,rfl⟩
  ·simp only[qCi,List.mem_cons,List.not_mem_nil,or_false]at hf
   rcases hf with rfl|rfl|rfl
   ·exact .inr ⟨.inl rfl,rfl⟩
   ·exact .inr ⟨.inr (.inl rfl),rfl⟩
   ·exact .inr ⟨.inr (.inr rfl),rfl⟩
 have sameT: ∀x t x' t' k,k∈(qCj g x t).map fkey->k∈(qCj g x' t').map fkey->t=t' :=fun x t x' t' k h1 h2=>by
  rcases inT x t k h1 with⟨a,j,hj,b⟩|⟨a,b⟩<;>rcases inT x' t' k h2 with⟨a',j',hj',b'⟩|⟨a',b'⟩
  ·have e1:=hdiv t j hj
   have e2:=hdiv t' j' hj'
   rw[<- b]at e1;rw[<- b']at e2
   omega
  ·omega
  ·omega
  ·omega
 have ndT: ∀x t,((qCj g x t).map fkey).Nodup:=fun x t=>by
  rw[qCj,yH,List.nodup_append]
  refine⟨?_,?_,?_⟩
  ·rw[qCh,List.map_map]
   refine qD8 _ _ fun i j _ _ e=> ?_
   simp only[Function.comp,fkey,Prod.mk.injEq]at e
   omega
  ·simp[qCi,fkey]
  ·intro a ha b hb e
   subst e
   simp only[qCh,List.map_map,List.mem_map,Function.comp,fkey]at ha
   obtain⟨j,_,rfl⟩:=ha
   simp[qCi,fkey]at hb
 rw[qCn,yH,List.nodup_append]
 refine⟨?_,?_,?_⟩
 ·rw[qCl,List.map_flatMap]
  refine qD9 _ _ (fun x hx=> ?_) fun i j k hi hj h1 h2=> ?_
  ·rw[qCk,List.map_flatMap]
   refine qD9 _ _ (fun y _=>ndT _ _) fun y y' k _ _ h1 h2=> ?_
   have:=sameT _ _ _ _ k h1 h2
   have e1:=(hmod y x hx).2
   have e2:=(hmod y' x hx).2
   rw[this]at e1;omega
  ·simp only[qCk,List.map_flatMap,List.mem_flatMap,List.mem_range]at h1 h2
   obtain⟨y,_,h1⟩:=h1
   obtain⟨y',_,h2⟩:=h2
   have:=sameT _ _ _ _ k h1 h2
   have e1:=(hmod y i hi).1
   have e2:=(hmod y' j hj).1
   rw[this]at e1;omega
 ·rw[qCm,qCh,List.map_map]
  refine qD8 _ _ fun i j _ _ e=> ?_
  simp only[Function.comp,fkey,Prod.mk.injEq]at e
  omega
 ·intro a ha b hb e
  subst e
  simp only[qCm,qCh,List.map_map,List.mem_map,List.mem_range,Function.comp,fkey]at hb
  obtain⟨j,hj,rfl⟩:=hb
  simp only[qCl,qCk,List.map_flatMap,List.mem_flatMap,List.mem_range]at ha
  obtain⟨x,hx,y,hy,ha⟩:=ha
  rcases inT _ _ _ ha with⟨_,j',hj',b⟩|⟨b,_⟩
  ·have:=qD4 (e:=eN g) (qD3 hx hy) hj'
   simp only at b
   omega
  ·simp at b
end Go.Proofs.YtecoaapkcnhlhaaGreatDoor
namespace Go.Proofs.YtecoaapkcnhlhaaGreatDoor
open Go Go.Vc Go.Ham Txt
def cfK(v0 v1 v2 v3:PV):Nat->PV
 |0=>v0
 |1=>v1
 |2=>v2
 |_=>v3
def farV(v:PV):Prop:=(∀j,1000<=j->v.toV (isId j) nul=false/\v.toV nul (isId j)=false)/\ ∀n j,1000<=j->(qCR v n).to (isId j) nul=false/\(qCR v n).to nul (isId j)=false
theorem qDb{k:Nat}{t:List (Nat×PV)}(h:(t.all fun x=>Nat.ble k x.1)=true): ∀x∈t,k<=x.1:=fun x hx=>Nat.le_of_ble_eq_true (yE.1 h x hx)
theorem qDc(g:Grid){pre:List Fld}(h:pre<+:qCm g):qCl g (wN g)++pre<+:qCn g:=by
 rw[qCn,List.prefix_append_right_inj]
 exact h
set_option maxHeartbeats 4000000 in
theorem qDd {E : Env} (hE : E.p = Tryz.prog) (hkk : E.kk <= 200) (hpn : ∀ ch st, ¬ E.pan ch st) {s : List (Nat × PV)} (hs : qtX 200 s = true) (g : Grid) (hg : GOk g) (ic ig ie cf : Nat) (v0 v1 v2 v3 : PV)
  (b0:List (Nat×List PV)) (B:List Fld->List (Nat×List PV)) (A:List Fld->List (Nat×Arr))
  (hc1:(ic==204)=false) (hc2:(ig==204)=false) (hc3:(ie==204)=false) (hks:qiE (isId 204) nul s=s) (h0:up (qiF (isId 204) nul b0) 204 [.yl 999]=B [])
  (hB: ∀pre,pre<+:qCn g->lk (B pre) 204=some [.yl 999]/\lk (B pre) ic=some [.ptr cf 0]/\lk (B pre) ig=some (quX false g)/\lk (B pre) ie=some [.int (qv1 g)]/\lk (B pre) cf=some [v0,v1,v2,v3])
  (hA: ∀pre,pre<+:qCn g->slOk (A pre) v0/\slOk (A pre) v1/\slOk (A pre) v2/\slOk (A pre) v3)
  (hl:qCS v0=cN g/\qCS v1=wN g*hN g/\qCS v2=wN g*hN g/\qCS v3=wN g*hN g)
  (hf:ic<1000/\ig<1000/\ie<1000/\cf<1000) (hfv:farV v0/\farV v1/\farV v2/\farV v3)
  (hY: ∀pre f,pre++[f]<+:qCn g-> ∀t:List (Nat×PV),qtX 1000 t=true->(∀x∈t,200<=x.1)->(∀j,1000<=j->farL j t)->E.Y 999 [.int f.x,.agg [qCR (cfK v0 v1 v2 v3 f.kind) f.i,.int f.n]] ⟨s++t,B pre,A pre,[]⟩ (fun st' =>st' =⟨s++t,B (pre++[f]),A (pre++[f]),[]⟩)):
  FnM E 82 [.yl 999,.ptr ic 0,.ptr ig 0,.ptr ie 0] ⟨s,b0,A [],[]⟩ (fun _ st' =>st' =⟨s,B (qCn g),A (qCn g),[]⟩):=by
 have hn:=hg.n
 have hfar: ∀j,1000<=j->(204==j)=false/\(999==j)=false/\(ic==j)=false/\(ig==j)=false/\(ie==j)=false/\(cf==j)=false:=by
  obtain⟨f1,f2,f3,f4⟩:=hf
  exact fun j hj=>⟨beq_false_of_ne oM,beq_false_of_ne oM,beq_false_of_ne oM,beq_false_of_ne oM,beq_false_of_ne oM,beq_false_of_ne oM⟩
 obtain⟨fv0,fv1,fv2,fv3⟩:=hfv
 have hk2: ∀t,qiE (isId 204) nul (s++t)=s++qiE (isId 204) nul t:=fun t=>by rw[qD1,hks]
 refine quf 200 (by rw[hE];exact Tryz.func82) (by rw[hE];exact ok82_200) (by show 4<=_;decide) hs hkk ?_ hpn
 simp only[ac82_200,rv82_200,qCx hs,qCw hs,qCy hs,qCz hs,qCA hs,hk2,h0,hc1,hc2,hc3,push_cast,reduceIte,zA,zB,zC,zD,zE,zF,zG,reduceCtorEq,zH,zJ,cNI]
 obtain⟨b0,b1,b2,b3,b4⟩:=hB [] List.nil_prefix
 simp only[qCx hs,qCw hs,qCy hs,qCz hs,qCA hs,b0,b1,b2,b3,b4,push_cast,reduceIte,zA,zB,zC,zD,zE,zF,zG,reduceCtorEq,zH,zJ,cNI]
 refine qoO (fun j st=> ∃x:Nat,x<=wN g/\j=wN g-x/\st=⟨s++[(201,.ptr ic 0),(202,.ptr ig 0),(203,.ptr ie 0),(204,.ptr 204 0),(205,.clo 83 [204,ic,ig]),(211,.int (wN g)),(212,.int x)],B (qCl g x),A (qCl g x),[]⟩) (wN g) ⟨_,SWk.refl _,0,oM,oM,?_⟩ ?_
 ·simp only[qCw hs,qCy hs,qCz hs,hn.w,push_cast,reduceIte,zA,zB,zC,zD,zE,zF,zG,reduceCtorEq,zH,zJ,cNI]
  rfl
 rintro j st ⟨x,hx,rfl,rfl⟩
 simp only[qCx hs,qCw hs,qCy hs,qCz hs,qCA hs,push_cast,reduceIte,zA,zB,zC,zD,zE,zF,zG,reduceCtorEq,zH,zJ,cNI]
 refine qnY (fun h=> ?_) fun h=> ?_
 ·obtain⟨b0,b1,b2,b3,b4⟩:=hB _ ((qCq g hx).trans (List.prefix_append _ _))
  simp only[b0,b1,b2,b3,b4,qCx hs,qCw hs,qCy hs,qCz hs,qCA hs,hk2,hc1,hc2,hc3,push_cast,reduceIte,zA,zB,zC,zD,zE,zF,zG,reduceCtorEq,zH,zJ,cNI]
  refine qoO (fun j st=> ∃y:Nat,y<=hN g/\j=hN g-y/\st=⟨s++[(201,.ptr ic 0),(202,.ptr ig 0),(203,.ptr ie 0),(204,.ptr 204 0),(205,.clo 83 [204,ic,ig]),(206,.int x),(211,.int (wN g)),(212,.int x),(216,.int (hN g)),(217,.int y)],B (qCl g x++qCk g x y),A (qCl g x++qCk g x y),[]⟩) (hN g) ⟨_,SWk.refl _,0,oM,oM,?_⟩ ?_
  ·rw[show qCl g x++qCk g x 0=qCl g x from List.append_nil _]
   simp only[hn.h,qCx hs,qCw hs,qCy hs,qCz hs,qCA hs,hk2,hc1,hc2,hc3,push_cast,reduceIte,zA,zB,zC,zD,zE,zF,zG,reduceCtorEq,zH,zJ,cNI]
  rintro j st ⟨y,hy,rfl,rfl⟩
  simp only[qCx hs,qCw hs,qCy hs,qCz hs,qCA hs,hk2,hc1,hc2,hc3,push_cast,reduceIte,zA,zB,zC,zD,zE,zF,zG,reduceCtorEq,zH,zJ,cNI]
  refine qnY (fun h2=> ?_) fun h2=> ?_
  ·have hx' :x<wN g:=by omega
   have hy' :y<hN g:=by omega
   have hp:=qCs hx' hy'
   obtain⟨t,ht⟩: ∃t,t=y*wN g+x:=⟨_,rfl⟩
   obtain⟨q,hq⟩: ∃q,q=t*eN g:=⟨_,rfl⟩
   obtain⟨r,hr⟩: ∃r,r=q+eN g:=⟨_,rfl⟩
   have htI:(y:Int)*g.w+x=t:=by rw[ht,Int.natCast_add,Int.natCast_mul,hn.w]
   have hqI:(t:Int)*qv1 g=q:=by rw[hq,Int.natCast_mul,hn.e]
   have hrI:((t:Int)+1)*qv1 g=r:=by rw[hr,Int.natCast_add,Int.add_mul,hqI,hn.e,Int.one_mul]
   have ht1:t+1<=wN g*hN g:=by
    have h3:(y+1)*wN g<=hN g*wN g:=Nat.mul_le_mul_right _ hy'
    rw[Nat.add_mul,Nat.one_mul,Nat.mul_comm (hN g)]at h3
    omega
   have hr1:r<=wN g*hN g*eN g:=by
    have h3:=Nat.mul_le_mul_right (eN g) ht1
    rw[Nat.add_mul,Nat.one_mul,<- hq,<- hr]at h3
    exact h3
   have hce:=hn.ce
   have hw2:=hn.w2
   have hh2:=hn.h2
   have he2:=hn.e2
   have hwh2:wN g*hN g<=64*64:=Nat.mul_le_mul hw2 hh2
   have hr2:wN g*hN g*eN g<=4096*134:=Nat.mul_le_mul hwh2 he2
   have hyw:(0:Int)<=y*g.w:=Int.mul_nonneg oM (by have:=hn.w;omega)
   rw[<- ht]at hp
   generalize hpre:qCl g x++qCk g x y=pre at hp ⊢
   have hp1:pre++qCh g x q (eN g)++[⟨x,1,t,2⟩]++[⟨x,2,t,16⟩]++[⟨x,3,t,8⟩]<+:qCn g:=by
    rw[qCj,<- hq]at hp
    simpa[qCi]using hp
   have hp2:=(List.prefix_append _ _).trans hp1
   have hp3:=(List.prefix_append _ _).trans hp2
   have hp4:=(List.prefix_append _ _).trans hp3
   have hp5:=(List.prefix_append _ _).trans hp4
   obtain⟨b0,b1,b2,b3,b4⟩:=hB _ hp5
   simp only[b0,b1,b2,b3,b4,htI,hqI,hrI,qCx hs,qCw hs,qCy hs,qCz hs,qCA hs,hk2,hc1,hc2,hc3,push_cast,reduceIte,zA,zB,zC,zD,zE,zF,zG,reduceCtorEq,zH,zJ,cNI]
   refine⟨⟨oM,oM⟩,⟨oM,oM⟩,⟨oM,oM⟩,⟨oM,oM⟩,⟨oM,oM⟩,?_⟩
   have hsel:=qD2 hE oM hpn (s:=s++[(201,.ptr ic 0),(202,.ptr ig 0),(203,.ptr ie 0),(204,.ptr 204 0),(205,.clo 83 [204,ic,ig]),(206,.int x),(208,.int t),(211,.int (wN g)),(212,.int x),(216,.int (hN g)),(217,.int y),(226,.clo 83 [204,ic,ig]),(227,.int x),(228,.int t),(229,.int (qv1 g)),(230,.int q),(231,.int t),(232,.int ((t:Int)+1)),(233,.int (qv1 g)),(234,.int r)]) (by rw[qCB hs _ _ oM];rfl) g hg 204 ic ig cf v0 v1 v2 v3 x q (eN g) r hr (fun k=>B (pre++qCh g x q k)) (fun k=>A (pre++qCh g x q k)) []
    (fun k hk=>by
     obtain⟨b0,b1,b2,b3,b4⟩:=hB _ (((List.prefix_append_right_inj pre).2 (qCu g x q hk)).trans hp4)
     exact⟨b0,b1,b2,b4⟩)
    (fun k hk=>(hA _ (((List.prefix_append_right_inj pre).2 (qCu g x q hk)).trans hp4)).1)
    oM oM ⟨oM,hf.1,hf.2.1,hf.2.2.2⟩ fv0.1 fv0.2
    (fun k hk t ht h4 hft=>by
     have h5:=hY (pre++qCh g x q k) ⟨x,0,q+k,qCg g (q+k)⟩ (by rw[List.append_assoc,<- qCt];exact((List.prefix_append_right_inj pre).2 (qCu g x q hk)).trans hp4)
     rw[List.append_assoc,<- qCt]at h5
     rw[List.append_assoc]
     exact h5 _ (by simp only[ht,push_cast,reduceIte,zA,zB,zC,zD,zE,zF,zG,reduceCtorEq,zH,zJ,cNI]) (by
      intro z hz
      rcases yC.1 hz with hz|hz
      ·exact qDb (k:=200) rfl z hz
      ·have:=h4 z hz;omega) (by
      intro j hj
      obtain⟨n1,n2,n3,n4,n5,n6⟩:=hfar j hj
      simp only[qCX,n1,n2,n3,n4,n5,n6,hft j hj,push_cast,reduceIte,zA,zB,zC,zD,zE,zF,zG,reduceCtorEq,zH,zJ,cNI]))
   simp only[show qCh g x q 0=[]from rfl,List.append_nil]at hsel
   refine qsP hsel ?_
   obtain⟨C1,hC1,hx1⟩:=qCT (hA _ hp4).2.1 (n:=t) oM
   obtain⟨C2,hC2,hx2⟩:=qCT (hA _ hp3).2.2.1 (n:=t) oM
   obtain⟨C3,hC3,hx3⟩:=qCT (hA _ hp2).2.2.2 (n:=t) oM
   obtain⟨p1,p2⟩:=qCU (hA _ hp4).2.1 t
   obtain⟨p3,p4⟩:=qCU (hA _ hp3).2.2.1 t
   obtain⟨p5,p6⟩:=qCU (hA _ hp2).2.2.2 t
   have y1:=hY _ _ hp3
   have y2:=hY _ _ hp2
   have y3:=hY _ _ hp1
   obtain⟨c0,c1,c2,c3,c4⟩:=hB _ hp4
   obtain⟨d0,d1,d2,d3,d4⟩:=hB _ hp3
   obtain⟨e0,e1,e2,e3,e4⟩:=hB _ hp2
   simp only[c0,c1,c2,c3,c4,hx1,p1,p2,qCx hs,qCw hs,qCy hs,qCz hs,qCA hs,hk2,hc1,hc2,hc3,push_cast,reduceIte,zA,zB,zC,zD,zE,zF,zG,reduceCtorEq,zH,zJ,cNI]
   refine⟨hC1,_,y1 _ sC (qDb rfl) (fun j hj=>by
    obtain⟨n1,n2,n3,n4,n5,n6⟩:=hfar j hj
    simp only[n1,n2,n3,n4,n5,n6,qD0,(fv1.1 j hj).1,(fv1.1 j hj).2,(fv1.2 t j hj).1,(fv1.2 t j hj).2,push_cast,reduceIte,zA,zB,zC,zD,zE,zF,zG,reduceCtorEq,zH,zJ,cNI]),?_⟩
   rintro _ rfl
   simp only[d0,d1,d2,d3,d4,hx2,p3,p4,qCx hs,qCw hs,qCy hs,qCz hs,qCA hs,hk2,hc1,hc2,hc3,push_cast,reduceIte,zA,zB,zC,zD,zE,zF,zG,reduceCtorEq,zH,zJ,cNI]
   refine⟨hC2,_,y2 _ sC (qDb rfl) (fun j hj=>by
    obtain⟨n1,n2,n3,n4,n5,n6⟩:=hfar j hj
    simp only[n1,n2,n3,n4,n5,n6,qD0,(fv1.1 j hj).1,(fv1.1 j hj).2,(fv1.2 t j hj).1,(fv1.2 t j hj).2,(fv2.1 j hj).1,(fv2.1 j hj).2,(fv2.2 t j hj).1,(fv2.2 t j hj).2,push_cast,reduceIte,zA,zB,zC,zD,zE,zF,zG,reduceCtorEq,zH,zJ,cNI]),?_⟩
   rintro _ rfl
   generalize hKK:Exit.thn (awp E (AC.cut _ _) _) _=KK
   simp only[e0,e1,e2,e3,e4,qCx hs,qCw hs,qCy hs,qCz hs,qCA hs,hk2,hc1,hc2,hc3,push_cast,reduceIte,zA,zB,zC,zD,zE,zF,zG,reduceCtorEq,zH,zJ,cNI]
   rw[hx3]
   simp only[p5,p6,qCx hs,qCw hs,qCy hs,qCz hs,qCA hs,hk2,hc1,hc2,hc3,push_cast,reduceIte,zA,zB,zC,zD,zE,zF,zG,reduceCtorEq,zH,zJ,cNI]
   refine⟨hC3,_,y3 _ sC (qDb rfl) (fun j hj=>by
    obtain⟨n1,n2,n3,n4,n5,n6⟩:=hfar j hj
    simp only[n1,n2,n3,n4,n5,n6,qD0,(fv1.1 j hj).1,(fv1.1 j hj).2,(fv1.2 t j hj).1,(fv1.2 t j hj).2,(fv2.1 j hj).1,(fv2.1 j hj).2,(fv2.2 t j hj).1,(fv2.2 t j hj).2,(fv3.1 j hj).1,(fv3.1 j hj).2,(fv3.2 t j hj).1,(fv3.2 t j hj).2,push_cast,reduceIte,zA,zB,zC,zD,zE,zF,zG,reduceCtorEq,zH,zJ,cNI]),?_⟩
   rintro _ rfl
   simp only[qCx hs,qCw hs,qCy hs,qCz hs,qCA hs,hk2,hc1,hc2,hc3,push_cast,reduceIte,zA,zB,zC,zD,zE,zF,zG,reduceCtorEq,zH,zJ,cNI]
   subst hKK
   rw[qnP]
   simp only[qCx hs,qCw hs,qCy hs,qCz hs,qCA hs,hk2,hc1,hc2,hc3,push_cast,reduceIte,zA,zB,zC,zD,zE,zF,zG,reduceCtorEq,zH,zJ,cNI]
   refine⟨⟨oM,oM⟩,_,SWk.refl _,hN g-(y+1),oM,y+1,oM,rfl,?_⟩
   rw[qCp,<- List.append_assoc,hpre,qCj,qCi,<- ht,<- hq]
   simp only[List.append_assoc,List.cons_append,List.nil_append]
   rfl
  ·obtain rfl:y=hN g:=by omega
   have hw2:=hn.w2
   rw[<- qCo]
   exact⟨⟨oM,oM⟩,_,SWk.refl _,wN g-(x+1),oM,x+1,oM,rfl,rfl⟩
 ·obtain⟨b0,b1,b2,b3,b4⟩:=hB _ ((qCq g hx).trans (List.prefix_append _ _))
  simp only[b0,b1,b2,b3,b4,qCx hs,qCw hs,qCy hs,qCz hs,qCA hs,hk2,hc1,hc2,hc3,push_cast,reduceIte,zA,zB,zC,zD,zE,zF,zG,reduceCtorEq,zH,zJ,cNI]
  obtain rfl:x=wN g:=by omega
  have hc:=hn.c
  have hall:=hn.all
  have hce:=hn.ce
  have hwh2:wN g*hN g<=64*64:=Nat.mul_le_mul hn.w2 hn.h2
  have hr2:wN g*hN g*eN g<=4096*134:=Nat.mul_le_mul hwh2 hn.e2
  obtain⟨q,hq⟩: ∃q,q=wN g*hN g*eN g:=⟨_,rfl⟩
  have hwh:g.w*g.h=((wN g*hN g:Nat):Int):=by rw[Int.natCast_mul,hn.w,hn.h]
  have hqI:g.w*g.h*qv1 g=q:=by rw[hq,Int.natCast_mul,hwh,hn.e]
  have hcb:=hg.count
  have hpq:=hg.pads
  have hsel := qD2 hE oM hpn (s := s ++ [(202, .ptr ig 0), (203, .ptr ie 0), (205, .clo 83 [204, ic, ig]), (278, .clo 83 [204, ic, ig]), (279, .ptr ig 0), (280, .int g.w), (281, .ptr ig 0), (282, .int g.w), (283, .ptr ig 1), (284, .int g.h), (285, .int (g.w * g.h)), (286, .int (qv1 g)), (287, .int q), (288, .agg (quX false g)), (289, .int (qv2 g))]) (by rw [qCB hs _ _ oM]; rfl) g hg 204 ic ig cf v0 v1 v2 v3 (wN g) q (cN g - q) (cN g) oM (fun k => B (qCl g (wN g) ++ qCh g (wN g) q k)) (fun k => A (qCl g (wN g) ++ qCh g (wN g) q k)) []
    (fun k hk=>by
     obtain⟨b0,b1,b2,b3,b4⟩:=hB _ (qDc g (by rw[qCm,<- hq];exact qCu g _ q hk))
     exact⟨b0,b1,b2,b4⟩)
    (fun k hk=>(hA _ (qDc g (by rw[qCm,<- hq];exact qCu g _ q hk))).1)
    oM oM ⟨oM,hf.1,hf.2.1,hf.2.2.2⟩ fv0.1 fv0.2
    (fun k hk t ht h4 hft=>by
     have h5:=hY (qCl g (wN g)++qCh g (wN g) q k) ⟨wN g,0,q+k,qCg g (q+k)⟩ (by rw[List.append_assoc,<- qCt];exact qDc g (by rw[qCm,<- hq];exact qCu g _ q hk))
     rw[List.append_assoc,<- qCt]at h5
     rw[List.append_assoc]
     exact h5 _ (by simp only[ht,push_cast,reduceIte,zA,zB,zC,zD,zE,zF,zG,reduceCtorEq,zH,zJ,cNI]) (by
      intro z hz
      rcases yC.1 hz with hz|hz
      ·exact qDb (k:=200) rfl z hz
      ·have:=h4 z hz;omega) (by
      intro j hj
      obtain⟨n1,n2,n3,n4,n5,n6⟩:=hfar j hj
      simp only[qCX,n1,n2,n3,n4,n5,n6,hft j hj,push_cast,reduceIte,zA,zB,zC,zD,zE,zF,zG,reduceCtorEq,zH,zJ,cNI]))
  simp only[show qCh g (wN g) q 0=[]from rfl,List.append_nil]at hsel
  rw[hqI]
  refine⟨⟨oM,oM⟩,⟨oM,oM⟩,?_⟩
  refine qrx (by rw[hE];exact qv5 g hg) sC rfl ?_
  simp only[qCx hs,qCw hs,qCy hs,qCz hs,qCA hs,hk2,hc1,hc2,hc3,push_cast,reduceIte,zA,zB,zC,zD,zE,zF,zG,reduceCtorEq,zH,zJ,cNI]
  rw[hn.w,hn.c]at hsel
  refine qsP hsel ?_
  simp only[qCx hs,qCw hs,qCy hs,qCz hs,qCA hs,hk2,hc1,hc2,hc3,push_cast,reduceIte,zA,zB,zC,zD,zE,zF,zG,reduceCtorEq,zH,zJ,cNI]
  rw[qCn,qCm,<- hq]
end Go.Proofs.YtecoaapkcnhlhaaGreatDoor
namespace Go.Proofs.YtecoaapkcnhlhaaGreatDoor
open Go Go.Vc Go.Ham
def cfgI(c:Cfg)(k i:Nat):Int:=if k=0 then c.sel.getD i 0 else if k=1 then c.mode.getD i 0 else if k=2 then c.tab.getD i 0 else c.ram.getD i 0
def cfgV(c:Cfg)(k i:Nat):Nat:=(cfgI c k i).toNat
def qDe(c:Cfg)(k i:Nat)(v:Int):Cfg:=if k=0 then { c with sel:=c.sel.set i v } else if k=1 then { c with mode:=c.mode.set i v } else if k=2 then { c with tab:=c.tab.set i v } else { c with ram:=c.ram.set i v }
def keyIn(g:Grid)(k i:Nat):Prop:=(k=0/\i<cN g)\/((k=1\/k=2\/k=3)/\i<g.kind.length)
theorem FIn.keyIn{g:Grid}{f:Fld}(h:FIn g f):keyIn g f.kind f.i:=by
 rcases h.key with⟨a,b,_⟩|⟨a,b,_⟩|⟨a,b,_⟩|⟨a,b,_⟩
 ·exact .inl ⟨a,b⟩
 ·exact .inr ⟨.inl a,b⟩
 ·exact .inr ⟨.inr (.inl a),b⟩
 ·exact .inr ⟨.inr (.inr a),b⟩
theorem CfgLn.lens{g:Grid}{c:Cfg}(h:CfgLn g c):c.sel.length=cN g/\c.mode.length=g.kind.length/\c.tab.length=g.kind.length/\c.ram.length=g.kind.length:=h
theorem qDf{g:Grid}{c:Cfg}(h:CfgLn g c)(k i:Nat)(v:Int):CfgLn g (qDe c k i v):=by
 obtain⟨h1,h2,h3,h4⟩:=h
 unfold qDe
 repeat' split
 all_goals (refine⟨?_,?_,?_,?_⟩<;>simp[*])
theorem qDg(l:List Int)(i j:Nat)(v:Int)(h:i<l.length):(l.set i v).getD j 0=if i=j then v else l.getD j 0:=by
 simp only[zK,List.getElem?_set]
 split
 ·subst_vars;simp[h]
 ·rfl
theorem qDh{g:Grid}{c:Cfg}(hl:CfgLn g c){k i k' i' :Nat}(h:keyIn g k i)(h' :keyIn g k' i')(v:Int):cfgI (qDe c k i v) k' i' =if k=k' /\i=i' then v else cfgI c k' i' :=by
 obtain⟨h1,h2,h3,h4⟩:=hl.lens
 rcases h with⟨rfl,h⟩|⟨rfl|rfl|rfl,h⟩<;>rcases h' with⟨rfl,h'⟩|⟨rfl|rfl|rfl,h'⟩<;>simp[cfgI,qDe,-zK]<;>(rw[qDg _ _ _ _ oM])
theorem qDi {g : Grid} : ∀ (rl : List (Fld × Nat)) (c : Cfg), CfgLn g c -> (∀ p ∈ rl, keyIn g p.1.kind p.1.i) -> (rl.map fun p => fkey p.1).Nodup ->
  CfgLn g (rl.foldl (fun c p=>qDe c p.1.kind p.1.i p.2) c)/\(∀p∈rl,cfgI (rl.foldl (fun c p=>qDe c p.1.kind p.1.i p.2) c) p.1.kind p.1.i=p.2)/\
  ∀k i,keyIn g k i->(k,i)∉rl.map (fun p=>fkey p.1)->cfgI (rl.foldl (fun c p=>qDe c p.1.kind p.1.i p.2) c) k i=cfgI c k i
 |[],c,h,_,_=>⟨h,fun p hp=>(by cases hp),fun _ _ _ _=>rfl⟩
 | q :: r, c, h, hk, hn => by
   rw[zW,List.nodup_cons]at hn
   obtain⟨a1,a2,a3⟩:=qDi r (qDe c q.1.kind q.1.i q.2) (qDf h _ _ _) (fun p hp=>hk p (zT _ hp)) hn.2
   have hq:=hk q zX
   refine⟨a1,fun p hp=> ?_,fun k i h1 h2=> ?_⟩
   ·rcases List.mem_cons.1 hp with rfl|hp
    ·rw[List.foldl_cons,a3 _ _ hq hn.1,qDh h hq hq,if_pos ⟨rfl,rfl⟩]
    ·exact a2 p hp
   ·rw[zW,List.mem_cons,not_or]at h2
    rw[List.foldl_cons,a3 k i h1 h2.2,qDh h hq h1,if_neg]
    rintro⟨rfl,rfl⟩
    exact h2.1 rfl
theorem ext0{l m:List Int}{n:Nat}(hl:l.length=n)(hm:m.length=n)(h: ∀i,i<n->l.getD i 0=m.getD i 0):l=m:=by
 apply List.ext_getElem oM
 intro i h1 h2
 have:=h i oM
 simpa[zK,h1,h2]using this
theorem qDj{g:Grid}{c d:Cfg}(hc:CfgLn g c)(hd:CfgLn g d)(h: ∀k i,keyIn g k i->cfgI c k i=cfgI d k i):c=d:=by
 obtain⟨a1,a2,a3,a4⟩:=hc.lens
 obtain⟨b1,b2,b3,b4⟩:=hd.lens
 have e1:=ext0 a1 b1 fun i hi=>h 0 i (.inl ⟨rfl,hi⟩)
 have e2:=ext0 a2 b2 fun i hi=>h 1 i (.inr ⟨.inl rfl,hi⟩)
 have e3:=ext0 a3 b3 fun i hi=>h 2 i (.inr ⟨.inr (.inl rfl),hi⟩)
 have e4:=ext0 a4 b4 fun i hi=>h 3 i (.inr ⟨.inr (.inr rfl),hi⟩)
 cases c;cases d
 simp only at e1 e2 e3 e4
 rw[e1,e2,e3,e4]
theorem qDk(g:Grid):CfgLn g (qxc g):=by refine⟨?_,?_,?_,?_⟩<;>simp[qxc]
def decC(g:Grid)(S:Nat->List Bool):Cfg:=(qC0 (qCn g) S).foldl (fun c p=>qDe c p.1.kind p.1.i p.2) (qxc g)
theorem qDl{g:Grid}(hg:GOk g){k i:Nat}(h:keyIn g k i): ∃f∈qCn g,f.kind=k/\f.i=i:=by
 rcases h with⟨rfl,h⟩|⟨hk,h⟩
 ·obtain⟨f,h1,h2,h3,_⟩:=qD6 hg h;exact⟨f,h1,h2,h3⟩
 ·obtain⟨f,h1,h2,h3,_⟩:=qD7 hg h hk;exact⟨f,h1,h2,h3⟩
theorem qDm(g:Grid)(S:Nat->List Bool):(qC0 (qCn g) S).map (fun p=>fkey p.1)=(qCn g).map fkey:=by
 rw[show(fun p:Fld×Nat=>fkey p.1)=fkey ∘ Prod.fst from rfl,<- List.map_map,qC1]
theorem qDn{g:Grid}{S:Nat->List Bool}{p:Fld×Nat}(h:p∈qC0 (qCn g) S):p.1∈qCn g:=by
 rw[<- qC1 (qCn g) S];exact List.mem_map_of_mem h
theorem qDo{g:Grid}(hg:GOk g)(S:Nat->List Bool):CfgLn g (decC g S)/\ ∀p∈qC0 (qCn g) S,cfgI (decC g S) p.1.kind p.1.i=p.2:=by
 obtain⟨a1,a2,_⟩:=qDi (qC0 (qCn g) S) (qxc g) (qDk g) (fun p hp=>(qD5 hg (qDn hp)).keyIn) (by rw[qDm];exact qDa hg)
 exact⟨a1,a2⟩
theorem qDp(g:Grid)(c:Cfg):validE g c=0 ↔ qys g c/\(∀i,i<c.sel.length->qyt g c i)/\ ∀t,t<g.kind.length->qyu g c t:=by
 constructor
 ·intro h
  unfold validE at h
  split at h
  ·rename_i e;exact e
  ·cases h
 ·rintro⟨h1,h2,h3⟩
  exact qyv h1 h2 h3
theorem qDq{g:Grid}(hg:GOk g)(n:Nat):(qwb g n).length<2^64:=by
 have:=qxu g hg n
 omega
theorem qDr{g:Grid}(hg:GOk g){c:Cfg}(h:validE g c=0){f:Fld}(hf:FIn g f):0<=cfgI c f.kind f.i/\cfgV c f.kind f.i<2^f.n:=by
 obtain⟨⟨l1,l2,l3,l4⟩,h2,h3⟩:=(qDp g c).1 h
 unfold cfgV
 rcases hf.key with⟨a,b,d⟩|⟨a,b,d⟩|⟨a,b,d⟩|⟨a,b,d⟩
 ·have hs:=h2 f.i (by rw[l1];exact b)
  have hb:=qCf _ (qDq hg f.i)
  unfold qyt at hs
  rw[a,d]
  simp only[cfgI,if_true,qCg]
  by_cases e:c.sel.getD f.i 0=0
  ·rw[e];exact⟨Int.le_refl _,Nat.two_pow_pos _⟩
  ·have:=hs e
   exact⟨oM,oM⟩
 ·have ht:=h3 f.i b
  unfold qyu qym at ht
  rw[a,d]
  simp[cfgI,-zK]
  omega
 ·have ht:=h3 f.i b
  unfold qyu qym at ht
  rw[a,d]
  simp[cfgI,-zK]
  have:=ht.2.2.1
  split at this<;>omega
 ·have ht:=h3 f.i b
  unfold qyu qym at ht
  rw[a,d]
  simp[cfgI,-zK]
  have:=ht.2.2.2
  split at this<;>omega
def qDs(g:Grid)(x:Nat):Nat:=qBV (qCn g) x
def qDt(g:Grid):List Nat:=(List.range (wN g+1)).map fun x=>nW (qDs g x)
def qDu(g:Grid)(c:Cfg):List (List Nat):=(List.range (wN g+1)).map (rowB (qCn g) (cfgV c))
def qDv(ws:List Nat):Bool:=ws.all fun w=>decide (chkW w≠2)
def qDw(ws:List Nat):Nat:=ws.countP fun w=>decide (chkW w=1)
def datF(l:List (List Nat))(x:Nat):List Nat:=(l.getD x []).map datW
structure Dec38 (g:Grid) (l:List (List Nat)):Prop where
 size:l.map List.length=qDt g
 ok: ∀ws∈l,qDv ws=true
 rest: ∀x,x<wN g+1->qCa (datF l x) (qDs g x)
 valid:validE g (decC g fun x=>unW (datF l x))=0
def qDx(l:List (List Nat)):Prop:= ∀ws∈l,∀w∈ws,w<2^64
theorem qDy{d:Nat}(h:d<2^57):datW (encW d)=d:=by
 unfold datW;rw[if_neg (by rw[qA8];decide),qA7 h]
theorem qDz{g:Grid}(hg:GOk g){x:Nat}(h:wN g<x):qDs g x=0:=by
 have key: ∀fs:List Fld,(∀f∈fs,f.x<=wN g)->qBV fs x=0:=by
  intro fs
  induction fs with
  |nil=>intro _;rfl
  |cons f r ih=>
    intro hf
    have:=hf f zX
    rw[qBV,if_neg oM,ih fun f hf' =>hf f (zT _ hf')]
 exact key _ fun f hf=>(qD5 hg hf).x
theorem qDD{g:Grid}{c:Cfg}{x:Nat}(hx:x<wN g+1):(qDu g c).getD x []=rowB (qCn g) (cfgV c) x:=by
 simp[qDu,zK,hx]
theorem qDE {g : Grid} (hg : GOk g) {c : Cfg} (hc : validE g c = 0) {l : List (List Nat)} (hs : l.map List.length = qDt g) (ho : ∀ ws ∈ l, qDv ws = true) (hd : ∀ x, x < wN g + 1 -> datF l x = qC8 (qCn g) (cfgV c) x) :
  Dec38 g l/\decC g (fun x=>unW (datF l x))=c:=by
 have hlen:l.length=wN g+1:=by
  have:=congrArg List.length hs
  simpa[qDt]using this
 have hn:=hg.n
 obtain⟨hL,hp⟩:=qDo hg fun x=>unW (datF l x)
 have hread:qC0 (qCn g) (fun x=>unW (datF l x))=(qCn g).map fun f=>(f,cfgV c f.kind f.i):=by
  refine qC3 (cfgV c) _ _ (fun f hf=>(qDr hg hc (qD5 hg hf)).2) fun x=> ?_
  by_cases hx:x<wN g+1
  ·rw[hd x hx];exact qCc _ _ _
  ·have h0:qBV (qCn g) x=0:=qDz hg oM
   have h1:=qBW (cfgV c) x (qCn g)
   rw[h0]at h1
   rw[h0,List.take_zero,List.length_eq_zero_iff.1 h1]
 have hceq:decC g (fun x=>unW (datF l x))=c:=by
  have hcl:CfgLn g c:=((qDp g c).1 hc).1
  refine qDj hL hcl fun k i hk=> ?_
  obtain⟨f,hf,rfl,rfl⟩:=qDl hg hk
  have h1:=hp (f,cfgV c f.kind f.i) (by rw[hread];exact List.mem_map_of_mem (f:=fun f=>(f,cfgV c f.kind f.i)) hf)
  have h2:=(qDr hg hc (qD5 hg hf)).1
  simp only at h1
  rw[h1,cfgV]
  omega
 refine⟨⟨hs,ho,fun x hx=>by rw[hd x hx];exact qCb _ _ _,by rw[hceq];exact hc⟩,hceq⟩
theorem qDF(fs:List Fld)(c:Nat->Nat->Nat)(x:Nat):(rowB fs c x).length=nW (qBV fs x):=by rw[rowB,yG,qC9]
theorem qDG(g:Grid)(c:Cfg):(qDu g c).map List.length=qDt g:=by
 rw[qDu,List.map_map]
 exact List.map_congr_left fun x _=>qDF _ _ _
theorem qDH{g:Grid}{c:Cfg}{ws:List Nat}(h:ws∈qDu g c){w:Nat}(hw:w∈ws): ∃d,d<2^57/\w=encW d:=by
 simp only[qDu,List.mem_map]at h
 obtain⟨x,_,rfl⟩:=h
 simp only[rowB,List.mem_map]at hw
 obtain⟨d,hd,rfl⟩:=hw
 exact⟨d,qBK hd,rfl⟩
theorem qDI(g:Grid)(c:Cfg):qDx (qDu g c):=fun ws hws w hw=>by
 obtain⟨d,_,rfl⟩:=qDH hws hw
 exact qA6 d
theorem qDJ{g:Grid}{c:Cfg}{ws:List Nat}(h:ws∈qDu g c){w:Nat}(hw:w∈ws):chkW w=0:=by
 obtain⟨d,_,rfl⟩:=qDH h hw
 exact qA8 d
theorem qDK{g:Grid}{c:Cfg}{x:Nat}(hx:x<wN g+1):datF (qDu g c) x=qC8 (qCn g) (cfgV c) x:=by
 unfold datF
 rw[qDD hx,rowB,List.map_map]
 conv=>rhs;rw[<- List.map_id (qC8 (qCn g) (cfgV c) x)]
 apply List.map_congr_left
 intro d hd
 exact qDy (qBK hd)
end Go.Proofs.YtecoaapkcnhlhaaGreatDoor
namespace Go.Vc
open Go Go.RowKit
def outL(l:List Nat)(i:Nat):Bool:= !inL l i
def qDL(nb na:List Nat)(r:PV)(st:St):Bool:=
 (st.s.isEmpty&&st.m.isEmpty)&&(st.b.all (fun x=>inL nb x.1&& !x.2.any (PV.to (outL nb) (outL na)))&&st.a.all (fun x=>inL na x.1))&& !r.toV (outL nb) (outL na)
def qDM(nb na:List Nat)(st:St):Bool:=st.noTo (inL nb) (inL na)&&(st.b.all (fun x=> !inL nb x.1)&&st.a.all (fun x=> !inL na x.1))
theorem qDN{α:Type}{l:List (Nat×α)}{i:Nat}{v:α}(h:lk l i=some v):(i,v)∈l:=by
 induction l with
 |nil=>cases h
 |cons x r ih=>
   obtain⟨k,u⟩:=x
   simp only[lk]at h
   split at h
   ·rename_i e;cases h;subst e;simp
   ·exact zT _ (ih h)
theorem qDO{α:Type}{l r:List (Nat×α)}{i:Nat}{v:α}(h:lk (l++r) i=some v):lk l i=some v\/lk r i=some v:=by
 induction l with
 |nil=>exact .inr h
 |cons x l ih=>
   obtain⟨k,u⟩:=x
   simp only[List.cons_append,lk]at h ⊢
   split at h
   ·rename_i e;rw[if_pos e];exact .inl h
   ·rename_i e;rw[if_neg e];exact ih h
section
variable {w0:World} {Z0:Zone} {X:Gh} {G:Nat->Value} {Z:Zone} {L:Lay} {st:St} {w:World}
theorem Inv.join (hM : Mem w0 Z0 X G Z L st w) {w' : World} {Z' : Zone} {L' : Lay} {st' : St} {nb na : List Nat} {r : PV} {X' : Gh} {G' : Nat -> Value} (hX : X'.y = X.y) (hN : Mem w Z X' G' Z' L' st' w') (ho : qDL nb na r st' = true) (hst : qDM nb na st = true) :
  ∃L2,LSame L' L2 (outL nb) (outL na)/\Mem w0 Z0 X G Z' L2 ⟨st.s,st.b++st'.b,st.a++st'.a,st.m⟩ w' :=by
 simp only[qDL,qDM,zN,yE,Bool.not_eq_true']at ho hst
 obtain⟨⟨⟨hs0,hm0⟩,hob,hoa⟩,_⟩:=ho
 obtain⟨hno,hsb,hsa⟩:=hst
 let L2:Lay:=⟨fun i=>if inL nb i=true then L'.bx i else L.bx i,fun i=>if inL na i=true then L'.ab i else L.ab i,fun i=>if inL na i=true then L'.ac i else L.ac i,fun i=>if inL na i=true then L'.ae i else L.ae i,fun i=>if inL na i=true then L'.al i else L.al i,L.yb,fun i=>if inL nb i=true then L'.bc i else L.bc i⟩
 have hyb: ∀i,L'.yb i=L.yb i:=fun i=>by rw[hN.yb i,hM.yb i];exact congrFun hX i
 have l1:LSame L L2 (inL nb) (inL na):=⟨fun i hi=>by simp[L2,hi],fun i hi=>by simp[L2,hi],fun i hi=>by simp[L2,hi],fun i hi=>by simp[L2,hi],fun i hi=>by simp[L2,hi],fun _ _=>rfl,fun i hi=>by simp[L2,hi]⟩
 have l2:LSame L' L2 (outL nb) (outL na):=⟨fun i hi=>by simp[outL]at hi;simp[L2,hi],fun i hi=>by simp[outL]at hi;simp[L2,hi],fun i hi=>by simp[outL]at hi;simp[L2,hi],fun i hi=>by simp[outL]at hi;simp[L2,hi],fun i hi=>by simp[outL]at hi;simp[L2,hi],fun i _=>(hyb i).symm,fun i hi=>by simp[outL]at hi;simp[L2,hi]⟩
 refine⟨L2,l2,?_⟩
 have hmv:Mem w0 Z0 X G Z' L st w' :=hM.move hN.z0 hN.zt hN.zn hN.zb hN.below
 have hw:w0.heap.size<=w.heap.size:=hM.below.size
 have hk:Kept Z' w' w' :=⟨fun _ _ _=>rfl⟩
 have hz: ∀p b,Z' p b->Z' p b:=fun _ _ h=>h
 have ob: ∀ {i cs},lk st.b i=some cs->inL nb i=false:=fun h=>hsb _ (qDN h)
 have oa: ∀ {i A},lk st.a i=some A->inL na i=false:=fun h=>hsa _ (qDN h)
 have nB: ∀ {i cs},lk st'.b i=some cs->inL nb i=true/\cs.any (PV.to (outL nb) (outL na))=false:=fun h=>hob _ (qDN h)
 have nA: ∀ {i A},lk st'.a i=some A->inL na i=true:=fun h=>hoa _ (qDN h)
 have obx: ∀ {i cs},lk st.b i=some cs->L2.bx i=L.bx i:=fun h=>l1.bx _ (ob h)
 have oax: ∀ {i A},lk st.a i=some A->L2.ab i=L.ab i:=fun h=>l1.ab _ (oa h)
 have nbx: ∀ {i cs},lk st'.b i=some cs->L2.bx i=L'.bx i:=fun h=>l2.bx _ (by simp[outL,(nB h).1])
 have nax: ∀ {i A},lk st'.a i=some A->L2.ab i=L'.ab i:=fun h=>l2.ab _ (by simp[outL,nA h])
 refine⟨hmv.zt,hmv.z0,hmv.zn,hmv.zb,hmv.below,?_,?_,?_,?_,?_,?_,?_,?_,?_,?_,hmv.oth,hM.yb,hmv.size,hmv.defers,?_⟩
 ·intro i cs hi
  rcases qDO hi with hi|hi
  ·rw[obx hi];exact hmv.ownb i cs hi
  ·rw[nbx hi];exact⟨Nat.le_trans hw (hN.ownb i cs hi).1,(hN.ownb i cs hi).2⟩
 ·intro i A hi
  rcases qDO hi with hi|hi
  ·rw[oax hi];exact hmv.owna i A hi
  ·rw[nax hi];exact⟨Nat.le_trans hw (hN.owna i A hi).1,(hN.owna i A hi).2⟩
 ·intro i j x y hi hj he
  rcases qDO hi with hi|hi<;>rcases qDO hj with hj|hj
  ·rw[obx hi,obx hj]at he;exact hM.injb i j x y hi hj he
  ·rw[obx hi,nbx hj]at he
   have h1:=(hM.ownb i x hi).2.1;have h2:=(hN.ownb j y hj).1;omega
  ·rw[nbx hi,obx hj]at he
   have h1:=(hN.ownb i x hi).1;have h2:=(hM.ownb j y hj).2.1;omega
  ·rw[nbx hi,nbx hj]at he;exact hN.injb i j x y hi hj he
 ·intro i j x y hi hj he
  rcases qDO hi with hi|hi<;>rcases qDO hj with hj|hj
  ·rw[oax hi,oax hj]at he;exact hM.inja i j x y hi hj he
  ·rw[oax hi,nax hj]at he
   have h1:=(hM.owna i x hi).2.1;have h2:=(hN.owna j y hj).1;omega
  ·rw[nax hi,oax hj]at he
   have h1:=(hN.owna i x hi).1;have h2:=(hM.owna j y hj).2.1;omega
  ·rw[nax hi,nax hj]at he;exact hN.inja i j x y hi hj he
 ·intro i j x y hi hj he
  rcases qDO hi with hi|hi<;>rcases qDO hj with hj|hj
  ·rw[obx hi,oax hj]at he;exact hM.injx i j x y hi hj he
  ·rw[obx hi,nax hj]at he
   have h1:=(hM.ownb i x hi).2.1;have h2:=(hN.owna j y hj).1;omega
  ·rw[nbx hi,oax hj]at he
   have h1:=(hN.ownb i x hi).1;have h2:=(hM.owna j y hj).2.1;omega
  ·rw[nbx hi,nax hj]at he;exact hN.injx i j x y hi hj he
 ·intro i cs hi
  rcases qDO hi with hi|hi
  ·exact(hmv.boxes i cs hi).keep hk hz rfl l1 (ob hi) (St.noTo_box hno hi)
  ·exact(hN.boxes i cs hi).keep hk hz rfl l2 (by simp[outL,(nB hi).1]) (nB hi).2
 ·intro i A hi
  rcases qDO hi with hi|hi
  ·obtain⟨cur,hx⟩:=hmv.arrs i A hi
   exact⟨cur,hx.keep hk hz rfl l1 (oa hi)⟩
  ·obtain⟨cur,hx⟩:=hN.arrs i A hi
   exact⟨cur,hx.keep hk hz rfl l2 (by simp[outL,nA hi])⟩
 ·intro i M hi
  rw[show L2.bx i=L.bx i from l1.bx i (St.noTo_map hno hi).1]
  exact hmv.ownm i M hi
 ·intro i j x y hi hj he
  rw[show L2.bx i=L.bx i from l1.bx i (St.noTo_map hno hi).1,show L2.bx j=L.bx j from l1.bx j (St.noTo_map hno hj).1]at he
  exact hM.injm i j x y hi hj he
 ·intro i M hi
  obtain⟨ents,clock,hR⟩:=hmv.maps i M hi
  refine⟨ents,clock,hR.keep hk hz rfl (fun j x y e=>⟨rfl,?_⟩) l1 (St.noTo_map hno hi).1 (St.noTo_map hno hi).2⟩
  have hit:=hR.it
  rw[e]at hit
  obtain⟨seen,_,_,h3,_⟩:=hit
  exact h3
 ·intro i v hi
  exact(hmv.slots i v hi).keep hk hz l1 (St.noTo_slot hno hi)
end
theorem FnM.fresh {E : Env} {f : Nat} {args : List PV} {st : St} {Q0 : PV -> St -> Prop} (nb na : List Nat) (hp : args.all qbO = true) (hst : qDM nb na st = true) (ho : ∀ r st', Q0 r st' -> qDL nb na r st' = true)
  (h:FnM (Env.of E.p) f args ⟨[],[],[],[]⟩ Q0):FnM E f args st fun r st' => ∃st0,Q0 r st0/\st' =⟨st.s,st.b++st0.b,st.a++st0.a,st.m⟩:=by
 refine⟨h.1,fun w0 Z0 X G Z L w vs hE hM hA=> ?_⟩
 have hin:Mem w Z ⟨[],X.y⟩ (fun _=>undef) Z { L00 with yb:=X.y } ⟨[],[],[],[]⟩ w:=by
  refine⟨hM.zt,fun _ _ h=>h,fun _ _ h=> .inl h,hM.zb,Below.refl _ _,?_,?_,?_,?_,?_,?_,?_,?_,?_,?_,fun x hx=>(by cases hx),fun _=>rfl,rfl,fun _ e=>(by cases e),fun i v hl=>(by cases hl)⟩
  all_goals (intros;rename_i hl _;first|(cases hl;done)|skip)
  all_goals (simp[lk]at *)
 have hargs:ArgsR w Z { L00 with yb:=X.y } args vs:=⟨hA.1,fun j c hj=>by
  have:=yE.1 hp c (zP hj)
  exact qbr (qck (hA.2 j c hj) this)⟩
 refine(h.2 w Z ⟨[],X.y⟩ (fun _=>undef) Z { L00 with yb:=X.y } w vs (EnvOK.of E.p w Z ⟨[],X.y⟩ (fun _=>undef) (hE.1.below hM.below)) hin hargs).mono ?_
 rintro e w' ⟨v,r,st',Z',L',rfl,hq,hN,hr⟩
 have hoo:=ho r st' hq
 obtain⟨L2,l2,hJ⟩:=hM.join (X' :=⟨[],X.y⟩) rfl hN hoo hst
 refine⟨v,r,_,Z',L2,rfl,⟨st',hq,rfl⟩,hJ,hr.keep ⟨fun _ _ _=>rfl⟩ (fun _ _ h=>h) l2 ?_⟩
 simp only[qDL,zN,Bool.not_eq_true']at hoo
 exact hoo.2
theorem qDP {P : Env} {d : Option Nat} {f : Nat} {args : List PV} {r : List AO} {st : St} {K : St -> Prop} {v : PV} {b' : List (Nat × List PV)} {a' : List (Nat × Arr)} (nb na : List Nat)
  (h:FnM (Env.of P.p) f args ⟨[],[],[],[]⟩ fun rv st' =>rv=v/\st' =⟨[],b',a',[]⟩) (hp:args.all qbO=true) (hst:qDM nb na st=true) (ho:qDL nb na v ⟨[],b',a',[]⟩=true)
  (hk:opsK P r ((⟨st.s,st.b++b',st.a++a',st.m⟩:St).put d v) K):clmK P d f args r st K:=by
 refine qsO (FnM.fresh nb na hp hst (fun rv st' h=> ?_) h) ?_
 ·obtain⟨rfl,rfl⟩:=h;exact ho
 ·rintro rv st' ⟨st0,⟨rfl,rfl⟩,rfl⟩
  exact hk
end Go.Vc
