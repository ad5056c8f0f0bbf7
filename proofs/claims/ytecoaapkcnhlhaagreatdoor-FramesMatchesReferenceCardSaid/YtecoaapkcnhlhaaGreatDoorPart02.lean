/- VcG VcH VcI VcJ VcQ VcX: lemmas -/
import Derived.Test.YtecoaapkcnhlhaaGreatDoorPart01
import Derived.Deep.AppendSrc
import Derived.RangeFuncOwn
import Derived.Maps.RangeRun
set_option linter.unusedSimpArgs false
set_option linter.unusedVariables false
open Option renaming map_eq_some_iff->zR
open Array renaming getD_eq_getD_getElem? ->zO
open Bool renaming and_eq_true->zN,false_ne_true->zQ
open List renaming getD_eq_getElem?_getD->zK,getElem?_eq_getElem->zL,getElem?_eq_some_iff->zM,mem_of_getElem? ->zP,getElem?_map->zS,mem_cons_of_mem->zT,length_append->zU,map_cons->zW,mem_cons_self->zX,getElem?_append_left->yA,getElem?_append_right->yB,mem_append->yC,any_eq_false->yD,all_eq_true->yE
namespace Go.Vc
open Go Go.RowKit
def PV.killed(pb:Nat->Bool):PV->PV
 | .clo _ ids=> .cld (ids.filter fun i=> !pb i)
 | .itr i j=> .cld ([i,j].filter fun i=> !pb i)
 | .cld ids=> .cld (ids.filter fun i=> !pb i)
 |_=> .bot
def PV.kill(pb pa:Nat->Bool)(c:PV):PV:=bif c.to pb pa then c.killed pb else c
theorem qbE(pb pa:Nat->Bool)(c:PV):(c.killed pb).to pb pa=false:=by
 cases c<;>first|rfl|skip
 all_goals
  show List.any (List.filter _ _) _=false
  rw[yD]
  intro x hx
  have:=(List.mem_filter.1 hx).2
  simpa using this
theorem qbF(pb:Nat->Bool)(c:PV):(∀cs,c.killed pb≠ .agg cs)/\ ∀cs,c.killed pb≠ .tup cs:=by
 cases c<;>exact⟨fun _ h=>(by cases h),fun _ h=>(by cases h)⟩
def PV.killA(pb pa:Nat->Bool):PV->PV
 | .agg cs=> .agg (cs.map (PV.kill pb pa))
 |c=>c.kill pb pa
def PV.killV(pb pa:Nat->Bool):PV->PV
 | .tup cs=> .tup (cs.map (PV.killA pb pa))
 |c=>c.killA pb pa
def St.kill(st:St)(pb pa:Nat->Bool):St:=
 { s:=st.s.map fun x=>(x.1,x.2.killV pb pa),b:=st.b.map fun x=>(x.1,x.2.map (PV.kill pb pa)),a:=st.a,m:=st.m.filter fun x=> !pb x.1&& !mpTo st.m pb x.1 }
theorem PV.kill_to(pb pa:Nat->Bool)(c:PV):(c.kill pb pa).to pb pa=false:=by
 unfold PV.kill
 cases h:c.to pb pa
 ·simpa using h
 ·exact qbE pb pa c
theorem qbG{c:PV}(hc: ∀cs,c≠ .agg cs)(pb pa:Nat->Bool): ∀cs,c.kill pb pa≠ .agg cs:=by
 unfold PV.kill
 cases c.to pb pa
 ·exact hc
 ·exact(qbF pb c).1
theorem qbH{c:PV}(hc: ∀cs,c≠ .tup cs)(pb pa:Nat->Bool): ∀cs,c.kill pb pa≠ .tup cs:=by
 unfold PV.kill
 cases c.to pb pa
 ·exact hc
 ·exact(qbF pb c).2
theorem qbI{pb pa:Nat->Bool}{c:PV}(h:c.to pb pa=false)(hc: ∀cs,c≠ .agg cs):c.toA pb pa=false:=by
 cases c<;>first|exact absurd rfl (hc _)|exact h
theorem qbJ{pb pa:Nat->Bool}{c:PV}(h:c.to pb pa=false)(hc: ∀cs,c≠ .agg cs)(hd: ∀cs,c≠ .tup cs):c.toV pb pa=false:=by
 cases c<;>first|exact absurd rfl (hc _)|exact absurd rfl (hd _)|exact h
theorem PV.killA_to(pb pa:Nat->Bool)(c:PV):(c.killA pb pa).toA pb pa=false:=by
 cases c with
 |agg cs=>simp[PV.killA,PV.toA,PV.kill_to]
 |_=>exact qbI (PV.kill_to pb pa _) (qbG (fun _ h=>by cases h) pb pa)
theorem PV.killV_to(pb pa:Nat->Bool)(c:PV):(c.killV pb pa).toV pb pa=false:=by
 cases c with
 |tup cs=>simp[PV.killV,PV.toV,PV.killA_to]
 |agg cs=>simp[PV.killV,PV.killA,PV.toV,PV.toA,PV.kill_to]
 |_=>
   simp only[PV.killV,PV.killA]
   refine qbJ (PV.kill_to pb pa _) (qbG ?_ pb pa) (qbH ?_ pb pa)<;>(intro _ h;cases h)
theorem St.noTo_kill(st:St)(pb pa:Nat->Bool):(st.kill pb pa).noTo pb pa=true:=by
 simp only[St.noTo,zN,yE]
 refine⟨⟨?_,?_⟩,fun x hx=> ?_⟩
 ·intro x hx
  simp only[St.kill,List.mem_map]at hx
  obtain⟨y,_,rfl⟩:=hx
  simp[PV.killV_to]
 ·intro x hx
  simp only[St.kill,List.mem_map]at hx
  obtain⟨y,_,rfl⟩:=hx
  simp[PV.kill_to]
 ·simp only[St.kill]at hx ⊢
  have h1:=(List.mem_filter.1 hx).2
  simp only[zN]at h1
  refine⟨h1.1,?_⟩
  rw[mpTo,qa5 st.m (fun i=> !pb i&& !mpTo st.m pb i),if_pos (by simpa using h1)]
  exact h1.2
theorem qbK{α β:Type}(l:List (Nat×α))(f:α->β)(j:Nat)(v:β)(h:lk (l.map fun x=>(x.1,f x.2)) j=some v): ∃u,lk l j=some u/\v=f u:=by
 rw[qa6]at h
 obtain⟨u,h1,h2⟩:=zR.1 h
 exact⟨u,h1,h2.symm⟩
section
variable {w0:World} {Z0:Zone} {N:Fr} {Z:Zone} {L:Lay} {st:St} {a:Act} {w:World} {P:Program} {pb pa:Nat->Bool}
theorem AR.cr{c:PV}{v:Value}(h:CR w Z L c v):AR w Z L c v:=by
 cases c<;>simp only[AR]<;>first|exact h|(simp only[CR]at h;cases h)
theorem AR.toCR{c:PV}{v:Value}(hc: ∀cs,c≠ .agg cs)(h:AR w Z L c v):CR w Z L c v:=by
 cases c<;>simp only[AR]at h<;>first|exact h|exact absurd rfl (hc _)
theorem VR.toAR{c:PV}{v:Value}(hc: ∀cs,c≠ .tup cs)(h:VR w Z L c v):AR w Z L c v:=by
 cases c<;>simp only[VR]at h<;>first|exact h|exact absurd rfl (hc _)
theorem CR.kill{c:PV}{v:Value}(h:CR w Z L c v):CR w Z L (c.kill pb pa) v:=by
 unfold PV.kill
 cases c.to pb pa
 ·exact h
 ·show CR w Z L (c.killed pb) v
  cases c<;>first|exact TR.bot v|trivial
theorem CM.kill{c:PV}{v:Value}(h:CM w Z L c v):CM w Z L (c.kill pb pa) v:=⟨h.1.kill,h.2⟩
theorem AR.kill{c:PV}{v:Value}(h:AR w Z L c v):AR w Z L (c.killA pb pa) v:=by
 cases c with
 |agg cs=>
   obtain⟨vs,h1,h2,h3⟩:=h
   refine⟨vs,h1,by simpa using h2,fun j c hj=> ?_⟩
   rw[zS]at hj
   obtain⟨c',h4,rfl⟩:=zR.1 hj
   exact(h3 j c' h4).kill
 |_=>exact AR.cr (CR.kill (AR.toCR (by simp) h))
theorem VR.kill{c:PV}{v:Value}(h:VR w Z L c v):VR w Z L (c.killV pb pa) v:=by
 cases c with
 |tup cs=>
   obtain⟨vs,h1,h2,h3⟩:=h
   refine⟨vs,h1,by simpa using h2,fun j c hj=> ?_⟩
   rw[zS]at hj
   obtain⟨c',h4,rfl⟩:=zR.1 hj
   exact(h3 j c' h4).kill
 |_=>exact VR.ar (AR.kill (VR.toAR (by simp) h))
def Rest(w0:World)(Z:Zone)(L:Lay)(X:Gh)(dm:Option (Bool×List Deferred))(m:List (Nat×Mp))(ds:List Deferred)(w:World):Prop:=
 (∀id M,lk m id=some M->w0.heap.size<=L.bx id/\L.bx id<w.heap.size/\ ∀p,¬Z p (L.bx id))/\(∀i j hi hj,lk m i=some hi->lk m j=some hj->L.bx i=L.bx j->i=j)/\
 (∀id M,lk m id=some M-> ∃ents clock,MR w0 w Z L id M ents clock)/\(∀x∈X.x,RecAt w0 Z w x)/\(∀dd,dm=some dd-> ∃l:List Nat,(ds=l.map mark++dd.2/\(dd.1=true->l=[]))/\qab X l/\ ∀D∈l,RecAt w0 Z w (D,.deferred (some [])))
theorem Inv.rest(h:Inv w0 Z0 N Z L st a w):Rest w0 Z L N.X N.dm st.m a.defers w:=⟨h.ownm,h.injm,h.maps,h.oth,h.defers⟩
theorem Rest.keep {X : Gh} {dm : Option (Bool × List Deferred)} {m m' : List (Nat × Mp)} {ds : List Deferred} {w' : World} {Z' : Zone} {L' : Lay} (h : Rest w0 Z L X dm m ds w) (hk : Kept Z w w') (hz : ∀ p b, Z p b -> Z' p b)
  (hnz: ∀(b:Nat) (o:Obj) (p:Bool),w.heap[b]? =some o->o.isCells=false->Z' p b->Z p b) (hb: ∀(b:Nat) (o:Obj),w.heap[b]? =some o->o.isCells=false->w'.heap[b]? =w.heap[b]?) (hsz:w.heap.size<=w'.heap.size)
  (hl:LSame L L' pb pa) (hm: ∀id M,lk m' id=some M->lk m id=some M/\pb id=false/\M.to pb=false):Rest w0 Z' L' X dm m' ds w' :=by
 obtain⟨h1,h2,h3,h4,h5⟩:=h
 have hrec: ∀x,RecAt w0 Z w x->RecAt w0 Z' w' x:=fun x hx=>by
  have hc:x.2.isCells=false:=by have:=hx.2.1;revert this;cases x.2<;>simp[qaa,Obj.isCells]
  exact hx.keep (hb _ _ hx.1 hc) (fun p hp=>hnz _ _ p hx.1 hc hp)
 refine⟨fun id M hM=> ?_,fun i j x y hx hy e=> ?_,fun id M hM=> ?_,fun x hx=>hrec x (h4 x hx),?_⟩
 ·obtain⟨e1,e2,_⟩:=hm id M hM
  obtain⟨a1,a2,a3⟩:=h1 id M e1
  obtain⟨ents,clock,hR⟩:=h3 id M e1
  rw[hl.bx id e2]
  exact⟨a1,Nat.lt_of_lt_of_le a2 hsz,fun p hp=>a3 p (hnz _ _ p hR.blk rfl hp)⟩
 ·obtain⟨e1,e2,_⟩:=hm i x hx
  obtain⟨e3,e4,_⟩:=hm j y hy
  rw[hl.bx i e2,hl.bx j e4]at e
  exact h2 i j x y e1 e3 e
 ·obtain⟨e1,e2,e3⟩:=hm id M hM
  obtain⟨ents,clock,hR⟩:=h3 id M e1
  refine⟨ents,clock,hR.keep hk hz (hb _ _ hR.blk rfl) (fun i x y hi=> ?_) hl e2 e3⟩
  obtain⟨seen,b1,b2,b3⟩:=hR.itAt hi
  exact⟨hb _ _ b1 rfl,fun p hp=>b3 p (hnz _ _ p b1 rfl hp)⟩
 ·intro dd hdm
  obtain⟨l,e1,en,e2⟩:=h5 dd hdm
  exact⟨l,e1,en,fun D hD=>hrec _ (e2 D hD)⟩
theorem XR.notCells{id:Nat}{A:Arr}{cur:Array Value}(hx:XR w Z L id A cur){b:Nat}{o:Obj}(h:w.heap[b]? =some o)(hc:o.isCells=false):b≠L.ab id:=fun e=>by
 rw[e,hx.blk]at h;cases h;cases hc
theorem BR.notCells{id:Nat}{cs:List PV}(hx:BR w Z L id cs){b:Nat}{o:Obj}(h:w.heap[b]? =some o)(hc:o.isCells=false):b≠L.bx id:=fun e=>by
 obtain⟨vs,T,h1,_⟩:=hx
 rw[e,h1]at h;cases h;cases hc
theorem Inv.kill(h:Inv w0 Z0 N Z L st a w)(pb pa:Nat->Bool):Inv w0 Z0 N Z L (st.kill pb pa) a w:=by
 have hm: ∀id M,lk (st.kill pb pa).m id=some M->lk st.m id=some M:=fun id M hM=>by
  simp only[St.kill]at hM
  rw[qa5 st.m (fun i=> !pb i&& !mpTo st.m pb i)]at hM
  split at hM
  ·exact hM
  ·cases hM
 refine⟨h.zt,h.z0,h.zn,h.zb,h.below,?_,h.owna,?_,h.inja,?_,?_,h.arrs,fun i v hl=>h.ownm i v (hm _ _ hl),fun i j x y hx hy=>h.injm i j x y (hm _ _ hx) (hm _ _ hy),fun i v hl=>h.maps i v (hm _ _ hl),h.oth,h.yb,h.size,h.defers,?_⟩
 ·intro id cs hl
  obtain⟨u,h1,_⟩:=qbK st.b _ id cs hl
  exact h.ownb id u h1
 ·intro i j x y hx hy
  obtain⟨u,h1,_⟩:=qbK st.b _ _ _ hx
  obtain⟨u',h2,_⟩:=qbK st.b _ _ _ hy
  exact h.injb i j u u' h1 h2
 ·intro i j x y hx hy
  obtain⟨u,h1,_⟩:=qbK st.b _ _ _ hx
  exact h.injx i j u y h1 hy
 ·intro id cs hl
  obtain⟨u,h1,rfl⟩:=qbK st.b _ id cs hl
  obtain⟨vs,T,h2,h3,h4⟩:=h.boxes id u h1
  refine⟨vs,T,h2,by simpa using h3,fun j c hj=> ?_⟩
  rw[zS]at hj
  obtain⟨c',h5,rfl⟩:=zR.1 hj
  exact(h4 j c' h5).kill
 ·intro i v hl
  obtain⟨u,h1,rfl⟩:=qbK st.s _ i v hl
  exact(h.slots i u h1).kill
theorem Inv.setArr (h : Inv w0 Z0 N Z L st a w) {w' : World} {row : Option Nat} {id : Nat} (hg : w.grownBy w' row) (hrow : ∀ k, row = some k -> ∃ A, lk st.a id = some A /\ k = L.ab id)
  {L' :Lay} (hl:LSame L L' nul pa) (hpa: ∀i,i≠id->pa i=false) (hblk:(∃A,lk st.a id=some A/\L'.ab id=L.ab id)\/w.heap.size<=L'.ab id) (hlt:L'.ab id<w'.heap.size)
  (hn:st.noTo nul pa=true) {A' :Arr} {cur:Array Value} (hx:XR w' Z L' id A' cur) (hy:L'.yb=L.yb:=by rfl):Inv w0 Z0 N Z L' { st with a:=up st.a id A' } a w' :=by
 have hrz: ∀p b,Z p b->some b≠row:=fun p b hp e=>by
  obtain⟨A,h1,h2⟩:=hrow b e.symm
  exact(h.owna id A h1).2.2 p (h2▸hp)
 have hk:Kept Z w w' :=⟨fun p b hp=>hg.block b (h.zb p b hp) (hrz p b hp)⟩
 have h0:w0.heap.size<=w.heap.size:=h.below.size
 have hnb: ∀i cs,lk st.b i=some cs->w'.heap[L.bx i]? =w.heap[L.bx i]? :=fun i cs hi=>hg.block _ (h.ownb i cs hi).2.1 fun e=>by
  obtain⟨A,h1,h2⟩:=hrow _ e.symm
  exact h.injx i id cs A hi h1 h2
 have hna: ∀i A,i≠id->lk st.a i=some A->w'.heap[L.ab i]? =w.heap[L.ab i]? :=fun i A hi hA=>hg.block _ (h.owna i A hA).2.1 fun e=>by
  obtain⟨A',h1,h2⟩:=hrow _ e.symm
  exact hi (h.inja i id A A' hA h1 h2)
 have hzid: ∀p,¬Z p (L'.ab id):=fun p hp=>by
  rcases hblk with⟨A,h1,h2⟩|h1
  ·exact(h.owna id A h1).2.2 p (h2▸hp)
  ·have:=h.zb p _ hp;omega
 have habI: ∀i A,i≠id->lk st.a i=some A->L'.ab i≠L'.ab id:=fun i A hi hA e=>by
  rw[hl.ab i (hpa i hi)]at e
  rcases hblk with⟨A',h1,h2⟩|h1
  ·exact hi (h.inja i id A A' hA h1 (e.trans h2))
  ·have:=(h.owna i A hA).2.1;omega
 have hR := Rest.keep h.rest hk (fun _ _ h => h) (fun _ _ _ _ _ hp => hp) (fun b o hb hc => hg.block b (qac hb) (fun e => by
   obtain⟨A,h1,h2⟩:=hrow b e.symm
   obtain⟨cur,hX⟩:=h.arrs id A h1
   exact hX.notCells hb hc h2)) hg.size hl (m' :=st.m) (fun i M hM=>⟨hM,(St.noTo_map hn hM)⟩)
 refine⟨h.zt,h.z0,h.zn,fun p b hp=>Nat.lt_of_lt_of_le (h.zb p b hp) hg.size,h.below.grown hg h0 (fun k hk=> ?_),?_,?_,?_,?_,?_,?_,?_,hR.1,hR.2.1,hR.2.2.1,hR.2.2.2.1,by rw[hy];exact h.yb,h.size,hR.2.2.2.2,?_⟩
 ·obtain⟨A,h1,h2⟩:=hrow k hk
  exact h2▸(h.owna id A h1).1
 ·intro i cs hi
  rw[hl.bx i rfl]
  obtain⟨h1,h2,h3⟩:=h.ownb i cs hi
  exact⟨h1,Nat.lt_of_lt_of_le h2 hg.size,h3⟩
 ·intro i A hi
  rw[qa2]at hi
  by_cases e:id=i
  ·subst e
   refine⟨?_,hlt,hzid⟩
   rcases hblk with⟨A,h1,h2⟩|h1
   ·rw[h2];exact(h.owna id A h1).1
   ·omega
  ·rw[if_neg e]at hi
   rw[hl.ab i (hpa i (Ne.symm e))]
   obtain⟨h1,h2,h3⟩:=h.owna i A hi
   exact⟨h1,Nat.lt_of_lt_of_le h2 hg.size,h3⟩
 ·intro i j x y hx hy he
  rw[hl.bx i rfl,hl.bx j rfl]at he
  exact h.injb i j x y hx hy he
 ·intro i j x y hx hy he
  rw[qa2]at hx hy
  by_cases e1:id=i<;>by_cases e2:id=j
  ·rw[<- e1,<- e2]
  ·subst e1;rw[if_neg e2]at hy;exact absurd he.symm (habI j y (Ne.symm e2) hy)
  ·subst e2;rw[if_neg e1]at hx;exact absurd he (habI i x (Ne.symm e1) hx)
  ·rw[if_neg e1]at hx;rw[if_neg e2]at hy
   rw[hl.ab i (hpa i (Ne.symm e1)),hl.ab j (hpa j (Ne.symm e2))]at he
   exact h.inja i j x y hx hy he
 ·intro i j x y hx hy he
  rw[qa2]at hy
  rw[hl.bx i rfl]at he
  by_cases e:id=j
  ·subst e
   rcases hblk with⟨A,h1,h2⟩|h1
   ·exact h.injx i id x A hx h1 (he.trans h2)
   ·have:=(h.ownb i x hx).2.1;omega
  ·rw[if_neg e]at hy
   rw[hl.ab j (hpa j (Ne.symm e))]at he
   exact h.injx i j x y hx hy he
 ·intro i cs hi
  exact(h.boxes i cs hi).keep hk (fun _ _ h=>h) (hnb i cs hi) hl rfl (St.noTo_box hn hi)
 ·intro i A hi
  rw[qa2]at hi
  by_cases e:id=i
  ·subst e;rw[if_pos rfl]at hi;cases hi;exact⟨cur,hx⟩
  ·rw[if_neg e]at hi
   obtain⟨c,hX⟩:=h.arrs i A hi
   exact⟨c,hX.keep hk (fun _ _ h=>h) (hna i A (Ne.symm e) hi) hl (hpa i (Ne.symm e))⟩
 ·intro i v hi
  exact(h.slots i v hi).keep hk (fun _ _ h=>h) hl (St.noTo_slot hn hi)
theorem Inv.setBox (h : Inv w0 Z0 N Z L st a w) {w' : World} {row : Option Nat} {id : Nat} (hg : w.grownBy w' row) (hrow : ∀ k, row = some k -> ∃ A, lk st.b id = some A /\ k = L.bx id)
  {L' :Lay} (hl:LSame L L' pb nul) (hpb: ∀i,i≠id->pb i=false) (hblk:(∃A,lk st.b id=some A/\L'.bx id=L.bx id)\/w.heap.size<=L'.bx id) (hlt:L'.bx id<w'.heap.size)
  (hn:st.noTo pb nul=true) {cs' :List PV} (hx:BR w' Z L' id cs') (hy:L'.yb=L.yb:=by rfl):Inv w0 Z0 N Z L' { st with b:=up st.b id cs' } a w' :=by
 have hrz: ∀p b,Z p b->some b≠row:=fun p b hp e=>by
  obtain⟨A,h1,h2⟩:=hrow b e.symm
  exact(h.ownb id A h1).2.2 p (h2▸hp)
 have hk:Kept Z w w' :=⟨fun p b hp=>hg.block b (h.zb p b hp) (hrz p b hp)⟩
 have h0:w0.heap.size<=w.heap.size:=h.below.size
 have hna: ∀i A,lk st.a i=some A->w'.heap[L.ab i]? =w.heap[L.ab i]? :=fun i A hi=>hg.block _ (h.owna i A hi).2.1 fun e=>by
  obtain⟨cs,h1,h2⟩:=hrow _ e.symm
  exact h.injx id i cs A h1 hi h2.symm
 have hnb: ∀i A,i≠id->lk st.b i=some A->w'.heap[L.bx i]? =w.heap[L.bx i]? :=fun i A hi hA=>hg.block _ (h.ownb i A hA).2.1 fun e=>by
  obtain⟨A',h1,h2⟩:=hrow _ e.symm
  exact hi (h.injb i id A A' hA h1 h2)
 have hzid: ∀p,¬Z p (L'.bx id):=fun p hp=>by
  rcases hblk with⟨A,h1,h2⟩|h1
  ·exact(h.ownb id A h1).2.2 p (h2▸hp)
  ·have:=h.zb p _ hp;omega
 have hbxI: ∀i A,i≠id->lk st.b i=some A->L'.bx i≠L'.bx id:=fun i A hi hA e=>by
  rw[hl.bx i (hpb i hi)]at e
  rcases hblk with⟨A',h1,h2⟩|h1
  ·exact hi (h.injb i id A A' hA h1 (e.trans h2))
  ·have:=(h.ownb i A hA).2.1;omega
 have hR := Rest.keep h.rest hk (fun _ _ h => h) (fun _ _ _ _ _ hp => hp) (fun b o hb hc => hg.block b (qac hb) (fun e => by
   obtain⟨A,h1,h2⟩:=hrow b e.symm
   exact(h.boxes id A h1).notCells hb hc h2)) hg.size hl (m' :=st.m) (fun i M hM=>⟨hM,(St.noTo_map hn hM)⟩)
 refine⟨h.zt,h.z0,h.zn,fun p b hp=>Nat.lt_of_lt_of_le (h.zb p b hp) hg.size,h.below.grown hg h0 (fun k hk=> ?_),?_,?_,?_,?_,?_,?_,?_,hR.1,hR.2.1,hR.2.2.1,hR.2.2.2.1,by rw[hy];exact h.yb,h.size,hR.2.2.2.2,?_⟩
 ·obtain⟨A,h1,h2⟩:=hrow k hk
  exact h2▸(h.ownb id A h1).1
 ·intro i A hi
  rw[qa2]at hi
  by_cases e:id=i
  ·subst e
   refine⟨?_,hlt,hzid⟩
   rcases hblk with⟨A,h1,h2⟩|h1
   ·rw[h2];exact(h.ownb id A h1).1
   ·omega
  ·rw[if_neg e]at hi
   rw[hl.bx i (hpb i (Ne.symm e))]
   obtain⟨h1,h2,h3⟩:=h.ownb i A hi
   exact⟨h1,Nat.lt_of_lt_of_le h2 hg.size,h3⟩
 ·intro i A hi
  rw[hl.ab i rfl]
  obtain⟨h1,h2,h3⟩:=h.owna i A hi
  exact⟨h1,Nat.lt_of_lt_of_le h2 hg.size,h3⟩
 ·intro i j x y hx hy he
  rw[qa2]at hx hy
  by_cases e1:id=i<;>by_cases e2:id=j
  ·rw[<- e1,<- e2]
  ·subst e1;rw[if_neg e2]at hy;exact absurd he.symm (hbxI j y (Ne.symm e2) hy)
  ·subst e2;rw[if_neg e1]at hx;exact absurd he (hbxI i x (Ne.symm e1) hx)
  ·rw[if_neg e1]at hx;rw[if_neg e2]at hy
   rw[hl.bx i (hpb i (Ne.symm e1)),hl.bx j (hpb j (Ne.symm e2))]at he
   exact h.injb i j x y hx hy he
 ·intro i j x y hx hy he
  rw[hl.ab i rfl,hl.ab j rfl]at he
  exact h.inja i j x y hx hy he
 ·intro i j x y hx hy he
  rw[qa2]at hx
  rw[hl.ab j rfl]at he
  by_cases e:id=i
  ·subst e
   rcases hblk with⟨A,h1,h2⟩|h1
   ·exact h.injx id j A y h1 hy (h2.symm.trans he)
   ·have:=(h.owna j y hy).2.1;omega
  ·rw[if_neg e]at hx
   rw[hl.bx i (hpb i (Ne.symm e))]at he
   exact h.injx i j x y hx hy he
 ·intro i cs hi
  rw[qa2]at hi
  by_cases e:id=i
  ·subst e;rw[if_pos rfl]at hi;cases hi;exact hx
  ·rw[if_neg e]at hi
   exact(h.boxes i cs hi).keep hk (fun _ _ h=>h) (hnb i cs (Ne.symm e) hi) hl (hpb i (Ne.symm e)) (St.noTo_box hn hi)
 ·intro i A hi
  obtain⟨c,hX⟩:=h.arrs i A hi
  exact⟨c,hX.keep hk (fun _ _ h=>h) (hna i A hi) hl rfl⟩
 ·intro i v hi
  exact(h.slots i v hi).keep hk (fun _ _ h=>h) hl (St.noTo_slot hn hi)
def PV.fz(id:Nat)(A:Arr):PV->PV
 | .view i lo n=>if i=id then .sl true A.es ((A.xs.drop lo).take n)else .view i lo n
 | .eptr i j off=>if i=id then .iptr true (A.xs.getD j []) off else .eptr i j off
 |c=>c
def PV.fzA(id:Nat)(A:Arr):PV->PV
 | .agg cs=> .agg (cs.map (PV.fz id A))
 |c=>c.fz id A
def PV.fzV(id:Nat)(A:Arr):PV->PV
 | .tup cs=> .tup (cs.map (PV.fzA id A))
 |c=>c.fzA id A
def St.frz(st:St)(id:Nat):St:=
 match lk st.a id with
 |some A=> { s:=st.s.map fun x=>(x.1,x.2.fzV id A),b:=st.b.map fun x=>(x.1,x.2.map (PV.fz id A)),a:=rm st.a id,m:=st.m }
 |none=>st
theorem CR.fz{Z' :Zone}{id:Nat}{A:Arr}{cur:Array Value}(hX:XR w Z L id A cur)(hz: ∀p b,Z p b->Z' p b)(hid:Z' true (L.ab id)){c:PV}{v:Value}(h:CR w Z L c v):CR w Z' L (c.fz id A) v:=by
 have hk:Kept Z w w:=⟨fun _ _ _=>rfl⟩
 cases c with
 |view i lo n=>
   simp only[PV.fz]
   split
   ·rename_i e;subst e
    obtain⟨ad,c',rfl,h1,h2,h3,h4,h5⟩:=h
    rw[hX.al]at h3
    have hlen:((A.xs.drop lo).take n).length=n:=by simp;omega
    by_cases hn:n=0
    ·subst hn
     rw[List.take_zero]
     exact TR.sl0 _ _ _ _ h2
    ·rw[h4 (by omega)]
     show TR w Z' _ _
     have:=TR.sl (w:=w) (Z:=Z') true A.es ((A.xs.drop lo).take n) (L.ab i) (lo*L.ae i) c' (fun p q=>cur.getD ((lo+p)*A.es+q) undef) hX.pos hid (by omega) (by omega) h2
      (fun x hx=>hX.rows x (List.mem_of_mem_drop (List.mem_of_mem_take hx)))
      (fun p q hp hq=>by
       rw[hlen]at hp
       have hpl:lo+p<A.xs.length:=by omega
       have hlt:(lo+p)*A.es+q<cur.size:=by rw[hX.size];exact Nat.lt_of_lt_of_le (qan hpl hq) (Nat.mul_le_mul_right _ hX.fits)
       have hrow:=hX.rows _ (List.getElem_mem hpl)
       have hx' :=hX.cell (lo+p) q _ (A.xs[lo+p])[q] (zL hpl) (zL (by omega))
       refine⟨?_,hx'.2⟩
       rw[cell_of_row w _ _ _ _ _ hX.blk,hX.ae,<- Nat.add_assoc,<- Nat.add_mul]
       simp[Array.getD,hlt])
      (fun p q x c hp hq=>by
       rw[List.getElem?_take]at hp
       split at hp
       ·rw[List.getElem?_drop]at hp
        exact(hX.cell _ _ _ _ hp hq).1.keep hk hz
       ·cases hp)
     rw[hlen]at this
     exact this
   ·exact h
 |eptr i j off=>
   simp only[PV.fz]
   split
   ·rename_i e;subst e
    obtain⟨rfl,h1⟩:=h
    rw[hX.al]at h1
    have hl:=hX.lies h1
    show TR w Z' _ _
    refine TR.iptr true _ (L.ab i) (j*L.ae i) off (fun q=>cur.getD (j*A.es+q) undef) hid (fun q hq=>⟨hl.cell q hq,?_⟩) (fun q c hq=> ?_)
    ·exact(hl.rel q _ (zL hq)).2
    ·rw[zK,zL h1]at hq
     exact(hX.cell j q _ c (zL h1) hq).1.keep hk hz
   ·exact h
 |_=>exact CR.keep' hk hz h
where
 CR.keep' {w w' :World} {Z Z' :Zone} {L:Lay} {c:PV} {v:Value} (hk:Kept Z w w') (hz: ∀p b,Z p b->Z' p b) (h:CR w Z L c v):CR w' Z' L c v:=h.keep hk hz (LSame.refl L) (PV.to_nul c)
theorem CM.fz{Z' :Zone}{id:Nat}{A:Arr}{cur:Array Value}(hX:XR w Z L id A cur)(hz: ∀p b,Z p b->Z' p b)(hid:Z' true (L.ab id)){c:PV}{v:Value}(h:CM w Z L c v):CM w Z' L (c.fz id A) v:=
 ⟨h.1.fz hX hz hid,h.2⟩
theorem AR.fz{Z' :Zone}{id:Nat}{A:Arr}{cur:Array Value}(hX:XR w Z L id A cur)(hz: ∀p b,Z p b->Z' p b)(hid:Z' true (L.ab id)){c:PV}{v:Value}(h:AR w Z L c v):AR w Z' L (c.fzA id A) v:=by
 cases c with
 |agg cs=>
   obtain⟨vs,h1,h2,h3⟩:=h
   refine⟨vs,h1,by simpa using h2,fun j c hj=> ?_⟩
   rw[zS]at hj
   obtain⟨c',h4,rfl⟩:=zR.1 hj
   exact(h3 j c' h4).fz hX hz hid
 |_=>exact AR.cr (CR.fz hX hz hid (AR.toCR (by simp) h))
theorem VR.fz{Z' :Zone}{id:Nat}{A:Arr}{cur:Array Value}(hX:XR w Z L id A cur)(hz: ∀p b,Z p b->Z' p b)(hid:Z' true (L.ab id)){c:PV}{v:Value}(h:VR w Z L c v):VR w Z' L (c.fzV id A) v:=by
 cases c with
 |tup cs=>
   obtain⟨vs,h1,h2,h3⟩:=h
   refine⟨vs,h1,by simpa using h2,fun j c hj=> ?_⟩
   rw[zS]at hj
   obtain⟨c',h4,rfl⟩:=zR.1 hj
   exact(h3 j c' h4).fz hX hz hid
 |_=>exact VR.ar (AR.fz hX hz hid (VR.toAR (by simp) h))
theorem Inv.frz(h:Inv w0 Z0 N Z L st a w)(id:Nat): ∃Z',Inv w0 Z0 N Z' L (st.frz id) a w:=by
 unfold St.frz
 split
 ·rename_i A hA
  obtain⟨cur,hX⟩:=h.arrs id A hA
  obtain⟨o1,o2,o3⟩:=h.owna id A hA
  have hk:Kept Z w w:=⟨fun _ _ _=>rfl⟩
  have hz: ∀p b,Z p b->(Z p b\/b=L.ab id):=fun _ _ h=> .inl h
  have hR:=h.rest.keep (Z' :=fun p b=>Z p b\/b=L.ab id) hk hz (fun b o p hb hc hp=>hp.elim (fun e=>e) (fun e=>absurd e (hX.notCells hb hc))) (fun _ _ _ _=>rfl) (Nat.le_refl _) (LSame.refl L) (m' :=st.m)
   (fun i M hM=>⟨hM,rfl,by unfold Mp.to;split<;>rfl⟩)
  refine⟨fun p b=>Z p b\/b=L.ab id,fun b hb=>hb.imp (h.zt b) (fun e=>e),fun p b hp=> .inl (h.z0 p b hp),?_,?_,h.below,?_,?_,?_,?_,?_,?_,?_,hR.1,hR.2.1,hR.2.2.1,hR.2.2.2.1,h.yb,h.size,hR.2.2.2.2,?_⟩
  ·rintro p b (hp|rfl)
   ·exact h.zn p b hp
   ·exact .inr o1
  ·rintro p b (hp|rfl)
   ·exact h.zb p b hp
   ·exact o2
  ·intro i cs hl
   obtain⟨u,h1,_⟩:=qbK st.b _ i cs hl
   obtain⟨p1,p2,p3⟩:=h.ownb i u h1
   exact⟨p1,p2,fun p hp=>hp.elim (p3 p) (fun e=>h.injx i id u A h1 hA e)⟩
  ·intro i B hl
   rw[qa4]at hl
   by_cases e:id=i
   ·rw[if_pos e]at hl;cases hl
   ·rw[if_neg e]at hl
    obtain⟨p1,p2,p3⟩:=h.owna i B hl
    exact⟨p1,p2,fun p hp=>hp.elim (p3 p) (fun e' =>e (h.inja i id B A hl hA e').symm)⟩
  ·intro i j x y hx hy
   obtain⟨u,h1,_⟩:=qbK st.b _ _ _ hx
   obtain⟨u',h2,_⟩:=qbK st.b _ _ _ hy
   exact h.injb i j u u' h1 h2
  ·intro i j x y hx hy
   rw[qa4]at hx hy
   split at hx
   ·cases hx
   ·split at hy
    ·cases hy
    ·exact h.inja i j x y hx hy
  ·intro i j x y hx hy
   obtain⟨u,h1,_⟩:=qbK st.b _ _ _ hx
   rw[qa4]at hy
   split at hy
   ·cases hy
   ·exact h.injx i j u y h1 hy
  ·intro i cs hl
   obtain⟨u,h1,rfl⟩:=qbK st.b _ i cs hl
   obtain⟨vs,T,h2,h3,h4⟩:=h.boxes i u h1
   refine⟨vs,T,h2,by simpa using h3,fun j c hj=> ?_⟩
   rw[zS]at hj
   obtain⟨c',h5,rfl⟩:=zR.1 hj
   exact(h4 j c' h5).fz hX hz (.inr rfl)
  ·intro i B hl
   rw[qa4]at hl
   split at hl
   ·cases hl
   ·obtain⟨c,hc⟩:=h.arrs i B hl
    exact⟨c,hc.keep hk hz rfl (LSame.refl L) rfl⟩
  ·intro i v hl
   obtain⟨u,h1,rfl⟩:=qbK st.s _ i v hl
   exact(h.slots i u h1).fz hX hz (.inr rfl)
 ·exact⟨Z,h⟩
end
end Go.Vc
namespace Go.Vc
open Go Go.RowKit
def qbL:List PV->List Nat
 |[]=>[]
 | .view id _ _::r=>id::qbL r
 | .eptr id _ _::r=>id::qbL r
 |_::r=>qbL r
def St.frzs(st:St)(cs:List PV):St:=(qbL cs).foldl St.frz st
def qbM:PV->Bool
 | .sc _| .nil| .sl .. | .iptr .. =>true
 |_=>false
def frzParts:St->List (Nat×Opd)->St
 |st,[]=>st
 |st,(_,x)::r=>frzParts (st.frzs (cellsOf (x.ev st))) r
def bslF(st:St)(es:Nat):List (Nat×Opd)->List (List PV)->Prop×List (List PV)
 |[],rows=>(True,rows)
 |(j,x)::r,rows=>
   let q:=bslF st es r (rows.set j (cellsOf (x.ev st)))
   (qas (x.ev st)=true/\(cellsOf (x.ev st)).all qbM=true/\(cellsOf (x.ev st)).length=es/\j<rows.length/\q.1,q.2)
def qbN(st:St)(es:Nat):PV->Prop×List (List PV)
 | .nil=>(True,[])
 | .sl _ es' ys=>(es' =es,ys)
 | .view id lo n=>match lk st.a id with|some A=>(A.es=es,(A.xs.drop lo).take n)|none=>(False,[])
 |_=>(False,[])
def St.newBox(st:St)(i:Nat)(cs:List PV):St:=
 let st' :=st.kill (fun j=>j==i) nul
 { s:=up st'.s i (.ptr i 0),b:=up st'.b i cs,a:=st'.a,m:=st'.m }
def St.newArr(st:St)(i:Nat)(A:Arr):St:=
 let st' :=st.kill nul (fun j=>j==i)
 { s:=up st'.s i (.view i 0 A.xs.length),b:=st'.b,a:=up st'.a i A,m:=st'.m }
def St.newBx(st:St)(i es:Nat)(cs:List PV)(n:Nat):St:=
 let st' :=st.kill (fun j=>j==i) nul
 { s:=up st'.s i (.bv i es n),b:=up st'.b i cs,a:=st'.a,m:=st'.m }
def St.growBx(st:St)(i id es:Nat)(cs:List PV)(n:Nat):St:=
 let st' :=st.kill (fun j=>j==id) nul
 { s:=up st'.s i (.bv id es n),b:=up st'.b id cs,a:=st'.a,m:=st'.m }
def St.newMap(st:St)(i:Nat)(M:Mp):St:=
 let st' :=st.kill (fun j=>j==i) nul
 { s:=up st'.s i (.mp i),b:=rm st'.b i,a:=st'.a,m:=up st'.m i M }
def qbO:PV->Bool
 | .agg cs=>cs.all qbM
 |c=>qbM c
def cpyF(xs:List (List PV))(lo:Nat)(ys:List (List PV)):List (List PV):=xs.take lo++ys++xs.drop (lo+ys.length)
def hev(st:St)(d:Option Nat):AOp->Prop×St
 | .alc zero=>match d with|some i=>(True,st.newBox i zero)|none=>(False,st)
 | .box x=>match d with|some i=>(qas (x.ev st)=true/\(cellsOf (x.ev st)).any (PV.to (fun j=>j==i) nul)=false,st.newBox i (cellsOf (x.ev st)))|none=>(False,st)
 | .bsl es ty zero n parts => match d with
   |some i=>let st1:=frzParts st parts;let q:=bslF st1 es parts (List.replicate n zero);((0<es/\zero.length=es/\n*es<=16777216)/\q.1,st1.newArr i ⟨es,ty,q.2⟩)
   |none=>(False,st)
 | .mks es ty by_ zero l c => match d, l.ev st, c.ev st with
   |some i,.sc (.int _ n),.sc (.int _ m)=>((0<es/\zero.length=es)/\0<=n/\n<=m/\m.toNat*by_<=140737488355328/\m<=9223372036854775807,st.newArr i ⟨es,ty,List.replicate n.toNat zero⟩)
   |_,_,_=>(False,st)
 | .sto sz x v => match x.ev st with
   | .ptr id off => match lk st.b id with
     |some cs=>((qas (v.ev st)=true/\(cellsOf (v.ev st)).length=sz)/\off+sz<=cs.length,{ st with b:=up st.b id (spl cs off (cellsOf (v.ev st))) })
     |none=>(False,st)
   | .eptr id i off => let st1 := st.frzs (cellsOf (v.ev st)); match lk st1.a id with
     | some A => (((qas (v.ev st1) = true /\ (cellsOf (v.ev st1)).all qbM = true) /\ (cellsOf (v.ev st1)).length = sz /\ x.ev st1 = .eptr id i off) /\ off + sz <= A.es /\ i < A.xs.length,
       { st1 with a:=up st1.a id { A with xs:=A.xs.set i (spl (A.xs.getD i []) off (cellsOf (v.ev st1))) } })
     |none=>(False,st1)
   |_=>(False,st)
 | .app es ty by_ s x => let q := qbN st es (x.ev st); match d, s.ev st with
   | some i, .nil => match q.2 with
     |[]=>(0<es/\q.1,{ st with s:=up st.s i .nil })
     |y::r=>((0<es/\q.1)/\(r.length+1)*by_<=140737488355328/\r.length+1<=9223372036854775807,st.newArr i ⟨es,ty,y::r⟩)
   | some i, .view id lo n => match lk st.a id with
     | some A => let st' := st.kill nul (fun j => j == id);
       (((lo = 0 /\ A.es = es /\ A.ty = ty) /\ q.1) /\ n = A.xs.length /\ (n + q.2.length) * by_ <= 140737488355328 /\ n + q.2.length <= 9223372036854775807,
         { s:=up st'.s i (.view id 0 (n+q.2.length)),b:=st'.b,a:=up st'.a id { A with xs:=A.xs++q.2 },m:=st'.m })
     |none=>(False,st)
   |_,_=>(False,st)
 | .cpy es x y => let q := qbN st es (y.ev st); match x.ev st with
   | .view id lo n => match lk st.a id with
     |some A=>((0<es/\A.es=es)/\q.1,({ st with a:=up st.a id { A with xs:=cpyF A.xs lo (q.2.take n) } } :St).put d (.int (min q.2.length n:Nat)))
     |none=>(False,st)
   |_=>(False,st)
 | .mkm kd=>match d with|some i=>(True,st.newMap i ⟨kd,[],none⟩)|none=>(False,st)
 | .mup kd x k v => match x.ev st, keyV (k.ev st) with
   | .mp id, some kv => match lk st.m id with
     |some M=>((M.kd=kd/\kd.has kv=true)/\qbO (v.ev st)=true,{ st with m:=up st.m id ⟨kd,mput M.es kv (v.ev st),none⟩ })
     |none=>(False,st)
   |_,_=>(False,st)
 | .men kd zero x k => match d, x.ev st, keyV (k.ev st) with
   | some i, .mp id, some kv => match lk st.m id with
     | some M => match M.it with
       |some (.stp l c)=>(((M.kd=kd/\kd.has kv=true)/\mget M.es kv=none)/\qbO zero=true,({ st with m:=up st.m id ⟨kd,M.es++[(kv,zero)],some (.stp (l++[c]) (c+1))⟩ } :St).put (some i) (.tup [zero,.sc (.int .i64 c)]))
       |_=>(False,st)
     |none=>(False,st)
   |_,_,_=>(False,st)
 | .est x s v => match x.ev st, s.ev st with
   | .mp id, .sc (.int .i64 n) => match lk st.m id with
     | some M => match M.it with
       | some (.stp l c) => match l.findIdx? (fun (q : Nat) => (q : Int) == n) with
         |some j=>(qbO (v.ev st)=true,{ st with m:=up st.m id ⟨M.kd,M.es.modify j fun y=>(y.1,v.ev st),none⟩ })
         |none=>(False,st)
       |_=>(False,st)
     |none=>(False,st)
   |_,_=>(False,st)
 | .rng x => match d, x.ev st with
   | some i, .mp id => match lk (st.kill (fun j => j == i) nul).m id with
     |some M=>(True,{ s:=up (st.kill (fun j=>j==i) nul).s i (.itr id i),b:=rm (st.kill (fun j=>j==i) nul).b i,a:=st.a,m:=up (st.kill (fun j=>j==i) nul).m id { M with it:=some (.run i M.es none) } })
     |none=>(False,st)
   |_,_=>(False,st)
 |_=>(False,st)
def byIs(P:Program)(t n:Nat):Bool:=match P.info? t with|some i=>i.bytes==n|none=>false
def qbP(κ:Sh):List (Nat×Opd)->List (Nat×Operand)->Bool
 |[],[]=>true
 |(i,x)::r,(j,y)::s=>i==j&&qai κ x y&&qbP κ r s
 |_,_=>false
def okH(P:Program)(κ:Sh):AOp->Op->Bool
 | .alc zero,.alloc t=>qaz P t zero
 | .box x,.box _ y=>qai κ x y
 | .bsl es ty zero n parts,.buildSlice t m ps=>(match P.underlying t with|some (.slice e)=>e==ty&&szIs P e es&&qaz P e zero|_=>false)&&n==m&&qbP κ parts ps.toList
 | .mks es ty by_ zero l c,.makeSlice t l' c' =>(match P.underlying t with|some (.slice e)=>e==ty&&szIs P e es&&qaz P e zero&&byIs P e by_|_=>false)&&qai κ l l' &&qai κ c c'
 | .sto sz x v,.store t y u=>szIs P t sz&&qai κ x y&&qai κ v u
 | .app es ty by_ s x, .call { callee := .builtin .append, args, argTypes } => (match args.toList, argTypes.toList with
   |[s',x'],[t,t']=>qai κ s s' &&qai κ x x' &&t==t' &&(match P.underlying t with|some (.slice e)=>e==ty&&szIs P e es&&byIs P e by_&&(match P.info? e with|some i=>(match i.zero with|some z=>z.cells.size==es|none=>false)|none=>false)|_=>false)
   |_,_=>false)
 | .cpy es x y, .call { callee := .builtin .copy, args, argTypes } => (match args.toList, argTypes.toList with
   |[x',y'],[t,_]=>qai κ x x' &&qai κ y y' &&(match P.underlying t with|some (.slice e)=>szIs P e es|_=>false)
   |_,_=>false)
 |_,_=>false
section
variable {w0:World} {Z0:Zone} {N:Fr} {Z:Zone} {L:Lay} {st:St} {a:Act} {w:World} {P:Program}
def Runs(P:Program)(w0:World)(Z0:Zone)(N:Fr)(w:World)(a:Act)(op:Op)(d:Option Nat)(st' :St):Prop:=
 ∃(v:Value) (n:Next) (w' :World),(n= .value v\/(n= .skip/\v=undef))/\
  (∀(ty:TypeId) (pos:String) (after:Array Edge) (g:Option (Nat×Bool)),(execOp a.eval ⟨d,op,ty,pos,after,g⟩).run P w= .ok n w')/\ ∃Z' L',Inv w0 Z0 N Z' L' st' (a.put d v) w'
theorem qbQ(w:World)(o:Obj):w.grownBy (w.alloc o) none:=World.grownBy_alloc w o none
theorem Inv.newBox (h : Inv w0 Z0 N Z L st a w) {i i' : Nat} (hi : N.dst (some i) (some i')) {cs : List PV} {vs : Array Value} (T : TypeId) (hs : vs.size = cs.length) (hc : ∀ j c, cs[j]? = some c -> CM w Z L c (vs.getD j undef))
  (hn:cs.any (PV.to (fun j=>j==i) nul)=false): ∃Z' L',Inv w0 Z0 N Z' L' (st.newBox i cs) (a.put (some i') (.pointer (some ⟨w.heap.size,0,none⟩))) (w.alloc (.cells vs T)):=by
 have hl:LSame L { L with bx:=fun j=>if j=i then w.heap.size else L.bx j,bc:=fun j=>if j=i then vs.size else L.bc j } (fun j=>j==i) nul:=⟨fun j hj=>by simp only[beq_eq_false_iff_ne]at hj;simp[hj],fun _ _=>rfl,fun _ _=>rfl,fun _ _=>rfl,fun _ _=>rfl,fun _ _=>rfl,fun j hj=>by simp only[beq_eq_false_iff_ne]at hj;simp[hj]⟩
 have hk:Kept Z w (w.alloc (.cells vs T)):=⟨fun p b hp=>Below.heap_alloc _ _ _ (h.zb p b hp)⟩
 have h1:=(h.kill (fun j=>j==i) nul).setBox (qbQ w (.cells vs T)) (row:=none) (by simp) (id:=i) hl (fun j hj=>by simpa using hj) (.inr (by simp)) (by simp) (St.noTo_kill st _ _)
  (cs' :=cs) ⟨vs,T,by simp only[if_true];exact heap_alloc_new w _,⟨Nat.le_of_eq hs.symm,by simp⟩,fun j c hj=>(hc j c hj).keep hk (fun _ _ h=>h) hl (qa1 hn hj)⟩
 exact⟨_,_,h1.put (d:=some i) (d' :=some i') hi (v:= .ptr i 0) (by simp[VR,AR,CR])⟩
theorem Inv.newBx (h : Inv w0 Z0 N Z L st a w) {i i' : Nat} (hi : N.dst (some i) (some i')) (es n : Nat) (hm : n <= maxLen) {cs : List PV} {vs : Array Value} (T : TypeId) (hs : vs.size = cs.length) (hc : ∀ j c, cs[j]? = some c -> CM w Z L c (vs.getD j undef))
  (hn:cs.any (PV.to (fun j=>j==i) nul)=false) (hen:n*es=cs.length): ∃Z' L',Inv w0 Z0 N Z' L' (st.newBx i es cs n) (a.put (some i') (.slice (some ⟨w.heap.size,0,none⟩) n n)) (w.alloc (.cells vs T)):=by
 have hl:LSame L { L with bx:=fun j=>if j=i then w.heap.size else L.bx j,bc:=fun j=>if j=i then vs.size else L.bc j } (fun j=>j==i) nul:=⟨fun j hj=>by simp only[beq_eq_false_iff_ne]at hj;simp[hj],fun _ _=>rfl,fun _ _=>rfl,fun _ _=>rfl,fun _ _=>rfl,fun _ _=>rfl,fun j hj=>by simp only[beq_eq_false_iff_ne]at hj;simp[hj]⟩
 have hk:Kept Z w (w.alloc (.cells vs T)):=⟨fun p b hp=>Below.heap_alloc _ _ _ (h.zb p b hp)⟩
 have h1:=(h.kill (fun j=>j==i) nul).setBox (qbQ w (.cells vs T)) (row:=none) (by simp) (id:=i) hl (fun j hj=>by simpa using hj) (.inr (by simp)) (by simp) (St.noTo_kill st _ _)
  (cs' :=cs) ⟨vs,T,by simp only[if_true];exact heap_alloc_new w _,⟨Nat.le_of_eq hs.symm,by simp⟩,fun j c hj=>(hc j c hj).keep hk (fun _ _ h=>h) hl (qa1 hn hj)⟩
 exact⟨_,_,h1.put (d:=some i) (d' :=some i') hi (v:= .bv i es n) ⟨n,by simp,Nat.le_refl _,hm,by simp only[if_true];omega⟩⟩
theorem qbR(h:Inv w0 Z0 N Z L st a w){i i' :Nat}(hi:N.dst (some i) (some i')){x:Opd}{op:Op}(hm:okH P N.sh (.box x) op=true)(hv:(hev st (some i) (.box x)).1):Runs P w0 Z0 N w a op (some i') (hev st (some i) (.box x)).2:=by
 cases op<;>simp only[okH]at hm<;>first|(exact absurd hm zQ)|skip
 rename_i t y
 simp only[hev]at hv ⊢
 obtain⟨h1,h2⟩:=(h.ev hm).cells hv.1
 exact⟨_,_,_,.inl rfl,fun _ _ _ _=>by simp[execOp,Instr.box,newVar,newRow],h.newBox hi t h1 h2 hv.2⟩
theorem qbS(h:Inv w0 Z0 N Z L st a w){i i' :Nat}(hi:N.dst (some i) (some i')){zero:List PV}{op:Op}(hm:okH P N.sh (.alc zero) op=true):Runs P w0 Z0 N w a op (some i') (hev st (some i) (.alc zero)).2:=by
 cases op<;>simp only[okH]at hm<;>first|(exact absurd hm zQ)|skip
 rename_i t
 obtain⟨ti,z,hti,hz,hzl,hzc⟩:=qbz hm
 simp only[hev]
 refine⟨_,_,_,.inl rfl,fun _ _ _ _=>by simp[execOp,Instr.alloc,zeroValue,typeInfo,hti,hz,newVar,newRow],h.newBox hi t hzl.symm (fun j c hj=>⟨(hzc w Z j c hj).1.cr L,(hzc w Z j c hj).2⟩) ?_⟩
 rw[yD]
 intro c hc
 obtain⟨j,hj⟩:=List.getElem?_of_mem hc
 have:=(hzc w Z j c hj).1
 generalize z.cells.getD j undef=u at this
 cases this<;>simp[PV.to]
theorem Inv.newArr (h : Inv w0 Z0 N Z L st a w) {i i' : Nat} (hi : N.dst (some i) (some i')) {A : Arr} {cur : Array Value} {cap : Nat} {w' : World} (hg : w.grownBy w' none) {g : Nat} (hgn : w.heap.size <= g) (hgl : g < w'.heap.size)
  (hb:w'.heap[g]? =some (.cells cur A.ty (0,0))) (hpos:0<A.es) (hsize:cur.size=cap*A.es) (hfit:A.xs.length<=cap) (hmax:cap<=maxLen) (hrows: ∀x∈A.xs,x.length=A.es)
  (hcell: ∀p q x c,A.xs[p]? =some x->x[q]? =some c->TR w Z c (cur.getD (p*A.es+q) undef)/\(cur.getD (p*A.es+q) undef).oneCell' =true):
  ∃Z' L',Inv w0 Z0 N Z' L' (st.newArr i A) (a.put (some i') (.slice (some ⟨g,0,none⟩) A.xs.length cap)) w' :=by
 have hl:LSame L { L with ab:=fun j=>if j=i then g else L.ab j,ac:=fun j=>if j=i then cap else L.ac j,ae:=fun j=>if j=i then A.es else L.ae j,al:=fun j=>if j=i then A.xs.length else L.al j } nul (fun j=>j==i):=
  ⟨fun _ _=>rfl,fun j hj=>by simp only[beq_eq_false_iff_ne]at hj;simp[hj],fun j hj=>by simp only[beq_eq_false_iff_ne]at hj;simp[hj],fun j hj=>by simp only[beq_eq_false_iff_ne]at hj;simp[hj],fun j hj=>by simp only[beq_eq_false_iff_ne]at hj;simp[hj],fun _ _=>rfl,fun _ _=>rfl⟩
 have hk:Kept Z w w' :=⟨fun p b hp=>hg.block b (h.zb p b hp) (by simp)⟩
 have h1:=(h.kill nul (fun j=>j==i)).setArr hg (by simp) (id:=i) hl (fun j hj=>by simpa using hj) (.inr (by simpa using hgn)) (by simpa using hgl) (St.noTo_kill st _ _)
  (A' :=A) (cur:=cur) ⟨hpos,by simp,by simp,by simpa using hb,by simpa using hsize,by simpa using hfit,by simpa using hmax,hrows,fun p q x c hp hq=>⟨(hcell p q x c hp hq).1.keep hk (fun _ _ h=>h),(hcell p q x c hp hq).2⟩⟩
 exact⟨_,_,h1.put (d:=some i) (d' :=some i') hi (v:= .view i 0 A.xs.length) ⟨_,_,rfl,hfit,hmax,by simp,by simp,by simp⟩⟩
theorem Inv.frzs(h:Inv w0 Z0 N Z L st a w)(cs:List PV): ∃Z',Inv w0 Z0 N Z' L (st.frzs cs) a w:=by
 unfold St.frzs
 generalize qbL cs=l
 induction l generalizing st Z with
 |nil=>exact⟨Z,h⟩
 |cons i l ih=>
   obtain⟨Z1,h1⟩:=h.frz i
   exact ih h1
theorem Inv.frzParts(h:Inv w0 Z0 N Z L st a w)(ps:List (Nat×Opd)): ∃Z',Inv w0 Z0 N Z' L (frzParts st ps) a w:=by
 induction ps generalizing st Z with
 |nil=>exact⟨Z,h⟩
 |cons p ps ih=>
   obtain⟨Z1,h1⟩:=h.frzs (cellsOf (p.2.ev st))
   exact ih h1
theorem CM.pure{c:PV}{v:Value}(h:CM w Z L c v)(hp:qbM c=true):TR w Z c v/\v.oneCell' =true:=by
 refine⟨?_,h.2⟩
 have:=h.1
 cases c<;>simp[qbM]at hp<;>exact this
theorem qbT (h : Inv w0 Z0 N Z L st a w) (es : Nat) : ∀ (parts : List (Nat × Opd)) (ps : List (Nat × Operand)) (rows : List (List PV)) (vs : Array Value),
  qbP N.sh parts ps=true->(bslF st es parts rows).1->vs.size=rows.length*es->(∀x∈rows,x.length=es)->
  (∀p q x c,rows[p]? =some x->x[q]? =some c->TR w Z c (vs.getD (p*es+q) undef)/\(vs.getD (p*es+q) undef).oneCell' =true)->
  ∃us,Instr.fill (fun i=>some (i*es,es)) vs (ps.map fun x=>(x.1,a.eval x.2))=some us/\us.size=(bslF st es parts rows).2.length*es/\(∀x∈(bslF st es parts rows).2,x.length=es)/\
   (bslF st es parts rows).2.length=rows.length/\
   (∀p q x c,(bslF st es parts rows).2[p]? =some x->x[q]? =some c->TR w Z c (us.getD (p*es+q) undef)/\(us.getD (p*es+q) undef).oneCell' =true):=by
 intro parts
 induction parts with
 |nil=>
   intro ps rows vs hp _ hs hr hc
   cases ps with
   |nil=>exact⟨vs,rfl,hs,hr,rfl,hc⟩
   |cons=>simp[qbP]at hp
 |cons p parts ih=>
   intro ps rows vs hp hv hs hr hc
   obtain⟨j,xo⟩:=p
   cases ps with
   |nil=>simp[qbP]at hp
   |cons q ps=>
     obtain⟨j',y⟩:=q
     simp only[qbP,zN,beq_iff_eq]at hp
     obtain⟨⟨rfl,hx⟩,hp⟩:=hp
     simp only[bslF]at hv ⊢
     obtain⟨hok,hpu,hlen,hjr,hv⟩:=hv
     obtain⟨hcs,hcc⟩:=(h.ev hx).cells hok
     obtain⟨g1,g2⟩:=qbv (j*es) (a.eval y).cells.toList 0 vs
     have hpos: ∀(p q:Nat),q<es->(j*es+0<=p*es+q/\p*es+q<j*es+0+es)->p=j:=by
      intro p q hq ⟨e1,e2⟩
      rcases Nat.lt_trichotomy p j with h1|h1|h1
      ·have:=qan h1 hq;omega
      ·exact h1
      ·have:(j+1)*es<=p*es:=Nat.mul_le_mul_right _ h1
       rw[Nat.add_mul,Nat.one_mul]at this;omega
     have hcell' : ∀ p q x c, (rows.set j (cellsOf (xo.ev st)))[p]? = some x -> x[q]? = some c ->
       TR w Z c (((((a.eval y).cells.toList.zipIdx 0).foldl (fun(cs:Array Value) (x:Value×Nat)=>cs.setIfInBounds (j*es+x.2) x.1) vs)).getD (p*es+q) undef)/\
       (((((a.eval y).cells.toList.zipIdx 0).foldl (fun(cs:Array Value) (x:Value×Nat)=>cs.setIfInBounds (j*es+x.2) x.1) vs)).getD (p*es+q) undef).oneCell' =true:=by
      intro p q x' c hp' hq
      have hpl:p<rows.length:=by
       have:=(zM.1 hp').1
       simpa using this
      have hxl:x'.length=es:=by
       rw[List.getElem?_set]at hp'
       split at hp'
       ·cases hp';exact hlen
       ·exact hr x' (zP hp')
      have hql:q<es:=by rw[<- hxl];exact(zM.1 hq).1
      rw[g2 _ (by rw[hs];exact qan hpl hql)]
      simp only[Array.length_toList,hcs,hlen]
      by_cases e:p=j
      ·subst e
       rw[if_pos ⟨by omega,by omega⟩]
       rw[List.getElem?_set_self hpl]at hp'
       cases hp'
       rw[show p*es+q-(p*es+0)=q from by omega]
       have h2:qbM c=true:=yE.1 hpu c (zP hq)
       have:=(hcc q c hq).pure h2
       simpa[zO,zK]using this
      ·rw[if_neg (fun hh=>e (hpos p q hql hh))]
       rw[List.getElem?_set_ne (Ne.symm e)]at hp'
       exact hc p q x' c hp' hq
     obtain⟨us,h1,h2,h3,h4,h5⟩:=ih ps (rows.set j (cellsOf (xo.ev st))) _ hp hv (by rw[g1,hs];simp) (fun x' hx' =>by
      rcases List.mem_or_eq_of_mem_set hx' with h1|h1
      ·exact hr x' h1
      ·rw[h1];exact hlen) hcell'
     refine⟨us,?_,h2,h3,by rw[h4];simp,h5⟩
     simp only[zW,Instr.fill]
     have hb:j*es+es<=rows.length*es:=by
      have:=Nat.mul_le_mul_right es hjr
      rwa [Nat.succ_mul]at this
     rw[if_neg (by simp only[ne_eq,Bool.or_eq_true,decide_eq_true_eq,not_or];omega)]
     have e: ∀(l:Array Value) (vs:Array Value),l.zipIdx.foldl (fun(cs:Array Value) (x:Value×Nat)=>cs.setIfInBounds (j*es+x.2) x.1) vs=(l.toList.zipIdx 0).foldl (fun(cs:Array Value) (x:Value×Nat)=>cs.setIfInBounds (j*es+x.2) x.1) vs:=by
      intro l vs
      rw[<- Array.foldl_toList,Array.toList_zipIdx]
     rw[<- h1]
     congr 1
     exact e _ _
theorem qbU {t es : Nat} {zero : List PV} {z : Value} (hzl : zero.length = z.cells.size) (hes : zero.length = es) (hzc : ∀ j c, zero[j]? = some c -> TR w Z c (z.cells.getD j undef) /\ (z.cells.getD j undef).oneCell' = true)
  (n m:Nat) (hnm:n<=m):t=t/\((Array.range (m*es)).map (z.cells[· %z.cells.size]!)).size=m*es/\ ∀p q x c,(List.replicate n zero)[p]? =some x->x[q]? =some c->
   TR w Z c (((Array.range (m*es)).map (z.cells[· %z.cells.size]!)).getD (p*es+q) undef)/\(((Array.range (m*es)).map (z.cells[· %z.cells.size]!)).getD (p*es+q) undef).oneCell' =true:=by
 refine⟨rfl,by simp,fun p q x c hp hq=> ?_⟩
 rw[List.getElem?_replicate]at hp
 split at hp
 ·rename_i hpn
  cases hp
  have hql:q<es:=by rw[<- hes];exact(zM.1 hq).1
  have hlt:p*es+q<m*es:=qan (by omega) hql
  have:=hzc q c hq
  have hmod:(p*es+q)%z.cells.size=q:=by rw[<- hzl,hes,Nat.add_comm,Nat.add_mul_mod_self_right];exact Nat.mod_eq_of_lt hql
  have hqs:q<z.cells.size:=by omega
  have e:((Array.range (m*es)).map (z.cells[· %z.cells.size]!)).getD (p*es+q) undef=z.cells.getD q undef:=by
   simp[Array.getD,hlt,hmod,hqs]
  rw[e];exact this
 ·cases hp
theorem qbV (h : Inv w0 Z0 N Z L st a w) {i i' : Nat} (hi : N.dst (some i) (some i')) {es ty : Nat} {zero : List PV} {n : Nat} {parts : List (Nat × Opd)} {op : Op} (hm : okH P N.sh (.bsl es ty zero n parts) op = true)
  (hv:(hev st (some i) (.bsl es ty zero n parts)).1):Runs P w0 Z0 N w a op (some i') (hev st (some i) (.bsl es ty zero n parts)).2:=by
 cases op<;>simp only[okH,zN,beq_iff_eq]at hm<;>first|(exact absurd hm zQ)|skip
 rename_i t m ps
 obtain⟨⟨ht,rfl⟩,hps⟩:=hm
 split at ht
 ·rename_i e he
  simp only[zN,beq_iff_eq]at ht
  obtain⟨⟨rfl,hsz⟩,hz⟩:=ht
  obtain⟨ti,z,hti,hzz,hzl,hzc⟩:=qbz hz
  simp only[hev]at hv ⊢
  obtain⟨⟨hpos,hes,h24⟩,hq⟩:=hv
  obtain⟨Z1,h1⟩:=h.frzParts parts
  obtain⟨_,_,m2⟩:=qbU (t:=t) (w:=w) (Z:=Z1) hzl hes (hzc w Z1) n n (Nat.le_refl n)
  obtain⟨us,f1,f2,f3,f4,f5⟩:=qbT h1 es parts ps.toList (List.replicate n zero) _ hps hq (by simp) (fun x hx=>by rw[List.eq_of_mem_replicate hx,hes]) m2
  have hlen:(bslF (frzParts st parts) es parts (List.replicate n zero)).2.length=n:=by simpa using f4
  have hrun:(Instr.buildSlice t n (ps.map fun(x:Nat×Operand)=>(x.1,a.eval x.2))).run P w= .ok (.slice (some ⟨w.heap.size,0,none⟩) n n) (w.alloc (.cells us e)):=by
   have h24' : ¬(16777216<n*es):=by omega
   by_cases hn0:n*es=0
   ·have f1' : Instr.fill (fun i => some (i * es, es)) (Array.map (fun (_ : Nat) => (default : Value)) (Array.range 0)) (ps.toList.map fun x => (x.1, a.eval x.2)) = some us := by
     rw[<- f1];congr 1;simp[hn0]
    simp[Instr.buildSlice,run_underlying he,qak hsz,hn0,newRow,f1']
   ·simp[Instr.buildSlice,run_underlying he,qak hsz,h24',hn0,newRow,zeroValue,typeInfo,hti,hzz,f1]
  refine⟨_,_,_,.inl rfl,fun _ _ _ _=>by simp only[execOp,Sem.run_bind,hrun,Result.andThen_ok];rfl,?_⟩
  have:=h1.newArr hi (A:=⟨es,e,(bslF (frzParts st parts) es parts (List.replicate n zero)).2⟩) (cur:=us) (cap:=n) (qbQ w (.cells us e)) (g:=w.heap.size) (Nat.le_refl _) (by simp) (heap_alloc_new w _) hpos
   (by rw[f2,hlen]) (by rw[hlen];exact Nat.le_refl n) (by
    have:n*1<=n*es:=Nat.mul_le_mul_left _ hpos
    simp only[maxLen];omega) f3 f5
  simp only[hlen]at this
  exact this
 ·cases ht
theorem qbW (h : Inv w0 Z0 N Z L st a w) {i i' : Nat} (hi : N.dst (some i) (some i')) {es ty by_ : Nat} {zero : List PV} {l c : Opd} {op : Op} (hm : okH P N.sh (.mks es ty by_ zero l c) op = true)
  (hv:(hev st (some i) (.mks es ty by_ zero l c)).1):Runs P w0 Z0 N w a op (some i') (hev st (some i) (.mks es ty by_ zero l c)).2:=by
 cases op<;>simp only[okH,zN]at hm<;>first|(exact absurd hm zQ)|skip
 rename_i t l' c'
 obtain⟨⟨ht,hl⟩,hc⟩:=hm
 split at ht
 ·rename_i e he
  simp only[zN,beq_iff_eq]at ht
  obtain⟨⟨⟨rfl,hsz⟩,hz⟩,hby⟩:=ht
  obtain⟨ti,z,hti,hzz,hzl,hzc⟩:=qbz hz
  have hby' :ti.bytes=by_:=by simpa[byIs,hti]using hby
  have hsz' :ti.size=es:=by simpa[szIs,hti]using hsz
  simp only[hev]at hv ⊢
  split at hv
  ·rename_i i' k1 n k2 m e1 e2 e3
   cases e1
   obtain⟨⟨hpos,hes⟩,h0,hnm,hb,h63⟩:=hv
   have hl' :=h.evInt hl e2
   have hc' :=h.evInt hc e3
   have hbb:((by_:Nat):Int)*m<=281474976710656:=by
    have h1:(m.toNat:Int)=m:=Int.toNat_of_nonneg (by omega)
    rw[<- h1,<- Int.natCast_mul,Nat.mul_comm];omega
   have hrun:=run_make (P:=P) w t e ti z he hti hzz k1 k2 n m h0 hnm (by rw[hby'];exact hbb) h63
   rw[hsz']at hrun
   obtain⟨_,m1,m2⟩:=qbU (t:=t) (w:=w) (Z:=Z) hzl hes (hzc w Z) n.toNat m.toNat (by omega)
   refine⟨_,_,_,.inl rfl,fun _ _ _ _=>by simp only[execOp,hl',hc',Sem.run_bind,hrun,Result.andThen_ok];rfl,?_⟩
   have:=h.newArr hi (A:=⟨es,e,List.replicate n.toNat zero⟩) (cur:=madeCells z.cells (m.toNat*es)) (cap:=m.toNat) (qbQ w (.cells (madeCells z.cells (m.toNat*es)) e)) (g:=w.heap.size) (Nat.le_refl _) (by simp) (heap_alloc_new w _) hpos
    m1 (by simp;omega) (by simp only[maxLen];omega) (fun x hx=>by rw[List.eq_of_mem_replicate hx,hes]) m2
   simp only[List.length_replicate]at this
   exact this
  ·exact hv.elim
 ·cases ht
end
end Go.Vc
namespace Go.Vc
open Go Go.RowKit
theorem qbX {vs : Array Value} {off : Nat} {news : List Value} (h : off + news.length <= vs.size) (j : Nat) :
  ((vs.toList.take off++news++vs.toList.drop (off+news.length)).toArray).getD j undef=if off<=j/\j<off+news.length then news.getD (j-off) undef else vs.getD j undef:=by
 simp only[zO,List.getElem?_toArray,zK]
 have hl:(vs.toList.take off).length=off:=by simp;omega
 rw[List.append_assoc]
 by_cases h1:j<off
 ·rw[yA (by omega),List.getElem?_take,if_pos h1,if_neg (by omega)]
  simp
 ·rw[yB (by omega),hl]
  by_cases h2:j<off+news.length
  ·rw[yA (by omega),if_pos ⟨by omega,h2⟩]
  ·rw[yB (by omega),List.getElem?_drop,if_neg (by omega)]
   rw[show off+news.length+(j-off-news.length)=j from by omega]
   simp
theorem qbY{vs:Array Value}{off:Nat}{news:List Value}(h:off+news.length<=vs.size):((vs.toList.take off++news++vs.toList.drop (off+news.length)).toArray).size=vs.size:=by
 simp;omega
theorem qbZ(w:World)(g:Nat)(cs:Array Value):w.grownBy (w.setRow g cs) (some g):=
 ⟨rfl,rfl,rfl,by simp,fun k _ hk=>setRow_other w g k cs (fun e=>hk (by simp[e]))⟩
section
variable {w0:World} {Z0:Zone} {N:Fr} {Z:Zone} {L:Lay} {st:St} {a:Act} {w:World} {P:Program}
theorem qc0 {t sz : Nat} (hs : szIs P t sz = true) {g off : Nat} {cur : Array Value} {T : TypeId} (hg : w.heap[g]? = some (.cells cur T (0, 0))) {ad v : Value} (had : ad = .pointer (some ⟨g, off, none⟩)) (hv : v.cells.size = sz)
  (hfit:off+sz<=cur.size) (h1: ∀u∈v.cells.toList,u.oneCell' =true):
  (Instr.storeAt t ad v).run P w= .ok () (w.setRow g (cur.toList.take off++v.cells.toList++cur.toList.drop (off+v.cells.toList.length)).toArray):=by
 have hst:=run_storeCells_at P g off T v.cells.toList 0 cur w hg (by simp;omega) h1
 simp only[Nat.add_zero]at hst
 subst had
 simp[Instr.storeAt,Instr.sureAddr,storeVar,qak hs,hv,hst]
theorem qc1{c:PV}{v:Value}(h:VR w Z L c v)(hk:qas c=true): ∀u∈v.cells.toList,u.oneCell' =true:=by
 intro u hu
 obtain⟨h1,h2⟩:=h.cells hk
 obtain⟨j,hj⟩:=List.getElem?_of_mem hu
 have hlt:j<(cellsOf c).length:=by rw[<- h1];have:=(zM.1 hj).1;simpa using this
 have:=(h2 j _ (zL hlt)).2
 have e:v.cells.getD j undef=u:=by
  rw[zO]
  have:v.cells[j]? =some u:=by simpa using hj
  rw[this];rfl
 rwa [e]at this
theorem qc2 (h : Inv w0 Z0 N Z L st a w) {sz : Nat} {x v : Opd} {op : Op} {d : Option Nat} (hd : d = none) (hm : okH P N.sh (.sto sz x v) op = true) (hv : (hev st d (.sto sz x v)).1) :
  Runs P w0 Z0 N w a op d (hev st d (.sto sz x v)).2:=by
 subst hd
 cases op<;>simp only[okH,zN]at hm<;>first|(exact absurd hm zQ)|skip
 rename_i t y u
 obtain⟨⟨hs,hx⟩,hu⟩:=hm
 simp only[hev]at hv ⊢
 split at hv
 ·rename_i id off e1
  split at hv
  ·rename_i cs hcs
   obtain⟨⟨hok,hsz⟩,hfit⟩:=hv
   have hxr:=h.ev hx
   rw[e1]at hxr
   obtain⟨c1,c2⟩:=(h.ev hu).cells hok
   obtain⟨vs,T,b1,b2,b3⟩:=h.boxes id cs hcs
   have hlen:(a.eval u).cells.toList.length=sz:=by simp[c1,hsz]
   have hrun:=qc0 (P:=P) hs b1 hxr.ptr (by rw[c1,hsz]) (by omega) (qc1 (h.ev hu) hok)
   have hfit' :off+(a.eval u).cells.toList.length<=vs.size:=by have:=b2.1;omega
   have hk:Kept Z w (w.setRow (L.bx id) (vs.toList.take off++(a.eval u).cells.toList++vs.toList.drop (off+(a.eval u).cells.toList.length)).toArray):=
    ⟨fun p b hp=>setRow_other w _ b _ (fun e=>(h.ownb id cs hcs).2.2 p (e▸hp))⟩
   refine⟨undef,.skip,_,.inr ⟨rfl,rfl⟩,fun _ _ _ _=>by simp only[execOp,Sem.run_bind,hrun,Result.andThen_ok];rfl,Z,L,?_⟩
   refine h.setBox (qbZ w _ _) (row:=some (L.bx id)) (fun k e=>⟨cs,hcs,by cases e;rfl⟩) (id:=id) (LSame.refl L) (fun _ _=>rfl) (.inl ⟨cs,hcs,rfl⟩) (by rw[setRow_size];exact(h.ownb id cs hcs).2.1)
    (St.noTo_nul _) ⟨_,T,setRow_heap w _ vs _ T _ b1,?_,fun j c hj=> ?_⟩
   ·rw[qbY hfit',qbx (by omega)];exact b2
   ·rw[qbX hfit']
    rcases qbw (by omega) hj with⟨e2,e3,e4⟩|⟨e2,e3⟩
    ·rw[if_pos ⟨e2,by omega⟩]
     have:=c2 _ _ e4
     have h3:=this.keep hk (fun _ _ h=>h) (LSame.refl L) (PV.to_nul c)
     simpa[zO,zK]using h3
    ·rw[hsz]at e2
     rw[if_neg (by omega)]
     exact(b3 j c e3).keep hk (fun _ _ h=>h) (LSame.refl L) (PV.to_nul c)
  ·exact hv.elim
 ·rename_i id i off e1
  obtain⟨Z1,h1⟩:=h.frzs (cellsOf (v.ev st))
  split at hv
  ·rename_i A hA
   obtain⟨⟨⟨hok,hpu⟩,hsz,e2⟩,hoff,hi⟩:=hv
   have hxr:=h1.ev hx
   rw[e2]at hxr
   obtain⟨c1,c2⟩:=(h1.ev hu).cells hok
   obtain⟨cur,hX⟩:=h1.arrs id A hA
   have hlen:(a.eval u).cells.toList.length=sz:=by simp[c1,hsz]
   have hrow:(A.xs.getD i []).length=A.es:=by rw[zK,zL hi];exact hX.rows _ (List.getElem_mem hi)
   have hb1:i*A.es+A.es<=L.ac id*A.es:=by
    have:=Nat.mul_le_mul_right A.es (show i+1<=L.ac id from Nat.le_trans hi hX.fits)
    rwa [Nat.add_mul,Nat.one_mul]at this
   have hfit' :(i*A.es+off)+(a.eval u).cells.toList.length<=cur.size:=by rw[hX.size];omega
   have had:a.eval y= .pointer (some ⟨L.ab id,i*A.es+off,none⟩):=by rw[hxr.eptr.1,hX.ae]
   have hrun:=qc0 (P:=P) hs hX.blk had (by rw[c1,hsz]) (by omega) (qc1 (h1.ev hu) hok)
   have hk:Kept Z1 w (w.setRow (L.ab id) (cur.toList.take (i*A.es+off)++(a.eval u).cells.toList++cur.toList.drop (i*A.es+off+(a.eval u).cells.toList.length)).toArray):=
    ⟨fun p b hp=>setRow_other w _ b _ (fun e=>(h1.owna id A hA).2.2 p (e▸hp))⟩
   refine⟨undef,.skip,_,.inr ⟨rfl,rfl⟩,fun _ _ _ _=>by simp only[execOp,Sem.run_bind,hrun,Result.andThen_ok];rfl,Z1,L,?_⟩
   refine h1.setArr (qbZ w _ _) (row:=some (L.ab id)) (fun k e=>⟨A,hA,by cases e;rfl⟩) (id:=id) (LSame.refl L) (fun _ _=>rfl) (.inl ⟨A,hA,rfl⟩) (by rw[setRow_size];exact(h1.owna id A hA).2.1)
    (St.noTo_nul _) ⟨hX.pos,hX.ae,by simp[hX.al],setRow_heap w _ cur _ A.ty _ hX.blk,by rw[qbY hfit'];exact hX.size,by simpa using hX.fits,hX.max,?_,?_⟩
   ·intro x' hx'
    rcases List.mem_or_eq_of_mem_set hx' with h2|h2
    ·exact hX.rows x' h2
    ·rw[h2,qbx (by omega),hrow]
   ·intro p q x' c hp hq
    have hpl:p<A.xs.length:=by
     have:=(zM.1 hp).1
     simpa using this
    rw[qbX hfit']
    dsimp only at hp ⊢
    by_cases e:p=i
    ·subst e
     rw[List.getElem?_set_self hpl]at hp
     cases hp
     rcases qbw (by omega) hq with⟨e3,e4,e5⟩|⟨e3,e4⟩
     ·rw[if_pos ⟨by omega,by omega⟩,show p*A.es+q-(p*A.es+off)=q-off from by omega]
      have:=(c2 _ _ e5).pure (yE.1 hpu c (zP e5))
      have h3:TR w Z1 c ((a.eval u).cells.toList.getD (q-off) undef)/\((a.eval u).cells.toList.getD (q-off) undef).oneCell' =true:=by
       simpa[zO,zK]using this
      exact⟨h3.1.keep hk (fun _ _ h=>h),h3.2⟩
     ·rw[hsz]at e3
      rw[if_neg (by omega)]
      rw[zK,zL hpl]at e4
      have:=hX.cell p q _ c (zL hpl) e4
      exact⟨this.1.keep hk (fun _ _ h=>h),this.2⟩
    ·rw[List.getElem?_set_ne (Ne.symm e)]at hp
     have hql:q<A.es:=by rw[<- hX.rows x' (zP hp)];exact(zM.1 hq).1
     rw[if_neg (by
      rintro⟨q1,q2⟩
      rcases Nat.lt_trichotomy p i with h3|h3|h3
      ·have:=qan h3 hql;omega
      ·exact e h3
      ·have:(i+1)*A.es<=p*A.es:=Nat.mul_le_mul_right _ h3
       rw[Nat.add_mul,Nat.one_mul]at this;omega)]
     have:=hX.cell p q x' c hp hq
     exact⟨this.1.keep hk (fun _ _ h=>h),this.2⟩
  ·exact hv.elim
 ·exact hv.elim
structure SrcF (P:Program) (es:Nat) (x:Value) (n m:Nat) (news:List Value) (w:World):Prop where
 len: ∀w' :World,(Builtin.lenOf x).run P w' = .ok n w'
 cells:(Builtin.firstCells es (min n m) x).run P w= .ok news.toArray w
 newsLen:news.length=min n m*es
 one: ∀u∈news,u.oneCell' =true
theorem qc3 (h : Inv w0 Z0 N Z L st a w) {t e : TypeId} (he : P.underlying t = some (.slice e)) {es : Nat} (hpos : 0 < es) {x : Opd} {y : Operand} (hx : qai N.sh x y = true) (hv : (qbN st es (x.ev st)).1) :
  ∃news,Src P es t (a.eval y) (qbN st es (x.ev st)).2.length news w/\(∀r∈(qbN st es (x.ev st)).2,r.length=es)/\
   ∀i j r c,(qbN st es (x.ev st)).2[i]? =some r->r[j]? =some c->TR w Z c (news.getD (i*es+j) undef)/\(news.getD (i*es+j) undef).oneCell' =true:=by
 have hr:=h.ev hx
 have build : ∀ (b o n c : Nat) (g : Nat -> Value), a.eval y = .slice (some ⟨b, o, none⟩) n c -> (∀ k, k < n * es -> w.cell? ⟨b, o + k, none⟩ = some (g k) /\ (g k).oneCell' = true) ->
   Src P es t (a.eval y) n ((List.range (n*es)).map g) w:=by
  intro b o n c g hy hc
  rw[hy]
  refine Src.ofSlice w he ⟨b,o,none⟩ n c _ (by simp) (fun j u hj=> ?_) (fun u hu=> ?_)
  ·rw[zS]at hj
   obtain⟨k,h1,rfl⟩:=zR.1 hj
   obtain⟨h2,h3⟩:=zM.1 h1
   simp at h2 h3
   subst h3
   rw[Addr.add_lit];exact(hc _ h2).1
  ·obtain⟨k,h1,rfl⟩:=List.mem_map.1 hu
   exact(hc k (List.mem_range.1 h1)).2
 have getg: ∀(n:Nat) (g:Nat->Value) (k:Nat),k<n*es->((List.range (n*es)).map g).getD k undef=g k:=by
  intro n g k hk
  simp[zK,hk]
 cases hxe:x.ev st with
 |nil=>
   rw[hxe]at hr
   simp only[VR,AR,CR]at hr
   simp only[qbN]
   generalize hy:a.eval y=u at hr
   cases hr
   exact⟨[],Src.ofNil w he 0,by simp,by simp⟩
 |sl p es' ys=>
   rw[hxe]at hr hv
   simp only[VR,AR,CR]at hr
   simp only[qbN]at hv ⊢
   subst hv
   generalize hy:a.eval y=u at hr
   cases hr with
   |sl0 _ _ ad c hc=>
     refine⟨[],?_,by simp,by simp⟩
     cases ad with
     |none=>exact Src.ofNil w he c
     |some ad=>exact Src.ofSlice w he ad 0 c [] (by simp) (by simp) (by simp)
   |sl _ _ _ b o c g h0' h1 h2 h3 h4 h5 h6 h7=>
     have hg: ∀k,k<ys.length*es' ->w.cell? ⟨b,o+k,none⟩=some (g (k/es') (k%es'))/\(g (k/es') (k%es')).oneCell' =true:=by
      intro k hk
      have h8:=h6 (k/es') (k%es') (Nat.div_lt_of_lt_mul (by rwa [Nat.mul_comm]at hk)) (Nat.mod_lt _ h0')
      have h9:k/es' *es' +k%es' =k:=by rw[Nat.mul_comm];exact Nat.div_add_mod k es'
      rwa [h9]at h8
     refine⟨_,by rw[<- hy];exact build b o ys.length c _ hy hg,h5,fun i j r c' hi hj=> ?_⟩
     have hil:i<ys.length:=(zM.1 hi).1
     have hjl:j<es' :=by rw[<- h5 r (zP hi)];exact(zM.1 hj).1
     rw[getg _ _ _ (qan hil hjl)]
     have e1:(i*es' +j)/es' =i:=by rw[Nat.add_comm,Nat.add_mul_div_right _ _ h0',Nat.div_eq_of_lt hjl,Nat.zero_add]
     have e2:(i*es' +j)%es' =j:=by rw[Nat.add_comm,Nat.add_mul_mod_self_right];exact Nat.mod_eq_of_lt hjl
     rw[e1,e2]
     exact⟨h7 i j r c' hi hj,(h6 i j hil hjl).2⟩
 |view id lo n=>
   rw[hxe]at hr hv
   simp only[qbN]at hv ⊢
   cases hA:lk st.a id with
   |none=>rw[hA]at hv;exact hv.elim
   |some A=>
     rw[hA]at hv
     simp only at hv ⊢
     subst hv
     obtain⟨cur,hX⟩:=h.arrs id A hA
     obtain⟨ad,c,hy,hnc,hcm,hal,hp,_⟩:=hr
     rw[hX.al]at hal
     have hlen:((A.xs.drop lo).take n).length=n:=by simp;omega
     by_cases hn:n=0
     ·subst hn
      rw[hy]
      exact⟨[],Src.ofSlice w he ad 0 c [] (by simp) (by simp) (by simp),by simp,by simp⟩
     ·have had:=hp (by omega)
      subst had
      rw[hlen]
      have hcell: ∀k,k<n*A.es->w.cell? ⟨L.ab id,lo*L.ae id+k,none⟩=some (cur.getD (lo*A.es+k) undef)/\(cur.getD (lo*A.es+k) undef).oneCell' =true:=by
       intro k hk
       have hkd:k/A.es<n:=Nat.div_lt_of_lt_mul (by rwa [Nat.mul_comm]at hk)
       have hkm:k%A.es<A.es:=Nat.mod_lt _ hX.pos
       have hpl:lo+k/A.es<A.xs.length:=by omega
       have hrow:=hX.rows _ (List.getElem_mem hpl)
       have h2:=hX.cell (lo+k/A.es) (k%A.es) _ (A.xs[lo+k/A.es])[k%A.es] (zL hpl) (zL (by omega))
       have h9:(lo+k/A.es)*A.es+k%A.es=lo*A.es+k:=by
        rw[Nat.add_mul,Nat.add_assoc,show k/A.es*A.es+k%A.es=k from by rw[Nat.mul_comm];exact Nat.div_add_mod k A.es]
       rw[h9]at h2
       have hlt:lo*A.es+k<cur.size:=by
        rw[<- h9,hX.size];exact Nat.lt_of_lt_of_le (qan hpl hkm) (Nat.mul_le_mul_right _ hX.fits)
       refine⟨?_,h2.2⟩
       rw[cell_of_row w _ _ _ _ _ hX.blk,hX.ae]
       simp[Array.getD,hlt]
      refine⟨_,build _ _ n c _ hy hcell,fun r hr=>hX.rows r (List.mem_of_mem_drop (List.mem_of_mem_take hr)),fun i j r c' hi hj=> ?_⟩
      have hil:i<n:=by rw[<- hlen];exact(zM.1 hi).1
      rw[List.getElem?_take,if_pos hil,List.getElem?_drop]at hi
      have hjl:j<A.es:=by rw[<- hX.rows r (zP hi)];exact(zM.1 hj).1
      rw[getg _ _ _ (qan hil hjl),<- Nat.add_assoc,<- Nat.add_mul]
      exact hX.cell _ j r c' hi hj
 |_=>rw[hxe]at hv;exact hv.elim
theorem qc4 (h : Inv w0 Z0 N Z L st a w) {es : Nat} (hpos : 0 < es) {x : Opd} {y : Operand} (hx : qai N.sh x y = true) (hv : (qbN st es (x.ev st)).1) (m : Nat) :
  ∃news,SrcF P es (a.eval y) (qbN st es (x.ev st)).2.length m news w/\(∀r∈(qbN st es (x.ev st)).2,r.length=es)/\
   ∀i j r c,i<m->(qbN st es (x.ev st)).2[i]? =some r->r[j]? =some c->TR w Z c (news.getD (i*es+j) undef)/\(news.getD (i*es+j) undef).oneCell' =true:=by
 have hr:=h.ev hx
 have build : ∀ (b o n c : Nat) (g : Nat -> Value), a.eval y = .slice (some ⟨b, o, none⟩) n c -> (∀ k, k < n * es -> w.cell? ⟨b, o + k, none⟩ = some (g k) /\ (g k).oneCell' = true) ->
   SrcF P es (a.eval y) n m ((List.range (min n m*es)).map g) w:=by
  intro b o n c g hy hc
  rw[hy]
  have hle:min n m*es<=n*es:=Nat.mul_le_mul_right _ (Nat.min_le_left _ _)
  refine⟨fun w' =>by simp[Builtin.lenOf],run_firstCells_some w es (min n m) ⟨b,o,none⟩ n c _ (by simp) (fun j u hj=> ?_),by simp,fun u hu=> ?_⟩
  ·rw[zS]at hj
   obtain⟨k,h1,rfl⟩:=zR.1 hj
   obtain⟨h2,h3⟩:=zM.1 h1
   simp at h2 h3
   subst h3
   rw[Addr.add_lit];exact(hc _ (by omega)).1
  ·obtain⟨k,h1,rfl⟩:=List.mem_map.1 hu
   exact(hc k (by have:=List.mem_range.1 h1;omega)).2
 have zero: ∀(ad:Option Addr) (c:Nat),SrcF P es (.slice ad 0 c) 0 m [] w:=fun ad c=>
  ⟨fun w' =>by simp[Builtin.lenOf],by cases ad with
   |none=>simp[Builtin.firstCells]
   |some ad=>exact run_firstCells_some w es _ ad 0 c [] (by simp) (by simp),by simp,by simp⟩
 have getg: ∀(n:Nat) (g:Nat->Value) (k:Nat),k<min n m*es->((List.range (min n m*es)).map g).getD k undef=g k:=by
  intro n g k hk
  simp[zK,hk]
 cases hxe:x.ev st with
 |nil=>
   rw[hxe]at hr
   simp only[VR,AR,CR]at hr
   simp only[qbN]
   generalize hy:a.eval y=u at hr
   cases hr
   exact⟨[],zero none 0,by simp,by simp⟩
 |sl p es' ys=>
   rw[hxe]at hr hv
   simp only[VR,AR,CR]at hr
   simp only[qbN]at hv ⊢
   subst hv
   generalize hy:a.eval y=u at hr
   cases hr with
   |sl0 _ _ ad c hc=>
     exact⟨[],zero ad c,by simp,by simp⟩
   |sl _ _ _ b o c g h0' h1 h2 h3 h4 h5 h6 h7=>
     have hg: ∀k,k<ys.length*es' ->w.cell? ⟨b,o+k,none⟩=some (g (k/es') (k%es'))/\(g (k/es') (k%es')).oneCell' =true:=by
      intro k hk
      have h8:=h6 (k/es') (k%es') (Nat.div_lt_of_lt_mul (by rwa [Nat.mul_comm]at hk)) (Nat.mod_lt _ h0')
      have h9:k/es' *es' +k%es' =k:=by rw[Nat.mul_comm];exact Nat.div_add_mod k es'
      rwa [h9]at h8
     refine⟨_,by rw[<- hy];exact build b o ys.length c _ hy hg,h5,fun i j r c' him hi hj=> ?_⟩
     have hil:i<ys.length:=(zM.1 hi).1
     have hjl:j<es' :=by rw[<- h5 r (zP hi)];exact(zM.1 hj).1
     rw[getg _ _ _ (qan (Nat.lt_min.2 ⟨hil,him⟩) hjl)]
     have e1:(i*es' +j)/es' =i:=by rw[Nat.add_comm,Nat.add_mul_div_right _ _ h0',Nat.div_eq_of_lt hjl,Nat.zero_add]
     have e2:(i*es' +j)%es' =j:=by rw[Nat.add_comm,Nat.add_mul_mod_self_right];exact Nat.mod_eq_of_lt hjl
     rw[e1,e2]
     exact⟨h7 i j r c' hi hj,(h6 i j hil hjl).2⟩
 |view id lo n=>
   rw[hxe]at hr hv
   simp only[qbN]at hv ⊢
   cases hA:lk st.a id with
   |none=>rw[hA]at hv;exact hv.elim
   |some A=>
     rw[hA]at hv
     simp only at hv ⊢
     subst hv
     obtain⟨cur,hX⟩:=h.arrs id A hA
     obtain⟨ad,c,hy,hnc,hcm,hal,hp,_⟩:=hr
     rw[hX.al]at hal
     have hlen:((A.xs.drop lo).take n).length=n:=by simp;omega
     by_cases hn:n=0
     ·subst hn
      rw[hy]
      exact⟨[],zero (some ad) c,by simp,by simp⟩
     ·have had:=hp (by omega)
      subst had
      rw[hlen]
      have hcell: ∀k,k<n*A.es->w.cell? ⟨L.ab id,lo*L.ae id+k,none⟩=some (cur.getD (lo*A.es+k) undef)/\(cur.getD (lo*A.es+k) undef).oneCell' =true:=by
       intro k hk
       have hkd:k/A.es<n:=Nat.div_lt_of_lt_mul (by rwa [Nat.mul_comm]at hk)
       have hkm:k%A.es<A.es:=Nat.mod_lt _ hX.pos
       have hpl:lo+k/A.es<A.xs.length:=by omega
       have hrow:=hX.rows _ (List.getElem_mem hpl)
       have h2:=hX.cell (lo+k/A.es) (k%A.es) _ (A.xs[lo+k/A.es])[k%A.es] (zL hpl) (zL (by omega))
       have h9:(lo+k/A.es)*A.es+k%A.es=lo*A.es+k:=by
        rw[Nat.add_mul,Nat.add_assoc,show k/A.es*A.es+k%A.es=k from by rw[Nat.mul_comm];exact Nat.div_add_mod k A.es]
       rw[h9]at h2
       have hlt:lo*A.es+k<cur.size:=by
        rw[<- h9,hX.size];exact Nat.lt_of_lt_of_le (qan hpl hkm) (Nat.mul_le_mul_right _ hX.fits)
       refine⟨?_,h2.2⟩
       rw[cell_of_row w _ _ _ _ _ hX.blk,hX.ae]
       simp[Array.getD,hlt]
      refine⟨_,build _ _ n c _ hy hcell,fun r hr=>hX.rows r (List.mem_of_mem_drop (List.mem_of_mem_take hr)),fun i j r c' him hi hj=> ?_⟩
      have hil:i<n:=by rw[<- hlen];exact(zM.1 hi).1
      rw[List.getElem?_take,if_pos hil,List.getElem?_drop]at hi
      have hjl:j<A.es:=by rw[<- hX.rows r (zP hi)];exact(zM.1 hj).1
      rw[getg _ _ _ (qan (Nat.lt_min.2 ⟨hil,him⟩) hjl),<- Nat.add_assoc,<- Nat.add_mul]
      exact hX.cell _ j r c' hi hj
 |_=>rw[hxe]at hv;exact hv.elim
end
end Go.Vc
namespace Go.Vc
open Go Go.RowKit
theorem qc5{need cap by_:Nat}(h1:cap<need)(h2:need*by_<=140737488355328):Builtin.nextslicecap need cap*by_<=281474976710656:=growslice_fits h1 h2
section
variable {w0:World} {Z0:Zone} {N:Fr} {Z:Zone} {L:Lay} {st:St} {a:Act} {w:World} {P:Program}
theorem qc6 {t ty e : TypeId} {ti : TypeInfo} (ht : P.underlying t = some (.slice e)) (hi : P.info? e = some ti) {g sLen sCap : Nat} {cur : Array Value} (hg : w.heap[g]? = some (.cells cur e (0, 0)))
  {x:Value} {n:Nat} {news:List Value} (hs:Src P ti.size t x n news w) (hroom:sLen+n<=sCap) (hfit:sLen*ti.size+news.length<=cur.size):
  (Builtin.append_ #[t,t] ty #[.slice (some ⟨g,0,none⟩) sLen sCap,x]).run P w= .ok (.slice (some ⟨g,0,none⟩) (sLen+n) sCap)
   (w.setRow g (cur.toList.take (sLen*ti.size)++news++cur.toList.drop (sLen*ti.size+news.length)).toArray):=by
 have hst:=run_storeCells_at P g (sLen*ti.size) e news 0 cur w hg (by simpa using hfit) hs.one
 simp only[Nat.add_zero]at hst
 simp[Builtin.append_,run_underlying ht,sizeOf,typeInfo,hi,hs.len,hroom,hs.cells,Addr.add_lit,hst]
theorem qc7 {t ty e : TypeId} {ti : TypeInfo} (ht : P.underlying t = some (.slice e)) (hi : P.info? e = some ti) {x : Value} {news : List Value} (hs : Src P ti.size t x 0 news w) :
  (Builtin.append_ #[t,t] ty #[.slice none 0 0,x]).run P w= .ok (.slice none 0 0) w:=by
 simp[Builtin.append_,run_underlying ht,sizeOf,typeInfo,hi,hs.len,hs.cells]
theorem qc8 {xs ys : List (List PV)} {lo : Nat} (h : lo + ys.length <= xs.length) {j : Nat} {c : List PV} (hj : (cpyF xs lo ys)[j]? = some c) :
  (lo<=j/\j<lo+ys.length/\ys[j-lo]? =some c)\/(¬(lo<=j/\j<lo+ys.length)/\xs[j]? =some c):=by
 unfold cpyF at hj
 have hl:(xs.take lo).length=lo:=by simp;omega
 rw[List.append_assoc]at hj
 by_cases h1:j<lo
 ·rw[yA (by omega),List.getElem?_take,if_pos h1]at hj
  exact .inr ⟨by omega,hj⟩
 ·rw[yB (by omega),hl]at hj
  by_cases h2:j<lo+ys.length
  ·rw[yA (by omega)]at hj
   exact .inl ⟨by omega,h2,hj⟩
  ·rw[yB (by omega),List.getElem?_drop]at hj
   refine .inr ⟨by omega,?_⟩
   rw[show lo+ys.length+(j-lo-ys.length)=j from by omega]at hj
   exact hj
theorem qc9{xs ys:List (List PV)}{lo:Nat}(h:lo+ys.length<=xs.length):(cpyF xs lo ys).length=xs.length:=by
 simp[cpyF];omega
theorem qca (h : Inv w0 Z0 N Z L st a w) {d d' : Option Nat} (hd : N.dst d d') {es : Nat} {x y : Opd} {op : Op} (hm : okH P N.sh (.cpy es x y) op = true) (hv : (hev st d (.cpy es x y)).1) :
  Runs P w0 Z0 N w a op d' (hev st d (.cpy es x y)).2:=by
 unfold okH at hm
 split at hm<;>(first|(rename_i heq;cases heq;done)|skip)
 all_goals (try(rename_i heq;cases heq))
 ·split at hm
  ·rename_i x' y' t t' e1 e2
   simp only[zN]at hm
   obtain⟨⟨hx,hy⟩,ht⟩:=hm
   have e1:=qaW e1;have e2:=qaW e2;cases e1;cases e2
   split at ht
   ·rename_i e he
    simp only[hev]at hv ⊢
    split at hv
    ·rename_i id lo n e1
     split at hv
     ·rename_i A hA
      obtain⟨⟨hpos,rfl⟩,hq⟩:=hv
      have hxr:=h.ev hx
      rw[e1]at hxr
      obtain⟨ad,c,hxv,hnc,hcm,hal,hp,_⟩:=hxr
      obtain⟨cur,hX⟩:=h.arrs id A hA
      obtain⟨o1,o2,o3⟩:=h.owna id A hA
      rw[hX.al]at hal
      obtain⟨news,hsrc,hrows,hcell⟩:=qc4 (P:=P) h hpos hy hq n
      simp only
      generalize hys:(qbN st A.es (y.ev st)).2=ys at *
      have hnl:news.length=(ys.take n).length*A.es:=by rw[hsrc.newsLen,List.length_take,Nat.min_comm]
      have hkl:lo+(ys.take n).length<=A.xs.length:=by rw[List.length_take];omega
      have hfit:lo*A.es+news.length<=cur.size:=by
       rw[hnl,<- Nat.add_mul,hX.size]
       exact Nat.mul_le_mul_right _ (Nat.le_trans hkl hX.fits)
      have hst:(storeCells ad news).run P w= .ok () (w.setRow (L.ab id) (cur.toList.take (lo*A.es)++news++cur.toList.drop (lo*A.es+news.length)).toArray):=by
       by_cases hn:0<n
       ·have:=hp hn
        subst this
        have:=run_storeCells_at P (L.ab id) (lo*A.es) A.ty news 0 cur w hX.blk (by simpa using hfit) hsrc.one
        simpa[hX.ae]using this
       ·have hn0:n=0:=by omega
        subst hn0
        have:news=[]:=List.eq_nil_of_length_eq_zero (by rw[hsrc.newsLen];simp)
        subst this
        simp only[List.append_nil,List.length_nil,Nat.add_zero,List.take_append_drop,Array.toArray_toList,storeCells]
        rw[setRow_self w _ cur A.ty (0,0) hX.blk]
        rfl
      have hsz' : ∃ti,P.info? e=some ti/\ti.size=A.es:=by
       cases hq:P.info? e with
       |none=>simp[szIs,hq]at ht
       |some ti=>exact⟨ti,rfl,by simpa[szIs,hq]using ht⟩
      obtain⟨ti,hti,htis⟩:=hsz'
      have hrun: ∀ty:TypeId,(Builtin.copy_ #[t,t'] ty #[a.eval x',a.eval y']).run P w= .ok (goInt (min ys.length n:Nat)) (w.setRow (L.ab id) (cur.toList.take (lo*A.es)++news++cur.toList.drop (lo*A.es+news.length)).toArray):=fun ty=>by
       have h1:=hsrc.cells
       have h2:=hsrc.len
       have h1:(Builtin.firstCells A.es (Nat.min ys.length n) (a.eval y')).run P w= .ok news.toArray w:=h1
       have e5:(goInt (min ys.length n:Nat))=goInt (Nat.min ys.length n:Nat):=rfl
       rw[e5]
       simp only[Builtin.copy_,hxv]
       simp[run_underlying he,sizeOf,typeInfo,hti,htis,h2,h1,hst]
      have hk:Kept Z w (w.setRow (L.ab id) (cur.toList.take (lo*A.es)++news++cur.toList.drop (lo*A.es+news.length)).toArray):=
       ⟨fun p b hp=>setRow_other w _ b _ (fun e=>o3 p (e▸hp))⟩
      have exec : ∀ {v : Value} {w' : World}, (∀ ty, (Builtin.copy_ #[t, t'] ty #[a.eval x', a.eval y']).run P w = .ok v w') -> ∀ (ty : TypeId) (pos : String) (after : Array Edge) (g : Option (Nat × Bool)),
        (execOp a.eval ⟨d',.call ⟨.builtin .copy,#[x',y'],#[t,t']⟩,ty,pos,after,g⟩).run P w= .ok (.value v) w' :=by
       intro v w' hr ty _ _ _
       simp[execOp,resolve,invoke,builtin,hr ty]
      refine⟨_,_,_,.inl rfl,exec hrun,Z,L,?_⟩
      have h1:=h.setArr (qbZ w (L.ab id) (cur.toList.take (lo*A.es)++news++cur.toList.drop (lo*A.es+news.length)).toArray) (row:=some (L.ab id)) (fun k ek=>⟨A,hA,by cases ek;rfl⟩) (id:=id) (LSame.refl L) (fun _ _=>rfl) (.inl ⟨A,hA,rfl⟩)
       (by rw[setRow_size];exact o2) (St.noTo_nul _) (A' := { A with xs:=cpyF A.xs lo (ys.take n) })
       (cur:=(cur.toList.take (lo*A.es)++news++cur.toList.drop (lo*A.es+news.length)).toArray)
       ⟨hX.pos,hX.ae,by rw[qc9 hkl];exact hX.al,setRow_heap w _ cur _ A.ty _ hX.blk,by rw[qbY hfit];exact hX.size,by rw[qc9 hkl];exact hX.fits,hX.max,fun r hr=>by
        simp only[cpyF,yC]at hr
        rcases hr with(h2|h2)|h2
        ·exact hX.rows r (List.mem_of_mem_take h2)
        ·exact hrows r (List.mem_of_mem_take h2)
        ·exact hX.rows r (List.mem_of_mem_drop h2),fun p q r' c hp hq' =>by
        rw[qbX hfit]
        dsimp only at hp ⊢
        rcases qc8 hkl hp with⟨h2,h3,h4⟩|⟨h2,h3⟩
        ·have hql:q<A.es:=by
          rw[<- hrows r' (List.mem_of_mem_take (zP h4))];exact(zM.1 hq').1
         have hpn:p-lo<n:=by
          have:=List.length_take_le n ys
          omega
         rw[List.getElem?_take,if_pos hpn]at h4
         have h5:=hcell (p-lo) q r' c hpn h4 hq'
         have h6:=qan (show p-lo<(ys.take n).length by omega) hql
         have h7:p*A.es+q=lo*A.es+((p-lo)*A.es+q):=by
          rw[<- Nat.add_assoc,<- Nat.add_mul,show lo+(p-lo)=p from by omega]
         rw[if_pos ⟨by omega,by omega⟩,h7,Nat.add_sub_cancel_left]
         exact⟨h5.1.keep hk (fun _ _ h=>h),h5.2⟩
        ·have hql:q<A.es:=by rw[<- hX.rows r' (zP h3)];exact(zM.1 hq').1
         have h5:=hX.cell p q r' c h3 hq'
         rw[if_neg (by
          rintro⟨q1,q2⟩
          rw[hnl,<- Nat.add_mul]at q2
          refine h2 ⟨?_,?_⟩
          ·by_cases hh:lo<=p
           ·exact hh
           ·have:=qan (show p<lo by omega) hql;omega
          ·by_cases hh:p<lo+(ys.take n).length
           ·exact hh
           ·have:=Nat.mul_le_mul_right A.es (show lo+(ys.take n).length<=p by omega);omega)]
         exact⟨h5.1.keep hk (fun _ _ h=>h),h5.2⟩⟩
      exact h1.put hd (v:= .int (min ys.length n:Nat)) (u:=goInt (min ys.length n:Nat)) (TR.sc (.int .i64 (min ys.length n:Nat)) rfl)
     ·exact hv.elim
    ·exact hv.elim
   ·cases ht
  ·cases hm
 ·cases hm
theorem qcb (h : Inv w0 Z0 N Z L st a w) {i ir : Nat} (hi : N.dst (some i) (some ir)) {es ty by_ : Nat} {s x : Opd} {op : Op} (hm : okH P N.sh (.app es ty by_ s x) op = true) (hv : (hev st (some i) (.app es ty by_ s x)).1) :
  Runs P w0 Z0 N w a op (some ir) (hev st (some i) (.app es ty by_ s x)).2:=by
 unfold okH at hm
 split at hm<;>(first|(rename_i heq;cases heq;done)|skip)
 all_goals (try(rename_i heq;cases heq))
 ·split at hm
  ·rename_i s' x' t t' e1 e2
   simp only[zN,beq_iff_eq]at hm
   obtain⟨⟨⟨hs',hx'⟩,rfl⟩,ht⟩:=hm
   have e1:=qaW e1;have e2:=qaW e2;cases e1;cases e2
   split at ht
   ·rename_i e he
    simp only[zN,beq_iff_eq]at ht
    obtain⟨⟨⟨rfl,hsz⟩,hby⟩,hzz⟩:=ht
    split at hzz
    ·rename_i ti hti
     split at hzz
     ·rename_i z hz
      have hzs:z.cells.size=es:=by simpa using hzz
      have hby' :ti.bytes=by_:=by simpa[byIs,hti]using hby
      have hsz' :ti.size=es:=by simpa[szIs,hti]using hsz
      simp only[hev]at hv ⊢
      have hsr:=h.ev hs'
      have exec : ∀ {v : Value} {w' : World}, (∀ ty, (Builtin.append_ #[t, t] ty #[a.eval s', a.eval x']).run P w = .ok v w') -> ∀ (ty : TypeId) (pos : String) (after : Array Edge) (g : Option (Nat × Bool)),
        (execOp a.eval ⟨some ir,.call ⟨.builtin .append,#[s',x'],#[t,t]⟩,ty,pos,after,g⟩).run P w= .ok (.value v) w' :=by
       intro v w' hr ty _ _ _
       simp[execOp,resolve,invoke,builtin,hr ty]
      split at hv
      ·rename_i i' e4 e3
       cases e4
       rw[e3]at hsr
       simp only[VR,AR,CR]at hsr
       have hsv:a.eval s' = .slice none 0 0:=by
        generalize a.eval s' =u at hsr;cases hsr;rfl
       split at hv
       ·rename_i hnil
        obtain⟨hpos,hv⟩:=hv
        obtain⟨news,hsrc,_,_⟩:=qc3 h he hpos hx' hv
        rw[hnil,<- hsz']at hsrc
        exact⟨_,_,_,.inl rfl,exec (fun ty=>by rw[hsv];exact qc7 he hti hsrc),Z,L,h.put (d:=some i) (d' :=some ir) hi (v:= .nil) (u:= .slice none 0 0) TR.nil⟩
       ·rename_i y r hnil
        obtain⟨⟨hpos,hq⟩,hbytes,h63⟩:=hv
        obtain⟨news,hsrc,hrows,hcell⟩:=qc3 h he hpos hx' hq
        rw[hnil]at hsrc hrows hcell
        have hn1:(y::r).length=r.length+1:=rfl
        have hnl:news.length=(r.length+1)*es:=by rw[hsrc.newsLen,hn1]
        have hrun := fun (ty : TypeId) => run_append_grow_src (P := P) w t t ty e ti z he hti hz none 0 0 [] (by simp [Builtin.firstCells]) (a.eval x') (r.length + 1) news (by rw [hsz']; exact hsrc) (by omega) (by omega)
          (qc5 (by omega) (by rw[hby',Nat.zero_add];exact hbytes))
        simp only[Nat.zero_add,List.nil_append]at hrun
        have hge:=grownCap_ge w (r.length+1) 0 e
        have hle:=grownCap_le_maxLen w (r.length+1) 0 e (by simp only[maxLen];omega)
        refine⟨_,_,_,.inl rfl,exec (fun ty=>by rw[hsv];exact hrun ty),?_⟩
        have:=h.newArr hi (A:=⟨es,e,y::r⟩) (cur:=news.toArray++Builtin.zeroCells z.cells (grownCap w (r.length+1) 0 e-(r.length+1))) (cap:=grownCap w (r.length+1) 0 e)
         (w' :=w.drew.alloc (.cells (news.toArray++Builtin.zeroCells z.cells (grownCap w (r.length+1) 0 e-(r.length+1))) e))
         ⟨rfl,rfl,rfl,by simp,fun k hk _=>Below.heap_alloc w.drew _ k hk⟩ (g:=w.heap.size) (Nat.le_refl _) (by simp) (heap_alloc_new w.drew _) hpos
         (by simp only[Array.size_append,List.size_toArray,size_zeroCells,hzs,hnl,<- Nat.add_mul];congr 1;omega) hge hle hrows
         (fun p q x c hp hq' =>by
          have hpl:p<r.length+1:=(zM.1 hp).1
          have hql:q<es:=by rw[<- hrows x (zP hp)];exact(zM.1 hq').1
          have hlt:=qan hpl hql
          have e5:(news.toArray++Builtin.zeroCells z.cells (grownCap w (r.length+1) 0 e-(r.length+1))).getD (p*es+q) undef=news.getD (p*es+q) undef:=by
           rw[zO,Array.getElem?_append_left (by simp;omega),zK];simp
          simp only at e5 ⊢
          rw[e5];exact hcell p q x c hp hq')
        exact this
      ·rename_i i' id lo n e4 e3
       cases e4
       rw[e3]at hsr
       split at hv
       ·rename_i A hA
        obtain⟨⟨⟨rfl,hes,hty⟩,hq⟩,rfl,hbytes,h63⟩:=hv
        subst hes
        obtain⟨cur,hX⟩:=h.arrs id A hA
        obtain⟨o1,o2,o3⟩:=h.owna id A hA
        obtain⟨ad,c,hsv,hnc,hcm,_,_,hz0⟩:=hsr
        obtain⟨rfl,rfl⟩:=hz0 rfl
        obtain⟨news,hsrc,hrows,hcell⟩:=qc3 h he hX.pos hx' hq
        generalize hys:(qbN st A.es (x.ev st)).2=ys at *
        have hnl:news.length=ys.length*A.es:=hsrc.newsLen
        have hblk:w.heap[L.ab id]? =some (.cells cur e (0,0)):=by rw[<- hty];exact hX.blk
        by_cases hroom:A.xs.length+ys.length<=L.ac id
        ·have hfit:A.xs.length*A.es+news.length<=cur.size:=by rw[hnl,hX.size,<- Nat.add_mul];exact Nat.mul_le_mul_right _ hroom
         have hrun:=fun(ty:TypeId)=>qc6 (P:=P) (ty:=ty) he hti hblk (by rw[hsz'];exact hsrc) hroom (by rw[hsz'];exact hfit)
         rw[hsz']at hrun
         refine⟨_,_,_,.inl rfl,exec (fun ty=>by rw[hsv];exact hrun ty),?_⟩
         have hl:LSame L { L with al:=fun j=>if j=id then A.xs.length+ys.length else L.al j } nul (fun j=>j==id):=
          ⟨fun _ _=>rfl,fun _ _=>rfl,fun _ _=>rfl,fun _ _=>rfl,fun j hj=>by simp only[beq_eq_false_iff_ne]at hj;simp[hj],fun _ _=>rfl,fun _ _=>rfl⟩
         have hk:Kept Z w (w.setRow (L.ab id) (cur.toList.take (A.xs.length*A.es)++news++cur.toList.drop (A.xs.length*A.es+news.length)).toArray):=
          ⟨fun p b hp=>setRow_other w _ b _ (fun e=>o3 p (e▸hp))⟩
         have h1:=(h.kill nul (fun j=>j==id)).setArr (qbZ w (L.ab id) (cur.toList.take (A.xs.length*A.es)++news++cur.toList.drop (A.xs.length*A.es+news.length)).toArray) (row:=some (L.ab id)) (fun k ek=>⟨A,hA,by cases ek;rfl⟩) (id:=id) hl (fun j hj=>by simpa using hj) (.inl ⟨A,hA,rfl⟩)
          (by rw[setRow_size];exact o2) (St.noTo_kill st _ _) (A' := { A with xs:=A.xs++ys })
          (cur:=(cur.toList.take (A.xs.length*A.es)++news++cur.toList.drop (A.xs.length*A.es+news.length)).toArray)
          ⟨hX.pos,hX.ae,by simp,by rw[hty];exact setRow_heap w _ cur _ e _ hblk,by rw[qbY hfit];exact hX.size,by simpa using hroom,hX.max,fun r hr=>by
           rcases yC.1 hr with h2|h2
           ·exact hX.rows r h2
           ·exact hrows r h2,fun p q r' c hp hq' =>by
           rw[qbX hfit]
           dsimp only at hp ⊢
           by_cases hpl:p<A.xs.length
           ·rw[yA hpl]at hp
            have hql:q<A.es:=by rw[<- hX.rows r' (zP hp)];exact(zM.1 hq').1
            have:=qan hpl hql
            rw[if_neg (by omega)]
            have h3:=hX.cell p q r' c hp hq'
            exact⟨h3.1.keep hk (fun _ _ h=>h),h3.2⟩
           ·rw[yB (by omega)]at hp
            have hpy:p-A.xs.length<ys.length:=(zM.1 hp).1
            have hql:q<A.es:=by rw[<- hrows r' (zP hp)];exact(zM.1 hq').1
            have h3:=hcell (p-A.xs.length) q r' c hp hq'
            have h4:=qan hpy hql
            have h5:p*A.es+q=A.xs.length*A.es+((p-A.xs.length)*A.es+q):=by
             rw[<- Nat.add_assoc,<- Nat.add_mul,show A.xs.length+(p-A.xs.length)=p from by omega]
            rw[if_pos ⟨by omega,by omega⟩,h5,Nat.add_sub_cancel_left]
            exact⟨h3.1.keep hk (fun _ _ h=>h),h3.2⟩⟩
         exact⟨_,_,h1.put (d:=some i) (d' :=some ir) hi (v:= .view id 0 (A.xs.length+ys.length)) (u:= .slice (some ⟨L.ab id,0,none⟩) (A.xs.length+ys.length) (L.ac id)) ⟨_,_,rfl,hroom,hX.max,by simp,by simp,by simp⟩⟩
        ·have hrun := fun (ty : TypeId) => run_append_grow_src (P := P) w t t ty e ti z he hti hz (some ⟨L.ab id, 0, none⟩) A.xs.length (L.ac id) (cur.toList.take (A.xs.length * A.es))
           (by
            rw[hsz']
            have hl:(cur.toList.take (A.xs.length*A.es)).length=A.xs.length*A.es:=by
             have:=Nat.mul_le_mul_right A.es hX.fits
             have h6:=hX.size
             simp;omega
            refine run_firstCells_some w.drew A.es A.xs.length ⟨L.ab id,0,none⟩ A.xs.length (L.ac id) _ hl (fun j v hj=> ?_)
            rw[List.getElem?_take]at hj
            split at hj
            ·rw[Addr.add_lit]
             have:w.drew.cell? ⟨L.ab id,0+j,none⟩=w.cell? ⟨L.ab id,0+j,none⟩:=rfl
             rw[this,cell_of_row w _ _ _ _ _ hblk,Nat.zero_add];simpa using hj
            ·cases hj)
           (a.eval x') ys.length news (by rw[hsz'];exact hsrc) (by omega) (by omega) (qc5 (by omega) (by rw[hby'];exact hbytes))
         have hge:=grownCap_ge w (A.xs.length+ys.length) (L.ac id) e
         have hle:=grownCap_le_maxLen w (A.xs.length+ys.length) (L.ac id) e (by simp only[maxLen];omega)
         have hold:(cur.toList.take (A.xs.length*A.es)).length=A.xs.length*A.es:=by
          have:=Nat.mul_le_mul_right A.es hX.fits
          have h6:=hX.size
          simp;omega
         refine⟨_,_,_,.inl rfl,exec (fun ty=>by rw[hsv];exact hrun ty),?_⟩
         have hl:LSame L { L with ab:=fun j=>if j=id then w.heap.size else L.ab j,ac:=fun j=>if j=id then grownCap w (A.xs.length+ys.length) (L.ac id) e else L.ac j,al:=fun j=>if j=id then A.xs.length+ys.length else L.al j } nul (fun j=>j==id):=
          ⟨fun _ _=>rfl,fun j hj=>by simp only[beq_eq_false_iff_ne]at hj;simp[hj],fun j hj=>by simp only[beq_eq_false_iff_ne]at hj;simp[hj],fun _ _=>rfl,fun j hj=>by simp only[beq_eq_false_iff_ne]at hj;simp[hj],fun _ _=>rfl,fun _ _=>rfl⟩
         have hg:w.grownBy (w.drew.alloc (.cells ((cur.toList.take (A.xs.length*A.es)++news).toArray++Builtin.zeroCells z.cells (grownCap w (A.xs.length+ys.length) (L.ac id) e-(A.xs.length+ys.length))) e)) none:=
          ⟨rfl,rfl,rfl,by simp,fun k hk _=>Below.heap_alloc w.drew _ k hk⟩
         have hk:Kept Z w (w.drew.alloc (.cells ((cur.toList.take (A.xs.length*A.es)++news).toArray++Builtin.zeroCells z.cells (grownCap w (A.xs.length+ys.length) (L.ac id) e-(A.xs.length+ys.length))) e)):=
          ⟨fun p b hp=>hg.block b (h.zb p b hp) (by simp)⟩
         have h1:=(h.kill nul (fun j=>j==id)).setArr hg (by simp) (id:=id) hl (fun j hj=>by simpa using hj) (.inr (by simp)) (by simp) (St.noTo_kill st _ _) (A' := { A with xs:=A.xs++ys })
          (cur:=(cur.toList.take (A.xs.length*A.es)++news).toArray++Builtin.zeroCells z.cells (grownCap w (A.xs.length+ys.length) (L.ac id) e-(A.xs.length+ys.length)))
          ⟨hX.pos,hX.ae,by simp,by simp only[if_true,hty];exact heap_alloc_new w.drew _,by
           simp only[if_true,Array.size_append,List.size_toArray,zU,size_zeroCells,hzs,hnl,hold,<- Nat.add_mul];congr 1;omega,by simpa using hge,by simpa using hle,fun r hr=>by
           rcases yC.1 hr with h2|h2
           ·exact hX.rows r h2
           ·exact hrows r h2,fun p q r' c hp hq' =>by
           dsimp only at hp ⊢
           have hpt:p<A.xs.length+ys.length:=by
            have:=(zM.1 hp).1
            simpa using this
           by_cases hpl:p<A.xs.length
           ·rw[yA hpl]at hp
            have hql:q<A.es:=by rw[<- hX.rows r' (zP hp)];exact(zM.1 hq').1
            have hlt:=qan hpl hql
            have h3:=hX.cell p q r' c hp hq'
            have e5:((cur.toList.take (A.xs.length*A.es)++news).toArray++Builtin.zeroCells z.cells (grownCap w (A.xs.length+ys.length) (L.ac id) e-(A.xs.length+ys.length))).getD (p*A.es+q) undef=cur.getD (p*A.es+q) undef:=by
             rw[zO,Array.getElem?_append_left (by rw[List.size_toArray,zU,hold,hnl];omega),List.getElem?_toArray,yA (by omega),List.getElem?_take,if_pos hlt,zO];simp
            rw[e5]
            exact⟨h3.1.keep hk (fun _ _ h=>h),h3.2⟩
           ·rw[yB (by omega)]at hp
            have hpy:p-A.xs.length<ys.length:=(zM.1 hp).1
            have hql:q<A.es:=by rw[<- hrows r' (zP hp)];exact(zM.1 hq').1
            have h3:=hcell (p-A.xs.length) q r' c hp hq'
            have h4:=qan hpy hql
            have h5:p*A.es+q=A.xs.length*A.es+((p-A.xs.length)*A.es+q):=by
             rw[<- Nat.add_assoc,<- Nat.add_mul,show A.xs.length+(p-A.xs.length)=p from by omega]
            have e5:((cur.toList.take (A.xs.length*A.es)++news).toArray++Builtin.zeroCells z.cells (grownCap w (A.xs.length+ys.length) (L.ac id) e-(A.xs.length+ys.length))).getD (p*A.es+q) undef=news.getD ((p-A.xs.length)*A.es+q) undef:=by
             rw[zO,Array.getElem?_append_left (by rw[List.size_toArray,zU,hold,hnl];omega),List.getElem?_toArray,yB (by omega),hold,h5,Nat.add_sub_cancel_left,zK]
            rw[e5]
            exact⟨h3.1.keep hk (fun _ _ h=>h),h3.2⟩⟩
         exact⟨_,_,h1.put (d:=some i) (d' :=some ir) hi (v:= .view id 0 (A.xs.length+ys.length)) ⟨_,_,rfl,hge,hle,by simp,by simp,by simp⟩⟩
       ·exact hv.elim
      ·exact hv.elim
     ·cases hzz
    ·cases hzz
   ·cases ht
  ·cases hm
 ·cases hm
end
end Go.Vc
namespace Go.Vc
open Go Go.RowKit
section
variable {w0:World} {Z0:Zone} {N:Fr} {Z:Zone} {L:Lay} {st:St} {a:Act} {w:World} {P:Program} {pb pa:Nat->Bool}
theorem qcd{α:Type}(l:List (Nat×α))(i j:Nat)(v:α)(h:lk (rm l i) j=some v):lk l j=some v/\j≠i:=by
 rw[qa4]at h
 split at h
 ·cases h
 ·rename_i e;exact⟨h,Ne.symm e⟩
theorem Inv.rmBox(h:Inv w0 Z0 N Z L st a w)(i:Nat):Inv w0 Z0 N Z L { st with b:=rm st.b i } a w:=
 h.forget (fun _ _ hl=> .inl hl) (fun _ _ hl=>(qcd _ _ _ _ hl).1) (fun _ _ hl=>hl) (fun _ _ hl=>hl)
theorem qcf (h : Inv w0 Z0 N Z L st a w) {i i' : Nat} (hi : N.dst (some i) (some i')) {kd : KD} {op : Op} (hm : okH P N.sh (.mkm kd) op = true) :
  Runs P w0 Z0 N w a op (some i') (hev st (some i) (.mkm kd)).2:=Bool.noConfusion (show false=true from hm)
theorem qck{c:PV}{v:Value}(h:VR w Z L c v)(hp:qbO c=true):TA w Z c v:=by
 cases c with
 |agg cs=>
   obtain⟨vs,h1,h2,h3⟩:=h
   refine⟨vs,h1,h2,fun j c hj=>(h3 j c hj).pure ?_⟩
   simp only[qbO,yE]at hp
   exact hp c (zP hj)
 |sc u=>exact h
 |nil=>exact h
 |sl p es xs=>exact h
 |iptr p cs o=>exact h
 |_=>simp[qbO,qbM]at hp
theorem qcn (h : Inv w0 Z0 N Z L st a w) {i i' : Nat} (hi : N.dst (some i) (some i')) {kd : KD} {zero : PV} {x k : Opd} {op : Op} (hm : okH P N.sh (.men kd zero x k) op = true) (hv : (hev st (some i) (.men kd zero x k)).1) :
  Runs P w0 Z0 N w a op (some i') (hev st (some i) (.men kd zero x k)).2:=Bool.noConfusion (show false=true from hm)
theorem Inv.obsMap(h:Inv w0 Z0 N Z L st a w){id:Nat}{M:Mp}(hM:lk st.m id=some M): ∃l c,Inv w0 Z0 N Z L { st with m:=up st.m id ⟨M.kd,M.es,some (.stp l c)⟩ } a w/\l.length=M.es.length:=by
 obtain⟨ents,clock,hR⟩:=h.maps id M hM
 refine⟨ents.toList.map (·.born),clock,?_,by simp[hR.size]⟩
 refine⟨h.zt,h.z0,h.zn,h.zb,h.below,h.ownb,h.owna,h.injb,h.inja,h.injx,h.boxes,h.arrs,fun i M' hl=> ?_,fun i j x y h1 h2 e=> ?_,fun i M' hl=> ?_,h.oth,h.yb,h.size,h.defers,h.slots⟩
 ·simp only[qa2]at hl
  split at hl
  ·rename_i e;subst e;exact h.ownm _ M hM
  ·exact h.ownm i M' hl
 ·simp only[qa2]at h1 h2
  by_cases e1:id=i
  ·by_cases e2:id=j
   ·exact e1.symm.trans e2
   ·rw[if_neg e2]at h2;rw[<- e1]at e ⊢;exact h.injm id j M y hM h2 e
  ·rw[if_neg e1]at h1
   by_cases e2:id=j
   ·rw[<- e2]at e ⊢;exact h.injm i id x M h1 hM e
   ·rw[if_neg e2]at h2;exact h.injm i j x y h1 h2 e
 ·simp only[qa2]at hl
  split at hl
  ·rename_i e
   subst e
   cases hl
   exact⟨ents,clock,hR.blk,hR.size,hR.ent,hR.kind,hR.old,hR.born,rfl,rfl⟩
  ·exact h.maps i M' hl
theorem qcp (h : Inv w0 Z0 N Z L st a w) {i i' : Nat} (hi : N.dst (some i) (some i')) {x : Opd} {op : Op} (hm : okH P N.sh (.rng x) op = true) (hv : (hev st (some i) (.rng x)).1) :
  Runs P w0 Z0 N w a op (some i') (hev st (some i) (.rng x)).2:=Bool.noConfusion (show false=true from hm)
end
end Go.Vc
namespace Go.Vc
open Go Go.RowKit
inductive Sub:PV->PV->Prop
 |refl (c):Sub c c
 |bot (c):Sub c .bot
 |nil (p es):Sub .nil (.sl p es [])
 | sl (p q es xs ys) : (q = true -> p = true) -> xs.length = ys.length -> (∀ (i : Nat) (x y : List PV), xs[i]? = some x -> ys[i]? = some y -> x.length = y.length) ->
   (∀(i:Nat) (x y:List PV) (j:Nat) (c d:PV),xs[i]? =some x->ys[i]? =some y->x[j]? =some c->y[j]? =some d->Sub c d)->Sub (.sl p es xs) (.sl q es ys)
 |iptr (p q cs ds off):(q=true->p=true)->cs.length=ds.length->(∀(j:Nat) (c d:PV),cs[j]? =some c->ds[j]? =some d->Sub c d)->Sub (.iptr p cs off) (.iptr q ds off)
 |agg (cs ds):cs.length=ds.length->(∀(j:Nat) (c d:PV),cs[j]? =some c->ds[j]? =some d->Sub c d)->Sub (.agg cs) (.agg ds)
 |tup (cs ds):cs.length=ds.length->(∀(j:Nat) (c d:PV),cs[j]? =some c->ds[j]? =some d->Sub c d)->Sub (.tup cs) (.tup ds)
section
variable {w:World} {Z:Zone} {L:Lay}
theorem qct{α β:Type}{xs:List α}{ys:List β}(hl:xs.length=ys.length){i:Nat}{y:β}(h:ys[i]? =some y): ∃x,xs[i]? =some x:=by
 have:=(zM.1 h).1
 exact⟨xs[i],zL (by omega)⟩
theorem Sub.tr(hz: ∀b,Z true b->Z false b){c d:PV}(hs:Sub c d): ∀ {v:Value},TR w Z c v->TR w Z d v:=by
 have hzz: ∀ {p q:Bool} {b:Nat},(q=true->p=true)->Z p b->Z q b:=fun {p q b} hpq h=>by
  cases p<;>cases q<;>first|exact h|exact hz _ h|(cases hpq rfl)
 induction hs with
 |refl c=>exact fun h=>h
 |bot c=>exact fun _=> .bot _
 |nil p es=>
   intro v h
   cases h
   exact .sl0 p es none 0 (Nat.zero_le _)
 |sl p q es xs ys hpq hl hr _ ih=>
   intro v h
   cases h with
   |sl0 _ _ a cap h=>
     have:ys=[]:=List.length_eq_zero_iff.1 hl.symm
     subst this
     exact .sl0 q es a cap h
   |sl _ _ _ b o cap g h0 h1 h2 h3 h4 h5 h6 h7=>
     rw[hl]
     refine .sl q es ys b o cap g h0 (hzz hpq h1) (by omega) (by omega) h4 (fun y hy=> ?_) (fun i j hi hj=>h6 i j (by omega) hj) (fun i j y d hi hj=> ?_)
     ·obtain⟨i,hi,rfl⟩:=List.getElem_of_mem hy
      have hxi:xs[i]? =some xs[i]:=zL (by omega)
      rw[<- hr i _ _ hxi (zL hi)]
      exact h5 _ (zP hxi)
     ·obtain⟨x,hx⟩:=qct hl hi
      obtain⟨c,hc⟩:=qct (hr i x y hx hi) hj
      exact ih i x y j c d hx hi hc hj (h7 i j x c hx hc)
 |iptr p q cs ds off hpq hl _ ih=>
   intro v h
   cases h with
   |iptr _ _ b o _ g h1 h2 h3=>
     refine .iptr q ds b o off g (hzz hpq h1) (fun j hj=>h2 j (by omega)) (fun j d hj=> ?_)
     obtain⟨c,hc⟩:=qct hl hj
     exact ih j c d hc hj (h3 j c hc)
 |agg=>intro v h;cases h
 |tup=>intro v h;cases h
theorem Sub.cr(hz: ∀b,Z true b->Z false b){c d:PV}(hs:Sub c d){v:Value}(h:CR w Z L c v):CR w Z L d v:=by
 by_cases hcd:c=d
 ·subst hcd;exact h
 have h1:TR w Z c v\/d= .bot:=by
  cases hs with
  |refl=>exact absurd rfl hcd
  |bot=>exact .inr rfl
  |_=>exact .inl h
 rcases h1 with h1|rfl
 ·have h2:=hs.tr hz h1
  exact h2.cr L
 ·exact TR.bot v
theorem Sub.cm(hz: ∀b,Z true b->Z false b){c d:PV}(hs:Sub c d){v:Value}(h:CM w Z L c v):CM w Z L d v:=⟨hs.cr hz h.1,h.2⟩
theorem AR.of_cr{c:PV}{v:Value}(h:CR w Z L c v):AR w Z L c v:=by
 cases c<;>simp only[AR]<;>first|exact h|(simp only[CR]at h;cases h)
theorem VR.of_ar{c:PV}{v:Value}(h:AR w Z L c v):VR w Z L c v:=by
 cases c<;>simp only[VR]<;>first|exact h|(simp only[AR,CR]at h;cases h)
theorem Sub.ar(hz: ∀b,Z true b->Z false b){c d:PV}(hs:Sub c d){v:Value}(h:AR w Z L c v):AR w Z L d v:=by
 cases hs with
 |refl=>exact h
 |bot=>exact TR.bot v
 |nil p es=>exact AR.of_cr (Sub.cr hz (.nil p es) h)
 |sl p q es xs ys h1 h2 h3 h4=>exact AR.of_cr (Sub.cr hz (.sl p q es xs ys h1 h2 h3 h4) h)
 |iptr p q cs ds off h1 h2 h3=>exact AR.of_cr (Sub.cr hz (.iptr p q cs ds off h1 h2 h3) h)
 |agg cs ds hl hh=>
   obtain⟨vs,e,h1,h2⟩:=h
   refine⟨vs,e,by omega,fun j d hj=> ?_⟩
   obtain⟨c,hc⟩:=qct hl hj
   exact(hh j c d hc hj).cm hz (h2 j c hc)
 |tup cs ds hl hh=>simp only[AR,CR]at h;cases h
theorem Sub.vr(hz: ∀b,Z true b->Z false b){c d:PV}(hs:Sub c d){v:Value}(h:VR w Z L c v):VR w Z L d v:=by
 cases hs with
 |refl=>exact h
 |bot=>exact TR.bot v
 |nil p es=>exact VR.of_ar (Sub.ar hz (.nil p es) h)
 |sl p q es xs ys h1 h2 h3 h4=>exact VR.of_ar (Sub.ar hz (.sl p q es xs ys h1 h2 h3 h4) h)
 |iptr p q cs ds off h1 h2 h3=>exact VR.of_ar (Sub.ar hz (.iptr p q cs ds off h1 h2 h3) h)
 |agg cs ds h1 h2=>exact VR.of_ar (Sub.ar hz (.agg cs ds h1 h2) h)
 |tup cs ds hl hh=>
   obtain⟨vs,e,h1,h2⟩:=h
   refine⟨vs,e,by omega,fun j d hj=> ?_⟩
   obtain⟨c,hc⟩:=qct hl hj
   exact(hh j c d hc hj).ar hz (h2 j c hc)
theorem Sub.ta(hz: ∀b,Z true b->Z false b){c d:PV}(hs:Sub c d){v:Value}(h:TA w Z c v):TA w Z d v:=by
 have key: ∀ {c d:PV},(∀cs,d≠ .agg cs)->Sub c d->TR w Z c v->TA w Z d v:=fun {c d} hd hs h=>by
  have:=hs.tr hz h
  cases d<;>simp only[TA]<;>first|exact this|exact absurd rfl (hd _)
 cases hs with
 |refl=>exact h
 |bot=>exact TR.bot v
 |nil p es=>exact key (by intro cs e;cases e) (.nil p es) h
 |sl p q es xs ys h1 h2 h3 h4=>exact key (by intro cs e;cases e) (.sl p q es xs ys h1 h2 h3 h4) h
 |iptr p q cs ds off h1 h2 h3=>exact key (by intro cs e;cases e) (.iptr p q cs ds off h1 h2 h3) h
 |agg cs ds hl hh=>
   obtain⟨vs,e,h1,h2⟩:=h
   refine⟨vs,e,by omega,fun j d hj=> ?_⟩
   obtain⟨c,hc⟩:=qct hl hj
   exact⟨(hh j c d hc hj).tr hz (h2 j c hc).1,(h2 j c hc).2⟩
 |tup cs ds hl hh=>simp only[TA]at h;cases h
theorem Sub.tv(hz: ∀b,Z true b->Z false b){c d:PV}(hs:Sub c d){v:Value}(h:TV w Z c v):TV w Z d v:=by
 have key: ∀ {c d:PV},(∀cs,d≠ .tup cs)->Sub c d->TA w Z c v->TV w Z d v:=fun {c d} hd hs h=>by
  have:=hs.ta hz h
  cases d<;>simp only[TV]<;>first|exact this|exact absurd rfl (hd _)
 cases hs with
 |refl=>exact h
 |bot=>exact TR.bot v
 |nil p es=>exact key (by intro cs e;cases e) (.nil p es) h
 |sl p q es xs ys h1 h2 h3 h4=>exact key (by intro cs e;cases e) (.sl p q es xs ys h1 h2 h3 h4) h
 |iptr p q cs ds off h1 h2 h3=>exact key (by intro cs e;cases e) (.iptr p q cs ds off h1 h2 h3) h
 |agg cs ds h1 h2=>exact key (by intro cs e;cases e) (.agg cs ds h1 h2) h
 |tup cs ds hl hh=>
   obtain⟨vs,e,h1,h2⟩:=h
   refine⟨vs,e,by omega,fun j d hj=> ?_⟩
   obtain⟨c,hc⟩:=qct hl hj
   exact(hh j c d hc hj).ta hz (h2 j c hc)
end
def SubL:List PV->List PV->Prop
 |[],[]=>True
 |c::cs,d::ds=>Sub c d/\SubL cs ds
 |_,_=>False
theorem SubL.len: ∀ {cs ds:List PV},SubL cs ds->cs.length=ds.length
 |[],[],_=>rfl
 |c::cs,d::ds,h=>by simp[SubL.len h.2]
theorem SubL.at: ∀ {cs ds:List PV},SubL cs ds-> ∀(j:Nat) (c d:PV),cs[j]? =some c->ds[j]? =some d->Sub c d
 |[],[],_,j,c,d,h,_=>by simp at h
 | c' :: cs, d' :: ds, h, j, c, d, hc, hd => by
   cases j with
   |zero=>simp at hc hd;subst hc hd;exact h.1
   |succ j=>simp at hc hd;exact SubL.at h.2 j c d hc hd
theorem SubL.rfl' : ∀cs:List PV,SubL cs cs
 |[]=>trivial
 |c::cs=>⟨.refl c,SubL.rfl' cs⟩
theorem Sub.aggL{cs ds:List PV}(h:SubL cs ds):Sub (.agg cs) (.agg ds):= .agg cs ds h.len h.at
theorem Sub.tupL{cs ds:List PV}(h:SubL cs ds):Sub (.tup cs) (.tup ds):= .tup cs ds h.len h.at
theorem Sub.slp(p es)(xs:List (List PV))(q:Bool)(h:q=true->p=true):Sub (.sl p es xs) (.sl q es xs):=
 .sl p q es xs xs h rfl (fun i x y h1 h2=>by rw[h1]at h2;cases h2;rfl) (fun i x y j c d h1 h2 h3 h4=>by rw[h1]at h2;cases h2;rw[h3]at h4;cases h4;exact .refl c)
def SubR:List (List PV)->List (List PV)->Prop
 |[],[]=>True
 |x::xs,y::ys=>SubL x y/\SubR xs ys
 |_,_=>False
theorem SubR.len: ∀ {cs ds:List (List PV)},SubR cs ds->cs.length=ds.length
 |[],[],_=>rfl
 |c::cs,d::ds,h=>by simp[SubR.len h.2]
theorem SubR.at: ∀ {cs ds:List (List PV)},SubR cs ds-> ∀(j:Nat) (c d:List PV),cs[j]? =some c->ds[j]? =some d->SubL c d
 |[],[],_,j,c,d,h,_=>by simp at h
 | c' :: cs, d' :: ds, h, j, c, d, hc, hd => by
   cases j with
   |zero=>simp at hc hd;subst hc hd;exact h.1
   |succ j=>simp at hc hd;exact SubR.at h.2 j c d hc hd
theorem SubR.rfl' : ∀cs:List (List PV),SubR cs cs
 |[]=>trivial
 |c::cs=>⟨SubL.rfl' c,SubR.rfl' cs⟩
theorem SubR.app: ∀ {xs ys us vs:List (List PV)},SubR xs ys->SubR us vs->SubR (xs++us) (ys++vs)
 |[],[],_,_,_,h=>h
 |_::_,_::_,_,_,h1,h=>⟨h1.1,SubR.app h1.2 h⟩
theorem SubR.map{α:Type}(f g:α->List PV): ∀(l:List α),(∀x∈l,SubL (f x) (g x))->SubR (l.map f) (l.map g)
 |[],_=>trivial
 |x::l,h=>⟨h x zX,SubR.map f g l fun y hy=>h y (zT _ hy)⟩
def WkS:List (Nat×PV)->List (Nat×PV)->Prop
 |[],[]=>True
 |(i,c)::s,(j,d)::t=>i=j/\Sub c d/\WkS s t
 |_,_=>False
def WkB:List (Nat×List PV)->List (Nat×List PV)->Prop
 |[],[]=>True
 |(i,c)::s,(j,d)::t=>i=j/\SubL c d/\WkB s t
 |_,_=>False
def WkA:List (Nat×Arr)->List (Nat×Arr)->Prop
 |[],[]=>True
 |(i,c)::s,(j,d)::t=>(i=j/\d.es=c.es/\d.ty=c.ty)/\SubR c.xs d.xs/\WkA s t
 |_,_=>False
def Wk(st st' :St):Prop:=WkS st.s st'.s/\WkB st.b st'.b/\WkA st.a st'.a/\st'.m=st.m
theorem WkS.lk: ∀ {s t:List (Nat×PV)},WkS s t-> ∀i d,lk t i=some d-> ∃c,lk s i=some c/\Sub c d
 |[],[],_,i,d,h=>by simp[Go.Vc.lk]at h
 | (k, c) :: s, (j, d') :: t, h, i, d, hd => by
   obtain⟨rfl,h1,h2⟩:=h
   simp only[Go.Vc.lk]at hd ⊢
   split at hd
   ·rename_i e;cases hd;rw[if_pos e];exact⟨c,rfl,h1⟩
   ·rename_i e;rw[if_neg e];exact WkS.lk h2 i d hd
theorem WkB.lk: ∀ {s t:List (Nat×List PV)},WkB s t-> ∀i d,lk t i=some d-> ∃c,lk s i=some c/\SubL c d
 |[],[],_,i,d,h=>by simp[Go.Vc.lk]at h
 | (k, c) :: s, (j, d') :: t, h, i, d, hd => by
   obtain⟨rfl,h1,h2⟩:=h
   simp only[Go.Vc.lk]at hd ⊢
   split at hd
   ·rename_i e;cases hd;rw[if_pos e];exact⟨c,rfl,h1⟩
   ·rename_i e;rw[if_neg e];exact WkB.lk h2 i d hd
theorem WkA.lk: ∀ {s t:List (Nat×Arr)},WkA s t-> ∀i d,lk t i=some d-> ∃c,lk s i=some c/\(d.es=c.es/\d.ty=c.ty)/\SubR c.xs d.xs
 |[],[],_,i,d,h=>by simp[Go.Vc.lk]at h
 | (k, c) :: s, (j, d') :: t, h, i, d, hd => by
   obtain⟨⟨rfl,h0⟩,h1,h2⟩:=h
   simp only[Go.Vc.lk]at hd ⊢
   split at hd
   ·rename_i e;cases hd;rw[if_pos e];exact⟨c,rfl,h0,h1⟩
   ·rename_i e;rw[if_neg e];exact WkA.lk h2 i d hd
theorem WkS.rfl' : ∀s,WkS s s
 |[]=>trivial
 |(_,c)::s=>⟨rfl,.refl c,WkS.rfl' s⟩
theorem WkB.rfl' : ∀s,WkB s s
 |[]=>trivial
 |(_,c)::s=>⟨rfl,SubL.rfl' c,WkB.rfl' s⟩
theorem WkA.rfl' : ∀s,WkA s s
 |[]=>trivial
 |(_,c)::s=>⟨⟨rfl,rfl,rfl⟩,SubR.rfl' c.xs,WkA.rfl' s⟩
theorem Wk.refl(st:St):Wk st st:=⟨WkS.rfl' _,WkB.rfl' _,WkA.rfl' _,rfl⟩
theorem Inv.wk{w0:World}{Z0:Zone}{N:Fr}{Z:Zone}{L:Lay}{st st' :St}{a:Act}{w:World}(h:Inv w0 Z0 N Z L st a w)(hw:Wk st st'):Inv w0 Z0 N Z L st' a w:=by
 obtain⟨hs,hb,ha,hm⟩:=hw
 refine⟨h.zt,h.z0,h.zn,h.zb,h.below,fun i v hl=> ?_,fun i v hl=> ?_,fun i j x y hx hy=> ?_,fun i j x y hx hy=> ?_,fun i j x y hx hy=> ?_,fun i v hl=> ?_,fun i v hl=> ?_,by rw[hm];exact h.ownm,by rw[hm];exact h.injm,by rw[hm];exact h.maps,h.oth,h.yb,h.size,h.defers,fun i v hl=> ?_⟩
 ·obtain⟨c,h1,_⟩:=hb.lk i v hl;exact h.ownb i c h1
 ·obtain⟨c,h1,_⟩:=ha.lk i v hl;exact h.owna i c h1
 ·obtain⟨c,h1,_⟩:=hb.lk i x hx;obtain⟨d,h2,_⟩:=hb.lk j y hy;exact h.injb i j c d h1 h2
 ·obtain⟨c,h1,_⟩:=ha.lk i x hx;obtain⟨d,h2,_⟩:=ha.lk j y hy;exact h.inja i j c d h1 h2
 ·obtain⟨c,h1,_⟩:=hb.lk i x hx;obtain⟨d,h2,_⟩:=ha.lk j y hy;exact h.injx i j c d h1 h2
 ·obtain⟨c,h1,h2⟩:=hb.lk i v hl
  obtain⟨vs,T,h3,h4,h5⟩:=h.boxes i c h1
  refine⟨vs,T,h3,by rw[<- h2.len];exact h4,fun j d hj=> ?_⟩
  obtain⟨x,hx⟩:=qct h2.len hj
  exact(h2.at j x d hx hj).cm h.zt (h5 j x hx)
 ·obtain⟨c,h1,⟨h2,h3⟩,h4⟩:=ha.lk i v hl
  obtain⟨cur,hX⟩:=h.arrs i c h1
  refine⟨cur,by rw[h2];exact hX.pos,by rw[h2];exact hX.ae,by rw[<- h4.len];exact hX.al,by rw[h3];exact hX.blk,by rw[h2];exact hX.size,by rw[<- h4.len];exact hX.fits,hX.max,fun y hy=> ?_,fun p q y d hp hq=> ?_⟩
  ·obtain⟨j,hj,rfl⟩:=List.getElem_of_mem hy
   have hyj:v.xs[j]? =some v.xs[j]:=zL hj
   obtain⟨x,hx⟩:=qct h4.len hyj
   rw[h2,<- (h4.at j x _ hx hyj).len]
   exact hX.rows x (zP hx)
  ·obtain⟨x,hx⟩:=qct h4.len hp
   obtain⟨e,he⟩:=qct (h4.at p x y hx hp).len hq
   rw[h2]
   exact⟨((h4.at p x y hx hp).at q e d he hq).tr h.zt (hX.cell p q x e hx he).1,(hX.cell p q x e hx he).2⟩
 ·obtain⟨c,h1,h2⟩:=hs.lk i v hl
  exact h2.vr h.zt (h.slots i c h1)
def SWk(st st' :St):Prop:= ∀(w0:World) (Z0:Zone) (N:Fr) (a:Act) (w:World),Sim w0 Z0 N st a w->Sim w0 Z0 N st' a w
theorem Wk.s{st st' :St}(h:Wk st st'):SWk st st' :=fun _ _ _ _ _ ⟨Z,L,hI⟩=>⟨Z,L,hI.wk h⟩
theorem SWk.trans{a b c:St}(h:SWk a b)(h2:SWk b c):SWk a c:=fun w0 Z0 N x w hs=>h2 w0 Z0 N x w (h w0 Z0 N x w hs)
end Go.Vc
