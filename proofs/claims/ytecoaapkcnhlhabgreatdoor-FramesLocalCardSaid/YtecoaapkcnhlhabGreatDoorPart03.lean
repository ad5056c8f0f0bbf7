/- VcI VcJ VcQ VcX: lemmas -/
import Derived.Test.YtecoaapkcnhlhabGreatDoorPart02
import Derived.Maps.RangeRun
set_option linter.unusedSimpArgs false
set_option linter.unusedVariables false
open Option renaming map_eq_some_iff->zR
open Array renaming getD_eq_getD_getElem? ->zO
open Bool renaming and_eq_true->zN,false_ne_true->zQ
open List renaming getD_eq_getElem?_getD->zK,getElem?_eq_getElem->zL,getElem?_eq_some_iff->zM,mem_of_getElem? ->zP,getElem?_map->zS,mem_cons_of_mem->zT,length_append->zU,mem_cons_self->zX,getElem?_append_left->yA,getElem?_append_right->yB,mem_append->yC,all_eq_true->yE
namespace Go.Vc
open Go Go.RowKit
theorem qbX {vs : Array Value} {off : Nat} {news : List Value} (h : off + news.length <= vs.size) (j : Nat) :
  ((vs.toList.take off++news++vs.toList.drop (off+news.length)).toArray).getD j undef=if off<=j/\j<off+news.length then news.getD (j-off) undef else vs.getD j undef:=by
 simp only[zO,List.getElem?_toArray,zK]
 have hl:(vs.toList.take off).length=off:=by simp;omega
 rw[List.append_assoc]
 by_cases h1:j<off
 ·rw[yA (by omega),List.getElem?_take,if_pos h1,if_neg (by omega)]
  simp
 ·rw[yB (by omega),hl]
  by_cases h2:j<off+news.length
  ·rw[yA (by omega),if_pos ⟨by omega,h2⟩]
  ·rw[yB (by omega),List.getElem?_drop,if_neg (by omega)]
   rw[show off+news.length+(j-off-news.length)=j from by omega]
   simp
theorem qbY{vs:Array Value}{off:Nat}{news:List Value}(h:off+news.length<=vs.size):((vs.toList.take off++news++vs.toList.drop (off+news.length)).toArray).size=vs.size:=by
 simp;omega
theorem qbZ(w:World)(g:Nat)(cs:Array Value):w.grownBy (w.setRow g cs) (some g):=
 ⟨rfl,rfl,rfl,by simp,fun k _ hk=>setRow_other w g k cs (fun e=>hk (by simp[e]))⟩
section
variable {w0:World} {Z0:Zone} {N:Fr} {Z:Zone} {L:Lay} {st:St} {a:Act} {w:World} {P:Program}
theorem qc0 {t sz : Nat} (hs : szIs P t sz = true) {g off : Nat} {cur : Array Value} {T : TypeId} (hg : w.heap[g]? = some (.cells cur T (0, 0))) {ad v : Value} (had : ad = .pointer (some ⟨g, off, none⟩)) (hv : v.cells.size = sz)
  (hfit:off+sz<=cur.size) (h1: ∀u∈v.cells.toList,u.oneCell' =true):
  (Instr.storeAt t ad v).run P w= .ok () (w.setRow g (cur.toList.take off++v.cells.toList++cur.toList.drop (off+v.cells.toList.length)).toArray):=by
 have hst:=run_storeCells_at P g off T v.cells.toList 0 cur w hg (by simp;omega) h1
 simp only[Nat.add_zero]at hst
 subst had
 simp[Instr.storeAt,Instr.sureAddr,storeVar,qak hs,hv,hst]
theorem qc1{c:PV}{v:Value}(h:VR w Z L c v)(hk:qas c=true): ∀u∈v.cells.toList,u.oneCell' =true:=by
 intro u hu
 obtain⟨h1,h2⟩:=h.cells hk
 obtain⟨j,hj⟩:=List.getElem?_of_mem hu
 have hlt:j<(cellsOf c).length:=by rw[<- h1];have:=(zM.1 hj).1;simpa using this
 have:=(h2 j _ (zL hlt)).2
 have e:v.cells.getD j undef=u:=by
  rw[zO]
  have:v.cells[j]? =some u:=by simpa using hj
  rw[this];rfl
 rwa [e]at this
theorem qc2 (h : Inv w0 Z0 N Z L st a w) {sz : Nat} {x v : Opd} {op : Op} {d : Option Nat} (hd : d = none) (hm : okH P N.sh (.sto sz x v) op = true) (hv : (hev st d (.sto sz x v)).1) :
  Runs P w0 Z0 N w a op d (hev st d (.sto sz x v)).2:=by
 subst hd
 cases op<;>simp only[okH,zN]at hm<;>first|(exact absurd hm zQ)|skip
 rename_i t y u
 obtain⟨⟨hs,hx⟩,hu⟩:=hm
 simp only[hev]at hv ⊢
 split at hv
 ·rename_i id off e1
  split at hv
  ·rename_i cs hcs
   obtain⟨⟨hok,hsz⟩,hfit⟩:=hv
   have hxr:=h.ev hx
   rw[e1]at hxr
   obtain⟨c1,c2⟩:=(h.ev hu).cells hok
   obtain⟨vs,T,b1,b2,b3⟩:=h.boxes id cs hcs
   have hlen:(a.eval u).cells.toList.length=sz:=by simp[c1,hsz]
   have hrun:=qc0 (P:=P) hs b1 hxr.ptr (by rw[c1,hsz]) (by omega) (qc1 (h.ev hu) hok)
   have hfit' :off+(a.eval u).cells.toList.length<=vs.size:=by have:=b2.1;omega
   have hk:Kept Z w (w.setRow (L.bx id) (vs.toList.take off++(a.eval u).cells.toList++vs.toList.drop (off+(a.eval u).cells.toList.length)).toArray):=
    ⟨fun p b hp=>setRow_other w _ b _ (fun e=>(h.ownb id cs hcs).2.2 p (e▸hp))⟩
   refine⟨undef,.skip,_,.inr ⟨rfl,rfl⟩,fun _ _ _ _=>by simp only[execOp,Sem.run_bind,hrun,Result.andThen_ok];rfl,Z,L,?_⟩
   refine h.setBox (qbZ w _ _) (row:=some (L.bx id)) (fun k e=>⟨cs,hcs,by cases e;rfl⟩) (id:=id) (LSame.refl L) (fun _ _=>rfl) (.inl ⟨cs,hcs,rfl⟩) (by rw[setRow_size];exact(h.ownb id cs hcs).2.1)
    (St.noTo_nul _) ⟨_,T,setRow_heap w _ vs _ T _ b1,?_,fun j c hj=> ?_⟩
   ·rw[qbY hfit',qbx (by omega)];exact b2
   ·rw[qbX hfit']
    rcases qbw (by omega) hj with⟨e2,e3,e4⟩|⟨e2,e3⟩
    ·rw[if_pos ⟨e2,by omega⟩]
     have:=c2 _ _ e4
     have h3:=this.keep hk (fun _ _ h=>h) (LSame.refl L) (PV.to_nul c)
     simpa[zO,zK]using h3
    ·rw[hsz]at e2
     rw[if_neg (by omega)]
     exact(b3 j c e3).keep hk (fun _ _ h=>h) (LSame.refl L) (PV.to_nul c)
  ·exact hv.elim
 ·rename_i id i off e1
  obtain⟨Z1,h1⟩:=h.frzs (cellsOf (v.ev st))
  split at hv
  ·rename_i A hA
   obtain⟨⟨⟨hok,hpu⟩,hsz,e2⟩,hoff,hi⟩:=hv
   have hxr:=h1.ev hx
   rw[e2]at hxr
   obtain⟨c1,c2⟩:=(h1.ev hu).cells hok
   obtain⟨cur,hX⟩:=h1.arrs id A hA
   have hlen:(a.eval u).cells.toList.length=sz:=by simp[c1,hsz]
   have hrow:(A.xs.getD i []).length=A.es:=by rw[zK,zL hi];exact hX.rows _ (List.getElem_mem hi)
   have hb1:i*A.es+A.es<=L.ac id*A.es:=by
    have:=Nat.mul_le_mul_right A.es (show i+1<=L.ac id from Nat.le_trans hi hX.fits)
    rwa [Nat.add_mul,Nat.one_mul]at this
   have hfit' :(i*A.es+off)+(a.eval u).cells.toList.length<=cur.size:=by rw[hX.size];omega
   have had:a.eval y= .pointer (some ⟨L.ab id,i*A.es+off,none⟩):=by rw[hxr.eptr.1,hX.ae]
   have hrun:=qc0 (P:=P) hs hX.blk had (by rw[c1,hsz]) (by omega) (qc1 (h1.ev hu) hok)
   have hk:Kept Z1 w (w.setRow (L.ab id) (cur.toList.take (i*A.es+off)++(a.eval u).cells.toList++cur.toList.drop (i*A.es+off+(a.eval u).cells.toList.length)).toArray):=
    ⟨fun p b hp=>setRow_other w _ b _ (fun e=>(h1.owna id A hA).2.2 p (e▸hp))⟩
   refine⟨undef,.skip,_,.inr ⟨rfl,rfl⟩,fun _ _ _ _=>by simp only[execOp,Sem.run_bind,hrun,Result.andThen_ok];rfl,Z1,L,?_⟩
   refine h1.setArr (qbZ w _ _) (row:=some (L.ab id)) (fun k e=>⟨A,hA,by cases e;rfl⟩) (id:=id) (LSame.refl L) (fun _ _=>rfl) (.inl ⟨A,hA,rfl⟩) (by rw[setRow_size];exact(h1.owna id A hA).2.1)
    (St.noTo_nul _) ⟨hX.pos,hX.ae,by simp[hX.al],setRow_heap w _ cur _ A.ty _ hX.blk,by rw[qbY hfit'];exact hX.size,by simpa using hX.fits,hX.max,?_,?_⟩
   ·intro x' hx'
    rcases List.mem_or_eq_of_mem_set hx' with h2|h2
    ·exact hX.rows x' h2
    ·rw[h2,qbx (by omega),hrow]
   ·intro p q x' c hp hq
    have hpl:p<A.xs.length:=by
     have:=(zM.1 hp).1
     simpa using this
    rw[qbX hfit']
    dsimp only at hp ⊢
    by_cases e:p=i
    ·subst e
     rw[List.getElem?_set_self hpl]at hp
     cases hp
     rcases qbw (by omega) hq with⟨e3,e4,e5⟩|⟨e3,e4⟩
     ·rw[if_pos ⟨by omega,by omega⟩,show p*A.es+q-(p*A.es+off)=q-off from by omega]
      have:=(c2 _ _ e5).pure (yE.1 hpu c (zP e5))
      have h3:TR w Z1 c ((a.eval u).cells.toList.getD (q-off) undef)/\((a.eval u).cells.toList.getD (q-off) undef).oneCell' =true:=by
       simpa[zO,zK]using this
      exact⟨h3.1.keep hk (fun _ _ h=>h),h3.2⟩
     ·rw[hsz]at e3
      rw[if_neg (by omega)]
      rw[zK,zL hpl]at e4
      have:=hX.cell p q _ c (zL hpl) e4
      exact⟨this.1.keep hk (fun _ _ h=>h),this.2⟩
    ·rw[List.getElem?_set_ne (Ne.symm e)]at hp
     have hql:q<A.es:=by rw[<- hX.rows x' (zP hp)];exact(zM.1 hq).1
     rw[if_neg (by
      rintro⟨q1,q2⟩
      rcases Nat.lt_trichotomy p i with h3|h3|h3
      ·have:=qan h3 hql;omega
      ·exact e h3
      ·have:(i+1)*A.es<=p*A.es:=Nat.mul_le_mul_right _ h3
       rw[Nat.add_mul,Nat.one_mul]at this;omega)]
     have:=hX.cell p q x' c hp hq
     exact⟨this.1.keep hk (fun _ _ h=>h),this.2⟩
  ·exact hv.elim
 ·exact hv.elim
structure SrcF (P:Program) (es:Nat) (x:Value) (n m:Nat) (news:List Value) (w:World):Prop where
 len: ∀w' :World,(Builtin.lenOf x).run P w' = .ok n w'
 cells:(Builtin.firstCells es (min n m) x).run P w= .ok news.toArray w
 newsLen:news.length=min n m*es
 one: ∀u∈news,u.oneCell' =true
theorem qc3 (h : Inv w0 Z0 N Z L st a w) {t e : TypeId} (he : P.underlying t = some (.slice e)) {es : Nat} (hpos : 0 < es) {x : Opd} {y : Operand} (hx : qai N.sh x y = true) (hv : (qbN st es (x.ev st)).1) :
  ∃news,Src P es t (a.eval y) (qbN st es (x.ev st)).2.length news w/\(∀r∈(qbN st es (x.ev st)).2,r.length=es)/\
   ∀i j r c,(qbN st es (x.ev st)).2[i]? =some r->r[j]? =some c->TR w Z c (news.getD (i*es+j) undef)/\(news.getD (i*es+j) undef).oneCell' =true:=by
 have hr:=h.ev hx
 have build : ∀ (b o n c : Nat) (g : Nat -> Value), a.eval y = .slice (some ⟨b, o, none⟩) n c -> (∀ k, k < n * es -> w.cell? ⟨b, o + k, none⟩ = some (g k) /\ (g k).oneCell' = true) ->
   Src P es t (a.eval y) n ((List.range (n*es)).map g) w:=by
  intro b o n c g hy hc
  rw[hy]
  refine Src.ofSlice w he ⟨b,o,none⟩ n c _ (by simp) (fun j u hj=> ?_) (fun u hu=> ?_)
  ·rw[zS]at hj
   obtain⟨k,h1,rfl⟩:=zR.1 hj
   obtain⟨h2,h3⟩:=zM.1 h1
   simp at h2 h3
   subst h3
   rw[Addr.add_lit];exact(hc _ h2).1
  ·obtain⟨k,h1,rfl⟩:=List.mem_map.1 hu
   exact(hc k (List.mem_range.1 h1)).2
 have getg: ∀(n:Nat) (g:Nat->Value) (k:Nat),k<n*es->((List.range (n*es)).map g).getD k undef=g k:=by
  intro n g k hk
  simp[zK,hk]
 cases hxe:x.ev st with
 |nil=>
   rw[hxe]at hr
   simp only[VR,AR,CR]at hr
   simp only[qbN]
   generalize hy:a.eval y=u at hr
   cases hr
   exact⟨[],Src.ofNil w he 0,by simp,by simp⟩
 |sl p es' ys=>
   rw[hxe]at hr hv
   simp only[VR,AR,CR]at hr
   simp only[qbN]at hv ⊢
   subst hv
   generalize hy:a.eval y=u at hr
   cases hr with
   |sl0 _ _ ad c hc=>
     refine⟨[],?_,by simp,by simp⟩
     cases ad with
     |none=>exact Src.ofNil w he c
     |some ad=>exact Src.ofSlice w he ad 0 c [] (by simp) (by simp) (by simp)
   |sl _ _ _ b o c g h0' h1 h2 h3 h4 h5 h6 h7=>
     have hg: ∀k,k<ys.length*es' ->w.cell? ⟨b,o+k,none⟩=some (g (k/es') (k%es'))/\(g (k/es') (k%es')).oneCell' =true:=by
      intro k hk
      have h8:=h6 (k/es') (k%es') (Nat.div_lt_of_lt_mul (by rwa [Nat.mul_comm]at hk)) (Nat.mod_lt _ h0')
      have h9:k/es' *es' +k%es' =k:=by rw[Nat.mul_comm];exact Nat.div_add_mod k es'
      rwa [h9]at h8
     refine⟨_,by rw[<- hy];exact build b o ys.length c _ hy hg,h5,fun i j r c' hi hj=> ?_⟩
     have hil:i<ys.length:=(zM.1 hi).1
     have hjl:j<es' :=by rw[<- h5 r (zP hi)];exact(zM.1 hj).1
     rw[getg _ _ _ (qan hil hjl)]
     have e1:(i*es' +j)/es' =i:=by rw[Nat.add_comm,Nat.add_mul_div_right _ _ h0',Nat.div_eq_of_lt hjl,Nat.zero_add]
     have e2:(i*es' +j)%es' =j:=by rw[Nat.add_comm,Nat.add_mul_mod_self_right];exact Nat.mod_eq_of_lt hjl
     rw[e1,e2]
     exact⟨h7 i j r c' hi hj,(h6 i j hil hjl).2⟩
 |view id lo n=>
   rw[hxe]at hr hv
   simp only[qbN]at hv ⊢
   cases hA:lk st.a id with
   |none=>rw[hA]at hv;exact hv.elim
   |some A=>
     rw[hA]at hv
     simp only at hv ⊢
     subst hv
     obtain⟨cur,hX⟩:=h.arrs id A hA
     obtain⟨ad,c,hy,hnc,hcm,hal,hp,_⟩:=hr
     rw[hX.al]at hal
     have hlen:((A.xs.drop lo).take n).length=n:=by simp;omega
     by_cases hn:n=0
     ·subst hn
      rw[hy]
      exact⟨[],Src.ofSlice w he ad 0 c [] (by simp) (by simp) (by simp),by simp,by simp⟩
     ·have had:=hp (by omega)
      subst had
      rw[hlen]
      have hcell: ∀k,k<n*A.es->w.cell? ⟨L.ab id,lo*L.ae id+k,none⟩=some (cur.getD (lo*A.es+k) undef)/\(cur.getD (lo*A.es+k) undef).oneCell' =true:=by
       intro k hk
       have hkd:k/A.es<n:=Nat.div_lt_of_lt_mul (by rwa [Nat.mul_comm]at hk)
       have hkm:k%A.es<A.es:=Nat.mod_lt _ hX.pos
       have hpl:lo+k/A.es<A.xs.length:=by omega
       have hrow:=hX.rows _ (List.getElem_mem hpl)
       have h2:=hX.cell (lo+k/A.es) (k%A.es) _ (A.xs[lo+k/A.es])[k%A.es] (zL hpl) (zL (by omega))
       have h9:(lo+k/A.es)*A.es+k%A.es=lo*A.es+k:=by
        rw[Nat.add_mul,Nat.add_assoc,show k/A.es*A.es+k%A.es=k from by rw[Nat.mul_comm];exact Nat.div_add_mod k A.es]
       rw[h9]at h2
       have hlt:lo*A.es+k<cur.size:=by
        rw[<- h9,hX.size];exact Nat.lt_of_lt_of_le (qan hpl hkm) (Nat.mul_le_mul_right _ hX.fits)
       refine⟨?_,h2.2⟩
       rw[cell_of_row w _ _ _ _ _ hX.blk,hX.ae]
       simp[Array.getD,hlt]
      refine⟨_,build _ _ n c _ hy hcell,fun r hr=>hX.rows r (List.mem_of_mem_drop (List.mem_of_mem_take hr)),fun i j r c' hi hj=> ?_⟩
      have hil:i<n:=by rw[<- hlen];exact(zM.1 hi).1
      rw[List.getElem?_take,if_pos hil,List.getElem?_drop]at hi
      have hjl:j<A.es:=by rw[<- hX.rows r (zP hi)];exact(zM.1 hj).1
      rw[getg _ _ _ (qan hil hjl),<- Nat.add_assoc,<- Nat.add_mul]
      exact hX.cell _ j r c' hi hj
 |_=>rw[hxe]at hv;exact hv.elim
theorem qc4 (h : Inv w0 Z0 N Z L st a w) {es : Nat} (hpos : 0 < es) {x : Opd} {y : Operand} (hx : qai N.sh x y = true) (hv : (qbN st es (x.ev st)).1) (m : Nat) :
  ∃news,SrcF P es (a.eval y) (qbN st es (x.ev st)).2.length m news w/\(∀r∈(qbN st es (x.ev st)).2,r.length=es)/\
   ∀i j r c,i<m->(qbN st es (x.ev st)).2[i]? =some r->r[j]? =some c->TR w Z c (news.getD (i*es+j) undef)/\(news.getD (i*es+j) undef).oneCell' =true:=by
 have hr:=h.ev hx
 have build : ∀ (b o n c : Nat) (g : Nat -> Value), a.eval y = .slice (some ⟨b, o, none⟩) n c -> (∀ k, k < n * es -> w.cell? ⟨b, o + k, none⟩ = some (g k) /\ (g k).oneCell' = true) ->
   SrcF P es (a.eval y) n m ((List.range (min n m*es)).map g) w:=by
  intro b o n c g hy hc
  rw[hy]
  have hle:min n m*es<=n*es:=Nat.mul_le_mul_right _ (Nat.min_le_left _ _)
  refine⟨fun w' =>by simp[Builtin.lenOf],run_firstCells_some w es (min n m) ⟨b,o,none⟩ n c _ (by simp) (fun j u hj=> ?_),by simp,fun u hu=> ?_⟩
  ·rw[zS]at hj
   obtain⟨k,h1,rfl⟩:=zR.1 hj
   obtain⟨h2,h3⟩:=zM.1 h1
   simp at h2 h3
   subst h3
   rw[Addr.add_lit];exact(hc _ (by omega)).1
  ·obtain⟨k,h1,rfl⟩:=List.mem_map.1 hu
   exact(hc k (by have:=List.mem_range.1 h1;omega)).2
 have zero: ∀(ad:Option Addr) (c:Nat),SrcF P es (.slice ad 0 c) 0 m [] w:=fun ad c=>
  ⟨fun w' =>by simp[Builtin.lenOf],by cases ad with
   |none=>simp[Builtin.firstCells]
   |some ad=>exact run_firstCells_some w es _ ad 0 c [] (by simp) (by simp),by simp,by simp⟩
 have getg: ∀(n:Nat) (g:Nat->Value) (k:Nat),k<min n m*es->((List.range (min n m*es)).map g).getD k undef=g k:=by
  intro n g k hk
  simp[zK,hk]
 cases hxe:x.ev st with
 |nil=>
   rw[hxe]at hr
   simp only[VR,AR,CR]at hr
   simp only[qbN]
   generalize hy:a.eval y=u at hr
   cases hr
   exact⟨[],zero none 0,by simp,by simp⟩
 |sl p es' ys=>
   rw[hxe]at hr hv
   simp only[VR,AR,CR]at hr
   simp only[qbN]at hv ⊢
   subst hv
   generalize hy:a.eval y=u at hr
   cases hr with
   |sl0 _ _ ad c hc=>
     exact⟨[],zero ad c,by simp,by simp⟩
   |sl _ _ _ b o c g h0' h1 h2 h3 h4 h5 h6 h7=>
     have hg: ∀k,k<ys.length*es' ->w.cell? ⟨b,o+k,none⟩=some (g (k/es') (k%es'))/\(g (k/es') (k%es')).oneCell' =true:=by
      intro k hk
      have h8:=h6 (k/es') (k%es') (Nat.div_lt_of_lt_mul (by rwa [Nat.mul_comm]at hk)) (Nat.mod_lt _ h0')
      have h9:k/es' *es' +k%es' =k:=by rw[Nat.mul_comm];exact Nat.div_add_mod k es'
      rwa [h9]at h8
     refine⟨_,by rw[<- hy];exact build b o ys.length c _ hy hg,h5,fun i j r c' him hi hj=> ?_⟩
     have hil:i<ys.length:=(zM.1 hi).1
     have hjl:j<es' :=by rw[<- h5 r (zP hi)];exact(zM.1 hj).1
     rw[getg _ _ _ (qan (Nat.lt_min.2 ⟨hil,him⟩) hjl)]
     have e1:(i*es' +j)/es' =i:=by rw[Nat.add_comm,Nat.add_mul_div_right _ _ h0',Nat.div_eq_of_lt hjl,Nat.zero_add]
     have e2:(i*es' +j)%es' =j:=by rw[Nat.add_comm,Nat.add_mul_mod_self_right];exact Nat.mod_eq_of_lt hjl
     rw[e1,e2]
     exact⟨h7 i j r c' hi hj,(h6 i j hil hjl).2⟩
 |view id lo n=>
   rw[hxe]at hr hv
   simp only[qbN]at hv ⊢
   cases hA:lk st.a id with
   |none=>rw[hA]at hv;exact hv.elim
   |some A=>
     rw[hA]at hv
     simp only at hv ⊢
     subst hv
     obtain⟨cur,hX⟩:=h.arrs id A hA
     obtain⟨ad,c,hy,hnc,hcm,hal,hp,_⟩:=hr
     rw[hX.al]at hal
     have hlen:((A.xs.drop lo).take n).length=n:=by simp;omega
     by_cases hn:n=0
     ·subst hn
      rw[hy]
      exact⟨[],zero (some ad) c,by simp,by simp⟩
     ·have had:=hp (by omega)
      subst had
      rw[hlen]
      have hcell: ∀k,k<n*A.es->w.cell? ⟨L.ab id,lo*L.ae id+k,none⟩=some (cur.getD (lo*A.es+k) undef)/\(cur.getD (lo*A.es+k) undef).oneCell' =true:=by
       intro k hk
       have hkd:k/A.es<n:=Nat.div_lt_of_lt_mul (by rwa [Nat.mul_comm]at hk)
       have hkm:k%A.es<A.es:=Nat.mod_lt _ hX.pos
       have hpl:lo+k/A.es<A.xs.length:=by omega
       have hrow:=hX.rows _ (List.getElem_mem hpl)
       have h2:=hX.cell (lo+k/A.es) (k%A.es) _ (A.xs[lo+k/A.es])[k%A.es] (zL hpl) (zL (by omega))
       have h9:(lo+k/A.es)*A.es+k%A.es=lo*A.es+k:=by
        rw[Nat.add_mul,Nat.add_assoc,show k/A.es*A.es+k%A.es=k from by rw[Nat.mul_comm];exact Nat.div_add_mod k A.es]
       rw[h9]at h2
       have hlt:lo*A.es+k<cur.size:=by
        rw[<- h9,hX.size];exact Nat.lt_of_lt_of_le (qan hpl hkm) (Nat.mul_le_mul_right _ hX.fits)
       refine⟨?_,h2.2⟩
       rw[cell_of_row w _ _ _ _ _ hX.blk,hX.ae]
       simp[Array.getD,hlt]
      refine⟨_,build _ _ n c _ hy hcell,fun r hr=>hX.rows r (List.mem_of_mem_drop (List.mem_of_mem_take hr)),fun i j r c' him hi hj=> ?_⟩
      have hil:i<n:=by rw[<- hlen];exact(zM.1 hi).1
      rw[List.getElem?_take,if_pos hil,List.getElem?_drop]at hi
      have hjl:j<A.es:=by rw[<- hX.rows r (zP hi)];exact(zM.1 hj).1
      rw[getg _ _ _ (qan (Nat.lt_min.2 ⟨hil,him⟩) hjl),<- Nat.add_assoc,<- Nat.add_mul]
      exact hX.cell _ j r c' hi hj
 |_=>rw[hxe]at hv;exact hv.elim
end
end Go.Vc
namespace Go.Vc
open Go Go.RowKit
theorem qc5{need cap by_:Nat}(h1:cap<need)(h2:need*by_<=140737488355328):Builtin.nextslicecap need cap*by_<=281474976710656:=growslice_fits h1 h2
section
variable {w0:World} {Z0:Zone} {N:Fr} {Z:Zone} {L:Lay} {st:St} {a:Act} {w:World} {P:Program}
theorem qc6 {t ty e : TypeId} {ti : TypeInfo} (ht : P.underlying t = some (.slice e)) (hi : P.info? e = some ti) {g sLen sCap : Nat} {cur : Array Value} (hg : w.heap[g]? = some (.cells cur e (0, 0)))
  {x:Value} {n:Nat} {news:List Value} (hs:Src P ti.size t x n news w) (hroom:sLen+n<=sCap) (hfit:sLen*ti.size+news.length<=cur.size):
  (Builtin.append_ #[t,t] ty #[.slice (some ⟨g,0,none⟩) sLen sCap,x]).run P w= .ok (.slice (some ⟨g,0,none⟩) (sLen+n) sCap)
   (w.setRow g (cur.toList.take (sLen*ti.size)++news++cur.toList.drop (sLen*ti.size+news.length)).toArray):=by
 have hst:=run_storeCells_at P g (sLen*ti.size) e news 0 cur w hg (by simpa using hfit) hs.one
 simp only[Nat.add_zero]at hst
 simp[Builtin.append_,run_underlying ht,sizeOf,typeInfo,hi,hs.len,hroom,hs.cells,Addr.add_lit,hst]
theorem qc7 {t ty e : TypeId} {ti : TypeInfo} (ht : P.underlying t = some (.slice e)) (hi : P.info? e = some ti) {x : Value} {news : List Value} (hs : Src P ti.size t x 0 news w) :
  (Builtin.append_ #[t,t] ty #[.slice none 0 0,x]).run P w= .ok (.slice none 0 0) w:=by
 simp[Builtin.append_,run_underlying ht,sizeOf,typeInfo,hi,hs.len,hs.cells]
theorem qc8 {xs ys : List (List PV)} {lo : Nat} (h : lo + ys.length <= xs.length) {j : Nat} {c : List PV} (hj : (cpyF xs lo ys)[j]? = some c) :
  (lo<=j/\j<lo+ys.length/\ys[j-lo]? =some c)\/(¬(lo<=j/\j<lo+ys.length)/\xs[j]? =some c):=by
 unfold cpyF at hj
 have hl:(xs.take lo).length=lo:=by simp;omega
 rw[List.append_assoc]at hj
 by_cases h1:j<lo
 ·rw[yA (by omega),List.getElem?_take,if_pos h1]at hj
  exact .inr ⟨by omega,hj⟩
 ·rw[yB (by omega),hl]at hj
  by_cases h2:j<lo+ys.length
  ·rw[yA (by omega)]at hj
   exact .inl ⟨by omega,h2,hj⟩
  ·rw[yB (by omega),List.getElem?_drop]at hj
   refine .inr ⟨by omega,?_⟩
   rw[show lo+ys.length+(j-lo-ys.length)=j from by omega]at hj
   exact hj
theorem qc9{xs ys:List (List PV)}{lo:Nat}(h:lo+ys.length<=xs.length):(cpyF xs lo ys).length=xs.length:=by
 simp[cpyF];omega
theorem qca (h : Inv w0 Z0 N Z L st a w) {d d' : Option Nat} (hd : N.dst d d') {es : Nat} {x y : Opd} {op : Op} (hm : okH P N.sh (.cpy es x y) op = true) (hv : (hev st d (.cpy es x y)).1) :
  Runs P w0 Z0 N w a op d' (hev st d (.cpy es x y)).2:=by
 unfold okH at hm
 split at hm<;>(first|(rename_i heq;cases heq;done)|skip)
 all_goals (try(rename_i heq;cases heq))
 ·split at hm
  ·rename_i x' y' t t' e1 e2
   simp only[zN]at hm
   obtain⟨⟨hx,hy⟩,ht⟩:=hm
   have e1:=qaW e1;have e2:=qaW e2;cases e1;cases e2
   split at ht
   ·rename_i e he
    simp only[hev]at hv ⊢
    split at hv
    ·rename_i id lo n e1
     split at hv
     ·rename_i A hA
      obtain⟨⟨hpos,rfl⟩,hq⟩:=hv
      have hxr:=h.ev hx
      rw[e1]at hxr
      obtain⟨ad,c,hxv,hnc,hcm,hal,hp,_⟩:=hxr
      obtain⟨cur,hX⟩:=h.arrs id A hA
      obtain⟨o1,o2,o3⟩:=h.owna id A hA
      rw[hX.al]at hal
      obtain⟨news,hsrc,hrows,hcell⟩:=qc4 (P:=P) h hpos hy hq n
      simp only
      generalize hys:(qbN st A.es (y.ev st)).2=ys at *
      have hnl:news.length=(ys.take n).length*A.es:=by rw[hsrc.newsLen,List.length_take,Nat.min_comm]
      have hkl:lo+(ys.take n).length<=A.xs.length:=by rw[List.length_take];omega
      have hfit:lo*A.es+news.length<=cur.size:=by
       rw[hnl,<- Nat.add_mul,hX.size]
       exact Nat.mul_le_mul_right _ (Nat.le_trans hkl hX.fits)
      have hst:(storeCells ad news).run P w= .ok () (w.setRow (L.ab id) (cur.toList.take (lo*A.es)++news++cur.toList.drop (lo*A.es+news.length)).toArray):=by
       by_cases hn:0<n
       ·have:=hp hn
        subst this
        have:=run_storeCells_at P (L.ab id) (lo*A.es) A.ty news 0 cur w hX.blk (by simpa using hfit) hsrc.one
        simpa[hX.ae]using this
       ·have hn0:n=0:=by omega
        subst hn0
        have:news=[]:=List.eq_nil_of_length_eq_zero (by rw[hsrc.newsLen];simp)
        subst this
        simp only[List.append_nil,List.length_nil,Nat.add_zero,List.take_append_drop,Array.toArray_toList,storeCells]
        rw[setRow_self w _ cur A.ty (0,0) hX.blk]
        rfl
      have hsz' : ∃ti,P.info? e=some ti/\ti.size=A.es:=by
       cases hq:P.info? e with
       |none=>simp[szIs,hq]at ht
       |some ti=>exact⟨ti,rfl,by simpa[szIs,hq]using ht⟩
      obtain⟨ti,hti,htis⟩:=hsz'
      have hrun: ∀ty:TypeId,(Builtin.copy_ #[t,t'] ty #[a.eval x',a.eval y']).run P w= .ok (goInt (min ys.length n:Nat)) (w.setRow (L.ab id) (cur.toList.take (lo*A.es)++news++cur.toList.drop (lo*A.es+news.length)).toArray):=fun ty=>by
       have h1:=hsrc.cells
       have h2:=hsrc.len
       have h1:(Builtin.firstCells A.es (Nat.min ys.length n) (a.eval y')).run P w= .ok news.toArray w:=h1
       have e5:(goInt (min ys.length n:Nat))=goInt (Nat.min ys.length n:Nat):=rfl
       rw[e5]
       simp only[Builtin.copy_,hxv]
       simp[run_underlying he,sizeOf,typeInfo,hti,htis,h2,h1,hst]
      have hk:Kept Z w (w.setRow (L.ab id) (cur.toList.take (lo*A.es)++news++cur.toList.drop (lo*A.es+news.length)).toArray):=
       ⟨fun p b hp=>setRow_other w _ b _ (fun e=>o3 p (e▸hp))⟩
      have exec : ∀ {v : Value} {w' : World}, (∀ ty, (Builtin.copy_ #[t, t'] ty #[a.eval x', a.eval y']).run P w = .ok v w') -> ∀ (ty : TypeId) (pos : String) (after : Array Edge) (g : Option (Nat × Bool)),
        (execOp a.eval ⟨d',.call ⟨.builtin .copy,#[x',y'],#[t,t']⟩,ty,pos,after,g⟩).run P w= .ok (.value v) w' :=by
       intro v w' hr ty _ _ _
       simp[execOp,resolve,invoke,builtin,hr ty]
      refine⟨_,_,_,.inl rfl,exec hrun,Z,L,?_⟩
      have h1:=h.setArr (qbZ w (L.ab id) (cur.toList.take (lo*A.es)++news++cur.toList.drop (lo*A.es+news.length)).toArray) (row:=some (L.ab id)) (fun k ek=>⟨A,hA,by cases ek;rfl⟩) (id:=id) (LSame.refl L) (fun _ _=>rfl) (.inl ⟨A,hA,rfl⟩)
       (by rw[setRow_size];exact o2) (St.noTo_nul _) (A' := { A with xs:=cpyF A.xs lo (ys.take n) })
       (cur:=(cur.toList.take (lo*A.es)++news++cur.toList.drop (lo*A.es+news.length)).toArray)
       ⟨hX.pos,hX.ae,by rw[qc9 hkl];exact hX.al,setRow_heap w _ cur _ A.ty _ hX.blk,by rw[qbY hfit];exact hX.size,by rw[qc9 hkl];exact hX.fits,hX.max,fun r hr=>by
        simp only[cpyF,yC]at hr
        rcases hr with(h2|h2)|h2
        ·exact hX.rows r (List.mem_of_mem_take h2)
        ·exact hrows r (List.mem_of_mem_take h2)
        ·exact hX.rows r (List.mem_of_mem_drop h2),fun p q r' c hp hq' =>by
        rw[qbX hfit]
        dsimp only at hp ⊢
        rcases qc8 hkl hp with⟨h2,h3,h4⟩|⟨h2,h3⟩
        ·have hql:q<A.es:=by
          rw[<- hrows r' (List.mem_of_mem_take (zP h4))];exact(zM.1 hq').1
         have hpn:p-lo<n:=by
          have:=List.length_take_le n ys
          omega
         rw[List.getElem?_take,if_pos hpn]at h4
         have h5:=hcell (p-lo) q r' c hpn h4 hq'
         have h6:=qan (show p-lo<(ys.take n).length by omega) hql
         have h7:p*A.es+q=lo*A.es+((p-lo)*A.es+q):=by
          rw[<- Nat.add_assoc,<- Nat.add_mul,show lo+(p-lo)=p from by omega]
         rw[if_pos ⟨by omega,by omega⟩,h7,Nat.add_sub_cancel_left]
         exact⟨h5.1.keep hk (fun _ _ h=>h),h5.2⟩
        ·have hql:q<A.es:=by rw[<- hX.rows r' (zP h3)];exact(zM.1 hq').1
         have h5:=hX.cell p q r' c h3 hq'
         rw[if_neg (by
          rintro⟨q1,q2⟩
          rw[hnl,<- Nat.add_mul]at q2
          refine h2 ⟨?_,?_⟩
          ·by_cases hh:lo<=p
           ·exact hh
           ·have:=qan (show p<lo by omega) hql;omega
          ·by_cases hh:p<lo+(ys.take n).length
           ·exact hh
           ·have:=Nat.mul_le_mul_right A.es (show lo+(ys.take n).length<=p by omega);omega)]
         exact⟨h5.1.keep hk (fun _ _ h=>h),h5.2⟩⟩
      exact h1.put hd (v:= .int (min ys.length n:Nat)) (u:=goInt (min ys.length n:Nat)) (TR.sc (.int .i64 (min ys.length n:Nat)) rfl)
     ·exact hv.elim
    ·exact hv.elim
   ·cases ht
  ·cases hm
 ·cases hm
theorem qcb (h : Inv w0 Z0 N Z L st a w) {i ir : Nat} (hi : N.dst (some i) (some ir)) {es ty by_ : Nat} {s x : Opd} {op : Op} (hm : okH P N.sh (.app es ty by_ s x) op = true) (hv : (hev st (some i) (.app es ty by_ s x)).1) :
  Runs P w0 Z0 N w a op (some ir) (hev st (some i) (.app es ty by_ s x)).2:=by
 unfold okH at hm
 split at hm<;>(first|(rename_i heq;cases heq;done)|skip)
 all_goals (try(rename_i heq;cases heq))
 ·split at hm
  ·rename_i s' x' t t' e1 e2
   simp only[zN,beq_iff_eq]at hm
   obtain⟨⟨⟨hs',hx'⟩,rfl⟩,ht⟩:=hm
   have e1:=qaW e1;have e2:=qaW e2;cases e1;cases e2
   split at ht
   ·rename_i e he
    simp only[zN,beq_iff_eq]at ht
    obtain⟨⟨⟨rfl,hsz⟩,hby⟩,hzz⟩:=ht
    split at hzz
    ·rename_i ti hti
     split at hzz
     ·rename_i z hz
      have hzs:z.cells.size=es:=by simpa using hzz
      have hby' :ti.bytes=by_:=by simpa[byIs,hti]using hby
      have hsz' :ti.size=es:=by simpa[szIs,hti]using hsz
      simp only[hev]at hv ⊢
      have hsr:=h.ev hs'
      have exec : ∀ {v : Value} {w' : World}, (∀ ty, (Builtin.append_ #[t, t] ty #[a.eval s', a.eval x']).run P w = .ok v w') -> ∀ (ty : TypeId) (pos : String) (after : Array Edge) (g : Option (Nat × Bool)),
        (execOp a.eval ⟨some ir,.call ⟨.builtin .append,#[s',x'],#[t,t]⟩,ty,pos,after,g⟩).run P w= .ok (.value v) w' :=by
       intro v w' hr ty _ _ _
       simp[execOp,resolve,invoke,builtin,hr ty]
      split at hv
      ·rename_i i' e4 e3
       cases e4
       rw[e3]at hsr
       simp only[VR,AR,CR]at hsr
       have hsv:a.eval s' = .slice none 0 0:=by
        generalize a.eval s' =u at hsr;cases hsr;rfl
       split at hv
       ·rename_i hnil
        obtain⟨hpos,hv⟩:=hv
        obtain⟨news,hsrc,_,_⟩:=qc3 h he hpos hx' hv
        rw[hnil,<- hsz']at hsrc
        exact⟨_,_,_,.inl rfl,exec (fun ty=>by rw[hsv];exact qc7 he hti hsrc),Z,L,h.put (d:=some i) (d' :=some ir) hi (v:= .nil) (u:= .slice none 0 0) TR.nil⟩
       ·rename_i y r hnil
        obtain⟨⟨hpos,hq⟩,hbytes,h63⟩:=hv
        obtain⟨news,hsrc,hrows,hcell⟩:=qc3 h he hpos hx' hq
        rw[hnil]at hsrc hrows hcell
        have hn1:(y::r).length=r.length+1:=rfl
        have hnl:news.length=(r.length+1)*es:=by rw[hsrc.newsLen,hn1]
        have hrun := fun (ty : TypeId) => run_append_grow_src (P := P) w t t ty e ti z he hti hz none 0 0 [] (by simp [Builtin.firstCells]) (a.eval x') (r.length + 1) news (by rw [hsz']; exact hsrc) (by omega) (by omega)
          (qc5 (by omega) (by rw[hby',Nat.zero_add];exact hbytes))
        simp only[Nat.zero_add,List.nil_append]at hrun
        have hge:=grownCap_ge w (r.length+1) 0 e
        have hle:=grownCap_le_maxLen w (r.length+1) 0 e (by simp only[maxLen];omega)
        refine⟨_,_,_,.inl rfl,exec (fun ty=>by rw[hsv];exact hrun ty),?_⟩
        have:=h.newArr hi (A:=⟨es,e,y::r⟩) (cur:=news.toArray++Builtin.zeroCells z.cells (grownCap w (r.length+1) 0 e-(r.length+1))) (cap:=grownCap w (r.length+1) 0 e)
         (w' :=w.drew.alloc (.cells (news.toArray++Builtin.zeroCells z.cells (grownCap w (r.length+1) 0 e-(r.length+1))) e))
         ⟨rfl,rfl,rfl,by simp,fun k hk _=>Below.heap_alloc w.drew _ k hk⟩ (g:=w.heap.size) (Nat.le_refl _) (by simp) (heap_alloc_new w.drew _) hpos
         (by simp only[Array.size_append,List.size_toArray,size_zeroCells,hzs,hnl,<- Nat.add_mul];congr 1;omega) hge hle hrows
         (fun p q x c hp hq' =>by
          have hpl:p<r.length+1:=(zM.1 hp).1
          have hql:q<es:=by rw[<- hrows x (zP hp)];exact(zM.1 hq').1
          have hlt:=qan hpl hql
          have e5:(news.toArray++Builtin.zeroCells z.cells (grownCap w (r.length+1) 0 e-(r.length+1))).getD (p*es+q) undef=news.getD (p*es+q) undef:=by
           rw[zO,Array.getElem?_append_left (by simp;omega),zK];simp
          simp only at e5 ⊢
          rw[e5];exact hcell p q x c hp hq')
        exact this
      ·rename_i i' id lo n e4 e3
       cases e4
       rw[e3]at hsr
       split at hv
       ·rename_i A hA
        obtain⟨⟨⟨rfl,hes,hty⟩,hq⟩,rfl,hbytes,h63⟩:=hv
        subst hes
        obtain⟨cur,hX⟩:=h.arrs id A hA
        obtain⟨o1,o2,o3⟩:=h.owna id A hA
        obtain⟨ad,c,hsv,hnc,hcm,_,_,hz0⟩:=hsr
        obtain⟨rfl,rfl⟩:=hz0 rfl
        obtain⟨news,hsrc,hrows,hcell⟩:=qc3 h he hX.pos hx' hq
        generalize hys:(qbN st A.es (x.ev st)).2=ys at *
        have hnl:news.length=ys.length*A.es:=hsrc.newsLen
        have hblk:w.heap[L.ab id]? =some (.cells cur e (0,0)):=by rw[<- hty];exact hX.blk
        by_cases hroom:A.xs.length+ys.length<=L.ac id
        ·have hfit:A.xs.length*A.es+news.length<=cur.size:=by rw[hnl,hX.size,<- Nat.add_mul];exact Nat.mul_le_mul_right _ hroom
         have hrun:=fun(ty:TypeId)=>qc6 (P:=P) (ty:=ty) he hti hblk (by rw[hsz'];exact hsrc) hroom (by rw[hsz'];exact hfit)
         rw[hsz']at hrun
         refine⟨_,_,_,.inl rfl,exec (fun ty=>by rw[hsv];exact hrun ty),?_⟩
         have hl:LSame L { L with al:=fun j=>if j=id then A.xs.length+ys.length else L.al j } nul (fun j=>j==id):=
          ⟨fun _ _=>rfl,fun _ _=>rfl,fun _ _=>rfl,fun _ _=>rfl,fun j hj=>by simp only[beq_eq_false_iff_ne]at hj;simp[hj],fun _ _=>rfl,fun _ _=>rfl⟩
         have hk:Kept Z w (w.setRow (L.ab id) (cur.toList.take (A.xs.length*A.es)++news++cur.toList.drop (A.xs.length*A.es+news.length)).toArray):=
          ⟨fun p b hp=>setRow_other w _ b _ (fun e=>o3 p (e▸hp))⟩
         have h1:=(h.kill nul (fun j=>j==id)).setArr (qbZ w (L.ab id) (cur.toList.take (A.xs.length*A.es)++news++cur.toList.drop (A.xs.length*A.es+news.length)).toArray) (row:=some (L.ab id)) (fun k ek=>⟨A,hA,by cases ek;rfl⟩) (id:=id) hl (fun j hj=>by simpa using hj) (.inl ⟨A,hA,rfl⟩)
          (by rw[setRow_size];exact o2) (St.noTo_kill st _ _) (A' := { A with xs:=A.xs++ys })
          (cur:=(cur.toList.take (A.xs.length*A.es)++news++cur.toList.drop (A.xs.length*A.es+news.length)).toArray)
          ⟨hX.pos,hX.ae,by simp,by rw[hty];exact setRow_heap w _ cur _ e _ hblk,by rw[qbY hfit];exact hX.size,by simpa using hroom,hX.max,fun r hr=>by
           rcases yC.1 hr with h2|h2
           ·exact hX.rows r h2
           ·exact hrows r h2,fun p q r' c hp hq' =>by
           rw[qbX hfit]
           dsimp only at hp ⊢
           by_cases hpl:p<A.xs.length
           ·rw[yA hpl]at hp
            have hql:q<A.es:=by rw[<- hX.rows r' (zP hp)];exact(zM.1 hq').1
            have:=qan hpl hql
            rw[if_neg (by omega)]
            have h3:=hX.cell p q r' c hp hq'
            exact⟨h3.1.keep hk (fun _ _ h=>h),h3.2⟩
           ·rw[yB (by omega)]at hp
            have hpy:p-A.xs.length<ys.length:=(zM.1 hp).1
            have hql:q<A.es:=by rw[<- hrows r' (zP hp)];exact(zM.1 hq').1
            have h3:=hcell (p-A.xs.length) q r' c hp hq'
            have h4:=qan hpy hql
            have h5:p*A.es+q=A.xs.length*A.es+((p-A.xs.length)*A.es+q):=by
             rw[<- Nat.add_assoc,<- Nat.add_mul,show A.xs.length+(p-A.xs.length)=p from by omega]
            rw[if_pos ⟨by omega,by omega⟩,h5,Nat.add_sub_cancel_left]
            exact⟨h3.1.keep hk (fun _ _ h=>h),h3.2⟩⟩
         exact⟨_,_,h1.put (d:=some i) (d' :=some ir) hi (v:= .view id 0 (A.xs.length+ys.length)) (u:= .slice (some ⟨L.ab id,0,none⟩) (A.xs.length+ys.length) (L.ac id)) ⟨_,_,rfl,hroom,hX.max,by simp,by simp,by simp⟩⟩
        ·have hrun := fun (ty : TypeId) => run_append_grow_src (P := P) w t t ty e ti z he hti hz (some ⟨L.ab id, 0, none⟩) A.xs.length (L.ac id) (cur.toList.take (A.xs.length * A.es))
           (by
            rw[hsz']
            have hl:(cur.toList.take (A.xs.length*A.es)).length=A.xs.length*A.es:=by
             have:=Nat.mul_le_mul_right A.es hX.fits
             have h6:=hX.size
             simp;omega
            refine run_firstCells_some w.drew A.es A.xs.length ⟨L.ab id,0,none⟩ A.xs.length (L.ac id) _ hl (fun j v hj=> ?_)
            rw[List.getElem?_take]at hj
            split at hj
            ·rw[Addr.add_lit]
             have:w.drew.cell? ⟨L.ab id,0+j,none⟩=w.cell? ⟨L.ab id,0+j,none⟩:=rfl
             rw[this,cell_of_row w _ _ _ _ _ hblk,Nat.zero_add];simpa using hj
            ·cases hj)
           (a.eval x') ys.length news (by rw[hsz'];exact hsrc) (by omega) (by omega) (qc5 (by omega) (by rw[hby'];exact hbytes))
         have hge:=grownCap_ge w (A.xs.length+ys.length) (L.ac id) e
         have hle:=grownCap_le_maxLen w (A.xs.length+ys.length) (L.ac id) e (by simp only[maxLen];omega)
         have hold:(cur.toList.take (A.xs.length*A.es)).length=A.xs.length*A.es:=by
          have:=Nat.mul_le_mul_right A.es hX.fits
          have h6:=hX.size
          simp;omega
         refine⟨_,_,_,.inl rfl,exec (fun ty=>by rw[hsv];exact hrun ty),?_⟩
         have hl:LSame L { L with ab:=fun j=>if j=id then w.heap.size else L.ab j,ac:=fun j=>if j=id then grownCap w (A.xs.length+ys.length) (L.ac id) e else L.ac j,al:=fun j=>if j=id then A.xs.length+ys.length else L.al j } nul (fun j=>j==id):=
          ⟨fun _ _=>rfl,fun j hj=>by simp only[beq_eq_false_iff_ne]at hj;simp[hj],fun j hj=>by simp only[beq_eq_false_iff_ne]at hj;simp[hj],fun _ _=>rfl,fun j hj=>by simp only[beq_eq_false_iff_ne]at hj;simp[hj],fun _ _=>rfl,fun _ _=>rfl⟩
         have hg:w.grownBy (w.drew.alloc (.cells ((cur.toList.take (A.xs.length*A.es)++news).toArray++Builtin.zeroCells z.cells (grownCap w (A.xs.length+ys.length) (L.ac id) e-(A.xs.length+ys.length))) e)) none:=
          ⟨rfl,rfl,rfl,by simp,fun k hk _=>Below.heap_alloc w.drew _ k hk⟩
         have hk:Kept Z w (w.drew.alloc (.cells ((cur.toList.take (A.xs.length*A.es)++news).toArray++Builtin.zeroCells z.cells (grownCap w (A.xs.length+ys.length) (L.ac id) e-(A.xs.length+ys.length))) e)):=
          ⟨fun p b hp=>hg.block b (h.zb p b hp) (by simp)⟩
         have h1:=(h.kill nul (fun j=>j==id)).setArr hg (by simp) (id:=id) hl (fun j hj=>by simpa using hj) (.inr (by simp)) (by simp) (St.noTo_kill st _ _) (A' := { A with xs:=A.xs++ys })
          (cur:=(cur.toList.take (A.xs.length*A.es)++news).toArray++Builtin.zeroCells z.cells (grownCap w (A.xs.length+ys.length) (L.ac id) e-(A.xs.length+ys.length)))
          ⟨hX.pos,hX.ae,by simp,by simp only[if_true,hty];exact heap_alloc_new w.drew _,by
           simp only[if_true,Array.size_append,List.size_toArray,zU,size_zeroCells,hzs,hnl,hold,<- Nat.add_mul];congr 1;omega,by simpa using hge,by simpa using hle,fun r hr=>by
           rcases yC.1 hr with h2|h2
           ·exact hX.rows r h2
           ·exact hrows r h2,fun p q r' c hp hq' =>by
           dsimp only at hp ⊢
           have hpt:p<A.xs.length+ys.length:=by
            have:=(zM.1 hp).1
            simpa using this
           by_cases hpl:p<A.xs.length
           ·rw[yA hpl]at hp
            have hql:q<A.es:=by rw[<- hX.rows r' (zP hp)];exact(zM.1 hq').1
            have hlt:=qan hpl hql
            have h3:=hX.cell p q r' c hp hq'
            have e5:((cur.toList.take (A.xs.length*A.es)++news).toArray++Builtin.zeroCells z.cells (grownCap w (A.xs.length+ys.length) (L.ac id) e-(A.xs.length+ys.length))).getD (p*A.es+q) undef=cur.getD (p*A.es+q) undef:=by
             rw[zO,Array.getElem?_append_left (by rw[List.size_toArray,zU,hold,hnl];omega),List.getElem?_toArray,yA (by omega),List.getElem?_take,if_pos hlt,zO];simp
            rw[e5]
            exact⟨h3.1.keep hk (fun _ _ h=>h),h3.2⟩
           ·rw[yB (by omega)]at hp
            have hpy:p-A.xs.length<ys.length:=(zM.1 hp).1
            have hql:q<A.es:=by rw[<- hrows r' (zP hp)];exact(zM.1 hq').1
            have h3:=hcell (p-A.xs.length) q r' c hp hq'
            have h4:=qan hpy hql
            have h5:p*A.es+q=A.xs.length*A.es+((p-A.xs.length)*A.es+q):=by
             rw[<- Nat.add_assoc,<- Nat.add_mul,show A.xs.length+(p-A.xs.length)=p from by omega]
            have e5:((cur.toList.take (A.xs.length*A.es)++news).toArray++Builtin.zeroCells z.cells (grownCap w (A.xs.length+ys.length) (L.ac id) e-(A.xs.length+ys.length))).getD (p*A.es+q) undef=news.getD ((p-A.xs.length)*A.es+q) undef:=by
             rw[zO,Array.getElem?_append_left (by rw[List.size_toArray,zU,hold,hnl];omega),List.getElem?_toArray,yB (by omega),hold,h5,Nat.add_sub_cancel_left,zK]
            rw[e5]
            exact⟨h3.1.keep hk (fun _ _ h=>h),h3.2⟩⟩
         exact⟨_,_,h1.put (d:=some i) (d' :=some ir) hi (v:= .view id 0 (A.xs.length+ys.length)) ⟨_,_,rfl,hge,hle,by simp,by simp,by simp⟩⟩
       ·exact hv.elim
      ·exact hv.elim
     ·cases hzz
    ·cases hzz
   ·cases ht
  ·cases hm
 ·cases hm
end
end Go.Vc
namespace Go.Vc
open Go Go.RowKit
section
variable {w0:World} {Z0:Zone} {N:Fr} {Z:Zone} {L:Lay} {st:St} {a:Act} {w:World} {P:Program} {pb pa:Nat->Bool}
theorem qcc {id j : Nat} {M M' : Mp} (h : Inv w0 Z0 N Z L st a w) (h1 : lk st.m id = some M) (h2 : lk st.m j = some M') (hne : j ≠ id) {i : Nat} {x : List (Value × PV)} {y : Option (Value × PV)} (hi : M.it = some (.run i x y)) :
  L.bx j≠L.bx i/\(∀i' x' y',M'.it=some (.run i' x' y')->L.bx i' ≠L.bx i)/\(∀i' x' y',M'.it=some (.run i' x' y')->L.bx i' ≠L.bx id):=by
 obtain⟨ents,clock,hR⟩:=h.maps id M h1
 obtain⟨ents',clock',hR'⟩:=h.maps j M' h2
 obtain⟨seen,b1,_⟩:=hR.itAt hi
 refine⟨fun e=> ?_,fun i' x' y' hi' e=> ?_,fun i' x' y' hi' e=> ?_⟩
 ·have:=hR'.blk;rw[e,b1]at this;cases this
 ·obtain⟨seen',c1,_⟩:=hR'.itAt hi'
  rw[e,b1]at c1
  simp only[Option.some.injEq,Obj.mapIter.injEq]at c1
  exact hne (h.injm j id M' M h2 h1 c1.1.symm)
 ·obtain⟨seen',c1,_⟩:=hR'.itAt hi'
  rw[e,hR.blk]at c1;cases c1
theorem Inv.setMap (h : Inv w0 Z0 N Z L st a w) {w' : World} {row : Option Nat} {id : Nat} (hg : w.grownBy w' row)
  (hrow: ∀k,row=some k-> ∃M o,lk st.m id=some M/\w.heap[k]? =some o/\o.isCells=false/\qaa o=false/\w0.heap.size<=k/\(∀p,¬Z p k)/\
   ∀j M',j≠id->lk st.m j=some M' ->L.bx j≠k/\ ∀i x y,M'.it=some (.run i x y)->L.bx i≠k)
  {L' :Lay} (hl:LSame L L' pb nul) (hns: ∀i v,lk st.s i=some v->v.toV pb nul=false) (hnb: ∀i v,lk st.b i=some v->pb i=false/\v.any (PV.to pb nul)=false)
  (hm: ∀j M,j≠id->lk st.m j=some M->pb j=false/\M.to pb=false) (hown:w0.heap.size<=L'.bx id/\L'.bx id<w'.heap.size/\ ∀p,¬Z p (L'.bx id))
  (hinj: ∀j M,j≠id->lk st.m j=some M->L'.bx j≠L'.bx id) {M' :Mp} (hx: ∃ents clock,MR w0 w' Z L' id M' ents clock) (hy:L'.yb=L.yb:=by rfl):
  Inv w0 Z0 N Z L' { st with m:=up st.m id M' } a w' :=by
 have hrz: ∀p b,Z p b->some b≠row:=fun p b hp e=>by
  obtain⟨M,o,_,_,_,_,_,h1,_⟩:=hrow b e.symm
  exact h1 p hp
 have hk:Kept Z w w' :=⟨fun p b hp=>hg.block b (h.zb p b hp) (hrz p b hp)⟩
 have h0:w0.heap.size<=w.heap.size:=h.below.size
 have hcell: ∀b o,w.heap[b]? =some o->(o.isCells=true\/qaa o=true)->w'.heap[b]? =w.heap[b]? :=fun b o hb ho=>hg.block b (qac hb) fun e=>by
  obtain⟨M,o',_,h1,h2,h3,_⟩:=hrow b e.symm
  rw[hb]at h1;cases h1
  rcases ho with ho|ho
  ·rw[ho]at h2;cases h2
  ·rw[ho]at h3;cases h3
 have hbk: ∀i cs,lk st.b i=some cs->w'.heap[L.bx i]? =w.heap[L.bx i]? :=fun i cs hi=>by
  obtain⟨vs,T,h1,_⟩:=h.boxes i cs hi
  exact hcell _ _ h1 (.inl rfl)
 have hak: ∀i A,lk st.a i=some A->w'.heap[L.ab i]? =w.heap[L.ab i]? :=fun i A hi=>by
  obtain⟨cur,hX⟩:=h.arrs i A hi
  exact hcell _ _ hX.blk (.inl rfl)
 have hrec: ∀x,RecAt w0 Z w x->RecAt w0 Z w' x:=fun x hx=>hx.keep (hcell _ _ hx.1 (.inr hx.2.1)) (fun _ hp=>hp)
 refine⟨h.zt,h.z0,h.zn,fun p b hp=>Nat.lt_of_lt_of_le (h.zb p b hp) hg.size,h.below.grown hg h0 (fun k hk=> ?_),?_,?_,?_,?_,?_,?_,?_,?_,?_,?_,fun x hx=>hrec x (h.oth x hx),by rw[hy];exact h.yb,h.size,?_,?_⟩
 ·obtain⟨M,o,_,_,_,_,h1,_⟩:=hrow k hk
  exact h1
 ·intro i cs hi
  rw[hl.bx i (hnb i cs hi).1]
  obtain⟨h1,h2,h3⟩:=h.ownb i cs hi
  exact⟨h1,Nat.lt_of_lt_of_le h2 hg.size,h3⟩
 ·intro i A hi
  rw[hl.ab i rfl]
  obtain⟨h1,h2,h3⟩:=h.owna i A hi
  exact⟨h1,Nat.lt_of_lt_of_le h2 hg.size,h3⟩
 ·intro i j x y hx hy he
  rw[hl.bx i (hnb i x hx).1,hl.bx j (hnb j y hy).1]at he
  exact h.injb i j x y hx hy he
 ·intro i j x y hx hy he
  rw[hl.ab i rfl,hl.ab j rfl]at he
  exact h.inja i j x y hx hy he
 ·intro i j x y hx hy he
  rw[hl.bx i (hnb i x hx).1,hl.ab j rfl]at he
  exact h.injx i j x y hx hy he
 ·intro i cs hi
  exact(h.boxes i cs hi).keep hk (fun _ _ h=>h) (hbk i cs hi) hl (hnb i cs hi).1 (hnb i cs hi).2
 ·intro i A hi
  obtain⟨c,hX⟩:=h.arrs i A hi
  exact⟨c,hX.keep hk (fun _ _ h=>h) (hak i A hi) hl rfl⟩
 ·intro i M hi
  rw[qa2]at hi
  by_cases e:id=i
  ·subst e;exact hown
  ·rw[if_neg e]at hi
   rw[hl.bx i (hm i M (Ne.symm e) hi).1]
   obtain⟨h1,h2,h3⟩:=h.ownm i M hi
   exact⟨h1,Nat.lt_of_lt_of_le h2 hg.size,h3⟩
 ·intro i j x y hx hy he
  rw[qa2]at hx hy
  by_cases e1:id=i<;>by_cases e2:id=j
  ·rw[<- e1,<- e2]
  ·subst e1;rw[if_neg e2]at hy;exact absurd he.symm (hinj j y (Ne.symm e2) hy)
  ·subst e2;rw[if_neg e1]at hx;exact absurd he (hinj i x (Ne.symm e1) hx)
  ·rw[if_neg e1]at hx;rw[if_neg e2]at hy
   rw[hl.bx i (hm i x (Ne.symm e1) hx).1,hl.bx j (hm j y (Ne.symm e2) hy).1]at he
   exact h.injm i j x y hx hy he
 ·intro i M hi
  rw[qa2]at hi
  by_cases e:id=i
  ·subst e;rw[if_pos rfl]at hi;cases hi;exact hx
  ·rw[if_neg e]at hi
   obtain⟨ents,clock,hR⟩:=h.maps i M hi
   have hne: ∀k,row=some k->L.bx i≠k/\ ∀i' x y,M.it=some (.run i' x y)->L.bx i' ≠k:=fun k hk=>by
    obtain⟨M1,o,_,_,_,_,_,_,h2⟩:=hrow k hk
    exact h2 i M (Ne.symm e) hi
   refine⟨ents,clock,hR.keep hk (fun _ _ h=>h) (hg.block _ (qac hR.blk) fun e=>(hne _ e.symm).1 rfl) (fun i' x y hi' => ?_) hl (hm i M (Ne.symm e) hi).1 (hm i M (Ne.symm e) hi).2⟩
   obtain⟨seen,b1,b2,b3⟩:=hR.itAt hi'
   exact⟨hg.block _ (qac b1) fun e=>(hne _ e.symm).2 i' x y hi' rfl,b3⟩
 ·intro dd hdm
  obtain⟨l,h1,hn,h2⟩:=h.defers dd hdm
  exact⟨l,h1,hn,fun D hD=>hrec _ (h2 D hD)⟩
 ·intro i v hi
  exact(h.slots i v hi).keep hk (fun _ _ h=>h) hl (hns i v hi)
theorem qcd{α:Type}(l:List (Nat×α))(i j:Nat)(v:α)(h:lk (rm l i) j=some v):lk l j=some v/\j≠i:=by
 rw[qa4]at h
 split at h
 ·cases h
 ·rename_i e;exact⟨h,Ne.symm e⟩
theorem qce{i:Nat}{v:PV}(h:lk (st.kill pb nul).s i=some v):v.toV pb nul=false:=St.noTo_slot (St.noTo_kill st pb nul) h
theorem Inv.rmBox(h:Inv w0 Z0 N Z L st a w)(i:Nat):Inv w0 Z0 N Z L { st with b:=rm st.b i } a w:=
 h.forget (fun _ _ hl=> .inl hl) (fun _ _ hl=>(qcd _ _ _ _ hl).1) (fun _ _ hl=>hl) (fun _ _ hl=>hl)
theorem qcf (h : Inv w0 Z0 N Z L st a w) {i i' : Nat} (hi : N.dst (some i) (some i')) {kd : KD} {op : Op} (hm : okH P N.sh (.mkm kd) op = true) :
  Runs P w0 Z0 N w a op (some i') (hev st (some i) (.mkm kd)).2:=by
 cases op<;>simp only[okH]at hm<;>first|(exact absurd hm zQ)|skip
 rename_i t r
 cases r with
 |some r=>simp at hm
 |none=>
 simp only[hev]
 have hrun:(Instr.makeMap t none).run P w= .ok (.map (some w.heap.size)) (w.alloc (.map #[] 0)):=by simp[Instr.makeMap,run_newObj_alloc]
 refine⟨_,_,_,.inl rfl,fun _ _ _ _=>by simp only[execOp,Option.map_none,Sem.run_bind,hrun,Result.andThen_ok];rfl,?_⟩
 have hl:LSame L { L with bx:=fun j=>if j=i then w.heap.size else L.bx j } (fun j=>j==i) nul:=⟨fun j hj=>by simp only[beq_eq_false_iff_ne]at hj;simp[hj],fun _ _=>rfl,fun _ _=>rfl,fun _ _=>rfl,fun _ _=>rfl,fun _ _=>rfl,fun _ _=>rfl⟩
 have hk0:=(h.kill (fun j=>j==i) nul).rmBox i
 have h1:=hk0.setMap (qbQ w (.map #[] 0)) (row:=none) (by simp) (id:=i) hl (fun j v hj=>qce hj)
  (fun j v hj=>by
   obtain⟨h2,h3⟩:=qcd _ _ _ _ hj
   exact⟨by simpa using h3,St.noTo_box (St.noTo_kill st _ _) h2⟩)
  (fun j M hj hM=>(St.noTo_map (St.noTo_kill st (fun j=>j==i) nul) hM)) ⟨by simpa using h.below.size,by simp,fun p hp=>by have:=h.zb p _ hp;simp at this⟩
  (fun j M hj hM=>by simp only[hj,if_false,if_true];have:=(hk0.ownm j M hM).2.1;omega) (M' :=⟨kd,[],none⟩)
  ⟨#[],0,⟨by simp only[if_true];exact heap_alloc_new w _,rfl,fun j e x h1=>by simp at h1,fun x hx=>by simp at hx,fun x hx=>by simp at hx,by simp,trivial⟩⟩
 exact⟨_,_,h1.put (d:=some i) (d' :=some i') hi (v:= .mp i) (by simp[VR,AR,CR])⟩
theorem qcg{r:Nat}{es:Array MapEntry}{c:Nat}(h:w.heap[r]? =some (.map es c))(o:Obj):(setObj r o).run P w= .ok () (w.putObj r o):=by simp[setObj,Sem.run,h,World.putObj]
theorem qch{k:Value}{v:PV} : ∀ {es:List (Value×PV)},(∀x∈es,vEq x.1 k=false)->mput es k v=es++[(k,v)]
 |[],_=>rfl
 | (k0, u) :: r, h => by
   have h1:=h (k0,u) (by simp)
   simp only at h1
   have h2:=qch (v:=v) (es:=r) (fun x hx=>h x (zT _ hx))
   simp only[mput,h1,Bool.false_eq_true,if_false,List.cons_append,h2]
theorem qci{k:Value}{v:PV} : ∀ {es:List (Value×PV)} {j:Nat} {x:Value×PV},es[j]? =some x->vEq x.1 k=true->(∀j' x',j' <j->es[j']? =some x' ->vEq x'.1 k=false)->mput es k v=es.set j (k,v)
 |[],j,x,h,_,_=>by simp at h
 |(k0,u)::r,0,x,h,h1,_=>by simp at h;subst h;simp only at h1;simp only[mput,h1,if_true,List.set_cons_zero];rw[qae h1]
 | (k0, u) :: r, j + 1, x, h, h1, h2 => by
   have h3:=h2 0 (k0,u) (by omega) rfl
   simp only at h3
   simp only[mput,h3,Bool.false_eq_true,if_false,List.set_cons_succ]
   rw[qci (by simpa using h) h1 (fun j' x' hj hx=>h2 (j' +1) x' (by omega) (by simpa using hx))]
theorem qcj{α β:Type}(g:α->β)(f:α->α)(h: ∀x,g (f x)=g x): ∀(l:List α) (j:Nat),(l.modify j f).map g=l.map g:=by
 intro l
 induction l with
 |nil=>intro j;simp
 |cons x r ih=>intro j;cases j<;>simp[h,ih]
theorem qck{c:PV}{v:Value}(h:VR w Z L c v)(hp:qbO c=true):TA w Z c v:=by
 cases c with
 |agg cs=>
   obtain⟨vs,h1,h2,h3⟩:=h
   refine⟨vs,h1,h2,fun j c hj=>(h3 j c hj).pure ?_⟩
   simp only[qbO,yE]at hp
   exact hp c (zP hj)
 |sc u=>exact h
 |nil=>exact h
 |sl p es xs=>exact h
 |iptr p cs o=>exact h
 |_=>simp[qbO,qbM]at hp
theorem qcl{x y:Value}(h:vEq x y=true)(kd:KD)(hk:kd.has y=true):Instr.sameBits 10000 x y=true:=by
 have:=qae h
 subst this
 cases kd with
 |st n=>
   cases x<;>first|(cases hk;done)|skip
   rename_i c
   replace hk:i64s n c.toList=true:=hk
   show(c.size==c.size&&(c.toList.zip c.toList).all fun(x,y)=>Instr.sameBits 9999 x y)=true
   rw[beq_self_eq_true,Bool.true_and]
   generalize c.toList=l at hk
   induction l generalizing n with
   |nil=>rfl
   |cons v r ih=>
     cases n with
     |zero=>cases v<;>cases hk
     |succ n=>
       cases v<;>first|(cases hk;done)|skip
       rename_i k m
       cases k<;>first|(cases hk;done)|skip
       rw[List.zip_cons_cons,List.all_cons,ih n hk,Bool.and_true]
       simp[Instr.sameBits]
 |_=>
   cases x<;>simp[KD.has]at hk<;>simp[Instr.sameBits]
   try exact(qbb _ _).2 rfl
theorem qcm (h : Inv w0 Z0 N Z L st a w) {d : Option Nat} (hd : d = none) {kd : KD} {x k v : Opd} {op : Op} (hm : okH P N.sh (.mup kd x k v) op = true) (hv : (hev st none (.mup kd x k v)).1) :
  Runs P w0 Z0 N w a op d (hev st none (.mup kd x k v)).2:=by
 subst hd
 cases op<;>simp only[okH,zN]at hm<;>first|(exact absurd hm zQ)|skip
 rename_i t y k' u
 obtain⟨⟨⟨ht,hx⟩,hk⟩,hu⟩:=hm
 split at ht
 ·rename_i kt e htu
  simp only[hev]at hv ⊢
  split at hv
  ·rename_i id kv e1 e2
   split at hv
   ·rename_i M hM
    obtain⟨⟨hv1,hv2⟩,hpu⟩:=hv
    have h1:=h.ev hx
    rw[e1]at h1
    have h2:=h.ev hk
    have h1:a.eval y= .map (some (L.bx id)):=h1
    have h2:a.eval k' =kv:=qbp e2 h2
    have h3:=qck (h.ev hu) hpu
    obtain⟨ents,clock,hR⟩:=h.maps id M hM
    have hfn:=qbn (P:=P) (w:=w) ht hv2 ents.toList M.es (by simpa using hR.size) (fun j e x h3 h4=>⟨(hR.ent j e x (by simpa using h3) h4).1,by have:=hR.kind x (zP h4);rwa [hv1]at this⟩)
    have hlt:L.bx id<w.heap.size:=qac hR.blk
    have fin : ∀ (ents' : Array MapEntry) (clock' : Nat), (Instr.mapUpdate t (a.eval y) (a.eval k') (a.eval u)).run P w = .ok () (w.putObj (L.bx id) (.map ents' clock')) ->
      (∀w' :World,Kept Z w w' ->w'.heap[L.bx id]? =some (.map ents' clock')->MR w0 w' Z L id ⟨kd,mput M.es kv (v.ev st),none⟩ ents' clock')->
      Runs P w0 Z0 N w a (.mapUpdate t y k' u) none { s:=st.s,b:=st.b,a:=st.a,m:=up st.m id ⟨kd,mput M.es kv (v.ev st),none⟩ } :=by
     intro ents' clock' hrun hmr
     refine⟨undef,.skip,_,.inr ⟨rfl,rfl⟩,fun _ _ _ _=>by simp only[execOp,Sem.run_bind,hrun,Result.andThen_ok];rfl,Z,L,?_⟩
     have hg:=grownBy_putObj' w (L.bx id) (.map ents' clock')
     refine h.setMap hg (row:=some (L.bx id)) (fun k hk' => ?_) (LSame.refl L) (fun _ v _=>PV.toV_nul v) (fun _ v _=>⟨rfl,by simp[PV.to_nul]⟩) (fun _ M _ _=>⟨rfl,by unfold Mp.to;split<;>rfl⟩)
      ⟨(h.ownm id M hM).1,by simpa using hlt,(h.ownm id M hM).2.2⟩ (fun j M' hj hM' e=>hj (h.injm j id M' M hM' hM e)) ⟨ents',clock',hmr _ ⟨fun p b hp=> ?_⟩ (World.putObj_heap_same hlt)⟩
     ·cases hk'
      refine⟨M,_,hM,hR.blk,rfl,rfl,(h.ownm id M hM).1,(h.ownm id M hM).2.2,fun j M' hj hM' =>⟨fun e=>hj (h.injm j id M' M hM' hM e),fun i x y hi e=> ?_⟩⟩
      obtain⟨ents2,clock2,hR2⟩:=h.maps j M' hM'
      obtain⟨seen,c1,_⟩:=hR2.itAt hi
      rw[e,hR.blk]at c1;cases c1
     ·exact World.putObj_heap_other fun e=>(h.ownm id M hM).2.2 p (e▸hp)
    have hkk:kd.has kv=true:=hv2
    rcases hfn with⟨f1,f2,f3⟩|⟨j,e',x',f1,f2,f3,f4,f5,f6⟩
    ·refine fin (ents.push { key:=kv,val:=a.eval u,born:=clock }) (clock+1) ?_ (fun w' hK hb=> ?_)
     ·simp[Instr.mapUpdate,run_underlying htu,h1,h2,qbq hR.blk,qbh ht hv2,f3,qcg hR.blk]
     ·rw[qch f2]
      refine⟨hb,by simp[hR.size],fun j e x g1 g2=> ?_,fun x hx=> ?_,fun x hx=> ?_,?_,trivial⟩
      ·rw[Array.getElem?_push]at g1
       by_cases ej:j=ents.size
       ·rw[if_pos ej]at g1;cases g1
        rw[yB (by rw[ej,hR.size];exact Nat.le_refl _),ej,hR.size]at g2
        simp at g2;subst g2
        exact EntR.keep hK (fun _ _ h=>h) ⟨rfl,h3⟩
       ·rw[if_neg ej]at g1
        have:=(Array.getElem?_eq_some_iff.1 g1).1
        rw[yA (by rw[<- hR.size];exact this)]at g2
        exact(hR.ent j e x g1 g2).keep hK (fun _ _ h=>h)
      ·rcases yC.1 hx with hx|hx
       ·rw[<- hv1];exact hR.kind x hx
       ·rw[List.mem_singleton]at hx;subst hx;exact hv2
      ·simp only[Array.toList_push,yC,List.mem_singleton]at hx
       rcases hx with hx|rfl
       ·exact Nat.lt_succ_of_lt (hR.old x hx)
       ·exact Nat.lt_succ_self _
      ·simp only[Array.toList_push]
       rw[List.pairwise_append]
       refine⟨hR.born,by simp,fun x hx z hz=> ?_⟩
       rw[List.mem_singleton]at hz;subst hz
       exact Nat.ne_of_lt (hR.old x hx)
    ·have hje:ents[j]? =some e' :=by simpa using f1
     refine fin (ents.modify j fun e=> { e with key:=kv,val:=a.eval u }) clock ?_ (fun w' hK hb=> ?_)
     ·have hsb : Instr.sameBits 10000 (((ents[j]?).map (·.key)).getD kv) kv = true := by
       rw[hje]
       simp only[Option.map_some,Option.getD_some]
       have hek:=(hR.ent j e' x' hje f2).1
       rw[hek]
       exact qcl f5 kd hv2
      have hks:(Instr.keyThatStays (((ents[j]?).map (·.key)).getD kv) kv).run P w= .ok kv w:=by
       simp only[Instr.keyThatStays,hsb,if_true,Sem.run_pure]
      simp only[Instr.mapUpdate,Sem.run_bind,run_underlying htu,h1,h2,qbq hR.blk,qbh ht hv2,f4,Result.andThen_ok,hks,qcg hR.blk]
     ·rw[qci f2 f5 f6]
      have hjl:j<ents.size:=(Array.getElem?_eq_some_iff.1 hje).1
      have hmod: ∀(q:Nat) (e:MapEntry),(ents.modify j fun e=> { e with key:=kv,val:=a.eval u })[q]? =some e->if q=j then e= { e' with key:=kv,val:=a.eval u } else ents[q]? =some e:=by
       intro q e hq
       rw[Array.getElem?_modify]at hq
       by_cases eq:j=q
       ·subst eq;rw[if_pos rfl,hje]at hq;simp at hq;rw[if_pos rfl];exact hq.symm
       ·rw[if_neg eq]at hq;rw[if_neg (Ne.symm eq)];exact hq
      refine⟨hb,by simp[hR.size],fun q e x g1 g2=> ?_,fun x hx=> ?_,fun x hx=> ?_,?_,trivial⟩
      ·have hq:=hmod q e g1
       by_cases eq:q=j
       ·subst eq
        rw[if_pos rfl]at hq;subst hq
        rw[List.getElem?_set_self (by rw[<- hR.size];exact hjl)]at g2
        cases g2
        exact EntR.keep hK (fun _ _ h=>h) ⟨rfl,h3⟩
       ·rw[if_neg eq]at hq
        rw[List.getElem?_set_ne (Ne.symm eq)]at g2
        exact(hR.ent q e x hq g2).keep hK (fun _ _ h=>h)
      ·rcases List.mem_or_eq_of_mem_set hx with hx|hx
       ·rw[<- hv1];exact hR.kind x hx
       ·rw[hx];exact hv2
      ·obtain⟨q,hq⟩:=List.getElem?_of_mem hx
       have hq:=hmod q x (by rw[<- Array.getElem?_toList];exact hq)
       by_cases eq:q=j
       ·rw[if_pos eq]at hq;subst hq
        exact hR.old e' (by rw[<- Array.mem_def];exact Array.mem_of_getElem? hje)
       ·rw[if_neg eq]at hq
        exact hR.old x (by rw[<- Array.mem_def];exact Array.mem_of_getElem? hq)
      ·have hb' :=hR.born
       rw[<- List.pairwise_map (f:=fun x:MapEntry=>x.born) (R:=fun x y=>x≠y)]at hb' ⊢
       rw[Array.toList_modify,qcj (fun x:MapEntry=>x.born) (fun e=> { e with key:=kv,val:=a.eval u }) (fun _=>rfl)]
       exact hb'
   ·exact hv.elim
  ·exact hv.elim
 ·cases ht
theorem qcn (h : Inv w0 Z0 N Z L st a w) {i i' : Nat} (hi : N.dst (some i) (some i')) {kd : KD} {zero : PV} {x k : Opd} {op : Op} (hm : okH P N.sh (.men kd zero x k) op = true) (hv : (hev st (some i) (.men kd zero x k)).1) :
  Runs P w0 Z0 N w a op (some i') (hev st (some i) (.men kd zero x k)).2:=by
 cases op<;>simp only[okH,zN]at hm<;>first|(exact absurd hm zQ)|skip
 rename_i t y k'
 obtain⟨⟨ht,hx⟩,hk⟩:=hm
 split at ht
 ·rename_i kt e htu
  simp only[zN]at ht
  obtain⟨hkd,hz⟩:=ht
  split at hz
  ·rename_i ti hti
   split at hz
   ·rename_i z hzz
    simp only[hev]at hv ⊢
    split at hv
    ·rename_i i2 id kv ei e1 e2
     cases ei
     split at hv
     ·rename_i M hM
      split at hv
      ·rename_i l c hit
       obtain⟨⟨⟨hv1,hv2⟩,hg⟩,hpz⟩:=hv
       have h1:=h.ev hx
       rw[e1]at h1
       have h2:=h.ev hk
       have h1:a.eval y= .map (some (L.bx id)):=h1
       have h2:a.eval k' =kv:=qbp e2 h2
       obtain⟨ents,clock,hR⟩:=h.maps id M hM
       have hI:=hR.it
       rw[hit]at hI
       obtain⟨rfl,hst⟩:=hI
       have hzero:(zeroValue e).run P w= .ok z w:=by simp[zeroValue,typeInfo,hti,hzz]
       have hfn:=qbn (P:=P) (w:=w) hkd hv2 ents.toList M.es (by simpa using hR.size) (fun j e x h3 h4=>⟨(hR.ent j e x (by simpa using h3) h4).1,by have:=hR.kind x (zP h4);rwa [hv1]at this⟩)
       have hlt:L.bx id<w.heap.size:=qac hR.blk
       have hzr:TA w Z zero z:=qah hz
       rcases hfn with⟨f1,f2,f3⟩|⟨j,e',x',f1,f2,f3,f4,f5,f6⟩
       ·have hrun : (Instr.mapEntry t (a.eval y) (a.eval k')).run P w = .ok (.tuple #[z, goInt clock]) (w.putObj (L.bx id) (.map (ents.push { key := kv, val := z, born := clock }) (clock + 1))) := by
         simp[Instr.mapEntry,run_underlying htu,h1,h2,qbq hR.blk,qbh hkd hv2,f3,hzero,qcg hR.blk]
        have hgr:=grownBy_putObj' w (L.bx id) (.map (ents.push { key:=kv,val:=z,born:=clock }) (clock+1))
        have hK:Kept Z w (w.putObj (L.bx id) (.map (ents.push { key:=kv,val:=z,born:=clock }) (clock+1))):=⟨fun p b hp=>World.putObj_heap_other fun e=>(h.ownm id M hM).2.2 p (e▸hp)⟩
        have h9 := h.setMap hgr (row := some (L.bx id)) (M' := ⟨kd, M.es ++ [(kv, zero)], some (.stp (l ++ [clock]) (clock + 1))⟩) (fun k hk' => by
          cases hk'
          refine⟨M,_,hM,hR.blk,rfl,rfl,(h.ownm id M hM).1,(h.ownm id M hM).2.2,fun j M' hj hM' =>⟨fun e=>hj (h.injm j id M' M hM' hM e),fun i x y hi e=> ?_⟩⟩
          obtain⟨ents2,clock2,hR2⟩:=h.maps j M' hM'
          obtain⟨seen,c1,_⟩:=hR2.itAt hi
          rw[e,hR.blk]at c1;cases c1) (LSame.refl L) (fun _ v _=>PV.toV_nul v) (fun _ v _=>⟨rfl,by simp[PV.to_nul]⟩) (fun _ M _ _=>⟨rfl,by unfold Mp.to;split<;>rfl⟩)
         ⟨(h.ownm id M hM).1,by simpa using hlt,(h.ownm id M hM).2.2⟩ (fun j M' hj hM' e=>hj (h.injm j id M' M hM' hM e)) ⟨ents.push { key:=kv,val:=z,born:=clock },clock+1,?_⟩
        ·refine⟨_,_,_,.inl rfl,fun _ _ _ _=>by simp only[execOp,Sem.run_bind,hrun,Result.andThen_ok];rfl,Z,L,h9.put hi ⟨#[z,goInt clock],rfl,rfl,fun j c hj=> ?_⟩⟩
         match j with
         |0=>simp at hj;subst hj;exact(show TA _ _ zero z from(EntR.keep hK (fun _ _ h=>h) (show EntR w Z { key:=kv,val:=z,born:=clock } (kv,zero)from⟨rfl,hzr⟩)).2).ar L
         |1=>simp at hj;subst hj;exact TR.sc _ rfl
         |j+2=>simp at hj
        ·refine⟨World.putObj_heap_same hlt,by simp[hR.size],fun j e x g1 g2=> ?_,fun x hx=> ?_,fun x hx=> ?_,?_,?_⟩
         ·rw[Array.getElem?_push]at g1
          by_cases ej:j=ents.size
          ·rw[if_pos ej]at g1;cases g1
           rw[yB (by rw[ej,hR.size];exact Nat.le_refl _),ej,hR.size]at g2
           simp at g2;subst g2
           exact EntR.keep hK (fun _ _ h=>h) ⟨rfl,hzr⟩
          ·rw[if_neg ej]at g1
           have:=(Array.getElem?_eq_some_iff.1 g1).1
           rw[yA (by rw[<- hR.size];exact this)]at g2
           exact(hR.ent j e x g1 g2).keep hK (fun _ _ h=>h)
         ·rcases yC.1 hx with hx|hx
          ·rw[<- hv1];exact hR.kind x hx
          ·rw[List.mem_singleton]at hx;subst hx;exact hv2
         ·simp only[Array.toList_push,yC,List.mem_singleton]at hx
          rcases hx with hx|rfl
          ·exact Nat.lt_succ_of_lt (hR.old x hx)
          ·exact Nat.lt_succ_self _
         ·simp only[Array.toList_push]
          rw[List.pairwise_append]
          refine⟨hR.born,by simp,fun x hx z hz=> ?_⟩
          rw[List.mem_singleton]at hz;subst hz
          exact Nat.ne_of_lt (hR.old x hx)
         ·refine⟨rfl,?_⟩
          simp[hst]
       ·rw[hg]at f3;cases f3
      ·exact hv.elim
     ·exact hv.elim
    ·exact hv.elim
   ·cases hz
  ·cases hz
 ·cases ht
theorem qco (h : Inv w0 Z0 N Z L st a w) {d : Option Nat} (hd : d = none) {x s v : Opd} {op : Op} (hm : okH P N.sh (.est x s v) op = true) (hv : (hev st none (.est x s v)).1) :
  Runs P w0 Z0 N w a op d (hev st none (.est x s v)).2:=by
 subst hd
 cases op<;>simp only[okH,zN]at hm<;>first|(exact absurd hm zQ)|skip
 rename_i t y s' u
 obtain⟨⟨hx,hs⟩,hu⟩:=hm
 simp only[hev]at hv ⊢
 split at hv
 ·rename_i id n e1 e2
  split at hv
  ·rename_i M hM
   split at hv
   ·rename_i l c hit
    split at hv
    ·rename_i j hj
     have h1:=h.ev hx
     rw[e1]at h1
     have h1:a.eval y= .map (some (L.bx id)):=h1
     have h2:VR w Z L (.sc (.int .i64 n)) (a.eval s'):=by have:=h.ev hs;rwa [e2]at this
     have h2:a.eval s' = .int .i64 n:=by
      have h2:TR w Z (.sc (.int .i64 n)) (a.eval s'):=h2
      generalize a.eval s' =q at h2
      cases h2;rfl
     have h3:=qck (h.ev hu) hv
     obtain⟨ents,clock,hR⟩:=h.maps id M hM
     have hI:=hR.it
     rw[hit]at hI
     obtain⟨rfl,hst⟩:=hI
     have hlt:L.bx id<w.heap.size:=qac hR.blk
     have hfi:ents.findIdx? (fun e=>(e.born:Int)==n)=some j:=by
      rw[<- hst,List.findIdx?_map]at hj
      rw[<- hj]
      cases ents
      simp[Function.comp_def]
     have hjl:j<ents.size:=by
      have:=(Array.findIdx?_eq_some_iff_getElem.1 hfi).1
      exact this
     have hje:ents[j]? =some ents[j]:=Array.getElem?_eq_getElem hjl
     have hrun:(Instr.entryStore t (a.eval y) (a.eval s') (a.eval u)).run P w= .ok () (w.putObj (L.bx id) (.map (ents.modify j fun e=> { e with val:=a.eval u }) clock)):=by
      simp[Instr.entryStore,h1,h2,qbq hR.blk,asInt,asIntOf,hfi,qcg hR.blk]
     refine⟨undef,.skip,_,.inr ⟨rfl,rfl⟩,fun _ _ _ _=>by simp only[execOp,Sem.run_bind,hrun,Result.andThen_ok];rfl,Z,L,?_⟩
     have hgr:=grownBy_putObj' w (L.bx id) (.map (ents.modify j fun e=> { e with val:=a.eval u }) clock)
     have hK:Kept Z w (w.putObj (L.bx id) (.map (ents.modify j fun e=> { e with val:=a.eval u }) clock)):=⟨fun p b hp=>World.putObj_heap_other fun e=>(h.ownm id M hM).2.2 p (e▸hp)⟩
     refine h.setMap hgr (row:=some (L.bx id)) (fun k hk' => ?_) (LSame.refl L) (fun _ v _=>PV.toV_nul v) (fun _ v _=>⟨rfl,by simp[PV.to_nul]⟩) (fun _ M _ _=>⟨rfl,by unfold Mp.to;split<;>rfl⟩)
      ⟨(h.ownm id M hM).1,by simpa using hlt,(h.ownm id M hM).2.2⟩ (fun j M' hj hM' e=>hj (h.injm j id M' M hM' hM e)) ⟨ents.modify j fun e=> { e with val:=a.eval u },clock,?_⟩
     ·cases hk'
      refine⟨M,_,hM,hR.blk,rfl,rfl,(h.ownm id M hM).1,(h.ownm id M hM).2.2,fun j M' hj hM' =>⟨fun e=>hj (h.injm j id M' M hM' hM e),fun i x y hi e=> ?_⟩⟩
      obtain⟨ents2,clock2,hR2⟩:=h.maps j M' hM'
      obtain⟨seen,c1,_⟩:=hR2.itAt hi
      rw[e,hR.blk]at c1;cases c1
     ·have hmod : ∀ (q : Nat) (e : MapEntry), (ents.modify j fun e => { e with val := a.eval u })[q]? = some e -> if q = j then e = { ents[j] with val := a.eval u } else ents[q]? = some e := by
       intro q e hq
       rw[Array.getElem?_modify]at hq
       by_cases eq:j=q
       ·subst eq;rw[if_pos rfl,hje]at hq;simp at hq;rw[if_pos rfl];exact hq.symm
       ·rw[if_neg eq]at hq;rw[if_neg (Ne.symm eq)];exact hq
      have hes: ∀(q:Nat) (x:Value×PV),(M.es.modify j fun y=>(y.1,v.ev st))[q]? =some x-> ∃y,M.es[q]? =some y/\x=if q=j then(y.1,v.ev st)else y:=by
       intro q x hq
       rw[List.getElem?_modify]at hq
       cases hy:M.es[q]? with
       |none=>rw[hy]at hq;simp at hq
       |some y=>
         rw[hy]at hq
         refine⟨y,rfl,?_⟩
         by_cases eq:j=q
         ·subst eq;simp at hq;simp[<- hq]
         ·simp[eq]at hq;rw[if_neg (Ne.symm eq)];exact hq.symm
      refine⟨World.putObj_heap_same hlt,by simp[hR.size],fun q e x g1 g2=> ?_,fun x hx=> ?_,fun x hx=> ?_,?_,trivial⟩
      ·have hq:=hmod q e g1
       obtain⟨y,hy,rfl⟩:=hes q x g2
       by_cases eq:q=j
       ·subst eq
        rw[if_pos rfl]at hq ⊢
        subst hq
        exact EntR.keep hK (fun _ _ h=>h) ⟨(hR.ent q _ y hje hy).1,h3⟩
       ·rw[if_neg eq]at hq ⊢
        exact(hR.ent q e y hq hy).keep hK (fun _ _ h=>h)
      ·obtain⟨q,hq⟩:=List.getElem?_of_mem hx
       obtain⟨y,hy,rfl⟩:=hes q x hq
       have:=hR.kind y (zP hy)
       split<;>exact this
      ·obtain⟨q,hq⟩:=List.getElem?_of_mem hx
       have hq:=hmod q x (by rw[<- Array.getElem?_toList];exact hq)
       by_cases eq:q=j
       ·rw[if_pos eq]at hq;subst hq
        exact hR.old ents[j] (by rw[<- Array.mem_def];exact Array.getElem_mem hjl)
       ·rw[if_neg eq]at hq
        exact hR.old x (by rw[<- Array.mem_def];exact Array.mem_of_getElem? hq)
      ·have hb' :=hR.born
       rw[<- List.pairwise_map (f:=fun x:MapEntry=>x.born) (R:=fun x y=>x≠y)]at hb' ⊢
       rw[Array.toList_modify,qcj (fun x:MapEntry=>x.born) (fun e=> { e with val:=a.eval u }) (fun _=>rfl)]
       exact hb'
    ·exact hv.elim
   ·exact hv.elim
  ·exact hv.elim
 ·exact hv.elim
theorem Inv.obsMap(h:Inv w0 Z0 N Z L st a w){id:Nat}{M:Mp}(hM:lk st.m id=some M): ∃l c,Inv w0 Z0 N Z L { st with m:=up st.m id ⟨M.kd,M.es,some (.stp l c)⟩ } a w/\l.length=M.es.length:=by
 obtain⟨ents,clock,hR⟩:=h.maps id M hM
 refine⟨ents.toList.map (·.born),clock,?_,by simp[hR.size]⟩
 refine⟨h.zt,h.z0,h.zn,h.zb,h.below,h.ownb,h.owna,h.injb,h.inja,h.injx,h.boxes,h.arrs,fun i M' hl=> ?_,fun i j x y h1 h2 e=> ?_,fun i M' hl=> ?_,h.oth,h.yb,h.size,h.defers,h.slots⟩
 ·simp only[qa2]at hl
  split at hl
  ·rename_i e;subst e;exact h.ownm _ M hM
  ·exact h.ownm i M' hl
 ·simp only[qa2]at h1 h2
  by_cases e1:id=i
  ·by_cases e2:id=j
   ·exact e1.symm.trans e2
   ·rw[if_neg e2]at h2;rw[<- e1]at e ⊢;exact h.injm id j M y hM h2 e
  ·rw[if_neg e1]at h1
   by_cases e2:id=j
   ·rw[<- e2]at e ⊢;exact h.injm i id x M h1 hM e
   ·rw[if_neg e2]at h2;exact h.injm i j x y h1 h2 e
 ·simp only[qa2]at hl
  split at hl
  ·rename_i e
   subst e
   cases hl
   exact⟨ents,clock,hR.blk,hR.size,hR.ent,hR.kind,hR.old,hR.born,rfl,rfl⟩
  ·exact h.maps i M' hl
theorem qcp (h : Inv w0 Z0 N Z L st a w) {i i' : Nat} (hi : N.dst (some i) (some i')) {x : Opd} {op : Op} (hm : okH P N.sh (.rng x) op = true) (hv : (hev st (some i) (.rng x)).1) :
  Runs P w0 Z0 N w a op (some i') (hev st (some i) (.rng x)).2:=by
 cases op<;>simp only[okH,zN]at hm<;>first|(exact absurd hm zQ)|skip
 rename_i t y
 obtain⟨ht,hx⟩:=hm
 split at ht
 ·rename_i kt e htu
  simp only[hev]at hv ⊢
  split at hv
  ·rename_i i2 id ei e1
   cases ei
   split at hv
   ·rename_i M hM
    have h1:=h.ev hx
    rw[e1]at h1
    have h1:a.eval y= .map (some (L.bx id)):=h1
    have hk0:=(h.kill (fun j=>j==i) nul).rmBox i
    obtain⟨ents,clock,hR⟩:=hk0.maps id M hM
    obtain⟨hp1,hp2⟩:=St.noTo_map (St.noTo_kill st (fun j=>j==i) nul) hM
    have hne:id≠i:=by simpa using hp1
    have hrun:(Instr.range t (a.eval y)).run P w= .ok (.pointer (some ⟨w.heap.size,0,none⟩)) (w.alloc (.mapIter (some (L.bx id)) clock #[] clock)):=by
     simp[Instr.range,run_underlying htu,h1,qbq hR.blk,run_newObj_alloc]
    refine⟨_,_,_,.inl rfl,fun _ _ _ _=>by simp only[execOp,Sem.run_bind,hrun,Result.andThen_ok];rfl,?_⟩
    have hl:LSame L { L with bx:=fun j=>if j=i then w.heap.size else L.bx j } (fun j=>j==i) nul:=⟨fun j hj=>by simp only[beq_eq_false_iff_ne]at hj;simp[hj],fun _ _=>rfl,fun _ _=>rfl,fun _ _=>rfl,fun _ _=>rfl,fun _ _=>rfl,fun _ _=>rfl⟩
    have hK:Kept Z w (w.alloc (.mapIter (some (L.bx id)) clock #[] clock)):=⟨fun p b hp=>Below.heap_alloc _ _ _ (h.zb p b hp)⟩
    have hlt:L.bx id<w.heap.size:=qac hR.blk
    have hf:(ents.toList.filter fun e=> !(#[]:Array Nat).contains e.born)=ents.toList:=List.filter_eq_self.2 (by simp)
    have h2:=hk0.setMap (qbQ w (.mapIter (some (L.bx id)) clock #[] clock)) (row:=none) (by simp) (id:=id) hl (fun j v hj=>qce hj)
     (fun j v hj=>by
      obtain⟨h2,h3⟩:=qcd _ _ _ _ hj
      exact⟨by simpa using h3,St.noTo_box (St.noTo_kill st _ _) h2⟩)
     (fun j M hj hM=>(St.noTo_map (St.noTo_kill st (fun j=>j==i) nul) hM)) ⟨by simp only[hne,if_false];exact(hk0.ownm id M hM).1,by simp only[hne,if_false];simp;omega,by simp only[hne,if_false];exact(hk0.ownm id M hM).2.2⟩
     (fun j M' hj hM' =>by
      have hji:=(St.noTo_map (St.noTo_kill st (fun j=>j==i) nul) hM').1
      have hji:j≠i:=by simpa using hji
      simp only[hji,hne,if_false]
      exact fun e=>hj (hk0.injm j id M' M hM' hM e)) (M' := { M with it:=some (.run i M.es none) })
     ⟨ents,clock,⟨by simp only[hne,if_false];exact(Below.heap_alloc _ _ _ hlt).trans hR.blk,hR.size,fun j e x g1 g2=>(hR.ent j e x g1 g2).keep hK (fun _ _ h=>h),hR.kind,hR.old,hR.born,by
      refine⟨#[],?_,?_,?_,?_,?_,fun x hx=>by cases hx⟩
      ·simp only[if_true,hne,if_false];exact heap_alloc_new w _
      ·simp only[if_true];exact h.below.size
      ·simp only[if_true];intro p hp;have:=h.zb p _ hp;omega
      ·rw[hf];simpa using hR.size
      ·intro j e x g1 g2
       rw[hf]at g1
       exact(hR.ent j e x (by simpa using g1) g2).keep hK (fun _ _ h=>h)⟩⟩
    exact⟨_,_,h2.put (d:=some i) (d' :=some i') hi (v:= .itr id i) (by simp[VR,AR,CR])⟩
   ·exact hv.elim
  ·exact hv.elim
 ·cases ht
theorem qcq: ∀(F:List MapEntry) (i:Nat) (e:MapEntry),F.Pairwise (fun x y=>x.born≠y.born)->F[i]? =some e->F.filter (fun x=>x.born !=e.born)=F.eraseIdx i
 |[],i,e,_,h=>by simp at h
 | z :: r, 0, e, hp, h => by
   simp at h;subst h
   rw[List.pairwise_cons]at hp
   simp only[List.eraseIdx_cons_zero]
   rw[List.filter_cons_of_neg (by simp)]
   exact List.filter_eq_self.2 fun x hx=>by simpa using(hp.1 x hx).symm
 | z :: r, i + 1, e, hp, h => by
   rw[List.pairwise_cons]at hp
   have hm:e∈r:=zP (by simpa using h)
   rw[List.filter_cons_of_pos (by simpa using hp.1 e hm),List.eraseIdx_cons_succ,qcq r i e hp.2 (by simpa using h)]
theorem qcr{α:Type}(l:List α)(i j:Nat):(l.eraseIdx i)[j]? =if j<i then l[j]? else l[j+1]? :=List.getElem?_eraseIdx ..
theorem qcs (h : Inv w0 Z0 N Z L st a w) {d d' : Option Nat} (hd : N.dst d d') {x : Opd} {op : Op} (hm : okH P N.sh (.nxt x) op = true) {id it : Nat} (e1 : x.ev st = .itr id it) {M : Mp} (hM : lk st.m id = some M) (hsc : M.kd.sc = true)
  {left:List (Value×PV)} {cur:Option (Value×PV)} (hit:M.it=some (.run it left cur)):
  (left=[]/\Runs P w0 Z0 N w a op d' (st.put d (.tup [.sc (.bool false)])))\/
  (∃(i:Nat) (z:Value×PV),left[i]? =some z/\Runs P w0 Z0 N w a op d' (({ st with m:=up st.m id { M with it:=some (.run it (left.eraseIdx i) (some z)) } } :St).put d (.tup [.sc (.bool true),.sc z.1,z.2]))):=by
 cases op<;>simp only[okH]at hm<;>first|(exact absurd hm zQ)|skip
 rename_i y q
 cases q with
 |true=>simp at hm
 |false=>
 have h1:=h.ev hm
 rw[e1]at h1
 have h1:a.eval y= .pointer (some ⟨L.bx it,0,none⟩):=h1
 obtain⟨ents,clock,hR⟩:=h.maps id M hM
 have hI:=hR.it
 rw[hit]at hI
 obtain⟨seen,i1,i2,i3,i4,i5,i6⟩:=hI
 have hleft:(leftOf ents seen).toList=ents.toList.filter fun e=> !seen.contains e.born:=by simp[leftOf]
 rcases run_next_at (P:=P) w 0 (L.bx it) (L.bx id) clock clock seen ents clock i1 hR.blk hR.old (Nat.le_refl _)with⟨g1,g2⟩|⟨e,g1,w1,g2,g3⟩
 ·left
  have hnil:left=[]:=by
   rw[<- hleft]at i4
   have:(leftOf ents seen).toList.length=0:=by simpa using g1
   rw[this]at i4
   exact List.eq_nil_of_length_eq_zero i4.symm
  refine⟨hnil,_,_,w,.inl rfl,fun ty _ _ _=>by have g2' :(Instr.next (.pointer (some ⟨L.bx it,0,none⟩)) false ty).run P w=_:=g2;simp only[execOp,Sem.run_bind,h1,g2',Result.andThen_ok];rfl,Z,L,h.put hd ⟨#[.bool false],rfl,rfl,fun j c hj=> ?_⟩⟩
  match j with
  |0=>simp at hj;subst hj;exact TR.sc _ rfl
  |j+1=>simp at hj
 ·right
  rw[hleft]at g1
  obtain⟨i,hi⟩:=List.getElem?_of_mem g1
  have hil:i<left.length:=by rw[<- i4];exact(zM.1 hi).1
  have hz:=i5 i e left[i] hi (zL hil)
  refine⟨i,left[i],zL hil,_,_,_,.inl rfl,fun ty _ _ _=>by have g3' :(Instr.next (.pointer (some ⟨L.bx it,0,none⟩)) false ty).run P w=_:=g3;simp only[execOp,Sem.run_bind,h1,g3',Result.andThen_ok];rfl,?_⟩
  have hw1:w1.heap=w.heap:=by rcases g2 with rfl|rfl<;>rfl
  have hI1:Inv w0 Z0 N Z L st a w1:=by rcases g2 with rfl|rfl<;>first|exact h|exact h.drew
  have hsb:ChangeMaps.setBlock w1 (L.bx it) (.mapIter (some (L.bx id)) clock (seen.push e.born) clock)=w1.putObj (L.bx it) (.mapIter (some (L.bx id)) clock (seen.push e.born) clock):=rfl
  have hlt:L.bx it<w1.heap.size:=by rw[hw1];exact qac i1
  have hitid:L.bx id≠L.bx it:=fun e=>by have:=hR.blk;rw[e,i1]at this;cases this
  rw[hsb]
  have hK:Kept Z w (w1.putObj (L.bx it) (.mapIter (some (L.bx id)) clock (seen.push e.born) clock)):=⟨fun p b hp=>by
   have hne:b≠L.bx it:=fun e=>i3 p (by rw[<- e];exact hp)
   rw[World.putObj_heap_other hne,hw1]⟩
  have hmem:e∈ents.toList:=(List.mem_filter.1 g1).1
  have h2 := hI1.setMap (grownBy_putObj' w1 (L.bx it) (.mapIter (some (L.bx id)) clock (seen.push e.born) clock)) (row := some (L.bx it)) (id := id) (fun k hk => by
    cases hk
    refine⟨M,_,hM,by rw[hw1];exact i1,rfl,rfl,i2,i3,fun j M' hj hM' => ?_⟩
    obtain⟨n1,n2,_⟩:=qcc h hM hM' hj hit
    exact⟨n1,n2⟩) (LSame.refl L) (fun _ v _=>PV.toV_nul v) (fun _ v _=>⟨rfl,by simp[PV.to_nul]⟩) (fun _ M _ _=>⟨rfl,by unfold Mp.to;split<;>rfl⟩)
   ⟨(h.ownm id M hM).1,by rw[World.putObj_size,hw1];exact(h.ownm id M hM).2.1,(h.ownm id M hM).2.2⟩ (fun j M' hj hM' e=>hj (h.injm j id M' M hM' hM e)) (M' := { M with it:=some (.run it (left.eraseIdx i) (some left[i])) })
   ⟨ents,clock,⟨by rw[World.putObj_heap_other hitid,hw1];exact hR.blk,hR.size,fun j e x f1 f2=>(hR.ent j e x f1 f2).keep hK (fun _ _ h=>h),hR.kind,hR.old,hR.born,by
    have hfe:(ents.toList.filter fun x=> !(seen.push e.born).contains x.born)=(ents.toList.filter fun x=> !seen.contains x.born).eraseIdx i:=by
     rw[<- qcq _ i e (hR.born.sublist List.filter_sublist) hi,List.filter_filter]
     refine List.filter_congr fun x _=> ?_
     rw[Bool.eq_iff_iff]
     simp only[Bool.not_eq_true',Array.contains_eq_mem,Array.mem_push,decide_eq_false_iff_not,not_or,zN,bne_iff_ne,ne_eq]
     exact⟨fun hh=>⟨fun e' =>hh.2 e',hh.1⟩,fun hh=>⟨hh.2,fun e' =>hh.1 e'⟩⟩
    refine⟨seen.push e.born,World.putObj_heap_same hlt,i2,i3,?_,?_,fun x hx=> ?_⟩
    ·rw[hfe,List.length_eraseIdx,List.length_eraseIdx,i4]
    ·intro j e' x f1 f2
     rw[hfe,qcr]at f1
     rw[qcr]at f2
     split at f1
     ·rw[if_pos ‹_›]at f2;exact(i5 _ _ _ f1 f2).keep hK (fun _ _ h=>h)
     ·rw[if_neg ‹_›]at f2;exact(i5 _ _ _ f1 f2).keep hK (fun _ _ h=>h)
    ·cases hx
     exact⟨e.born,e,by simp,hmem,rfl,hz.keep hK (fun _ _ h=>h)⟩⟩⟩
  refine⟨Z,L,h2.put hd ⟨#[.bool true,e.key,e.val],rfl,rfl,fun j c hj=> ?_⟩⟩
  have hz' :=hz.keep hK (fun _ _ h=>h)
  match j with
  |0=>simp at hj;subst hj;exact TR.sc _ rfl
  |1=>
    simp at hj;subst hj
    have hek:e.key=left[i].1:=hz.1
    refine hek▸TR.sc _ ?_
    obtain⟨j,hj⟩:=List.getElem?_of_mem hmem
    have hjl:j<M.es.length:=by rw[<- hR.size];have:=(zM.1 hj).1;simpa using this
    have h9:=hR.ent j e M.es[j] (by simpa using hj) (zL hjl)
    have h10:=hR.kind _ (List.getElem_mem hjl)
    rw[<- h9.1]at h10
    revert h10 hsc
    cases M.kd<;>cases e.key<;>simp[KD.has,KD.sc,scOk]
  |2=>simp at hj;subst hj;exact hz'.2.ar L
  |j+3=>simp at hj
end
end Go.Vc
namespace Go.Vc
open Go Go.RowKit
inductive Sub:PV->PV->Prop
 |refl (c):Sub c c
 |bot (c):Sub c .bot
 |nil (p es):Sub .nil (.sl p es [])
 | sl (p q es xs ys) : (q = true -> p = true) -> xs.length = ys.length -> (∀ (i : Nat) (x y : List PV), xs[i]? = some x -> ys[i]? = some y -> x.length = y.length) ->
   (∀(i:Nat) (x y:List PV) (j:Nat) (c d:PV),xs[i]? =some x->ys[i]? =some y->x[j]? =some c->y[j]? =some d->Sub c d)->Sub (.sl p es xs) (.sl q es ys)
 |iptr (p q cs ds off):(q=true->p=true)->cs.length=ds.length->(∀(j:Nat) (c d:PV),cs[j]? =some c->ds[j]? =some d->Sub c d)->Sub (.iptr p cs off) (.iptr q ds off)
 |agg (cs ds):cs.length=ds.length->(∀(j:Nat) (c d:PV),cs[j]? =some c->ds[j]? =some d->Sub c d)->Sub (.agg cs) (.agg ds)
 |tup (cs ds):cs.length=ds.length->(∀(j:Nat) (c d:PV),cs[j]? =some c->ds[j]? =some d->Sub c d)->Sub (.tup cs) (.tup ds)
section
variable {w:World} {Z:Zone} {L:Lay}
theorem qct{α β:Type}{xs:List α}{ys:List β}(hl:xs.length=ys.length){i:Nat}{y:β}(h:ys[i]? =some y): ∃x,xs[i]? =some x:=by
 have:=(zM.1 h).1
 exact⟨xs[i],zL (by omega)⟩
theorem Sub.tr(hz: ∀b,Z true b->Z false b){c d:PV}(hs:Sub c d): ∀ {v:Value},TR w Z c v->TR w Z d v:=by
 have hzz: ∀ {p q:Bool} {b:Nat},(q=true->p=true)->Z p b->Z q b:=fun {p q b} hpq h=>by
  cases p<;>cases q<;>first|exact h|exact hz _ h|(cases hpq rfl)
 induction hs with
 |refl c=>exact fun h=>h
 |bot c=>exact fun _=> .bot _
 |nil p es=>
   intro v h
   cases h
   exact .sl0 p es none 0 (Nat.zero_le _)
 |sl p q es xs ys hpq hl hr _ ih=>
   intro v h
   cases h with
   |sl0 _ _ a cap h=>
     have:ys=[]:=List.length_eq_zero_iff.1 hl.symm
     subst this
     exact .sl0 q es a cap h
   |sl _ _ _ b o cap g h0 h1 h2 h3 h4 h5 h6 h7=>
     rw[hl]
     refine .sl q es ys b o cap g h0 (hzz hpq h1) (by omega) (by omega) h4 (fun y hy=> ?_) (fun i j hi hj=>h6 i j (by omega) hj) (fun i j y d hi hj=> ?_)
     ·obtain⟨i,hi,rfl⟩:=List.getElem_of_mem hy
      have hxi:xs[i]? =some xs[i]:=zL (by omega)
      rw[<- hr i _ _ hxi (zL hi)]
      exact h5 _ (zP hxi)
     ·obtain⟨x,hx⟩:=qct hl hi
      obtain⟨c,hc⟩:=qct (hr i x y hx hi) hj
      exact ih i x y j c d hx hi hc hj (h7 i j x c hx hc)
 |iptr p q cs ds off hpq hl _ ih=>
   intro v h
   cases h with
   |iptr _ _ b o _ g h1 h2 h3=>
     refine .iptr q ds b o off g (hzz hpq h1) (fun j hj=>h2 j (by omega)) (fun j d hj=> ?_)
     obtain⟨c,hc⟩:=qct hl hj
     exact ih j c d hc hj (h3 j c hc)
 |agg=>intro v h;cases h
 |tup=>intro v h;cases h
theorem Sub.cr(hz: ∀b,Z true b->Z false b){c d:PV}(hs:Sub c d){v:Value}(h:CR w Z L c v):CR w Z L d v:=by
 by_cases hcd:c=d
 ·subst hcd;exact h
 have h1:TR w Z c v\/d= .bot:=by
  cases hs with
  |refl=>exact absurd rfl hcd
  |bot=>exact .inr rfl
  |_=>exact .inl h
 rcases h1 with h1|rfl
 ·have h2:=hs.tr hz h1
  exact h2.cr L
 ·exact TR.bot v
theorem Sub.cm(hz: ∀b,Z true b->Z false b){c d:PV}(hs:Sub c d){v:Value}(h:CM w Z L c v):CM w Z L d v:=⟨hs.cr hz h.1,h.2⟩
theorem AR.of_cr{c:PV}{v:Value}(h:CR w Z L c v):AR w Z L c v:=by
 cases c<;>simp only[AR]<;>first|exact h|(simp only[CR]at h;cases h)
theorem VR.of_ar{c:PV}{v:Value}(h:AR w Z L c v):VR w Z L c v:=by
 cases c<;>simp only[VR]<;>first|exact h|(simp only[AR,CR]at h;cases h)
theorem Sub.ar(hz: ∀b,Z true b->Z false b){c d:PV}(hs:Sub c d){v:Value}(h:AR w Z L c v):AR w Z L d v:=by
 cases hs with
 |refl=>exact h
 |bot=>exact TR.bot v
 |nil p es=>exact AR.of_cr (Sub.cr hz (.nil p es) h)
 |sl p q es xs ys h1 h2 h3 h4=>exact AR.of_cr (Sub.cr hz (.sl p q es xs ys h1 h2 h3 h4) h)
 |iptr p q cs ds off h1 h2 h3=>exact AR.of_cr (Sub.cr hz (.iptr p q cs ds off h1 h2 h3) h)
 |agg cs ds hl hh=>
   obtain⟨vs,e,h1,h2⟩:=h
   refine⟨vs,e,by omega,fun j d hj=> ?_⟩
   obtain⟨c,hc⟩:=qct hl hj
   exact(hh j c d hc hj).cm hz (h2 j c hc)
 |tup cs ds hl hh=>simp only[AR,CR]at h;cases h
theorem Sub.vr(hz: ∀b,Z true b->Z false b){c d:PV}(hs:Sub c d){v:Value}(h:VR w Z L c v):VR w Z L d v:=by
 cases hs with
 |refl=>exact h
 |bot=>exact TR.bot v
 |nil p es=>exact VR.of_ar (Sub.ar hz (.nil p es) h)
 |sl p q es xs ys h1 h2 h3 h4=>exact VR.of_ar (Sub.ar hz (.sl p q es xs ys h1 h2 h3 h4) h)
 |iptr p q cs ds off h1 h2 h3=>exact VR.of_ar (Sub.ar hz (.iptr p q cs ds off h1 h2 h3) h)
 |agg cs ds h1 h2=>exact VR.of_ar (Sub.ar hz (.agg cs ds h1 h2) h)
 |tup cs ds hl hh=>
   obtain⟨vs,e,h1,h2⟩:=h
   refine⟨vs,e,by omega,fun j d hj=> ?_⟩
   obtain⟨c,hc⟩:=qct hl hj
   exact(hh j c d hc hj).ar hz (h2 j c hc)
theorem Sub.ta(hz: ∀b,Z true b->Z false b){c d:PV}(hs:Sub c d){v:Value}(h:TA w Z c v):TA w Z d v:=by
 have key: ∀ {c d:PV},(∀cs,d≠ .agg cs)->Sub c d->TR w Z c v->TA w Z d v:=fun {c d} hd hs h=>by
  have:=hs.tr hz h
  cases d<;>simp only[TA]<;>first|exact this|exact absurd rfl (hd _)
 cases hs with
 |refl=>exact h
 |bot=>exact TR.bot v
 |nil p es=>exact key (by intro cs e;cases e) (.nil p es) h
 |sl p q es xs ys h1 h2 h3 h4=>exact key (by intro cs e;cases e) (.sl p q es xs ys h1 h2 h3 h4) h
 |iptr p q cs ds off h1 h2 h3=>exact key (by intro cs e;cases e) (.iptr p q cs ds off h1 h2 h3) h
 |agg cs ds hl hh=>
   obtain⟨vs,e,h1,h2⟩:=h
   refine⟨vs,e,by omega,fun j d hj=> ?_⟩
   obtain⟨c,hc⟩:=qct hl hj
   exact⟨(hh j c d hc hj).tr hz (h2 j c hc).1,(h2 j c hc).2⟩
 |tup cs ds hl hh=>simp only[TA]at h;cases h
theorem Sub.tv(hz: ∀b,Z true b->Z false b){c d:PV}(hs:Sub c d){v:Value}(h:TV w Z c v):TV w Z d v:=by
 have key: ∀ {c d:PV},(∀cs,d≠ .tup cs)->Sub c d->TA w Z c v->TV w Z d v:=fun {c d} hd hs h=>by
  have:=hs.ta hz h
  cases d<;>simp only[TV]<;>first|exact this|exact absurd rfl (hd _)
 cases hs with
 |refl=>exact h
 |bot=>exact TR.bot v
 |nil p es=>exact key (by intro cs e;cases e) (.nil p es) h
 |sl p q es xs ys h1 h2 h3 h4=>exact key (by intro cs e;cases e) (.sl p q es xs ys h1 h2 h3 h4) h
 |iptr p q cs ds off h1 h2 h3=>exact key (by intro cs e;cases e) (.iptr p q cs ds off h1 h2 h3) h
 |agg cs ds h1 h2=>exact key (by intro cs e;cases e) (.agg cs ds h1 h2) h
 |tup cs ds hl hh=>
   obtain⟨vs,e,h1,h2⟩:=h
   refine⟨vs,e,by omega,fun j d hj=> ?_⟩
   obtain⟨c,hc⟩:=qct hl hj
   exact(hh j c d hc hj).ta hz (h2 j c hc)
end
def SubL:List PV->List PV->Prop
 |[],[]=>True
 |c::cs,d::ds=>Sub c d/\SubL cs ds
 |_,_=>False
theorem SubL.len: ∀ {cs ds:List PV},SubL cs ds->cs.length=ds.length
 |[],[],_=>rfl
 |c::cs,d::ds,h=>by simp[SubL.len h.2]
theorem SubL.at: ∀ {cs ds:List PV},SubL cs ds-> ∀(j:Nat) (c d:PV),cs[j]? =some c->ds[j]? =some d->Sub c d
 |[],[],_,j,c,d,h,_=>by simp at h
 | c' :: cs, d' :: ds, h, j, c, d, hc, hd => by
   cases j with
   |zero=>simp at hc hd;subst hc hd;exact h.1
   |succ j=>simp at hc hd;exact SubL.at h.2 j c d hc hd
theorem SubL.rfl' : ∀cs:List PV,SubL cs cs
 |[]=>trivial
 |c::cs=>⟨.refl c,SubL.rfl' cs⟩
theorem Sub.aggL{cs ds:List PV}(h:SubL cs ds):Sub (.agg cs) (.agg ds):= .agg cs ds h.len h.at
theorem Sub.tupL{cs ds:List PV}(h:SubL cs ds):Sub (.tup cs) (.tup ds):= .tup cs ds h.len h.at
theorem Sub.slp(p es)(xs:List (List PV))(q:Bool)(h:q=true->p=true):Sub (.sl p es xs) (.sl q es xs):=
 .sl p q es xs xs h rfl (fun i x y h1 h2=>by rw[h1]at h2;cases h2;rfl) (fun i x y j c d h1 h2 h3 h4=>by rw[h1]at h2;cases h2;rw[h3]at h4;cases h4;exact .refl c)
def SubR:List (List PV)->List (List PV)->Prop
 |[],[]=>True
 |x::xs,y::ys=>SubL x y/\SubR xs ys
 |_,_=>False
theorem SubR.len: ∀ {cs ds:List (List PV)},SubR cs ds->cs.length=ds.length
 |[],[],_=>rfl
 |c::cs,d::ds,h=>by simp[SubR.len h.2]
theorem SubR.at: ∀ {cs ds:List (List PV)},SubR cs ds-> ∀(j:Nat) (c d:List PV),cs[j]? =some c->ds[j]? =some d->SubL c d
 |[],[],_,j,c,d,h,_=>by simp at h
 | c' :: cs, d' :: ds, h, j, c, d, hc, hd => by
   cases j with
   |zero=>simp at hc hd;subst hc hd;exact h.1
   |succ j=>simp at hc hd;exact SubR.at h.2 j c d hc hd
theorem SubR.rfl' : ∀cs:List (List PV),SubR cs cs
 |[]=>trivial
 |c::cs=>⟨SubL.rfl' c,SubR.rfl' cs⟩
theorem SubR.app: ∀ {xs ys us vs:List (List PV)},SubR xs ys->SubR us vs->SubR (xs++us) (ys++vs)
 |[],[],_,_,_,h=>h
 |_::_,_::_,_,_,h1,h=>⟨h1.1,SubR.app h1.2 h⟩
theorem SubR.map{α:Type}(f g:α->List PV): ∀(l:List α),(∀x∈l,SubL (f x) (g x))->SubR (l.map f) (l.map g)
 |[],_=>trivial
 |x::l,h=>⟨h x zX,SubR.map f g l fun y hy=>h y (zT _ hy)⟩
def WkS:List (Nat×PV)->List (Nat×PV)->Prop
 |[],[]=>True
 |(i,c)::s,(j,d)::t=>i=j/\Sub c d/\WkS s t
 |_,_=>False
def WkB:List (Nat×List PV)->List (Nat×List PV)->Prop
 |[],[]=>True
 |(i,c)::s,(j,d)::t=>i=j/\SubL c d/\WkB s t
 |_,_=>False
def WkA:List (Nat×Arr)->List (Nat×Arr)->Prop
 |[],[]=>True
 |(i,c)::s,(j,d)::t=>(i=j/\d.es=c.es/\d.ty=c.ty)/\SubR c.xs d.xs/\WkA s t
 |_,_=>False
def Wk(st st' :St):Prop:=WkS st.s st'.s/\WkB st.b st'.b/\WkA st.a st'.a/\st'.m=st.m
theorem WkS.lk: ∀ {s t:List (Nat×PV)},WkS s t-> ∀i d,lk t i=some d-> ∃c,lk s i=some c/\Sub c d
 |[],[],_,i,d,h=>by simp[Go.Vc.lk]at h
 | (k, c) :: s, (j, d') :: t, h, i, d, hd => by
   obtain⟨rfl,h1,h2⟩:=h
   simp only[Go.Vc.lk]at hd ⊢
   split at hd
   ·rename_i e;cases hd;rw[if_pos e];exact⟨c,rfl,h1⟩
   ·rename_i e;rw[if_neg e];exact WkS.lk h2 i d hd
theorem WkB.lk: ∀ {s t:List (Nat×List PV)},WkB s t-> ∀i d,lk t i=some d-> ∃c,lk s i=some c/\SubL c d
 |[],[],_,i,d,h=>by simp[Go.Vc.lk]at h
 | (k, c) :: s, (j, d') :: t, h, i, d, hd => by
   obtain⟨rfl,h1,h2⟩:=h
   simp only[Go.Vc.lk]at hd ⊢
   split at hd
   ·rename_i e;cases hd;rw[if_pos e];exact⟨c,rfl,h1⟩
   ·rename_i e;rw[if_neg e];exact WkB.lk h2 i d hd
theorem WkA.lk: ∀ {s t:List (Nat×Arr)},WkA s t-> ∀i d,lk t i=some d-> ∃c,lk s i=some c/\(d.es=c.es/\d.ty=c.ty)/\SubR c.xs d.xs
 |[],[],_,i,d,h=>by simp[Go.Vc.lk]at h
 | (k, c) :: s, (j, d') :: t, h, i, d, hd => by
   obtain⟨⟨rfl,h0⟩,h1,h2⟩:=h
   simp only[Go.Vc.lk]at hd ⊢
   split at hd
   ·rename_i e;cases hd;rw[if_pos e];exact⟨c,rfl,h0,h1⟩
   ·rename_i e;rw[if_neg e];exact WkA.lk h2 i d hd
theorem WkS.rfl' : ∀s,WkS s s
 |[]=>trivial
 |(_,c)::s=>⟨rfl,.refl c,WkS.rfl' s⟩
theorem WkB.rfl' : ∀s,WkB s s
 |[]=>trivial
 |(_,c)::s=>⟨rfl,SubL.rfl' c,WkB.rfl' s⟩
theorem WkA.rfl' : ∀s,WkA s s
 |[]=>trivial
 |(_,c)::s=>⟨⟨rfl,rfl,rfl⟩,SubR.rfl' c.xs,WkA.rfl' s⟩
theorem Wk.refl(st:St):Wk st st:=⟨WkS.rfl' _,WkB.rfl' _,WkA.rfl' _,rfl⟩
theorem Inv.wk{w0:World}{Z0:Zone}{N:Fr}{Z:Zone}{L:Lay}{st st' :St}{a:Act}{w:World}(h:Inv w0 Z0 N Z L st a w)(hw:Wk st st'):Inv w0 Z0 N Z L st' a w:=by
 obtain⟨hs,hb,ha,hm⟩:=hw
 refine⟨h.zt,h.z0,h.zn,h.zb,h.below,fun i v hl=> ?_,fun i v hl=> ?_,fun i j x y hx hy=> ?_,fun i j x y hx hy=> ?_,fun i j x y hx hy=> ?_,fun i v hl=> ?_,fun i v hl=> ?_,by rw[hm];exact h.ownm,by rw[hm];exact h.injm,by rw[hm];exact h.maps,h.oth,h.yb,h.size,h.defers,fun i v hl=> ?_⟩
 ·obtain⟨c,h1,_⟩:=hb.lk i v hl;exact h.ownb i c h1
 ·obtain⟨c,h1,_⟩:=ha.lk i v hl;exact h.owna i c h1
 ·obtain⟨c,h1,_⟩:=hb.lk i x hx;obtain⟨d,h2,_⟩:=hb.lk j y hy;exact h.injb i j c d h1 h2
 ·obtain⟨c,h1,_⟩:=ha.lk i x hx;obtain⟨d,h2,_⟩:=ha.lk j y hy;exact h.inja i j c d h1 h2
 ·obtain⟨c,h1,_⟩:=hb.lk i x hx;obtain⟨d,h2,_⟩:=ha.lk j y hy;exact h.injx i j c d h1 h2
 ·obtain⟨c,h1,h2⟩:=hb.lk i v hl
  obtain⟨vs,T,h3,h4,h5⟩:=h.boxes i c h1
  refine⟨vs,T,h3,by rw[<- h2.len];exact h4,fun j d hj=> ?_⟩
  obtain⟨x,hx⟩:=qct h2.len hj
  exact(h2.at j x d hx hj).cm h.zt (h5 j x hx)
 ·obtain⟨c,h1,⟨h2,h3⟩,h4⟩:=ha.lk i v hl
  obtain⟨cur,hX⟩:=h.arrs i c h1
  refine⟨cur,by rw[h2];exact hX.pos,by rw[h2];exact hX.ae,by rw[<- h4.len];exact hX.al,by rw[h3];exact hX.blk,by rw[h2];exact hX.size,by rw[<- h4.len];exact hX.fits,hX.max,fun y hy=> ?_,fun p q y d hp hq=> ?_⟩
  ·obtain⟨j,hj,rfl⟩:=List.getElem_of_mem hy
   have hyj:v.xs[j]? =some v.xs[j]:=zL hj
   obtain⟨x,hx⟩:=qct h4.len hyj
   rw[h2,<- (h4.at j x _ hx hyj).len]
   exact hX.rows x (zP hx)
  ·obtain⟨x,hx⟩:=qct h4.len hp
   obtain⟨e,he⟩:=qct (h4.at p x y hx hp).len hq
   rw[h2]
   exact⟨((h4.at p x y hx hp).at q e d he hq).tr h.zt (hX.cell p q x e hx he).1,(hX.cell p q x e hx he).2⟩
 ·obtain⟨c,h1,h2⟩:=hs.lk i v hl
  exact h2.vr h.zt (h.slots i c h1)
def SWk(st st' :St):Prop:= ∀(w0:World) (Z0:Zone) (N:Fr) (a:Act) (w:World),Sim w0 Z0 N st a w->Sim w0 Z0 N st' a w
theorem Wk.s{st st' :St}(h:Wk st st'):SWk st st' :=fun _ _ _ _ _ ⟨Z,L,hI⟩=>⟨Z,L,hI.wk h⟩
theorem SWk.trans{a b c:St}(h:SWk a b)(h2:SWk b c):SWk a c:=fun w0 Z0 N x w hs=>h2 w0 Z0 N x w (h w0 Z0 N x w hs)
end Go.Vc
