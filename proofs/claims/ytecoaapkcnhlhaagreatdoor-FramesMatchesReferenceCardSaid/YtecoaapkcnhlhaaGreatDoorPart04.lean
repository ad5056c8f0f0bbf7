/- VcT VcU VcV: lemmas -/
import Derived.Test.YtecoaapkcnhlhaaGreatDoorPart03
set_option linter.unusedSimpArgs false
set_option linter.unusedVariables false
open Option renaming map_eq_some_iff->zR
open Bool renaming and_eq_true->zN,false_ne_true->zQ
open List renaming getD_eq_getElem?_getD->zK,getElem?_eq_some_iff->zM,mem_cons_of_mem->zT,mem_cons_self->zX,getElem?_append_left->yA,getElem?_append_right->yB,mem_append->yC,all_eq_true->yE
namespace Go.Vc
open Go Go.RowKit
def gst(st:St):Option (Nat×Bool)->Option Bool
 |none=>some true
 |some (s,w)=>match st.get s with| .sc (.bool b)=>some (b==w)| .tup []=>some false|_=>none
def putE(d:Option Nat)(v:PV):Eff:=⟨nul,nul,d.map (fun i=>(i,v)),none,none⟩
def Can(P:Env)(x:DO)(st:St)(S:Eff->Prop):Prop:=
 match gst st x.o.g with
 |none=>False
 |some false=>S=fun e=>e=putE x.o.d (.tup [])
 | some true => match x.o.op with
   | .cal f args=> ∃post,FnOK P.p f (args.map fun y=>(y.ev st).rsA st) post/\S=fun e=> ∃r,post r/\e=putE x.o.d r
   | .clv y args=> ∃f u v post,y.ev st= .sc (.func (.func f) u v)/\qcG P.p f=true/\FnOK P.p f (args.map fun y=>(y.ev st).rsA st) post/\S=fun e=> ∃r,post r/\e=putE x.o.d r
   |op=>(qd8 op=false/\qcK st x.t x.u op)/\(sem st x.o.d op).1/\S=fun e=>e=(sem st x.o.d op).2
structure Good (x:DO) (st:St) (e:Eff):Prop where
 d: ∀p,e.p=some p->x.o.d=some p.1
 kb: ∀i,e.kb i=true->inL x.t i=true
 ka: ∀i,e.ka i=true->inL x.t i=true
 bx: ∀p,e.bx=some p->inL x.t p.1=true
 ar: ∀p,e.ar=some p->inL x.t p.1=true
 nos: ∀s,srcS x.o.op≠some s->(st.get s).toV (inL x.t) (inL x.t)=false
 nob: ∀i cs,lk st.b i=some cs->cs.any (PV.to (inL x.t) (inL x.t))=false
 v: ∀p,e.p=some p->p.2.toV (inL x.u) (inL x.u)=false
 bv: ∀p,e.bx=some p->p.2.any (PV.to (inL x.u) (inL x.u))=false
 od: ∀i,x.o.d=some i->(st.get i).toV (inL x.u) (inL x.u)=false
 ob: ∀i cs,inL x.t i=true->lk st.b i=some cs->cs.any (PV.to (inL x.u) (inL x.u))=false
structure Apart (x y:DO):Prop where
 rd: ∀s∈rdS y.o,x.o.d≠some s/\srcS x.o.op≠some s
 dd: ∀s,y.o.d=some s->x.o.d≠some s/\srcS x.o.op≠some s
 tu: ∀i,inL y.t i=true->inL x.u i=true
 tt: ∀i,inL y.t i=true->inL x.t i=false
theorem qeN{x y:DO}(h:qda x y=true):Apart x y:=by
 simp only[qda,zN,yE]at h
 obtain⟨⟨h1,h2⟩,h3⟩:=h
 refine⟨fun s hs=>⟨fun e=> ?_,fun e=> ?_⟩,fun s hs=>⟨fun e=> ?_,fun e=> ?_⟩,fun i hi=> ?_,fun i hi=> ?_⟩
 ·rw[e]at h1;simp at h1;exact h1.1 hs
 ·rw[e]at h2;simp at h2;exact h2.1 hs
 ·rw[e,hs]at h1;simp at h1
 ·rw[e,hs]at h2;simp at h2
 ·exact(h3 i (by simpa[inL]using hi)).1
 ·exact(Bool.not_eq_true' _).mp (h3 i (by simpa[inL]using hi)).2
section
variable {P:Env} {x y:DO} {st:St} {e f:Eff} {S:Eff->Prop}
theorem qeO(h:Good x st e):FrS (inL x.t) (inL x.t) st (e.run st):=by
 refine⟨⟨fun i hi=> ?_,fun i hi=> ?_⟩,h.nob⟩
 ·rw[qev]
  ·cases hl:lk st.b i with
   |none=>rfl
   |some cs=>simp[qdT (qdP h.kb h.ka (h.nob i cs hl))]
  ·intro p hp he
   have:=h.bx p hp
   rw[he,hi]at this;cases this
 ·rw[qew]
  intro p hp he
  have:=h.ar p hp
  rw[he,hi]at this;cases this
theorem qeP(h:Good x st e){s:Nat}(hd:x.o.d≠some s)(hs:srcS x.o.op≠some s):(e.run st).get s=st.get s:=by
 rw[qes]
 ·exact qdV (qdR h.kb h.ka (h.nos s hs))
 ·intro p hp he
  exact hd (by rw[h.d p hp,he])
theorem qeQ(h:Good x st e){o:Opd}(hd: ∀s∈opdS o,x.o.d≠some s/\srcS x.o.op≠some s)(hp:opdP o=true):FrO (inL x.t) (inL x.t) st (e.run st) o:=by
 cases o with
 |t n=>
   obtain⟨h1,h2⟩:=hd n (by simp[opdS])
   exact⟨qeP h h1 h2,h.nos n h2⟩
 |c p=>
   refine⟨rfl,?_⟩
   simp only[opdP,Bool.not_eq_true']at hp
   exact qdR (fun _ _=>rfl) (fun _ _=>rfl) hp
theorem qeR(st st' :St)(t u:List Nat)(op:AOp)(h: ∀o∈opds op,o.ev st' =o.ev st):qcK st' t u op ↔ qcK st t u op:=by
 cases op<;>simp only[qcK]
 case bsl es ty zero n parts=>
  constructor<;>intro hh p hp<;>have:=hh p hp
  ·rw[h p.2 (by simp only[opds];exact List.mem_map_of_mem hp)]at this;exact this
  ·rw[h p.2 (by simp only[opds];exact List.mem_map_of_mem hp)];exact this
 case sto sz x v=>rw[h v (by simp[opds]),h x (by simp[opds])]
 case ld agg sz x=>rw[h x (by simp[opds])]
 case ixs es x i=>rw[h x (by simp[opds])]
 case slc es x lo hi=>rw[h x (by simp[opds])]
 case app es ty by_ s x=>rw[h s (by simp[opds])]
theorem qeS{st st' :St}(o:AO)(h: ∀s∈rdS o,st'.get s=st.get s):gst st' o.g=gst st o.g:=by
 cases hg:o.g with
 |none=>rfl
 |some p=>simp only[gst];rw[h p.1 (by simp[rdS,hg])]
theorem qeT{st st' :St}{pb pa:Nat->Bool}(hf:FrS pb pa st st')(hg:gst st' y.o.g=gst st y.o.g)(hcp:qd8 y.o.op=false)(ho: ∀o∈opds y.o.op,FrO pb pa st st' o):Can P y st' S ↔ Can P y st S:=by
 unfold Can
 rw[hg]
 cases gst st y.o.g with
 |none=>exact Iff.rfl
 |some b=>
   cases b with
   |false=>exact Iff.rfl
   |true=>
     simp only
     split
     ·rename_i f args hop
      have:(args.map fun z=>(z.ev st').rsA st')=args.map fun z=>(z.ev st).rsA st:=by
       refine List.map_congr_left fun z hz=> ?_
       have h:=ho z (by rw[hop];exact hz)
       rw[h.1,qeM hf h.2]
      rw[this]
     ·rename_i z args hop
      have:(args.map fun z=>(z.ev st').rsA st')=args.map fun z=>(z.ev st).rsA st:=by
       refine List.map_congr_left fun z hz=> ?_
       have h:=ho z (by rw[hop];exact zT _ hz)
       rw[h.1,qeM hf h.2]
      rw[this,(ho z (by rw[hop];exact zX)).1]
     ·rw[qeR st st' y.t y.u y.o.op (fun o h=>(ho o h).1),qeI hf.toFrW _ _ hcp ho]
theorem qeU{o:Opd}(h:o∈opds y.o.op){s:Nat}(hs:s∈opdS o):s∈rdS y.o:=by
 simp only[rdS,yC,List.mem_flatMap]
 exact .inr ⟨o,h,hs⟩
theorem qeV(h:Good x st e)(ha:Apart x y)(hcp:qd8 y.o.op=false)(hp:(opds y.o.op).all opdP=true):Can P y (e.run st) S ↔ Can P y st S:=
 qeT (qeO h) (qeS _ fun s hs=>qeP h (ha.rd s hs).1 (ha.rd s hs).2) hcp fun o ho=>qeQ h (fun s hs=>ha.rd s (qeU ho hs)) (yE.1 hp o ho)
theorem qeW(hc:qd3 x.o.op=false)(h:Can P x st S): ∃e,S=fun f=>f=e:=by
 unfold Can at h
 split at h
 ·exact h.elim
 ·exact⟨_,h⟩
 ·split at h
  ·rename_i hop;rw[hop]at hc;cases hc
  ·rename_i hop;rw[hop]at hc;cases hc
  ·exact⟨_,h.2.2⟩
theorem qeX(ha:Apart x y)(h:Good x st e):(∀i,e.kb i=true->inL y.t i=false)/\ ∀i,e.ka i=true->inL y.t i=false:=by
 constructor<;>intro i hi<;>cases hy:inL y.t i<;>first|rfl|skip
 ·have h1:=ha.tt i hy;rw[h.kb i hi]at h1;cases h1
 ·have h1:=ha.tt i hy;rw[h.ka i hi]at h1;cases h1
theorem qeY(ha:Apart x y)(hb:Apart y x)(h:Good x st e)(hy:Good y (e.run st) f):Good y st f:=by
 obtain⟨hkb,hka⟩:=qeX ha h
 refine⟨hy.d,hy.kb,hy.ka,hy.bx,hy.ar,fun s hs=> ?_,fun i cs hi=> ?_,hy.v,hy.bv,fun i hi=> ?_,fun i cs ht hi=> ?_⟩
 ·by_cases hd:x.o.d=some s
  ·exact qdR ha.tu ha.tu (h.od s hd)
  ·have h1:=hy.nos s hs
   rw[qes]at h1
   ·exact qef hkb hka h1
   ·intro p hp he;exact hd (by rw[h.d p hp,he])
 ·cases ht:inL x.t i
  ·have h1 := hy.nob i (cs.map (PV.kill e.kb e.ka)) (by
    rw[qev,hi]; · rfl
    ·intro p hp he;have:=h.bx p hp;rw[he,ht]at this;cases this)
   exact qe1 hkb hka h1
  ·exact qdP ha.tu ha.tu (h.ob i cs ht hi)
 ·obtain⟨h1,h2⟩:=ha.dd i hi
  have h3:=hy.od i hi
  rw[qeP h h1 h2]at h3
  exact h3
 ·have h1:lk (e.run st).b i=some cs:=by rw[(qeO h).b i (ha.tt i ht)];exact hi
  exact hy.ob i cs ht h1
theorem qeZ(ha:Apart x y)(hb:Apart y x)(h:Good x st e)(hy:Good y st f):Good x (f.run st) e:=by
 refine⟨h.d,h.kb,h.ka,h.bx,h.ar,fun s hs=> ?_,fun i cs hi=> ?_,h.v,h.bv,fun i hi=> ?_,fun i cs ht hi=> ?_⟩
 ·by_cases hd: ∃p,f.p=some p/\p.1=s
  ·obtain⟨p,h1,rfl⟩:=hd
   rw[qet f st h1]
   exact qdR hb.tu hb.tu (hy.v p h1)
  ·rw[qes]
   ·exact qdZ (h.nos s hs)
   ·intro p hp he;exact hd ⟨p,hp,he⟩
 ·by_cases hd: ∃p,f.bx=some p/\p.1=i
  ·obtain⟨p,h1,rfl⟩:=hd
   rw[qeu f st h1]at hi
   cases hi
   exact qdP hb.tu hb.tu (hy.bv p h1)
  ·rw[qev]at hi
   ·obtain⟨c0,h1,rfl⟩:=zR.1 hi
    exact qdX (h.nob i c0 h1)
   ·intro p hp he;exact hd ⟨p,hp,he⟩
 ·obtain⟨h1,h2⟩:=hb.dd i hi
  rw[qeP hy h1 h2]
  exact h.od i hi
 ·rw[(qeO hy).b i (hb.tt i ht)]at hi
  exact h.ob i cs ht hi
theorem qf0(ha:Apart x y)(hb:Apart y x)(h:Good x st e)(hy:Good y st f):e.run (f.run st)=f.run (e.run st):=by
 refine qeq e f st (fun p q hp hq he=> ?_) (fun p hp=> ?_) (fun p hp=> ?_) (fun p q hp hq he=> ?_) (fun p hp=> ?_) (fun p hp=> ?_) (fun p q hp hq he=> ?_)
 ·exact(ha.dd q.1 (hy.d q hq)).1 (by rw[h.d p hp,he])
 ·exact qdR (fun i hi=>ha.tu i (hy.kb i hi)) (fun i hi=>ha.tu i (hy.ka i hi)) (h.v p hp)
 ·exact qdR (fun i hi=>hb.tu i (h.kb i hi)) (fun i hi=>hb.tu i (h.ka i hi)) (hy.v p hp)
 ·have h1:=h.bx p hp
  rw[he,ha.tt q.1 (hy.bx q hq)]at h1;cases h1
 ·exact qdP (fun i hi=>ha.tu i (hy.kb i hi)) (fun i hi=>ha.tu i (hy.ka i hi)) (h.bv p hp)
 ·exact qdP (fun i hi=>hb.tu i (h.kb i hi)) (fun i hi=>hb.tu i (h.ka i hi)) (hy.bv p hp)
 ·have h1:=h.ar p hp
  rw[he,ha.tt q.1 (hy.ar q hq)]at h1;cases h1
end
def canG(P:Env)(x:DO)(st:St)(K:St->Prop):Prop:= ∃S,Can P x st S/\(∃e,S e)/\ ∀e,S e->(qd4 x.o.op=false->Good x st e)/\K (e.run st)
section
variable {P:Env} {x y:DO} {st:St} {K K' :St->Prop}
theorem qf1(hk: ∀st,K st->K' st)(h:canG P x st K):canG P x st K' :=by
 obtain⟨S,h1,h2,h3⟩:=h
 exact⟨S,h1,h2,fun e he=>⟨(h3 e he).1,hk _ (h3 e he).2⟩⟩
theorem qf2(hx:qdb x=true)(hy:qdb y=true)(ha:Apart x y)(hb:Apart y x)(hc:qd3 x.o.op=false\/qd3 y.o.op=false)(h:canG P x st (fun st' =>canG P y st' K)):canG P y st (fun st' =>canG P x st' K):=by
 simp only[qdb,zN,Bool.not_eq_true']at hx hy
 obtain⟨⟨⟨⟨_,hxs⟩,hxc⟩,hxp⟩,_⟩:=hx
 obtain⟨⟨⟨⟨_,hys⟩,hyc⟩,hyp⟩,_⟩:=hy
 obtain⟨Sx,h1,⟨e0,h2⟩,h3⟩:=h
 obtain⟨g0,Sy,k1,⟨f0,k2⟩,k3⟩:=h3 e0 h2
 have g0:=g0 hxs
 have k1' :=(qeV g0 ha hyc hyp).1 k1
 refine⟨Sy,k1',⟨f0,k2⟩,fun f hf=> ?_⟩
 have gf:=qeY ha hb g0 ((k3 f hf).1 hys)
 refine⟨fun _=>gf,Sx,(qeV gf hb hxc hxp).2 h1,⟨e0,h2⟩,fun e he=> ?_⟩
 have ge:=(h3 e he).1 hxs
 refine⟨fun _=>qeZ ha hb ge gf,?_⟩
 rw[qf0 ha hb ge gf]
 rcases hc with hc|hc
 ·obtain⟨e1,rfl⟩:=qeW hc h1
  have h2:e0=e1:=h2
  have he:e=e1:=he
  rw[he,<- h2]
  exact(k3 f hf).2
 ·obtain⟨_,Sy',m1,⟨f1,m2⟩,m3⟩:=h3 e he
  obtain⟨a1,rfl⟩:=qeW hc k1
  obtain⟨a2,rfl⟩:=qeW hc m1
  have m1' :=(qeV ge ha hyc hyp).1 m1
  have:(fun z=>z=a1)=fun z:Eff=>z=a2:=by
   unfold Can at k1' m1'
   cases hg:gst st y.o.g with
   |none=>rw[hg]at k1';exact k1'.elim
   |some b=>
     rw[hg]at k1' m1'
     cases b with
     |false=>exact k1'.trans m1'.symm
     |true=>
       simp only at k1' m1'
       split at k1'
       ·rename_i hop;rw[hop]at hc;cases hc
       ·rename_i hop;rw[hop]at hc;cases hc
       ·split at m1'
        ·rename_i hop;rw[hop]at hc;cases hc
        ·rename_i hop;rw[hop]at hc;cases hc
        ·exact k1'.2.2.trans m1'.2.2.symm
  have h5:f=a2:=by
   have:=congrFun this f
   exact this.mp hf
  exact(m3 f h5).2
end
end Go.Vc
namespace Go.Vc
open Go Go.RowKit
section
variable {P:Env} {x y:DO} {st st' :St} {e f:Eff} {S:Eff->Prop} {K K' :St->Prop}
theorem qf3(op:AOp)(hf:qd9 op=true)(d:Option Nat)(h: ∀x∈opds op,x.ev st' =x.ev st):sem st' d op=sem st d op:=by
 have h2:=qeF op hf h
 cases op<;>simp only[qd9]at hf<;>first|(exact absurd hf zQ)|skip
 all_goals simp only[sem,h2]
theorem qf4(op:AOp)(hf:qd9 op=true)(d:Option Nat):sem st d op=((aev st op).1,putE d (aev st op).2):=by
 cases op<;>simp only[qd9]at hf<;>first|(exact absurd hf zQ)|rfl
theorem qf5{op:AOp}(hf:qd9 op=true):qd3 op=false/\qd4 op=false:=by
 cases op<;>simp only[qd9]at hf<;>first|(exact absurd hf zQ)|exact⟨rfl,rfl⟩
theorem qf6{op:AOp}(hf:qd5 op=true):qd3 op=false:=by
 cases op<;>simp only[qd5]at hf<;>first|(exact absurd hf zQ)|rfl
theorem qf7{op:AOp}(h:qd5 op=true):qd4 op=true:=by cases op<;>first|rfl|cases h
theorem qf8{op:AOp}(h:qd6 op=true):qd4 op=true:=by cases op<;>first|rfl|cases h
theorem qf9{op:AOp}(h:qd6 op=true):qd3 op=false:=by cases op<;>first|rfl|cases h
theorem qfa(hs:qd5 x.o.op=true)(hd:x.o.d=none)(hc:Can P x st S)(he:S e):e.kb=nul/\e.ka=nul/\e.p=none:=by
 unfold Can at hc
 split at hc
 ·exact hc.elim
 ·subst hc
  have he:e=putE x.o.d (.tup []):=he
  subst he
  rw[hd]
  exact⟨rfl,rfl,rfl⟩
 ·split at hc
  ·rename_i hop;rw[hop]at hs;cases hs
  ·rename_i hop;rw[hop]at hs;cases hs
  ·obtain⟨_,h1,rfl⟩:=hc
   have he:e=(sem st x.o.d x.o.op).2:=he
   subst he
   revert h1 hs
   rw[hd]
   cases x.o.op<;>intro hs h1<;>simp only[qd5]at hs<;>first|(exact absurd hs zQ)|skip
   simp only[sem]
   split
   ·split<;>exact⟨rfl,rfl,rfl⟩
   ·split<;>exact⟨rfl,rfl,rfl⟩
   ·exact⟨rfl,rfl,rfl⟩
theorem qfb(hs:qd9 y.o.op=true)(hc:Can P y st S)(he:S e): ∃v,e=putE y.o.d v:=by
 unfold Can at hc
 split at hc
 ·exact hc.elim
 ·subst hc;exact⟨_,he⟩
 ·split at hc
  ·rename_i hop;rw[hop]at hs;cases hs
  ·rename_i hop;rw[hop]at hs;cases hs
  ·obtain⟨_,h1,rfl⟩:=hc
   have he:e=(sem st y.o.d y.o.op).2:=he
   rw[qf4 _ hs]at he
   exact⟨_,he⟩
theorem qfc(h1:e.kb=nul)(h2:e.ka=nul)(h3:e.p=none):(e.run st).s=st.s:=by
 unfold Eff.run
 simp only[h1,h2,h3,qeh,upP]
theorem qfd{st st' :St}(h:st'.s=st.s)(i:Nat):st'.get i=st.get i:=by unfold St.get;rw[h]
theorem qfe{st st' :St}(h:st'.s=st.s)(o:Opd):o.ev st' =o.ev st:=by
 cases o with
 |t n=>exact qfd h n
 |c p=>rfl
theorem qff(hf:qd9 y.o.op=true)(h:st'.s=st.s):Can P y st' S ↔ Can P y st S:=by
 have hg:gst st' y.o.g=gst st y.o.g:=qeS _ fun s _=>qfd h s
 unfold Can
 rw[hg]
 cases gst st y.o.g with
 |none=>exact Iff.rfl
 |some b=>
   cases b with
   |false=>exact Iff.rfl
   |true=>
     simp only
     split
     ·rename_i hop;rw[hop]at hf;cases hf
     ·rename_i hop;rw[hop]at hf;cases hf
     ·rw[qeR st st' y.t y.u y.o.op (fun o _=>qfe h o),qf3 _ hf _ (fun o _=>qfe h o)]
theorem qfg(i:Nat):inL [] i=false:=rfl
theorem qfh(v:PV):v.toV (inL []) (inL [])=false:=qdR (pb:=inL []) (pa:=inL []) (qb:=nul) (qa:=nul) (fun i h=>by rw[qfg]at h;cases h) (fun i h=>by rw[qfg]at h;cases h) (PV.toV_nul v)
theorem qfi(cs:List PV):cs.any (PV.to (inL []) (inL []))=false:=qdP (pb:=inL []) (pa:=inL []) (qb:=nul) (qa:=nul) (fun i h=>by rw[qfg]at h;cases h) (fun i h=>by rw[qfg]at h;cases h) (by simp[PV.to_nul])
theorem qfj(ht:y.t=[])(h:st'.s=st.s)(hg:Good y st f):Good y st' f:=by
 refine⟨hg.d,hg.kb,hg.ka,hg.bx,hg.ar,fun s _=>by rw[ht];exact qfh _,fun i cs _=>by rw[ht];exact qfi _,hg.v,hg.bv,fun i hi=>by rw[qfd h];exact hg.od i hi,fun i cs hi _=> ?_⟩
 rw[ht]at hi;cases hi
theorem qfk(hs:qd5 x.o.op=true){d:Option Nat}(hd: ∀i,d=some i->i∉rdS x.o)(v:PV):Can P x ((putE d v).run st) S ↔ Can P x st S:=by
 have hr:(putE d v).run st=st.put d v:=qez st d v
 have hget: ∀s∈rdS x.o,(st.put d v).get s=st.get s:=fun s h=>by
  cases d with
  |none=>rfl
  |some i=>
    unfold St.get St.put
    simp only[qa2]
    rw[if_neg (fun(e:i=s)=>hd i rfl (by rw[e];exact h))]
 rw[hr]
 refine qeT (pb:=nul) (pa:=nul) ⟨⟨fun i _=> ?_,fun i _=> ?_⟩,fun i cs _=>by simp[PV.to_nul]⟩ (qeS _ hget) (by cases ho:x.o.op<;>rw[ho]at hs<;>first|(cases hs;done)|rfl) fun o ho=>⟨?_,PV.toV_nul _⟩
 ·cases d<;>rfl
 ·cases d<;>rfl
 ·cases o with
  |t n=>exact hget n (qeU ho (by simp[opdS]))
  |c p=>rfl
def RdS(x y:DO):Prop:=qd9 y.o.op=true\/(isRd y.o.op=true/\x.u≠[]/\ ∀i,inL x.u i=true->inL y.u i=true)
theorem qfl(h:qdd x y=true):x.str=true/\y.str=true/\qd5 x.o.op=true/\x.o.d=none/\RdS x y/\y.t=[]/\ ∀d,y.o.d=some d->d∉rdS x.o:=by
 simp only[qdd,zN,List.isEmpty_iff]at h
 obtain⟨⟨⟨⟨⟨⟨h1,h2⟩,h3⟩,h4⟩,h5⟩,h6⟩,h7⟩:=h
 have h5:RdS x y:=by
  simp only[Bool.or_eq_true,zN,qdc,Bool.not_eq_true',List.isEmpty_eq_false_iff,yE]at h5
  rcases h5 with h5|⟨h5,h8,h9⟩
  ·exact .inl h5
  ·exact .inr ⟨h5,h8,fun i hi=>h9 i (by simpa[inL]using hi)⟩
 refine⟨h1,h2,h3,by cases hd:x.o.d<;>simp_all,h5,h6,fun d hd hm=> ?_⟩
 rw[hd]at h7
 simp at h7
 exact h7 hm
theorem qfm{op:AOp}(hf:isRd op=true):qd3 op=false:=by
 cases op<;>simp only[isRd]at hf<;>first|(exact absurd hf zQ)|rfl
theorem RdS.nocal(h:RdS x y):qd3 y.o.op=false:=h.elim (fun h=>(qf5 h).1) fun h=>qfm h.1
theorem qfn(hs:RdS x y)(hc:Can P y st S)(he:S e): ∃v,e=putE y.o.d v:=by
 rcases hs with hs|⟨hs,_,_⟩
 ·exact qfb hs hc he
 unfold Can at hc
 split at hc
 ·exact hc.elim
 ·subst hc;exact⟨_,he⟩
 ·split at hc
  ·rename_i hop;rw[hop]at hs;cases hs
  ·rename_i hop;rw[hop]at hs;cases hs
  ·obtain⟨_,h1,rfl⟩:=hc
   have he:e=(sem st y.o.d y.o.op).2:=he
   rw[show sem st y.o.d y.o.op=((aev st y.o.op).1,putE y.o.d (aev st y.o.op).2)from by
    revert hs;cases y.o.op<;>intro hs<;>first|(cases hs;done)|rfl]at he
   exact⟨_,he⟩
theorem qfo{pb pa:Nat->Bool}(hf:FrW pb pa st st')(hsl:st'.s=st.s){t u:List Nat}(op:AOp)(hr:isRd op=true)(hs:qcK st t u op)(hu: ∀v,refU u v=false->v.toV pb pa=false):aev st' op=aev st op:=by
 cases op<;>simp only[isRd]at hr<;>first|(exact absurd hr zQ)|skip
 case ld agg sz x=>
  have h2:=hu _ hs
  simp only[aev,qfe hsl]
  cases hv:x.ev st with
  |ptr id off=>rw[hv]at h2;simp only[hf.b id h2]
  |eptr id i off=>rw[hv]at h2;simp only[hf.a id h2]
  |_=>rfl
 case ixs es x i=>
  have h2:=hu _ hs
  simp only[aev,qfe hsl]
  generalize i.ev st=j
  revert h2
  generalize x.ev st=u
  intro h2
  cases u with
  |view id lo n=>
    cases j with
    |sc v=>cases v<;>first|rfl|simp only[hf.a id h2]
    |_=>rfl
  |_=>
    cases j with
    |sc v=>cases v<;>rfl
    |_=>rfl
 case slc es x lo hi=>
  have h2:=hu _ hs
  have hb:=fun n=>qeE (st:=st) (st' :=st') n lo hi fun y _=>qfe hsl y
  simp only[aev,qfe hsl,hb]
  cases hv:x.ev st with
  |view id l n=>rw[hv]at h2;simp only[hf.a id h2]
  |_=>rfl
theorem qfp{pb pa:Nat->Bool}(hf:FrW pb pa st st')(hsl:st'.s=st.s)(hr:isRd y.o.op=true)(hu: ∀v,refU y.u v=false->v.toV pb pa=false):Can P y st' S ↔ Can P y st S:=by
 have hg:gst st' y.o.g=gst st y.o.g:=qeS _ fun s _=>qfd hsl s
 unfold Can
 rw[hg]
 cases gst st y.o.g with
 |none=>exact Iff.rfl
 |some b=>
   cases b with
   |false=>exact Iff.rfl
   |true=>
     simp only
     split
     ·rename_i hop;rw[hop]at hr;cases hr
     ·rename_i hop;rw[hop]at hr;cases hr
     ·rw[qeR st st' y.t y.u y.o.op (fun o _=>qfe hsl o)]
      have key:qcK st y.t y.u y.o.op->sem st' y.o.d y.o.op=sem st y.o.d y.o.op:=fun hs=>by
       have h2:=qfo hf hsl y.o.op hr hs hu
       revert h2 hr
       cases y.o.op<;>intro hr h2<;>first|(cases hr;done)|simp only[sem,h2]
      constructor
      ·rintro⟨h1,h2,h3⟩;rw[key h1.2]at h2 h3;exact⟨h1,h2,h3⟩
      ·rintro⟨h1,h2,h3⟩;rw[<- key h1.2]at h2 h3;exact⟨h1,h2,h3⟩
theorem qfq(hs:qd5 x.o.op=true)(hd:x.o.d=none)(hu:x.u≠[])(hc:Can P x st S)(he:S e):FrW (inL x.u) (inL x.u) st (e.run st):=by
 have base: ∀ {f:Eff},f.kb=nul->f.ka=nul->(∀p,f.bx=some p->inL x.u p.1=true)->(∀p,f.ar=some p->inL x.u p.1=true)->FrW (inL x.u) (inL x.u) st (f.run st):=fun {f} k1 k2 k3 k4=>by
  refine⟨fun i hi=> ?_,fun i hi=> ?_⟩
  ·unfold Eff.run
   simp only[k1,k2,qeh]
   exact qer _ _ _ fun p hp e=>by rw[<- e,k3 p hp]at hi;cases hi
  ·unfold Eff.run
   simp only[k1,k2,qeh]
   exact qer _ _ _ fun p hp e=>by rw[<- e,k4 p hp]at hi;cases hi
 unfold Can at hc
 split at hc
 ·exact hc.elim
 ·subst hc
  have he:e=putE x.o.d (.tup []):=he
  subst he
  exact base rfl rfl (fun p h=>by cases h) (fun p h=>by cases h)
 ·split at hc
  ·rename_i hop;rw[hop]at hs;cases hs
  ·rename_i hop;rw[hop]at hs;cases hs
  ·obtain⟨h0,h1,rfl⟩:=hc
   have he:e=(sem st x.o.d x.o.op).2:=he
   subst he
   have h0:=h0.2
   revert h0 h1 hs
   rw[hd]
   cases x.o.op<;>intro hs h1 h0<;>simp only[qd5]at hs<;>first|(exact absurd hs zQ)|skip
   rename_i sz a v
   replace h0:stoT x.u (a.ev st)=true:=h0.2
   generalize x.u=xu at hu h0 base ⊢
   cases xu with
   |nil=>exact absurd rfl hu
   |cons q r=>
     revert h1
     simp only[sem]
     split
     ·rename_i id off hx
      rw[hx]at h0
      split
      ·intro _;exact base rfl rfl (fun p h=>by cases h;exact h0) (fun p h=>by cases h)
      ·intro h;exact h.elim
     ·rename_i id i off hx
      rw[hx]at h0
      split
      ·intro _;exact base rfl rfl (fun p h=>by cases h) (fun p h=>by cases h;exact h0)
      ·intro h;exact h.elim
     ·intro h;exact h.elim
theorem qfr(hs:qd5 x.o.op=true)(hd:x.o.d=none)(hr:RdS x y){Sx:Eff->Prop}(hc:Can P x st Sx)(he:Sx e)(hsl:(e.run st).s=st.s):Can P y (e.run st) S ↔ Can P y st S:=by
 rcases hr with hr|⟨hr,hu,hl⟩
 ·exact qff hr hsl
 ·refine qfp (qfq hs hd hu hc he) hsl hr fun v hv=> ?_
  have:v.toV (inL y.u) (inL y.u)=false:=by
   revert hv hl
   cases y.u with
   |nil=>
     intro hl _
     obtain⟨i,r,hxu⟩:=List.exists_cons_of_ne_nil hu
     have:=hl i (by rw[hxu];simp[inL])
     cases this
   |cons q r=>intro _ hv;exact hv
  exact qdR hl hl this
theorem qfs(h1:e.kb=nul)(h2:e.ka=nul)(h3:e.p=none)(d:Option Nat)(v:PV):e.run ((putE d v).run st)=(putE d v).run (e.run st):=by
 refine qeq e (putE d v) st (fun x _ hx=> ?_) (fun x hx=> ?_) (fun x _=> ?_) (fun _ _ _ h=> ?_) (fun x _=> ?_) (fun _ h=> ?_) (fun _ _ _ h=> ?_)
 ·rw[h3]at hx;cases hx
 ·rw[h3]at hx;cases hx
 ·rw[h1,h2];exact PV.toV_nul _
 ·cases h
 ·simp[putE,PV.to_nul]
 ·cases h
 ·cases h
theorem qft(h:qdd x y=true)(hk:canG P x st (fun st' =>canG P y st' K)):canG P y st (fun st' =>canG P x st' K):=by
 obtain⟨_,_,hs,hd,hf,ht,hr⟩:=qfl h
 obtain⟨Sx,h1,⟨e0,h2⟩,h3⟩:=hk
 obtain⟨e1,rfl⟩:=qeW (qf6 hs) h1
 have h2:e0=e1:=h2
 subst h2
 obtain⟨q1,q2,q3⟩:=qfa hs hd h1 rfl
 have hsl:=qfc (st:=st) q1 q2 q3
 obtain⟨_,Sy,k1,⟨f0,k2⟩,k3⟩:=h3 e0 rfl
 refine⟨Sy,(qfr hs hd hf h1 rfl hsl).1 k1,⟨f0,k2⟩,fun f hf' =>⟨fun hh=>qfj ht hsl.symm ((k3 f hf').1 hh),?_⟩⟩
 obtain⟨v,rfl⟩:=qfn hf k1 hf'
 refine⟨_,(qfk hs hr v).2 h1,⟨e0,rfl⟩,fun e he=>⟨fun hh=>(by rw[qf7 hs]at hh;cases hh),?_⟩⟩
 have he:e=e0:=he
 subst he
 rw[qfs q1 q2 q3]
 exact(k3 _ hf').2
theorem qfu(h:qdd x y=true)(hk:canG P y st (fun st' =>canG P x st' K)):canG P x st (fun st' =>canG P y st' K):=by
 obtain⟨_,_,hs,hd,hf,ht,hr⟩:=qfl h
 obtain⟨Sy,k1,⟨f0,k2⟩,k3⟩:=hk
 obtain⟨f1,rfl⟩:=qeW hf.nocal k1
 have k2:f0=f1:=k2
 subst k2
 obtain⟨g0,Sx,h1,⟨e0,h2⟩,h3⟩:=k3 f0 rfl
 obtain⟨v,rfl⟩:=qfn hf k1 rfl
 have h1' :=(qfk hs hr v).1 h1
 obtain⟨e1,rfl⟩:=qeW (qf6 hs) h1
 have h2:e0=e1:=h2
 subst h2
 obtain⟨q1,q2,q3⟩:=qfa hs hd h1' rfl
 have hsl:=qfc (st:=st) q1 q2 q3
 refine⟨_,h1',⟨e0,rfl⟩,fun e he=>⟨fun hh=>(by rw[qf7 hs]at hh;cases hh),?_⟩⟩
 have he:e=e0:=he
 subst he
 refine⟨_,(qfr hs hd hf h1' rfl hsl).2 k1,⟨_,rfl⟩,fun f hf' =>⟨fun hh=> ?_,?_⟩⟩
 ·have hf' :f=putE y.o.d v:=hf'
  subst hf'
  exact qfj ht hsl (g0 hh)
 ·have hf' :f=putE y.o.d v:=hf'
  subst hf'
  rw[<- qfs q1 q2 q3]
  exact(h3 e rfl).2
theorem qfv(hs:qd6 x.o.op=true)(hc:Can P x st S)(he:S e):e.kb=nul/\e.ka=nul/\ ∀p,e.p=some p->x.o.d=some p.1/\ ∀(qb qa:Nat->Bool),p.2.toV qb qa=false:=by
 have base: ∀v:PV,(∀(qb qa:Nat->Bool),v.toV qb qa=false)-> ∀p,(putE x.o.d v).p=some p->x.o.d=some p.1/\ ∀(qb qa:Nat->Bool),p.2.toV qb qa=false:=fun v hv p hp=>by
  obtain⟨i,e1,rfl⟩:=zR.1 hp
  exact⟨e1,hv⟩
 unfold Can at hc
 split at hc
 ·exact hc.elim
 ·subst hc
  have he:e=putE x.o.d (.tup []):=he
  subst he
  exact⟨rfl,rfl,base _ fun _ _=>rfl⟩
 ·split at hc
  ·rename_i hop;rw[hop]at hs;cases hs
  ·rename_i hop;rw[hop]at hs;cases hs
  ·obtain⟨_,h1,rfl⟩:=hc
   have he:e=(sem st x.o.d x.o.op).2:=he
   subst he
   revert h1 hs
   cases x.o.op<;>intro hs h1<;>simp only[qd6]at hs<;>first|(exact absurd hs zQ)|skip
   revert h1
   simp only[sem]
   split
   ·split
    ·intro _;exact⟨rfl,rfl,base _ fun _ _=>rfl⟩
    ·intro h;exact h.elim
   ·intro h;exact h.elim
theorem qfw(h:qde x y=true):x.str=true/\y.str=true/\qd6 x.o.op=true/\qd9 y.o.op=true/\y.t=[]/\(∀d,y.o.d=some d->d∉rdS x.o/\x.o.d≠some d)/\ ∀d,x.o.d=some d->d∉rdS y.o:=by
 simp only[qde,zN,List.isEmpty_iff]at h
 obtain⟨⟨⟨⟨⟨⟨h1,h2⟩,h3⟩,h4⟩,h5⟩,h6⟩,h7⟩:=h
 refine⟨h1,h2,h3,h4,h5,fun d hd=> ?_,fun d hd hm=> ?_⟩
 ·rw[hd]at h6
  simp at h6
  exact h6
 ·rw[hd]at h7
  simp at h7
  exact h7 hm
theorem qfx(h1:e.kb=nul)(h2:e.ka=nul){s:Nat}(h3: ∀p,e.p=some p->p.1≠s):(e.run st).get s=st.get s:=by
 rw[qes _ _ h3]
 rw[h1,h2]
 exact qdV (PV.toV_nul _)
theorem qfy(hf:qd9 y.o.op=true)(h: ∀s∈rdS y.o,st'.get s=st.get s):Can P y st' S ↔ Can P y st S:=by
 have hg:gst st' y.o.g=gst st y.o.g:=qeS _ h
 have he: ∀o∈opds y.o.op,o.ev st' =o.ev st:=fun o ho=>by
  cases o with
  |t n=>exact h n (qeU ho (by simp[opdS]))
  |c p=>rfl
 unfold Can
 rw[hg]
 cases gst st y.o.g with
 |none=>exact Iff.rfl
 |some b=>
   cases b with
   |false=>exact Iff.rfl
   |true=>
     simp only
     split
     ·rename_i hop;rw[hop]at hf;cases hf
     ·rename_i hop;rw[hop]at hf;cases hf
     ·rw[qeR st st' y.t y.u y.o.op he,qf3 _ hf _ he]
theorem qfz(hs:qd6 x.o.op=true){d:Option Nat}(hd: ∀i,d=some i->i∉rdS x.o)(v:PV):Can P x ((putE d v).run st) S ↔ Can P x st S:=by
 have hr:(putE d v).run st=st.put d v:=qez st d v
 have hget: ∀s∈rdS x.o,(st.put d v).get s=st.get s:=fun s h=>by
  cases d with
  |none=>rfl
  |some i=>
    unfold St.get St.put
    simp only[qa2]
    rw[if_neg (fun(e:i=s)=>hd i rfl (by rw[e];exact h))]
 rw[hr]
 refine qeT (pb:=nul) (pa:=nul) ⟨⟨fun i _=> ?_,fun i _=> ?_⟩,fun i cs _=>by simp[PV.to_nul]⟩ (qeS _ hget) (by cases ho:x.o.op<;>rw[ho]at hs<;>first|(cases hs;done)|rfl) fun o ho=>⟨?_,PV.toV_nul _⟩
 ·cases d<;>rfl
 ·cases d<;>rfl
 ·cases o with
  |t n=>exact hget n (qeU ho (by simp[opdS]))
  |c p=>rfl
theorem qfA(ht:y.t=[])(h: ∀i,y.o.d=some i->st'.get i=st.get i)(hg:Good y st f):Good y st' f:=by
 refine⟨hg.d,hg.kb,hg.ka,hg.bx,hg.ar,fun s _=>by rw[ht];exact qfh _,fun i cs _=>by rw[ht];exact qfi _,hg.v,hg.bv,fun i hi=>by rw[h i hi];exact hg.od i hi,fun i cs hi _=> ?_⟩
 rw[ht]at hi;cases hi
theorem qfB(h1:e.kb=nul)(h2:e.ka=nul)(d:Option Nat)(v:PV)(h3: ∀p,e.p=some p->d≠some p.1)(h4: ∀p,e.p=some p-> ∀(qb qa:Nat->Bool),p.2.toV qb qa=false):e.run ((putE d v).run st)=(putE d v).run (e.run st):=by
 refine qeq e (putE d v) st (fun x y hx hy he=> ?_) (fun x hx=>h4 x hx _ _) (fun x _=> ?_) (fun _ _ _ h=> ?_) (fun x _=> ?_) (fun _ h=> ?_) (fun _ _ _ h=> ?_)
 ·obtain⟨i,e1,rfl⟩:=zR.1 hy
  exact h3 x hx (by rw[e1,he])
 ·rw[h1,h2];exact PV.toV_nul _
 ·cases h
 ·simp[putE,PV.to_nul]
 ·cases h
 ·cases h
theorem qfC(h:qde x y=true)(hk:canG P x st (fun st' =>canG P y st' K)):canG P y st (fun st' =>canG P x st' K):=by
 obtain⟨_,_,hs,hf,ht,hr,hr2⟩:=qfw h
 obtain⟨Sx,h1,⟨e0,h2⟩,h3⟩:=hk
 obtain⟨e1,rfl⟩:=qeW (qf9 hs) h1
 have h2:e0=e1:=h2
 subst h2
 obtain⟨q1,q2,q3⟩:=qfv hs h1 rfl
 have hgy: ∀s,x.o.d≠some s->(e0.run st).get s=st.get s:=fun s hd=>qfx q1 q2 fun p hp hh=>hd (by rw[(q3 p hp).1,hh])
 obtain⟨_,Sy,k1,⟨f0,k2⟩,k3⟩:=h3 e0 rfl
 refine⟨Sy,(qfy hf fun s hs' =>hgy s fun hd=>hr2 s hd hs').1 k1,⟨f0,k2⟩,fun f hf' =>⟨fun hh=>qfA ht (fun i hi=>(hgy i (hr i hi).2).symm) ((k3 f hf').1 hh),?_⟩⟩
 obtain⟨v,rfl⟩:=qfb hf k1 hf'
 refine⟨_,(qfz hs (fun i hi=>(hr i hi).1) v).2 h1,⟨e0,rfl⟩,fun e he=>⟨fun hh=>(by rw[qf8 hs]at hh;cases hh),?_⟩⟩
 have he:e=e0:=he
 subst he
 rw[qfB q1 q2 _ _ (fun p hp hd=>(hr _ hd).2 (q3 p hp).1) fun p hp=>(q3 p hp).2]
 exact(k3 _ hf').2
theorem qfD(h:qde x y=true)(hk:canG P y st (fun st' =>canG P x st' K)):canG P x st (fun st' =>canG P y st' K):=by
 obtain⟨_,_,hs,hf,ht,hr,hr2⟩:=qfw h
 obtain⟨Sy,k1,⟨f0,k2⟩,k3⟩:=hk
 obtain⟨f1,rfl⟩:=qeW (qf5 hf).1 k1
 have k2:f0=f1:=k2
 subst k2
 obtain⟨g0,Sx,h1,⟨e0,h2⟩,h3⟩:=k3 f0 rfl
 obtain⟨v,rfl⟩:=qfb hf k1 rfl
 have h1' :=(qfz hs (fun i hi=>(hr i hi).1) v).1 h1
 obtain⟨e1,rfl⟩:=qeW (qf9 hs) h1
 have h2:e0=e1:=h2
 subst h2
 obtain⟨q1,q2,q3⟩:=qfv hs h1' rfl
 have hgy: ∀s,x.o.d≠some s->(e0.run st).get s=st.get s:=fun s hd=>qfx q1 q2 fun p hp hh=>hd (by rw[(q3 p hp).1,hh])
 refine⟨_,h1',⟨e0,rfl⟩,fun e he=>⟨fun hh=>(by rw[qf8 hs]at hh;cases hh),?_⟩⟩
 have he:e=e0:=he
 subst he
 refine⟨_,(qfy hf fun s hs' =>hgy s fun hd=>hr2 s hd hs').2 k1,⟨_,rfl⟩,fun f hf' =>⟨fun hh=> ?_,?_⟩⟩
 ·have hf' :f=putE y.o.d v:=hf'
  subst hf'
  exact qfA ht (fun i hi=>hgy i (hr i hi).2) (g0 hh)
 ·have hf' :f=putE y.o.d v:=hf'
  subst hf'
  rw[<- qfB q1 q2 _ _ (fun p hp hd=>(hr _ hd).2 (q3 p hp).1) fun p hp=>(q3 p hp).2]
  exact(h3 e rfl).2
theorem qfE(h:qdf x y=true)(hk:canG P x st (fun st' =>canG P y st' K)):canG P y st (fun st' =>canG P x st' K):=by
 simp only[qdf,Bool.or_eq_true,zN,Bool.not_eq_true',Bool.and_eq_false_iff]at h
 rcases h with(((⟨⟨⟨⟨h1,h2⟩,h3⟩,h4⟩,h5⟩|h)|h)|h)|h
 ·exact qf2 h1 h2 (qeN h3) (qeN h4) h5 hk
 ·exact qft h hk
 ·exact qfu h hk
 ·exact qfC h hk
 ·exact qfD h hk
theorem qfF(h:qdf x y=true):x.str=true/\y.str=true:=by
 simp only[qdf,Bool.or_eq_true,zN,qdb]at h
 rcases h with(((⟨⟨⟨⟨h1,h2⟩,h3⟩,h4⟩,h5⟩|h)|h)|h)|h
 ·exact⟨h1.1.1.1.1,h2.1.1.1.1⟩
 ·exact⟨(qfl h).1,(qfl h).2.1⟩
 ·exact⟨(qfl h).2.1,(qfl h).1⟩
 ·exact⟨(qfw h).1,(qfw h).2.1⟩
 ·exact⟨(qfw h).2.1,(qfw h).1⟩
def genG(P:Env)(x:DO)(st:St)(K:St->Prop):Prop:=if x.str=true then canG P x st K else grdK st x.o.g (opK P x.o st K) (K (st.put x.o.d (.tup [])))
def csK(P:Env):List DO->St->(St->Prop)->Prop
 |[],st,K=>K st
 |x::r,st,K=>genG P x st fun st' =>csK P r st' K
theorem qfG{o:AO}(hk: ∀st,K st->K' st)(h:opK P o st K):opK P o st K' :=by
 obtain⟨d,g,op⟩:=o
 cases op
 case cal f args=>
  obtain⟨post,h1,h2⟩:=h
  exact⟨post,h1,fun r hr=>hk _ (h2 r hr)⟩
 case clm f args=>exact FnM.mono h fun r st' hr=>hk _ hr
 case clv x args=>
  simp only[opK,clvK]at h ⊢
  split at h
  ·exact FnM.mono h fun r st' hr=>hk _ hr
  ·exact FnM.mono h fun r st' hr=>hk _ hr
  ·obtain⟨h0,post,h1,h2⟩:=h
   exact⟨h0,post,h1,fun r hr=>hk _ (h2 r hr)⟩
  ·exact FnM.mono h fun r st' hr=>hk _ hr
  ·obtain⟨K1,h1,h2⟩:=h
   exact⟨K1,h1,fun st' hr=>hk _ (h2 st' hr)⟩
  ·exact h.elim
 case nxt x=>
  simp only[opK,nxtK]at h ⊢
  split at h
  ·split at h
   ·split at h
    ·exact⟨h.1,fun e=>hk _ (h.2.1 e),fun i z hz=>hk _ (h.2.2 i z hz)⟩
    ·exact h.elim
   ·exact h.elim
  ·exact h.elim
 case xo k args=>exact qdN hk h
 case clx f args=>exact FnX.mono h fun r st' hr=>hk _ hr
 case pan x=>exact h
 case niq neg x=>
  simp only[opK,niqK]at h ⊢
  split at h<;>first|exact hk _ h|exact fun b=>hk _ (h b)|exact h.elim
 all_goals
  simp only[opK]at h ⊢
  split at h
  ·rename_i h1;rw[if_pos h1];exact⟨h.1,hk _ h.2⟩
  ·rename_i h1;rw[if_neg h1];exact⟨h.1,hk _ h.2⟩
theorem qfH{g:Option (Nat×Bool)}{a b a' b' :Prop}(ha:a->a')(hb:b->b')(h:grdK st g a b):grdK st g a' b' :=by
 cases g with
 |none=>exact ha h
 |some p=>
   simp only[grdK]at h ⊢
   generalize st.get p.1=v at h ⊢
   cases v with
   |sc v=>cases v<;>first|exact h.elim|exact⟨fun e=>ha (h.1 e),fun e=>hb (h.2 e)⟩
   | tup cs => cases cs with
     |nil=>exact hb h
     |cons _ _=>exact h.elim
   |_=>exact h.elim
theorem qfI(hk: ∀st,K st->K' st)(h:genG P x st K):genG P x st K' :=by
 unfold genG at h ⊢
 split
 ·rename_i hs;rw[if_pos hs]at h;exact qf1 hk h
 ·rename_i hs;rw[if_neg hs]at h;exact qfH (qfG hk) (hk _) h
theorem qfJ(L2:List DO): ∀(L1:List DO) (st:St),(∀x∈L1,qdf x y=true)->csK P (L1++y::L2) st K->genG P y st fun st' =>csK P (L1++L2) st' K
 |[],_,_,h=>h
 | x :: L1, st, hp, h => by
   have hxy:=hp x zX
   obtain⟨hs1,hs2⟩:=qfF hxy
   have h1:genG P x st fun st' =>genG P y st' fun st'' =>csK P (L1++L2) st'' K:=qfI (fun st' h=>qfJ L2 L1 st' (fun z hz=>hp z (zT _ hz)) h) h
   simp only[genG,hs1,hs2,if_true]at h1
   have h2:=qfE hxy h1
   show genG P y st fun st' =>genG P x st' fun st'' =>csK P (L1++L2) st'' K
   simp only[genG,hs1,hs2,if_true]
   exact h2
end
end Go.Vc
namespace Go.Vc
open Go Go.RowKit
theorem qfK(u:List Nat)(v:PV):refU u v=v.toV (inL u) (inL u):=by
 cases u with
 |nil=>rw[qfh];rfl
 |cons a r=>rfl
theorem qfL(u:List Nat)(cs:List PV):boxU u (some cs)=cs.any (PV.to (inL u) (inL u)):=by
 cases u with
 |nil=>rw[qfi];rfl
 |cons a r=>rfl
section
variable {P:Env} {x y:DO} {st st' :St} {e f:Eff} {S:Eff->Prop} {K K' :St->Prop}
theorem qfM{t:List Nat}{ss:Option Nat}(h:noX st t ss=true)(s:Nat)(hs:ss≠some s):(st.get s).toV (inL t) (inL t)=false:=by
 cases t with
 |nil=>exact qfh _
 |cons a r=>
   simp only[noX,zN,yE]at h
   unfold St.get
   cases hl:lk st.s s with
   |none=>rfl
   |some v=>
     have:=h.1 (s,v) (qa7 hl)
     simp only[Bool.or_eq_true,beq_iff_eq,Bool.not_eq_true']at this
     exact this.resolve_left hs
theorem qfN{t:List Nat}{ss:Option Nat}(h:noX st t ss=true)(i:Nat)(cs:List PV)(hs:lk st.b i=some cs):cs.any (PV.to (inL t) (inL t))=false:=by
 cases t with
 |nil=>exact qfi _
 |cons a r=>
   simp only[noX,zN,yE]at h
   have:=h.2 (i,cs) (qa7 hs)
   simpa using this
theorem qfO (hp : qcL x st) (d : ∀ p, e.p = some p -> x.o.d = some p.1) (kb : ∀ i, e.kb i = true -> inL x.t i = true) (ka : ∀ i, e.ka i = true -> inL x.t i = true)
  (bx: ∀p,e.bx=some p->inL x.t p.1=true) (ar: ∀p,e.ar=some p->inL x.t p.1=true) (v: ∀p,e.p=some p->refU x.u p.2=false) (bv: ∀p,e.bx=some p->boxU x.u (some p.2)=false):Good x st e:=by
 obtain⟨h1,h2,h3⟩:=hp
 refine⟨d,kb,ka,bx,ar,qfM h1,qfN h1,fun p hp=>by rw[<- qfK];exact v p hp,fun p hp=>by rw[<- qfL];exact bv p hp,fun i hi=> ?_,fun i cs hi hl=> ?_⟩
 ·rw[hi,qfK]at h2;exact h2
 ·have:=yE.1 h3 i (by simpa[inL]using hi)
  rw[hl]at this
  rw[<- qfL]
  simpa using this
theorem qfP {t u : List Nat} {d : Option Nat} {op : AOp} (h1 : (sem st d op).1) (hs : qcK st t u op) (h2 : qd4 op = false) (hn : qd7 op = true -> ∃ i, d = some i /\ inL t i = true) :
  (∀p,(sem st d op).2.p=some p->d=some p.1)/\(∀i,(sem st d op).2.kb i=true->inL t i=true)/\(∀i,(sem st d op).2.ka i=true->inL t i=true)/\
  (∀p,(sem st d op).2.bx=some p->inL t p.1=true)/\(∀p,(sem st d op).2.ar=some p->inL t p.1=true):=by
 have hnul: ∀(i:Nat) {q:Prop},nul i=true->q:=fun _ _ h=>by cases h
 have hisI: ∀ {i j:Nat},isI i j=true->inL t i=true->inL t j=true:=fun h1 h2=>by
  have:=eq_of_beq h1;rw[this];exact h2
 cases op
 case sto=>cases h2
 case cpy=>cases h2
 case alc zero=>
  obtain⟨i,rfl,hi⟩:=hn rfl
  exact⟨fun p hp=>(by cases hp;rfl),fun j hj=>hisI hj hi,fun j hj=>hnul j hj,fun p hp=>(by cases hp;exact hi),fun p hp=>by cases hp⟩
 case box x=>
  obtain⟨i,rfl,hi⟩:=hn rfl
  exact⟨fun p hp=>(by cases hp;rfl),fun j hj=>hisI hj hi,fun j hj=>hnul j hj,fun p hp=>(by cases hp;exact hi),fun p hp=>by cases hp⟩
 case bsl es ty zero n parts=>
  obtain⟨i,rfl,hi⟩:=hn rfl
  exact⟨fun p hp=>(by cases hp;rfl),fun j hj=>hnul j hj,fun j hj=>hisI hj hi,fun p hp=>(by cases hp),fun p hp=>by cases hp;exact hi⟩
 case mks es ty by_ zero l c=>
  obtain⟨i,rfl,hi⟩:=hn rfl
  revert h1
  simp only[sem]
  generalize l.ev st=u
  generalize c.ev st=v
  cases u with
  | sc u => cases v with
    |sc v=>cases u<;>cases v<;>first|(intro h;exact h.elim)|(intro _;exact⟨fun p hp=>(by cases hp;rfl),fun j hj=>hnul j hj,fun j hj=>hisI hj hi,fun p hp=>(by cases hp),fun p hp=>(by cases hp;exact hi)⟩)
    |_=>cases u<;>(intro h;exact h.elim)
  |_=>cases v<;>(intro h;exact h.elim)
 case app es ty by_ s x=>
  obtain⟨i,rfl,hi⟩:=hn rfl
  revert h1
  simp only[qcK]at hs
  simp only[sem]
  split
  ·rename_i i' e1 _
   cases e1
   split
   ·intro _;exact⟨fun p hp=>(by cases hp;rfl),fun j hj=>hnul j hj,fun j hj=>hnul j hj,fun p hp=>(by cases hp),fun p hp=>(by cases hp)⟩
   ·intro _;exact⟨fun p hp=>(by cases hp;rfl),fun j hj=>hnul j hj,fun j hj=>hisI hj hi,fun p hp=>(by cases hp),fun p hp=>by cases hp;exact hi⟩
  ·rename_i i' id lo n e1 e2
   cases e1
   rw[e2]at hs
   split
   ·intro _;exact⟨fun p hp=>(by cases hp;rfl),fun j hj=>hnul j hj,fun j hj=>hisI hj hs,fun p hp=>(by cases hp),fun p hp=>by cases hp;exact hs⟩
   ·intro h;exact h.elim
  ·intro h;exact h.elim
 all_goals
  simp only[sem]
  refine⟨fun p hp=> ?_,fun j hj=>hnul j hj,fun j hj=>hnul j hj,fun p hp=>(by cases hp),fun p hp=>(by cases hp)⟩
  obtain⟨i,e1,rfl⟩:=zR.1 hp
  exact e1
theorem qfQ(g:Option (Nat×Bool))(A B:Prop):grdK st g A B ↔ (gst st g=some true/\A)\/(gst st g=some false/\B):=by
 cases g with
 |none=>simp[grdK,gst]
 |some p=>
   obtain⟨s,w⟩:=p
   simp only[grdK,gst]
   generalize st.get s=v
   cases v with
   | sc v => cases v <;> simp
             rename_i b;cases b<;>cases w<;>simp
   |tup cs=>cases cs<;>simp
   |_=>simp
theorem qfR(h:qdb x=true)(hn:qd7 x.o.op=true): ∃i,x.o.d=some i/\inL x.t i=true:=by
 simp only[qdb,zN]at h
 have h2:=h.2
 rw[if_pos hn]at h2
 cases hd:x.o.d with
 |none=>rw[hd]at h2;cases h2
 |some i=>rw[hd]at h2;exact⟨i,rfl,h2⟩
theorem qfS(hp:qcL x st){v:PV}(hv:refU x.u v=false):Good x st (putE x.o.d v):=by
 refine qfO hp (fun p h=> ?_) (fun i h=>by cases h) (fun i h=>by cases h) (fun p h=>by cases h) (fun p h=>by cases h) (fun p h=> ?_) (fun p h=>by cases h)
 ·obtain⟨i,e1,rfl⟩:=zR.1 h;exact e1
 ·obtain⟨i,e1,rfl⟩:=zR.1 h;exact hv
theorem qfT(u:List Nat):refU u (.tup [])=false:=by cases u<;>rfl
theorem qfU(hr:(!x.str||qd4 x.o.op||qdb x)=true)(hn:qd5 x.o.op=true->x.o.d=none)(h:dopG P x st K):genG P x st K:=by
 unfold dopG at h
 unfold genG
 split
 ·rename_i hs
  rw[if_pos hs]at h
  obtain⟨hp,h⟩:=h
  rw[qfQ]at h
  rcases h with⟨hg,h⟩|⟨hg,h⟩
  ·cases hc:qd3 x.o.op with
   |true=>
     have:(∃f args,x.o.op= .cal f args)\/ ∃y args,x.o.op= .clv y args:=by cases hop:x.o.op<;>rw[hop]at hc<;>first|(cases hc;done)|exact .inl ⟨_,_,rfl⟩|exact .inr ⟨_,_,rfl⟩
     rcases this with⟨fn,args,hop⟩|⟨y,args,hop⟩
     ·unfold dopK at h
      rw[hop]at h
      obtain⟨post,h1,⟨r0,h2⟩,h3⟩:=h
      refine⟨fun e=> ∃r,post r/\e=putE x.o.d r,?_,⟨_,r0,h2,rfl⟩,?_⟩
      ·unfold Can
       rw[hg,hop]
       exact⟨post,h1,rfl⟩
      ·rintro e ⟨r,hr,rfl⟩
       refine⟨fun _=>qfS hp (h3 r hr).1,?_⟩
       rw[show(putE x.o.d r).run st=st.put x.o.d r from qez st _ _]
       exact(h3 r hr).2
     ·unfold dopK at h
      rw[hop]at h
      simp only at h
      split at h
      ·rename_i fn u v hev
       obtain⟨h0,post,h1,⟨r0,h2⟩,h3⟩:=h
       refine⟨fun e=> ∃r,post r/\e=putE x.o.d r,?_,⟨_,r0,h2,rfl⟩,?_⟩
       ·unfold Can
        rw[hg,hop]
        exact⟨fn,u,v,post,hev,h0,h1,rfl⟩
       ·rintro e ⟨r,hr,rfl⟩
        refine⟨fun _=>qfS hp (h3 r hr).1,?_⟩
        rw[show(putE x.o.d r).run st=st.put x.o.d r from qez st _ _]
        exact(h3 r hr).2
      ·exact h.elim
   |false=>
     have h:qcK st x.t x.u x.o.op/\opK P x.o st (fun st' =>qcM x st' /\K st'):=by
      unfold dopK at h
      split at h
      ·rename_i hop;rw[hop]at hc;cases hc
      ·rename_i hop;rw[hop]at hc;cases hc
      ·exact h
     obtain⟨h1,h2⟩:=h
     have hcp:qd8 x.o.op=false:=by
      rw[hs]at hr
      simp only[Bool.not_true,Bool.false_or,Bool.or_eq_true]at hr
      rcases hr with hr|hr
      ·cases ho:x.o.op<;>rw[ho]at hr<;>first|(cases hr;done)|rfl
      ·simp only[qdb,zN,Bool.not_eq_true']at hr
       exact hr.1.1.2
     have h3:=(qeB P st x.o.d x.o.g x.t x.o.op hc hcp x.u h1 hn _).1 h2
     obtain⟨h3,h4,h5⟩:=h3
     refine⟨fun e=>e=(sem st x.o.d x.o.op).2,?_,⟨_,rfl⟩,?_⟩
     ·unfold Can
      rw[hg]
      simp only
      split
      ·rename_i hop;rw[hop]at hc;cases hc
      ·rename_i hop;rw[hop]at hc;cases hc
      ·exact⟨⟨hcp,h1⟩,h3,rfl⟩
     ·rintro e rfl
      refine⟨fun hst=> ?_,h5⟩
      have hreg:qdb x=true:=by rw[hs,hst]at hr;simpa using hr
      obtain⟨g1,g2,g3,g4,g5⟩:=qfP h3 h1 hst (qfR hreg)
      refine qfO hp g1 g2 g3 g4 g5 (fun p hp' => ?_) (fun p hp' => ?_)
      ·have h6:=h4.1
       have h7: ∀s:St,s.getO x.o.d=s.get p.1:=fun s=>by rw[g1 p hp'];rfl
       rw[h7,qet _ st hp']at h6
       exact h6
      ·have h6:=yE.1 h4.2 p.1 (by have:=g4 p hp';simpa[inL]using this)
       rw[qeu _ st hp']at h6
       simpa using h6
  ·refine⟨fun e=>e=putE x.o.d (.tup []),?_,⟨_,rfl⟩,?_⟩
   ·unfold Can;rw[hg]
   ·rintro e rfl
    refine⟨fun _=>qfS hp (qfT _),?_⟩
    rw[show(putE x.o.d (.tup [])).run st=st.put x.o.d (.tup [])from qez st _ _]
    exact h
 ·rename_i hs
  rw[if_neg hs]at h
  exact h
theorem qfV(hn:qd5 x.o.op=true->x.o.d=none)(h:genG P x st K):grdK st x.o.g (opK P x.o st K) (K (st.put x.o.d (.tup []))):=by
 unfold genG at h
 split at h
 ·obtain⟨S,h1,⟨e0,h2⟩,h3⟩:=h
  rw[qfQ]
  unfold Can at h1
  split at h1
  ·exact h1.elim
  ·rename_i hg
   subst h1
   refine .inr ⟨hg,?_⟩
   have:=(h3 _ rfl).2
   rwa [show(putE x.o.d (.tup [])).run st=st.put x.o.d (.tup [])from qez st _ _]at this
  ·rename_i hg
   refine .inl ⟨hg,?_⟩
   split at h1
   ·rename_i fn args hop
    obtain⟨post,h1,rfl⟩:=h1
    unfold opK
    rw[hop]
    refine⟨post,h1,fun r hr=> ?_⟩
    have:=(h3 _ ⟨r,hr,rfl⟩).2
    rwa [show(putE x.o.d r).run st=st.put x.o.d r from qez st _ _]at this
   ·rename_i y args hop
    obtain⟨fn,u,v,post,hev,h0,h1,rfl⟩:=h1
    unfold opK
    rw[hop]
    simp only[clvK,hev]
    refine FnM.of_ok h0 (by rw[List.map_map];exact h1) fun r hr=> ?_
    have:=(h3 _ ⟨r,hr,rfl⟩).2
    rwa [show(putE x.o.d r).run st=st.put x.o.d r from qez st _ _]at this
   ·rename_i hop hop2
    obtain⟨⟨hcp,h4⟩,h5,rfl⟩:=h1
    have hc:qd3 x.o.op=false:=by cases ho:x.o.op<;>first|rfl|exact absurd ho (hop _ _)|exact absurd ho (hop2 _ _)
    exact(qeB P st x.o.d x.o.g x.t x.o.op hc hcp x.u h4 hn K).2 ⟨h5,(h3 _ rfl).2⟩
 ·exact h
theorem qfW: ∀(l:List DO) (st:St),(∀x∈l,(!x.str||qd4 x.o.op||qdb x)=true/\(qd5 x.o.op=true->x.o.d=none))->dsK P l st K->csK P l st K
 |[],_,_,h=>h
 |x::l,_,hl,h=>qfI (fun _ h=>qfW l _ (fun y hy=>hl y (zT _ hy)) h) (qfU (hl x zX).1 (hl x zX).2 h)
end
def Cl(os:List Oper)(R:Nat->Prop):Prop:= ∀k o,os[k]? =some o-> ¬R k-> ∀e∈o.after.toList,Region.binds .any e=true-> ¬R e.on
theorem qfX (ms : List Nat) (j : Nat) : ∀ (es : List Edge) (s : Nat), Nat.testBit (es.foldl (fun s e => if Region.binds .any e then s ||| (1 <<< e.on) ||| ms.getD e.on 0 else s) s) j = true ->
  Nat.testBit s j=true\/ ∃e∈es,Region.binds .any e=true/\(j=e.on\/Nat.testBit (ms.getD e.on 0) j=true)
 |[],_,h=> .inl h
 | e :: es, s, h => by
   rcases qfX ms j es _ h with h1|⟨e',h1,h2⟩
   ·simp only at h1
    split at h1
    ·rename_i hb
     simp only[Nat.testBit_or,Bool.or_eq_true,Nat.one_shiftLeft,Nat.testBit_two_pow,decide_eq_true_eq]at h1
     rcases h1 with(h1|h1)|h1
     ·exact .inl h1
     ·exact .inr ⟨e,zX,hb,.inl h1.symm⟩
     ·exact .inr ⟨e,zX,hb,.inr h1⟩
    ·exact .inl h1
   ·exact .inr ⟨e',zT _ h1,h2⟩
theorem qfY{ms:List Nat}{es:List Edge}{j:Nat}(h:Nat.testBit (qdg ms es) j=true): ∃e∈es,Region.binds .any e=true/\(j=e.on\/Nat.testBit (ms.getD e.on 0) j=true):=by
 rcases qfX ms j es 0 h with h1|h1
 ·simp at h1
 ·exact h1
theorem qfZ{m:Nat}{y:DO} : ∀(l:List DO) (j:Nat),qdi m y j l=true-> ∀i x,l[i]? =some x->Nat.testBit m (j+i)=true\/qdf x y=true
 |[],_,_,_,_,h=>by simp at h
 | z :: l, j, h, i, x, hx => by
   simp only[qdi,zN,Bool.or_eq_true]at h
   cases i with
   |zero=>simp at hx;subst hx;exact h.1
   |succ i=>
     simp at hx
     have:=qfZ l (j+1) h.2 i x hx
     rwa [Nat.add_right_comm j 1 i]at this
theorem qg0 (opsA : List DO) (osA : List Oper) : ∀ (r : List DO) (s : List Oper) (done : List DO) (ms : List Nat) (osd : List Oper), opsA = done ++ r -> osA = osd ++ s -> osd.length = done.length -> ms.length = done.length ->
  (∀k j,Nat.testBit (ms.getD k 0) j=true-> ∀R,Cl osA R-> ¬R k-> ¬R j)->qdj done ms r s=true->
  ∀i o x,done.length<=i->osA[i]? =some o->opsA[i]? =some x->(!x.str||qd4 x.o.op||qdb x)=true/\(∀e∈o.after.toList,Region.binds .any e=true->e.on<i)/\
   ∀R:Nat->Prop,Cl osA R->(∀e∈o.after.toList,Region.binds .any e=true-> ¬R e.on)-> ∀j y,j<i->opsA[j]? =some y->R j->qdf y x=true
 | [], _, done, _, osd, h1, _, _, _, _, _, i, _, x, hi, _, hx => by
   rw[h1,List.append_nil]at hx
   have:=(zM.1 hx).1
   omega
 |_::_,[],_,_,_,_,_,_,_,_,h,_,_,_,_,_,_=>by simp[qdj]at h
 | x0 :: r, o0 :: s, done, ms, osd, h1, h2, h3, h4, hm, h, i, o, x, hi, ho, hx => by
   simp only[qdj,zN]at h
   obtain⟨⟨⟨hr,he⟩,hp⟩,h⟩:=h
   have hx0:opsA[done.length]? =some x0:=by rw[h1];simp
   have ho0:osA[done.length]? =some o0:=by rw[h2,<- h3];simp
   by_cases hid:i=done.length
   ·subst hid
    rw[hx0]at hx;cases hx
    rw[ho0]at ho;cases ho
    refine⟨hr,fun e hm hb=> ?_,fun R hR hn j y hj hy hRj=> ?_⟩
    ·have:=yE.1 he e hm
     rw[hb]at this
     simpa using this
    ·have hy' :done[j]? =some y:=by rw[h1,yA hj]at hy;exact hy
     rcases qfZ done 0 hp j y hy' with h5|h5
     ·rw[Nat.zero_add]at h5
      obtain⟨e,h6,h7,h8⟩:=qfY h5
      have hne:=hn e h6 h7
      rcases h8 with rfl|h8
      ·exact absurd hRj hne
      ·exact absurd hRj (hm _ _ h8 R hR hne)
     ·exact h5
   ·refine qg0 opsA osA r s (done++[x0]) (ms++[qdg ms o0.after.toList]) (osd++[o0]) (by rw[h1];simp) (by rw[h2];simp) (by simp[h3]) (by simp[h4]) ?_ h i o x (by simp;omega) ho hx
    intro k j hk R hR hRk
    rw[zK]at hk
    by_cases hkl:k<ms.length
    ·rw[yA hkl,<- zK]at hk
     exact hm k j hk R hR hRk
    ·by_cases hke:k=ms.length
     ·subst hke
      rw[yB (Nat.le_refl _)]at hk
      simp only[Nat.sub_self,List.getElem?_cons_zero,Option.getD_some]at hk
      obtain⟨e,h6,h7,h8⟩:=qfY hk
      have hne:=hR ms.length o0 (by rw[h4];exact ho0) hRk e h6 h7
      rcases h8 with rfl|h8
      ·exact hne
      ·exact hm _ _ h8 R hR hne
     ·rw[List.getElem?_eq_none (by simp;omega)]at hk
      simp at hk
end Go.Vc
