/- VcL VcM: lemmas -/
import Derived.Test.YtecoaapkcnhlhaaGreatDoorPart04
import Derived.OrdersIn
import Derived.TacticsIn
import Derived.WalkSpells
set_option linter.unusedSimpArgs false
set_option linter.unusedVariables false
open Option renaming map_eq_some_iff->zR
open Array renaming getD_eq_getD_getElem? ->zO
open Bool renaming and_eq_true->zN
open List renaming getD_eq_getElem?_getD->zK,getElem?_eq_getElem->zL,getElem?_eq_some_iff->zM,mem_of_getElem? ->zP,getElem?_map->zS,mem_cons_of_mem->zT,length_cons->zV,map_cons->zW,mem_cons_self->zX,mem_append->yC,all_eq_true->yE,length_map->yG,map_append->yH
namespace Go.Vc
open Go Go.RowKit
section
variable {w0:World} {Z0:Zone} {N:Fr} {Z:Zone} {L:Lay} {st:St} {a:Act} {w:World} {P:Env} {ro:Option Nat} {n:Nat}
def lift(w0:World)(Z0:Zone)(N:Fr)(Q:Exit->St->Prop):Exit->Act->World->Prop:=fun e a w=> ∃st,Q e st/\Sim w0 Z0 N st a w
def qg1(w0:World)(Z0:Zone)(N:Fr)(K:St->Prop):Act->World->Prop:=fun a w=> ∃st,K st/\Sim w0 Z0 N st a w
theorem qg2{o:Oper}(h: ∀c,o.op≠ .defer c)(ρ:Operand->Value):o.semAt ro ρ=execOp ρ o:=by
 unfold Oper.semAt
 split
 ·rename_i e;exact absurd e (h _)
 ·rfl
theorem qg3{κ:Sh}{ao:AOp}{d d' :Option Nat}{op:Op}(h:qd0 P.p κ ao d d' op=true): ∀c,op≠ .defer c:=by
 intro c e
 subst e
 simp only[qd0,zN]at h
 have h:=h.2
 cases ao<;>first|(change false=true at h;cases h;done)|(change pfOk _ _ _ _ _=true at h;rw[qdu]at h;cases h;done)|(change (Option.isSome d&&false)=true at h;simp at h;done)|(change (Option.isNone d&&false)=true at h;simp at h;done)
theorem qg4{o:Oper}(hd: ∀c,o.op≠ .defer c){r:Result Next}(he:(execOp a.eval o).run P.p w=r){next:Act->World->Prop}{Q:Exit->Act->World->Prop}(h:o.uponIn (Fw ro) n P.p a next Q r):o.wpIn (Fw ro) n P.p a w next Q:=by
 refine⟨fun _ _=>trivial,?_⟩
 rw[show(Fw ro).round=ro from rfl,qg2 hd,he]
 exact h
theorem qg5{d d' :Option Nat}(h:qcV N.sh d d' =true):N.dst d d' :=by
 cases d<;>cases d' <;>simp[qcV]at h
 ·trivial
 ·exact h
theorem qg6 (h : Inv w0 Z0 N Z L st a w) {o : Oper} {d : Option Nat} (hnd : ∀ c, o.op ≠ .defer c) (hd : N.dst d o.dst) {c : PV} (hg : qaD P.p w Z L a o.op c) {K : St -> Prop} (hK : K (st.put d c)) {Q : Exit -> Act -> World -> Prop} :
  o.wpIn (Fw ro) n P.p a w (qg1 w0 Z0 N K) Q:=by
 obtain⟨v,h1,h2⟩:=hg
 exact qg4 hnd (h1 o.dst o.type o.pos o.after o.guard) (by rw[Oper.uponIn_value];exact⟨_,hK,Z,L,h.put hd h2⟩)
theorem qg7{o:Oper}{st' :St}(hnd: ∀c,o.op≠ .defer c)(hr:Runs P.p w0 Z0 N w a o.op o.dst st'){K:St->Prop}(hK:K st'){Q:Exit->Act->World->Prop} :o.wpIn (Fw ro) n P.p a w (qg1 w0 Z0 N K) Q:=by
 obtain⟨v,m,w',hn,h1,Z',L',h2⟩:=hr
 refine qg4 hnd (h1 o.type o.pos o.after o.guard) ?_
 rcases hn with rfl|⟨rfl,rfl⟩
 ·rw[Oper.uponIn_value];exact⟨_,hK,Z',L',h2⟩
 ·rw[Oper.uponIn_skip];exact⟨_,hK,Z',L',h2⟩
theorem qg8{f:Nat}{vs:Array Value}{R:Ending->World->Prop}(h:Calls P.p f vs w R):CallsIn (Fw ro) n P.p f vs w R:=
 ⟨trivial,fun cs _=>((callsIn_wide (n:=n)).2 h).2 cs (room_wide _)⟩
theorem qg9{κ:Sh}{args:List Opd}{ys:List Operand}(hl:args.length=ys.length)(h:(args.zip ys).all (fun x=>qai κ x.1 x.2)=true): ∀(j:Nat) (x:Opd),args[j]? =some x-> ∃y,ys[j]? =some y/\qai κ x y=true:=by
 intro j x hj
 have hjl:j<args.length:=(zM.1 hj).1
 have hyl:j<ys.length:=by omega
 refine⟨ys[j],zL hyl,?_⟩
 have hz:(args.zip ys)[j]? =some (x,ys[j]):=by
  rw[List.getElem?_zip_eq_some];exact⟨hj,zL hyl⟩
 exact yE.1 h _ (zP hz)
theorem qga(h:Inv w0 Z0 N Z L st a w){args:List Opd}{ys:Array Operand}(hl:(args.length==ys.size)=true)(hz:(args.zip ys.toList).all (fun x=>qai N.sh x.1 x.2)=true):ArgsR w Z L (args.map (·.ev st)) (ys.map a.eval):=by
 refine⟨by simp only[Array.size_map,yG];exact(eq_of_beq hl).symm,fun j cc hj=> ?_⟩
 rw[zS]at hj
 obtain⟨x,h1,rfl⟩:=zR.1 hj
 obtain⟨y,h2,h3⟩:=qg9 (by simpa using hl) hz j x h1
 have h5:(ys.map a.eval).getD j undef=a.eval y:=by
  have:ys[j]? =some y:=by simpa using h2
  simp[zO,this]
 rw[h5];exact h.ev h3
def qgb(l:List Nat):List (Nat×Obj):=l.map fun D=>(D,.deferred (some []))
theorem Inv.mem(h:Inv w0 Z0 N Z L st a w): ∃l:List Nat,(∀dd,N.dm=some dd->(a.defers=l.map mark++dd.2/\(dd.1=true->l=[]))/\qab N.X l)/\Mem w0 Z0 ⟨N.X.x++qgb l,N.X.y⟩ (N.val a) Z L st w:=by
 have key: ∀l:List Nat,(∀D∈l,RecAt w0 Z w (D,.deferred (some [])))->Mem w0 Z0 ⟨N.X.x++qgb l,N.X.y⟩ (N.val a) Z L st w:=fun l h3=>by
  refine⟨h.zt,h.z0,h.zn,h.zb,h.below,h.ownb,h.owna,h.injb,h.inja,h.injx,h.boxes,h.arrs,h.ownm,h.injm,h.maps,fun x hx=> ?_,h.yb,rfl,fun _ hd=>(by cases hd),fun i v hl=> ?_⟩
  ·rcases yC.1 hx with hx|hx
   ·exact h.oth x hx
   ·obtain⟨D,hD,rfl⟩:=List.mem_map.1 hx
    exact h3 D hD
  ·have:=h.slots i v hl
   have e:(⟨0,0,N.val a,⟨N.X.x++qgb l,N.X.y⟩,none⟩:Fr).val ⟨#[],[]⟩ i=N.val a i:=by simp[Fr.val]
   rw[e];exact this
 cases hdm:N.dm with
 |none=>exact⟨[],fun _ e=>(by cases e),key [] (fun D hD=>by cases hD)⟩
 |some dd=>
   obtain⟨l,h1,h2,h3⟩:=h.defers dd hdm
   exact⟨l,fun _ e=>(by cases e;exact⟨h1,h2⟩),key l h3⟩
theorem Inv.back{l:List Nat}{Z' :Zone}{L' :Lay}{st' :St}{w' :World}(h:Mem w0 Z0 ⟨N.X.x++qgb l,N.X.y⟩ (N.val a) Z' L' st' w')(hs:a.tmps.size=N.n)(hl: ∀dd,N.dm=some dd->(a.defers=l.map mark++dd.2/\(dd.1=true->l=[]))/\qab N.X l):Inv w0 Z0 N Z' L' st' a w' :=by
 refine⟨h.zt,h.z0,h.zn,h.zb,h.below,h.ownb,h.owna,h.injb,h.inja,h.injx,h.boxes,h.arrs,h.ownm,h.injm,h.maps,fun x hx=>h.oth x (List.mem_append_left _ hx),h.yb,hs,
  fun dd hd=>⟨l,(hl dd hd).1,(hl dd hd).2,fun D hD=>h.oth _ (List.mem_append_right _ (List.mem_map.2 ⟨D,hD,rfl⟩))⟩,fun i v hi=> ?_⟩
 have:=h.slots i v hi
 have e:(⟨0,0,N.val a,⟨N.X.x++qgb l,N.X.y⟩,none⟩:Fr).val ⟨#[],[]⟩ i=N.val a i:=by simp[Fr.val]
 rw[e]at this;exact this
theorem qgc{f:Nat}(hb:qcG P.p f=true)(vs:Array Value):(callFunc f vs).run P.p w= .ok (.enter f vs) w:=by
 unfold qcG at hb
 split at hb
 ·rename_i fn hfn
  simp only[zN,bne_iff_ne,ne_eq]at hb
  obtain⟨cb,hcb⟩:=Option.isSome_iff_exists.1 hb.1
  simp[callFunc,hfn,hb.2,hcb]
 ·cases hb
theorem qgd {o : Oper} (hnd : ∀ c, o.op ≠ .defer c) {f : Nat} {vs : Array Value} (he : (execOp a.eval o).run P.p w = .ok (.enter f vs) w) {next : Act -> World -> Prop} {Q : Exit -> Act -> World -> Prop}
  (hc:Calls P.p f vs w fun e w' => ∃v,e= .returned v/\next (a.put o.dst v) w'):o.wpIn (Fw ro) n P.p a w next Q:=by
 refine qg4 hnd he ?_
 rw[Oper.uponIn_enter]
 refine⟨fun h=>(by cases h),(qg8 hc).mono ?_⟩
 rintro e w' ⟨v,rfl,h⟩
 exact h
theorem qge (hg0 : GL P.p w0) (h : Inv w0 Z0 N Z L st a w) {o : Oper} {d : Option Nat} (hd : N.dst d o.dst) {c : Call} (ho : o.op = .call c) {f : Nat} {args : List Opd} (hm : qcT P.p N.sh f args c = true) {post : PV -> Prop}
  (hc:FnOK P.p f (args.map fun x=>(x.ev st).rsA st) post) {K:St->Prop} (hK: ∀r,post r->K (st.put d r)) {Q:Exit->Act->World->Prop} :o.wpIn (Fw ro) n P.p a w (qg1 w0 Z0 N K) Q:=by
 simp only[qcT,zN]at hm
 obtain⟨⟨⟨hf,hb⟩,hl⟩,hz⟩:=hm
 split at hf
 ·rename_i g hg
  simp at hf;subst hf
  have hrun:(execOp a.eval o).run P.p w= .ok (.enter f (c.args.map a.eval)) w:=by
   simp[execOp,ho,resolve,hg,Act.eval,Deferred.ofValue,invoke,qgc hb]
  obtain⟨l,hl1,hmem⟩:=h.mem
  have hc' :FnOK P.p f ((args.map (·.ev st)).map (PV.rsA st)) post:=by simpa[List.map_map,Function.comp_def]using hc
  refine qgd (fun c' e=>by rw[ho]at e;cases e) hrun ((FnOK.mem hc' hmem (qga h hl hz) hg0).mono ?_)
  rintro e w' ⟨v,r,Z',L',rfl,h1,h2,h3⟩
  exact⟨v,rfl,_,hK r h1,Z',L',(Inv.back h2 h.size hl1).put hd h3⟩
 ·cases hf
theorem qgf (hE : EnvOK P w0 Z0 N.X N.G) (hkk : P.kk <= N.K) (h : Inv w0 Z0 N Z L st a w) {o : Oper} (hnd : ∀ c, o.op ≠ .defer c) {d : Option Nat} (hd : N.dst d o.dst) {f : Nat} {vs : Array Value} {args : List PV} (hrun : (execOp a.eval o).run P.p w = .ok (.enter f vs) w)
  (ha:ArgsR w Z L args vs) {K:St->Prop} (hK:FnM P f args st fun r st' =>K (st'.put d r)) {Q:Exit->Act->World->Prop} :o.wpIn (Fw ro) n P.p a w (qg1 w0 Z0 N K) Q:=by
 obtain⟨l,hl1,hmem⟩:=h.mem
 have hE' :EnvOK P w0 Z0 ⟨N.X.x++qgb l,N.X.y⟩ (N.val a):=hE.congr (fun x hx=>List.mem_append_left _ hx) rfl (fun i hi=>by
  unfold Fr.val
  rw[if_neg (by omega)])
 refine qgd hnd hrun ((hK.2 w0 Z0 _ _ Z L w vs hE' hmem ha).mono ?_)
 rintro e w' ⟨v,r,st',Z',L',rfl,h1,h2,h3⟩
 exact⟨v,rfl,_,h1,Z',L',(Inv.back h2 h.size hl1).put hd h3⟩
theorem ArgsR.app{xs ys:List PV}{us vs:Array Value}(h:ArgsR w Z L xs us)(k:ArgsR w Z L ys vs):ArgsR w Z L (xs++ys) (us++vs):=by
 refine⟨by simp[h.1,k.1],fun j c hj=> ?_⟩
 rw[List.getElem?_append]at hj
 split at hj
 ·rename_i hlt
  have:=h.2 j c hj
  have e:(us++vs).getD j undef=us.getD j undef:=by
   rw[zO,zO,Array.getElem?_append_left (by rw[h.1];exact hlt)]
  rw[e];exact this
 ·rename_i hge
  have:=k.2 _ c hj
  have e:(us++vs).getD j undef=vs.getD (j-xs.length) undef:=by
   rw[zO,zO,Array.getElem?_append_right (by rw[h.1];omega),h.1]
  rw[e];exact this
theorem qgg(ids:List Nat):ArgsR w Z L (ids.map fun i=>PV.ptr i 0) (ids.map fun i=>Value.pointer (some ⟨L.bx i,0,none⟩)).toArray:=by
 refine⟨by simp,fun j c hj=> ?_⟩
 rw[zS]at hj
 obtain⟨i,h1,rfl⟩:=zR.1 hj
 simp[zO,h1,VR,AR,CR]
theorem TR.vr{c:PV}{v:Value}(h:TR w Z c v):VR w Z L c v:=by
 cases c<;>first|exact h|(cases h;done)
theorem TR.rsA{c:PV}{v:Value}(h:TR w Z c v):c.rsA st=c:=by
 cases c<;>first|rfl|(cases h;done)
theorem qgh (hE : EnvOK P w0 Z0 N.X N.G) (hkk : P.kk <= N.K) (h : Inv w0 Z0 N Z L st a w) {o : Oper} {d : Option Nat} (hd : N.dst d o.dst) {c : Call} (ho : o.op = .call c) {x : Opd} {args : List Opd} (hm : qcU P.p N.sh x args c = true)
  {K:St->Prop}
  (hK:clvK P st d (x.ev st) (args.map (·.ev st)) K) {Q:Exit->Act->World->Prop} :o.wpIn (Fw ro) n P.p a w (qg1 w0 Z0 N K) Q:=by
 have hnd: ∀c,o.op≠ .defer c:=fun c' e=>by rw[ho]at e;cases e
 simp only[qcU,zN]at hm
 obtain⟨⟨hf,hl⟩,hz⟩:=hm
 split at hf
 ·rename_i y hy
  have hv:=h.ev hf
  have hargs:=qga h hl hz
  unfold clvK at hK
  split at hK
  ·rename_i f ids e
   rw[e]at hv
   have hv:a.eval y= .func (.func f) #[] (ids.map fun i=>Value.pointer (some ⟨L.bx i,0,none⟩)).toArray:=hv
   have hb:=hK.1
   have hrun:(execOp a.eval o).run P.p w= .ok (.enter f (c.args.map a.eval++(ids.map fun i=>Value.pointer (some ⟨L.bx i,0,none⟩)).toArray)) w:=by
    simp[execOp,ho,resolve,hy,hv,Deferred.ofValue,invoke,qgc hb]
   exact qgf hE hkk h hnd hd hrun (hargs.app (qgg ids)) hK
  ·rename_i f u v e
   rw[e]at hv
   have hb:=hK.1
   have huv:u= #[]/\v= #[]:=by
    have hv' :TR w Z (.sc (.func (.func f) u v)) (a.eval y):=hv
    generalize a.eval y=z at hv'
    cases hv' with
    |sc _ hh=>simpa[scOk]using hh
   obtain⟨rfl,rfl⟩:=huv
   have hrun:(execOp a.eval o).run P.p w= .ok (.enter f (c.args.map a.eval)) w:=by
    simp[execOp,ho,resolve,hy,hv.sc,Deferred.ofValue,invoke,qgc hb]
   exact qgf hE hkk h hnd hd hrun hargs hK
  ·rename_i f caps e
   rw[e]at hv
   obtain⟨hb,post,hc,hK2⟩:=hK
   have hv' :TR w Z (.pcl f caps) (a.eval y):=hv
   generalize hz2:a.eval y=z at hv'
   cases hv' with
   |pcl _ _ vs h1 h2=>
     have hrun:(execOp a.eval o).run P.p w= .ok (.enter f (c.args.map a.eval++vs)) w:=by
      simp[execOp,ho,resolve,hy,hz2,Deferred.ofValue,invoke,qgc hb]
     obtain⟨l,hl1,hmem⟩:=h.mem
     have hmap:(args.map (·.ev st)++caps).map (PV.rsA st)=(args.map (·.ev st)).map (PV.rsA st)++caps:=by
      rw[yH]
      congr 1
      have:caps.map (PV.rsA st)=caps.map id:=List.map_congr_left fun c hc=>by
       obtain⟨j,hj⟩:=List.getElem?_of_mem hc
       exact(h2 j c hj).rsA
      rw[this,List.map_id]
     have hc' :FnOK P.p f ((args.map (·.ev st)++caps).map (PV.rsA st)) post:=by rw[hmap];exact hc
     refine qgd hnd hrun ((FnOK.mem hc' hmem (hargs.app ⟨h1,fun j cc hj=>TR.vr (h2 j cc hj)⟩) hE.1).mono ?_)
     rintro e w' ⟨v,r,Z',L',rfl,h3,h4,h5⟩
     exact⟨v,rfl,_,hK2 r h3,Z',L',(Inv.back h4 h.size hl1).put hd h5⟩
  ·rename_i f id e
   rw[e]at hv
   have hv:a.eval y= .func (.func f) #[.pointer (some ⟨L.bx id,0,none⟩)] #[]:=hv
   have hb:=hK.1
   have hrun:(execOp a.eval o).run P.p w= .ok (.enter f (#[.pointer (some ⟨L.bx id,0,none⟩)]++c.args.map a.eval)) w:=by
    simp[execOp,ho,resolve,hy,hv,Deferred.ofValue,invoke,qgc hb]
   refine qgf hE hkk h hnd hd hrun (ArgsR.app (xs:=[.ptr id 0]) ⟨rfl,fun j c hj=> ?_⟩ hargs) hK
   cases j with
   |zero=>simp at hj;subst hj;rfl
   |succ j=>simp at hj
  ·rename_i id e
   rw[e]at hv
   have hv:a.eval y= .func (.yield (L.yb id)) #[] #[]:=hv
   obtain⟨K',hY,hK'⟩:=hK
   obtain⟨l,hl1,hmem⟩:=h.mem
   obtain⟨f,tmps,assign,body,h1,h2⟩:=hE.2 ⟨N.X.x++qgb l,N.X.y⟩ (N.val a) Z L w id _ st K' _ (fun x hx=>List.mem_append_left _ hx) rfl (fun i hi=>by unfold Fr.val;rw[if_neg (by omega)]) hY hmem hargs
   rw[<- h.yb id]at h1 h2
   have hrun:(execOp a.eval o).run P.p w= .ok (.round (L.yb id) f tmps assign body) w:=by
    simp[execOp,ho,resolve,hy,hv,Deferred.ofValue,invoke,h1]
   refine qg4 hnd hrun ?_
   rw[Oper.uponIn_round]
   refine⟨fun h=>(by cases h),RoundIn.mono (h2 (n-1)) ?_⟩
   rintro e w' ⟨rfl,st',Z',L',h3,h4⟩
   exact⟨_,hK' st' h3,Z',L',(Inv.back h4 h.size hl1).put hd (v:= .sc (.bool true)) (TR.sc _ rfl)⟩
  ·exact hK.elim
 ·cases hf
theorem qgk (hE : EnvOK P w0 Z0 N.X N.G) (hkk : P.kk <= N.K) (h : Inv w0 Z0 N Z L st a w) {ao : AO} {o : Oper} (hm : qd0 P.p N.sh ao.op ao.d o.dst o.op = true)  {K : St -> Prop} (hK : opK P ao st K) {Q : Exit -> Act -> World -> Prop} (hpan : ∀ ch a w, qg1 w0 Z0 N (P.pan ch) a w -> Q (.panic ch) a w) :
  o.wpIn (Fw ro) n P.p a w (qg1 w0 Z0 N K) Q:=by
 have hnd:=qg3 hm
 obtain⟨d,g,op⟩:=ao
 simp only[qd0,zN]at hm
 obtain⟨hN,hm⟩:=hm
 have hd:N.dst d o.dst:=qg5 hN
 have some_of: ∀ {b:Bool},(d.isSome&&b)=true-> ∃i j,d=some i/\o.dst=some j/\N.dst (some i) (some j)/\b=true:=fun hh=>by
  simp only[zN]at hh
  obtain⟨i,hi⟩:=Option.isSome_iff_exists.1 hh.1
  cases hj:o.dst with
  |none=>rw[hi,hj]at hd;exact hd.elim
  |some j=>rw[hi,hj]at hd;exact⟨i,j,hi,rfl,hd,hh.2⟩
 have none_of:d.isNone=true->o.dst=none:=fun hh=>by
  cases hj:o.dst with
  |none=>rfl
  |some j=>rw[hj]at hd;cases d<;>simp_all[Fr.dst]
 cases op
 case cal f args=>
  simp only at hm
  split at hm
  ·rename_i c hc
   obtain⟨post,h1,h2⟩:=hK
   exact qge hE.1 h hd hc hm h1 h2
  ·cases hm
 case clm f args=>
  simp only at hm
  split at hm
  ·rename_i c hc
   simp only[qcT,zN]at hm
   obtain⟨⟨⟨hf,hb⟩,hl⟩,hz⟩:=hm
   split at hf
   ·rename_i g hg
    simp at hf;subst hf
    have hrun:(execOp a.eval o).run P.p w= .ok (.enter f (c.args.map a.eval)) w:=by
     simp[execOp,hc,resolve,hg,Act.eval,Deferred.ofValue,invoke,qgc hb]
    exact qgf hE hkk h hnd hd hrun (qga h hl hz) hK
   ·cases hf
  ·cases hm
 case clx f args=>exact Bool.noConfusion (show false=true from hm)
 case pan x=>exact Bool.noConfusion (show false=true from hm)
 case clv x args=>
  simp only at hm
  split at hm
  ·rename_i c hc
   exact qgh hE hkk h hd hc hm hK
  ·cases hm
 case nxt x=>exact Bool.noConfusion (show false=true from hm)
 case xo k args=>
  simp only at hm
  obtain⟨st',h1,h2⟩:=qdM h hd hm (show xoK st d k (args.map (·.ev st)) _ from hK)
  exact qg7 hnd h1 h2
 case niq ng x=>exact Bool.noConfusion (show false=true from hm)
 case sto sz x v=>
  simp only[zN]at hm
  have hn:=none_of hm.1
  have hdn:d=none:=by simpa using hm.1
  subst hdn
  exact qg7 hnd (by rw[hn];exact qc2 h rfl hm.2 hK.1) hK.2
 case mup kd x k v=>exact Bool.noConfusion (show false=true from hm)
 case est x s v=>exact Bool.noConfusion (show false=true from hm)
 case men kd zero x k=>
  obtain⟨i,j,rfl,e,hi,hm⟩:=some_of hm
  simp only[opK,qcH,if_true]at hK
  exact qg7 hnd (by rw[e];exact qcn h hi hm hK.1) hK.2
 case alc zero=>
  obtain⟨i,j,rfl,e,hi,hm⟩:=some_of hm
  simp only[opK,qcH,if_true]at hK
  exact qg7 hnd (by rw[e];exact qbS h hi hm) hK.2
 case box x=>
  obtain⟨i,j,rfl,e,hi,hm⟩:=some_of hm
  simp only[opK,qcH,if_true]at hK
  exact qg7 hnd (by rw[e];exact qbR h hi hm hK.1) hK.2
 case bsl es ty zero m parts=>
  obtain⟨i,j,rfl,e,hi,hm⟩:=some_of hm
  simp only[opK,qcH,if_true]at hK
  exact qg7 hnd (by rw[e];exact qbV h hi hm hK.1) hK.2
 case mks es ty by_ zero l c=>
  obtain⟨i,j,rfl,e,hi,hm⟩:=some_of hm
  simp only[opK,qcH,if_true]at hK
  exact qg7 hnd (by rw[e];exact qbW h hi hm hK.1) hK.2
 case app es ty by_ s x=>
  obtain⟨i,j,rfl,e,hi,hm⟩:=some_of hm
  simp only[opK,qcH,if_true]at hK
  exact qg7 hnd (by rw[e];exact qcb h hi hm hK.1) hK.2
 case mkm kd=>
  obtain⟨i,j,rfl,e,hi,hm⟩:=some_of hm
  simp only[opK,qcH,if_true]at hK
  exact qg7 hnd (by rw[e];exact qcf h hi hm) hK.2
 case rng x=>
  obtain⟨i,j,rfl,e,hi,hm⟩:=some_of hm
  simp only[opK,qcH,if_true]at hK
  exact qg7 hnd (by rw[e];exact qcp h hi hm hK.1) hK.2
 case cpy es x y=>
  simp only at hm
  simp only[opK,qcH,if_true]at hK
  exact qg7 hnd (qca h hd hm hK.1) hK.2
 case bad=>exact(show False from hK.1).elim
 all_goals first|exact qg6 h hnd hd (qbD h hm hK.1) hK.2|exact Bool.noConfusion (show false=true from hm)
theorem qgl{ks:List Nat}(h:Sim w0 Z0 N st a w):Sim w0 Z0 N (st.keepS ks) a w:=by
 obtain⟨Z,L,h⟩:=h
 refine⟨Z,L,h.forget (fun i v hl=> ?_) (fun _ _ h=>h) (fun _ _ h=>h) (fun _ _ h=>h)⟩
 simp only[St.keepS]at hl
 rw[qa5 st.s (inK ks)]at hl
 split at hl
 ·exact .inl hl
 ·cases hl
theorem qgm: ∀(ts:List Nat) (st:St),Sim w0 Z0 N st a w->Sim w0 Z0 N (qcO st ts) a w
 |[],_,h=>h
 | t :: r, st, ⟨Z, L, h⟩ => by
   obtain⟨Z',h'⟩:=h.frzs (cellsOf (st.get t))
   exact qgm r _ ⟨Z',L,h'⟩
theorem qgn{st' :St}(h:Sim w0 Z0 N st a w)(hw:SWk st st'):Sim w0 Z0 N st' a w:=hw _ _ _ _ _ h
theorem qgo{ks:List Nat}(h:Sim w0 Z0 N st a w):Sim w0 Z0 N (st.gc ks) a w:=by
 obtain⟨Z,L,h⟩:=h
 exact⟨Z,L,h.forget (fun i v hl=> .inl (qa8 _ _ (fun _ _=>rfl) i v hl)) (fun i v hl=>qa8 _ _ (fun _ _=>rfl) i v hl) (fun i v hl=>qa8 _ _ (fun _ _=>rfl) i v hl) (fun i v hl=>qa8 _ _ (fun _ _=>rfl) i v hl)⟩
theorem qgp{ops:Array Oper}{j s:Nat}{tmps:Array Value}{b:Bool}(hj:(match ops[j]? with|some o=>o.dst==some s|none=>false)=true)(hb:tmps.getD s undef= .bool b):yielded ops tmps j=some b:=by
 split at hj
 ·rename_i o ho
  simp at hj
  have hs:tmps[s]? =some (.bool b):=by
   cases ht:tmps[s]? with
   |none=>rw[zO,ht]at hb;simp[undef]at hb
   |some v=>rw[zO,ht]at hb;simp at hb;rw[hb]
  simp[yielded,ho,hj,hs]
 ·cases hj
theorem qgq{Z:Zone}{L:Lay} :VR w Z L (.tup []) undef:=⟨#[],rfl,rfl,fun j c h=>by simp at h⟩
theorem qgr{ops:Array Oper}{j s:Nat}{tmps:Array Value}(hj:(match ops[j]? with|some o=>o.dst==some s|none=>false)=true){v:Value}(hv:tmps.getD s undef=v)(hu: ∀b,v≠ .bool b):yielded ops tmps j=none:=by
 split at hj
 ·rename_i o ho
  simp at hj
  simp only[yielded,ho,Option.bind_some,hj]
  cases ht:tmps[s]? with
  |none=>rfl
  |some u=>
    rw[zO,ht]at hv
    simp at hv
    subst hv
    cases u<;>first|rfl|exact absurd rfl (hu _)
 ·cases hj
theorem qgs{j:Nat}(hj:j<N.n):N.val a (N.K+j)=a.tmps.getD j undef:=by
 unfold Fr.val
 rw[if_pos ⟨Nat.le_add_right _ _,Nat.add_lt_add_left hj _⟩,show N.K+j-N.K=j from by omega]
theorem qgt (h : Inv w0 Z0 N Z L st a w) {ops : Array Oper} {g : Option (Nat × Bool)} {o : Oper} (hg : qd1 N.sh ops g o.guard = true) {yes no : Prop} (hK : grdK st g yes no) :
  if Region.wanted o (yielded ops a.tmps)then yes else no:=by
 unfold grdK at hK
 unfold qd1 at hg
 split at hg
 ·rename_i e1
  rw[if_pos (by simp[Region.wanted,e1])]
  exact hK
 ·rename_i s wnt j wnt' e2
  simp only[zN,beq_iff_eq]at hg
  obtain⟨rfl,hj⟩:=hg
  have hj' : ∃k,(match ops[j]? with|some o=>o.dst==some k|none=>false)=true/\s=N.K+k/\k<N.n:=by
   split at hj
   ·rename_i o' ho
    cases hdd:o'.dst with
    |none=>rw[hdd]at hj;simp[qcV]at hj
    |some k=>
      rw[hdd]at hj
      simp only[qcV,zN,beq_iff_eq,decide_eq_true_eq]at hj
      exact⟨k,(by rw[ho];show(o'.dst==some k)=true;rw[hdd];exact beq_self_eq_true _),hj.1,hj.2⟩
   ·cases hj
  obtain⟨k,hk1,rfl,hk2⟩:=hj'
  simp only at hK
  split at hK
  ·rename_i b hb
   have hv:=(h.get (N.K+k))
   rw[hb,qgs hk2]at hv
   have hy:=qgp hk1 hv.sc
   by_cases hw:b=wnt
   ·rw[if_pos (by simp[Region.wanted,e2,hy,hw])]
    exact hK.1 hw
   ·rw[if_neg (by simp[Region.wanted,e2,hy,hw])]
    exact hK.2 hw
  ·rename_i hb
   have hv:=(h.get (N.K+k))
   rw[hb,qgs hk2]at hv
   obtain⟨vs,e3,_,_⟩:=hv
   have hy:=qgr hk1 e3 (fun b hh=>by cases hh)
   rw[if_neg (by simp[Region.wanted,e2,hy])]
   exact hK
  ·exact hK.elim
 ·cases hg
theorem qgu (hE : EnvOK P w0 Z0 N.X N.G) (hkk : P.kk <= N.K) {ops : Array Oper} {Q : Exit -> Act -> World -> Prop} (hs : Sim w0 Z0 N st a w) {ao : AO} {o : Oper} (hg : qd1 N.sh ops ao.g o.guard = true) (hop : qd0 P.p N.sh ao.op ao.d o.dst o.op = true)
  {K:St->Prop} (hK:grdK st ao.g (opK P ao st K) (K (st.put ao.d (.tup [])))) (hpan: ∀ch a w,qg1 w0 Z0 N (P.pan ch) a w->Q (.panic ch) a w):
  if Region.wanted o (yielded ops a.tmps)then o.wpIn (Fw ro) n P.p a w (qg1 w0 Z0 N K) Q else qg1 w0 Z0 N K (a.put o.dst undef) w:=by
 obtain⟨Z,L,h⟩:=hs
 have hy:=qgt h hg hK
 split
 ·rename_i hw
  rw[if_pos hw]at hy
  exact qgk hE hkk h hop hy hpan
 ·rename_i hw
  rw[if_neg hw]at hy
  simp only[qd0,zN]at hop
  exact⟨_,hy,Z,L,h.put (qg5 hop.1) qgq⟩
theorem qgv(hE:EnvOK P w0 Z0 N.X N.G)(hkk:P.kk<=N.K){ops:Array Oper}{Q:Exit->St->Prop}(hpan: ∀ch st,P.pan ch st->Q (.panic ch) st): ∀(l:List AO) (os:List Oper) (st:St) (a:Act) (w:World),qd2 P.p N.sh ops l os=true->opsK P l st (Q .normal)->Sim w0 Z0 N st a w->wpListIn (Fw ro) n P.p ops (lift w0 Z0 N Q) os a w
 |[],[],st,a,w,_,hK,hs=>⟨st,hK,hs⟩
 |[],_::_,_,_,_,h,_,_=>by simp[qd2]at h
 |_::_,[],_,_,_,h,_,_=>by simp[qd2]at h
 | ao :: l, o :: os, st, a, w, hm, hK, hs => by
   simp only[qd2,zN]at hm
   obtain⟨⟨hg,hop⟩,hm⟩:=hm
   have hwp:=qgu (ro:=ro) (n:=n) (Q:=lift w0 Z0 N Q) hE hkk hs hg hop hK (fun ch _ _ ⟨st,h1,h2⟩=>⟨st,hpan ch st h1,h2⟩)
   have next: ∀a' w',qg1 w0 Z0 N (fun st' =>opsK P l st' (Q .normal)) a' w' ->wpListIn (Fw ro) n P.p ops (lift w0 Z0 N Q) os a' w' :=fun a' w' ⟨st',h1,h2⟩=>qgv hE hkk hpan l os st' a' w' hm h1 h2
   unfold wpListIn
   split
   ·rename_i hw
    rw[if_pos hw]at hwp
    exact Oper.wpIn_mono next hwp
   ·rename_i hw
    rw[if_neg hw]at hwp
    exact⟨fun _ _=>trivial,next _ _ hwp⟩
theorem qgw (hE : EnvOK P w0 Z0 N.X N.G) (hkk : P.kk <= N.K) {ops : Array Oper} {Q : Exit -> St -> Prop} (hpan : ∀ ch st, P.pan ch st -> Q (.panic ch) st) : ∀ (r : List (List Nat × List AO)) (l : List AO) (os : List Oper) (st : St) (a : Act) (w : World),
  qd2 P.p N.sh ops (l++segO r) os=true->opsK P l st (fun st' =>segK P r st' (Q .normal))->Sim w0 Z0 N st a w->wpListIn (Fw ro) n P.p ops (lift w0 Z0 N Q) os a w
 |[],[],[],st,a,w,_,hK,hs=>⟨st,hK,hs⟩
 |[],[],_::_,_,_,_,h,_,_=>by simp[qd2,segO]at h
 |x::r,[],os,st,a,w,hm,hK,hs=>qgw hE hkk hpan r x.2 os (st.keepS x.1) a w hm hK (qgl hs)
 |_,_::_,[],_,_,_,h,_,_=>by simp[qd2]at h
 | r, ao :: l, o :: os, st, a, w, hm, hK, hs => by
   simp only[List.cons_append,qd2,zN]at hm
   obtain⟨⟨hg,hop⟩,hm⟩:=hm
   have hwp:=qgu (ro:=ro) (n:=n) (Q:=lift w0 Z0 N Q) hE hkk hs hg hop hK (fun ch _ _ ⟨st,h1,h2⟩=>⟨st,hpan ch st h1,h2⟩)
   have next: ∀a' w',qg1 w0 Z0 N (fun st' =>opsK P l st' (fun st2=>segK P r st2 (Q .normal))) a' w' ->wpListIn (Fw ro) n P.p ops (lift w0 Z0 N Q) os a' w' :=fun a' w' ⟨st',h1,h2⟩=>qgw hE hkk hpan r l os st' a' w' hm h1 h2
   unfold wpListIn
   split
   ·rename_i hw
    rw[if_pos hw]at hwp
    exact Oper.wpIn_mono next hwp
   ·rename_i hw
    rw[if_neg hw]at hwp
    exact⟨fun _ _=>trivial,next _ _ hwp⟩
termination_by r l=>(r.length,l.length)
theorem qgx{κ:Sh}{ops:Array Oper} : ∀(l:List AO) (os:List Oper),qd2 P.p κ ops l os=true->l.length=os.length/\ ∀(i:Nat) (ao:AO) (o:Oper),l[i]? =some ao->os[i]? =some o->qd1 κ ops ao.g o.guard=true/\qd0 P.p κ ao.op ao.d o.dst o.op=true
 |[],[],_=>⟨rfl,fun _ _ _ h=>by simp at h⟩
 |[],_::_,h=>by simp[qd2]at h
 |_::_,[],h=>by simp[qd2]at h
 | ao :: l, o :: os, h => by
   simp only[qd2,zN]at h
   obtain⟨⟨hg,hop⟩,hm⟩:=h
   obtain⟨h1,h2⟩:=qgx l os hm
   refine⟨by simp[h1],fun i ao' o' hi ho=> ?_⟩
   cases i with
   |zero=>simp at hi ho;subst hi ho;exact⟨hg,hop⟩
   |succ i=>simp at hi ho;exact h2 i ao' o' hi ho
theorem qgy{α:Type}{p:α} : ∀ {l:List α},p∈l-> ∃l1 l2,l=l1++p::l2
 |[],h=>by cases h
 | a :: l, h => by
   rcases List.mem_cons.1 h with rfl|h
   ·exact⟨[],l,rfl⟩
   ·obtain⟨l1,l2,rfl⟩:=qgy h
    exact⟨a::l1,l2,rfl⟩
theorem qgz (hE : EnvOK P w0 Z0 N.X N.G) (hkk : P.kk <= N.K) {os : Array Oper} {ops : List DO} (hok : qd2 P.p N.sh os (ops.map DO.o) os.toList = true) (hord : qdj [] [] ops os.toList = true) {Q : Exit -> St -> Prop} (hpan : ∀ ch st, P.pan ch st -> Q (.panic ch) st) :
  ∀(fuel:Nat) (L:List (Nat×DO)) (listed:Array Bool) (st:St) (a:Act) (w:World),L.length<=fuel->(∀p∈L,ops[p.1]? =some p.2)->L.Pairwise (fun p q=>p.1<q.1)->
   (∀i,i<os.size->(listed.getD i true=false ↔ ∃x,(i,x)∈L))->listed.size=os.size->Cl os.toList (fun i=> ∃x,(i,x)∈L)->csK P (L.map (·.2)) st (Q .normal)->Sim w0 Z0 N st a w->
   wpAnyIn (Fw ro) n P.p .any os (lift w0 Z0 N Q) fuel listed a w:=by
 obtain⟨hlen,hspec⟩:=qgx _ _ hok
 have hlen' :ops.length=os.size:=by simpa using hlen
 have hords:=fun i o x=>qg0 ops os.toList ops os.toList [] [] [] rfl rfl rfl rfl (fun k j h=>by simp at h) hord i o x (Nat.zero_le _)
 intro fuel
 induction fuel with
 |zero=>
   intro L listed st a w hf _ _ hl hsz _ hK hs
   have hL:L=[]:=List.length_eq_zero_iff.1 (Nat.le_zero.1 hf)
   subst hL
   refine⟨?_,st,hK,hs⟩
   rw[List.eq_nil_iff_forall_not_mem]
   intro i hi
   rw[mem_ready]at hi
   obtain⟨h1,o,h2,_⟩:=hi
   have hlt:i<os.size:=(Array.getElem?_eq_some_iff.1 h2).1
   obtain⟨x,hx⟩:=(hl i hlt).1 h1
   cases hx
 |succ fuel ih=>
   intro L listed st a w hf hL hsort hl hsz hcl hK hs
   refine⟨fun hr=> ?_,fun i hi=> ?_⟩
   ·cases L with
    |nil=>exact⟨st,hK,hs⟩
    |cons p L' =>
      exfalso
      have hp:=hL p zX
      have hlt:p.1<os.size:=by rw[<- hlen'];exact(zM.1 hp).1
      have:p.1∈Region.ready .any os listed:=by
       rw[mem_ready]
       refine⟨(hl p.1 hlt).2 ⟨p.2,zX⟩,os[p.1],Array.getElem?_eq_getElem hlt,fun e he hb=> ?_⟩
       have ho:os.toList[p.1]? =some os[p.1]:=by simp[hlt]
       have hlt2:=(hords p.1 _ _ ho hp).2.1 e (by simpa using he) hb
       have hnot: ¬(listed.getD e.on true=false):=fun h=>by
        obtain⟨x,hx⟩:=(hl e.on (by omega)).1 h
        rcases List.mem_cons.1 hx with h1|h1
        ·rw[<- h1]at hlt2;exact Nat.lt_irrefl _ hlt2
        ·have:=(List.pairwise_cons.1 hsort).1 _ h1
         simp only at this;omega
       have he1:e.on<listed.size:=by omega
       simp only[Array.getD,he1,dif_pos]at hnot ⊢
       simpa using hnot
      rw[hr]at this;cases this
   ·rw[mem_ready]at hi
    obtain⟨h1,o,h2,h3⟩:=hi
    have hlt:i<os.size:=(Array.getElem?_eq_some_iff.1 h2).1
    obtain⟨x,hx⟩:=(hl i hlt).1 h1
    obtain⟨L1,L2,rfl⟩:=qgy hx
    have hxo:=hL _ hx
    have ho:os.toList[i]? =some o:=by simpa using h2
    have hdone: ∀e∈o.after.toList,Region.binds .any e=true-> ¬ ∃z,(e.on,z)∈L1++(i,x)::L2:=fun e he hb hz=>by
     have h4:=h3 e (by simpa using he) hb
     have h5:=(hords i o x ho hxo).2.1 e he hb
     have h6:=(hl e.on (by omega)).2 hz
     have he1:e.on<listed.size:=by omega
     simp only[Array.getD,he1,dif_pos]at h4 h6
     rw[h4]at h6;cases h6
    have hpair: ∀z∈L1.map (·.2),qdf z x=true:=fun z hz=>by
     obtain⟨p,hp,rfl⟩:=List.mem_map.1 hz
     have hpm:p∈L1++(i,x)::L2:=List.mem_append_left _ hp
     have hpi:p.1<i:=(List.pairwise_append.1 hsort).2.2 p hp (i,x) zX
     exact(hords i o x ho hxo).2.2 (fun k=> ∃z,(k,z)∈L1++(i,x)::L2) hcl hdone p.1 p.2 hpi (hL p hpm) ⟨p.2,hpm⟩
    have hK' :csK P (L1.map (·.2)++x::L2.map (·.2)) st (Q .normal):=by simpa using hK
    have hb:=qfJ (L2.map (·.2)) (L1.map (·.2)) st hpair hK'
    have hxa:(ops.map DO.o)[i]? =some x.o:=by simp[hxo]
    obtain⟨hg,hop⟩:=hspec i x.o o hxa ho
    have hst:qd5 x.o.op=true->x.o.d=none:=fun hst=>by
     cases hop' :x.o.op<;>rw[hop']at hst<;>first|(cases hst;done)|skip
     rw[hop']at hop
     simp only[qd0,zN]at hop
     simpa using hop.2.1
    have hwp:=qgu (ro:=ro) (n:=n) (Q:=lift w0 Z0 N Q) (ops:=os) hE hkk hs hg hop (qfV hst hb) (fun ch _ _ ⟨st,h1,h2⟩=>⟨st,hpan ch st h1,h2⟩)
    have hnd: ∀z,(i,z)∉L1++L2:=fun z hz=>by
     have h4:=List.pairwise_append.1 hsort
     rcases yC.1 hz with h5|h5
     ·have:=h4.2.2 _ h5 (i,x) zX
      exact Nat.lt_irrefl _ this
     ·have:=(List.pairwise_cons.1 h4.2.1).1 _ h5
      exact Nat.lt_irrefl _ this
    have hmem: ∀j,j≠i->((∃z,(j,z)∈L1++L2) ↔ ∃z,(j,z)∈L1++(i,x)::L2):=fun j hj=>by
     constructor<;>rintro⟨z,hz⟩
     ·refine⟨z,?_⟩
      rcases yC.1 hz with h5|h5
      ·exact List.mem_append_left _ h5
      ·exact List.mem_append_right _ (zT _ h5)
     ·refine⟨z,?_⟩
      rcases yC.1 hz with h5|h5
      ·exact List.mem_append_left _ h5
      ·rcases List.mem_cons.1 h5 with h6|h6
       ·cases h6;exact absurd rfl hj
       ·exact List.mem_append_right _ h6
    have next: ∀a' w',qg1 w0 Z0 N (fun st' =>csK P (L1.map (·.2)++L2.map (·.2)) st' (Q .normal)) a' w' ->wpAnyIn (Fw ro) n P.p .any os (lift w0 Z0 N Q) fuel (listed.setIfInBounds i true) a' w' :=by
     rintro a' w' ⟨st',h4,h5⟩
     refine ih (L1++L2) _ st' a' w' (by simp at hf ⊢;omega) (fun p hp=> ?_) ?_ (fun j hj=> ?_) (by simpa using hsz) ?_ (by simpa using h4) h5
     ·rcases yC.1 hp with h6|h6
      ·exact hL p (List.mem_append_left _ h6)
      ·exact hL p (List.mem_append_right _ (zT _ h6))
     ·have h4:=List.pairwise_append.1 hsort
      refine List.pairwise_append.2 ⟨h4.1,(List.pairwise_cons.1 h4.2.1).2,fun p hp q hq=>h4.2.2 p hp q (zT _ hq)⟩
     ·by_cases hji:j=i
      ·subst hji
       have hjs:j<listed.size:=by omega
       constructor
       ·intro h;simp[hjs]at h
       ·rintro⟨z,hz⟩;exact absurd hz (hnd z)
      ·rw[getD_set_ne true (Ne.symm hji),hl j hj]
       exact(hmem j hji).symm
     ·intro k o' hk hnk e he hbd hz
      by_cases hki:k=i
      ·subst hki
       rw[ho]at hk;cases hk
       by_cases hej:e.on=k
       ·rw[hej]at hz;obtain⟨z,hz⟩:=hz;exact hnd z hz
       ·exact hdone e he hbd ((hmem _ hej).1 hz)
      ·by_cases hej:e.on=i
       ·rw[hej]at hz;obtain⟨z,hz⟩:=hz;exact hnd z hz
       ·exact hcl k o' hk (fun h=>hnk ((hmem k hki).2 h)) e he hbd ((hmem _ hej).1 hz)
    unfold wpOpIn
    simp only[h2]
    split
    ·rename_i hw
     rw[if_pos hw]at hwp
     exact Oper.wpIn_mono next hwp
    ·rename_i hw
     rw[if_neg hw]at hwp
     exact⟨fun _ _=>trivial,next _ _ hwp⟩
theorem qgA(h:Sim w0 Z0 N st a w):Sim w0 Z0 N st a { w with drawn:=w.drawn+1 } :=by
 obtain⟨Z,L,h⟩:=h
 exact⟨Z,L,h.drew⟩
theorem qgB {id : Nat} {ops : Array Oper} {Q : Exit -> Act -> World -> Prop} (hm : (P.p.follows .mixedOrders || !Region.departs ops) = true)
  (h:wpAnyIn (Fw ro) n P.p .any ops Q ops.size (Array.replicate ops.size false) a { w with drawn:=w.drawn+1 }):(Code.region id ops true).wpIn (Fw ro) n P.p Q a w:=
 wpIn_region_draw fun t=>by
  simp only[Region.schedule,hm,if_true]
  exact wpAnyIn_sound ops.size t _ a _ h
theorem qgC{α:Type} : ∀(l:List α) (k:Nat),((l.zipIdx k).map fun p=>(p.2,p.1)).Pairwise (fun p q=>p.1<q.1)
 |[],_=> .nil
 | x :: l, k => by
   simp only[List.zipIdx_cons,zW]
   refine .cons (fun p hp=> ?_) (qgC l (k+1))
   obtain⟨q,hq,rfl⟩:=List.mem_map.1 hp
   have:=List.le_snd_of_mem_zipIdx hq
   simp only
   omega
theorem qgD (hE : EnvOK P w0 Z0 N.X N.G) (hkk : P.kk <= N.K) {os : Array Oper} {ops : List DO} {id : Nat} (hm : (P.p.follows .mixedOrders || !Region.departs os) = true) (hok : qd2 P.p N.sh os (ops.map DO.o) os.toList = true) (hord : qdj [] [] ops os.toList = true) {Q : Exit -> St -> Prop} (hpan : ∀ ch st, P.pan ch st -> Q (.panic ch) st)
  (hK:dsK P ops st (Q .normal)) (hs:Sim w0 Z0 N st a w):(Code.region id os true).wpIn (Fw ro) n P.p (lift w0 Z0 N Q) a w:=by
 obtain⟨hlen,hspec⟩:=qgx _ _ hok
 have hlen' :ops.length=os.size:=by simpa using hlen
 have hords:=fun i o x=>qg0 ops os.toList ops os.toList [] [] [] rfl rfl rfl rfl (fun k j h=>by simp at h) hord i o x (Nat.zero_le _)
 have hcs:csK P ops st (Q .normal):=qfW ops st (fun x hx=>by
  obtain⟨i,hi,rfl⟩:=List.getElem_of_mem hx
  have hio:i<os.toList.length:=by simp;omega
  have ho:os.toList[i]? =some os.toList[i]:=zL hio
  have hxo:ops[i]? =some ops[i]:=zL hi
  refine⟨(hords i _ _ ho hxo).1,fun hst=> ?_⟩
  obtain⟨hg,hop⟩:=hspec i ops[i].o _ (by simp[hxo]) ho
  cases hop' :ops[i].o.op<;>rw[hop']at hst<;>first|(cases hst;done)|skip
  rw[hop']at hop
  simp only[qd0,zN]at hop
  simpa using hop.2.1) hK
 refine qgB hm ?_
 refine qgz hE hkk hok hord hpan os.size (ops.zipIdx.map fun p=>(p.2,p.1)) _ st a _ (by simp[hlen']) (fun p hp=> ?_) (qgC ops 0) (fun i hi=> ?_) (by simp) (fun k o hk hn=> ?_) (by simpa[List.map_map,Function.comp_def]using hcs) (qgA hs)
 ·obtain⟨q,hq,rfl⟩:=List.mem_map.1 hp
  exact List.mk_mem_zipIdx_iff_getElem?.1 hq
 ·refine⟨fun _=> ?_,fun _=>by simp[hi]⟩
  have hil:i<ops.length:=by omega
  refine⟨ops[i],List.mem_map.2 ⟨(ops[i],i),?_,rfl⟩⟩
  exact List.mk_mem_zipIdx_iff_getElem?.2 (zL hil)
 ·exfalso
  have hkl:k<ops.length:=by
   have:=(zM.1 hk).1
   simp at this;omega
  exact hn ⟨ops[k],List.mem_map.2 ⟨(ops[k],k),List.mk_mem_zipIdx_iff_getElem?.2 (zL hkl),rfl⟩⟩
theorem qgE: ∀(ops:List XO) (os:List Oper) (k:Nat),qdk k ops os=true->ops.length=os.length/\ ∀i x o,ops[i]? =some x->os[i]? =some o->x.i=k+i/\(∀j∈x.deps,∃e∈o.after.toList,e.on=j/\Region.binds .any e=true)/\ ∀e∈o.after.toList,Region.binds .any e=true->e.on<k+i
 |[],[],k,_=>⟨rfl,fun i x o h=>by simp at h⟩
 |[],_::_,_,h=>by simp[qdk]at h
 |_::_,[],_,h=>by simp[qdk]at h
 | x :: r, o :: s, k, h => by
   simp only[qdk,zN,beq_iff_eq,yE,List.any_eq_true]at h
   obtain⟨⟨⟨h1,h2⟩,h3⟩,h4⟩:=h
   obtain⟨h5,h6⟩:=qgE r s (k+1) h4
   refine⟨by simp[h5],fun i y p hy hp=> ?_⟩
   cases i with
   |zero=>
     simp at hy hp;subst hy;subst hp
     refine⟨h1,h2,fun e he hb=> ?_⟩
     simp only[qdh,yE]at h3
     have:=h3 e he
     simpa[hb]using this
   |succ i=>
     simp at hy hp
     obtain⟨g1,g2,g3⟩:=h6 i y p hy hp
     exact⟨by omega,g2,fun e he hb=>by have:=g3 e he hb;omega⟩
theorem qgF (hE : EnvOK P w0 Z0 N.X N.G) (hkk : P.kk <= N.K) {os : Array Oper} {ops : List XO} (hok : qd2 P.p N.sh os (ops.map XO.o) os.toList = true) (hord : qdk 0 ops os.toList = true) {Q : Exit -> St -> Prop} (hpan : ∀ ch st, P.pan ch st -> Q (.panic ch) st) :
  ∀(fuel:Nat) (dn:List Nat) (listed:Array Bool) (st:St) (a:Act) (w:World),(∀i,i<os.size->(listed.getD i true=true ↔ i∈dn))->listed.size=os.size->allK P ops fuel dn st (Q .normal)->Sim w0 Z0 N st a w->
   wpAnyIn (Fw ro) n P.p .any os (lift w0 Z0 N Q) fuel listed a w:=by
 obtain⟨_,hspec⟩:=qgx _ _ hok
 obtain⟨hlen,hords⟩:=qgE _ _ _ hord
 have hlen' :ops.length=os.size:=by simpa using hlen
 have get: ∀i,i<os.size-> ∃x,ops[i]? =some x:=fun i hi=>⟨_,zL (by omega)⟩
 have hfalse: ∀(listed:Array Bool),listed.size=os.size-> ∀i,i<os.size->listed.getD i false=listed.getD i true:=fun listed hs i hi=>by
  have:i<listed.size:=by omega
  simp[Array.getD,this]
 have hall: ∀(dn:List Nat) (listed:Array Bool),(∀i,i<os.size->(listed.getD i true=true ↔ i∈dn))->listed.size=os.size->Region.ready .any os listed=[]->qcJ ops dn=true:=by
  intro dn listed hl hs hr
  have key: ∀m i,i<m->i<os.size->i∈dn:=by
   intro m
   induction m with
   |zero=>intro i h;omega
   |succ m ih=>
     intro i him hi
     by_cases hd:i∈dn
     ·exact hd
     ·exfalso
      have:i∈Region.ready .any os listed:=by
       rw[mem_ready]
       refine⟨?_,os[i],Array.getElem?_eq_getElem hi,fun e he hb=> ?_⟩
       ·cases h:listed.getD i true with
        |false=>rfl
        |true=>exact absurd ((hl i hi).1 h) hd
       ·obtain⟨x,hx⟩:=get i hi
        have h3:=(hords i x os[i] hx (by simp[hi])).2.2 e (by simpa using he) hb
        have hlt:e.on<os.size:=by omega
        rw[hfalse listed hs _ hlt]
        exact(hl _ hlt).2 (ih _ (by omega) hlt)
      rw[hr]at this;cases this
  simp only[qcJ,yE]
  intro x hx
  obtain⟨i,hi,rfl⟩:=List.getElem_of_mem hx
  have hio:i<os.size:=by omega
  have h1:=(hords i ops[i] os[i] (zL hi) (by simp[hio])).1
  rw[h1,Nat.zero_add]
  simpa using key (i+1) i (by omega) hio
 intro fuel
 induction fuel with
 |zero=>
   intro dn listed st a w hl hs hK hsim
   refine⟨?_,st,hK.2,hsim⟩
   rw[List.eq_nil_iff_forall_not_mem]
   intro i hi
   rw[mem_ready]at hi
   obtain⟨h1,o,h2,_⟩:=hi
   have hlt:i<os.size:=(Array.getElem?_eq_some_iff.1 h2).1
   obtain⟨x,hx⟩:=get i hlt
   have hd:=yE.1 hK.1 x (zP hx)
   have h3:=(hords i x o hx (by simpa using h2)).1
   rw[h3,Nat.zero_add]at hd
   have:=(hl i hlt).2 (by simpa using hd)
   rw[h1]at this;cases this
 |succ fuel ih=>
   intro dn listed st a w hl hs hK hsim
   refine⟨fun hr=>⟨st,hK.1 (hall dn listed hl hs hr),hsim⟩,fun i hi=> ?_⟩
   rw[mem_ready]at hi
   obtain⟨h1,o,h2,h3⟩:=hi
   have hlt:i<os.size:=(Array.getElem?_eq_some_iff.1 h2).1
   obtain⟨x,hx⟩:=get i hlt
   have ho:os.toList[i]? =some o:=by simpa using h2
   obtain⟨g1,g2,g3⟩:=hords i x o hx ho
   rw[Nat.zero_add]at g1
   have hrd:rdyB dn x=true:=by
    simp only[rdyB,zN,Bool.not_eq_true',yE]
    refine⟨?_,fun j hj=> ?_⟩
    ·rw[g1]
     cases h:dn.contains i with
     |false=>rfl
     |true=>
       have:=(hl i hlt).2 (by simpa using h)
       rw[h1]at this;cases this
    ·obtain⟨e,he,rfl,hb⟩:=g2 j hj
     have h4:=h3 e (by simpa using he) hb
     have hlt2:e.on<os.size:=by have:=g3 e he hb;omega
     rw[hfalse listed hs _ hlt2]at h4
     simpa using(hl _ hlt2).1 h4
   have hK' :=hK.2 x (zP hx) hrd
   obtain⟨hg,hop⟩:=hspec i x.o o (by simp[hx]) ho
   have hwp:=qgu (ro:=ro) (n:=n) (Q:=lift w0 Z0 N Q) (ops:=os) hE hkk hsim hg hop hK' (fun ch _ _ ⟨st,h1,h2⟩=>⟨st,hpan ch st h1,h2⟩)
   have next: ∀a' w',qg1 w0 Z0 N (fun st' =>allK P ops fuel (x.i::dn) st' (Q .normal)) a' w' ->wpAnyIn (Fw ro) n P.p .any os (lift w0 Z0 N Q) fuel (listed.setIfInBounds i true) a' w' :=by
    rintro a' w' ⟨st',h4,h5⟩
    refine ih (x.i::dn) _ st' a' w' (fun j hj=> ?_) (by simpa using hs) h4 h5
    have hjs:j<listed.size:=by omega
    by_cases hji:j=i
    ·subst hji
     simp[hjs,g1]
    ·rw[getD_set_ne true (Ne.symm hji),hl j hj,g1]
     simp[hji]
   unfold wpOpIn
   simp only[h2]
   split
   ·rename_i hw
    rw[if_pos hw]at hwp
    exact Oper.wpIn_mono next hwp
   ·rename_i hw
    rw[if_neg hw]at hwp
    exact⟨fun _ _=>trivial,next _ _ hwp⟩
theorem qgG {F : Fence} {m : Nat} {Q : Exit -> Act -> World -> Prop} {c : Code} (I : Nat -> Act -> World -> Prop) (n₀ : Nat) (h₀ : I n₀ a w)
  (round: ∀k a w,I k a w->c.wpIn F m P.p (Exit.then (fun a' w' => ∃k',k' <k/\I k' a' w') Q) a w):(Code.loop c).wpIn F m P.p Q a w:=by
 refine wpIn_loop (fun a w=> ∃k,I k a w) (fun a w=>leastOf (fun k=>I k a w)) ⟨n₀,h₀⟩ ?_
 intro a w hI
 refine wpIn_mono (round _ a w (leastOf_spec hI).1) ?_
 intro e a' w' hq
 cases e with
 |normal=>
   obtain⟨n',hlt,hI'⟩:=hq
   exact show(∃n,I n a' w')/\leastOf (fun n=>I n a' w')<leastOf (fun n=>I n a w)from⟨⟨n',hI'⟩,Nat.lt_of_le_of_lt ((leastOf_spec ⟨n',hI'⟩).2 n' hI') hlt⟩
 |exit id=>exact hq
 |goto l=>exact hq
 |ret=>exact hq
 |panic ch=>exact hq
 |outgrown=>exact hq
theorem qgH{b:Frame}{k:List Item}{cs:List Frame}{c:Code} :step P.p (lone (b.atR a (.code (.scope c)::k)) cs w)= .next (lone (b.atR a (.code c:: .inScope c::k)) cs w):=
 step_lone_go (by simp[stepG,stepG.exec,Frame.atR])
theorem qgI{b:Frame}{k:List Item}{cs:List Frame}{c:Code} :step P.p (lone (b.atR a (.inScope c::k)) cs w)= .next (lone (b.atR a k) cs w):=
 step_lone_go (by simp[stepG,stepG.exec,Frame.atR])
theorem qgJ{F:Fence}{m:Nat}{Q:Exit->Act->World->Prop}{c:Code}(h:c.wpIn F m P.p (Exit.noGoto Q) a w):(Code.scope c).wpIn F m P.p Q a w:=by
 intro b k cs hro hb hr
 have h0:(lone (b.atR a (.code (.scope c)::k)) cs w).fenced P.p F:=fenced_calm hb hr rfl
 obtain⟨e,a₁,w₁,hq,harr⟩:=h b (.inScope c::k) cs hro hb hr
 cases e with
 |normal=>exact⟨.normal,a₁,w₁,hq,.head h0 qgH (StepsIn.trans harr (.one (fenced_calm hb hr rfl) qgI))⟩
 |exit id=>
   have hx:exitTo id (.inScope c::k)=exitTo id k:=by simp[exitTo]
   exact⟨_,a₁,w₁,hq,fun k' hk=> .head h0 qgH (harr.1 k' (by rw[hx];exact hk)),fun hr' hk=>let⟨k₁,h1,h2⟩:=harr.2 hr' (by rw[hx];exact hk);⟨k₁,h1,.head h0 qgH h2⟩⟩
 |goto l=>exact hq.elim
 |ret=>exact⟨_,a₁,w₁,hq,.of_steps (.one h0 qgH) harr⟩
 |panic ch=>exact⟨_,a₁,w₁,hq,.of_steps (.one h0 qgH) harr⟩
 |outgrown=>exact⟨_,a₁,w₁,hq,.of_steps (.one h0 qgH) harr⟩
theorem EnvOK.noY(h:P.noY)(X:Gh)(G:Nat->Value)(hg:GL P.p w0):EnvOK P w0 Z0 X G:=⟨hg,fun _ _ _ _ _ _ _ _ _ _ _ _ _ hY=>(h.1 _ _ _ _ hY).elim⟩
theorem Inv.relay (h : Inv w0 Z0 N Z L st a w) {id : Nat} (y : Nat -> Nat) (hyb : ∀ i, i ≠ id -> y i = L.yb i) (hn : st.noTo (fun j => j == id) nul = true) (hb : ∀ cs, lk st.b id ≠ some cs) {x : List (Nat × Obj)} (hx : ∀ z ∈ x, RecAt w0 Z w z) (hdm : N.dm = none) :
  Inv w0 Z0 { N with X:=⟨x,y⟩ } Z { L with yb:=y } st a w:=by
 have hl:LSame L { L with yb:=y } (fun j=>j==id) nul:=⟨fun _ _=>rfl,fun _ _=>rfl,fun _ _=>rfl,fun _ _=>rfl,fun _ _=>rfl,fun i hi=>hyb i (by simpa using hi),fun _ _=>rfl⟩
 have hk:Kept Z w w:=⟨fun _ _ _=>rfl⟩
 have hR:=Rest.keep (pb:=fun j=>j==id) (pa:=nul) h.rest hk (fun _ _ h=>h) (fun _ _ _ _ _ hp=>hp) (fun _ _ _ _=>rfl) (Nat.le_refl _) hl (m' :=st.m) (fun i M hM=>⟨hM,St.noTo_map hn hM⟩)
 refine⟨h.zt,h.z0,h.zn,h.zb,h.below,h.ownb,h.owna,h.injb,h.inja,h.injx,fun i cs hi=> ?_,fun i A hi=> ?_,hR.1,hR.2.1,hR.2.2.1,hx,fun _=>rfl,h.size,fun dd e=>(by rw[show N.dm=some dd from e]at hdm;cases hdm),fun i v hi=> ?_⟩
 ·exact(h.boxes i cs hi).keep hk (fun _ _ h=>h) rfl hl (by simp only[beq_eq_false_iff_ne];intro e;subst e;exact hb cs hi) (St.noTo_box hn hi)
 ·obtain⟨c,hX⟩:=h.arrs i A hi
  exact⟨c,hX.keep hk (fun _ _ h=>h) rfl hl rfl⟩
 ·exact(h.slots i v hi).keep hk (fun _ _ h=>h) hl (St.noTo_slot hn hi)
theorem Inv.turn (h : Inv w0 Z0 N Z L st a w) {k : Nat} {o o' : Obj} (hr : RecAt w0 Z w (k, o)) (ho' : qaa o' = true) (x : List (Nat × Obj)) (hx : ∀ z ∈ x, z = (k, o') \/ (RecAt w0 Z w z /\ z.1 ≠ k)) (hdm : N.dm = none) :
  Inv w0 Z0 { N with X:=⟨x,N.X.y⟩ } Z L st a (w.putObj k o'):=by
 obtain⟨h1,h4,h2,h3⟩:=hr
 simp only at h1 h2 h3 h4
 have hlt:k<w.heap.size:=qac h1
 have hne: ∀(b:Nat) (o2:Obj),w.heap[b]? =some o2->qaa o2=false->(w.putObj k o').heap[b]? =w.heap[b]? :=fun b o2 hb hn=>World.putObj_heap_other fun e=>by
  rw[e,h1]at hb;cases hb;rw[h4]at hn;cases hn
 have hk:Kept Z w (w.putObj k o'):=⟨fun p b hp=>World.putObj_heap_other fun e=>h3 p (e▸hp)⟩
 have hrec: ∀z,RecAt w0 Z w z->z.1≠k->RecAt w0 Z (w.putObj k o') z:=fun z hz hn=>hz.keep (World.putObj_heap_other hn) (fun _ hp=>hp)
 have hsz:(w.putObj k o').heap.size=w.heap.size:=World.putObj_size
 refine⟨h.zt,h.z0,h.zn,fun p b hp=>by rw[hsz];exact h.zb p b hp,h.below.grown (grownBy_putObj' w k o') h.below.size (fun j hj=>by cases hj;exact h2),fun i cs hi=>by rw[hsz];exact h.ownb i cs hi,fun i A hi=>by rw[hsz];exact h.owna i A hi,
  h.injb,h.inja,h.injx,fun i cs hi=> ?_,fun i A hi=> ?_,fun i M hi=>by rw[hsz];exact h.ownm i M hi,h.injm,fun i M hi=> ?_,fun z hz=> ?_,h.yb,h.size,?_,fun i v hi=> ?_⟩
 ·have hB:=h.boxes i cs hi
  obtain⟨vs,T,b1,_⟩:=hB
  exact(h.boxes i cs hi).keep hk (fun _ _ h=>h) (hne _ _ b1 rfl) (LSame.refl L) rfl (by simp[PV.to_nul])
 ·obtain⟨c,hX⟩:=h.arrs i A hi
  exact⟨c,hX.keep hk (fun _ _ h=>h) (hne _ _ hX.blk rfl) (LSame.refl L) rfl⟩
 ·obtain⟨ents,clock,hR⟩:=h.maps i M hi
  refine⟨ents,clock,hR.keep hk (fun _ _ h=>h) (hne _ _ hR.blk rfl) (fun i' x' y' hi' => ?_) (LSame.refl L) rfl (by unfold Mp.to;split<;>rfl)⟩
  obtain⟨seen,b1,b2,b3⟩:=hR.itAt hi'
  exact⟨hne _ _ b1 rfl,b3⟩
 ·rcases hx z hz with rfl|⟨h5,h6⟩
  ·exact⟨World.putObj_heap_same hlt,ho',h2,h3⟩
  ·exact hrec z h5 h6
 ·intro dd e
  rw[show N.dm=some dd from e]at hdm;cases hdm
 ·exact(h.slots i v hi).keep hk (fun _ _ h=>h) (LSame.refl L) (PV.toV_nul v)
theorem qgK {κ : Sh} : ∀ {ps : List Nat} {ps' : List Nat} {args : List PV} {vs : List Value} {s : List (Nat × PV)} {tmps : Array Value} {R : PV -> Value -> Prop}, qdl κ ps ps' = true -> args.length = ps.length -> vs.length = args.length -> tmps.size = κ.n ->
  (∀(j:Nat) c,args[j]? =some c->R c (vs.getD j undef))->(∀i v,lk s i=some v->κ.K<=i->i<κ.K+κ.n->R v (tmps.getD (i-κ.K) undef))->
  (∀i v,lk (qcQ ps args s) i=some v->(i<κ.K\/κ.K+κ.n<=i)->lk s i=some v)/\
  ((ps'.zip vs).foldl (fun t (x:Nat×Value)=>t.setIfInBounds x.1 x.2) tmps).size=κ.n/\
  ∀i v,lk (qcQ ps args s) i=some v->κ.K<=i->i<κ.K+κ.n->R v (((ps'.zip vs).foldl (fun t (x:Nat×Value)=>t.setIfInBounds x.1 x.2) tmps).getD (i-κ.K) undef)
 | [], [], args, vs, s, tmps, R, _, hl, _, hs, _, h2 => by
   have:args=[]:=List.eq_nil_of_length_eq_zero hl
   subst this
   exact⟨fun i v h _=>h,hs,h2⟩
 |p::ps,q::ps',[],vs,s,tmps,R,_,hl,_,_,_,_=>by simp at hl
 |p::ps,q::ps',c::args,[],s,tmps,R,_,_,hv,_,_,_=>by simp at hv
 | p :: ps, q :: ps', c :: args, u :: vs, s, tmps, R, hz, hl, hv, hs, h1, h2 => by
   simp only[qdl,zN,beq_iff_eq,decide_eq_true_eq]at hz
   obtain⟨⟨rfl,hq⟩,hz⟩:=hz
   have ih:=qgK (s:=up s (κ.K+q) c) (tmps:=tmps.setIfInBounds q u) (R:=R) hz (by simpa using hl) (by simpa using hv) (by simpa using hs) (fun j c' hj=>by have:=h1 (j+1) c' (by simpa using hj);simpa using this) (fun i v hi hK hn=>by
    rw[qa2]at hi
    by_cases e:κ.K+q=i
    ·subst e
     rw[if_pos rfl]at hi;cases hi
     have:=h1 0 c rfl
     have hq' :q<tmps.size:=by omega
     simpa[Array.getD,hq',show κ.K+q-κ.K=q from by omega]using this
    ·rw[if_neg e]at hi
     have:=h2 i v hi hK hn
     rwa [zO,Array.getElem?_setIfInBounds_ne (by omega),<- zO])
   refine⟨fun i v hi hk=> ?_,ih.2.1,ih.2.2⟩
   have:=ih.1 i v hi hk
   rw[qa2,if_neg (by omega)]at this
   exact this
 |[],_::_,_,_,_,_,_,hz,_,_,_,_,_=>by simp[qdl]at hz
 |_::_,[],_,_,_,_,_,hz,_,_,_,_,_=>by simp[qdl]at hz
theorem qgL(K K2:Nat)(src:List (Nat×PV)): ∀(l s:List (Nat×PV)) (i:Nat) (v:PV),lk (qcP K K2 src l s) i=some v->lk s i=some v\/ ∃j u,(j,u)∈l/\i=K2+(j-K)/\v=(lk src j).getD .bot
 |[],s,i,v,h=> .inl h
 | (j, u) :: r, s, i, v, h => by
   rcases qgL K K2 src r _ i v h with h1|⟨j',u',h1,h2⟩
   ·rw[qa2]at h1
    split at h1
    ·rename_i e;cases h1;exact .inr ⟨j,u,by simp,e.symm,rfl⟩
    ·exact .inl h1
   ·exact .inr ⟨j',u',zT _ h1,h2⟩
theorem qgM{κ:Sh} : ∀ {ps ps' :List Nat},qdl κ ps ps' =true->ps.length=ps'.length
 |[],[],_=>rfl
 |_::ps,_::ps',h=>by simp only[qdl,zN]at h;simp[qgM h.2]
 |[],_::_,h=>by simp[qdl]at h
 |_::_,[],h=>by simp[qdl]at h
def AwpS(P:Env)(w0:World)(Z0:Zone)(ac:AC):Prop:=
 ∀ {N:Fr} {ro:Option Nat} {n:Nat},EnvOK P w0 Z0 N.X N.G->P.kk<=N.K-> ∀(code:Code) (Q:Exit->St->Prop) (st:St) (a:Act) (w:World),(qdm ac=true\/(ro=none/\ ∀dd,N.dm=some dd->dd.1=false))->(∀l st,¬Q (.goto l) st)->(∀ch st,P.pan ch st->Q (.panic ch) st)->chk P.p N.sh ac code=true->awp P ac Q st->Sim w0 Z0 N st a w->
  code.wpIn (Fw ro) n P.p (lift w0 Z0 N Q) a w
theorem qgN{α:Type} : ∀(l:List (Nat×α)) (i:Nat) (x:Nat×α),x∈rm l i->x∈l
 |[],_,_,h=>h
 | (k, u) :: r, i, x, h => by
   simp only[rm]at h
   split at h
   ·exact zT _ (qgN r i x h)
   ·rcases List.mem_cons.1 h with rfl|h
    ·exact zX
    ·exact zT _ (qgN r i x h)
theorem qgO(st:St)(id:Nat):(st.noId id).noTo (fun j=>j==id) nul=true:=by
 have h:=St.noTo_kill st (fun j=>j==id) nul
 simp only[St.noTo,zN]at h ⊢
 refine⟨⟨h.1.1,?_⟩,h.2⟩
 rw[yE]
 exact fun x hx=>yE.1 h.1.2 x (qgN _ _ _ hx)
theorem qgP(st:St)(id:Nat)(cs:List PV):lk (st.noId id).b id≠some cs:=by
 simp only[St.noId,qa4,if_true]
 intro h;cases h
theorem Inv.noId(h:Inv w0 Z0 N Z L st a w)(id:Nat):Inv w0 Z0 N Z L (st.noId id) a w:=(h.kill (fun j=>j==id) nul).rmBox id
theorem Inv.low(h:Inv w0 Z0 N Z L st a w)(k:Nat):Inv w0 Z0 N Z L (st.low k) a w:=by
 refine h.forget (fun i v hl=> .inl ?_) (fun _ _ h=>h) (fun _ _ h=>h) (fun _ _ h=>h)
 simp only[St.low]at hl
 rw[qa5 st.s (fun i=>decide (i<k))]at hl
 split at hl
 ·exact hl
 ·cases hl
theorem qgQ{k i:Nat}{v:PV}(h:lk (st.low k).s i=some v):lk st.s i=some v/\i<k:=by
 simp only[St.low]at h
 rw[qa5 st.s (fun i=>decide (i<k))]at h
 split at h
 ·rename_i e;exact⟨h,by simpa using e⟩
 ·cases h
theorem qgR {ρ : RF} {ps : List Nat} {ass body : AC} (hgl : GL P.p w0) (iha : AwpS P w0 Z0 ass) (ihb : AwpS P w0 Z0 body) (hkk : P.kk <= N.K) (hex : ∀ dd, N.dm = some dd -> dd.1 = false) (code : Code) (Q : Exit -> St -> Prop) (st : St) (a : Act) (w : World) (hc : chk P.p N.sh (.rngf ρ ps ass body) code = true)
  (h:awp P (.rngf ρ ps ass body) Q st) (hs:Sim w0 Z0 N st a w):code.wpIn (Fw none) n P.p (lift w0 Z0 N Q) a w:=by
 cases code<;>first|(simp[chk]at hc;done)|skip
 rename_i f' ps' ass' body'
 simp only[chk,zN,beq_iff_eq,decide_eq_true_eq]at hc
 obtain⟨⟨⟨⟨⟨⟨⟨⟨hρK,hρn⟩,hna⟩,hnb⟩,hf⟩,hz⟩,hK2⟩,hca⟩,hcb⟩:=hc
 obtain⟨_,h⟩:=h
 obtain⟨Z,L,hI⟩:=qgl (ks:=ρ.ks) hs
 generalize st.keepS ρ.ks=st1 at h hI
 unfold rngK at h
 split at h
 ·rename_i f ids e1
  obtain⟨⟨hnoY,hid⟩,hfb,hM⟩:=h
  have hv:=qcS (hI.ev hf)
  rw[e1]at hv
  have hv:a.eval f' = .func (.func f) #[] (ids.map fun i=>Value.pointer (some ⟨L.bx i,0,none⟩)).toArray:=hv
  obtain⟨lm,hlm,hmem⟩:=hI.mem
  refine wpIn_rangeFunc fun fn _=> ?_
  obtain⟨rec,hrec⟩: ∃rec:LoopState->Option Code->Loop,rec=fun st pe=> { state:=st,pending:=pe,fn,tmps:=a.tmps,params:=ps',assign:=ass',body:=body',defers:=w.heap.size } :=⟨_,rfl⟩
  obtain⟨W1,hW1⟩: ∃W1,(w.alloc (.deferred (some []))).alloc (.loop (rec .ready none))=W1:=⟨_,rfl⟩
  have hL1:W1.heap[w.heap.size+1]? =some (.loop (rec .ready none)):=by
   rw[<- hW1];have:=World.alloc_heap_new (w.alloc (.deferred (some []))) (.loop (rec .ready none));rwa [World.size_alloc]at this
  have hK1:W1.heap[w.heap.size]? =some (.deferred (some [])):=by
   rw[<- hW1];exact(Below.heap_alloc _ _ _ (by simp)).trans (World.alloc_heap_new w _)
  have hB1:Below w.heap.size w W1:=by rw[<- hW1];exact((Below.refl _ w).alloc (Nat.le_refl _) _).alloc (by simp) _
  have hsz1:W1.heap.size=w.heap.size+2:=by rw[<- hW1];simp
  have h0:w0.heap.size<=w.heap.size:=hI.below.size
  refine⟨w.heap.size+1,[mark w.heap.size],W1,{ target:= .fn (.func f) (ids.map fun i=>Value.pointer (some ⟨L.bx i,0,none⟩)).toArray,args:= #[.func (.yield (w.heap.size+1)) #[] #[]] },W1,f,
   #[.func (.yield (w.heap.size+1)) #[] #[]]++(ids.map fun i=>Value.pointer (some ⟨L.bx i,0,none⟩)).toArray,W1,?_,?_,fun _ _=>trivial,?_,fun hh=>(by cases hh),?_⟩
  ·rw[<- hW1,hrec];exact run_enterLoop_outer _ _ _ _ _
  ·simp only[resolve,hv]
   simp[go_sem]
  ·simp[invoke,go_sem,qgc hfb]
  have hm1:Mem w0 Z0 ⟨N.X.x++qgb lm,N.X.y⟩ (N.val a) Z L st1 W1:=hmem.move (fun _ _ h=>h) hmem.zt (fun _ _ h=> .inl h) (fun p b hp=>Nat.lt_of_lt_of_le (hmem.zb p b hp) hB1.size) hB1
  obtain⟨y',hy'⟩: ∃y' :Nat->Nat,y' =fun i=>if i=ρ.id then w.heap.size+1 else N.X.y i:=⟨_,rfl⟩
  obtain⟨X',hX'⟩: ∃X' :Gh,X' =⟨(w.heap.size+1,.loop (rec .ready none))::(w.heap.size,.deferred (some []))::(N.X.x++qgb lm),y'⟩:=⟨_,rfl⟩
  have hznew: ∀b,w.heap.size<=b-> ∀p,¬Z p b:=fun b hb p hp=>by have:=hI.zb p b hp;omega
  have hm2:Mem w0 Z0 X' (N.val a) Z { L with yb:=y' } (st1.noId ρ.id) W1:=by
   rw[hX']
   refine(hm1.noId ρ.id).relay y' (fun i hi=>by rw[hy'];simp only[hi,if_false];exact(hI.yb i).symm) (qgO _ _) (qgP _ _) (fun z hz=> ?_) rfl
   rcases List.mem_cons.1 hz with rfl|hz
   ·exact⟨hL1,rfl,by simp only;omega,hznew _ (by simp)⟩
   ·rcases List.mem_cons.1 hz with rfl|hz
    ·exact⟨hK1,rfl,h0,hznew _ (Nat.le_refl _)⟩
    ·exact hm1.oth z hz
  have hargs:ArgsR W1 Z { L with yb:=y' } (.yl ρ.id::ids.map fun i=> .ptr i 0) (#[.func (.yield (w.heap.size+1)) #[] #[]]++(ids.map fun i=>Value.pointer (some ⟨L.bx i,0,none⟩)).toArray):=by
   refine ArgsR.app (xs:=[.yl ρ.id]) ⟨rfl,fun j c hj=> ?_⟩ (qgg (L:= { L with yb:=y' }) ids)
   cases j with
   |zero=>simp at hj;subst hj;show _=_;simp[hy']
   |succ j=>simp at hj
  have hEnv:EnvOK ⟨P.p,ρ.K+ρ.n,rngY ρ ps (fun st' K=>awp P ass (Exit.thn (awp P body fun e st'' =>e= .normal/\K st'') fun _ _=>False) st'),fun _ _=>False⟩ w0 Z0 X' (N.val a):=by
   refine⟨hgl,?_⟩
   intro X2 G2 Z3 L3 w3 id args st3 K3 vs hX2 hy2 hG2 hY hm3 ha3
   obtain⟨hid3,hlen,hlow,hB⟩:=hY
   subst hid3
   have hXy:X'.y ρ.id=w.heap.size+1:=by rw[hX',hy'];simp
   rw[hXy]
   have hr3:RecAt w0 Z3 w3 (w.heap.size+1,.loop (rec .ready none)):=hm3.oth _ (hX2 _ (by rw[hX'];simp))
   have hpl:ps.length=ps'.toList.length:=qgM hz
   have hsz:vs.size=(rec .ready none).params.size:=by rw[ha3.1,hlen,hpl,hrec];simp
   have hyr:=run_yield (P:=P.p) (args:=vs) hr3.1 hsz
   rw[hrec]at hyr
   simp only at hyr
   refine⟨_,_,_,_,hyr,fun m=> ?_⟩
   have htm:(ps'.zip vs).foldl (fun(tmps:Array Value) (x:Nat×Value)=>tmps.setIfInBounds x.1 x.2) a.tmps=(ps'.toList.zip vs.toList).foldl (fun t (x:Nat×Value)=>t.setIfInBounds x.1 x.2) a.tmps:=by
    rw[<- Array.foldl_toList,Array.toList_zip]
   have hslot:=qgK (κ:=⟨ρ.K2,N.n⟩) (ps:=ps) (ps' :=ps'.toList) (args:=args) (vs:=vs.toList) (s:=qcP ρ.K ρ.K2 st3.s (st3.s.filter fun x=>decide (ρ.K<=x.1/\x.1<ρ.K+ρ.n)) st3.s) (tmps:=a.tmps) (R:=VR w3 Z3 L3)
    hz hlen (by simpa using ha3.1) hI.size (fun j c hj=>by
     have:=ha3.2 j c hj
     simpa[zO,zK]using this) (fun i v hi h1 h2=>by
     simp only at h1 h2 ⊢
     rcases qgL _ _ _ _ _ i v hi with h3|⟨j,u,h3,h4,h5⟩
     ·have:=yE.1 hlow _ (qa7 h3)
      simp only[decide_eq_true_eq]at this;omega
     ·have h6:=(List.mem_filter.1 h3).2
      simp only[decide_eq_true_eq]at h6
      have h8:VR w3 Z3 L3 v (G2 j):=by
       subst h5
       cases hl:lk st3.s j with
       |none=>exact TR.bot _
       |some v' =>
         have:=hm3.slots j v' hl
         have e:(⟨0,0,G2,X2,none⟩:Fr).val ⟨#[],[]⟩ j=G2 j:=by simp[Fr.val]
         rwa [e]at this
      have h9:G2 j=a.tmps.getD (i-ρ.K2) undef:=by
       rw[hG2 j (by simp only;omega)]
       have:=qgs (N:=N) (a:=a) (j:=j-N.K) (by omega)
       rw[show N.K+(j-N.K)=j from by omega]at this
       rw[this,h4,hρK]
       congr 1;omega
      rw[<- h9];exact h8)
   rw[<- htm]at hslot
   obtain⟨hs1,hs2,hs3⟩:=hslot
   have hIb : Inv w0 Z0 ⟨N.n, ρ.K2, G2, X2, none⟩ Z3 L3 { st3 with s := qcQ ps args (qcP ρ.K ρ.K2 st3.s (st3.s.filter fun x => decide (ρ.K <= x.1 /\ x.1 < ρ.K + ρ.n)) st3.s) }
     { tmps:=(ps'.zip vs).foldl (fun(tmps:Array Value) (x:Nat×Value)=>tmps.setIfInBounds x.1 x.2) a.tmps,defers:=[] } w3:=by
    refine⟨hm3.zt,hm3.z0,hm3.zn,hm3.zb,hm3.below,hm3.ownb,hm3.owna,hm3.injb,hm3.inja,hm3.injx,hm3.boxes,hm3.arrs,hm3.ownm,hm3.injm,hm3.maps,hm3.oth,hm3.yb,hs2,fun _ e=>(by cases e),fun i v hi=> ?_⟩
    by_cases hin:ρ.K2<=i/\i<ρ.K2+N.n
    ·have:=hs3 i v hi hin.1 hin.2
     unfold Fr.val
     rw[if_pos hin]
     exact this
    ·have h3:=hs1 i v hi (by simp only;omega)
     unfold Fr.val
     rw[if_neg hin]
     rcases qgL _ _ _ _ _ i v h3 with h4|⟨j,u,h4,h5,_⟩
     ·have:=hm3.slots i v h4
      have e:(⟨0,0,G2,X2,none⟩:Fr).val ⟨#[],[]⟩ i=G2 i:=by simp[Fr.val]
      rwa [e]at this
     ·have h6:=(List.mem_filter.1 h4).2
      simp only[decide_eq_true_eq]at h6
      omega
   refine roundIn_of_wpIn (F:=Fw none) trivial ?_
   have hkk2:P.kk<=ρ.K2:=by omega
   refine wpIn_mono (iha (N:=⟨N.n,ρ.K2,G2,X2,none⟩) (ro:=some (w.heap.size+1)) (n:=m) (EnvOK.noY hnoY _ _ hgl) hkk2 ass' (Exit.thn (awp P body fun e st'' =>e= .normal/\(∃st3,SWk (st''.low ρ.K2) st3/\st3.s.all (fun x=>decide (x.1<ρ.K2))=true/\K3 st3)) fun _ _=>False) _ _ w3 (.inl hna) (fun l st hh=>hh.elim) (fun ch st hh=>(hnoY.2 ch st hh).elim) hca hB ⟨Z3,L3,hIb⟩) ?_
   rintro e a1 w1 ⟨st5,h5,Z5,L5,hI5⟩
   cases e<;>first|exact h5.elim|skip
   have hr5:RecAt w0 Z5 w1 (w.heap.size+1,.loop (rec .ready none)):=hI5.oth _ (hX2 _ (by rw[hX'];simp))
   refine⟨_,run_beginRound hr5.1 (by rw[hrec]),?_⟩
   have hI6:=hI5.turn hr5 (o' := .loop { rec .ready none with state:= .busy }) rfl ((w.heap.size+1,.loop { rec .ready none with state:= .busy })::X2.x.filter fun z=>z.1 !=w.heap.size+1) (fun z hz=>by
    rcases List.mem_cons.1 hz with rfl|hz
    ·exact .inl rfl
    ·have:=List.mem_filter.1 hz
     exact .inr ⟨hI5.oth z this.1,by simpa using this.2⟩) rfl
   refine wpIn_mono (ihb (N:=⟨N.n,ρ.K2,G2,⟨_,X2.y⟩,none⟩) (ro:=some (w.heap.size+1)) (n:=m) (EnvOK.noY hnoY _ _ hgl) hkk2 body' (fun e st'' =>e= .normal/\(∃st3,SWk (st''.low ρ.K2) st3/\st3.s.all (fun x=>decide (x.1<ρ.K2))=true/\K3 st3)) st5 a1 _ (.inl hnb) (fun l st hh=>by cases hh.1) (fun ch st hh=>(hnoY.2 ch st hh).elim) hcb h5 ⟨Z5,L5,hI6⟩) ?_
   rintro e a7 w7 ⟨st7,⟨rfl,st8,hw8,hs8,hK7⟩,Z7,L7,hI7⟩
   have hr7:RecAt w0 Z7 w7 (w.heap.size+1,.loop { rec .ready none with state:= .busy }):=hI7.oth _ (by simp)
   have hend:=run_endRound (P:=P.p) none hr7.1
   have hback:({ ({ rec .ready none with state:= .busy } :Loop)with state:=if(none:Option Code).isNone then .ready else .done,pending:=none } :Loop)=rec .ready none:=by rw[hrec];rfl
   have hT:=(hI7.turn hr7 (o' := .loop (rec .ready none)) rfl X2.x (fun z hz=>by
    by_cases e:z.1=w.heap.size+1
    ·have h8:=(hm3.oth z hz).1
     rw[e,hr3.1]at h8
     injection h8 with h8
     exact .inl (Prod.ext e h8.symm)
    ·exact .inr ⟨hI7.oth z (zT _ (List.mem_filter.2 ⟨hz,by simpa using e⟩)),e⟩) rfl).low ρ.K2
   obtain⟨Z8,L8,hT⟩:=hw8 _ _ _ _ _ ⟨_,_,hT⟩
   refine⟨_,_,hend,rfl,st8,Z8,L8,hK7,?_⟩
   rw[hback]
   refine⟨hT.zt,hT.z0,hT.zn,hT.zb,hT.below,hT.ownb,hT.owna,hT.injb,hT.inja,hT.injx,hT.boxes,hT.arrs,hT.ownm,hT.injm,hT.maps,hT.oth,hT.yb,rfl,fun _ e=>(by cases e),fun i v hi=> ?_⟩
   have h8:=hT.slots i v hi
   have h9:i<ρ.K2:=by simpa using yE.1 hs8 _ (qa7 hi)
   unfold Fr.val at h8 ⊢
   rw[if_neg (by simp only;omega)]at h8
   rw[if_neg (by simp)]
   exact h8
  refine qg8 (P:=P) ((hM w0 Z0 X' (N.val a) Z { L with yb:=y' } W1 _ hEnv hm2 hargs).mono ?_)
  rintro e w' ⟨v,r,st',Z',L',rfl,hQ,hm',_⟩
  have hrl:RecAt w0 Z' w' (w.heap.size+1,.loop (rec .ready none)):=hm'.oth _ (by rw[hX'];simp)
  refine⟨none,w'.putObj (w.heap.size+1) (.loop { rec .ready none with state:= .exhausted }),?_,?_⟩
  ·have:=run_endLoop (P:=P.p) hrl.1 (by rw[hrec];simp)
   rw[hrec]at this ⊢
   exact this
  ·show lift w0 Z0 N Q .normal _ _
   refine⟨_,hQ,Z',{ L' with yb:=N.X.y },?_⟩
   have hlmlt: ∀D∈lm,D<w.heap.size:=fun D hD=>qac (hmem.oth (D,.deferred (some [])) (List.mem_append_right _ (List.mem_map.2 ⟨D,hD,rfl⟩))).1
   have hxlt: ∀z∈N.X.x++qgb lm,z.1<w.heap.size:=fun z hz=>qac (hmem.oth z hz).1
   have ht:=hm'.turn hrl (o' := .loop { rec .ready none with state:= .exhausted }) rfl ((w.heap.size,.deferred (some []))::(N.X.x++qgb lm)) (fun z hz=>by
    refine .inr ⟨hm'.oth z (by rw[hX'];exact zT _ hz),fun e=> ?_⟩
    rcases List.mem_cons.1 hz with rfl|hz
    ·simp at e
    ·have:=hxlt z hz;omega) rfl
   have ht2:=((ht.low (ρ.K+ρ.n)).noId ρ.id).relay N.X.y (fun i hi=>by
    have:=hm'.yb i
    rw[this,hX']
    simp only[hy',hi,if_false]) (qgO _ _) (qgP _ _) (x:=(N.X.x++qgb (w.heap.size::lm))) (fun z hz=>by
    refine ht.oth z ?_
    simp only[qgb,zW,yC,List.mem_cons]at hz ⊢
    rcases hz with hz|hz|hz
    ·exact .inr (.inl hz)
    ·exact .inl hz
    ·exact .inr (.inr hz)) rfl
   have hb:=Inv.back (N:=N) (a:= { tmps:=a.tmps,defers:=[mark w.heap.size]++a.defers }) (l:=w.heap.size::lm) (Z' :=Z') (L' := { L' with yb:=N.X.y }) (st' :=(st'.low (ρ.K+ρ.n)).noId ρ.id) (w' :=w'.putObj (w.heap.size+1) (.loop { rec .ready none with state:= .exhausted }))
    ht2 hI.size (fun dd hd=>⟨⟨by rw[(hlm dd hd).1.1];rfl,fun e=>by rw[hex dd hd]at e;cases e⟩,List.nodup_cons.2 ⟨fun hD=>absurd (hlmlt _ hD) (Nat.lt_irrefl _),(hlm dd hd).2.1⟩,fun D hD x hx=>by
     rcases List.mem_cons.1 hD with rfl|hD
     ·have:=hxlt x (List.mem_append_left _ hx);omega
     ·exact(hlm dd hd).2.2 D hD x hx⟩)
   exact hb
 ·exact h.elim
theorem qgS : ∀ (ac : AC) {N : Fr} {ro : Option Nat} {n : Nat}, EnvOK P w0 Z0 N.X N.G -> P.kk <= N.K -> ∀ (code : Code) (Q : Exit -> St -> Prop) (st : St) (a : Act) (w : World), (qdm ac = true \/ (ro = none /\ ∀ dd, N.dm = some dd -> dd.1 = false)) -> (∀ l st, ¬ Q (.goto l) st) -> (∀ ch st, P.pan ch st -> Q (.panic ch) st) -> chk P.p N.sh ac code = true -> awp P ac Q st -> Sim w0 Z0 N st a w ->
  code.wpIn (Fw ro) n P.p (lift w0 Z0 N Q) a w:=by
 intro ac
 induction ac with
 |skip=>intro N ro n hE hkk code Q st a w hr hQ hP hc h hs;cases code<;>simp[chk]at hc;exact wpIn_skip ⟨st,h,hs⟩
 |label=>intro N ro n hE hkk code Q st a w hr hQ hP hc h hs;cases code<;>simp[chk]at hc;exact wpIn_label ⟨st,h,hs⟩
 |ret=>intro N ro n hE hkk code Q st a w hr hQ hP hc h hs;cases code<;>simp[chk]at hc;exact wpIn_ret ⟨st,h,hs⟩
 |exit i=>
   intro N ro n hE hkk code Q st a w hr hQ hP hc h hs;cases code<;>simp[chk]at hc
   subst hc;exact wpIn_exit ⟨st,h,hs⟩
 |scope c ih=>
   intro N ro n hE hkk code Q st a w hr hQ hP hc h hs
   cases code<;>simp[chk]at hc
   refine qgJ (wpIn_mono (ih hE hkk _ Q st a w hr hQ hP hc h hs) ?_)
   rintro e a' w' ⟨st',h1,h2⟩
   cases e<;>first|exact⟨st',h1,h2⟩|exact(hQ _ _ h1).elim
 |reg keep ops=>
   intro N ro n hE hkk code Q st a w hr hQ hP hc h hs
   cases code<;>simp[chk]at hc
   rename_i id os draw
   obtain⟨hd,hc⟩:=hc
   subst hd
   exact wpIn_region_list (qgv hE hkk hP ops os.toList _ a w hc h (qgl hs))
 |rgs segs=>
   intro N ro n hE hkk code Q st a w hr hQ hP hc h hs
   cases code<;>simp[chk]at hc
   rename_i id os draw
   obtain⟨hd,hc⟩:=hc
   subst hd
   exact wpIn_region_list (qgw hE hkk hP segs [] os.toList st a w hc h hs)
 |frz ts c ih=>exact fun hE hkk code Q st a w hr hQ hP hc h hs=>ih hE hkk code Q _ a w hr hQ hP (by cases code<;>exact hc) h (qgm ts st hs)
 |obs t c ih=>
   refine fun hE hkk code Q st a w hr hQ hP hc h hs=> ?_
   obtain⟨Z',L',hI⟩:=hs
   replace h:obsK st t (fun st' =>awp P c Q st'):=h
   unfold obsK at h
   split at h
   ·split at h
    ·rename_i M hM
     obtain⟨l,c',hI2,hl⟩:=hI.obsMap hM
     exact ih hE hkk code Q _ a w hr hQ hP (by cases code<;>exact hc) (h l c' hl) ⟨Z',L',hI2⟩
    ·exact h.elim
   ·exact h.elim
 |cut ks c ih=>exact fun hE hkk code Q st a w hr hQ hP hc h hs=>ih hE hkk code Q _ a w hr hQ hP (by cases code<;>exact hc) h (qgl hs)
 |wk c ih=>
   intro N ro n hE hkk code Q st a w hr hQ hP hc h hs
   obtain⟨st0,h1,h2⟩:=h
   exact ih hE hkk code Q st0 a w hr hQ hP (by cases code<;>exact hc) h2 (qgn hs h1)
 |drw keep ops=>
   intro N ro n hE hkk code Q st a w hr hQ hP hc h hs
   cases code<;>first|(simp[chk]at hc;done)|skip
   rename_i id os draw
   simp only[chk,zN]at hc
   obtain⟨⟨⟨hd,hm⟩,hc⟩,ho⟩:=hc
   subst hd
   exact qgD hE hkk hm hc ho hP h (qgl hs)
 |dra keep ops=>
   intro N ro n hE hkk code Q st a w hr hQ hP hc h hs
   cases code<;>first|(simp[chk]at hc;done)|skip
   rename_i id os draw
   simp only[chk,zN]at hc
   obtain⟨⟨⟨hd,hm⟩,hc⟩,ho⟩:=hc
   subst hd
   have hlen:ops.length=os.size:=by simpa using(qgE _ _ _ ho).1
   refine qgB hm ?_
   rw[<- hlen]
   exact qgF hE hkk hc ho hP ops.length [] _ _ a _ (fun i hi=>by simp[hlen,hi]) (by simp[hlen]) h (qgA (qgl hs))
 |seq x y ihx ihy=>
   intro N ro n hE hkk code Q st a w hr hQ hP hc h hs
   cases code<;>simp[chk]at hc
   have hrx:qdm x=true\/(ro=none/\ ∀dd,N.dm=some dd->dd.1=false):=hr.imp (fun h=>by simp[qdm]at h;exact h.1) id
   have hry:qdm y=true\/(ro=none/\ ∀dd,N.dm=some dd->dd.1=false):=hr.imp (fun h=>by simp[qdm]at h;exact h.2) id
   refine wpIn_seq (wpIn_mono (ihx hE hkk _ (Exit.thn (awp P y Q) Q) st a w hrx (fun l st h=>hQ l st h) (fun ch st h=>hP ch st h) hc.1 h hs) ?_)
   rintro e a' w' ⟨st',h1,h2⟩
   cases e<;>first|exact ihy hE hkk _ _ st' a' w' hry hQ hP hc.2 h1 h2|exact⟨st',h1,h2⟩
 |cond c x y ihx ihy=>
   intro N ro n hE hkk code Q st a w hr hQ hP hc h hs
   cases code<;>simp[chk]at hc
   obtain⟨⟨h1,h2⟩,h3⟩:=hc
   have hrx:qdm x=true\/(ro=none/\ ∀dd,N.dm=some dd->dd.1=false):=hr.imp (fun h=>by simp[qdm]at h;exact h.1) id
   have hry:qdm y=true\/(ro=none/\ ∀dd,N.dm=some dd->dd.1=false):=hr.imp (fun h=>by simp[qdm]at h;exact h.2) id
   obtain⟨Z,L,hi⟩:=hs
   unfold awp qcN at h
   split at h
   ·rename_i b hb
    have hv:=hi.ev h1
    rw[hb]at hv
    exact wpIn_cond_split hv.sc (fun e=>ihx hE hkk _ _ st a w hrx hQ hP h2 (h.1 e) ⟨Z,L,hi⟩) (fun e=>ihy hE hkk _ _ st a w hry hQ hP h3 (h.2 e) ⟨Z,L,hi⟩)
   ·exact h.elim
 |block i b ih=>
   intro N ro n hE hkk code Q st a w hr hQ hP hc h hs
   cases code<;>simp[chk]at hc
   obtain⟨rfl,hc⟩:=hc
   refine wpIn_block (wpIn_mono (ih hE hkk _ (Exit.inB i Q) st a w hr (fun l st h=>hQ l st h) (fun ch st h=>hP ch st h) hc h hs) ?_)
   rintro e a' w' ⟨st',h1,h2⟩
   cases e<;>first|exact⟨st',h1,h2⟩|skip
   rename_i id'
   simp only[Exit.inB]at h1
   simp only[Exit.inBlock]
   split
   ·rw[if_pos ‹_›]at h1;exact⟨st',h1,h2⟩
   ·rw[if_neg ‹_›]at h1;exact⟨st',h1,h2⟩
 |loop ks b ih=>
   intro N ro n hE hkk code Q st a w hr hQ hP hc h hs
   cases code<;>simp[chk]at hc
   obtain⟨I,n0,h0,hrd⟩:=h
   refine qgG (fun k a w=> ∃st,I k st/\Sim w0 Z0 N st a w) n0 ⟨_,h0,qgo hs⟩ ?_
   rintro k a' w' ⟨st',h1,h2⟩
   refine wpIn_mono (ih hE hkk _ (Exit.thn (fun st'' => ∃n',n' <k/\I n' (st''.gc ks)) Q) st' a' w' hr (fun l st h=>hQ l st h) (fun ch st h=>hP ch st h) hc (hrd k st' h1) h2) ?_
   rintro e a'' w'' ⟨st'',h3,h4⟩
   cases e<;>first|exact⟨st'',h3,h4⟩|skip
   obtain⟨n',h5,h6⟩:=h3
   exact⟨n',h5,_,h6,qgo h4⟩
 |lps ks b ih=>
   intro N ro n hE hkk code Q st a w hr hQ hP hc h hs
   cases code<;>simp[chk]at hc
   obtain⟨I,n0,⟨st1,hw1,h0⟩,hrd⟩:=h
   refine qgG (fun k a w=> ∃st,I k st/\Sim w0 Z0 N st a w) n0 ⟨_,h0,hw1 _ _ _ _ _ (qgl hs)⟩ ?_
   rintro k a' w' ⟨st',h1,h2⟩
   refine wpIn_mono (ih hE hkk _ (Exit.thn (fun st'' => ∃st1,SWk (st''.keepS ks) st1/\ ∃n',n' <k/\I n' st1) Q) st' a' w' hr (fun l st h=>hQ l st h) (fun ch st h=>hP ch st h) hc (hrd k st' h1) h2) ?_
   rintro e a'' w'' ⟨st'',h3,h4⟩
   cases e<;>first|exact⟨st'',h3,h4⟩|skip
   obtain⟨st1,hw,n',h5,h6⟩:=h3
   exact⟨n',h5,_,h6,hw _ _ _ _ _ (qgl h4)⟩
 |rngf ρ ps ass body iha ihb=>
   intro N ro n hE hkk code Q st a w hr hQ hP hc h hs
   obtain⟨hro,hex⟩:=hr.resolve_left (by simp[qdm])
   subst hro
   exact qgR hE.1 iha ihb hkk hex code Q st a w hc h hs
inductive RV where
 |tmp (t:Nat)
 |cell (t:Nat) (agg:Bool) (sz:Nat)
def frzVal(st:St):PV->St
 | .agg cs=>st.frzs cs
 |c=>st.frzs [c]
def RV.frz(st:St):RV->St
 | .tmp t=>frzVal st (st.get t)
 | .cell t _ _=>match st.get t with| .ptr id _=>(match lk st.b id with|some cs=>st.frzs cs|none=>st)|_=>st
def frzAll(st:St):List RV->St
 |[]=>st
 |r::rs=>frzAll (r.frz st) rs
def RV.val(st:St):RV->Prop×PV
 | .tmp t=>(True,st.get t)
 | .cell t agg sz => match st.get t with
   | .ptr id off=>(match lk st.b id with|some cs=>(off+sz<=cs.length,ldc agg sz off cs)|none=>(False,.bot))
   |_=>(False,.bot)
def resV(st:St):List RV->Prop×PV
 |[r]=>((r.val (r.frz st)).1,(r.val (r.frz st)).2)
 |rs=>let st' :=frzAll st rs;(∀r∈rs,(r.val st').1,.tup (rs.map fun r=>(r.val st').2))
def rvOk(P:Program)(κ:Sh):RV->ResultVar->Bool
 | .tmp t,.tmp u=>t==κ.K+u&&decide (u<κ.n)
 | .cell t agg sz,.cell u ty=>t==κ.K+u&&decide (u<κ.n)&&szIs P ty sz&&qaj P ty agg&&(agg||sz==1)
 |_,_=>false
def qgT(P:Program)(κ:Sh):List RV->List ResultVar->Bool
 |[],[]=>true
 |x::r,y::s=>rvOk P κ x y&&qgT P κ r s
 |_,_=>false
def fnOk(P:Program)(ac:AC)(rvs:List RV)(fn:Func):Bool:=
 (match fn.body with|some c=>chk P ⟨0,fn.ntmps⟩ ac c|none=>false)&&qgT P ⟨0,fn.ntmps⟩ rvs fn.results.toList
def slots0(args:List PV):List (Nat×PV):=go 0 args
where
 go:Nat->List PV->List (Nat×PV)
  |_,[]=>[]
  |k,c::r=>(k,c)::go (k+1) r
def qgU:Exit->Bool
 | .normal| .ret=>true
 |_=>false
def qgV:PV->Bool
 | .tup _=>true
 |_=>false
def qgW:PV->Bool
 | .tup cs=>cs.all fun c=> !qgV c
 |_=>true
def retK(rvs:List RV)(post:PV->Prop):Exit->St->Prop:=fun e st=>qgU e=true/\(resV st rvs).1/\qgW (resV st rvs).2=true/\Perm (resV st rvs).2/\post (resV st rvs).2
end
end Go.Vc
namespace Go.Vc
open Go Go.RowKit
section
variable {w0:World} {Z0:Zone} {N:Fr} {Z:Zone} {L:Lay} {st:St} {a:Act} {w:World} {P:Program}
theorem TR.perm{c:PV}{v:Value}(h:TR w Z c v)(hp:Perm c):TR w (fun p b=>p=true/\Z true b) c v:=by
 induction h with
 |bot v=>exact .bot v
 |sc v h=>exact .sc v h
 |nil=>exact .nil
 |sl0 p es a cap h=>exact .sl0 p es a cap h
 |sl p es xs b o cap g h0 h1 h2 h3 h4 h5 h6 _ ih=>
   cases hp with
   |sl _ _ _ e1 e2=>
     subst e1
     exact .sl true es xs b o cap g h0 ⟨rfl,h1⟩ h2 h3 h4 h5 h6 (fun i j x c hi hj=>ih i j x c hi hj (e2 x (zP hi) c (zP hj)))
 |pcl f caps vs h1 _ ih=>cases hp
 |iptr p cs b o off g h1 h2 _ ih=>
   cases hp with
   |iptr _ _ _ e1 e2=>
     subst e1
     exact .iptr true cs b o off g ⟨rfl,h1⟩ h2 (fun j c hj=>ih j c hj (e2 c (zP hj)))
theorem CR.perm{c:PV}{v:Value}(h:CR w Z L c v)(hp:Perm c):TR w (fun p b=>p=true/\Z true b) c v:=by
 cases c with
 |view=>cases hp
 |ptr=>cases hp
 |eptr=>cases hp
 |clo=>cases hp
 |yl=>cases hp
 |mp=>cases hp
 |itr=>cases hp
 |cld=>cases hp
 |bv=>cases hp
 |bm=>cases hp
 |_=>exact TR.perm h hp
theorem AR.perm{c:PV}{v:Value}(h:AR w Z L c v)(hp:Perm c):TA w (fun p b=>p=true/\Z true b) c v:=by
 cases c with
 |agg cs=>
   obtain⟨vs,h1,h2,h3⟩:=h
   cases hp with
   |agg _ e=>exact⟨vs,h1,h2,fun j c hj=>⟨(h3 j c hj).1.perm (e c (zP hj)),(h3 j c hj).2⟩⟩
 |_=>
   have h1:=CR.perm (AR.toCR (by simp) h) hp
   simp only[TA];exact h1
theorem VR.perm{c:PV}{v:Value}(h:VR w Z L c v)(hp:Perm c):TV w (fun p b=>p=true/\Z true b) c v:=by
 cases c with
 |tup cs=>
   obtain⟨vs,h1,h2,h3⟩:=h
   cases hp with
   |tup _ e=>exact⟨vs,h1,h2,fun j c hj=>(h3 j c hj).perm (e c (zP hj))⟩
 |_=>
   have h1:=AR.perm (VR.toAR (by simp) h) hp
   simp only[TV];exact h1
theorem Inv.frzVal(h:Inv w0 Z0 N Z L st a w)(c:PV): ∃Z',Inv w0 Z0 N Z' L (frzVal st c) a w:=by
 cases c<;>exact h.frzs _
theorem Inv.rvFrz(h:Inv w0 Z0 N Z L st a w)(r:RV): ∃Z',Inv w0 Z0 N Z' L (r.frz st) a w:=by
 cases r with
 |tmp t=>exact h.frzVal _
 |cell t agg sz=>
   simp only[RV.frz]
   split
   ·split
    ·exact h.frzs _
    ·exact⟨Z,h⟩
   ·exact⟨Z,h⟩
theorem Inv.frzAll(h:Inv w0 Z0 N Z L st a w)(rs:List RV): ∃Z',Inv w0 Z0 N Z' L (frzAll st rs) a w:=by
 induction rs generalizing st Z with
 |nil=>exact⟨Z,h⟩
 |cons r rs ih=>
   obtain⟨Z1,h1⟩:=h.rvFrz r
   exact ih h1
def qgX(tmps:Array Value):ResultVar->Sem Value
 | .tmp t=>pure (tmps.getD t undef)
 | .cell a t=>do loadVar t (<- asAddr (tmps.getD a undef))
theorem qgY(h:Inv w0 Z0 N Z L st a w){r:RV}{x:ResultVar}(hm:rvOk P N.sh r x=true)(hv:(r.val st).1): ∃v,(qgX a.tmps x).run P w= .ok v w/\VR w Z L (r.val st).2 v:=by
 cases r with
 |tmp t=>
   cases x with
   |cell=>cases hm
   |tmp u=>
     simp only[rvOk,zN,beq_iff_eq,decide_eq_true_eq]at hm
     obtain⟨rfl,hlt⟩:=hm
     have:=h.get (N.K+u)
     rw[qgs hlt]at this
     exact⟨_,rfl,this⟩
 |cell t agg sz=>
   cases x with
   |tmp=>cases hm
   |cell u ty=>
     simp only[rvOk,zN,Bool.or_eq_true,beq_iff_eq,decide_eq_true_eq]at hm
     obtain⟨⟨⟨⟨rfl,hlt⟩,hs⟩,ha⟩,h1⟩:=hm
     have h1' :agg=false->sz=1:=fun e=>by rcases h1 with h1|h1;exact absurd h1 (by simp[e]);exact h1
     simp only[RV.val]at hv ⊢
     split at hv
     ·rename_i id off e
      have hg:=h.get (N.K+u)
      rw[e,qgs hlt]at hg
      split at hv
      ·rename_i cs hcs
       obtain⟨g,hl⟩:=h.box_lies hcs
       obtain⟨v,h2,h3⟩:=qam (P:=P) hs ha h1' hl hv
       rw[Nat.zero_add]at h2
       exact⟨v,by simp[qgX,hg.ptr,asAddr,h2],VR.ar h3⟩
      ·exact hv.elim
     ·exact hv.elim
theorem qgZ (h : Inv w0 Z0 N Z L st a w) : ∀ (rs : List RV) (xs : List ResultVar), qgT P N.sh rs xs = true -> (∀ r ∈ rs, (r.val st).1) ->
  ∃vs:List Value,(xs.mapM (qgX a.tmps)).run P w= .ok vs w/\vs.length=rs.length/\ ∀j r,rs[j]? =some r->VR w Z L (r.val st).2 (vs.getD j undef)
 |[],[],_,_=>⟨[],by simp,rfl,by simp⟩
 |[],_::_,h,_=>by simp[qgT]at h
 |_::_,[],h,_=>by simp[qgT]at h
 | r :: rs, x :: xs, hm, hv => by
   simp only[qgT,zN]at hm
   obtain⟨v,h1,h2⟩:=qgY h hm.1 (hv r (by simp))
   obtain⟨vs,h3,h4,h5⟩:=qgZ h rs xs hm.2 (fun r hr=>hv r (by simp[hr]))
   refine⟨v::vs,by simp[List.mapM_cons,h1,h3],by simp[h4],fun j r' hj=> ?_⟩
   cases j with
   |zero=>simp at hj;subst hj;exact h2
   |succ j=>simp at hj;simpa using h5 j r' hj
theorem qh0(fn:Func)(tmps:Array Value):results fn tmps=(do let vs <- fn.results.mapM (qgX tmps);pure (if h:vs.size=1 then vs[0]else .tuple vs)):=by
 unfold results
 congr 1
theorem qh1 (h : Inv w0 Z0 N Z L st a w) {fn : Func} {rvs : List RV} (hm : qgT P N.sh rvs fn.results.toList = true) (hv : (resV st rvs).1) (hnt : ∀ cs ds, (resV st rvs).2 = .tup cs -> .tup ds ∉ cs) :
  ∃Z' v,Inv w0 Z0 N Z' L (frzAll st rvs) a w/\(results fn a.tmps).run P w= .ok v w/\VR w Z' L (resV st rvs).2 v:=by
 obtain⟨Z',h'⟩:=h.frzAll rvs
 have hv' : ∀r∈rvs,(r.val (frzAll st rvs)).1:=by
  unfold resV at hv
  split at hv
  ·intro r hr;simp at hr;subst hr;exact hv
  ·exact hv
 obtain⟨vs,h1,h2,h3⟩:=qgZ h' rvs fn.results.toList hm hv'
 have hrun:(results fn a.tmps).run P w= .ok (if h:vs.toArray.size=1 then vs.toArray[0]else .tuple vs.toArray) w:=by
  rw[qh0]
  simp[Array.mapM_eq_mapM_toList,h1]
 refine⟨Z',_,h',hrun,?_⟩
 unfold resV at hnt ⊢
 split
 ·rename_i r
  have hl:vs.length=1:=by simpa using h2
  have:=h3 0 r rfl
  have hv0:vs.getD 0 undef=vs[0]:=by simp[zK,hl]
  rw[hv0]at this
  simp only[frzAll]at this
  simpa[hl]using this
 ·rename_i hne
  have hl: ¬vs.toArray.size=1:=by
   simp only[List.size_toArray,h2]
   intro e
   obtain⟨r,hr⟩:=List.length_eq_one_iff.1 e
   exact hne r hr
  rw[dif_neg hl]
  refine⟨vs.toArray,rfl,by simp[h2],fun j c hj=> ?_⟩
  have hj0:=hj
  rw[zS]at hj
  obtain⟨r,h4,rfl⟩:=zR.1 hj
  have h5:=h3 j r h4
  have h6:vs.toArray.getD j undef=vs.getD j undef:=by simp[zO,zK]
  rw[h6]
  refine VR.toAR (fun cs e=> ?_) h5
  split at hnt
  ·exact hne _ rfl
  ·refine hnt _ cs rfl ?_
   rw[<- e]
   exact zP hj0
theorem qh2(args:List PV)(i:Nat):lk (slots0 args) i=args[i]? :=by
 have: ∀(l:List PV) (k i:Nat),lk (slots0.go k l) i=if k<=i then l[i-k]? else none:=by
  intro l
  induction l with
  |nil=>intro k i;simp[slots0.go,lk]
  |cons c l ih=>
    intro k i
    simp only[slots0.go,lk]
    by_cases e:k=i
    ·subst e;simp
    ·rw[if_neg e,ih]
     by_cases h:k<=i
     ·rw[if_pos h,if_pos (by omega),show i-k=(i-(k+1))+1 from by omega,List.getElem?_cons_succ]
     ·rw[if_neg h,if_neg (by omega)]
 simpa[slots0]using this args 0 i
def qh3(w:World):List Nat->World
 |[]=>w
 |D::l=>qh3 (w.putObj D (.deferred none)) l
theorem qh4 {F : Fence} {n : Nat} {fn : Func} {tmps : Array Value} {R : Ending -> World -> Prop} : ∀ (l : List Nat) (w : World), l.Nodup -> (∀ D ∈ l, w.heap[D]? = some (.deferred (some []))) ->
  (∃v,(results fn tmps).run P (qh3 w l)= .ok v (qh3 w l)/\R (.returned v) (qh3 w l))->LeavesInM F n P fn tmps R (l.map mark) .returning w
 |[],_,_,_,h=>h
 | D :: l, w, hn, hd, h => by
   rw[List.nodup_cons]at hn
   refine⟨by simp,.inl ⟨D,_,rfl,run_takeDeferred (hd D (by simp)),qh4 l _ hn.2 (fun D' hD' => ?_) h⟩⟩
   have hne:D' ≠D:=fun e=>hn.1 (by rw[<- e];exact hD')
   rw[World.putObj_heap_other hne]
   exact hd D' (zT _ hD')
theorem Inv.shut(hdm:N.dm=none): ∀(l:List Nat) {w:World},Inv w0 Z0 N Z L st a w->qab N.X l->(∀D∈l,RecAt w0 Z w (D,.deferred (some [])))->Inv w0 Z0 N Z L st a (qh3 w l)
 |[],_,h,_,_=>h
 | D :: l, w, h, hm, hd => by
   have hD:=hd D (by simp)
   have h1:=h.turn hD (o' := .deferred none) rfl N.X.x (fun z hz=> .inr ⟨h.oth z hz,hm.2 D (by simp) z hz⟩) hdm
   have hn:=List.nodup_cons.1 hm.1
   exact Inv.shut hdm l h1 ⟨hn.2,fun D' hD' =>hm.2 D' (zT _ hD')⟩ fun D' hD' =>(hd D' (zT _ hD')).keep (World.putObj_heap_other fun e=>hn.1 (by simp only at e;rw[<- e];exact hD')) (fun _ hp=>hp)
theorem Inv.leave (h : Inv w0 Z0 N Z L st a w) {ex : Bool} (hdm : N.dm = some (ex, [])) {F : Fence} {n : Nat} {fn : Func} {R : Ending -> World -> Prop} (hR : ∀ w', Inv w0 Z0 { N with dm := none } Z L st a w' -> ∃ v, (results fn a.tmps).run P w' = .ok v w' /\ R (.returned v) w') :
  LeavesInM F n P fn a.tmps R a.defers .returning w:=by
 obtain⟨l,h1,h2,h3⟩:=h.defers _ hdm
 rw[h1.1,List.append_nil]
 have h0:Inv w0 Z0 { N with dm:=none } Z L st a w:=⟨h.zt,h.z0,h.zn,h.zb,h.below,h.ownb,h.owna,h.injb,h.inja,h.injx,h.boxes,h.arrs,h.ownm,h.injm,h.maps,h.oth,h.yb,h.size,fun _ e=>(by cases e),h.slots⟩
 exact qh4 l w h2.1 (fun D hD=>(h3 D hD).1) (hR _ (Inv.shut rfl l h0 h2 h3))
def L00:Lay:=⟨fun _=>0,fun _=>0,fun _=>0,fun _=>0,fun _=>0,fun _=>0,fun _=>0⟩
theorem FnOK.of_awp {f : Nat} {fn : Func} {ac : AC} {rvs : List RV} {args : List PV} {post : PV -> Prop} (hf : P.funcs[f]? = some fn) (hok : fnOk P ac rvs fn = true) (hn : args.length <= fn.ntmps)
  (h:awp (Env.of P) ac (retK rvs post) ⟨slots0 args,[],[],[]⟩):FnOK P f args post:=by
 intro w Z hgl zt zb vs hsz hrel
 simp only[fnOk,zN]at hok
 obtain⟨hb,hr⟩:=hok
 split at hb
 ·rename_i c hc
  have hsize:(vs++Array.replicate (fn.ntmps-vs.size) undef).size=fn.ntmps:=by simp;omega
  have hinit:Inv w Z ⟨fn.ntmps,0,fun _=>undef,⟨[],fun _=>0⟩,some (false,[])⟩ Z L00 ⟨slots0 args,[],[],[]⟩ { tmps:=vs++Array.replicate (fn.ntmps-vs.size) undef,defers:=[] } w:=by
   refine⟨zt,fun _ _ h=>h,fun _ _ h=> .inl h,zb,Below.refl _ _,?_,?_,?_,?_,?_,?_,?_,?_,?_,?_,fun x hx=>(by cases hx),fun _=>rfl,hsize,fun dd e=>⟨[],⟨by cases e;rfl,fun _=>rfl⟩,⟨.nil,fun D hD=>by cases hD⟩,fun D hD=>by cases hD⟩,?_⟩
   ·intro id cs hl;simp[lk]at hl
   ·intro id cs hl;simp[lk]at hl
   ·intro i j x y hl;simp[lk]at hl
   ·intro i j x y hl;simp[lk]at hl
   ·intro i j x y hl;simp[lk]at hl
   ·intro id cs hl;simp[lk]at hl
   ·intro id cs hl;simp[lk]at hl
   ·intro id cs hl;simp[lk]at hl
   ·intro i j x y hl;simp[lk]at hl
   ·intro id cs hl;simp[lk]at hl
   ·intro i v hl
    simp only[qh2]at hl
    have hi:i<vs.size:=by rw[hsz];exact(zM.1 hl).1
    have:=hrel i v hl
    have e:(vs++Array.replicate (fn.ntmps-vs.size) undef).getD i undef=vs.getD i undef:=by
     simp only[zO,Array.getElem?_append_left hi]
    unfold Fr.val
    rw[if_pos ⟨Nat.zero_le _,by simp only;omega⟩]
    simp only[Nat.sub_zero]at e ⊢
    rw[e]
    exact this.vr _
  refine callsIn_wide (n:=0)|>.1 (callsIn_of_wp_marks hf hc trivial ?_)
  refine wpIn_mono (qgS (P:=Env.of P) (w0:=w) (Z0:=Z) ac (N:=⟨fn.ntmps,0,fun _=>undef,⟨[],fun _=>0⟩,some (false,[])⟩) (ro:=none) (n:=0) (EnvOK.of P _ _ _ _ hgl) (Nat.le_refl _) c (retK rvs post) _ _ w (.inr ⟨rfl,fun dd e=>by cases e;rfl⟩) (fun l st hh=>by simp[retK,qgU]at hh) (fun ch st hh=>hh.elim) hb h ⟨_,_,hinit⟩) ?_
  rintro e a' w' ⟨st',⟨he,h1,hfl,h2,h3⟩,Z',L',hI⟩
  have hnt' : ∀cs ds,(resV st' rvs).2= .tup cs-> .tup ds∉cs:=fun cs ds e hm=>by rw[e]at hfl;have:=yE.1 hfl _ hm;simp[qgV]at this
  have hlv:LeavesInM Fence.wide 0 P fn a'.tmps (fun e w' => ∃v r,e= .returned v/\post r/\TV w' (fun p b=>p=true/\(Z true b\/(w.heap.size<=b/\b<w'.heap.size))) r v/\Below w.heap.size w w') a'.defers .returning w' :=by
   refine hI.leave rfl fun w2 hI3=> ?_
   obtain⟨Z2,v,hI2,hrun,hvr⟩:=qh1 hI3 hr h1 hnt'
   have htv:TV w2 (fun p b=>p=true/\(Z true b\/(w.heap.size<=b/\b<w2.heap.size))) (resV st' rvs).2 v:=by
    refine(VR.perm hvr h2).zone ?_
    rintro p b ⟨rfl,hb'⟩
    exact⟨rfl,(hI2.zn true b hb').imp (fun e=>e) (fun e=>⟨e,hI2.zb true b hb'⟩)⟩
   exact⟨v,hrun,v,_,rfl,h3,htv,hI3.below⟩
  cases e<;>simp[qgU]at he<;>exact hlv
 ·cases hb
def argS:Nat->List PV->List (Nat×PV)->List (Nat×PV)
 |_,[],s=>s
 |K,c::r,s=>argS (K+1) r (up s K c)
theorem qh5: ∀(args:List PV) (K:Nat) (s:List (Nat×PV)) (i:Nat),lk (argS K args s) i=if K<=i/\i<K+args.length then args[i-K]? else lk s i
 |[],K,s,i=>by simp only[argS];rw[if_neg (by simp only[List.length_nil];omega)]
 | c :: r, K, s, i => by
   simp only[argS]
   rw[qh5 r (K+1) _ i,qa2]
   by_cases e:K=i
   ·subst e
    rw[if_neg (by omega),if_pos rfl,if_pos ⟨Nat.le_refl _,by simp⟩]
    simp
   ·rw[if_neg e]
    by_cases h:K<=i/\i<K+(c::r).length
    ·have h' :=h
     simp only[zV]at h'
     rw[if_pos h,if_pos ⟨by omega,by omega⟩,show i-K=(i-(K+1))+1 from by omega,List.getElem?_cons_succ]
    ·rw[if_neg h,if_neg (by simp at h ⊢;omega)]
def qh6(P:Program)(K:Nat)(ac:AC)(rvs:List RV)(fn:Func):Bool:=
 (match fn.body with | some c => chk P ⟨K, fn.ntmps⟩ ac c | none => false) && qgT P ⟨K, fn.ntmps⟩ rvs fn.results.toList && fn.name != "runtime.NumGoroutine"
def resM(st:St):List RV->Prop×PV
 |[r]=>r.val st
 |rs=>(∀r∈rs,(r.val st).1,.tup (rs.map fun r=>(r.val st).2))
def retM(K:Nat)(rvs:List RV)(Q:PV->St->Prop):Exit->St->Prop:=fun e st=>qgU e=true/\(resM st rvs).1/\qgW (resM st rvs).2=true/\Q (resM st rvs).2 (st.low K)
theorem qh7 (h : Inv w0 Z0 N Z L st a w) {fn : Func} {rvs : List RV} (hm : qgT P N.sh rvs fn.results.toList = true) (hv : (resM st rvs).1) (hnt : ∀ cs ds, (resM st rvs).2 = .tup cs -> .tup ds ∉ cs) :
  ∃v,(results fn a.tmps).run P w= .ok v w/\VR w Z L (resM st rvs).2 v:=by
 have hv' : ∀r∈rvs,(r.val st).1:=by
  unfold resM at hv
  split at hv
  ·intro r hr;simp at hr;subst hr;exact hv
  ·exact hv
 obtain⟨vs,h1,h2,h3⟩:=qgZ h rvs fn.results.toList hm hv'
 have hrun:(results fn a.tmps).run P w= .ok (if h:vs.toArray.size=1 then vs.toArray[0]else .tuple vs.toArray) w:=by
  rw[qh0]
  simp[Array.mapM_eq_mapM_toList,h1]
 refine⟨_,hrun,?_⟩
 unfold resM at hnt ⊢
 split
 ·rename_i r
  have hl:vs.length=1:=by simpa using h2
  have:=h3 0 r rfl
  have hv0:vs.getD 0 undef=vs[0]:=by simp[zK,hl]
  rw[hv0]at this
  simpa[hl]using this
 ·rename_i hne
  have hl: ¬vs.toArray.size=1:=by
   simp only[List.size_toArray,h2]
   intro e
   obtain⟨r,hr⟩:=List.length_eq_one_iff.1 e
   exact hne r hr
  rw[dif_neg hl]
  refine⟨vs.toArray,rfl,by simp[h2],fun j c hj=> ?_⟩
  have hj0:=hj
  rw[zS]at hj
  obtain⟨r,h4,rfl⟩:=zR.1 hj
  have h5:=h3 j r h4
  have h6:vs.toArray.getD j undef=vs.getD j undef:=by simp[zO,zK]
  rw[h6]
  refine VR.toAR (fun cs e=> ?_) h5
  split at hnt
  ·exact hne _ rfl
  ·refine hnt _ cs rfl ?_
   rw[<- e]
   exact zP hj0
theorem FnM.of_awp {E : Env} {f : Nat} {fn : Func} {ac : AC} {rvs : List RV} {args : List PV} {Q : PV -> St -> Prop} (K : Nat) (hf : E.p.funcs[f]? = some fn) (hok : qh6 E.p K ac rvs fn = true) (hn : args.length <= fn.ntmps)
  (hlow:st.s.all (fun x=>decide (x.1<K))=true) (hkk:E.kk<=K) (h:awp E ac (retM K rvs Q) { st with s:=argS K args st.s }) (hpn: ∀ch st,¬E.pan ch st:=by exact fun _ _ h=>h):FnM E f args st Q:=by
 simp only[qh6,zN]at hok
 obtain⟨⟨hb,hr⟩,hname⟩:=hok
 split at hb
 ·rename_i c hc
  refine⟨by simp[qcG,hf,hc];simpa using hname,fun w0 Z0 X G Z L w vs hE hm ha=> ?_⟩
  have hsize:(vs++Array.replicate (fn.ntmps-vs.size) undef).size=fn.ntmps:=by have:=ha.1;simp;omega
  have hinit:Inv w0 Z0 ⟨fn.ntmps,K,G,X,some (false,[])⟩ Z L { st with s:=argS K args st.s } { tmps:=vs++Array.replicate (fn.ntmps-vs.size) undef,defers:=[] } w:=by
   refine⟨hm.zt,hm.z0,hm.zn,hm.zb,hm.below,hm.ownb,hm.owna,hm.injb,hm.inja,hm.injx,hm.boxes,hm.arrs,hm.ownm,hm.injm,hm.maps,hm.oth,hm.yb,hsize,fun dd e=>⟨[],⟨by cases e;rfl,fun _=>rfl⟩,⟨.nil,fun D hD=>by cases hD⟩,fun D hD=>by cases hD⟩,fun i v hl=> ?_⟩
   rw[qh5]at hl
   unfold Fr.val
   split at hl
   ·rename_i hin
    rw[if_pos ⟨hin.1,by simp only;omega⟩]
    have:=ha.2 _ v hl
    have hlt:i-K<vs.size:=by rw[ha.1];exact(zM.1 hl).1
    have e:(vs++Array.replicate (fn.ntmps-vs.size) undef).getD (i-K) undef=vs.getD (i-K) undef:=by
     simp only[zO,Array.getElem?_append_left hlt]
    simp only at e ⊢
    rw[e];exact this
   ·have hi:i<K:=by
     have:=yE.1 hlow _ (qa7 hl)
     simpa using this
    rw[if_neg (by simp only;omega)]
    have:=hm.slots i v hl
    have e:(⟨0,0,G,X,none⟩:Fr).val ⟨#[],[]⟩ i=G i:=by simp[Fr.val]
    rwa [e]at this
  refine callsIn_wide (n:=0)|>.1 (callsIn_of_wp_marks hf hc trivial ?_)
  refine wpIn_mono (qgS (P:=E) (w0:=w0) (Z0:=Z0) ac (N:=⟨fn.ntmps,K,G,X,some (false,[])⟩) (ro:=none) (n:=0) hE hkk c (retM K rvs Q) _ _ w (.inr ⟨rfl,fun dd e=>by cases e;rfl⟩) (fun l st hh=>by simp[retM,qgU]at hh) (fun ch st hh=>(hpn ch st hh).elim) hb h ⟨_,_,hinit⟩) ?_
  rintro e a' w' ⟨st',⟨he,h1,hfl,h3⟩,Z',L',hI⟩
  have hnt' : ∀cs ds,(resM st' rvs).2= .tup cs-> .tup ds∉cs:=fun cs ds e hm=>by rw[e]at hfl;have:=yE.1 hfl _ hm;simp[qgV]at this
  have hlv:LeavesInM Fence.wide 0 E.p fn a'.tmps (fun e w' => ∃v r st' Z' L',e= .returned v/\Q r st' /\Mem w0 Z0 X G Z' L' st' w' /\VR w' Z' L' r v) a'.defers .returning w' :=by
   refine hI.leave rfl fun w2 hI3=> ?_
   obtain⟨v,hrun,hvr⟩:=qh7 hI3 hr h1 hnt'
   have hT:=hI3.low K
   refine⟨v,hrun,v,_,st'.low K,Z',L',rfl,h3,⟨hT.zt,hT.z0,hT.zn,hT.zb,hT.below,hT.ownb,hT.owna,hT.injb,hT.inja,hT.injx,hT.boxes,hT.arrs,hT.ownm,hT.injm,hT.maps,hT.oth,hT.yb,rfl,fun _ e=>(by cases e),fun i v hi=> ?_⟩,hvr⟩
   have h8:=hT.slots i v hi
   have h9:=(qgQ hi).2
   unfold Fr.val at h8 ⊢
   rw[if_neg (by simp only;omega)]at h8
   rw[if_neg (by simp)]
   exact h8
  cases e<;>simp[qgU]at he<;>exact hlv
 ·cases hb
theorem TV.perm{c:PV}{v:Value}(h:TV w Z c v)(hp:Perm c):TV w (fun p b=>p=true/\Z true b) c v:=VR.perm (h.vr L00) hp
theorem FnOK.res{f:Nat}{args:List PV}{post:PV->Prop}(h:FnOK P f args (fun r=> ∃r',Sub r r' /\Perm r' /\post r')):FnOK P f args post:=by
 intro w Z hg h1 h2 vs h3 h4
 refine(h w Z hg h1 h2 vs h3 h4).mono ?_
 rintro e w' ⟨v,r,rfl,⟨r',hs,hp,hr⟩,htv,hb⟩
 refine⟨v,r',rfl,hr,?_,hb⟩
 have h5:TV w' (fun _ b=>Z true b\/(w.heap.size<=b/\b<w'.heap.size)) r v:=htv.zone (fun p b h=>h.2)
 exact(TV.perm (hs.tv (fun _ h=>h) h5) hp).zone (fun p b h=>h)
theorem FnEq.of_awp {f : Nat} {fn : Func} {ac : AC} {rvs : List RV} {args : List PV} {r : PV} (hf : P.funcs[f]? = some fn) (hok : fnOk P ac rvs fn = true) (hn : args.length <= fn.ntmps) (hp : Perm r)
  (h:awp (Env.of P) ac (retK rvs (fun x=>Sub x r)) ⟨slots0 args,[],[],[]⟩):FnEq P f args r:=
 FnOK.res (FnOK.mono (FnOK.of_awp hf hok hn h) fun _ hx=>⟨r,hx,hp,rfl⟩)
end
end Go.Vc
namespace Go.Vc
def aO(d:Nat)(o:AOp):AO:=⟨some d,none,o⟩
def aN(o:AOp):AO:=⟨none,none,o⟩
def eF(d:Nat)(o:AOp):DO:=⟨⟨some d,none,o⟩,[],[],false⟩
def eT(d:Nat)(o:AOp):DO:=⟨⟨some d,none,o⟩,[],[],true⟩
def eU(d:Nat)(o:AOp)(t u:List Nat):DO:=⟨⟨some d,none,o⟩,t,u,true⟩
def kI(n:Int):Opd:= .c (.sc (.int .i64 n))
def zI:PV:= .sc (.int .i64 0)
theorem oM{p:Prop}(h:p:=by omega):p:=h
@[push_cast] theorem aO_eq(d:Nat)(o:AOp):aO d o=⟨some d,none,o⟩:=rfl
@[push_cast] theorem aN_eq(o:AOp):aN o=⟨none,none,o⟩:=rfl
@[push_cast] theorem eF_eq(d:Nat)(o:AOp):eF d o=⟨⟨some d,none,o⟩,[],[],false⟩:=rfl
@[push_cast] theorem eT_eq(d:Nat)(o:AOp):eT d o=⟨⟨some d,none,o⟩,[],[],true⟩:=rfl
@[push_cast] theorem eU_eq(d:Nat)(o:AOp)(t u:List Nat):eU d o t u=⟨⟨some d,none,o⟩,t,u,true⟩:=rfl
@[push_cast] theorem kI_eq(n:Int):kI n= .c (.sc (.int .i64 n)):=rfl
@[push_cast] theorem zI_eq:zI= .sc (.int .i64 0):=rfl
def uA(d s:Nat)(o:AOp):AO:=⟨some d,some (s,false),o⟩
@[push_cast] theorem uA_eq(d s:Nat)(o:AOp):uA d s o=⟨some d,some (s,false),o⟩:=rfl
def uB(d s:Nat)(o:AOp):AO:=⟨some d,some (s,true),o⟩
@[push_cast] theorem uB_eq(d s:Nat)(o:AOp):uB d s o=⟨some d,some (s,true),o⟩:=rfl
def uC(d s:Nat)(o:AOp):DO:=⟨⟨some d,some (s,false),o⟩,[],[],true⟩
@[push_cast] theorem uC_eq(d s:Nat)(o:AOp):uC d s o=⟨⟨some d,some (s,false),o⟩,[],[],true⟩:=rfl
def uD(d s:Nat)(o:AOp):DO:=⟨⟨some d,some (s,true),o⟩,[],[],true⟩
@[push_cast] theorem uD_eq(d s:Nat)(o:AOp):uD d s o=⟨⟨some d,some (s,true),o⟩,[],[],true⟩:=rfl
def mT(d k:Nat):AO:=⟨some d,none,.mv (.t k)⟩
@[push_cast] theorem mT_eq(d k:Nat):mT d k=⟨some d,none,.mv (.t k)⟩:=rfl
def lF(d s k:Nat):AO:=⟨some d,none,.ld false s (.t k)⟩
@[push_cast] theorem lF_eq(d s k:Nat):lF d s k=⟨some d,none,.ld false s (.t k)⟩:=rfl
def uE(d s k:Nat):AO:=⟨some d,none,.ld true s (.t k)⟩
@[push_cast] theorem uE_eq(d s k:Nat):uE d s k=⟨some d,none,.ld true s (.t k)⟩:=rfl
def fA(d s k:Nat):AO:=⟨some d,none,.fa s (.t k)⟩
@[push_cast] theorem fA_eq(d s k:Nat):fA d s k=⟨some d,none,.fa s (.t k)⟩:=rfl
def uF(d k:Nat)(n:Int):AO:=⟨some d,none,.ari .add true .i64 (.t k) (.c (.sc (.int .i64 n)))⟩
@[push_cast] theorem uF_eq(d k:Nat)(n:Int):uF d k n=⟨some d,none,.ari .add true .i64 (.t k) (.c (.sc (.int .i64 n)))⟩:=rfl
def sT(s j k:Nat):AO:=⟨none,none,.sto s (.t j) (.t k)⟩
@[push_cast] theorem sT_eq(s j k:Nat):sT s j k=⟨none,none,.sto s (.t j) (.t k)⟩:=rfl
def mK(d:Nat)(n:Int):AO:=⟨some d,none,.mv (.c (.sc (.int .i64 n)))⟩
@[push_cast] theorem mK_eq(d:Nat)(n:Int):mK d n=⟨some d,none,.mv (.c (.sc (.int .i64 n)))⟩:=rfl
def lS(d j k:Nat):AO:=⟨some d,none,.cmp .lss .i64 (.t j) (.t k)⟩
@[push_cast] theorem lS_eq(d j k:Nat):lS d j k=⟨some d,none,.cmp .lss .i64 (.t j) (.t k)⟩:=rfl
def iX(d s j k:Nat):AO:=⟨some d,none,.ixs s (.t j) (.t k)⟩
@[push_cast] theorem iX_eq(d s j k:Nat):iX d s j k=⟨some d,none,.ixs s (.t j) (.t k)⟩:=rfl
def nT(d k:Nat):AO:=⟨some d,none,.len (.t k)⟩
@[push_cast] theorem nT_eq(d k:Nat):nT d k=⟨some d,none,.len (.t k)⟩:=rfl
def xT(d k:Nat):AO:=⟨some d,none,.box (.t k)⟩
@[push_cast] theorem xT_eq(d k:Nat):xT d k=⟨some d,none,.box (.t k)⟩:=rfl
def eK(d j:Nat)(n:Int):AO:=⟨some d,none,.cmp .eql .i64 (.t j) (.c (.sc (.int .i64 n)))⟩
@[push_cast] theorem eK_eq(d j:Nat)(n:Int):eK d j n=⟨some d,none,.cmp .eql .i64 (.t j) (.c (.sc (.int .i64 n)))⟩:=rfl
def uG(j k:Nat):AOp:= .pick (.t j) (.c (.sc (.bool true))) (.t k)
@[push_cast] theorem uG_eq(j k:Nat):uG j k= .pick (.t j) (.c (.sc (.bool true))) (.t k):=rfl
def pF(j k:Nat):AOp:= .pick (.t j) (.t k) (.c (.sc (.bool false)))
@[push_cast] theorem pF_eq(j k:Nat):pF j k= .pick (.t j) (.t k) (.c (.sc (.bool false))):=rfl
def bF:Opd:= .c (.sc (.bool false))
@[push_cast] theorem bF_eq:bF= .c (.sc (.bool false)):=rfl
def bT:Opd:= .c (.sc (.bool true))
@[push_cast] theorem bT_eq:bT= .c (.sc (.bool true)):=rfl
def eL(d s k:Nat):DO:=⟨⟨some d,none,.ld false s (.t k)⟩,[],[],true⟩
@[push_cast] theorem eL_eq(d s k:Nat):eL d s k=⟨⟨some d,none,.ld false s (.t k)⟩,[],[],true⟩:=rfl
def eM(d k:Nat):DO:=⟨⟨some d,none,.mv (.t k)⟩,[],[],true⟩
@[push_cast] theorem eM_eq(d k:Nat):eM d k=⟨⟨some d,none,.mv (.t k)⟩,[],[],true⟩:=rfl
def eI(d s j k:Nat):DO:=⟨⟨some d,none,.ixs s (.t j) (.t k)⟩,[],[],true⟩
@[push_cast] theorem eI_eq(d s j k:Nat):eI d s j k=⟨⟨some d,none,.ixs s (.t j) (.t k)⟩,[],[],true⟩:=rfl
def eA(d s k:Nat):DO:=⟨⟨some d,none,.fa s (.t k)⟩,[],[],true⟩
@[push_cast] theorem eA_eq(d s k:Nat):eA d s k=⟨⟨some d,none,.fa s (.t k)⟩,[],[],true⟩:=rfl
end Go.Vc
