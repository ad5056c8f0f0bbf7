/- VcK VcKa VcKb VcR VcS: lemmas -/
import Derived.Test.YtecoaapkcnhlhaaGreatDoorPart02
import Derived.Deep.LoopGhost
import Derived.RangeFuncNested
import Derived.WideLaws
set_option linter.unusedSimpArgs false
set_option linter.unusedVariables false
open Option renaming map_eq_some_iff->zR
open Array renaming getD_eq_getD_getElem? ->zO
open Bool renaming and_eq_true->zN,false_ne_true->zQ
open List renaming getD_eq_getElem?_getD->zK,getElem?_eq_getElem->zL,getElem?_eq_some_iff->zM,mem_of_getElem? ->zP,getElem?_map->zS,mem_cons_of_mem->zT,length_append->zU,length_cons->zV,map_cons->zW,mem_cons_self->zX,getElem?_append_left->yA,getElem?_append_right->yB,mem_append->yC,any_eq_false->yD,length_map->yG
namespace Go.Vc
open Go Go.RowKit
def PV.rs0(st:St):PV->PV
 | .view id lo n=>match lk st.a id with|some A=> .sl false A.es ((A.xs.drop lo).take n)|none=> .bot
 | .eptr id i off=>match lk st.a id with|some A=> .iptr false (A.xs.getD i []) off|none=> .bot
 | .ptr _ _| .clo .. | .yl _| .mp _| .itr .. | .cld _| .bv .. | .bm .. => .bot
 |c=>c
def qcu(st:St)(i:Nat):PV:=match lk st.b i with|some cs=> .iptr false (cs.map (PV.rs0 st)) 0|none=> .bot
def PV.rs1(st:St):PV->PV
 | .clo f ids=> .pcl f (ids.map (qcu st))
 | .ptr id off=>match lk st.b id with|some cs=> .iptr false (cs.map (PV.rs0 st)) off|none=> .bot
 | .bv id es n=>match lk st.b id with|some cs=>bif es==1&&cs.length==n then .sl false 1 (cs.map fun c=>[c.rs0 st])else .bot|none=> .bot
 |c=>c.rs0 st
def PV.rsA(st:St):PV->PV
 | .agg cs=> .agg (cs.map (PV.rs1 st))
 | .tup _=> .bot
 |c=>c.rs1 st
def tzTab:List Nat:=[0,1,56,2,57,49,28,3,61,58,42,50,38,29,17,4,62,47,59,36,45,43,51,22,53,39,33,30,24,18,12,5,63,55,48,27,60,41,37,16,46,35,44,21,52,32,23,11,54,26,40,15,34,20,31,10,25,14,19,9,13,8,7,6]
def GL (P : Program) (w : World) : Prop := ∀ g, P.globalNamed "math/bits.deBruijn64tab" = some g -> ∀ j, j < 64 -> w.cell? ⟨g, j, none⟩ = some (.int .u8 (tzTab.getD j 0))
theorem GL.below{P:Program}{w w' :World}(h:GL P w)(hb:Below w.heap.size w w'):GL P w' :=fun g hg j hj=>by
 have h1:=h g hg j hj
 have h2:g<w.heap.size:=by
  apply Classical.byContradiction
  intro hn
  rw[show w.cell? ⟨g,j,none⟩=none from by simp[World.cell?,Nat.le_of_not_lt hn]]at h1
  cases h1
 rw[<- h1]
 exact World.cell?_of_block (w:=w) (hb.block g h2)
theorem GL.no {P : Program} {w : World} (h : P.globalNamed "math/bits.deBruijn64tab" = none) : GL P w := fun g hg => by rw [h] at hg; cases hg
def FnOK(P:Program)(f:Nat)(args:List PV)(post:PV->Prop):Prop:=
 ∀(w:World) (Z:Zone),GL P w->(∀b,Z true b->Z false b)->(∀p b,Z p b->b<w.heap.size)-> ∀vs:Array Value,vs.size=args.length->(∀j c,args[j]? =some c->TV w Z c (vs.getD j undef))->
  Calls P f vs w fun e w' => ∃v r,e= .returned v/\post r/\TV w' (fun p b=>p=true/\(Z true b\/(w.heap.size<=b/\b<w'.heap.size))) r v/\Below w.heap.size w w'
theorem FnOK.mono{P:Program}{f:Nat}{args:List PV}{post post' :PV->Prop}(h:FnOK P f args post)(hp: ∀r,post r->post' r):FnOK P f args post' :=
 fun w Z hg h1 h2 vs h3 h4=>(h w Z hg h1 h2 vs h3 h4).mono fun _ _ ⟨v,r,e1,e2,e3⟩=>⟨v,r,e1,hp r e2,e3⟩
theorem FnOK.sub{P:Program}{f:Nat}{args args' :List PV}{post:PV->Prop}(h:FnOK P f args' post)(hs:SubL args args'):FnOK P f args post:=
 fun w Z hg h1 h2 vs h3 h4=>h w Z hg h1 h2 vs (by rw[h3,hs.len]) fun j d hj=>by
  obtain⟨c,hc⟩:=qct hs.len hj
  exact(hs.at j c d hc hj).tv h1 (h4 j c hc)
def FnEq(P:Program)(f:Nat)(args:List PV)(r:PV):Prop:=FnOK P f args (· =r)
inductive Perm:PV->Prop
 |bot:Perm .bot
 |sc (v):Perm (.sc v)
 |nil:Perm .nil
 |sl (p es xs):p=true->(∀x∈xs,∀c∈x,Perm c)->Perm (.sl p es xs)
 |iptr (p cs off):p=true->(∀c∈cs,Perm c)->Perm (.iptr p cs off)
 |agg (cs):(∀c∈cs,Perm c)->Perm (.agg cs)
 |tup (cs):(∀c∈cs,Perm c)->Perm (.tup cs)
@[simp] theorem qcv:Perm .bot ↔ True:=⟨fun _=>trivial,fun _=> .bot⟩
@[simp] theorem qcw(v:Value):Perm (.sc v) ↔ True:=⟨fun _=>trivial,fun _=> .sc v⟩
@[simp] theorem qcx:Perm .nil ↔ True:=⟨fun _=>trivial,fun _=> .nil⟩
@[simp] theorem qcy(p:Bool)(es:Nat)(xs:List (List PV)):Perm (.sl p es xs) ↔ p=true/\ ∀x∈xs,∀c∈x,Perm c:=⟨fun h=>by cases h;exact⟨‹_›,‹_›⟩,fun h=> .sl _ _ _ h.1 h.2⟩
@[simp] theorem qcz(p:Bool)(cs:List PV)(off:Nat):Perm (.iptr p cs off) ↔ p=true/\ ∀c∈cs,Perm c:=⟨fun h=>by cases h;exact⟨‹_›,‹_›⟩,fun h=> .iptr _ _ _ h.1 h.2⟩
@[simp] theorem qcA(cs:List PV):Perm (.agg cs) ↔ ∀c∈cs,Perm c:=⟨fun h=>by cases h;assumption,fun h=> .agg _ h⟩
@[simp] theorem qcB(cs:List PV):Perm (.tup cs) ↔ ∀c∈cs,Perm c:=⟨fun h=>by cases h;assumption,fun h=> .tup _ h⟩
section
variable {w0:World} {Z0:Zone} {N:Fr} {Z:Zone} {L:Lay} {st:St} {a:Act} {w:World} {P:Program}
def qcC(Z:Zone)(L:Lay)(st:St):Zone:=fun p b=>Z p b\/(p=false/\((∃id A,lk st.a id=some A/\b=L.ab id)\/(∃id cs,lk st.b id=some cs/\b=L.bx id)))
theorem qcD {Z' : Zone} {id : Nat} {A : Arr} {cur : Array Value} (hX : XR w Z L id A cur) (hz : ∀ p b, Z p b -> Z' p b) {p : Bool} (hid : Z' p (L.ab id)) {lo n : Nat} {v : Value} (h : CR w Z L (.view id lo n) v) :
  TR w Z' (.sl p A.es ((A.xs.drop lo).take n)) v:=by
 have hk:Kept Z w w:=⟨fun _ _ _=>rfl⟩
 obtain⟨ad,c',rfl,h1,h2,h3,h4,h5⟩:=h
 rw[hX.al]at h3
 have hlen:((A.xs.drop lo).take n).length=n:=by simp;omega
 by_cases hn:n=0
 ·subst hn
  rw[List.take_zero]
  exact TR.sl0 _ _ _ _ h2
 ·rw[h4 (by omega)]
  have:=TR.sl (w:=w) (Z:=Z') p A.es ((A.xs.drop lo).take n) (L.ab id) (lo*L.ae id) c' (fun p q=>cur.getD ((lo+p)*A.es+q) undef) hX.pos hid (by omega) (by omega) h2
   (fun x hx=>hX.rows x (List.mem_of_mem_drop (List.mem_of_mem_take hx)))
   (fun p q hp hq=>by
    rw[hlen]at hp
    have hpl:lo+p<A.xs.length:=by omega
    have hlt:(lo+p)*A.es+q<cur.size:=by rw[hX.size];exact Nat.lt_of_lt_of_le (qan hpl hq) (Nat.mul_le_mul_right _ hX.fits)
    have hrow:=hX.rows _ (List.getElem_mem hpl)
    have hx' :=hX.cell (lo+p) q _ (A.xs[lo+p])[q] (zL hpl) (zL (by omega))
    refine⟨?_,hx'.2⟩
    rw[cell_of_row w _ _ _ _ _ hX.blk,hX.ae,<- Nat.add_assoc,<- Nat.add_mul]
    simp[Array.getD,hlt])
   (fun p q x c hp hq=>by
    rw[List.getElem?_take]at hp
    split at hp
    ·rw[List.getElem?_drop]at hp
     exact(hX.cell _ _ _ _ hp hq).1.keep hk hz
    ·cases hp)
  rw[hlen]at this
  exact this
theorem CR.rs0(h:Inv w0 Z0 N Z L st a w){c:PV}{v:Value}(hc:CR w Z L c v):TR w (qcC Z L st) (c.rs0 st) v:=by
 have hk:Kept Z w w:=⟨fun _ _ _=>rfl⟩
 have hz: ∀p b,Z p b->qcC Z L st p b:=fun _ _ h=> .inl h
 cases c with
 |view id lo n=>
   simp only[PV.rs0]
   cases hA:lk st.a id with
   |none=>exact TR.bot v
   |some A=>
     obtain⟨cur,hX⟩:=h.arrs id A hA
     exact qcD hX hz (.inr ⟨rfl,.inl ⟨id,A,hA,rfl⟩⟩) hc
 |eptr id i off=>
   simp only[PV.rs0]
   cases hA:lk st.a id with
   |none=>exact TR.bot v
   |some A=>
     obtain⟨cur,hX⟩:=h.arrs id A hA
     obtain⟨rfl,h1⟩:=hc
     rw[hX.al]at h1
     have hl:=hX.lies h1
     refine TR.iptr false _ (L.ab id) (i*L.ae id) off (fun q=>cur.getD (i*A.es+q) undef) (.inr ⟨rfl,.inl ⟨id,A,hA,rfl⟩⟩) (fun q hq=>⟨hl.cell q hq,?_⟩) (fun q c hq=> ?_)
     ·exact(hl.rel q _ (zL hq)).2
     ·rw[zK,zL h1]at hq
      exact(hX.cell i q _ c (zL h1) hq).1.keep hk hz
 |ptr id off=>exact TR.bot v
 |clo f ids=>exact TR.bot v
 |yl id=>exact TR.bot v
 |mp id=>exact TR.bot v
 |itr id it=>exact TR.bot v
 |cld ids=>exact TR.bot v
 |bv id es n=>exact TR.bot v
 |bm f id=>exact TR.bot v
 |_=>exact TR.keep hk hz hc
theorem qcE(h:Inv w0 Z0 N Z L st a w)(i:Nat):TR w (qcC Z L st) (qcu st i) (.pointer (some ⟨L.bx i,0,none⟩)):=by
 unfold qcu
 split
 ·rename_i cs hB
  obtain⟨vs,T,h1,h2,h3⟩:=h.boxes i cs hB
  have:=TR.iptr (w:=w) (Z:=qcC Z L st) false (cs.map (PV.rs0 st)) (L.bx i) 0 0 (fun j=>vs.getD j undef) (.inr ⟨rfl,.inr ⟨i,cs,hB,rfl⟩⟩) (fun j hj=>by
   simp only[yG]at hj
   refine⟨?_,(h3 j _ (zL hj)).2⟩
   rw[cell_of_row w _ _ _ _ _ h1,Nat.zero_add]
   have hj2:j<vs.size:=Nat.lt_of_lt_of_le hj h2.1
   simp[Array.getD,hj2]) (fun j c hj=>by
   rw[zS]at hj
   obtain⟨c',h4,rfl⟩:=zR.1 hj
   exact CR.rs0 h (h3 j c' h4).1)
  exact this
 ·exact TR.bot _
theorem CR.rs1(h:Inv w0 Z0 N Z L st a w){c:PV}{v:Value}(hc:CR w Z L c v):TR w (qcC Z L st) (c.rs1 st) v:=by
 cases c with
 |clo f ids=>
   have hc:v= .func (.func f) #[] (ids.map fun i=>Value.pointer (some ⟨L.bx i,0,none⟩)).toArray:=hc
   rw[hc]
   refine TR.pcl f _ _ (by simp) fun j c hj=> ?_
   rw[zS]at hj
   obtain⟨i,h4,rfl⟩:=zR.1 hj
   have:((ids.map fun i=>Value.pointer (some ⟨L.bx i,0,none⟩)).toArray).getD j undef= .pointer (some ⟨L.bx i,0,none⟩):=by simp[zO,h4]
   rw[this]
   exact qcE h i
 |ptr id off=>
   simp only[PV.rs1]
   cases hB:lk st.b id with
   |none=>exact TR.bot v
   |some cs=>
     obtain⟨vs,T,h1,h2,h3⟩:=h.boxes id cs hB
     simp only[CR]at hc
     subst hc
     have:=TR.iptr (w:=w) (Z:=qcC Z L st) false (cs.map (PV.rs0 st)) (L.bx id) 0 off (fun j=>vs.getD j undef) (.inr ⟨rfl,.inr ⟨id,cs,hB,rfl⟩⟩) (fun j hj=>by
      simp only[yG]at hj
      refine⟨?_,(h3 j _ (zL hj)).2⟩
      rw[cell_of_row w _ _ _ _ _ h1,Nat.zero_add]
      have hj2:j<vs.size:=Nat.lt_of_lt_of_le hj h2.1
      simp[Array.getD,hj2]) (fun j c hj=>by
      rw[zS]at hj
      obtain⟨c',h4,rfl⟩:=zR.1 hj
      exact CR.rs0 h (h3 j c' h4).1)
     rw[Nat.zero_add]at this
     exact this
 |bv id es n=>
   simp only[PV.rs1]
   cases hB:lk st.b id with
   |none=>exact TR.bot v
   |some cs=>
     simp only
     cases he:(es==1&&cs.length==n)with
     |false=>exact TR.bot v
     |true=>
       simp only[zN,beq_iff_eq]at he
       obtain⟨rfl,rfl⟩:=he
       obtain⟨vs,T,h1,h2,h3⟩:=h.boxes id cs hB
       simp only[CR]at hc
       obtain⟨cp,rfl,hcp,hm,_⟩:=hc
       simp only[cond_true]
       by_cases h0:cs=[]
       ·subst h0
        exact TR.sl0 _ _ _ _ hm
       ·have hpos:=List.length_pos_iff.2 h0
        have:=TR.sl (w:=w) (Z:=qcC Z L st) false 1 (cs.map fun c=>[c.rs0 st]) (L.bx id) 0 cp (fun i _=>vs.getD i undef) (by omega) (.inr ⟨rfl,.inr ⟨id,cs,hB,rfl⟩⟩) (by simpa using hpos) (by simpa using hcp) hm
         (fun x hx=>by obtain⟨c,_,rfl⟩:=List.mem_map.1 hx;rfl)
         (fun i j hi hj=>by
          simp only[yG]at hi
          obtain rfl:j=0:=by omega
          refine⟨?_,(h3 i _ (zL hi)).2⟩
          rw[cell_of_row w _ _ _ _ _ h1]
          have hi2:i<vs.size:=Nat.lt_of_lt_of_le hi h2.1
          simp[Array.getD,hi2])
         (fun i j x c hi hj=>by
          rw[zS]at hi
          obtain⟨c',h4,rfl⟩:=zR.1 hi
          match j,hj with
          |0,hj=>simp at hj;subst hj;exact CR.rs0 h (h3 i c' h4).1)
        simpa using this
 |_=>exact CR.rs0 h hc
theorem VR.rsA(h:Inv w0 Z0 N Z L st a w){c:PV}{v:Value}(hc:VR w Z L c v):TA w (qcC Z L st) (c.rsA st) v:=by
 cases c with
 |agg cs=>
   obtain⟨vs,h1,h2,h3⟩:=hc
   refine⟨vs,h1,by simpa using h2,fun j c hj=> ?_⟩
   rw[zS]at hj
   obtain⟨c',h4,rfl⟩:=zR.1 hj
   exact⟨CR.rs1 h (h3 j c' h4).1,(h3 j c' h4).2⟩
 |tup cs=>exact TR.bot v
 |_=>
   have h1:=CR.rs1 h (AR.toCR (by simp) (VR.toAR (by simp) hc))
   simp only[PV.rsA]
   revert h1
   generalize PV.rs1 st _=c
   intro h1
   cases c<;>simp only[TA]<;>first|exact h1|(cases h1)
structure Env where
 p:Program
 kk:Nat
 Y:Nat->List PV->St->(St->Prop)->Prop
 pan:List PanicEntry->St->Prop
abbrev Env.of (P:Program):Env:=⟨P,0,fun _ _ _ _=>False,fun _ _=>False⟩
def Fw(r:Option Nat):Fence:= { Fence.wide with round:=r }
abbrev Mem (w0:World) (Z0:Zone) (X:Gh) (G:Nat->Value) (Z:Zone) (L:Lay) (st:St) (w:World):Prop:=Inv w0 Z0 ⟨0,0,G,X,none⟩ Z L st ⟨#[],[]⟩ w
def ArgsR(w:World)(Z:Zone)(L:Lay)(args:List PV)(vs:Array Value):Prop:=vs.size=args.length/\ ∀j c,args[j]? =some c->VR w Z L c (vs.getD j undef)
def EnvOK(E:Env)(w0:World)(Z0:Zone)(X:Gh)(G:Nat->Value):Prop:=GL E.p w0/\
 ∀(X' :Gh) (G' :Nat->Value) (Z:Zone) (L:Lay) (w:World) (id:Nat) (args:List PV) (st:St) (K:St->Prop) (vs:Array Value),(∀x∈X.x,x∈X'.x)->X'.y=X.y->(∀i,i<E.kk->G' i=G i)->E.Y id args st K->
  Mem w0 Z0 X' G' Z L st w->ArgsR w Z L args vs->
  ∃(f:FuncId) (tmps:Array Value) (assign body:Code),(Instr.yield (X.y id) vs).run E.p w= .ok (.round (X.y id) f tmps assign body) w/\
   ∀n,RoundIn (Fw none) n E.p (X.y id) f tmps assign body w fun e w' =>e= .returned (.bool true)/\ ∃st' Z' L',K st' /\Mem w0 Z0 X' G' Z' L' st' w'
theorem EnvOK.of(P:Program)(w0:World)(Z0:Zone)(X:Gh)(G:Nat->Value)(hg:GL P w0):EnvOK (Env.of P) w0 Z0 X G:=⟨hg,fun _ _ _ _ _ _ _ _ _ _ _ _ _ h=>h.elim⟩
theorem EnvOK.congr{E:Env}{w0:World}{Z0:Zone}{X X2:Gh}{G G' :Nat->Value}(h:EnvOK E w0 Z0 X G)(hx: ∀x∈X.x,x∈X2.x)(hy:X2.y=X.y)(hg: ∀i,i<E.kk->G' i=G i):EnvOK E w0 Z0 X2 G' :=
 ⟨h.1,fun X' G2 Z L w id args st K vs h1 h2 h3=>by
  rw[hy]
  exact h.2 X' G2 Z L w id args st K vs (fun x hx' =>h1 x (hx x hx')) (h2.trans hy) fun i hi=>(h3 i hi).trans (hg i hi)⟩
def qcG (P : Program) (f : Nat) : Bool := match P.funcs[f]? with | some fn => fn.body.isSome && fn.name != "runtime.NumGoroutine" | none => false
def FnM(E:Env)(f:Nat)(args:List PV)(st:St)(Q:PV->St->Prop):Prop:=qcG E.p f=true/\
 ∀(w0:World) (Z0:Zone) (X:Gh) (G:Nat->Value) (Z:Zone) (L:Lay) (w:World) (vs:Array Value),EnvOK E w0 Z0 X G->Mem w0 Z0 X G Z L st w->ArgsR w Z L args vs->
  Calls E.p f vs w fun e w' => ∃v r st' Z' L',e= .returned v/\Q r st' /\Mem w0 Z0 X G Z' L' st' w' /\VR w' Z' L' r v
theorem FnM.mono{E:Env}{f:Nat}{args:List PV}{st:St}{Q Q' :PV->St->Prop}(h:FnM E f args st Q)(hq: ∀r st',Q r st' ->Q' r st'):FnM E f args st Q' :=
 ⟨h.1,fun w0 Z0 X G Z L w vs h1 h2 h3=>(h.2 w0 Z0 X G Z L w vs h1 h2 h3).mono fun _ _ ⟨v,r,st',Z',L',e1,e2,e3⟩=>⟨v,r,st',Z',L',e1,hq r st' e2,e3⟩⟩
def FnX(E:Env)(f:Nat)(args:List PV)(st:St)(Q:PV->St->Prop):Prop:=qcG E.p f=true/\
 ∀(w0:World) (Z0:Zone) (X:Gh) (G:Nat->Value) (Z:Zone) (L:Lay) (w:World) (vs:Array Value),EnvOK E w0 Z0 X G->Mem w0 Z0 X G Z L st w->ArgsR w Z L args vs->
  Calls E.p f vs w fun e w' =>(∃v r st' Z' L',e= .returned v/\Q r st' /\Mem w0 Z0 X G Z' L' st' w' /\VR w' Z' L' r v)\/(∃ch st' Z' L',e= .panicked ch/\E.pan ch st' /\Mem w0 Z0 X G Z' L' st' w')
theorem FnX.mono{E:Env}{f:Nat}{args:List PV}{st:St}{Q Q' :PV->St->Prop}(h:FnX E f args st Q)(hq: ∀r st',Q r st' ->Q' r st'):FnX E f args st Q' :=
 ⟨h.1,fun w0 Z0 X G Z L w vs h1 h2 h3=>(h.2 w0 Z0 X G Z L w vs h1 h2 h3).mono fun _ _ h=>h.imp (fun⟨v,r,st',Z',L',e1,e2,e3⟩=>⟨v,r,st',Z',L',e1,hq r st' e2,e3⟩) id⟩
structure AO where
 d:Option Nat
 g:Option (Nat×Bool)
 op:AOp
structure DO where
 o:AO
 t:List Nat
 u:List Nat
 str:Bool
structure RF where
 f:Opd
 K:Nat
 n:Nat
 K2:Nat
 ks:List Nat
 id:Nat
structure XO where
 i:Nat
 deps:List Nat
 o:AO
inductive AC where
 |skip
 |reg (keep:List Nat) (ops:List AO)
 |rgs (segs:List (List Nat×List AO))
 |drw (keep:List Nat) (ops:List DO)
 |dra (keep:List Nat) (ops:List XO)
 |seq (a b:AC)
 |cond (c:Opd) (x y:AC)
 |block (id:Nat) (body:AC)
 |loop (ks:List Nat) (body:AC)
 |lps (ks:List Nat) (body:AC)
 |frz (ts:List Nat) (c:AC)
 |obs (t:Nat) (c:AC)
 |wk (c:AC)
 |cut (ks:List Nat) (c:AC)
 |scope (c:AC)
 |label
 |rngf (ρ:RF) (ps:List Nat) (ass body:AC)
 |ret
 |exit (id:Nat)
def qcH:AOp->Bool
 | .alc _| .box _| .bsl .. | .mks .. | .sto .. | .app .. | .cpy .. | .mkm _| .mup .. | .men .. | .est .. | .rng _=>true
 |_=>false
def qcI:AOp->Bool
 | .mkm _| .mup .. | .men .. | .est .. | .rng _| .nxt _| .clm .. | .clv .. | .niq .. | .xo .. | .clx .. | .pan _=>true
 |_=>false
def niqK(v:PV)(K:Bool->Prop):Prop:=
 match v with
 | .nil=>K true
 | .view .. =>K false
 | .sl _ _ (_::_)=>K false
 | .sl _ _ []=> ∀b,K b
 |_=>False
def nxtK(st:St)(d:Option Nat)(v:PV)(K:St->Prop):Prop:=
 match v with
 | .itr id it => match lk st.m id with
   | some M => match M.it with
     | some (.run it' left _) => (it' = it /\ M.kd.sc = true) /\ (left = [] -> K (st.put d (.tup [.sc (.bool false)]))) /\
       ∀(i:Nat) (z:Value×PV),left[i]? =some z->K (({ st with m:=up st.m id { M with it:=some (.run it' (left.eraseIdx i) (some z)) } } :St).put d (.tup [.sc (.bool true),.sc z.1,z.2]))
     |_=>False
   |none=>False
 |_=>False
def clvK(P:Env)(st:St)(d:Option Nat)(v:PV)(args:List PV)(K:St->Prop):Prop:=
 match v with
 | .clo f ids=>FnM P f (args++ids.map fun i=> .ptr i 0) st fun r st' =>K (st'.put d r)
 | .sc (.func (.func f) _ _)=>FnM P f args st fun r st' =>K (st'.put d r)
 | .pcl f caps=>qcG P.p f=true/\ ∃post,FnOK P.p f (args.map (PV.rsA st)++caps) post/\ ∀r,post r->K (st.put d r)
 | .bm f id=>FnM P f (.ptr id 0::args) st fun r st' =>K (st'.put d r)
 | .yl id=> ∃K',P.Y id args st K' /\ ∀st',K' st' ->K (st'.put d (.sc (.bool true)))
 |_=>False
def clrK(st:St)(es:Nat)(zero:List PV)(K:St->Prop):PV->Prop
 | .view id lo n => match lk st.a id with
   |some A=>(A.es=es/\zero.length=es)/\K { st with a:=up st.a id { A with xs:=cpyF A.xs lo (List.replicate n zero) } }
   |none=>False
 |_=>False
def apmK(st:St)(i:Nat)(es ty by_:Nat)(zero:List PV)(K:St->Prop):PV->PV->Prop
 | .nil,.sc (.int .i64 n)=>(0<es/\zero.length=es)/\0<n/\n.toNat*by_<=140737488355328/\n<=9223372036854775807/\K (st.newArr i ⟨es,ty,List.replicate n.toNat zero⟩)
 |_,_=>False
def pfK(st:St)(d:Option Nat)(K:St->Prop):Option PV->Prop
 |some r=>K (st.put d r)
 |none=>False
def bsxF(i es:Nat):List PV->Prop×List PV
 |[]=>(True,[])
 |v::r=>((qas v=true/\(cellsOf v).length=es/\(cellsOf v).any (PV.to (fun j=>j==i) nul)=false)/\(bsxF i es r).1,cellsOf v++(bsxF i es r).2)
def bsxK(st:St)(i es:Nat)(zero:List PV)(vs:List PV)(K:St->Prop):Prop:=((0<es/\zero.length=es/\vs.length*es<=16777216)/\(bsxF i es vs).1)/\K (st.newBx i es (bsxF i es vs).2 vs.length)
def mkxK(st:St)(i by_:Nat)(zero:PV)(K:St->Prop):PV->Prop
 | .sc (.int _ n)=>(0<=n/\n.toNat*by_<=140737488355328/\n<=9223372036854775807)/\K (st.newBx i 1 (List.replicate n.toNat zero) n.toNat)
 |_=>False
def apxK(st:St)(i es by_:Nat)(K:St->Prop):PV->PV->Prop
 | .bv id es1 n, .bv id2 es2 m => match lk st.b id, lk st.b id2 with
   | some cs, some cs2 => (((es1 = es /\ es2 = es /\ 0 < es) /\ cs.length = n * es /\ cs2.length = m * es) /\ (cs.any (PV.to (fun j => j == id) nul) = false /\ cs2.any (PV.to (fun j => j == id) nul) = false) /\ (n + m) * by_ <= 140737488355328 /\ n + m <= 9223372036854775807) /\
     K (st.growBx i id es (cs++cs2) (n+m))
   |_,_=>False
 |_,_=>False
def mxL(b:Bool):Int->List PV->Option Int
 |n,[]=>some n
 |n,.sc (.int .i64 m)::r=>mxL b (bif b then max n m else min n m) r
 |_,_=>none
def mxF(b:Bool):List PV->Option PV
 | .sc (.int .i64 n)::r=>(mxL b n r).map fun m=> .sc (.int .i64 m)
 |_=>none
def xoK(st:St)(d:Option Nat)(k:XK)(args:List PV)(K:St->Prop):Prop:=
 match k,args,d with
 | .pf g,[x],d=>pfK st d K (xfF g x)
 | .cap0,[.nil],d=>K (st.put d (.int 0))
 | .clr es zero,[x],none=>clrK st es zero K x
 | .apm es ty by_ zero,[s,n],some i=>apmK st i es ty by_ zero K s n
 | .bsx es zero,vs,some i=>bsxK st i es zero vs K
 | .mkx by_ zero,[l],some i=>mkxK st i by_ zero K l
 | .mx b,vs,d=>pfK st d K (mxF b vs)
 | .apx es by_,[s,x],some i=>apxK st i es by_ K s x
 |_,_,_=>False
def panK(P:Env)(st:St):PV->Prop
 | .sc (.iface t v)=>P.pan [{ v:= .iface t v,recovered:=false }] st
 |_=>False
def opK(P:Env)(o:AO)(st:St)(K:St->Prop):Prop:=
 match o.op with
 | .cal f args=> ∃post,FnOK P.p f (args.map fun x=>(x.ev st).rsA st) post/\ ∀r,post r->K (st.put o.d r)
 | .clm f args=>FnM P f (args.map (·.ev st)) st fun r st' =>K (st'.put o.d r)
 | .clv x args=>clvK P st o.d (x.ev st) (args.map (·.ev st)) K
 | .nxt x=>nxtK st o.d (x.ev st) K
 | .xo k args=>xoK st o.d k (args.map (·.ev st)) K
 | .clx f args=>FnX P f (args.map (·.ev st)) st fun r st' =>K (st'.put o.d r)
 | .pan x=>panK P st (x.ev st)
 | .niq neg x=>niqK (x.ev st) fun b=>K (st.put o.d (.sc (.bool (bif neg then !b else b))))
 |op=>if qcH op then(hev st o.d op).1/\K (hev st o.d op).2 else(aev st op).1/\K (st.put o.d (aev st op).2)
def grdK(st:St)(g:Option (Nat×Bool))(yes no:Prop):Prop:=
 match g with
 |none=>yes
 | some (s, want) => match st.get s with
   | .sc (.bool b)=>(b=want->yes)/\(b≠want->no)
   | .tup []=>no
   |_=>False
def opsK(P:Env):List AO->St->(St->Prop)->Prop
 |[],st,K=>K st
 |o::r,st,K=>grdK st o.g (opK P o st fun st' =>opsK P r st' K) (opsK P r (st.put o.d (.tup [])) K)
def rdyB(dn:List Nat)(x:XO):Bool:= !dn.contains x.i&&x.deps.all fun j=>dn.contains j
def qcJ(ops:List XO)(dn:List Nat):Bool:=ops.all fun x=>dn.contains x.i
def allK(P:Env)(ops:List XO):Nat->List Nat->St->(St->Prop)->Prop
 |0,dn,st,K=>qcJ ops dn=true/\K st
 |n+1,dn,st,K=>(qcJ ops dn=true->K st)/\ ∀x∈ops,rdyB dn x=true->grdK st x.o.g (opK P x.o st fun st' =>allK P ops n (x.i::dn) st' K) (allK P ops n (x.i::dn) (st.put x.o.d (.tup [])) K)
def inL(l:List Nat)(i:Nat):Bool:=l.contains i
def srcS:AOp->Option Nat
 | .app _ _ _ (.t s) _=>some s
 |_=>none
def refU(u:List Nat)(v:PV):Bool:=match u with|[]=>false|_::_=>v.toV (inL u) (inL u)
def boxU(u:List Nat)(o:Option (List PV)):Bool:=match u,o with|[],_=>false|_::_,none=>false|_::_,some cs=>cs.any (PV.to (inL u) (inL u))
def noX(st:St)(t:List Nat)(ss:Option Nat):Bool:=match t with
 |[]=>true
 |_::_=>st.s.all (fun x=>ss==some x.1|| !x.2.toV (inL t) (inL t))&&st.b.all (fun x=> !x.2.any (PV.to (inL t) (inL t)))
def St.getO(st:St)(d:Option Nat):PV:=match d with|some i=>st.get i|none=> .bot
def stoT:List Nat->PV->Bool
 |[],_=>true
 |i::u,.ptr id _=>inL (i::u) id
 |i::u,.eptr id _ _=>inL (i::u) id
 |_::_,_=>false
def qcK(st:St)(t u:List Nat):AOp->Prop
 | .bsl _ _ _ _ parts=> ∀p∈parts,qbL (cellsOf (p.2.ev st))=[]
 | .sto _ x v=>qbL (cellsOf (v.ev st))=[]/\stoT u (x.ev st)=true
 | .ld _ _ x=>refU u (x.ev st)=false
 | .ixs _ x _=>refU u (x.ev st)=false
 | .slc _ x _ _=>refU u (x.ev st)=false
 | .app _ _ _ s _=>match s.ev st with| .view id _ _=>inL t id=true|_=>True
 |_=>True
def qcL(x:DO)(st:St):Prop:=noX st x.t (srcS x.o.op)=true/\refU x.u (st.getO x.o.d)=false/\x.t.all (fun i=> !boxU x.u (lk st.b i))=true
def qcM(x:DO)(st' :St):Prop:=refU x.u (st'.getO x.o.d)=false/\x.t.all (fun i=> !boxU x.u (lk st'.b i))=true
def calD(P:Env)(x:DO)(f:Nat)(args:List PV)(st:St)(K:St->Prop):Prop:= ∃post,FnOK P.p f args post/\(∃r,post r)/\ ∀r,post r->refU x.u r=false/\K (st.put x.o.d r)
def dopK(P:Env)(x:DO)(st:St)(K:St->Prop):Prop:=
 match x.o.op with
 | .cal f args=>calD P x f (args.map fun y=>(y.ev st).rsA st) st K
 | .clv y args=>(match y.ev st with| .sc (.func (.func f) _ _)=>qcG P.p f=true/\calD P x f (args.map fun y=>(y.ev st).rsA st) st K|_=>False)
 |op=>qcK st x.t x.u op/\opK P x.o st (fun st' =>qcM x st' /\K st')
def dopG(P:Env)(x:DO)(st:St)(K:St->Prop):Prop:=
 if x.str=true then qcL x st/\grdK st x.o.g (dopK P x st K) (K (st.put x.o.d (.tup [])))else grdK st x.o.g (opK P x.o st K) (K (st.put x.o.d (.tup [])))
def dsK(P:Env):List DO->St->(St->Prop)->Prop
 |[],st,K=>K st
 |x::r,st,K=>dopG P x st fun st' =>dsK P r st' K
def inK:List Nat->Nat->Bool
 |K::n::r,i=>decide (i<K)||decide (K+n<=i)||r.contains i
 |_,_=>false
def St.keepS(st:St)(ks:List Nat):St:= { st with s:=st.s.filter fun x=>inK ks x.1 }
def segK(P:Env):List (List Nat×List AO)->St->(St->Prop)->Prop
 |[],st,K=>K st
 |x::r,st,K=>opsK P x.2 (st.keepS x.1) fun st' =>segK P r st' K
def segO:List (List Nat×List AO)->List AO
 |[]=>[]
 |x::r=>x.2++segO r
def St.gc(st:St)(ks:List Nat):St:=
 let s:=st.s.filter fun x=>inK ks x.1
 let b1:=st.b.filter fun x=>s.any (fun y=>y.2.toV (fun j=>j==x.1) nul)||([]:List (Nat×List PV)).any (fun y=>y.2.any (PV.to (fun j=>j==x.1) nul))
 let b2:=st.b.filter fun x=>s.any (fun y=>y.2.toV (fun j=>j==x.1) nul)||b1.any (fun y=>y.2.any (PV.to (fun j=>j==x.1) nul))
 let b:=st.b.filter fun x=>s.any (fun y=>y.2.toV (fun j=>j==x.1) nul)||b2.any (fun y=>y.2.any (PV.to (fun j=>j==x.1) nul))
 { s := s, b := b, a := st.a.filter fun x => s.any (fun y => y.2.toV nul (fun j => j == x.1)) || b.any (fun y => y.2.any (PV.to nul (fun j => j == x.1))),
   m:=st.m.filter fun x=>s.any (fun y=>y.2.toV (fun j=>j==x.1) nul)||b.any (fun y=>y.2.any (PV.to (fun j=>j==x.1) nul)) }
def Exit.inB(id:Nat)(Q:Exit->St->Prop):Exit->St->Prop
 | .exit id',st=>if id' =id then Q .normal st else Q (.exit id') st
 |e,st=>Q e st
def Exit.thn(next:St->Prop)(Q:Exit->St->Prop):Exit->St->Prop
 | .normal,st=>next st
 |e,st=>Q e st
def qcN(v:PV)(x y:Prop):Prop:=
 match v with
 | .sc (.bool b)=>(b=true->x)/\(b=false->y)
 |_=>False
def qcO:St->List Nat->St
 |st,[]=>st
 |st,t::r=>qcO (st.frzs (cellsOf (st.get t))) r
def obsK(st:St)(t:Nat)(K:St->Prop):Prop:=
 match st.get t with
 | .mp id => match lk st.m id with
   |some M=> ∀l c,l.length=M.es.length->K { st with m:=up st.m id ⟨M.kd,M.es,some (.stp l c)⟩ }
   |none=>False
 |_=>False
def qcP(K K2:Nat)(src:List (Nat×PV)):List (Nat×PV)->List (Nat×PV)->List (Nat×PV)
 |[],s=>s
 |(i,_)::r,s=>qcP K K2 src r (up s (K2+(i-K)) ((lk src i).getD .bot))
def qcQ:List Nat->List PV->List (Nat×PV)->List (Nat×PV)
 |p::ps,v::vs,s=>qcQ ps vs (up s p v)
 |_,_,s=>s
def St.low(st:St)(k:Nat):St:= { st with s:=st.s.filter fun x=>decide (x.1<k) }
def St.noId(st:St)(id:Nat):St:= { st.kill (fun j=>j==id) nul with b:=rm (st.kill (fun j=>j==id) nul).b id }
def rngY(ρ:RF)(ps:List Nat)(B:St->(St->Prop)->Prop)(id:Nat)(args:List PV)(st:St)(K:St->Prop):Prop:=
 id=ρ.id/\args.length=ps.length/\st.s.all (fun x=>decide (x.1<ρ.K2))=true/\
 B { st with s:=qcQ ps args (qcP ρ.K ρ.K2 st.s (st.s.filter fun x=>decide (ρ.K<=x.1/\x.1<ρ.K+ρ.n)) st.s) } fun st2=> ∃st3,SWk (st2.low ρ.K2) st3/\st3.s.all (fun x=>decide (x.1<ρ.K2))=true/\K st3
def Env.noY(P:Env):Prop:=(∀id args st K,¬P.Y id args st K)/\ ∀ch st,¬P.pan ch st
def qcR:PV->PV
 | .sc (.func (.func f) ⟨[]⟩ ⟨[]⟩)=> .clo f []
 |c=>c
theorem qcS{w:World}{Z:Zone}{L:Lay}{c:PV}{v:Value}(h:VR w Z L c v):VR w Z L (qcR c) v:=by
 unfold qcR
 split
 ·have h:TR w Z _ v:=h
  cases h
  rfl
 ·exact h
def rngK(P:Env)(ρ:RF)(ps:List Nat)(B:St->(St->Prop)->Prop)(st:St)(K:St->Prop):Prop:=
 match qcR (ρ.f.ev st)with
 | .clo f ids=>(P.noY/\ids.contains ρ.id=false)/\FnM ⟨P.p,ρ.K+ρ.n,rngY ρ ps B,fun _ _=>False⟩ f (.yl ρ.id::ids.map fun i=> .ptr i 0) (st.noId ρ.id) fun _ st' =>K ((st'.low (ρ.K+ρ.n)).noId ρ.id)
 |_=>False
def awp(P:Env):AC->(Exit->St->Prop)->St->Prop
 | .skip,Q,st=>Q .normal st
 | .reg keep ops,Q,st=>opsK P ops (st.keepS keep) (Q .normal)
 | .rgs segs,Q,st=>segK P segs st (Q .normal)
 | .drw keep ops,Q,st=>dsK P ops (st.keepS keep) (Q .normal)
 | .dra keep ops,Q,st=>allK P ops ops.length [] (st.keepS keep) (Q .normal)
 | .seq a b,Q,st=>awp P a (Exit.thn (awp P b Q) Q) st
 | .cond c x y,Q,st=>qcN (c.ev st) (awp P x Q st) (awp P y Q st)
 | .block id body,Q,st=>awp P body (Exit.inB id Q) st
 | .loop ks body,Q,st=> ∃(I:Nat->St->Prop) (n0:Nat),I n0 (st.gc ks)/\ ∀n st',I n st' ->awp P body (Exit.thn (fun st'' => ∃n',n' <n/\I n' (st''.gc ks)) Q) st'
 | .lps ks body,Q,st=> ∃(I:Nat->St->Prop) (n0:Nat),(∃st1,SWk (st.keepS ks) st1/\I n0 st1)/\ ∀n st',I n st' ->awp P body (Exit.thn (fun st'' => ∃st1,SWk (st''.keepS ks) st1/\ ∃n',n' <n/\I n' st1) Q) st'
 | .frz ts c,Q,st=>awp P c Q (qcO st ts)
 | .obs t c,Q,st=>obsK st t fun st' =>awp P c Q st'
 | .wk c,Q,st=> ∃st0,SWk st st0/\awp P c Q st0
 | .cut ks c,Q,st=>awp P c Q (st.keepS ks)
 | .scope c,Q,st=>awp P c Q st
 | .label,Q,st=>Q .normal st
 | .rngf ρ ps ass body, Q, st => st.s.all (fun x => decide (x.1 < ρ.K + ρ.n)) = true /\
   rngK P ρ ps (fun st' K=>awp P ass (Exit.thn (awp P body fun e st'' =>e= .normal/\K st'') fun _ _=>False) st') (st.keepS ρ.ks) (Q .normal)
 | .ret,Q,st=>Q .ret st
 | .exit id,Q,st=>Q (.exit id) st
def qcT(P:Program)(κ:Sh)(f:Nat)(args:List Opd)(c:Call):Bool:=
 (match c.callee with| .value (.func g)=>f==g|_=>false)&&qcG P f&&
 (args.length==c.args.size)&&(args.zip c.args.toList).all fun x=>qai κ x.1 x.2
def qcU(P:Program)(κ:Sh)(x:Opd)(args:List Opd)(c:Call):Bool:=
 (match c.callee with| .value y=>qai κ x y|_=>false)&&(args.length==c.args.size)&&(args.zip c.args.toList).all fun x=>qai κ x.1 x.2
def qcV(κ:Sh):Option Nat->Option Nat->Bool
 |none,none=>true
 |some i,some j=>i==κ.K+j&&decide (j<κ.n)
 |_,_=>false
def one2:Callee->Builtin->Bool
 | .builtin .cap,.cap=>true
 | .builtin .clear,.clear=>true
 | .builtin .append,.append=>true
 | .builtin .max,.max=>true
 | .builtin .min,.min=>true
 |_,_=>false
def qcX(P:Program)(κ:Sh)(es:Nat)(zero:List PV)(x:Opd):List Operand->List TypeId->Bool
 |[x'],[t]=>qai κ x x' &&(match P.underlying t with|some (.slice e)=>szIs P e es&&qaz P e zero|_=>false)
 |_,_=>false
def qcZ(P:Program)(κ:Sh)(es by_:Nat)(s x:Opd):List Operand->List TypeId->Bool
 |[s',x'],[t,t']=>qai κ s s' &&qai κ x x' &&t==t' &&(match P.underlying t with|some (.slice e)=>szIs P e es&&byIs P e by_&&(match P.info? e with|some i=>(match i.zero with|some z=>z.cells.size==es|none=>false)|none=>false)|_=>false)
 |_,_=>false
def xoC(P:Program)(κ:Sh)(d:Option Nat)(k:XK)(args:List Opd)(c:Call):Bool:=
 match k,args with
 | .clr es zero,[x]=>one2 c.callee .clear&&d.isNone&&qcX P κ es zero x c.args.toList c.argTypes.toList
 | .apx es by_,[s,x]=>one2 c.callee .append&&d.isSome&&qcZ P κ es by_ s x c.args.toList c.argTypes.toList
 |_,_=>false
def xfOk(P:Program)(κ:Sh)(x:Opd):XF->Op->Bool
 | .bm f,.makeFunc (.func g) first cs=>f==g&&cs.isEmpty&&(match first.toList with|[x']=>qai κ x x' |_=>false)
 |_,_=>false
def idxO:Nat->List Opd->List (Nat×Opd)
 |_,[]=>[]
 |j,x::r=>(j,x)::idxO (j+1) r
def pfOk(P:Program)(κ:Sh):XK->List Opd->Op->Bool
 | .pf g,[x],op=>xfOk P κ x g op
 | .bsx es zero,xs,.buildSlice t m ps=>(match P.underlying t with|some (.slice e)=>szIs P e es&&qaz P e zero|_=>false)&&m==xs.length&&qbP κ (idxO 0 xs) ps.toList
 | .mkx by_ zero,[l],.makeSlice t l' c' =>(match P.underlying t with|some (.slice e)=>szIs P e 1&&qaz P e [zero]&&byIs P e by_|_=>false)&&qai κ l l' &&qai κ l c'
 |_,_,_=>false
def xoOk(P:Program)(κ:Sh)(d:Option Nat)(k:XK)(args:List Opd):Op->Bool
 | .call c=>xoC P κ d k args c
 |op=>pfOk P κ k args op
def qd0(P:Program)(κ:Sh)(ao:AOp)(d d' :Option Nat)(op:Op):Bool:=
 qcV κ d d' &&
 match ao with
 | .cal f args=>(match op with| .call c=>qcT P κ f args c|_=>false)
 | .clm f args=>(match op with| .call c=>qcT P κ f args c|_=>false)
 | .clv x args=>(match op with| .call c=>qcU P κ x args c|_=>false)
 | .niq neg x=>false
 | .nxt x=>false
 | .xo k args=>xoOk P κ d k args op
 | .clx f args=>false
 | .pan x=>false
 | .bad=>(match op with| .defer _=>false|_=>true)
 | .cpy es x y=>okH P κ (.cpy es x y) op
 | .sto sz x v=>d.isNone&&okH P κ (.sto sz x v) op
 | .mup kd x k v=>false
 | .est x s v=>false
 |ao=>if qcH ao then d.isSome&&okH P κ ao op else okQ P κ ao op
def qd1(κ:Sh)(ops:Array Oper):Option (Nat×Bool)->Option (Nat×Bool)->Bool
 |none,none=>true
 |some (s,w),some (j,w')=>w==w' &&(match ops[j]? with|some o=>qcV κ (some s) o.dst|none=>false)
 |_,_=>false
def qd2(P:Program)(κ:Sh)(ops:Array Oper):List AO->List Oper->Bool
 |[],[]=>true
 |ao::r,o::s=>qd1 κ ops ao.g o.guard&&qd0 P κ ao.op ao.d o.dst o.op&&qd2 P κ ops r s
 |_,_=>false
def optL:Option Opd->List Opd
 |some x=>[x]
 |none=>[]
def opds:AOp->List Opd
 | .mv x| .ld _ _ x| .not x| .neg _ x| .cnv _ _ x| .len x| .fa _ x| .fl _ _ _ x| .ext x _| .nck x| .box x=>[x]
 | .pick c x y=>[c,x,y]
 | .bld _ parts=>parts.map fun p=>p.2.2
 | .ari _ _ _ x y| .dvd _ _ _ x y| .bit _ _ x y| .shf _ _ x y| .cmp _ _ x y| .eqb _ x y| .eqa _ _ x y| .mn _ x y| .ixs _ x y| .ixa _ _ x y| .ixv _ _ _ x y| .mks _ _ _ _ x y| .sto _ x y| .app _ _ _ x y| .cpy _ x y=>[x,y]
 | .slc _ x lo hi=>x::(optL lo++optL hi)
 | .bsl _ _ _ _ parts=>parts.map fun p=>p.2
 | .cal _ args=>args
 | .lenA _ _| .alc _| .mkm _| .bad=>[]
 | .mkf _ args| .clm _ args| .xo _ args| .clx _ args=>args
 | .pan x=>[x]
 | .clv x args=>x::args
 | .mlk _ _ _ x k=>[x,k]
 | .mup _ x k v=>[x,k,v]
 | .men _ _ x k=>[x,k]
 | .est x s v=>[x,s,v]
 | .ent x| .mln x| .rng x| .nxt x| .niq _ x=>[x]
def opdS:Opd->List Nat
 | .t n=>[n]
 | .c _=>[]
def opdP:Opd->Bool
 | .t _=>true
 | .c p=> !p.toV (fun _=>true) (fun _=>true)
def rdS(o:AO):List Nat:=(match o.g with|some (s,_)=>[s]|none=>[])++(opds o.op).flatMap opdS
def qd3:AOp->Bool| .cal .. | .clv .. =>true|_=>false
def qd4:AOp->Bool| .sto .. | .cpy .. =>true|_=>false
def qd5:AOp->Bool| .sto .. =>true|_=>false
def qd6:AOp->Bool| .cpy .. =>true|_=>false
def qd7:AOp->Bool| .alc _| .box _| .bsl .. | .mks .. | .app .. =>true|_=>false
def qd8:AOp->Bool
 | .mkf .. | .mlk .. | .ent _| .mln _| .bad=>true
 | .clv .. =>false
 |op=>qcI op
def qd9:AOp->Bool
 | .ld .. | .ixs .. | .slc .. | .alc _| .box _| .bsl .. | .mks .. | .sto .. | .app .. | .cpy .. | .cal .. =>false
 | .mkf .. | .mlk .. | .ent _| .mln _| .mkm _| .mup .. | .men .. | .est .. | .rng _| .nxt _| .clm .. | .clv .. | .niq .. | .xo .. | .clx .. | .pan _| .bad=>false
 |_=>true
def qda(x y:DO):Bool:=
 (match x.o.d with|some d=> !(rdS y.o).contains d&&y.o.d !=some d|none=>true)&&(match srcS x.o.op with|some s=> !(rdS y.o).contains s&&y.o.d !=some s|none=>true)&&y.t.all fun i=>x.u.contains i&& !x.t.contains i
def qdb(x:DO):Bool:=x.str&& !qd4 x.o.op&& !qd8 x.o.op&&(opds x.o.op).all opdP&&(if qd7 x.o.op then(match x.o.d with|some d=>x.t.contains d|none=>false)else true)
def isRd:AOp->Bool| .ld .. | .ixs .. | .slc .. =>true|_=>false
def qdc(x y:DO):Bool:= !x.u.isEmpty&&x.u.all (inL y.u)
def qdd(x y:DO):Bool:=x.str&&y.str&&qd5 x.o.op&&x.o.d.isNone&&(qd9 y.o.op||(isRd y.o.op&&qdc x y))&&y.t.isEmpty&&(match y.o.d with|some d=> !(rdS x.o).contains d|none=>true)
def qde(x y:DO):Bool:=x.str&&y.str&&qd6 x.o.op&&qd9 y.o.op&&y.t.isEmpty&&(match y.o.d with|some d=> !(rdS x.o).contains d&&x.o.d !=some d|none=>true)&&(match x.o.d with|some d=> !(rdS y.o).contains d|none=>true)
def qdf(x y:DO):Bool:=(qdb x&&qdb y&&qda x y&&qda y x&& !(qd3 x.o.op&&qd3 y.o.op))||qdd x y||qdd y x||qde x y||qde y x
def qdg(ms:List Nat)(es:List Edge):Nat:=es.foldl (fun s e=>if Region.binds .any e then s|||(1<<<e.on)|||ms.getD e.on 0 else s) 0
def qdh(i:Nat)(es:List Edge):Bool:=es.all fun e=> !Region.binds .any e||e.on<i
def qdi(m:Nat)(y:DO):Nat->List DO->Bool
 |_,[]=>true
 |j,x::r=>(Nat.testBit m j||qdf x y)&&qdi m y (j+1) r
def qdj:List DO->List Nat->List DO->List Oper->Bool
 |_,_,[],[]=>true
 |done,ms,x::r,o::s=>(!x.str||qd4 x.o.op||qdb x)&&qdh done.length o.after.toList&&qdi (qdg ms o.after.toList) x 0 done&&qdj (done++[x]) (ms++[qdg ms o.after.toList]) r s
 |_,_,_,_=>false
def qdk:Nat->List XO->List Oper->Bool
 |_,[],[]=>true
 |k,x::r,o::s=>x.i==k&&(x.deps.all fun j=>o.after.toList.any fun e=>e.on==j&&Region.binds .any e)&&qdh k o.after.toList&&qdk (k+1) r s
 |_,_,_=>false
def qdl(κ:Sh):List Nat->List Nat->Bool
 |[],[]=>true
 |i::r,j::s=>i==κ.K+j&&decide (j<κ.n)&&qdl κ r s
 |_,_=>false
def qdm:AC->Bool
 | .rngf .. =>false
 | .seq a b=>qdm a&&qdm b
 | .cond _ a b=>qdm a&&qdm b
 | .block _ a| .loop _ a| .lps _ a| .frz _ a| .obs _ a| .wk a| .cut _ a| .scope a=>qdm a
 |_=>true
def chk(P:Program):Sh->AC->Code->Bool
 |_,.skip,.skip=>true
 |κ,.reg _ ops,.region _ os draw=> !draw&&qd2 P κ os ops os.toList
 |κ,.rgs segs,.region _ os draw=> !draw&&qd2 P κ os (segO segs) os.toList
 |κ,.drw _ ops,.region _ os draw=>draw&&(P.follows .mixedOrders|| !Region.departs os)&&qd2 P κ os (ops.map DO.o) os.toList&&qdj [] [] ops os.toList
 |κ,.dra _ ops,.region _ os draw=>draw&&(P.follows .mixedOrders|| !Region.departs os)&&qd2 P κ os (ops.map XO.o) os.toList&&qdk 0 ops os.toList
 |κ,.seq a b,.seq c d=>chk P κ a c&&chk P κ b d
 |κ,.cond c x y,.cond c' x' y' =>qai κ c c' &&chk P κ x x' &&chk P κ y y'
 |κ,.block i b,.block j c=>i==j&&chk P κ b c
 |κ,.loop _ b,.loop c=>chk P κ b c
 |κ,.lps _ b,.loop c=>chk P κ b c
 |κ,.frz _ a,c=>chk P κ a c
 |κ,.obs _ a,c=>chk P κ a c
 |κ,.wk a,c=>chk P κ a c
 |κ,.cut _ a,c=>chk P κ a c
 |κ,.scope a,.scope c=>chk P κ a c
 |_,.label,.label _=>true
 |κ,.rngf ρ ps ass body,.rangeFunc f ps' ass' body' =>ρ.K==κ.K&&ρ.n==κ.n&&qdm ass&&qdm body&&qai κ ρ.f f&&qdl ⟨ρ.K2,κ.n⟩ ps ps'.toList&&decide (κ.K+κ.n<=ρ.K2)&&chk P ⟨ρ.K2,κ.n⟩ ass ass' &&chk P ⟨ρ.K2,κ.n⟩ body body'
 |_,.ret,.ret=>true
 |_,.exit i,.exit j=>i==j
 |_,_,_=>false
end
end Go.Vc
namespace Go.Vc
open Go Go.RowKit
section
variable {w0:World} {Z0:Zone} {N:Fr} {Z:Zone} {L:Lay} {st:St} {a:Act} {w:World} {P:Program}
theorem qdn{c:Callee}{b:Builtin}(h:one2 c b=true):c= .builtin b:=by
 unfold one2 at h
 split at h<;>first|rfl|cases h
theorem qdo{d:Option Nat}{k:XK}{args:List Opd}{op:Op}(hk: ∀op,pfOk P N.sh k args op=false)(h:xoOk P N.sh d k args op=true): ∃c,op= .call c/\xoC P N.sh d k args c=true:=by
 cases op<;>first|(exact⟨_,rfl,h⟩)|(exact absurd h (by simp[xoOk,hk]))
theorem qds{f:Nat}{v r:PV}(h:xfF (.bm f) v=some r): ∃id,v= .ptr id 0/\r= .bm f id:=by
 unfold xfF at h
 split at h<;>first|(rename_i e;cases e;cases h;exact⟨_,rfl,rfl⟩)|(rename_i e;cases e;done)|cases h
theorem qdt{κ:Sh}{x:Opd}{g:XF}{c:Call} :xfOk P κ x g (.defer c)=false:=by cases g<;>rfl
theorem qdu{κ:Sh}{k:XK}{args:List Opd}{c:Call} :pfOk P κ k args (.defer c)=false:=by
 unfold pfOk
 split<;>first|exact qdt|rfl|(rename_i heq;cases heq)
theorem qdv(h:Inv w0 Z0 N Z L st a w){d d' :Option Nat}(hd:N.dst d d'){g:XF}{x:Opd}{op:Op}(hm:xoOk P N.sh d (.pf g) [x] op=true){r:PV}(hv:xfF g (x.ev st)=some r):Runs P w0 Z0 N w a op d' (st.put d r):=by
 replace hm:xfOk P N.sh x g op=true:=by
  cases op<;>first|exact hm|skip
  rename_i c
  simp only[xoOk]at hm
  exact absurd hm (by simp[xoC])
 cases g with
 |ieq ng=>exact Bool.noConfusion (show false=true from hm)
 |mki t=>exact Bool.noConfusion (show false=true from hm)
 |tas t=>exact Bool.noConfusion (show false=true from hm)
 |bm f=>
   cases op<;>first|(exact absurd hm zQ)|skip
   rename_i fn first cs
   cases fn<;>first|(exact absurd hm zQ)|skip
   rename_i g
   simp only[xfOk,zN,beq_iff_eq]at hm
   obtain⟨⟨rfl,hcs⟩,hx⟩:=hm
   split at hx
   ·rename_i x' hfx
    obtain⟨id,e2,rfl⟩:=qds hv
    have hsr:=h.ev hx
    rw[e2]at hsr
    have hy:a.eval x' = .pointer (some ⟨L.bx id,0,none⟩):=hsr
    have h1:first= #[x']:=by rw[<- Array.toList_inj];exact hfx
    have h2:cs= #[]:=by simpa using hcs
    subst h1 h2
    exact⟨_,_,w,.inl rfl,fun _ _ _ _=>(by simp[execOp,Instr.makeFunc,hy]),Z,L,h.put hd (v:= .bm f id) rfl⟩
   ·cases hx
theorem qdw(h:Inv w0 Z0 N Z L st a w){d d' :Option Nat}(hd:N.dst d d'){x:Opd}{op:Op}(hm:xoOk P N.sh d .cap0 [x] op=true)(hv:x.ev st= .nil):Runs P w0 Z0 N w a op d' (st.put d (.int 0)):=by cases op<;>exact Bool.noConfusion (show false=true from hm)
theorem qdx (h : Inv w0 Z0 N Z L st a w) {es : Nat} {zero : List PV} {x : Opd} {op : Op} (hm : xoOk P N.sh none (.clr es zero) [x] op = true) {id lo n : Nat} (hv : x.ev st = .view id lo n) {A : Arr} (hA : lk st.a id = some A) (hes : A.es = es) (hzl : zero.length = es) :
  Runs P w0 Z0 N w a op none { st with a:=up st.a id { A with xs:=cpyF A.xs lo (List.replicate n zero) } } :=by
 obtain⟨c,hop,hm2⟩:=qdo (fun _=>rfl) hm
 subst hop
 clear hm
 replace hm2:(one2 c.callee .clear&&true&&qcX P N.sh es zero x c.args.toList c.argTypes.toList)=true:=hm2
 rw[zN,Bool.and_true]at hm2
 obtain⟨hc,hm⟩:=hm2
 obtain⟨cal,args,tys⟩:=c
 replace hc:=qdn hc
 dsimp only at hc hm
 subst hc
 unfold qcX at hm
 split at hm
 ·rename_i x' t e1 e2
  simp only[zN]at hm
  obtain⟨hx,ht⟩:=hm
  have e1:=qaV e1;have e2:=qaV e2;subst e1;subst e2
  split at ht
  ·rename_i e he
   simp only[zN]at ht
   obtain⟨hsz,hz⟩:=ht
   obtain⟨ti,z,hti,hzz,hzs,hzc⟩:=qbz hz
   have hxr:=h.ev hx
   rw[hv]at hxr
   obtain⟨ad,c,hxv,hnc,hcm,hal,hp,_⟩:=hxr
   obtain⟨cur,hX⟩:=h.arrs id A hA
   obtain⟨o1,o2,o3⟩:=h.owna id A hA
   rw[hX.al]at hal
   subst hes
   have hzcs:z.cells.size=A.es:=by rw[<- hzs];exact hzl
   obtain⟨news,hnews⟩: ∃news,(Builtin.zeroCells z.cells n).toList=news:=⟨_,rfl⟩
   have hnl:news.length=n*A.es:=by rw[<- hnews];simp[size_zeroCells,hzcs]
   have hfit:lo*A.es+news.length<=cur.size:=by
    rw[hnl,<- Nat.add_mul,hX.size]
    exact Nat.mul_le_mul_right _ (Nat.le_trans hal hX.fits)
   have hget: ∀p q,p<n->q<A.es->news.getD (p*A.es+q) undef=z.cells.getD q undef:=fun p q hpn hq=>by
    have hlt:=qan hpn hq
    rw[<- hnews]
    simp only[Builtin.zeroCells,hzcs,zK]
    simp[hlt,Nat.mul_add_mod_self_right]
    rw[Nat.mod_eq_of_lt hq]
    have hq2:q<z.cells.size:=by rw[hzcs];exact hq
    simp[hq2]
   have hone: ∀u∈news,u.oneCell' =true:=fun u hu=>by
    obtain⟨i,hi,rfl⟩:=List.mem_iff_getElem.1 hu
    rw[hnl]at hi
    have hq:i%A.es<A.es:=Nat.mod_lt _ hX.pos
    have hpn:i/A.es<n:=Nat.div_lt_of_lt_mul (by rw[Nat.mul_comm];exact hi)
    have e:=hget (i/A.es) (i%A.es) hpn hq
    have e2:i/A.es*A.es+i%A.es=i:=Nat.div_add_mod' i A.es
    rw[e2,zK,zL (by rw[hnl];exact hi),Option.getD_some]at e
    rw[e]
    obtain⟨c,hc⟩: ∃c,zero[i%A.es]? =some c:=⟨_,zL (by rw[hzl];exact hq)⟩
    exact(hzc w Z _ c hc).2
   have hst:(if n=0 then(pure ():Sem Unit)else storeCells ad news).run P w= .ok () (w.setRow (L.ab id) (cur.toList.take (lo*A.es)++news++cur.toList.drop (lo*A.es+news.length)).toArray):=by
    by_cases hn:0<n
    ·have:=hp hn
     subst this
     have:=run_storeCells_at P (L.ab id) (lo*A.es) A.ty news 0 cur w hX.blk (by simpa using hfit) hone
     rw[if_neg (by omega)]
     simpa[hX.ae]using this
    ·have hn0:n=0:=by omega
     subst hn0
     have:news=[]:=List.eq_nil_of_length_eq_zero (by rw[hnl];simp)
     subst this
     simp only[List.append_nil,List.length_nil,Nat.add_zero,List.take_append_drop,Array.toArray_toList,if_true]
     rw[setRow_self w _ cur A.ty (0,0) hX.blk]
     rfl
   have hrun: ∀ty:TypeId,(Builtin.clear_ #[t] ty #[a.eval x']).run P w= .ok (.tuple #[]) (w.setRow (L.ab id) (cur.toList.take (lo*A.es)++news++cur.toList.drop (lo*A.es+news.length)).toArray):=fun ty=>by
    rw[hxv]
    by_cases hn:n=0
    ·subst hn
     rw[if_pos rfl]at hst
     simp[Builtin.clear_,run_underlying he]
     simpa using hst
    ·rw[if_neg hn]at hst
     obtain⟨m,rfl⟩: ∃m,n=m+1:=⟨n-1,by omega⟩
     simp[Builtin.clear_,run_underlying he,zeroValue,typeInfo,hti,hzz,hnews,hst]
   have hk:Kept Z w (w.setRow (L.ab id) (cur.toList.take (lo*A.es)++news++cur.toList.drop (lo*A.es+news.length)).toArray):=
    ⟨fun p b hp=>setRow_other w _ b _ (fun e=>o3 p (e▸hp))⟩
   have exec : ∀ (ty : TypeId) (pos : String) (after : Array Edge) (g : Option (Nat × Bool)),
     (execOp a.eval ⟨none,.call ⟨.builtin .clear,#[x'],#[t]⟩,ty,pos,after,g⟩).run P w= .ok (.value (.tuple #[])) (w.setRow (L.ab id) (cur.toList.take (lo*A.es)++news++cur.toList.drop (lo*A.es+news.length)).toArray):=fun ty _ _ _=>by
    simp[execOp,resolve,invoke,builtin,hrun ty]
   refine⟨_,_,_,.inl rfl,exec,Z,L,?_⟩
   have hrl:(List.replicate n zero).length=n:=List.length_replicate
   have hkl:lo+(List.replicate n zero).length<=A.xs.length:=by rw[hrl];exact hal
   have h1:=h.setArr (qbZ w (L.ab id) (cur.toList.take (lo*A.es)++news++cur.toList.drop (lo*A.es+news.length)).toArray) (row:=some (L.ab id)) (fun k ek=>⟨A,hA,by cases ek;rfl⟩) (id:=id) (LSame.refl L) (fun _ _=>rfl) (.inl ⟨A,hA,rfl⟩)
    (by rw[setRow_size];exact o2) (St.noTo_nul _) (A' := { A with xs:=cpyF A.xs lo (List.replicate n zero) })
    (cur:=(cur.toList.take (lo*A.es)++news++cur.toList.drop (lo*A.es+news.length)).toArray)
    ⟨hX.pos,hX.ae,by rw[qc9 hkl];exact hX.al,setRow_heap w _ cur _ A.ty _ hX.blk,by rw[qbY hfit];exact hX.size,by rw[qc9 hkl];exact hX.fits,hX.max,fun r hr=>by
     simp only[cpyF,yC]at hr
     rcases hr with(h2|h2)|h2
     ·exact hX.rows r (List.mem_of_mem_take h2)
     ·rw[List.eq_of_mem_replicate h2];exact hzl
     ·exact hX.rows r (List.mem_of_mem_drop h2),fun p q r' c hp hq' =>by
     rw[qbX hfit]
     dsimp only at hp ⊢
     rcases qc8 hkl hp with⟨h2,h3,h4⟩|⟨h2,h3⟩
     ·have hr:=List.eq_of_mem_replicate (zP h4)
      subst hr
      have hql:q<A.es:=by rw[<- hzl];exact(zM.1 hq').1
      rw[hrl]at h3
      have hpn:p-lo<n:=by omega
      have h6:=qan hpn hql
      have h7:p*A.es+q=lo*A.es+((p-lo)*A.es+q):=by
       rw[<- Nat.add_assoc,<- Nat.add_mul,show lo+(p-lo)=p from by omega]
      rw[if_pos ⟨by omega,by omega⟩,h7,Nat.add_sub_cancel_left,hget _ _ hpn hql]
      have h5:=hzc w Z q c hq'
      exact⟨h5.1.keep hk (fun _ _ h=>h),h5.2⟩
     ·have hql:q<A.es:=by rw[<- hX.rows r' (zP h3)];exact(zM.1 hq').1
      have h5:=hX.cell p q r' c h3 hq'
      rw[if_neg (by
       rintro⟨q1,q2⟩
       rw[hnl,<- Nat.add_mul]at q2
       refine h2 ⟨?_,?_⟩
       ·by_cases hh:lo<=p
        ·exact hh
        ·have:=qan (show p<lo by omega) hql;omega
       ·rw[hrl]
        by_cases hh:p<lo+n
        ·exact hh
        ·have:=Nat.mul_le_mul_right A.es (show lo+n<=p by omega);omega)]
      exact⟨h5.1.keep hk (fun _ _ h=>h),h5.2⟩⟩
   exact h1
  ·cases ht
 ·cases hm
theorem qdz (h : Inv w0 Z0 N Z L st a w) {i i' : Nat} (hd : N.dst (some i) (some i')) {es ty by_ : Nat} {zero : List PV} {s x : Opd} {op : Op} (hm : xoOk P N.sh (some i) (.apm es ty by_ zero) [s, x] op = true) (hs : s.ev st = .nil) {n : Int} (hx : x.ev st = .sc (.int .i64 n))
  (hes:0<es/\zero.length=es) (h0:0<n) (hb:n.toNat*by_<=140737488355328) (h63:n<=9223372036854775807):Runs P w0 Z0 N w a op (some i') (st.newArr i ⟨es,ty,List.replicate n.toNat zero⟩):=by cases op<;>exact Bool.noConfusion (show false=true from hm)
theorem qdA{i es:Nat} : ∀ {vs:List PV},(bsxF i es vs).1->(bsxF i es vs).2.any (PV.to (fun j=>j==i) nul)=false/\(bsxF i es vs).2.length=vs.length*es
 |[],_=>⟨rfl,by simp[bsxF]⟩
 | v :: r, h => by
   obtain⟨⟨_,h2,h3⟩,h4⟩:=h
   obtain⟨g1,g2⟩:=qdA h4
   simp only[bsxF,List.any_append,h3,g1,zU,h2,g2,zV,Nat.add_mul,Nat.one_mul]
   exact⟨rfl,by omega⟩
theorem qdB (h : Inv w0 Z0 N Z L st a w) (i es : Nat) : ∀ (xs : List Opd) (ps : List (Nat × Operand)) (j0 : Nat) (vs : Array Value) (cs : List PV),
  qbP N.sh (idxO j0 xs) ps=true->(bsxF i es (xs.map (·.ev st))).1->cs.length=j0*es->(j0+xs.length)*es<=vs.size->(∀j c,cs[j]? =some c->CM w Z L c (vs.getD j undef))->
  ∃us,Instr.fill (fun i=>some (i*es,es)) vs (ps.map fun x=>(x.1,a.eval x.2))=some us/\us.size=vs.size/\ ∀j c,(cs++(bsxF i es (xs.map (·.ev st))).2)[j]? =some c->CM w Z L c (us.getD j undef):=by
 intro xs
 induction xs with
 |nil=>
   intro ps j0 vs cs hp _ _ _ hc
   cases ps with
   |nil=>exact⟨vs,rfl,rfl,by simpa[bsxF]using hc⟩
   |cons=>simp[qbP,idxO]at hp
 |cons x xs ih=>
   intro ps j0 vs cs hp hv hl hs hc
   cases ps with
   |nil=>simp[qbP,idxO]at hp
   |cons q ps=>
     obtain⟨j',y⟩:=q
     simp only[qbP,idxO,zN,beq_iff_eq]at hp
     obtain⟨⟨rfl,hx⟩,hp⟩:=hp
     simp only[zW,bsxF]at hv ⊢
     obtain⟨⟨hok,hlen,hto⟩,hv⟩:=hv
     obtain⟨hcs,hcc⟩:=(h.ev hx).cells hok
     obtain⟨g1,g2⟩:=qbv (j0*es) (a.eval y).cells.toList 0 vs
     have hse:(j0+(xs.length+1))*es=j0*es+es+xs.length*es:=by simp only[Nat.add_mul,Nat.one_mul];omega
     simp only[zV]at hs
     rw[hse]at hs
     have hc' : ∀ j c, (cs ++ cellsOf (x.ev st))[j]? = some c ->
       CM w Z L c (((((a.eval y).cells.toList.zipIdx 0).foldl (fun(cs:Array Value) (x:Value×Nat)=>cs.setIfInBounds (j0*es+x.2) x.1) vs)).getD j undef):=by
      intro j c hj
      have hjl:j<cs.length+(cellsOf (x.ev st)).length:=by
       have:=(zM.1 hj).1
       simpa using this
      rw[hl,hlen]at hjl
      rw[g2 _ (by omega)]
      simp only[Array.length_toList,hcs,hlen]
      by_cases e:j<cs.length
      ·rw[yA e]at hj
       rw[if_neg (by omega)]
       exact hc j c hj
      ·rw[yB (by omega)]at hj
       rw[if_pos ⟨by omega,by omega⟩]
       have:=hcc _ c hj
       rw[hl]at this
       simpa[zO,zK]using this
     obtain⟨us,h1,h2,h3⟩:=ih ps (j0+1) _ (cs++cellsOf (x.ev st)) hp hv (by simp only[zU,hl,hlen,Nat.add_mul,Nat.one_mul]) (by rw[g1];simp only[Nat.add_mul,Nat.one_mul];omega) hc'
     refine⟨us,?_,by rw[h2,g1],by rw[<- List.append_assoc];exact h3⟩
     simp only[zW,Instr.fill]
     rw[if_neg (by simp only[ne_eq,Bool.or_eq_true,decide_eq_true_eq,not_or];omega)]
     have e: ∀(l:Array Value) (vs:Array Value),l.zipIdx.foldl (fun(cs:Array Value) (x:Value×Nat)=>cs.setIfInBounds (j0*es+x.2) x.1) vs=(l.toList.zipIdx 0).foldl (fun(cs:Array Value) (x:Value×Nat)=>cs.setIfInBounds (j0*es+x.2) x.1) vs:=by
      intro l vs
      rw[<- Array.foldl_toList,Array.toList_zipIdx]
     rw[<- h1]
     congr 1
     exact e _ _
theorem qdC (h : Inv w0 Z0 N Z L st a w) {i i' : Nat} (hi : N.dst (some i) (some i')) {es : Nat} {zero : List PV} {xs : List Opd} {op : Op} (hm : xoOk P N.sh (some i) (.bsx es zero) xs op = true)
  (hv:0<es/\zero.length=es/\(xs.map (·.ev st)).length*es<=16777216) (hq:(bsxF i es (xs.map (·.ev st))).1):Runs P w0 Z0 N w a op (some i') (st.newBx i es (bsxF i es (xs.map (·.ev st))).2 (xs.map (·.ev st)).length):=by
 cases op<;>simp only[xoOk,xoC,pfOk,Bool.false_eq_true]at hm
 rename_i t n ps
 simp only[zN,beq_iff_eq]at hm
 obtain⟨⟨ht,rfl⟩,hps⟩:=hm
 rw[yG]at hv ⊢
 split at ht
 ·rename_i e he
  simp only[zN]at ht
  obtain⟨hsz,hz⟩:=ht
  obtain⟨ti,z,hti,hzz,hzl,hzc⟩:=qbz hz
  obtain⟨hpos,hes,h24⟩:=hv
  obtain⟨us,f1,f2,f3⟩:=qdB h i es xs ps.toList 0 ((Array.range (xs.length*es)).map (z.cells[· %z.cells.size]!)) [] hps hq (by simp) (by simp) (fun j c hj=>by simp at hj)
  have hrun:(Instr.buildSlice t xs.length (ps.map fun(x:Nat×Operand)=>(x.1,a.eval x.2))).run P w= .ok (.slice (some ⟨w.heap.size,0,none⟩) xs.length xs.length) (w.alloc (.cells us e)):=by
   have h24' : ¬(16777216<xs.length*es):=by omega
   by_cases hn0:xs.length*es=0
   ·have f1' : Instr.fill (fun i => some (i * es, es)) (Array.map (fun (_ : Nat) => (default : Value)) (Array.range 0)) (ps.toList.map fun x => (x.1, a.eval x.2)) = some us := by
     rw[<- f1];congr 1;simp[hn0]
    simp[Instr.buildSlice,run_underlying he,qak hsz,hn0,newRow,f1']
   ·simp[Instr.buildSlice,run_underlying he,qak hsz,h24',hn0,newRow,zeroValue,typeInfo,hti,hzz,f1]
  obtain⟨t1,t2⟩:=qdA hq
  rw[yG]at t2
  refine⟨_,_,_,.inl rfl,fun _ _ _ _=>by simp only[execOp,Sem.run_bind,hrun,Result.andThen_ok];rfl,?_⟩
  exact h.newBx hi es xs.length (by have:xs.length*1<=xs.length*es:=Nat.mul_le_mul_left _ hpos;simp only[maxLen];omega) e (by rw[f2,t2];simp) (fun j c hj=>f3 j c (by simpa using hj)) t1 t2.symm
 ·cases ht
theorem qdD (h : Inv w0 Z0 N Z L st a w) {i i' : Nat} (hi : N.dst (some i) (some i')) {by_ : Nat} {zero : PV} {l : Opd} {op : Op} (hm : xoOk P N.sh (some i) (.mkx by_ zero) [l] op = true) {k1 : IntKind} {n : Int} (e1 : l.ev st = .sc (.int k1 n))
  (hv:0<=n/\n.toNat*by_<=140737488355328/\n<=9223372036854775807):Runs P w0 Z0 N w a op (some i') (st.newBx i 1 (List.replicate n.toNat zero) n.toNat):=by
 cases op<;>simp only[xoOk,xoC,pfOk,Bool.false_eq_true]at hm
 rename_i t l' c'
 simp only[zN]at hm
 obtain⟨⟨ht,hl⟩,hc⟩:=hm
 split at ht
 ·rename_i e he
  simp only[zN]at ht
  obtain⟨⟨hsz,hz⟩,hby⟩:=ht
  obtain⟨ti,z,hti,hzz,hzl,hzc⟩:=qbz hz
  have hby' :ti.bytes=by_:=by simpa[byIs,hti]using hby
  have hsz' :ti.size=1:=by simpa[szIs,hti]using hsz
  obtain⟨h0,hb,h63⟩:=hv
  have hl' :=h.evInt hl e1
  have hc' :=h.evInt hc e1
  have hbb:((by_:Nat):Int)*n<=281474976710656:=by
   have h1:(n.toNat:Int)=n:=Int.toNat_of_nonneg (by omega)
   rw[<- h1,<- Int.natCast_mul,Nat.mul_comm];omega
  have hrun:=run_make (P:=P) w t e ti z he hti hzz k1 k1 n n h0 (Int.le_refl n) (by rw[hby'];exact hbb) h63
  rw[hsz']at hrun
  obtain⟨_,m1,m2⟩:=qbU (t:=t) (w:=w) (Z:=Z) hzl rfl (hzc w Z) n.toNat n.toNat (Nat.le_refl _)
  refine⟨_,_,_,.inl rfl,fun _ _ _ _=>by simp only[execOp,hl',hc',Sem.run_bind,hrun,Result.andThen_ok];rfl,?_⟩
  refine h.newBx hi 1 n.toNat (by simp only[maxLen];omega) e (by simp[madeCells]) (fun j c hj=> ?_) ?_ (by simp)
  ·have hjl:=(zM.1 hj).1
   rw[List.length_replicate]at hjl
   have h2:=m2 j 0 [zero] c (by rw[List.getElem?_replicate,if_pos hjl]) (by
    rw[List.getElem?_replicate,if_pos hjl]at hj
    simpa using hj)
   have h3:j*[zero].length+0=j:=by simp
   rw[h3]at h2
   have h4:n.toNat*[zero].length=n.toNat*1:=rfl
   rw[h4]at h2
   exact⟨h2.1.cr L,h2.2⟩
  ·rw[yD]
   intro c hc
   obtain rfl:=(List.mem_replicate.1 hc).2
   have:=(hzc w Z 0 c (by simp)).1
   generalize z.cells.getD 0 undef=u at this
   cases this<;>simp[PV.to]
 ·cases ht
theorem qdE {t ty e : TypeId} {ti : TypeInfo} (ht : P.underlying t = some (.slice e)) (hi : P.info? e = some ti) {g sLen sCap : Nat} {cur : Array Value} {T : TypeId} (hg : w.heap[g]? = some (.cells cur T (0, 0)))
  {x:Value} {n:Nat} {news:List Value} (hs:Src P ti.size t x n news w) (hroom:sLen+n<=sCap) (hfit:sLen*ti.size+news.length<=cur.size):
  (Builtin.append_ #[t,t] ty #[.slice (some ⟨g,0,none⟩) sLen sCap,x]).run P w= .ok (.slice (some ⟨g,0,none⟩) (sLen+n) sCap)
   (w.setRow g (cur.toList.take (sLen*ti.size)++news++cur.toList.drop (sLen*ti.size+news.length)).toArray):=by
 have hst:=run_storeCells_at P g (sLen*ti.size) T news 0 cur w hg (by simpa using hfit) hs.one
 simp only[Nat.add_zero]at hst
 simp[Builtin.append_,run_underlying ht,sizeOf,typeInfo,hi,hs.len,hroom,hs.cells,Addr.add_lit,hst]
theorem qdF (h : Inv w0 Z0 N Z L st a w) {i i' : Nat} (hd : N.dst (some i) (some i')) {es by_ : Nat} {s x : Opd} {op : Op} (hm : xoOk P N.sh (some i) (.apx es by_) [s, x] op = true) {id n id2 m : Nat} (hs : s.ev st = .bv id es n) (hx : x.ev st = .bv id2 es m)
  {cs cs2:List PV} (hb1:lk st.b id=some cs) (hb2:lk st.b id2=some cs2) (hpos:0<es) (hl1:cs.length=n*es) (hl2:cs2.length=m*es) (ht1:cs.any (PV.to (fun j=>j==id) nul)=false) (ht2:cs2.any (PV.to (fun j=>j==id) nul)=false)
  (hbytes:(n+m)*by_<=140737488355328) (h63:n+m<=9223372036854775807):Runs P w0 Z0 N w a op (some i') (st.growBx i id es (cs++cs2) (n+m)):=by
 obtain⟨c,hop,hm2⟩:=qdo (fun _=>rfl) hm
 subst hop
 clear hm
 replace hm2:(one2 c.callee .append&&true&&qcZ P N.sh es by_ s x c.args.toList c.argTypes.toList)=true:=hm2
 rw[zN,Bool.and_true]at hm2
 obtain⟨hc,hm⟩:=hm2
 obtain⟨cal,args,tys⟩:=c
 replace hc:=qdn hc
 dsimp only at hc hm
 subst hc
 unfold qcZ at hm
 split at hm
 ·rename_i s' x' t t' e1 e2
  simp only[zN,beq_iff_eq]at hm
  obtain⟨⟨⟨hs',hx'⟩,rfl⟩,ht⟩:=hm
  have e1:=qaW e1;have e2:=qaW e2;subst e1;subst e2
  split at ht
  ·rename_i e he
   simp only[zN]at ht
   obtain⟨⟨hsz,hby⟩,hzz⟩:=ht
   split at hzz
   ·rename_i ti hti
    split at hzz
    ·rename_i z hz
     have hzs:z.cells.size=es:=by simpa using hzz
     have hby' :ti.bytes=by_:=by simpa[byIs,hti]using hby
     have hsz' :ti.size=es:=by simpa[szIs,hti]using hsz
     have hsr:=h.ev hs'
     rw[hs]at hsr
     obtain⟨cp,hsv,hncp,hcpm,hcpl⟩:=hsr
     have hxr:=h.ev hx'
     rw[hx]at hxr
     obtain⟨cp2,hxv,_,_,_⟩:=hxr
     obtain⟨vs,T,b1,b2,b3⟩:=h.boxes id cs hb1
     obtain⟨vs2,T2,d1,d2,d3⟩:=h.boxes id2 cs2 hb2
     obtain⟨o1,o2,o3⟩:=h.ownb id cs hb1
     have hn2:m*es<=vs2.size:=by rw[<- hl2];exact d2.1
     have hn1:n*es<=vs.size:=by rw[<- hl1];exact b2.1
     have hsrc:Src P ti.size t (a.eval x') m ((List.range (m*es)).map fun k=>vs2.getD k undef) w:=by
      rw[hxv,hsz']
      refine Src.ofSlice w he ⟨L.bx id2,0,none⟩ m cp2 _ (by simp) (fun j u hj=> ?_) (fun u hu=> ?_)
      ·rw[zS]at hj
       obtain⟨k,h1,rfl⟩:=zR.1 hj
       obtain⟨h2,h3⟩:=zM.1 h1
       simp at h2 h3
       subst h3
       rw[Addr.add_lit,cell_of_row w _ _ _ _ _ d1,Nat.zero_add]
       have hj2:j<vs2.size:=Nat.lt_of_lt_of_le h2 hn2
       simp[Array.getD,hj2]
      ·obtain⟨k,h1,rfl⟩:=List.mem_map.1 hu
       have h1:=List.mem_range.1 h1
       exact(d3 k cs2[k] (zL (by omega))).2
     have hnl:((List.range (m*es)).map fun k=>vs2.getD k undef).length=m*es:=by simp
     generalize hnews:((List.range (m*es)).map fun k=>vs2.getD k undef)=news at hsrc hnl
     have hget2: ∀k,k<m*es->news.getD k undef=vs2.getD k undef:=fun k hk=>by
      rw[<- hnews];simp[zK,hk]
     have exec : ∀ {v : Value} {w' : World}, (∀ ty, (Builtin.append_ #[t, t] ty #[a.eval s', a.eval x']).run P w = .ok v w') -> ∀ (ty : TypeId) (pos : String) (after : Array Edge) (g : Option (Nat × Bool)),
       (execOp a.eval ⟨some i',.call ⟨.builtin .append,#[s',x'],#[t,t]⟩,ty,pos,after,g⟩).run P w= .ok (.value v) w' :=by
      intro v w' hr ty _ _ _
      simp[execOp,resolve,invoke,builtin,hr ty]
     have hcsl:(cs++cs2).length=(n+m)*es:=by rw[zU,hl1,hl2,Nat.add_mul]
     have hto: ∀(j:Nat) (c:PV),(cs++cs2)[j]? =some c->c.to (fun k=>k==id) nul=false:=fun j c hj=>by
      rcases yC.1 (zP hj)with h1|h1
      ·exact by simpa using yD.1 ht1 c h1
      ·exact by simpa using yD.1 ht2 c h1
     have hold: ∀j c,(cs++cs2)[j]? =some c->CM w Z L c (if j<n*es then vs.getD j undef else news.getD (j-n*es) undef):=fun j c hj=>by
      by_cases hjl:j<n*es
      ·rw[if_pos hjl]
       rw[yA (by omega)]at hj
       exact b3 j c hj
      ·rw[if_neg hjl]
       rw[yB (by omega),hl1]at hj
       have:=(zM.1 hj).1
       rw[hget2 _ (by omega)]
       exact d3 _ c hj
     have hkb:lk (st.kill (fun j=>j==id) nul).b id=some (cs.map (PV.kill (fun j=>j==id) nul)):=by
      show lk (st.b.map _) id=_
      rw[qa6 st.b (fun x=>x.map (PV.kill (fun j=>j==id) nul)),hb1];rfl
     by_cases hroom:n+m<=cp
     ·have hfit:n*ti.size+news.length<=vs.size:=by
       rw[hsz',hnl,<- Nat.add_mul,b2.2]
       exact Nat.le_trans (Nat.mul_le_mul_right _ hroom) hcpl
      have hrun:=fun(ty:TypeId)=>qdE (P:=P) (ty:=ty) he hti b1 hsrc hroom hfit
      rw[hsz']at hrun hfit
      refine⟨_,_,_,.inl rfl,exec (fun ty=>by rw[hsv];exact hrun ty),?_⟩
      have hk:Kept Z w (w.setRow (L.bx id) (vs.toList.take (n*es)++news++vs.toList.drop (n*es+news.length)).toArray):=
       ⟨fun p b hp=>setRow_other w _ b _ (fun e=>o3 p (e▸hp))⟩
      have h1:=(h.kill (fun j=>j==id) nul).setBox (qbZ w (L.bx id) (vs.toList.take (n*es)++news++vs.toList.drop (n*es+news.length)).toArray) (row:=some (L.bx id)) (fun k ek=>⟨_,hkb,by cases ek;rfl⟩) (id:=id) (LSame.refl L) (fun _ _=>rfl) (.inl ⟨_,hkb,rfl⟩)
       (by rw[setRow_size];exact o2) (St.noTo_nul _) (cs' :=cs++cs2) ⟨_,T,setRow_heap w _ vs _ T _ b1,⟨by rw[qbY hfit,hcsl];rw[hnl,<- Nat.add_mul]at hfit;exact hfit,by rw[qbY hfit];exact b2.2⟩,fun j c hj=>by
        have hjl:=(zM.1 hj).1
        rw[hcsl,Nat.add_mul]at hjl
        have h2:=(hold j c hj).keep hk (fun _ _ h=>h) (LSame.refl L) (PV.to_nul c)
        rw[qbX hfit]
        by_cases hj1:j<n*es
        ·rw[if_pos hj1]at h2
         rw[if_neg (by omega)];exact h2
        ·rw[if_neg hj1]at h2
         rw[if_pos (by omega)];exact h2⟩
      exact⟨_,_,h1.put (d:=some i) (d' :=some i') hd (v:= .bv id es (n+m)) (u:= .slice (some ⟨L.bx id,0,none⟩) (n+m) cp) ⟨cp,rfl,hroom,hcpm,hcpl⟩⟩
     ·have hol:((List.range (n*es)).map fun k=>vs.getD k undef).length=n*es:=by simp
      have hrun := fun (ty : TypeId) => run_append_grow_src (P := P) w t t ty e ti z he hti hz (some ⟨L.bx id, 0, none⟩) n cp ((List.range (n * es)).map fun k => vs.getD k undef)
        (by
         rw[hsz']
         refine run_firstCells_some w.drew es n ⟨L.bx id,0,none⟩ n cp _ hol (fun j v hj=> ?_)
         rw[zS]at hj
         obtain⟨k,h1,rfl⟩:=zR.1 hj
         obtain⟨h2,h3⟩:=zM.1 h1
         simp at h2 h3
         subst h3
         rw[Addr.add_lit]
         have:w.drew.cell? ⟨L.bx id,0+j,none⟩=w.cell? ⟨L.bx id,0+j,none⟩:=rfl
         rw[this,cell_of_row w _ _ _ _ _ b1,Nat.zero_add]
         have hj2:j<vs.size:=Nat.lt_of_lt_of_le h2 hn1
         simp[Array.getD,hj2])
        (a.eval x') m news hsrc (by omega) (by omega) (qc5 (by omega) (by rw[hby'];exact hbytes))
      have hgo: ∀k,k<n*es->((List.range (n*es)).map fun k=>vs.getD k undef).getD k undef=vs.getD k undef:=fun k hk=>by
       simp[zK,hk]
      generalize ((List.range (n*es)).map fun k=>vs.getD k undef)=olds at hol hrun hgo
      have hge:=grownCap_ge w (n+m) cp e
      have hle:=grownCap_le_maxLen w (n+m) cp e (by simp only[maxLen];omega)
      refine⟨_,_,_,.inl rfl,exec (fun ty=>by rw[hsv];exact hrun ty),?_⟩
      generalize hcap:grownCap w (n+m) cp e=cap at *
      have hzl:(Builtin.zeroCells z.cells (cap-(n+m))).size=(cap-(n+m))*es:=by rw[size_zeroCells,hzs]
      have hvsz:((olds++news).toArray++Builtin.zeroCells z.cells (cap-(n+m))).size=cap*es:=by
       rw[Array.size_append,List.size_toArray,zU,hol,hnl,hzl,<- Nat.add_mul,<- Nat.add_mul];congr 1;omega
      have hl:LSame L { L with bx:=fun j=>if j=id then w.heap.size else L.bx j,bc:=fun j=>if j=id then cap*es else L.bc j } (fun j=>j==id) nul:=
       ⟨fun j hj=>by simp only[beq_eq_false_iff_ne]at hj;simp[hj],fun _ _=>rfl,fun _ _=>rfl,fun _ _=>rfl,fun _ _=>rfl,fun _ _=>rfl,fun j hj=>by simp only[beq_eq_false_iff_ne]at hj;simp[hj]⟩
      have hg:w.grownBy (w.drew.alloc (.cells ((olds++news).toArray++Builtin.zeroCells z.cells (cap-(n+m))) e)) none:=
       ⟨rfl,rfl,rfl,by simp,fun k hk _=>Below.heap_alloc w.drew _ k hk⟩
      have hk:Kept Z w (w.drew.alloc (.cells ((olds++news).toArray++Builtin.zeroCells z.cells (cap-(n+m))) e)):=
       ⟨fun p b hp=>hg.block b (h.zb p b hp) (by simp)⟩
      have h1:=(h.kill (fun j=>j==id) nul).setBox hg (row:=none) (by simp) (id:=id) hl (fun j hj=>by simpa using hj) (.inr (by simp)) (by simp) (St.noTo_kill st _ _) (cs' :=cs++cs2)
       ⟨_,e,by simp only[if_true];exact heap_alloc_new w.drew _,⟨by rw[hvsz,hcsl];exact Nat.mul_le_mul_right _ hge,by simp only[if_true];exact hvsz⟩,fun j c hj=>by
        have hjl:=(zM.1 hj).1
        rw[hcsl,Nat.add_mul]at hjl
        have h2:=(hold j c hj).keep hk (fun _ _ h=>h) hl (hto j c hj)
        have e5:((olds++news).toArray++Builtin.zeroCells z.cells (cap-(n+m))).getD j undef=if j<n*es then vs.getD j undef else news.getD (j-n*es) undef:=by
         rw[zO,Array.getElem?_append_left (by rw[List.size_toArray,zU,hol,hnl];omega),List.getElem?_toArray]
         by_cases hj1:j<n*es
         ·rw[if_pos hj1,yA (by omega),<- zK,hgo j hj1]
         ·rw[if_neg hj1,yB (by omega),hol,zK]
        rw[e5];exact h2⟩
      exact⟨_,_,h1.put (d:=some i) (d' :=some i') hd (v:= .bv id es (n+m)) ⟨cap,by simp,hge,hle,by simp⟩⟩
    ·cases hzz
   ·cases hzz
  ·cases ht
 ·cases hm
theorem qdL(h:Inv w0 Z0 N Z L st a w){d d' :Option Nat}(hd:N.dst d d'){b:Bool}{args:List Opd}{op:Op}(hm:xoOk P N.sh d (.mx b) args op=true){r:PV}(hv:mxF b (args.map (·.ev st))=some r):Runs P w0 Z0 N w a op d' (st.put d r):=by cases op<;>exact Bool.noConfusion (show false=true from hm)
theorem qdM (h : Inv w0 Z0 N Z L st a w) {d d' : Option Nat} (hd : N.dst d d') {k : XK} {args : List Opd} {op : Op} (hm : xoOk P N.sh d k args op = true) {K : St -> Prop} (hK : xoK st d k (args.map (·.ev st)) K) :
  ∃st',Runs P w0 Z0 N w a op d' st' /\K st' :=by
 unfold xoK at hK
 split at hK
 ·rename_i g x' e
  obtain⟨x,rfl,hx⟩: ∃x,args=[x]/\x.ev st=x' :=by
   rcases args with _|⟨x,_|⟨y,r⟩⟩
   ·simp at e
   ·exact⟨x,rfl,by simpa using e⟩
   ·simp at e
  unfold pfK at hK
  split at hK
  ·rename_i r hr
   exact⟨_,qdv h hd hm (by rw[hx];exact hr),hK⟩
  ·exact hK.elim
 ·rename_i e
  obtain⟨x,rfl,hx⟩: ∃x,args=[x]/\x.ev st= .nil:=by
   rcases args with _|⟨x,_|⟨y,r⟩⟩
   ·simp at e
   ·exact⟨x,rfl,by simpa using e⟩
   ·simp at e
  exact⟨_,qdw h hd hm hx,hK⟩
 ·rename_i x' e
  obtain⟨x,rfl,hx⟩: ∃x,args=[x]/\x.ev st=x' :=by
   rcases args with _|⟨x,_|⟨y,r⟩⟩
   ·simp at e
   ·exact⟨x,rfl,by simpa using e⟩
   ·simp at e
  have hd' :d' =none:=by cases d' with|none=>rfl|some _=>exact hd.elim
  subst hd'
  unfold clrK at hK
  split at hK
  ·split at hK
   ·rename_i A hA
    exact⟨_,qdx h hm hx hA hK.1.1 hK.1.2,hK.2⟩
   ·exact hK.elim
  ·exact hK.elim
 ·rename_i s' n' i e
  obtain⟨s,x,rfl,hs,hx⟩: ∃s x,args=[s,x]/\s.ev st=s' /\x.ev st=n' :=by
   rcases args with _|⟨s,_|⟨x,_|⟨y,r⟩⟩⟩
   ·simp at e
   ·simp at e
   ·exact⟨s,x,rfl,by simpa using e⟩
   ·simp at e
  obtain⟨i',rfl⟩: ∃i',d' =some i' :=by cases d' with|none=>exact hd.elim|some i' =>exact⟨i',rfl⟩
  unfold apmK at hK
  split at hK
  ·obtain⟨h1,h2,h3,h4,h5⟩:=hK
   exact⟨_,qdz h hd hm hs hx h1 h2 h3 h4,h5⟩
  ·exact hK.elim
 ·rename_i es zero i
  obtain⟨i',rfl⟩: ∃i',d' =some i' :=by cases d' with|none=>exact hd.elim|some i' =>exact⟨i',rfl⟩
  unfold bsxK at hK
  exact⟨_,qdC h hd hm hK.1.1 hK.1.2,hK.2⟩
 ·rename_i by_ zero l' i e
  obtain⟨x,rfl,hx⟩: ∃x,args=[x]/\x.ev st=l' :=by
   rcases args with _|⟨x,_|⟨y,r⟩⟩
   ·simp at e
   ·exact⟨x,rfl,by simpa using e⟩
   ·simp at e
  obtain⟨i',rfl⟩: ∃i',d' =some i' :=by cases d' with|none=>exact hd.elim|some i' =>exact⟨i',rfl⟩
  unfold mkxK at hK
  split at hK
  ·exact⟨_,qdD h hd hm hx hK.1,hK.2⟩
  ·exact hK.elim
 ·unfold pfK at hK
  split at hK
  ·rename_i r hr
   exact⟨_,qdL h hd hm hr,hK⟩
  ·exact hK.elim
 ·rename_i es by_ s' x' i e
  obtain⟨s,x,rfl,hs,hx⟩: ∃s x,args=[s,x]/\s.ev st=s' /\x.ev st=x' :=by
   rcases args with _|⟨s,_|⟨x,_|⟨y,r⟩⟩⟩
   ·simp at e
   ·simp at e
   ·exact⟨s,x,rfl,by simpa using e⟩
   ·simp at e
  obtain⟨i',rfl⟩: ∃i',d' =some i' :=by cases d' with|none=>exact hd.elim|some i' =>exact⟨i',rfl⟩
  unfold apxK at hK
  split at hK
  ·split at hK
   ·rename_i e1 e2
    obtain⟨⟨⟨⟨rfl,rfl,hp⟩,hl1,hl2⟩,⟨ht1,ht2⟩,hb,h63⟩,hK⟩:=hK
    exact⟨_,qdF h hd hm hs hx e1 e2 hp hl1 hl2 ht1 ht2 hb h63,hK⟩
   ·exact hK.elim
  ·exact hK.elim
 ·exact hK.elim
theorem qdN{d:Option Nat}{k:XK}{args:List PV}{K K' :St->Prop}(hk: ∀st,K st->K' st)(h:xoK st d k args K):xoK st d k args K' :=by
 unfold xoK at h ⊢
 split at h
 ·unfold pfK at h ⊢
  split at h
  ·exact hk _ h
  ·exact h.elim
 ·exact hk _ h
 ·unfold clrK at h ⊢
  split at h
  ·split at h
   ·exact⟨h.1,hk _ h.2⟩
   ·exact h.elim
  ·exact h.elim
 ·unfold apmK at h ⊢
  split at h
  ·exact⟨h.1,h.2.1,h.2.2.1,h.2.2.2.1,hk _ h.2.2.2.2⟩
  ·exact h.elim
 ·exact⟨h.1,hk _ h.2⟩
 ·unfold mkxK at h ⊢
  split at h
  ·exact⟨h.1,hk _ h.2⟩
  ·exact h.elim
 ·unfold pfK at h ⊢
  split at h
  ·exact hk _ h
  ·exact h.elim
 ·unfold apxK at h ⊢
  split at h
  ·split at h
   ·exact⟨h.1,hk _ h.2⟩
   ·exact h.elim
  ·exact h.elim
 ·exact h.elim
end
end Go.Vc
namespace Go.Vc
open Go Go.RowKit
theorem TR.zone{w:World}{Z Z' :Zone}{c:PV}{v:Value}(hz: ∀p b,Z p b->Z' p b)(h:TR w Z c v):TR w Z' c v:=h.keep ⟨fun _ _ _=>rfl⟩ hz
theorem TA.zone{w:World}{Z Z' :Zone}{c:PV}{v:Value}(hz: ∀p b,Z p b->Z' p b)(h:TA w Z c v):TA w Z' c v:=by
 cases c<;>simp only[TA]at h ⊢ <;>first|exact h.zone hz|skip
 obtain⟨vs,h1,h2,h3⟩:=h
 exact⟨vs,h1,h2,fun j c hj=>⟨(h3 j c hj).1.zone hz,(h3 j c hj).2⟩⟩
theorem TV.zone{w:World}{Z Z' :Zone}{c:PV}{v:Value}(hz: ∀p b,Z p b->Z' p b)(h:TV w Z c v):TV w Z' c v:=by
 cases c<;>simp only[TV]at h ⊢ <;>first|exact h.zone hz|skip
 obtain⟨vs,h1,h2,h3⟩:=h
 exact⟨vs,h1,h2,fun j c hj=>(h3 j c hj).zone hz⟩
section
variable {w0:World} {Z0:Zone} {Z:Zone} {L:Lay} {st:St} {w:World} {P:Env}
theorem FnOK.mem {X : Gh} {G : Nat -> Value} {f : Nat} {args : List PV} {post : PV -> Prop} {vs : Array Value} (hc : FnOK P.p f (args.map (PV.rsA st)) post) (h : Mem w0 Z0 X G Z L st w) (ha : ArgsR w Z L args vs) (hg : GL P.p w0) :
  Calls P.p f vs w fun e w' => ∃v r Z' L',e= .returned v/\post r/\Mem w0 Z0 X G Z' L' st w' /\VR w' Z' L' r v:=by
 refine(hc w (qcC Z L st) (hg.below h.below) ?_ ?_ vs (by simpa using ha.1) ?_).mono ?_
 ·rintro b (h1|⟨h1,_⟩)
  ·exact .inl (h.zt b h1)
  ·cases h1
 ·rintro p b (h1|⟨_,⟨id,A,h1,rfl⟩|⟨id,cs,h1,rfl⟩⟩)
  ·exact h.zb p b h1
  ·exact(h.owna id A h1).2.1
  ·exact(h.ownb id cs h1).2.1
 ·intro j cc hj
  rw[zS]at hj
  obtain⟨x,h1,rfl⟩:=zR.1 hj
  exact(VR.rsA h (ha.2 j x h1)).tv
 ·rintro e w' ⟨v,r,rfl,h1,h2,h3⟩
  have hmv:Mem w0 Z0 X G (fun p b=>Z p b\/(w.heap.size<=b/\b<w'.heap.size)) L st w' :=h.move (fun _ _ h=> .inl h) (fun b hb=>hb.imp (h.zt b) (fun e=>e))
   (fun p b hb=>hb.imp (fun e=>e) (fun e=>e.1)) (fun p b hb=>hb.elim (fun e=>Nat.lt_of_lt_of_le (h.zb p b e) h3.size) (fun e=>e.2)) h3
  refine⟨v,r,_,L,rfl,h1,hmv,TV.vr L (h2.zone ?_)⟩
  rintro p b ⟨rfl,hb|hb⟩
  ·rcases hb with hb|⟨hb,_⟩
   ·exact .inl hb
   ·cases hb
  ·exact .inr hb
theorem FnM.of_ok{f:Nat}{args:List PV}{post:PV->Prop}{Q:PV->St->Prop}(hb:qcG P.p f=true)(hc:FnOK P.p f (args.map (PV.rsA st)) post)(hq: ∀r,post r->Q r st):FnM P f args st Q:=
 ⟨hb,fun w0 Z0 X G Z L w vs hE h2 h3=>(FnOK.mem hc h2 h3 hE.1).mono fun _ _ ⟨v,r,Z',L',e1,e2,e3⟩=>⟨v,r,st,Z',L',e1,hq r e2,e3⟩⟩
end
end Go.Vc
namespace Go.Vc
open Go Go.RowKit
theorem qdO{pb pa qb qa:Nat->Bool}(hb: ∀i,pb i=true->qb i=true)(ha: ∀i,pa i=true->qa i=true){c:PV}(h:c.to qb qa=false):c.to pb pa=false:=by
 cases c<;>simp only[PV.to]at h ⊢ <;>first|(cases hp:pa _<;>simp_all;done)|(cases hp:pb _<;>simp_all;done)|rfl|(rename_i ids;rw[yD]at h ⊢;intro x hx hh;exact h x hx (hb x hh))|(rw[Bool.or_eq_false_iff]at h ⊢;refine⟨?_,?_⟩<;>(rw[<- Bool.not_eq_true];intro hh;first|(have:=h.1;rw[hb _ hh]at this;cases this)|(have:=h.2;rw[hb _ hh]at this;cases this)))
theorem qdP{pb pa qb qa:Nat->Bool}(hb: ∀i,pb i=true->qb i=true)(ha: ∀i,pa i=true->qa i=true){cs:List PV}(h:cs.any (PV.to qb qa)=false):cs.any (PV.to pb pa)=false:=by
 rw[yD]at h ⊢
 intro x hx
 have:=h x hx
 simp only[Bool.not_eq_true]at this ⊢
 exact qdO hb ha this
theorem qdQ{pb pa qb qa:Nat->Bool}(hb: ∀i,pb i=true->qb i=true)(ha: ∀i,pa i=true->qa i=true){c:PV}(h:c.toA qb qa=false):c.toA pb pa=false:=by
 cases c<;>simp only[PV.toA]at h ⊢ <;>first|exact qdO hb ha h|exact qdP hb ha h
theorem qdR{pb pa qb qa:Nat->Bool}(hb: ∀i,pb i=true->qb i=true)(ha: ∀i,pa i=true->qa i=true){c:PV}(h:c.toV qb qa=false):c.toV pb pa=false:=by
 cases c<;>simp only[PV.toV]at h ⊢ <;>first|exact qdQ hb ha h|skip
 rw[yD]at h ⊢
 intro x hx
 have:=h x hx
 simp only[Bool.not_eq_true]at this ⊢
 exact qdQ hb ha this
theorem qdS{pb pa:Nat->Bool}{c:PV}(h:c.to pb pa=false):c.kill pb pa=c:=by simp[PV.kill,h]
theorem qdT{pb pa:Nat->Bool}{cs:List PV}(h:cs.any (PV.to pb pa)=false):cs.map (PV.kill pb pa)=cs:=by
 rw[yD]at h
 have:cs.map (PV.kill pb pa)=cs.map id:=List.map_congr_left fun x hx=>qdS (by simpa using h x hx)
 simpa using this
theorem qdU{pb pa:Nat->Bool}{c:PV}(h:c.toA pb pa=false):c.killA pb pa=c:=by
 cases c<;>simp only[PV.toA]at h<;>simp only[PV.killA]<;>first|exact qdS h|rw[qdT h]
theorem qdV{pb pa:Nat->Bool}{c:PV}(h:c.toV pb pa=false):c.killV pb pa=c:=by
 cases c<;>simp only[PV.toV]at h<;>simp only[PV.killV]<;>first|exact qdU h|skip
 rename_i cs
 rw[yD]at h
 have:cs.map (PV.killA pb pa)=cs.map id:=List.map_congr_left fun x hx=>qdU (by simpa using h x hx)
 simpa using this
theorem qdW{pb pa qb qa:Nat->Bool}{c:PV}(h:c.to qb qa=false):(c.kill pb pa).to qb qa=false:=by
 unfold PV.kill
 cases c.to pb pa
 ·exact h
 ·show(c.killed pb).to qb qa=false
  have hq: ∀(l:List Nat),l.any qb=false->(l.filter fun i=> !pb i).any qb=false:=fun l hl=>by
   rw[yD]at hl ⊢
   exact fun x hx=>hl x (List.mem_filter.1 hx).1
  cases c<;>first|rfl|exact hq _ h|skip
  exact hq _ (by simpa[PV.to]using h)
theorem qdX{pb pa qb qa:Nat->Bool}{cs:List PV}(h:cs.any (PV.to qb qa)=false):(cs.map (PV.kill pb pa)).any (PV.to qb qa)=false:=by
 rw[yD]at h ⊢
 intro x hx
 obtain⟨y,hy,rfl⟩:=List.mem_map.1 hx
 have:=h y hy
 simp only[Bool.not_eq_true]at this ⊢
 exact qdW this
theorem qdY{pb pa qb qa:Nat->Bool}{c:PV}(h:c.toA qb qa=false):(c.killA pb pa).toA qb qa=false:=by
 cases c
 case agg cs=>exact qdX h
 all_goals
  simp only[PV.killA]
  refine qbI (qdW h) (qbG ?_ pb pa)
  intro _ h;cases h
theorem qdZ{pb pa qb qa:Nat->Bool}{c:PV}(h:c.toV qb qa=false):(c.killV pb pa).toV qb qa=false:=by
 cases c
 case tup cs=>
  simp only[PV.toV,PV.killV]at h ⊢
  rw[yD]at h ⊢
  intro x hx
  obtain⟨y,hy,rfl⟩:=List.mem_map.1 hx
  have:=h y hy
  simp only[Bool.not_eq_true]at this ⊢
  exact qdY this
 case agg cs=>exact qdX h
 all_goals
  simp only[PV.killV,PV.killA]
  refine qbJ (qdW h) (qbG ?_ pb pa) (qbH ?_ pb pa)<;>(intro _ h;cases h)
theorem qe0{pb pa qb qa:Nat->Bool}(hb: ∀i,pb i=true->qb i=false)(ha: ∀i,pa i=true->qa i=false){c:PV}(h:(c.kill pb pa).to qb qa=false):c.to qb qa=false:=by
 unfold PV.kill at h
 cases hp:c.to pb pa
 ·simpa[hp]using h
 ·rw[hp]at h
  have hq: ∀(l:List Nat),(l.filter fun i=> !pb i).any qb=false->l.any qb=false:=fun l hl=>by
   rw[yD]at hl ⊢
   intro x hx hh
   refine hl x (List.mem_filter.2 ⟨hx,?_⟩) hh
   cases hpx:pb x
   ·rfl
   ·rw[hb x hpx]at hh;cases hh
  cases c<;>first|exact ha _ hp|exact hb _ hp|(cases hp;done)|exact hq _ h|skip
  have:=hq _ h
  simpa[PV.to]using this
theorem qe1{pb pa qb qa:Nat->Bool}(hb: ∀i,pb i=true->qb i=false)(ha: ∀i,pa i=true->qa i=false){cs:List PV}(h:(cs.map (PV.kill pb pa)).any (PV.to qb qa)=false):cs.any (PV.to qb qa)=false:=by
 rw[yD]at h ⊢
 intro x hx
 have:=h _ (List.mem_map_of_mem hx)
 simp only[Bool.not_eq_true]at this ⊢
 exact qe0 hb ha this
theorem qe2{pb pa:Nat->Bool}{c:PV}(h:c.to pb pa=true):c.kill pb pa=c.killed pb:=by unfold PV.kill;rw[h];rfl
theorem qe3(p:Nat->Bool)(l:List Nat)(h:l.any p=false):l.filter (fun i=> !p i)=l:=List.filter_eq_self.2 fun x hx=>by simpa using yD.1 h x hx
theorem qe4 (pb pa qb qa : Nat -> Bool) {c : PV} (hp : c.to pb pa = true) : (c.killed pb).kill qb qa = match c with
  | .clo _ ids=> .cld ((ids.filter fun i=> !pb i).filter fun i=> !qb i)
  | .itr i j=> .cld (([i,j].filter fun i=> !pb i).filter fun i=> !qb i)
  | .cld ids=> .cld ((ids.filter fun i=> !pb i).filter fun i=> !qb i)
  |_=> .bot:=by
 have key: ∀l:List Nat,(PV.cld l).kill qb qa= .cld (l.filter fun i=> !qb i):=fun l=>by
  cases h:l.any qb
  ·rw[qdS (show(PV.cld l).to qb qa=false from h),qe3 _ _ h]
  ·exact qe2 (c:= .cld l) h
 cases c<;>first|rfl|exact key _
theorem qe5(p q:Nat->Bool)(l:List Nat):(l.filter fun i=> !p i).filter (fun i=> !q i)=(l.filter fun i=> !q i).filter (fun i=> !p i):=by
 rw[List.filter_filter,List.filter_filter]
 exact List.filter_congr fun x _=>Bool.and_comm _ _
theorem qe6(pb pa qb qa:Nat->Bool)(c:PV):(c.kill pb pa).kill qb qa=(c.kill qb qa).kill pb pa:=by
 cases hp:c.to pb pa<;>cases hq:c.to qb qa
 ·rw[qdS hp,qdS hq,qdS hp]
 ·rw[qdS hp,qe2 hq,qe4 qb qa pb pa hq]
  cases c<;>first|rfl|skip
  all_goals
   show PV.cld _=PV.cld _
   congr 1
  ·rename_i ids;rw[qe5,qe3 pb ids hp]
  ·rename_i i j;rw[qe5,qe3 pb [i,j] (by simpa[PV.to]using hp)]
  ·rename_i ids;rw[qe5,qe3 pb ids hp]
 ·rw[qdS hq,qe2 hp,qe4 pb pa qb qa hp]
  cases c<;>first|rfl|skip
  all_goals
   show PV.cld _=PV.cld _
   congr 1
  ·rename_i ids;rw[qe5,qe3 qb ids hq]
  ·rename_i i j;rw[qe5,qe3 qb [i,j] (by simpa[PV.to]using hq)]
  ·rename_i ids;rw[qe5,qe3 qb ids hq]
 ·rw[qe2 hp,qe2 hq,qe4 pb pa qb qa hp,qe4 qb qa pb pa hq]
  cases c<;>first|rfl|skip
  all_goals
   show PV.cld _=PV.cld _
   congr 1
   exact qe5 _ _ _
theorem qe7{c:PV}(hc: ∀cs,c≠ .agg cs)(pb pa:Nat->Bool):c.killA pb pa=c.kill pb pa:=by
 cases c<;>first|exact absurd rfl (hc _)|rfl
theorem qe8{c:PV}(hc: ∀cs,c≠ .agg cs){pb pa:Nat->Bool} :c.toA pb pa=c.to pb pa:=by
 cases c<;>first|exact absurd rfl (hc _)|rfl
theorem qe9{c:PV}(hc: ∀cs,c≠ .tup cs){pb pa:Nat->Bool} :c.toV pb pa=c.toA pb pa:=by
 cases c<;>first|exact absurd rfl (hc _)|rfl
theorem qea(pb pa qb qa:Nat->Bool)(c:PV):(c.killA pb pa).killA qb qa=(c.killA qb qa).killA pb pa:=by
 by_cases hc: ∃cs,c= .agg cs
 ·obtain⟨cs,rfl⟩:=hc
  simp only[PV.killA,List.map_map]
  congr 1
  exact List.map_congr_left fun x _=>qe6 pb pa qb qa x
 ·have hc: ∀cs,c≠ .agg cs:=fun cs h=>hc ⟨cs,h⟩
  rw[qe7 hc,qe7 hc,qe7 (qbG hc _ _),qe7 (qbG hc _ _),qe6]
theorem qeb{c:PV}(hc: ∀cs,c≠ .tup cs)(pb pa:Nat->Bool):c.killV pb pa=c.killA pb pa:=by
 cases c<;>first|exact absurd rfl (hc _)|rfl
theorem qec{c:PV}(hc: ∀cs,c≠ .tup cs)(pb pa:Nat->Bool): ∀cs,c.killA pb pa≠ .tup cs:=by
 intro cs h
 cases c<;>first|exact absurd rfl (hc _)|(cases h;done)|exact qbH hc pb pa cs h
theorem qed(pb pa qb qa:Nat->Bool)(c:PV):(c.killV pb pa).killV qb qa=(c.killV qb qa).killV pb pa:=by
 by_cases hc: ∃cs,c= .tup cs
 ·obtain⟨cs,rfl⟩:=hc
  simp only[PV.killV,List.map_map]
  congr 1
  exact List.map_congr_left fun x _=>qea pb pa qb qa x
 ·have hc: ∀cs,c≠ .tup cs:=fun cs h=>hc ⟨cs,h⟩
  rw[qeb hc,qeb hc,qeb (qec hc _ _),qeb (qec hc _ _),qea]
theorem qee{pb pa qb qa:Nat->Bool}(hb: ∀i,pb i=true->qb i=false)(ha: ∀i,pa i=true->qa i=false){c:PV}(h:(c.killA pb pa).toA qb qa=false):c.toA qb qa=false:=by
 by_cases hc: ∃cs,c= .agg cs
 ·obtain⟨cs,rfl⟩:=hc
  exact qe1 hb ha h
 ·have hc: ∀cs,c≠ .agg cs:=fun cs h=>hc ⟨cs,h⟩
  rw[qe7 hc,qe8 (qbG hc _ _)]at h
  rw[qe8 hc]
  exact qe0 hb ha h
theorem qef{pb pa qb qa:Nat->Bool}(hb: ∀i,pb i=true->qb i=false)(ha: ∀i,pa i=true->qa i=false){c:PV}(h:(c.killV pb pa).toV qb qa=false):c.toV qb qa=false:=by
 by_cases hc: ∃cs,c= .tup cs
 ·obtain⟨cs,rfl⟩:=hc
  simp only[PV.toV,PV.killV]at h ⊢
  rw[yD]at h ⊢
  intro x hx
  have:=h _ (List.mem_map_of_mem hx)
  simp only[Bool.not_eq_true]at this ⊢
  exact qee hb ha this
 ·have hc: ∀cs,c≠ .tup cs:=fun cs h=>hc ⟨cs,h⟩
  rw[qeb hc,qe9 (qec hc _ _)]at h
  rw[qe9 hc]
  exact qee hb ha h
theorem qeg{α β:Type}(f:α->β)(s:List (Nat×α))(i:Nat)(v:α):(up s i v).map (fun x=>(x.1,f x.2))=up (s.map fun x=>(x.1,f x.2)) i (f v):=by
 induction s with
 |nil=>rfl
 |cons p r ih=>
   obtain⟨k,u⟩:=p
   simp only[up,zW]
   split
   ·rfl
   ·split
    ·rfl
    ·simp only[zW,ih]
theorem qeh(st:St):st.kill nul nul=st:=by
 obtain⟨s,b,a,m⟩:=st
 have h1: ∀s:List (Nat×PV),(s.map fun x=>(x.1,x.2.killV nul nul))=s:=fun s=>by
  induction s with
  |nil=>rfl
  |cons p r ih=>simp[qdV (PV.toV_nul p.2),ih]
 have h2: ∀s:List (Nat×List PV),(s.map fun x=>(x.1,x.2.map (PV.kill nul nul)))=s:=fun s=>by
  induction s with
  |nil=>rfl
  |cons p r ih=>
    have:p.2.map (PV.kill nul nul)=p.2:=qdT (by simp[PV.to_nul])
    simp[this,ih]
 have h3:(m.filter fun x=> !nul x.1&& !mpTo m nul x.1)=m:=List.filter_eq_self.2 fun x _=>by simp[qa9,nul]
 simp only[St.kill,h1,h2,h3]
theorem qei(st:St)(pb pa:Nat->Bool)(i:Nat):lk (st.kill pb pa).s i=(lk st.s i).map (PV.killV pb pa):=qa6 st.s (PV.killV pb pa) i
theorem qej(st:St)(pb pa:Nat->Bool)(i:Nat):lk (st.kill pb pa).b i=(lk st.b i).map (fun cs=>cs.map (PV.kill pb pa)):=qa6 st.b (fun cs=>cs.map (PV.kill pb pa)) i
theorem qek(st:St)(pb pa:Nat->Bool)(i:Nat):(st.kill pb pa).get i=(st.get i).killV pb pa:=by
 unfold St.get
 rw[qei]
 cases lk st.s i<;>rfl
structure Eff where
 kb:Nat->Bool
 ka:Nat->Bool
 p:Option (Nat×PV)
 bx:Option (Nat×List PV)
 ar:Option (Nat×Arr)
def upP{α:Type}(l:List (Nat×α)):Option (Nat×α)->List (Nat×α)
 |some (i,v)=>up l i v
 |none=>l
def Eff.run(e:Eff)(st:St):St:=
 let st' :=st.kill e.kb e.ka
 { s:=upP st'.s e.p,b:=upP st'.b e.bx,a:=upP st'.a e.ar,m:=st'.m }
theorem qel(m:List (Nat×Mp))(p:Nat->Bool)(q:Nat->Bool)(i:Nat)(h:p i=true):mpTo (m.filter fun x=>p x.1) q i=mpTo m q i:=by
 unfold mpTo
 rw[qa5 m p,if_pos h]
theorem qem (m : List (Nat × Mp)) (p q : Nat -> Bool) : ((m.filter fun x => !p x.1 && !mpTo m p x.1).filter fun x => !q x.1 && !mpTo (m.filter fun x => !p x.1 && !mpTo m p x.1) q x.1) =
  m.filter fun x=>(!p x.1&& !mpTo m p x.1)&&(!q x.1&& !mpTo m q x.1):=by
 rw[List.filter_filter]
 refine List.filter_congr fun x _=> ?_
 cases h:(!p x.1&& !mpTo m p x.1)
 ·simp
 ·rw[qel m (fun i=> !p i&& !mpTo m p i) q x.1 h];simp
theorem qen (m : List (Nat × Mp)) (p q : Nat -> Bool) : ((m.filter fun x => !p x.1 && !mpTo m p x.1).filter fun x => !q x.1 && !mpTo (m.filter fun x => !p x.1 && !mpTo m p x.1) q x.1) =
  ((m.filter fun x=> !q x.1&& !mpTo m q x.1).filter fun x=> !p x.1&& !mpTo (m.filter fun x=> !q x.1&& !mpTo m q x.1) p x.1):=by
 rw[qem,qem]
 exact List.filter_congr fun x _=>Bool.and_comm _ _
theorem qeo{α:Type}(l:List (Nat×α))(p q:Option (Nat×α))(h: ∀x y,p=some x->q=some y->x.1≠y.1):upP (upP l p) q=upP (upP l q) p:=by
 cases p with
 |none=>rfl
 | some p => cases q with
   |none=>rfl
   |some q=>exact qa3 l p.2 q.2 (h p q rfl rfl)
theorem qep{α β:Type}(f:α->β)(s:List (Nat×α))(p:Option (Nat×α)):(upP s p).map (fun x=>(x.1,f x.2))=upP (s.map fun x=>(x.1,f x.2)) (p.map fun x=>(x.1,f x.2)):=by
 cases p with
 |none=>rfl
 |some p=>exact qeg f s p.1 p.2
theorem qeq (e f : Eff) (st : St) (hd : ∀ x y, e.p = some x -> f.p = some y -> x.1 ≠ y.1) (hve : ∀ x, e.p = some x -> x.2.toV f.kb f.ka = false) (hvf : ∀ x, f.p = some x -> x.2.toV e.kb e.ka = false)
  (hb: ∀x y,e.bx=some x->f.bx=some y->x.1≠y.1) (hbe: ∀x,e.bx=some x->x.2.any (PV.to f.kb f.ka)=false) (hbf: ∀x,f.bx=some x->x.2.any (PV.to e.kb e.ka)=false)
  (ha: ∀x y,e.ar=some x->f.ar=some y->x.1≠y.1):e.run (f.run st)=f.run (e.run st):=by
 unfold Eff.run St.kill
 simp only[qep,List.map_map]
 have h1:f.p.map (fun x=>(x.1,x.2.killV e.kb e.ka))=f.p:=by
  cases hx:f.p with
  |none=>rfl
  |some x=>simp[qdV (hvf x hx)]
 have h2:e.p.map (fun x=>(x.1,x.2.killV f.kb f.ka))=e.p:=by
  cases hx:e.p with
  |none=>rfl
  |some x=>simp[qdV (hve x hx)]
 have h3:f.bx.map (fun x=>(x.1,x.2.map (PV.kill e.kb e.ka)))=f.bx:=by
  cases hx:f.bx with
  |none=>rfl
  |some x=>simp[qdT (hbf x hx)]
 have h4:e.bx.map (fun x=>(x.1,x.2.map (PV.kill f.kb f.ka)))=e.bx:=by
  cases hx:e.bx with
  |none=>rfl
  |some x=>simp[qdT (hbe x hx)]
 rw[h1,h2,h3,h4]
 congr 1
 ·rw[qeo]
  ·congr 2
   refine List.map_congr_left fun x _=> ?_
   simp only[Function.comp,qed f.kb f.ka e.kb e.ka]
  ·intro x y hx hy he;exact hd y x hy hx he.symm
 ·rw[qeo]
  ·congr 2
   refine List.map_congr_left fun x _=> ?_
   simp only[Function.comp,List.map_map]
   congr 1
   refine List.map_congr_left fun c _=> ?_
   exact qe6 f.kb f.ka e.kb e.ka c
  ·intro x y hx hy he;exact hb y x hy hx he.symm
 ·rw[qeo]
  intro x y hx hy he;exact ha y x hy hx he.symm
 ·exact qen _ _ _
theorem qer{α:Type}(l:List (Nat×α))(p:Option (Nat×α))(j:Nat)(h: ∀x,p=some x->x.1≠j):lk (upP l p) j=lk l j:=by
 cases p with
 |none=>rfl
 |some p=>show lk (up l p.1 p.2) j=_;rw[qa2,if_neg (h p rfl)]
theorem qes(e:Eff)(st:St){i:Nat}(h: ∀x,e.p=some x->x.1≠i):(e.run st).get i=(st.get i).killV e.kb e.ka:=by
 rw[<- qek]
 unfold St.get Eff.run
 simp only
 rw[qer _ _ _ h]
theorem qet(e:Eff)(st:St){x:Nat×PV}(h:e.p=some x):(e.run st).get x.1=x.2:=by
 unfold St.get Eff.run
 simp only[h,upP,qa2,if_true,Option.getD_some]
theorem qeu(e:Eff)(st:St){x:Nat×List PV}(h:e.bx=some x):lk (e.run st).b x.1=some x.2:=by
 unfold Eff.run
 simp only[h,upP,qa2,if_true]
theorem qev(e:Eff)(st:St){i:Nat}(h: ∀x,e.bx=some x->x.1≠i):lk (e.run st).b i=(lk st.b i).map (fun cs=>cs.map (PV.kill e.kb e.ka)):=by
 rw[<- qej]
 exact qer _ _ _ h
theorem qew(e:Eff)(st:St){i:Nat}(h: ∀x,e.ar=some x->x.1≠i):lk (e.run st).a i=lk st.a i:=qer _ _ _ h
end Go.Vc
namespace Go.Vc
open Go Go.RowKit
def isI(i:Nat):Nat->Bool:=fun j=>j==i
def sem(st:St)(d:Option Nat):AOp->Prop×Eff
 | .alc zero=>match d with|some i=>(True,⟨isI i,nul,some (i,.ptr i 0),some (i,zero),none⟩)|none=>(False,⟨nul,nul,none,none,none⟩)
 | .box x=>match d with|some i=>(qas (x.ev st)=true/\(cellsOf (x.ev st)).any (PV.to (isI i) nul)=false,⟨isI i,nul,some (i,.ptr i 0),some (i,cellsOf (x.ev st)),none⟩)|none=>(False,⟨nul,nul,none,none,none⟩)
 | .bsl es ty zero n parts => match d with
   |some i=>let q:=bslF st es parts (List.replicate n zero);((0<es/\zero.length=es/\n*es<=16777216)/\q.1,⟨nul,isI i,some (i,.view i 0 q.2.length),none,some (i,⟨es,ty,q.2⟩)⟩)
   |none=>(False,⟨nul,nul,none,none,none⟩)
 | .mks es ty by_ zero l c => match d, l.ev st, c.ev st with
   | some i, .sc (.int _ n), .sc (.int _ m) => ((0 < es /\ zero.length = es) /\ 0 <= n /\ n <= m /\ m.toNat * by_ <= 140737488355328 /\ m <= 9223372036854775807,
     ⟨nul,isI i,some (i,.view i 0 (List.replicate n.toNat zero).length),none,some (i,⟨es,ty,List.replicate n.toNat zero⟩)⟩)
   |_,_,_=>(False,⟨nul,nul,none,none,none⟩)
 | .sto sz x v => match x.ev st with
   | .ptr id off => match lk st.b id with
     |some cs=>((qas (v.ev st)=true/\(cellsOf (v.ev st)).length=sz)/\off+sz<=cs.length,⟨nul,nul,none,some (id,spl cs off (cellsOf (v.ev st))),none⟩)
     |none=>(False,⟨nul,nul,none,none,none⟩)
   | .eptr id i off => match lk st.a id with
     | some A => (((qas (v.ev st) = true /\ (cellsOf (v.ev st)).all qbM = true) /\ (cellsOf (v.ev st)).length = sz) /\ off + sz <= A.es /\ i < A.xs.length,
       ⟨nul,nul,none,none,some (id,{ A with xs:=A.xs.set i (spl (A.xs.getD i []) off (cellsOf (v.ev st))) })⟩)
     |none=>(False,⟨nul,nul,none,none,none⟩)
   |_=>(False,⟨nul,nul,none,none,none⟩)
 | .app es ty by_ s x => let q := qbN st es (x.ev st); match d, s.ev st with
   | some i, .nil => match q.2 with
     |[]=>(0<es/\q.1,⟨nul,nul,some (i,.nil),none,none⟩)
     |y::r=>((0<es/\q.1)/\(r.length+1)*by_<=140737488355328/\r.length+1<=9223372036854775807,⟨nul,isI i,some (i,.view i 0 (y::r).length),none,some (i,⟨es,ty,y::r⟩)⟩)
   | some i, .view id lo n => match lk st.a id with
     | some A => (((lo = 0 /\ A.es = es /\ A.ty = ty) /\ q.1) /\ n = A.xs.length /\ (n + q.2.length) * by_ <= 140737488355328 /\ n + q.2.length <= 9223372036854775807,
       ⟨nul,isI id,some (i,.view id 0 (n+q.2.length)),none,some (id,{ A with xs:=A.xs++q.2 })⟩)
     |none=>(False,⟨nul,nul,none,none,none⟩)
   |_,_=>(False,⟨nul,nul,none,none,none⟩)
 | .cpy es x y => let q := qbN st es (y.ev st); match x.ev st with
   | .view id lo n => match lk st.a id with
     |some A=>((0<es/\A.es=es)/\q.1,⟨nul,nul,d.map (fun i=>(i,.int (min q.2.length n:Nat))),none,some (id,{ A with xs:=cpyF A.xs lo (q.2.take n) })⟩)
     |none=>(False,⟨nul,nul,none,none,none⟩)
   |_=>(False,⟨nul,nul,none,none,none⟩)
 |op=>((aev st op).1,⟨nul,nul,d.map (fun i=>(i,(aev st op).2)),none,none⟩)
theorem qex(st:St){cs:List PV}(h:qbL cs=[]):st.frzs cs=st:=by simp[St.frzs,h]
theorem qey(st:St)(parts:List (Nat×Opd))(h: ∀p∈parts,qbL (cellsOf (p.2.ev st))=[]):frzParts st parts=st:=by
 induction parts with
 |nil=>rfl
 |cons p r ih=>
   obtain⟨j,x⟩:=p
   simp only[frzParts]
   rw[qex st (h (j,x) zX)]
   exact ih fun p hp=>h p (zT _ hp)
theorem qez(st:St)(d:Option Nat)(v:PV):(⟨nul,nul,d.map (fun i=>(i,v)),none,none⟩:Eff).run st=st.put d v:=by
 unfold Eff.run
 simp only[qeh]
 cases d<;>rfl
theorem qeA(st:St)(i:Nat)(v:PV):(⟨nul,nul,some (i,v),none,none⟩:Eff).run st=st.put (some i) v:=qez st (some i) v
theorem qeB (P : Env) (st : St) (d : Option Nat) (g : Option (Nat × Bool)) (t : List Nat) (op : AOp) (hc : qd3 op = false) (hm : qd8 op = false) (u : List Nat) (hs : qcK st t u op) (hn : qd5 op = true -> d = none) (K : St -> Prop) :
  opK P ⟨d,g,op⟩ st K ↔ (sem st d op).1/\K ((sem st d op).2.run st):=by
 cases op
 case cal=>simp[qd3]at hc
 case clv=>simp[qd3]at hc
 case cpy es x y=>
  simp only[opK,qcH,if_true,hev,sem]
  generalize qbN st es (y.ev st)=q
  cases x.ev st with
  |view id lo n=>
    simp only
    cases lk st.a id with
    |none=>simp
    |some A=>
      simp only[Eff.run,qeh,upP]
      cases d<;>exact Iff.rfl
  |_=>simp
 case alc zero=>
  simp only[opK,qcH,if_true,hev,sem]
  cases d with
  |none=>simp
  |some i=>exact Iff.rfl
 case box x=>
  simp only[opK,qcH,if_true,hev,sem]
  cases d with
  |none=>simp
  |some i=>exact Iff.rfl
 case bsl es ty zero n parts=>
  simp only[opK,qcH,if_true,hev,sem]
  cases d with
  |none=>simp
  |some i=>
    simp only
    rw[qey st parts hs]
    exact Iff.rfl
 case mks es ty by_ zero l c=>
  simp only[opK,qcH,if_true,hev,sem]
  cases d with
  |none=>simp
  |some i=>
    generalize l.ev st=u
    generalize c.ev st=v
    cases u with
    | sc u => cases v with
      |sc v=>cases u<;>cases v<;>first|exact Iff.rfl|simp
      |_=>cases u<;>simp
    |_=>cases v<;>simp
 case sto sz x v=>
  have hd:=hn rfl
  subst hd
  simp only[qcK]at hs
  simp only[opK,qcH,if_true,hev,sem]
  cases hx:x.ev st with
  |ptr id off=>
    simp only
    cases hb:lk st.b id with
    |none=>simp
    |some cs=>
      simp only[Eff.run,qeh,upP]
  |eptr id i off=>
    simp only[qex st hs.1]
    cases ha:lk st.a id with
    |none=>simp
    |some A=>
      simp only[Eff.run,qeh,upP,hx,and_true]
  |_=>simp
 case app es ty by_ s x=>
  simp only[opK,qcH,if_true,hev,sem]
  cases d with
  |none=>simp
  |some i=>
    generalize qbN st es (x.ev st)=q
    obtain⟨q1,q2⟩:=q
    cases s.ev st with
    |nil=>
      cases q2 with
      |nil=>simp only[qeA];exact Iff.rfl
      |cons y r=>exact Iff.rfl
    |view id lo n=>
      simp only
      cases lk st.a id with
      |none=>simp
      |some A=>exact Iff.rfl
    |_=>simp
 all_goals first|(simp[qd8,qcI]at hm;done)|simp only[opK,qcH,Bool.false_eq_true,if_false,sem,qez]
structure FrW (pb pa:Nat->Bool) (st st' :St):Prop where
 b: ∀i,pb i=false->lk st'.b i=lk st.b i
 a: ∀i,pa i=false->lk st'.a i=lk st.a i
structure FrS (pb pa:Nat->Bool) (st st' :St):Prop extends FrW pb pa st st' where
 bx: ∀i cs,lk st.b i=some cs->cs.any (PV.to pb pa)=false
def FrO(pb pa:Nat->Bool)(st st' :St)(x:Opd):Prop:=x.ev st' =x.ev st/\(x.ev st).toV pb pa=false
section
variable {pb pa:Nat->Bool} {st st' :St}
theorem qeC(parts:List (Nat×Nat×Opd))(cs:List PV)(h: ∀x∈parts.map (fun p=>p.2.2),x.ev st' =x.ev st):bldF st' parts cs=bldF st parts cs:=by
 induction parts generalizing cs with
 |nil=>rfl
 |cons p r ih=>
   obtain⟨o,s,x⟩:=p
   simp only[zW,List.forall_mem_cons]at h
   simp only[bldF,h.1]
   rw[ih _ h.2]
theorem qeD(es:Nat)(parts:List (Nat×Opd))(rs:List (List PV))(h: ∀x∈parts.map (fun p=>p.2),x.ev st' =x.ev st):bslF st' es parts rs=bslF st es parts rs:=by
 induction parts generalizing rs with
 |nil=>rfl
 |cons p r ih=>
   obtain⟨o,x⟩:=p
   simp only[zW,List.forall_mem_cons]at h
   simp only[bslF,h.1]
   rw[ih _ h.2]
theorem qeE(n:Nat)(lo hi:Option Opd)(h: ∀x∈optL lo++optL hi,x.ev st' =x.ev st):slcB st' n lo hi=slcB st n lo hi:=by
 cases lo<;>cases hi<;>simp only[optL,List.nil_append,List.append_nil,List.forall_mem_append,List.forall_mem_cons]at h<;>simp only[slcB]
 ·rw[h.1]
 ·rw[h.1]
 ·rw[h.1.1,h.2.1]
theorem qeF(op:AOp)(hf:qd9 op=true)(h: ∀x∈opds op,x.ev st' =x.ev st):aev st' op=aev st op:=by
 cases op<;>simp only[qd9]at hf<;>first|(exact absurd hf zQ)|skip
 case bld zero parts=>simp only[aev];rw[qeC parts zero h]
 case lenA=>rfl
 all_goals
  simp only[opds,List.forall_mem_cons]at h
 case pick=>simp only[aev,h.1,h.2.1,h.2.2.1]
 all_goals first
  |(simp only[aev,h.1,h.2.1];done)
  |(simp only[aev,h.1];done)
theorem qeG(hf:FrW pb pa st st')(op:AOp)(hc:qd8 op=false)(h: ∀x∈opds op,FrO pb pa st st' x):aev st' op=aev st op:=by
 by_cases hm:qd9 op=true
 ·exact qeF op hm fun x hx=>(h x hx).1
 cases op<;>simp only[qd9,not_true_eq_false]at hm
 case ld agg sz x=>
  have hx:=h x (by simp[opds])
  simp only[aev,hx.1]
  cases hv:x.ev st with
  |ptr id off=>
    have h2:=hx.2;rw[hv]at h2
    simp only[hf.b id h2]
  |eptr id i off=>
    have h2:=hx.2;rw[hv]at h2
    simp only[hf.a id h2]
  |_=>rfl
 case ixs es x i=>
  have hx:=h x (by simp[opds])
  have hi:=h i (by simp[opds])
  simp only[aev,hx.1,hi.1]
  generalize i.ev st=j
  have h2:=hx.2
  revert h2
  generalize x.ev st=u
  intro h2
  cases u with
  |view id lo n=>
    cases j with
    |sc v=>cases v<;>first|rfl|simp only[hf.a id h2]
    |_=>rfl
  |_=>
    cases j with
    |sc v=>cases v<;>rfl
    |_=>rfl
 case slc es x lo hi=>
  have hx:=h x (by simp[opds])
  have hb:=fun n=>qeE (st:=st) (st' :=st') n lo hi fun y hy=>(h y (by simp only[opds];exact zT _ hy)).1
  simp only[aev,hx.1,hb]
  cases hv:x.ev st with
  |view id l n=>
    have h2:=hx.2;rw[hv]at h2
    simp only[hf.a id h2]
  |_=>rfl
 all_goals first|(simp[qd8,qcI]at hc;done)|rfl
theorem qeH(hf:FrW pb pa st st')(es:Nat){v:PV}(h:v.toV pb pa=false):qbN st' es v=qbN st es v:=by
 cases v with
 |view id lo n=>simp only[qbN,hf.a id h]
 |_=>rfl
theorem qeI(hf:FrW pb pa st st')(d:Option Nat)(op:AOp)(hc:qd8 op=false)(h: ∀x∈opds op,FrO pb pa st st' x):sem st' d op=sem st d op:=by
 cases op
 case alc zero=>rfl
 case box x=>
  have hx:=h x (by simp[opds])
  simp only[sem,hx.1]
 case bsl es ty zero n parts=>
  simp only[sem]
  rw[qeD es parts _ fun x hx=>(h x hx).1]
 case mks es ty by_ zero l c=>
  have hx:=h l (by simp[opds])
  have hy:=h c (by simp[opds])
  simp only[sem,hx.1,hy.1]
 case sto sz x v=>
  have hx:=h x (by simp[opds])
  have hy:=h v (by simp[opds])
  simp only[sem,hx.1,hy.1]
  cases hv:x.ev st with
  |ptr id off=>have h2:=hx.2;rw[hv]at h2;simp only[hf.b id h2]
  |eptr id i off=>have h2:=hx.2;rw[hv]at h2;simp only[hf.a id h2]
  |_=>rfl
 case app es ty by_ s x=>
  have hx:=h s (by simp[opds])
  have hy:=h x (by simp[opds])
  simp only[sem,hx.1,hy.1,qeH hf es hy.2]
  have h2:=hx.2
  revert h2
  generalize s.ev st=u
  intro h2
  cases d with
  |none=>cases u<;>rfl
  | some i => cases u with
    |view id lo n=>simp only[hf.a id h2]
    |_=>rfl
 case cpy es x y=>
  have hx:=h x (by simp[opds])
  have hy:=h y (by simp[opds])
  simp only[sem,hx.1,hy.1,qeH hf es hy.2]
  have h2:=hx.2
  revert h2
  generalize x.ev st=u
  intro h2
  cases u with
  |view id lo n=>simp only[hf.a id h2]
  |_=>rfl
 all_goals
  simp only[sem]
  rw[qeG hf _ hc h]
theorem qeJ(hf:FrS pb pa st st'){v:PV}(h:v.to pb pa=false):v.rs0 st' =v.rs0 st:=by
 cases v with
 |view id lo n=>simp only[PV.rs0,hf.a id h]
 |eptr id i o=>simp only[PV.rs0,hf.a id h]
 |_=>rfl
theorem qeK(hf:FrS pb pa st st'){cs:List PV}(h:cs.any (PV.to pb pa)=false):cs.map (PV.rs0 st')=cs.map (PV.rs0 st):=by
 rw[yD]at h
 exact List.map_congr_left fun x hx=>qeJ hf (by simpa using h x hx)
theorem qeL(hf:FrS pb pa st st'){v:PV}(h:v.to pb pa=false):v.rs1 st' =v.rs1 st:=by
 cases v with
 |ptr id off=>
   simp only[PV.rs1,hf.b id h]
   cases hb:lk st.b id with
   |none=>rfl
   |some cs=>simp only[qeK hf (hf.bx id cs hb)]
 |clo f ids=>
   simp only[PV.rs1]
   congr 1
   have h:ids.any pb=false:=h
   rw[yD]at h
   refine List.map_congr_left fun i hi=> ?_
   have h2:pb i=false:=by simpa using h i hi
   simp only[qcu,hf.b i h2]
   cases hb:lk st.b i with
   |none=>rfl
   |some cs=>simp only[qeK hf (hf.bx i cs hb)]
 |bv id es n=>
   simp only[PV.rs1,hf.b id h]
   cases hb:lk st.b id with
   |none=>rfl
   |some cs=>
     have h1:=hf.bx id cs hb
     rw[yD]at h1
     have h2:(cs.map fun c=>[c.rs0 st'])=cs.map fun c=>[c.rs0 st]:=List.map_congr_left fun x hx=>by rw[qeJ hf (by simpa using h1 x hx)]
     simp only[h2]
 |_=>exact qeJ hf h
theorem qeM(hf:FrS pb pa st st'){v:PV}(h:v.toV pb pa=false):v.rsA st' =v.rsA st:=by
 cases v with
 |tup cs=>rfl
 |agg cs=>
   simp only[PV.rsA]
   congr 1
   have h:cs.any (PV.to pb pa)=false:=h
   rw[yD]at h
   exact List.map_congr_left fun x hx=>qeL hf (by simpa using h x hx)
 |_=>
   have h2:=h
   rw[qe9 (by intro cs e;cases e),qe8 (by intro cs e;cases e)]at h2
   exact qeL hf h2
end
end Go.Vc
