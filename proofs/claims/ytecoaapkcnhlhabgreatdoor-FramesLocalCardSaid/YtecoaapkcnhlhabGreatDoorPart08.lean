/- VcW VcZ VcBr: lemmas -/
import Derived.Test.YtecoaapkcnhlhabGreatDoorPart07
import Derived.ProofKit
set_option linter.unusedSimpArgs false
set_option linter.unusedVariables false
open Option renaming map_eq_some_iff->zR
open Array renaming getD_eq_getD_getElem? ->zO
open Bool renaming and_eq_true->zN
open List renaming getElem?_eq_getElem->zL,getElem?_eq_some_iff->zM,getElem?_append_left->yA,getElem?_append_right->yB,all_eq_true->yE,length_map->yG
namespace Go.Vc
open Go Go.RowKit
@[push_cast] theorem qpv(i:Nat):inL [] i=false:=rfl
@[push_cast] theorem qpw(a:Nat)(t:List Nat)(i:Nat):inL (a::t) i=if a=i then true else inL t i:=by
 unfold inL
 rw[qh8,qh8];rfl
def ssIs:Option Nat->Nat->Bool
 |none,_=>false
 |some j,k=>if j=k then true else false
@[push_cast] theorem qpx(k:Nat):ssIs none k=false:=rfl
@[push_cast] theorem qpy(j k:Nat):ssIs (some j) k=if j=k then true else false:=rfl
def noS(ss:Option Nat)(t:List Nat):List (Nat×PV)->Bool
 |[]=>true
 |(k,v)::r=>(ssIs ss k|| !v.toV (inL t) (inL t))&&noS ss t r
def noB(t:List Nat):List (Nat×List PV)->Bool
 |[]=>true
 |(_,cs)::r=> !anyT (inL t) (inL t) cs&&noB t r
@[push_cast] theorem qpz(ss:Option Nat)(t:List Nat):noS ss t []=true:=rfl
@[push_cast] theorem qpA(ss:Option Nat)(t:List Nat)(k:Nat)(v:PV)(r:List (Nat×PV)):noS ss t ((k,v)::r)=((ssIs ss k|| !v.toV (inL t) (inL t))&&noS ss t r):=rfl
@[push_cast] theorem qpB(t:List Nat):noB t []=true:=rfl
@[push_cast] theorem qpC(t:List Nat)(k:Nat)(cs:List PV)(r:List (Nat×List PV)):noB t ((k,cs)::r)=(!anyT (inL t) (inL t) cs&&noB t r):=rfl
@[push_cast] theorem qpD(st:St)(ss:Option Nat):noX st [] ss=true:=rfl
@[push_cast] theorem qpE(s:List (Nat×PV))(b:List (Nat×List PV))(a:List (Nat×Arr))(m:List (Nat×Mp))(i:Nat)(t:List Nat)(ss:Option Nat):noX ⟨s,b,a,m⟩ (i::t) ss=(noS ss (i::t) s&&noB (i::t) b):=by
 simp only[noX]
 congr 1
 ·induction s with
  |nil=>rfl
  |cons x r ih=>
    obtain⟨k,v⟩:=x
    simp only[List.all_cons,noS,ih]
    congr 2
    cases ss with
    |none=>rfl
    |some j=>by_cases h:j=k<;>simp[ssIs,h]
 ·induction b with
  |nil=>rfl
  |cons x r ih=>
    obtain⟨k,v⟩:=x
    simp only[qhK]at ih
    simp only[List.all_cons,noB,ih,qhK]
@[push_cast] theorem qpF(v:PV):stoT [] v=true:=rfl
@[push_cast] theorem qpG(i:Nat)(u:List Nat)(id o:Nat):stoT (i::u) (.ptr id o)=inL (i::u) id:=rfl
@[push_cast] theorem qpH(i:Nat)(u:List Nat)(id j o:Nat):stoT (i::u) (.eptr id j o)=inL (i::u) id:=rfl
@[push_cast] theorem qpI(v:PV):refU [] v=false:=rfl
@[push_cast] theorem qpJ(a:Nat)(u:List Nat)(v:PV):refU (a::u) v=v.toV (inL (a::u)) (inL (a::u)):=rfl
@[push_cast] theorem qpK(o:Option (List PV)):boxU [] o=false:=by cases o<;>rfl
@[push_cast] theorem qpL(a:Nat)(u:List Nat):boxU (a::u) none=false:=rfl
@[push_cast] theorem qpM(a:Nat)(u:List Nat)(cs:List PV):boxU (a::u) (some cs)=anyT (inL (a::u)) (inL (a::u)) cs:=qhK _ _ cs
@[push_cast] theorem qpN(st:St)(i:Nat):st.getO (some i)=st.get i:=rfl
@[push_cast] theorem qpO(st:St):st.getO none= .bot:=rfl
def boxA(u:List Nat)(b:List (Nat×List PV)):List Nat->Bool
 |[]=>true
 |i::t=> !boxU u (lk b i)&&boxA u b t
@[push_cast] theorem qpP(u:List Nat)(b:List (Nat×List PV)):boxA u b []=true:=rfl
@[push_cast] theorem qpQ(u:List Nat)(b:List (Nat×List PV))(i:Nat)(t:List Nat):boxA u b (i::t)=(!boxU u (lk b i)&&boxA u b t):=rfl
theorem qpR(u:List Nat)(b:List (Nat×List PV))(t:List Nat):t.all (fun i=> !boxU u (lk b i))=boxA u b t:=by induction t<;>simp_all[boxA]
def preD(t u:List Nat)(d ss:Option Nat)(st:St):Prop:=noX st t ss=true/\refU u (st.getO d)=false/\boxA u st.b t=true
def qpS(t u:List Nat)(d:Option Nat)(st:St):Prop:=refU u (st.getO d)=false/\boxA u st.b t=true
@[congr] theorem qpT{t u:List Nat}{d ss:Option Nat}{st st' :St}(h:st=st'):preD t u d ss st=preD t u d ss st' :=by rw[h]
@[push_cast] theorem qpU(d ss:Option Nat)(st:St):preD [] [] d ss st=True:=by simp[preD,qpI,boxA,noX]
@[push_cast] theorem qpV(d:Option Nat)(st:St):qpS [] [] d st=True:=by simp[qpS,qpI,boxA]
@[push_cast] theorem qpW (i : Nat) (t u : List Nat) (d ss : Option Nat) (s : List (Nat × PV)) (b : List (Nat × List PV)) (a : List (Nat × Arr)) (m : List (Nat × Mp)) :
  preD (i::t) u d ss ⟨s,b,a,m⟩=(noX ⟨s,b,a,m⟩ (i::t) ss=true/\refU u (St.getO ⟨s,b,a,m⟩ d)=false/\boxA u b (i::t)=true):=rfl
@[push_cast] theorem qpX (i : Nat) (u : List Nat) (d ss : Option Nat) (s : List (Nat × PV)) (b : List (Nat × List PV)) (a : List (Nat × Arr)) (m : List (Nat × Mp)) :
  preD [] (i::u) d ss ⟨s,b,a,m⟩=(refU (i::u) (St.getO ⟨s,b,a,m⟩ d)=false):=by simp[preD,boxA,noX]
@[push_cast] theorem qpY (i : Nat) (t u : List Nat) (d : Option Nat) (s : List (Nat × PV)) (b : List (Nat × List PV)) (a : List (Nat × Arr)) (m : List (Nat × Mp)) :
  qpS (i::t) u d ⟨s,b,a,m⟩=(refU u (St.getO ⟨s,b,a,m⟩ d)=false/\boxA u b (i::t)=true):=rfl
@[push_cast] theorem qpZ (i : Nat) (u : List Nat) (d : Option Nat) (s : List (Nat × PV)) (b : List (Nat × List PV)) (a : List (Nat × Arr)) (m : List (Nat × Mp)) :
  qpS [] (i::u) d ⟨s,b,a,m⟩=(refU (i::u) (St.getO ⟨s,b,a,m⟩ d)=false):=by simp[qpS,boxA]
def nvL:List PV->Bool
 |[]=>true
 |c::r=>(qbL [c]).isEmpty&&nvL r
theorem qq0(cs:List PV):(qbL cs=[]) ↔ nvL cs=true:=by
 induction cs with
 |nil=>simp[qbL,nvL]
 |cons c r ih=>cases c<;>simp[qbL,nvL,ih]
@[push_cast] theorem qq1:nvL []=true:=rfl
@[push_cast] theorem qq2(v:Value)(r:List PV):nvL (.sc v::r)=nvL r:=rfl
@[push_cast] theorem qq3(r:List PV):nvL (.nil::r)=nvL r:=rfl
@[push_cast] theorem qq4(p:Bool)(es:Nat)(xs:List (List PV))(r:List PV):nvL (.sl p es xs::r)=nvL r:=rfl
@[push_cast] theorem qq5(p:Bool)(cs:List PV)(o:Nat)(r:List PV):nvL (.iptr p cs o::r)=nvL r:=rfl
@[push_cast] theorem qq6(i o:Nat)(r:List PV):nvL (.ptr i o::r)=nvL r:=rfl
@[push_cast] theorem qq7(r:List PV):nvL (.bot::r)=nvL r:=rfl
def nvP(st:St):List (Nat×Opd)->Bool
 |[]=>true
 |(_,x)::r=>nvL (cellsOf (x.ev st))&&nvP st r
@[push_cast] theorem qq8(st:St):nvP st []=true:=rfl
@[push_cast] theorem qq9(st:St)(j:Nat)(x:Opd)(r:List (Nat×Opd)):nvP st ((j,x)::r)=(nvL (cellsOf (x.ev st))&&nvP st r):=rfl
theorem qqa(st:St)(parts:List (Nat×Opd)):(∀p∈parts,qbL (cellsOf (p.2.ev st))=[]) ↔ nvP st parts=true:=by
 induction parts with
 |nil=>simp[nvP]
 |cons p r ih=>
   obtain⟨j,x⟩:=p
   simp only[qq0]at ih
   simp only[List.forall_mem_cons,ih,nvP,zN,qq0]
def appS(t:List Nat):PV->Bool
 | .view id _ _=>inL t id
 |_=>true
@[push_cast] theorem qqb(t:List Nat)(id lo n:Nat):appS t (.view id lo n)=inL t id:=rfl
@[push_cast] theorem qqc(t:List Nat):appS t .nil=true:=rfl
section
variable (P:Env) (t u:List Nat) (d:Option Nat) (r:List DO) (st:St) (K:St->Prop)
@[congr] theorem qqd{P:Env}{l:List DO}{st st' :St}{K:St->Prop}(h:st=st'):dsK P l st K=dsK P l st' K:=by rw[h]
@[push_cast] theorem qqe(keep:List Nat)(ops:List DO)(Q:Exit->St->Prop):awp P (.drw keep ops) Q st=dsK P ops (st.keepS keep) (Q .normal):=rfl
@[push_cast] theorem qqf:dsK P [] st K=K st:=rfl
@[push_cast] theorem qqg(o:AO):dsK P (⟨o,t,u,false⟩::r) st K=opsK P [o] st (fun st' =>dsK P r st' K):=by
 simp only[dsK,dopG,Bool.false_eq_true,if_false,opsK]
def qqh(P:Env)(t u:List Nat)(o:AO)(r:List DO)(st:St)(K:St->Prop):Prop:=opsK P [o] st (fun st' =>qpS t u o.d st' /\dsK P r st' K)
@[push_cast] theorem qqi(o:AO):qqh P t u o r st K=opsK P [o] st (fun st' =>qpS t u o.d st' /\dsK P r st' K):=rfl
theorem qqj(op:AOp)(hc:qd3 op=false):dsK P (⟨⟨d,none,op⟩,t,u,true⟩::r) st K=(preD t u d (srcS op) st/\qcK st t u op/\qqh P t u ⟨d,none,op⟩ r st K):=by
 have e1:qcL ⟨⟨d,none,op⟩,t,u,true⟩ st=preD t u d (srcS op) st:=by simp only[qcL,preD,qpR]
 have e2:dopK P ⟨⟨d,none,op⟩,t,u,true⟩ st (fun st' =>dsK P r st' K)=(qcK st t u op/\qqh P t u ⟨d,none,op⟩ r st K):=by
  unfold dopK qqh
  cases op<;>first|(cases hc;done)|(simp only[opsK,grdK,qcM,qpS,qpR])
 simp only[dsK,dopG,if_true,grdK,e1,e2]
variable (x y z:Opd)
@[push_cast] theorem d_mv:dsK P (⟨⟨d,none,.mv x⟩,t,u,true⟩::r) st K=(preD t u d none st/\qqh P t u ⟨d,none,.mv x⟩ r st K):=by rw[qqj _ _ _ _ _ _ _ _ rfl];simp[qcK,srcS]
@[push_cast] theorem qqk:dsK P (⟨⟨d,none,.pick x y z⟩,t,u,true⟩::r) st K=(preD t u d none st/\qqh P t u ⟨d,none,.pick x y z⟩ r st K):=by rw[qqj _ _ _ _ _ _ _ _ rfl];simp[qcK,srcS]
@[push_cast] theorem qql(zero:List PV)(parts:List (Nat×Nat×Opd)):dsK P (⟨⟨d,none,.bld zero parts⟩,t,u,true⟩::r) st K=(preD t u d none st/\qqh P t u ⟨d,none,.bld zero parts⟩ r st K):=by rw[qqj _ _ _ _ _ _ _ _ rfl];simp[qcK,srcS]
@[push_cast] theorem d_ld(agg:Bool)(sz:Nat):dsK P (⟨⟨d,none,.ld agg sz x⟩,t,u,true⟩::r) st K=(preD t u d none st/\refU u (x.ev st)=false/\qqh P t u ⟨d,none,.ld agg sz x⟩ r st K):=by rw[qqj _ _ _ _ _ _ _ _ rfl];simp[qcK,srcS]
@[push_cast] theorem qqm(op:BinOp)(nw:Bool)(k:IntKind):dsK P (⟨⟨d,none,.ari op nw k x y⟩,t,u,true⟩::r) st K=(preD t u d none st/\qqh P t u ⟨d,none,.ari op nw k x y⟩ r st K):=by rw[qqj _ _ _ _ _ _ _ _ rfl];simp[qcK,srcS]
@[push_cast] theorem qqn(op:BinOp)(nw:Bool)(k:IntKind):dsK P (⟨⟨d,none,.dvd op nw k x y⟩,t,u,true⟩::r) st K=(preD t u d none st/\qqh P t u ⟨d,none,.dvd op nw k x y⟩ r st K):=by rw[qqj _ _ _ _ _ _ _ _ rfl];simp[qcK,srcS]
@[push_cast] theorem qqo(op:BinOp)(k:IntKind):dsK P (⟨⟨d,none,.bit op k x y⟩,t,u,true⟩::r) st K=(preD t u d none st/\qqh P t u ⟨d,none,.bit op k x y⟩ r st K):=by rw[qqj _ _ _ _ _ _ _ _ rfl];simp[qcK,srcS]
@[push_cast] theorem qqp(op:BinOp)(k:IntKind):dsK P (⟨⟨d,none,.shf op k x y⟩,t,u,true⟩::r) st K=(preD t u d none st/\qqh P t u ⟨d,none,.shf op k x y⟩ r st K):=by rw[qqj _ _ _ _ _ _ _ _ rfl];simp[qcK,srcS]
@[push_cast] theorem qqq(op:BinOp)(k:IntKind):dsK P (⟨⟨d,none,.cmp op k x y⟩,t,u,true⟩::r) st K=(preD t u d none st/\qqh P t u ⟨d,none,.cmp op k x y⟩ r st K):=by rw[qqj _ _ _ _ _ _ _ _ rfl];simp[qcK,srcS]
@[push_cast] theorem qqs(ng:Bool)(n:Nat):dsK P (⟨⟨d,none,.eqa ng n x y⟩,t,u,true⟩::r) st K=(preD t u d none st/\qqh P t u ⟨d,none,.eqa ng n x y⟩ r st K):=by rw[qqj _ _ _ _ _ _ _ _ rfl];simp[qcK,srcS]
@[push_cast] theorem qqt:dsK P (⟨⟨d,none,.not x⟩,t,u,true⟩::r) st K=(preD t u d none st/\qqh P t u ⟨d,none,.not x⟩ r st K):=by rw[qqj _ _ _ _ _ _ _ _ rfl];simp[qcK,srcS]
@[push_cast] theorem qqv(nw:Bool)(k:IntKind):dsK P (⟨⟨d,none,.cnv nw k x⟩,t,u,true⟩::r) st K=(preD t u d none st/\qqh P t u ⟨d,none,.cnv nw k x⟩ r st K):=by rw[qqj _ _ _ _ _ _ _ _ rfl];simp[qcK,srcS]
@[push_cast] theorem qqw:dsK P (⟨⟨d,none,.len x⟩,t,u,true⟩::r) st K=(preD t u d none st/\qqh P t u ⟨d,none,.len x⟩ r st K):=by rw[qqj _ _ _ _ _ _ _ _ rfl];simp[qcK,srcS]
@[push_cast] theorem d_mn(mx:Bool):dsK P (⟨⟨d,none,.mn mx x y⟩,t,u,true⟩::r) st K=(preD t u d none st/\qqh P t u ⟨d,none,.mn mx x y⟩ r st K):=by rw[qqj _ _ _ _ _ _ _ _ rfl];simp[qcK,srcS]
@[push_cast] theorem d_fa(off:Nat):dsK P (⟨⟨d,none,.fa off x⟩,t,u,true⟩::r) st K=(preD t u d none st/\qqh P t u ⟨d,none,.fa off x⟩ r st K):=by rw[qqj _ _ _ _ _ _ _ _ rfl];simp[qcK,srcS]
@[push_cast] theorem d_fl(agg:Bool)(off sz:Nat):dsK P (⟨⟨d,none,.fl agg off sz x⟩,t,u,true⟩::r) st K=(preD t u d none st/\qqh P t u ⟨d,none,.fl agg off sz x⟩ r st K):=by rw[qqj _ _ _ _ _ _ _ _ rfl];simp[qcK,srcS]
@[push_cast] theorem qqy(es:Nat):dsK P (⟨⟨d,none,.ixs es x y⟩,t,u,true⟩::r) st K=(preD t u d none st/\refU u (x.ev st)=false/\qqh P t u ⟨d,none,.ixs es x y⟩ r st K):=by rw[qqj _ _ _ _ _ _ _ _ rfl];simp[qcK,srcS]
@[push_cast] theorem qqz(n es:Nat):dsK P (⟨⟨d,none,.ixa n es x y⟩,t,u,true⟩::r) st K=(preD t u d none st/\qqh P t u ⟨d,none,.ixa n es x y⟩ r st K):=by rw[qqj _ _ _ _ _ _ _ _ rfl];simp[qcK,srcS]
@[push_cast] theorem qqB(es:Nat)(lo hi:Option Opd):dsK P (⟨⟨d,none,.slc es x lo hi⟩,t,u,true⟩::r) st K=(preD t u d none st/\refU u (x.ev st)=false/\qqh P t u ⟨d,none,.slc es x lo hi⟩ r st K):=by rw[qqj _ _ _ _ _ _ _ _ rfl];simp[qcK,srcS]
@[push_cast] theorem qqC(i:Nat):dsK P (⟨⟨d,none,.ext x i⟩,t,u,true⟩::r) st K=(preD t u d none st/\qqh P t u ⟨d,none,.ext x i⟩ r st K):=by rw[qqj _ _ _ _ _ _ _ _ rfl];simp[qcK,srcS]
@[push_cast] theorem qqD:dsK P (⟨⟨d,none,.nck x⟩,t,u,true⟩::r) st K=(preD t u d none st/\qqh P t u ⟨d,none,.nck x⟩ r st K):=by rw[qqj _ _ _ _ _ _ _ _ rfl];simp[qcK,srcS]
@[push_cast] theorem qqE(zero:List PV):dsK P (⟨⟨d,none,.alc zero⟩,t,u,true⟩::r) st K=(preD t u d none st/\qqh P t u ⟨d,none,.alc zero⟩ r st K):=by rw[qqj _ _ _ _ _ _ _ _ rfl];simp[qcK,srcS]
@[push_cast] theorem qqF:dsK P (⟨⟨d,none,.box x⟩,t,u,true⟩::r) st K=(preD t u d none st/\qqh P t u ⟨d,none,.box x⟩ r st K):=by rw[qqj _ _ _ _ _ _ _ _ rfl];simp[qcK,srcS]
@[push_cast] theorem qqG(es ty by_:Nat)(zero:List PV):dsK P (⟨⟨d,none,.mks es ty by_ zero x y⟩,t,u,true⟩::r) st K=(preD t u d none st/\qqh P t u ⟨d,none,.mks es ty by_ zero x y⟩ r st K):=by rw[qqj _ _ _ _ _ _ _ _ rfl];simp[qcK,srcS]
@[push_cast] theorem qqH(es ty:Nat)(zero:List PV)(n:Nat)(parts:List (Nat×Opd)):dsK P (⟨⟨d,none,.bsl es ty zero n parts⟩,t,u,true⟩::r) st K=(preD t u d none st/\nvP st parts=true/\qqh P t u ⟨d,none,.bsl es ty zero n parts⟩ r st K):=by rw[qqj _ _ _ _ _ _ _ _ rfl];simp only[qcK,srcS,qqa]
@[push_cast] theorem qqI(sz:Nat):dsK P (⟨⟨d,none,.sto sz x y⟩,t,u,true⟩::r) st K=(preD t u d none st/\(nvL (cellsOf (y.ev st))=true/\stoT u (x.ev st)=true)/\qqh P t u ⟨d,none,.sto sz x y⟩ r st K):=by rw[qqj _ _ _ _ _ _ _ _ rfl];simp only[qcK,srcS,qq0]
def srcT:Opd->Option Nat
 | .t s=>some s
 | .c _=>none
@[push_cast] theorem qqJ(s:Nat):srcT (.t s)=some s:=rfl
@[push_cast] theorem qqK(p:PV):srcT (.c p)=none:=rfl
@[push_cast] theorem qqL(es ty by_:Nat):dsK P (⟨⟨d,none,.app es ty by_ x y⟩,t,u,true⟩::r) st K=(preD t u d (srcT x) st/\appS t (x.ev st)=true/\qqh P t u ⟨d,none,.app es ty by_ x y⟩ r st K):=by
 rw[qqj _ _ _ _ _ _ _ _ rfl]
 have h1:srcS (.app es ty by_ x y)=srcT x:=by cases x<;>rfl
 have h2:qcK st t u (.app es ty by_ x y)=(appS t (x.ev st)=true):=by
  simp only[qcK]
  cases x.ev st<;>simp[appS]
 rw[h1,h2]
@[push_cast] theorem qqM(es:Nat):dsK P (⟨⟨d,none,.cpy es x y⟩,t,u,true⟩::r) st K=(preD t u d none st/\qqh P t u ⟨d,none,.cpy es x y⟩ r st K):=by rw[qqj _ _ _ _ _ _ _ _ rfl];simp[qcK,srcS]
def qqN(P:Env)(u:List Nat)(d:Option Nat)(f:Nat)(args:List PV)(r:List DO)(st:St)(K:St->Prop):Prop:=
 ∃post,FnOK P.p f args post/\(∃v,post v)/\ ∀v,post v->refU u v=false/\dsK P r (st.put d v) K
@[congr] theorem qqO{P:Env}{u:List Nat}{d:Option Nat}{f:Nat}{args args' :List PV}{r:List DO}{st st' :St}{K:St->Prop}(h1:args=args')(h2:st=st'):qqN P u d f args r st K=qqN P u d f args' r st' K:=by rw[h1,h2]
@[push_cast] theorem qqP(f:Nat)(args:List Opd):dsK P (⟨⟨d,none,.cal f args⟩,t,u,true⟩::r) st K=(preD t u d none st/\qqN P u d f (qoG st args) r st K):=by
 simp only[dsK,dopG,if_true,grdK,dopK,calD,qqN,qoJ,qcL,preD,srcS,qpR]
def qqQ(P:Env)(u:List Nat)(d:Option Nat)(v:PV)(args:List PV)(r:List DO)(st:St)(K:St->Prop):Prop:=
 match v with| .sc (.func (.func f) _ _)=>qcG P.p f=true/\qqN P u d f args r st K|_=>False
@[congr] theorem qqR{P:Env}{u:List Nat}{d:Option Nat}{v v' :PV}{args args' :List PV}{r:List DO}{st st' :St}{K:St->Prop}(h0:v=v')(h1:args=args')(h2:st=st'):qqQ P u d v args r st K=qqQ P u d v' args' r st' K:=by rw[h0,h1,h2]
@[push_cast] theorem qqS(y:Opd)(args:List Opd):dsK P (⟨⟨d,none,.clv y args⟩,t,u,true⟩::r) st K=(preD t u d none st/\qqQ P u d (y.ev st) (qoG st args) r st K):=by
 simp only[dsK,dopG,if_true,grdK,dopK,calD,qqQ,qqN,qoJ,qcL,preD,srcS,qpR]
 generalize y.ev st=v
 cases v with
 | sc x => cases x with
   |func c a b=>cases c<;>simp[and_assoc]
   |_=>simp
 |_=>simp
@[push_cast] theorem qqT(f:Nat)(a b:Array Value)(args:List PV):qqQ P u d (.sc (.func (.func f) a b)) args r st K=(qcG P.p f=true/\qqN P u d f args r st K):=rfl
end
theorem qqU{P:Env}{u:List Nat}{d:Option Nat}{f:Nat}{args:List PV}{r:List DO}{st:St}{K:St->Prop}{v:PV}(hc:FnEq P.p f args v)(hu:refU u v=false)(h:dsK P r (st.put d v) K):qqN P u d f args r st K:=
 ⟨_,hc,⟨v,rfl⟩,fun w hw=>by subst hw;exact⟨hu,h⟩⟩
section
variable {P:Env} {t u:List Nat} {d:Option Nat} {s:Nat} {op:AOp} {r:List DO} {sl:List (Nat×PV)} {bx:List (Nat×List PV)} {ar:List (Nat×Arr)} {mm:List (Nat×Mp)} {K:St->Prop}
theorem qqW (b : Bool) {w : Bool} (h : getL sl s = .sc (.bool b)) :
  dsK P (⟨⟨d,some (s,w),op⟩,t,u,true⟩::r) ⟨sl,bx,ar,mm⟩ K=(preD t u d (srcS op) ⟨sl,bx,ar,mm⟩/\(b=w->dopK P ⟨⟨d,some (s,w),op⟩,t,u,true⟩ ⟨sl,bx,ar,mm⟩ (fun st' =>dsK P r st' K))/\(b≠w->dsK P r ((⟨sl,bx,ar,mm⟩:St).put d (.tup [])) K)):=by
 have hg:(⟨sl,bx,ar,mm⟩:St).get s= .sc (.bool b):=by rw[qhe];exact h
 have e1:qcL ⟨⟨d,some (s,w),op⟩,t,u,true⟩ ⟨sl,bx,ar,mm⟩=preD t u d (srcS op) ⟨sl,bx,ar,mm⟩:=by simp only[qcL,preD,qpR]
 simp only[dsK,dopG,if_true,e1,grdK,hg]
theorem qqX(w:Bool)(st:St)(K:St->Prop):dopK P ⟨⟨d,some (s,w),op⟩,t,u,true⟩ st K=dopK P ⟨⟨d,none,op⟩,t,u,true⟩ st K:=by
 unfold dopK
 cases op<;>rfl
theorem qqY(st:St):dsK P (⟨⟨d,none,op⟩,t,u,true⟩::r) st K=(preD t u d (srcS op) st/\dopK P ⟨⟨d,none,op⟩,t,u,true⟩ st (fun st' =>dsK P r st' K)):=by
 have e1:qcL ⟨⟨d,none,op⟩,t,u,true⟩ st=preD t u d (srcS op) st:=by simp only[qcL,preD,qpR]
 simp only[dsK,dopG,if_true,grdK,e1]
@[push_cast] theorem qqZ(h:getL sl s= .sc (.bool true)):dsK P (⟨⟨d,some (s,true),op⟩,t,u,true⟩::r) ⟨sl,bx,ar,mm⟩ K=dsK P (⟨⟨d,none,op⟩,t,u,true⟩::r) ⟨sl,bx,ar,mm⟩ K:=by
 rw[qqW true h,qqY,qqX];simp
@[push_cast] theorem qr0(h:getL sl s= .sc (.bool false)):dsK P (⟨⟨d,some (s,false),op⟩,t,u,true⟩::r) ⟨sl,bx,ar,mm⟩ K=dsK P (⟨⟨d,none,op⟩,t,u,true⟩::r) ⟨sl,bx,ar,mm⟩ K:=by
 rw[qqW false h,qqY,qqX];simp
@[push_cast] theorem qr1(h:getL sl s= .sc (.bool false)):dsK P (⟨⟨d,some (s,true),op⟩,t,u,true⟩::r) ⟨sl,bx,ar,mm⟩ K=(preD t u d (srcS op) ⟨sl,bx,ar,mm⟩/\dsK P r ((⟨sl,bx,ar,mm⟩:St).put d (.tup [])) K):=by
 rw[qqW false h];simp
@[push_cast] theorem qr2(h:getL sl s= .sc (.bool true)):dsK P (⟨⟨d,some (s,false),op⟩,t,u,true⟩::r) ⟨sl,bx,ar,mm⟩ K=(preD t u d (srcS op) ⟨sl,bx,ar,mm⟩/\dsK P r ((⟨sl,bx,ar,mm⟩:St).put d (.tup [])) K):=by
 rw[qqW true h];simp
@[push_cast] theorem qr3{w:Bool}(h:getL sl s= .tup []):dsK P (⟨⟨d,some (s,w),op⟩,t,u,true⟩::r) ⟨sl,bx,ar,mm⟩ K=(preD t u d (srcS op) ⟨sl,bx,ar,mm⟩/\dsK P r ((⟨sl,bx,ar,mm⟩:St).put d (.tup [])) K):=by
 have hg:(⟨sl,bx,ar,mm⟩:St).get s= .tup []:=by rw[qhe];exact h
 have e1:qcL ⟨⟨d,some (s,w),op⟩,t,u,true⟩ ⟨sl,bx,ar,mm⟩=preD t u d (srcS op) ⟨sl,bx,ar,mm⟩:=by simp only[qcL,preD,qpR]
 simp only[dsK,dopG,if_true,e1,grdK,hg]
theorem qr4 {want : Bool} (b : Bool) (h : getL sl s = .sc (.bool b)) (h1 : b = want -> dsK P (⟨⟨d, none, op⟩, t, u, true⟩ :: r) ⟨rp sl s (.sc (.bool want)), bx, ar, mm⟩ K)
  (h2:b= !want->preD t u d (srcS op) ⟨rp sl s (.sc (.bool !want)),bx,ar,mm⟩/\dsK P r ((⟨rp sl s (.sc (.bool !want)),bx,ar,mm⟩:St).put d (.tup [])) K):dsK P (⟨⟨d,some (s,want),op⟩,t,u,true⟩::r) ⟨sl,bx,ar,mm⟩ K:=by
 have hup:=fun c (hc:getL sl s=c)=>qo1 sl s c hc
 rw[qqW b h]
 by_cases e:b=want
 ·have:=h1 e
  subst e
  rw[hup _ h,qqY]at this
  exact⟨this.1,fun _=>by rw[qqX];exact this.2,fun h=>absurd rfl h⟩
 ·have e' :b= !want:=by cases b<;>cases want<;>simp_all
  have:=h2 e'
  rw[<- e',hup _ h]at this
  exact⟨this.1,fun h=>absurd h e,fun _=>this.2⟩
end
section
variable (P:Env) (Q:Exit->St->Prop) (st:St)
@[push_cast] theorem qr5(ts:List Nat)(c:AC):awp P (.frz ts c) Q st=awp P c Q (qcO st ts):=rfl
@[push_cast] theorem qr6:qcO st []=st:=rfl
@[push_cast] theorem qr7(t:Nat)(r:List Nat):qcO st (t::r)=qcO (st.frzs (cellsOf (st.get t))) r:=rfl
@[push_cast] theorem qr8(ks:List Nat)(c:AC):awp P (.cut ks c) Q st=awp P c Q (st.keepS ks):=rfl
theorem qr9{P:Env}{Q:Exit->St->Prop}{st:St}{c:AC}(st0:St)(h:SWk st st0)(h2:awp P c Q st0):awp P (.wk c) Q st:=⟨st0,h,h2⟩
end
@[push_cast] theorem sub_self(c:PV):Sub c c ↔ True:=⟨fun _=>trivial,fun _=> .refl c⟩
@[push_cast] theorem qrb(c:PV):Sub c .bot ↔ True:=⟨fun _=>trivial,fun _=> .bot c⟩
@[push_cast] theorem qrc:SubL [] [] ↔ True:=Iff.rfl
@[push_cast] theorem qrd(c d:PV)(cs ds:List PV):SubL (c::cs) (d::ds) ↔ (Sub c d/\SubL cs ds):=Iff.rfl
@[push_cast] theorem qre(cs:List PV):SubL cs cs ↔ True:=⟨fun _=>trivial,fun _=>SubL.rfl' cs⟩
theorem qrf: ∀ {cs ds:List PV},cs.length=ds.length->(∀(j:Nat) (c d:PV),cs[j]? =some c->ds[j]? =some d->Sub c d)->SubL cs ds
 |[],[],_,_=>trivial
 |c::cs,d::ds,hl,h=>⟨h 0 c d rfl rfl,qrf (by simpa using hl) fun j c' d' h1 h2=>h (j+1) c' d' (by simpa using h1) (by simpa using h2)⟩
@[push_cast] theorem qrg(cs ds:List PV):Sub (.agg cs) (.agg ds) ↔ SubL cs ds:=
 ⟨fun h=>by cases h with|refl=>exact SubL.rfl' _|agg _ _ h1 h2=>exact qrf h1 h2,Sub.aggL⟩
@[push_cast] theorem qrh(cs ds:List PV):Sub (.tup cs) (.tup ds) ↔ SubL cs ds:=
 ⟨fun h=>by cases h with|refl=>exact SubL.rfl' _|tup _ _ h1 h2=>exact qrf h1 h2,Sub.tupL⟩
@[push_cast] theorem qri(p:Bool)(es:Nat)(xs:List (List PV)):Sub (.sl p es xs) (.sl false es xs) ↔ True:=⟨fun _=>trivial,fun _=>Sub.slp p es xs false (fun h=>by cases h)⟩
@[push_cast] theorem qrj(q:Bool)(es:Nat)(xs:List (List PV)):Sub (.sl true es xs) (.sl q es xs) ↔ True:=⟨fun _=>trivial,fun _=>Sub.slp true es xs q (fun _=>rfl)⟩
@[push_cast] theorem qrk(p:Bool)(es:Nat)(xs:List (List PV)):Sub .nil (.sl p es xs) ↔ xs=[]:=⟨fun h=>by cases h;rfl,fun h=>by subst h;exact .nil p es⟩
@[push_cast] theorem qrl(a b:Value):Sub (.sc a) (.sc b) ↔ a=b:=⟨fun h=>by cases h;rfl,fun h=>by subst h;exact .refl _⟩
@[push_cast] theorem qrm{α:Type}(f:α->List PV)(l:List α):rows f l=[] ↔ l=[]:=by simp[rows]
@[push_cast] theorem qrn(s s' :List (Nat×PV))(b b' :List (Nat×List PV))(a a' :List (Nat×Arr))(m m' :List (Nat×Mp)):Wk ⟨s,b,a,m⟩ ⟨s',b',a',m'⟩ ↔ (WkS s s' /\WkB b b' /\WkA a a' /\m' =m):=Iff.rfl
@[push_cast] theorem qro:WkS [] [] ↔ True:=Iff.rfl
@[push_cast] theorem qrp(i j:Nat)(c d:PV)(s t:List (Nat×PV)):WkS ((i,c)::s) ((j,d)::t) ↔ (i=j/\Sub c d/\WkS s t):=Iff.rfl
@[push_cast] theorem qrq:WkB [] [] ↔ True:=Iff.rfl
@[push_cast] theorem qrr(i j:Nat)(c d:List PV)(s t:List (Nat×List PV)):WkB ((i,c)::s) ((j,d)::t) ↔ (i=j/\SubL c d/\WkB s t):=Iff.rfl
@[push_cast] theorem qrs:WkA [] [] ↔ True:=Iff.rfl
@[push_cast] theorem qrt(i j e e' y y' :Nat)(c d:List (List PV))(s t:List (Nat×Arr)):WkA ((i,⟨e,y,c⟩)::s) ((j,⟨e',y',d⟩)::t) ↔ ((i=j/\e' =e/\y' =y)/\SubR c d/\WkA s t):=Iff.rfl
@[push_cast] theorem qru(cs:List (List PV)):SubR cs cs ↔ True:=⟨fun _=>trivial,fun _=>SubR.rfl' cs⟩
theorem qrv{P:Env}{d:Option Nat}{f:Nat}{args args' :List PV}{r:List AO}{st:St}{K:St->Prop}{v:PV}(hc:FnEq P.p f args' v)(hs:SubL args args')(h:opsK P r (st.put d v) K):calK P d f args r st K:=qoM (FnOK.sub hc hs) h
theorem qrx{P:Env}{u:List Nat}{d:Option Nat}{f:Nat}{args args' :List PV}{r:List DO}{st:St}{K:St->Prop}{v:PV}(hc:FnEq P.p f args' v)(hs:SubL args args')(hu:refU u v=false)(h:dsK P r (st.put d v) K):qqN P u d f args r st K:=
 qqU (FnOK.sub hc hs) hu h
@[push_cast] theorem qry(es ty by_ s:Nat)(y:Opd):srcS (.app es ty by_ (.t s) y)=some s:=rfl
end Go.Vc
namespace Go.Vc
open Go Go.RowKit
section
variable {P:Env} {d:Option Nat} {s:Nat} {op:AOp} {r:List AO} {sl:List (Nat×PV)} {bx:List (Nat×List PV)} {ar:List (Nat×Arr)} {mm:List (Nat×Mp)} {K:St->Prop} {p:Prop} [Decidable p]
theorem qrz (h : getL sl s = .sc (.bool (decide p))) (h1 : p -> opsK P (⟨d, none, op⟩ :: r) ⟨rp sl s (.sc (.bool true)), bx, ar, mm⟩ K) (h2 : ¬ p -> opsK P r ((⟨rp sl s (.sc (.bool false)), bx, ar, mm⟩ : St).put d (.tup [])) K) :
  opsK P (⟨d,some (s,true),op⟩::r) ⟨sl,bx,ar,mm⟩ K:=qo2 (decide p) h (fun e=>h1 (of_decide_eq_true e)) (fun e=>h2 (of_decide_eq_false e))
theorem qrA (h : getL sl s = .sc (.bool (decide p))) (h1 : p -> opsK P r ((⟨rp sl s (.sc (.bool true)), bx, ar, mm⟩ : St).put d (.tup [])) K) (h2 : ¬ p -> opsK P (⟨d, none, op⟩ :: r) ⟨rp sl s (.sc (.bool false)), bx, ar, mm⟩ K) :
  opsK P (⟨d,some (s,false),op⟩::r) ⟨sl,bx,ar,mm⟩ K:=qo2 (decide p) h (fun e=>h2 (of_decide_eq_false e)) (fun e=>h1 (of_decide_eq_true e))
theorem qrB {b : Bool} (h : getL sl s = .sc (.bool b)) (h1 : b = true -> opsK P (⟨d, none, op⟩ :: r) ⟨rp sl s (.sc (.bool true)), bx, ar, mm⟩ K) (h2 : b = false -> opsK P r ((⟨rp sl s (.sc (.bool false)), bx, ar, mm⟩ : St).put d (.tup [])) K) :
  opsK P (⟨d,some (s,true),op⟩::r) ⟨sl,bx,ar,mm⟩ K:=qo2 b h h1 h2
theorem qrC {b : Bool} (h : getL sl s = .sc (.bool b)) (h1 : b = true -> opsK P r ((⟨rp sl s (.sc (.bool true)), bx, ar, mm⟩ : St).put d (.tup [])) K) (h2 : b = false -> opsK P (⟨d, none, op⟩ :: r) ⟨rp sl s (.sc (.bool false)), bx, ar, mm⟩ K) :
  opsK P (⟨d,some (s,false),op⟩::r) ⟨sl,bx,ar,mm⟩ K:=qo2 b h h2 h1
end
section
variable {P:Env} {t u:List Nat} {d:Option Nat} {s:Nat} {op:AOp} {r:List DO} {sl:List (Nat×PV)} {bx:List (Nat×List PV)} {ar:List (Nat×Arr)} {mm:List (Nat×Mp)} {K:St->Prop} {p:Prop} [Decidable p]
theorem qrD (h : getL sl s = .sc (.bool (decide p))) (h1 : p -> dsK P (⟨⟨d, none, op⟩, t, u, true⟩ :: r) ⟨rp sl s (.sc (.bool true)), bx, ar, mm⟩ K)
  (h2: ¬p->preD t u d (srcS op) ⟨rp sl s (.sc (.bool false)),bx,ar,mm⟩/\dsK P r ((⟨rp sl s (.sc (.bool false)),bx,ar,mm⟩:St).put d (.tup [])) K):dsK P (⟨⟨d,some (s,true),op⟩,t,u,true⟩::r) ⟨sl,bx,ar,mm⟩ K:=
 qr4 (decide p) h (fun e=>h1 (of_decide_eq_true e)) (fun e=>h2 (of_decide_eq_false e))
theorem qrE (h : getL sl s = .sc (.bool (decide p))) (h1 : p -> preD t u d (srcS op) ⟨rp sl s (.sc (.bool true)), bx, ar, mm⟩ /\ dsK P r ((⟨rp sl s (.sc (.bool true)), bx, ar, mm⟩ : St).put d (.tup [])) K)
  (h2: ¬p->dsK P (⟨⟨d,none,op⟩,t,u,true⟩::r) ⟨rp sl s (.sc (.bool false)),bx,ar,mm⟩ K):dsK P (⟨⟨d,some (s,false),op⟩,t,u,true⟩::r) ⟨sl,bx,ar,mm⟩ K:=
 qr4 (decide p) h (fun e=>h2 (of_decide_eq_false e)) (fun e=>h1 (of_decide_eq_true e))
end
theorem qrH{P:Env}{ops:List AO}{st:St}{ks:List Nat}{c:AC}{Q:Exit->St->Prop}(st1:St)(h1:opsK P ops st (fun st' =>st'.keepS ks=st1))(h2:awp P c Q st1):opsK P ops st (fun st' =>awp P (.cut ks c) Q st'):=by
 have mono: ∀(l:List AO) (st:St) (K K' :St->Prop),(∀s,K s->K' s)->opsK P l st K->opsK P l st K' :=by
  intro l
  induction l with
  |nil=>exact fun st K K' h hk=>h st hk
  |cons o r ih=>exact fun st K K' h hk=>qfH (qfG fun s hs=>ih s K K' h hs) (ih _ K K' h) hk
 exact mono ops st _ _ (fun s hs=>by show awp P c Q (s.keepS ks);rw[hs];exact h2) h1
theorem qrI{P:Env}{ops:List DO}{st:St}{ks:List Nat}{c:AC}{Q:Exit->St->Prop}(st1:St)(h1:dsK P ops st (fun st' =>st'.keepS ks=st1))(h2:awp P c Q st1):dsK P ops st (fun st' =>awp P (.cut ks c) Q st'):=by
 have dop: ∀(x:DO) (st:St) (K K' :St->Prop),(∀s,K s->K' s)->dopG P x st K->dopG P x st K' :=by
  intro x st K K' h hk
  unfold dopG at hk ⊢
  split
  ·rename_i hs
   rw[if_pos hs]at hk
   refine⟨hk.1,qfH (fun hd=> ?_) (h _) hk.2⟩
   unfold dopK at hd ⊢
   split
   ·rename_i hop
    rw[hop]at hd
    obtain⟨post,a,b,c⟩:=hd
    exact⟨post,a,b,fun r hr=>⟨(c r hr).1,h _ (c r hr).2⟩⟩
   ·rename_i hop
    rw[hop]at hd
    simp only at hd ⊢
    split at hd
    ·obtain⟨h0,post,a,b,c⟩:=hd
     exact⟨h0,post,a,b,fun r hr=>⟨(c r hr).1,h _ (c r hr).2⟩⟩
    ·exact hd.elim
   ·rename_i hop hop3
    have hd:qcK st x.t x.u x.o.op/\opK P x.o st (fun st' =>qcM x st' /\K st'):=by
     split at hd
     ·rename_i hop2;exact absurd hop2 (hop _ _)
     ·rename_i hop2;exact absurd hop2 (hop3 _ _)
     ·exact hd
    exact⟨hd.1,qfG (fun s hs=>⟨hs.1,h s hs.2⟩) hd.2⟩
  ·rename_i hs
   rw[if_neg hs]at hk
   exact qfH (qfG h) (h _) hk
 have mono: ∀(l:List DO) (st:St) (K K' :St->Prop),(∀s,K s->K' s)->dsK P l st K->dsK P l st K' :=by
  intro l
  induction l with
  |nil=>exact fun st K K' h hk=>h st hk
  |cons o r ih=>exact fun st K K' h hk=>dop o st _ _ (fun s hs=>ih s K K' h hs) hk
 exact mono ops st _ _ (fun s hs=>by show awp P c Q (s.keepS ks);rw[hs];exact h2) h1
end Go.Vc
namespace Go.Vc
open Go Go.RowKit
inductive Ty where
 |b
 |i (k:IntKind)
 |sl (es:Nat) (ts:List Ty)
def qrL(P:Program):Nat->TypeId->List Ty->Bool
 |0,_,_=>false
 | n + 1, t, ts => match P.underlying t with
   |some .bool=>(match ts with|[.b]=>true|_=>false)
   |some (.int k)=>(match ts with|[.i k']=>k==k' |_=>false)
   |some (.slice e)=>(match ts with|[.sl es us]=>us.length==es&&P.cellsOf e==es&&decide (0<es)&&qrL P n e us|_=>false)
   | some (.struct fs) => fs.toList.all (fun f => qrL P n f.type ((ts.drop f.offset).take (P.cellsOf f.type))) && ts.length == P.cellsOf t &&
     (List.range ts.length).all fun j=>fs.toList.any fun f=>decide (f.offset<=j)&&decide (j<f.offset+P.cellsOf f.type)
   | some (.array m e) => (List.range m).all (fun i => qrL P n e ((ts.drop (i * P.cellsOf e)).take (P.cellsOf e))) && ts.length == P.cellsOf t &&
     (List.range ts.length).all fun j=>(List.range m).any fun i=>decide (i*P.cellsOf e<=j)&&decide (j<i*P.cellsOf e+P.cellsOf e)
   |_=>false
inductive CellB (B:Nat):Ty->PV->Prop
 |b (x):CellB B .b (.sc (.bool x))
 |i (k n):k.min<=n->n<=k.max->CellB B (.i k) (.sc (.int k n))
 |sl (es ts) (rows:List (List PV)):rows.length<=B->(∀r∈rows,r.length=ts.length)->(∀r∈rows,∀(j:Nat) (t:Ty) (c:PV),ts[j]? =some t->r[j]? =some c->CellB B t c)->CellB B (.sl es ts) (.sl true es rows)
abbrev qrM:Ty->PV->Prop:=CellB maxLen
structure Meas {H:Type} (μ:DataW H->Nat):Prop where
 len: ∀l r,l.length<=μ (.slice l r)
 el: ∀l r,∀e∈l,μ e<=μ (.slice l r)
 agg: ∀l,∀e∈l,μ e<=μ (.agg l)
def Fits{H:Type}(B:Nat)(d:DataW H):Prop:=maxLen<=B\/ ∃μ:DataW H->Nat,Meas μ/\μ d<=B
theorem Fits.agg{H:Type}{B:Nat}{l:List (DataW H)}{e:DataW H}(h:Fits B (.agg l))(he:e∈l):Fits B e:=h.imp _root_.id fun⟨μ,h1,h2⟩=>⟨μ,h1,Nat.le_trans (h1.agg l e he) h2⟩
theorem Fits.el{H:Type}{B:Nat}{l r:List (DataW H)}{e:DataW H}(h:Fits B (.slice l r))(he:e∈l):Fits B e:=h.imp _root_.id fun⟨μ,h1,h2⟩=>⟨μ,h1,Nat.le_trans (h1.el l r e he) h2⟩
theorem Fits.len{H:Type}{B:Nat}{l r:List (DataW H)}(h:Fits B (.slice l r))(hl:l.length<=maxLen):l.length<=B:=by
 rcases h with h|⟨μ,h1,h2⟩
 ·omega
 ·have:=h1.len l r;omega
theorem qrN{α β:Type}{f:α->Option β} : ∀ {l:List α} {r:List β},l.mapM f=some r->r.length=l.length
 |[],r,h=>by simp at h;subst h;rfl
 | a :: l, r, h => by
   rw[List.mapM_cons]at h
   cases ha:f a with
   |none=>rw[ha]at h;cases h
   |some y=>
     rw[ha]at h
     cases hl:l.mapM f with
     |none=>rw[hl]at h;cases h
     |some ys=>
       rw[hl]at h
       cases h
       simp[qrN hl]
theorem qrO{α β:Type}{f:α->Option β} : ∀ {l:List α} {r:List β},l.mapM f=some r-> ∀x∈l,∃y∈r,f x=some y
 |[],_,_,x,hx=>by cases hx
 | a :: l, r, h, x, hx => by
   rw[List.mapM_cons]at h
   cases ha:f a with
   |none=>rw[ha]at h;cases h
   |some y=>
     rw[ha]at h
     cases hl:l.mapM f with
     |none=>rw[hl]at h;cases h
     |some ys=>
       rw[hl]at h
       cases h
       rcases List.mem_cons.1 hx with rfl|hx
       ·exact⟨y,by simp,ha⟩
       ·obtain⟨z,h1,h2⟩:=qrO hl x hx
        exact⟨z,by simp[h1],h2⟩
theorem qrP{α:Type}{Q:Nat->α->Prop} : ∀n:Nat,(∀j,j<n-> ∃c,Q j c)-> ∃l:List α,l.length=n/\ ∀j c,l[j]? =some c->Q j c
 |0,_=>⟨[],rfl,fun j c h=>by simp at h⟩
 | n + 1, h => by
   obtain⟨l,h1,h2⟩:=qrP n fun j hj=>h j (by omega)
   obtain⟨c,hc⟩:=h n (by omega)
   refine⟨l++[c],by simp[h1],fun j c' hj=> ?_⟩
   by_cases hjn:j<l.length
   ·rw[yA hjn]at hj;exact h2 j c' hj
   ·rw[yB (by omega)]at hj
    have:j-l.length=0:=by
     have:=(zM.1 hj).1
     simp at this;omega
    rw[this]at hj
    simp at hj
    subst hj
    have:j=n:=by omega
    rw[this];exact hc
theorem qrQ(a:Addr)(m n:Nat):(a.add m).add n=a.add (m+n):=by
 unfold Addr.add
 by_cases hm:m=0
 ·subst hm;simp
 ·by_cases hn:n=0
  ·subst hn;simp
  ·simp[hm,hn,show m+n≠0 by omega,Nat.add_assoc]
def ZW(w:World):Zone:=fun _ b=>b<w.heap.size
section
variable {H:Type} {enc:TypeId×Value->H} {P:Program} {w:World} {sp:Nat->Bool} {hd:Bool}
theorem qrT {B : Nat} : ∀ (n fuel : Nat) (t : TypeId) (ts : List Ty) (cs : List Value) (x : DataW H × List MemPlace), qrL P n t ts = true -> Fits B x.1 -> DataW.trod enc P w 0 sp hd fuel t cs = some x ->
  cs.length=ts.length/\ ∀(j:Nat) (t' :Ty),ts[j]? =some t' -> ∃(c:PV) (v:Value),cs[j]? =some v/\CellB B t' c/\TR w (ZW w) c v/\v.oneCell' =true:=by
 intro n
 induction n with
 |zero=>intro fuel t ts cs x h;simp[qrL]at h
 |succ n ih=>
   intro fuel t ts cs x h hB hx
   cases fuel with
   |zero=>simp[DataW.trod]at hx
   |succ fuel=>
     unfold qrL at h
     unfold DataW.trod at hx
     split at h
     ·rename_i hu
      rw[hu]at hx
      split at h
      ·split at hx<;>first|(cases hx;done)|skip
       all_goals first
        |(rename_i h1;cases h1;done)
        |skip
       rename_i b _
       refine⟨rfl,fun j t' hj=> ?_⟩
       cases j with
       |zero=>simp at hj;subst hj;exact⟨.sc (.bool b),.bool b,rfl,.b b,.sc _ rfl,rfl⟩
       |succ j=>simp at hj
      ·cases h
     ·rename_i k hu
      rw[hu]at hx
      split at h
      ·rename_i k'
       have hk:k=k' :=by cases k<;>cases k' <;>first|rfl|(cases h;done)
       subst hk
       split at hx<;>first|(cases hx;done)|skip
       all_goals first
        |(rename_i h1;cases h1;done)
        |skip
       rename_i k2 k1 m h1
       cases h1
       split at hx
       ·rename_i hh
        obtain⟨rfl,hw⟩:=hh
        simp only[Lit.wf,zN,decide_eq_true_eq]at hw
        refine⟨rfl,fun j t' hj=> ?_⟩
        cases j with
        |zero=>simp at hj;subst hj;exact⟨.sc (.int _ m),.int _ m,rfl,.i _ m hw.1 hw.2,.sc _ rfl,rfl⟩
        |succ j=>simp at hj
       ·cases hx
      ·cases h
     ·rename_i e hu
      rw[hu]at hx
      split at h
      ·rename_i es us
       simp only[zN,beq_iff_eq,decide_eq_true_eq]at h
       obtain⟨⟨⟨h1,h2⟩,h3⟩,h4⟩:=h
       rcases cs with _|⟨v,_|⟨v2,r⟩⟩
       ·cases hx
       ·have nilCase : ∀ (p : Option Addr) (cap : Nat), cap <= maxLen -> ([Value.slice p 0 cap] : List Value).length = [Ty.sl es us].length /\ ∀ (j : Nat) (t' : Ty), [Ty.sl es us][j]? = some t' -> ∃ (c : PV) (v' : Value), [Value.slice p 0 cap][j]? = some v' /\ CellB B t' c /\ TR w (ZW w) c v' /\ v'.oneCell' = true := fun p cap hcap => by
         refine⟨rfl,fun j t' hj=> ?_⟩
         cases j with
         |zero=>
           simp at hj;subst hj
           exact⟨.sl true es [],_,rfl,.sl es us [] (Nat.zero_le _) (fun r hr=>by cases hr) (fun r hr=>by cases hr),.sl0 true es p cap hcap,rfl⟩
         |succ j=>simp at hj
        cases v<;>first|(cases hx;done)|skip
        rename_i p len cap
        cases p with
        |none=>
          cases len with
          | zero => cases cap with
            |zero=>exact nilCase none 0 (Nat.zero_le _)
            |succ c=>cases hx
          |succ l=>cases hx
        |some ad=>
          simp only at hx
          split at hx
          ·rename_i hb
           obtain⟨_,hlc,hcm⟩:=hb
           cases hm:(List.range len).mapM (fun i=>(w.cells? 0 (ad.add (i*P.cellsOf e)) (P.cellsOf e)).bind (DataW.trod enc P w 0 sp hd fuel e))with
           |none=>rw[hm]at hx;cases hx
           |some elems=>
             have hxs: ∃r,x.1= .slice (elems.map (·.1)) r:=by
              rw[hm]at hx
              obtain⟨rest,_,hx⟩:=zR.1 hx
              exact⟨_,by rw[<- hx]⟩
             obtain⟨rest,hxs⟩:=hxs
             rw[hxs]at hB
             have hel:=qrN hm
             rw[List.length_range]at hel
             have hlB:len<=B:=by
              have:=hB.len (by rw[yG];omega)
              rw[yG]at this
              omega
             clear hx
             by_cases hl0:len=0
             ·subst hl0;exact nilCase (some ad) cap hcm
             have row: ∀i,i<len-> ∃rr:List PV,rr.length=es/\ ∀(j:Nat) (c:PV),rr[j]? =some c-> ∃v',w.cell? (ad.add (i*es+j))=some v' /\(∀t',us[j]? =some t' ->CellB B t' c)/\TR w (ZW w) c v' /\v'.oneCell' =true:=fun i hi=>by
              obtain⟨y,hye,hy⟩:=qrO hm i (List.mem_range.2 hi)
              cases hc:w.cells? 0 (ad.add (i*P.cellsOf e)) (P.cellsOf e)with
              |none=>rw[hc]at hy;cases hy
              |some cs' =>
                rw[hc]at hy
                have hy:DataW.trod enc P w 0 sp hd fuel e cs' =some y:=hy
                obtain⟨g1,g2⟩:=ih fuel e us cs' y h4 (hB.el (List.mem_map_of_mem hye)) hy
                rw[h2]at hc
                obtain⟨_,hlen,hat⟩:=World.cells?_some hc
                refine qrP (Q:=fun j c=> ∃v',w.cell? (ad.add (i*es+j))=some v' /\(∀t',us[j]? =some t' ->CellB B t' c)/\TR w (ZW w) c v' /\v'.oneCell' =true) es fun j hj=> ?_
                obtain⟨c,v',q1,q2,q3,q4⟩:=g2 j us[j] (zL (by omega))
                refine⟨c,v',?_,fun t' ht' => ?_,q3,q4⟩
                ·rw[<- qrQ,hat j hj];exact q1
                ·rw[zL (by omega)]at ht';cases ht';exact q2
             obtain⟨rows,hr1,hr2⟩:=qrP (Q:=fun i (rr:List PV)=>rr.length=es/\ ∀(j:Nat) (c:PV),rr[j]? =some c-> ∃v',w.cell? (ad.add (i*es+j))=some v' /\(∀t',us[j]? =some t' ->CellB B t' c)/\TR w (ZW w) c v' /\v'.oneCell' =true) len row
             have hrow: ∀r∈rows,∃i,i<len/\rows[i]? =some r:=fun r hr=>by
              obtain⟨i,hi,rfl⟩:=List.getElem_of_mem hr
              exact⟨i,by omega,zL hi⟩
             have hspot:ad.spot=none/\ad.block<w.heap.size:=by
              obtain⟨r0,hr0⟩: ∃r0,rows[0]? =some r0:=⟨rows[0],zL (by omega)⟩
              obtain⟨e1,e2⟩:=hr2 0 r0 hr0
              obtain⟨v',e3,_⟩:=e2 0 r0[0] (zL (by omega))
              simp only[Nat.zero_mul,Nat.zero_add,Addr.add,if_true]at e3
              unfold World.cell? at e3
              split at e3
              ·rename_i hb
               split at e3
               ·cases e3
               ·rename_i hs
                refine⟨by cases hsp:ad.spot<;>simp_all,?_⟩
                exact(Array.getElem?_eq_some_iff.1 hb).1
              ·cases e3
             have haddr: ∀k,ad.add k=⟨ad.block,ad.off+k,none⟩:=fun k=>by
              obtain⟨b0,o0,s0⟩:=ad
              have:s0=none:=hspot.1
              subst this
              unfold Addr.add
              split
              ·rename_i hk;subst hk;rfl
              ·rfl
             refine⟨rfl,fun j t' hj=> ?_⟩
             cases j with
             |succ j=>simp at hj
             |zero=>
               simp at hj;subst hj
               refine⟨.sl true es rows,_,rfl,.sl es us rows (by omega) (fun r hr=> ?_) (fun r hr j t'' c ht hc=> ?_),?_,rfl⟩
               ·obtain⟨i,hi,hri⟩:=hrow r hr;rw[(hr2 i r hri).1,h1]
               ·obtain⟨i,hi,hri⟩:=hrow r hr
                obtain⟨v',_,q,_⟩:=(hr2 i r hri).2 j c hc
                exact q t'' ht
               ·have had : ad = ⟨ad.block, ad.off, none⟩ := by
                 obtain⟨b0,o0,s0⟩:=ad
                 have:s0=none:=hspot.1
                 subst this;rfl
                rw[had,<- hr1]
                refine TR.sl true es rows ad.block ad.off cap (fun i j=>(w.cell? (ad.add (i*es+j))).getD undef) h3 hspot.2 (by omega) (by omega) hcm (fun r hr=> ?_) (fun i j hi hj=> ?_) (fun i j r c hi hj=> ?_)
                ·obtain⟨i,hi,hri⟩:=hrow r hr;exact(hr2 i r hri).1
                ·have hri:rows[i]? =some rows[i]:=zL hi
                 obtain⟨e1,e2⟩:=hr2 i _ hri
                 obtain⟨v',e3,_,_,e4⟩:=e2 j rows[i][j] (zL (by omega))
                 rw[e3,<- haddr,e3]
                 exact⟨rfl,e4⟩
                ·obtain⟨v',e3,_,e5,_⟩:=(hr2 i r hi).2 j c hj
                 rw[e3];exact e5
          ·cases hx
       ·exfalso
        split at hx<;>first|(cases hx;done)|(rename_i h5 h6;cases h5;done)|(rename_i h5 h6;cases h6;done)|simp_all
      ·cases h
     ·rename_i fs hu
      rw[hu]at hx
      simp only[zN,beq_iff_eq,yE,List.any_eq_true,decide_eq_true_eq]at h
      obtain⟨⟨h1,h2⟩,h3⟩:=h
      have hx:(if cs.length=P.cellsOf t then((fs.toList.mapM fun f=>DataW.trod enc P w 0 sp hd fuel f.type ((cs.drop f.offset).take (P.cellsOf f.type))).map fun xs=>(DataW.agg (xs.map (·.1)),xs.flatMap (·.2)))else none)=some x:=hx
      split at hx
      ·rename_i hl
       refine⟨by omega,fun j t' hj=> ?_⟩
       have hjl:=(zM.1 hj).1
       obtain⟨f,hf,hf1,hf2⟩:=h3 j (List.mem_range.2 hjl)
       cases hm:fs.toList.mapM (fun f=>DataW.trod enc P w 0 sp hd fuel f.type ((cs.drop f.offset).take (P.cellsOf f.type)))with
       |none=>rw[hm]at hx;cases hx
       |some ys=>
         obtain⟨y,hye,hy⟩:=qrO hm f hf
         have hxa:x.1= .agg (ys.map (·.1)):=by
          rw[hm]at hx
          have hx:some (DataW.agg (ys.map (·.1)),ys.flatMap (·.2))=some x:=hx
          cases hx;rfl
         rw[hxa]at hB
         obtain⟨g1,g2⟩:=ih fuel f.type _ _ y (h1 f hf) (hB.agg (List.mem_map_of_mem hye)) hy
         have hj' :((ts.drop f.offset).take (P.cellsOf f.type))[j-f.offset]? =some t' :=by
          rw[List.getElem?_take,if_pos (by omega),List.getElem?_drop,show f.offset+(j-f.offset)=j from by omega];exact hj
         obtain⟨c,v,q1,q2⟩:=g2 _ t' hj'
         refine⟨c,v,?_,q2⟩
         rw[List.getElem?_take,if_pos (by omega),List.getElem?_drop,show f.offset+(j-f.offset)=j from by omega]at q1
         exact q1
      ·cases hx
     ·rename_i m e hu
      rw[hu]at hx
      simp only[zN,beq_iff_eq,yE,List.any_eq_true,decide_eq_true_eq]at h
      obtain⟨⟨h1,h2⟩,h3⟩:=h
      have hx:(if cs.length=P.cellsOf t then(((List.range m).mapM fun i=>DataW.trod enc P w 0 sp hd fuel e ((cs.drop (i*P.cellsOf e)).take (P.cellsOf e))).map fun xs=>(DataW.agg (xs.map (·.1)),xs.flatMap (·.2)))else none)=some x:=hx
      split at hx
      ·rename_i hl
       refine⟨by omega,fun j t' hj=> ?_⟩
       have hjl:=(zM.1 hj).1
       obtain⟨i,hi,hf1,hf2⟩:=h3 j (List.mem_range.2 hjl)
       cases hm:(List.range m).mapM (fun i=>DataW.trod enc P w 0 sp hd fuel e ((cs.drop (i*P.cellsOf e)).take (P.cellsOf e)))with
       |none=>rw[hm]at hx;cases hx
       |some ys=>
         obtain⟨y,hye,hy⟩:=qrO hm i hi
         have hxa:x.1= .agg (ys.map (·.1)):=by
          rw[hm]at hx
          have hx:some (DataW.agg (ys.map (·.1)),ys.flatMap (·.2))=some x:=hx
          cases hx;rfl
         rw[hxa]at hB
         obtain⟨g1,g2⟩:=ih fuel e _ _ y (h1 i hi) (hB.agg (List.mem_map_of_mem hye)) hy
         have hj' :((ts.drop (i*P.cellsOf e)).take (P.cellsOf e))[j-i*P.cellsOf e]? =some t' :=by
          rw[List.getElem?_take,if_pos (by omega),List.getElem?_drop,show i*P.cellsOf e+(j-i*P.cellsOf e)=j from by omega];exact hj
         obtain⟨c,v,q1,q2⟩:=g2 _ t' hj'
         refine⟨c,v,?_,q2⟩
         rw[List.getElem?_take,if_pos (by omega),List.getElem?_drop,show i*P.cellsOf e+(j-i*P.cellsOf e)=j from by omega]at q1
         exact q1
      ·cases hx
     ·cases h
def aggT(P:Program)(t:TypeId):Bool:=match P.underlying t with|some (.struct _)|some (.array _ _)=>true|_=>false
def RowB(B:Nat)(ts:List Ty)(pc:List PV):Prop:=pc.length=ts.length/\ ∀(j:Nat) (t:Ty) (c:PV),ts[j]? =some t->pc[j]? =some c->CellB B t c
abbrev RowV:List Ty->List PV->Prop:=RowB maxLen
theorem qrU {B : Nat} {n : Nat} {t : TypeId} {ts : List Ty} {v : Value} {base : Nat} {d : DataW H} {ps : List MemPlace} (hf : qrL P n t ts = true) (hs : aggT P t = true) (hok : Value.okWide P w .any base t v)
  (hB:Fits B d) (h:DataW.Trod enc P w 0 sp hd t v d ps): ∃pc:List PV,RowB B ts pc/\TV w (ZW w) (.agg pc) v:=by
 obtain⟨fuel,h⟩:=h
 have hv: ∃cs:Array Value,v= .agg cs:=by
  unfold Value.okWide at hok
  unfold aggT at hs
  split at hs
  ·rename_i hu;rw[hu]at hok;obtain⟨cs,e,_⟩:=hok;exact⟨cs,e⟩
  ·rename_i hu;rw[hu]at hok;obtain⟨cs,e,_⟩:=hok;exact⟨cs,e⟩
  ·cases hs
 obtain⟨cs,rfl⟩:=hv
 obtain⟨g1,g2⟩:=qrT n fuel t ts cs.toList (d,ps) hf hB h
 obtain⟨pc,h1,h2⟩:=qrP (Q:=fun j c=> ∃v,cs.toList[j]? =some v/\(∀t',ts[j]? =some t' ->CellB B t' c)/\TR w (ZW w) c v/\v.oneCell' =true) ts.length fun j hj=>by
  obtain⟨c,v,q1,q2,q3,q4⟩:=g2 j ts[j] (zL hj)
  exact⟨c,v,q1,fun t' ht=>by rw[zL hj]at ht;cases ht;exact q2,q3,q4⟩
 refine⟨pc,⟨h1,fun j t' c ht hc=> ?_⟩,cs,rfl,by rw[h1,<- g1];simp,fun j c hc=> ?_⟩
 ·obtain⟨v,_,q,_⟩:=h2 j c hc;exact q t' ht
 ·obtain⟨v,q1,_,q3,q4⟩:=h2 j c hc
  have:cs.getD j undef=v:=by
   rw[zO]
   have:cs[j]? =some v:=by simpa using q1
   rw[this];rfl
  rw[this];exact⟨q3,q4⟩
theorem qrV {n : Nat} {t : TypeId} {ts : List Ty} {v : Value} {base : Nat} {d : DataW H} {ps : List MemPlace} (hf : qrL P n t ts = true) (hs : aggT P t = true) (hok : Value.okWide P w .any base t v)
  (h:DataW.Trod enc P w 0 sp hd t v d ps): ∃pc:List PV,RowV ts pc/\TV w (ZW w) (.agg pc) v:=qrU hf hs hok (.inl (Nat.le_refl _)) h
theorem qrW {B : Nat} {n : Nat} {t : TypeId} {t' : Ty} {v : Value} {d : DataW H} {ps : List MemPlace} (hf : qrL P n t [t'] = true) (hv : v.cells = #[v])
  (hB:Fits B d) (h:DataW.Trod enc P w 0 sp hd t v d ps): ∃c:PV,CellB B t' c/\TV w (ZW w) c v:=by
 obtain⟨fuel,h⟩:=h
 rw[hv]at h
 obtain⟨g1,g2⟩:=qrT n fuel t [t'] _ (d,ps) hf hB h
 obtain⟨c,u,q1,q2,q3,q4⟩:=g2 0 t' rfl
 simp at q1;subst q1
 refine⟨c,q2,?_⟩
 cases c<;>simp only[TV,TA]<;>first|exact q3|(cases q3)
theorem argC {n : Nat} {t : TypeId} {t' : Ty} {v : Value} {d : DataW H} {ps : List MemPlace} (hf : qrL P n t [t'] = true) (hv : v.cells = #[v])
  (h:DataW.Trod enc P w 0 sp hd t v d ps): ∃c:PV,qrM t' c/\TV w (ZW w) c v:=qrW hf hv (.inl (Nat.le_refl _)) h
theorem qrX {f : FuncId} {args : List PV} {vs : Array Value} (hg : GL P w) (hc : FnEq P f args (.bool true)) (hn : vs.size = args.length) (h : ∀ (j : Nat) (c : PV), args[j]? = some c -> TV w (ZW w) c (vs.getD j undef)) :
  Calls P f vs w fun e w' =>e= .returned (.bool true)/\Below w.heap.size w w' :=by
 refine(hc w (ZW w) hg (fun _ h=>h) (fun _ _ h=>h) vs hn h).mono ?_
 rintro e w' ⟨v,r,rfl,rfl,h1,h2⟩
 cases h1
 exact⟨rfl,h2⟩
end
end Go.Vc
