/- VcW VcZ VcBr Txt: lemmas -/
import Derived.Test.YtecoaapkcnhlhaaGreatDoorPart06
import Derived.ProofKit
import Derived.Test.YtecoaapkcnhlhaaGreatDoorPart05
import Derived.Test.YtecoaapkcnhlhaaGreatDoorChecked
set_option linter.unusedSimpArgs false
set_option linter.unusedVariables false
open Option renaming map_eq_some_iff->zR
open Array renaming getD_eq_getD_getElem? ->zO
open Bool renaming and_eq_true->zN
open List renaming getElem?_eq_getElem->zL,getElem?_eq_some_iff->zM,getElem?_append_left->yA,getElem?_append_right->yB,all_eq_true->yE,length_map->yG
namespace Go.Vc
open Go Go.RowKit
@[push_cast] theorem qpv(i:Nat):inL [] i=false:=rfl
@[push_cast] theorem qpw(a:Nat)(t:List Nat)(i:Nat):inL (a::t) i=if a=i then true else inL t i:=by
 unfold inL
 rw[qh8,qh8];rfl
def ssIs:Option Nat->Nat->Bool
 |none,_=>false
 |some j,k=>if j=k then true else false
@[push_cast] theorem qpx(k:Nat):ssIs none k=false:=rfl
@[push_cast] theorem qpy(j k:Nat):ssIs (some j) k=if j=k then true else false:=rfl
def noS(ss:Option Nat)(t:List Nat):List (Nat×PV)->Bool
 |[]=>true
 |(k,v)::r=>(ssIs ss k|| !v.toV (inL t) (inL t))&&noS ss t r
def noB(t:List Nat):List (Nat×List PV)->Bool
 |[]=>true
 |(_,cs)::r=> !anyT (inL t) (inL t) cs&&noB t r
@[push_cast] theorem qpz(ss:Option Nat)(t:List Nat):noS ss t []=true:=rfl
@[push_cast] theorem qpA(ss:Option Nat)(t:List Nat)(k:Nat)(v:PV)(r:List (Nat×PV)):noS ss t ((k,v)::r)=((ssIs ss k|| !v.toV (inL t) (inL t))&&noS ss t r):=rfl
@[push_cast] theorem qpB(t:List Nat):noB t []=true:=rfl
@[push_cast] theorem qpC(t:List Nat)(k:Nat)(cs:List PV)(r:List (Nat×List PV)):noB t ((k,cs)::r)=(!anyT (inL t) (inL t) cs&&noB t r):=rfl
@[push_cast] theorem qpD(st:St)(ss:Option Nat):noX st [] ss=true:=rfl
@[push_cast] theorem qpE(s:List (Nat×PV))(b:List (Nat×List PV))(a:List (Nat×Arr))(m:List (Nat×Mp))(i:Nat)(t:List Nat)(ss:Option Nat):noX ⟨s,b,a,m⟩ (i::t) ss=(noS ss (i::t) s&&noB (i::t) b):=by
 simp only[noX]
 congr 1
 ·induction s with
  |nil=>rfl
  |cons x r ih=>
    obtain⟨k,v⟩:=x
    simp only[List.all_cons,noS,ih]
    congr 2
    cases ss with
    |none=>rfl
    |some j=>by_cases h:j=k<;>simp[ssIs,h]
 ·induction b with
  |nil=>rfl
  |cons x r ih=>
    obtain⟨k,v⟩:=x
    simp only[qhK]at ih
    simp only[List.all_cons,noB,ih,qhK]
@[push_cast] theorem qpF(v:PV):stoT [] v=true:=rfl
@[push_cast] theorem qpG(i:Nat)(u:List Nat)(id o:Nat):stoT (i::u) (.ptr id o)=inL (i::u) id:=rfl
@[push_cast] theorem qpH(i:Nat)(u:List Nat)(id j o:Nat):stoT (i::u) (.eptr id j o)=inL (i::u) id:=rfl
@[push_cast] theorem qpI(v:PV):refU [] v=false:=rfl
@[push_cast] theorem qpJ(a:Nat)(u:List Nat)(v:PV):refU (a::u) v=v.toV (inL (a::u)) (inL (a::u)):=rfl
@[push_cast] theorem qpK(o:Option (List PV)):boxU [] o=false:=by cases o<;>rfl
@[push_cast] theorem qpL(a:Nat)(u:List Nat):boxU (a::u) none=false:=rfl
@[push_cast] theorem qpM(a:Nat)(u:List Nat)(cs:List PV):boxU (a::u) (some cs)=anyT (inL (a::u)) (inL (a::u)) cs:=qhK _ _ cs
@[push_cast] theorem qpN(st:St)(i:Nat):st.getO (some i)=st.get i:=rfl
@[push_cast] theorem qpO(st:St):st.getO none= .bot:=rfl
def boxA(u:List Nat)(b:List (Nat×List PV)):List Nat->Bool
 |[]=>true
 |i::t=> !boxU u (lk b i)&&boxA u b t
@[push_cast] theorem qpP(u:List Nat)(b:List (Nat×List PV)):boxA u b []=true:=rfl
@[push_cast] theorem qpQ(u:List Nat)(b:List (Nat×List PV))(i:Nat)(t:List Nat):boxA u b (i::t)=(!boxU u (lk b i)&&boxA u b t):=rfl
theorem qpR(u:List Nat)(b:List (Nat×List PV))(t:List Nat):t.all (fun i=> !boxU u (lk b i))=boxA u b t:=by induction t<;>simp_all[boxA]
def preD(t u:List Nat)(d ss:Option Nat)(st:St):Prop:=noX st t ss=true/\refU u (st.getO d)=false/\boxA u st.b t=true
def qpS(t u:List Nat)(d:Option Nat)(st:St):Prop:=refU u (st.getO d)=false/\boxA u st.b t=true
@[congr] theorem qpT{t u:List Nat}{d ss:Option Nat}{st st' :St}(h:st=st'):preD t u d ss st=preD t u d ss st' :=by rw[h]
@[push_cast] theorem qpU(d ss:Option Nat)(st:St):preD [] [] d ss st=True:=by simp[preD,qpI,boxA,noX]
@[push_cast] theorem qpV(d:Option Nat)(st:St):qpS [] [] d st=True:=by simp[qpS,qpI,boxA]
@[push_cast] theorem qpW (i : Nat) (t u : List Nat) (d ss : Option Nat) (s : List (Nat × PV)) (b : List (Nat × List PV)) (a : List (Nat × Arr)) (m : List (Nat × Mp)) :
  preD (i::t) u d ss ⟨s,b,a,m⟩=(noX ⟨s,b,a,m⟩ (i::t) ss=true/\refU u (St.getO ⟨s,b,a,m⟩ d)=false/\boxA u b (i::t)=true):=rfl
@[push_cast] theorem qpX (i : Nat) (u : List Nat) (d ss : Option Nat) (s : List (Nat × PV)) (b : List (Nat × List PV)) (a : List (Nat × Arr)) (m : List (Nat × Mp)) :
  preD [] (i::u) d ss ⟨s,b,a,m⟩=(refU (i::u) (St.getO ⟨s,b,a,m⟩ d)=false):=by simp[preD,boxA,noX]
@[push_cast] theorem qpY (i : Nat) (t u : List Nat) (d : Option Nat) (s : List (Nat × PV)) (b : List (Nat × List PV)) (a : List (Nat × Arr)) (m : List (Nat × Mp)) :
  qpS (i::t) u d ⟨s,b,a,m⟩=(refU u (St.getO ⟨s,b,a,m⟩ d)=false/\boxA u b (i::t)=true):=rfl
@[push_cast] theorem qpZ (i : Nat) (u : List Nat) (d : Option Nat) (s : List (Nat × PV)) (b : List (Nat × List PV)) (a : List (Nat × Arr)) (m : List (Nat × Mp)) :
  qpS [] (i::u) d ⟨s,b,a,m⟩=(refU (i::u) (St.getO ⟨s,b,a,m⟩ d)=false):=by simp[qpS,boxA]
def nvL:List PV->Bool
 |[]=>true
 |c::r=>(qbL [c]).isEmpty&&nvL r
theorem qq0(cs:List PV):(qbL cs=[]) ↔ nvL cs=true:=by
 induction cs with
 |nil=>simp[qbL,nvL]
 |cons c r ih=>cases c<;>simp[qbL,nvL,ih]
@[push_cast] theorem qq1:nvL []=true:=rfl
@[push_cast] theorem qq2(v:Value)(r:List PV):nvL (.sc v::r)=nvL r:=rfl
@[push_cast] theorem qq3(r:List PV):nvL (.nil::r)=nvL r:=rfl
@[push_cast] theorem qq4(p:Bool)(es:Nat)(xs:List (List PV))(r:List PV):nvL (.sl p es xs::r)=nvL r:=rfl
@[push_cast] theorem qq5(p:Bool)(cs:List PV)(o:Nat)(r:List PV):nvL (.iptr p cs o::r)=nvL r:=rfl
@[push_cast] theorem qq6(i o:Nat)(r:List PV):nvL (.ptr i o::r)=nvL r:=rfl
@[push_cast] theorem qq7(r:List PV):nvL (.bot::r)=nvL r:=rfl
def nvP(st:St):List (Nat×Opd)->Bool
 |[]=>true
 |(_,x)::r=>nvL (cellsOf (x.ev st))&&nvP st r
@[push_cast] theorem qq8(st:St):nvP st []=true:=rfl
@[push_cast] theorem qq9(st:St)(j:Nat)(x:Opd)(r:List (Nat×Opd)):nvP st ((j,x)::r)=(nvL (cellsOf (x.ev st))&&nvP st r):=rfl
theorem qqa(st:St)(parts:List (Nat×Opd)):(∀p∈parts,qbL (cellsOf (p.2.ev st))=[]) ↔ nvP st parts=true:=by
 induction parts with
 |nil=>simp[nvP]
 |cons p r ih=>
   obtain⟨j,x⟩:=p
   simp only[qq0]at ih
   simp only[List.forall_mem_cons,ih,nvP,zN,qq0]
def appS(t:List Nat):PV->Bool
 | .view id _ _=>inL t id
 |_=>true
@[push_cast] theorem qqb(t:List Nat)(id lo n:Nat):appS t (.view id lo n)=inL t id:=rfl
@[push_cast] theorem qqc(t:List Nat):appS t .nil=true:=rfl
section
variable (P:Env) (t u:List Nat) (d:Option Nat) (r:List DO) (st:St) (K:St->Prop)
@[congr] theorem qqd{P:Env}{l:List DO}{st st' :St}{K:St->Prop}(h:st=st'):dsK P l st K=dsK P l st' K:=by rw[h]
@[push_cast] theorem qqe(keep:List Nat)(ops:List DO)(Q:Exit->St->Prop):awp P (.drw keep ops) Q st=dsK P ops (st.keepS keep) (Q .normal):=rfl
@[push_cast] theorem qqf:dsK P [] st K=K st:=rfl
@[push_cast] theorem qqg(o:AO):dsK P (⟨o,t,u,false⟩::r) st K=opsK P [o] st (fun st' =>dsK P r st' K):=by
 simp only[dsK,dopG,Bool.false_eq_true,if_false,opsK]
def qqh(P:Env)(t u:List Nat)(o:AO)(r:List DO)(st:St)(K:St->Prop):Prop:=opsK P [o] st (fun st' =>qpS t u o.d st' /\dsK P r st' K)
@[push_cast] theorem qqi(o:AO):qqh P t u o r st K=opsK P [o] st (fun st' =>qpS t u o.d st' /\dsK P r st' K):=rfl
theorem qqj(op:AOp)(hc:qd3 op=false):dsK P (⟨⟨d,none,op⟩,t,u,true⟩::r) st K=(preD t u d (srcS op) st/\qcK st t u op/\qqh P t u ⟨d,none,op⟩ r st K):=by
 have e1:qcL ⟨⟨d,none,op⟩,t,u,true⟩ st=preD t u d (srcS op) st:=by simp only[qcL,preD,qpR]
 have e2:dopK P ⟨⟨d,none,op⟩,t,u,true⟩ st (fun st' =>dsK P r st' K)=(qcK st t u op/\qqh P t u ⟨d,none,op⟩ r st K):=by
  unfold dopK qqh
  cases op<;>first|(cases hc;done)|(simp only[opsK,grdK,qcM,qpS,qpR])
 simp only[dsK,dopG,if_true,grdK,e1,e2]
variable (x y z:Opd)
@[push_cast] theorem d_mv:dsK P (⟨⟨d,none,.mv x⟩,t,u,true⟩::r) st K=(preD t u d none st/\qqh P t u ⟨d,none,.mv x⟩ r st K):=by rw[qqj _ _ _ _ _ _ _ _ rfl];simp[qcK,srcS]
@[push_cast] theorem qqk:dsK P (⟨⟨d,none,.pick x y z⟩,t,u,true⟩::r) st K=(preD t u d none st/\qqh P t u ⟨d,none,.pick x y z⟩ r st K):=by rw[qqj _ _ _ _ _ _ _ _ rfl];simp[qcK,srcS]
@[push_cast] theorem qql(zero:List PV)(parts:List (Nat×Nat×Opd)):dsK P (⟨⟨d,none,.bld zero parts⟩,t,u,true⟩::r) st K=(preD t u d none st/\qqh P t u ⟨d,none,.bld zero parts⟩ r st K):=by rw[qqj _ _ _ _ _ _ _ _ rfl];simp[qcK,srcS]
@[push_cast] theorem d_ld(agg:Bool)(sz:Nat):dsK P (⟨⟨d,none,.ld agg sz x⟩,t,u,true⟩::r) st K=(preD t u d none st/\refU u (x.ev st)=false/\qqh P t u ⟨d,none,.ld agg sz x⟩ r st K):=by rw[qqj _ _ _ _ _ _ _ _ rfl];simp[qcK,srcS]
@[push_cast] theorem qqm(op:BinOp)(nw:Bool)(k:IntKind):dsK P (⟨⟨d,none,.ari op nw k x y⟩,t,u,true⟩::r) st K=(preD t u d none st/\qqh P t u ⟨d,none,.ari op nw k x y⟩ r st K):=by rw[qqj _ _ _ _ _ _ _ _ rfl];simp[qcK,srcS]
@[push_cast] theorem qqn(op:BinOp)(nw:Bool)(k:IntKind):dsK P (⟨⟨d,none,.dvd op nw k x y⟩,t,u,true⟩::r) st K=(preD t u d none st/\qqh P t u ⟨d,none,.dvd op nw k x y⟩ r st K):=by rw[qqj _ _ _ _ _ _ _ _ rfl];simp[qcK,srcS]
@[push_cast] theorem qqo(op:BinOp)(k:IntKind):dsK P (⟨⟨d,none,.bit op k x y⟩,t,u,true⟩::r) st K=(preD t u d none st/\qqh P t u ⟨d,none,.bit op k x y⟩ r st K):=by rw[qqj _ _ _ _ _ _ _ _ rfl];simp[qcK,srcS]
@[push_cast] theorem qqp(op:BinOp)(k:IntKind):dsK P (⟨⟨d,none,.shf op k x y⟩,t,u,true⟩::r) st K=(preD t u d none st/\qqh P t u ⟨d,none,.shf op k x y⟩ r st K):=by rw[qqj _ _ _ _ _ _ _ _ rfl];simp[qcK,srcS]
@[push_cast] theorem qqq(op:BinOp)(k:IntKind):dsK P (⟨⟨d,none,.cmp op k x y⟩,t,u,true⟩::r) st K=(preD t u d none st/\qqh P t u ⟨d,none,.cmp op k x y⟩ r st K):=by rw[qqj _ _ _ _ _ _ _ _ rfl];simp[qcK,srcS]
@[push_cast] theorem qqs(ng:Bool)(n:Nat):dsK P (⟨⟨d,none,.eqa ng n x y⟩,t,u,true⟩::r) st K=(preD t u d none st/\qqh P t u ⟨d,none,.eqa ng n x y⟩ r st K):=by rw[qqj _ _ _ _ _ _ _ _ rfl];simp[qcK,srcS]
@[push_cast] theorem qqt:dsK P (⟨⟨d,none,.not x⟩,t,u,true⟩::r) st K=(preD t u d none st/\qqh P t u ⟨d,none,.not x⟩ r st K):=by rw[qqj _ _ _ _ _ _ _ _ rfl];simp[qcK,srcS]
@[push_cast] theorem qqv(nw:Bool)(k:IntKind):dsK P (⟨⟨d,none,.cnv nw k x⟩,t,u,true⟩::r) st K=(preD t u d none st/\qqh P t u ⟨d,none,.cnv nw k x⟩ r st K):=by rw[qqj _ _ _ _ _ _ _ _ rfl];simp[qcK,srcS]
@[push_cast] theorem qqw:dsK P (⟨⟨d,none,.len x⟩,t,u,true⟩::r) st K=(preD t u d none st/\qqh P t u ⟨d,none,.len x⟩ r st K):=by rw[qqj _ _ _ _ _ _ _ _ rfl];simp[qcK,srcS]
@[push_cast] theorem d_mn(mx:Bool):dsK P (⟨⟨d,none,.mn mx x y⟩,t,u,true⟩::r) st K=(preD t u d none st/\qqh P t u ⟨d,none,.mn mx x y⟩ r st K):=by rw[qqj _ _ _ _ _ _ _ _ rfl];simp[qcK,srcS]
@[push_cast] theorem d_fa(off:Nat):dsK P (⟨⟨d,none,.fa off x⟩,t,u,true⟩::r) st K=(preD t u d none st/\qqh P t u ⟨d,none,.fa off x⟩ r st K):=by rw[qqj _ _ _ _ _ _ _ _ rfl];simp[qcK,srcS]
@[push_cast] theorem d_fl(agg:Bool)(off sz:Nat):dsK P (⟨⟨d,none,.fl agg off sz x⟩,t,u,true⟩::r) st K=(preD t u d none st/\qqh P t u ⟨d,none,.fl agg off sz x⟩ r st K):=by rw[qqj _ _ _ _ _ _ _ _ rfl];simp[qcK,srcS]
@[push_cast] theorem qqy(es:Nat):dsK P (⟨⟨d,none,.ixs es x y⟩,t,u,true⟩::r) st K=(preD t u d none st/\refU u (x.ev st)=false/\qqh P t u ⟨d,none,.ixs es x y⟩ r st K):=by rw[qqj _ _ _ _ _ _ _ _ rfl];simp[qcK,srcS]
@[push_cast] theorem qqz(n es:Nat):dsK P (⟨⟨d,none,.ixa n es x y⟩,t,u,true⟩::r) st K=(preD t u d none st/\qqh P t u ⟨d,none,.ixa n es x y⟩ r st K):=by rw[qqj _ _ _ _ _ _ _ _ rfl];simp[qcK,srcS]
@[push_cast] theorem qqB(es:Nat)(lo hi:Option Opd):dsK P (⟨⟨d,none,.slc es x lo hi⟩,t,u,true⟩::r) st K=(preD t u d none st/\refU u (x.ev st)=false/\qqh P t u ⟨d,none,.slc es x lo hi⟩ r st K):=by rw[qqj _ _ _ _ _ _ _ _ rfl];simp[qcK,srcS]
@[push_cast] theorem qqC(i:Nat):dsK P (⟨⟨d,none,.ext x i⟩,t,u,true⟩::r) st K=(preD t u d none st/\qqh P t u ⟨d,none,.ext x i⟩ r st K):=by rw[qqj _ _ _ _ _ _ _ _ rfl];simp[qcK,srcS]
@[push_cast] theorem qqD:dsK P (⟨⟨d,none,.nck x⟩,t,u,true⟩::r) st K=(preD t u d none st/\qqh P t u ⟨d,none,.nck x⟩ r st K):=by rw[qqj _ _ _ _ _ _ _ _ rfl];simp[qcK,srcS]
@[push_cast] theorem qqE(zero:List PV):dsK P (⟨⟨d,none,.alc zero⟩,t,u,true⟩::r) st K=(preD t u d none st/\qqh P t u ⟨d,none,.alc zero⟩ r st K):=by rw[qqj _ _ _ _ _ _ _ _ rfl];simp[qcK,srcS]
@[push_cast] theorem qqF:dsK P (⟨⟨d,none,.box x⟩,t,u,true⟩::r) st K=(preD t u d none st/\qqh P t u ⟨d,none,.box x⟩ r st K):=by rw[qqj _ _ _ _ _ _ _ _ rfl];simp[qcK,srcS]
@[push_cast] theorem qqG(es ty by_:Nat)(zero:List PV):dsK P (⟨⟨d,none,.mks es ty by_ zero x y⟩,t,u,true⟩::r) st K=(preD t u d none st/\qqh P t u ⟨d,none,.mks es ty by_ zero x y⟩ r st K):=by rw[qqj _ _ _ _ _ _ _ _ rfl];simp[qcK,srcS]
@[push_cast] theorem qqH(es ty:Nat)(zero:List PV)(n:Nat)(parts:List (Nat×Opd)):dsK P (⟨⟨d,none,.bsl es ty zero n parts⟩,t,u,true⟩::r) st K=(preD t u d none st/\nvP st parts=true/\qqh P t u ⟨d,none,.bsl es ty zero n parts⟩ r st K):=by rw[qqj _ _ _ _ _ _ _ _ rfl];simp only[qcK,srcS,qqa]
@[push_cast] theorem qqI(sz:Nat):dsK P (⟨⟨d,none,.sto sz x y⟩,t,u,true⟩::r) st K=(preD t u d none st/\(nvL (cellsOf (y.ev st))=true/\stoT u (x.ev st)=true)/\qqh P t u ⟨d,none,.sto sz x y⟩ r st K):=by rw[qqj _ _ _ _ _ _ _ _ rfl];simp only[qcK,srcS,qq0]
def srcT:Opd->Option Nat
 | .t s=>some s
 | .c _=>none
@[push_cast] theorem qqJ(s:Nat):srcT (.t s)=some s:=rfl
@[push_cast] theorem qqK(p:PV):srcT (.c p)=none:=rfl
@[push_cast] theorem qqL(es ty by_:Nat):dsK P (⟨⟨d,none,.app es ty by_ x y⟩,t,u,true⟩::r) st K=(preD t u d (srcT x) st/\appS t (x.ev st)=true/\qqh P t u ⟨d,none,.app es ty by_ x y⟩ r st K):=by
 rw[qqj _ _ _ _ _ _ _ _ rfl]
 have h1:srcS (.app es ty by_ x y)=srcT x:=by cases x<;>rfl
 have h2:qcK st t u (.app es ty by_ x y)=(appS t (x.ev st)=true):=by
  simp only[qcK]
  cases x.ev st<;>simp[appS]
 rw[h1,h2]
@[push_cast] theorem qqM(es:Nat):dsK P (⟨⟨d,none,.cpy es x y⟩,t,u,true⟩::r) st K=(preD t u d none st/\qqh P t u ⟨d,none,.cpy es x y⟩ r st K):=by rw[qqj _ _ _ _ _ _ _ _ rfl];simp[qcK,srcS]
def qqN(P:Env)(u:List Nat)(d:Option Nat)(f:Nat)(args:List PV)(r:List DO)(st:St)(K:St->Prop):Prop:=
 ∃post,FnOK P.p f args post/\(∃v,post v)/\ ∀v,post v->refU u v=false/\dsK P r (st.put d v) K
@[congr] theorem qqO{P:Env}{u:List Nat}{d:Option Nat}{f:Nat}{args args' :List PV}{r:List DO}{st st' :St}{K:St->Prop}(h1:args=args')(h2:st=st'):qqN P u d f args r st K=qqN P u d f args' r st' K:=by rw[h1,h2]
@[push_cast] theorem qqP(f:Nat)(args:List Opd):dsK P (⟨⟨d,none,.cal f args⟩,t,u,true⟩::r) st K=(preD t u d none st/\qqN P u d f (qoG st args) r st K):=by
 simp only[dsK,dopG,if_true,grdK,dopK,calD,qqN,qoJ,qcL,preD,srcS,qpR]
def qqQ(P:Env)(u:List Nat)(d:Option Nat)(v:PV)(args:List PV)(r:List DO)(st:St)(K:St->Prop):Prop:=
 match v with| .sc (.func (.func f) _ _)=>qcG P.p f=true/\qqN P u d f args r st K|_=>False
@[congr] theorem qqR{P:Env}{u:List Nat}{d:Option Nat}{v v' :PV}{args args' :List PV}{r:List DO}{st st' :St}{K:St->Prop}(h0:v=v')(h1:args=args')(h2:st=st'):qqQ P u d v args r st K=qqQ P u d v' args' r st' K:=by rw[h0,h1,h2]
@[push_cast] theorem qqS(y:Opd)(args:List Opd):dsK P (⟨⟨d,none,.clv y args⟩,t,u,true⟩::r) st K=(preD t u d none st/\qqQ P u d (y.ev st) (qoG st args) r st K):=by
 simp only[dsK,dopG,if_true,grdK,dopK,calD,qqQ,qqN,qoJ,qcL,preD,srcS,qpR]
 generalize y.ev st=v
 cases v with
 | sc x => cases x with
   |func c a b=>cases c<;>simp[and_assoc]
   |_=>simp
 |_=>simp
@[push_cast] theorem qqT(f:Nat)(a b:Array Value)(args:List PV):qqQ P u d (.sc (.func (.func f) a b)) args r st K=(qcG P.p f=true/\qqN P u d f args r st K):=rfl
end
theorem qqU{P:Env}{u:List Nat}{d:Option Nat}{f:Nat}{args:List PV}{r:List DO}{st:St}{K:St->Prop}{v:PV}(hc:FnEq P.p f args v)(hu:refU u v=false)(h:dsK P r (st.put d v) K):qqN P u d f args r st K:=
 ⟨_,hc,⟨v,rfl⟩,fun w hw=>by subst hw;exact⟨hu,h⟩⟩
section
variable {P:Env} {t u:List Nat} {d:Option Nat} {s:Nat} {op:AOp} {r:List DO} {sl:List (Nat×PV)} {bx:List (Nat×List PV)} {ar:List (Nat×Arr)} {mm:List (Nat×Mp)} {K:St->Prop}
theorem qqW (b : Bool) {w : Bool} (h : getL sl s = .sc (.bool b)) :
  dsK P (⟨⟨d,some (s,w),op⟩,t,u,true⟩::r) ⟨sl,bx,ar,mm⟩ K=(preD t u d (srcS op) ⟨sl,bx,ar,mm⟩/\(b=w->dopK P ⟨⟨d,some (s,w),op⟩,t,u,true⟩ ⟨sl,bx,ar,mm⟩ (fun st' =>dsK P r st' K))/\(b≠w->dsK P r ((⟨sl,bx,ar,mm⟩:St).put d (.tup [])) K)):=by
 have hg:(⟨sl,bx,ar,mm⟩:St).get s= .sc (.bool b):=by rw[qhe];exact h
 have e1:qcL ⟨⟨d,some (s,w),op⟩,t,u,true⟩ ⟨sl,bx,ar,mm⟩=preD t u d (srcS op) ⟨sl,bx,ar,mm⟩:=by simp only[qcL,preD,qpR]
 simp only[dsK,dopG,if_true,e1,grdK,hg]
theorem qqX(w:Bool)(st:St)(K:St->Prop):dopK P ⟨⟨d,some (s,w),op⟩,t,u,true⟩ st K=dopK P ⟨⟨d,none,op⟩,t,u,true⟩ st K:=by
 unfold dopK
 cases op<;>rfl
theorem qqY(st:St):dsK P (⟨⟨d,none,op⟩,t,u,true⟩::r) st K=(preD t u d (srcS op) st/\dopK P ⟨⟨d,none,op⟩,t,u,true⟩ st (fun st' =>dsK P r st' K)):=by
 have e1:qcL ⟨⟨d,none,op⟩,t,u,true⟩ st=preD t u d (srcS op) st:=by simp only[qcL,preD,qpR]
 simp only[dsK,dopG,if_true,grdK,e1]
@[push_cast] theorem qqZ(h:getL sl s= .sc (.bool true)):dsK P (⟨⟨d,some (s,true),op⟩,t,u,true⟩::r) ⟨sl,bx,ar,mm⟩ K=dsK P (⟨⟨d,none,op⟩,t,u,true⟩::r) ⟨sl,bx,ar,mm⟩ K:=by
 rw[qqW true h,qqY,qqX];simp
@[push_cast] theorem qr0(h:getL sl s= .sc (.bool false)):dsK P (⟨⟨d,some (s,false),op⟩,t,u,true⟩::r) ⟨sl,bx,ar,mm⟩ K=dsK P (⟨⟨d,none,op⟩,t,u,true⟩::r) ⟨sl,bx,ar,mm⟩ K:=by
 rw[qqW false h,qqY,qqX];simp
@[push_cast] theorem qr1(h:getL sl s= .sc (.bool false)):dsK P (⟨⟨d,some (s,true),op⟩,t,u,true⟩::r) ⟨sl,bx,ar,mm⟩ K=(preD t u d (srcS op) ⟨sl,bx,ar,mm⟩/\dsK P r ((⟨sl,bx,ar,mm⟩:St).put d (.tup [])) K):=by
 rw[qqW false h];simp
@[push_cast] theorem qr2(h:getL sl s= .sc (.bool true)):dsK P (⟨⟨d,some (s,false),op⟩,t,u,true⟩::r) ⟨sl,bx,ar,mm⟩ K=(preD t u d (srcS op) ⟨sl,bx,ar,mm⟩/\dsK P r ((⟨sl,bx,ar,mm⟩:St).put d (.tup [])) K):=by
 rw[qqW true h];simp
@[push_cast] theorem qr3{w:Bool}(h:getL sl s= .tup []):dsK P (⟨⟨d,some (s,w),op⟩,t,u,true⟩::r) ⟨sl,bx,ar,mm⟩ K=(preD t u d (srcS op) ⟨sl,bx,ar,mm⟩/\dsK P r ((⟨sl,bx,ar,mm⟩:St).put d (.tup [])) K):=by
 have hg:(⟨sl,bx,ar,mm⟩:St).get s= .tup []:=by rw[qhe];exact h
 have e1:qcL ⟨⟨d,some (s,w),op⟩,t,u,true⟩ ⟨sl,bx,ar,mm⟩=preD t u d (srcS op) ⟨sl,bx,ar,mm⟩:=by simp only[qcL,preD,qpR]
 simp only[dsK,dopG,if_true,e1,grdK,hg]
theorem qr4 {want : Bool} (b : Bool) (h : getL sl s = .sc (.bool b)) (h1 : b = want -> dsK P (⟨⟨d, none, op⟩, t, u, true⟩ :: r) ⟨rp sl s (.sc (.bool want)), bx, ar, mm⟩ K)
  (h2:b= !want->preD t u d (srcS op) ⟨rp sl s (.sc (.bool !want)),bx,ar,mm⟩/\dsK P r ((⟨rp sl s (.sc (.bool !want)),bx,ar,mm⟩:St).put d (.tup [])) K):dsK P (⟨⟨d,some (s,want),op⟩,t,u,true⟩::r) ⟨sl,bx,ar,mm⟩ K:=by
 have hup:=fun c (hc:getL sl s=c)=>qo1 sl s c hc
 rw[qqW b h]
 by_cases e:b=want
 ·have:=h1 e
  subst e
  rw[hup _ h,qqY]at this
  exact⟨this.1,fun _=>by rw[qqX];exact this.2,fun h=>absurd rfl h⟩
 ·have e' :b= !want:=by cases b<;>cases want<;>simp_all
  have:=h2 e'
  rw[<- e',hup _ h]at this
  exact⟨this.1,fun h=>absurd h e,fun _=>this.2⟩
end
section
variable (P:Env) (Q:Exit->St->Prop) (st:St)
@[push_cast] theorem qr5(ts:List Nat)(c:AC):awp P (.frz ts c) Q st=awp P c Q (qcO st ts):=rfl
@[push_cast] theorem qr6:qcO st []=st:=rfl
@[push_cast] theorem qr7(t:Nat)(r:List Nat):qcO st (t::r)=qcO (st.frzs (cellsOf (st.get t))) r:=rfl
@[push_cast] theorem qr8(ks:List Nat)(c:AC):awp P (.cut ks c) Q st=awp P c Q (st.keepS ks):=rfl
theorem qr9{P:Env}{Q:Exit->St->Prop}{st:St}{c:AC}(st0:St)(h:SWk st st0)(h2:awp P c Q st0):awp P (.wk c) Q st:=⟨st0,h,h2⟩
end
@[push_cast] theorem sub_self(c:PV):Sub c c ↔ True:=⟨fun _=>trivial,fun _=> .refl c⟩
@[push_cast] theorem qrb(c:PV):Sub c .bot ↔ True:=⟨fun _=>trivial,fun _=> .bot c⟩
@[push_cast] theorem qrc:SubL [] [] ↔ True:=Iff.rfl
@[push_cast] theorem qrd(c d:PV)(cs ds:List PV):SubL (c::cs) (d::ds) ↔ (Sub c d/\SubL cs ds):=Iff.rfl
@[push_cast] theorem qre(cs:List PV):SubL cs cs ↔ True:=⟨fun _=>trivial,fun _=>SubL.rfl' cs⟩
theorem qrf: ∀ {cs ds:List PV},cs.length=ds.length->(∀(j:Nat) (c d:PV),cs[j]? =some c->ds[j]? =some d->Sub c d)->SubL cs ds
 |[],[],_,_=>trivial
 |c::cs,d::ds,hl,h=>⟨h 0 c d rfl rfl,qrf (by simpa using hl) fun j c' d' h1 h2=>h (j+1) c' d' (by simpa using h1) (by simpa using h2)⟩
@[push_cast] theorem qrg(cs ds:List PV):Sub (.agg cs) (.agg ds) ↔ SubL cs ds:=
 ⟨fun h=>by cases h with|refl=>exact SubL.rfl' _|agg _ _ h1 h2=>exact qrf h1 h2,Sub.aggL⟩
@[push_cast] theorem qrh(cs ds:List PV):Sub (.tup cs) (.tup ds) ↔ SubL cs ds:=
 ⟨fun h=>by cases h with|refl=>exact SubL.rfl' _|tup _ _ h1 h2=>exact qrf h1 h2,Sub.tupL⟩
@[push_cast] theorem qri(p:Bool)(es:Nat)(xs:List (List PV)):Sub (.sl p es xs) (.sl false es xs) ↔ True:=⟨fun _=>trivial,fun _=>Sub.slp p es xs false (fun h=>by cases h)⟩
@[push_cast] theorem qrj(q:Bool)(es:Nat)(xs:List (List PV)):Sub (.sl true es xs) (.sl q es xs) ↔ True:=⟨fun _=>trivial,fun _=>Sub.slp true es xs q (fun _=>rfl)⟩
@[push_cast] theorem qrk(p:Bool)(es:Nat)(xs:List (List PV)):Sub .nil (.sl p es xs) ↔ xs=[]:=⟨fun h=>by cases h;rfl,fun h=>by subst h;exact .nil p es⟩
@[push_cast] theorem qrl(a b:Value):Sub (.sc a) (.sc b) ↔ a=b:=⟨fun h=>by cases h;rfl,fun h=>by subst h;exact .refl _⟩
@[push_cast] theorem qrm{α:Type}(f:α->List PV)(l:List α):rows f l=[] ↔ l=[]:=by simp[rows]
@[push_cast] theorem qrn(s s' :List (Nat×PV))(b b' :List (Nat×List PV))(a a' :List (Nat×Arr))(m m' :List (Nat×Mp)):Wk ⟨s,b,a,m⟩ ⟨s',b',a',m'⟩ ↔ (WkS s s' /\WkB b b' /\WkA a a' /\m' =m):=Iff.rfl
@[push_cast] theorem qro:WkS [] [] ↔ True:=Iff.rfl
@[push_cast] theorem qrp(i j:Nat)(c d:PV)(s t:List (Nat×PV)):WkS ((i,c)::s) ((j,d)::t) ↔ (i=j/\Sub c d/\WkS s t):=Iff.rfl
@[push_cast] theorem qrq:WkB [] [] ↔ True:=Iff.rfl
@[push_cast] theorem qrr(i j:Nat)(c d:List PV)(s t:List (Nat×List PV)):WkB ((i,c)::s) ((j,d)::t) ↔ (i=j/\SubL c d/\WkB s t):=Iff.rfl
@[push_cast] theorem qrs:WkA [] [] ↔ True:=Iff.rfl
@[push_cast] theorem qrt(i j e e' y y' :Nat)(c d:List (List PV))(s t:List (Nat×Arr)):WkA ((i,⟨e,y,c⟩)::s) ((j,⟨e',y',d⟩)::t) ↔ ((i=j/\e' =e/\y' =y)/\SubR c d/\WkA s t):=Iff.rfl
@[push_cast] theorem qru(cs:List (List PV)):SubR cs cs ↔ True:=⟨fun _=>trivial,fun _=>SubR.rfl' cs⟩
theorem qrv{P:Env}{d:Option Nat}{f:Nat}{args args' :List PV}{r:List AO}{st:St}{K:St->Prop}{v:PV}(hc:FnEq P.p f args' v)(hs:SubL args args')(h:opsK P r (st.put d v) K):calK P d f args r st K:=qoM (FnOK.sub hc hs) h
theorem qrx{P:Env}{u:List Nat}{d:Option Nat}{f:Nat}{args args' :List PV}{r:List DO}{st:St}{K:St->Prop}{v:PV}(hc:FnEq P.p f args' v)(hs:SubL args args')(hu:refU u v=false)(h:dsK P r (st.put d v) K):qqN P u d f args r st K:=
 qqU (FnOK.sub hc hs) hu h
@[push_cast] theorem qry(es ty by_ s:Nat)(y:Opd):srcS (.app es ty by_ (.t s) y)=some s:=rfl
end Go.Vc
namespace Go.Vc
open Go Go.RowKit
section
variable {P:Env} {d:Option Nat} {s:Nat} {op:AOp} {r:List AO} {sl:List (Nat×PV)} {bx:List (Nat×List PV)} {ar:List (Nat×Arr)} {mm:List (Nat×Mp)} {K:St->Prop} {p:Prop} [Decidable p]
theorem qrz (h : getL sl s = .sc (.bool (decide p))) (h1 : p -> opsK P (⟨d, none, op⟩ :: r) ⟨rp sl s (.sc (.bool true)), bx, ar, mm⟩ K) (h2 : ¬ p -> opsK P r ((⟨rp sl s (.sc (.bool false)), bx, ar, mm⟩ : St).put d (.tup [])) K) :
  opsK P (⟨d,some (s,true),op⟩::r) ⟨sl,bx,ar,mm⟩ K:=qo2 (decide p) h (fun e=>h1 (of_decide_eq_true e)) (fun e=>h2 (of_decide_eq_false e))
theorem qrA (h : getL sl s = .sc (.bool (decide p))) (h1 : p -> opsK P r ((⟨rp sl s (.sc (.bool true)), bx, ar, mm⟩ : St).put d (.tup [])) K) (h2 : ¬ p -> opsK P (⟨d, none, op⟩ :: r) ⟨rp sl s (.sc (.bool false)), bx, ar, mm⟩ K) :
  opsK P (⟨d,some (s,false),op⟩::r) ⟨sl,bx,ar,mm⟩ K:=qo2 (decide p) h (fun e=>h2 (of_decide_eq_false e)) (fun e=>h1 (of_decide_eq_true e))
theorem qrB {b : Bool} (h : getL sl s = .sc (.bool b)) (h1 : b = true -> opsK P (⟨d, none, op⟩ :: r) ⟨rp sl s (.sc (.bool true)), bx, ar, mm⟩ K) (h2 : b = false -> opsK P r ((⟨rp sl s (.sc (.bool false)), bx, ar, mm⟩ : St).put d (.tup [])) K) :
  opsK P (⟨d,some (s,true),op⟩::r) ⟨sl,bx,ar,mm⟩ K:=qo2 b h h1 h2
theorem qrC {b : Bool} (h : getL sl s = .sc (.bool b)) (h1 : b = true -> opsK P r ((⟨rp sl s (.sc (.bool true)), bx, ar, mm⟩ : St).put d (.tup [])) K) (h2 : b = false -> opsK P (⟨d, none, op⟩ :: r) ⟨rp sl s (.sc (.bool false)), bx, ar, mm⟩ K) :
  opsK P (⟨d,some (s,false),op⟩::r) ⟨sl,bx,ar,mm⟩ K:=qo2 b h h2 h1
end
section
variable {P:Env} {t u:List Nat} {d:Option Nat} {s:Nat} {op:AOp} {r:List DO} {sl:List (Nat×PV)} {bx:List (Nat×List PV)} {ar:List (Nat×Arr)} {mm:List (Nat×Mp)} {K:St->Prop} {p:Prop} [Decidable p]
theorem qrD (h : getL sl s = .sc (.bool (decide p))) (h1 : p -> dsK P (⟨⟨d, none, op⟩, t, u, true⟩ :: r) ⟨rp sl s (.sc (.bool true)), bx, ar, mm⟩ K)
  (h2: ¬p->preD t u d (srcS op) ⟨rp sl s (.sc (.bool false)),bx,ar,mm⟩/\dsK P r ((⟨rp sl s (.sc (.bool false)),bx,ar,mm⟩:St).put d (.tup [])) K):dsK P (⟨⟨d,some (s,true),op⟩,t,u,true⟩::r) ⟨sl,bx,ar,mm⟩ K:=
 qr4 (decide p) h (fun e=>h1 (of_decide_eq_true e)) (fun e=>h2 (of_decide_eq_false e))
theorem qrE (h : getL sl s = .sc (.bool (decide p))) (h1 : p -> preD t u d (srcS op) ⟨rp sl s (.sc (.bool true)), bx, ar, mm⟩ /\ dsK P r ((⟨rp sl s (.sc (.bool true)), bx, ar, mm⟩ : St).put d (.tup [])) K)
  (h2: ¬p->dsK P (⟨⟨d,none,op⟩,t,u,true⟩::r) ⟨rp sl s (.sc (.bool false)),bx,ar,mm⟩ K):dsK P (⟨⟨d,some (s,false),op⟩,t,u,true⟩::r) ⟨sl,bx,ar,mm⟩ K:=
 qr4 (decide p) h (fun e=>h2 (of_decide_eq_false e)) (fun e=>h1 (of_decide_eq_true e))
end
theorem qrH{P:Env}{ops:List AO}{st:St}{ks:List Nat}{c:AC}{Q:Exit->St->Prop}(st1:St)(h1:opsK P ops st (fun st' =>st'.keepS ks=st1))(h2:awp P c Q st1):opsK P ops st (fun st' =>awp P (.cut ks c) Q st'):=by
 have mono: ∀(l:List AO) (st:St) (K K' :St->Prop),(∀s,K s->K' s)->opsK P l st K->opsK P l st K' :=by
  intro l
  induction l with
  |nil=>exact fun st K K' h hk=>h st hk
  |cons o r ih=>exact fun st K K' h hk=>qfH (qfG fun s hs=>ih s K K' h hs) (ih _ K K' h) hk
 exact mono ops st _ _ (fun s hs=>by show awp P c Q (s.keepS ks);rw[hs];exact h2) h1
theorem qrI{P:Env}{ops:List DO}{st:St}{ks:List Nat}{c:AC}{Q:Exit->St->Prop}(st1:St)(h1:dsK P ops st (fun st' =>st'.keepS ks=st1))(h2:awp P c Q st1):dsK P ops st (fun st' =>awp P (.cut ks c) Q st'):=by
 have dop: ∀(x:DO) (st:St) (K K' :St->Prop),(∀s,K s->K' s)->dopG P x st K->dopG P x st K' :=by
  intro x st K K' h hk
  unfold dopG at hk ⊢
  split
  ·rename_i hs
   rw[if_pos hs]at hk
   refine⟨hk.1,qfH (fun hd=> ?_) (h _) hk.2⟩
   unfold dopK at hd ⊢
   split
   ·rename_i hop
    rw[hop]at hd
    obtain⟨post,a,b,c⟩:=hd
    exact⟨post,a,b,fun r hr=>⟨(c r hr).1,h _ (c r hr).2⟩⟩
   ·rename_i hop
    rw[hop]at hd
    simp only at hd ⊢
    split at hd
    ·obtain⟨h0,post,a,b,c⟩:=hd
     exact⟨h0,post,a,b,fun r hr=>⟨(c r hr).1,h _ (c r hr).2⟩⟩
    ·exact hd.elim
   ·rename_i hop hop3
    have hd:qcK st x.t x.u x.o.op/\opK P x.o st (fun st' =>qcM x st' /\K st'):=by
     split at hd
     ·rename_i hop2;exact absurd hop2 (hop _ _)
     ·rename_i hop2;exact absurd hop2 (hop3 _ _)
     ·exact hd
    exact⟨hd.1,qfG (fun s hs=>⟨hs.1,h s hs.2⟩) hd.2⟩
  ·rename_i hs
   rw[if_neg hs]at hk
   exact qfH (qfG h) (h _) hk
 have mono: ∀(l:List DO) (st:St) (K K' :St->Prop),(∀s,K s->K' s)->dsK P l st K->dsK P l st K' :=by
  intro l
  induction l with
  |nil=>exact fun st K K' h hk=>h st hk
  |cons o r ih=>exact fun st K K' h hk=>dop o st _ _ (fun s hs=>ih s K K' h hs) hk
 exact mono ops st _ _ (fun s hs=>by show awp P c Q (s.keepS ks);rw[hs];exact h2) h1
end Go.Vc
namespace Go.Vc
open Go Go.RowKit
inductive Ty where
 |b
 |i (k:IntKind)
 |sl (es:Nat) (ts:List Ty)
def qrL(P:Program):Nat->TypeId->List Ty->Bool
 |0,_,_=>false
 | n + 1, t, ts => match P.underlying t with
   |some .bool=>(match ts with|[.b]=>true|_=>false)
   |some (.int k)=>(match ts with|[.i k']=>k==k' |_=>false)
   |some (.slice e)=>(match ts with|[.sl es us]=>us.length==es&&P.cellsOf e==es&&decide (0<es)&&qrL P n e us|_=>false)
   | some (.struct fs) => fs.toList.all (fun f => qrL P n f.type ((ts.drop f.offset).take (P.cellsOf f.type))) && ts.length == P.cellsOf t &&
     (List.range ts.length).all fun j=>fs.toList.any fun f=>decide (f.offset<=j)&&decide (j<f.offset+P.cellsOf f.type)
   | some (.array m e) => (List.range m).all (fun i => qrL P n e ((ts.drop (i * P.cellsOf e)).take (P.cellsOf e))) && ts.length == P.cellsOf t &&
     (List.range ts.length).all fun j=>(List.range m).any fun i=>decide (i*P.cellsOf e<=j)&&decide (j<i*P.cellsOf e+P.cellsOf e)
   |_=>false
inductive CellB (B:Nat):Ty->PV->Prop
 |b (x):CellB B .b (.sc (.bool x))
 |i (k n):k.min<=n->n<=k.max->CellB B (.i k) (.sc (.int k n))
 |sl (es ts) (rows:List (List PV)):rows.length<=B->(∀r∈rows,r.length=ts.length)->(∀r∈rows,∀(j:Nat) (t:Ty) (c:PV),ts[j]? =some t->r[j]? =some c->CellB B t c)->CellB B (.sl es ts) (.sl true es rows)
abbrev qrM:Ty->PV->Prop:=CellB maxLen
structure Meas {H:Type} (μ:DataW H->Nat):Prop where
 len: ∀l r,l.length<=μ (.slice l r)
 el: ∀l r,∀e∈l,μ e<=μ (.slice l r)
 agg: ∀l,∀e∈l,μ e<=μ (.agg l)
def Fits{H:Type}(B:Nat)(d:DataW H):Prop:=maxLen<=B\/ ∃μ:DataW H->Nat,Meas μ/\μ d<=B
theorem Fits.agg{H:Type}{B:Nat}{l:List (DataW H)}{e:DataW H}(h:Fits B (.agg l))(he:e∈l):Fits B e:=h.imp _root_.id fun⟨μ,h1,h2⟩=>⟨μ,h1,Nat.le_trans (h1.agg l e he) h2⟩
theorem Fits.el{H:Type}{B:Nat}{l r:List (DataW H)}{e:DataW H}(h:Fits B (.slice l r))(he:e∈l):Fits B e:=h.imp _root_.id fun⟨μ,h1,h2⟩=>⟨μ,h1,Nat.le_trans (h1.el l r e he) h2⟩
theorem Fits.len{H:Type}{B:Nat}{l r:List (DataW H)}(h:Fits B (.slice l r))(hl:l.length<=maxLen):l.length<=B:=by
 rcases h with h|⟨μ,h1,h2⟩
 ·omega
 ·have:=h1.len l r;omega
theorem qrN{α β:Type}{f:α->Option β} : ∀ {l:List α} {r:List β},l.mapM f=some r->r.length=l.length
 |[],r,h=>by simp at h;subst h;rfl
 | a :: l, r, h => by
   rw[List.mapM_cons]at h
   cases ha:f a with
   |none=>rw[ha]at h;cases h
   |some y=>
     rw[ha]at h
     cases hl:l.mapM f with
     |none=>rw[hl]at h;cases h
     |some ys=>
       rw[hl]at h
       cases h
       simp[qrN hl]
theorem qrO{α β:Type}{f:α->Option β} : ∀ {l:List α} {r:List β},l.mapM f=some r-> ∀x∈l,∃y∈r,f x=some y
 |[],_,_,x,hx=>by cases hx
 | a :: l, r, h, x, hx => by
   rw[List.mapM_cons]at h
   cases ha:f a with
   |none=>rw[ha]at h;cases h
   |some y=>
     rw[ha]at h
     cases hl:l.mapM f with
     |none=>rw[hl]at h;cases h
     |some ys=>
       rw[hl]at h
       cases h
       rcases List.mem_cons.1 hx with rfl|hx
       ·exact⟨y,by simp,ha⟩
       ·obtain⟨z,h1,h2⟩:=qrO hl x hx
        exact⟨z,by simp[h1],h2⟩
theorem qrP{α:Type}{Q:Nat->α->Prop} : ∀n:Nat,(∀j,j<n-> ∃c,Q j c)-> ∃l:List α,l.length=n/\ ∀j c,l[j]? =some c->Q j c
 |0,_=>⟨[],rfl,fun j c h=>by simp at h⟩
 | n + 1, h => by
   obtain⟨l,h1,h2⟩:=qrP n fun j hj=>h j (by omega)
   obtain⟨c,hc⟩:=h n (by omega)
   refine⟨l++[c],by simp[h1],fun j c' hj=> ?_⟩
   by_cases hjn:j<l.length
   ·rw[yA hjn]at hj;exact h2 j c' hj
   ·rw[yB (by omega)]at hj
    have:j-l.length=0:=by
     have:=(zM.1 hj).1
     simp at this;omega
    rw[this]at hj
    simp at hj
    subst hj
    have:j=n:=by omega
    rw[this];exact hc
theorem qrQ(a:Addr)(m n:Nat):(a.add m).add n=a.add (m+n):=by
 unfold Addr.add
 by_cases hm:m=0
 ·subst hm;simp
 ·by_cases hn:n=0
  ·subst hn;simp
  ·simp[hm,hn,show m+n≠0 by omega,Nat.add_assoc]
def ZW(w:World):Zone:=fun _ b=>b<w.heap.size
section
variable {H:Type} {enc:TypeId×Value->H} {P:Program} {w:World} {sp:Nat->Bool} {hd:Bool}
theorem qrT {B : Nat} : ∀ (n fuel : Nat) (t : TypeId) (ts : List Ty) (cs : List Value) (x : DataW H × List MemPlace), qrL P n t ts = true -> Fits B x.1 -> DataW.trod enc P w 0 sp hd fuel t cs = some x ->
  cs.length=ts.length/\ ∀(j:Nat) (t' :Ty),ts[j]? =some t' -> ∃(c:PV) (v:Value),cs[j]? =some v/\CellB B t' c/\TR w (ZW w) c v/\v.oneCell' =true:=by
 intro n
 induction n with
 |zero=>intro fuel t ts cs x h;simp[qrL]at h
 |succ n ih=>
   intro fuel t ts cs x h hB hx
   cases fuel with
   |zero=>simp[DataW.trod]at hx
   |succ fuel=>
     unfold qrL at h
     unfold DataW.trod at hx
     split at h
     ·rename_i hu
      rw[hu]at hx
      split at h
      ·split at hx<;>first|(cases hx;done)|skip
       all_goals first
        |(rename_i h1;cases h1;done)
        |skip
       rename_i b _
       refine⟨rfl,fun j t' hj=> ?_⟩
       cases j with
       |zero=>simp at hj;subst hj;exact⟨.sc (.bool b),.bool b,rfl,.b b,.sc _ rfl,rfl⟩
       |succ j=>simp at hj
      ·cases h
     ·rename_i k hu
      rw[hu]at hx
      split at h
      ·rename_i k'
       have hk:k=k' :=by cases k<;>cases k' <;>first|rfl|(cases h;done)
       subst hk
       split at hx<;>first|(cases hx;done)|skip
       all_goals first
        |(rename_i h1;cases h1;done)
        |skip
       rename_i k2 k1 m h1
       cases h1
       split at hx
       ·rename_i hh
        obtain⟨rfl,hw⟩:=hh
        simp only[Lit.wf,zN,decide_eq_true_eq]at hw
        refine⟨rfl,fun j t' hj=> ?_⟩
        cases j with
        |zero=>simp at hj;subst hj;exact⟨.sc (.int _ m),.int _ m,rfl,.i _ m hw.1 hw.2,.sc _ rfl,rfl⟩
        |succ j=>simp at hj
       ·cases hx
      ·cases h
     ·rename_i e hu
      rw[hu]at hx
      split at h
      ·rename_i es us
       simp only[zN,beq_iff_eq,decide_eq_true_eq]at h
       obtain⟨⟨⟨h1,h2⟩,h3⟩,h4⟩:=h
       rcases cs with _|⟨v,_|⟨v2,r⟩⟩
       ·cases hx
       ·have nilCase : ∀ (p : Option Addr) (cap : Nat), cap <= maxLen -> ([Value.slice p 0 cap] : List Value).length = [Ty.sl es us].length /\ ∀ (j : Nat) (t' : Ty), [Ty.sl es us][j]? = some t' -> ∃ (c : PV) (v' : Value), [Value.slice p 0 cap][j]? = some v' /\ CellB B t' c /\ TR w (ZW w) c v' /\ v'.oneCell' = true := fun p cap hcap => by
         refine⟨rfl,fun j t' hj=> ?_⟩
         cases j with
         |zero=>
           simp at hj;subst hj
           exact⟨.sl true es [],_,rfl,.sl es us [] (Nat.zero_le _) (fun r hr=>by cases hr) (fun r hr=>by cases hr),.sl0 true es p cap hcap,rfl⟩
         |succ j=>simp at hj
        cases v<;>first|(cases hx;done)|skip
        rename_i p len cap
        cases p with
        |none=>
          cases len with
          | zero => cases cap with
            |zero=>exact nilCase none 0 (Nat.zero_le _)
            |succ c=>cases hx
          |succ l=>cases hx
        |some ad=>
          simp only at hx
          split at hx
          ·rename_i hb
           obtain⟨_,hlc,hcm⟩:=hb
           cases hm:(List.range len).mapM (fun i=>(w.cells? 0 (ad.add (i*P.cellsOf e)) (P.cellsOf e)).bind (DataW.trod enc P w 0 sp hd fuel e))with
           |none=>rw[hm]at hx;cases hx
           |some elems=>
             have hxs: ∃r,x.1= .slice (elems.map (·.1)) r:=by
              rw[hm]at hx
              obtain⟨rest,_,hx⟩:=zR.1 hx
              exact⟨_,by rw[<- hx]⟩
             obtain⟨rest,hxs⟩:=hxs
             rw[hxs]at hB
             have hel:=qrN hm
             rw[List.length_range]at hel
             have hlB:len<=B:=by
              have:=hB.len (by rw[yG];omega)
              rw[yG]at this
              omega
             clear hx
             by_cases hl0:len=0
             ·subst hl0;exact nilCase (some ad) cap hcm
             have row: ∀i,i<len-> ∃rr:List PV,rr.length=es/\ ∀(j:Nat) (c:PV),rr[j]? =some c-> ∃v',w.cell? (ad.add (i*es+j))=some v' /\(∀t',us[j]? =some t' ->CellB B t' c)/\TR w (ZW w) c v' /\v'.oneCell' =true:=fun i hi=>by
              obtain⟨y,hye,hy⟩:=qrO hm i (List.mem_range.2 hi)
              cases hc:w.cells? 0 (ad.add (i*P.cellsOf e)) (P.cellsOf e)with
              |none=>rw[hc]at hy;cases hy
              |some cs' =>
                rw[hc]at hy
                have hy:DataW.trod enc P w 0 sp hd fuel e cs' =some y:=hy
                obtain⟨g1,g2⟩:=ih fuel e us cs' y h4 (hB.el (List.mem_map_of_mem hye)) hy
                rw[h2]at hc
                obtain⟨_,hlen,hat⟩:=World.cells?_some hc
                refine qrP (Q:=fun j c=> ∃v',w.cell? (ad.add (i*es+j))=some v' /\(∀t',us[j]? =some t' ->CellB B t' c)/\TR w (ZW w) c v' /\v'.oneCell' =true) es fun j hj=> ?_
                obtain⟨c,v',q1,q2,q3,q4⟩:=g2 j us[j] (zL (by omega))
                refine⟨c,v',?_,fun t' ht' => ?_,q3,q4⟩
                ·rw[<- qrQ,hat j hj];exact q1
                ·rw[zL (by omega)]at ht';cases ht';exact q2
             obtain⟨rows,hr1,hr2⟩:=qrP (Q:=fun i (rr:List PV)=>rr.length=es/\ ∀(j:Nat) (c:PV),rr[j]? =some c-> ∃v',w.cell? (ad.add (i*es+j))=some v' /\(∀t',us[j]? =some t' ->CellB B t' c)/\TR w (ZW w) c v' /\v'.oneCell' =true) len row
             have hrow: ∀r∈rows,∃i,i<len/\rows[i]? =some r:=fun r hr=>by
              obtain⟨i,hi,rfl⟩:=List.getElem_of_mem hr
              exact⟨i,by omega,zL hi⟩
             have hspot:ad.spot=none/\ad.block<w.heap.size:=by
              obtain⟨r0,hr0⟩: ∃r0,rows[0]? =some r0:=⟨rows[0],zL (by omega)⟩
              obtain⟨e1,e2⟩:=hr2 0 r0 hr0
              obtain⟨v',e3,_⟩:=e2 0 r0[0] (zL (by omega))
              simp only[Nat.zero_mul,Nat.zero_add,Addr.add,if_true]at e3
              unfold World.cell? at e3
              split at e3
              ·rename_i hb
               split at e3
               ·cases e3
               ·rename_i hs
                refine⟨by cases hsp:ad.spot<;>simp_all,?_⟩
                exact(Array.getElem?_eq_some_iff.1 hb).1
              ·cases e3
             have haddr: ∀k,ad.add k=⟨ad.block,ad.off+k,none⟩:=fun k=>by
              obtain⟨b0,o0,s0⟩:=ad
              have:s0=none:=hspot.1
              subst this
              unfold Addr.add
              split
              ·rename_i hk;subst hk;rfl
              ·rfl
             refine⟨rfl,fun j t' hj=> ?_⟩
             cases j with
             |succ j=>simp at hj
             |zero=>
               simp at hj;subst hj
               refine⟨.sl true es rows,_,rfl,.sl es us rows (by omega) (fun r hr=> ?_) (fun r hr j t'' c ht hc=> ?_),?_,rfl⟩
               ·obtain⟨i,hi,hri⟩:=hrow r hr;rw[(hr2 i r hri).1,h1]
               ·obtain⟨i,hi,hri⟩:=hrow r hr
                obtain⟨v',_,q,_⟩:=(hr2 i r hri).2 j c hc
                exact q t'' ht
               ·have had : ad = ⟨ad.block, ad.off, none⟩ := by
                 obtain⟨b0,o0,s0⟩:=ad
                 have:s0=none:=hspot.1
                 subst this;rfl
                rw[had,<- hr1]
                refine TR.sl true es rows ad.block ad.off cap (fun i j=>(w.cell? (ad.add (i*es+j))).getD undef) h3 hspot.2 (by omega) (by omega) hcm (fun r hr=> ?_) (fun i j hi hj=> ?_) (fun i j r c hi hj=> ?_)
                ·obtain⟨i,hi,hri⟩:=hrow r hr;exact(hr2 i r hri).1
                ·have hri:rows[i]? =some rows[i]:=zL hi
                 obtain⟨e1,e2⟩:=hr2 i _ hri
                 obtain⟨v',e3,_,_,e4⟩:=e2 j rows[i][j] (zL (by omega))
                 rw[e3,<- haddr,e3]
                 exact⟨rfl,e4⟩
                ·obtain⟨v',e3,_,e5,_⟩:=(hr2 i r hi).2 j c hj
                 rw[e3];exact e5
          ·cases hx
       ·exfalso
        split at hx<;>first|(cases hx;done)|(rename_i h5 h6;cases h5;done)|(rename_i h5 h6;cases h6;done)|simp_all
      ·cases h
     ·rename_i fs hu
      rw[hu]at hx
      simp only[zN,beq_iff_eq,yE,List.any_eq_true,decide_eq_true_eq]at h
      obtain⟨⟨h1,h2⟩,h3⟩:=h
      have hx:(if cs.length=P.cellsOf t then((fs.toList.mapM fun f=>DataW.trod enc P w 0 sp hd fuel f.type ((cs.drop f.offset).take (P.cellsOf f.type))).map fun xs=>(DataW.agg (xs.map (·.1)),xs.flatMap (·.2)))else none)=some x:=hx
      split at hx
      ·rename_i hl
       refine⟨by omega,fun j t' hj=> ?_⟩
       have hjl:=(zM.1 hj).1
       obtain⟨f,hf,hf1,hf2⟩:=h3 j (List.mem_range.2 hjl)
       cases hm:fs.toList.mapM (fun f=>DataW.trod enc P w 0 sp hd fuel f.type ((cs.drop f.offset).take (P.cellsOf f.type)))with
       |none=>rw[hm]at hx;cases hx
       |some ys=>
         obtain⟨y,hye,hy⟩:=qrO hm f hf
         have hxa:x.1= .agg (ys.map (·.1)):=by
          rw[hm]at hx
          have hx:some (DataW.agg (ys.map (·.1)),ys.flatMap (·.2))=some x:=hx
          cases hx;rfl
         rw[hxa]at hB
         obtain⟨g1,g2⟩:=ih fuel f.type _ _ y (h1 f hf) (hB.agg (List.mem_map_of_mem hye)) hy
         have hj' :((ts.drop f.offset).take (P.cellsOf f.type))[j-f.offset]? =some t' :=by
          rw[List.getElem?_take,if_pos (by omega),List.getElem?_drop,show f.offset+(j-f.offset)=j from by omega];exact hj
         obtain⟨c,v,q1,q2⟩:=g2 _ t' hj'
         refine⟨c,v,?_,q2⟩
         rw[List.getElem?_take,if_pos (by omega),List.getElem?_drop,show f.offset+(j-f.offset)=j from by omega]at q1
         exact q1
      ·cases hx
     ·rename_i m e hu
      rw[hu]at hx
      simp only[zN,beq_iff_eq,yE,List.any_eq_true,decide_eq_true_eq]at h
      obtain⟨⟨h1,h2⟩,h3⟩:=h
      have hx:(if cs.length=P.cellsOf t then(((List.range m).mapM fun i=>DataW.trod enc P w 0 sp hd fuel e ((cs.drop (i*P.cellsOf e)).take (P.cellsOf e))).map fun xs=>(DataW.agg (xs.map (·.1)),xs.flatMap (·.2)))else none)=some x:=hx
      split at hx
      ·rename_i hl
       refine⟨by omega,fun j t' hj=> ?_⟩
       have hjl:=(zM.1 hj).1
       obtain⟨i,hi,hf1,hf2⟩:=h3 j (List.mem_range.2 hjl)
       cases hm:(List.range m).mapM (fun i=>DataW.trod enc P w 0 sp hd fuel e ((cs.drop (i*P.cellsOf e)).take (P.cellsOf e)))with
       |none=>rw[hm]at hx;cases hx
       |some ys=>
         obtain⟨y,hye,hy⟩:=qrO hm i hi
         have hxa:x.1= .agg (ys.map (·.1)):=by
          rw[hm]at hx
          have hx:some (DataW.agg (ys.map (·.1)),ys.flatMap (·.2))=some x:=hx
          cases hx;rfl
         rw[hxa]at hB
         obtain⟨g1,g2⟩:=ih fuel e _ _ y (h1 i hi) (hB.agg (List.mem_map_of_mem hye)) hy
         have hj' :((ts.drop (i*P.cellsOf e)).take (P.cellsOf e))[j-i*P.cellsOf e]? =some t' :=by
          rw[List.getElem?_take,if_pos (by omega),List.getElem?_drop,show i*P.cellsOf e+(j-i*P.cellsOf e)=j from by omega];exact hj
         obtain⟨c,v,q1,q2⟩:=g2 _ t' hj'
         refine⟨c,v,?_,q2⟩
         rw[List.getElem?_take,if_pos (by omega),List.getElem?_drop,show i*P.cellsOf e+(j-i*P.cellsOf e)=j from by omega]at q1
         exact q1
      ·cases hx
     ·cases h
def aggT(P:Program)(t:TypeId):Bool:=match P.underlying t with|some (.struct _)|some (.array _ _)=>true|_=>false
def RowB(B:Nat)(ts:List Ty)(pc:List PV):Prop:=pc.length=ts.length/\ ∀(j:Nat) (t:Ty) (c:PV),ts[j]? =some t->pc[j]? =some c->CellB B t c
abbrev RowV:List Ty->List PV->Prop:=RowB maxLen
theorem qrU {B : Nat} {n : Nat} {t : TypeId} {ts : List Ty} {v : Value} {base : Nat} {d : DataW H} {ps : List MemPlace} (hf : qrL P n t ts = true) (hs : aggT P t = true) (hok : Value.okWide P w .any base t v)
  (hB:Fits B d) (h:DataW.Trod enc P w 0 sp hd t v d ps): ∃pc:List PV,RowB B ts pc/\TV w (ZW w) (.agg pc) v:=by
 obtain⟨fuel,h⟩:=h
 have hv: ∃cs:Array Value,v= .agg cs:=by
  unfold Value.okWide at hok
  unfold aggT at hs
  split at hs
  ·rename_i hu;rw[hu]at hok;obtain⟨cs,e,_⟩:=hok;exact⟨cs,e⟩
  ·rename_i hu;rw[hu]at hok;obtain⟨cs,e,_⟩:=hok;exact⟨cs,e⟩
  ·cases hs
 obtain⟨cs,rfl⟩:=hv
 obtain⟨g1,g2⟩:=qrT n fuel t ts cs.toList (d,ps) hf hB h
 obtain⟨pc,h1,h2⟩:=qrP (Q:=fun j c=> ∃v,cs.toList[j]? =some v/\(∀t',ts[j]? =some t' ->CellB B t' c)/\TR w (ZW w) c v/\v.oneCell' =true) ts.length fun j hj=>by
  obtain⟨c,v,q1,q2,q3,q4⟩:=g2 j ts[j] (zL hj)
  exact⟨c,v,q1,fun t' ht=>by rw[zL hj]at ht;cases ht;exact q2,q3,q4⟩
 refine⟨pc,⟨h1,fun j t' c ht hc=> ?_⟩,cs,rfl,by rw[h1,<- g1];simp,fun j c hc=> ?_⟩
 ·obtain⟨v,_,q,_⟩:=h2 j c hc;exact q t' ht
 ·obtain⟨v,q1,_,q3,q4⟩:=h2 j c hc
  have:cs.getD j undef=v:=by
   rw[zO]
   have:cs[j]? =some v:=by simpa using q1
   rw[this];rfl
  rw[this];exact⟨q3,q4⟩
theorem qrV {n : Nat} {t : TypeId} {ts : List Ty} {v : Value} {base : Nat} {d : DataW H} {ps : List MemPlace} (hf : qrL P n t ts = true) (hs : aggT P t = true) (hok : Value.okWide P w .any base t v)
  (h:DataW.Trod enc P w 0 sp hd t v d ps): ∃pc:List PV,RowV ts pc/\TV w (ZW w) (.agg pc) v:=qrU hf hs hok (.inl (Nat.le_refl _)) h
theorem qrW {B : Nat} {n : Nat} {t : TypeId} {t' : Ty} {v : Value} {d : DataW H} {ps : List MemPlace} (hf : qrL P n t [t'] = true) (hv : v.cells = #[v])
  (hB:Fits B d) (h:DataW.Trod enc P w 0 sp hd t v d ps): ∃c:PV,CellB B t' c/\TV w (ZW w) c v:=by
 obtain⟨fuel,h⟩:=h
 rw[hv]at h
 obtain⟨g1,g2⟩:=qrT n fuel t [t'] _ (d,ps) hf hB h
 obtain⟨c,u,q1,q2,q3,q4⟩:=g2 0 t' rfl
 simp at q1;subst q1
 refine⟨c,q2,?_⟩
 cases c<;>simp only[TV,TA]<;>first|exact q3|(cases q3)
theorem argC {n : Nat} {t : TypeId} {t' : Ty} {v : Value} {d : DataW H} {ps : List MemPlace} (hf : qrL P n t [t'] = true) (hv : v.cells = #[v])
  (h:DataW.Trod enc P w 0 sp hd t v d ps): ∃c:PV,qrM t' c/\TV w (ZW w) c v:=qrW hf hv (.inl (Nat.le_refl _)) h
theorem qrX {f : FuncId} {args : List PV} {vs : Array Value} (hg : GL P w) (hc : FnEq P f args (.bool true)) (hn : vs.size = args.length) (h : ∀ (j : Nat) (c : PV), args[j]? = some c -> TV w (ZW w) c (vs.getD j undef)) :
  Calls P f vs w fun e w' =>e= .returned (.bool true)/\Below w.heap.size w w' :=by
 refine(hc w (ZW w) hg (fun _ h=>h) (fun _ _ h=>h) vs hn h).mono ?_
 rintro e w' ⟨v,r,rfl,rfl,h1,h2⟩
 cases h1
 exact⟨rfl,h2⟩
end
end Go.Vc
namespace Go.Proofs.YtecoaapkcnhlhaaGreatDoor.Txt
open Go Go.Vc
set_option maxRecDepth 100000
def ac80_r15:AC:=
 (.seq (.reg [0,58,1,7] [
 lF 55 1 7,mT 56 1,aO 57 (.clm 102 [(.t 55),(.t 56)]),mT 4 57])
 .ret)
def ac80:AC:=
 (.seq (.reg [0,58,0,1] [
 xT 2 0,aO 4 (.mv (.c (.nil)))])
 (.seq (.reg [0,58,1,2] [
 uE 9 5 2,mT 10 1,aO 11 (.cal 96 [(.t 9),(.t 10)]),mT 8 11,aO 12 (.ext (.t 8) 0),aO 13 (.ext (.t 8) 1),aO 5 (.alc [zI,zI,zI,zI]),sT 4 5 12,mT 6 13])
 (.seq (.seq (.reg [0,58,1,2,5,6] [
 mT 14 6,aO 15 (.cmp .neq .i64 (.t 14) (kI 0))])
 (.cond (.t 15)
 (.seq (.reg [0,58] [
 aO 4 (.mv (.c (.nil)))])
 .ret)
 .skip))
 (.seq (.reg [0,58,1,2,5] [
 uE 16 5 2,aO 17 (.bld [zI,zI,zI,zI,.nil,.nil] [(0,5,(.t 16))]),xT 18 17,aO 7 (.alc [.sc (.pointer none)]),sT 1 7 18])
 (.seq (.seq (.reg [0,58,1,2,5,7] [
 fA 19 0 5,lF 20 1 19])
 (.block 0
 (.seq (.reg [0,58,1,2,5,7,20] [
 eK 22 20 3,mT 21 22])
 (.cond (.t 21)
 (.seq (.reg [0,58,1,5,7] [
 lF 23 1 7,fA 24 1 5,lF 25 1 24,fA 26 2 5,lF 27 1 26,aO 28 (.clm 97 [(.t 23),(.t 25),(.t 27)])])
 (.seq (.reg [0,58,1,5,7] [
 fA 29 3 5,lF 30 1 29,eK 31 30 3])
 (.cond (.t 31)
 (.reg [0,58,1,5,7] [
 lF 32 1 7,fA 33 1 5,lF 34 1 33,fA 35 2 5,lF 36 1 35,aO 37 (.ari .sub true .i64 (.t 36) (kI 1)),aO 38 (.clm 98 [(.t 32),(kI 1),(.t 34),(.t 37),(kI 0)])])
 .skip)))
 (.seq (.reg [0,58,1,2,5,7,20] [
 eK 40 20 7,mT 39 40])
 (.cond (.t 39)
 (.reg [0,58,1,2,5,7] [
 lF 41 1 7,fA 42 0 2,lF 43 1 42,aO 44 (.ari .sub true .i64 (.t 43) (kI 1)),fA 45 2 5,lF 46 1 45,aO 47 (.clm 97 [(.t 41),(.t 44),(.t 46)])])
 (.seq (.seq (.reg [0,58,1,2,5,7,20] [
 eK 49 20 4,mT 48 49])
 (.cond (.t 48)
 .skip
 (.reg [0,58,1,2,5,7,20] [
 eK 50 20 5,mT 48 50])))
 (.cond (.t 48)
 (.reg [0,58,1,2,5,7] [
 uE 51 5 2,uE 52 4 5,aO 53 (.mkf 100 [(.t 7),(.t 5),(.t 2)]),aO 54 (.clm 99 [(.t 51),(.t 52),(.t 53)])])
 .skip))))))))
 ac80_r15)))))
def rv80:List RV:=[.tmp 4]
theorem ok80:fnOk Tryz.prog ac80 rv80 Tryz.f80=true:=by kernel_rfl

def ac96:AC:=
 (.seq (.reg [0,103,0,1] [
 xT 2 0,aO 4 (.alc [zI,zI,zI,zI]),mK 5 0])
 (.seq (.reg [0,103,1,2,4] [
 mT 10 1,uE 11 5 2,aO 12 (.cal 66 [(.t 11)]),aO 13 (.ari .sub true .i64 (.t 10) (.t 12)),mT 6 13])
 (.seq (.block 0
 (.seq (.reg [0,103,1,2,4,6] [
 mT 15 1,aO 16 (.cmp .lss .i64 (.t 15) (kI 0)),mT 17 16,uA 18 17 (.mv (.t 1)),uA 19 17 (.ld true 5 (.t 2)),uA 20 17 (.cal 40 [(.t 19)]),uA 21 17 (.cmp .geq .i64 (.t 18) (.t 20)),aO 22 (uG 17 21),mT 14 22])
 (.cut [0,103,1,2,4,6,14] (.cond (.t 14)
 (.seq (.reg [0,103,4] [
 aO 23 (.bld [zI,zI,zI,zI] []),sT 4 4 23,mK 5 1])
 .ret)
 (.seq (.reg [0,103,1,2,4,6] [
 mT 25 6,fA 26 3 2,lF 27 1 26,aO 28 (.cmp .geq .i64 (.t 25) (.t 27)),mT 24 28])
 (.cond (.t 24)
 (.seq (.drw [0,103,2,4,6] [
 eA 29 0 2,eL 30 1 29,eM 31 6,eA 32 3 2,eL 33 1 32,eT 34 (.ari .sub true .i64 (.t 31) (.t 33)),eA 35 1 2,eL 36 1 35,eT 37 (.dvd .rem true .i64 (.t 34) (.t 36)),eM 38 6,eA 39 3 2,eL 40 1 39,eT 41 (.ari .sub true .i64 (.t 38) (.t 40)),eF 42 (.bld [zI,zI,zI,zI] [(0,1,(kI 7)),(1,1,(.t 30)),(2,1,(.t 37)),(3,1,(.t 41))]),⟨sT 4 4 42,[],[],false⟩,eF 5 (.mv (kI 0))])
 .ret)
 (.seq (.reg [0,103,1,2,4,6] [
 mT 44 6,aO 45 (.cmp .geq .i64 (.t 44) (kI 0)),mT 43 45])
 (.cond (.t 43)
 (.seq (.reg [0,103,2,4,6] [
 mT 46 6,fA 47 1 2,lF 48 1 47,aO 49 (.dvd .rem true .i64 (.t 46) (.t 48)),mT 50 6,aO 51 (.bld [zI,zI,zI,zI] [(0,1,(kI 6)),(1,1,(kI (-1))),(2,1,(.t 49)),(3,1,(.t 50))]),sT 4 4 51,mK 5 0])
 .ret)
 .skip))))))))
 (.seq (.drw [0,103,1,2,4] [
 eM 52 1,eT 53 (.ld true 5 (.t 2)),eT 54 (.cal 90 [(.t 53)]),eT 55 (.dvd .quo true .i64 (.t 52) (.t 54)),eM 56 1,eT 57 (.ld true 5 (.t 2)),eT 58 (.cal 90 [(.t 57)]),eT 59 (.dvd .rem true .i64 (.t 56) (.t 58)),eM 7 55,eF 8 (.mv (.t 59))])
 (.seq (.drw [0,103,2,4,7,8] [
 eU 60 (.mv (.t 7)) [] [9],eU 61 (.fa 0 (.t 2)) [] [9],eU 62 (.ld false 1 (.t 61)) [] [9],eU 63 (.dvd .rem true .i64 (.t 60) (.t 62)) [] [9],eU 64 (.mv (.t 7)) [] [9],eU 65 (.fa 0 (.t 2)) [] [9],eU 66 (.ld false 1 (.t 65)) [] [9],eU 67 (.dvd .quo true .i64 (.t 64) (.t 66)) [] [9],eU 68 (.bld [zI,zI,zI,zI] [(0,1,(kI 1)),(1,1,(.t 63)),(2,1,(.t 67))]) [] [9],eU 9 (.alc [zI,zI,zI,zI]) [9] [],⟨sT 4 9 68,[],[],false⟩])
 (.seq (.block 1
 (.seq (.reg [0,103,2,4,8,9] [
 mT 70 8,fA 71 2 2,lF 72 1 71,aO 73 (.ari .add true .i64 (kI 6) (.t 72)),aO 74 (.cmp .geq .i64 (.t 70) (.t 73)),mT 69 74])
 (.cond (.t 69)
 (.drw [0,103,2,4,8,9] [
 eM 75 8,eT 76 (.ari .sub true .i64 (.t 75) (kI 2)),eT 77 (.ari .sub true .i64 (.t 76) (kI 4)),eA 78 2 2,eU 79 (.ld false 1 (.t 78)) [] [9],eT 80 (.ari .sub true .i64 (.t 77) (.t 79)),eA 81 0 9,⟨aN (.sto 1 (.t 81) (kI 5)),[],[9],true⟩,eF 82 (.fa 3 (.t 9)),⟨sT 1 82 80,[],[],false⟩])
 (.seq (.reg [0,103,4,8,9] [
 mT 84 8,aO 85 (.cmp .geq .i64 (.t 84) (kI 6)),mT 83 85])
 (.cond (.t 83)
 (.reg [0,103,4,8,9] [
 mT 86 8,aO 87 (.ari .sub true .i64 (.t 86) (kI 2)),aO 88 (.ari .sub true .i64 (.t 87) (kI 4)),fA 89 0 9,aN (.sto 1 (.t 89) (kI 4)),fA 90 3 9,sT 1 90 88])
 (.seq (.reg [0,103,4,8,9] [
 mT 92 8,aO 93 (.cmp .geq .i64 (.t 92) (kI 2)),mT 91 93])
 (.cond (.t 91)
 (.reg [0,103,4,8,9] [
 mT 94 8,aO 95 (.ari .sub true .i64 (.t 94) (kI 2)),fA 96 0 9,aN (.sto 1 (.t 96) (kI 3)),fA 97 3 9,sT 1 97 95])
 (.seq (.reg [0,103,4,8,9] [
 mT 99 8,eK 100 99 1,mT 98 100])
 (.cond (.t 98)
 (.reg [0,103,4,9] [
 fA 101 0 9,aN (.sto 1 (.t 101) (kI 2))])
 .skip)))))))))
 (.seq (.reg [0,103,4,9] [
 uE 102 4 9,sT 4 4 102,mK 5 0])
 .ret)))))))
def rv96:List RV:=[.cell 4 true 4,.tmp 5]
theorem ok96:fnOk Tryz.prog ac96 rv96 Tryz.f96=true:=by kernel_rfl

def ac66:AC:=
 (.seq (.reg [0,11,0] [
 xT 1 0,mK 2 0])
 (.seq (.drw [0,11,1] [
 eA 3 0 1,eL 4 1 3,eA 5 1 1,eL 6 1 5,eT 7 (.ari .mul true .i64 (.t 4) (.t 6)),eT 8 (.ld true 5 (.t 1)),eT 9 (.cal 90 [(.t 8)]),eF 10 (.ari .mul true .i64 (.t 7) (.t 9)),eF 2 (.mv (.t 10))])
 .ret))
def rv66:List RV:=[.tmp 2]
theorem ok66:fnOk Tryz.prog ac66 rv66 Tryz.f66=true:=by kernel_rfl

def ac40:AC:=
 (.seq (.reg [0,9,0] [
 xT 1 0,mK 2 0])
 (.seq (.drw [0,9,1] [
 eT 3 (.ld true 5 (.t 1)),eT 4 (.cal 66 [(.t 3)]),eA 5 3 1,eL 6 1 5,eT 7 (.ari .mul true .i64 (kI 2) (.t 6)),eF 8 (.ari .add true .i64 (.t 4) (.t 7)),eF 2 (.mv (.t 8))])
 .ret))
def rv40:List RV:=[.tmp 2]
theorem ok40:fnOk Tryz.prog ac40 rv40 Tryz.f40=true:=by kernel_rfl

def ac90:AC:=
 (.seq (.reg [0,7,0] [
 xT 1 0,mK 2 0])
 (.seq (.reg [0,7,1] [
 fA 3 2 1,lF 4 1 3,aO 5 (.ari .mul true .i64 (kI 2) (.t 4)),aO 6 (.ari .add true .i64 (kI 6) (.t 5)),mT 2 6])
 .ret))
def rv90:List RV:=[.tmp 2]
theorem ok90:fnOk Tryz.prog ac90 rv90 Tryz.f90=true:=by kernel_rfl

def ac107_r18:AC:=
 (.seq (.seq (.reg [0,87,2,3,7] [
 uE 74 5 2,mT 75 7,aO 76 (.cal 96 [(.t 74),(.t 75)]),mT 73 76,aO 77 (.ext (.t 73) 0),aO 78 (.ext (.t 73) 1),aO 8 (.alc [zI,zI,zI,zI]),sT 4 8 77,mT 9 78])
 (.seq (.reg [0,87,3,7,8,9] [
 mT 79 9,aO 80 (.cmp .neq .i64 (.t 79) (kI 0)),mT 81 80,uA 82 81 (.ld true 4 (.t 8)),uA 83 81 (.ld true 4 (.t 3)),uA 84 81 (.eqa true 4 (.t 82) (.t 83)),aO 85 (uG 81 84)])
 (.cut [0,87,7,85] (.cond (.t 85)
 (.seq (.reg [0,87] [
 mK 4 0,mK 5 1])
 .ret)
 .skip))))
 (.seq (.reg [0,87,7] [
 mT 86 7,mT 4 86,mK 5 0])
 .ret))
def ac107:AC:=
 (.seq (.reg [0,87,0,1] [
 xT 2 0,xT 3 1,mK 4 0,mK 5 0])
 (.seq (.drw [0,87,2,3] [
 eA 10 2 3,eL 11 1 10,eA 12 0 2,eL 13 1 12,eT 14 (.ari .mul true .i64 (.t 11) (.t 13)),eA 15 1 3,eL 16 1 15,eT 17 (.ari .add true .i64 (.t 14) (.t 16)),eT 18 (.ld true 5 (.t 2)),eT 19 (.cal 90 [(.t 18)]),eF 20 (.ari .mul true .i64 (.t 17) (.t 19)),eF 6 (.mv (.t 20))])
 (.seq (.reg [0,87,2,3,6] [
 mK 7 (-1)])
 (.seq (.seq (.reg [0,87,2,3,6,7] [
 fA 21 0 3,lF 22 1 21])
 (.block 0
 (.seq (.reg [0,87,2,3,6,7,22] [
 eK 24 22 1,mT 23 24])
 (.cond (.t 23)
 (.reg [0,87,2,3,6] [
 mT 25 6,mT 7 25])
 (.seq (.reg [0,87,2,3,6,7,22] [
 eK 27 22 2,mT 26 27])
 (.cond (.t 26)
 (.reg [0,87,2,3,6] [
 mT 28 6,uF 29 28 1,mT 7 29])
 (.seq (.reg [0,87,2,3,6,7,22] [
 eK 31 22 3,mT 30 31])
 (.cond (.t 30)
 (.reg [0,87,2,3,6] [
 mT 32 6,uF 33 32 2,fA 34 3 3,lF 35 1 34,aO 36 (.ari .add true .i64 (.t 33) (.t 35)),mT 7 36])
 (.seq (.reg [0,87,2,3,6,7,22] [
 eK 38 22 4,mT 37 38])
 (.cond (.t 37)
 (.reg [0,87,2,3,6] [
 mT 39 6,uF 40 39 2,uF 41 40 4,fA 42 3 3,lF 43 1 42,aO 44 (.ari .add true .i64 (.t 41) (.t 43)),mT 7 44])
 (.seq (.reg [0,87,2,3,6,7,22] [
 eK 46 22 5,mT 45 46])
 (.cond (.t 45)
 (.reg [0,87,2,3,6] [
 mT 47 6,uF 48 47 2,uF 49 48 4,fA 50 2 2,lF 51 1 50,aO 52 (.ari .add true .i64 (.t 49) (.t 51)),fA 53 3 3,lF 54 1 53,aO 55 (.ari .add true .i64 (.t 52) (.t 54)),mT 7 55])
 (.seq (.reg [0,87,2,3,7,22] [
 eK 57 22 6,mT 56 57])
 (.cond (.t 56)
 (.drw [0,87,2,3] [
 eT 58 (.ld true 5 (.t 2)),eT 59 (.cal 66 [(.t 58)]),eA 60 3 3,eL 61 1 60,eF 62 (.ari .add true .i64 (.t 59) (.t 61)),eF 7 (.mv (.t 62))])
 (.seq (.reg [0,87,2,3,7,22] [
 eK 64 22 7,mT 63 64])
 (.cond (.t 63)
 (.drw [0,87,2,3] [
 eT 65 (.ld true 5 (.t 2)),eT 66 (.cal 66 [(.t 65)]),eA 67 3 2,eL 68 1 67,eT 69 (.ari .add true .i64 (.t 66) (.t 68)),eA 70 3 3,eL 71 1 70,eF 72 (.ari .add true .i64 (.t 69) (.t 71)),eF 7 (.mv (.t 72))])
 .skip))))))))))))))))
 ac107_r18))))
def rv107:List RV:=[.tmp 4,.tmp 5]
theorem ok107:fnOk Tryz.prog ac107 rv107 Tryz.f107=true:=by kernel_rfl

def ac97_200:AC:=
 (.seq (.reg [200,21,200,201,202] [
 mT 207 200,aO 208 (.nck (.t 207)),fA 209 0 208,fA 210 2 209,lF 211 1 210,mK 212 0])
 (.block 0
 (.loop [200,21,200,201,202,211,212]
 (.seq (.reg [200,21,200,201,202,211,212] [
 lS 213 212 211])
 (.seq (.cond (.t 213)
 .skip
 (.exit 0))
 (.seq (.block 1
 (.seq (.reg [200,21,200,201,202,211,212] [
 mT 214 212,mT 206 214])
 (.reg [200,21,200,201,202,206,211,212] [
 mT 215 200,mT 216 201,mT 217 202,mT 218 206,aO 219 (.clm 101 [(.t 215),(.t 216),(.t 217),(.t 218)])])))
 (.reg [200,21,200,201,202,211,212] [
 uF 220 212 1,mT 212 220])))))))
def rv97_200:List RV:=[]
theorem ok97_200:qh6 Tryz.prog 200 ac97_200 rv97_200 Tryz.f97=true:=by kernel_rfl

def ac98_400:AC:=
 (.seq (.reg [400,37,400,401,402,403,404] [
 mT 413 400,aO 414 (.nck (.t 413)),fA 415 0 414,uE 416 5 415,mT 417 401,mT 418 402,mT 419 403,mT 420 404,aO 421 (.bld [zI,zI,zI,zI] [(0,1,(.t 417)),(1,1,(.t 418)),(2,1,(.t 419)),(3,1,(.t 420))]),aO 422 (.cal 107 [(.t 416),(.t 421)]),mT 412 422,aO 423 (.ext (.t 412) 0),aO 424 (.ext (.t 412) 1),mT 410 423,mT 411 424])
 (.seq (.reg [400,37,400,410,411] [
 mT 425 411,eK 426 425 0])
 (.cond (.t 426)
 (.reg [400,37,400,410] [
 mT 427 400,mT 428 400,aO 429 (.nck (.t 428)),fA 430 5 429,lF 431 1 430,mT 432 410,aO 433 (.bsl 1 3 [zI] 1 [(0,(.t 432))]),aO 434 (.app 1 3 8 (.t 431) (.t 433)),aO 435 (.nck (.t 427)),fA 436 5 435,sT 1 436 434])
 .skip)))
def rv98_400:List RV:=[]
theorem ok98_400:qh6 Tryz.prog 400 ac98_400 rv98_400 Tryz.f98=true:=by kernel_rfl

def ac99_100:AC:=
 (.seq (.reg [100,39,100,101,102] [
 xT 103 100,xT 104 101])
 (.seq (.reg [100,39,102,103,104] [
 mT 108 102,fA 109 1 104,lF 110 1 109,fA 111 2 104,lF 112 1 111,aO 113 (.clv (.t 108) [(.t 110),(.t 112)])])
 (.seq (.drw [100,39,102,103,104] [
 eA 114 1 104,eL 115 1 114,eA 116 2 104,eL 117 1 116,eM 106 115,eF 107 (.mv (.t 117))])
 (.seq (.seq (.reg [100,39,102,103,104,106,107] [
 fA 118 0 104,lF 119 1 118,eK 120 119 4])
 (.cond (.t 120)
 (.reg [100,39,102,103,106,107] [
 mT 121 106,uF 122 121 1,mT 106 122])
 (.reg [100,39,102,103,106,107] [
 mT 123 107,uF 124 123 1,mT 107 124])))
 (.seq (.reg [100,39,102,103,106,107] [
 mT 125 106,fA 126 0 103,lF 127 1 126,lS 128 125 127,mT 129 128,uB 130 129 (.mv (.t 107)),uB 131 129 (.fa 1 (.t 103)),uB 132 129 (.ld false 1 (.t 131)),uB 133 129 (.cmp .lss .i64 (.t 130) (.t 132)),aO 134 (pF 129 133)])
 (.cut [100,39,102,106,107,134] (.cond (.t 134)
 (.reg [100,39,102,106,107] [
 mT 135 102,mT 136 106,mT 137 107,aO 138 (.clv (.t 135) [(.t 136),(.t 137)])])
 .skip)))))))
def rv99_100:List RV:=[]
theorem ok99_100:qh6 Tryz.prog 100 ac99_100 rv99_100 Tryz.f99=true:=by kernel_rfl

def ac100_150:AC:=
 (.seq (.reg [150,39,150,151,152,153,154] [
 lF 158 1 152,mT 159 150,mT 160 151,aO 161 (.clm 98 [(.t 158),(kI 1),(.t 159),(.t 160),(kI 0)])])
 (.seq (.reg [150,39,150,151,152,153,154] [
 lF 162 1 152,mT 163 150,mT 164 151,aO 165 (.clm 98 [(.t 162),(kI 2),(.t 163),(.t 164),(kI 0)])])
 (.seq (.reg [150,39,150,151,152,153,154] [
 lF 166 1 152,mT 167 150,mT 168 151,fA 169 3 153,lF 170 1 169,aO 171 (.clm 101 [(.t 166),(.t 167),(.t 168),(.t 170)])])
 (.seq (.reg [150,39,150,151,152,154] [
 mT 172 151,mT 157 172])
 (.block 0
 (.loop [150,39,150,151,152,154,157]
 (.seq (.seq (.reg [150,39,150,151,152,154,157] [
 mT 173 150,eK 174 173 0,mT 175 174,uB 176 175 (.mv (.t 157)),uB 177 175 (.fa 3 (.t 154)),uB 178 175 (.ld false 1 (.t 177)),uB 179 175 (.cmp .lss .i64 (.t 176) (.t 178)),aO 180 (pF 175 179)])
 (.cut [150,39,150,151,152,154,157,180] (.cond (.t 180)
 .skip
 (.exit 0))))
 (.seq (.block 1
 (.reg [150,39,150,151,152,154,157] [
 lF 185 1 152,mT 186 151,mT 187 157,aO 188 (.clm 98 [(.t 185),(kI 6),(kI (-1)),(.t 186),(.t 187)])]))
 (.reg [150,39,150,151,152,154,157] [
 mT 181 157,fA 182 1 154,lF 183 1 182,aO 184 (.ari .add true .i64 (.t 181) (.t 183)),mT 157 184])))))))))
def rv100_150:List RV:=[]
theorem ok100_150:qh6 Tryz.prog 150 ac100_150 rv100_150 Tryz.f100=true:=by kernel_rfl

def ac101_250:AC:=
 (.seq (.seq (.reg [250,54,250,251,252,253] [
 mT 258 251,aO 259 (.cmp .lss .i64 (.t 258) (kI 0)),mT 260 259,uA 261 260 (.mv (.t 251)),uA 262 260 (.mv (.t 250)),uA 263 260 (.nck (.t 262)),uA 264 260 (.fa 0 (.t 263)),uA 265 260 (.fa 0 (.t 264)),uA 266 260 (.ld false 1 (.t 265)),uA 267 260 (.cmp .geq .i64 (.t 261) (.t 266)),aO 268 (uG 260 267),mT 269 268,uA 270 269 (.mv (.t 252)),uA 271 269 (.cmp .lss .i64 (.t 270) (kI 0)),aO 272 (uG 269 271),mT 273 272,uA 274 273 (.mv (.t 252)),uA 275 273 (.mv (.t 250)),uA 276 273 (.nck (.t 275)),uA 277 273 (.fa 0 (.t 276)),uA 278 273 (.fa 1 (.t 277)),uA 279 273 (.ld false 1 (.t 278)),uA 280 273 (.cmp .geq .i64 (.t 274) (.t 279)),aO 281 (uG 273 280)])
 (.cut [250,54,250,251,252,253,281] (.cond (.t 281)
 .ret
 .skip)))
 (.seq (.reg [250,54,250,251,252,253] [
 mT 282 250,mT 283 251,mT 284 252,mT 285 253,aO 286 (.clm 98 [(.t 282),(kI 4),(.t 283),(.t 284),(.t 285)])])
 (.seq (.reg [250,54,250,251,252,253] [
 mT 287 250,mT 288 251,mT 289 252,mT 290 253,aO 291 (.clm 98 [(.t 287),(kI 5),(.t 288),(.t 289),(.t 290)])])
 (.seq (.reg [250,54,250,251,252,253] [
 mT 292 250,mT 293 251,aO 294 (.ari .sub true .i64 (.t 293) (kI 1)),mT 295 252,mT 296 253,aO 297 (.clm 98 [(.t 292),(kI 4),(.t 294),(.t 295),(.t 296)])])
 (.reg [250,54,250,251,252,253] [
 mT 298 250,mT 299 251,mT 300 252,aO 301 (.ari .sub true .i64 (.t 300) (kI 1)),mT 302 253,aO 303 (.clm 98 [(.t 298),(kI 5),(.t 299),(.t 301),(.t 302)])])))))
def rv101_250:List RV:=[]
theorem ok101_250:qh6 Tryz.prog 250 ac101_250 rv101_250 Tryz.f101=true:=by kernel_rfl

def ac102_100:AC:=
 (.seq (.reg [100,24,100,101] [
 xT 103 101,aO 104 (.mv (.c (.nil)))])
 (.seq (.reg [100,24,100,103] [
 mT 105 100,aO 106 (.nck (.t 105)),fA 107 5 106,lF 108 1 107,aO 109 (.clm 108 [(.t 108)])])
 (.seq (.reg [100,24,100,103] [
 mT 110 100,mT 111 100,aO 112 (.nck (.t 111)),fA 113 5 112,lF 114 1 113,aO 115 (.clm 109 [(.t 114)]),aO 116 (.nck (.t 110)),fA 117 5 116,sT 1 117 115])
 (.seq (.reg [100,24,100,103] [
 mT 118 100,aO 119 (.nck (.t 118)),fA 120 5 119,lF 121 1 120,aO 122 (.mkf 111 [(.t 103)]),aO 123 (.clm 110 [(.t 121),(.t 122)]),mT 104 123])
 .ret))))
def rv102_100:List RV:=[.tmp 104]
theorem ok102_100:qh6 Tryz.prog 100 ac102_100 rv102_100 Tryz.f102=true:=by kernel_rfl

def ac110_150:AC:=
 (.seq (.reg [150,42,150,151] [
 aO 154 (.mv (.c (.nil)))])
 (.seq (.reg [150,42,150,151] [
 mT 158 150,mT 159 151,aO 160 (.cal 113 [(.t 158),(.t 159)]),mT 155 160])
 (.seq (.seq (.reg [150,42,150,151,155] [
 mT 161 155,eK 162 161 (-1)])
 (.cond (.t 162)
 (.seq (.reg [150,42,150] [
 mT 163 150,mT 154 163])
 .ret)
 .skip))
 (.seq (.seq (.reg [150,42,150,151,155] [
 mT 164 155,uF 165 164 1,mT 156 165])
 (.block 0
 (.loop [150,42,150,151,155,156]
 (.seq (.seq (.reg [150,42,150,151,155,156] [
 mT 166 156,mT 167 150,nT 168 167,lS 169 166 168])
 (.cond (.t 169)
 .skip
 (.exit 0)))
 (.seq (.block 1
 (.seq (.reg [150,42,150,151,155,156] [
 mT 172 150,mT 173 156,iX 174 1 172 173,lF 175 1 174,mT 157 175])
 (.seq (.reg [150,42,150,151,155,156,157] [
 mT 176 151,mT 177 157,aO 178 (.clv (.t 176) [(.t 177)]),aO 179 (.not (.t 178))])
 (.cond (.t 179)
 (.seq (.reg [150,42,150,151,155,156,157] [
 mT 180 150,mT 181 155,mT 182 157,iX 183 1 180 181,sT 1 183 182])
 (.reg [150,42,150,151,155,156] [
 mT 184 155,uF 185 184 1,mT 155 185]))
 .skip))))
 (.reg [150,42,150,151,155,156] [
 mT 170 156,uF 171 170 1,mT 156 171]))))))
 (.seq (.reg [150,42,150,155] [
 mT 186 150,mT 187 155,aO 188 (.slc 1 (.t 186) (some (.t 187)) none),aN (.xo (.clr 1 [zI]) [(.t 188)])])
 (.seq (.reg [150,42,150,155] [
 mT 189 150,mT 190 155,aO 191 (.slc 1 (.t 189) none (some (.t 190))),mT 154 191])
 .ret))))))
def rv110_150:List RV:=[.tmp 154]
theorem ok110_150:qh6 Tryz.prog 150 ac110_150 rv110_150 Tryz.f110=true:=by kernel_rfl

def ac111:AC:=
 (.seq (.reg [0,7,0,1] [
 aO 3 (.mv bF)])
 (.seq (.reg [0,7,0,1] [
 mT 4 0,lF 5 1 1,aO 6 (.cmp .eql .i64 (.t 4) (.t 5)),mT 3 6])
 .ret))
def rv111:List RV:=[.tmp 3]
theorem ok111:fnOk Tryz.prog ac111 rv111 Tryz.f111=true:=by kernel_rfl

def ac113:AC:=
 (.seq (.reg [0,19,0,1] [
 mK 4 0])
 (.seq (.seq (.reg [0,19,0,1] [
 mT 6 0,nT 7 6,mK 8 0])
 (.block 0
 (.loop [0,19,0,1,7,8]
 (.seq (.reg [0,19,0,1,7,8] [
 lS 9 8 7])
 (.seq (.cond (.t 9)
 .skip
 (.exit 0))
 (.seq (.block 1
 (.seq (.reg [0,19,0,1,7,8] [
 mT 10 8,mT 5 10])
 (.seq (.reg [0,19,0,1,5,7,8] [
 mT 11 1,mT 12 0,mT 13 5,iX 14 1 12 13,lF 15 1 14,aO 16 (.clv (.t 11) [(.t 15)])])
 (.cond (.t 16)
 (.seq (.reg [0,19,5] [
 mT 17 5,mT 4 17])
 .ret)
 .skip))))
 (.reg [0,19,0,1,7,8] [
 uF 18 8 1,mT 8 18])))))))
 (.seq (.reg [0,19] [
 mK 4 (-1)])
 .ret)))
def rv113:List RV:=[.tmp 4]
theorem ok113:fnOk Tryz.prog ac113 rv113 Tryz.f113=true:=by kernel_rfl

def ac41:AC:=
 (.seq (.reg [0,15,0] [
 xT 1 0,mK 2 0])
 (.seq (.drw [0,15,1] [
 eA 3 0 1,eL 4 1 3,eA 5 1 1,eL 6 1 5,eT 7 (.ari .mul true .i64 (.t 4) (.t 6)),eT 8 (.ld true 5 (.t 1)),eT 9 (.cal 42 [(.t 8)]),eT 10 (.ari .mul true .i64 (.t 7) (.t 9)),eA 11 3 1,eL 12 1 11,eT 13 (.ari .mul true .i64 (kI 2) (.t 12)),eF 14 (.ari .add true .i64 (.t 10) (.t 13)),eF 2 (.mv (.t 14))])
 .ret))
def rv41:List RV:=[.tmp 2]
theorem ok41:fnOk Tryz.prog ac41 rv41 Tryz.f41=true:=by kernel_rfl

def ac42:AC:=
 (.seq (.reg [0,7,0] [
 xT 1 0,mK 2 0])
 (.seq (.reg [0,7,1] [
 fA 3 2 1,lF 4 1 3,aO 5 (.ari .mul true .i64 (kI 2) (.t 4)),aO 6 (.ari .add true .i64 (kI 6) (.t 5)),mT 2 6])
 .ret))
def rv42:List RV:=[.tmp 2]
theorem ok42:fnOk Tryz.prog ac42 rv42 Tryz.f42=true:=by kernel_rfl

def ac77:AC:=
 (.seq (.reg [0,113,0,1] [
 xT 2 0,aO 4 (.alc [zI,zI,zI,zI,zI])])
 (.seq (.seq (.reg [0,113,1,2,4] [
 mT 11 1,aO 12 (.cmp .lss .i64 (.t 11) (kI 0)),mT 13 12,uA 14 13 (.mv (.t 1)),uA 15 13 (.ld true 5 (.t 2)),uA 16 13 (.cal 41 [(.t 15)]),uA 17 13 (.cmp .geq .i64 (.t 14) (.t 16)),aO 18 (uG 13 17)])
 (.cut [0,113,1,2,4,18] (.cond (.t 18)
 (.seq (.reg [0,113,4] [
 aO 19 (.bld [zI,zI,zI,zI,zI] [(4,1,(kI 1))]),sT 5 4 19])
 .ret)
 .skip)))
 (.seq (.drw [0,113,1,2,4] [
 eA 20 0 2,eL 21 1 20,eA 22 1 2,eL 23 1 22,eT 24 (.ari .mul true .i64 (.t 21) (.t 23)),eT 25 (.ld true 5 (.t 2)),eT 26 (.cal 42 [(.t 25)]),eF 27 (.ari .mul true .i64 (.t 24) (.t 26)),eF 5 (.mv (.t 27))])
 (.seq (.seq (.reg [0,113,1,2,4,5] [
 mT 28 1,mT 29 5,fA 30 3 2,lF 31 1 30,aO 32 (.ari .add true .i64 (.t 29) (.t 31)),aO 33 (.cmp .geq .i64 (.t 28) (.t 32))])
 (.cond (.t 33)
 (.seq (.reg [0,113,1,2,4,5] [
 mT 34 1,mT 35 5,aO 36 (.ari .sub true .i64 (.t 34) (.t 35)),fA 37 3 2,lF 38 1 37,aO 39 (.ari .sub true .i64 (.t 36) (.t 38)),mT 6 39])
 (.seq (.drw [0,113,2,4,6] [
 eA 40 0 2,eL 41 1 40,eM 42 6,eA 43 1 2,eL 44 1 43,eT 45 (.dvd .rem true .i64 (.t 42) (.t 44)),eM 46 6,eF 47 (.bld [zI,zI,zI,zI] [(0,1,(kI 7)),(1,1,(.t 41)),(2,1,(.t 45)),(3,1,(.t 46))]),eF 48 (.bld [zI,zI,zI,zI,zI] [(0,4,(.t 47))]),⟨sT 5 4 48,[],[],false⟩])
 .ret))
 .skip))
 (.seq (.seq (.reg [0,113,1,2,4,5] [
 mT 49 1,mT 50 5,aO 51 (.cmp .geq .i64 (.t 49) (.t 50))])
 (.cond (.t 51)
 (.seq (.reg [0,113,1,2,4,5] [
 mT 52 1,mT 53 5,aO 54 (.ari .sub true .i64 (.t 52) (.t 53)),mT 7 54])
 (.seq (.reg [0,113,2,4,7] [
 mT 55 7,fA 56 1 2,lF 57 1 56,aO 58 (.dvd .rem true .i64 (.t 55) (.t 57)),mT 59 7,aO 60 (.bld [zI,zI,zI,zI] [(0,1,(kI 6)),(1,1,(kI (-1))),(2,1,(.t 58)),(3,1,(.t 59))]),aO 61 (.bld [zI,zI,zI,zI,zI] [(0,4,(.t 60))]),sT 5 4 61])
 .ret))
 .skip))
 (.seq (.drw [0,113,1,2,4] [
 eM 62 1,eT 63 (.ld true 5 (.t 2)),eT 64 (.cal 42 [(.t 63)]),eT 65 (.dvd .quo true .i64 (.t 62) (.t 64)),eM 66 1,eT 67 (.ld true 5 (.t 2)),eT 68 (.cal 42 [(.t 67)]),eT 69 (.dvd .rem true .i64 (.t 66) (.t 68)),eM 8 65,eF 9 (.mv (.t 69))])
 (.seq (.drw [0,113,2,4,8,9] [
 eU 70 (.mv (.t 8)) [] [10],eU 71 (.fa 0 (.t 2)) [] [10],eU 72 (.ld false 1 (.t 71)) [] [10],eU 73 (.dvd .rem true .i64 (.t 70) (.t 72)) [] [10],eU 74 (.mv (.t 8)) [] [10],eU 75 (.fa 0 (.t 2)) [] [10],eU 76 (.ld false 1 (.t 75)) [] [10],eU 77 (.dvd .quo true .i64 (.t 74) (.t 76)) [] [10],eU 78 (.bld [zI,zI,zI,zI] [(1,1,(.t 73)),(2,1,(.t 77))]) [] [10],eU 10 (.alc [zI,zI,zI,zI]) [10] [],⟨sT 4 10 78,[],[],false⟩])
 (.seq (.block 0
 (.seq (.reg [0,113,2,4,9,10] [
 mT 87 9,eK 88 87 0,mT 86 88])
 (.cond (.t 86)
 (.reg [0,113,4,10] [
 fA 89 0 10,aN (.sto 1 (.t 89) (kI 1))])
 (.seq (.reg [0,113,2,4,9,10] [
 mT 91 9,eK 92 91 1,mT 90 92])
 (.cond (.t 90)
 (.reg [0,113,4,10] [
 fA 93 0 10,aN (.sto 1 (.t 93) (kI 2))])
 (.seq (.reg [0,113,2,4,9,10] [
 mT 95 9,aO 96 (.cmp .lss .i64 (.t 95) (kI 6)),mT 94 96])
 (.cond (.t 94)
 (.seq (.reg [0,113,4,9,10] [
 fA 97 0 10,aN (.sto 1 (.t 97) (kI 3))])
 (.reg [0,113,4,9,10] [
 mT 98 9,aO 99 (.ari .sub true .i64 (.t 98) (kI 2)),fA 100 3 10,sT 1 100 99]))
 (.seq (.reg [0,113,2,4,9,10] [
 mT 102 9,fA 103 2 2,lF 104 1 103,aO 105 (.ari .add true .i64 (kI 6) (.t 104)),lS 106 102 105,mT 101 106])
 (.cond (.t 101)
 (.seq (.reg [0,113,4,9,10] [
 fA 107 0 10,aN (.sto 1 (.t 107) (kI 4))])
 (.reg [0,113,4,9,10] [
 mT 108 9,aO 109 (.ari .sub true .i64 (.t 108) (kI 6)),fA 110 3 10,sT 1 110 109]))
 (.seq (.reg [0,113,2,4,9,10] [
 fA 79 0 10,aN (.sto 1 (.t 79) (kI 5))])
 (.reg [0,113,2,4,9,10] [
 mT 80 9,aO 81 (.ari .sub true .i64 (.t 80) (kI 6)),fA 82 2 2,lF 83 1 82,aO 84 (.ari .sub true .i64 (.t 81) (.t 83)),fA 85 3 10,sT 1 85 84])))))))))))
 (.seq (.reg [0,113,4,10] [
 uE 111 4 10,aO 112 (.bld [zI,zI,zI,zI,zI] [(0,4,(.t 111))]),sT 5 4 112])
 .ret)))))))))
def rv77:List RV:=[.cell 4 true 5]
theorem ok77:fnOk Tryz.prog ac77 rv77 Tryz.f77=true:=by kernel_rfl

def ac93:AC:=
 (.seq (.reg [0,83,0,1,2,3] [
 xT 4 0,xT 5 1,aO 8 (.mv bF)])
 (.seq (.seq (.reg [0,83,2,3,4,5] [
 mT 9 2,aO 10 (.cmp .lss .i64 (.t 9) (kI 0)),mT 11 10,uA 12 11 (.mv (.t 2)),uA 13 11 (.fa 0 (.t 4)),uA 14 11 (.ld false 1 (.t 13)),uA 15 11 (.cmp .geq .i64 (.t 12) (.t 14)),aO 16 (uG 11 15),mT 17 16,uA 18 17 (.mv (.t 3)),uA 19 17 (.cmp .lss .i64 (.t 18) (kI 0)),aO 20 (uG 17 19),mT 21 20,uA 22 21 (.mv (.t 3)),uA 23 21 (.fa 1 (.t 4)),uA 24 21 (.ld false 1 (.t 23)),uA 25 21 (.cmp .geq .i64 (.t 22) (.t 24)),aO 26 (uG 21 25)])
 (.cut [0,83,2,3,5,26] (.cond (.t 26)
 (.seq (.reg [0,83] [
 aO 8 (.mv bF)])
 .ret)
 .skip)))
 (.seq (.reg [0,83,2,3,5] [
 fA 27 0 5,lF 28 1 27,eK 29 28 4,mT 30 29,uA 31 30 (.fa 0 (.t 5)),uA 32 30 (.ld false 1 (.t 31)),uA 33 30 (.cmp .eql .i64 (.t 32) (kI 5)),aO 34 (uG 30 33),mT 35 34,uB 36 35 (.fa 1 (.t 5)),uB 37 35 (.ld false 1 (.t 36)),uB 38 35 (.mv (.t 2)),uB 39 35 (.cmp .eql .i64 (.t 37) (.t 38)),aO 40 (pF 35 39),mT 41 40,uB 42 41 (.fa 2 (.t 5)),uB 43 41 (.ld false 1 (.t 42)),uB 44 41 (.mv (.t 3)),uB 45 41 (.cmp .eql .i64 (.t 43) (.t 44)),aO 46 (pF 41 45),mT 47 46,uA 48 47 (.fa 0 (.t 5)),uA 49 47 (.ld false 1 (.t 48)),uA 50 47 (.cmp .eql .i64 (.t 49) (kI 4)),uA 51 47 (.mv (.t 50)),uB 52 51 (.fa 1 (.t 5)),uB 53 51 (.ld false 1 (.t 52)),uB 54 51 (.ari .add true .i64 (.t 53) (kI 1)),uB 55 51 (.mv (.t 2)),uB 56 51 (.cmp .eql .i64 (.t 54) (.t 55)),uA 57 47 (pF 51 56),uA 58 47 (.mv (.t 57)),uB 59 58 (.fa 2 (.t 5)),uB 60 58 (.ld false 1 (.t 59)),uB 61 58 (.mv (.t 3)),uB 62 58 (.cmp .eql .i64 (.t 60) (.t 61)),uA 63 47 (pF 58 62),aO 64 (uG 47 63),mT 65 64,uA 66 65 (.fa 0 (.t 5)),uA 67 65 (.ld false 1 (.t 66)),uA 68 65 (.cmp .eql .i64 (.t 67) (kI 5)),uA 69 65 (.mv (.t 68)),uB 70 69 (.fa 1 (.t 5)),uB 71 69 (.ld false 1 (.t 70)),uB 72 69 (.mv (.t 2)),uB 73 69 (.cmp .eql .i64 (.t 71) (.t 72)),uA 74 65 (pF 69 73),uA 75 65 (.mv (.t 74)),uB 76 75 (.fa 2 (.t 5)),uB 77 75 (.ld false 1 (.t 76)),uB 78 75 (.ari .add true .i64 (.t 77) (kI 1)),uB 79 75 (.mv (.t 3)),uB 80 75 (.cmp .eql .i64 (.t 78) (.t 79)),uA 81 65 (pF 75 80),aO 82 (uG 65 81),mT 8 82])
 .ret)))
def rv93:List RV:=[.tmp 8]
theorem ok93:fnOk Tryz.prog ac93 rv93 Tryz.f93=true:=by kernel_rfl

def ac94:AC:=
 (.seq (.reg [0,11,0] [
 xT 1 0,aO 2 (.mv bF)])
 (.seq (.reg [0,11,1] [
 fA 3 0 1,lF 4 1 3,eK 5 4 4,mT 6 5,uA 7 6 (.fa 0 (.t 1)),uA 8 6 (.ld false 1 (.t 7)),uA 9 6 (.cmp .eql .i64 (.t 8) (kI 5)),aO 10 (uG 6 9),mT 2 10])
 .ret))
def rv94:List RV:=[.tmp 2]
theorem ok94:fnOk Tryz.prog ac94 rv94 Tryz.f94=true:=by kernel_rfl

def ac95:AC:=
 (.seq (.reg [0,44,0,1,2] [
 xT 3 0,xT 4 1,xT 5 2,aO 6 (.mv bF)])
 (.seq (.reg [0,44,3,4,5] [
 uE 7 5 3,uE 8 4 5,fA 9 1 4,lF 10 1 9,fA 11 2 4,lF 12 1 11,aO 13 (.cal 93 [(.t 7),(.t 8),(.t 10),(.t 12)]),mT 14 13,uA 15 14 (.fa 0 (.t 4)),uA 16 14 (.ld false 1 (.t 15)),uA 17 14 (.cmp .eql .i64 (.t 16) (kI 4)),uA 18 14 (.mv (.t 17)),uB 19 18 (.ld true 5 (.t 3)),uB 20 18 (.ld true 4 (.t 5)),uB 21 18 (.fa 1 (.t 4)),uB 22 18 (.ld false 1 (.t 21)),uB 23 18 (.ari .add true .i64 (.t 22) (kI 1)),uB 24 18 (.fa 2 (.t 4)),uB 25 18 (.ld false 1 (.t 24)),uB 26 18 (.cal 93 [(.t 19),(.t 20),(.t 23),(.t 25)]),uA 27 14 (pF 18 26),aO 28 (uG 14 27),mT 29 28,uA 30 29 (.fa 0 (.t 4)),uA 31 29 (.ld false 1 (.t 30)),uA 32 29 (.cmp .eql .i64 (.t 31) (kI 5)),uA 33 29 (.mv (.t 32)),uB 34 33 (.ld true 5 (.t 3)),uB 35 33 (.ld true 4 (.t 5)),uB 36 33 (.fa 1 (.t 4)),uB 37 33 (.ld false 1 (.t 36)),uB 38 33 (.fa 2 (.t 4)),uB 39 33 (.ld false 1 (.t 38)),uB 40 33 (.ari .add true .i64 (.t 39) (kI 1)),uB 41 33 (.cal 93 [(.t 34),(.t 35),(.t 37),(.t 40)]),uA 42 29 (pF 33 41),aO 43 (uG 29 42),mT 6 43])
 .ret))
def rv95:List RV:=[.tmp 6]
theorem ok95:fnOk Tryz.prog ac95 rv95 Tryz.f95=true:=by kernel_rfl

def ac56:AC:=
 (.seq (.reg [0,36,0,1] [
 xT 2 0,aO 4 (.mv (.c (.nil)))])
 (.seq (.reg [0,36,1,2] [
 aO 8 (.bsl 1 3 [zI] 0 []),mT 5 8])
 (.seq (.reg [0,36,1,2,5] [
 uE 9 5 2,mT 10 1,aO 11 (.cal 77 [(.t 9),(.t 10)]),aO 6 (.alc [zI,zI,zI,zI,zI]),sT 5 6 11])
 (.seq (.seq (.reg [0,36,2,5,6] [
 mK 7 0])
 (.block 0
 (.loop [0,36,2,5,6,7]
 (.seq (.seq (.reg [0,36,2,5,6,7] [
 mT 12 7,uE 13 5 2,aO 14 (.cal 41 [(.t 13)]),lS 15 12 14,mT 16 15,uB 17 16 (.fa 4 (.t 6)),uB 18 16 (.ld false 1 (.t 17)),uB 19 16 (.cmp .eql .i64 (.t 18) (kI 0)),aO 20 (pF 16 19)])
 (.cut [0,36,2,5,6,7,20] (.cond (.t 20)
 .skip
 (.exit 0))))
 (.seq (.block 1
 (.seq (.drw [0,36,2,5,6,7] [
 eT 23 (.ld true 5 (.t 2)),eT 24 (.ld true 5 (.t 2)),eM 25 7,eT 26 (.cal 77 [(.t 24),(.t 25)]),eT 27 (.fl true 0 4 (.t 26)),eA 28 0 6,eT 29 (.ld true 4 (.t 28)),eF 30 (.cal 78 [(.t 23),(.t 27),(.t 29)])])
 (.cond (.t 30)
 (.reg [0,36,2,5,6,7] [
 mT 31 5,mT 32 7,aO 33 (.bsl 1 3 [zI] 1 [(0,(.t 32))]),aO 34 (.app 1 3 8 (.t 31) (.t 33)),mT 5 34])
 .skip)))
 (.reg [0,36,2,5,6,7] [
 mT 21 7,uF 22 21 1,mT 7 22]))))))
 (.seq (.reg [0,36,5] [
 mT 35 5,mT 4 35])
 .ret)))))
def rv56:List RV:=[.tmp 4]
theorem ok56:fnOk Tryz.prog ac56 rv56 Tryz.f56=true:=by kernel_rfl

def ac31:AC:=
 (.seq (.reg [0,9,0,1] [
 xT 2 0,mK 4 0])
 (.seq (.reg [0,9,1,2] [
 uE 5 5 2,mT 6 1,aO 7 (.cal 56 [(.t 5),(.t 6)]),nT 8 7,mT 4 8])
 .ret))
def rv31:List RV:=[.tmp 4]
theorem ok31:fnOk Tryz.prog ac31 rv31 Tryz.f31=true:=by kernel_rfl

def ac29:AC:=
 (.seq (.reg [0,37,0,1] [
 aO 4 (.mv (.c (.nil)))])
 (.seq (.reg [0,37,0,1] [
 aO 8 (.bsl 1 3 [zI] 0 []),mT 5 8])
 (.seq (.seq (.reg [0,37,0,1,5] [
 mK 6 0])
 (.block 0
 (.loop [0,37,0,1,5,6]
 (.seq (.seq (.reg [0,37,0,1,5,6] [
 mT 9 6,mT 10 0,lS 11 9 10])
 (.cond (.t 11)
 .skip
 (.exit 0)))
 (.seq (.block 1
 (.seq (.reg [0,37,0,1,5,6] [
 mK 7 2])
 (.seq (.seq (.reg [0,37,0,1,5,6,7] [
 mT 14 6,mT 15 1,nT 16 15,lS 17 14 16,mT 18 17,uB 19 18 (.mv (.t 1)),uB 20 18 (.mv (.t 6)),uB 21 18 (.ixs 1 (.t 19) (.t 20)),uB 22 18 (.ld false 1 (.t 21)),uB 23 18 (.dvd .rem true .u8 (.t 22) (.c (.sc (.int .u8 8)))),uB 24 18 (.cmp .lss .u8 (.t 23) (.c (.sc (.int .u8 2)))),aO 25 (pF 18 24)])
 (.cut [0,37,0,1,5,6,7,25] (.cond (.t 25)
 (.reg [0,37,0,1,5,6] [
 mT 26 1,mT 27 6,iX 28 1 26 27,lF 29 1 28,aO 30 (.dvd .rem true .u8 (.t 29) (.c (.sc (.int .u8 8)))),aO 31 (.cnv true .i64 (.t 30)),mT 7 31])
 .skip)))
 (.reg [0,37,0,1,5,6,7] [
 mT 32 5,mT 33 7,aO 34 (.bsl 1 3 [zI] 1 [(0,(.t 33))]),aO 35 (.app 1 3 8 (.t 32) (.t 34)),mT 5 35]))))
 (.reg [0,37,0,1,5,6] [
 mT 12 6,uF 13 12 1,mT 6 13]))))))
 (.seq (.reg [0,37,5] [
 mT 36 5,mT 4 36])
 .ret))))
def rv29:List RV:=[.tmp 4]
theorem ok29:fnOk Tryz.prog ac29 rv29 Tryz.f29=true:=by kernel_rfl

def ac7:AC:=
 (.seq (.reg [0,30,0] [
 xT 1 0,aO 2 (.alc [zI,zI,zI,zI,.nil])])
 (.seq (.reg [0,30,1,2] [
 fA 4 0 1,lF 5 1 4,aO 6 (.dvd .rem true .u8 (.t 5) (.c (.sc (.int .u8 4)))),aO 7 (.cnv true .i64 (.t 6)),aO 8 (.ari .add true .i64 (kI 2) (.t 7)),fA 9 1 1,lF 10 1 9,aO 11 (.dvd .rem true .u8 (.t 10) (.c (.sc (.int .u8 4)))),aO 12 (.cnv true .i64 (.t 11)),aO 13 (.ari .add true .i64 (kI 2) (.t 12)),fA 14 2 1,lF 15 1 14,aO 16 (.dvd .rem true .u8 (.t 15) (.c (.sc (.int .u8 3)))),aO 17 (.cnv true .i64 (.t 16)),aO 18 (.ari .add true .i64 (kI 2) (.t 17)),aO 19 (.bld [zI,zI,zI,zI,.nil] [(0,1,(.t 8)),(1,1,(.t 13)),(2,1,(.t 18)),(3,1,(kI 24))]),aO 3 (.alc [zI,zI,zI,zI,.nil]),sT 5 3 19])
 (.seq (.reg [0,30,1,2,3] [
 fA 20 0 3,lF 21 1 20,fA 22 1 3,lF 23 1 22,aO 24 (.ari .mul true .i64 (.t 21) (.t 23)),fA 25 4 1,lF 26 1 25,aO 27 (.cal 29 [(.t 24),(.t 26)]),fA 28 4 3,sT 1 28 27])
 (.seq (.reg [0,30,2,3] [
 uE 29 5 3,sT 5 2 29])
 .ret))))
def rv7:List RV:=[.cell 2 true 5]
theorem ok7:fnOk Tryz.prog ac7 rv7 Tryz.f7=true:=by kernel_rfl

def ac79:AC:=
 (.seq (.reg [0,15,0,1,2] [
 aO 6 (.mv bF)])
 (.seq (.reg [0,15,0,1,2] [
 mT 7 1,mT 8 0,aO 9 (.cmp .leq .i64 (.t 7) (.t 8)),mT 10 9,uB 11 10 (.mv (.t 0)),uB 12 10 (.mv (.t 2)),uB 13 10 (.cmp .leq .i64 (.t 11) (.t 12)),aO 14 (pF 10 13),mT 6 14])
 .ret))
def rv79:List RV:=[.tmp 6]
theorem ok79:fnOk Tryz.prog ac79 rv79 Tryz.f79=true:=by kernel_rfl

def ac103:AC:=
 (.seq (.reg [0,14,0,1] [
 aO 4 (.mv bF)])
 (.seq (.seq (.reg [0,14,0,1] [
 mT 5 0])
 (.block 0
 (.seq (.reg [0,14,1,5] [
 eK 7 5 0,mT 6 7])
 (.cond (.t 6)
 (.seq (.reg [0,14,1] [
 mT 8 1,eK 9 8 0,mT 4 9])
 .ret)
 (.seq (.reg [0,14,1,5] [
 eK 11 5 1,mT 10 11])
 (.cond (.t 10)
 (.seq (.reg [0,14,1] [
 mT 12 1,aO 13 (.cmp .neq .i64 (.t 12) (kI 3)),mT 4 13])
 .ret)
 .skip))))))
 (.seq (.reg [0,14] [
 aO 4 (.mv bT)])
 .ret)))
def rv103:List RV:=[.tmp 4]
theorem ok103:fnOk Tryz.prog ac103 rv103 Tryz.f103=true:=by kernel_rfl

def ac57:AC:=
 (.seq (.reg [0,87,0,1] [
 xT 2 0,xT 3 1,mK 4 0])
 (.seq (.reg [0,87,2,3] [
 fA 10 4 2,lF 11 1 10,nT 12 11,mT 5 12])
 (.seq (.seq (.drw [0,87,2,3,5] [
 eA 13 0 3,eL 14 1 13,eT 15 (.len (.t 14)),eT 16 (.ld true 5 (.t 2)),eT 17 (.cal 40 [(.t 16)]),eF 18 (.cmp .neq .i64 (.t 15) (.t 17)),eF 19 (.mv (.t 18)),uC 20 19 (.fa 1 (.t 3)),uC 21 19 (.ld false 1 (.t 20)),uC 22 19 (.len (.t 21)),uC 23 19 (.mv (.t 5)),⟨uA 24 19 (.cmp .neq .i64 (.t 22) (.t 23)),[],[],false⟩,eF 25 (uG 19 24),eF 26 (.mv (.t 25)),uC 27 26 (.fa 2 (.t 3)),uC 28 26 (.ld false 1 (.t 27)),uC 29 26 (.len (.t 28)),uC 30 26 (.mv (.t 5)),⟨uA 31 26 (.cmp .neq .i64 (.t 29) (.t 30)),[],[],false⟩,eF 32 (uG 26 31),eF 33 (.mv (.t 32)),uC 34 33 (.fa 3 (.t 3)),uC 35 33 (.ld false 1 (.t 34)),uC 36 33 (.len (.t 35)),uC 37 33 (.mv (.t 5)),⟨uA 38 33 (.cmp .neq .i64 (.t 36) (.t 37)),[],[],false⟩,eF 39 (uG 33 38)])
 (.cut [0,87,2,3,39] (.cond (.t 39)
 (.seq (.reg [0,87] [
 mK 4 310])
 .ret)
 .skip)))
 (.seq (.seq (.reg [0,87,2,3] [
 fA 40 0 3,lF 41 1 40,nT 42 41,mK 43 0])
 (.block 0
 (.loop [0,87,2,3,41,42,43]
 (.seq (.reg [0,87,2,3,41,42,43] [
 lS 44 43 42])
 (.seq (.cond (.t 44)
 .skip
 (.exit 0))
 (.seq (.block 1
 (.seq (.reg [0,87,2,3,41,42,43] [
 mT 45 43,iX 46 1 41 43,lF 47 1 46,mT 6 45,mT 7 47])
 (.seq (.reg [0,87,2,3,6,7,41,42,43] [
 mT 48 7,aO 49 (.cmp .neq .i64 (.t 48) (kI 0)),mT 50 49,uB 51 50 (.mv (.t 7)),uB 52 50 (.ld true 5 (.t 2)),uB 53 50 (.mv (.t 6)),uB 54 50 (.cal 80 [(.t 52),(.t 53)]),uB 55 50 (.len (.t 54)),uB 56 50 (.cal 79 [(.t 51),(kI 1),(.t 55)]),uB 57 50 (.not (.t 56)),aO 58 (pF 50 57)])
 (.cut [0,87,2,3,41,42,43,58] (.cond (.t 58)
 (.seq (.reg [0,87] [
 mK 4 310])
 .ret)
 .skip)))))
 (.reg [0,87,2,3,41,42,43] [
 uF 59 43 1,mT 43 59])))))))
 (.seq (.seq (.reg [0,87,2,3] [
 fA 60 4 2,lF 61 1 60,nT 62 61,mK 63 0])
 (.block 2
 (.loop [0,87,3,61,62,63]
 (.seq (.reg [0,87,3,61,62,63] [
 lS 64 63 62])
 (.seq (.cond (.t 64)
 .skip
 (.exit 2))
 (.seq (.block 3
 (.seq (.reg [0,87,3,61,62,63] [
 mT 65 63,iX 66 1 61 63,lF 67 1 66,mT 8 65,mT 9 67])
 (.seq (.drw [0,87,3,8,9,61,62,63] [
 eM 68 9,eA 69 1 3,eL 70 1 69,eM 71 8,eI 72 1 70 71,eL 73 1 72,eA 74 2 3,eL 75 1 74,eM 76 8,eI 77 1 75 76,eL 78 1 77,eA 79 3 3,eL 80 1 79,eM 81 8,eI 82 1 80 81,eL 83 1 82,eF 84 (.cal 81 [(.t 68),(.t 73),(.t 78),(.t 83)]),eF 85 (.not (.t 84))])
 (.cond (.t 85)
 (.seq (.reg [0,87] [
 mK 4 310])
 .ret)
 .skip))))
 (.reg [0,87,3,61,62,63] [
 uF 86 63 1,mT 63 86])))))))
 (.seq (.reg [0,87] [
 mK 4 0])
 .ret))))))
def rv57:List RV:=[.tmp 4]
theorem ok57:fnOk Tryz.prog ac57 rv57 Tryz.f57=true:=by kernel_rfl

def ac65:AC:=
 (.seq (.reg [0,17,0] [
 xT 1 0,aO 2 (.alc [.nil,.nil,.nil,.nil])])
 (.seq (.reg [0,17,1,2] [
 fA 4 4 1,lF 5 1 4,nT 6 5,mT 3 6])
 (.seq (.drw [0,17,1,2,3] [
 eU 7 (.ld true 5 (.t 1)) [] [11,13,15],eU 8 (.cal 40 [(.t 7)]) [] [11,13,15],eU 9 (.mks 1 3 8 [zI] (.t 8) (.t 8)) [9] [11,13,15],eU 10 (.mv (.t 3)) [] [9,13,15],eU 11 (.mks 1 3 8 [zI] (.t 10) (.t 10)) [11] [9,13,15],eU 12 (.mv (.t 3)) [] [9,11,15],eU 13 (.mks 1 3 8 [zI] (.t 12) (.t 12)) [13] [9,11,15],eU 14 (.mv (.t 3)) [] [9,11,13],eU 15 (.mks 1 3 8 [zI] (.t 14) (.t 14)) [15] [9,11,13],eF 16 (.bld [.nil,.nil,.nil,.nil] [(0,1,(.t 9)),(1,1,(.t 11)),(2,1,(.t 13)),(3,1,(.t 15))]),⟨sT 4 2 16,[],[],false⟩])
 .ret)))
def rv65:List RV:=[.cell 2 true 4]
theorem ok65:fnOk Tryz.prog ac65 rv65 Tryz.f65=true:=by kernel_rfl

def ac51:AC:=
 (.seq (.reg [0,26,0,1] [
 aO 4 (.mv bF)])
 (.seq (.seq (.reg [0,26,0,1] [
 mT 6 0,nT 7 6,mT 8 1,nT 9 8,aO 10 (.cmp .neq .i64 (.t 7) (.t 9))])
 (.cond (.t 10)
 (.seq (.reg [0,26] [
 aO 4 (.mv bF)])
 .ret)
 .skip))
 (.seq (.seq (.reg [0,26,0,1] [
 mK 5 0])
 (.block 0
 (.loop [0,26,0,1,5]
 (.seq (.seq (.reg [0,26,0,1,5] [
 mT 11 5,mT 12 0,nT 13 12,lS 14 11 13])
 (.cond (.t 14)
 .skip
 (.exit 0)))
 (.seq (.block 1
 (.seq (.drw [0,26,0,1,5] [
 eM 17 0,eM 18 5,eI 19 1 17 18,eL 20 1 19,eM 21 1,eM 22 5,eI 23 1 21 22,eL 24 1 23,eF 25 (.cmp .neq .i64 (.t 20) (.t 24))])
 (.cond (.t 25)
 (.seq (.reg [0,26] [
 aO 4 (.mv bF)])
 .ret)
 .skip)))
 (.reg [0,26,0,1,5] [
 mT 15 5,uF 16 15 1,mT 5 16]))))))
 (.seq (.reg [0,26] [
 aO 4 (.mv bT)])
 .ret))))
def rv51:List RV:=[.tmp 4]
theorem ok51:fnOk Tryz.prog ac51 rv51 Tryz.f51=true:=by kernel_rfl
end Go.Proofs.YtecoaapkcnhlhaaGreatDoor.Txt
