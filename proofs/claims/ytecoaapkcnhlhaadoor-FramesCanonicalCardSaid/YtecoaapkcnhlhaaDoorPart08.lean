/- VcW VcZ VcBr Txt: lemmas -/
import Derived.Test.YtecoaapkcnhlhaaDoorPart07
import Derived.ProofKit
import Derived.Test.YtecoaapkcnhlhaaDoorPart06
import Derived.Test.YtecoaapkcnhlhaaDoorChecked
set_option linter.unusedSimpArgs false
set_option linter.unusedVariables false
open Option renaming map_eq_some_iff->zR
open Array renaming getD_eq_getD_getElem? ->zO
open Bool renaming and_eq_true->zN
open List renaming getElem?_eq_getElem->zL,getElem?_eq_some_iff->zM,getElem?_append_left->yA,getElem?_append_right->yB,all_eq_true->yE,length_map->yG
namespace Go.Vc
open Go Go.RowKit
@[push_cast] theorem qpv(i:Nat):inL [] i=false:=rfl
@[push_cast] theorem qpw(a:Nat)(t:List Nat)(i:Nat):inL (a::t) i=if a=i then true else inL t i:=by
 unfold inL
 rw[qh8,qh8];rfl
def ssIs:Option Nat->Nat->Bool
 |none,_=>false
 |some j,k=>if j=k then true else false
@[push_cast] theorem qpx(k:Nat):ssIs none k=false:=rfl
@[push_cast] theorem qpy(j k:Nat):ssIs (some j) k=if j=k then true else false:=rfl
def noS(ss:Option Nat)(t:List Nat):List (Nat×PV)->Bool
 |[]=>true
 |(k,v)::r=>(ssIs ss k|| !v.toV (inL t) (inL t))&&noS ss t r
def noB(t:List Nat):List (Nat×List PV)->Bool
 |[]=>true
 |(_,cs)::r=> !anyT (inL t) (inL t) cs&&noB t r
@[push_cast] theorem qpz(ss:Option Nat)(t:List Nat):noS ss t []=true:=rfl
@[push_cast] theorem qpA(ss:Option Nat)(t:List Nat)(k:Nat)(v:PV)(r:List (Nat×PV)):noS ss t ((k,v)::r)=((ssIs ss k|| !v.toV (inL t) (inL t))&&noS ss t r):=rfl
@[push_cast] theorem qpB(t:List Nat):noB t []=true:=rfl
@[push_cast] theorem qpC(t:List Nat)(k:Nat)(cs:List PV)(r:List (Nat×List PV)):noB t ((k,cs)::r)=(!anyT (inL t) (inL t) cs&&noB t r):=rfl
@[push_cast] theorem qpD(st:St)(ss:Option Nat):noX st [] ss=true:=rfl
@[push_cast] theorem qpE(s:List (Nat×PV))(b:List (Nat×List PV))(a:List (Nat×Arr))(m:List (Nat×Mp))(i:Nat)(t:List Nat)(ss:Option Nat):noX ⟨s,b,a,m⟩ (i::t) ss=(noS ss (i::t) s&&noB (i::t) b):=by
 simp only[noX]
 congr 1
 ·induction s with
  |nil=>rfl
  |cons x r ih=>
    obtain⟨k,v⟩:=x
    simp only[List.all_cons,noS,ih]
    congr 2
    cases ss with
    |none=>rfl
    |some j=>by_cases h:j=k<;>simp[ssIs,h]
 ·induction b with
  |nil=>rfl
  |cons x r ih=>
    obtain⟨k,v⟩:=x
    simp only[qhK]at ih
    simp only[List.all_cons,noB,ih,qhK]
@[push_cast] theorem qpF(v:PV):stoT [] v=true:=rfl
@[push_cast] theorem qpG(i:Nat)(u:List Nat)(id o:Nat):stoT (i::u) (.ptr id o)=inL (i::u) id:=rfl
@[push_cast] theorem qpH(i:Nat)(u:List Nat)(id j o:Nat):stoT (i::u) (.eptr id j o)=inL (i::u) id:=rfl
@[push_cast] theorem qpI(v:PV):refU [] v=false:=rfl
@[push_cast] theorem qpJ(a:Nat)(u:List Nat)(v:PV):refU (a::u) v=v.toV (inL (a::u)) (inL (a::u)):=rfl
@[push_cast] theorem qpK(o:Option (List PV)):boxU [] o=false:=by cases o<;>rfl
@[push_cast] theorem qpL(a:Nat)(u:List Nat):boxU (a::u) none=false:=rfl
@[push_cast] theorem qpM(a:Nat)(u:List Nat)(cs:List PV):boxU (a::u) (some cs)=anyT (inL (a::u)) (inL (a::u)) cs:=qhK _ _ cs
@[push_cast] theorem qpN(st:St)(i:Nat):st.getO (some i)=st.get i:=rfl
@[push_cast] theorem qpO(st:St):st.getO none= .bot:=rfl
def boxA(u:List Nat)(b:List (Nat×List PV)):List Nat->Bool
 |[]=>true
 |i::t=> !boxU u (lk b i)&&boxA u b t
@[push_cast] theorem qpP(u:List Nat)(b:List (Nat×List PV)):boxA u b []=true:=rfl
@[push_cast] theorem qpQ(u:List Nat)(b:List (Nat×List PV))(i:Nat)(t:List Nat):boxA u b (i::t)=(!boxU u (lk b i)&&boxA u b t):=rfl
theorem qpR(u:List Nat)(b:List (Nat×List PV))(t:List Nat):t.all (fun i=> !boxU u (lk b i))=boxA u b t:=by induction t<;>simp_all[boxA]
def preD(t u:List Nat)(d ss:Option Nat)(st:St):Prop:=noX st t ss=true/\refU u (st.getO d)=false/\boxA u st.b t=true
def qpS(t u:List Nat)(d:Option Nat)(st:St):Prop:=refU u (st.getO d)=false/\boxA u st.b t=true
@[congr] theorem qpT{t u:List Nat}{d ss:Option Nat}{st st' :St}(h:st=st'):preD t u d ss st=preD t u d ss st' :=by rw[h]
@[push_cast] theorem qpU(d ss:Option Nat)(st:St):preD [] [] d ss st=True:=by simp[preD,qpI,boxA,noX]
@[push_cast] theorem qpV(d:Option Nat)(st:St):qpS [] [] d st=True:=by simp[qpS,qpI,boxA]
@[push_cast] theorem qpW (i : Nat) (t u : List Nat) (d ss : Option Nat) (s : List (Nat × PV)) (b : List (Nat × List PV)) (a : List (Nat × Arr)) (m : List (Nat × Mp)) :
  preD (i::t) u d ss ⟨s,b,a,m⟩=(noX ⟨s,b,a,m⟩ (i::t) ss=true/\refU u (St.getO ⟨s,b,a,m⟩ d)=false/\boxA u b (i::t)=true):=rfl
@[push_cast] theorem qpX (i : Nat) (u : List Nat) (d ss : Option Nat) (s : List (Nat × PV)) (b : List (Nat × List PV)) (a : List (Nat × Arr)) (m : List (Nat × Mp)) :
  preD [] (i::u) d ss ⟨s,b,a,m⟩=(refU (i::u) (St.getO ⟨s,b,a,m⟩ d)=false):=by simp[preD,boxA,noX]
@[push_cast] theorem qpY (i : Nat) (t u : List Nat) (d : Option Nat) (s : List (Nat × PV)) (b : List (Nat × List PV)) (a : List (Nat × Arr)) (m : List (Nat × Mp)) :
  qpS (i::t) u d ⟨s,b,a,m⟩=(refU u (St.getO ⟨s,b,a,m⟩ d)=false/\boxA u b (i::t)=true):=rfl
@[push_cast] theorem qpZ (i : Nat) (u : List Nat) (d : Option Nat) (s : List (Nat × PV)) (b : List (Nat × List PV)) (a : List (Nat × Arr)) (m : List (Nat × Mp)) :
  qpS [] (i::u) d ⟨s,b,a,m⟩=(refU (i::u) (St.getO ⟨s,b,a,m⟩ d)=false):=by simp[qpS,boxA]
def nvL:List PV->Bool
 |[]=>true
 |c::r=>(qbL [c]).isEmpty&&nvL r
theorem qq0(cs:List PV):(qbL cs=[]) ↔ nvL cs=true:=by
 induction cs with
 |nil=>simp[qbL,nvL]
 |cons c r ih=>cases c<;>simp[qbL,nvL,ih]
@[push_cast] theorem qq1:nvL []=true:=rfl
@[push_cast] theorem qq2(v:Value)(r:List PV):nvL (.sc v::r)=nvL r:=rfl
@[push_cast] theorem qq3(r:List PV):nvL (.nil::r)=nvL r:=rfl
@[push_cast] theorem qq4(p:Bool)(es:Nat)(xs:List (List PV))(r:List PV):nvL (.sl p es xs::r)=nvL r:=rfl
@[push_cast] theorem qq5(p:Bool)(cs:List PV)(o:Nat)(r:List PV):nvL (.iptr p cs o::r)=nvL r:=rfl
@[push_cast] theorem qq6(i o:Nat)(r:List PV):nvL (.ptr i o::r)=nvL r:=rfl
@[push_cast] theorem qq7(r:List PV):nvL (.bot::r)=nvL r:=rfl
def nvP(st:St):List (Nat×Opd)->Bool
 |[]=>true
 |(_,x)::r=>nvL (cellsOf (x.ev st))&&nvP st r
@[push_cast] theorem qq8(st:St):nvP st []=true:=rfl
@[push_cast] theorem qq9(st:St)(j:Nat)(x:Opd)(r:List (Nat×Opd)):nvP st ((j,x)::r)=(nvL (cellsOf (x.ev st))&&nvP st r):=rfl
theorem qqa(st:St)(parts:List (Nat×Opd)):(∀p∈parts,qbL (cellsOf (p.2.ev st))=[]) ↔ nvP st parts=true:=by
 induction parts with
 |nil=>simp[nvP]
 |cons p r ih=>
   obtain⟨j,x⟩:=p
   simp only[qq0]at ih
   simp only[List.forall_mem_cons,ih,nvP,zN,qq0]
def appS(t:List Nat):PV->Bool
 | .view id _ _=>inL t id
 |_=>true
@[push_cast] theorem qqb(t:List Nat)(id lo n:Nat):appS t (.view id lo n)=inL t id:=rfl
@[push_cast] theorem qqc(t:List Nat):appS t .nil=true:=rfl
section
variable (P:Env) (t u:List Nat) (d:Option Nat) (r:List DO) (st:St) (K:St->Prop)
@[congr] theorem qqd{P:Env}{l:List DO}{st st' :St}{K:St->Prop}(h:st=st'):dsK P l st K=dsK P l st' K:=by rw[h]
@[push_cast] theorem qqe(keep:List Nat)(ops:List DO)(Q:Exit->St->Prop):awp P (.drw keep ops) Q st=dsK P ops (st.keepS keep) (Q .normal):=rfl
@[push_cast] theorem qqf:dsK P [] st K=K st:=rfl
@[push_cast] theorem qqg(o:AO):dsK P (⟨o,t,u,false⟩::r) st K=opsK P [o] st (fun st' =>dsK P r st' K):=by
 simp only[dsK,dopG,Bool.false_eq_true,if_false,opsK]
def qqh(P:Env)(t u:List Nat)(o:AO)(r:List DO)(st:St)(K:St->Prop):Prop:=opsK P [o] st (fun st' =>qpS t u o.d st' /\dsK P r st' K)
@[push_cast] theorem qqi(o:AO):qqh P t u o r st K=opsK P [o] st (fun st' =>qpS t u o.d st' /\dsK P r st' K):=rfl
theorem qqj(op:AOp)(hc:qd3 op=false):dsK P (⟨⟨d,none,op⟩,t,u,true⟩::r) st K=(preD t u d (srcS op) st/\qcK st t u op/\qqh P t u ⟨d,none,op⟩ r st K):=by
 have e1:qcL ⟨⟨d,none,op⟩,t,u,true⟩ st=preD t u d (srcS op) st:=by simp only[qcL,preD,qpR]
 have e2:dopK P ⟨⟨d,none,op⟩,t,u,true⟩ st (fun st' =>dsK P r st' K)=(qcK st t u op/\qqh P t u ⟨d,none,op⟩ r st K):=by
  unfold dopK qqh
  cases op<;>first|(cases hc;done)|(simp only[opsK,grdK,qcM,qpS,qpR])
 simp only[dsK,dopG,if_true,grdK,e1,e2]
variable (x y z:Opd)
@[push_cast] theorem d_mv:dsK P (⟨⟨d,none,.mv x⟩,t,u,true⟩::r) st K=(preD t u d none st/\qqh P t u ⟨d,none,.mv x⟩ r st K):=by rw[qqj _ _ _ _ _ _ _ _ rfl];simp[qcK,srcS]
@[push_cast] theorem qqk:dsK P (⟨⟨d,none,.pick x y z⟩,t,u,true⟩::r) st K=(preD t u d none st/\qqh P t u ⟨d,none,.pick x y z⟩ r st K):=by rw[qqj _ _ _ _ _ _ _ _ rfl];simp[qcK,srcS]
@[push_cast] theorem qql(zero:List PV)(parts:List (Nat×Nat×Opd)):dsK P (⟨⟨d,none,.bld zero parts⟩,t,u,true⟩::r) st K=(preD t u d none st/\qqh P t u ⟨d,none,.bld zero parts⟩ r st K):=by rw[qqj _ _ _ _ _ _ _ _ rfl];simp[qcK,srcS]
@[push_cast] theorem d_ld(agg:Bool)(sz:Nat):dsK P (⟨⟨d,none,.ld agg sz x⟩,t,u,true⟩::r) st K=(preD t u d none st/\refU u (x.ev st)=false/\qqh P t u ⟨d,none,.ld agg sz x⟩ r st K):=by rw[qqj _ _ _ _ _ _ _ _ rfl];simp[qcK,srcS]
@[push_cast] theorem qqm(op:BinOp)(nw:Bool)(k:IntKind):dsK P (⟨⟨d,none,.ari op nw k x y⟩,t,u,true⟩::r) st K=(preD t u d none st/\qqh P t u ⟨d,none,.ari op nw k x y⟩ r st K):=by rw[qqj _ _ _ _ _ _ _ _ rfl];simp[qcK,srcS]
@[push_cast] theorem qqn(op:BinOp)(nw:Bool)(k:IntKind):dsK P (⟨⟨d,none,.dvd op nw k x y⟩,t,u,true⟩::r) st K=(preD t u d none st/\qqh P t u ⟨d,none,.dvd op nw k x y⟩ r st K):=by rw[qqj _ _ _ _ _ _ _ _ rfl];simp[qcK,srcS]
@[push_cast] theorem qqo(op:BinOp)(k:IntKind):dsK P (⟨⟨d,none,.bit op k x y⟩,t,u,true⟩::r) st K=(preD t u d none st/\qqh P t u ⟨d,none,.bit op k x y⟩ r st K):=by rw[qqj _ _ _ _ _ _ _ _ rfl];simp[qcK,srcS]
@[push_cast] theorem qqp(op:BinOp)(k:IntKind):dsK P (⟨⟨d,none,.shf op k x y⟩,t,u,true⟩::r) st K=(preD t u d none st/\qqh P t u ⟨d,none,.shf op k x y⟩ r st K):=by rw[qqj _ _ _ _ _ _ _ _ rfl];simp[qcK,srcS]
@[push_cast] theorem qqq(op:BinOp)(k:IntKind):dsK P (⟨⟨d,none,.cmp op k x y⟩,t,u,true⟩::r) st K=(preD t u d none st/\qqh P t u ⟨d,none,.cmp op k x y⟩ r st K):=by rw[qqj _ _ _ _ _ _ _ _ rfl];simp[qcK,srcS]
@[push_cast] theorem qqr(ng:Bool):dsK P (⟨⟨d,none,.eqb ng x y⟩,t,u,true⟩::r) st K=(preD t u d none st/\qqh P t u ⟨d,none,.eqb ng x y⟩ r st K):=by rw[qqj _ _ _ _ _ _ _ _ rfl];simp[qcK,srcS]
@[push_cast] theorem qqs(ng:Bool)(n:Nat):dsK P (⟨⟨d,none,.eqa ng n x y⟩,t,u,true⟩::r) st K=(preD t u d none st/\qqh P t u ⟨d,none,.eqa ng n x y⟩ r st K):=by rw[qqj _ _ _ _ _ _ _ _ rfl];simp[qcK,srcS]
@[push_cast] theorem qqt:dsK P (⟨⟨d,none,.not x⟩,t,u,true⟩::r) st K=(preD t u d none st/\qqh P t u ⟨d,none,.not x⟩ r st K):=by rw[qqj _ _ _ _ _ _ _ _ rfl];simp[qcK,srcS]
@[push_cast] theorem qqv(nw:Bool)(k:IntKind):dsK P (⟨⟨d,none,.cnv nw k x⟩,t,u,true⟩::r) st K=(preD t u d none st/\qqh P t u ⟨d,none,.cnv nw k x⟩ r st K):=by rw[qqj _ _ _ _ _ _ _ _ rfl];simp[qcK,srcS]
@[push_cast] theorem qqw:dsK P (⟨⟨d,none,.len x⟩,t,u,true⟩::r) st K=(preD t u d none st/\qqh P t u ⟨d,none,.len x⟩ r st K):=by rw[qqj _ _ _ _ _ _ _ _ rfl];simp[qcK,srcS]
@[push_cast] theorem d_mn(mx:Bool):dsK P (⟨⟨d,none,.mn mx x y⟩,t,u,true⟩::r) st K=(preD t u d none st/\qqh P t u ⟨d,none,.mn mx x y⟩ r st K):=by rw[qqj _ _ _ _ _ _ _ _ rfl];simp[qcK,srcS]
@[push_cast] theorem d_fa(off:Nat):dsK P (⟨⟨d,none,.fa off x⟩,t,u,true⟩::r) st K=(preD t u d none st/\qqh P t u ⟨d,none,.fa off x⟩ r st K):=by rw[qqj _ _ _ _ _ _ _ _ rfl];simp[qcK,srcS]
@[push_cast] theorem d_fl(agg:Bool)(off sz:Nat):dsK P (⟨⟨d,none,.fl agg off sz x⟩,t,u,true⟩::r) st K=(preD t u d none st/\qqh P t u ⟨d,none,.fl agg off sz x⟩ r st K):=by rw[qqj _ _ _ _ _ _ _ _ rfl];simp[qcK,srcS]
@[push_cast] theorem qqy(es:Nat):dsK P (⟨⟨d,none,.ixs es x y⟩,t,u,true⟩::r) st K=(preD t u d none st/\refU u (x.ev st)=false/\qqh P t u ⟨d,none,.ixs es x y⟩ r st K):=by rw[qqj _ _ _ _ _ _ _ _ rfl];simp[qcK,srcS]
@[push_cast] theorem qqz(n es:Nat):dsK P (⟨⟨d,none,.ixa n es x y⟩,t,u,true⟩::r) st K=(preD t u d none st/\qqh P t u ⟨d,none,.ixa n es x y⟩ r st K):=by rw[qqj _ _ _ _ _ _ _ _ rfl];simp[qcK,srcS]
@[push_cast] theorem qqB(es:Nat)(lo hi:Option Opd):dsK P (⟨⟨d,none,.slc es x lo hi⟩,t,u,true⟩::r) st K=(preD t u d none st/\refU u (x.ev st)=false/\qqh P t u ⟨d,none,.slc es x lo hi⟩ r st K):=by rw[qqj _ _ _ _ _ _ _ _ rfl];simp[qcK,srcS]
@[push_cast] theorem qqC(i:Nat):dsK P (⟨⟨d,none,.ext x i⟩,t,u,true⟩::r) st K=(preD t u d none st/\qqh P t u ⟨d,none,.ext x i⟩ r st K):=by rw[qqj _ _ _ _ _ _ _ _ rfl];simp[qcK,srcS]
@[push_cast] theorem qqD:dsK P (⟨⟨d,none,.nck x⟩,t,u,true⟩::r) st K=(preD t u d none st/\qqh P t u ⟨d,none,.nck x⟩ r st K):=by rw[qqj _ _ _ _ _ _ _ _ rfl];simp[qcK,srcS]
@[push_cast] theorem qqE(zero:List PV):dsK P (⟨⟨d,none,.alc zero⟩,t,u,true⟩::r) st K=(preD t u d none st/\qqh P t u ⟨d,none,.alc zero⟩ r st K):=by rw[qqj _ _ _ _ _ _ _ _ rfl];simp[qcK,srcS]
@[push_cast] theorem qqF:dsK P (⟨⟨d,none,.box x⟩,t,u,true⟩::r) st K=(preD t u d none st/\qqh P t u ⟨d,none,.box x⟩ r st K):=by rw[qqj _ _ _ _ _ _ _ _ rfl];simp[qcK,srcS]
@[push_cast] theorem qqG(es ty by_:Nat)(zero:List PV):dsK P (⟨⟨d,none,.mks es ty by_ zero x y⟩,t,u,true⟩::r) st K=(preD t u d none st/\qqh P t u ⟨d,none,.mks es ty by_ zero x y⟩ r st K):=by rw[qqj _ _ _ _ _ _ _ _ rfl];simp[qcK,srcS]
@[push_cast] theorem qqH(es ty:Nat)(zero:List PV)(n:Nat)(parts:List (Nat×Opd)):dsK P (⟨⟨d,none,.bsl es ty zero n parts⟩,t,u,true⟩::r) st K=(preD t u d none st/\nvP st parts=true/\qqh P t u ⟨d,none,.bsl es ty zero n parts⟩ r st K):=by rw[qqj _ _ _ _ _ _ _ _ rfl];simp only[qcK,srcS,qqa]
@[push_cast] theorem qqI(sz:Nat):dsK P (⟨⟨d,none,.sto sz x y⟩,t,u,true⟩::r) st K=(preD t u d none st/\(nvL (cellsOf (y.ev st))=true/\stoT u (x.ev st)=true)/\qqh P t u ⟨d,none,.sto sz x y⟩ r st K):=by rw[qqj _ _ _ _ _ _ _ _ rfl];simp only[qcK,srcS,qq0]
def srcT:Opd->Option Nat
 | .t s=>some s
 | .c _=>none
@[push_cast] theorem qqJ(s:Nat):srcT (.t s)=some s:=rfl
@[push_cast] theorem qqK(p:PV):srcT (.c p)=none:=rfl
@[push_cast] theorem qqL(es ty by_:Nat):dsK P (⟨⟨d,none,.app es ty by_ x y⟩,t,u,true⟩::r) st K=(preD t u d (srcT x) st/\appS t (x.ev st)=true/\qqh P t u ⟨d,none,.app es ty by_ x y⟩ r st K):=by
 rw[qqj _ _ _ _ _ _ _ _ rfl]
 have h1:srcS (.app es ty by_ x y)=srcT x:=by cases x<;>rfl
 have h2:qcK st t u (.app es ty by_ x y)=(appS t (x.ev st)=true):=by
  simp only[qcK]
  cases x.ev st<;>simp[appS]
 rw[h1,h2]
@[push_cast] theorem qqM(es:Nat):dsK P (⟨⟨d,none,.cpy es x y⟩,t,u,true⟩::r) st K=(preD t u d none st/\qqh P t u ⟨d,none,.cpy es x y⟩ r st K):=by rw[qqj _ _ _ _ _ _ _ _ rfl];simp[qcK,srcS]
def qqN(P:Env)(u:List Nat)(d:Option Nat)(f:Nat)(args:List PV)(r:List DO)(st:St)(K:St->Prop):Prop:=
 ∃post,FnOK P.p f args post/\(∃v,post v)/\ ∀v,post v->refU u v=false/\dsK P r (st.put d v) K
@[congr] theorem qqO{P:Env}{u:List Nat}{d:Option Nat}{f:Nat}{args args' :List PV}{r:List DO}{st st' :St}{K:St->Prop}(h1:args=args')(h2:st=st'):qqN P u d f args r st K=qqN P u d f args' r st' K:=by rw[h1,h2]
@[push_cast] theorem qqP(f:Nat)(args:List Opd):dsK P (⟨⟨d,none,.cal f args⟩,t,u,true⟩::r) st K=(preD t u d none st/\qqN P u d f (qoG st args) r st K):=by
 simp only[dsK,dopG,if_true,grdK,dopK,calD,qqN,qoJ,qcL,preD,srcS,qpR]
def qqQ(P:Env)(u:List Nat)(d:Option Nat)(v:PV)(args:List PV)(r:List DO)(st:St)(K:St->Prop):Prop:=
 match v with| .sc (.func (.func f) _ _)=>qcG P.p f=true/\qqN P u d f args r st K|_=>False
@[congr] theorem qqR{P:Env}{u:List Nat}{d:Option Nat}{v v' :PV}{args args' :List PV}{r:List DO}{st st' :St}{K:St->Prop}(h0:v=v')(h1:args=args')(h2:st=st'):qqQ P u d v args r st K=qqQ P u d v' args' r st' K:=by rw[h0,h1,h2]
@[push_cast] theorem qqS(y:Opd)(args:List Opd):dsK P (⟨⟨d,none,.clv y args⟩,t,u,true⟩::r) st K=(preD t u d none st/\qqQ P u d (y.ev st) (qoG st args) r st K):=by
 simp only[dsK,dopG,if_true,grdK,dopK,calD,qqQ,qqN,qoJ,qcL,preD,srcS,qpR]
 generalize y.ev st=v
 cases v with
 | sc x => cases x with
   |func c a b=>cases c<;>simp[and_assoc]
   |_=>simp
 |_=>simp
@[push_cast] theorem qqT(f:Nat)(a b:Array Value)(args:List PV):qqQ P u d (.sc (.func (.func f) a b)) args r st K=(qcG P.p f=true/\qqN P u d f args r st K):=rfl
end
theorem qqU{P:Env}{u:List Nat}{d:Option Nat}{f:Nat}{args:List PV}{r:List DO}{st:St}{K:St->Prop}{v:PV}(hc:FnEq P.p f args v)(hu:refU u v=false)(h:dsK P r (st.put d v) K):qqN P u d f args r st K:=
 ⟨_,hc,⟨v,rfl⟩,fun w hw=>by subst hw;exact⟨hu,h⟩⟩
section
variable {P:Env} {t u:List Nat} {d:Option Nat} {s:Nat} {op:AOp} {r:List DO} {sl:List (Nat×PV)} {bx:List (Nat×List PV)} {ar:List (Nat×Arr)} {mm:List (Nat×Mp)} {K:St->Prop}
theorem qqW (b : Bool) {w : Bool} (h : getL sl s = .sc (.bool b)) :
  dsK P (⟨⟨d,some (s,w),op⟩,t,u,true⟩::r) ⟨sl,bx,ar,mm⟩ K=(preD t u d (srcS op) ⟨sl,bx,ar,mm⟩/\(b=w->dopK P ⟨⟨d,some (s,w),op⟩,t,u,true⟩ ⟨sl,bx,ar,mm⟩ (fun st' =>dsK P r st' K))/\(b≠w->dsK P r ((⟨sl,bx,ar,mm⟩:St).put d (.tup [])) K)):=by
 have hg:(⟨sl,bx,ar,mm⟩:St).get s= .sc (.bool b):=by rw[qhe];exact h
 have e1:qcL ⟨⟨d,some (s,w),op⟩,t,u,true⟩ ⟨sl,bx,ar,mm⟩=preD t u d (srcS op) ⟨sl,bx,ar,mm⟩:=by simp only[qcL,preD,qpR]
 simp only[dsK,dopG,if_true,e1,grdK,hg]
theorem qqX(w:Bool)(st:St)(K:St->Prop):dopK P ⟨⟨d,some (s,w),op⟩,t,u,true⟩ st K=dopK P ⟨⟨d,none,op⟩,t,u,true⟩ st K:=by
 unfold dopK
 cases op<;>rfl
theorem qqY(st:St):dsK P (⟨⟨d,none,op⟩,t,u,true⟩::r) st K=(preD t u d (srcS op) st/\dopK P ⟨⟨d,none,op⟩,t,u,true⟩ st (fun st' =>dsK P r st' K)):=by
 have e1:qcL ⟨⟨d,none,op⟩,t,u,true⟩ st=preD t u d (srcS op) st:=by simp only[qcL,preD,qpR]
 simp only[dsK,dopG,if_true,grdK,e1]
@[push_cast] theorem qqZ(h:getL sl s= .sc (.bool true)):dsK P (⟨⟨d,some (s,true),op⟩,t,u,true⟩::r) ⟨sl,bx,ar,mm⟩ K=dsK P (⟨⟨d,none,op⟩,t,u,true⟩::r) ⟨sl,bx,ar,mm⟩ K:=by
 rw[qqW true h,qqY,qqX];simp
@[push_cast] theorem qr0(h:getL sl s= .sc (.bool false)):dsK P (⟨⟨d,some (s,false),op⟩,t,u,true⟩::r) ⟨sl,bx,ar,mm⟩ K=dsK P (⟨⟨d,none,op⟩,t,u,true⟩::r) ⟨sl,bx,ar,mm⟩ K:=by
 rw[qqW false h,qqY,qqX];simp
@[push_cast] theorem qr1(h:getL sl s= .sc (.bool false)):dsK P (⟨⟨d,some (s,true),op⟩,t,u,true⟩::r) ⟨sl,bx,ar,mm⟩ K=(preD t u d (srcS op) ⟨sl,bx,ar,mm⟩/\dsK P r ((⟨sl,bx,ar,mm⟩:St).put d (.tup [])) K):=by
 rw[qqW false h];simp
@[push_cast] theorem qr2(h:getL sl s= .sc (.bool true)):dsK P (⟨⟨d,some (s,false),op⟩,t,u,true⟩::r) ⟨sl,bx,ar,mm⟩ K=(preD t u d (srcS op) ⟨sl,bx,ar,mm⟩/\dsK P r ((⟨sl,bx,ar,mm⟩:St).put d (.tup [])) K):=by
 rw[qqW true h];simp
@[push_cast] theorem qr3{w:Bool}(h:getL sl s= .tup []):dsK P (⟨⟨d,some (s,w),op⟩,t,u,true⟩::r) ⟨sl,bx,ar,mm⟩ K=(preD t u d (srcS op) ⟨sl,bx,ar,mm⟩/\dsK P r ((⟨sl,bx,ar,mm⟩:St).put d (.tup [])) K):=by
 have hg:(⟨sl,bx,ar,mm⟩:St).get s= .tup []:=by rw[qhe];exact h
 have e1:qcL ⟨⟨d,some (s,w),op⟩,t,u,true⟩ ⟨sl,bx,ar,mm⟩=preD t u d (srcS op) ⟨sl,bx,ar,mm⟩:=by simp only[qcL,preD,qpR]
 simp only[dsK,dopG,if_true,e1,grdK,hg]
theorem qr4 {want : Bool} (b : Bool) (h : getL sl s = .sc (.bool b)) (h1 : b = want -> dsK P (⟨⟨d, none, op⟩, t, u, true⟩ :: r) ⟨rp sl s (.sc (.bool want)), bx, ar, mm⟩ K)
  (h2:b= !want->preD t u d (srcS op) ⟨rp sl s (.sc (.bool !want)),bx,ar,mm⟩/\dsK P r ((⟨rp sl s (.sc (.bool !want)),bx,ar,mm⟩:St).put d (.tup [])) K):dsK P (⟨⟨d,some (s,want),op⟩,t,u,true⟩::r) ⟨sl,bx,ar,mm⟩ K:=by
 have hup:=fun c (hc:getL sl s=c)=>qo1 sl s c hc
 rw[qqW b h]
 by_cases e:b=want
 ·have:=h1 e
  subst e
  rw[hup _ h,qqY]at this
  exact⟨this.1,fun _=>by rw[qqX];exact this.2,fun h=>absurd rfl h⟩
 ·have e' :b= !want:=by cases b<;>cases want<;>simp_all
  have:=h2 e'
  rw[<- e',hup _ h]at this
  exact⟨this.1,fun h=>absurd h e,fun _=>this.2⟩
end
section
variable (P:Env) (Q:Exit->St->Prop) (st:St)
@[push_cast] theorem qr5(ts:List Nat)(c:AC):awp P (.frz ts c) Q st=awp P c Q (qcO st ts):=rfl
@[push_cast] theorem qr6:qcO st []=st:=rfl
@[push_cast] theorem qr7(t:Nat)(r:List Nat):qcO st (t::r)=qcO (st.frzs (cellsOf (st.get t))) r:=rfl
@[push_cast] theorem qr8(ks:List Nat)(c:AC):awp P (.cut ks c) Q st=awp P c Q (st.keepS ks):=rfl
theorem qr9{P:Env}{Q:Exit->St->Prop}{st:St}{c:AC}(st0:St)(h:SWk st st0)(h2:awp P c Q st0):awp P (.wk c) Q st:=⟨st0,h,h2⟩
end
@[push_cast] theorem sub_self(c:PV):Sub c c ↔ True:=⟨fun _=>trivial,fun _=> .refl c⟩
@[push_cast] theorem qrb(c:PV):Sub c .bot ↔ True:=⟨fun _=>trivial,fun _=> .bot c⟩
@[push_cast] theorem qrc:SubL [] [] ↔ True:=Iff.rfl
@[push_cast] theorem qrd(c d:PV)(cs ds:List PV):SubL (c::cs) (d::ds) ↔ (Sub c d/\SubL cs ds):=Iff.rfl
@[push_cast] theorem qre(cs:List PV):SubL cs cs ↔ True:=⟨fun _=>trivial,fun _=>SubL.rfl' cs⟩
theorem qrf: ∀ {cs ds:List PV},cs.length=ds.length->(∀(j:Nat) (c d:PV),cs[j]? =some c->ds[j]? =some d->Sub c d)->SubL cs ds
 |[],[],_,_=>trivial
 |c::cs,d::ds,hl,h=>⟨h 0 c d rfl rfl,qrf (by simpa using hl) fun j c' d' h1 h2=>h (j+1) c' d' (by simpa using h1) (by simpa using h2)⟩
@[push_cast] theorem qrg(cs ds:List PV):Sub (.agg cs) (.agg ds) ↔ SubL cs ds:=
 ⟨fun h=>by cases h with|refl=>exact SubL.rfl' _|agg _ _ h1 h2=>exact qrf h1 h2,Sub.aggL⟩
@[push_cast] theorem qrh(cs ds:List PV):Sub (.tup cs) (.tup ds) ↔ SubL cs ds:=
 ⟨fun h=>by cases h with|refl=>exact SubL.rfl' _|tup _ _ h1 h2=>exact qrf h1 h2,Sub.tupL⟩
@[push_cast] theorem qri(p:Bool)(es:Nat)(xs:List (List PV)):Sub (.sl p es xs) (.sl false es xs) ↔ True:=⟨fun _=>trivial,fun _=>Sub.slp p es xs false (fun h=>by cases h)⟩
@[push_cast] theorem qrj(q:Bool)(es:Nat)(xs:List (List PV)):Sub (.sl true es xs) (.sl q es xs) ↔ True:=⟨fun _=>trivial,fun _=>Sub.slp true es xs q (fun _=>rfl)⟩
@[push_cast] theorem qrk(p:Bool)(es:Nat)(xs:List (List PV)):Sub .nil (.sl p es xs) ↔ xs=[]:=⟨fun h=>by cases h;rfl,fun h=>by subst h;exact .nil p es⟩
@[push_cast] theorem qrl(a b:Value):Sub (.sc a) (.sc b) ↔ a=b:=⟨fun h=>by cases h;rfl,fun h=>by subst h;exact .refl _⟩
@[push_cast] theorem qrm{α:Type}(f:α->List PV)(l:List α):rows f l=[] ↔ l=[]:=by simp[rows]
@[push_cast] theorem qrn(s s' :List (Nat×PV))(b b' :List (Nat×List PV))(a a' :List (Nat×Arr))(m m' :List (Nat×Mp)):Wk ⟨s,b,a,m⟩ ⟨s',b',a',m'⟩ ↔ (WkS s s' /\WkB b b' /\WkA a a' /\m' =m):=Iff.rfl
@[push_cast] theorem qro:WkS [] [] ↔ True:=Iff.rfl
@[push_cast] theorem qrp(i j:Nat)(c d:PV)(s t:List (Nat×PV)):WkS ((i,c)::s) ((j,d)::t) ↔ (i=j/\Sub c d/\WkS s t):=Iff.rfl
@[push_cast] theorem qrq:WkB [] [] ↔ True:=Iff.rfl
@[push_cast] theorem qrr(i j:Nat)(c d:List PV)(s t:List (Nat×List PV)):WkB ((i,c)::s) ((j,d)::t) ↔ (i=j/\SubL c d/\WkB s t):=Iff.rfl
@[push_cast] theorem qrs:WkA [] [] ↔ True:=Iff.rfl
@[push_cast] theorem qrt(i j e e' y y' :Nat)(c d:List (List PV))(s t:List (Nat×Arr)):WkA ((i,⟨e,y,c⟩)::s) ((j,⟨e',y',d⟩)::t) ↔ ((i=j/\e' =e/\y' =y)/\SubR c d/\WkA s t):=Iff.rfl
@[push_cast] theorem qru(cs:List (List PV)):SubR cs cs ↔ True:=⟨fun _=>trivial,fun _=>SubR.rfl' cs⟩
theorem qrv{P:Env}{d:Option Nat}{f:Nat}{args args' :List PV}{r:List AO}{st:St}{K:St->Prop}{v:PV}(hc:FnEq P.p f args' v)(hs:SubL args args')(h:opsK P r (st.put d v) K):calK P d f args r st K:=qoM (FnOK.sub hc hs) h
theorem qrx{P:Env}{u:List Nat}{d:Option Nat}{f:Nat}{args args' :List PV}{r:List DO}{st:St}{K:St->Prop}{v:PV}(hc:FnEq P.p f args' v)(hs:SubL args args')(hu:refU u v=false)(h:dsK P r (st.put d v) K):qqN P u d f args r st K:=
 qqU (FnOK.sub hc hs) hu h
@[push_cast] theorem qry(es ty by_ s:Nat)(y:Opd):srcS (.app es ty by_ (.t s) y)=some s:=rfl
end Go.Vc
namespace Go.Vc
open Go Go.RowKit
section
variable {P:Env} {d:Option Nat} {s:Nat} {op:AOp} {r:List AO} {sl:List (Nat×PV)} {bx:List (Nat×List PV)} {ar:List (Nat×Arr)} {mm:List (Nat×Mp)} {K:St->Prop} {p:Prop} [Decidable p]
theorem qrz (h : getL sl s = .sc (.bool (decide p))) (h1 : p -> opsK P (⟨d, none, op⟩ :: r) ⟨rp sl s (.sc (.bool true)), bx, ar, mm⟩ K) (h2 : ¬ p -> opsK P r ((⟨rp sl s (.sc (.bool false)), bx, ar, mm⟩ : St).put d (.tup [])) K) :
  opsK P (⟨d,some (s,true),op⟩::r) ⟨sl,bx,ar,mm⟩ K:=qo2 (decide p) h (fun e=>h1 (of_decide_eq_true e)) (fun e=>h2 (of_decide_eq_false e))
theorem qrA (h : getL sl s = .sc (.bool (decide p))) (h1 : p -> opsK P r ((⟨rp sl s (.sc (.bool true)), bx, ar, mm⟩ : St).put d (.tup [])) K) (h2 : ¬ p -> opsK P (⟨d, none, op⟩ :: r) ⟨rp sl s (.sc (.bool false)), bx, ar, mm⟩ K) :
  opsK P (⟨d,some (s,false),op⟩::r) ⟨sl,bx,ar,mm⟩ K:=qo2 (decide p) h (fun e=>h2 (of_decide_eq_false e)) (fun e=>h1 (of_decide_eq_true e))
theorem qrB {b : Bool} (h : getL sl s = .sc (.bool b)) (h1 : b = true -> opsK P (⟨d, none, op⟩ :: r) ⟨rp sl s (.sc (.bool true)), bx, ar, mm⟩ K) (h2 : b = false -> opsK P r ((⟨rp sl s (.sc (.bool false)), bx, ar, mm⟩ : St).put d (.tup [])) K) :
  opsK P (⟨d,some (s,true),op⟩::r) ⟨sl,bx,ar,mm⟩ K:=qo2 b h h1 h2
theorem qrC {b : Bool} (h : getL sl s = .sc (.bool b)) (h1 : b = true -> opsK P r ((⟨rp sl s (.sc (.bool true)), bx, ar, mm⟩ : St).put d (.tup [])) K) (h2 : b = false -> opsK P (⟨d, none, op⟩ :: r) ⟨rp sl s (.sc (.bool false)), bx, ar, mm⟩ K) :
  opsK P (⟨d,some (s,false),op⟩::r) ⟨sl,bx,ar,mm⟩ K:=qo2 b h h2 h1
end
section
variable {P:Env} {t u:List Nat} {d:Option Nat} {s:Nat} {op:AOp} {r:List DO} {sl:List (Nat×PV)} {bx:List (Nat×List PV)} {ar:List (Nat×Arr)} {mm:List (Nat×Mp)} {K:St->Prop} {p:Prop} [Decidable p]
theorem qrD (h : getL sl s = .sc (.bool (decide p))) (h1 : p -> dsK P (⟨⟨d, none, op⟩, t, u, true⟩ :: r) ⟨rp sl s (.sc (.bool true)), bx, ar, mm⟩ K)
  (h2: ¬p->preD t u d (srcS op) ⟨rp sl s (.sc (.bool false)),bx,ar,mm⟩/\dsK P r ((⟨rp sl s (.sc (.bool false)),bx,ar,mm⟩:St).put d (.tup [])) K):dsK P (⟨⟨d,some (s,true),op⟩,t,u,true⟩::r) ⟨sl,bx,ar,mm⟩ K:=
 qr4 (decide p) h (fun e=>h1 (of_decide_eq_true e)) (fun e=>h2 (of_decide_eq_false e))
theorem qrE (h : getL sl s = .sc (.bool (decide p))) (h1 : p -> preD t u d (srcS op) ⟨rp sl s (.sc (.bool true)), bx, ar, mm⟩ /\ dsK P r ((⟨rp sl s (.sc (.bool true)), bx, ar, mm⟩ : St).put d (.tup [])) K)
  (h2: ¬p->dsK P (⟨⟨d,none,op⟩,t,u,true⟩::r) ⟨rp sl s (.sc (.bool false)),bx,ar,mm⟩ K):dsK P (⟨⟨d,some (s,false),op⟩,t,u,true⟩::r) ⟨sl,bx,ar,mm⟩ K:=
 qr4 (decide p) h (fun e=>h2 (of_decide_eq_false e)) (fun e=>h1 (of_decide_eq_true e))
theorem qrG {b : Bool} (h : getL sl s = .sc (.bool b)) (h1 : b = true -> preD t u d (srcS op) ⟨rp sl s (.sc (.bool true)), bx, ar, mm⟩ /\ dsK P r ((⟨rp sl s (.sc (.bool true)), bx, ar, mm⟩ : St).put d (.tup [])) K)
  (h2:b=false->dsK P (⟨⟨d,none,op⟩,t,u,true⟩::r) ⟨rp sl s (.sc (.bool false)),bx,ar,mm⟩ K):dsK P (⟨⟨d,some (s,false),op⟩,t,u,true⟩::r) ⟨sl,bx,ar,mm⟩ K:=qr4 b h h2 h1
end
theorem qrH{P:Env}{ops:List AO}{st:St}{ks:List Nat}{c:AC}{Q:Exit->St->Prop}(st1:St)(h1:opsK P ops st (fun st' =>st'.keepS ks=st1))(h2:awp P c Q st1):opsK P ops st (fun st' =>awp P (.cut ks c) Q st'):=by
 have mono: ∀(l:List AO) (st:St) (K K' :St->Prop),(∀s,K s->K' s)->opsK P l st K->opsK P l st K' :=by
  intro l
  induction l with
  |nil=>exact fun st K K' h hk=>h st hk
  |cons o r ih=>exact fun st K K' h hk=>qfH (qfG fun s hs=>ih s K K' h hs) (ih _ K K' h) hk
 exact mono ops st _ _ (fun s hs=>by show awp P c Q (s.keepS ks);rw[hs];exact h2) h1
theorem qrI{P:Env}{ops:List DO}{st:St}{ks:List Nat}{c:AC}{Q:Exit->St->Prop}(st1:St)(h1:dsK P ops st (fun st' =>st'.keepS ks=st1))(h2:awp P c Q st1):dsK P ops st (fun st' =>awp P (.cut ks c) Q st'):=by
 have dop: ∀(x:DO) (st:St) (K K' :St->Prop),(∀s,K s->K' s)->dopG P x st K->dopG P x st K' :=by
  intro x st K K' h hk
  unfold dopG at hk ⊢
  split
  ·rename_i hs
   rw[if_pos hs]at hk
   refine⟨hk.1,qfH (fun hd=> ?_) (h _) hk.2⟩
   unfold dopK at hd ⊢
   split
   ·rename_i hop
    rw[hop]at hd
    obtain⟨post,a,b,c⟩:=hd
    exact⟨post,a,b,fun r hr=>⟨(c r hr).1,h _ (c r hr).2⟩⟩
   ·rename_i hop
    rw[hop]at hd
    simp only at hd ⊢
    split at hd
    ·obtain⟨h0,post,a,b,c⟩:=hd
     exact⟨h0,post,a,b,fun r hr=>⟨(c r hr).1,h _ (c r hr).2⟩⟩
    ·exact hd.elim
   ·rename_i hop hop3
    have hd:qcK st x.t x.u x.o.op/\opK P x.o st (fun st' =>qcM x st' /\K st'):=by
     split at hd
     ·rename_i hop2;exact absurd hop2 (hop _ _)
     ·rename_i hop2;exact absurd hop2 (hop3 _ _)
     ·exact hd
    exact⟨hd.1,qfG (fun s hs=>⟨hs.1,h s hs.2⟩) hd.2⟩
  ·rename_i hs
   rw[if_neg hs]at hk
   exact qfH (qfG h) (h _) hk
 have mono: ∀(l:List DO) (st:St) (K K' :St->Prop),(∀s,K s->K' s)->dsK P l st K->dsK P l st K' :=by
  intro l
  induction l with
  |nil=>exact fun st K K' h hk=>h st hk
  |cons o r ih=>exact fun st K K' h hk=>dop o st _ _ (fun s hs=>ih s K K' h hs) hk
 exact mono ops st _ _ (fun s hs=>by show awp P c Q (s.keepS ks);rw[hs];exact h2) h1
end Go.Vc
namespace Go.Vc
open Go Go.RowKit
inductive Ty where
 |b
 |i (k:IntKind)
 |sl (es:Nat) (ts:List Ty)
def qrL(P:Program):Nat->TypeId->List Ty->Bool
 |0,_,_=>false
 | n + 1, t, ts => match P.underlying t with
   |some .bool=>(match ts with|[.b]=>true|_=>false)
   |some (.int k)=>(match ts with|[.i k']=>k==k' |_=>false)
   |some (.slice e)=>(match ts with|[.sl es us]=>us.length==es&&P.cellsOf e==es&&decide (0<es)&&qrL P n e us|_=>false)
   | some (.struct fs) => fs.toList.all (fun f => qrL P n f.type ((ts.drop f.offset).take (P.cellsOf f.type))) && ts.length == P.cellsOf t &&
     (List.range ts.length).all fun j=>fs.toList.any fun f=>decide (f.offset<=j)&&decide (j<f.offset+P.cellsOf f.type)
   | some (.array m e) => (List.range m).all (fun i => qrL P n e ((ts.drop (i * P.cellsOf e)).take (P.cellsOf e))) && ts.length == P.cellsOf t &&
     (List.range ts.length).all fun j=>(List.range m).any fun i=>decide (i*P.cellsOf e<=j)&&decide (j<i*P.cellsOf e+P.cellsOf e)
   |_=>false
inductive CellB (B:Nat):Ty->PV->Prop
 |b (x):CellB B .b (.sc (.bool x))
 |i (k n):k.min<=n->n<=k.max->CellB B (.i k) (.sc (.int k n))
 |sl (es ts) (rows:List (List PV)):rows.length<=B->(∀r∈rows,r.length=ts.length)->(∀r∈rows,∀(j:Nat) (t:Ty) (c:PV),ts[j]? =some t->r[j]? =some c->CellB B t c)->CellB B (.sl es ts) (.sl true es rows)
abbrev qrM:Ty->PV->Prop:=CellB maxLen
structure Meas {H:Type} (μ:DataW H->Nat):Prop where
 len: ∀l r,l.length<=μ (.slice l r)
 el: ∀l r,∀e∈l,μ e<=μ (.slice l r)
 agg: ∀l,∀e∈l,μ e<=μ (.agg l)
def Fits{H:Type}(B:Nat)(d:DataW H):Prop:=maxLen<=B\/ ∃μ:DataW H->Nat,Meas μ/\μ d<=B
theorem Fits.agg{H:Type}{B:Nat}{l:List (DataW H)}{e:DataW H}(h:Fits B (.agg l))(he:e∈l):Fits B e:=h.imp _root_.id fun⟨μ,h1,h2⟩=>⟨μ,h1,Nat.le_trans (h1.agg l e he) h2⟩
theorem Fits.el{H:Type}{B:Nat}{l r:List (DataW H)}{e:DataW H}(h:Fits B (.slice l r))(he:e∈l):Fits B e:=h.imp _root_.id fun⟨μ,h1,h2⟩=>⟨μ,h1,Nat.le_trans (h1.el l r e he) h2⟩
theorem Fits.len{H:Type}{B:Nat}{l r:List (DataW H)}(h:Fits B (.slice l r))(hl:l.length<=maxLen):l.length<=B:=by
 rcases h with h|⟨μ,h1,h2⟩
 ·omega
 ·have:=h1.len l r;omega
theorem qrN{α β:Type}{f:α->Option β} : ∀ {l:List α} {r:List β},l.mapM f=some r->r.length=l.length
 |[],r,h=>by simp at h;subst h;rfl
 | a :: l, r, h => by
   rw[List.mapM_cons]at h
   cases ha:f a with
   |none=>rw[ha]at h;cases h
   |some y=>
     rw[ha]at h
     cases hl:l.mapM f with
     |none=>rw[hl]at h;cases h
     |some ys=>
       rw[hl]at h
       cases h
       simp[qrN hl]
theorem qrO{α β:Type}{f:α->Option β} : ∀ {l:List α} {r:List β},l.mapM f=some r-> ∀x∈l,∃y∈r,f x=some y
 |[],_,_,x,hx=>by cases hx
 | a :: l, r, h, x, hx => by
   rw[List.mapM_cons]at h
   cases ha:f a with
   |none=>rw[ha]at h;cases h
   |some y=>
     rw[ha]at h
     cases hl:l.mapM f with
     |none=>rw[hl]at h;cases h
     |some ys=>
       rw[hl]at h
       cases h
       rcases List.mem_cons.1 hx with rfl|hx
       ·exact⟨y,by simp,ha⟩
       ·obtain⟨z,h1,h2⟩:=qrO hl x hx
        exact⟨z,by simp[h1],h2⟩
theorem qrP{α:Type}{Q:Nat->α->Prop} : ∀n:Nat,(∀j,j<n-> ∃c,Q j c)-> ∃l:List α,l.length=n/\ ∀j c,l[j]? =some c->Q j c
 |0,_=>⟨[],rfl,fun j c h=>by simp at h⟩
 | n + 1, h => by
   obtain⟨l,h1,h2⟩:=qrP n fun j hj=>h j (by omega)
   obtain⟨c,hc⟩:=h n (by omega)
   refine⟨l++[c],by simp[h1],fun j c' hj=> ?_⟩
   by_cases hjn:j<l.length
   ·rw[yA hjn]at hj;exact h2 j c' hj
   ·rw[yB (by omega)]at hj
    have:j-l.length=0:=by
     have:=(zM.1 hj).1
     simp at this;omega
    rw[this]at hj
    simp at hj
    subst hj
    have:j=n:=by omega
    rw[this];exact hc
theorem qrQ(a:Addr)(m n:Nat):(a.add m).add n=a.add (m+n):=by
 unfold Addr.add
 by_cases hm:m=0
 ·subst hm;simp
 ·by_cases hn:n=0
  ·subst hn;simp
  ·simp[hm,hn,show m+n≠0 by omega,Nat.add_assoc]
def ZW(w:World):Zone:=fun _ b=>b<w.heap.size
section
variable {H:Type} {enc:TypeId×Value->H} {P:Program} {w:World} {sp:Nat->Bool} {hd:Bool}
theorem qrT {B : Nat} : ∀ (n fuel : Nat) (t : TypeId) (ts : List Ty) (cs : List Value) (x : DataW H × List MemPlace), qrL P n t ts = true -> Fits B x.1 -> DataW.trod enc P w 0 sp hd fuel t cs = some x ->
  cs.length=ts.length/\ ∀(j:Nat) (t' :Ty),ts[j]? =some t' -> ∃(c:PV) (v:Value),cs[j]? =some v/\CellB B t' c/\TR w (ZW w) c v/\v.oneCell' =true:=by
 intro n
 induction n with
 |zero=>intro fuel t ts cs x h;simp[qrL]at h
 |succ n ih=>
   intro fuel t ts cs x h hB hx
   cases fuel with
   |zero=>simp[DataW.trod]at hx
   |succ fuel=>
     unfold qrL at h
     unfold DataW.trod at hx
     split at h
     ·rename_i hu
      rw[hu]at hx
      split at h
      ·split at hx<;>first|(cases hx;done)|skip
       all_goals first
        |(rename_i h1;cases h1;done)
        |skip
       rename_i b _
       refine⟨rfl,fun j t' hj=> ?_⟩
       cases j with
       |zero=>simp at hj;subst hj;exact⟨.sc (.bool b),.bool b,rfl,.b b,.sc _ rfl,rfl⟩
       |succ j=>simp at hj
      ·cases h
     ·rename_i k hu
      rw[hu]at hx
      split at h
      ·rename_i k'
       have hk:k=k' :=by cases k<;>cases k' <;>first|rfl|(cases h;done)
       subst hk
       split at hx<;>first|(cases hx;done)|skip
       all_goals first
        |(rename_i h1;cases h1;done)
        |skip
       rename_i k2 k1 m h1
       cases h1
       split at hx
       ·rename_i hh
        obtain⟨rfl,hw⟩:=hh
        simp only[Lit.wf,zN,decide_eq_true_eq]at hw
        refine⟨rfl,fun j t' hj=> ?_⟩
        cases j with
        |zero=>simp at hj;subst hj;exact⟨.sc (.int _ m),.int _ m,rfl,.i _ m hw.1 hw.2,.sc _ rfl,rfl⟩
        |succ j=>simp at hj
       ·cases hx
      ·cases h
     ·rename_i e hu
      rw[hu]at hx
      split at h
      ·rename_i es us
       simp only[zN,beq_iff_eq,decide_eq_true_eq]at h
       obtain⟨⟨⟨h1,h2⟩,h3⟩,h4⟩:=h
       rcases cs with _|⟨v,_|⟨v2,r⟩⟩
       ·cases hx
       ·have nilCase : ∀ (p : Option Addr) (cap : Nat), cap <= maxLen -> ([Value.slice p 0 cap] : List Value).length = [Ty.sl es us].length /\ ∀ (j : Nat) (t' : Ty), [Ty.sl es us][j]? = some t' -> ∃ (c : PV) (v' : Value), [Value.slice p 0 cap][j]? = some v' /\ CellB B t' c /\ TR w (ZW w) c v' /\ v'.oneCell' = true := fun p cap hcap => by
         refine⟨rfl,fun j t' hj=> ?_⟩
         cases j with
         |zero=>
           simp at hj;subst hj
           exact⟨.sl true es [],_,rfl,.sl es us [] (Nat.zero_le _) (fun r hr=>by cases hr) (fun r hr=>by cases hr),.sl0 true es p cap hcap,rfl⟩
         |succ j=>simp at hj
        cases v<;>first|(cases hx;done)|skip
        rename_i p len cap
        cases p with
        |none=>
          cases len with
          | zero => cases cap with
            |zero=>exact nilCase none 0 (Nat.zero_le _)
            |succ c=>cases hx
          |succ l=>cases hx
        |some ad=>
          simp only at hx
          split at hx
          ·rename_i hb
           obtain⟨_,hlc,hcm⟩:=hb
           cases hm:(List.range len).mapM (fun i=>(w.cells? 0 (ad.add (i*P.cellsOf e)) (P.cellsOf e)).bind (DataW.trod enc P w 0 sp hd fuel e))with
           |none=>rw[hm]at hx;cases hx
           |some elems=>
             have hxs: ∃r,x.1= .slice (elems.map (·.1)) r:=by
              rw[hm]at hx
              obtain⟨rest,_,hx⟩:=zR.1 hx
              exact⟨_,by rw[<- hx]⟩
             obtain⟨rest,hxs⟩:=hxs
             rw[hxs]at hB
             have hel:=qrN hm
             rw[List.length_range]at hel
             have hlB:len<=B:=by
              have:=hB.len (by rw[yG];omega)
              rw[yG]at this
              omega
             clear hx
             by_cases hl0:len=0
             ·subst hl0;exact nilCase (some ad) cap hcm
             have row: ∀i,i<len-> ∃rr:List PV,rr.length=es/\ ∀(j:Nat) (c:PV),rr[j]? =some c-> ∃v',w.cell? (ad.add (i*es+j))=some v' /\(∀t',us[j]? =some t' ->CellB B t' c)/\TR w (ZW w) c v' /\v'.oneCell' =true:=fun i hi=>by
              obtain⟨y,hye,hy⟩:=qrO hm i (List.mem_range.2 hi)
              cases hc:w.cells? 0 (ad.add (i*P.cellsOf e)) (P.cellsOf e)with
              |none=>rw[hc]at hy;cases hy
              |some cs' =>
                rw[hc]at hy
                have hy:DataW.trod enc P w 0 sp hd fuel e cs' =some y:=hy
                obtain⟨g1,g2⟩:=ih fuel e us cs' y h4 (hB.el (List.mem_map_of_mem hye)) hy
                rw[h2]at hc
                obtain⟨_,hlen,hat⟩:=World.cells?_some hc
                refine qrP (Q:=fun j c=> ∃v',w.cell? (ad.add (i*es+j))=some v' /\(∀t',us[j]? =some t' ->CellB B t' c)/\TR w (ZW w) c v' /\v'.oneCell' =true) es fun j hj=> ?_
                obtain⟨c,v',q1,q2,q3,q4⟩:=g2 j us[j] (zL (by omega))
                refine⟨c,v',?_,fun t' ht' => ?_,q3,q4⟩
                ·rw[<- qrQ,hat j hj];exact q1
                ·rw[zL (by omega)]at ht';cases ht';exact q2
             obtain⟨rows,hr1,hr2⟩:=qrP (Q:=fun i (rr:List PV)=>rr.length=es/\ ∀(j:Nat) (c:PV),rr[j]? =some c-> ∃v',w.cell? (ad.add (i*es+j))=some v' /\(∀t',us[j]? =some t' ->CellB B t' c)/\TR w (ZW w) c v' /\v'.oneCell' =true) len row
             have hrow: ∀r∈rows,∃i,i<len/\rows[i]? =some r:=fun r hr=>by
              obtain⟨i,hi,rfl⟩:=List.getElem_of_mem hr
              exact⟨i,by omega,zL hi⟩
             have hspot:ad.spot=none/\ad.block<w.heap.size:=by
              obtain⟨r0,hr0⟩: ∃r0,rows[0]? =some r0:=⟨rows[0],zL (by omega)⟩
              obtain⟨e1,e2⟩:=hr2 0 r0 hr0
              obtain⟨v',e3,_⟩:=e2 0 r0[0] (zL (by omega))
              simp only[Nat.zero_mul,Nat.zero_add,Addr.add,if_true]at e3
              unfold World.cell? at e3
              split at e3
              ·rename_i hb
               split at e3
               ·cases e3
               ·rename_i hs
                refine⟨by cases hsp:ad.spot<;>simp_all,?_⟩
                exact(Array.getElem?_eq_some_iff.1 hb).1
              ·cases e3
             have haddr: ∀k,ad.add k=⟨ad.block,ad.off+k,none⟩:=fun k=>by
              obtain⟨b0,o0,s0⟩:=ad
              have:s0=none:=hspot.1
              subst this
              unfold Addr.add
              split
              ·rename_i hk;subst hk;rfl
              ·rfl
             refine⟨rfl,fun j t' hj=> ?_⟩
             cases j with
             |succ j=>simp at hj
             |zero=>
               simp at hj;subst hj
               refine⟨.sl true es rows,_,rfl,.sl es us rows (by omega) (fun r hr=> ?_) (fun r hr j t'' c ht hc=> ?_),?_,rfl⟩
               ·obtain⟨i,hi,hri⟩:=hrow r hr;rw[(hr2 i r hri).1,h1]
               ·obtain⟨i,hi,hri⟩:=hrow r hr
                obtain⟨v',_,q,_⟩:=(hr2 i r hri).2 j c hc
                exact q t'' ht
               ·have had : ad = ⟨ad.block, ad.off, none⟩ := by
                 obtain⟨b0,o0,s0⟩:=ad
                 have:s0=none:=hspot.1
                 subst this;rfl
                rw[had,<- hr1]
                refine TR.sl true es rows ad.block ad.off cap (fun i j=>(w.cell? (ad.add (i*es+j))).getD undef) h3 hspot.2 (by omega) (by omega) hcm (fun r hr=> ?_) (fun i j hi hj=> ?_) (fun i j r c hi hj=> ?_)
                ·obtain⟨i,hi,hri⟩:=hrow r hr;exact(hr2 i r hri).1
                ·have hri:rows[i]? =some rows[i]:=zL hi
                 obtain⟨e1,e2⟩:=hr2 i _ hri
                 obtain⟨v',e3,_,_,e4⟩:=e2 j rows[i][j] (zL (by omega))
                 rw[e3,<- haddr,e3]
                 exact⟨rfl,e4⟩
                ·obtain⟨v',e3,_,e5,_⟩:=(hr2 i r hi).2 j c hj
                 rw[e3];exact e5
          ·cases hx
       ·exfalso
        split at hx<;>first|(cases hx;done)|(rename_i h5 h6;cases h5;done)|(rename_i h5 h6;cases h6;done)|simp_all
      ·cases h
     ·rename_i fs hu
      rw[hu]at hx
      simp only[zN,beq_iff_eq,yE,List.any_eq_true,decide_eq_true_eq]at h
      obtain⟨⟨h1,h2⟩,h3⟩:=h
      have hx:(if cs.length=P.cellsOf t then((fs.toList.mapM fun f=>DataW.trod enc P w 0 sp hd fuel f.type ((cs.drop f.offset).take (P.cellsOf f.type))).map fun xs=>(DataW.agg (xs.map (·.1)),xs.flatMap (·.2)))else none)=some x:=hx
      split at hx
      ·rename_i hl
       refine⟨by omega,fun j t' hj=> ?_⟩
       have hjl:=(zM.1 hj).1
       obtain⟨f,hf,hf1,hf2⟩:=h3 j (List.mem_range.2 hjl)
       cases hm:fs.toList.mapM (fun f=>DataW.trod enc P w 0 sp hd fuel f.type ((cs.drop f.offset).take (P.cellsOf f.type)))with
       |none=>rw[hm]at hx;cases hx
       |some ys=>
         obtain⟨y,hye,hy⟩:=qrO hm f hf
         have hxa:x.1= .agg (ys.map (·.1)):=by
          rw[hm]at hx
          have hx:some (DataW.agg (ys.map (·.1)),ys.flatMap (·.2))=some x:=hx
          cases hx;rfl
         rw[hxa]at hB
         obtain⟨g1,g2⟩:=ih fuel f.type _ _ y (h1 f hf) (hB.agg (List.mem_map_of_mem hye)) hy
         have hj' :((ts.drop f.offset).take (P.cellsOf f.type))[j-f.offset]? =some t' :=by
          rw[List.getElem?_take,if_pos (by omega),List.getElem?_drop,show f.offset+(j-f.offset)=j from by omega];exact hj
         obtain⟨c,v,q1,q2⟩:=g2 _ t' hj'
         refine⟨c,v,?_,q2⟩
         rw[List.getElem?_take,if_pos (by omega),List.getElem?_drop,show f.offset+(j-f.offset)=j from by omega]at q1
         exact q1
      ·cases hx
     ·rename_i m e hu
      rw[hu]at hx
      simp only[zN,beq_iff_eq,yE,List.any_eq_true,decide_eq_true_eq]at h
      obtain⟨⟨h1,h2⟩,h3⟩:=h
      have hx:(if cs.length=P.cellsOf t then(((List.range m).mapM fun i=>DataW.trod enc P w 0 sp hd fuel e ((cs.drop (i*P.cellsOf e)).take (P.cellsOf e))).map fun xs=>(DataW.agg (xs.map (·.1)),xs.flatMap (·.2)))else none)=some x:=hx
      split at hx
      ·rename_i hl
       refine⟨by omega,fun j t' hj=> ?_⟩
       have hjl:=(zM.1 hj).1
       obtain⟨i,hi,hf1,hf2⟩:=h3 j (List.mem_range.2 hjl)
       cases hm:(List.range m).mapM (fun i=>DataW.trod enc P w 0 sp hd fuel e ((cs.drop (i*P.cellsOf e)).take (P.cellsOf e)))with
       |none=>rw[hm]at hx;cases hx
       |some ys=>
         obtain⟨y,hye,hy⟩:=qrO hm i hi
         have hxa:x.1= .agg (ys.map (·.1)):=by
          rw[hm]at hx
          have hx:some (DataW.agg (ys.map (·.1)),ys.flatMap (·.2))=some x:=hx
          cases hx;rfl
         rw[hxa]at hB
         obtain⟨g1,g2⟩:=ih fuel e _ _ y (h1 i hi) (hB.agg (List.mem_map_of_mem hye)) hy
         have hj' :((ts.drop (i*P.cellsOf e)).take (P.cellsOf e))[j-i*P.cellsOf e]? =some t' :=by
          rw[List.getElem?_take,if_pos (by omega),List.getElem?_drop,show i*P.cellsOf e+(j-i*P.cellsOf e)=j from by omega];exact hj
         obtain⟨c,v,q1,q2⟩:=g2 _ t' hj'
         refine⟨c,v,?_,q2⟩
         rw[List.getElem?_take,if_pos (by omega),List.getElem?_drop,show i*P.cellsOf e+(j-i*P.cellsOf e)=j from by omega]at q1
         exact q1
      ·cases hx
     ·cases h
def aggT(P:Program)(t:TypeId):Bool:=match P.underlying t with|some (.struct _)|some (.array _ _)=>true|_=>false
def RowB(B:Nat)(ts:List Ty)(pc:List PV):Prop:=pc.length=ts.length/\ ∀(j:Nat) (t:Ty) (c:PV),ts[j]? =some t->pc[j]? =some c->CellB B t c
abbrev RowV:List Ty->List PV->Prop:=RowB maxLen
theorem qrU {B : Nat} {n : Nat} {t : TypeId} {ts : List Ty} {v : Value} {base : Nat} {d : DataW H} {ps : List MemPlace} (hf : qrL P n t ts = true) (hs : aggT P t = true) (hok : Value.okWide P w .any base t v)
  (hB:Fits B d) (h:DataW.Trod enc P w 0 sp hd t v d ps): ∃pc:List PV,RowB B ts pc/\TV w (ZW w) (.agg pc) v:=by
 obtain⟨fuel,h⟩:=h
 have hv: ∃cs:Array Value,v= .agg cs:=by
  unfold Value.okWide at hok
  unfold aggT at hs
  split at hs
  ·rename_i hu;rw[hu]at hok;obtain⟨cs,e,_⟩:=hok;exact⟨cs,e⟩
  ·rename_i hu;rw[hu]at hok;obtain⟨cs,e,_⟩:=hok;exact⟨cs,e⟩
  ·cases hs
 obtain⟨cs,rfl⟩:=hv
 obtain⟨g1,g2⟩:=qrT n fuel t ts cs.toList (d,ps) hf hB h
 obtain⟨pc,h1,h2⟩:=qrP (Q:=fun j c=> ∃v,cs.toList[j]? =some v/\(∀t',ts[j]? =some t' ->CellB B t' c)/\TR w (ZW w) c v/\v.oneCell' =true) ts.length fun j hj=>by
  obtain⟨c,v,q1,q2,q3,q4⟩:=g2 j ts[j] (zL hj)
  exact⟨c,v,q1,fun t' ht=>by rw[zL hj]at ht;cases ht;exact q2,q3,q4⟩
 refine⟨pc,⟨h1,fun j t' c ht hc=> ?_⟩,cs,rfl,by rw[h1,<- g1];simp,fun j c hc=> ?_⟩
 ·obtain⟨v,_,q,_⟩:=h2 j c hc;exact q t' ht
 ·obtain⟨v,q1,_,q3,q4⟩:=h2 j c hc
  have:cs.getD j undef=v:=by
   rw[zO]
   have:cs[j]? =some v:=by simpa using q1
   rw[this];rfl
  rw[this];exact⟨q3,q4⟩
theorem qrV {n : Nat} {t : TypeId} {ts : List Ty} {v : Value} {base : Nat} {d : DataW H} {ps : List MemPlace} (hf : qrL P n t ts = true) (hs : aggT P t = true) (hok : Value.okWide P w .any base t v)
  (h:DataW.Trod enc P w 0 sp hd t v d ps): ∃pc:List PV,RowV ts pc/\TV w (ZW w) (.agg pc) v:=qrU hf hs hok (.inl (Nat.le_refl _)) h
theorem qrW {B : Nat} {n : Nat} {t : TypeId} {t' : Ty} {v : Value} {d : DataW H} {ps : List MemPlace} (hf : qrL P n t [t'] = true) (hv : v.cells = #[v])
  (hB:Fits B d) (h:DataW.Trod enc P w 0 sp hd t v d ps): ∃c:PV,CellB B t' c/\TV w (ZW w) c v:=by
 obtain⟨fuel,h⟩:=h
 rw[hv]at h
 obtain⟨g1,g2⟩:=qrT n fuel t [t'] _ (d,ps) hf hB h
 obtain⟨c,u,q1,q2,q3,q4⟩:=g2 0 t' rfl
 simp at q1;subst q1
 refine⟨c,q2,?_⟩
 cases c<;>simp only[TV,TA]<;>first|exact q3|(cases q3)
theorem argC {n : Nat} {t : TypeId} {t' : Ty} {v : Value} {d : DataW H} {ps : List MemPlace} (hf : qrL P n t [t'] = true) (hv : v.cells = #[v])
  (h:DataW.Trod enc P w 0 sp hd t v d ps): ∃c:PV,qrM t' c/\TV w (ZW w) c v:=qrW hf hv (.inl (Nat.le_refl _)) h
theorem qrX {f : FuncId} {args : List PV} {vs : Array Value} (hg : GL P w) (hc : FnEq P f args (.bool true)) (hn : vs.size = args.length) (h : ∀ (j : Nat) (c : PV), args[j]? = some c -> TV w (ZW w) c (vs.getD j undef)) :
  Calls P f vs w fun e w' =>e= .returned (.bool true)/\Below w.heap.size w w' :=by
 refine(hc w (ZW w) hg (fun _ h=>h) (fun _ _ h=>h) vs hn h).mono ?_
 rintro e w' ⟨v,r,rfl,rfl,h1,h2⟩
 cases h1
 exact⟨rfl,h2⟩
end
end Go.Vc
namespace Go.Proofs.YtecoaapkcnhlhaaDoor.Txt
open Go Go.Vc
set_option maxRecDepth 100000
def ac41_r15:AC:=
 (.seq (.reg [0,58,1,7] [
 (aO 55 (.ld false 1 (.t 7))),(aO 56 (.mv (.t 1))),(aO 57 (.clm 66 [(.t 55),(.t 56)])),(aO 4 (.mv (.t 57)))])
 .ret)
def ac41:AC:=
 (.seq (.reg [0,58,0,1] [
 (aO 2 (.box (.t 0))),(aO 4 (.mv (.c (.nil))))])
 (.seq (.reg [0,58,1,2] [
 (aO 9 (.ld true 5 (.t 2))),(aO 10 (.mv (.t 1))),(aO 11 (.cal 60 [(.t 9),(.t 10)])),(aO 8 (.mv (.t 11))),(aO 12 (.ext (.t 8) 0)),(aO 13 (.ext (.t 8) 1)),(aO 5 (.alc [zI,zI,zI,zI])),(aN (.sto 4 (.t 5) (.t 12))),(aO 6 (.mv (.t 13)))])
 (.seq (.seq (.reg [0,58,1,2,5,6] [
 (aO 14 (.mv (.t 6))),(aO 15 (.cmp .neq .i64 (.t 14) (kI 0)))])
 (.cond (.t 15)
 (.seq (.reg [0,58] [
 (aO 4 (.mv (.c (.nil))))])
 .ret)
 .skip))
 (.seq (.reg [0,58,1,2,5] [
 (aO 16 (.ld true 5 (.t 2))),(aO 17 (.bld [zI,zI,zI,zI,.nil,.nil] [(0,5,(.t 16))])),(aO 18 (.box (.t 17))),(aO 7 (.alc [.sc (.pointer none)])),(aN (.sto 1 (.t 7) (.t 18)))])
 (.seq (.seq (.reg [0,58,1,2,5,7] [
 (aO 19 (.fa 0 (.t 5))),(aO 20 (.ld false 1 (.t 19)))])
 (.block 0
 (.seq (.reg [0,58,1,2,5,7,20] [
 (aO 22 (.cmp .eql .i64 (.t 20) (kI 3))),(aO 21 (.mv (.t 22)))])
 (.cond (.t 21)
 (.seq (.reg [0,58,1,5,7] [
 (aO 23 (.ld false 1 (.t 7))),(aO 24 (.fa 1 (.t 5))),(aO 25 (.ld false 1 (.t 24))),(aO 26 (.fa 2 (.t 5))),(aO 27 (.ld false 1 (.t 26))),(aO 28 (.clm 61 [(.t 23),(.t 25),(.t 27)]))])
 (.seq (.reg [0,58,1,5,7] [
 (aO 29 (.fa 3 (.t 5))),(aO 30 (.ld false 1 (.t 29))),(aO 31 (.cmp .eql .i64 (.t 30) (kI 3)))])
 (.cond (.t 31)
 (.reg [0,58,1,5,7] [
 (aO 32 (.ld false 1 (.t 7))),(aO 33 (.fa 1 (.t 5))),(aO 34 (.ld false 1 (.t 33))),(aO 35 (.fa 2 (.t 5))),(aO 36 (.ld false 1 (.t 35))),(aO 37 (.ari .sub true .i64 (.t 36) (kI 1))),(aO 38 (.clm 62 [(.t 32),(kI 1),(.t 34),(.t 37),(kI 0)]))])
 .skip)))
 (.seq (.reg [0,58,1,2,5,7,20] [
 (aO 40 (.cmp .eql .i64 (.t 20) (kI 7))),(aO 39 (.mv (.t 40)))])
 (.cond (.t 39)
 (.reg [0,58,1,2,5,7] [
 (aO 41 (.ld false 1 (.t 7))),(aO 42 (.fa 0 (.t 2))),(aO 43 (.ld false 1 (.t 42))),(aO 44 (.ari .sub true .i64 (.t 43) (kI 1))),(aO 45 (.fa 2 (.t 5))),(aO 46 (.ld false 1 (.t 45))),(aO 47 (.clm 61 [(.t 41),(.t 44),(.t 46)]))])
 (.seq (.seq (.reg [0,58,1,2,5,7,20] [
 (aO 49 (.cmp .eql .i64 (.t 20) (kI 4))),(aO 48 (.mv (.t 49)))])
 (.cond (.t 48)
 .skip
 (.reg [0,58,1,2,5,7,20] [
 (aO 50 (.cmp .eql .i64 (.t 20) (kI 5))),(aO 48 (.mv (.t 50)))])))
 (.cond (.t 48)
 (.reg [0,58,1,2,5,7] [
 (aO 51 (.ld true 5 (.t 2))),(aO 52 (.ld true 4 (.t 5))),(aO 53 (.mkf 64 [(.t 7),(.t 5),(.t 2)])),(aO 54 (.clm 63 [(.t 51),(.t 52),(.t 53)]))])
 .skip))))))))
 ac41_r15)))))
def rv41:List RV:=[.tmp 4]
theorem ok41:fnOk Tryd.prog ac41 rv41 Tryd.f41=true:=by kernel_rfl

def ac60:AC:=
 (.seq (.reg [0,103,0,1] [
 (aO 2 (.box (.t 0))),(aO 4 (.alc [zI,zI,zI,zI])),(aO 5 (.mv (kI 0)))])
 (.seq (.reg [0,103,1,2,4] [
 (aO 10 (.mv (.t 1))),(aO 11 (.ld true 5 (.t 2))),(aO 12 (.cal 59 [(.t 11)])),(aO 13 (.ari .sub true .i64 (.t 10) (.t 12))),(aO 6 (.mv (.t 13)))])
 (.seq (.block 0
 (.seq (.reg [0,103,1,2,4,6] [
 (aO 15 (.mv (.t 1))),(aO 16 (.cmp .lss .i64 (.t 15) (kI 0))),(aO 17 (.mv (.t 16))),⟨some 18,some (17,false),.mv (.t 1)⟩,⟨some 19,some (17,false),.ld true 5 (.t 2)⟩,⟨some 20,some (17,false),.cal 39 [(.t 19)]⟩,⟨some 21,some (17,false),.cmp .geq .i64 (.t 18) (.t 20)⟩,(aO 22 (.pick (.t 17) (.c (.sc (.bool true))) (.t 21))),(aO 14 (.mv (.t 22)))])
 (.cut [0,103,1,2,4,6,14] (.cond (.t 14)
 (.seq (.reg [0,103,4] [
 (aO 23 (.bld [zI,zI,zI,zI] [])),(aN (.sto 4 (.t 4) (.t 23))),(aO 5 (.mv (kI 1)))])
 .ret)
 (.seq (.reg [0,103,1,2,4,6] [
 (aO 25 (.mv (.t 6))),(aO 26 (.fa 3 (.t 2))),(aO 27 (.ld false 1 (.t 26))),(aO 28 (.cmp .geq .i64 (.t 25) (.t 27))),(aO 24 (.mv (.t 28)))])
 (.cond (.t 24)
 (.seq (.drw [0,103,2,4,6] [
 (eT 29 (.fa 0 (.t 2))),(eT 30 (.ld false 1 (.t 29))),(eT 31 (.mv (.t 6))),(eT 32 (.fa 3 (.t 2))),(eT 33 (.ld false 1 (.t 32))),(eT 34 (.ari .sub true .i64 (.t 31) (.t 33))),(eT 35 (.fa 1 (.t 2))),(eT 36 (.ld false 1 (.t 35))),(eT 37 (.dvd .rem true .i64 (.t 34) (.t 36))),(eT 38 (.mv (.t 6))),(eT 39 (.fa 3 (.t 2))),(eT 40 (.ld false 1 (.t 39))),(eT 41 (.ari .sub true .i64 (.t 38) (.t 40))),(eF 42 (.bld [zI,zI,zI,zI] [(0,1,(kI 7)),(1,1,(.t 30)),(2,1,(.t 37)),(3,1,(.t 41))])),⟨(aN (.sto 4 (.t 4) (.t 42))),[],[],false⟩,(eF 5 (.mv (kI 0)))])
 .ret)
 (.seq (.reg [0,103,1,2,4,6] [
 (aO 44 (.mv (.t 6))),(aO 45 (.cmp .geq .i64 (.t 44) (kI 0))),(aO 43 (.mv (.t 45)))])
 (.cond (.t 43)
 (.seq (.reg [0,103,2,4,6] [
 (aO 46 (.mv (.t 6))),(aO 47 (.fa 1 (.t 2))),(aO 48 (.ld false 1 (.t 47))),(aO 49 (.dvd .rem true .i64 (.t 46) (.t 48))),(aO 50 (.mv (.t 6))),(aO 51 (.bld [zI,zI,zI,zI] [(0,1,(kI 6)),(1,1,(kI (-1))),(2,1,(.t 49)),(3,1,(.t 50))])),(aN (.sto 4 (.t 4) (.t 51))),(aO 5 (.mv (kI 0)))])
 .ret)
 .skip))))))))
 (.seq (.drw [0,103,1,2,4] [
 (eT 52 (.mv (.t 1))),(eT 53 (.ld true 5 (.t 2))),(eT 54 (.cal 78 [(.t 53)])),(eT 55 (.dvd .quo true .i64 (.t 52) (.t 54))),(eT 56 (.mv (.t 1))),(eT 57 (.ld true 5 (.t 2))),(eT 58 (.cal 78 [(.t 57)])),(eT 59 (.dvd .rem true .i64 (.t 56) (.t 58))),(eT 7 (.mv (.t 55))),(eF 8 (.mv (.t 59)))])
 (.seq (.drw [0,103,2,4,7,8] [
 (eU 60 (.mv (.t 7)) [] [9]),(eU 61 (.fa 0 (.t 2)) [] [9]),(eU 62 (.ld false 1 (.t 61)) [] [9]),(eU 63 (.dvd .rem true .i64 (.t 60) (.t 62)) [] [9]),(eU 64 (.mv (.t 7)) [] [9]),(eU 65 (.fa 0 (.t 2)) [] [9]),(eU 66 (.ld false 1 (.t 65)) [] [9]),(eU 67 (.dvd .quo true .i64 (.t 64) (.t 66)) [] [9]),(eU 68 (.bld [zI,zI,zI,zI] [(0,1,(kI 1)),(1,1,(.t 63)),(2,1,(.t 67))]) [] [9]),(eU 9 (.alc [zI,zI,zI,zI]) [9] []),⟨(aN (.sto 4 (.t 9) (.t 68))),[],[],false⟩])
 (.seq (.block 1
 (.seq (.reg [0,103,2,4,8,9] [
 (aO 70 (.mv (.t 8))),(aO 71 (.fa 2 (.t 2))),(aO 72 (.ld false 1 (.t 71))),(aO 73 (.ari .add true .i64 (kI 6) (.t 72))),(aO 74 (.cmp .geq .i64 (.t 70) (.t 73))),(aO 69 (.mv (.t 74)))])
 (.cond (.t 69)
 (.drw [0,103,2,4,8,9] [
 (eT 75 (.mv (.t 8))),(eT 76 (.ari .sub true .i64 (.t 75) (kI 2))),(eT 77 (.ari .sub true .i64 (.t 76) (kI 4))),(eT 78 (.fa 2 (.t 2))),(eU 79 (.ld false 1 (.t 78)) [] [9]),(eT 80 (.ari .sub true .i64 (.t 77) (.t 79))),(eT 81 (.fa 0 (.t 9))),⟨(aN (.sto 1 (.t 81) (kI 5))),[],[9],true⟩,(eF 82 (.fa 3 (.t 9))),⟨(aN (.sto 1 (.t 82) (.t 80))),[],[],false⟩])
 (.seq (.reg [0,103,4,8,9] [
 (aO 84 (.mv (.t 8))),(aO 85 (.cmp .geq .i64 (.t 84) (kI 6))),(aO 83 (.mv (.t 85)))])
 (.cond (.t 83)
 (.reg [0,103,4,8,9] [
 (aO 86 (.mv (.t 8))),(aO 87 (.ari .sub true .i64 (.t 86) (kI 2))),(aO 88 (.ari .sub true .i64 (.t 87) (kI 4))),(aO 89 (.fa 0 (.t 9))),(aN (.sto 1 (.t 89) (kI 4))),(aO 90 (.fa 3 (.t 9))),(aN (.sto 1 (.t 90) (.t 88)))])
 (.seq (.reg [0,103,4,8,9] [
 (aO 92 (.mv (.t 8))),(aO 93 (.cmp .geq .i64 (.t 92) (kI 2))),(aO 91 (.mv (.t 93)))])
 (.cond (.t 91)
 (.reg [0,103,4,8,9] [
 (aO 94 (.mv (.t 8))),(aO 95 (.ari .sub true .i64 (.t 94) (kI 2))),(aO 96 (.fa 0 (.t 9))),(aN (.sto 1 (.t 96) (kI 3))),(aO 97 (.fa 3 (.t 9))),(aN (.sto 1 (.t 97) (.t 95)))])
 (.seq (.reg [0,103,4,8,9] [
 (aO 99 (.mv (.t 8))),(aO 100 (.cmp .eql .i64 (.t 99) (kI 1))),(aO 98 (.mv (.t 100)))])
 (.cond (.t 98)
 (.reg [0,103,4,9] [
 (aO 101 (.fa 0 (.t 9))),(aN (.sto 1 (.t 101) (kI 2)))])
 .skip)))))))))
 (.seq (.reg [0,103,4,9] [
 (aO 102 (.ld true 4 (.t 9))),(aN (.sto 4 (.t 4) (.t 102))),(aO 5 (.mv (kI 0)))])
 .ret)))))))
def rv60:List RV:=[.cell 4 true 4,.tmp 5]
theorem ok60:fnOk Tryd.prog ac60 rv60 Tryd.f60=true:=by kernel_rfl

def ac59:AC:=
 (.seq (.reg [0,11,0] [
 (aO 1 (.box (.t 0))),(aO 2 (.mv (kI 0)))])
 (.seq (.drw [0,11,1] [
 (eT 3 (.fa 0 (.t 1))),(eT 4 (.ld false 1 (.t 3))),(eT 5 (.fa 1 (.t 1))),(eT 6 (.ld false 1 (.t 5))),(eT 7 (.ari .mul true .i64 (.t 4) (.t 6))),(eT 8 (.ld true 5 (.t 1))),(eT 9 (.cal 78 [(.t 8)])),(eF 10 (.ari .mul true .i64 (.t 7) (.t 9))),(eF 2 (.mv (.t 10)))])
 .ret))
def rv59:List RV:=[.tmp 2]
theorem ok59:fnOk Tryd.prog ac59 rv59 Tryd.f59=true:=by kernel_rfl

def ac39:AC:=
 (.seq (.reg [0,9,0] [
 (aO 1 (.box (.t 0))),(aO 2 (.mv (kI 0)))])
 (.seq (.drw [0,9,1] [
 (eT 3 (.ld true 5 (.t 1))),(eT 4 (.cal 59 [(.t 3)])),(eT 5 (.fa 3 (.t 1))),(eT 6 (.ld false 1 (.t 5))),(eT 7 (.ari .mul true .i64 (kI 2) (.t 6))),(eF 8 (.ari .add true .i64 (.t 4) (.t 7))),(eF 2 (.mv (.t 8)))])
 .ret))
def rv39:List RV:=[.tmp 2]
theorem ok39:fnOk Tryd.prog ac39 rv39 Tryd.f39=true:=by kernel_rfl

def ac78:AC:=
 (.seq (.reg [0,7,0] [
 (aO 1 (.box (.t 0))),(aO 2 (.mv (kI 0)))])
 (.seq (.reg [0,7,1] [
 (aO 3 (.fa 2 (.t 1))),(aO 4 (.ld false 1 (.t 3))),(aO 5 (.ari .mul true .i64 (kI 2) (.t 4))),(aO 6 (.ari .add true .i64 (kI 6) (.t 5))),(aO 2 (.mv (.t 6)))])
 .ret))
def rv78:List RV:=[.tmp 2]
theorem ok78:fnOk Tryd.prog ac78 rv78 Tryd.f78=true:=by kernel_rfl

def ac79_r18:AC:=
 (.seq (.seq (.reg [0,87,2,3,7] [
 (aO 74 (.ld true 5 (.t 2))),(aO 75 (.mv (.t 7))),(aO 76 (.cal 60 [(.t 74),(.t 75)])),(aO 73 (.mv (.t 76))),(aO 77 (.ext (.t 73) 0)),(aO 78 (.ext (.t 73) 1)),(aO 8 (.alc [zI,zI,zI,zI])),(aN (.sto 4 (.t 8) (.t 77))),(aO 9 (.mv (.t 78)))])
 (.seq (.reg [0,87,3,7,8,9] [
 (aO 79 (.mv (.t 9))),(aO 80 (.cmp .neq .i64 (.t 79) (kI 0))),(aO 81 (.mv (.t 80))),⟨some 82,some (81,false),.ld true 4 (.t 8)⟩,⟨some 83,some (81,false),.ld true 4 (.t 3)⟩,⟨some 84,some (81,false),.eqa true 4 (.t 82) (.t 83)⟩,(aO 85 (.pick (.t 81) (.c (.sc (.bool true))) (.t 84)))])
 (.cut [0,87,7,85] (.cond (.t 85)
 (.seq (.reg [0,87] [
 (aO 4 (.mv (kI 0))),(aO 5 (.mv (kI 1)))])
 .ret)
 .skip))))
 (.seq (.reg [0,87,7] [
 (aO 86 (.mv (.t 7))),(aO 4 (.mv (.t 86))),(aO 5 (.mv (kI 0)))])
 .ret))
def ac79:AC:=
 (.seq (.reg [0,87,0,1] [
 (aO 2 (.box (.t 0))),(aO 3 (.box (.t 1))),(aO 4 (.mv (kI 0))),(aO 5 (.mv (kI 0)))])
 (.seq (.drw [0,87,2,3] [
 (eT 10 (.fa 2 (.t 3))),(eT 11 (.ld false 1 (.t 10))),(eT 12 (.fa 0 (.t 2))),(eT 13 (.ld false 1 (.t 12))),(eT 14 (.ari .mul true .i64 (.t 11) (.t 13))),(eT 15 (.fa 1 (.t 3))),(eT 16 (.ld false 1 (.t 15))),(eT 17 (.ari .add true .i64 (.t 14) (.t 16))),(eT 18 (.ld true 5 (.t 2))),(eT 19 (.cal 78 [(.t 18)])),(eF 20 (.ari .mul true .i64 (.t 17) (.t 19))),(eF 6 (.mv (.t 20)))])
 (.seq (.reg [0,87,2,3,6] [
 (aO 7 (.mv (kI (-1))))])
 (.seq (.seq (.reg [0,87,2,3,6,7] [
 (aO 21 (.fa 0 (.t 3))),(aO 22 (.ld false 1 (.t 21)))])
 (.block 0
 (.seq (.reg [0,87,2,3,6,7,22] [
 (aO 24 (.cmp .eql .i64 (.t 22) (kI 1))),(aO 23 (.mv (.t 24)))])
 (.cond (.t 23)
 (.reg [0,87,2,3,6] [
 (aO 25 (.mv (.t 6))),(aO 7 (.mv (.t 25)))])
 (.seq (.reg [0,87,2,3,6,7,22] [
 (aO 27 (.cmp .eql .i64 (.t 22) (kI 2))),(aO 26 (.mv (.t 27)))])
 (.cond (.t 26)
 (.reg [0,87,2,3,6] [
 (aO 28 (.mv (.t 6))),(aO 29 (.ari .add true .i64 (.t 28) (kI 1))),(aO 7 (.mv (.t 29)))])
 (.seq (.reg [0,87,2,3,6,7,22] [
 (aO 31 (.cmp .eql .i64 (.t 22) (kI 3))),(aO 30 (.mv (.t 31)))])
 (.cond (.t 30)
 (.reg [0,87,2,3,6] [
 (aO 32 (.mv (.t 6))),(aO 33 (.ari .add true .i64 (.t 32) (kI 2))),(aO 34 (.fa 3 (.t 3))),(aO 35 (.ld false 1 (.t 34))),(aO 36 (.ari .add true .i64 (.t 33) (.t 35))),(aO 7 (.mv (.t 36)))])
 (.seq (.reg [0,87,2,3,6,7,22] [
 (aO 38 (.cmp .eql .i64 (.t 22) (kI 4))),(aO 37 (.mv (.t 38)))])
 (.cond (.t 37)
 (.reg [0,87,2,3,6] [
 (aO 39 (.mv (.t 6))),(aO 40 (.ari .add true .i64 (.t 39) (kI 2))),(aO 41 (.ari .add true .i64 (.t 40) (kI 4))),(aO 42 (.fa 3 (.t 3))),(aO 43 (.ld false 1 (.t 42))),(aO 44 (.ari .add true .i64 (.t 41) (.t 43))),(aO 7 (.mv (.t 44)))])
 (.seq (.reg [0,87,2,3,6,7,22] [
 (aO 46 (.cmp .eql .i64 (.t 22) (kI 5))),(aO 45 (.mv (.t 46)))])
 (.cond (.t 45)
 (.reg [0,87,2,3,6] [
 (aO 47 (.mv (.t 6))),(aO 48 (.ari .add true .i64 (.t 47) (kI 2))),(aO 49 (.ari .add true .i64 (.t 48) (kI 4))),(aO 50 (.fa 2 (.t 2))),(aO 51 (.ld false 1 (.t 50))),(aO 52 (.ari .add true .i64 (.t 49) (.t 51))),(aO 53 (.fa 3 (.t 3))),(aO 54 (.ld false 1 (.t 53))),(aO 55 (.ari .add true .i64 (.t 52) (.t 54))),(aO 7 (.mv (.t 55)))])
 (.seq (.reg [0,87,2,3,7,22] [
 (aO 57 (.cmp .eql .i64 (.t 22) (kI 6))),(aO 56 (.mv (.t 57)))])
 (.cond (.t 56)
 (.drw [0,87,2,3] [
 (eT 58 (.ld true 5 (.t 2))),(eT 59 (.cal 59 [(.t 58)])),(eT 60 (.fa 3 (.t 3))),(eT 61 (.ld false 1 (.t 60))),(eF 62 (.ari .add true .i64 (.t 59) (.t 61))),(eF 7 (.mv (.t 62)))])
 (.seq (.reg [0,87,2,3,7,22] [
 (aO 64 (.cmp .eql .i64 (.t 22) (kI 7))),(aO 63 (.mv (.t 64)))])
 (.cond (.t 63)
 (.drw [0,87,2,3] [
 (eT 65 (.ld true 5 (.t 2))),(eT 66 (.cal 59 [(.t 65)])),(eT 67 (.fa 3 (.t 2))),(eT 68 (.ld false 1 (.t 67))),(eT 69 (.ari .add true .i64 (.t 66) (.t 68))),(eT 70 (.fa 3 (.t 3))),(eT 71 (.ld false 1 (.t 70))),(eF 72 (.ari .add true .i64 (.t 69) (.t 71))),(eF 7 (.mv (.t 72)))])
 .skip))))))))))))))))
 ac79_r18))))
def rv79:List RV:=[.tmp 4,.tmp 5]
theorem ok79:fnOk Tryd.prog ac79 rv79 Tryd.f79=true:=by kernel_rfl

def ac61_200:AC:=
 (.seq (.reg [200,21,200,201,202] [
 (aO 207 (.mv (.t 200))),(aO 208 (.nck (.t 207))),(aO 209 (.fa 0 (.t 208))),(aO 210 (.fa 2 (.t 209))),(aO 211 (.ld false 1 (.t 210))),(aO 212 (.mv (kI 0)))])
 (.block 0
 (.loop [200,21,200,201,202,211,212]
 (.seq (.reg [200,21,200,201,202,211,212] [
 (aO 213 (.cmp .lss .i64 (.t 212) (.t 211)))])
 (.seq (.cond (.t 213)
 .skip
 (.exit 0))
 (.seq (.block 1
 (.seq (.reg [200,21,200,201,202,211,212] [
 (aO 214 (.mv (.t 212))),(aO 206 (.mv (.t 214)))])
 (.reg [200,21,200,201,202,206,211,212] [
 (aO 215 (.mv (.t 200))),(aO 216 (.mv (.t 201))),(aO 217 (.mv (.t 202))),(aO 218 (.mv (.t 206))),(aO 219 (.clm 65 [(.t 215),(.t 216),(.t 217),(.t 218)]))])))
 (.reg [200,21,200,201,202,211,212] [
 (aO 220 (.ari .add true .i64 (.t 212) (kI 1))),(aO 212 (.mv (.t 220)))])))))))
def rv61_200:List RV:=[]
theorem ok61_200:qh6 Tryd.prog 200 ac61_200 rv61_200 Tryd.f61=true:=by kernel_rfl

def ac62_400:AC:=
 (.seq (.reg [400,37,400,401,402,403,404] [
 (aO 413 (.mv (.t 400))),(aO 414 (.nck (.t 413))),(aO 415 (.fa 0 (.t 414))),(aO 416 (.ld true 5 (.t 415))),(aO 417 (.mv (.t 401))),(aO 418 (.mv (.t 402))),(aO 419 (.mv (.t 403))),(aO 420 (.mv (.t 404))),(aO 421 (.bld [zI,zI,zI,zI] [(0,1,(.t 417)),(1,1,(.t 418)),(2,1,(.t 419)),(3,1,(.t 420))])),(aO 422 (.cal 79 [(.t 416),(.t 421)])),(aO 412 (.mv (.t 422))),(aO 423 (.ext (.t 412) 0)),(aO 424 (.ext (.t 412) 1)),(aO 410 (.mv (.t 423))),(aO 411 (.mv (.t 424)))])
 (.seq (.reg [400,37,400,410,411] [
 (aO 425 (.mv (.t 411))),(aO 426 (.cmp .eql .i64 (.t 425) (kI 0)))])
 (.cond (.t 426)
 (.reg [400,37,400,410] [
 (aO 427 (.mv (.t 400))),(aO 428 (.mv (.t 400))),(aO 429 (.nck (.t 428))),(aO 430 (.fa 5 (.t 429))),(aO 431 (.ld false 1 (.t 430))),(aO 432 (.mv (.t 410))),(aO 433 (.bsl 1 3 [zI] 1 [(0,(.t 432))])),(aO 434 (.app 1 3 8 (.t 431) (.t 433))),(aO 435 (.nck (.t 427))),(aO 436 (.fa 5 (.t 435))),(aN (.sto 1 (.t 436) (.t 434)))])
 .skip)))
def rv62_400:List RV:=[]
theorem ok62_400:qh6 Tryd.prog 400 ac62_400 rv62_400 Tryd.f62=true:=by kernel_rfl

def ac63_100:AC:=
 (.seq (.reg [100,39,100,101,102] [
 (aO 103 (.box (.t 100))),(aO 104 (.box (.t 101)))])
 (.seq (.reg [100,39,102,103,104] [
 (aO 108 (.mv (.t 102))),(aO 109 (.fa 1 (.t 104))),(aO 110 (.ld false 1 (.t 109))),(aO 111 (.fa 2 (.t 104))),(aO 112 (.ld false 1 (.t 111))),(aO 113 (.clv (.t 108) [(.t 110),(.t 112)]))])
 (.seq (.drw [100,39,102,103,104] [
 (eT 114 (.fa 1 (.t 104))),(eT 115 (.ld false 1 (.t 114))),(eT 116 (.fa 2 (.t 104))),(eT 117 (.ld false 1 (.t 116))),(eT 106 (.mv (.t 115))),(eF 107 (.mv (.t 117)))])
 (.seq (.seq (.reg [100,39,102,103,104,106,107] [
 (aO 118 (.fa 0 (.t 104))),(aO 119 (.ld false 1 (.t 118))),(aO 120 (.cmp .eql .i64 (.t 119) (kI 4)))])
 (.cond (.t 120)
 (.reg [100,39,102,103,106,107] [
 (aO 121 (.mv (.t 106))),(aO 122 (.ari .add true .i64 (.t 121) (kI 1))),(aO 106 (.mv (.t 122)))])
 (.reg [100,39,102,103,106,107] [
 (aO 123 (.mv (.t 107))),(aO 124 (.ari .add true .i64 (.t 123) (kI 1))),(aO 107 (.mv (.t 124)))])))
 (.seq (.reg [100,39,102,103,106,107] [
 (aO 125 (.mv (.t 106))),(aO 126 (.fa 0 (.t 103))),(aO 127 (.ld false 1 (.t 126))),(aO 128 (.cmp .lss .i64 (.t 125) (.t 127))),(aO 129 (.mv (.t 128))),⟨some 130,some (129,true),.mv (.t 107)⟩,⟨some 131,some (129,true),.fa 1 (.t 103)⟩,⟨some 132,some (129,true),.ld false 1 (.t 131)⟩,⟨some 133,some (129,true),.cmp .lss .i64 (.t 130) (.t 132)⟩,(aO 134 (.pick (.t 129) (.t 133) (.c (.sc (.bool false)))))])
 (.cut [100,39,102,106,107,134] (.cond (.t 134)
 (.reg [100,39,102,106,107] [
 (aO 135 (.mv (.t 102))),(aO 136 (.mv (.t 106))),(aO 137 (.mv (.t 107))),(aO 138 (.clv (.t 135) [(.t 136),(.t 137)]))])
 .skip)))))))
def rv63_100:List RV:=[]
theorem ok63_100:qh6 Tryd.prog 100 ac63_100 rv63_100 Tryd.f63=true:=by kernel_rfl

def ac64_150:AC:=
 (.seq (.reg [150,39,150,151,152,153,154] [
 (aO 158 (.ld false 1 (.t 152))),(aO 159 (.mv (.t 150))),(aO 160 (.mv (.t 151))),(aO 161 (.clm 62 [(.t 158),(kI 1),(.t 159),(.t 160),(kI 0)]))])
 (.seq (.reg [150,39,150,151,152,153,154] [
 (aO 162 (.ld false 1 (.t 152))),(aO 163 (.mv (.t 150))),(aO 164 (.mv (.t 151))),(aO 165 (.clm 62 [(.t 162),(kI 2),(.t 163),(.t 164),(kI 0)]))])
 (.seq (.reg [150,39,150,151,152,153,154] [
 (aO 166 (.ld false 1 (.t 152))),(aO 167 (.mv (.t 150))),(aO 168 (.mv (.t 151))),(aO 169 (.fa 3 (.t 153))),(aO 170 (.ld false 1 (.t 169))),(aO 171 (.clm 65 [(.t 166),(.t 167),(.t 168),(.t 170)]))])
 (.seq (.reg [150,39,150,151,152,154] [
 (aO 172 (.mv (.t 151))),(aO 157 (.mv (.t 172)))])
 (.block 0
 (.loop [150,39,150,151,152,154,157]
 (.seq (.seq (.reg [150,39,150,151,152,154,157] [
 (aO 173 (.mv (.t 150))),(aO 174 (.cmp .eql .i64 (.t 173) (kI 0))),(aO 175 (.mv (.t 174))),⟨some 176,some (175,true),.mv (.t 157)⟩,⟨some 177,some (175,true),.fa 3 (.t 154)⟩,⟨some 178,some (175,true),.ld false 1 (.t 177)⟩,⟨some 179,some (175,true),.cmp .lss .i64 (.t 176) (.t 178)⟩,(aO 180 (.pick (.t 175) (.t 179) (.c (.sc (.bool false)))))])
 (.cut [150,39,150,151,152,154,157,180] (.cond (.t 180)
 .skip
 (.exit 0))))
 (.seq (.block 1
 (.reg [150,39,150,151,152,154,157] [
 (aO 185 (.ld false 1 (.t 152))),(aO 186 (.mv (.t 151))),(aO 187 (.mv (.t 157))),(aO 188 (.clm 62 [(.t 185),(kI 6),(kI (-1)),(.t 186),(.t 187)]))]))
 (.reg [150,39,150,151,152,154,157] [
 (aO 181 (.mv (.t 157))),(aO 182 (.fa 1 (.t 154))),(aO 183 (.ld false 1 (.t 182))),(aO 184 (.ari .add true .i64 (.t 181) (.t 183))),(aO 157 (.mv (.t 184)))])))))))))
def rv64_150:List RV:=[]
theorem ok64_150:qh6 Tryd.prog 150 ac64_150 rv64_150 Tryd.f64=true:=by kernel_rfl

def ac65_250:AC:=
 (.seq (.seq (.reg [250,54,250,251,252,253] [
 (aO 258 (.mv (.t 251))),(aO 259 (.cmp .lss .i64 (.t 258) (kI 0))),(aO 260 (.mv (.t 259))),⟨some 261,some (260,false),.mv (.t 251)⟩,⟨some 262,some (260,false),.mv (.t 250)⟩,⟨some 263,some (260,false),.nck (.t 262)⟩,⟨some 264,some (260,false),.fa 0 (.t 263)⟩,⟨some 265,some (260,false),.fa 0 (.t 264)⟩,⟨some 266,some (260,false),.ld false 1 (.t 265)⟩,⟨some 267,some (260,false),.cmp .geq .i64 (.t 261) (.t 266)⟩,(aO 268 (.pick (.t 260) (.c (.sc (.bool true))) (.t 267))),(aO 269 (.mv (.t 268))),⟨some 270,some (269,false),.mv (.t 252)⟩,⟨some 271,some (269,false),.cmp .lss .i64 (.t 270) (kI 0)⟩,(aO 272 (.pick (.t 269) (.c (.sc (.bool true))) (.t 271))),(aO 273 (.mv (.t 272))),⟨some 274,some (273,false),.mv (.t 252)⟩,⟨some 275,some (273,false),.mv (.t 250)⟩,⟨some 276,some (273,false),.nck (.t 275)⟩,⟨some 277,some (273,false),.fa 0 (.t 276)⟩,⟨some 278,some (273,false),.fa 1 (.t 277)⟩,⟨some 279,some (273,false),.ld false 1 (.t 278)⟩,⟨some 280,some (273,false),.cmp .geq .i64 (.t 274) (.t 279)⟩,(aO 281 (.pick (.t 273) (.c (.sc (.bool true))) (.t 280)))])
 (.cut [250,54,250,251,252,253,281] (.cond (.t 281)
 .ret
 .skip)))
 (.seq (.reg [250,54,250,251,252,253] [
 (aO 282 (.mv (.t 250))),(aO 283 (.mv (.t 251))),(aO 284 (.mv (.t 252))),(aO 285 (.mv (.t 253))),(aO 286 (.clm 62 [(.t 282),(kI 4),(.t 283),(.t 284),(.t 285)]))])
 (.seq (.reg [250,54,250,251,252,253] [
 (aO 287 (.mv (.t 250))),(aO 288 (.mv (.t 251))),(aO 289 (.mv (.t 252))),(aO 290 (.mv (.t 253))),(aO 291 (.clm 62 [(.t 287),(kI 5),(.t 288),(.t 289),(.t 290)]))])
 (.seq (.reg [250,54,250,251,252,253] [
 (aO 292 (.mv (.t 250))),(aO 293 (.mv (.t 251))),(aO 294 (.ari .sub true .i64 (.t 293) (kI 1))),(aO 295 (.mv (.t 252))),(aO 296 (.mv (.t 253))),(aO 297 (.clm 62 [(.t 292),(kI 4),(.t 294),(.t 295),(.t 296)]))])
 (.reg [250,54,250,251,252,253] [
 (aO 298 (.mv (.t 250))),(aO 299 (.mv (.t 251))),(aO 300 (.mv (.t 252))),(aO 301 (.ari .sub true .i64 (.t 300) (kI 1))),(aO 302 (.mv (.t 253))),(aO 303 (.clm 62 [(.t 298),(kI 5),(.t 299),(.t 301),(.t 302)]))])))))
def rv65_250:List RV:=[]
theorem ok65_250:qh6 Tryd.prog 250 ac65_250 rv65_250 Tryd.f65=true:=by kernel_rfl

def ac66_100:AC:=
 (.seq (.reg [100,24,100,101] [
 (aO 103 (.box (.t 101))),(aO 104 (.mv (.c (.nil))))])
 (.seq (.reg [100,24,100,103] [
 (aO 105 (.mv (.t 100))),(aO 106 (.nck (.t 105))),(aO 107 (.fa 5 (.t 106))),(aO 108 (.ld false 1 (.t 107))),(aO 109 (.clm 80 [(.t 108)]))])
 (.seq (.reg [100,24,100,103] [
 (aO 110 (.mv (.t 100))),(aO 111 (.mv (.t 100))),(aO 112 (.nck (.t 111))),(aO 113 (.fa 5 (.t 112))),(aO 114 (.ld false 1 (.t 113))),(aO 115 (.clm 81 [(.t 114)])),(aO 116 (.nck (.t 110))),(aO 117 (.fa 5 (.t 116))),(aN (.sto 1 (.t 117) (.t 115)))])
 (.seq (.reg [100,24,100,103] [
 (aO 118 (.mv (.t 100))),(aO 119 (.nck (.t 118))),(aO 120 (.fa 5 (.t 119))),(aO 121 (.ld false 1 (.t 120))),(aO 122 (.mkf 83 [(.t 103)])),(aO 123 (.clm 82 [(.t 121),(.t 122)])),(aO 104 (.mv (.t 123)))])
 .ret))))
def rv66_100:List RV:=[.tmp 104]
theorem ok66_100:qh6 Tryd.prog 100 ac66_100 rv66_100 Tryd.f66=true:=by kernel_rfl

def ac82_150:AC:=
 (.seq (.reg [150,42,150,151] [
 (aO 154 (.mv (.c (.nil))))])
 (.seq (.reg [150,42,150,151] [
 (aO 158 (.mv (.t 150))),(aO 159 (.mv (.t 151))),(aO 160 (.cal 90 [(.t 158),(.t 159)])),(aO 155 (.mv (.t 160)))])
 (.seq (.seq (.reg [150,42,150,151,155] [
 (aO 161 (.mv (.t 155))),(aO 162 (.cmp .eql .i64 (.t 161) (kI (-1))))])
 (.cond (.t 162)
 (.seq (.reg [150,42,150] [
 (aO 163 (.mv (.t 150))),(aO 154 (.mv (.t 163)))])
 .ret)
 .skip))
 (.seq (.seq (.reg [150,42,150,151,155] [
 (aO 164 (.mv (.t 155))),(aO 165 (.ari .add true .i64 (.t 164) (kI 1))),(aO 156 (.mv (.t 165)))])
 (.block 0
 (.loop [150,42,150,151,155,156]
 (.seq (.seq (.reg [150,42,150,151,155,156] [
 (aO 166 (.mv (.t 156))),(aO 167 (.mv (.t 150))),(aO 168 (.len (.t 167))),(aO 169 (.cmp .lss .i64 (.t 166) (.t 168)))])
 (.cond (.t 169)
 .skip
 (.exit 0)))
 (.seq (.block 1
 (.seq (.reg [150,42,150,151,155,156] [
 (aO 172 (.mv (.t 150))),(aO 173 (.mv (.t 156))),(aO 174 (.ixs 1 (.t 172) (.t 173))),(aO 175 (.ld false 1 (.t 174))),(aO 157 (.mv (.t 175)))])
 (.seq (.reg [150,42,150,151,155,156,157] [
 (aO 176 (.mv (.t 151))),(aO 177 (.mv (.t 157))),(aO 178 (.clv (.t 176) [(.t 177)])),(aO 179 (.not (.t 178)))])
 (.cond (.t 179)
 (.seq (.reg [150,42,150,151,155,156,157] [
 (aO 180 (.mv (.t 150))),(aO 181 (.mv (.t 155))),(aO 182 (.mv (.t 157))),(aO 183 (.ixs 1 (.t 180) (.t 181))),(aN (.sto 1 (.t 183) (.t 182)))])
 (.reg [150,42,150,151,155,156] [
 (aO 184 (.mv (.t 155))),(aO 185 (.ari .add true .i64 (.t 184) (kI 1))),(aO 155 (.mv (.t 185)))]))
 .skip))))
 (.reg [150,42,150,151,155,156] [
 (aO 170 (.mv (.t 156))),(aO 171 (.ari .add true .i64 (.t 170) (kI 1))),(aO 156 (.mv (.t 171)))]))))))
 (.seq (.reg [150,42,150,155] [
 (aO 186 (.mv (.t 150))),(aO 187 (.mv (.t 155))),(aO 188 (.slc 1 (.t 186) (some (.t 187)) none)),(aN (.xo (.clr 1 [zI]) [(.t 188)]))])
 (.seq (.reg [150,42,150,155] [
 (aO 189 (.mv (.t 150))),(aO 190 (.mv (.t 155))),(aO 191 (.slc 1 (.t 189) none (some (.t 190)))),(aO 154 (.mv (.t 191)))])
 .ret))))))
def rv82_150:List RV:=[.tmp 154]
theorem ok82_150:qh6 Tryd.prog 150 ac82_150 rv82_150 Tryd.f82=true:=by kernel_rfl

def ac83:AC:=
 (.seq (.reg [0,7,0,1] [
 (aO 3 (.mv (.c (.sc (.bool false)))))])
 (.seq (.reg [0,7,0,1] [
 (aO 4 (.mv (.t 0))),(aO 5 (.ld false 1 (.t 1))),(aO 6 (.cmp .eql .i64 (.t 4) (.t 5))),(aO 3 (.mv (.t 6)))])
 .ret))
def rv83:List RV:=[.tmp 3]
theorem ok83:fnOk Tryd.prog ac83 rv83 Tryd.f83=true:=by kernel_rfl

def ac90:AC:=
 (.seq (.reg [0,19,0,1] [
 (aO 4 (.mv (kI 0)))])
 (.seq (.seq (.reg [0,19,0,1] [
 (aO 6 (.mv (.t 0))),(aO 7 (.len (.t 6))),(aO 8 (.mv (kI 0)))])
 (.block 0
 (.loop [0,19,0,1,7,8]
 (.seq (.reg [0,19,0,1,7,8] [
 (aO 9 (.cmp .lss .i64 (.t 8) (.t 7)))])
 (.seq (.cond (.t 9)
 .skip
 (.exit 0))
 (.seq (.block 1
 (.seq (.reg [0,19,0,1,7,8] [
 (aO 10 (.mv (.t 8))),(aO 5 (.mv (.t 10)))])
 (.seq (.reg [0,19,0,1,5,7,8] [
 (aO 11 (.mv (.t 1))),(aO 12 (.mv (.t 0))),(aO 13 (.mv (.t 5))),(aO 14 (.ixs 1 (.t 12) (.t 13))),(aO 15 (.ld false 1 (.t 14))),(aO 16 (.clv (.t 11) [(.t 15)]))])
 (.cond (.t 16)
 (.seq (.reg [0,19,5] [
 (aO 17 (.mv (.t 5))),(aO 4 (.mv (.t 17)))])
 .ret)
 .skip))))
 (.reg [0,19,0,1,7,8] [
 (aO 18 (.ari .add true .i64 (.t 8) (kI 1))),(aO 8 (.mv (.t 18)))])))))))
 (.seq (.reg [0,19] [
 (aO 4 (.mv (kI (-1))))])
 .ret)))
def rv90:List RV:=[.tmp 4]
theorem ok90:fnOk Tryd.prog ac90 rv90 Tryd.f90=true:=by kernel_rfl

def ac51:AC:=
 (.seq (.reg [0,15,0] [
 (aO 1 (.box (.t 0))),(aO 2 (.mv (kI 0)))])
 (.seq (.drw [0,15,1] [
 (eT 3 (.fa 0 (.t 1))),(eT 4 (.ld false 1 (.t 3))),(eT 5 (.fa 1 (.t 1))),(eT 6 (.ld false 1 (.t 5))),(eT 7 (.ari .mul true .i64 (.t 4) (.t 6))),(eT 8 (.ld true 5 (.t 1))),(eT 9 (.cal 72 [(.t 8)])),(eT 10 (.ari .mul true .i64 (.t 7) (.t 9))),(eT 11 (.fa 3 (.t 1))),(eT 12 (.ld false 1 (.t 11))),(eT 13 (.ari .mul true .i64 (kI 2) (.t 12))),(eF 14 (.ari .add true .i64 (.t 10) (.t 13))),(eF 2 (.mv (.t 14)))])
 .ret))
def rv51:List RV:=[.tmp 2]
theorem ok51:fnOk Tryd.prog ac51 rv51 Tryd.f51=true:=by kernel_rfl

def ac72:AC:=
 (.seq (.reg [0,7,0] [
 (aO 1 (.box (.t 0))),(aO 2 (.mv (kI 0)))])
 (.seq (.reg [0,7,1] [
 (aO 3 (.fa 2 (.t 1))),(aO 4 (.ld false 1 (.t 3))),(aO 5 (.ari .mul true .i64 (kI 2) (.t 4))),(aO 6 (.ari .add true .i64 (kI 6) (.t 5))),(aO 2 (.mv (.t 6)))])
 .ret))
def rv72:List RV:=[.tmp 2]
theorem ok72:fnOk Tryd.prog ac72 rv72 Tryd.f72=true:=by kernel_rfl

def ac73:AC:=
 (.seq (.reg [0,113,0,1] [
 (aO 2 (.box (.t 0))),(aO 4 (.alc [zI,zI,zI,zI,zI]))])
 (.seq (.seq (.reg [0,113,1,2,4] [
 (aO 11 (.mv (.t 1))),(aO 12 (.cmp .lss .i64 (.t 11) (kI 0))),(aO 13 (.mv (.t 12))),⟨some 14,some (13,false),.mv (.t 1)⟩,⟨some 15,some (13,false),.ld true 5 (.t 2)⟩,⟨some 16,some (13,false),.cal 51 [(.t 15)]⟩,⟨some 17,some (13,false),.cmp .geq .i64 (.t 14) (.t 16)⟩,(aO 18 (.pick (.t 13) (.c (.sc (.bool true))) (.t 17)))])
 (.cut [0,113,1,2,4,18] (.cond (.t 18)
 (.seq (.reg [0,113,4] [
 (aO 19 (.bld [zI,zI,zI,zI,zI] [(4,1,(kI 1))])),(aN (.sto 5 (.t 4) (.t 19)))])
 .ret)
 .skip)))
 (.seq (.drw [0,113,1,2,4] [
 (eT 20 (.fa 0 (.t 2))),(eT 21 (.ld false 1 (.t 20))),(eT 22 (.fa 1 (.t 2))),(eT 23 (.ld false 1 (.t 22))),(eT 24 (.ari .mul true .i64 (.t 21) (.t 23))),(eT 25 (.ld true 5 (.t 2))),(eT 26 (.cal 72 [(.t 25)])),(eF 27 (.ari .mul true .i64 (.t 24) (.t 26))),(eF 5 (.mv (.t 27)))])
 (.seq (.seq (.reg [0,113,1,2,4,5] [
 (aO 28 (.mv (.t 1))),(aO 29 (.mv (.t 5))),(aO 30 (.fa 3 (.t 2))),(aO 31 (.ld false 1 (.t 30))),(aO 32 (.ari .add true .i64 (.t 29) (.t 31))),(aO 33 (.cmp .geq .i64 (.t 28) (.t 32)))])
 (.cond (.t 33)
 (.seq (.reg [0,113,1,2,4,5] [
 (aO 34 (.mv (.t 1))),(aO 35 (.mv (.t 5))),(aO 36 (.ari .sub true .i64 (.t 34) (.t 35))),(aO 37 (.fa 3 (.t 2))),(aO 38 (.ld false 1 (.t 37))),(aO 39 (.ari .sub true .i64 (.t 36) (.t 38))),(aO 6 (.mv (.t 39)))])
 (.seq (.drw [0,113,2,4,6] [
 (eT 40 (.fa 0 (.t 2))),(eT 41 (.ld false 1 (.t 40))),(eT 42 (.mv (.t 6))),(eT 43 (.fa 1 (.t 2))),(eT 44 (.ld false 1 (.t 43))),(eT 45 (.dvd .rem true .i64 (.t 42) (.t 44))),(eT 46 (.mv (.t 6))),(eF 47 (.bld [zI,zI,zI,zI] [(0,1,(kI 7)),(1,1,(.t 41)),(2,1,(.t 45)),(3,1,(.t 46))])),(eF 48 (.bld [zI,zI,zI,zI,zI] [(0,4,(.t 47))])),⟨(aN (.sto 5 (.t 4) (.t 48))),[],[],false⟩])
 .ret))
 .skip))
 (.seq (.seq (.reg [0,113,1,2,4,5] [
 (aO 49 (.mv (.t 1))),(aO 50 (.mv (.t 5))),(aO 51 (.cmp .geq .i64 (.t 49) (.t 50)))])
 (.cond (.t 51)
 (.seq (.reg [0,113,1,2,4,5] [
 (aO 52 (.mv (.t 1))),(aO 53 (.mv (.t 5))),(aO 54 (.ari .sub true .i64 (.t 52) (.t 53))),(aO 7 (.mv (.t 54)))])
 (.seq (.reg [0,113,2,4,7] [
 (aO 55 (.mv (.t 7))),(aO 56 (.fa 1 (.t 2))),(aO 57 (.ld false 1 (.t 56))),(aO 58 (.dvd .rem true .i64 (.t 55) (.t 57))),(aO 59 (.mv (.t 7))),(aO 60 (.bld [zI,zI,zI,zI] [(0,1,(kI 6)),(1,1,(kI (-1))),(2,1,(.t 58)),(3,1,(.t 59))])),(aO 61 (.bld [zI,zI,zI,zI,zI] [(0,4,(.t 60))])),(aN (.sto 5 (.t 4) (.t 61)))])
 .ret))
 .skip))
 (.seq (.drw [0,113,1,2,4] [
 (eT 62 (.mv (.t 1))),(eT 63 (.ld true 5 (.t 2))),(eT 64 (.cal 72 [(.t 63)])),(eT 65 (.dvd .quo true .i64 (.t 62) (.t 64))),(eT 66 (.mv (.t 1))),(eT 67 (.ld true 5 (.t 2))),(eT 68 (.cal 72 [(.t 67)])),(eT 69 (.dvd .rem true .i64 (.t 66) (.t 68))),(eT 8 (.mv (.t 65))),(eF 9 (.mv (.t 69)))])
 (.seq (.drw [0,113,2,4,8,9] [
 (eU 70 (.mv (.t 8)) [] [10]),(eU 71 (.fa 0 (.t 2)) [] [10]),(eU 72 (.ld false 1 (.t 71)) [] [10]),(eU 73 (.dvd .rem true .i64 (.t 70) (.t 72)) [] [10]),(eU 74 (.mv (.t 8)) [] [10]),(eU 75 (.fa 0 (.t 2)) [] [10]),(eU 76 (.ld false 1 (.t 75)) [] [10]),(eU 77 (.dvd .quo true .i64 (.t 74) (.t 76)) [] [10]),(eU 78 (.bld [zI,zI,zI,zI] [(1,1,(.t 73)),(2,1,(.t 77))]) [] [10]),(eU 10 (.alc [zI,zI,zI,zI]) [10] []),⟨(aN (.sto 4 (.t 10) (.t 78))),[],[],false⟩])
 (.seq (.block 0
 (.seq (.reg [0,113,2,4,9,10] [
 (aO 87 (.mv (.t 9))),(aO 88 (.cmp .eql .i64 (.t 87) (kI 0))),(aO 86 (.mv (.t 88)))])
 (.cond (.t 86)
 (.reg [0,113,4,10] [
 (aO 89 (.fa 0 (.t 10))),(aN (.sto 1 (.t 89) (kI 1)))])
 (.seq (.reg [0,113,2,4,9,10] [
 (aO 91 (.mv (.t 9))),(aO 92 (.cmp .eql .i64 (.t 91) (kI 1))),(aO 90 (.mv (.t 92)))])
 (.cond (.t 90)
 (.reg [0,113,4,10] [
 (aO 93 (.fa 0 (.t 10))),(aN (.sto 1 (.t 93) (kI 2)))])
 (.seq (.reg [0,113,2,4,9,10] [
 (aO 95 (.mv (.t 9))),(aO 96 (.cmp .lss .i64 (.t 95) (kI 6))),(aO 94 (.mv (.t 96)))])
 (.cond (.t 94)
 (.seq (.reg [0,113,4,9,10] [
 (aO 97 (.fa 0 (.t 10))),(aN (.sto 1 (.t 97) (kI 3)))])
 (.reg [0,113,4,9,10] [
 (aO 98 (.mv (.t 9))),(aO 99 (.ari .sub true .i64 (.t 98) (kI 2))),(aO 100 (.fa 3 (.t 10))),(aN (.sto 1 (.t 100) (.t 99)))]))
 (.seq (.reg [0,113,2,4,9,10] [
 (aO 102 (.mv (.t 9))),(aO 103 (.fa 2 (.t 2))),(aO 104 (.ld false 1 (.t 103))),(aO 105 (.ari .add true .i64 (kI 6) (.t 104))),(aO 106 (.cmp .lss .i64 (.t 102) (.t 105))),(aO 101 (.mv (.t 106)))])
 (.cond (.t 101)
 (.seq (.reg [0,113,4,9,10] [
 (aO 107 (.fa 0 (.t 10))),(aN (.sto 1 (.t 107) (kI 4)))])
 (.reg [0,113,4,9,10] [
 (aO 108 (.mv (.t 9))),(aO 109 (.ari .sub true .i64 (.t 108) (kI 6))),(aO 110 (.fa 3 (.t 10))),(aN (.sto 1 (.t 110) (.t 109)))]))
 (.seq (.reg [0,113,2,4,9,10] [
 (aO 79 (.fa 0 (.t 10))),(aN (.sto 1 (.t 79) (kI 5)))])
 (.reg [0,113,2,4,9,10] [
 (aO 80 (.mv (.t 9))),(aO 81 (.ari .sub true .i64 (.t 80) (kI 6))),(aO 82 (.fa 2 (.t 2))),(aO 83 (.ld false 1 (.t 82))),(aO 84 (.ari .sub true .i64 (.t 81) (.t 83))),(aO 85 (.fa 3 (.t 10))),(aN (.sto 1 (.t 85) (.t 84)))])))))))))))
 (.seq (.reg [0,113,4,10] [
 (aO 111 (.ld true 4 (.t 10))),(aO 112 (.bld [zI,zI,zI,zI,zI] [(0,4,(.t 111))])),(aN (.sto 5 (.t 4) (.t 112)))])
 .ret)))))))))
def rv73:List RV:=[.cell 4 true 5]
theorem ok73:fnOk Tryd.prog ac73 rv73 Tryd.f73=true:=by kernel_rfl

def ac84:AC:=
 (.seq (.reg [0,83,0,1,2,3] [
 (aO 4 (.box (.t 0))),(aO 5 (.box (.t 1))),(aO 8 (.mv (.c (.sc (.bool false)))))])
 (.seq (.seq (.reg [0,83,2,3,4,5] [
 (aO 9 (.mv (.t 2))),(aO 10 (.cmp .lss .i64 (.t 9) (kI 0))),(aO 11 (.mv (.t 10))),⟨some 12,some (11,false),.mv (.t 2)⟩,⟨some 13,some (11,false),.fa 0 (.t 4)⟩,⟨some 14,some (11,false),.ld false 1 (.t 13)⟩,⟨some 15,some (11,false),.cmp .geq .i64 (.t 12) (.t 14)⟩,(aO 16 (.pick (.t 11) (.c (.sc (.bool true))) (.t 15))),(aO 17 (.mv (.t 16))),⟨some 18,some (17,false),.mv (.t 3)⟩,⟨some 19,some (17,false),.cmp .lss .i64 (.t 18) (kI 0)⟩,(aO 20 (.pick (.t 17) (.c (.sc (.bool true))) (.t 19))),(aO 21 (.mv (.t 20))),⟨some 22,some (21,false),.mv (.t 3)⟩,⟨some 23,some (21,false),.fa 1 (.t 4)⟩,⟨some 24,some (21,false),.ld false 1 (.t 23)⟩,⟨some 25,some (21,false),.cmp .geq .i64 (.t 22) (.t 24)⟩,(aO 26 (.pick (.t 21) (.c (.sc (.bool true))) (.t 25)))])
 (.cut [0,83,2,3,5,26] (.cond (.t 26)
 (.seq (.reg [0,83] [
 (aO 8 (.mv (.c (.sc (.bool false)))))])
 .ret)
 .skip)))
 (.seq (.reg [0,83,2,3,5] [
 (aO 27 (.fa 0 (.t 5))),(aO 28 (.ld false 1 (.t 27))),(aO 29 (.cmp .eql .i64 (.t 28) (kI 4))),(aO 30 (.mv (.t 29))),⟨some 31,some (30,false),.fa 0 (.t 5)⟩,⟨some 32,some (30,false),.ld false 1 (.t 31)⟩,⟨some 33,some (30,false),.cmp .eql .i64 (.t 32) (kI 5)⟩,(aO 34 (.pick (.t 30) (.c (.sc (.bool true))) (.t 33))),(aO 35 (.mv (.t 34))),⟨some 36,some (35,true),.fa 1 (.t 5)⟩,⟨some 37,some (35,true),.ld false 1 (.t 36)⟩,⟨some 38,some (35,true),.mv (.t 2)⟩,⟨some 39,some (35,true),.cmp .eql .i64 (.t 37) (.t 38)⟩,(aO 40 (.pick (.t 35) (.t 39) (.c (.sc (.bool false))))),(aO 41 (.mv (.t 40))),⟨some 42,some (41,true),.fa 2 (.t 5)⟩,⟨some 43,some (41,true),.ld false 1 (.t 42)⟩,⟨some 44,some (41,true),.mv (.t 3)⟩,⟨some 45,some (41,true),.cmp .eql .i64 (.t 43) (.t 44)⟩,(aO 46 (.pick (.t 41) (.t 45) (.c (.sc (.bool false))))),(aO 47 (.mv (.t 46))),⟨some 48,some (47,false),.fa 0 (.t 5)⟩,⟨some 49,some (47,false),.ld false 1 (.t 48)⟩,⟨some 50,some (47,false),.cmp .eql .i64 (.t 49) (kI 4)⟩,⟨some 51,some (47,false),.mv (.t 50)⟩,⟨some 52,some (51,true),.fa 1 (.t 5)⟩,⟨some 53,some (51,true),.ld false 1 (.t 52)⟩,⟨some 54,some (51,true),.ari .add true .i64 (.t 53) (kI 1)⟩,⟨some 55,some (51,true),.mv (.t 2)⟩,⟨some 56,some (51,true),.cmp .eql .i64 (.t 54) (.t 55)⟩,⟨some 57,some (47,false),.pick (.t 51) (.t 56) (.c (.sc (.bool false)))⟩,⟨some 58,some (47,false),.mv (.t 57)⟩,⟨some 59,some (58,true),.fa 2 (.t 5)⟩,⟨some 60,some (58,true),.ld false 1 (.t 59)⟩,⟨some 61,some (58,true),.mv (.t 3)⟩,⟨some 62,some (58,true),.cmp .eql .i64 (.t 60) (.t 61)⟩,⟨some 63,some (47,false),.pick (.t 58) (.t 62) (.c (.sc (.bool false)))⟩,(aO 64 (.pick (.t 47) (.c (.sc (.bool true))) (.t 63))),(aO 65 (.mv (.t 64))),⟨some 66,some (65,false),.fa 0 (.t 5)⟩,⟨some 67,some (65,false),.ld false 1 (.t 66)⟩,⟨some 68,some (65,false),.cmp .eql .i64 (.t 67) (kI 5)⟩,⟨some 69,some (65,false),.mv (.t 68)⟩,⟨some 70,some (69,true),.fa 1 (.t 5)⟩,⟨some 71,some (69,true),.ld false 1 (.t 70)⟩,⟨some 72,some (69,true),.mv (.t 2)⟩,⟨some 73,some (69,true),.cmp .eql .i64 (.t 71) (.t 72)⟩,⟨some 74,some (65,false),.pick (.t 69) (.t 73) (.c (.sc (.bool false)))⟩,⟨some 75,some (65,false),.mv (.t 74)⟩,⟨some 76,some (75,true),.fa 2 (.t 5)⟩,⟨some 77,some (75,true),.ld false 1 (.t 76)⟩,⟨some 78,some (75,true),.ari .add true .i64 (.t 77) (kI 1)⟩,⟨some 79,some (75,true),.mv (.t 3)⟩,⟨some 80,some (75,true),.cmp .eql .i64 (.t 78) (.t 79)⟩,⟨some 81,some (65,false),.pick (.t 75) (.t 80) (.c (.sc (.bool false)))⟩,(aO 82 (.pick (.t 65) (.c (.sc (.bool true))) (.t 81))),(aO 8 (.mv (.t 82)))])
 .ret)))
def rv84:List RV:=[.tmp 8]
theorem ok84:fnOk Tryd.prog ac84 rv84 Tryd.f84=true:=by kernel_rfl

def ac85:AC:=
 (.seq (.reg [0,11,0] [
 (aO 1 (.box (.t 0))),(aO 2 (.mv (.c (.sc (.bool false)))))])
 (.seq (.reg [0,11,1] [
 (aO 3 (.fa 0 (.t 1))),(aO 4 (.ld false 1 (.t 3))),(aO 5 (.cmp .eql .i64 (.t 4) (kI 4))),(aO 6 (.mv (.t 5))),⟨some 7,some (6,false),.fa 0 (.t 1)⟩,⟨some 8,some (6,false),.ld false 1 (.t 7)⟩,⟨some 9,some (6,false),.cmp .eql .i64 (.t 8) (kI 5)⟩,(aO 10 (.pick (.t 6) (.c (.sc (.bool true))) (.t 9))),(aO 2 (.mv (.t 10)))])
 .ret))
def rv85:List RV:=[.tmp 2]
theorem ok85:fnOk Tryd.prog ac85 rv85 Tryd.f85=true:=by kernel_rfl

def ac86:AC:=
 (.seq (.reg [0,44,0,1,2] [
 (aO 3 (.box (.t 0))),(aO 4 (.box (.t 1))),(aO 5 (.box (.t 2))),(aO 6 (.mv (.c (.sc (.bool false)))))])
 (.seq (.reg [0,44,3,4,5] [
 (aO 7 (.ld true 5 (.t 3))),(aO 8 (.ld true 4 (.t 5))),(aO 9 (.fa 1 (.t 4))),(aO 10 (.ld false 1 (.t 9))),(aO 11 (.fa 2 (.t 4))),(aO 12 (.ld false 1 (.t 11))),(aO 13 (.cal 84 [(.t 7),(.t 8),(.t 10),(.t 12)])),(aO 14 (.mv (.t 13))),⟨some 15,some (14,false),.fa 0 (.t 4)⟩,⟨some 16,some (14,false),.ld false 1 (.t 15)⟩,⟨some 17,some (14,false),.cmp .eql .i64 (.t 16) (kI 4)⟩,⟨some 18,some (14,false),.mv (.t 17)⟩,⟨some 19,some (18,true),.ld true 5 (.t 3)⟩,⟨some 20,some (18,true),.ld true 4 (.t 5)⟩,⟨some 21,some (18,true),.fa 1 (.t 4)⟩,⟨some 22,some (18,true),.ld false 1 (.t 21)⟩,⟨some 23,some (18,true),.ari .add true .i64 (.t 22) (kI 1)⟩,⟨some 24,some (18,true),.fa 2 (.t 4)⟩,⟨some 25,some (18,true),.ld false 1 (.t 24)⟩,⟨some 26,some (18,true),.cal 84 [(.t 19),(.t 20),(.t 23),(.t 25)]⟩,⟨some 27,some (14,false),.pick (.t 18) (.t 26) (.c (.sc (.bool false)))⟩,(aO 28 (.pick (.t 14) (.c (.sc (.bool true))) (.t 27))),(aO 29 (.mv (.t 28))),⟨some 30,some (29,false),.fa 0 (.t 4)⟩,⟨some 31,some (29,false),.ld false 1 (.t 30)⟩,⟨some 32,some (29,false),.cmp .eql .i64 (.t 31) (kI 5)⟩,⟨some 33,some (29,false),.mv (.t 32)⟩,⟨some 34,some (33,true),.ld true 5 (.t 3)⟩,⟨some 35,some (33,true),.ld true 4 (.t 5)⟩,⟨some 36,some (33,true),.fa 1 (.t 4)⟩,⟨some 37,some (33,true),.ld false 1 (.t 36)⟩,⟨some 38,some (33,true),.fa 2 (.t 4)⟩,⟨some 39,some (33,true),.ld false 1 (.t 38)⟩,⟨some 40,some (33,true),.ari .add true .i64 (.t 39) (kI 1)⟩,⟨some 41,some (33,true),.cal 84 [(.t 34),(.t 35),(.t 37),(.t 40)]⟩,⟨some 42,some (29,false),.pick (.t 33) (.t 41) (.c (.sc (.bool false)))⟩,(aO 43 (.pick (.t 29) (.c (.sc (.bool true))) (.t 42))),(aO 6 (.mv (.t 43)))])
 .ret))
def rv86:List RV:=[.tmp 6]
theorem ok86:fnOk Tryd.prog ac86 rv86 Tryd.f86=true:=by kernel_rfl

def ac52:AC:=
 (.seq (.reg [0,36,0,1] [
 (aO 2 (.box (.t 0))),(aO 4 (.mv (.c (.nil))))])
 (.seq (.reg [0,36,1,2] [
 (aO 8 (.bsl 1 3 [zI] 0 [])),(aO 5 (.mv (.t 8)))])
 (.seq (.reg [0,36,1,2,5] [
 (aO 9 (.ld true 5 (.t 2))),(aO 10 (.mv (.t 1))),(aO 11 (.cal 73 [(.t 9),(.t 10)])),(aO 6 (.alc [zI,zI,zI,zI,zI])),(aN (.sto 5 (.t 6) (.t 11)))])
 (.seq (.seq (.reg [0,36,2,5,6] [
 (aO 7 (.mv (kI 0)))])
 (.block 0
 (.loop [0,36,2,5,6,7]
 (.seq (.seq (.reg [0,36,2,5,6,7] [
 (aO 12 (.mv (.t 7))),(aO 13 (.ld true 5 (.t 2))),(aO 14 (.cal 51 [(.t 13)])),(aO 15 (.cmp .lss .i64 (.t 12) (.t 14))),(aO 16 (.mv (.t 15))),⟨some 17,some (16,true),.fa 4 (.t 6)⟩,⟨some 18,some (16,true),.ld false 1 (.t 17)⟩,⟨some 19,some (16,true),.cmp .eql .i64 (.t 18) (kI 0)⟩,(aO 20 (.pick (.t 16) (.t 19) (.c (.sc (.bool false)))))])
 (.cut [0,36,2,5,6,7,20] (.cond (.t 20)
 .skip
 (.exit 0))))
 (.seq (.block 1
 (.seq (.drw [0,36,2,5,6,7] [
 (eT 23 (.ld true 5 (.t 2))),(eT 24 (.ld true 5 (.t 2))),(eT 25 (.mv (.t 7))),(eT 26 (.cal 73 [(.t 24),(.t 25)])),(eT 27 (.fl true 0 4 (.t 26))),(eT 28 (.fa 0 (.t 6))),(eT 29 (.ld true 4 (.t 28))),(eF 30 (.cal 74 [(.t 23),(.t 27),(.t 29)]))])
 (.cond (.t 30)
 (.reg [0,36,2,5,6,7] [
 (aO 31 (.mv (.t 5))),(aO 32 (.mv (.t 7))),(aO 33 (.bsl 1 3 [zI] 1 [(0,(.t 32))])),(aO 34 (.app 1 3 8 (.t 31) (.t 33))),(aO 5 (.mv (.t 34)))])
 .skip)))
 (.reg [0,36,2,5,6,7] [
 (aO 21 (.mv (.t 7))),(aO 22 (.ari .add true .i64 (.t 21) (kI 1))),(aO 7 (.mv (.t 22)))]))))))
 (.seq (.reg [0,36,5] [
 (aO 35 (.mv (.t 5))),(aO 4 (.mv (.t 35)))])
 .ret)))))
def rv52:List RV:=[.tmp 4]
theorem ok52:fnOk Tryd.prog ac52 rv52 Tryd.f52=true:=by kernel_rfl

def ac32:AC:=
 (.seq (.reg [0,9,0,1] [
 (aO 2 (.box (.t 0))),(aO 4 (.mv (kI 0)))])
 (.seq (.reg [0,9,1,2] [
 (aO 5 (.ld true 5 (.t 2))),(aO 6 (.mv (.t 1))),(aO 7 (.cal 52 [(.t 5),(.t 6)])),(aO 8 (.len (.t 7))),(aO 4 (.mv (.t 8)))])
 .ret))
def rv32:List RV:=[.tmp 4]
theorem ok32:fnOk Tryd.prog ac32 rv32 Tryd.f32=true:=by kernel_rfl

def ac30:AC:=
 (.seq (.reg [0,37,0,1] [
 (aO 4 (.mv (.c (.nil))))])
 (.seq (.reg [0,37,0,1] [
 (aO 8 (.bsl 1 3 [zI] 0 [])),(aO 5 (.mv (.t 8)))])
 (.seq (.seq (.reg [0,37,0,1,5] [
 (aO 6 (.mv (kI 0)))])
 (.block 0
 (.loop [0,37,0,1,5,6]
 (.seq (.seq (.reg [0,37,0,1,5,6] [
 (aO 9 (.mv (.t 6))),(aO 10 (.mv (.t 0))),(aO 11 (.cmp .lss .i64 (.t 9) (.t 10)))])
 (.cond (.t 11)
 .skip
 (.exit 0)))
 (.seq (.block 1
 (.seq (.reg [0,37,0,1,5,6] [
 (aO 7 (.mv (kI 2)))])
 (.seq (.seq (.reg [0,37,0,1,5,6,7] [
 (aO 14 (.mv (.t 6))),(aO 15 (.mv (.t 1))),(aO 16 (.len (.t 15))),(aO 17 (.cmp .lss .i64 (.t 14) (.t 16))),(aO 18 (.mv (.t 17))),⟨some 19,some (18,true),.mv (.t 1)⟩,⟨some 20,some (18,true),.mv (.t 6)⟩,⟨some 21,some (18,true),.ixs 1 (.t 19) (.t 20)⟩,⟨some 22,some (18,true),.ld false 1 (.t 21)⟩,⟨some 23,some (18,true),.dvd .rem true .u8 (.t 22) (.c (.sc (.int .u8 8)))⟩,⟨some 24,some (18,true),.cmp .lss .u8 (.t 23) (.c (.sc (.int .u8 2)))⟩,(aO 25 (.pick (.t 18) (.t 24) (.c (.sc (.bool false)))))])
 (.cut [0,37,0,1,5,6,7,25] (.cond (.t 25)
 (.reg [0,37,0,1,5,6] [
 (aO 26 (.mv (.t 1))),(aO 27 (.mv (.t 6))),(aO 28 (.ixs 1 (.t 26) (.t 27))),(aO 29 (.ld false 1 (.t 28))),(aO 30 (.dvd .rem true .u8 (.t 29) (.c (.sc (.int .u8 8))))),(aO 31 (.cnv true .i64 (.t 30))),(aO 7 (.mv (.t 31)))])
 .skip)))
 (.reg [0,37,0,1,5,6,7] [
 (aO 32 (.mv (.t 5))),(aO 33 (.mv (.t 7))),(aO 34 (.bsl 1 3 [zI] 1 [(0,(.t 33))])),(aO 35 (.app 1 3 8 (.t 32) (.t 34))),(aO 5 (.mv (.t 35)))]))))
 (.reg [0,37,0,1,5,6] [
 (aO 12 (.mv (.t 6))),(aO 13 (.ari .add true .i64 (.t 12) (kI 1))),(aO 6 (.mv (.t 13)))]))))))
 (.seq (.reg [0,37,5] [
 (aO 36 (.mv (.t 5))),(aO 4 (.mv (.t 36)))])
 .ret))))
def rv30:List RV:=[.tmp 4]
theorem ok30:fnOk Tryd.prog ac30 rv30 Tryd.f30=true:=by kernel_rfl

def ac11:AC:=
 (.seq (.reg [0,30,0] [
 (aO 1 (.box (.t 0))),(aO 2 (.alc [zI,zI,zI,zI,.nil]))])
 (.seq (.reg [0,30,1,2] [
 (aO 4 (.fa 0 (.t 1))),(aO 5 (.ld false 1 (.t 4))),(aO 6 (.dvd .rem true .u8 (.t 5) (.c (.sc (.int .u8 4))))),(aO 7 (.cnv true .i64 (.t 6))),(aO 8 (.ari .add true .i64 (kI 2) (.t 7))),(aO 9 (.fa 1 (.t 1))),(aO 10 (.ld false 1 (.t 9))),(aO 11 (.dvd .rem true .u8 (.t 10) (.c (.sc (.int .u8 4))))),(aO 12 (.cnv true .i64 (.t 11))),(aO 13 (.ari .add true .i64 (kI 2) (.t 12))),(aO 14 (.fa 2 (.t 1))),(aO 15 (.ld false 1 (.t 14))),(aO 16 (.dvd .rem true .u8 (.t 15) (.c (.sc (.int .u8 3))))),(aO 17 (.cnv true .i64 (.t 16))),(aO 18 (.ari .add true .i64 (kI 2) (.t 17))),(aO 19 (.bld [zI,zI,zI,zI,.nil] [(0,1,(.t 8)),(1,1,(.t 13)),(2,1,(.t 18)),(3,1,(kI 24))])),(aO 3 (.alc [zI,zI,zI,zI,.nil])),(aN (.sto 5 (.t 3) (.t 19)))])
 (.seq (.reg [0,30,1,2,3] [
 (aO 20 (.fa 0 (.t 3))),(aO 21 (.ld false 1 (.t 20))),(aO 22 (.fa 1 (.t 3))),(aO 23 (.ld false 1 (.t 22))),(aO 24 (.ari .mul true .i64 (.t 21) (.t 23))),(aO 25 (.fa 4 (.t 1))),(aO 26 (.ld false 1 (.t 25))),(aO 27 (.cal 30 [(.t 24),(.t 26)])),(aO 28 (.fa 4 (.t 3))),(aN (.sto 1 (.t 28) (.t 27)))])
 (.seq (.reg [0,30,2,3] [
 (aO 29 (.ld true 5 (.t 3))),(aN (.sto 5 (.t 2) (.t 29)))])
 .ret))))
def rv11:List RV:=[.cell 2 true 5]
theorem ok11:fnOk Tryd.prog ac11 rv11 Tryd.f11=true:=by kernel_rfl

def ac40:AC:=
 (.seq (.reg [0,15,0,1,2] [
 (aO 6 (.mv (.c (.sc (.bool false)))))])
 (.seq (.reg [0,15,0,1,2] [
 (aO 7 (.mv (.t 1))),(aO 8 (.mv (.t 0))),(aO 9 (.cmp .leq .i64 (.t 7) (.t 8))),(aO 10 (.mv (.t 9))),⟨some 11,some (10,true),.mv (.t 0)⟩,⟨some 12,some (10,true),.mv (.t 2)⟩,⟨some 13,some (10,true),.cmp .leq .i64 (.t 11) (.t 12)⟩,(aO 14 (.pick (.t 10) (.t 13) (.c (.sc (.bool false))))),(aO 6 (.mv (.t 14)))])
 .ret))
def rv40:List RV:=[.tmp 6]
theorem ok40:fnOk Tryd.prog ac40 rv40 Tryd.f40=true:=by kernel_rfl

def ac67:AC:=
 (.seq (.reg [0,14,0,1] [
 (aO 4 (.mv (.c (.sc (.bool false)))))])
 (.seq (.seq (.reg [0,14,0,1] [
 (aO 5 (.mv (.t 0)))])
 (.block 0
 (.seq (.reg [0,14,1,5] [
 (aO 7 (.cmp .eql .i64 (.t 5) (kI 0))),(aO 6 (.mv (.t 7)))])
 (.cond (.t 6)
 (.seq (.reg [0,14,1] [
 (aO 8 (.mv (.t 1))),(aO 9 (.cmp .eql .i64 (.t 8) (kI 0))),(aO 4 (.mv (.t 9)))])
 .ret)
 (.seq (.reg [0,14,1,5] [
 (aO 11 (.cmp .eql .i64 (.t 5) (kI 1))),(aO 10 (.mv (.t 11)))])
 (.cond (.t 10)
 (.seq (.reg [0,14,1] [
 (aO 12 (.mv (.t 1))),(aO 13 (.cmp .neq .i64 (.t 12) (kI 3))),(aO 4 (.mv (.t 13)))])
 .ret)
 .skip))))))
 (.seq (.reg [0,14] [
 (aO 4 (.mv (.c (.sc (.bool true)))))])
 .ret)))
def rv67:List RV:=[.tmp 4]
theorem ok67:fnOk Tryd.prog ac67 rv67 Tryd.f67=true:=by kernel_rfl

def ac18:AC:=
 (.seq (.reg [0,87,0,1] [
 (aO 2 (.box (.t 0))),(aO 3 (.box (.t 1))),(aO 4 (.mv (kI 0)))])
 (.seq (.reg [0,87,2,3] [
 (aO 10 (.fa 4 (.t 2))),(aO 11 (.ld false 1 (.t 10))),(aO 12 (.len (.t 11))),(aO 5 (.mv (.t 12)))])
 (.seq (.seq (.drw [0,87,2,3,5] [
 (eT 13 (.fa 0 (.t 3))),(eT 14 (.ld false 1 (.t 13))),(eT 15 (.len (.t 14))),(eT 16 (.ld true 5 (.t 2))),(eT 17 (.cal 39 [(.t 16)])),(eF 18 (.cmp .neq .i64 (.t 15) (.t 17))),(eF 19 (.mv (.t 18))),⟨⟨some 20,some (19,false),.fa 1 (.t 3)⟩,[],[],true⟩,⟨⟨some 21,some (19,false),.ld false 1 (.t 20)⟩,[],[],true⟩,⟨⟨some 22,some (19,false),.len (.t 21)⟩,[],[],true⟩,⟨⟨some 23,some (19,false),.mv (.t 5)⟩,[],[],true⟩,⟨⟨some 24,some (19,false),.cmp .neq .i64 (.t 22) (.t 23)⟩,[],[],false⟩,(eF 25 (.pick (.t 19) (.c (.sc (.bool true))) (.t 24))),(eF 26 (.mv (.t 25))),⟨⟨some 27,some (26,false),.fa 2 (.t 3)⟩,[],[],true⟩,⟨⟨some 28,some (26,false),.ld false 1 (.t 27)⟩,[],[],true⟩,⟨⟨some 29,some (26,false),.len (.t 28)⟩,[],[],true⟩,⟨⟨some 30,some (26,false),.mv (.t 5)⟩,[],[],true⟩,⟨⟨some 31,some (26,false),.cmp .neq .i64 (.t 29) (.t 30)⟩,[],[],false⟩,(eF 32 (.pick (.t 26) (.c (.sc (.bool true))) (.t 31))),(eF 33 (.mv (.t 32))),⟨⟨some 34,some (33,false),.fa 3 (.t 3)⟩,[],[],true⟩,⟨⟨some 35,some (33,false),.ld false 1 (.t 34)⟩,[],[],true⟩,⟨⟨some 36,some (33,false),.len (.t 35)⟩,[],[],true⟩,⟨⟨some 37,some (33,false),.mv (.t 5)⟩,[],[],true⟩,⟨⟨some 38,some (33,false),.cmp .neq .i64 (.t 36) (.t 37)⟩,[],[],false⟩,(eF 39 (.pick (.t 33) (.c (.sc (.bool true))) (.t 38)))])
 (.cut [0,87,2,3,39] (.cond (.t 39)
 (.seq (.reg [0,87] [
 (aO 4 (.mv (kI 310)))])
 .ret)
 .skip)))
 (.seq (.seq (.reg [0,87,2,3] [
 (aO 40 (.fa 0 (.t 3))),(aO 41 (.ld false 1 (.t 40))),(aO 42 (.len (.t 41))),(aO 43 (.mv (kI 0)))])
 (.block 0
 (.loop [0,87,2,3,41,42,43]
 (.seq (.reg [0,87,2,3,41,42,43] [
 (aO 44 (.cmp .lss .i64 (.t 43) (.t 42)))])
 (.seq (.cond (.t 44)
 .skip
 (.exit 0))
 (.seq (.block 1
 (.seq (.reg [0,87,2,3,41,42,43] [
 (aO 45 (.mv (.t 43))),(aO 46 (.ixs 1 (.t 41) (.t 43))),(aO 47 (.ld false 1 (.t 46))),(aO 6 (.mv (.t 45))),(aO 7 (.mv (.t 47)))])
 (.seq (.reg [0,87,2,3,6,7,41,42,43] [
 (aO 48 (.mv (.t 7))),(aO 49 (.cmp .neq .i64 (.t 48) (kI 0))),(aO 50 (.mv (.t 49))),⟨some 51,some (50,true),.mv (.t 7)⟩,⟨some 52,some (50,true),.ld true 5 (.t 2)⟩,⟨some 53,some (50,true),.mv (.t 6)⟩,⟨some 54,some (50,true),.cal 41 [(.t 52),(.t 53)]⟩,⟨some 55,some (50,true),.len (.t 54)⟩,⟨some 56,some (50,true),.cal 40 [(.t 51),(kI 1),(.t 55)]⟩,⟨some 57,some (50,true),.not (.t 56)⟩,(aO 58 (.pick (.t 50) (.t 57) (.c (.sc (.bool false)))))])
 (.cut [0,87,2,3,41,42,43,58] (.cond (.t 58)
 (.seq (.reg [0,87] [
 (aO 4 (.mv (kI 310)))])
 .ret)
 .skip)))))
 (.reg [0,87,2,3,41,42,43] [
 (aO 59 (.ari .add true .i64 (.t 43) (kI 1))),(aO 43 (.mv (.t 59)))])))))))
 (.seq (.seq (.reg [0,87,2,3] [
 (aO 60 (.fa 4 (.t 2))),(aO 61 (.ld false 1 (.t 60))),(aO 62 (.len (.t 61))),(aO 63 (.mv (kI 0)))])
 (.block 2
 (.loop [0,87,3,61,62,63]
 (.seq (.reg [0,87,3,61,62,63] [
 (aO 64 (.cmp .lss .i64 (.t 63) (.t 62)))])
 (.seq (.cond (.t 64)
 .skip
 (.exit 2))
 (.seq (.block 3
 (.seq (.reg [0,87,3,61,62,63] [
 (aO 65 (.mv (.t 63))),(aO 66 (.ixs 1 (.t 61) (.t 63))),(aO 67 (.ld false 1 (.t 66))),(aO 8 (.mv (.t 65))),(aO 9 (.mv (.t 67)))])
 (.seq (.drw [0,87,3,8,9,61,62,63] [
 (eT 68 (.mv (.t 9))),(eT 69 (.fa 1 (.t 3))),(eT 70 (.ld false 1 (.t 69))),(eT 71 (.mv (.t 8))),(eT 72 (.ixs 1 (.t 70) (.t 71))),(eT 73 (.ld false 1 (.t 72))),(eT 74 (.fa 2 (.t 3))),(eT 75 (.ld false 1 (.t 74))),(eT 76 (.mv (.t 8))),(eT 77 (.ixs 1 (.t 75) (.t 76))),(eT 78 (.ld false 1 (.t 77))),(eT 79 (.fa 3 (.t 3))),(eT 80 (.ld false 1 (.t 79))),(eT 81 (.mv (.t 8))),(eT 82 (.ixs 1 (.t 80) (.t 81))),(eT 83 (.ld false 1 (.t 82))),(eF 84 (.cal 42 [(.t 68),(.t 73),(.t 78),(.t 83)])),(eF 85 (.not (.t 84)))])
 (.cond (.t 85)
 (.seq (.reg [0,87] [
 (aO 4 (.mv (kI 310)))])
 .ret)
 .skip))))
 (.reg [0,87,3,61,62,63] [
 (aO 86 (.ari .add true .i64 (.t 63) (kI 1))),(aO 63 (.mv (.t 86)))])))))))
 (.seq (.reg [0,87] [
 (aO 4 (.mv (kI 0)))])
 .ret))))))
def rv18:List RV:=[.tmp 4]
theorem ok18:fnOk Tryd.prog ac18 rv18 Tryd.f18=true:=by kernel_rfl

def ac56:AC:=
 (.seq (.reg [0,17,0] [
 (aO 1 (.box (.t 0))),(aO 2 (.alc [.nil,.nil,.nil,.nil]))])
 (.seq (.reg [0,17,1,2] [
 (aO 4 (.fa 4 (.t 1))),(aO 5 (.ld false 1 (.t 4))),(aO 6 (.len (.t 5))),(aO 3 (.mv (.t 6)))])
 (.seq (.drw [0,17,1,2,3] [
 (eU 7 (.ld true 5 (.t 1)) [] [11,13,15]),(eU 8 (.cal 39 [(.t 7)]) [] [11,13,15]),(eU 9 (.mks 1 3 8 [zI] (.t 8) (.t 8)) [9] [11,13,15]),(eU 10 (.mv (.t 3)) [] [9,13,15]),(eU 11 (.mks 1 3 8 [zI] (.t 10) (.t 10)) [11] [9,13,15]),(eU 12 (.mv (.t 3)) [] [9,11,15]),(eU 13 (.mks 1 3 8 [zI] (.t 12) (.t 12)) [13] [9,11,15]),(eU 14 (.mv (.t 3)) [] [9,11,13]),(eU 15 (.mks 1 3 8 [zI] (.t 14) (.t 14)) [15] [9,11,13]),(eF 16 (.bld [.nil,.nil,.nil,.nil] [(0,1,(.t 9)),(1,1,(.t 11)),(2,1,(.t 13)),(3,1,(.t 15))])),⟨(aN (.sto 4 (.t 2) (.t 16))),[],[],false⟩])
 .ret)))
def rv56:List RV:=[.cell 2 true 4]
theorem ok56:fnOk Tryd.prog ac56 rv56 Tryd.f56=true:=by kernel_rfl

def ac36:AC:=
 (.seq (.reg [0,26,0,1] [
 (aO 4 (.mv (.c (.sc (.bool false)))))])
 (.seq (.seq (.reg [0,26,0,1] [
 (aO 6 (.mv (.t 0))),(aO 7 (.len (.t 6))),(aO 8 (.mv (.t 1))),(aO 9 (.len (.t 8))),(aO 10 (.cmp .neq .i64 (.t 7) (.t 9)))])
 (.cond (.t 10)
 (.seq (.reg [0,26] [
 (aO 4 (.mv (.c (.sc (.bool false)))))])
 .ret)
 .skip))
 (.seq (.seq (.reg [0,26,0,1] [
 (aO 5 (.mv (kI 0)))])
 (.block 0
 (.loop [0,26,0,1,5]
 (.seq (.seq (.reg [0,26,0,1,5] [
 (aO 11 (.mv (.t 5))),(aO 12 (.mv (.t 0))),(aO 13 (.len (.t 12))),(aO 14 (.cmp .lss .i64 (.t 11) (.t 13)))])
 (.cond (.t 14)
 .skip
 (.exit 0)))
 (.seq (.block 1
 (.seq (.drw [0,26,0,1,5] [
 (eT 17 (.mv (.t 0))),(eT 18 (.mv (.t 5))),(eT 19 (.ixs 1 (.t 17) (.t 18))),(eT 20 (.ld false 1 (.t 19))),(eT 21 (.mv (.t 1))),(eT 22 (.mv (.t 5))),(eT 23 (.ixs 1 (.t 21) (.t 22))),(eT 24 (.ld false 1 (.t 23))),(eF 25 (.cmp .neq .i64 (.t 20) (.t 24)))])
 (.cond (.t 25)
 (.seq (.reg [0,26] [
 (aO 4 (.mv (.c (.sc (.bool false)))))])
 .ret)
 .skip)))
 (.reg [0,26,0,1,5] [
 (aO 15 (.mv (.t 5))),(aO 16 (.ari .add true .i64 (.t 15) (kI 1))),(aO 5 (.mv (.t 16)))]))))))
 (.seq (.reg [0,26] [
 (aO 4 (.mv (.c (.sc (.bool true)))))])
 .ret))))
def rv36:List RV:=[.tmp 4]
theorem ok36:fnOk Tryd.prog ac36 rv36 Tryd.f36=true:=by kernel_rfl
end Go.Proofs.YtecoaapkcnhlhaaDoor.Txt
