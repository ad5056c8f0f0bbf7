/- VcP VcW VcZ VcZm VcZn: lemmas -/
import Derived.Test.YtdmkfgkmnpohlaaGreatPart07
set_option linter.unusedSimpArgs false
set_option linter.unusedVariables false
open Nat (reduceEqDiff reduceAdd reduceSub reduceMul reduceLT reduceLeDiff)
open Int (reduceToNat reduceNeg)
namespace Go.Vc
open Go Go.RowKit
section
variable (P:Env)
def hS(x:Prop×St)(r:List AO)(K:St->Prop):Prop:=x.1/\opsK P r x.2 K
@[push_cast] theorem qn1(p:Prop)(st:St)(r:List AO)(K:St->Prop):hS P (p,st) r K=(p/\opsK P r st K):=_root_.id rfl
@[congr] theorem qn2{x x' :Prop×St}{r:List AO}{K:St->Prop}(h:x=x'):hS P x r K=hS P x' r K:=by rw[h]
def boxH(st:St)(i:Nat)(v:PV):Prop×St:=(qas v=true/\anyT (isId i) nul (cellsOf v)=false,st.newBox i (cellsOf v))
@[push_cast] theorem qn3(st:St)(i:Nat)(v:PV):boxH st i v=(qas v=true/\anyT (isId i) nul (cellsOf v)=false,st.newBox i (cellsOf v)):=_root_.id rfl
def bslH(st1:St)(i es ty:Nat)(zero:List PV)(n:Nat)(q:Prop×List (List PV)):Prop×St:=((0<es/\zero.length=es/\n*es<=16777216)/\q.1,st1.newArr i ⟨es,ty,q.2⟩)
@[push_cast] theorem qn4(st1:St)(i es ty:Nat)(zero:List PV)(n:Nat)(p:Prop)(xs:List (List PV)):bslH st1 i es ty zero n (p,xs)=((0<es/\zero.length=es/\n*es<=16777216)/\p,st1.newArr i ⟨es,ty,xs⟩):=_root_.id rfl
@[push_cast] theorem qn5(st:St):frzParts st []=st:=_root_.id rfl
@[push_cast] theorem qn6(st:St)(j:Nat)(x:Opd)(r:List (Nat×Opd)):frzParts st ((j,x)::r)=frzParts (st.frzs (cellsOf (x.ev st))) r:=_root_.id rfl
@[push_cast] theorem qn7(st:St)(es:Nat)(xs:List (List PV)):bslF st es [] xs=(True,xs):=_root_.id rfl
@[push_cast] theorem qn8 (st : St) (es j : Nat) (x : Opd) (r : List (Nat × Opd)) (xs : List (List PV)) :
  bslF st es ((j,x)::r) xs=andQ (qas (x.ev st)=true/\ql0 (cellsOf (x.ev st))=true/\(cellsOf (x.ev st)).length=es/\j<xs.length) (bslF st es r (xs.set j (cellsOf (x.ev st)))):=by
 simp only[bslF,andQ,and_assoc,ql1]
def mksH(st:St)(i es ty by_:Nat)(zero:List PV):PV->PV->Prop×St
 | .sc (.int _ n),.sc (.int _ m)=>((0<es/\zero.length=es)/\0<=n/\n<=m/\m.toNat*by_<=140737488355328/\m<=9223372036854775807,st.newArr i ⟨es,ty,List.replicate n.toNat zero⟩)
 |_,_=>(False,st)
@[push_cast] theorem qn9 (st : St) (i es ty by_ : Nat) (zero : List PV) (k l : IntKind) (n m : Int) : mksH st i es ty by_ zero (.sc (.int k n)) (.sc (.int l m)) =
  ((0<es/\zero.length=es)/\0<=n/\n<=m/\m.toNat*by_<=140737488355328/\m<=9223372036854775807,st.newArr i ⟨es,ty,List.replicate n.toNat zero⟩):=rfl
def stoB(s:List (Nat×PV))(b:List (Nat×List PV))(a:List (Nat×Arr))(m:List (Nat×Mp))(sz id off:Nat)(v:PV):Option (List PV)->Prop×St
 |some cs=>((qas v=true/\(cellsOf v).length=sz)/\off+sz<=cs.length,⟨s,up b id (spl cs off (cellsOf v)),a,m⟩)
 |none=>(False,⟨s,b,a,m⟩)
@[push_cast] theorem qna (s : List (Nat × PV)) (b : List (Nat × List PV)) (a : List (Nat × Arr)) (m : List (Nat × Mp)) (sz id off : Nat) (v : PV) (cs : List PV) :
  stoB s b a m sz id off v (some cs)=((qas v=true/\(cellsOf v).length=sz)/\off+sz<=cs.length,⟨s,up b id (spl cs off (cellsOf v)),a,m⟩):=rfl
def stoE(st1:St)(sz:Nat)(x v:PV)(id i off:Nat):Option Arr->Prop×St
 |some A=>(((qas v=true/\ql0 (cellsOf v)=true)/\(cellsOf v).length=sz/\x= .eptr id i off)/\off+sz<=A.es/\i<A.xs.length,{ st1 with a:=up st1.a id { A with xs:=A.xs.set i (spl (A.xs.getD i []) off (cellsOf v)) } })
 |none=>(False,st1)
@[push_cast] theorem qnb (s : List (Nat × PV)) (b : List (Nat × List PV)) (a : List (Nat × Arr)) (m : List (Nat × Mp)) (sz : Nat) (x v : PV) (id i off es ty : Nat) (xs : List (List PV)) :
  stoE ⟨s,b,a,m⟩ sz x v id i off (some ⟨es,ty,xs⟩)=(((qas v=true/\ql0 (cellsOf v)=true)/\(cellsOf v).length=sz/\x= .eptr id i off)/\off+sz<=es/\i<xs.length,⟨s,b,up a id ⟨es,ty,xs.set i (spl (xs.getD i []) off (cellsOf v))⟩,m⟩):=rfl
def lkA(st:St)(id:Nat):Option Arr:=lk st.a id
@[push_cast] theorem qnc(s:List (Nat×PV))(b:List (Nat×List PV))(a:List (Nat×Arr))(m:List (Nat×Mp))(id:Nat):lkA ⟨s,b,a,m⟩ id=lk a id:=_root_.id rfl
def stoH(st st1:St)(sz:Nat)(x v:Opd):PV->Prop×St
 | .ptr id off=>stoB st.s st.b st.a st.m sz id off (v.ev st) (lk st.b id)
 | .eptr id i off=>stoE st1 sz (x.ev st1) (v.ev st1) id i off (lkA st1 id)
 |_=>(False,st)
@[push_cast] theorem qnd(s:List (Nat×PV))(b:List (Nat×List PV))(a:List (Nat×Arr))(m:List (Nat×Mp))(st1:St)(sz:Nat)(x v:Opd)(id off:Nat):stoH ⟨s,b,a,m⟩ st1 sz x v (.ptr id off)=stoB s b a m sz id off (v.ev ⟨s,b,a,m⟩) (lk b id):=_root_.id rfl
@[push_cast] theorem qne(st st1:St)(sz:Nat)(x v:Opd)(id i off:Nat):stoH st st1 sz x v (.eptr id i off)=stoE st1 sz (x.ev st1) (v.ev st1) id i off (lkA st1 id):=_root_.id rfl
def srcV(st:St)(es:Nat):PV->Prop×List (List PV)
 | .nil=>(True,[])
 | .sl _ es' ys=>(es' =es,ys)
 | .view id lo n=>srcA es lo n (lk st.a id)
 |_=>(False,[])
where
 srcA (es lo n:Nat):Option Arr->Prop×List (List PV)
  |some A=>(A.es=es,(A.xs.drop lo).take n)
  |none=>(False,[])
theorem qnf(st:St)(es:Nat)(v:PV):qbN st es v=srcV st es v:=by
 cases v<;>simp only[qbN,srcV]
 split<;>simp_all[srcV.srcA]
@[push_cast] theorem qng(st:St)(es:Nat):srcV st es .nil=(True,[]):=_root_.id rfl
@[push_cast] theorem qnh(st:St)(es:Nat)(p:Bool)(es' :Nat)(ys:List (List PV)):srcV st es (.sl p es' ys)=(es' =es,ys):=_root_.id rfl
@[push_cast] theorem qni(s:List (Nat×PV))(b:List (Nat×List PV))(a:List (Nat×Arr))(m:List (Nat×Mp))(es id lo n:Nat):srcV ⟨s,b,a,m⟩ es (.view id lo n)=srcV.srcA es lo n (lk a id):=_root_.id rfl
@[push_cast] theorem qnj(es lo n e t:Nat)(xs:List (List PV)):srcV.srcA es lo n (some ⟨e,t,xs⟩)=(e=es,(xs.drop lo).take n):=_root_.id rfl
attribute [push_cast] List.drop_zero
def appA(st:St)(i es ty by_ id lo n:Nat)(q:Prop×List (List PV)):Option Arr->Prop×St
 | some A => (((lo = 0 /\ A.es = es /\ A.ty = ty) /\ q.1) /\ n = A.xs.length /\ (n + q.2.length) * by_ <= 140737488355328 /\ n + q.2.length <= 9223372036854775807,
   { s:=up (st.kill nul (fun j=>j==id)).s i (.view id 0 (n+q.2.length)),b:=(st.kill nul (fun j=>j==id)).b,a:=up st.a id { A with xs:=A.xs++q.2 },m:=(st.kill nul (fun j=>j==id)).m })
 |none=>(False,st)
@[push_cast] theorem qnk (s : List (Nat × PV)) (b : List (Nat × List PV)) (a : List (Nat × Arr)) (m : List (Nat × Mp)) (i es ty by_ id lo n : Nat) (p : Prop) (ys : List (List PV)) (e t : Nat) (xs : List (List PV)) :
  appA ⟨s,b,a,m⟩ i es ty by_ id lo n (p,ys) (some ⟨e,t,xs⟩)=(((lo=0/\e=es/\t=ty)/\p)/\n=xs.length/\(n+ys.length)*by_<=140737488355328/\n+ys.length<=9223372036854775807,
   ⟨up (qiy nul (isId id) s) i (.view id 0 (n+ys.length)),qiz nul (isId id) b,up a id ⟨e,t,xs++ys⟩,m⟩):=by
 simp only[appA,St.kill,qj7,qj8,qji];rfl
def appN(st:St)(i es ty by_:Nat)(p:Prop):List (List PV)->Prop×St
 |[]=>(0<es/\p,{ st with s:=up st.s i .nil })
 |y::r=>((0<es/\p)/\(r.length+1)*by_<=140737488355328/\r.length+1<=9223372036854775807,st.newArr i ⟨es,ty,y::r⟩)
@[push_cast] theorem qnl(s:List (Nat×PV))(b:List (Nat×List PV))(a:List (Nat×Arr))(m:List (Nat×Mp))(i es ty by_:Nat)(p:Prop):appN ⟨s,b,a,m⟩ i es ty by_ p []=(0<es/\p,⟨up s i .nil,b,a,m⟩):=_root_.id rfl
@[push_cast] theorem qnm(st:St)(i es ty by_:Nat)(p:Prop)(y:List PV)(r:List (List PV)):appN st i es ty by_ p (y::r)=((0<es/\p)/\(r.length+1)*by_<=140737488355328/\r.length+1<=9223372036854775807,st.newArr i ⟨es,ty,y::r⟩):=_root_.id rfl
def appH(st:St)(i es ty by_:Nat)(q:Prop×List (List PV)):PV->Prop×St
 | .nil=>appN st i es ty by_ q.1 q.2
 | .view id lo n=>appA st i es ty by_ id lo n q (lk st.a id)
 |_=>(False,st)
@[push_cast] theorem qnn(st:St)(i es ty by_:Nat)(p:Prop)(ys:List (List PV)):appH st i es ty by_ (p,ys) .nil=appN st i es ty by_ p ys:=_root_.id rfl
@[push_cast] theorem qno(s:List (Nat×PV))(b:List (Nat×List PV))(a:List (Nat×Arr))(m:List (Nat×Mp))(i es ty by_ id lo n:Nat)(q:Prop×List (List PV)):appH ⟨s,b,a,m⟩ i es ty by_ q (.view id lo n)=appA ⟨s,b,a,m⟩ i es ty by_ id lo n q (lk a id):=_root_.id rfl
def cpyA(st:St)(d:Option Nat)(es id lo n:Nat)(q:Prop×List (List PV)):Option Arr->Prop×St
 |some A=>((0<es/\A.es=es)/\q.1,({ st with a:=up st.a id { A with xs:=cpyF A.xs lo (q.2.take n) } } :St).put d (.int (min q.2.length n:Nat)))
 |none=>(False,st)
@[push_cast] theorem qnp (s : List (Nat × PV)) (b : List (Nat × List PV)) (a : List (Nat × Arr)) (m : List (Nat × Mp)) (d : Option Nat) (es id lo n : Nat) (p : Prop) (ys : List (List PV)) (e t : Nat) (xs : List (List PV)) :
  cpyA ⟨s,b,a,m⟩ d es id lo n (p,ys) (some ⟨e,t,xs⟩)=((0<es/\e=es)/\p,(⟨s,b,up a id ⟨e,t,cpyF xs lo (ys.take n)⟩,m⟩:St).put d (.int (min ys.length n:Nat))):=rfl
def cpyH(st:St)(d:Option Nat)(es:Nat)(q:Prop×List (List PV)):PV->Prop×St
 | .view id lo n=>cpyA st d es id lo n q (lk st.a id)
 |_=>(False,st)
@[push_cast] theorem qnq(s:List (Nat×PV))(b:List (Nat×List PV))(a:List (Nat×Arr))(m:List (Nat×Mp))(d:Option Nat)(es id lo n:Nat)(q:Prop×List (List PV)):cpyH ⟨s,b,a,m⟩ d es q (.view id lo n)=cpyA ⟨s,b,a,m⟩ d es id lo n q (lk a id):=_root_.id rfl
variable (i:Nat) (r:List AO) (st:St) (K:St->Prop)
@[push_cast] theorem qns(zero:List PV):opsK P (⟨some i,none,.alc zero⟩::r) st K=opsK P r (st.newBox i zero) K:=by
 simp only[opsK,grdK,opK,hev,qcH,if_true,true_and]
@[push_cast] theorem qnt(x:Opd):opsK P (⟨some i,none,.box x⟩::r) st K=hS P (boxH st i (x.ev st)) r K:=by
 simp only[opsK,grdK,opK,hev,qcH,if_true,hS,boxH,qhE];rfl
@[push_cast] theorem qnu(es ty:Nat)(zero:List PV)(n:Nat)(parts:List (Nat×Opd)):opsK P (⟨some i,none,.bsl es ty zero n parts⟩::r) st K=hS P (bslH (frzParts st parts) i es ty zero n (bslF (frzParts st parts) es parts (List.replicate n zero))) r K:=_root_.id rfl
@[push_cast] theorem qnv(es ty by_:Nat)(zero:List PV)(l c:Opd):opsK P (⟨some i,none,.mks es ty by_ zero l c⟩::r) st K=hS P (mksH st i es ty by_ zero (l.ev st) (c.ev st)) r K:=by
 have:hev st (some i) (.mks es ty by_ zero l c)=mksH st i es ty by_ zero (l.ev st) (c.ev st):=by
  simp only[hev]
  generalize l.ev st=u
  generalize c.ev st=v
  cases u with
  | sc u => cases v with
    |sc v=>cases u<;>cases v<;>rfl
    |_=>cases u<;>rfl
  |_=>cases v<;>rfl
 simp only[opsK,grdK,opK,qcH,if_true,hS,this]
@[push_cast] theorem qnw(sz:Nat)(x v:Opd):opsK P (⟨none,none,.sto sz x v⟩::r) st K=hS P (stoH st (st.frzs (cellsOf (v.ev st))) sz x v (x.ev st)) r K:=by
 have:hev st none (.sto sz x v)=stoH st (st.frzs (cellsOf (v.ev st))) sz x v (x.ev st):=by
  simp only[hev]
  generalize x.ev st=u
  cases u with
  |ptr id off=>simp only[stoH];cases lk st.b id<;>rfl
  |eptr id j off=>
    simp only[stoH,lkA]
    cases lk (st.frzs (cellsOf (v.ev st))).a id with
    |none=>rfl
    |some A=>simp only[stoE,ql1]
  |_=>rfl
 simp only[opsK,grdK,opK,qcH,if_true,hS,this]
@[push_cast] theorem qnx(es ty by_:Nat)(s x:Opd):opsK P (⟨some i,none,.app es ty by_ s x⟩::r) st K=hS P (appH st i es ty by_ (srcV st es (x.ev st)) (s.ev st)) r K:=by
 have:hev st (some i) (.app es ty by_ s x)=appH st i es ty by_ (srcV st es (x.ev st)) (s.ev st):=by
  simp only[hev,qnf]
  generalize s.ev st=u
  generalize srcV st es (x.ev st)=q
  cases u with
  |nil=>obtain⟨p,ys⟩:=q;cases ys<;>rfl
  |view id lo n=>simp only[appH];cases lk st.a id<;>rfl
  |_=>rfl
 simp only[opsK,grdK,opK,qcH,if_true,hS,this]
end
section
variable (P:Env) (Q:Exit->St->Prop) (st:St)
@[push_cast] theorem qny:awp P .skip Q st=Q .normal st:=_root_.id rfl
@[push_cast] theorem qnz(segs:List (List Nat×List AO)):awp P (.rgs segs) Q st=segK P segs st (Q .normal):=_root_.id rfl
@[push_cast] theorem qnA(P:Env)(st:St)(K:St->Prop):segK P [] st K=K st:=rfl
@[push_cast] theorem qnB(P:Env)(ks:List Nat)(ops:List AO)(r:List (List Nat×List AO))(st:St)(K:St->Prop):segK P ((ks,ops)::r) st K=opsK P ops (st.keepS ks) fun st' =>segK P r st' K:=rfl
@[push_cast] theorem qnC(keep:List Nat)(ops:List AO):awp P (.reg keep ops) Q st=opsK P ops (st.keepS keep) (Q .normal):=_root_.id rfl
@[push_cast] theorem qnD(x y:AC):awp P (.seq x y) Q st=awp P x (Exit.thn (awp P y Q) Q) st:=_root_.id rfl
@[push_cast] theorem qnE(c:Opd)(x y:AC):awp P (.cond c x y) Q st=qcN (c.ev st) (awp P x Q st) (awp P y Q st):=_root_.id rfl
@[push_cast] theorem qnF(id:Nat)(b:AC):awp P (.block id b) Q st=awp P b (Exit.inB id Q) st:=_root_.id rfl
@[push_cast] theorem qnG:awp P .ret Q st=Q .ret st:=_root_.id rfl
@[push_cast] theorem qnH(id:Nat):awp P (.exit id) Q st=Q (.exit id) st:=_root_.id rfl
variable (n:St->Prop)
@[push_cast] theorem qnI:Exit.thn n Q .normal st=n st:=_root_.id rfl
@[push_cast] theorem qnJ:Exit.thn n Q .ret st=Q .ret st:=_root_.id rfl
@[push_cast] theorem qnK(id:Nat):Exit.thn n Q (.exit id) st=Q (.exit id) st:=_root_.id rfl
@[push_cast] theorem qnL(id:Nat):Exit.inB id Q .normal st=Q .normal st:=_root_.id rfl
@[push_cast] theorem qnM(id:Nat):Exit.inB id Q .ret st=Q .ret st:=_root_.id rfl
@[push_cast] theorem qnN(id id' :Nat):Exit.inB id Q (.exit id') st=if id' =id then Q .normal st else Q (.exit id') st:=_root_.id rfl
@[push_cast] theorem qnO(x y:Prop):qcN (.sc (.bool true)) x y=x:=by simp[qcN]
@[push_cast] theorem qnP(x y:Prop):qcN (.sc (.bool false)) x y=y:=by simp[qcN]
end
theorem qnQ{b:Bool}{x y:Prop}(h1:b=true->x)(h2:b=false->y):qcN (.sc (.bool b)) x y:=⟨h1,h2⟩
theorem qnR{p:Prop} [Decidable p]{x y:Prop}(h1:p->x)(h2: ¬p->y):qcN (.sc (.bool (decide p))) x y:=⟨fun h=>h1 (of_decide_eq_true h),fun h=>h2 (of_decide_eq_false h)⟩
def rp:List (Nat×PV)->Nat->PV->List (Nat×PV)
 |[],_,_=>[]
 |(k,u)::r,i,v=>if k=i then(k,v)::r else(k,u)::rp r i v
@[push_cast] theorem qnS(i:Nat)(v:PV):rp [] i v=[]:=_root_.id rfl
@[push_cast] theorem qnT(k i:Nat)(u v:PV)(r:List (Nat×PV)):rp ((k,u)::r) i v=if k=i then(k,v)::r else(k,u)::rp r i v:=_root_.id rfl
theorem qnU(sl:List (Nat×PV))(s:Nat)(c:PV)(hc:getL sl s=c):rp sl s c=sl:=by
 induction sl with
 |nil=>rfl
 |cons x t ih=>
   obtain⟨k,v⟩:=x
   simp only[getL]at hc
   simp only[rp]
   split
   ·rename_i e;rw[if_pos e]at hc;rw[hc]
   ·rename_i e;rw[if_neg e]at hc;rw[ih hc]
theorem qnV {P : Env} {d : Option Nat} {s : Nat} {want : Bool} {op : AOp} {r : List AO} {sl : List (Nat × PV)} {bx : List (Nat × List PV)} {ar : List (Nat × Arr)} {mm : List (Nat × Mp)} {K : St -> Prop} (b : Bool) (h : getL sl s = .sc (.bool b))
  (h1:b=want->opsK P (⟨d,none,op⟩::r) ⟨rp sl s (.sc (.bool want)),bx,ar,mm⟩ K) (h2:b= !want->opsK P r ((⟨rp sl s (.sc (.bool !want)),bx,ar,mm⟩:St).put d (.tup [])) K):
  opsK P (⟨d,some (s,want),op⟩::r) ⟨sl,bx,ar,mm⟩ K:=by
 have hup:=fun c (hc:getL sl s=c)=>qnU sl s c hc
 have hg:(⟨sl,bx,ar,mm⟩:St).get s= .sc (.bool b):=by rw[qh8];exact h
 unfold opsK grdK
 simp only[hg]
 refine⟨fun e=> ?_,fun e=> ?_⟩
 ·have:=h1 e
  subst e
  rw[hup _ h]at this
  exact this
 ·have e' :b= !want:=by cases b<;>cases want<;>simp_all
  have:=h2 e'
  rw[<- e',hup _ h]at this
  exact this
section
variable {P:Env} {d:Option Nat} {s:Nat} {op:AOp} {r:List AO} {sl:List (Nat×PV)} {bx:List (Nat×List PV)} {ar:List (Nat×Arr)} {mm:List (Nat×Mp)} {K:St->Prop}
@[push_cast] theorem qnW(h:getL sl s= .sc (.bool true)):opsK P (⟨d,some (s,true),op⟩::r) ⟨sl,bx,ar,mm⟩ K=opsK P (⟨d,none,op⟩::r) ⟨sl,bx,ar,mm⟩ K:=by
 have hg:(⟨sl,bx,ar,mm⟩:St).get s= .sc (.bool true):=by rw[qh8];exact h
 rw[opsK,opsK];simp[grdK,hg];rfl
@[push_cast] theorem qnX(h:getL sl s= .sc (.bool false)):opsK P (⟨d,some (s,false),op⟩::r) ⟨sl,bx,ar,mm⟩ K=opsK P (⟨d,none,op⟩::r) ⟨sl,bx,ar,mm⟩ K:=by
 have hg:(⟨sl,bx,ar,mm⟩:St).get s= .sc (.bool false):=by rw[qh8];exact h
 rw[opsK,opsK];simp[grdK,hg];rfl
@[push_cast] theorem qnY(h:getL sl s= .sc (.bool false)):opsK P (⟨d,some (s,true),op⟩::r) ⟨sl,bx,ar,mm⟩ K=opsK P r ((⟨sl,bx,ar,mm⟩:St).put d (.tup [])) K:=by
 have hg:(⟨sl,bx,ar,mm⟩:St).get s= .sc (.bool false):=by rw[qh8];exact h
 rw[opsK];simp[grdK,hg]
@[push_cast] theorem qnZ(h:getL sl s= .sc (.bool true)):opsK P (⟨d,some (s,false),op⟩::r) ⟨sl,bx,ar,mm⟩ K=opsK P r ((⟨sl,bx,ar,mm⟩:St).put d (.tup [])) K:=by
 have hg:(⟨sl,bx,ar,mm⟩:St).get s= .sc (.bool true):=by rw[qh8];exact h
 rw[opsK];simp[grdK,hg]
end
section
variable {P:Env} {d:Option Nat} {s:Nat} {w:Bool} {op:AOp} {r:List AO} {sl:List (Nat×PV)} {bx:List (Nat×List PV)} {ar:List (Nat×Arr)} {mm:List (Nat×Mp)} {K:St->Prop}
@[push_cast] theorem qo0(h:getL sl s= .tup []):opsK P (⟨d,some (s,w),op⟩::r) ⟨sl,bx,ar,mm⟩ K=opsK P r ((⟨sl,bx,ar,mm⟩:St).put d (.tup [])) K:=by
 have hg:(⟨sl,bx,ar,mm⟩:St).get s= .tup []:=by rw[qh8];exact h
 rw[opsK];simp[grdK,hg]
end
def rsL(st:St):List PV->List PV
 |[]=>[]
 |c::r=>c.rs1 st::rsL st r
def rs0L(st:St):List PV->List PV
 |[]=>[]
 |c::r=>c.rs0 st::rs0L st r
section
variable (st:St)
theorem qo1(cs:List PV):cs.map (PV.rs1 st)=rsL st cs:=by induction cs<;>simp_all[rsL]
theorem qo2(cs:List PV):cs.map (PV.rs0 st)=rs0L st cs:=by induction cs<;>simp_all[rs0L]
@[push_cast] theorem qo3:rsL st []=[]:=_root_.id rfl
@[push_cast] theorem qo4(c:PV)(r:List PV):rsL st (c::r)=c.rs1 st::rsL st r:=_root_.id rfl
@[push_cast] theorem qo5:rs0L st []=[]:=_root_.id rfl
@[push_cast] theorem qo6(c:PV)(r:List PV):rs0L st (c::r)=c.rs0 st::rs0L st r:=_root_.id rfl
def rsV(es0:Unit)(lo n:Nat):Option Arr->PV
 |some A=> .sl false A.es ((A.xs.drop lo).take n)
 |none=>match es0 with|()=> .bot
def rsB:Nat->Option (List PV)->PV
 |off,some cs=> .iptr false (rs0L st cs) off
 |_,none=> .bot
def rsE(i off:Nat):Option Arr->PV
 |some A=> .iptr false (A.xs.getD i []) off
 |none=> .bot
@[push_cast] theorem qo7(u:Unit)(lo n e t:Nat)(xs:List (List PV)):rsV u lo n (some ⟨e,t,xs⟩)= .sl false e ((xs.drop lo).take n):=_root_.id rfl
@[push_cast] theorem qo8(off:Nat)(cs:List PV):rsB st off (some cs)= .iptr false (rs0L st cs) off:=_root_.id rfl
@[push_cast] theorem qo9(i off e t:Nat)(xs:List (List PV)):rsE i off (some ⟨e,t,xs⟩)= .iptr false (xs.getD i []) off:=_root_.id rfl
end
section
variable (s:List (Nat×PV)) (b:List (Nat×List PV)) (a:List (Nat×Arr)) (m:List (Nat×Mp))
@[push_cast] theorem qoa(id lo n:Nat):PV.rs0 ⟨s,b,a,m⟩ (.view id lo n)=rsV () lo n (lk a id):=by simp only[PV.rs0];cases lk a id<;>rfl
@[push_cast] theorem qob(id i o:Nat):PV.rs0 ⟨s,b,a,m⟩ (.eptr id i o)=rsE i o (lk a id):=by simp only[PV.rs0];cases lk a id<;>rfl
@[push_cast] theorem qoc(id o:Nat):PV.rs0 ⟨s,b,a,m⟩ (.ptr id o)= .bot:=_root_.id rfl
@[push_cast] theorem qod(v:Value):PV.rs0 ⟨s,b,a,m⟩ (.sc v)= .sc v:=_root_.id rfl
@[push_cast] theorem qoe:PV.rs0 ⟨s,b,a,m⟩ .nil= .nil:=_root_.id rfl
@[push_cast] theorem qof:PV.rs0 ⟨s,b,a,m⟩ .bot= .bot:=_root_.id rfl
@[push_cast] theorem qog(p:Bool)(es:Nat)(xs:List (List PV)):PV.rs0 ⟨s,b,a,m⟩ (.sl p es xs)= .sl p es xs:=_root_.id rfl
@[push_cast] theorem qoh(p:Bool)(cs:List PV)(o:Nat):PV.rs0 ⟨s,b,a,m⟩ (.iptr p cs o)= .iptr p cs o:=_root_.id rfl
@[push_cast] theorem qoi(id lo n:Nat):PV.rs1 ⟨s,b,a,m⟩ (.view id lo n)=rsV () lo n (lk a id):=qoa s b a m id lo n
@[push_cast] theorem qoj(id i o:Nat):PV.rs1 ⟨s,b,a,m⟩ (.eptr id i o)=rsE i o (lk a id):=qob s b a m id i o
@[push_cast] theorem qok(id o:Nat):PV.rs1 ⟨s,b,a,m⟩ (.ptr id o)=rsB ⟨s,b,a,m⟩ o (lk b id):=by simp only[PV.rs1,qo2];cases lk b id<;>rfl
@[push_cast] theorem qol(v:Value):PV.rs1 ⟨s,b,a,m⟩ (.sc v)= .sc v:=_root_.id rfl
@[push_cast] theorem qom:PV.rs1 ⟨s,b,a,m⟩ .nil= .nil:=_root_.id rfl
@[push_cast] theorem qon:PV.rs1 ⟨s,b,a,m⟩ .bot= .bot:=_root_.id rfl
@[push_cast] theorem qoo(p:Bool)(es:Nat)(xs:List (List PV)):PV.rs1 ⟨s,b,a,m⟩ (.sl p es xs)= .sl p es xs:=_root_.id rfl
@[push_cast] theorem qop(p:Bool)(cs:List PV)(o:Nat):PV.rs1 ⟨s,b,a,m⟩ (.iptr p cs o)= .iptr p cs o:=_root_.id rfl
@[push_cast] theorem qoq(cs:List PV):PV.rsA ⟨s,b,a,m⟩ (.agg cs)= .agg (rsL ⟨s,b,a,m⟩ cs):=by simp only[PV.rsA,qo1]
@[push_cast] theorem qor(id lo n:Nat):PV.rsA ⟨s,b,a,m⟩ (.view id lo n)=rsV () lo n (lk a id):=qoa s b a m id lo n
@[push_cast] theorem qos(id i o:Nat):PV.rsA ⟨s,b,a,m⟩ (.eptr id i o)=rsE i o (lk a id):=qob s b a m id i o
@[push_cast] theorem qot(id o:Nat):PV.rsA ⟨s,b,a,m⟩ (.ptr id o)=rsB ⟨s,b,a,m⟩ o (lk b id):=qok s b a m id o
@[push_cast] theorem qou(v:Value):PV.rsA ⟨s,b,a,m⟩ (.sc v)= .sc v:=_root_.id rfl
@[push_cast] theorem qov:PV.rsA ⟨s,b,a,m⟩ .nil= .nil:=_root_.id rfl
@[push_cast] theorem qow:PV.rsA ⟨s,b,a,m⟩ .bot= .bot:=_root_.id rfl
@[push_cast] theorem qox(p:Bool)(es:Nat)(xs:List (List PV)):PV.rsA ⟨s,b,a,m⟩ (.sl p es xs)= .sl p es xs:=_root_.id rfl
@[push_cast] theorem qoy(p:Bool)(cs:List PV)(o:Nat):PV.rsA ⟨s,b,a,m⟩ (.iptr p cs o)= .iptr p cs o:=_root_.id rfl
end
def qoz(st:St):List Opd->List PV
 |[]=>[]
 |x::r=>(x.ev st).rsA st::qoz st r
@[push_cast] theorem qoA(st:St):qoz st []=[]:=_root_.id rfl
@[push_cast] theorem qoB(st:St)(x:Opd)(r:List Opd):qoz st (x::r)=(x.ev st).rsA st::qoz st r:=_root_.id rfl
theorem qoC(st:St)(l:List Opd):(l.map fun x=>(x.ev st).rsA st)=qoz st l:=by induction l<;>simp_all[qoz]
def calK(P:Env)(d:Option Nat)(f:Nat)(args:List PV)(r:List AO)(st:St)(K:St->Prop):Prop:= ∃post,FnOK P.p f args post/\ ∀v,post v->opsK P r (st.put d v) K
@[congr] theorem qoD{P:Env}{d:Option Nat}{f:Nat}{args args' :List PV}{r:List AO}{st st' :St}{K:St->Prop}(h1:args=args')(h2:st=st'):calK P d f args r st K=calK P d f args' r st' K:=by rw[h1,h2]
@[push_cast] theorem qoE(P:Env)(d:Option Nat)(f:Nat)(args:List Opd)(r:List AO)(st:St)(K:St->Prop):opsK P (⟨d,none,.cal f args⟩::r) st K=calK P d f (qoz st args) r st K:=by
 simp only[opsK,grdK,opK,calK,qoC]
theorem qoF{P:Env}{d:Option Nat}{f:Nat}{args:List PV}{r:List AO}{st:St}{K:St->Prop}{v:PV}(hc:FnEq P.p f args v)(h:opsK P r (st.put d v) K):calK P d f args r st K:=
 ⟨_,hc,fun u hu=>by subst hu;exact h⟩
theorem qoG{P:Env}{d:Option Nat}{f:Nat}{args:List PV}{r:List AO}{st:St}{K:St->Prop}{post:PV->Prop}(hc:FnOK P.p f args post)(h: ∀v,post v->opsK P r (st.put d v) K):calK P d f args r st K:=⟨_,hc,h⟩
theorem qoH {P : Env} {ks : List Nat} {body : AC} {Q : Exit -> St -> Prop} {st : St} (I : Nat -> St -> Prop) (n0 : Nat) (h0 : I n0 (st.gc ks))
  (hr: ∀n st',I n st' ->awp P body (Exit.thn (fun st'' => ∃n',n' <n/\I n' (st''.gc ks)) Q) st'):awp P (.loop ks body) Q st:=⟨I,n0,h0,hr⟩
section
variable (rvs:List RV) (post:PV->Prop)
@[push_cast] theorem qoI(st:St):retK rvs post .ret st=((resV st rvs).1/\qgQ (resV st rvs).2=true/\Perm (resV st rvs).2/\post (resV st rvs).2):=by simp[retK,qgO]
@[push_cast] theorem qoJ(st:St):retK rvs post .normal st=((resV st rvs).1/\qgQ (resV st rvs).2=true/\Perm (resV st rvs).2/\post (resV st rvs).2):=by simp[retK,qgO]
end
def rvW(st:St):RV->Prop×PV:=fun r=>r.val st
@[push_cast] theorem qoK(st:St)(r:RV):resV st [r]=rvW (r.frz st) r:=_root_.id rfl
def rvT(st:St):List RV->Prop×List PV
 |[]=>(True,[])
 |r::rs=>andT (rvW st r) (rvT st rs)
where
 andT (x:Prop×PV) (y:Prop×List PV):Prop×List PV:=(x.1/\y.1,x.2::y.2)
def tupT(x:Prop×List PV):Prop×PV:=(x.1,.tup x.2)
@[push_cast] theorem qoL(p q:Prop)(v:PV)(vs:List PV):rvT.andT (p,v) (q,vs)=(p/\q,v::vs):=_root_.id rfl
@[push_cast] theorem qoM(st:St):rvT st []=(True,[]):=_root_.id rfl
@[push_cast] theorem qoN(st:St)(r:RV)(rs:List RV):rvT st (r::rs)=rvT.andT (rvW st r) (rvT st rs):=_root_.id rfl
@[push_cast] theorem qoO(p:Prop)(vs:List PV):tupT (p,vs)=(p,.tup vs):=_root_.id rfl
theorem qoP(st:St)(rs:List RV):((∀r∈rs,(r.val st).1)=(rvT st rs).1)/\(rs.map fun r=>(r.val st).2)=(rvT st rs).2:=by
 induction rs with
 |nil=>simp[rvT]
 |cons r rs ih=>simp[rvT,rvT.andT,rvW,<- ih.1,<- ih.2]
@[push_cast] theorem qoQ(st:St)(r1 r2:RV)(rs:List RV):resV st (r1::r2::rs)=tupT (rvT (frzAll st (r1::r2::rs)) (r1::r2::rs)):=by
 have h:=qoP (frzAll st (r1::r2::rs)) (r1::r2::rs)
 show((∀r∈r1::r2::rs,(r.val (frzAll st (r1::r2::rs))).1),PV.tup ((r1::r2::rs).map fun r=>(r.val (frzAll st (r1::r2::rs))).2))=_
 rw[h.1,h.2];rfl
@[push_cast] theorem qoR(st:St):resV st []=(True,.tup []):=by simp[resV]
@[push_cast] theorem qoS(st:St):frzAll st []=st:=_root_.id rfl
@[push_cast] theorem qoT(st:St)(r:RV)(rs:List RV):frzAll st (r::rs)=frzAll (r.frz st) rs:=_root_.id rfl
def frzW(st:St):PV->St
 | .agg cs=>st.frzs cs
 | .view id _ _=>st.frz id
 | .eptr id _ _=>st.frz id
 |_=>st
theorem qoU(st:St)(v:PV):frzVal st v=frzW st v:=by cases v<;>rfl
@[push_cast] theorem qoV(st:St)(t:Nat):RV.frz st (.tmp t)=frzW st (st.get t):=qoU st _
@[push_cast] theorem qoW(st:St)(cs:List PV):frzW st (.agg cs)=st.frzs cs:=_root_.id rfl
@[push_cast] theorem qoX(st:St)(id lo n:Nat):frzW st (.view id lo n)=st.frz id:=_root_.id rfl
@[push_cast] theorem qoY(st:St)(v:Value):frzW st (.sc v)=st:=_root_.id rfl
@[push_cast] theorem qoZ(st:St):frzW st .nil=st:=_root_.id rfl
@[push_cast] theorem qp0(st:St)(p:Bool)(es:Nat)(xs:List (List PV)):frzW st (.sl p es xs)=st:=_root_.id rfl
@[push_cast] theorem qp1(st:St)(id o:Nat):frzW st (.ptr id o)=st:=_root_.id rfl
@[push_cast] theorem qp2(st:St)(p:Bool)(cs:List PV)(o:Nat):frzW st (.iptr p cs o)=st:=_root_.id rfl
def frzC(st:St):PV->St
 | .ptr id _=>frzD st (lk st.b id)
 |_=>st
where
 frzD (st:St):Option (List PV)->St
  |some cs=>st.frzs cs
  |none=>st
@[push_cast] theorem qp3(st:St)(t:Nat)(agg:Bool)(sz:Nat):RV.frz st (.cell t agg sz)=frzC st (st.get t):=by
 simp only[RV.frz]
 cases st.get t<;>simp only[frzC]
 rename_i id o
 cases lk st.b id<;>rfl
@[push_cast] theorem qp4(s:List (Nat×PV))(b:List (Nat×List PV))(a:List (Nat×Arr))(m:List (Nat×Mp))(id o:Nat):frzC ⟨s,b,a,m⟩ (.ptr id o)=frzC.frzD ⟨s,b,a,m⟩ (lk b id):=_root_.id rfl
@[push_cast] theorem qp5(st:St)(cs:List PV):frzC.frzD st (some cs)=st.frzs cs:=_root_.id rfl
@[push_cast] theorem qp6(st:St)(t:Nat):rvW st (.tmp t)=(True,st.get t):=_root_.id rfl
def rvC(st:St)(agg:Bool)(sz:Nat):PV->Prop×PV
 | .ptr id off=>rvD agg sz off (lk st.b id)
 |_=>(False,.bot)
where
 rvD (agg:Bool) (sz off:Nat):Option (List PV)->Prop×PV
  |some cs=>(off+sz<=cs.length,ldc agg sz off cs)
  |none=>(False,.bot)
@[push_cast] theorem qp7(st:St)(t:Nat)(agg:Bool)(sz:Nat):rvW st (.cell t agg sz)=rvC st agg sz (st.get t):=by
 simp only[rvW,RV.val]
 cases st.get t<;>simp only[rvC]
 rename_i id o
 cases lk st.b id<;>rfl
@[push_cast] theorem qp8(s:List (Nat×PV))(b:List (Nat×List PV))(a:List (Nat×Arr))(m:List (Nat×Mp))(agg:Bool)(sz id o:Nat):rvC ⟨s,b,a,m⟩ agg sz (.ptr id o)=rvC.rvD agg sz o (lk b id):=_root_.id rfl
@[push_cast] theorem qp9(agg:Bool)(sz off:Nat)(cs:List PV):rvC.rvD agg sz off (some cs)=(off+sz<=cs.length,ldc agg sz off cs):=_root_.id rfl
@[push_cast] theorem qpa(v:Value):qgQ (.sc v)=true:=_root_.id rfl
@[push_cast] theorem qpb(p:Bool)(es:Nat)(xs:List (List PV)):qgQ (.sl p es xs)=true:=_root_.id rfl
@[push_cast] theorem qpc(cs:List PV):qgQ (.agg cs)=true:=_root_.id rfl
@[push_cast] theorem qpd:qgQ .nil=true:=_root_.id rfl
@[push_cast] theorem qpe(cs:List PV):qgQ (.tup cs)=cs.all fun c=> !qgP c:=_root_.id rfl
attribute [push_cast] List.all_cons List.all_nil Bool.not_false Bool.not_true
@[push_cast] theorem qpf(v:Value):qgP (.sc v)=false:=_root_.id rfl
@[push_cast] theorem qpg(p:Bool)(es:Nat)(xs:List (List PV)):qgP (.sl p es xs)=false:=_root_.id rfl
@[push_cast] theorem qph(cs:List PV):qgP (.agg cs)=false:=_root_.id rfl
@[push_cast] theorem qpi:qgP .nil=false:=_root_.id rfl
attribute [push_cast] qcw qcx qcy qcA qcB qku qkv List.forall_mem_cons
@[push_cast] theorem qpj(P:PV->Prop):(∀x∈([]:List PV),P x) ↔ True:=by simp
@[push_cast] theorem qpk(l:List PV):slots0 l=slots0.go 0 l:=_root_.id rfl
@[push_cast] theorem qpl(k:Nat):slots0.go k []=[]:=_root_.id rfl
@[push_cast] theorem qpm(k:Nat)(c:PV)(r:List PV):slots0.go k (c::r)=(k,c)::slots0.go (k+1) r:=_root_.id rfl
end Go.Vc
namespace Go.Vc
open Go Go.RowKit
@[push_cast] theorem qpn(i:Nat):inL [] i=false:=rfl
@[push_cast] theorem qpo(a:Nat)(t:List Nat)(i:Nat):inL (a::t) i=if a=i then true else inL t i:=by
 unfold inL
 rw[qh2,qh2];rfl
def ssIs:Option Nat->Nat->Bool
 |none,_=>false
 |some j,k=>if j=k then true else false
@[push_cast] theorem qpp(k:Nat):ssIs none k=false:=rfl
@[push_cast] theorem qpq(j k:Nat):ssIs (some j) k=if j=k then true else false:=rfl
def noS(ss:Option Nat)(t:List Nat):List (Nat×PV)->Bool
 |[]=>true
 |(k,v)::r=>(ssIs ss k|| !v.toV (inL t) (inL t))&&noS ss t r
def noB(t:List Nat):List (Nat×List PV)->Bool
 |[]=>true
 |(_,cs)::r=> !anyT (inL t) (inL t) cs&&noB t r
@[push_cast] theorem qpr(ss:Option Nat)(t:List Nat):noS ss t []=true:=rfl
@[push_cast] theorem qps(ss:Option Nat)(t:List Nat)(k:Nat)(v:PV)(r:List (Nat×PV)):noS ss t ((k,v)::r)=((ssIs ss k|| !v.toV (inL t) (inL t))&&noS ss t r):=rfl
@[push_cast] theorem qpt(t:List Nat):noB t []=true:=rfl
@[push_cast] theorem qpu(t:List Nat)(k:Nat)(cs:List PV)(r:List (Nat×List PV)):noB t ((k,cs)::r)=(!anyT (inL t) (inL t) cs&&noB t r):=rfl
@[push_cast] theorem qpv(st:St)(ss:Option Nat):noX st [] ss=true:=rfl
@[push_cast] theorem qpw(s:List (Nat×PV))(b:List (Nat×List PV))(a:List (Nat×Arr))(m:List (Nat×Mp))(i:Nat)(t:List Nat)(ss:Option Nat):noX ⟨s,b,a,m⟩ (i::t) ss=(noS ss (i::t) s&&noB (i::t) b):=by
 simp only[noX]
 congr 1
 ·induction s with
  |nil=>rfl
  |cons x r ih=>
    obtain⟨k,v⟩:=x
    simp only[List.all_cons,noS,ih]
    congr 2
    cases ss with
    |none=>rfl
    |some j=>by_cases h:j=k<;>simp[ssIs,h]
 ·induction b with
  |nil=>rfl
  |cons x r ih=>
    obtain⟨k,v⟩:=x
    simp only[qhE]at ih
    simp only[List.all_cons,noB,ih,qhE]
@[push_cast] theorem qpx(v:PV):stoT [] v=true:=rfl
@[push_cast] theorem qpy(i:Nat)(u:List Nat)(id o:Nat):stoT (i::u) (.ptr id o)=inL (i::u) id:=rfl
@[push_cast] theorem qpz(i:Nat)(u:List Nat)(id j o:Nat):stoT (i::u) (.eptr id j o)=inL (i::u) id:=rfl
@[push_cast] theorem qpA(v:PV):refU [] v=false:=rfl
@[push_cast] theorem qpB(a:Nat)(u:List Nat)(v:PV):refU (a::u) v=v.toV (inL (a::u)) (inL (a::u)):=rfl
@[push_cast] theorem qpC(o:Option (List PV)):boxU [] o=false:=by cases o<;>rfl
@[push_cast] theorem qpD(a:Nat)(u:List Nat):boxU (a::u) none=false:=rfl
@[push_cast] theorem qpE(a:Nat)(u:List Nat)(cs:List PV):boxU (a::u) (some cs)=anyT (inL (a::u)) (inL (a::u)) cs:=qhE _ _ cs
@[push_cast] theorem qpF(st:St)(i:Nat):st.getO (some i)=st.get i:=rfl
@[push_cast] theorem qpG(st:St):st.getO none= .bot:=rfl
def boxA(u:List Nat)(b:List (Nat×List PV)):List Nat->Bool
 |[]=>true
 |i::t=> !boxU u (lk b i)&&boxA u b t
@[push_cast] theorem qpH(u:List Nat)(b:List (Nat×List PV)):boxA u b []=true:=rfl
@[push_cast] theorem qpI(u:List Nat)(b:List (Nat×List PV))(i:Nat)(t:List Nat):boxA u b (i::t)=(!boxU u (lk b i)&&boxA u b t):=rfl
theorem qpJ(u:List Nat)(b:List (Nat×List PV))(t:List Nat):t.all (fun i=> !boxU u (lk b i))=boxA u b t:=by induction t<;>simp_all[boxA]
def preD(t u:List Nat)(d ss:Option Nat)(st:St):Prop:=noX st t ss=true/\refU u (st.getO d)=false/\boxA u st.b t=true
def qpK(t u:List Nat)(d:Option Nat)(st:St):Prop:=refU u (st.getO d)=false/\boxA u st.b t=true
@[congr] theorem qpL{t u:List Nat}{d ss:Option Nat}{st st' :St}(h:st=st'):preD t u d ss st=preD t u d ss st' :=by rw[h]
@[push_cast] theorem qpM(d ss:Option Nat)(st:St):preD [] [] d ss st=True:=by simp[preD,qpA,boxA,noX]
@[push_cast] theorem qpN(d:Option Nat)(st:St):qpK [] [] d st=True:=by simp[qpK,qpA,boxA]
@[push_cast] theorem qpO (i : Nat) (t u : List Nat) (d ss : Option Nat) (s : List (Nat × PV)) (b : List (Nat × List PV)) (a : List (Nat × Arr)) (m : List (Nat × Mp)) :
  preD (i::t) u d ss ⟨s,b,a,m⟩=(noX ⟨s,b,a,m⟩ (i::t) ss=true/\refU u (St.getO ⟨s,b,a,m⟩ d)=false/\boxA u b (i::t)=true):=rfl
@[push_cast] theorem qpP (i : Nat) (u : List Nat) (d ss : Option Nat) (s : List (Nat × PV)) (b : List (Nat × List PV)) (a : List (Nat × Arr)) (m : List (Nat × Mp)) :
  preD [] (i::u) d ss ⟨s,b,a,m⟩=(refU (i::u) (St.getO ⟨s,b,a,m⟩ d)=false):=by simp[preD,boxA,noX]
@[push_cast] theorem qpQ (i : Nat) (t u : List Nat) (d : Option Nat) (s : List (Nat × PV)) (b : List (Nat × List PV)) (a : List (Nat × Arr)) (m : List (Nat × Mp)) :
  qpK (i::t) u d ⟨s,b,a,m⟩=(refU u (St.getO ⟨s,b,a,m⟩ d)=false/\boxA u b (i::t)=true):=rfl
@[push_cast] theorem qpR (i : Nat) (u : List Nat) (d : Option Nat) (s : List (Nat × PV)) (b : List (Nat × List PV)) (a : List (Nat × Arr)) (m : List (Nat × Mp)) :
  qpK [] (i::u) d ⟨s,b,a,m⟩=(refU (i::u) (St.getO ⟨s,b,a,m⟩ d)=false):=by simp[qpK,boxA]
def nvL:List PV->Bool
 |[]=>true
 |c::r=>(qbL [c]).isEmpty&&nvL r
theorem qpS(cs:List PV):(qbL cs=[]) ↔ nvL cs=true:=by
 induction cs with
 |nil=>simp[qbL,nvL]
 |cons c r ih=>cases c<;>simp[qbL,nvL,ih]
@[push_cast] theorem qpT:nvL []=true:=rfl
@[push_cast] theorem qpU(v:Value)(r:List PV):nvL (.sc v::r)=nvL r:=rfl
@[push_cast] theorem qpV(r:List PV):nvL (.nil::r)=nvL r:=rfl
@[push_cast] theorem qpW(p:Bool)(es:Nat)(xs:List (List PV))(r:List PV):nvL (.sl p es xs::r)=nvL r:=rfl
@[push_cast] theorem qpX(p:Bool)(cs:List PV)(o:Nat)(r:List PV):nvL (.iptr p cs o::r)=nvL r:=rfl
@[push_cast] theorem qpY(i o:Nat)(r:List PV):nvL (.ptr i o::r)=nvL r:=rfl
@[push_cast] theorem qpZ(r:List PV):nvL (.bot::r)=nvL r:=rfl
def nvP(st:St):List (Nat×Opd)->Bool
 |[]=>true
 |(_,x)::r=>nvL (cellsOf (x.ev st))&&nvP st r
@[push_cast] theorem qq0(st:St):nvP st []=true:=rfl
@[push_cast] theorem qq1(st:St)(j:Nat)(x:Opd)(r:List (Nat×Opd)):nvP st ((j,x)::r)=(nvL (cellsOf (x.ev st))&&nvP st r):=rfl
theorem qq2(st:St)(parts:List (Nat×Opd)):(∀p∈parts,qbL (cellsOf (p.2.ev st))=[]) ↔ nvP st parts=true:=by
 induction parts with
 |nil=>simp[nvP]
 |cons p r ih=>
   obtain⟨j,x⟩:=p
   simp only[qpS]at ih
   simp only[List.forall_mem_cons,ih,nvP,Bool.and_eq_true,qpS]
def appS(t:List Nat):PV->Bool
 | .view id _ _=>inL t id
 |_=>true
@[push_cast] theorem qq3(t:List Nat)(id lo n:Nat):appS t (.view id lo n)=inL t id:=rfl
@[push_cast] theorem qq4(t:List Nat):appS t .nil=true:=rfl
section
variable (P:Env) (t u:List Nat) (d:Option Nat) (r:List DO) (st:St) (K:St->Prop)
@[congr] theorem qq5{P:Env}{l:List DO}{st st' :St}{K:St->Prop}(h:st=st'):dsK P l st K=dsK P l st' K:=by rw[h]
@[push_cast] theorem qq6(keep:List Nat)(ops:List DO)(Q:Exit->St->Prop):awp P (.drw keep ops) Q st=dsK P ops (st.keepS keep) (Q .normal):=rfl
@[push_cast] theorem qq7:dsK P [] st K=K st:=rfl
@[push_cast] theorem qq8(o:AO):dsK P (⟨o,t,u,false⟩::r) st K=opsK P [o] st (fun st' =>dsK P r st' K):=by
 simp only[dsK,dopG,Bool.false_eq_true,if_false,opsK]
def qq9(P:Env)(t u:List Nat)(o:AO)(r:List DO)(st:St)(K:St->Prop):Prop:=opsK P [o] st (fun st' =>qpK t u o.d st' /\dsK P r st' K)
@[push_cast] theorem qqa(o:AO):qq9 P t u o r st K=opsK P [o] st (fun st' =>qpK t u o.d st' /\dsK P r st' K):=rfl
theorem qqb(op:AOp)(hc:qd0 op=false):dsK P (⟨⟨d,none,op⟩,t,u,true⟩::r) st K=(preD t u d (srcS op) st/\qcK st t u op/\qq9 P t u ⟨d,none,op⟩ r st K):=by
 have e1:qcL ⟨⟨d,none,op⟩,t,u,true⟩ st=preD t u d (srcS op) st:=by simp only[qcL,preD,qpJ]
 have e2:dopK P ⟨⟨d,none,op⟩,t,u,true⟩ st (fun st' =>dsK P r st' K)=(qcK st t u op/\qq9 P t u ⟨d,none,op⟩ r st K):=by
  unfold dopK qq9
  cases op<;>first|(cases hc;done)|(simp only[opsK,grdK,qcM,qpK,qpJ])
 simp only[dsK,dopG,if_true,grdK,e1,e2]
variable (x y z:Opd)
@[push_cast] theorem d_mv:dsK P (⟨⟨d,none,.mv x⟩,t,u,true⟩::r) st K=(preD t u d none st/\qq9 P t u ⟨d,none,.mv x⟩ r st K):=by rw[qqb _ _ _ _ _ _ _ _ rfl];simp[qcK,srcS]
@[push_cast] theorem qqc:dsK P (⟨⟨d,none,.pick x y z⟩,t,u,true⟩::r) st K=(preD t u d none st/\qq9 P t u ⟨d,none,.pick x y z⟩ r st K):=by rw[qqb _ _ _ _ _ _ _ _ rfl];simp[qcK,srcS]
@[push_cast] theorem qqd(zero:List PV)(parts:List (Nat×Nat×Opd)):dsK P (⟨⟨d,none,.bld zero parts⟩,t,u,true⟩::r) st K=(preD t u d none st/\qq9 P t u ⟨d,none,.bld zero parts⟩ r st K):=by rw[qqb _ _ _ _ _ _ _ _ rfl];simp[qcK,srcS]
@[push_cast] theorem d_ld(agg:Bool)(sz:Nat):dsK P (⟨⟨d,none,.ld agg sz x⟩,t,u,true⟩::r) st K=(preD t u d none st/\refU u (x.ev st)=false/\qq9 P t u ⟨d,none,.ld agg sz x⟩ r st K):=by rw[qqb _ _ _ _ _ _ _ _ rfl];simp[qcK,srcS]
@[push_cast] theorem qqe(op:BinOp)(nw:Bool)(k:IntKind):dsK P (⟨⟨d,none,.ari op nw k x y⟩,t,u,true⟩::r) st K=(preD t u d none st/\qq9 P t u ⟨d,none,.ari op nw k x y⟩ r st K):=by rw[qqb _ _ _ _ _ _ _ _ rfl];simp[qcK,srcS]
@[push_cast] theorem qqf(op:BinOp)(nw:Bool)(k:IntKind):dsK P (⟨⟨d,none,.dvd op nw k x y⟩,t,u,true⟩::r) st K=(preD t u d none st/\qq9 P t u ⟨d,none,.dvd op nw k x y⟩ r st K):=by rw[qqb _ _ _ _ _ _ _ _ rfl];simp[qcK,srcS]
@[push_cast] theorem qqg(op:BinOp)(k:IntKind):dsK P (⟨⟨d,none,.bit op k x y⟩,t,u,true⟩::r) st K=(preD t u d none st/\qq9 P t u ⟨d,none,.bit op k x y⟩ r st K):=by rw[qqb _ _ _ _ _ _ _ _ rfl];simp[qcK,srcS]
@[push_cast] theorem qqh(op:BinOp)(k:IntKind):dsK P (⟨⟨d,none,.shf op k x y⟩,t,u,true⟩::r) st K=(preD t u d none st/\qq9 P t u ⟨d,none,.shf op k x y⟩ r st K):=by rw[qqb _ _ _ _ _ _ _ _ rfl];simp[qcK,srcS]
@[push_cast] theorem qqi(op:BinOp)(k:IntKind):dsK P (⟨⟨d,none,.cmp op k x y⟩,t,u,true⟩::r) st K=(preD t u d none st/\qq9 P t u ⟨d,none,.cmp op k x y⟩ r st K):=by rw[qqb _ _ _ _ _ _ _ _ rfl];simp[qcK,srcS]
@[push_cast] theorem qqj(ng:Bool):dsK P (⟨⟨d,none,.eqb ng x y⟩,t,u,true⟩::r) st K=(preD t u d none st/\qq9 P t u ⟨d,none,.eqb ng x y⟩ r st K):=by rw[qqb _ _ _ _ _ _ _ _ rfl];simp[qcK,srcS]
@[push_cast] theorem qqk(ng:Bool)(n:Nat):dsK P (⟨⟨d,none,.eqa ng n x y⟩,t,u,true⟩::r) st K=(preD t u d none st/\qq9 P t u ⟨d,none,.eqa ng n x y⟩ r st K):=by rw[qqb _ _ _ _ _ _ _ _ rfl];simp[qcK,srcS]
@[push_cast] theorem qql:dsK P (⟨⟨d,none,.not x⟩,t,u,true⟩::r) st K=(preD t u d none st/\qq9 P t u ⟨d,none,.not x⟩ r st K):=by rw[qqb _ _ _ _ _ _ _ _ rfl];simp[qcK,srcS]
@[push_cast] theorem qqn(nw:Bool)(k:IntKind):dsK P (⟨⟨d,none,.cnv nw k x⟩,t,u,true⟩::r) st K=(preD t u d none st/\qq9 P t u ⟨d,none,.cnv nw k x⟩ r st K):=by rw[qqb _ _ _ _ _ _ _ _ rfl];simp[qcK,srcS]
@[push_cast] theorem qqo:dsK P (⟨⟨d,none,.len x⟩,t,u,true⟩::r) st K=(preD t u d none st/\qq9 P t u ⟨d,none,.len x⟩ r st K):=by rw[qqb _ _ _ _ _ _ _ _ rfl];simp[qcK,srcS]
@[push_cast] theorem d_mn(mx:Bool):dsK P (⟨⟨d,none,.mn mx x y⟩,t,u,true⟩::r) st K=(preD t u d none st/\qq9 P t u ⟨d,none,.mn mx x y⟩ r st K):=by rw[qqb _ _ _ _ _ _ _ _ rfl];simp[qcK,srcS]
@[push_cast] theorem d_fa(off:Nat):dsK P (⟨⟨d,none,.fa off x⟩,t,u,true⟩::r) st K=(preD t u d none st/\qq9 P t u ⟨d,none,.fa off x⟩ r st K):=by rw[qqb _ _ _ _ _ _ _ _ rfl];simp[qcK,srcS]
@[push_cast] theorem d_fl(agg:Bool)(off sz:Nat):dsK P (⟨⟨d,none,.fl agg off sz x⟩,t,u,true⟩::r) st K=(preD t u d none st/\qq9 P t u ⟨d,none,.fl agg off sz x⟩ r st K):=by rw[qqb _ _ _ _ _ _ _ _ rfl];simp[qcK,srcS]
@[push_cast] theorem qqq(es:Nat):dsK P (⟨⟨d,none,.ixs es x y⟩,t,u,true⟩::r) st K=(preD t u d none st/\refU u (x.ev st)=false/\qq9 P t u ⟨d,none,.ixs es x y⟩ r st K):=by rw[qqb _ _ _ _ _ _ _ _ rfl];simp[qcK,srcS]
@[push_cast] theorem qqr(n es:Nat):dsK P (⟨⟨d,none,.ixa n es x y⟩,t,u,true⟩::r) st K=(preD t u d none st/\qq9 P t u ⟨d,none,.ixa n es x y⟩ r st K):=by rw[qqb _ _ _ _ _ _ _ _ rfl];simp[qcK,srcS]
@[push_cast] theorem qqt(es:Nat)(lo hi:Option Opd):dsK P (⟨⟨d,none,.slc es x lo hi⟩,t,u,true⟩::r) st K=(preD t u d none st/\refU u (x.ev st)=false/\qq9 P t u ⟨d,none,.slc es x lo hi⟩ r st K):=by rw[qqb _ _ _ _ _ _ _ _ rfl];simp[qcK,srcS]
@[push_cast] theorem qqu(i:Nat):dsK P (⟨⟨d,none,.ext x i⟩,t,u,true⟩::r) st K=(preD t u d none st/\qq9 P t u ⟨d,none,.ext x i⟩ r st K):=by rw[qqb _ _ _ _ _ _ _ _ rfl];simp[qcK,srcS]
@[push_cast] theorem qqv:dsK P (⟨⟨d,none,.nck x⟩,t,u,true⟩::r) st K=(preD t u d none st/\qq9 P t u ⟨d,none,.nck x⟩ r st K):=by rw[qqb _ _ _ _ _ _ _ _ rfl];simp[qcK,srcS]
@[push_cast] theorem qqw(zero:List PV):dsK P (⟨⟨d,none,.alc zero⟩,t,u,true⟩::r) st K=(preD t u d none st/\qq9 P t u ⟨d,none,.alc zero⟩ r st K):=by rw[qqb _ _ _ _ _ _ _ _ rfl];simp[qcK,srcS]
@[push_cast] theorem qqx:dsK P (⟨⟨d,none,.box x⟩,t,u,true⟩::r) st K=(preD t u d none st/\qq9 P t u ⟨d,none,.box x⟩ r st K):=by rw[qqb _ _ _ _ _ _ _ _ rfl];simp[qcK,srcS]
@[push_cast] theorem qqy(es ty by_:Nat)(zero:List PV):dsK P (⟨⟨d,none,.mks es ty by_ zero x y⟩,t,u,true⟩::r) st K=(preD t u d none st/\qq9 P t u ⟨d,none,.mks es ty by_ zero x y⟩ r st K):=by rw[qqb _ _ _ _ _ _ _ _ rfl];simp[qcK,srcS]
@[push_cast] theorem qqz(es ty:Nat)(zero:List PV)(n:Nat)(parts:List (Nat×Opd)):dsK P (⟨⟨d,none,.bsl es ty zero n parts⟩,t,u,true⟩::r) st K=(preD t u d none st/\nvP st parts=true/\qq9 P t u ⟨d,none,.bsl es ty zero n parts⟩ r st K):=by rw[qqb _ _ _ _ _ _ _ _ rfl];simp only[qcK,srcS,qq2]
@[push_cast] theorem qqA(sz:Nat):dsK P (⟨⟨d,none,.sto sz x y⟩,t,u,true⟩::r) st K=(preD t u d none st/\(nvL (cellsOf (y.ev st))=true/\stoT u (x.ev st)=true)/\qq9 P t u ⟨d,none,.sto sz x y⟩ r st K):=by rw[qqb _ _ _ _ _ _ _ _ rfl];simp only[qcK,srcS,qpS]
def srcT:Opd->Option Nat
 | .t s=>some s
 | .c _=>none
@[push_cast] theorem qqB(s:Nat):srcT (.t s)=some s:=rfl
@[push_cast] theorem qqC(p:PV):srcT (.c p)=none:=rfl
@[push_cast] theorem qqD(es ty by_:Nat):dsK P (⟨⟨d,none,.app es ty by_ x y⟩,t,u,true⟩::r) st K=(preD t u d (srcT x) st/\appS t (x.ev st)=true/\qq9 P t u ⟨d,none,.app es ty by_ x y⟩ r st K):=by
 rw[qqb _ _ _ _ _ _ _ _ rfl]
 have h1:srcS (.app es ty by_ x y)=srcT x:=by cases x<;>rfl
 have h2:qcK st t u (.app es ty by_ x y)=(appS t (x.ev st)=true):=by
  simp only[qcK]
  cases x.ev st<;>simp[appS]
 rw[h1,h2]
def qqF(P:Env)(u:List Nat)(d:Option Nat)(f:Nat)(args:List PV)(r:List DO)(st:St)(K:St->Prop):Prop:=
 ∃post,FnOK P.p f args post/\(∃v,post v)/\ ∀v,post v->refU u v=false/\dsK P r (st.put d v) K
@[congr] theorem qqG{P:Env}{u:List Nat}{d:Option Nat}{f:Nat}{args args' :List PV}{r:List DO}{st st' :St}{K:St->Prop}(h1:args=args')(h2:st=st'):qqF P u d f args r st K=qqF P u d f args' r st' K:=by rw[h1,h2]
@[push_cast] theorem qqH(f:Nat)(args:List Opd):dsK P (⟨⟨d,none,.cal f args⟩,t,u,true⟩::r) st K=(preD t u d none st/\qqF P u d f (qoz st args) r st K):=by
 simp only[dsK,dopG,if_true,grdK,dopK,calD,qqF,qoC,qcL,preD,srcS,qpJ]
def qqI(P:Env)(u:List Nat)(d:Option Nat)(v:PV)(args:List PV)(r:List DO)(st:St)(K:St->Prop):Prop:=
 match v with| .sc (.func (.func f) _ _)=>qcG P.p f=true/\qqF P u d f args r st K|_=>False
@[congr] theorem qqJ{P:Env}{u:List Nat}{d:Option Nat}{v v' :PV}{args args' :List PV}{r:List DO}{st st' :St}{K:St->Prop}(h0:v=v')(h1:args=args')(h2:st=st'):qqI P u d v args r st K=qqI P u d v' args' r st' K:=by rw[h0,h1,h2]
@[push_cast] theorem qqK(y:Opd)(args:List Opd):dsK P (⟨⟨d,none,.clv y args⟩,t,u,true⟩::r) st K=(preD t u d none st/\qqI P u d (y.ev st) (qoz st args) r st K):=by
 simp only[dsK,dopG,if_true,grdK,dopK,calD,qqI,qqF,qoC,qcL,preD,srcS,qpJ]
 generalize y.ev st=v
 cases v with
 | sc x => cases x with
   |func c a b=>cases c<;>simp[and_assoc]
   |_=>simp
 |_=>simp
@[push_cast] theorem qqL(f:Nat)(a b:Array Value)(args:List PV):qqI P u d (.sc (.func (.func f) a b)) args r st K=(qcG P.p f=true/\qqF P u d f args r st K):=rfl
end
theorem qqM{P:Env}{u:List Nat}{d:Option Nat}{f:Nat}{args:List PV}{r:List DO}{st:St}{K:St->Prop}{v:PV}(hc:FnEq P.p f args v)(hu:refU u v=false)(h:dsK P r (st.put d v) K):qqF P u d f args r st K:=
 ⟨_,hc,⟨v,rfl⟩,fun w hw=>by subst hw;exact⟨hu,h⟩⟩
section
variable {P:Env} {t u:List Nat} {d:Option Nat} {s:Nat} {op:AOp} {r:List DO} {sl:List (Nat×PV)} {bx:List (Nat×List PV)} {ar:List (Nat×Arr)} {mm:List (Nat×Mp)} {K:St->Prop}
theorem qqO (b : Bool) {w : Bool} (h : getL sl s = .sc (.bool b)) :
  dsK P (⟨⟨d,some (s,w),op⟩,t,u,true⟩::r) ⟨sl,bx,ar,mm⟩ K=(preD t u d (srcS op) ⟨sl,bx,ar,mm⟩/\(b=w->dopK P ⟨⟨d,some (s,w),op⟩,t,u,true⟩ ⟨sl,bx,ar,mm⟩ (fun st' =>dsK P r st' K))/\(b≠w->dsK P r ((⟨sl,bx,ar,mm⟩:St).put d (.tup [])) K)):=by
 have hg:(⟨sl,bx,ar,mm⟩:St).get s= .sc (.bool b):=by rw[qh8];exact h
 have e1:qcL ⟨⟨d,some (s,w),op⟩,t,u,true⟩ ⟨sl,bx,ar,mm⟩=preD t u d (srcS op) ⟨sl,bx,ar,mm⟩:=by simp only[qcL,preD,qpJ]
 simp only[dsK,dopG,if_true,e1,grdK,hg]
theorem qqP(w:Bool)(st:St)(K:St->Prop):dopK P ⟨⟨d,some (s,w),op⟩,t,u,true⟩ st K=dopK P ⟨⟨d,none,op⟩,t,u,true⟩ st K:=by
 unfold dopK
 cases op<;>rfl
theorem qqQ(st:St):dsK P (⟨⟨d,none,op⟩,t,u,true⟩::r) st K=(preD t u d (srcS op) st/\dopK P ⟨⟨d,none,op⟩,t,u,true⟩ st (fun st' =>dsK P r st' K)):=by
 have e1:qcL ⟨⟨d,none,op⟩,t,u,true⟩ st=preD t u d (srcS op) st:=by simp only[qcL,preD,qpJ]
 simp only[dsK,dopG,if_true,grdK,e1]
@[push_cast] theorem qqR(h:getL sl s= .sc (.bool true)):dsK P (⟨⟨d,some (s,true),op⟩,t,u,true⟩::r) ⟨sl,bx,ar,mm⟩ K=dsK P (⟨⟨d,none,op⟩,t,u,true⟩::r) ⟨sl,bx,ar,mm⟩ K:=by
 rw[qqO true h,qqQ,qqP];simp
@[push_cast] theorem qqS(h:getL sl s= .sc (.bool false)):dsK P (⟨⟨d,some (s,false),op⟩,t,u,true⟩::r) ⟨sl,bx,ar,mm⟩ K=dsK P (⟨⟨d,none,op⟩,t,u,true⟩::r) ⟨sl,bx,ar,mm⟩ K:=by
 rw[qqO false h,qqQ,qqP];simp
@[push_cast] theorem qqT(h:getL sl s= .sc (.bool false)):dsK P (⟨⟨d,some (s,true),op⟩,t,u,true⟩::r) ⟨sl,bx,ar,mm⟩ K=(preD t u d (srcS op) ⟨sl,bx,ar,mm⟩/\dsK P r ((⟨sl,bx,ar,mm⟩:St).put d (.tup [])) K):=by
 rw[qqO false h];simp
@[push_cast] theorem qqU(h:getL sl s= .sc (.bool true)):dsK P (⟨⟨d,some (s,false),op⟩,t,u,true⟩::r) ⟨sl,bx,ar,mm⟩ K=(preD t u d (srcS op) ⟨sl,bx,ar,mm⟩/\dsK P r ((⟨sl,bx,ar,mm⟩:St).put d (.tup [])) K):=by
 rw[qqO true h];simp
@[push_cast] theorem qqV{w:Bool}(h:getL sl s= .tup []):dsK P (⟨⟨d,some (s,w),op⟩,t,u,true⟩::r) ⟨sl,bx,ar,mm⟩ K=(preD t u d (srcS op) ⟨sl,bx,ar,mm⟩/\dsK P r ((⟨sl,bx,ar,mm⟩:St).put d (.tup [])) K):=by
 have hg:(⟨sl,bx,ar,mm⟩:St).get s= .tup []:=by rw[qh8];exact h
 have e1:qcL ⟨⟨d,some (s,w),op⟩,t,u,true⟩ ⟨sl,bx,ar,mm⟩=preD t u d (srcS op) ⟨sl,bx,ar,mm⟩:=by simp only[qcL,preD,qpJ]
 simp only[dsK,dopG,if_true,e1,grdK,hg]
theorem qqW {want : Bool} (b : Bool) (h : getL sl s = .sc (.bool b)) (h1 : b = want -> dsK P (⟨⟨d, none, op⟩, t, u, true⟩ :: r) ⟨rp sl s (.sc (.bool want)), bx, ar, mm⟩ K)
  (h2:b= !want->preD t u d (srcS op) ⟨rp sl s (.sc (.bool !want)),bx,ar,mm⟩/\dsK P r ((⟨rp sl s (.sc (.bool !want)),bx,ar,mm⟩:St).put d (.tup [])) K):dsK P (⟨⟨d,some (s,want),op⟩,t,u,true⟩::r) ⟨sl,bx,ar,mm⟩ K:=by
 have hup:=fun c (hc:getL sl s=c)=>qnU sl s c hc
 rw[qqO b h]
 by_cases e:b=want
 ·have:=h1 e
  subst e
  rw[hup _ h,qqQ]at this
  exact⟨this.1,fun _=>by rw[qqP];exact this.2,fun h=>absurd rfl h⟩
 ·have e' :b= !want:=by cases b<;>cases want<;>simp_all
  have:=h2 e'
  rw[<- e',hup _ h]at this
  exact⟨this.1,fun h=>absurd h e,fun _=>this.2⟩
end
section
variable (P:Env) (Q:Exit->St->Prop) (st:St)
@[push_cast] theorem qqX(ts:List Nat)(c:AC):awp P (.frz ts c) Q st=awp P c Q (qcO st ts):=rfl
@[push_cast] theorem qqY:qcO st []=st:=rfl
@[push_cast] theorem qqZ(t:Nat)(r:List Nat):qcO st (t::r)=qcO (st.frzs (cellsOf (st.get t))) r:=rfl
@[push_cast] theorem qr0(ks:List Nat)(c:AC):awp P (.cut ks c) Q st=awp P c Q (st.keepS ks):=rfl
theorem qr1{P:Env}{Q:Exit->St->Prop}{st:St}{c:AC}(st0:St)(h:Wk st st0)(h2:awp P c Q st0):awp P (.wk c) Q st:=⟨st0,h,h2⟩
end
@[push_cast] theorem sub_self(c:PV):Sub c c ↔ True:=⟨fun _=>trivial,fun _=> .refl c⟩
@[push_cast] theorem qr2(c:PV):Sub c .bot ↔ True:=⟨fun _=>trivial,fun _=> .bot c⟩
@[push_cast] theorem qr3:SubL [] [] ↔ True:=Iff.rfl
@[push_cast] theorem qr4(c d:PV)(cs ds:List PV):SubL (c::cs) (d::ds) ↔ (Sub c d/\SubL cs ds):=Iff.rfl
@[push_cast] theorem qr5(cs:List PV):SubL cs cs ↔ True:=⟨fun _=>trivial,fun _=>SubL.rfl' cs⟩
theorem qr6: ∀ {cs ds:List PV},cs.length=ds.length->(∀(j:Nat) (c d:PV),cs[j]? =some c->ds[j]? =some d->Sub c d)->SubL cs ds
 |[],[],_,_=>trivial
 |c::cs,d::ds,hl,h=>⟨h 0 c d rfl rfl,qr6 (by simpa using hl) fun j c' d' h1 h2=>h (j+1) c' d' (by simpa using h1) (by simpa using h2)⟩
@[push_cast] theorem qr7(cs ds:List PV):Sub (.agg cs) (.agg ds) ↔ SubL cs ds:=
 ⟨fun h=>by cases h with|refl=>exact SubL.rfl' _|agg _ _ h1 h2=>exact qr6 h1 h2,Sub.aggL⟩
@[push_cast] theorem qr8(cs ds:List PV):Sub (.tup cs) (.tup ds) ↔ SubL cs ds:=
 ⟨fun h=>by cases h with|refl=>exact SubL.rfl' _|tup _ _ h1 h2=>exact qr6 h1 h2,Sub.tupL⟩
@[push_cast] theorem qr9(p:Bool)(es:Nat)(xs:List (List PV)):Sub (.sl p es xs) (.sl false es xs) ↔ True:=⟨fun _=>trivial,fun _=>Sub.slp p es xs false (fun h=>by cases h)⟩
@[push_cast] theorem qra(q:Bool)(es:Nat)(xs:List (List PV)):Sub (.sl true es xs) (.sl q es xs) ↔ True:=⟨fun _=>trivial,fun _=>Sub.slp true es xs q (fun _=>rfl)⟩
@[push_cast] theorem qrb(p:Bool)(es:Nat)(xs:List (List PV)):Sub .nil (.sl p es xs) ↔ xs=[]:=⟨fun h=>by cases h;rfl,fun h=>by subst h;exact .nil p es⟩
@[push_cast] theorem qrc(a b:Value):Sub (.sc a) (.sc b) ↔ a=b:=⟨fun h=>by cases h;rfl,fun h=>by subst h;exact .refl _⟩
@[push_cast] theorem qrd{α:Type}(f:α->List PV)(l:List α):rows f l=[] ↔ l=[]:=by simp[rows]
@[push_cast] theorem qre(s s' :List (Nat×PV))(b b' :List (Nat×List PV))(a a' :List (Nat×Arr))(m m' :List (Nat×Mp)):Wk ⟨s,b,a,m⟩ ⟨s',b',a',m'⟩ ↔ (WkS s s' /\WkB b b' /\WkA a a' /\m' =m):=Iff.rfl
@[push_cast] theorem qrf:WkS [] [] ↔ True:=Iff.rfl
@[push_cast] theorem qrg(i j:Nat)(c d:PV)(s t:List (Nat×PV)):WkS ((i,c)::s) ((j,d)::t) ↔ (i=j/\Sub c d/\WkS s t):=Iff.rfl
@[push_cast] theorem qrh:WkB [] [] ↔ True:=Iff.rfl
@[push_cast] theorem qri(i j:Nat)(c d:List PV)(s t:List (Nat×List PV)):WkB ((i,c)::s) ((j,d)::t) ↔ (i=j/\SubL c d/\WkB s t):=Iff.rfl
@[push_cast] theorem qrj:WkA [] [] ↔ True:=Iff.rfl
@[push_cast] theorem qrk(i j e e' y y' :Nat)(c d:List (List PV))(s t:List (Nat×Arr)):WkA ((i,⟨e,y,c⟩)::s) ((j,⟨e',y',d⟩)::t) ↔ ((i=j/\e' =e/\y' =y)/\SubR c d/\WkA s t):=Iff.rfl
@[push_cast] theorem qrl(cs:List (List PV)):SubR cs cs ↔ True:=⟨fun _=>trivial,fun _=>SubR.rfl' cs⟩
theorem qrm{P:Env}{d:Option Nat}{f:Nat}{args args' :List PV}{r:List AO}{st:St}{K:St->Prop}{v:PV}(hc:FnEq P.p f args' v)(hs:SubL args args')(h:opsK P r (st.put d v) K):calK P d f args r st K:=qoF (FnOK.sub hc hs) h
theorem qro{P:Env}{u:List Nat}{d:Option Nat}{f:Nat}{args args' :List PV}{r:List DO}{st:St}{K:St->Prop}{v:PV}(hc:FnEq P.p f args' v)(hs:SubL args args')(hu:refU u v=false)(h:dsK P r (st.put d v) K):qqF P u d f args r st K:=
 qqM (FnOK.sub hc hs) hu h
@[push_cast] theorem qrp(es ty by_ s:Nat)(y:Opd):srcS (.app es ty by_ (.t s) y)=some s:=rfl
end Go.Vc
namespace Go.Vc
open Go Go.RowKit
section
variable {P:Env} {d:Option Nat} {s:Nat} {op:AOp} {r:List AO} {sl:List (Nat×PV)} {bx:List (Nat×List PV)} {ar:List (Nat×Arr)} {mm:List (Nat×Mp)} {K:St->Prop} {p:Prop} [Decidable p]
theorem qrq (h : getL sl s = .sc (.bool (decide p))) (h1 : p -> opsK P (⟨d, none, op⟩ :: r) ⟨rp sl s (.sc (.bool true)), bx, ar, mm⟩ K) (h2 : ¬ p -> opsK P r ((⟨rp sl s (.sc (.bool false)), bx, ar, mm⟩ : St).put d (.tup [])) K) :
  opsK P (⟨d,some (s,true),op⟩::r) ⟨sl,bx,ar,mm⟩ K:=qnV (decide p) h (fun e=>h1 (of_decide_eq_true e)) (fun e=>h2 (of_decide_eq_false e))
theorem qrr (h : getL sl s = .sc (.bool (decide p))) (h1 : p -> opsK P r ((⟨rp sl s (.sc (.bool true)), bx, ar, mm⟩ : St).put d (.tup [])) K) (h2 : ¬ p -> opsK P (⟨d, none, op⟩ :: r) ⟨rp sl s (.sc (.bool false)), bx, ar, mm⟩ K) :
  opsK P (⟨d,some (s,false),op⟩::r) ⟨sl,bx,ar,mm⟩ K:=qnV (decide p) h (fun e=>h2 (of_decide_eq_false e)) (fun e=>h1 (of_decide_eq_true e))
theorem qrs {b : Bool} (h : getL sl s = .sc (.bool b)) (h1 : b = true -> opsK P (⟨d, none, op⟩ :: r) ⟨rp sl s (.sc (.bool true)), bx, ar, mm⟩ K) (h2 : b = false -> opsK P r ((⟨rp sl s (.sc (.bool false)), bx, ar, mm⟩ : St).put d (.tup [])) K) :
  opsK P (⟨d,some (s,true),op⟩::r) ⟨sl,bx,ar,mm⟩ K:=qnV b h h1 h2
end
section
variable {P:Env} {t u:List Nat} {d:Option Nat} {s:Nat} {op:AOp} {r:List DO} {sl:List (Nat×PV)} {bx:List (Nat×List PV)} {ar:List (Nat×Arr)} {mm:List (Nat×Mp)} {K:St->Prop} {p:Prop} [Decidable p]
theorem qru (h : getL sl s = .sc (.bool (decide p))) (h1 : p -> dsK P (⟨⟨d, none, op⟩, t, u, true⟩ :: r) ⟨rp sl s (.sc (.bool true)), bx, ar, mm⟩ K)
  (h2: ¬p->preD t u d (srcS op) ⟨rp sl s (.sc (.bool false)),bx,ar,mm⟩/\dsK P r ((⟨rp sl s (.sc (.bool false)),bx,ar,mm⟩:St).put d (.tup [])) K):dsK P (⟨⟨d,some (s,true),op⟩,t,u,true⟩::r) ⟨sl,bx,ar,mm⟩ K:=
 qqW (decide p) h (fun e=>h1 (of_decide_eq_true e)) (fun e=>h2 (of_decide_eq_false e))
theorem qrv (h : getL sl s = .sc (.bool (decide p))) (h1 : p -> preD t u d (srcS op) ⟨rp sl s (.sc (.bool true)), bx, ar, mm⟩ /\ dsK P r ((⟨rp sl s (.sc (.bool true)), bx, ar, mm⟩ : St).put d (.tup [])) K)
  (h2: ¬p->dsK P (⟨⟨d,none,op⟩,t,u,true⟩::r) ⟨rp sl s (.sc (.bool false)),bx,ar,mm⟩ K):dsK P (⟨⟨d,some (s,false),op⟩,t,u,true⟩::r) ⟨sl,bx,ar,mm⟩ K:=
 qqW (decide p) h (fun e=>h2 (of_decide_eq_false e)) (fun e=>h1 (of_decide_eq_true e))
theorem qrx {b : Bool} (h : getL sl s = .sc (.bool b)) (h1 : b = true -> preD t u d (srcS op) ⟨rp sl s (.sc (.bool true)), bx, ar, mm⟩ /\ dsK P r ((⟨rp sl s (.sc (.bool true)), bx, ar, mm⟩ : St).put d (.tup [])) K)
  (h2:b=false->dsK P (⟨⟨d,none,op⟩,t,u,true⟩::r) ⟨rp sl s (.sc (.bool false)),bx,ar,mm⟩ K):dsK P (⟨⟨d,some (s,false),op⟩,t,u,true⟩::r) ⟨sl,bx,ar,mm⟩ K:=qqW b h h2 h1
end
theorem qry{P:Env}{ops:List AO}{st:St}{ks:List Nat}{c:AC}{Q:Exit->St->Prop}(st1:St)(h1:opsK P ops st (fun st' =>st'.keepS ks=st1))(h2:awp P c Q st1):opsK P ops st (fun st' =>awp P (.cut ks c) Q st'):=by
 have mono: ∀(l:List AO) (st:St) (K K' :St->Prop),(∀s,K s->K' s)->opsK P l st K->opsK P l st K' :=by
  intro l
  induction l with
  |nil=>exact fun st K K' h hk=>h st hk
  |cons o r ih=>exact fun st K K' h hk=>qfB (qfA fun s hs=>ih s K K' h hs) (ih _ K K' h) hk
 exact mono ops st _ _ (fun s hs=>by show awp P c Q (s.keepS ks);rw[hs];exact h2) h1
theorem qrz{P:Env}{ops:List DO}{st:St}{ks:List Nat}{c:AC}{Q:Exit->St->Prop}(st1:St)(h1:dsK P ops st (fun st' =>st'.keepS ks=st1))(h2:awp P c Q st1):dsK P ops st (fun st' =>awp P (.cut ks c) Q st'):=by
 have dop: ∀(x:DO) (st:St) (K K' :St->Prop),(∀s,K s->K' s)->dopG P x st K->dopG P x st K' :=by
  intro x st K K' h hk
  unfold dopG at hk ⊢
  split
  ·rename_i hs
   rw[if_pos hs]at hk
   refine⟨hk.1,qfB (fun hd=> ?_) (h _) hk.2⟩
   unfold dopK at hd ⊢
   split
   ·rename_i hop
    rw[hop]at hd
    obtain⟨post,a,b,c⟩:=hd
    exact⟨post,a,b,fun r hr=>⟨(c r hr).1,h _ (c r hr).2⟩⟩
   ·rename_i hop
    rw[hop]at hd
    simp only at hd ⊢
    split at hd
    ·obtain⟨h0,post,a,b,c⟩:=hd
     exact⟨h0,post,a,b,fun r hr=>⟨(c r hr).1,h _ (c r hr).2⟩⟩
    ·exact hd.elim
   ·rename_i hop hop3
    have hd:qcK st x.t x.u x.o.op/\opK P x.o st (fun st' =>qcM x st' /\K st'):=by
     split at hd
     ·rename_i hop2;exact absurd hop2 (hop _ _)
     ·rename_i hop2;exact absurd hop2 (hop3 _ _)
     ·exact hd
    exact⟨hd.1,qfA (fun s hs=>⟨hs.1,h s hs.2⟩) hd.2⟩
  ·rename_i hs
   rw[if_neg hs]at hk
   exact qfB (qfA h) (h _) hk
 have mono: ∀(l:List DO) (st:St) (K K' :St->Prop),(∀s,K s->K' s)->dsK P l st K->dsK P l st K' :=by
  intro l
  induction l with
  |nil=>exact fun st K K' h hk=>h st hk
  |cons o r ih=>exact fun st K K' h hk=>dop o st _ _ (fun s hs=>ih s K K' h hs) hk
 exact mono ops st _ _ (fun s hs=>by show awp P c Q (s.keepS ks);rw[hs];exact h2) h1
end Go.Vc
namespace Go.Vc
open Go Go.RowKit
def evL(st:St):List Opd->List PV
 |[]=>[]
 |x::r=>x.ev st::evL st r
theorem qrC(st:St)(l:List Opd):l.map (·.ev st)=evL st l:=by induction l<;>simp_all[evL]
@[push_cast] theorem qrD(st:St):evL st []=[]:=rfl
@[push_cast] theorem qrE(st:St)(x:Opd)(r:List Opd):evL st (x::r)=x.ev st::evL st r:=rfl
def boxI:List PV->List Nat->Option (List Nat)
 |[],acc=>some acc
 | .ptr i 0::r,acc=>boxI r (acc++[i])
 |_::_,_=>none
theorem qrF: ∀(l:List PV) (acc:List Nat),boxI l acc=(qau l).map (acc++ ·)
 |[],acc=>by simp[boxI,qau]
 | c :: r, acc => by
   cases c with
   |ptr i off=>
     cases off with
     |zero=>
       simp only[boxI,qau,qrF r]
       cases qau r<;>simp
     |succ n=>rfl
   |_=>rfl
@[push_cast] theorem qrG(acc:List Nat):boxI [] acc=some acc:=rfl
@[push_cast] theorem qrH(i:Nat)(r:List PV)(acc:List Nat):boxI (.ptr i 0::r) acc=boxI r (acc++[i]):=rfl
attribute [push_cast] List.nil_append List.cons_append
def mkfV(f:Nat):Option (List Nat)->Prop×PV
 |some []=>(True,.sc (.func (.func f) #[] #[]))
 |some ids=>(True,.clo f ids)
 |none=>(False,.bot)
@[push_cast] theorem qrI(f:Nat):mkfV f (some [])=(True,.sc (.func (.func f) #[] #[])):=rfl
@[push_cast] theorem qrJ(f i:Nat)(r:List Nat):mkfV f (some (i::r))=(True,.clo f (i::r)):=rfl
def mlkT(ok:Bool)(zero:PV)(o:Option PV):PV:=bif ok then(match o with|some v=> .tup [v,.sc (.bool true)]|none=> .tup [zero,.sc (.bool false)])else o.getD zero
@[push_cast] theorem qrK(zero:PV):mlkT true zero none= .tup [zero,.sc (.bool false)]:=rfl
@[push_cast] theorem qrL(zero v:PV):mlkT true zero (some v)= .tup [v,.sc (.bool true)]:=rfl
@[push_cast] theorem qrM(zero:PV):mlkT false zero none=zero:=rfl
@[push_cast] theorem qrN(zero v:PV):mlkT false zero (some v)=v:=rfl
def mlkM(kd:KD)(ok:Bool)(zero:PV)(kv:Value):Option Mp->Prop×PV
 |some M=>(M.kd=kd/\kd.has kv=true,mlkT ok zero (mget M.es kv))
 |none=>(False,.bot)
def mlkO(kd:KD)(ok:Bool)(zero:PV)(M:Option Mp):Option Value->Prop×PV
 |some kv=>mlkM kd ok zero kv M
 |none=>(False,.bot)
def mlkV(st:St)(kd:KD)(ok:Bool)(zero:PV):PV->PV->Prop×PV
 | .mp id,k=>mlkO kd ok zero (lk st.m id) (keyV k)
 |_,_=>(False,.bot)
def keyA:Option (List Value)->Option Value
 |some l=>some (.agg l.toArray)
 |none=>none
def keyC(n:Int):Option (List Value)->Option (List Value)
 |some l=>some (.int .i64 n::l)
 |none=>none
@[push_cast] theorem qrO(kd:KD)(ok:Bool)(zero:PV)(M:Option Mp)(kv:Value):mlkO kd ok zero M (some kv)=mlkM kd ok zero kv M:=rfl
@[push_cast] theorem qrP(cs:List PV):keyV (.agg cs)=keyA (keyL cs):=by
 show(keyL cs).map _=_
 cases keyL cs<;>rfl
@[push_cast] theorem qrQ(l:List Value):keyA (some l)=some (.agg l.toArray):=rfl
@[push_cast] theorem qrR:keyL []=some []:=rfl
@[push_cast] theorem qrS(n:Int)(r:List PV):keyL (.sc (.int .i64 n)::r)=keyC n (keyL r):=by
 show(keyL r).map _=_
 cases keyL r<;>rfl
@[push_cast] theorem qrT(n:Int)(l:List Value):keyC n (some l)=some (.int .i64 n::l):=rfl
@[push_cast] theorem qrU(n:Nat)(l:List Value):KD.has (.st n) (.agg l.toArray)=i64s n l:=rfl
@[push_cast] theorem qrV:i64s 0 []=true:=rfl
@[push_cast] theorem qrW(n:Nat)(m:Int)(r:List Value):i64s (n+1) (.int .i64 m::r)=i64s n r:=rfl
@[push_cast] theorem qrX(m:Int):i64s 1 [.int .i64 m]=true:=rfl
@[push_cast] theorem qrY(m n:Int):i64s 2 [.int .i64 m,.int .i64 n]=true:=rfl
@[push_cast] theorem qrZ(m n k:Int):i64s 3 [.int .i64 m,.int .i64 n,.int .i64 k]=true:=rfl
@[push_cast] theorem qs0(k:IntKind):(KD.sc (.int k)=true)=True:=by simp[KD.sc]
@[push_cast] theorem qs1:(KD.sc .str=true)=True:=by simp[KD.sc]
@[push_cast] theorem qs2:(KD.sc .bol=true)=True:=by simp[KD.sc]
@[push_cast] theorem qs3(kd kd' :KD)(ok:Bool)(zero:PV)(kv:Value)(es:List (Value×PV))(it:Option ItX):mlkM kd ok zero kv (some ⟨kd',es,it⟩)=(kd' =kd/\kd.has kv=true,mlkT ok zero (mget es kv)):=rfl
@[push_cast] theorem qs4(s:List (Nat×PV))(b:List (Nat×List PV))(a:List (Nat×Arr))(m:List (Nat×Mp))(kd:KD)(ok:Bool)(zero:PV)(id:Nat)(kv:Value):mlkV ⟨s,b,a,m⟩ kd ok zero (.mp id) (.sc kv)=mlkM kd ok zero kv (lk m id):=rfl
@[push_cast] theorem qs5(s:List (Nat×PV))(b:List (Nat×List PV))(a:List (Nat×Arr))(m:List (Nat×Mp))(kd:KD)(ok:Bool)(zero:PV)(id:Nat)(cs:List PV):mlkV ⟨s,b,a,m⟩ kd ok zero (.mp id) (.agg cs)=mlkO kd ok zero (lk m id) (keyV (.agg cs)):=rfl
@[push_cast] theorem qs6(k l:IntKind)(n:Int):KD.has (.int k) (.int l n)=(k==l):=rfl
@[push_cast] theorem qs7(s:ByteArray):KD.has .str (.string s)=true:=rfl
@[push_cast] theorem qs8(b:Bool):KD.has .bol (.bool b)=true:=rfl
@[push_cast] theorem qs9(k:Value):mget [] k=none:=rfl
@[push_cast] theorem qsa(k:Value)(v:PV):mput [] k v=[(k,v)]:=rfl
def entO(kd:KD)(it:Nat):Option ItX->Prop×PV
 |some (.run it' _ (some (k,v)))=>(it' =it/\kd.sc=true,.tup [.sc k,v])
 |_=>(False,.bot)
def entM(it:Nat):Option Mp->Prop×PV
 |some M=>entO M.kd it M.it
 |none=>(False,.bot)
def entV(st:St):PV->Prop×PV
 | .itr id it=>entM it (lk st.m id)
 |_=>(False,.bot)
@[push_cast] theorem qsb(it it' :Nat)(kd:KD)(es l:List (Value×PV))(k:Value)(v:PV):entM it (some ⟨kd,es,some (.run it' l (some (k,v)))⟩)=(it' =it/\kd.sc=true,.tup [.sc k,v]):=rfl
@[push_cast] theorem qsc(s:List (Nat×PV))(b:List (Nat×List PV))(a:List (Nat×Arr))(m:List (Nat×Mp))(id it:Nat):entV ⟨s,b,a,m⟩ (.itr id it)=entM it (lk m id):=rfl
def mlnM:Option Mp->Prop×PV
 |some M=>(True,.int M.es.length)
 |none=>(False,.bot)
def mlnV(st:St):PV->Prop×PV
 | .mp id=>mlnM (lk st.m id)
 |_=>(False,.bot)
@[push_cast] theorem qsd(kd:KD)(es:List (Value×PV))(it:Option ItX):mlnM (some ⟨kd,es,it⟩)=(True,.int es.length):=rfl
@[push_cast] theorem qse(s:List (Nat×PV))(b:List (Nat×List PV))(a:List (Nat×Arr))(m:List (Nat×Mp))(id:Nat):mlnV ⟨s,b,a,m⟩ (.mp id)=mlnM (lk m id):=rfl
def qsf:PV->Bool
 | .agg cs=>ql0 cs
 | .sc _| .nil| .sl .. | .iptr .. =>true
 |_=>false
theorem qsg(v:PV):qbO v=qsf v:=by cases v<;>first|rfl|simp only[qbO,qsf,ql1]
@[push_cast] theorem qsh(cs:List PV):qsf (.agg cs)=ql0 cs:=rfl
@[push_cast] theorem qsi(v:Value):qsf (.sc v)=true:=rfl
@[push_cast] theorem qsj:qsf .nil=true:=rfl
@[push_cast] theorem qsk(p:Bool)(es:Nat)(xs:List (List PV)):qsf (.sl p es xs)=true:=rfl
def mupM(s:List (Nat×PV))(b:List (Nat×List PV))(a:List (Nat×Arr))(m:List (Nat×Mp))(id:Nat)(kd:KD)(kv:Value)(v:PV):Option Mp->Prop×St
 |some M=>((M.kd=kd/\kd.has kv=true)/\qsf v=true,⟨s,b,a,up m id ⟨kd,mput M.es kv v,none⟩⟩)
 |none=>(False,⟨s,b,a,m⟩)
def mupO(st:St)(kd:KD)(v:PV)(id:Nat):Option Value->Prop×St
 |some kv=>mupM st.s st.b st.a st.m id kd kv v (lk st.m id)
 |none=>(False,st)
def mupH(st:St)(kd:KD)(v:PV):PV->PV->Prop×St
 | .mp id,k=>mupO st kd v id (keyV k)
 |_,_=>(False,st)
@[push_cast] theorem qsl(s:List (Nat×PV))(b:List (Nat×List PV))(a:List (Nat×Arr))(m:List (Nat×Mp))(kd:KD)(v:PV)(id:Nat)(kv:Value):mupO ⟨s,b,a,m⟩ kd v id (some kv)=mupM s b a m id kd kv v (lk m id):=rfl
@[push_cast] theorem qsm(s:List (Nat×PV))(b:List (Nat×List PV))(a:List (Nat×Arr))(m:List (Nat×Mp))(kd:KD)(v:PV)(id:Nat)(cs:List PV):mupH ⟨s,b,a,m⟩ kd v (.mp id) (.agg cs)=mupO ⟨s,b,a,m⟩ kd v id (keyV (.agg cs)):=rfl
@[push_cast] theorem qsn (s : List (Nat × PV)) (b : List (Nat × List PV)) (a : List (Nat × Arr)) (m : List (Nat × Mp)) (id : Nat) (kd kd' : KD) (kv : Value) (v : PV) (es : List (Value × PV)) (it : Option ItX) :
  mupM s b a m id kd kv v (some ⟨kd',es,it⟩)=((kd' =kd/\kd.has kv=true)/\qsf v=true,⟨s,b,a,up m id ⟨kd,mput es kv v,none⟩⟩):=rfl
@[push_cast] theorem qso(s:List (Nat×PV))(b:List (Nat×List PV))(a:List (Nat×Arr))(m:List (Nat×Mp))(kd:KD)(v:PV)(id:Nat)(kv:Value):mupH ⟨s,b,a,m⟩ kd v (.mp id) (.sc kv)=mupM s b a m id kd kv v (lk m id):=rfl
def rngM(s:List (Nat×PV))(b:List (Nat×List PV))(a:List (Nat×Arr))(m:List (Nat×Mp))(i id:Nat):Option Mp->Prop×St
 |some M=>(True,⟨up s i (.itr id i),b,a,up m id { M with it:=some (.run i M.es none) }⟩)
 |none=>(False,⟨s,b,a,m⟩)
def rngH(st:St)(i:Nat):PV->Prop×St
 | .mp id=>rngM (qiy (isId i) nul st.s) (rm (qiz (isId i) nul st.b) i) st.a (qjd (isId i) st.m st.m) i id (lk (qjd (isId i) st.m st.m) id)
 |_=>(False,st)
@[push_cast] theorem qsp (s : List (Nat × PV)) (b : List (Nat × List PV)) (a : List (Nat × Arr)) (m : List (Nat × Mp)) (i id : Nat) (kd : KD) (es : List (Value × PV)) (it : Option ItX) :
  rngM s b a m i id (some ⟨kd,es,it⟩)=(True,⟨up s i (.itr id i),b,a,up m id ⟨kd,es,some (.run i es none)⟩⟩):=rfl
@[push_cast] theorem qsq(s:List (Nat×PV))(b:List (Nat×List PV))(a:List (Nat×Arr))(m:List (Nat×Mp))(i id:Nat):rngH ⟨s,b,a,m⟩ i (.mp id)=rngM (qiy (isId i) nul s) (rm (qiz (isId i) nul b) i) a (qjd (isId i) m m) i id (lk (qjd (isId i) m m) id):=rfl
def clmK(P:Env)(d:Option Nat)(f:Nat)(args:List PV)(r:List AO)(st:St)(K:St->Prop):Prop:=FnM P f args st fun rv st' =>opsK P r (st'.put d rv) K
@[congr] theorem qsr{P:Env}{d:Option Nat}{f:Nat}{args args' :List PV}{r:List AO}{st st' :St}{K:St->Prop}(h1:args=args')(h2:st=st'):clmK P d f args r st K=clmK P d f args' r st' K:=by rw[h1,h2]
theorem qss{P:Env}{d:Option Nat}{f:Nat}{args:List PV}{r:List AO}{st:St}{K:St->Prop}{Q:PV->St->Prop}(h:FnM P f args st Q)(hk: ∀rv st',Q rv st' ->opsK P r (st'.put d rv) K):clmK P d f args r st K:=FnM.mono h hk
theorem qst{P:Env}{d:Option Nat}{f:Nat}{args:List PV}{r:List AO}{st:St}{K:St->Prop}{v:PV}{st1:St}(h:FnM P f args st (fun rv st' =>rv=v/\st' =st1))(hk:opsK P r (st1.put d v) K):clmK P d f args r st K:=
 FnM.mono h fun _ _ ⟨e1,e2⟩=>by subst e1;subst e2;exact hk
def pclK(P:Env)(d:Option Nat)(f:Nat)(args:List PV)(r:List AO)(st:St)(K:St->Prop):Prop:=qcG P.p f=true/\ ∃post,FnOK P.p f args post/\ ∀v,post v->opsK P r (st.put d v) K
@[congr] theorem qsu{P:Env}{d:Option Nat}{f:Nat}{args args' :List PV}{r:List AO}{st st' :St}{K:St->Prop}(h1:args=args')(h2:st=st'):pclK P d f args r st K=pclK P d f args' r st' K:=by rw[h1,h2]
theorem qsv{P:Env}{d:Option Nat}{f:Nat}{args:List PV}{r:List AO}{st:St}{K:St->Prop}{v:PV}(hf:qcG P.p f=true)(hc:FnEq P.p f args v)(h:opsK P r (st.put d v) K):pclK P d f args r st K:=
 ⟨hf,_,hc,fun u hu=>by subst hu;exact h⟩
theorem qsw{P:Env}{d:Option Nat}{f:Nat}{args args' :List PV}{r:List AO}{st:St}{K:St->Prop}{v:PV}(hf:qcG P.p f=true)(hc:FnEq P.p f args' v)(hs:SubL args args')(h:opsK P r (st.put d v) K):pclK P d f args r st K:=qsv hf (FnOK.sub hc hs) h
def ylK(P:Env)(d:Option Nat)(id:Nat)(args:List PV)(r:List AO)(st:St)(K:St->Prop):Prop:= ∃K',P.Y id args st K' /\ ∀st',K' st' ->opsK P r (st'.put d (.sc (.bool true))) K
@[congr] theorem qsx{P:Env}{d:Option Nat}{id:Nat}{args args' :List PV}{r:List AO}{st st' :St}{K:St->Prop}(h1:args=args')(h2:st=st'):ylK P d id args r st K=ylK P d id args' r st' K:=by rw[h1,h2]
def clvS(P:Env)(d:Option Nat)(v:PV)(args:List PV)(r:List AO)(st:St)(K:St->Prop):Prop:=clvK P st d v args fun st' =>opsK P r st' K
@[congr] theorem qsy{P:Env}{d:Option Nat}{v v' :PV}{args args' :List PV}{r:List AO}{st st' :St}{K:St->Prop}(h0:v=v')(h1:args=args')(h2:st=st'):clvS P d v args r st K=clvS P d v' args' r st' K:=by rw[h0,h1,h2]
def nxtS(P:Env)(d:Option Nat)(r:List AO)(K:St->Prop)(st:St)(v:PV):Prop:=nxtK st d v fun st' =>opsK P r st' K
@[congr] theorem qsz{P:Env}{d:Option Nat}{r:List AO}{st st' :St}{K:St->Prop}{v v' :PV}(h1:st=st')(h2:v=v'):nxtS P d r K st v=nxtS P d r K st' v' :=by rw[h1,h2]
def rsAL(st:St):List PV->List PV
 |[]=>[]
 |c::r=>c.rsA st::rsAL st r
theorem qsA(st:St)(l:List PV):l.map (PV.rsA st)=rsAL st l:=by induction l<;>simp_all[rsAL]
@[push_cast] theorem qsB(st:St):rsAL st []=[]:=rfl
@[push_cast] theorem qsC(st:St)(c:PV)(r:List PV):rsAL st (c::r)=c.rsA st::rsAL st r:=rfl
@[push_cast] theorem qsD(st:St)(f:Nat)(caps:List PV):(PV.pcl f caps).rsA st= .pcl f caps:=rfl
def rsBL(st:St):List Nat->List PV
 |[]=>[]
 |i::r=>rsB st 0 (lk st.b i)::rsBL st r
@[push_cast] theorem qsE(st:St):rsBL st []=[]:=rfl
@[push_cast] theorem qsF(s:List (Nat×PV))(b:List (Nat×List PV))(a:List (Nat×Arr))(m:List (Nat×Mp))(i:Nat)(r:List Nat):rsBL ⟨s,b,a,m⟩ (i::r)=rsB ⟨s,b,a,m⟩ 0 (lk b i)::rsBL ⟨s,b,a,m⟩ r:=rfl
@[push_cast] theorem qsG(st:St)(f:Nat)(ids:List Nat):(PV.clo f ids).rsA st= .pcl f (rsBL st ids):=by
 show PV.pcl f (ids.map (qcu st))=_
 congr 1
 induction ids with
 |nil=>rfl
 |cons i r ih=>
   simp only[List.map_cons,ih,rsBL,qcu,qo2]
   cases lk st.b i<;>rfl
section
variable (P:Env) (i:Nat) (d:Option Nat) (r:List AO) (st:St) (K:St->Prop)
@[push_cast] theorem qsH(f:Nat)(caps:List Opd):opsK P (⟨d,none,.mkf f caps⟩::r) st K=qS P d (mkfV f (boxI (evL st caps) [])) r st K:=by
 have:aev st (.mkf f caps)=mkfV f (boxI (evL st caps) []):=by
  simp only[aev,qrF,qrC]
  cases qau (evL st caps)with
  |none=>rfl
  |some l=>cases l<;>rfl
 simp only[opsK,grdK,opK,qcH,Bool.false_eq_true,if_false,qS,this]
@[push_cast] theorem qsI(kd:KD)(ok:Bool)(zero:PV)(x k:Opd):opsK P (⟨d,none,.mlk kd ok zero x k⟩::r) st K=qS P d (mlkV st kd ok zero (x.ev st) (k.ev st)) r st K:=by
 have:aev st (.mlk kd ok zero x k)=mlkV st kd ok zero (x.ev st) (k.ev st):=by
  simp only[aev]
  generalize x.ev st=u
  generalize k.ev st=v
  cases u<;>first|rfl|(rename_i id;simp only[mlkV];generalize keyV v=q;cases q<;>first|rfl|(simp only[mlkO];cases lk st.m id<;>rfl))
 simp only[opsK,grdK,opK,qcH,Bool.false_eq_true,if_false,qS,this]
@[push_cast] theorem qsL(kd:KD):opsK P (⟨some i,none,.mkm kd⟩::r) st K=opsK P r (st.newMap i ⟨kd,[],none⟩) K:=by
 simp only[opsK,grdK,opK,hev,qcH,if_true,true_and]
@[push_cast] theorem qsM(kd:KD)(x k v:Opd):opsK P (⟨none,none,.mup kd x k v⟩::r) st K=hS P (mupH st kd (v.ev st) (x.ev st) (k.ev st)) r K:=by
 have:hev st none (.mup kd x k v)=mupH st kd (v.ev st) (x.ev st) (k.ev st):=by
  simp only[hev,qsg]
  generalize x.ev st=u
  generalize k.ev st=y
  cases u<;>first|rfl|(rename_i id;simp only[mupH];generalize keyV y=q;cases q<;>first|rfl|(simp only[mupO];cases lk st.m id<;>rfl))
 simp only[opsK,grdK,opK,qcH,if_true,hS,this]
@[push_cast] theorem qsP(f:Nat)(args:List Opd):opsK P (⟨d,none,.clm f args⟩::r) st K=clmK P d f (evL st args) r st K:=by
 rw[<- qrC];rfl
@[push_cast] theorem qsQ(x:Opd)(args:List Opd):opsK P (⟨d,none,.clv x args⟩::r) st K=clvS P d (x.ev st) (evL st args) r st K:=by
 rw[<- qrC];rfl
end
section
variable (K:Bool->Prop)
@[push_cast] theorem qsS:niqK .nil K=K true:=rfl
@[push_cast] theorem qsT(id lo n:Nat):niqK (.view id lo n) K=K false:=rfl
@[push_cast] theorem qsU(p:Bool)(es:Nat)(x:List PV)(xs:List (List PV)):niqK (.sl p es (x::xs)) K=K false:=rfl
end
section
variable (s:List (Nat×PV)) (b:List (Nat×List PV)) (a:List (Nat×Arr)) (m:List (Nat×Mp)) (d:Option Nat) (K:St->Prop)
def nxtM(P:Env)(s:List (Nat×PV))(b:List (Nat×List PV))(a:List (Nat×Arr))(m:List (Nat×Mp))(d:Option Nat)(r:List AO)(id it:Nat)(K:St->Prop):Option Mp->Prop
 | some ⟨kd, es, some (.run it' left _)⟩ => (it' = it /\ kd.sc = true) /\ (left = [] -> opsK P r ((⟨s, b, a, m⟩ : St).put d (.tup [.sc (.bool false)])) K) /\
   ∀(i:Nat) (z:Value×PV),left[i]? =some z->opsK P r ((⟨s,b,a,up m id ⟨kd,es,some (.run it' (left.eraseIdx i) (some z))⟩⟩:St).put d (.tup [.sc (.bool true),.sc z.1,z.2])) K
 |_=>False
@[push_cast] theorem qsW(P:Env)(r:List AO)(id it:Nat):nxtS P d r K ⟨s,b,a,m⟩ (.itr id it)=nxtM P s b a m d r id it K (lk m id):=by
 simp only[nxtS,nxtK]
 cases lk m id with
 |none=>rfl
 |some M=>obtain⟨kd,es,i⟩:=M;rcases i with _|⟨i,l,c⟩<;>rfl
end
def ptrs:List Nat->List PV
 |[]=>[]
 |i::r=> .ptr i 0::ptrs r
theorem qsY(l:List Nat):(l.map fun i=>PV.ptr i 0)=ptrs l:=by induction l<;>simp_all[ptrs]
@[push_cast] theorem qsZ:ptrs []=[]:=rfl
@[push_cast] theorem qt0(i:Nat)(r:List Nat):ptrs (i::r)= .ptr i 0::ptrs r:=rfl
section
variable (P:Env) (st:St) (d:Option Nat) (args:List PV) (r:List AO) (K:St->Prop)
@[push_cast] theorem qt1(f:Nat)(ids:List Nat):clvS P d (.clo f ids) args r st K=clmK P d f (args++ptrs ids) r st K:=by rw[<- qsY];rfl
@[push_cast] theorem qt2(f:Nat)(u v:Array Value):clvS P d (.sc (.func (.func f) u v)) args r st K=clmK P d f args r st K:=rfl
@[push_cast] theorem qt3(id:Nat):clvS P d (.yl id) args r st K=ylK P d id args r st K:=rfl
@[push_cast] theorem qt4(f:Nat)(caps:List PV):clvS P d (.pcl f caps) args r st K=pclK P d f (rsAL st args++caps) r st K:=by rw[<- qsA];rfl
end
section
variable (P:Env) (Q:Exit->St->Prop) (st:St)
@[push_cast] theorem qt5(c:AC):awp P (.scope c) Q st=awp P c Q st:=rfl
@[push_cast] theorem qt6:awp P .label Q st=Q .normal st:=rfl
end
@[push_cast] theorem qt7(f:Nat)(ids:List Nat):cellsOf (.clo f ids)=[.clo f ids]:=rfl
@[push_cast] theorem qt8(f:Nat)(ids:List Nat):qas (.clo f ids)=true:=rfl
@[push_cast] theorem qt9(f:Nat)(ids:List Nat):qgQ (.clo f ids)=true:=rfl
@[push_cast] theorem qta(i:Nat):cellsOf (.mp i)=[.mp i]:=rfl
@[push_cast] theorem qtb(i e n:Nat):cellsOf (.bv i e n)=[.bv i e n]:=rfl
@[push_cast] theorem qtc(i e n:Nat):qas (.bv i e n)=true:=rfl
@[push_cast] theorem qtd(i e n:Nat):qgQ (.bv i e n)=true:=rfl
@[push_cast] theorem qte(i:Nat):qas (.mp i)=true:=rfl
@[push_cast] theorem qtf(i:Nat):qgQ (.mp i)=true:=rfl
@[push_cast] theorem qtg(i:Nat):cellsOf (.yl i)=[.yl i]:=rfl
@[push_cast] theorem qth(i:Nat):qgQ (.yl i)=true:=rfl
@[push_cast] theorem qti(i j:Nat):cellsOf (.itr i j)=[.itr i j]:=rfl
@[push_cast] theorem qtj(i j:Nat):qgQ (.itr i j)=true:=rfl
@[push_cast] theorem qtk(f:Nat)(cs:List PV):cellsOf (.pcl f cs)=[.pcl f cs]:=rfl
@[push_cast] theorem qtl(f:Nat)(cs:List PV):qgQ (.pcl f cs)=true:=rfl
def lowL(k:Nat):List (Nat×PV)->List (Nat×PV)
 |[]=>[]
 |(i,v)::r=>if i<k then(i,v)::lowL k r else lowL k r
theorem qtm(k:Nat)(s:List (Nat×PV)):s.filter (fun x=>decide (x.1<k))=lowL k s:=by
 induction s with
 |nil=>rfl
 |cons x r ih=>
   obtain⟨i,v⟩:=x
   simp only[List.filter_cons,lowL,ih,decide_eq_true_eq]
@[push_cast] theorem qtn(k:Nat):lowL k []=[]:=rfl
@[push_cast] theorem qto(k i:Nat)(v:PV)(r:List (Nat×PV)):lowL k ((i,v)::r)=if i<k then(i,v)::lowL k r else lowL k r:=rfl
@[push_cast] theorem qtp(s:List (Nat×PV))(b:List (Nat×List PV))(a:List (Nat×Arr))(m:List (Nat×Mp))(k:Nat):St.low ⟨s,b,a,m⟩ k=⟨lowL k s,b,a,m⟩:=by simp only[St.low,qtm]
@[push_cast] theorem qtq(K:Nat)(s:List (Nat×PV)):argS K [] s=s:=rfl
@[push_cast] theorem qtr(K:Nat)(c:PV)(r:List PV)(s:List (Nat×PV)):argS K (c::r) s=argS (K+1) r (up s K c):=rfl
@[push_cast] theorem qts(s:List (Nat×PV))(b:List (Nat×List PV))(a:List (Nat×Arr))(m:List (Nat×Mp))(i:Nat):St.noId ⟨s,b,a,m⟩ i=⟨qiy (isId i) nul s,rm (qiz (isId i) nul b) i,a,qjd (isId i) m m⟩:=by
 simp only[St.noId,St.kill,qj7,qj8]
 rw[show(fun x:Nat×Mp=> !(fun j=>j==i) x.1&& !mpTo m (fun j=>j==i) x.1)=fun x=> !isId i x.1&& !mpTo m (isId i) x.1 from rfl,qjg];rfl
@[push_cast] theorem qtt(vs:List PV)(s:List (Nat×PV)):qcQ [] vs s=s:=by cases vs<;>rfl
@[push_cast] theorem qtu(p:Nat)(ps:List Nat)(v:PV)(vs:List PV)(s:List (Nat×PV)):qcQ (p::ps) (v::vs) s=qcQ ps vs (up s p v):=rfl
def midL(k n:Nat):List (Nat×PV)->List (Nat×PV)
 |[]=>[]
 |(i,v)::r=>if k<=i/\i<k+n then(i,v)::midL k n r else midL k n r
@[push_cast] theorem qtw(k n:Nat):midL k n []=[]:=rfl
@[push_cast] theorem qtx(k n i:Nat)(v:PV)(r:List (Nat×PV)):midL k n ((i,v)::r)=if k<=i/\i<k+n then(i,v)::midL k n r else midL k n r:=rfl
@[push_cast] theorem qty(K K2:Nat)(src s:List (Nat×PV)):qcP K K2 src [] s=s:=rfl
@[push_cast] theorem qtz(K K2 i:Nat)(v:PV)(src r s:List (Nat×PV)):qcP K K2 src ((i,v)::r) s=qcP K K2 src r (up s (K2+(i-K)) (getL src i)):=by
 rw[qcP,qh5]
def qtA(k:Nat):List (Nat×PV)->Bool
 |[]=>true
 |(i,_)::r=>if i<k then qtA k r else false
theorem qtB(k:Nat)(s:List (Nat×PV)):s.all (fun x=>decide (x.1<k))=qtA k s:=by
 induction s with
 |nil=>rfl
 |cons x r ih=>
   obtain⟨i,v⟩:=x
   simp only[List.all_cons,qtA,ih]
   by_cases h:i<k<;>simp[h]
@[push_cast] theorem qtC(k:Nat):qtA k []=true:=rfl
@[push_cast] theorem qtD(k i:Nat)(v:PV)(r:List (Nat×PV)):qtA k ((i,v)::r)=if i<k then qtA k r else false:=rfl
@[push_cast] theorem qtF(st:St)(x:RV):resM st [x]=x.val st:=rfl
@[push_cast] theorem qtG(st:St):resM st []=(True,.tup []):=by simp[resM]
@[push_cast] theorem qtH(st:St)(x y:RV):resM st [x,y]=((x.val st).1/\(y.val st).1,.tup [(x.val st).2,(y.val st).2]):=by simp[resM]
@[push_cast] theorem qtI(st:St)(x y z:RV):resM st [x,y,z]=((x.val st).1/\(y.val st).1/\(z.val st).1,.tup [(x.val st).2,(y.val st).2,(z.val st).2]):=by simp[resM]
@[push_cast] theorem qtJ(st:St)(t:Nat):RV.val st (.tmp t)=(True,st.get t):=rfl
@[push_cast] theorem qtL(K:Nat)(rvs:List RV)(Q:PV->St->Prop)(st:St):retM K rvs Q .ret st=((resM st rvs).1/\qgQ (resM st rvs).2=true/\Q (resM st rvs).2 (st.low K)):=by simp[retM,qgO]
@[push_cast] theorem qtM(K:Nat)(rvs:List RV)(Q:PV->St->Prop)(st:St):retM K rvs Q .normal st=((resM st rvs).1/\qgQ (resM st rvs).2=true/\Q (resM st rvs).2 (st.low K)):=by simp[retM,qgO]
def qtN(P:Env)(ass body:AC)(st:St)(K:St->Prop):Prop:=awp P ass (Exit.thn (awp P body fun e st'' =>e= .normal/\K st'') fun _ _=>False) st
def rngC(P:Env)(ρ:RF)(ps:List Nat)(ass body:AC)(Q:Exit->St->Prop)(st:St)(v:PV):Prop:=
 match v with
 | .clo f ids=>(P.noY/\ids.contains ρ.id=false)/\FnM ⟨P.p,ρ.K+ρ.n,rngY ρ ps (qtN P ass body),fun _ _=>False⟩ f (.yl ρ.id::ids.map fun i=> .ptr i 0) (st.noId ρ.id) fun _ st' =>Q .normal ((st'.low (ρ.K+ρ.n)).noId ρ.id)
 |_=>False
@[congr] theorem qtO{P:Env}{ρ:RF}{ps:List Nat}{ass body:AC}{Q:Exit->St->Prop}{st st' :St}{v v' :PV}(h1:st=st')(h2:v=v'):rngC P ρ ps ass body Q st v=rngC P ρ ps ass body Q st' v' :=by rw[h1,h2]
@[push_cast] theorem qtP (P : Env) (Q : Exit -> St -> Prop) (st : St) (f : Opd) (K n K2 : Nat) (ks : List Nat) (id : Nat) (ps : List Nat) (ass body : AC) :
  awp P (.rngf ⟨f,K,n,K2,ks,id⟩ ps ass body) Q st=(qtA (K+n) st.s=true/\rngC P ⟨f,K,n,K2,ks,id⟩ ps ass body Q (st.keepS ks) (f.ev (st.keepS ks))):=by
 simp only[awp,qtB];rfl
theorem qtT {E : Env} {f : Nat} {fn : Func} {ac : AC} {rvs : List RV} {args : List PV} {Q : PV -> St -> Prop} {s : List (Nat × PV)} {b : List (Nat × List PV)} {a : List (Nat × Arr)} {m : List (Nat × Mp)} (K : Nat) (hf : E.p.funcs[f]? = some fn) (hok : qh0 E.p K ac rvs fn = true) (hn : args.length <= fn.ntmps)
  (hlow:qtA K s=true) (hkk:E.kk<=K) (h:awp E ac (retM K rvs Q) ⟨argS K args s,b,a,m⟩) (hpn: ∀ch st,¬E.pan ch st:=by exact fun _ _ h=>h):FnM E f args ⟨s,b,a,m⟩ Q:=
 FnM.of_awp K hf hok hn (by rw[qtB];exact hlow) hkk h hpn
def qtU{α:Type}(ks:List Nat):List (Nat×α)->List (Nat×α)
 |[]=>[]
 |(i,v)::r=>if inL ks i=true then(i,v)::qtU ks r else qtU ks r
@[push_cast] theorem qtV{α:Type}(ks:List Nat):qtU ks ([]:List (Nat×α))=[]:=rfl
@[push_cast] theorem qtW{α:Type}(ks:List Nat)(i:Nat)(v:α)(r:List (Nat×α)):qtU ks ((i,v)::r)=if inL ks i=true then(i,v)::qtU ks r else qtU ks r:=rfl
theorem qtX{α:Type}(ks:List Nat)(l:List (Nat×α)):qtU ks l=l.filter fun x=>inL ks x.1:=by
 induction l with
 |nil=>rfl
 |cons x r ih=>
   obtain⟨i,v⟩:=x
   simp only[qtU,List.filter_cons,ih]
theorem qtY{α:Type}{ks:List Nat}{l:List (Nat×α)}{i:Nat}{v:α}(h:lk (qtU ks l) i=some v):lk l i=some v:=by
 rw[qtX]at h
 exact qa8 l (fun x=>inL ks x.1) (fun _ _=>rfl) i v h
def St.only(st:St)(ks bs ar ms:List Nat):St:=⟨qtU ks st.s,qtU bs st.b,qtU ar st.a,qtU ms st.m⟩
@[push_cast] theorem qtZ(s:List (Nat×PV))(b:List (Nat×List PV))(a:List (Nat×Arr))(m:List (Nat×Mp))(ks bs ar ms:List Nat):St.only ⟨s,b,a,m⟩ ks bs ar ms=⟨qtU ks s,qtU bs b,qtU ar a,qtU ms m⟩:=rfl
theorem FnM.only{E:Env}{f:Nat}{args:List PV}{st:St}{Q:PV->St->Prop}(ks bs ar ms:List Nat)(h:FnM E f args (st.only ks bs ar ms) Q):FnM E f args st Q:=
 ⟨h.1,fun w0 Z0 X G Z L w vs h1 h2 h3=>h.2 w0 Z0 X G Z L w vs h1 (h2.forget (fun _ _ h=> .inl (qtY h)) (fun _ _ h=>qtY h) (fun _ _ h=>qtY h) (fun _ _ h=>qtY h)) h3⟩
def St.onlyB(st:St)(bs:List Nat):St:=⟨st.s,qtU bs st.b,st.a,st.m⟩
@[push_cast] theorem qu0(s:List (Nat×PV))(b:List (Nat×List PV))(a:List (Nat×Arr))(m:List (Nat×Mp))(bs:List Nat):St.onlyB ⟨s,b,a,m⟩ bs=⟨s,qtU bs b,a,m⟩:=rfl
theorem FnM.postB{E:Env}{f:Nat}{args:List PV}{st:St}{Q:PV->St->Prop}(bs:PV->List Nat)(h:FnM E f args st fun rv st' =>Q rv st'):FnM E f args st fun rv st' => ∃st1,Q rv st1/\st' =st1.onlyB (bs rv):=
 ⟨h.1,fun w0 Z0 X G Z L w vs h1 h2 h3=>(h.2 w0 Z0 X G Z L w vs h1 h2 h3).mono fun _ _ ⟨v,r,st',Z',L',e1,e2,e3,e4⟩=>
  ⟨v,r,st'.onlyB (bs r),Z',L',e1,⟨st',e2,rfl⟩,e3.forget (fun _ _ h=> .inl h) (fun _ _ h=>qtY h) (fun _ _ h=>h) (fun _ _ h=>h),e4⟩⟩
end Go.Vc
attribute [push_cast] ite_true ite_false Bool.false_eq_true Bool.or_false Bool.false_or Bool.or_true Bool.true_or Bool.and_true Bool.true_and Bool.and_false Bool.false_and cond_true cond_false Nat.zero_add Nat.add_zero Nat.zero_mul Nat.mul_zero Nat.succ_ne_self beq_self_eq_true true_and and_true Int.toNat_natCast Int.cast_ofNat_Int decide_true decide_false Nat.zero_le
namespace Go.Vc
theorem sB{p q:Prop}(h:q)(e:p=q:=by(simp only[push_cast,reduceIte,reduceEqDiff,reduceAdd,reduceSub,reduceMul,Nat.reduceBEq,reduceLT,reduceLeDiff,reduceCtorEq,reduceToNat,reduceNeg];exact rfl)):p:=e.mpr h
theorem sC{p:Prop}(h:p:=by simp only[push_cast,reduceIte,reduceEqDiff,reduceAdd,reduceSub,reduceMul,Nat.reduceBEq,reduceLT,reduceLeDiff,reduceCtorEq,reduceToNat,reduceNeg]):p:=h
end Go.Vc
namespace Go.Vc
open Go Go.RowKit
def stkC(ls:List (Nat×List (List PV))):PV:= .tup (ls.map fun x=> .sl false x.1 x.2)
@[push_cast] theorem qu1(pb pa:Nat->Bool)(ls:List (Nat×List (List PV))):PV.toV pb pa (stkC ls)=false:=by
 show(ls.map fun x=>PV.sl false x.1 x.2).any (PV.toA pb pa)=false
 rw[List.any_eq_false]
 intro x hx
 obtain⟨y,_,rfl⟩:=List.mem_map.1 hx
 simp[PV.toA,PV.to]
theorem stk_vr{w:World}{Z:Zone}{L:Lay}{ls:List (Nat×List (List PV))}{v:Value} :VR w Z L (stkC ls) v ↔ ∃vs:Array Value,v= .tuple vs/\vs.size=ls.length/\ ∀j x,ls[j]? =some x->TR w Z (.sl false x.1 x.2) (vs.getD j undef):=by
 show(∃vs:Array Value,v= .tuple vs/\vs.size=(ls.map fun x=>PV.sl false x.1 x.2).length/\ ∀j c,(ls.map fun x=>PV.sl false x.1 x.2)[j]? =some c->AR w Z L c (vs.getD j undef)) ↔ _
 constructor
 ·rintro⟨vs,h1,h2,h3⟩
  exact⟨vs,h1,by simpa using h2,fun j x hx=>h3 j (.sl false x.1 x.2) (by rw[List.getElem?_map,hx];rfl)⟩
 ·rintro⟨vs,h1,h2,h3⟩
  refine⟨vs,h1,by simpa using h2,fun j c hc=> ?_⟩
  rw[List.getElem?_map]at hc
  cases hx:ls[j]? with
  |none=>rw[hx]at hc;cases hc
  |some x=>
    rw[hx]at hc
    cases hc
    exact h3 j x hx
theorem Inv.slotG{w0:World}{Z0:Zone}{X:Gh}{G:Nat->Value}{Z:Zone}{L:Lay}{st:St}{w:World}(h:Mem w0 Z0 X G Z L st w){i:Nat}{v:PV}(hl:lk st.s i=some v):VR w Z L v (G i):=by
 have:=h.slots i v hl
 rwa [show Fr.val ⟨0,0,G,X,none⟩ ⟨#[],[]⟩ i=G i from by unfold Fr.val;rw[if_neg (by simp only;omega)]]at this
theorem Inv.setG {w0 : World} {Z0 : Zone} {X : Gh} {G G' : Nat -> Value} {Z : Zone} {L : Lay} {s s' : List (Nat × PV)} {b : List (Nat × List PV)} {a : List (Nat × Arr)} {m : List (Nat × Mp)} {w : World}
  (h:Mem w0 Z0 X G Z L ⟨s,b,a,m⟩ w) (hs: ∀i v,lk s' i=some v->VR w Z L v (G' i)):Mem w0 Z0 X G' Z L ⟨s',b,a,m⟩ w:=by
 refine⟨h.zt,h.z0,h.zn,h.zb,h.below,h.ownb,h.owna,h.injb,h.inja,h.injx,h.boxes,h.arrs,h.ownm,h.injm,h.maps,h.oth,h.yb,h.size,h.defers,fun i v hl=> ?_⟩
 rw[show Fr.val ⟨0,0,G',X,none⟩ ⟨#[],[]⟩ i=G' i from by unfold Fr.val;rw[if_neg (by simp only;omega)]]
 exact hs i v hl
def qu2(L:Lay):PV->Value
 | .ptr id _=> .pointer (some ⟨L.bx id,0,none⟩)
 |_=>undef
theorem FnM.stk0 {P : Program} {f : Nat} {args : List PV} {s ps t : List (Nat × PV)} {b : List (Nat × List PV)} {a : List (Nat × Arr)} {m : List (Nat × Mp)} {Q : PV -> St -> Prop}
  (hps: ∀i v,lk ps i=some v->i≠0/\ ∃id,v= .ptr id 0)
  (ht: ∀i v,lk t i=some v->lk s i=some v/\((∃x,v= .sc x)\/ ∃id k,v= .ptr id 0/\lk ps k=some v))
  (h:FnM (Env.of P) f args ⟨(0,stkC [])::ps,b,a,m⟩ fun r st' => ∃b' a' m',st' =⟨(0,stkC [])::ps,b',a',m'⟩/\Q r ⟨t,b',a',m'⟩):FnM (Env.of P) f args ⟨s,b,a,m⟩ Q:=by
 refine⟨h.1,fun w0 Z0 X G Z L w vs h2 h3 h4=> ?_⟩
 let G' :Nat->Value:=fun i=>if i=0 then .tuple #[]else qu2 L ((lk ps i).getD .bot)
 have hG0:G' 0= .tuple #[]:=if_pos rfl
 have hGi: ∀i v,lk ps i=some v->G' i=qu2 L v:=fun i v hi=>by
  show(if i=0 then _ else _)=_
  rw[if_neg (hps i v hi).1,hi]
  rfl
 have hm:Mem w0 Z0 X G' Z L ⟨(0,stkC [])::ps,b,a,m⟩ w:=Inv.setG h3 fun i v hl=>by
  simp only[lk]at hl
  split at hl
  ·rename_i e
   cases hl
   subst e
   rw[hG0]
   exact stk_vr.2 ⟨_,rfl,rfl,fun j x hx=>by simp at hx⟩
  ·obtain⟨e1,id,rfl⟩:=hps i v hl
   rw[hGi i _ hl]
   rfl
 refine(h.2 w0 Z0 X G' Z L w vs (EnvOK.of P w0 Z0 X G') hm h4).mono ?_
 rintro e w' ⟨v,r,st',Z',L',e1,⟨b',a',m',rfl,hq⟩,h5,h6⟩
 refine⟨v,r,_,Z',L',e1,hq,Inv.setG h5 fun i u hl=> ?_,h6⟩
 obtain⟨g1,g2⟩:=ht i u hl
 rcases g2 with⟨x,rfl⟩|⟨id,k,rfl,hk⟩
 ·have:=Inv.slotG h3 g1
  have:TR w Z (.sc x) (G i):=this
  show TR w' Z' (.sc x) (G i)
  cases this with
  |sc _ hx=>exact .sc _ hx
 ·have p2:G i= .pointer (some ⟨L.bx id,0,none⟩):=Inv.slotG h3 g1
  have p3:VR w' Z' L' (.ptr id 0) (G' k):=Inv.slotG h5 (by simp only[lk];rw[if_neg (fun e=>(hps k _ hk).1 e.symm)];exact hk)
  rw[hGi k _ hk,show qu2 L (.ptr id 0)= .pointer (some ⟨L.bx id,0,none⟩)from rfl,<- p2]at p3
  exact p3
end Go.Vc
