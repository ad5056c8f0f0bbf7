/- VcZm VcZn VcZo A B C D E F G Shelf H I: lemmas -/
import Derived.Test.YtecoaapkcnhlhaaGreatDoorPart07
import Derived.Sort.OwnSortedInts
import Derived.Shelf.Small.Bits
import Derived.Shelf.Small.Wraps
import Derived.Shelf.Strconv.Itoa0
import Derived.Shelf.Sort.Plain
import Derived.Ground.Names2Prog
import Derived.Shelf.Slices.CompactI
import Derived.Shelf.Slices.SearchI
import Derived.Shelf.Slices.Cells
import Derived.Shelf.Slices.In.SortNone
import Derived.Test.YtecoaapkcnhlhaaGreatDoorProg
set_option linter.unusedSimpArgs false
set_option linter.unusedVariables false
open Array renaming getD_eq_getD_getElem? ->zO
open Bool renaming and_eq_true->zN
open List renaming getD_eq_getElem?_getD->zK,getElem?_eq_some_iff->zM,getElem?_map->zS,mem_cons_of_mem->zT,length_append->zU,map_cons->zW,mem_cons_self->zX,take_of_length_le->zY,take_succ_eq_append_getElem->zZ,mem_append->yC,all_eq_true->yE,length_map->yG,map_append->yH
open Int renaming reduceToNat->zH,reduceNeg->zJ
open Nat renaming reduceEqDiff->zA,reduceAdd->zB,reduceSub->zC,reduceMul->zD,reduceBEq->zE,reduceLT->zF,reduceLeDiff->zG
namespace Go.Vc
open Go Go.RowKit
def evL(st:St):List Opd->List PV
 |[]=>[]
 |x::r=>x.ev st::evL st r
theorem qrY(st:St)(l:List Opd):l.map (·.ev st)=evL st l:=by induction l<;>simp_all[evL]
@[push_cast] theorem qrZ(st:St):evL st []=[]:=rfl
@[push_cast] theorem qs0(st:St)(x:Opd)(r:List Opd):evL st (x::r)=x.ev st::evL st r:=rfl
def boxI:List PV->List Nat->Option (List Nat)
 |[],acc=>some acc
 | .ptr i 0::r,acc=>boxI r (acc++[i])
 |_::_,_=>none
theorem qs1: ∀(l:List PV) (acc:List Nat),boxI l acc=(qau l).map (acc++ ·)
 |[],acc=>by simp[boxI,qau]
 | c :: r, acc => by
   cases c with
   |ptr i off=>
     cases off with
     |zero=>
       simp only[boxI,qau,qs1 r]
       cases qau r<;>simp
     |succ n=>rfl
   |_=>rfl
@[push_cast] theorem qs2(acc:List Nat):boxI [] acc=some acc:=rfl
@[push_cast] theorem qs3(i:Nat)(r:List PV)(acc:List Nat):boxI (.ptr i 0::r) acc=boxI r (acc++[i]):=rfl
attribute [push_cast] List.nil_append List.cons_append
def mkfV(f:Nat):Option (List Nat)->Prop×PV
 |some []=>(True,.sc (.func (.func f) #[] #[]))
 |some ids=>(True,.clo f ids)
 |none=>(False,.bot)
@[push_cast] theorem qs4(f:Nat):mkfV f (some [])=(True,.sc (.func (.func f) #[] #[])):=rfl
@[push_cast] theorem qs5(f i:Nat)(r:List Nat):mkfV f (some (i::r))=(True,.clo f (i::r)):=rfl
def keyA:Option (List Value)->Option Value
 |some l=>some (.agg l.toArray)
 |none=>none
def keyC(n:Int):Option (List Value)->Option (List Value)
 |some l=>some (.int .i64 n::l)
 |none=>none
@[push_cast] theorem qsb(cs:List PV):keyV (.agg cs)=keyA (keyL cs):=by
 show(keyL cs).map _=_
 cases keyL cs<;>rfl
@[push_cast] theorem qsc(l:List Value):keyA (some l)=some (.agg l.toArray):=rfl
@[push_cast] theorem qsd:keyL []=some []:=rfl
@[push_cast] theorem qse(n:Int)(r:List PV):keyL (.sc (.int .i64 n)::r)=keyC n (keyL r):=by
 show(keyL r).map _=_
 cases keyL r<;>rfl
@[push_cast] theorem qsf(n:Int)(l:List Value):keyC n (some l)=some (.int .i64 n::l):=rfl
@[push_cast] theorem qsg(n:Nat)(l:List Value):KD.has (.st n) (.agg l.toArray)=i64s n l:=rfl
@[push_cast] theorem qsh:i64s 0 []=true:=rfl
@[push_cast] theorem qsi(n:Nat)(m:Int)(r:List Value):i64s (n+1) (.int .i64 m::r)=i64s n r:=rfl
@[push_cast] theorem qsj(m:Int):i64s 1 [.int .i64 m]=true:=rfl
@[push_cast] theorem qsk(m n:Int):i64s 2 [.int .i64 m,.int .i64 n]=true:=rfl
@[push_cast] theorem qsl(m n k:Int):i64s 3 [.int .i64 m,.int .i64 n,.int .i64 k]=true:=rfl
@[push_cast] theorem qsm(k:IntKind):(KD.sc (.int k)=true)=True:=by simp[KD.sc]
@[push_cast] theorem qsn:(KD.sc .str=true)=True:=by simp[KD.sc]
@[push_cast] theorem qso:(KD.sc .bol=true)=True:=by simp[KD.sc]
@[push_cast] theorem qss(k l:IntKind)(n:Int):KD.has (.int k) (.int l n)=(k==l):=rfl
@[push_cast] theorem qst(s:ByteArray):KD.has .str (.string s)=true:=rfl
@[push_cast] theorem qsu(b:Bool):KD.has .bol (.bool b)=true:=rfl
@[push_cast] theorem qsv(k:Value):mget [] k=none:=rfl
@[push_cast] theorem qsw(k:Value)(v:PV):mput [] k v=[(k,v)]:=rfl
def clmK(P:Env)(d:Option Nat)(f:Nat)(args:List PV)(r:List AO)(st:St)(K:St->Prop):Prop:=FnM P f args st fun rv st' =>opsK P r (st'.put d rv) K
@[congr] theorem qsN{P:Env}{d:Option Nat}{f:Nat}{args args' :List PV}{r:List AO}{st st' :St}{K:St->Prop}(h1:args=args')(h2:st=st'):clmK P d f args r st K=clmK P d f args' r st' K:=by rw[h1,h2]
theorem qsO{P:Env}{d:Option Nat}{f:Nat}{args:List PV}{r:List AO}{st:St}{K:St->Prop}{Q:PV->St->Prop}(h:FnM P f args st Q)(hk: ∀rv st',Q rv st' ->opsK P r (st'.put d rv) K):clmK P d f args r st K:=FnM.mono h hk
theorem qsP{P:Env}{d:Option Nat}{f:Nat}{args:List PV}{r:List AO}{st:St}{K:St->Prop}{v:PV}{st1:St}(h:FnM P f args st (fun rv st' =>rv=v/\st' =st1))(hk:opsK P r (st1.put d v) K):clmK P d f args r st K:=
 FnM.mono h fun _ _ ⟨e1,e2⟩=>by subst e1;subst e2;exact hk
def pclK(P:Env)(d:Option Nat)(f:Nat)(args:List PV)(r:List AO)(st:St)(K:St->Prop):Prop:=qcG P.p f=true/\ ∃post,FnOK P.p f args post/\ ∀v,post v->opsK P r (st.put d v) K
@[congr] theorem qsQ{P:Env}{d:Option Nat}{f:Nat}{args args' :List PV}{r:List AO}{st st' :St}{K:St->Prop}(h1:args=args')(h2:st=st'):pclK P d f args r st K=pclK P d f args' r st' K:=by rw[h1,h2]
theorem qsR{P:Env}{d:Option Nat}{f:Nat}{args:List PV}{r:List AO}{st:St}{K:St->Prop}{v:PV}(hf:qcG P.p f=true)(hc:FnEq P.p f args v)(h:opsK P r (st.put d v) K):pclK P d f args r st K:=
 ⟨hf,_,hc,fun u hu=>by subst hu;exact h⟩
theorem qsS{P:Env}{d:Option Nat}{f:Nat}{args args' :List PV}{r:List AO}{st:St}{K:St->Prop}{v:PV}(hf:qcG P.p f=true)(hc:FnEq P.p f args' v)(hs:SubL args args')(h:opsK P r (st.put d v) K):pclK P d f args r st K:=qsR hf (FnOK.sub hc hs) h
def ylK(P:Env)(d:Option Nat)(id:Nat)(args:List PV)(r:List AO)(st:St)(K:St->Prop):Prop:= ∃K',P.Y id args st K' /\ ∀st',K' st' ->opsK P r (st'.put d (.sc (.bool true))) K
@[congr] theorem qsT{P:Env}{d:Option Nat}{id:Nat}{args args' :List PV}{r:List AO}{st st' :St}{K:St->Prop}(h1:args=args')(h2:st=st'):ylK P d id args r st K=ylK P d id args' r st' K:=by rw[h1,h2]
def clvS(P:Env)(d:Option Nat)(v:PV)(args:List PV)(r:List AO)(st:St)(K:St->Prop):Prop:=clvK P st d v args fun st' =>opsK P r st' K
@[congr] theorem qsU{P:Env}{d:Option Nat}{v v' :PV}{args args' :List PV}{r:List AO}{st st' :St}{K:St->Prop}(h0:v=v')(h1:args=args')(h2:st=st'):clvS P d v args r st K=clvS P d v' args' r st' K:=by rw[h0,h1,h2]
def nxtS(P:Env)(d:Option Nat)(r:List AO)(K:St->Prop)(st:St)(v:PV):Prop:=nxtK st d v fun st' =>opsK P r st' K
@[congr] theorem qsV{P:Env}{d:Option Nat}{r:List AO}{st st' :St}{K:St->Prop}{v v' :PV}(h1:st=st')(h2:v=v'):nxtS P d r K st v=nxtS P d r K st' v' :=by rw[h1,h2]
def rsAL(st:St):List PV->List PV
 |[]=>[]
 |c::r=>c.rsA st::rsAL st r
theorem qsW(st:St)(l:List PV):l.map (PV.rsA st)=rsAL st l:=by induction l<;>simp_all[rsAL]
@[push_cast] theorem qsX(st:St):rsAL st []=[]:=rfl
@[push_cast] theorem qsY(st:St)(c:PV)(r:List PV):rsAL st (c::r)=c.rsA st::rsAL st r:=rfl
@[push_cast] theorem qsZ(st:St)(f:Nat)(caps:List PV):(PV.pcl f caps).rsA st= .pcl f caps:=rfl
def rsBL(st:St):List Nat->List PV
 |[]=>[]
 |i::r=>rsB st 0 (lk st.b i)::rsBL st r
@[push_cast] theorem qt0(st:St):rsBL st []=[]:=rfl
@[push_cast] theorem qt1(s:List (Nat×PV))(b:List (Nat×List PV))(a:List (Nat×Arr))(m:List (Nat×Mp))(i:Nat)(r:List Nat):rsBL ⟨s,b,a,m⟩ (i::r)=rsB ⟨s,b,a,m⟩ 0 (lk b i)::rsBL ⟨s,b,a,m⟩ r:=rfl
@[push_cast] theorem qt2(st:St)(f:Nat)(ids:List Nat):(PV.clo f ids).rsA st= .pcl f (rsBL st ids):=by
 show PV.pcl f (ids.map (qcu st))=_
 congr 1
 induction ids with
 |nil=>rfl
 |cons i r ih=>
   simp only[zW,ih,rsBL,qcu,qo9]
   cases lk st.b i<;>rfl
section
variable (P:Env) (i:Nat) (d:Option Nat) (r:List AO) (st:St) (K:St->Prop)
@[push_cast] theorem qt3(f:Nat)(caps:List Opd):opsK P (⟨d,none,.mkf f caps⟩::r) st K=qS P d (mkfV f (boxI (evL st caps) [])) r st K:=by
 have:aev st (.mkf f caps)=mkfV f (boxI (evL st caps) []):=by
  simp only[aev,qs1,qrY]
  cases qau (evL st caps)with
  |none=>rfl
  |some l=>cases l<;>rfl
 simp only[opsK,grdK,opK,qcH,Bool.false_eq_true,if_false,qS,this]
@[push_cast] theorem qtb(f:Nat)(args:List Opd):opsK P (⟨d,none,.clm f args⟩::r) st K=clmK P d f (evL st args) r st K:=by
 rw[<- qrY];rfl
@[push_cast] theorem qtc(x:Opd)(args:List Opd):opsK P (⟨d,none,.clv x args⟩::r) st K=clvS P d (x.ev st) (evL st args) r st K:=by
 rw[<- qrY];rfl
end
section
variable (K:Bool->Prop)
@[push_cast] theorem qte:niqK .nil K=K true:=rfl
@[push_cast] theorem qtf(id lo n:Nat):niqK (.view id lo n) K=K false:=rfl
@[push_cast] theorem qtg(p:Bool)(es:Nat)(x:List PV)(xs:List (List PV)):niqK (.sl p es (x::xs)) K=K false:=rfl
end
section
variable (s:List (Nat×PV)) (b:List (Nat×List PV)) (a:List (Nat×Arr)) (m:List (Nat×Mp)) (d:Option Nat) (K:St->Prop)
def nxtM(P:Env)(s:List (Nat×PV))(b:List (Nat×List PV))(a:List (Nat×Arr))(m:List (Nat×Mp))(d:Option Nat)(r:List AO)(id it:Nat)(K:St->Prop):Option Mp->Prop
 | some ⟨kd, es, some (.run it' left _)⟩ => (it' = it /\ kd.sc = true) /\ (left = [] -> opsK P r ((⟨s, b, a, m⟩ : St).put d (.tup [.sc (.bool false)])) K) /\
   ∀(i:Nat) (z:Value×PV),left[i]? =some z->opsK P r ((⟨s,b,a,up m id ⟨kd,es,some (.run it' (left.eraseIdx i) (some z))⟩⟩:St).put d (.tup [.sc (.bool true),.sc z.1,z.2])) K
 |_=>False
@[push_cast] theorem qti(P:Env)(r:List AO)(id it:Nat):nxtS P d r K ⟨s,b,a,m⟩ (.itr id it)=nxtM P s b a m d r id it K (lk m id):=by
 simp only[nxtS,nxtK]
 cases lk m id with
 |none=>rfl
 |some M=>obtain⟨kd,es,i⟩:=M;rcases i with _|⟨i,l,c⟩<;>rfl
end
def ptrs:List Nat->List PV
 |[]=>[]
 |i::r=> .ptr i 0::ptrs r
theorem qtk(l:List Nat):(l.map fun i=>PV.ptr i 0)=ptrs l:=by induction l<;>simp_all[ptrs]
@[push_cast] theorem qtl:ptrs []=[]:=rfl
@[push_cast] theorem qtm(i:Nat)(r:List Nat):ptrs (i::r)= .ptr i 0::ptrs r:=rfl
section
variable (P:Env) (st:St) (d:Option Nat) (args:List PV) (r:List AO) (K:St->Prop)
@[push_cast] theorem qtn(f:Nat)(ids:List Nat):clvS P d (.clo f ids) args r st K=clmK P d f (args++ptrs ids) r st K:=by rw[<- qtk];rfl
@[push_cast] theorem qto(f:Nat)(u v:Array Value):clvS P d (.sc (.func (.func f) u v)) args r st K=clmK P d f args r st K:=rfl
@[push_cast] theorem qtp(f id:Nat):clvS P d (.bm f id) args r st K=clmK P d f (.ptr id 0::args) r st K:=rfl
@[push_cast] theorem qtq(id:Nat):clvS P d (.yl id) args r st K=ylK P d id args r st K:=rfl
@[push_cast] theorem qtr(f:Nat)(caps:List PV):clvS P d (.pcl f caps) args r st K=pclK P d f (rsAL st args++caps) r st K:=by rw[<- qsW];rfl
end
section
variable (P:Env) (Q:Exit->St->Prop) (st:St)
@[push_cast] theorem qts(c:AC):awp P (.scope c) Q st=awp P c Q st:=rfl
@[push_cast] theorem qtt:awp P .label Q st=Q .normal st:=rfl
end
@[push_cast] theorem qtu(f:Nat)(ids:List Nat):cellsOf (.clo f ids)=[.clo f ids]:=rfl
@[push_cast] theorem qtv(f:Nat)(ids:List Nat):qas (.clo f ids)=true:=rfl
@[push_cast] theorem qtw(f:Nat)(ids:List Nat):qgW (.clo f ids)=true:=rfl
@[push_cast] theorem qtx(i:Nat):cellsOf (.mp i)=[.mp i]:=rfl
@[push_cast] theorem qty(i e n:Nat):cellsOf (.bv i e n)=[.bv i e n]:=rfl
@[push_cast] theorem qtz(i e n:Nat):qas (.bv i e n)=true:=rfl
@[push_cast] theorem qtA(i e n:Nat):qgW (.bv i e n)=true:=rfl
@[push_cast] theorem qtB(i:Nat):qas (.mp i)=true:=rfl
@[push_cast] theorem qtC(i:Nat):qgW (.mp i)=true:=rfl
@[push_cast] theorem qtD(i:Nat):cellsOf (.yl i)=[.yl i]:=rfl
@[push_cast] theorem qtE(i:Nat):qgW (.yl i)=true:=rfl
@[push_cast] theorem qtF(i j:Nat):cellsOf (.itr i j)=[.itr i j]:=rfl
@[push_cast] theorem qtG(i j:Nat):qgW (.itr i j)=true:=rfl
@[push_cast] theorem qtH(f:Nat)(cs:List PV):cellsOf (.pcl f cs)=[.pcl f cs]:=rfl
@[push_cast] theorem qtI(f:Nat)(cs:List PV):qgW (.pcl f cs)=true:=rfl
def lowL(k:Nat):List (Nat×PV)->List (Nat×PV)
 |[]=>[]
 |(i,v)::r=>if i<k then(i,v)::lowL k r else lowL k r
theorem qtJ(k:Nat)(s:List (Nat×PV)):s.filter (fun x=>decide (x.1<k))=lowL k s:=by
 induction s with
 |nil=>rfl
 |cons x r ih=>
   obtain⟨i,v⟩:=x
   simp only[List.filter_cons,lowL,ih,decide_eq_true_eq]
@[push_cast] theorem qtK(k:Nat):lowL k []=[]:=rfl
@[push_cast] theorem qtL(k i:Nat)(v:PV)(r:List (Nat×PV)):lowL k ((i,v)::r)=if i<k then(i,v)::lowL k r else lowL k r:=rfl
@[push_cast] theorem qtM(s:List (Nat×PV))(b:List (Nat×List PV))(a:List (Nat×Arr))(m:List (Nat×Mp))(k:Nat):St.low ⟨s,b,a,m⟩ k=⟨lowL k s,b,a,m⟩:=by simp only[St.low,qtJ]
@[push_cast] theorem qtN(K:Nat)(s:List (Nat×PV)):argS K [] s=s:=rfl
@[push_cast] theorem qtO(K:Nat)(c:PV)(r:List PV)(s:List (Nat×PV)):argS K (c::r) s=argS (K+1) r (up s K c):=rfl
@[push_cast] theorem qtP(s:List (Nat×PV))(b:List (Nat×List PV))(a:List (Nat×Arr))(m:List (Nat×Mp))(i:Nat):St.noId ⟨s,b,a,m⟩ i=⟨qiE (isId i) nul s,rm (qiF (isId i) nul b) i,a,qjj (isId i) m m⟩:=by
 simp only[St.noId,St.kill,qjd,qje]
 rw[show(fun x:Nat×Mp=> !(fun j=>j==i) x.1&& !mpTo m (fun j=>j==i) x.1)=fun x=> !isId i x.1&& !mpTo m (isId i) x.1 from rfl,qjm];rfl
@[push_cast] theorem qtQ(vs:List PV)(s:List (Nat×PV)):qcQ [] vs s=s:=by cases vs<;>rfl
@[push_cast] theorem qtR(p:Nat)(ps:List Nat)(v:PV)(vs:List PV)(s:List (Nat×PV)):qcQ (p::ps) (v::vs) s=qcQ ps vs (up s p v):=rfl
def midL(k n:Nat):List (Nat×PV)->List (Nat×PV)
 |[]=>[]
 |(i,v)::r=>if k<=i/\i<k+n then(i,v)::midL k n r else midL k n r
theorem qtS(k n:Nat)(s:List (Nat×PV)):s.filter (fun x=>decide (k<=x.1/\x.1<k+n))=midL k n s:=by
 induction s with
 |nil=>rfl
 |cons x r ih=>
   obtain⟨i,v⟩:=x
   simp only[List.filter_cons,midL,ih,decide_eq_true_eq]
@[push_cast] theorem qtT(k n:Nat):midL k n []=[]:=rfl
@[push_cast] theorem qtU(k n i:Nat)(v:PV)(r:List (Nat×PV)):midL k n ((i,v)::r)=if k<=i/\i<k+n then(i,v)::midL k n r else midL k n r:=rfl
@[push_cast] theorem qtV(K K2:Nat)(src s:List (Nat×PV)):qcP K K2 src [] s=s:=rfl
@[push_cast] theorem qtW(K K2 i:Nat)(v:PV)(src r s:List (Nat×PV)):qcP K K2 src ((i,v)::r) s=qcP K K2 src r (up s (K2+(i-K)) (getL src i)):=by
 rw[qcP,qhb]
def qtX(k:Nat):List (Nat×PV)->Bool
 |[]=>true
 |(i,_)::r=>if i<k then qtX k r else false
theorem qtY(k:Nat)(s:List (Nat×PV)):s.all (fun x=>decide (x.1<k))=qtX k s:=by
 induction s with
 |nil=>rfl
 |cons x r ih=>
   obtain⟨i,v⟩:=x
   simp only[List.all_cons,qtX,ih]
   by_cases h:i<k<;>simp[h]
@[push_cast] theorem qtZ(k:Nat):qtX k []=true:=rfl
@[push_cast] theorem qu0(k i:Nat)(v:PV)(r:List (Nat×PV)):qtX k ((i,v)::r)=if i<k then qtX k r else false:=rfl
@[push_cast] theorem qu2(st:St)(x:RV):resM st [x]=x.val st:=rfl
@[push_cast] theorem qu3(st:St):resM st []=(True,.tup []):=by simp[resM]
@[push_cast] theorem qu4(st:St)(x y:RV):resM st [x,y]=((x.val st).1/\(y.val st).1,.tup [(x.val st).2,(y.val st).2]):=by simp[resM]
@[push_cast] theorem qu5(st:St)(x y z:RV):resM st [x,y,z]=((x.val st).1/\(y.val st).1/\(z.val st).1,.tup [(x.val st).2,(y.val st).2,(z.val st).2]):=by simp[resM]
@[push_cast] theorem qu6(st:St)(t:Nat):RV.val st (.tmp t)=(True,st.get t):=rfl
@[push_cast] theorem qu8(K:Nat)(rvs:List RV)(Q:PV->St->Prop)(st:St):retM K rvs Q .ret st=((resM st rvs).1/\qgW (resM st rvs).2=true/\Q (resM st rvs).2 (st.low K)):=by simp[retM,qgU]
@[push_cast] theorem qu9(K:Nat)(rvs:List RV)(Q:PV->St->Prop)(st:St):retM K rvs Q .normal st=((resM st rvs).1/\qgW (resM st rvs).2=true/\Q (resM st rvs).2 (st.low K)):=by simp[retM,qgU]
def qua(P:Env)(ass body:AC)(st:St)(K:St->Prop):Prop:=awp P ass (Exit.thn (awp P body fun e st'' =>e= .normal/\K st'') fun _ _=>False) st
def rngC(P:Env)(ρ:RF)(ps:List Nat)(ass body:AC)(Q:Exit->St->Prop)(st:St)(v:PV):Prop:=
 match qcR v with
 | .clo f ids=>(P.noY/\ids.contains ρ.id=false)/\FnM ⟨P.p,ρ.K+ρ.n,rngY ρ ps (qua P ass body),fun _ _=>False⟩ f (.yl ρ.id::ids.map fun i=> .ptr i 0) (st.noId ρ.id) fun _ st' =>Q .normal ((st'.low (ρ.K+ρ.n)).noId ρ.id)
 |_=>False
@[congr] theorem qub{P:Env}{ρ:RF}{ps:List Nat}{ass body:AC}{Q:Exit->St->Prop}{st st' :St}{v v' :PV}(h1:st=st')(h2:v=v'):rngC P ρ ps ass body Q st v=rngC P ρ ps ass body Q st' v' :=by rw[h1,h2]
@[push_cast] theorem quc (P : Env) (Q : Exit -> St -> Prop) (st : St) (f : Opd) (K n K2 : Nat) (ks : List Nat) (id : Nat) (ps : List Nat) (ass body : AC) :
  awp P (.rngf ⟨f,K,n,K2,ks,id⟩ ps ass body) Q st=(qtX (K+n) st.s=true/\rngC P ⟨f,K,n,K2,ks,id⟩ ps ass body Q (st.keepS ks) (f.ev (st.keepS ks))):=by
 simp only[awp,qtY];rfl
theorem qud {P : Env} {ρ : RF} {ps : List Nat} {ass body : AC} {Q : Exit -> St -> Prop} {st st1 : St} {f : Nat} {ids : List Nat} (hn : P.noY) (hi : ids.contains ρ.id = false) (hst : st.noId ρ.id = st1) {R : PV -> St -> Prop}
  (h:FnM ⟨P.p,ρ.K+ρ.n,rngY ρ ps (qua P ass body),fun _ _=>False⟩ f (.yl ρ.id::ptrs ids) st1 R) (hk: ∀rv st',R rv st' ->Q .normal ((st'.low (ρ.K+ρ.n)).noId ρ.id)):rngC P ρ ps ass body Q st (.clo f ids):=by
 subst hst
 refine⟨⟨hn,hi⟩,?_⟩
 rw[qtk]
 exact FnM.mono h hk
theorem que {P : Env} {ρ : RF} {ps : List Nat} {ass body : AC} {Q : Exit -> St -> Prop} {st st1 : St} {f : Nat} (hn : P.noY) (hst : st.noId ρ.id = st1) {R : PV -> St -> Prop}
  (h:FnM ⟨P.p,ρ.K+ρ.n,rngY ρ ps (qua P ass body),fun _ _=>False⟩ f [.yl ρ.id] st1 R) (hk: ∀rv st',R rv st' ->Q .normal ((st'.low (ρ.K+ρ.n)).noId ρ.id)):rngC P ρ ps ass body Q st (.sc (.func (.func f) #[] #[])):=by
 subst hst
 exact⟨⟨hn,rfl⟩,FnM.mono h hk⟩
theorem Env.of_noY(P:Program):(Env.of P).noY:=⟨fun _ _ _ _ h=>h,fun _ _ h=>h⟩
theorem quf {E : Env} {f : Nat} {fn : Func} {ac : AC} {rvs : List RV} {args : List PV} {Q : PV -> St -> Prop} {s : List (Nat × PV)} {b : List (Nat × List PV)} {a : List (Nat × Arr)} {m : List (Nat × Mp)} (K : Nat) (hf : E.p.funcs[f]? = some fn) (hok : qh6 E.p K ac rvs fn = true) (hn : args.length <= fn.ntmps)
  (hlow:qtX K s=true) (hkk:E.kk<=K) (h:awp E ac (retM K rvs Q) ⟨argS K args s,b,a,m⟩) (hpn: ∀ch st,¬E.pan ch st:=by exact fun _ _ h=>h):FnM E f args ⟨s,b,a,m⟩ Q:=
 FnM.of_awp K hf hok hn (by rw[qtY];exact hlow) hkk h hpn
def qug{α:Type}(ks:List Nat):List (Nat×α)->List (Nat×α)
 |[]=>[]
 |(i,v)::r=>if inL ks i=true then(i,v)::qug ks r else qug ks r
@[push_cast] theorem quh{α:Type}(ks:List Nat):qug ks ([]:List (Nat×α))=[]:=rfl
@[push_cast] theorem qui{α:Type}(ks:List Nat)(i:Nat)(v:α)(r:List (Nat×α)):qug ks ((i,v)::r)=if inL ks i=true then(i,v)::qug ks r else qug ks r:=rfl
theorem quj{α:Type}(ks:List Nat)(l:List (Nat×α)):qug ks l=l.filter fun x=>inL ks x.1:=by
 induction l with
 |nil=>rfl
 |cons x r ih=>
   obtain⟨i,v⟩:=x
   simp only[qug,List.filter_cons,ih]
theorem quk{α:Type}{ks:List Nat}{l:List (Nat×α)}{i:Nat}{v:α}(h:lk (qug ks l) i=some v):lk l i=some v:=by
 rw[quj]at h
 exact qa8 l (fun x=>inL ks x.1) (fun _ _=>rfl) i v h
def St.only(st:St)(ks bs ar ms:List Nat):St:=⟨qug ks st.s,qug bs st.b,qug ar st.a,qug ms st.m⟩
@[push_cast] theorem qul(s:List (Nat×PV))(b:List (Nat×List PV))(a:List (Nat×Arr))(m:List (Nat×Mp))(ks bs ar ms:List Nat):St.only ⟨s,b,a,m⟩ ks bs ar ms=⟨qug ks s,qug bs b,qug ar a,qug ms m⟩:=rfl
theorem FnM.only{E:Env}{f:Nat}{args:List PV}{st:St}{Q:PV->St->Prop}(ks bs ar ms:List Nat)(h:FnM E f args (st.only ks bs ar ms) Q):FnM E f args st Q:=
 ⟨h.1,fun w0 Z0 X G Z L w vs h1 h2 h3=>h.2 w0 Z0 X G Z L w vs h1 (h2.forget (fun _ _ h=> .inl (quk h)) (fun _ _ h=>quk h) (fun _ _ h=>quk h) (fun _ _ h=>quk h)) h3⟩
def St.onlyB(st:St)(bs:List Nat):St:=⟨st.s,qug bs st.b,st.a,st.m⟩
@[push_cast] theorem qum(s:List (Nat×PV))(b:List (Nat×List PV))(a:List (Nat×Arr))(m:List (Nat×Mp))(bs:List Nat):St.onlyB ⟨s,b,a,m⟩ bs=⟨s,qug bs b,a,m⟩:=rfl
theorem FnM.postB{E:Env}{f:Nat}{args:List PV}{st:St}{Q:PV->St->Prop}(bs:PV->List Nat)(h:FnM E f args st fun rv st' =>Q rv st'):FnM E f args st fun rv st' => ∃st1,Q rv st1/\st' =st1.onlyB (bs rv):=
 ⟨h.1,fun w0 Z0 X G Z L w vs h1 h2 h3=>(h.2 w0 Z0 X G Z L w vs h1 h2 h3).mono fun _ _ ⟨v,r,st',Z',L',e1,e2,e3,e4⟩=>
  ⟨v,r,st'.onlyB (bs r),Z',L',e1,⟨st',e2,rfl⟩,e3.forget (fun _ _ h=> .inl h) (fun _ _ h=>quk h) (fun _ _ h=>h) (fun _ _ h=>h),e4⟩⟩
end Go.Vc
namespace Go.Vc
theorem cNI{n:Nat} :(Nat.cast (no_index (OfNat.ofNat n)):Int)=OfNat.ofNat n:=rfl
end Go.Vc
attribute [push_cast] ite_true ite_false Bool.false_eq_true Bool.or_false Bool.false_or Bool.or_true Bool.true_or Bool.and_true Bool.true_and Bool.and_false Bool.false_and cond_true cond_false Nat.zero_add Nat.add_zero Nat.zero_mul Nat.mul_zero Nat.succ_ne_self beq_self_eq_true true_and and_true Int.toNat_natCast Int.cast_ofNat_Int decide_true decide_false Nat.zero_le
namespace Go.Vc
theorem sB{p q:Prop}(h:q)(e:p=q:=by(simp only[push_cast,reduceIte,zA,zB,zC,zD,zE,zF,zG,reduceCtorEq,zH,zJ,cNI];exact rfl)):p:=e.mpr h
theorem sC{p:Prop}(h:p:=by simp only[push_cast,reduceIte,zA,zB,zC,zD,zE,zF,zG,reduceCtorEq,zH,zJ,cNI]):p:=h
end Go.Vc
namespace Go.Vc
open Go Go.RowKit
theorem Inv.slotG{w0:World}{Z0:Zone}{X:Gh}{G:Nat->Value}{Z:Zone}{L:Lay}{st:St}{w:World}(h:Mem w0 Z0 X G Z L st w){i:Nat}{v:PV}(hl:lk st.s i=some v):VR w Z L v (G i):=by
 have:=h.slots i v hl
 rwa [show Fr.val ⟨0,0,G,X,none⟩ ⟨#[],[]⟩ i=G i from by unfold Fr.val;rw[if_neg (by simp only;omega)]]at this
theorem Inv.setG {w0 : World} {Z0 : Zone} {X : Gh} {G G' : Nat -> Value} {Z : Zone} {L : Lay} {s s' : List (Nat × PV)} {b : List (Nat × List PV)} {a : List (Nat × Arr)} {m : List (Nat × Mp)} {w : World}
  (h:Mem w0 Z0 X G Z L ⟨s,b,a,m⟩ w) (hs: ∀i v,lk s' i=some v->VR w Z L v (G' i)):Mem w0 Z0 X G' Z L ⟨s',b,a,m⟩ w:=by
 refine⟨h.zt,h.z0,h.zn,h.zb,h.below,h.ownb,h.owna,h.injb,h.inja,h.injx,h.boxes,h.arrs,h.ownm,h.injm,h.maps,h.oth,h.yb,h.size,h.defers,fun i v hl=> ?_⟩
 rw[show Fr.val ⟨0,0,G',X,none⟩ ⟨#[],[]⟩ i=G' i from by unfold Fr.val;rw[if_neg (by simp only;omega)]]
 exact hs i v hl
def qup(L:Lay):PV->Value
 | .ptr id _=> .pointer (some ⟨L.bx id,0,none⟩)
 |_=>undef
end Go.Vc
namespace Go.Vc
open Go Go.RowKit Go.Sort
section
variable (P:Env) (r:List AO) (st:St) (K:St->Prop) (d:Option Nat)
def clrX(P:Env)(es:Nat)(zero:List PV)(id lo n:Nat)(r:List AO)(st:St)(K:St->Prop):Option Arr->Prop
 |some A=>(A.es=es/\zero.length=es)/\opsK P r { st with a:=up st.a id { A with xs:=cpyF A.xs lo (List.replicate n zero) } } K
 |none=>False
@[push_cast] theorem qut (es : Nat) (zero : List PV) (id lo n : Nat) (s : List (Nat × PV)) (b : List (Nat × List PV)) (a : List (Nat × Arr)) (m : List (Nat × Mp)) (e t : Nat) (xs : List (List PV)) :
  clrX P es zero id lo n r ⟨s,b,a,m⟩ K (some ⟨e,t,xs⟩)=((e=es/\zero.length=es)/\opsK P r ⟨s,b,up a id ⟨e,t,cpyF xs lo (List.replicate n zero)⟩,m⟩ K):=rfl
def clrV(P:Env)(es:Nat)(zero:List PV)(r:List AO)(st:St)(K:St->Prop):PV->Prop
 | .view id lo n=>clrX P es zero id lo n r st K (lk st.a id)
 |_=>False
@[push_cast] theorem quu(es:Nat)(zero:List PV)(s:List (Nat×PV))(b:List (Nat×List PV))(a:List (Nat×Arr))(m:List (Nat×Mp))(id lo n:Nat):clrV P es zero r ⟨s,b,a,m⟩ K (.view id lo n)=clrX P es zero id lo n r ⟨s,b,a,m⟩ K (lk a id):=rfl
@[push_cast] theorem quv(es:Nat)(zero:List PV)(x:Opd):opsK P (⟨none,none,.xo (.clr es zero) [x]⟩::r) st K=clrV P es zero r st K (x.ev st):=by
 show xoK st none (.clr es zero) [x.ev st] (fun st' =>opsK P r st' K)=_
 generalize x.ev st=u
 cases u with
 |view id lo n=>
   show(match lk st.a id with|some A=>_|none=>False)=clrX P es zero id lo n r st K (lk st.a id)
   cases lk st.a id<;>rfl
 |_=>rfl
def bsxB(i es:Nat):List PV->Prop×List PV
 |[]=>(True,[])
 |v::r=>((qas v=true/\(cellsOf v).length=es/\anyT (isId i) nul (cellsOf v)=false)/\(bsxB i es r).1,cellsOf v++(bsxB i es r).2)
theorem qux(i es:Nat): ∀vs,bsxF i es vs=bsxB i es vs
 |[]=>rfl
 |v::r=>by rw[bsxF,bsxB,qux i es r,qhK];rfl
@[push_cast] theorem quy(i es:Nat):bsxB i es []=(True,[]):=rfl
@[push_cast] theorem quz(i es:Nat)(v:PV)(r:List PV):bsxB i es (v::r)=((qas v=true/\(cellsOf v).length=es/\anyT (isId i) nul (cellsOf v)=false)/\(bsxB i es r).1,cellsOf v++(bsxB i es r).2):=rfl
@[push_cast] theorem quA (i es : Nat) (zero : List PV) (xs : List Opd) : opsK P (⟨some i, none, .xo (.bsx es zero) xs⟩ :: r) st K =
  (((0<es/\zero.length=es/\xs.length*es<=16777216)/\(bsxB i es (evL st xs)).1)/\opsK P r (st.newBx i es (bsxB i es (evL st xs)).2 xs.length) K):=by
 show bsxK st i es zero (xs.map (·.ev st)) (fun st' =>opsK P r st' K)=_
 rw[bsxK,qux,qrY,show(evL st xs).length=xs.length by rw[<- qrY,yG]]
def mkxV(P:Env)(i by_:Nat)(zero:PV)(r:List AO)(st:St)(K:St->Prop):PV->Prop
 | .sc (.int _ n)=>(0<=n/\n.toNat*by_<=140737488355328/\n<=9223372036854775807)/\opsK P r (st.newBx i 1 (List.replicate n.toNat zero) n.toNat) K
 |_=>False
@[push_cast] theorem quB(i by_:Nat)(zero:PV)(k:IntKind)(n:Int):mkxV P i by_ zero r st K (.sc (.int k n))=((0<=n/\n.toNat*by_<=140737488355328/\n<=9223372036854775807)/\opsK P r (st.newBx i 1 (List.replicate n.toNat zero) n.toNat) K):=rfl
@[push_cast] theorem quC(i by_:Nat)(zero:PV)(l:Opd):opsK P (⟨some i,none,.xo (.mkx by_ zero) [l]⟩::r) st K=mkxV P i by_ zero r st K (l.ev st):=rfl
def apxB(P:Env)(i es by_ id es1 n es2 m:Nat)(r:List AO)(st:St)(K:St->Prop):Option (List PV)->Option (List PV)->Prop
 | some cs, some cs2 => (((es1 = es /\ es2 = es /\ 0 < es) /\ cs.length = n * es /\ cs2.length = m * es) /\ (anyT (isId id) nul cs = false /\ anyT (isId id) nul cs2 = false) /\ (n + m) * by_ <= 140737488355328 /\ n + m <= 9223372036854775807) /\
   opsK P r (st.growBx i id es (cs++cs2) (n+m)) K
 |_,_=>False
@[push_cast] theorem quD (i es by_ id es1 n es2 m : Nat) (cs cs2 : List PV) : apxB P i es by_ id es1 n es2 m r st K (some cs) (some cs2) =
  ((((es1 = es /\ es2 = es /\ 0 < es) /\ cs.length = n * es /\ cs2.length = m * es) /\ (anyT (isId id) nul cs = false /\ anyT (isId id) nul cs2 = false) /\ (n + m) * by_ <= 140737488355328 /\ n + m <= 9223372036854775807) /\
    opsK P r (st.growBx i id es (cs++cs2) (n+m)) K):=rfl
def apxV(P:Env)(i es by_:Nat)(r:List AO)(st:St)(K:St->Prop):PV->PV->Prop
 | .bv id es1 n,.bv id2 es2 m=>apxB P i es by_ id es1 n es2 m r st K (lk st.b id) (lk st.b id2)
 |_,_=>False
@[push_cast] theorem quE(i es by_ id es1 n id2 es2 m:Nat):apxV P i es by_ r st K (.bv id es1 n) (.bv id2 es2 m)=apxB P i es by_ id es1 n es2 m r st K (lk st.b id) (lk st.b id2):=rfl
@[push_cast] theorem quF(i es by_:Nat)(s x:Opd):opsK P (⟨some i,none,.xo (.apx es by_) [s,x]⟩::r) st K=apxV P i es by_ r st K (s.ev st) (x.ev st):=by
 show apxK st i es by_ (fun st' =>opsK P r st' K) (s.ev st) (x.ev st)=_
 generalize s.ev st=u
 generalize x.ev st=v
 cases u<;>cases v<;>try rfl
 rename_i id es1 n id2 es2 m
 simp only[apxK,apxV]
 cases lk st.b id<;>cases lk st.b id2<;>try rfl
 simp only[apxB,qhK];rfl
end
section
variable {w0:World} {Z0:Zone} {X:Gh} {G:Nat->Value} {Z:Zone} {L:Lay} {st:St} {w:World} {P:Program}
theorem quH(l:List Int):ints l=l.map fun x=>[PV.sc (.int .i64 x)]:=rfl
theorem XR.holds{id ty:Nat}{zs:List Int}{cur:Array Value}(h:XR w Z L id ⟨1,ty,ints zs⟩ cur):cur.toList.take zs.length=zs.map (Value.int .i64):=by
 have hs:=h.size
 have hf:=h.fits
 simp only[quH,yG,Nat.mul_one]at hs hf
 apply List.ext_getElem?
 intro j
 by_cases hj:j<zs.length
 ·have hc:=(h.cell j 0 [.sc (.int .i64 zs[j])] (.sc (.int .i64 zs[j])) (by rw[quH];simp[hj]) rfl).1
  have hv:cur.getD (j*1+0) undef= .int .i64 zs[j]:=VR.sc (L:=L) hc
  rw[List.getElem?_take_of_lt hj,Array.getElem?_toList]
  simp only[Nat.mul_one,Nat.add_zero,zO]at hv
  rw[Array.getElem?_eq_getElem (by omega)]at hv ⊢
  simp only[Option.getD_some]at hv
  rw[hv]
  simp[hj]
 ·rw[List.getElem?_take_eq_none (by omega),List.getElem?_eq_none (by simp;omega)]
theorem Inv.row (h : Mem w0 Z0 X G Z L st w) {id ty : Nat} {zs ts : List Int} (hA : lk st.a id = some ⟨1, ty, ints zs⟩) (hl : ts.length = zs.length) (n : Nat) (os : Array Obj) :
  Mem w0 Z0 X G Z L { st with a:=up st.a id ⟨1,ty,ints ts⟩ } (grow (putRow (Value.int .i64) (Sort.ahead w n) (L.ab id) 0 ts.toArray) os):=by
 obtain⟨cur,hX⟩:=h.arrs id _ hA
 obtain⟨o1,o2,o3⟩:=h.owna id _ hA
 have hs:=hX.size
 have hf:=hX.fits
 have hal:=hX.al
 simp only[quH,yG,Nat.mul_one]at hs hf hal
 have hsz:(putCells (Value.int .i64) 0 ts.toArray cur).size=cur.size:=by simp[putCells]
 exact h.setArr (grownBy_sortedI (os:=os) (n:=n) ts.toArray) (row:=some (L.ab id)) (fun k ek=>⟨_,hA,by cases ek;rfl⟩) (id:=id) (LSame.refl L) (fun _ _=>rfl) (.inl ⟨_,hA,rfl⟩)
  (by have:=(grownBy_sortedI (w:=w) (g:=L.ab id) (os:=os) (n:=n) ts.toArray).size;omega) (St.noTo_nul _) (A' :=⟨1,ty,ints ts⟩) (cur:=putCells (Value.int .i64) 0 ts.toArray cur)
  ⟨hX.pos,hX.ae,by simp only[quH,yG];omega,heap_sortedI ts.toArray hX.blk,by rw[hsz];simpa using hs,by simp only[quH,yG];omega,hX.max,fun r hr=>by
   obtain⟨x,_,rfl⟩:=List.mem_map.1 hr
   rfl,fun p q r c hp hq=>by
   obtain⟨x,hx,rfl⟩: ∃x,ts[p]? =some x/\[PV.sc (.int .i64 x)]=r:=by
    rw[quH,zS]at hp
    cases hx:ts[p]? with
    |none=>rw[hx]at hp;cases hp
    |some x=>rw[hx]at hp;exact⟨x,rfl,by simpa using hp⟩
   have hpl:p<ts.length:=(zM.1 hx).1
   have hq0:q=0:=by have:=(zM.1 hq).1;simpa using this
   subst hq0
   have hc:c= .sc (.int .i64 x):=by simpa using hq.symm
   subst hc
   have hg:(putCells (Value.int .i64) 0 ts.toArray cur).getD (p*1+0) undef= .int .i64 x:=by
    have:=take_putCellsI cur ts (by omega)
    have h2:((putCells (Value.int .i64) 0 ts.toArray cur).toList.take ts.length)[p]? =(ts.map (Value.int .i64))[p]? :=by rw[this]
    rw[List.getElem?_take_of_lt hpl,Array.getElem?_toList,zS,hx]at h2
    rw[Nat.mul_one,Nat.add_zero,zO,h2]
    rfl
   dsimp only
   rw[hg]
   exact⟨.sc _ rfl,rfl⟩⟩
theorem quI{id n:Nat}{vs:Array Value}(h:ArgsR w Z L [.view id 0 n] vs): ∃c,vs= #[.slice (some ⟨L.ab id,0,none⟩) n c]/\c=L.ac id/\n<=c/\n<=L.al id/\VR w Z L (.view id 0 n) (.slice (some ⟨L.ab id,0,none⟩) n c):=by
 obtain⟨hs,hc⟩:=h
 have h0:=hc 0 _ rfl
 have h1:VR w Z L (.view id 0 n) (vs.getD 0 undef):=h0
 obtain⟨a,c,hv,h2,h3,h4,h5,h6⟩:=h0
 obtain⟨rfl,rfl⟩:=h6 rfl
 have hs1:vs.size=1:=hs
 have e:vs= #[.slice (some ⟨L.ab id,0,none⟩) n (L.ac id)]:=by
  rw[<- hv]
  apply Array.ext
  ·simpa using hs1
  ·intro i h7 h8
   have:i=0:=by simp at h8;omega
   subst this
   simp[zO,Array.getElem?_eq_getElem h7]
 rw[hv]at h1
 exact⟨_,e,rfl,h2,by omega,h1⟩
theorem quJ {f : Nat} (hb : qcG P f = true)
  (hc: ∀(blk off cap:Nat) (zs:List Int) (w:World),Holds (Value.int .i64) w blk off zs.toArray->blk<w.heap.size->zs.length<4611686018427387904->Calls P f #[.slice (some ⟨blk,off,none⟩) zs.length cap] w fun e w' =>
   e= .returned (.tuple #[])/\ ∃n os,w' =grow (putRow (Value.int .i64) (Sort.ahead w n) blk off (zs.mergeSort fun x y=>decide (x<=y)).toArray) os)
  {id ty:Nat} {zs:List Int} {s:List (Nat×PV)} {b:List (Nat×List PV)} {a:List (Nat×Arr)} {m:List (Nat×Mp)} (hA:lk a id=some ⟨1,ty,ints zs⟩) (hl:zs.length<4611686018427387904):
  FnM (Env.of P) f [.view id 0 zs.length] ⟨s,b,a,m⟩ fun r st' =>r= .tup []/\st' =⟨s,b,up a id ⟨1,ty,ints (zs.mergeSort fun x y=>decide (x<=y))⟩,m⟩:=by
 refine⟨hb,fun w0 Z0 X G Z L w vs _ h2 h3=> ?_⟩
 obtain⟨c,rfl,rfl,h4,h5,h6⟩:=quI h3
 obtain⟨cur,hX⟩:=h2.arrs id _ hA
 obtain⟨o1,o2,o3⟩:=h2.owna id _ hA
 refine(hc (L.ab id) 0 (L.ac id) zs w (holds_of_blockI hX.blk hX.holds) o2 hl).mono ?_
 rintro e w' ⟨rfl,n,os,rfl⟩
 exact⟨_,.tup [],_,Z,L,rfl,⟨rfl,rfl⟩,h2.row hA (List.length_mergeSort _) n os,⟨#[],rfl,rfl,fun j c hj=>by simp at hj⟩⟩
theorem quK {f : Nat} (hb : qcG P f = true) {cp : List Int -> List Int} (hle : ∀ l, (cp l).length <= l.length)
  (hc: ∀(blk off cap:Nat) (zs:List Int) (w:World),Holds (Value.int .i64) w blk off zs.toArray->zs.length<=9223372036854775807->zs.length<=cap->Calls P f #[.slice (some ⟨blk,off,none⟩) zs.length cap] w fun e w' =>
   e= .returned (.slice (some ⟨blk,off,none⟩) (cp zs).length cap)/\ ∃q,w' =putRow (Value.int .i64) (Sort.ahead w q) blk off (cp zs++List.replicate (zs.length-(cp zs).length) 0).toArray)
  {id ty:Nat} {zs:List Int} {s:List (Nat×PV)} {b:List (Nat×List PV)} {a:List (Nat×Arr)} {m:List (Nat×Mp)} (hA:lk a id=some ⟨1,ty,ints zs⟩) (hl:zs.length<=9223372036854775807):
  FnM (Env.of P) f [.view id 0 zs.length] ⟨s,b,a,m⟩ fun r st' =>r= .view id 0 (cp zs).length/\st' =⟨s,b,up a id ⟨1,ty,ints (cp zs++List.replicate (zs.length-(cp zs).length) 0)⟩,m⟩:=by
 refine⟨hb,fun w0 Z0 X G Z L w vs _ h2 h3=> ?_⟩
 obtain⟨c,rfl,rfl,h4,h5,h6⟩:=quI h3
 obtain⟨cur,hX⟩:=h2.arrs id _ hA
 have hcl:=hle zs
 refine(hc (L.ab id) 0 (L.ac id) zs w (holds_of_blockI hX.blk hX.holds) hl h4).mono ?_
 rintro e w' ⟨rfl,n,rfl⟩
 have h7:=h2.row hA (ts:=cp zs++List.replicate (zs.length-(cp zs).length) 0) (by simp;omega) n #[]
 rw[grow_empty]at h7
 exact⟨_,.view id 0 (cp zs).length,_,Z,L,rfl,⟨rfl,rfl⟩,h7,⟨_,_,rfl,by omega,hX.max,by omega,by simp,by simp⟩⟩
theorem Inv.row_forget(h:Mem w0 Z0 X G Z L st w)(i:Nat):Mem w0 Z0 X G Z L { st with a:=rm st.a i } w:=
 h.forget (fun i v hl=> .inl hl) (fun _ _ h=>h) (fun j A hl=>by
  rw[qa4]at hl
  split at hl
  ·cases hl
  ·exact hl) (fun _ _ h=>h)
theorem FnM.dropA{E:Env}{f:Nat}{args:List PV}{Q:PV->St->Prop}(i:Nat)(h:FnM E f args st fun r st' =>Q r { st' with a:=rm st'.a i }):FnM E f args st Q:=
 ⟨h.1,fun w0 Z0 X G Z L w vs h1 h2 h3=>(h.2 w0 Z0 X G Z L w vs h1 h2 h3).mono fun _ _ ⟨v,r,st',Z',L',e1,e2,e3,e4⟩=>⟨v,r,_,Z',L',e1,e2,e3.row_forget i,e4⟩⟩
theorem FnM.frm {f : Nat} {args : List PV} {s ps t : List (Nat × PV)} {b : List (Nat × List PV)} {a : List (Nat × Arr)} {m : List (Nat × Mp)} {Q : PV -> St -> Prop}
  (hps: ∀i v,lk ps i=some v-> ∃id,v= .ptr id 0)
  (ht: ∀i v,lk t i=some v->lk s i=some v/\((∃x,v= .sc x)\/(∃id k,v= .ptr id 0/\lk ps k=some v)\/ ∃g ids,v= .clo g ids/\ ∀id∈ids,∃k,lk ps k=some (.ptr id 0)))
  (h:FnM (Env.of P) f args ⟨ps,b,a,m⟩ fun r st' => ∃b' a' m',st' =⟨ps,b',a',m'⟩/\Q r ⟨t,b',a',m'⟩):FnM (Env.of P) f args ⟨s,b,a,m⟩ Q:=by
 refine⟨h.1,fun w0 Z0 X G Z L w vs hE h3 h4=> ?_⟩
 let G' :Nat->Value:=fun i=>qup L ((lk ps i).getD .bot)
 have hGi: ∀i v,lk ps i=some v->G' i=qup L v:=fun i v hi=>by
  show qup L _=_
  rw[hi]
  rfl
 have hm:Mem w0 Z0 X G' Z L ⟨ps,b,a,m⟩ w:=Inv.setG h3 fun i v hl=>by
  obtain⟨id,rfl⟩:=hps i v hl
  rw[hGi i _ hl]
  rfl
 refine(h.2 w0 Z0 X G' Z L w vs (EnvOK.of P w0 Z0 X G' hE.1) hm h4).mono ?_
 rintro e w' ⟨v,r,st',Z',L',e1,⟨b',a',m',rfl,hq⟩,h5,h6⟩
 have hbx: ∀id k,lk ps k=some (.ptr id 0)->L'.bx id=L.bx id:=fun id k hk=>by
  have p3:VR w' Z' L' (.ptr id 0) (G' k):=Inv.slotG h5 hk
  rw[hGi k _ hk]at p3
  have p4:Value.pointer (some ⟨L.bx id,0,none⟩)=Value.pointer (some ⟨L'.bx id,0,none⟩):=p3
  injection p4 with p4
  injection p4 with p4
  injection p4 with p4
  exact p4.symm
 refine⟨v,r,_,Z',L',e1,hq,Inv.setG h5 fun i u hl=> ?_,h6⟩
 obtain⟨g1,g2⟩:=ht i u hl
 rcases g2 with⟨x,rfl⟩|⟨id,k,rfl,hk⟩|⟨g,ids,rfl,hk⟩
 ·have:=Inv.slotG h3 g1
  have:TR w Z (.sc x) (G i):=this
  show TR w' Z' (.sc x) (G i)
  cases this with
  |sc _ hx=>exact .sc _ hx
 ·have p2:G i= .pointer (some ⟨L.bx id,0,none⟩):=Inv.slotG h3 g1
  show G i= .pointer (some ⟨L'.bx id,0,none⟩)
  rw[p2,hbx id k hk]
 ·have p2:G i= .func (.func g) #[] (ids.map fun i=>Value.pointer (some ⟨L.bx i,0,none⟩)).toArray:=Inv.slotG h3 g1
  show G i= .func (.func g) #[] (ids.map fun i=>Value.pointer (some ⟨L'.bx i,0,none⟩)).toArray
  rw[p2]
  congr 2
  refine List.map_congr_left fun id hid=> ?_
  obtain⟨k,hk⟩:=hk id hid
  rw[hbx id k hk]
def hasP:List (Nat×PV)->Nat->Bool
 |[],_=>false
 |(_,.ptr id _)::r,j=>id==j||hasP r j
 |_::r,j=>hasP r j
def allP:List (Nat×PV)->Bool
 |[]=>true
 |(_,.ptr _ o)::r=>o==0&&allP r
 |_::_=>false
def frV(ps:List (Nat×PV)):PV->Prop
 | .sc _=>True
 | .ptr id o=>o=0/\hasP ps id=true
 | .clo _ ids=>ids.all (hasP ps)=true
 |_=>False
def frT(s ps:List (Nat×PV)):List (Nat×PV)->Prop
 |[]=>True
 |(i,v)::r=>(lk s i=some v/\frV ps v)/\frT s ps r
@[push_cast] theorem quL(i id o j:Nat)(r:List (Nat×PV)):hasP ((i,.ptr id o)::r) j=(id==j||hasP r j):=_root_.id rfl
@[push_cast] theorem quM(j:Nat):hasP [] j=false:=_root_.id rfl
@[push_cast] theorem quN(ps:List (Nat×PV))(x:Value):frV ps (.sc x)=True:=_root_.id rfl
@[push_cast] theorem quO(ps:List (Nat×PV))(i o:Nat):frV ps (.ptr i o)=(o=0/\hasP ps i=true):=_root_.id rfl
@[push_cast] theorem quP(ps:List (Nat×PV))(g:Nat)(ids:List Nat):frV ps (.clo g ids)=(ids.all (hasP ps)=true):=_root_.id rfl
@[push_cast] theorem quQ(s ps:List (Nat×PV)):frT s ps []=True:=_root_.id rfl
@[push_cast] theorem quR(s ps r:List (Nat×PV))(i:Nat)(v:PV):frT s ps ((i,v)::r)=((lk s i=some v/\frV ps v)/\frT s ps r):=_root_.id rfl
attribute [push_cast] List.all_cons List.all_nil
theorem quS: ∀ {ps:List (Nat×PV)},allP ps=true-> ∀i v,lk ps i=some v-> ∃id,v= .ptr id 0
 |[],_,i,v,hl=>by cases hl
 | (k, u) :: r, h, i, v, hl => by
   cases u with
   |ptr id o=>
     simp only[allP,zN,beq_iff_eq]at h
     obtain⟨rfl,h⟩:=h
     simp only[lk]at hl
     split at hl
     ·cases hl;exact⟨id,rfl⟩
     ·exact quS h i v hl
   |_=>cases h
def quT:List (Nat×PV)->Bool
 |[]=>true
 |(k,_)::r=>r.all (fun x=>x.1 !=k)&&quT r
theorem quU{k:Nat}{v:PV} : ∀ {r:List (Nat×PV)},lk r k=some v-> ∃x∈r,x.1=k
 | (j, u) :: r, h => by
   simp only[lk]at h
   split at h
   ·rename_i e;exact⟨_,zX,e⟩
   ·obtain⟨x,hx,e⟩:=quU h;exact⟨x,zT _ hx,e⟩
theorem quV: ∀ {ps:List (Nat×PV)},allP ps=true->quT ps=true-> ∀ {j:Nat},hasP ps j=true-> ∃k,lk ps k=some (.ptr j 0)
 |[],_,_,_,h=>by cases h
 | (k, u) :: r, h1, h2, j, h => by
   cases u with
   |ptr id o=>
     simp only[allP,quT,zN,beq_iff_eq,hasP,Bool.or_eq_true]at h1 h2 h
     obtain⟨rfl,h1⟩:=h1
     rcases h with rfl|h
     ·exact⟨k,by simp only[lk,if_true]⟩
     ·obtain⟨k',hk'⟩:=quV h1 h2.2 h
      refine⟨k',?_⟩
      have hne:k≠k' :=fun e=>by
       subst e
       obtain⟨x,hx,e⟩:=quU hk'
       have:=yE.1 h2.1 x hx
       simp[e]at this
      simp only[lk]
      rw[if_neg hne]
      exact hk'
   |_=>cases h1
theorem quW{s ps:List (Nat×PV)} : ∀ {t:List (Nat×PV)},frT s ps t-> ∀i v,lk t i=some v->lk s i=some v/\frV ps v
 |[],_,i,v,hl=>by cases hl
 | (k, u) :: r, h, i, v, hl => by
   simp only[lk]at hl
   split at hl
   ·rename_i e
    cases hl
    subst e
    exact h.1
   ·exact quW h.2 i v hl
theorem FnM.frame {f : Nat} {args : List PV} {s : List (Nat × PV)} (ps t : List (Nat × PV)) {b : List (Nat × List PV)} {a : List (Nat × Arr)} {m : List (Nat × Mp)} {Q : PV -> St -> Prop} (h1 : allP ps = true) (h2 : quT ps = true) (ht : frT s ps t)
  (h:FnM (Env.of P) f args ⟨ps,b,a,m⟩ fun r st' => ∃b' a' m',st' =⟨ps,b',a',m'⟩/\Q r ⟨t,b',a',m'⟩):FnM (Env.of P) f args ⟨s,b,a,m⟩ Q:=by
 refine FnM.frm (fun i v hl=>quS h1 i v hl) (fun i v hl=> ?_) h
 obtain⟨g1,g2⟩:=quW ht i v hl
 refine⟨g1,?_⟩
 cases v with
 |sc x=>exact .inl ⟨x,rfl⟩
 |ptr id o=>
   obtain⟨rfl,g3⟩:=g2
   obtain⟨k,hk⟩:=quV h1 h2 g3
   exact .inr (.inl ⟨id,k,rfl,hk⟩)
 |clo g ids=>exact .inr (.inr ⟨g,ids,rfl,fun id hid=>quV h1 h2 (yE.1 g2 id hid)⟩)
 |_=>exact g2.elim
end
end Go.Vc
namespace Go.Proofs.YtecoaapkcnhlhaaGreatDoor
open Go Go.Vc Txt
structure Grid where
 w:Int
 h:Int
 tracks:Int
 pads:Int
 kind:List Int
 deriving DecidableEq,Inhabited
structure Spot where
 kind:Int
 x:Int
 y:Int
 i:Int
 deriving DecidableEq,Inhabited
def quX(q:Bool)(g:Grid):List PV:=[.int g.w,.int g.h,.int g.tracks,.int g.pads,.sl q 1 (ints g.kind)]
def quY(s:Spot):List PV:=[.int s.kind,.int s.x,.int s.y,.int s.i]
@[push_cast] theorem quZ(q:Bool)(g:Grid):quX q g=[.int g.w,.int g.h,.int g.tracks,.int g.pads,.sl q 1 (ints g.kind)]:=rfl
@[push_cast] theorem qv0(s:Spot):quY s=[.int s.kind,.int s.x,.int s.y,.int s.i]:=rfl
structure GOk (g:Grid):Prop where
 w:1<=g.w/\g.w<=64
 h:1<=g.h/\g.h<=64
 tracks:1<=g.tracks/\g.tracks<=64
 pads:0<=g.pads/\g.pads<=1000
 kind:(g.kind.length:Int)=g.w*g.h
def qv1(g:Grid):Int:=6+2*g.tracks
def allI(g:Grid):Int:=g.w*g.h*qv1 g
def qv2(g:Grid):Int:=allI g+2*g.pads
theorem GOk.wh{g:Grid}(h:GOk g):1<=g.w*g.h/\g.w*g.h<=64*64:=
 ⟨Int.mul_le_mul (a:=1) (b:=1) h.w.1 h.h.1 oM (by have:=h.w;omega),Int.mul_le_mul h.w.2 h.h.2 (by have:=h.h;omega) oM⟩
theorem GOk.each{g:Grid}(h:GOk g):8<=qv1 g/\qv1 g<=134:=by have:=h.tracks;unfold qv1;omega
theorem GOk.all{g:Grid}(h:GOk g):8<=allI g/\allI g<=64*64*134:=by
 have h1:=h.wh
 have h2:=h.each
 have h3:1*8<=g.w*g.h*qv1 g:=Int.mul_le_mul h1.1 h2.1 oM oM
 have h4:g.w*g.h*qv1 g<=64*64*134:=Int.mul_le_mul h1.2 h2.2 oM oM
 unfold allI;omega
theorem GOk.count{g:Grid}(h:GOk g):8<=qv2 g/\qv2 g<=600000:=by
 have h1:=h.all
 have h2:=h.pads
 unfold qv2;omega
theorem qv3(g:Grid)(hg:GOk g):FnEq Tryz.prog 90 [.agg (quX false g)] (.int (qv1 g)):=by
 refine FnEq.of_awp Tryz.func90 ok90 (by show 1<=_;decide) (by simp only[push_cast,reduceIte,zA,zB,zC,zD,zE,zF,zG,reduceCtorEq,zH,zJ,cNI]<;>first|exact fun _ _=>trivial|simp) ?_
 simp only[ac90,rv90,push_cast,reduceIte,zA,zB,zC,zD,zE,zF,zG,reduceCtorEq,zH,zJ,cNI]
 have:=hg.tracks
 refine⟨⟨oM,oM⟩,⟨oM,oM⟩,rfl⟩
theorem qv4(g:Grid)(hg:GOk g):FnEq Tryz.prog 66 [.agg (quX false g)] (.int (allI g)):=by
 refine FnEq.of_awp Tryz.func66 ok66 (by show 1<=_;decide) (by simp only[push_cast,reduceIte,zA,zB,zC,zD,zE,zF,zG,reduceCtorEq,zH,zJ,cNI]<;>first|exact fun _ _=>trivial|simp) ?_
 simp only[ac66,rv66,push_cast,reduceIte,zA,zB,zC,zD,zE,zF,zG,reduceCtorEq,zH,zJ,cNI]
 have h1:=hg.wh
 have h2:=hg.all
 have e:g.w*g.h*qv1 g=allI g:=rfl
 refine⟨oM,?_⟩
 refine qrx (qv3 g hg) sC rfl ?_
 refine sB ?_
 rw[e]
 exact⟨oM,rfl⟩
theorem qv5(g:Grid)(hg:GOk g):FnEq Tryz.prog 40 [.agg (quX false g)] (.int (qv2 g)):=by
 refine FnEq.of_awp Tryz.func40 ok40 (by show 1<=_;decide) (by simp only[push_cast,reduceIte,zA,zB,zC,zD,zE,zF,zG,reduceCtorEq,zH,zJ,cNI]<;>first|exact fun _ _=>trivial|simp) ?_
 simp only[ac40,rv40,push_cast,reduceIte,zA,zB,zC,zD,zE,zF,zG,reduceCtorEq,zH,zJ,cNI]
 have h1:=hg.pads
 have h2:=hg.all
 refine qrx (qv4 g hg) sC rfl ?_
 refine sB ?_
 exact⟨oM,oM,rfl⟩
theorem qv6(g:Grid)(hg:GOk g):FnEq Tryz.prog 42 [.agg (quX false g)] (.int (qv1 g)):=by
 refine FnEq.of_awp Tryz.func42 ok42 (by show 1<=_;decide) (by simp only[push_cast,reduceIte,zA,zB,zC,zD,zE,zF,zG,reduceCtorEq,zH,zJ,cNI]<;>first|exact fun _ _=>trivial|simp) ?_
 simp only[ac42,rv42,push_cast,reduceIte,zA,zB,zC,zD,zE,zF,zG,reduceCtorEq,zH,zJ,cNI]
 have:=hg.tracks
 refine⟨⟨oM,oM⟩,⟨oM,oM⟩,rfl⟩
theorem qv7(g:Grid)(hg:GOk g):FnEq Tryz.prog 41 [.agg (quX false g)] (.int (qv2 g)):=by
 refine FnEq.of_awp Tryz.func41 ok41 (by show 1<=_;decide) (by simp only[push_cast,reduceIte,zA,zB,zC,zD,zE,zF,zG,reduceCtorEq,zH,zJ,cNI]<;>first|exact fun _ _=>trivial|simp) ?_
 simp only[ac41,rv41,push_cast,reduceIte,zA,zB,zC,zD,zE,zF,zG,reduceCtorEq,zH,zJ,cNI]
 have h1:=hg.wh
 have h2:=hg.all
 have h3:=hg.pads
 have e:g.w*g.h*qv1 g=allI g:=rfl
 refine⟨oM,?_⟩
 refine qrx (qv6 g hg) sC rfl ?_
 refine sB ?_
 rw[e]
 exact⟨oM,oM,oM,rfl⟩
def qv8(g:Grid)(n:Int):Spot:=
 if allI g+g.pads<=n then⟨7,g.w,(n-allI g-g.pads)%g.h,n-allI g-g.pads⟩
 else if allI g<=n then⟨6,-1,(n-allI g)%g.h,n-allI g⟩
 else
  let t:=n/qv1 g
  let i:=n%qv1 g
  if 6+g.tracks<=i then⟨5,t%g.w,t/g.w,i-6-g.tracks⟩
  else if 6<=i then⟨4,t%g.w,t/g.w,i-6⟩
  else if 2<=i then⟨3,t%g.w,t/g.w,i-2⟩
  else if i=1 then⟨2,t%g.w,t/g.w,0⟩
  else⟨1,t%g.w,t/g.w,0⟩
def qv9(g:Grid)(n:Int):Spot×Int:=if n<0\/qv2 g<=n then(⟨0,0,0,0⟩,1)else(qv8 g n,0)
def qva(p:Spot×Int):PV:= .tup [.agg (quY p.1),.int p.2]
theorem qvb(g:Grid)(hg:GOk g)(n:Int)(hn: -1000000000<=n/\n<=1000000000):FnEq Tryz.prog 96 [.agg (quX false g),.int n] (qva (qv9 g n)):=by
 have h1:=hg.all
 have h2:=hg.each
 have h3:=hg.count
 have h4:=hg.pads
 have hw:=hg.w
 have hh:=hg.h
 have ht:=hg.tracks
 have hc:qv2 g=allI g+2*g.pads:=rfl
 unfold qva
 refine FnEq.of_awp Tryz.func96 ok96 (by show 2<=_;decide) (by simp only[push_cast,reduceIte,zA,zB,zC,zD,zE,zF,zG,reduceCtorEq,zH,zJ,cNI]<;>first|exact fun _ _=>trivial|simp) ?_
 simp only[ac96,rv96,push_cast,reduceIte,zA,zB,zC,zD,zE,zF,zG,reduceCtorEq,zH,zJ,cNI]
 refine qrv (qv4 g hg) sC ?_
 refine sB ?_
 refine⟨oM,?_⟩
 refine qrH ⟨[(1,.int n),(2,.ptr 2 0),(4,.ptr 4 0),(6,.int (n-allI g)),(14,.bool (decide (n<0\/qv2 g<=n)))],[(2,quX false g),(4,[.int 0,.int 0,.int 0,.int 0])],[],[]⟩ ?_ ?_
 ·refine qrA rfl (fun h=> ?_) fun h=> ?_<;>simp only[push_cast,reduceIte,zA,zB,zC,zD,zE,zF,zG,reduceCtorEq,zH,zJ,cNI]
  ·rw[decide_eq_true (show n<0\/qv2 g<=n from .inl h)]
  ·refine qrv (qv5 g hg) sC ?_
   refine sB ?_
   rw[show decide (qv2 g<=n)=decide (n<0\/qv2 g<=n)from by rw[decide_eq_decide];omega]
 refine sB ?_
 refine qnY (fun h=> ?_) fun h=> ?_
 ·rw[qv9,if_pos h]
  exact sC
 rw[qv9,if_neg h]
 refine sB ?_
 refine qnY (fun h5=> ?_) fun h5=> ?_
 ·rw[qv8,if_pos oM]
  refine sB ?_
  exact⟨oM,oM,oM⟩
 refine qnY (fun h6=> ?_) fun h6=> ?_
 ·rw[qv8,if_neg oM,if_pos oM]
  refine sB ?_
  exact⟨oM,oM⟩
 have hd:qv8 g n=(let t:=n/qv1 g;let i:=n%qv1 g;if 6+g.tracks<=i then⟨5,t%g.w,t/g.w,i-6-g.tracks⟩else if 6<=i then⟨4,t%g.w,t/g.w,i-6⟩else if 2<=i then⟨3,t%g.w,t/g.w,i-2⟩else if i=1 then⟨2,t%g.w,t/g.w,0⟩else⟨1,t%g.w,t/g.w,0⟩):=by rw[qv8,if_neg oM,if_neg oM]
 dsimp only at hd
 have e1:0<=n/qv1 g/\n/qv1 g<=n:=⟨Int.ediv_nonneg oM oM,Int.ediv_le_self _ oM⟩
 have e2:=Int.emod_nonneg n (show qv1 g≠0 by omega)
 have e3:=Int.emod_lt_of_pos n (show 0<qv1 g by omega)
 have e4:qv1 g=6+2*g.tracks:=rfl
 refine qrx (qv3 g hg) sC rfl ?_
 refine sB ?_
 refine⟨oM,?_⟩
 refine qrx (qv3 g hg) sC rfl ?_
 refine sB ?_
 refine⟨oM,oM,oM,?_⟩
 refine⟨oM,?_⟩
 refine qnY (fun h7=> ?_) fun h7=> ?_
 ·rw[show qv8 g n=⟨5,n/qv1 g%g.w,n/qv1 g/g.w,n%qv1 g-6-g.tracks⟩from by rw[hd,if_pos (show 6+g.tracks<=n%qv1 g by omega)]]
  exact⟨oM,oM,oM,rfl,rfl,rfl,congrArg (Value.int .i64) (by show _=n%qv1 g-6-g.tracks;omega)⟩
 refine qnY (fun h8=> ?_) fun h8=> ?_
 ·rw[show qv8 g n=⟨4,n/qv1 g%g.w,n/qv1 g/g.w,n%qv1 g-6⟩from by rw[hd,if_neg (show ¬6+g.tracks<=n%qv1 g by omega),if_pos (show 6<=n%qv1 g by omega)]]
  exact⟨oM,oM,rfl,rfl,rfl,congrArg (Value.int .i64) (by show _=n%qv1 g-6;omega)⟩
 refine qnY (fun h9=> ?_) fun h9=> ?_
 ·rw[show qv8 g n=⟨3,n/qv1 g%g.w,n/qv1 g/g.w,n%qv1 g-2⟩from by rw[hd,if_neg (show ¬6+g.tracks<=n%qv1 g by omega),if_neg (show ¬6<=n%qv1 g by omega),if_pos (show 2<=n%qv1 g by omega)]]
  exact⟨oM,rfl,rfl,rfl,rfl⟩
 refine qnY (fun h10=> ?_) fun h10=> ?_
 ·rw[show qv8 g n=⟨2,n/qv1 g%g.w,n/qv1 g/g.w,0⟩from by rw[hd,if_neg (show ¬6+g.tracks<=n%qv1 g by omega),if_neg (show ¬6<=n%qv1 g by omega),if_neg (show ¬2<=n%qv1 g by omega),if_pos (show n%qv1 g=1 by omega)]]
  exact⟨rfl,rfl,rfl,rfl⟩
 ·rw[show qv8 g n=⟨1,n/qv1 g%g.w,n/qv1 g/g.w,0⟩from by rw[hd,if_neg (show ¬6+g.tracks<=n%qv1 g by omega),if_neg (show ¬6<=n%qv1 g by omega),if_neg (show ¬2<=n%qv1 g by omega),if_neg (show ¬n%qv1 g=1 by omega)]]
  exact⟨rfl,rfl,rfl,rfl⟩
structure SOk (s:Spot):Prop where
 x: -1<=s.x/\s.x<=65
 y: -1<=s.y/\s.y<=65
 i: -1<=s.i/\s.i<=2000
def qvc(g:Grid)(s:Spot):Int:=(s.y*g.w+s.x)*qv1 g
def qvd(g:Grid)(s:Spot):Int:=
 if s.kind=1 then qvc g s else if s.kind=2 then qvc g s+1 else if s.kind=3 then qvc g s+2+s.i else if s.kind=4 then qvc g s+2+4+s.i
 else if s.kind=5 then qvc g s+2+4+g.tracks+s.i else if s.kind=6 then allI g+s.i else if s.kind=7 then allI g+g.pads+s.i else -1
def qve(g:Grid)(s:Spot):Int×Int:=if(qv9 g (qvd g s)).2=0/\(qv9 g (qvd g s)).1=s then(qvd g s,0)else(0,1)
theorem qvf{a b A B:Int}(h1: -A<=a/\a<=A)(h2: -B<=b/\b<=B)(h3:0<=A)(h4:0<=B): -(A*B)<=a*b/\a*b<=A*B:=by
 have k1:=Int.natAbs_mul a b
 have k2:(a.natAbs:Int)<=A:=by omega
 have k3:(b.natAbs:Int)<=B:=by omega
 have k4:(a.natAbs:Int)*b.natAbs<=A*B:=Int.mul_le_mul k2 k3 oM oM
 have k5:((a*b).natAbs:Int)<=A*B:=by rw[k1,Int.natCast_mul];exact k4
 omega
theorem qvg{g:Grid}(hg:GOk g){s:Spot}(hs:SOk s):(-4160<=s.y*g.w/\s.y*g.w<=4160)/\ -600000<=qvc g s/\qvc g s<=600000:=by
 have h1:=hg.w
 have h2:=hg.each
 have h3:=hs.x
 have h4:=hs.y
 have h5:=qvf (A:=65) (B:=64) (a:=s.y) (b:=g.w) oM oM oM oM
 have h6:=qvf (A:=4225) (B:=134) (a:=s.y*g.w+s.x) (b:=qv1 g) oM oM oM oM
 unfold qvc
 omega
theorem qvh(d s:Spot):(decide (d.kind=s.kind)&&(decide (d.x=s.x)&&(decide (d.y=s.y)&&decide (d.i=s.i))))=decide (d=s):=by
 obtain⟨a,b,c,e⟩:=d
 obtain⟨a',b',c',e'⟩:=s
 rw[Bool.eq_iff_iff]
 simp
theorem qvi (g : Grid) (hg : GOk g) (s : Spot) (n : Int) (hn : -1000000000 <= n /\ n <= 1000000000) (st : St) (hst : st.keepS [0, 87, 2, 3, 7] = ⟨[(2, .ptr 2 0), (3, .ptr 3 0), (7, .int n)], [(2, quX false g), (3, quY s)], [], []⟩) (Q : PV -> Prop)
  (hq:Q (.tup [.int (if(qv9 g n).2=0/\(qv9 g n).1=s then n else 0),.int (if(qv9 g n).2=0/\(qv9 g n).1=s then 0 else 1)])):
  awp (Env.of Tryz.prog) ac107_r18 (retK [RV.tmp 4,RV.tmp 5] Q) st:=by
 simp only[ac107_r18,push_cast,reduceIte,zA,zB,zC,zD,zE,zF,zG,reduceCtorEq,zH,zJ,cNI,hst]
 refine qrv (qvb g hg n hn) sC ?_
 obtain⟨⟨d,e⟩,hde⟩: ∃p,qv9 g n=p:=⟨_,rfl⟩
 rw[hde]at hq ⊢
 simp only[qva,push_cast,reduceIte,zA,zB,zC,zD,zE,zF,zG,reduceCtorEq,zH,zJ,cNI]at hq ⊢
 refine qrH ⟨[(7,.int n),(85,.bool (decide ¬(e=0/\d=s)))],[(2,quX false g),(3,quY s),(8,quY d)],[],[]⟩ ?_ ?_
 ·refine qrA rfl (fun h=> ?_) fun h=> ?_<;>simp only[push_cast,reduceIte,zA,zB,zC,zD,zE,zF,zG,reduceCtorEq,zH,zJ,cNI]
  ·rw[decide_eq_true (show ¬(e=0/\d=s)from fun hh=>h hh.1)]
  ·have he:e=0:=by simpa using h
   have hb:=qvh d s
   rw[show(!(decide (d.kind=s.kind)&&(decide (d.x=s.x)&&(decide (d.y=s.y)&&decide (d.i=s.i)))))=decide ¬(e=0/\d=s)from by rw[hb];simp[he]]
 ·refine sB ?_
  refine qnY (fun h=> ?_) fun h=> ?_
  ·rw[if_neg h,if_neg h]at hq
   exact hq
  ·rw[if_pos (Classical.not_not.1 h),if_pos (Classical.not_not.1 h)]at hq
   exact hq
theorem qvj(g:Grid)(hg:GOk g)(s:Spot)(hs:SOk s):FnEq Tryz.prog 107 [.agg (quX false g),.agg (quY s)] (.tup [.int (qve g s).1,.int (qve g s).2]):=by
 obtain⟨h1,h2⟩:=qvg hg hs
 have h3:=hg.all
 have h4:=hg.pads
 have h5:=hg.tracks
 have h6:=hs.i
 have h7:=hs.x
 have e:(s.y*g.w+s.x)*qv1 g=qvc g s:=rfl
 have key: ∀n,qvd g s=n->(PV.tup [.int (if(qv9 g n).2=0/\(qv9 g n).1=s then n else 0),.int (if(qv9 g n).2=0/\(qv9 g n).1=s then 0 else 1)])= .tup [.int (qve g s).1,.int (qve g s).2]:=fun n hn=>by
  rw[qve,hn]
  split<;>rfl
 refine FnEq.of_awp Tryz.func107 ok107 (by show 2<=_;decide) (by simp only[push_cast,reduceIte,zA,zB,zC,zD,zE,zF,zG,reduceCtorEq,zH,zJ,cNI]<;>first|exact fun _ _=>trivial|simp) ?_
 simp only[ac107,rv107,push_cast,reduceIte,zA,zB,zC,zD,zE,zF,zG,reduceCtorEq,zH,zJ,cNI]
 refine⟨oM,oM,?_⟩
 refine qrx (qv3 g hg) sC rfl ?_
 refine sB ?_
 rw[e]
 refine⟨oM,?_⟩
 refine qnY (fun k1=> ?_) fun k1=> ?_
 ·refine qvi g hg s (qvc g s) oM _ sC _ ?_
  rw[key _ (by rw[qvd,if_pos k1])]
  exact .refl _
 refine qnY (fun k2=> ?_) fun k2=> ?_
 ·refine⟨oM,?_⟩
  refine qvi g hg s (qvc g s+1) oM _ sC _ ?_
  rw[key _ (by rw[qvd,if_neg k1,if_pos k2])]
  exact .refl _
 refine qnY (fun k3=> ?_) fun k3=> ?_
 ·refine⟨oM,oM,?_⟩
  refine qvi g hg s (qvc g s+2+s.i) oM _ sC _ ?_
  rw[key _ (by rw[qvd,if_neg k1,if_neg k2,if_pos k3])]
  exact .refl _
 refine qnY (fun k4=> ?_) fun k4=> ?_
 ·refine⟨oM,oM,oM,?_⟩
  refine qvi g hg s (qvc g s+2+4+s.i) oM _ sC _ ?_
  rw[key _ (by rw[qvd,if_neg k1,if_neg k2,if_neg k3,if_pos k4])]
  exact .refl _
 refine qnY (fun k5=> ?_) fun k5=> ?_
 ·refine⟨oM,oM,oM,oM,?_⟩
  refine qvi g hg s (qvc g s+2+4+g.tracks+s.i) oM _ sC _ ?_
  rw[key _ (by rw[qvd,if_neg k1,if_neg k2,if_neg k3,if_neg k4,if_pos k5])]
  exact .refl _
 refine qnY (fun k6=> ?_) fun k6=> ?_
 ·refine qrx (qv4 g hg) sC rfl ?_
  refine sB ?_
  refine⟨oM,?_⟩
  refine qvi g hg s (allI g+s.i) oM _ sC _ ?_
  rw[key _ (by rw[qvd,if_neg k1,if_neg k2,if_neg k3,if_neg k4,if_neg k5,if_pos k6])]
  exact .refl _
 refine qnY (fun k7=> ?_) fun k7=> ?_
 ·refine qrx (qv4 g hg) sC rfl ?_
  refine sB ?_
  refine⟨oM,oM,?_⟩
  refine qvi g hg s (allI g+g.pads+s.i) oM _ sC _ ?_
  rw[key _ (by rw[qvd,if_neg k1,if_neg k2,if_neg k3,if_neg k4,if_neg k5,if_neg k6,if_pos k7])]
  exact .refl _
 ·refine qvi g hg s (-1) oM _ sC _ ?_
  rw[key _ (by rw[qvd,if_neg k1,if_neg k2,if_neg k3,if_neg k4,if_neg k5,if_neg k6,if_neg k7])]
  exact .refl _
@[push_cast] theorem qvk{α:Type}(z x:α):(List.replicate 1 z).set 0 x=[x]:=rfl
@[push_cast] theorem qvl{α:Type}(l:List α):l.take l.length=l:=List.take_length
@[push_cast] theorem qvm{α:Type}(x:α):List.take 1 [x]=[x]:=rfl
theorem qvn{α:Type}(f:α->List PV)(x:α):rows f [x]=[f x]:=rfl
def lv:List Int->PV
 |[]=> .nil
 |x::l=> .view 434 0 (x::l).length
def la:List Int->List (Nat×Arr)
 |[]=>[]
 |x::l=>[(434,⟨1,3,ints (x::l)⟩)]
@[push_cast] theorem qvo:lv []= .nil:=rfl
@[push_cast] theorem qvp:la []=[]:=rfl
theorem qvq{l:List Int}(h:l≠[]):lv l= .view 434 0 l.length:=by cases l with|nil=>exact absurd rfl h|cons x r=>rfl
theorem qvr{l:List Int}(h:l≠[]):la l=[(434,⟨1,3,ints l⟩)]:=by cases l with|nil=>exact absurd rfl h|cons x r=>rfl
def stD(g:Grid)(s:Spot)(l:List Int)(xs:List (Nat×List PV)):St:=
 ⟨[(0,.ptr 2 0),(1,.ptr 5 0),(2,.ptr 7 0),(3,.ptr 18 0),(4,.ptr 103 0),(5,.ptr 104 0)],
  (2,quX false g)::(5,quY s)::(7,[.ptr 18 0])::(18,[.int g.w,.int g.h,.int g.tracks,.int g.pads,.sl false 1 (ints g.kind),lv l])::xs,la l,[]⟩
def addF(g:Grid)(l:List Int)(s:Spot):List Int:=if(qve g s).2=0 then l++[(qve g s).1]else l
theorem qvs(g:Grid)(l:List Int)(s:Spot):(addF g l s).length<=l.length+1:=by unfold addF;split<;>simp
theorem qvt (g : Grid) (hg : GOk g) (s : Spot) (l : List Int) (hl : (l.length : Int) <= 1000000) (xs : List (Nat × List PV)) (hx : ∀ i, qiF nul (isId i) xs = xs) (t : Spot) (ht : SOk t) :
  FnM (Env.of Tryz.prog) 98 [.ptr 18 0,.int t.kind,.int t.x,.int t.y,.int t.i] (stD g s l xs) (fun r st' =>r= .tup []/\st' =stD g s (addF g l t) xs):=by
 refine FnM.dropA 433 ?_
 unfold stD
 by_cases hn:l=[]
 ·subst hn
  refine quf 400 Tryz.func98 ok98_400 (by show 5<=_;decide) rfl (by show 0<=400;decide) ?_
  simp only[ac98_400,rv98_400,push_cast,reduceIte,zA,zB,zC,zD,zE,zF,zG,reduceCtorEq,zH,zJ,cNI]
  refine qrv (qvj g hg t ht) sC ?_
  refine sB ?_
  refine qnY (fun h=> ?_) fun h=> ?_
  ·have hf:addF g [] t=[(qve g t).1]:=by rw[addF,if_pos h];rfl
   rw[hf]
   simp only[hx,qvn,push_cast,reduceIte,zA,zB,zC,zD,zE,zF,zG,reduceCtorEq,zH,zJ,cNI]
   exact⟨by simp,rfl⟩
  ·have hf:addF g [] t=[]:=by rw[addF,if_neg h]
   rw[hf]
   rfl
 ·rw[qvq hn,qvr hn]
  refine quf 400 Tryz.func98 ok98_400 (by show 5<=_;decide) rfl (by show 0<=400;decide) ?_
  simp only[ac98_400,rv98_400,push_cast,reduceIte,zA,zB,zC,zD,zE,zF,zG,reduceCtorEq,zH,zJ,cNI]
  refine qrv (qvj g hg t ht) sC ?_
  refine sB ?_
  refine qnY (fun h=> ?_) fun h=> ?_
  ·have hf:addF g l t=l++[(qve g t).1]:=by rw[addF,if_pos h]
   rw[hf,qvq (by simp),qvr (by simp)]
   simp only[hx,push_cast,reduceIte,zA,zB,zC,zD,zE,zF,zG,reduceCtorEq,zH,zJ,cNI]
   refine⟨by simp,oM,?_⟩
   simp[ints]
  ·have hf:addF g l t=l:=by rw[addF,if_neg h]
   rw[hf,qvq hn,qvr hn]
def PS:List (Nat×PV):=[(0,.ptr 2 0),(1,.ptr 5 0),(2,.ptr 7 0),(3,.ptr 18 0),(4,.ptr 103 0),(5,.ptr 104 0)]
@[push_cast] theorem qvu:PS=[(0,.ptr 2 0),(1,.ptr 5 0),(2,.ptr 7 0),(3,.ptr 18 0),(4,.ptr 103 0),(5,.ptr 104 0)]:=rfl
def stX(z:List (Nat×PV))(g:Grid)(s:Spot)(l:List Int)(xs:List (Nat×List PV)):St:=
 ⟨z,(2,quX false g)::(5,quY s)::(7,[.ptr 18 0])::(18,[.int g.w,.int g.h,.int g.tracks,.int g.pads,.sl false 1 (ints g.kind),lv l])::xs,la l,[]⟩
theorem qvv(z:List (Nat×PV))(g:Grid)(s:Spot)(l:List Int)(xs:List (Nat×List PV)):stX z g s l xs=
 ⟨z,(2,quX false g)::(5,quY s)::(7,[.ptr 18 0])::(18,[.int g.w,.int g.h,.int g.tracks,.int g.pads,.sl false 1 (ints g.kind),lv l])::xs,la l,[]⟩:=rfl
theorem qvw {f : Nat} {args : List PV} {z : List (Nat × PV)} {g : Grid} {s : Spot} {l l' : List Int} {xs : List (Nat × List PV)} (hz : frT z PS z) (h : FnM (Env.of Tryz.prog) f args (stX PS g s l xs) (fun r st' => r = .tup [] /\ st' = stX PS g s l' xs)) :
  FnM (Env.of Tryz.prog) f args (stX z g s l xs) (fun r st' =>r= .tup []/\st' =stX z g s l' xs):=
 FnM.frame PS z rfl rfl hz (FnM.mono h fun r st' hq=>by
  obtain⟨rfl,rfl⟩:=hq
  exact⟨_,_,_,rfl,rfl,rfl⟩)
def qvx(g:Grid)(l:List Int)(x y t:Int):List Int:=
 if x<0\/g.w<=x\/y<0\/g.h<=y then l else addF g (addF g (addF g (addF g l ⟨4,x,y,t⟩) ⟨5,x,y,t⟩) ⟨4,x-1,y,t⟩) ⟨5,x,y-1,t⟩
theorem qvy(g:Grid)(l:List Int)(x y t:Int):(qvx g l x y t).length<=l.length+4:=by
 unfold qvx
 split
 ·omega
 ·have h1:=qvs g l ⟨4,x,y,t⟩
  have h2:=qvs g (addF g l ⟨4,x,y,t⟩) ⟨5,x,y,t⟩
  have h3:=qvs g (addF g (addF g l ⟨4,x,y,t⟩) ⟨5,x,y,t⟩) ⟨4,x-1,y,t⟩
  have h4:=qvs g (addF g (addF g (addF g l ⟨4,x,y,t⟩) ⟨5,x,y,t⟩) ⟨4,x-1,y,t⟩) ⟨5,x,y-1,t⟩
  omega
theorem qvz (g : Grid) (hg : GOk g) (s : Spot) (l : List Int) (hl : (l.length : Int) <= 900000) (xs : List (Nat × List PV)) (hx : ∀ i, qiF nul (isId i) xs = xs) (x y t : Int) (hb : (-1 <= x /\ x <= 65) /\ (-1 <= y /\ y <= 65) /\ (0 <= t /\ t <= 64)) :
  FnM (Env.of Tryz.prog) 101 [.ptr 18 0,.int x,.int y,.int t] (stX PS g s l xs) (fun r st' =>r= .tup []/\st' =stX PS g s (qvx g l x y t) xs):=by
 rw[qvv,qvu]
 refine quf 250 Tryz.func101 ok101_250 (by show 4<=_;decide) rfl (by show 0<=250;decide) ?_
 simp only[ac101_250,rv101_250,push_cast,reduceIte,zA,zB,zC,zD,zE,zF,zG,reduceCtorEq,zH,zJ,cNI]
 refine qrH ⟨[(0,.ptr 2 0),(1,.ptr 5 0),(2,.ptr 7 0),(3,.ptr 18 0),(4,.ptr 103 0),(5,.ptr 104 0),(250,.ptr 18 0),(251,.int x),(252,.int y),(253,.int t),(281,.bool (decide (x<0\/g.w<=x\/y<0\/g.h<=y)))],(2,quX false g)::(5,quY s)::(7,[.ptr 18 0])::(18,[.int g.w,.int g.h,.int g.tracks,.int g.pads,.sl false 1 (ints g.kind),lv l])::xs,la l,[]⟩ ?_ ?_
 ·refine qrA rfl (fun h=> ?_) fun h=> ?_<;>simp only[push_cast,reduceIte,zA,zB,zC,zD,zE,zF,zG,reduceCtorEq,zH,zJ,cNI]
  ·simp[h]
  refine qrA rfl (fun h2=> ?_) fun h2=> ?_<;>simp only[push_cast,reduceIte,zA,zB,zC,zD,zE,zF,zG,reduceCtorEq,zH,zJ,cNI]
  ·simp[h,h2]
  refine qrA rfl (fun h3=> ?_) fun h3=> ?_<;>simp only[push_cast,reduceIte,zA,zB,zC,zD,zE,zF,zG,reduceCtorEq,zH,zJ,cNI]
  ·simp[h,h2,h3]
  simp[h,h2,h3]
 refine sB ?_
 refine qnY (fun h=> ?_) fun h=> ?_
 ·rw[qvx,if_pos h]
  first|rfl|exact⟨rfl,rfl⟩
 have hw:=hg.w
 have hh:=hg.h
 have h1:=qvs g l ⟨4,x,y,t⟩
 have h2:=qvs g (addF g l ⟨4,x,y,t⟩) ⟨5,x,y,t⟩
 have h3:=qvs g (addF g (addF g l ⟨4,x,y,t⟩) ⟨5,x,y,t⟩) ⟨4,x-1,y,t⟩
 have e1:(4:Int)=(⟨4,x,y,t⟩:Spot).kind:=rfl
 rw[qvx,if_neg h]
 refine qsP (qvw ?_ (qvt g hg s (l) oM xs hx ⟨4,x,y,t⟩ ⟨by show -1<=x/\x<=65;omega,by show -1<=y/\y<=65;omega,by show -1<=t/\t<=2000;omega⟩)) ?_
 ·exact sC
 simp only[qvv,push_cast,reduceIte,zA,zB,zC,zD,zE,zF,zG,reduceCtorEq,zH,zJ,cNI]
 refine qsP (qvw ?_ (qvt g hg s (addF g l ⟨4,x,y,t⟩) oM xs hx ⟨5,x,y,t⟩ ⟨by show -1<=x/\x<=65;omega,by show -1<=y/\y<=65;omega,by show -1<=t/\t<=2000;omega⟩)) ?_
 ·exact sC
 simp only[qvv,push_cast,reduceIte,zA,zB,zC,zD,zE,zF,zG,reduceCtorEq,zH,zJ,cNI]
 refine⟨oM,?_⟩
 refine qsP (qvw ?_ (qvt g hg s (addF g (addF g l ⟨4,x,y,t⟩) ⟨5,x,y,t⟩) oM xs hx ⟨4,x-1,y,t⟩ ⟨by show -1<=x-1/\x-1<=65;omega,by show -1<=y/\y<=65;omega,by show -1<=t/\t<=2000;omega⟩)) ?_
 ·exact sC
 simp only[qvv,push_cast,reduceIte,zA,zB,zC,zD,zE,zF,zG,reduceCtorEq,zH,zJ,cNI]
 refine⟨oM,?_⟩
 refine qsP (qvw ?_ (qvt g hg s (addF g (addF g (addF g l ⟨4,x,y,t⟩) ⟨5,x,y,t⟩) ⟨4,x-1,y,t⟩) oM xs hx ⟨5,x,y-1,t⟩ ⟨by show -1<=x/\x<=65;omega,by show -1<=y-1/\y-1<=65;omega,by show -1<=t/\t<=2000;omega⟩)) ?_
 ·exact sC
 simp only[qvv,push_cast,reduceIte,zA,zB,zC,zD,zE,zF,zG,reduceCtorEq,zH,zJ,cNI]
def allN(g:Grid)(x y:Int)(l:List Int):Nat->List Int
 |0=>l
 |t+1=>qvx g (allN g x y l t) x y t
def allF(g:Grid)(l:List Int)(x y:Int):List Int:=allN g x y l g.tracks.toNat
theorem qvA(g:Grid)(x y:Int)(l:List Int): ∀n,(allN g x y l n).length<=l.length+4*n
 |0=>by simp[allN]
 |n+1=>by have h1:=qvA g x y l n;have h2:=qvy g (allN g x y l n) x y n;rw[allN];omega
theorem qvB (g : Grid) (hg : GOk g) (s : Spot) (l : List Int) (hl : (l.length : Int) <= 800000) (x y : Int) (hb : (-1 <= x /\ x <= 65) /\ (-1 <= y /\ y <= 65)) :
  FnM (Env.of Tryz.prog) 97 [.ptr 18 0,.int x,.int y] (stX PS g s l []) (fun r st' =>r= .tup []/\st' =stX PS g s (allF g l x y) []):=by
 have ht:=hg.tracks
 obtain⟨n,hn⟩: ∃n:Nat,g.tracks=n:=⟨g.tracks.toNat,oM⟩
 rw[qvv,qvu]
 refine quf 200 Tryz.func97 ok97_200 (by show 3<=_;decide) rfl (by show 0<=200;decide) ?_
 simp only[ac97_200,rv97_200,push_cast,reduceIte,zA,zB,zC,zD,zE,zF,zG,reduceCtorEq,zH,zJ,cNI]
 refine qoP (fun m st=> ∃k:Nat,k<=n/\m=n-k/\st=stX [(0,.ptr 2 0),(1,.ptr 5 0),(2,.ptr 7 0),(3,.ptr 18 0),(4,.ptr 103 0),(5,.ptr 104 0),(200,.ptr 18 0),(201,.int x),(202,.int y),(211,.int g.tracks),(212,.int k)] g s (allN g x y l k) []) n ?_ ?_
 ·refine⟨0,oM,oM,?_⟩
  rw[allN]
  rcases l with _|⟨a,r⟩
  ·simp only[qvv,push_cast,reduceIte,zA,zB,zC,zD,zE,zF,zG,reduceCtorEq,zH,zJ,cNI]
  ·simp only[qvv,lv,la,push_cast,reduceIte,zA,zB,zC,zD,zE,zF,zG,reduceCtorEq,zH,zJ,cNI]
 ·rintro m st ⟨k,hk,rfl,rfl⟩
  simp only[qvv,push_cast,reduceIte,zA,zB,zC,zD,zE,zF,zG,reduceCtorEq,zH,zJ,cNI]
  have hlen:=qvA g x y l k
  refine qnY (fun h=> ?_) fun h=> ?_
  ·refine qsP (qvw ?_ (qvz g hg s (allN g x y l k) oM [] (fun i=>rfl) x y k ⟨hb.1,hb.2,oM⟩)) ?_
   ·exact sC
   simp only[qvv,push_cast,reduceIte,zA,zB,zC,zD,zE,zF,zG,reduceCtorEq,zH,zJ,cNI]
   refine⟨oM,_,?_,k+1,oM,rfl,?_⟩
   ·omega
   ·show _=_
    have e:allN g x y l (k+1)=qvx g (allN g x y l k) x y k:=rfl
    rw[e]
    generalize qvx g (allN g x y l k) x y k=l'
    rcases l' with _|⟨a,r⟩
    ·simp only[lv,la,push_cast,reduceIte,zA,zB,zC,zD,zE,zF,zG,reduceCtorEq,zH,zJ,cNI]
    ·simp only[lv,la,push_cast,reduceIte,zA,zB,zC,zD,zE,zF,zG,reduceCtorEq,zH,zJ,cNI]
  ·have e:allF g l x y=allN g x y l k:=by rw[allF,show g.tracks.toNat=k from by omega]
   rw[e]
def padR(g:Grid)(y:Int):Nat->Int->List Int->List Int
 |0,_,l=>l
 |f+1,k,l=>if k<g.pads then padR g y f (k+g.h) (addF g l ⟨6,-1,y,k⟩)else l
def qvC(g:Grid)(l:List Int)(y:Int):List Int:=padR g y g.pads.toNat y l
theorem qvD(g:Grid)(y:Int): ∀f k l,(padR g y f k l).length<=l.length+f
 |0,_,l=>by simp[padR]
 | f + 1, k, l => by
   rw[padR]
   split
   ·have h1:=qvD g y f (k+g.h) (addF g l ⟨6,-1,y,k⟩)
    have h2:=qvs g l ⟨6,-1,y,k⟩
    omega
   ·omega
theorem qvE {f : Nat} {args : List PV} {z : List (Nat × PV)} (t : List (Nat × PV)) {g : Grid} {s : Spot} {l l' : List Int} {xs : List (Nat × List PV)} (hz : frT z PS t) (h : FnM (Env.of Tryz.prog) f args (stX PS g s l xs) (fun r st' => r = .tup [] /\ st' = stX PS g s l' xs)) :
  FnM (Env.of Tryz.prog) f args (stX z g s l xs) (fun r st' =>r= .tup []/\st' =stX t g s l' xs):=
 FnM.frame PS t rfl rfl hz (FnM.mono h fun r st' hq=>by
  obtain⟨rfl,rfl⟩:=hq
  exact⟨_,_,_,rfl,rfl,rfl⟩)
def endF(g:Grid)(s:Spot)(l:List Int)(x y:Int):List Int:=
 let l3:=qvx g (addF g (addF g l ⟨1,x,y,0⟩) ⟨2,x,y,0⟩) x y s.i
 if x=0 then qvC g l3 y else l3
theorem qvF(g:Grid)(hg:GOk g)(s:Spot)(l:List Int)(x y:Int):(endF g s l x y).length<=l.length+1006:=by
 have h0:=hg.pads
 have h1:=qvs g l ⟨1,x,y,0⟩
 have h2:=qvs g (addF g l ⟨1,x,y,0⟩) ⟨2,x,y,0⟩
 have h3:=qvy g (addF g (addF g l ⟨1,x,y,0⟩) ⟨2,x,y,0⟩) x y s.i
 have h4:=qvD g y g.pads.toNat y (qvx g (addF g (addF g l ⟨1,x,y,0⟩) ⟨2,x,y,0⟩) x y s.i)
 simp only[endF,qvC]
 split<;>omega
def XB(g:Grid)(s:Spot):List (Nat×List PV):=[(103,quX false g),(104,quY s)]
@[push_cast] theorem qvG(g:Grid)(s:Spot):XB g s=[(103,quX false g),(104,quY s)]:=rfl
theorem qvH(g:Grid)(s:Spot)(i:Nat):qiF nul (isId i) (XB g s)=XB g s:=by simp only[push_cast,reduceIte,zA,zB,zC,zD,zE,zF,zG,reduceCtorEq,zH,zJ,cNI]
theorem qvI (g : Grid) (hg : GOk g) (s : Spot) (hs : SOk s) (hsi : 0 <= s.i /\ s.i <= 64) (l : List Int) (hl : (l.length : Int) <= 100000) (x y : Int) (hb : (0 <= x /\ x <= 64) /\ (0 <= y /\ y <= 64)) :
  FnM (Env.of Tryz.prog) 100 [.int x,.int y,.ptr 7 0,.ptr 5 0,.ptr 2 0] (stX PS g s l (XB g s)) (fun r st' =>r= .tup []/\st' =stX PS g s (endF g s l x y) (XB g s)):=by
 have hp:=hg.pads
 have hh:=hg.h
 have a1:=qvs g l ⟨1,x,y,0⟩
 have a2:=qvs g (addF g l ⟨1,x,y,0⟩) ⟨2,x,y,0⟩
 have a3:=qvy g (addF g (addF g l ⟨1,x,y,0⟩) ⟨2,x,y,0⟩) x y s.i
 rw[qvv,qvu]
 refine quf 150 Tryz.func100 ok100_150 (by show 5<=_;decide) rfl (by show 0<=150;decide) ?_
 simp only[ac100_150,rv100_150,push_cast,reduceIte,zA,zB,zC,zD,zE,zF,zG,reduceCtorEq,zH,zJ,cNI]
 refine qsP (qvw ?_ (qvt g hg s l oM (XB g s) (qvH g s) ⟨1,x,y,0⟩ ⟨by show -1<=x/\x<=65;omega,by show -1<=y/\y<=65;omega,by show(-1:Int)<=0/\(0:Int)<=2000;omega⟩)) ?_
 ·exact sC
 simp only[qvv,push_cast,reduceIte,zA,zB,zC,zD,zE,zF,zG,reduceCtorEq,zH,zJ,cNI]
 refine qsP (qvw ?_ (qvt g hg s (addF g l ⟨1,x,y,0⟩) oM (XB g s) (qvH g s) ⟨2,x,y,0⟩ ⟨by show -1<=x/\x<=65;omega,by show -1<=y/\y<=65;omega,by show(-1:Int)<=0/\(0:Int)<=2000;omega⟩)) ?_
 ·exact sC
 simp only[qvv,push_cast,reduceIte,zA,zB,zC,zD,zE,zF,zG,reduceCtorEq,zH,zJ,cNI]
 refine qsP (qvE [(0,.ptr 2 0),(1,.ptr 5 0),(2,.ptr 7 0),(3,.ptr 18 0),(4,.ptr 103 0),(5,.ptr 104 0),(150,.int x),(151,.int y),(152,.ptr 7 0),(153,.ptr 5 0),(154,.ptr 2 0)] ?_ (qvz g hg s (addF g (addF g l ⟨1,x,y,0⟩) ⟨2,x,y,0⟩) oM (XB g s) (qvH g s) x y s.i ⟨oM,oM,hsi⟩)) ?_
 ·exact sC
 simp only[qvv,push_cast,reduceIte,zA,zB,zC,zD,zE,zF,zG,reduceCtorEq,zH,zJ,cNI]
 obtain⟨l3,hl3⟩: ∃l3,qvx g (addF g (addF g l ⟨1,x,y,0⟩) ⟨2,x,y,0⟩) x y s.i=l3:=⟨_,rfl⟩
 have hE:endF g s l x y=if x=0 then qvC g l3 y else l3:=by simp only[endF,hl3]
 rw[hl3]at a3 ⊢
 rw[hE]
 have hl3b:(l3.length:Int)<=100006:=by omega
 clear hE hl3 a3 a2 a1
 refine qoP (fun m st=> ∃(k:Int) (f:Nat) (l' :List Int),(0<=k/\k<=2000)/\m=f/\g.pads-k<=f/\(l'.length:Int)+f<=102000/\qvC g l3 y=padR g y f k l' /\(x≠0->l' =l3)/\
  st=stX [(0,.ptr 2 0),(1,.ptr 5 0),(2,.ptr 7 0),(3,.ptr 18 0),(4,.ptr 103 0),(5,.ptr 104 0),(150,.int x),(151,.int y),(152,.ptr 7 0),(154,.ptr 2 0),(157,.int k)] g s l' (XB g s)) g.pads.toNat ?_ ?_
 ·refine⟨y,g.pads.toNat,l3,oM,rfl,oM,oM,rfl,fun _=>rfl,?_⟩
  rcases l3 with _|⟨a,r⟩<;>simp only[qvv,lv,la,push_cast,reduceIte,zA,zB,zC,zD,zE,zF,zG,reduceCtorEq,zH,zJ,cNI]
 ·rintro m st ⟨k,f,l',hk,rfl,hf,hlf,hpad,hx0,rfl⟩
  simp only[qvv,push_cast,reduceIte,zA,zB,zC,zD,zE,zF,zG,reduceCtorEq,zH,zJ,cNI]
  refine qrH (stX [(0,.ptr 2 0),(1,.ptr 5 0),(2,.ptr 7 0),(3,.ptr 18 0),(4,.ptr 103 0),(5,.ptr 104 0),(150,.int x),(151,.int y),(152,.ptr 7 0),(154,.ptr 2 0),(157,.int k),(180,.bool (decide (x=0/\k<g.pads)))] g s l' (XB g s)) ?_ ?_
  ·refine qrz rfl (fun h=> ?_) fun h=> ?_<;>simp only[qvv,push_cast,reduceIte,zA,zB,zC,zD,zE,zF,zG,reduceCtorEq,zH,zJ,cNI]
   ·simp[h]
   ·simp[h]
  ·simp only[qvv,push_cast,reduceIte,zA,zB,zC,zD,zE,zF,zG,reduceCtorEq,zH,zJ,cNI]
   refine qnY (fun h=> ?_) fun h=> ?_
   ·obtain⟨f',rfl⟩: ∃f',m=f' +1:=⟨m-1,oM⟩
    have a4:=qvs g l' ⟨6,-1,y,k⟩
    refine qsP (qvw ?_ (qvt g hg s l' oM (XB g s) (qvH g s) ⟨6,-1,y,k⟩ ⟨by show(-1:Int)<= -1/\(-1:Int)<=65;omega,by show -1<=y/\y<=65;omega,by show -1<=k/\k<=2000;omega⟩)) ?_
    ·exact sC
    simp only[qvv,push_cast,reduceIte,zA,zB,zC,zD,zE,zF,zG,reduceCtorEq,zH,zJ,cNI]
    refine⟨oM,f',oM,k+g.h,f',addF g l' ⟨6,-1,y,k⟩,oM,rfl,oM,oM,?_,fun hx=>absurd h.1 hx,?_⟩
    ·rw[hpad,padR,if_pos h.2]
    ·generalize addF g l' ⟨6,-1,y,k⟩=l2
     rcases l2 with _|⟨a,r⟩<;>simp only[lv,la,push_cast,reduceIte,zA,zB,zC,zD,zE,zF,zG,reduceCtorEq,zH,zJ,cNI]
   ·have e : (if x = 0 then qvC g l3 y else l3) = l' := by
     by_cases hx:x=0
     ·rw[if_pos hx,hpad]
      cases m with
      |zero=>rfl
      |succ f=>rw[padR,if_neg (fun h2=>h ⟨hx,h2⟩)]
     ·rw[if_neg hx,hx0 hx]
    rw[e]
end Go.Proofs.YtecoaapkcnhlhaaGreatDoor
namespace Go.Vc
theorem FnM.dropB{E:Env}{f:Nat}{args:List PV}{st:St}{Q:PV->St->Prop}(i:Nat)(h:FnM E f args st fun r st' =>Q r { st' with b:=rm st'.b i }):FnM E f args st Q:=
 ⟨h.1,fun w0 Z0 X G Z L w vs h1 h2 h3=>(h.2 w0 Z0 X G Z L w vs h1 h2 h3).mono fun _ _ ⟨v,r,st',Z',L',e1,e2,e3,e4⟩=>⟨v,r,_,Z',L',e1,e2,e3.forget (fun i v hl=> .inl hl) (fun j A hl=>by
  rw[qa4]at hl
  split at hl
  ·cases hl
  ·exact hl) (fun _ _ h=>h) (fun _ _ h=>h),e4⟩⟩
end Go.Vc
namespace Go.Proofs.YtecoaapkcnhlhaaGreatDoor
open Go Go.Vc Txt
def qvJ(g:Grid)(s:Spot)(l:List Int):List Int:=
 let l1:=endF g s l s.x s.y
 if s.kind=4 then(if s.x+1<g.w/\s.y<g.h then endF g s l1 (s.x+1) s.y else l1)else(if s.x<g.w/\s.y+1<g.h then endF g s l1 s.x (s.y+1)else l1)
@[push_cast] theorem qvK(i:Nat)(l:List Int):PV.to (isId i) nul (lv l)=false:=by cases l<;>rfl
def P4:List (Nat×PV):=[(0,.ptr 2 0),(1,.ptr 5 0),(2,.ptr 7 0),(3,.ptr 18 0)]
@[push_cast] theorem qvL:P4=[(0,.ptr 2 0),(1,.ptr 5 0),(2,.ptr 7 0),(3,.ptr 18 0)]:=rfl
def qvM(g:Grid)(s:Spot)(l1:List Int):List Int:=
 if s.kind=4 then(if s.x+1<g.w/\s.y<g.h then endF g s l1 (s.x+1) s.y else l1)else(if s.x<g.w/\s.y+1<g.h then endF g s l1 s.x (s.y+1)else l1)
set_option maxHeartbeats 2000000 in
theorem qvN (g : Grid) (hg : GOk g) (s : Spot) (hs : SOk s) (hsi : 0 <= s.i /\ s.i <= 64) (hsx : (0 <= s.x /\ s.x < g.w) /\ (0 <= s.y /\ s.y < g.h)) (l : List Int) (hl : (l.length : Int) <= 90000) :
  FnM (Env.of Tryz.prog) 99 [.agg (quX false g),.agg (quY s),.clo 100 [7,5,2]] (stX P4 g s l []) (fun r st' =>r= .tup []/\st' =stX P4 g s (qvJ g s l) []):=by
 refine FnM.dropB 103 (FnM.dropB 104 ?_)
 have hw:=hg.w
 have hh:=hg.h
 have hE:qvJ g s l=qvM g s (endF g s l s.x s.y):=rfl
 have hl1:=qvF g hg s l s.x s.y
 rw[hE,qvv,qvL]
 refine quf 100 Tryz.func99 ok99_100 (by show 3<=_;decide) rfl (by show 0<=100;decide) ?_
 simp only[ac99_100,rv99_100,push_cast,reduceIte,zA,zB,zC,zD,zE,zF,zG,reduceCtorEq,zH,zJ,cNI]
 refine qsP (qvE [(0,.ptr 2 0),(1,.ptr 5 0),(2,.ptr 7 0),(3,.ptr 18 0),(102,.clo 100 [7,5,2]),(103,.ptr 103 0),(104,.ptr 104 0)] ?_ (qvI g hg s hs hsi l oM s.x s.y oM)) ?_
 ·exact sC
 simp only[qvv,push_cast,reduceIte,zA,zB,zC,zD,zE,zF,zG,reduceCtorEq,zH,zJ,cNI]
 generalize endF g s l s.x s.y=l1 at hl1 ⊢
 refine qnY (fun h=> ?_) fun h=> ?_
 ·refine⟨oM,?_⟩
  have e:qvM g s l1=if s.x+1<g.w/\s.y<g.h then endF g s l1 (s.x+1) s.y else l1:=by rw[qvM,if_pos h]
  rw[e]
  refine qrH (stX [(0,.ptr 2 0),(1,.ptr 5 0),(2,.ptr 7 0),(3,.ptr 18 0),(102,.clo 100 [7,5,2]),(106,.int (s.x+1)),(107,.int (s.y)),(134,.bool (decide (s.x+1<g.w/\s.y<g.h)))] g s l1 (XB g s)) ?_ ?_
  ·refine qrz rfl (fun h2=> ?_) fun h2=> ?_<;>simp only[qvv,push_cast,reduceIte,zA,zB,zC,zD,zE,zF,zG,reduceCtorEq,zH,zJ,cNI]
   ·rw[show decide (s.y<g.h)=decide (s.x+1<g.w/\s.y<g.h)from by rw[decide_eq_decide];omega]
   ·rw[decide_eq_false (show ¬(s.x+1<g.w/\s.y<g.h)from fun h3=>h2 h3.1)]
  ·simp only[qvv,push_cast,reduceIte,zA,zB,zC,zD,zE,zF,zG,reduceCtorEq,zH,zJ,cNI]
   refine qnY (fun h2=> ?_) fun h2=> ?_
   ·rw[if_pos h2]
    refine qsP (qvE [(0,.ptr 2 0),(1,.ptr 5 0),(2,.ptr 7 0),(3,.ptr 18 0)] ?_ (qvI g hg s hs hsi l1 oM (s.x+1) (s.y) oM)) ?_
    ·exact sC
    simp only[qvv,push_cast,reduceIte,zA,zB,zC,zD,zE,zF,zG,reduceCtorEq,zH,zJ,cNI]
   ·rw[if_neg h2]
 ·refine⟨oM,?_⟩
  have e:qvM g s l1=if s.x<g.w/\s.y+1<g.h then endF g s l1 s.x (s.y+1)else l1:=by rw[qvM,if_neg h]
  rw[e]
  refine qrH (stX [(0,.ptr 2 0),(1,.ptr 5 0),(2,.ptr 7 0),(3,.ptr 18 0),(102,.clo 100 [7,5,2]),(106,.int (s.x)),(107,.int (s.y+1)),(134,.bool (decide (s.x<g.w/\s.y+1<g.h)))] g s l1 (XB g s)) ?_ ?_
  ·refine qrz rfl (fun h2=> ?_) fun h2=> ?_<;>simp only[qvv,push_cast,reduceIte,zA,zB,zC,zD,zE,zF,zG,reduceCtorEq,zH,zJ,cNI]
   ·rw[show decide (s.y+1<g.h)=decide (s.x<g.w/\s.y+1<g.h)from by rw[decide_eq_decide];omega]
   ·rw[decide_eq_false (show ¬(s.x<g.w/\s.y+1<g.h)from fun h3=>h2 h3.1)]
  ·simp only[qvv,push_cast,reduceIte,zA,zB,zC,zD,zE,zF,zG,reduceCtorEq,zH,zJ,cNI]
   refine qnY (fun h2=> ?_) fun h2=> ?_
   ·rw[if_pos h2]
    refine qsP (qvE [(0,.ptr 2 0),(1,.ptr 5 0),(2,.ptr 7 0),(3,.ptr 18 0)] ?_ (qvI g hg s hs hsi l1 oM (s.x) (s.y+1) oM)) ?_
    ·exact sC
    simp only[qvv,push_cast,reduceIte,zA,zB,zC,zD,zE,zF,zG,reduceCtorEq,zH,zJ,cNI]
   ·rw[if_neg h2]
end Go.Proofs.YtecoaapkcnhlhaaGreatDoor
namespace Go.Proofs
open Go.Shelf
def Tryz.lays125_ren:Go.Shelf.Ren:=⟨fun |125=>84|128=>104|129=>105|n=>n,fun |46=>77|3=>3|51=>153|53=>59|4=>4|5=>5|9=>9|n=>n,fun |n=>n⟩
theorem Tryz.lays125:Go.Proofs.Lays.n125 Tryz.prog Tryz.lays125_ren:= {
 mixed:=by kernel_rfl
 f125:=Tryz.func84.trans (congrArg some (by kernel_rfl))
 f128:=Tryz.func104.trans (congrArg some (by kernel_rfl))
 f129:=Tryz.func105.trans (congrArg some (by kernel_rfl))
 t3:=Tryz.underlying3
 a3:=Tryz.isAgg3
 z3:=Tryz.sizeOf3
 v3:=Tryz.zeroValue3
 t4:=Tryz.underlying4
 a4:=Tryz.isAgg4
 z4:=Tryz.sizeOf4
 v4:=Tryz.zeroValue4
 t5:=Tryz.underlying5
 a5:=Tryz.isAgg5
 z5:=Tryz.sizeOf5
 v5:=Tryz.zeroValue5
 t9:=Tryz.underlying9
 a9:=Tryz.isAgg9
 z9:=Tryz.sizeOf9
 v9:=Tryz.zeroValue9
 t46:=Tryz.underlying77
 a46:=Tryz.isAgg77
 z46:=Tryz.sizeOf77
 v46:=Tryz.zeroValue77
 t51:=Tryz.underlying153
 a51:=Tryz.isAgg153
 z51:=Tryz.sizeOf153
 v51:=Tryz.zeroValue153
 t53:=Tryz.underlying59
 a53:=Tryz.isAgg59
 z53:=Tryz.sizeOf59
 v53:=Tryz.zeroValue59 }
theorem Tryz.bits_Len (x : Int) (w : World) (h0 : 0 <= x) (h1 : x <= 18446744073709551615) :
  Calls Tryz.prog 84 #[.int .u64 x] w fun e w' =>e= .returned (.int .i64 (Lib.bitLen x.toNat))/\w' =w:=Any.bits_Len Tryz.lays125 x w h0 h1
open Go.RowKit in
def Tryz.lays189_ren:Go.Shelf.Ren:=⟨fun |189=>108|125=>84|257=>112|128=>104|129=>105|294=>114|295=>115|296=>116|297=>117|298=>118|299=>119|216=>120|300=>121|301=>122|328=>123|329=>124|330=>125|331=>126|332=>127|215=>128|343=>129|n=>n,fun |28=>26|3=>3|46=>77|0=>0|51=>153|53=>59|4=>4|183=>164|182=>163|131=>168|5=>5|9=>9|218=>170|222=>108|228=>175|229=>176|n=>n,fun |n=>n⟩
theorem Tryz.lays189:Go.Proofs.Lays.n189 Tryz.prog Tryz.lays189_ren:= {
 mixed:=by kernel_rfl
 f125:=Tryz.func84.trans (congrArg some (by kernel_rfl))
 f128:=Tryz.func104.trans (congrArg some (by kernel_rfl))
 f129:=Tryz.func105.trans (congrArg some (by kernel_rfl))
 f189:=Tryz.func108.trans (congrArg some (by kernel_rfl))
 f215:=Tryz.func128.trans (congrArg some (by kernel_rfl))
 f216:=Tryz.func120.trans (congrArg some (by kernel_rfl))
 f257:=Tryz.func112.trans (congrArg some (by kernel_rfl))
 f294:=Tryz.func114.trans (congrArg some (by kernel_rfl))
 f295:=Tryz.func115.trans (congrArg some (by kernel_rfl))
 f296:=Tryz.func116.trans (congrArg some (by kernel_rfl))
 f297:=Tryz.func117.trans (congrArg some (by kernel_rfl))
 f298:=Tryz.func118.trans (congrArg some (by kernel_rfl))
 f299:=Tryz.func119.trans (congrArg some (by kernel_rfl))
 f300:=Tryz.func121.trans (congrArg some (by kernel_rfl))
 f301:=Tryz.func122.trans (congrArg some (by kernel_rfl))
 f328:=Tryz.func123.trans (congrArg some (by kernel_rfl))
 f329:=Tryz.func124.trans (congrArg some (by kernel_rfl))
 f330:=Tryz.func125.trans (congrArg some (by kernel_rfl))
 f331:=Tryz.func126.trans (congrArg some (by kernel_rfl))
 f332:=Tryz.func127.trans (congrArg some (by kernel_rfl))
 f343:=Tryz.func129.trans (congrArg some (by kernel_rfl))
 t0:=Tryz.underlying0
 a0:=Tryz.isAgg0
 z0:=Tryz.sizeOf0
 v0:=Tryz.zeroValue0
 t3:=Tryz.underlying3
 a3:=Tryz.isAgg3
 z3:=Tryz.sizeOf3
 v3:=Tryz.zeroValue3
 t4:=Tryz.underlying4
 a4:=Tryz.isAgg4
 z4:=Tryz.sizeOf4
 v4:=Tryz.zeroValue4
 t5:=Tryz.underlying5
 a5:=Tryz.isAgg5
 z5:=Tryz.sizeOf5
 v5:=Tryz.zeroValue5
 t9:=Tryz.underlying9
 a9:=Tryz.isAgg9
 z9:=Tryz.sizeOf9
 v9:=Tryz.zeroValue9
 t28:=Tryz.underlying26
 a28:=Tryz.isAgg26
 z28:=Tryz.sizeOf26
 v28:=Tryz.zeroValue26
 t46:=Tryz.underlying77
 a46:=Tryz.isAgg77
 z46:=Tryz.sizeOf77
 v46:=Tryz.zeroValue77
 t51:=Tryz.underlying153
 a51:=Tryz.isAgg153
 z51:=Tryz.sizeOf153
 v51:=Tryz.zeroValue153
 t53:=Tryz.underlying59
 a53:=Tryz.isAgg59
 z53:=Tryz.sizeOf59
 v53:=Tryz.zeroValue59
 t131:=Tryz.underlying168
 a131:=Tryz.isAgg168
 z131:=Tryz.sizeOf168
 v131:=Tryz.zeroValue168
 t182:=Tryz.underlying163
 a182:=Tryz.isAgg163
 z182:=Tryz.sizeOf163
 v182:=Tryz.zeroValue163
 t183:=Tryz.underlying164
 a183:=Tryz.isAgg164
 z183:=Tryz.sizeOf164
 v183:=Tryz.zeroValue164
 t218:=Tryz.underlying170
 a218:=Tryz.isAgg170
 z218:=Tryz.sizeOf170
 v218:=Tryz.zeroValue170
 t222:=Tryz.underlying108
 a222:=Tryz.isAgg108
 z222:=Tryz.sizeOf108
 v222:=Tryz.zeroValue108
 t228:=Tryz.underlying175
 a228:=Tryz.isAgg175
 z228:=Tryz.sizeOf175
 v228:=Tryz.zeroValue175
 t229:=Tryz.underlying176
 a229:=Tryz.isAgg176
 z229:=Tryz.sizeOf176
 v229:=Tryz.zeroValue176 }
open Go.Sort Go.RowKit in
theorem Tryz.slices_Sort_int (blk off cap : Nat) (zs : List Int) (w : World) (hH : Holds (Value.int .i64) w blk off zs.toArray) (hblk : blk < w.heap.size) (hsz : zs.length < 4611686018427387904) :
  Calls Tryz.prog 108 #[.slice (some ⟨blk,off,none⟩) zs.length cap] w fun e w' =>
   e= .returned (.tuple #[])/\ ∃n os,w' =grow (putRow (Value.int .i64) (Sort.ahead w n) blk off (zs.mergeSort fun x y=>decide (x<=y)).toArray) os:=Any.slices_Sort_int Tryz.lays189 blk off cap zs w hH hblk hsz
def Tryz.laysNm220_ren:Go.Shelf.Ren:=⟨fun |20=>109|n=>n,fun |22=>26|3=>3|4=>4|0=>0|n=>n,fun |n=>n⟩
theorem Tryz.laysNm220:Go.Proofs.Lays2.n20 Tryz.prog Tryz.laysNm220_ren:= {
 mixed:=by kernel_rfl
 f20:=Tryz.func109.trans (congrArg some (by kernel_rfl))
 t0:=Tryz.underlying0
 a0:=Tryz.isAgg0
 z0:=Tryz.sizeOf0
 v0:=Tryz.zeroValue0
 t3:=Tryz.underlying3
 a3:=Tryz.isAgg3
 z3:=Tryz.sizeOf3
 v3:=Tryz.zeroValue3
 t4:=Tryz.underlying4
 a4:=Tryz.isAgg4
 z4:=Tryz.sizeOf4
 v4:=Tryz.zeroValue4
 t22:=Tryz.underlying26
 a22:=Tryz.isAgg26
 z22:=Tryz.sizeOf26
 v22:=Tryz.zeroValue26
 i3:=by kernel_rfl }
open Go.RowKit Go.Lib Go.Sort in
open Go.RowKit Go.Lib Go.Sort in
theorem Tryz.slices_Compact_int (blk off cap : Nat) (zs : List Int) (w : World) (hH : Holds (Value.int .i64) w blk off zs.toArray) (hsz : zs.length <= 9223372036854775807) (hcap : zs.length <= cap) :
  Calls Tryz.prog 109 #[.slice (some ⟨blk,off,none⟩) zs.length cap] w fun e w' =>e= .returned (.slice (some ⟨blk,off,none⟩) (Lib.compact zs).length cap)/\ ∃q,w' =putRow (Value.int .i64) (Sort.ahead w q) blk off (Lib.compact zs++List.replicate (zs.length-(Lib.compact zs).length) 0).toArray:=Any.slices_Compact_int Tryz.laysNm220 blk off cap zs w hH hsz hcap
open Go.RowKit Go.Lib Go.Sort in
theorem Tryz.slices_Compact_int_empty (a : Option Addr) (cap : Nat) (w : World) :
  Calls Tryz.prog 109 #[.slice a 0 cap] w fun e w' =>e= .returned (.slice a 0 cap)/\w' =w:=Any.slices_Compact_int_empty Tryz.laysNm220 a cap w
open Go.RowKit Go.Lib in
open Go.RowKit Go.Lib in
open Go.RowKit Go.Lib Go.Sort in
open Go.RowKit Go.Sort in
theorem Tryz.slices_Sort_int_none (p : Option Addr) (cap : Nat) (w : World) :
  Calls Tryz.prog 108 #[.slice p 0 cap] w fun e w' =>e= .returned (.tuple #[])/\w' =w:=Any.slices_Sort_int_none Tryz.lays189 p cap w
end Go.Proofs
namespace Go.Proofs.YtecoaapkcnhlhaaGreatDoor
open Go Go.Vc Txt
theorem qvO {P : Program} {f : Nat} (hb : qcG P f = true) {V : Option Addr -> Nat -> Value} (hc : ∀ (p : Option Addr) (cap : Nat) (w : World), Calls P f #[.slice p 0 cap] w fun e w' => e = .returned (V p cap) /\ w' = w) {st : St} {r : PV}
  (hr: ∀(w:World) (Z:Zone) (L:Lay),VR w Z L r (V none 0)):FnM (Env.of P) f [.nil] st (fun r' st' =>r' =r/\st' =st):=by
 refine⟨hb,fun w0 Z0 X G Z L w vs _ h2 h3=> ?_⟩
 obtain⟨hs,ha⟩:=h3
 have h0:=ha 0 .nil rfl
 simp only[VR,AR,CR]at h0
 have hv:vs.getD 0 undef= .slice none 0 0:=by generalize vs.getD 0 undef=u at h0;cases h0;rfl
 have hs1:vs.size=1:=hs
 have e:vs= #[.slice none 0 0]:=by
  rw[<- hv]
  apply Array.ext
  ·simpa using hs1
  ·intro i h7 h8
   have:i=0:=by simp at h8;omega
   subst this
   simp[zO,Array.getElem?_eq_getElem h7]
 subst e
 refine(hc none 0 w).mono ?_
 rintro e w' ⟨rfl,rfl⟩
 exact⟨_,r,st,Z,L,rfl,⟨rfl,rfl⟩,h2,hr w' Z L⟩
theorem qvP{st:St} :FnM (Env.of Tryz.prog) 108 [.nil] st (fun r st' =>r= .tup []/\st' =st):=
 qvO (by kernel_rfl) Tryz.slices_Sort_int_none fun w Z L=>⟨#[],rfl,rfl,fun j c hj=>by simp at hj⟩
theorem qvQ{st:St} :FnM (Env.of Tryz.prog) 109 [.nil] st (fun r st' =>r= .nil/\st' =st):=
 qvO (by kernel_rfl) Tryz.slices_Compact_int_empty fun w Z L=>TR.nil
def qvR(l:List Int):List Int:=l.mergeSort fun x y=>decide (x<=y)
theorem qvS {id ty : Nat} {zs : List Int} {s : List (Nat × PV)} {b : List (Nat × List PV)} {a : List (Nat × Arr)} {m : List (Nat × Mp)} (hA : lk a id = some ⟨1, ty, ints zs⟩) (hl : zs.length < 4611686018427387904) :
  FnM (Env.of Tryz.prog) 108 [.view id 0 zs.length] ⟨s,b,a,m⟩ fun r st' =>r= .tup []/\st' =⟨s,b,up a id ⟨1,ty,ints (qvR zs)⟩,m⟩:=
 quJ (by kernel_rfl) (fun blk off cap zs w h1 h2 h3=>Tryz.slices_Sort_int blk off cap zs w h1 h2 h3) hA hl
theorem qvT(l:List Int):(Go.Lib.compact l).length<=l.length:=by
 unfold Go.Lib.compact Go.Lib.compactUpTo
 rw[yG]
 exact Nat.le_trans (List.length_filter_le _ _) (by simp)
theorem qvU {id ty : Nat} {zs : List Int} {s : List (Nat × PV)} {b : List (Nat × List PV)} {a : List (Nat × Arr)} {m : List (Nat × Mp)} (hA : lk a id = some ⟨1, ty, ints zs⟩) (hl : zs.length <= 9223372036854775807) :
  FnM (Env.of Tryz.prog) 109 [.view id 0 zs.length] ⟨s,b,a,m⟩ fun r st' =>r= .view id 0 (Go.Lib.compact zs).length/\st' =⟨s,b,up a id ⟨1,ty,ints (Go.Lib.compact zs++List.replicate (zs.length-(Go.Lib.compact zs).length) 0)⟩,m⟩:=
 quK (by kernel_rfl) qvT (fun blk off cap zs w h1 h2 h3=>Tryz.slices_Compact_int blk off cap zs w h1 h2 h3) hA hl
def fidx(p:Int->Bool)(l:List Int):Int:=match l.findIdx? p with|some k=>k|none=> -1
theorem qvV{p:Int->Bool}{l:List Int}(h: ∀x∈l,p x=false):fidx p l= -1:=by
 unfold fidx
 rw[List.findIdx?_eq_none_iff.2 h]
theorem qvW{p:Int->Bool}{l:List Int}{k:Nat}(hk:k<l.length)(h: ∀x∈l.take k,p x=false)(hp:p l[k]=true):fidx p l=k:=by
 unfold fidx
 rw[List.findIdx?_eq_some_iff_getElem.2 ⟨hk,hp,fun j hj=>by
  have:l[j]∈l.take k:=List.mem_take_iff_getElem.2 ⟨j,oM,rfl⟩
  simp[h _ this]⟩]
theorem qvY (l : List Int) (p : Int -> Bool) (f : Nat) (caps : List PV) (hf : qcG Tryz.prog f = true) (hp : ∀ x ∈ l, FnEq Tryz.prog f (.int x :: caps) (.bool (p x))) (hl : (l.length : Int) <= 4611686018427387904) :
  FnEq Tryz.prog 113 [.sl false 1 (ints l),.pcl f caps] (.int (fidx p l)):=by
 refine FnEq.of_awp Tryz.func113 ok113 (by show 2<=_;decide) (by simp only[push_cast,reduceIte,zA,zB,zC,zD,zE,zF,zG,reduceCtorEq,zH,zJ,cNI]<;>first|exact fun _ _=>trivial|simp) ?_
 simp only[ac113,rv113,push_cast,reduceIte,zA,zB,zC,zD,zE,zF,zG,reduceCtorEq,zH,zJ,cNI]
 refine qoP (fun m st=> ∃k:Nat,k<=l.length/\m=l.length-k/\(∀x∈l.take k,p x=false)/\st=⟨[(0,.sl false 1 (ints l)),(1,.pcl f caps),(7,.int l.length),(8,.int k)],[],[],[]⟩) l.length ?_ ?_
 ·refine⟨0,oM,oM,by simp,?_⟩
  exact sC
 ·rintro m st ⟨k,hk,rfl,hn,rfl⟩
  refine sB ?_
  refine qnY (fun h=>⟨oM,oM,?_⟩) fun h=> ?_
  ·have hk' :k<l.length:=by omega
   have hg:l.getD k default=l[k]:=by simp[hk']
   rw[hg]
   refine qsS hf (hp _ (List.getElem_mem hk')) sC ?_
   refine sB ?_
   refine qnX (fun e=> ?_) fun e=>⟨oM,_,?_,k+1,oM,rfl,?_,?_⟩
   ·rw[qvW hk' hn e]
   ·omega
   ·intro x hx
    rw[zZ hk',yC,List.mem_singleton]at hx
    rcases hx with hx|rfl
    ·exact hn x hx
    ·exact e
   ·simp
  ·rw[zY oM]at hn;rw[qvV hn]
theorem qvZ(x b:Int):FnEq Tryz.prog 111 [.int x,.iptr false [.int b] 0] (.bool (decide (x=b))):=by
 refine FnEq.of_awp Tryz.func111 ok111 (by show 2<=_;decide) (by simp only[push_cast,reduceIte,zA,zB,zC,zD,zE,zF,zG,reduceCtorEq,zH,zJ,cNI]<;>first|exact fun _ _=>trivial|simp) ?_
 simp only[ac111,rv111,push_cast,reduceIte,zA,zB,zC,zD,zE,zF,zG,reduceCtorEq,zH,zJ,cNI]
theorem qw0 (x b : Int) {z : List (Nat × PV)} {bx : List (Nat × List PV)} {ar : List (Nat × Arr)} (hb : lk bx 103 = some [.int b]) :
  FnM (Env.of Tryz.prog) 111 [.int x,.ptr 103 0] ⟨z,bx,ar,[]⟩ (fun r st' =>r= .bool (decide (x=b))/\st' =⟨z,bx,ar,[]⟩):=by
 refine FnM.of_ok (by kernel_rfl) (args:=[.int x,.ptr 103 0]) (post:=fun r=>r= .bool (decide (x=b))) ?_ fun r hr=>⟨hr,rfl⟩
 have e:[PV.int x,.ptr 103 0].map (PV.rsA ⟨z,bx,ar,[]⟩)=[.int x,.iptr false [.int b] 0]:=by
  simp only[zW,List.map_nil,PV.rsA,PV.rs1,hb]
  rfl
 rw[e]
 exact qvZ x b
theorem qw1{l:List Int}{b:Int}{k:Nat}(h:k<l.length):(l.take (k+1)).filter (fun x=>decide (x≠b))=(l.take k).filter (fun x=>decide (x≠b))++if l.getD k default=b then[]else[l.getD k default]:=by
 have e:l.getD k default=l[k]:=by simp[h]
 rw[zZ h,List.filter_append,e]
 by_cases h2:l[k]=b<;>simp[h2]
def cl(ws:List Int)(i n:Nat):List Int:=ws.take i++List.replicate (n-i) 0++ws.drop (i+(n-i))
theorem qw2{ws:List Int}{i n:Nat}(h1:i<=n)(h2:n<=ws.length):(cl ws i n).length=ws.length:=by simp[cl];omega
theorem qw3{ws:List Int}{i n:Nat}(h:i<=ws.length):(cl ws i n).take i=ws.take i:=by
 rw[cl,List.append_assoc,List.take_append_of_le_length (by simp;omega),List.take_take,Nat.min_self]
theorem qw4(ws:List Int)(i n:Nat):cpyF (ints ws) i (rows intC (List.replicate (n-i) 0))=ints (cl ws i n):=by
 show cpyF (ints ws) i (ints (List.replicate (n-i) 0))=_
 simp only[cpyF,cl,quH,yH,List.map_take,List.map_drop,List.map_replicate,List.length_replicate]
def delF(l:List Int)(b:Int):List Int:=l.filter fun x=>decide (x≠b)
set_option maxHeartbeats 2000000 in
theorem qw5 (g : Grid) (s : Spot) (zs : List Int) (n : Nat) (hn : n <= zs.length) (hl : (zs.length : Int) <= 1000000) (b : Int) (u : PV) :
  FnM (Env.of Tryz.prog) 110 [.view 434 0 n,.clo 111 [103]]
   ⟨[(0,.ptr 2 0),(1,.ptr 5 0),(2,.ptr 7 0),(3,.ptr 18 0),(4,.ptr 103 0)],[(2,quX false g),(5,quY s),(7,[.ptr 18 0]),(18,[.int g.w,.int g.h,.int g.tracks,.int g.pads,.sl false 1 (ints g.kind),.view 434 0 n]),(103,[.int b])],[(434,⟨1,3,ints zs⟩)],[]⟩
   (fun r st' => ∃ys:List Int,r= .view 434 0 (delF (zs.take n) b).length/\ys.length=zs.length/\ys.take (delF (zs.take n) b).length=delF (zs.take n) b/\
    st' =⟨[(0,.ptr 2 0),(1,.ptr 5 0),(2,.ptr 7 0),(3,.ptr 18 0),(4,.ptr 103 0)],[(2,quX false g),(5,quY s),(7,[.ptr 18 0]),(18,[.int g.w,.int g.h,.int g.tracks,.int g.pads,.sl false 1 (ints g.kind),.view 434 0 n]),(103,[.int b])],[(434,⟨1,3,ints ys⟩)],[]⟩):=by
 refine quf 150 Tryz.func110 ok110_150 (by show 2<=_;decide) rfl (by show 0<=150;decide) ?_
 simp only[ac110_150,rv110_150,push_cast,reduceIte,zA,zB,zC,zD,zE,zF,zG,reduceCtorEq,zH,zJ,cNI]
 have hz:(zs.take n).length=n:=by simp;omega
 have hI:=qvY (zs.take n) (fun x=>decide (x=b)) 111 [.iptr false [.int b] 0] (by kernel_rfl) (fun x _=>qvZ x b) oM
 by_cases hex: ∃x∈zs.take n,x=b
 ·obtain ⟨k, hk, hkb, hkt⟩ : ∃ k : Nat, k < n /\ zs.getD k default = b /\ ∀ x ∈ zs.take k, x ≠ b := by
   obtain⟨x,hx,rfl⟩:=hex
   obtain⟨t,ht,e⟩:=List.mem_iff_getElem.1 hx
   rw[hz]at ht
   rw[List.getElem_take]at e
   have htl:t<zs.length:=by omega
   have hp: ∃y∈zs,decide (y=x)=true:=⟨x,List.mem_of_mem_take hx,by simp⟩
   have hlt:zs.findIdx (fun y=>decide (y=x))<zs.length:=List.findIdx_lt_length_of_exists hp
   have hle:zs.findIdx (fun y=>decide (y=x))<=t:=Nat.le_of_not_lt fun h=>by
    have:=List.not_of_lt_findIdx h
    simp[e]at this
   refine⟨zs.findIdx (fun y=>decide (y=x)),oM,?_,fun y hy he=> ?_⟩
   ·have:=List.findIdx_getElem (w:=hlt)
    simp at this
    simp[zK,hlt,this]
   ·obtain⟨q,hq,e2⟩:=List.mem_iff_getElem.1 hy
    rw[List.length_take]at hq
    rw[List.getElem_take]at e2
    have:=List.not_of_lt_findIdx (p:=fun y=>decide (y=x)) (xs:=zs) (i:=q) oM
    simp[e2,he]at this
  have hi:fidx (fun x=>decide (x=b)) (zs.take n)=k:=by
   have hkz:k<zs.length:=by omega
   refine qvW oM (fun x hx=>decide_eq_false (hkt x ?_)) ?_
   ·rw[List.take_take]at hx
    rwa [show min k n=k from by omega]at hx
   ·rw[List.getElem_take]
    have:zs[k]=b:=by rw[<- hkb];simp[zK,hkz]
    simp[this]
  rw[hi]at hI
  refine qrv hI sC ?_
  refine sB ?_
  refine⟨oM,?_⟩
  refine qoP (fun m st=> ∃(i j:Nat) (ws:List Int),j<=n/\m=n-j/\i<j/\ws.length=zs.length/\i=(delF (zs.take j) b).length/\ws.take i=delF (zs.take j) b/\(∀t:Nat,j<=t->ws.getD t default=zs.getD t default)/\
   st=⟨[(0,.ptr 2 0),(1,.ptr 5 0),(2,.ptr 7 0),(3,.ptr 18 0),(4,.ptr 103 0),(150,.view 434 0 n),(151,.clo 111 [103]),(155,.int i),(156,.int j)],[(2,quX false g),(5,quY s),(7,[.ptr 18 0]),(18,[.int g.w,.int g.h,.int g.tracks,.int g.pads,.sl false 1 (ints g.kind),.view 434 0 n]),(103,[.int b])],[(434,⟨1,3,ints ws⟩)],[]⟩) (n-(k+1)) ?_ ?_
  ·have hd : delF (zs.take (k + 1)) b = zs.take k := by
    rw[delF,qw1 oM,if_pos hkb,List.append_nil]
    exact List.filter_eq_self.2 fun x hx=>decide_eq_true (hkt x hx)
   refine⟨k,k+1,zs,oM,rfl,oM,rfl,by rw[hd];simp;omega,by rw[hd],fun t _=>rfl,?_⟩
   exact sC
  ·rintro m st ⟨i,j,ws,hj,rfl,hij,hwl,hil,hwt,hwd,rfl⟩
   refine sB ?_
   refine qnY (fun h=> ?_) fun h=> ?_
   ·have hj' :j<zs.length:=by omega
    refine⟨oM,oM,?_⟩
    have hfs:=qw1 (l:=zs) (b:=b) hj'
    rw[hwd j (Nat.le_refl _)]
    refine qsP (FnM.mono (qw0 (zs.getD j default) b rfl) fun r st' hq=>hq) ?_
    refine sB ?_
    refine qnX (fun h2=> ?_) fun h2=> ?_
    ·have h2:zs.getD j default≠b:=by simpa using h2
     have hd:delF (zs.take (j+1)) b=delF (zs.take j) b++[zs.getD j default]:=by
      rw[delF,delF,hfs,if_neg h2]
     refine⟨oM,oM,oM,oM,_,?_,i+1,j+1,ws.set i (zs.getD j default),oM,rfl,oM,by simpa using hwl,?_,?_,fun t ht=> ?_,?_⟩
     ·omega
     ·rw[hd,zU,<- hil];rfl
     ·rw[hd,<- hwt,zZ (by simp;omega),List.take_set_of_le (Nat.le_refl _)]
      simp
     ·rw[zK,List.getElem?_set_ne oM,<- zK]
      exact hwd t oM
     ·simp
    ·have h2:zs.getD j default=b:=by simpa using h2
     have hd:delF (zs.take (j+1)) b=delF (zs.take j) b:=by
      rw[delF,delF,hfs,if_pos h2,List.append_nil]
     refine⟨oM,_,?_,i,j+1,ws,oM,rfl,oM,hwl,by rw[hd];exact hil,by rw[hd];exact hwt,fun t ht=>hwd t oM,?_⟩
     ·omega
     ·simp
   ·have hjn:j=n:=by omega
    subst hjn
    refine⟨oM,oM,rfl,cl ws i j,?_,?_,?_,?_⟩
    ·rw[Nat.sub_zero,hil]
    ·rw[qw2 oM oM,hwl]
    ·rw[<- hil,qw3 oM,hwt]
    ·rw[qw4]
 ·have hne: ∀x∈zs.take n,x≠b:=fun x hx e=>hex ⟨x,hx,e⟩
  have hi:fidx (fun x=>decide (x=b)) (zs.take n)= -1:=qvV fun x hx=>decide_eq_false (hne x hx)
  have hd:delF (zs.take n) b=zs.take n:=List.filter_eq_self.2 fun x hx=>decide_eq_true (hne x hx)
  rw[hi]at hI
  refine qrv hI sC ?_
  refine sB ?_
  rw[hd]
  refine⟨rfl,zs,by rw[hz],rfl,by rw[hz],rfl⟩
end Go.Proofs.YtecoaapkcnhlhaaGreatDoor
