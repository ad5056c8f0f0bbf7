/- VcN VcO VcP: lemmas -/
import Derived.Test.YtecoaapkcnhlhaaGreatDoorPart05
set_option linter.unusedSimpArgs false
set_option linter.unusedVariables false
open List renaming getD_eq_getElem?_getD->zK,length_cons->zV,map_cons->zW
namespace Go.Vc
open Go Go.RowKit
def memN:Nat->List Nat->Bool
 |_,[]=>false
 |i,j::l=>if j=i then true else memN i l
theorem qh8(i:Nat)(l:List Nat):l.contains i=memN i l:=by
 induction l with
 |nil=>rfl
 |cons j l ih=>
   rw[List.contains_cons,ih,memN]
   by_cases h:j=i
   ·subst h;simp
   ·have:(i==j)=false:=by simpa using Ne.symm h
    rw[if_neg h,this];rfl
@[push_cast] theorem qh9(i:Nat):memN i []=false:=rfl
@[push_cast] theorem qha(i j:Nat)(l:List Nat):memN i (j::l)=if j=i then true else memN i l:=rfl
def getL:List (Nat×PV)->Nat->PV
 |[],_=> .bot
 |(k,v)::r,i=>if k=i then v else getL r i
theorem qhb(s:List (Nat×PV))(i:Nat):(lk s i).getD .bot=getL s i:=by
 induction s with
 |nil=>rfl
 |cons x r ih=>
   obtain⟨k,v⟩:=x
   simp only[lk,getL]
   split
   ·rfl
   ·exact ih
@[push_cast] theorem qhc(i:Nat):getL [] i= .bot:=rfl
@[push_cast] theorem qhd(k i:Nat)(v:PV)(r:List (Nat×PV)):getL ((k,v)::r) i=if k=i then v else getL r i:=rfl
@[push_cast] theorem qhe(s:List (Nat×PV))(b:List (Nat×List PV))(a:List (Nat×Arr))(m:List (Nat×Mp))(i:Nat):St.get ⟨s,b,a,m⟩ i=getL s i:=qhb s i
@[push_cast] theorem ev_t(st:St)(n:Nat):Opd.ev st (.t n)=st.get n:=rfl
@[push_cast] theorem ev_c(st:St)(p:PV):Opd.ev st (.c p)=p:=rfl
@[push_cast] theorem qhf(s:List (Nat×PV))(b:List (Nat×List PV))(a:List (Nat×Arr))(m:List (Nat×Mp))(i:Nat)(v:PV):St.put ⟨s,b,a,m⟩ (some i) v=⟨up s i v,b,a,m⟩:=rfl
@[push_cast] theorem qhg(st:St)(v:PV):St.put st none v=st:=rfl
@[push_cast] theorem qhh{α:Type}(i:Nat)(v:α):up [] i v=[(i,v)]:=rfl
@[push_cast] theorem qhi{α:Type}(k i:Nat)(u v:α)(r:List (Nat×α)):up ((k,u)::r) i v=if k=i then(k,v)::r else if i<k then(i,v)::(k,u)::r else(k,u)::up r i v:=rfl
@[push_cast] theorem qhj{α:Type}(i:Nat):rm ([]:List (Nat×α)) i=[]:=rfl
@[push_cast] theorem qhk{α:Type}(k i:Nat)(u:α)(r:List (Nat×α)):rm ((k,u)::r) i=if k=i then rm r i else(k,u)::rm r i:=rfl
@[push_cast] theorem qhl{α:Type}(i:Nat):lk ([]:List (Nat×α)) i=none:=rfl
@[push_cast] theorem qhm{α:Type}(k i:Nat)(u:α)(r:List (Nat×α)):lk ((k,u)::r) i=if k=i then some u else lk r i:=rfl
def qhn(ks:List Nat):List (Nat×PV)->List (Nat×PV)
 |[]=>[]
 |(k,v)::r=>if inK ks k=true then(k,v)::qhn ks r else qhn ks r
@[push_cast] theorem qho(K n i:Nat)(r:List Nat):inK (K::n::r) i=if i<K then true else if K+n<=i then true else memN i r:=by
 simp only[inK,qh8]
 by_cases h:i<K<;>by_cases h2:K+n<=i<;>simp[h,h2]
theorem qhp(ks:List Nat)(s:List (Nat×PV)):s.filter (fun x=>inK ks x.1)=qhn ks s:=by
 induction s with
 |nil=>rfl
 |cons x r ih=>
   obtain⟨k,v⟩:=x
   simp only[List.filter_cons,qhn]at ih ⊢
   rw[ih]
@[push_cast] theorem qhq(ks:List Nat):qhn ks []=[]:=rfl
@[push_cast] theorem qhr(ks:List Nat)(k:Nat)(v:PV)(r:List (Nat×PV)):qhn ks ((k,v)::r)=if inK ks k=true then(k,v)::qhn ks r else qhn ks r:=rfl
@[push_cast] theorem qhs(s:List (Nat×PV))(b:List (Nat×List PV))(a:List (Nat×Arr))(m:List (Nat×Mp))(ks:List Nat):St.keepS ⟨s,b,a,m⟩ ks=⟨qhn ks s,b,a,m⟩:=by
 simp only[St.keepS,qhp]
section
variable (pb pa:Nat->Bool)
@[push_cast] theorem qht(i lo n:Nat):PV.to pb pa (.view i lo n)=pa i:=rfl
@[push_cast] theorem qhu(i lo n:Nat):PV.to pb pa (.eptr i lo n)=pa i:=rfl
@[push_cast] theorem qhv(i n:Nat):PV.to pb pa (.ptr i n)=pb i:=rfl
@[push_cast] theorem qhw(v:Value):PV.to pb pa (.sc v)=false:=rfl
@[push_cast] theorem qhx:PV.to pb pa .nil=false:=rfl
@[push_cast] theorem qhy:PV.to pb pa .bot=false:=rfl
@[push_cast] theorem qhz(p:Bool)(es:Nat)(xs:List (List PV)):PV.to pb pa (.sl p es xs)=false:=rfl
def anyN(pb:Nat->Bool):List Nat->Bool
 |[]=>false
 |i::r=>pb i||anyN pb r
theorem qhA(pb:Nat->Bool)(l:List Nat):l.any pb=anyN pb l:=by induction l<;>simp_all[anyN]
@[push_cast] theorem qhB:anyN pb []=false:=rfl
@[push_cast] theorem qhC(i:Nat)(r:List Nat):anyN pb (i::r)=(pb i||anyN pb r):=rfl
@[push_cast] theorem qhD(f:Nat)(ids:List Nat):PV.to pb pa (.clo f ids)=anyN pb ids:=qhA pb ids
@[push_cast] theorem qhE(ids:List Nat):PV.to pb pa (.cld ids)=anyN pb ids:=qhA pb ids
@[push_cast] theorem qhF(i:Nat):PV.to pb pa (.yl i)=pb i:=rfl
@[push_cast] theorem qhG(i:Nat):PV.to pb pa (.mp i)=pb i:=rfl
@[push_cast] theorem qhH(i e n:Nat):PV.to pb pa (.bv i e n)=pb i:=rfl
@[push_cast] theorem qhI(i j:Nat):PV.to pb pa (.itr i j)=(pb i||pb j):=rfl
@[push_cast] theorem qhJ(p:Bool)(cs:List PV)(o:Nat):PV.to pb pa (.iptr p cs o)=false:=rfl
def anyT:List PV->Bool
 |[]=>false
 |c::r=>c.to pb pa||anyT r
def anyA:List PV->Bool
 |[]=>false
 |c::r=>c.toA pb pa||anyA r
theorem qhK(cs:List PV):cs.any (PV.to pb pa)=anyT pb pa cs:=by induction cs<;>simp_all[anyT]
theorem qhL(cs:List PV):cs.any (PV.toA pb pa)=anyA pb pa cs:=by induction cs<;>simp_all[anyA]
@[push_cast] theorem qhM:anyT pb pa []=false:=rfl
@[push_cast] theorem qhN(c:PV)(r:List PV):anyT pb pa (c::r)=(c.to pb pa||anyT pb pa r):=rfl
@[push_cast] theorem qhO:anyA pb pa []=false:=rfl
@[push_cast] theorem qhP(c:PV)(r:List PV):anyA pb pa (c::r)=(c.toA pb pa||anyA pb pa r):=rfl
@[push_cast] theorem qhQ(cs:List PV):PV.toA pb pa (.agg cs)=anyT pb pa cs:=qhK pb pa cs
@[push_cast] theorem qhR(i lo n:Nat):PV.toA pb pa (.view i lo n)=pa i:=rfl
@[push_cast] theorem qhS(i lo n:Nat):PV.toA pb pa (.eptr i lo n)=pa i:=rfl
@[push_cast] theorem qhT(i n:Nat):PV.toA pb pa (.ptr i n)=pb i:=rfl
@[push_cast] theorem qhU(v:Value):PV.toA pb pa (.sc v)=false:=rfl
@[push_cast] theorem qhV:PV.toA pb pa .nil=false:=rfl
@[push_cast] theorem qhW:PV.toA pb pa .bot=false:=rfl
@[push_cast] theorem qhX(f:Nat)(ids:List Nat):PV.toA pb pa (.clo f ids)=anyN pb ids:=qhA pb ids
@[push_cast] theorem qhY(ids:List Nat):PV.toA pb pa (.cld ids)=anyN pb ids:=qhA pb ids
@[push_cast] theorem qhZ(i:Nat):PV.toA pb pa (.yl i)=pb i:=rfl
@[push_cast] theorem qi0(i:Nat):PV.toA pb pa (.mp i)=pb i:=rfl
@[push_cast] theorem qi1(i e n:Nat):PV.toA pb pa (.bv i e n)=pb i:=rfl
@[push_cast] theorem qi2(i j:Nat):PV.toA pb pa (.itr i j)=(pb i||pb j):=rfl
@[push_cast] theorem qi3(p:Bool)(cs:List PV)(o:Nat):PV.toA pb pa (.iptr p cs o)=false:=rfl
@[push_cast] theorem qi4(p:Bool)(es:Nat)(xs:List (List PV)):PV.toA pb pa (.sl p es xs)=false:=rfl
@[push_cast] theorem qi5(i lo n:Nat):PV.toV pb pa (.view i lo n)=pa i:=rfl
@[push_cast] theorem qi6(i lo n:Nat):PV.toV pb pa (.eptr i lo n)=pa i:=rfl
@[push_cast] theorem qi7(i n:Nat):PV.toV pb pa (.ptr i n)=pb i:=rfl
@[push_cast] theorem qi8(v:Value):PV.toV pb pa (.sc v)=false:=rfl
@[push_cast] theorem qi9:PV.toV pb pa .nil=false:=rfl
@[push_cast] theorem qia:PV.toV pb pa .bot=false:=rfl
@[push_cast] theorem qib(f:Nat)(ids:List Nat):PV.toV pb pa (.clo f ids)=anyN pb ids:=qhA pb ids
@[push_cast] theorem qic(ids:List Nat):PV.toV pb pa (.cld ids)=anyN pb ids:=qhA pb ids
@[push_cast] theorem qid(i:Nat):PV.toV pb pa (.yl i)=pb i:=rfl
@[push_cast] theorem qie(i:Nat):PV.toV pb pa (.mp i)=pb i:=rfl
@[push_cast] theorem qif(i e n:Nat):PV.toV pb pa (.bv i e n)=pb i:=rfl
@[push_cast] theorem qig(i j:Nat):PV.toV pb pa (.itr i j)=(pb i||pb j):=rfl
@[push_cast] theorem qih(p:Bool)(es:Nat)(xs:List (List PV)):PV.toV pb pa (.sl p es xs)=false:=rfl
@[push_cast] theorem qii(p:Bool)(cs:List PV)(o:Nat):PV.toV pb pa (.iptr p cs o)=false:=rfl
@[push_cast] theorem qij(cs:List PV):PV.toV pb pa (.agg cs)=anyT pb pa cs:=qhK pb pa cs
@[push_cast] theorem qik(cs:List PV):PV.toV pb pa (.tup cs)=anyA pb pa cs:=qhL pb pa cs
def refS:List (Nat×PV)->Bool
 |[]=>false
 |(_,v)::r=>v.toV pb pa||refS r
def refB:List (Nat×List PV)->Bool
 |[]=>false
 |(_,v)::r=>anyT pb pa v||refB r
theorem qil(s:List (Nat×PV)):s.any (fun y=>y.2.toV pb pa)=refS pb pa s:=by induction s<;>simp_all[refS]
theorem qim(s:List (Nat×List PV)):s.any (fun y=>y.2.any (PV.to pb pa))=refB pb pa s:=by induction s<;>simp_all[refB,qhK]
@[push_cast] theorem qin:refS pb pa []=false:=rfl
@[push_cast] theorem qio(k:Nat)(v:PV)(r:List (Nat×PV)):refS pb pa ((k,v)::r)=(v.toV pb pa||refS pb pa r):=rfl
@[push_cast] theorem qip:refB pb pa []=false:=rfl
@[push_cast] theorem qiq(k:Nat)(v:List PV)(r:List (Nat×List PV)):refB pb pa ((k,v)::r)=(anyT pb pa v||refB pb pa r):=rfl
end
def isId(i:Nat):Nat->Bool:=fun j=>j==i
@[push_cast] theorem qir(i j:Nat):isId i j=(j==i):=rfl
@[push_cast] theorem qis(j:Nat):nul j=false:=rfl
def gcB(s:List (Nat×PV))(b0:List (Nat×List PV)):List (Nat×List PV)->List (Nat×List PV)
 |[]=>[]
 |(k,v)::r=>if(refS (isId k) nul s||refB (isId k) nul b0)=true then(k,v)::gcB s b0 r else gcB s b0 r
def gcA(s:List (Nat×PV))(b:List (Nat×List PV)):List (Nat×Arr)->List (Nat×Arr)
 |[]=>[]
 |(k,v)::r=>if(refS nul (isId k) s||refB nul (isId k) b)=true then(k,v)::gcA s b r else gcA s b r
@[push_cast] theorem qit(s:List (Nat×PV))(b0:List (Nat×List PV)):gcB s b0 []=[]:=rfl
@[push_cast] theorem qiu(s:List (Nat×PV))(b0:List (Nat×List PV))(k:Nat)(v:List PV)(r:List (Nat×List PV)):gcB s b0 ((k,v)::r)=if(refS (isId k) nul s||refB (isId k) nul b0)=true then(k,v)::gcB s b0 r else gcB s b0 r:=rfl
@[push_cast] theorem qiv(s:List (Nat×PV))(b:List (Nat×List PV)):gcA s b []=[]:=rfl
@[push_cast] theorem qiw(s:List (Nat×PV))(b:List (Nat×List PV))(k:Nat)(v:Arr)(r:List (Nat×Arr)):gcA s b ((k,v)::r)=if(refS nul (isId k) s||refB nul (isId k) b)=true then(k,v)::gcA s b r else gcA s b r:=rfl
theorem qix(s:List (Nat×PV))(b0 b:List (Nat×List PV)):b.filter (fun x=>s.any (fun y=>y.2.toV (fun j=>j==x.1) nul)||b0.any (fun y=>y.2.any (PV.to (fun j=>j==x.1) nul)))=gcB s b0 b:=by
 induction b with
 |nil=>rfl
 |cons x r ih=>
   obtain⟨k,v⟩:=x
   simp only[qil,qim]at ih ⊢
   simp only[List.filter_cons,gcB,ih]
   rfl
theorem qiy(s:List (Nat×PV))(b0:List (Nat×List PV))(b:List (Nat×Arr)):b.filter (fun x=>s.any (fun y=>y.2.toV nul (fun j=>j==x.1))||b0.any (fun y=>y.2.any (PV.to nul (fun j=>j==x.1))))=gcA s b0 b:=by
 induction b with
 |nil=>rfl
 |cons x r ih=>
   obtain⟨k,v⟩:=x
   simp only[qil,qim]at ih ⊢
   simp only[List.filter_cons,gcA,ih]
   rfl
def gcM(s:List (Nat×PV))(b:List (Nat×List PV)):List (Nat×Mp)->List (Nat×Mp)
 |[]=>[]
 |(k,v)::r=>if(refS (isId k) nul s||refB (isId k) nul b)=true then(k,v)::gcM s b r else gcM s b r
@[push_cast] theorem qiz(s:List (Nat×PV))(b:List (Nat×List PV)):gcM s b []=[]:=rfl
@[push_cast] theorem qiA(s:List (Nat×PV))(b:List (Nat×List PV))(k:Nat)(v:Mp)(r:List (Nat×Mp)):gcM s b ((k,v)::r)=if(refS (isId k) nul s||refB (isId k) nul b)=true then(k,v)::gcM s b r else gcM s b r:=rfl
theorem qiB(s:List (Nat×PV))(b0:List (Nat×List PV))(b:List (Nat×Mp)):b.filter (fun x=>s.any (fun y=>y.2.toV (fun j=>j==x.1) nul)||b0.any (fun y=>y.2.any (PV.to (fun j=>j==x.1) nul)))=gcM s b0 b:=by
 induction b with
 |nil=>rfl
 |cons x r ih=>
   obtain⟨k,v⟩:=x
   simp only[qil,qim]at ih ⊢
   simp only[List.filter_cons,gcM,ih]
   rfl
@[push_cast] theorem qiC(s:List (Nat×PV))(b:List (Nat×List PV))(a:List (Nat×Arr))(m:List (Nat×Mp))(ks:List Nat):St.gc ⟨s,b,a,m⟩ ks=⟨qhn ks s,gcB (qhn ks s) (gcB (qhn ks s) (gcB (qhn ks s) [] b) b) b,gcA (qhn ks s) (gcB (qhn ks s) (gcB (qhn ks s) (gcB (qhn ks s) [] b) b) b) a,gcM (qhn ks s) (gcB (qhn ks s) (gcB (qhn ks s) (gcB (qhn ks s) [] b) b) b) m⟩:=by
 simp only[St.gc,qhp,qix,qiy,qiB]
def qiD(pb pa:Nat->Bool):List PV->List PV
 |[]=>[]
 |c::r=>(bif c.to pb pa then c.killed pb else c)::qiD pb pa r
def qiE(pb pa:Nat->Bool):List (Nat×PV)->List (Nat×PV)
 |[]=>[]
 |(k,v)::r=>(k,bif v.toV pb pa then v.killV pb pa else v)::qiE pb pa r
def qiF(pb pa:Nat->Bool):List (Nat×List PV)->List (Nat×List PV)
 |[]=>[]
 |(k,v)::r=>(k,bif anyT pb pa v then qiD pb pa v else v)::qiF pb pa r
section
variable (pb pa:Nat->Bool)
@[push_cast] theorem qiG:qiD pb pa []=[]:=rfl
@[push_cast] theorem qiH(c:PV)(r:List PV):qiD pb pa (c::r)=(bif c.to pb pa then c.killed pb else c)::qiD pb pa r:=rfl
@[push_cast] theorem qiI:qiE pb pa []=[]:=rfl
@[push_cast] theorem qiJ(k:Nat)(v:PV)(r:List (Nat×PV)):qiE pb pa ((k,v)::r)=(k,bif v.toV pb pa then v.killV pb pa else v)::qiE pb pa r:=rfl
@[push_cast] theorem qiK:qiF pb pa []=[]:=rfl
@[push_cast] theorem qiL(k:Nat)(v:List PV)(r:List (Nat×List PV)):qiF pb pa ((k,v)::r)=(k,bif anyT pb pa v then qiD pb pa v else v)::qiF pb pa r:=rfl
theorem qiM(cs:List PV):cs.map (PV.kill pb pa)=qiD pb pa cs:=by induction cs<;>simp_all[qiD,PV.kill]
theorem qiN{c:PV}(h:c.to pb pa=false):c.kill pb pa=c:=by simp[PV.kill,h]
theorem qiO{cs:List PV}(h:anyT pb pa cs=false):qiD pb pa cs=cs:=by
 induction cs with
 |nil=>rfl
 |cons c r ih=>simp only[anyT,Bool.or_eq_false_iff]at h;simp[qiD,h.1,ih h.2]
theorem qiP{c:PV}(h:c.toA pb pa=false):c.killA pb pa=c:=by
 cases c with
 |agg cs=>simp only[qhQ]at h;simp only[PV.killA,qiM,qiO pb pa h]
 |_=>simp only[PV.killA];exact qiN pb pa (by simpa only[PV.toA]using h)
theorem qiQ{c:PV}(h:c.toV pb pa=false):c.killV pb pa=c:=by
 cases c with
 |tup cs=>
   simp only[qik]at h
   simp only[PV.killV]
   congr 1
   induction cs with
   |nil=>rfl
   |cons c r ih=>simp only[anyA,Bool.or_eq_false_iff]at h;simp[qiP pb pa h.1,ih h.2]
 |_=>simp only[PV.killV];exact qiP pb pa (by simpa only[PV.toV]using h)
@[push_cast] theorem qiR(i lo n:Nat):PV.killV pb pa (.view i lo n)=bif pa i then .bot else .view i lo n:=rfl
@[push_cast] theorem qiS(i lo n:Nat):PV.killV pb pa (.eptr i lo n)=bif pa i then .bot else .eptr i lo n:=rfl
@[push_cast] theorem qiT(i n:Nat):PV.killV pb pa (.ptr i n)=bif pb i then .bot else .ptr i n:=rfl
def filN(pb:Nat->Bool):List Nat->List Nat
 |[]=>[]
 |i::r=>if pb i=true then filN pb r else i::filN pb r
theorem qiU(l:List Nat):(l.filter fun i=> !pb i)=filN pb l:=by
 induction l with
 |nil=>rfl
 |cons i r ih=>simp only[List.filter_cons,filN,ih];cases pb i<;>rfl
@[push_cast] theorem qiV:filN pb []=[]:=rfl
@[push_cast] theorem qiW(i:Nat)(r:List Nat):filN pb (i::r)=if pb i=true then filN pb r else i::filN pb r:=rfl
@[push_cast] theorem qiX(i lo n:Nat):PV.killed pb (.view i lo n)= .bot:=rfl
@[push_cast] theorem qiY(i lo n:Nat):PV.killed pb (.eptr i lo n)= .bot:=rfl
@[push_cast] theorem qiZ(i n:Nat):PV.killed pb (.ptr i n)= .bot:=rfl
@[push_cast] theorem qj0(i:Nat):PV.killed pb (.yl i)= .bot:=rfl
@[push_cast] theorem qj1(i:Nat):PV.killed pb (.mp i)= .bot:=rfl
@[push_cast] theorem qj2(i e n:Nat):PV.killed pb (.bv i e n)= .bot:=rfl
@[push_cast] theorem qj3(f:Nat)(ids:List Nat):PV.killed pb (.clo f ids)= .cld (filN pb ids):=by simp only[PV.killed,qiU]
@[push_cast] theorem qj4(ids:List Nat):PV.killed pb (.cld ids)= .cld (filN pb ids):=by simp only[PV.killed,qiU]
@[push_cast] theorem qj5(i j:Nat):PV.killed pb (.itr i j)= .cld (filN pb [i,j]):=by simp only[PV.killed,qiU]
@[push_cast] theorem qj6(f:Nat)(ids:List Nat):PV.killV pb pa (.clo f ids)=bif anyN pb ids then .cld (filN pb ids)else .clo f ids:=by simp only[PV.killV,PV.killA,PV.kill,qhD,qj3]
@[push_cast] theorem qj7(ids:List Nat):PV.killV pb pa (.cld ids)=bif anyN pb ids then .cld (filN pb ids)else .cld ids:=by simp only[PV.killV,PV.killA,PV.kill,qhE,qj4]
@[push_cast] theorem qj8(i j:Nat):PV.killV pb pa (.itr i j)=bif (pb i||pb j)then .cld (filN pb [i,j])else .itr i j:=by simp only[PV.killV,PV.killA,PV.kill,qhI,qj5]
@[push_cast] theorem qj9(i:Nat):PV.killV pb pa (.yl i)=bif pb i then .bot else .yl i:=rfl
@[push_cast] theorem qja(i:Nat):PV.killV pb pa (.mp i)=bif pb i then .bot else .mp i:=rfl
@[push_cast] theorem qjb(i e n:Nat):PV.killV pb pa (.bv i e n)=bif pb i then .bot else .bv i e n:=rfl
@[push_cast] theorem qjc(cs:List PV):PV.killV pb pa (.agg cs)= .agg (qiD pb pa cs):=by simp only[PV.killV,PV.killA,qiM]
theorem qjd(s:List (Nat×PV)):(s.map fun x=>(x.1,x.2.killV pb pa))=qiE pb pa s:=by
 induction s with
 |nil=>rfl
 |cons x r ih=>
   obtain⟨k,v⟩:=x
   simp only[zW,qiE,ih]
   congr 2
   cases h:v.toV pb pa
   ·simp[qiQ pb pa h]
   ·rfl
theorem qje(s:List (Nat×List PV)):(s.map fun x=>(x.1,x.2.map (PV.kill pb pa)))=qiF pb pa s:=by
 induction s with
 |nil=>rfl
 |cons x r ih=>
   obtain⟨k,v⟩:=x
   simp only[qiM]at ih
   simp only[zW,qiF,qiM,ih]
   congr 2
   cases h:anyT pb pa v
   ·simp[qiO pb pa h]
   ·rfl
end
def mpO(pb:Nat->Bool):Option Mp->Bool
 |some ⟨_,_,some (.run i _ _)⟩=>pb i
 |_=>false
@[push_cast] theorem qjf(pb:Nat->Bool):mpO pb none=false:=rfl
@[push_cast] theorem qjg(pb:Nat->Bool)(kd:KD)(es:List (Value×PV)):mpO pb (some ⟨kd,es,none⟩)=false:=rfl
@[push_cast] theorem qjh(pb:Nat->Bool)(kd:KD)(es:List (Value×PV))(i:Nat)(l:List (Value×PV))(c:Option (Value×PV)):mpO pb (some ⟨kd,es,some (.run i l c)⟩)=pb i:=rfl
theorem qji(m:List (Nat×Mp))(pb:Nat->Bool)(i:Nat):mpTo m pb i=mpO pb (lk m i):=by
 unfold mpTo
 cases lk m i with
 |none=>rfl
 |some M=>obtain⟨kd,es,it⟩:=M;rcases it with _|(_|_)<;>rfl
def qjj(pb:Nat->Bool)(m0:List (Nat×Mp)):List (Nat×Mp)->List (Nat×Mp)
 |[]=>[]
 |(k,v)::r=>if(pb k||mpO pb (lk m0 k))=true then qjj pb m0 r else(k,v)::qjj pb m0 r
@[push_cast] theorem qjk(pb:Nat->Bool)(m0:List (Nat×Mp)):qjj pb m0 []=[]:=rfl
@[push_cast] theorem qjl(pb:Nat->Bool)(m0:List (Nat×Mp))(k:Nat)(v:Mp)(r:List (Nat×Mp)):qjj pb m0 ((k,v)::r)=if(pb k||mpO pb (lk m0 k))=true then qjj pb m0 r else(k,v)::qjj pb m0 r:=rfl
theorem qjm(pb:Nat->Bool)(m0 m:List (Nat×Mp)):(m.filter fun x=> !pb x.1&& !mpTo m0 pb x.1)=qjj pb m0 m:=by
 induction m with
 |nil=>rfl
 |cons x r ih=>
   obtain⟨k,v⟩:=x
   rw[List.filter_cons,qjj,ih,qji]
   cases pb k<;>cases mpO pb (lk m0 k)<;>rfl
theorem qjo(m:List (Nat×Mp)):(m.filter fun x=> !nul x.1&& !mpTo m nul x.1)=m:=List.filter_eq_self.2 fun x _=>by simp[qa9,nul]
@[push_cast] theorem qjp (s : List (Nat × PV)) (b : List (Nat × List PV)) (a : List (Nat × Arr)) (m : List (Nat × Mp)) (i : Nat) (M : Mp) :
  St.newMap ⟨s,b,a,m⟩ i M=⟨up (qiE (isId i) nul s) i (.mp i),rm (qiF (isId i) nul b) i,a,up (qjj (isId i) m m) i M⟩:=by
 simp only[St.newMap,St.kill,qjd,qje];rw[show(fun x:Nat×Mp=> !(fun j=>j==i) x.1&& !mpTo m (fun j=>j==i) x.1)=fun x=> !isId i x.1&& !mpTo m (isId i) x.1 from rfl,qjm];rfl
@[push_cast] theorem qjq (s : List (Nat × PV)) (b : List (Nat × List PV)) (a : List (Nat × Arr)) (m : List (Nat × Mp)) (i : Nat) (cs : List PV) :
  St.newBox ⟨s,b,a,m⟩ i cs=⟨up (qiE (isId i) nul s) i (.ptr i 0),up (qiF (isId i) nul b) i cs,a,qjj (isId i) m m⟩:=by
 simp only[St.newBox,St.kill,qjd,qje];rw[show(fun x:Nat×Mp=> !(fun j=>j==i) x.1&& !mpTo m (fun j=>j==i) x.1)=fun x=> !isId i x.1&& !mpTo m (isId i) x.1 from rfl,qjm];rfl
@[push_cast] theorem qjr (s : List (Nat × PV)) (b : List (Nat × List PV)) (a : List (Nat × Arr)) (m : List (Nat × Mp)) (i es : Nat) (cs : List PV) (n : Nat) :
  St.newBx ⟨s,b,a,m⟩ i es cs n=⟨up (qiE (isId i) nul s) i (.bv i es n),up (qiF (isId i) nul b) i cs,a,qjj (isId i) m m⟩:=by
 simp only[St.newBx,St.kill,qjd,qje];rw[show(fun x:Nat×Mp=> !(fun j=>j==i) x.1&& !mpTo m (fun j=>j==i) x.1)=fun x=> !isId i x.1&& !mpTo m (isId i) x.1 from rfl,qjm];rfl
@[push_cast] theorem qjs (s : List (Nat × PV)) (b : List (Nat × List PV)) (a : List (Nat × Arr)) (m : List (Nat × Mp)) (i id es : Nat) (cs : List PV) (n : Nat) :
  St.growBx ⟨s,b,a,m⟩ i id es cs n=⟨up (qiE (isId id) nul s) i (.bv id es n),up (qiF (isId id) nul b) id cs,a,qjj (isId id) m m⟩:=by
 simp only[St.growBx,St.kill,qjd,qje];rw[show(fun x:Nat×Mp=> !(fun j=>j==id) x.1&& !mpTo m (fun j=>j==id) x.1)=fun x=> !isId id x.1&& !mpTo m (isId id) x.1 from rfl,qjm];rfl
@[push_cast] theorem qjt (s : List (Nat × PV)) (b : List (Nat × List PV)) (a : List (Nat × Arr)) (m : List (Nat × Mp)) (i : Nat) (A : Arr) :
  St.newArr ⟨s,b,a,m⟩ i A=⟨up (qiE nul (isId i) s) i (.view i 0 A.xs.length),qiF nul (isId i) b,up a i A,m⟩:=by
 simp only[St.newArr,St.kill,qjd,qje,qjo];rfl
@[push_cast] theorem qju:qbL []=[]:=rfl
@[push_cast] theorem qjv(i lo n:Nat)(r:List PV):qbL (.view i lo n::r)=i::qbL r:=rfl
@[push_cast] theorem qjw(i lo n:Nat)(r:List PV):qbL (.eptr i lo n::r)=i::qbL r:=rfl
@[push_cast] theorem qjx(i n:Nat)(r:List PV):qbL (.ptr i n::r)=qbL r:=rfl
@[push_cast] theorem qjy(v:Value)(r:List PV):qbL (.sc v::r)=qbL r:=rfl
@[push_cast] theorem qjz(r:List PV):qbL (.nil::r)=qbL r:=rfl
@[push_cast] theorem qjA(r:List PV):qbL (.bot::r)=qbL r:=rfl
@[push_cast] theorem qjB(p:Bool)(es:Nat)(xs:List (List PV))(r:List PV):qbL (.sl p es xs::r)=qbL r:=rfl
@[push_cast] theorem qjC(p:Bool)(cs:List PV)(o:Nat)(r:List PV):qbL (.iptr p cs o::r)=qbL r:=rfl
@[push_cast] theorem qjD(f:Nat)(ids:List Nat)(r:List PV):qbL (.clo f ids::r)=qbL r:=rfl
@[push_cast] theorem qjE(i:Nat)(r:List PV):qbL (.mp i::r)=qbL r:=rfl
@[push_cast] theorem qjF(i e n:Nat)(r:List PV):qbL (.bv i e n::r)=qbL r:=rfl
@[push_cast] theorem qjG(cs r:List PV):qbL (.agg cs::r)=qbL r:=rfl
@[push_cast] theorem qjH(cs r:List PV):qbL (.tup cs::r)=qbL r:=rfl
def qjI(st:St):List Nat->St
 |[]=>st
 |i::r=>qjI (st.frz i) r
@[push_cast] theorem qjJ(st:St)(cs:List PV):st.frzs cs=qjI st (qbL cs):=by
 unfold St.frzs
 generalize qbL cs=l
 induction l generalizing st with
 |nil=>rfl
 |cons i l ih=>exact ih _
@[push_cast] theorem qjK(st:St):qjI st []=st:=rfl
@[push_cast] theorem qjL(st:St)(i:Nat)(r:List Nat):qjI st (i::r)=qjI (st.frz i) r:=rfl
def fzL(id:Nat)(A:Arr):List PV->List PV
 |[]=>[]
 |c::r=>c.fz id A::fzL id A r
def fzS(id:Nat)(A:Arr):List (Nat×PV)->List (Nat×PV)
 |[]=>[]
 |(k,v)::r=>(k,bif v.toV nul (isId id)then v.fzV id A else v)::fzS id A r
def fzB(id:Nat)(A:Arr):List (Nat×List PV)->List (Nat×List PV)
 |[]=>[]
 |(k,v)::r=>(k,bif anyT nul (isId id) v then fzL id A v else v)::fzB id A r
section
variable (id:Nat) (A:Arr)
@[push_cast] theorem qjM:fzL id A []=[]:=rfl
@[push_cast] theorem qjN(c:PV)(r:List PV):fzL id A (c::r)=c.fz id A::fzL id A r:=rfl
@[push_cast] theorem qjO:fzS id A []=[]:=rfl
@[push_cast] theorem qjP(k:Nat)(v:PV)(r:List (Nat×PV)):fzS id A ((k,v)::r)=(k,bif v.toV nul (isId id)then v.fzV id A else v)::fzS id A r:=rfl
@[push_cast] theorem qjQ:fzB id A []=[]:=rfl
@[push_cast] theorem qjR(k:Nat)(v:List PV)(r:List (Nat×List PV)):fzB id A ((k,v)::r)=(k,bif anyT nul (isId id) v then fzL id A v else v)::fzB id A r:=rfl
@[push_cast] theorem qjS(i lo n:Nat):PV.fz id A (.view i lo n)=if i=id then .sl true A.es ((A.xs.drop lo).take n)else .view i lo n:=rfl
@[push_cast] theorem qjT(i j o:Nat):PV.fz id A (.eptr i j o)=if i=id then .iptr true (A.xs.getD j []) o else .eptr i j o:=rfl
@[push_cast] theorem qjU(i n:Nat):PV.fz id A (.ptr i n)= .ptr i n:=rfl
@[push_cast] theorem qjV(v:Value):PV.fz id A (.sc v)= .sc v:=rfl
@[push_cast] theorem qjW:PV.fz id A .nil= .nil:=rfl
@[push_cast] theorem qjX:PV.fz id A .bot= .bot:=rfl
@[push_cast] theorem qjY(p:Bool)(es:Nat)(xs:List (List PV)):PV.fz id A (.sl p es xs)= .sl p es xs:=rfl
@[push_cast] theorem qjZ(p:Bool)(cs:List PV)(o:Nat):PV.fz id A (.iptr p cs o)= .iptr p cs o:=rfl
@[push_cast] theorem qk0(i lo n:Nat):PV.fzV id A (.view i lo n)=if i=id then .sl true A.es ((A.xs.drop lo).take n)else .view i lo n:=rfl
@[push_cast] theorem qk1(i j o:Nat):PV.fzV id A (.eptr i j o)=if i=id then .iptr true (A.xs.getD j []) o else .eptr i j o:=rfl
theorem qk2(cs:List PV):cs.map (PV.fz id A)=fzL id A cs:=by induction cs<;>simp_all[fzL]
@[push_cast] theorem qk3(cs:List PV):PV.fzV id A (.agg cs)= .agg (fzL id A cs):=by simp only[PV.fzV,PV.fzA,qk2]
theorem qk4{c:PV}(h:c.to nul (isId id)=false):c.fz id A=c:=by
 cases c<;>first|rfl|simp_all[PV.fz,PV.to,isId]
theorem qk5{cs:List PV}(h:anyT nul (isId id) cs=false):fzL id A cs=cs:=by
 induction cs with
 |nil=>rfl
 |cons c r ih=>simp only[anyT,Bool.or_eq_false_iff]at h;simp[fzL,qk4 id A h.1,ih h.2]
theorem qk6{c:PV}(h:c.toA nul (isId id)=false):c.fzA id A=c:=by
 cases c with
 |agg cs=>simp only[qhQ]at h;simp only[PV.fzA,qk2,qk5 id A h]
 |_=>simp only[PV.fzA];exact qk4 id A (by simpa only[PV.toA]using h)
theorem qk7{c:PV}(h:c.toV nul (isId id)=false):c.fzV id A=c:=by
 cases c with
 |tup cs=>
   simp only[qik]at h
   simp only[PV.fzV]
   congr 1
   induction cs with
   |nil=>rfl
   |cons c r ih=>simp only[anyA,Bool.or_eq_false_iff]at h;simp[qk6 id A h.1,ih h.2]
 |_=>simp only[PV.fzV];exact qk6 id A (by simpa only[PV.toV]using h)
theorem qk8(s:List (Nat×PV)):(s.map fun x=>(x.1,x.2.fzV id A))=fzS id A s:=by
 induction s with
 |nil=>rfl
 |cons x r ih=>
   obtain⟨k,v⟩:=x
   simp only[zW,fzS,ih]
   congr 2
   cases h:v.toV nul (isId id)
   ·simp[qk7 id A h]
   ·rfl
theorem qk9(s:List (Nat×List PV)):(s.map fun x=>(x.1,x.2.map (PV.fz id A)))=fzB id A s:=by
 induction s with
 |nil=>rfl
 |cons x r ih=>
   obtain⟨k,v⟩:=x
   simp only[qk2]at ih
   simp only[zW,fzB,qk2,ih]
   congr 2
   cases h:anyT nul (isId id) v
   ·simp[qk5 id A h]
   ·rfl
end
def frzO(s:List (Nat×PV))(b:List (Nat×List PV))(a:List (Nat×Arr))(m:List (Nat×Mp))(i:Nat):Option Arr->St
 |some A=>⟨fzS i A s,fzB i A b,rm a i,m⟩
 |none=>⟨s,b,a,m⟩
@[push_cast] theorem qka(s:List (Nat×PV))(b:List (Nat×List PV))(a:List (Nat×Arr))(m:List (Nat×Mp))(i:Nat)(A:Arr):frzO s b a m i (some A)=⟨fzS i A s,fzB i A b,rm a i,m⟩:=rfl
@[push_cast] theorem qkb(s:List (Nat×PV))(b:List (Nat×List PV))(a:List (Nat×Arr))(m:List (Nat×Mp))(i:Nat):frzO s b a m i none=⟨s,b,a,m⟩:=rfl
@[push_cast] theorem qkc(s:List (Nat×PV))(b:List (Nat×List PV))(a:List (Nat×Arr))(m:List (Nat×Mp))(i:Nat):St.frz ⟨s,b,a,m⟩ i=frzO s b a m i (lk a i):=by
 unfold St.frz
 cases h:lk a i with
 |none=>rfl
 |some A=>simp only[qk8,qk9];rfl
end Go.Vc
namespace Go.Vc
open Go Go.RowKit
attribute [push_cast] true_and and_true and_self Bool.false_or Bool.or_false Bool.true_or Bool.or_true cond_true cond_false Bool.false_eq_true Option.getD_some Option.getD_none zV List.length_nil List.append_nil List.nil_append List.cons_append
def rows{α:Type}(f:α->List PV)(l:List α):List (List PV):=l.map f
def intC(x:Int):List PV:=[.sc (.int .i64 x)]
def qkd(x:Int):List PV:=[.sc (.int .u8 x)]
def u64C(x:Int):List PV:=[.sc (.int .u64 x)]
def qke(x:Bool):List PV:=[.sc (.bool x)]
abbrev ints (l:List Int):List (List PV):=rows intC l
abbrev qkf (l:List Int):List (List PV):=rows qkd l
@[push_cast] theorem qkg(x:Int):intC x=[.sc (.int .i64 x)]:=_root_.id rfl
@[push_cast] theorem qkh(x:Int):qkd x=[.sc (.int .u8 x)]:=_root_.id rfl
@[push_cast] theorem qki(x:Int):u64C x=[.sc (.int .u64 x)]:=_root_.id rfl
@[push_cast] theorem qkj(x:Bool):qke x=[.sc (.bool x)]:=_root_.id rfl
section
variable {α:Type} (f:α->List PV) (l m:List α)
@[push_cast] theorem qkk:(rows f l).length=l.length:=by simp[rows]
@[push_cast] theorem qkl:rows f l++rows f m=rows f (l++m):=by simp[rows]
@[push_cast] theorem qkm(n:Nat):(rows f l).take n=rows f (l.take n):=by simp[rows]
@[push_cast] theorem qkn(n:Nat):(rows f l).drop n=rows f (l.drop n):=by simp[rows]
theorem qkp [Inhabited α]{i:Nat}(h:i<l.length):(rows f l).getD i []=f (l.getD i default):=by
 simp[rows,zK,h]
@[push_cast] theorem qkq [Inhabited α](i off:Nat)(cs:List PV):(rows f l).set i (spl ((rows f l).getD i []) off cs)=(rows f l).set i (spl (f (l.getD i default)) off cs):=by
 by_cases h:i<l.length
 ·rw[qkp f l h]
 ·rw[List.set_eq_of_length_le (by simp[rows];omega),List.set_eq_of_length_le (by simp[rows];omega)]
end
@[push_cast] theorem qkr(l:List Int)(x:Int):rows intC l++[[.sc (.int .i64 x)]]=rows intC (l++[x]):=by simp[rows,intC]
@[push_cast] theorem qks(l:List Int)(x:Int):rows qkd l++[[.sc (.int .u8 x)]]=rows qkd (l++[x]):=by simp[rows,qkd]
@[push_cast] theorem qkt(l:List Int)(x:Int):rows u64C l++[[.sc (.int .u64 x)]]=rows u64C (l++[x]):=by simp[rows,u64C]
@[push_cast] theorem qku(l:List Bool)(x:Bool):rows qke l++[[.sc (.bool x)]]=rows qke (l++[x]):=by simp[rows,qke]
@[push_cast] theorem qkv(l:List Int)(i:Nat)(x:Int):(rows intC l).set i [.sc (.int .i64 x)]=rows intC (l.set i x):=by simp[rows,intC,List.map_set]
@[push_cast] theorem qkw(l:List Bool)(i:Nat)(x:Bool):(rows qke l).set i [.sc (.bool x)]=rows qke (l.set i x):=by simp[rows,qke,List.map_set]
@[push_cast] theorem qkx(l:List Int)(i:Nat)(x:Int):(rows u64C l).set i [.sc (.int .u64 x)]=rows u64C (l.set i x):=by simp[rows,u64C,List.map_set]
@[push_cast] theorem qky(n:Nat)(x:Int):List.replicate n [.sc (.int .i64 x)]=rows intC (List.replicate n x):=by simp[rows,intC]
@[push_cast] theorem qkz(n:Nat)(x:Bool):List.replicate n [.sc (.bool x)]=rows qke (List.replicate n x):=by simp[rows,qke]
@[push_cast] theorem qkA(n:Nat)(x:Int):List.replicate n [.sc (.int .u64 x)]=rows u64C (List.replicate n x):=by simp[rows,u64C]
@[simp] theorem qkB(l:List Int)(P:Prop):(∀x∈rows intC l,∀c∈x,Perm c) ↔ True:=by simp[rows,intC]
@[simp] theorem qkC{α:Type}(f:α->List PV)(l:List α):(∀x∈rows f l,∀c∈x,Perm c) ↔ ∀x∈l,∀c∈f x,Perm c:=by simp[rows]
def nthL:List PV->Nat->PV
 |[],_=> .bot
 |c::r,i=>if i=0 then c else nthL r (i-1)
def qkD:Nat->List PV->List PV
 |_,[]=>[]
 |n,c::r=>if n=0 then c::r else qkD (n-1) r
def qkE:Nat->List PV->List PV
 |_,[]=>[]
 |n,c::r=>if n=0 then[]else c::qkE (n-1) r
theorem qkF(cs:List PV)(i:Nat):cs.getD i .bot=nthL cs i:=by
 induction cs generalizing i with
 |nil=>simp[nthL]
 |cons c r ih=>cases i<;>simp[nthL,<- ih]
theorem qkG(n:Nat)(cs:List PV):cs.drop n=qkD n cs:=by
 induction cs generalizing n with
 |nil=>simp[qkD]
 |cons c r ih=>cases n<;>simp[qkD,<- ih]
theorem qkH(n:Nat)(cs:List PV):cs.take n=qkE n cs:=by
 induction cs generalizing n with
 |nil=>simp[qkE]
 |cons c r ih=>cases n<;>simp[qkE,<- ih]
@[push_cast] theorem qkI(i:Nat):nthL [] i= .bot:=_root_.id rfl
@[push_cast] theorem qkJ(c:PV)(r:List PV)(i:Nat):nthL (c::r) i=if i=0 then c else nthL r (i-1):=_root_.id rfl
@[push_cast] theorem qkK(n:Nat):qkD n []=[]:=_root_.id rfl
@[push_cast] theorem qkL(n:Nat)(c:PV)(r:List PV):qkD n (c::r)=if n=0 then c::r else qkD (n-1) r:=_root_.id rfl
@[push_cast] theorem qkM(n:Nat):qkE n []=[]:=_root_.id rfl
@[push_cast] theorem qkN(n:Nat)(c:PV)(r:List PV):qkE n (c::r)=if n=0 then[]else c::qkE (n-1) r:=_root_.id rfl
@[push_cast] theorem qkO(sz off:Nat)(cs:List PV):ldc false sz off cs=nthL cs off:=qkF cs off
@[push_cast] theorem qkP(sz off:Nat)(cs:List PV):ldc true sz off cs= .agg (qkE sz (qkD off cs)):=by simp only[ldc,cond_true,qkH,qkG]
@[push_cast] theorem qkQ(cs:List PV)(i:Nat):spl cs i []=cs:=by simp[spl]
@[push_cast] theorem qkR(x:PV)(xs:List PV)(i:Nat)(c:PV)(new:List PV):spl (x::xs) i (c::new)=if i=0 then c::spl xs 0 new else x::spl xs (i-1) (c::new):=by
 cases i with
 |zero=>simp[spl]
 |succ i=>
   simp[spl]
   rw[show i+1+(new.length+1)=(i+(new.length+1))+1 from by omega,List.drop_succ_cons]
theorem qkS(x:List PV)(xs:List (List PV))(i:Nat)(v:List PV):(x::xs).set i v=if i=0 then v::xs else x::xs.set (i-1) v:=by cases i<;>simp
theorem qkT(n:Nat)(c:List PV)(r:List (List PV)):(c::r).take n=if n=0 then[]else c::r.take (n-1):=by cases n<;>simp
theorem qkU(n:Nat)(c:List PV)(r:List (List PV)):(c::r).drop n=if n=0 then c::r else r.drop (n-1):=by cases n<;>simp
attribute [push_cast] qkS qkT qkU List.take_nil List.drop_nil
@[push_cast] theorem rep0(z:List PV):List.replicate 0 z=[]:=_root_.id rfl
@[push_cast] theorem rep1(z:List PV):List.replicate 1 z=[z]:=_root_.id rfl
@[push_cast] theorem rep2(z:List PV):List.replicate 2 z=[z,z]:=_root_.id rfl
@[push_cast] theorem rep3(z:List PV):List.replicate 3 z=[z,z,z]:=_root_.id rfl
@[push_cast] theorem rep4(z:List PV):List.replicate 4 z=[z,z,z,z]:=_root_.id rfl
@[push_cast] theorem rep5(z:List PV):List.replicate 5 z=[z,z,z,z,z]:=_root_.id rfl
@[push_cast] theorem rep6(z:List PV):List.replicate 6 z=[z,z,z,z,z,z]:=_root_.id rfl
@[push_cast] theorem qkV(cs:List PV):cellsOf (.agg cs)=cs:=_root_.id rfl
@[push_cast] theorem qkW(v:Value):cellsOf (.sc v)=[.sc v]:=_root_.id rfl
@[push_cast] theorem qkX:cellsOf .nil=[.nil]:=_root_.id rfl
@[push_cast] theorem qkY(p:Bool)(es:Nat)(xs:List (List PV)):cellsOf (.sl p es xs)=[.sl p es xs]:=_root_.id rfl
@[push_cast] theorem qkZ(i lo n:Nat):cellsOf (.view i lo n)=[.view i lo n]:=_root_.id rfl
@[push_cast] theorem ql0(i n:Nat):cellsOf (.ptr i n)=[.ptr i n]:=_root_.id rfl
@[push_cast] theorem ql1(cs:List PV):qas (.agg cs)=true:=_root_.id rfl
@[push_cast] theorem ql2(v:Value):qas (.sc v)=true:=_root_.id rfl
@[push_cast] theorem ql3:qas .nil=true:=_root_.id rfl
@[push_cast] theorem ql4(p:Bool)(es:Nat)(xs:List (List PV)):qas (.sl p es xs)=true:=_root_.id rfl
@[push_cast] theorem ql5(i lo n:Nat):qas (.view i lo n)=true:=_root_.id rfl
@[push_cast] theorem ql6(i n:Nat):qas (.ptr i n)=true:=_root_.id rfl
def ql7:List PV->Bool
 |[]=>true
 |c::r=>qbM c&&ql7 r
theorem ql8(cs:List PV):cs.all qbM=ql7 cs:=by induction cs<;>simp_all[ql7]
@[push_cast] theorem ql9:ql7 []=true:=_root_.id rfl
@[push_cast] theorem qla(c:PV)(r:List PV):ql7 (c::r)=(qbM c&&ql7 r):=_root_.id rfl
@[push_cast] theorem qlb(v:Value):qbM (.sc v)=true:=_root_.id rfl
@[push_cast] theorem qlc:qbM .nil=true:=_root_.id rfl
@[push_cast] theorem qld(p:Bool)(es:Nat)(xs:List (List PV)):qbM (.sl p es xs)=true:=_root_.id rfl
@[push_cast] theorem qle(p:Bool)(cs:List PV)(o:Nat):qbM (.iptr p cs o)=true:=_root_.id rfl
attribute [push_cast] Bool.true_and Bool.and_true Bool.false_and Bool.and_false
@[push_cast] theorem qlf:ikLo .i64= -9223372036854775808:=_root_.id rfl
@[push_cast] theorem qlg:ikLo .u8=0:=_root_.id rfl
@[push_cast] theorem qlh:ikLo .u64=0:=_root_.id rfl
@[push_cast] theorem qli:ikLo .i32= -2147483648:=_root_.id rfl
@[push_cast] theorem qlj:ikHi .i64=9223372036854775807:=_root_.id rfl
@[push_cast] theorem qlk:ikHi .u8=255:=_root_.id rfl
@[push_cast] theorem qll:ikHi .u64=18446744073709551615:=_root_.id rfl
@[push_cast] theorem qlm:ikHi .i32=2147483647:=_root_.id rfl
@[push_cast] theorem qln(a b:Int):ariF .add a b=a+b:=_root_.id rfl
@[push_cast] theorem qlo(a b:Int):ariF .sub a b=a-b:=_root_.id rfl
@[push_cast] theorem qlp(a b:Int):ariF .mul a b=a*b:=_root_.id rfl
@[push_cast] theorem qlq(a b:Int):dvdN .quo a b=a/b:=_root_.id rfl
@[push_cast] theorem qlr(a b:Int):dvdN .rem a b=a%b:=_root_.id rfl
@[push_cast] theorem qls(k:IntKind)(a b:Int):dvdW .quo k a b=k.wrap (a.tdiv b):=_root_.id rfl
@[push_cast] theorem qlt(k:IntKind)(a b:Int):dvdW .rem k a b=a.tmod b:=_root_.id rfl
@[push_cast] theorem qlu(a b:Int):cmpF .eql a b=decide (a=b):=by
 show(a==b)=_
 by_cases h:a=b<;>simp[h]
@[push_cast] theorem qlv(a b:Int):cmpF .neq a b=decide (a≠b):=by
 show(a !=b)=_
 by_cases h:a=b<;>simp[h]
@[push_cast] theorem qlw(a b:Int):cmpF .lss a b=decide (a<b):=_root_.id rfl
@[push_cast] theorem qlx(a b:Int):cmpF .leq a b=decide (a<=b):=_root_.id rfl
@[push_cast] theorem qly(a b:Int):cmpF .gtr a b=decide (b<a):=_root_.id rfl
@[push_cast] theorem qlz(a b:Int):cmpF .geq a b=decide (b<=a):=_root_.id rfl
@[push_cast] theorem qlA(k l:IntKind)(a b:Int)(f:IntKind->Int->IntKind->Int->Prop×PV):vc2 (.sc (.int k a)) (.sc (.int l b)) f=f k a l b:=_root_.id rfl
@[push_cast] theorem qlB(k:IntKind)(a:Int)(f:IntKind->Int->Prop×PV):vc1 (.sc (.int k a)) f=f k a:=_root_.id rfl
section
variable (P:Env)
def qS(d:Option Nat)(x:Prop×PV)(r:List AO)(st:St)(K:St->Prop):Prop:=x.1/\opsK P r (st.put d x.2) K
@[push_cast] theorem qlC(d:Option Nat)(p:Prop)(v:PV)(r:List AO)(st:St)(K:St->Prop):qS P d (p,v) r st K=(p/\opsK P r (st.put d v) K):=_root_.id rfl
@[congr] theorem qlD{d:Option Nat}{x x' :Prop×PV}{r:List AO}{st st' :St}{K:St->Prop}(h1:x=x')(h2:st=st'):qS P d x r st K=qS P d x' r st' K:=by rw[h1,h2]
@[congr] theorem qlE{l:List AO}{st st' :St}{K:St->Prop}(h:st=st'):opsK P l st K=opsK P l st' K:=by rw[h]
@[congr] theorem qlF{c:AC}{st st' :St}{Q:Exit->St->Prop}(h:st=st'):awp P c Q st=awp P c Q st' :=by rw[h]
@[congr] theorem qlG{v v' :PV}{x y:Prop}(h:v=v'):qcN v x y=qcN v' x y:=by rw[h]
def ariG(op:BinOp)(nw:Bool)(k:IntKind)(k1:IntKind)(a:Int)(k2:IntKind)(b:Int):Prop×PV:=
 bif nw then((k1=k/\k2=k)/\ikLo k<=ariF op a b/\ariF op a b<=ikHi k,.sc (.int k (ariF op a b)))else(k1=k/\k2=k,.sc (.int k (k.wrap (ariF op a b))))
@[push_cast] theorem qlH(op:BinOp)(k k1 k2:IntKind)(a b:Int):ariG op true k k1 a k2 b=((k1=k/\k2=k)/\ikLo k<=ariF op a b/\ariF op a b<=ikHi k,.sc (.int k (ariF op a b))):=_root_.id rfl
@[push_cast] theorem qlI(op:BinOp)(k k1 k2:IntKind)(a b:Int):ariG op false k k1 a k2 b=(k1=k/\k2=k,.sc (.int k (k.wrap (ariF op a b)))):=_root_.id rfl
def dvdG(op:BinOp)(nn:Bool)(k:IntKind)(k1:IntKind)(a:Int)(k2:IntKind)(b:Int):Prop×PV:=
 bif nn then((k1=k/\k2=k)/\0<=a/\a<=ikHi k/\0<b,.sc (.int k (dvdN op a b)))else((k1=k/\k2=k)/\b≠0,.sc (.int k (dvdW op k a b)))
@[push_cast] theorem qlJ(op:BinOp)(k k1 k2:IntKind)(a b:Int):dvdG op true k k1 a k2 b=((k1=k/\k2=k)/\0<=a/\a<=ikHi k/\0<b,.sc (.int k (dvdN op a b))):=_root_.id rfl
@[push_cast] theorem qlK(op:BinOp)(k k1 k2:IntKind)(a b:Int):dvdG op false k k1 a k2 b=((k1=k/\k2=k)/\b≠0,.sc (.int k (dvdW op k a b))):=_root_.id rfl
def bitG(op:BinOp)(k:IntKind)(k1:IntKind)(a:Int)(k2:IntKind)(b:Int):Prop×PV:=(k1=k/\k2=k,.sc (.int k (bitF op k a b)))
@[push_cast] theorem qlL(op:BinOp)(k k1 k2:IntKind)(a b:Int):bitG op k k1 a k2 b=(k1=k/\k2=k,.sc (.int k (bitF op k a b))):=_root_.id rfl
def shfG(op:BinOp)(k:IntKind)(k1:IntKind)(a:Int)(_:IntKind)(b:Int):Prop×PV:=(k1=k/\0<=b,.sc (.int k (shfF op k a b)))
@[push_cast] theorem qlM(op:BinOp)(k k1 k2:IntKind)(a b:Int):shfG op k k1 a k2 b=(k1=k/\0<=b,.sc (.int k (shfF op k a b))):=_root_.id rfl
def cmpG(op:BinOp)(k:IntKind)(k1:IntKind)(a:Int)(k2:IntKind)(b:Int):Prop×PV:=(k1=k/\k2=k,.sc (.bool (cmpF op a b)))
@[push_cast] theorem qlN(op:BinOp)(k k1 k2:IntKind)(a b:Int):cmpG op k k1 a k2 b=(k1=k/\k2=k,.sc (.bool (cmpF op a b))):=_root_.id rfl
def mnG(mx:Bool)(k1:IntKind)(a:Int)(k2:IntKind)(b:Int):Prop×PV:=(k1=k2,.sc (.int k1 (bif mx then max a b else min a b)))
@[push_cast] theorem qlO(mx:Bool)(k1 k2:IntKind)(a b:Int):mnG mx k1 a k2 b=(k1=k2,.sc (.int k1 (bif mx then max a b else min a b))):=_root_.id rfl
def cnvG(nw:Bool)(k:IntKind)(_:IntKind)(a:Int):Prop×PV:=bif nw then(ikLo k<=a/\a<=ikHi k,.sc (.int k a))else(True,.sc (.int k (k.wrap a)))
@[push_cast] theorem qlQ(k k1:IntKind)(a:Int):cnvG true k k1 a=(ikLo k<=a/\a<=ikHi k,.sc (.int k a)):=_root_.id rfl
@[push_cast] theorem qlR(k k1:IntKind)(a:Int):cnvG false k k1 a=(True,.sc (.int k (k.wrap a))):=_root_.id rfl
def eqaV(ng:Bool)(n:Nat):PV->PV->Prop×PV
 | .agg cs,.agg ds=>match qat cs ds with|some r=>(cs.length=n/\ds.length=n,.sc (.bool (bif ng then !r else r)))|none=>(False,.bot)
 |_,_=>(False,.bot)
def eqaO(ng:Bool)(n:Nat)(cs ds:List PV):Option Bool->Prop×PV
 |some r=>(cs.length=n/\ds.length=n,.sc (.bool (bif ng then !r else r)))
 |none=>(False,.bot)
@[push_cast] theorem qlT(ng:Bool)(n:Nat)(cs ds:List PV)(r:Bool):eqaO ng n cs ds (some r)=(cs.length=n/\ds.length=n,.sc (.bool (bif ng then !r else r))):=_root_.id rfl
@[push_cast] theorem qlU(ng:Bool)(n:Nat)(cs ds:List PV):eqaV ng n (.agg cs) (.agg ds)=eqaO ng n cs ds (qat cs ds):=by
 show(match qat cs ds with|some r=>_|none=>_)=_
 cases qat cs ds<;>rfl
@[push_cast] theorem qlV:qat [] []=some true:=_root_.id rfl
@[push_cast] theorem qlW(k l:IntKind)(a b:Int)(r s:List PV):qat (.sc (.int k a)::r) (.sc (.int l b)::s)=if k=l then(qat r s).map (decide (a=b)&& ·)else none:=by
 have:(a==b)=decide (a=b):=by by_cases h:a=b<;>simp[h]
 simp only[qat,this]
attribute [push_cast] Option.map_some Option.map_none
def notV:PV->Prop×PV
 | .sc (.bool b)=>(True,.sc (.bool (!b)))
 |_=>(False,.bot)
@[push_cast] theorem qlX(b:Bool):notV (.sc (.bool b))=(True,.sc (.bool (!b))):=_root_.id rfl
def lenV:PV->Prop×PV
 | .view _ _ n=>(True,.int n)
 | .sl _ _ xs=>(True,.int xs.length)
 | .nil=>(True,.int 0)
 | .bv _ _ n=>(True,.int n)
 |_=>(False,.bot)
@[push_cast] theorem qlY(i e n:Nat):lenV (.bv i e n)=(True,.sc (.int .i64 n)):=_root_.id rfl
@[push_cast] theorem qlZ(i lo n:Nat):lenV (.view i lo n)=(True,.sc (.int .i64 n)):=_root_.id rfl
@[push_cast] theorem qm0(p:Bool)(es:Nat)(xs:List (List PV)):lenV (.sl p es xs)=(True,.sc (.int .i64 xs.length)):=_root_.id rfl
@[push_cast] theorem qm1:lenV .nil=(True,.sc (.int .i64 0)):=_root_.id rfl
def faV(off:Nat):PV->Prop×PV
 | .ptr id o=>(True,.ptr id (o+off))
 | .eptr id i o=>(True,.eptr id i (o+off))
 | .iptr p cs o=>(True,.iptr p cs (o+off))
 |_=>(False,.bot)
@[push_cast] theorem qm2(off id o:Nat):faV off (.ptr id o)=(True,.ptr id (o+off)):=_root_.id rfl
@[push_cast] theorem qm3(off id i o:Nat):faV off (.eptr id i o)=(True,.eptr id i (o+off)):=_root_.id rfl
@[push_cast] theorem qm4(off:Nat)(p:Bool)(cs:List PV)(o:Nat):faV off (.iptr p cs o)=(True,.iptr p cs (o+off)):=_root_.id rfl
def flV(agg:Bool)(off sz:Nat):PV->Prop×PV
 | .agg cs=>(off+sz<=cs.length,ldc agg sz off cs)
 |_=>(False,.bot)
@[push_cast] theorem qm5(agg:Bool)(off sz:Nat)(cs:List PV):flV agg off sz (.agg cs)=(off+sz<=cs.length,ldc agg sz off cs):=_root_.id rfl
def ixsA(es id lo n:Nat)(j:Int):Option Arr->Prop×PV
 |some A=>(A.es=es/\0<=j/\j<n,.eptr id (lo+j.toNat) 0)
 |none=>(False,.bot)
def ixsV(st:St)(es:Nat):PV->PV->Prop×PV
 | .view id lo n,.sc (.int _ j)=>ixsA es id lo n j (lk st.a id)
 | .sl p es' xs,.sc (.int _ j)=>(es' =es/\0<=j/\j<xs.length,.iptr p (xs.getD j.toNat []) 0)
 | .bv id es' n,.sc (.int _ j)=>(es' =es/\0<=j/\j<n,.ptr id (j.toNat*es))
 |_,_=>(False,.bot)
@[push_cast] theorem qm6(st:St)(es id es' n:Nat)(k:IntKind)(j:Int):ixsV st es (.bv id es' n) (.sc (.int k j))=(es' =es/\0<=j/\j<n,.ptr id (j.toNat*es)):=_root_.id rfl
@[push_cast] theorem qm7(es id lo n:Nat)(j:Int)(e t:Nat)(xs:List (List PV)):ixsA es id lo n j (some ⟨e,t,xs⟩)=(e=es/\0<=j/\j<n,.eptr id (lo+j.toNat) 0):=_root_.id rfl
@[push_cast] theorem qm8(s:List (Nat×PV))(b:List (Nat×List PV))(a:List (Nat×Arr))(m:List (Nat×Mp))(es id lo n:Nat)(k:IntKind)(j:Int):ixsV ⟨s,b,a,m⟩ es (.view id lo n) (.sc (.int k j))=ixsA es id lo n j (lk a id):=_root_.id rfl
@[push_cast] theorem qm9(st:St)(es:Nat)(p:Bool)(es' :Nat)(xs:List (List PV))(k:IntKind)(j:Int):ixsV st es (.sl p es' xs) (.sc (.int k j))=(es' =es/\0<=j/\j<xs.length,.iptr p (xs.getD j.toNat []) 0):=_root_.id rfl
def ixaV(n es:Nat):PV->PV->Prop×PV
 | .ptr id o,.sc (.int _ j)=>(0<=j/\j<n,.ptr id (o+j.toNat*es))
 | .eptr id k o,.sc (.int _ j)=>(0<=j/\j<n,.eptr id k (o+j.toNat*es))
 | .iptr p cs o,.sc (.int _ j)=>(0<=j/\j<n,.iptr p cs (o+j.toNat*es))
 |_,_=>(False,.bot)
@[push_cast] theorem qma(n es id o:Nat)(k:IntKind)(j:Int):ixaV n es (.ptr id o) (.sc (.int k j))=(0<=j/\j<n,.ptr id (o+j.toNat*es)):=_root_.id rfl
@[push_cast] theorem qmb(n es id i o:Nat)(k:IntKind)(j:Int):ixaV n es (.eptr id i o) (.sc (.int k j))=(0<=j/\j<n,.eptr id i (o+j.toNat*es)):=_root_.id rfl
@[push_cast] theorem qmc(n es:Nat)(p:Bool)(cs:List PV)(o:Nat)(k:IntKind)(j:Int):ixaV n es (.iptr p cs o) (.sc (.int k j))=(0<=j/\j<n,.iptr p cs (o+j.toNat*es)):=_root_.id rfl
def extV(i:Nat):PV->Prop×PV
 | .tup cs=>(i<cs.length,cs.getD i .bot)
 |_=>(False,.bot)
@[push_cast] theorem qme(i:Nat)(cs:List PV):extV i (.tup cs)=(i<cs.length,nthL cs i):=by simp only[extV,qkF]
def nckV:PV->Prop×PV
 | .ptr id o=>(True,.ptr id o)
 | .eptr id i o=>(True,.eptr id i o)
 | .iptr p cs o=>(True,.iptr p cs o)
 |_=>(False,.bot)
@[push_cast] theorem qmf(id o:Nat):nckV (.ptr id o)=(True,.ptr id o):=_root_.id rfl
@[push_cast] theorem qmg(id i o:Nat):nckV (.eptr id i o)=(True,.eptr id i o):=_root_.id rfl
@[push_cast] theorem qmh(p:Bool)(cs:List PV)(o:Nat):nckV (.iptr p cs o)=(True,.iptr p cs o):=_root_.id rfl
def qmi(c x y:PV):Prop×PV:=match c with| .sc (.bool true)=>(True,x)| .sc (.bool false)=>(True,y)|_=>(False,.bot)
@[push_cast] theorem qmj(x y:PV):qmi (.sc (.bool true)) x y=(True,x):=_root_.id rfl
@[push_cast] theorem qmk(x y:PV):qmi (.sc (.bool false)) x y=(True,y):=_root_.id rfl
def andQ{α:Type}(p:Prop)(q:Prop×α):Prop×α:=(p/\q.1,q.2)
@[push_cast] theorem qml{α:Type}(p a:Prop)(b:α):andQ p (a,b)=(p/\a,b):=_root_.id rfl
@[push_cast] theorem qmm(st:St)(cs:List PV):bldF st [] cs=(True,cs):=_root_.id rfl
@[push_cast] theorem qmn (st : St) (off sz : Nat) (x : Opd) (r : List (Nat × Nat × Opd)) (cs : List PV) :
  bldF st ((off,sz,x)::r) cs=andQ (qas (x.ev st)=true/\(cellsOf (x.ev st)).length=sz/\off+sz<=cs.length) (bldF st r (spl cs off (cellsOf (x.ev st)))):=by
 simp only[bldF,andQ,and_assoc]
def aggQ(q:Prop×List PV):Prop×PV:=(q.1,.agg q.2)
@[push_cast] theorem qmo(p:Prop)(cs:List PV):aggQ (p,cs)=(p,.agg cs):=_root_.id rfl
def rowV(agg:Bool)(sz off:Nat)(cs:List PV):Prop×PV:=(off+sz<=cs.length,ldc agg sz off cs)
def rowE(agg:Bool)(sz i off:Nat)(A:Arr):Prop×PV:=(i<A.xs.length/\off+sz<=A.es,ldc agg sz off (A.xs.getD i []))
def ldB(agg:Bool)(sz off:Nat):Option (List PV)->Prop×PV
 |some cs=>rowV agg sz off cs
 |none=>(False,.bot)
def ldE(agg:Bool)(sz i off:Nat):Option Arr->Prop×PV
 |some A=>rowE agg sz i off A
 |none=>(False,.bot)
def ldV(st:St)(agg:Bool)(sz:Nat):PV->Prop×PV
 | .ptr id off=>ldB agg sz off (lk st.b id)
 | .eptr id i off=>ldE agg sz i off (lk st.a id)
 | .iptr _ cs off=>rowV agg sz off cs
 |_=>(False,.bot)
@[push_cast] theorem qmp(agg:Bool)(sz off:Nat)(cs:List PV):ldB agg sz off (some cs)=rowV agg sz off cs:=_root_.id rfl
@[push_cast] theorem qmq(agg:Bool)(sz i off:Nat)(A:Arr):ldE agg sz i off (some A)=rowE agg sz i off A:=_root_.id rfl
@[push_cast] theorem qmr(s:List (Nat×PV))(b:List (Nat×List PV))(a:List (Nat×Arr))(m:List (Nat×Mp))(agg:Bool)(sz id off:Nat):ldV ⟨s,b,a,m⟩ agg sz (.ptr id off)=ldB agg sz off (lk b id):=_root_.id rfl
@[push_cast] theorem qms(s:List (Nat×PV))(b:List (Nat×List PV))(a:List (Nat×Arr))(m:List (Nat×Mp))(agg:Bool)(sz id i off:Nat):ldV ⟨s,b,a,m⟩ agg sz (.eptr id i off)=ldE agg sz i off (lk a id):=_root_.id rfl
@[push_cast] theorem qmt(st:St)(agg:Bool)(sz:Nat)(p:Bool)(cs:List PV)(off:Nat):ldV st agg sz (.iptr p cs off)=rowV agg sz off cs:=_root_.id rfl
@[push_cast] theorem qmu(agg:Bool)(sz off:Nat)(c:PV)(cs:List PV):rowV agg sz off (c::cs)=(off+sz<=(c::cs).length,ldc agg sz off (c::cs)):=_root_.id rfl
@[push_cast] theorem qmv(agg:Bool)(sz i off es ty:Nat)(x:List PV)(xs:List (List PV)):rowE agg sz i off ⟨es,ty,x::xs⟩=(i<(x::xs).length/\off+sz<=es,ldc agg sz off ((x::xs).getD i [])):=_root_.id rfl
@[push_cast] theorem qmw {α : Type} [Inhabited α] (d : Option Nat) (agg : Bool) (sz off i : Nat) (f : α -> List PV) (l : List α) (r : List AO) (st : St) (K : St -> Prop) (hs : 0 < sz) :
  qS P d (rowV agg sz off ((rows f l).getD i [])) r st K=(i<l.length/\qS P d (rowV agg sz off (f (l.getD i default))) r st K):=by
 by_cases h:i<l.length
 ·rw[qkp f l h];simp[h]
 ·have:(rows f l).getD i []=[]:=by simp[rows,zK,List.getElem?_eq_none (show l.length<=i by omega)]
  rw[this]
  simp only[qS,rowV,List.length_nil,h,false_and,eq_iff_iff,iff_false,not_and]
  intro h2;omega
@[push_cast] theorem qmx {α : Type} [Inhabited α] (d : Option Nat) (agg : Bool) (sz off i es ty : Nat) (f : α -> List PV) (l : List α) (r : List AO) (st : St) (K : St -> Prop) :
  qS P d (rowE agg sz i off ⟨es,ty,rows f l⟩) r st K=((i<l.length/\off+sz<=es)/\opsK P r (st.put d (ldc agg sz off (f (l.getD i default)))) K):=by
 by_cases h:i<l.length
 ·simp only[qS,rowE,qkp f l h,qkk]
 ·simp[qS,rowE,h,qkk]
def slcQ(es:Nat)(v:PV)(A:Option Arr)(q:Option (Int×Int)):Prop×PV:=
 match v,A,q with
 | .view id l n,some A,some (p,q)=>(A.es=es/\0<=p/\p<=q/\q<=n,.view id (l+p.toNat) (q.toNat-p.toNat))
 | .sl pm es' xs,_,some (p,q)=>(es' =es/\0<=p/\p<=q/\q<=xs.length,.sl pm es ((xs.take q.toNat).drop p.toNat))
 | .nil,_,some (p,q)=>(p=0/\q=0,.nil)
 |_,_,_=>(False,.bot)
def slcA(st:St):PV->Option Arr
 | .view id _ _=>lk st.a id
 |_=>none
def slcN:PV->Nat
 | .view _ _ n=>n
 | .sl _ _ xs=>xs.length
 |_=>0
@[push_cast] theorem qmy(s:List (Nat×PV))(b:List (Nat×List PV))(a:List (Nat×Arr))(m:List (Nat×Mp))(id l n:Nat):slcA ⟨s,b,a,m⟩ (.view id l n)=lk a id:=_root_.id rfl
@[push_cast] theorem qmz(st:St)(p:Bool)(es:Nat)(xs:List (List PV)):slcA st (.sl p es xs)=none:=_root_.id rfl
@[push_cast] theorem qmA(st:St):slcA st .nil=none:=_root_.id rfl
@[push_cast] theorem qmB(id l n:Nat):slcN (.view id l n)=n:=_root_.id rfl
@[push_cast] theorem qmC(p:Bool)(es:Nat)(xs:List (List PV)):slcN (.sl p es xs)=xs.length:=_root_.id rfl
@[push_cast] theorem qmD:slcN .nil=0:=_root_.id rfl
@[push_cast] theorem qmE(es id l n e t:Nat)(xs:List (List PV))(p q:Int):slcQ es (.view id l n) (some ⟨e,t,xs⟩) (some (p,q))=(e=es/\0<=p/\p<=q/\q<=n,.view id (l+p.toNat) (q.toNat-p.toNat)):=_root_.id rfl
@[push_cast] theorem qmF(es:Nat)(pm:Bool)(es' :Nat)(xs:List (List PV))(p q:Int):slcQ es (.sl pm es' xs) none (some (p,q))=(es' =es/\0<=p/\p<=q/\q<=xs.length,.sl pm es ((xs.take q.toNat).drop p.toNat)):=_root_.id rfl
@[push_cast] theorem qmG(es:Nat)(p q:Int):slcQ es .nil none (some (p,q))=(p=0/\q=0,.nil):=_root_.id rfl
def slcI(v:PV):Option Int:=match v with| .sc (.int _ a)=>some a|_=>none
def slcP(a b:Option Int):Option (Int×Int):=match a,b with|some a,some b=>some (a,b)|_,_=>none
@[push_cast] theorem qmH(k:IntKind)(a:Int):slcI (.sc (.int k a))=some a:=_root_.id rfl
@[push_cast] theorem qmI(a b:Int):slcP (some a) (some b)=some (a,b):=_root_.id rfl
@[push_cast] theorem qmJ(st:St)(n:Nat):slcB st n none none=some (0,(n:Int)):=_root_.id rfl
@[push_cast] theorem qmK(st:St)(n:Nat)(x:Opd):slcB st n (some x) none=slcP (slcI (x.ev st)) (some (n:Int)):=by
 simp only[slcB,slcI];split<;>simp_all[slcP]
@[push_cast] theorem qmL(st:St)(n:Nat)(x:Opd):slcB st n none (some x)=slcP (some 0) (slcI (x.ev st)):=by
 simp only[slcB,slcI];split<;>simp_all[slcP]
@[push_cast] theorem qmM(st:St)(n:Nat)(x y:Opd):slcB st n (some x) (some y)=slcP (slcI (x.ev st)) (slcI (y.ev st)):=by
 simp only[slcB,slcI]
 generalize x.ev st=u
 generalize y.ev st=v
 cases u with
 | sc u => cases v with
   |sc v=>cases u<;>cases v<;>rfl
   |_=>cases u<;>rfl
 |_=>cases v<;>rfl
variable (d:Option Nat) (r:List AO) (st:St) (K:St->Prop)
@[push_cast] theorem qmN:opsK P [] st K=K st:=_root_.id rfl
@[push_cast] theorem o_mv(x:Opd):opsK P (⟨d,none,.mv x⟩::r) st K=opsK P r (st.put d (x.ev st)) K:=by
 simp only[opsK,grdK,opK,aev,qcH,Bool.false_eq_true,if_false,true_and]
@[push_cast] theorem qmO(op:BinOp)(nw:Bool)(k:IntKind)(x y:Opd):opsK P (⟨d,none,.ari op nw k x y⟩::r) st K=qS P d (vc2 (x.ev st) (y.ev st) (ariG op nw k)) r st K:=_root_.id rfl
@[push_cast] theorem qmP(op:BinOp)(nw:Bool)(k:IntKind)(x y:Opd):opsK P (⟨d,none,.dvd op nw k x y⟩::r) st K=qS P d (vc2 (x.ev st) (y.ev st) (dvdG op nw k)) r st K:=_root_.id rfl
@[push_cast] theorem qmQ(op:BinOp)(k:IntKind)(x y:Opd):opsK P (⟨d,none,.bit op k x y⟩::r) st K=qS P d (vc2 (x.ev st) (y.ev st) (bitG op k)) r st K:=_root_.id rfl
@[push_cast] theorem qmR(op:BinOp)(k:IntKind)(x y:Opd):opsK P (⟨d,none,.shf op k x y⟩::r) st K=qS P d (vc2 (x.ev st) (y.ev st) (shfG op k)) r st K:=_root_.id rfl
@[push_cast] theorem qmS(op:BinOp)(k:IntKind)(x y:Opd):opsK P (⟨d,none,.cmp op k x y⟩::r) st K=qS P d (vc2 (x.ev st) (y.ev st) (cmpG op k)) r st K:=_root_.id rfl
@[push_cast] theorem o_mn(mx:Bool)(x y:Opd):opsK P (⟨d,none,.mn mx x y⟩::r) st K=qS P d (vc2 (x.ev st) (y.ev st) (mnG mx)) r st K:=_root_.id rfl
@[push_cast] theorem qmU(nw:Bool)(k:IntKind)(x:Opd):opsK P (⟨d,none,.cnv nw k x⟩::r) st K=qS P d (vc1 (x.ev st) (cnvG nw k)) r st K:=_root_.id rfl
@[push_cast] theorem qmW(ng:Bool)(n:Nat)(x y:Opd):opsK P (⟨d,none,.eqa ng n x y⟩::r) st K=qS P d (eqaV ng n (x.ev st) (y.ev st)) r st K:=_root_.id rfl
@[push_cast] theorem qmX(x:Opd):opsK P (⟨d,none,.not x⟩::r) st K=qS P d (notV (x.ev st)) r st K:=_root_.id rfl
@[push_cast] theorem qmY(x:Opd):opsK P (⟨d,none,.len x⟩::r) st K=qS P d (lenV (x.ev st)) r st K:=_root_.id rfl
@[push_cast] theorem o_fa(off:Nat)(x:Opd):opsK P (⟨d,none,.fa off x⟩::r) st K=qS P d (faV off (x.ev st)) r st K:=_root_.id rfl
@[push_cast] theorem o_fl(agg:Bool)(off sz:Nat)(x:Opd):opsK P (⟨d,none,.fl agg off sz x⟩::r) st K=qS P d (flV agg off sz (x.ev st)) r st K:=_root_.id rfl
@[push_cast] theorem qn0(es:Nat)(x i:Opd):opsK P (⟨d,none,.ixs es x i⟩::r) st K=qS P d (ixsV st es (x.ev st) (i.ev st)) r st K:=_root_.id rfl
@[push_cast] theorem qn1(n es:Nat)(x i:Opd):opsK P (⟨d,none,.ixa n es x i⟩::r) st K=qS P d (ixaV n es (x.ev st) (i.ev st)) r st K:=_root_.id rfl
@[push_cast] theorem qn3(x:Opd)(i:Nat):opsK P (⟨d,none,.ext x i⟩::r) st K=qS P d (extV i (x.ev st)) r st K:=_root_.id rfl
@[push_cast] theorem qn4(x:Opd):opsK P (⟨d,none,.nck x⟩::r) st K=qS P d (nckV (x.ev st)) r st K:=_root_.id rfl
@[push_cast] theorem qn5(c x y:Opd):opsK P (⟨d,none,.pick c x y⟩::r) st K=qS P d (qmi (c.ev st) (x.ev st) (y.ev st)) r st K:=_root_.id rfl
@[push_cast] theorem qn6(zero:List PV)(parts:List (Nat×Nat×Opd)):opsK P (⟨d,none,.bld zero parts⟩::r) st K=qS P d (aggQ (bldF st parts zero)) r st K:=_root_.id rfl
@[push_cast] theorem o_ld(agg:Bool)(sz:Nat)(x:Opd):opsK P (⟨d,none,.ld agg sz x⟩::r) st K=qS P d (ldV st agg sz (x.ev st)) r st K:=_root_.id rfl
@[push_cast] theorem qn7(es:Nat)(x:Opd)(lo hi:Option Opd):opsK P (⟨d,none,.slc es x lo hi⟩::r) st K=qS P d (slcQ es (x.ev st) (slcA st (x.ev st)) (slcB st (slcN (x.ev st)) lo hi)) r st K:=by
 have:aev st (.slc es x lo hi)=slcQ es (x.ev st) (slcA st (x.ev st)) (slcB st (slcN (x.ev st)) lo hi):=by
  simp only[aev]
  cases hx:x.ev st with
  |view id l n=>
    simp only[slcA,slcN]
    cases lk st.a id<;>cases slcB st n lo hi<;>rfl
  |sl pm es' xs=>simp only[slcA,slcN];cases slcB st xs.length lo hi<;>rfl
  |nil=>simp only[slcA,slcN];cases slcB st 0 lo hi<;>rfl
  |_=>rfl
 simp only[opsK,grdK,opK,qcH,Bool.false_eq_true,if_false,this,qS]
end
end Go.Vc
namespace Go.Vc
open Go Go.RowKit
section
variable (P:Env)
def hS(x:Prop×St)(r:List AO)(K:St->Prop):Prop:=x.1/\opsK P r x.2 K
@[push_cast] theorem qn8(p:Prop)(st:St)(r:List AO)(K:St->Prop):hS P (p,st) r K=(p/\opsK P r st K):=_root_.id rfl
@[congr] theorem qn9{x x' :Prop×St}{r:List AO}{K:St->Prop}(h:x=x'):hS P x r K=hS P x' r K:=by rw[h]
def boxH(st:St)(i:Nat)(v:PV):Prop×St:=(qas v=true/\anyT (isId i) nul (cellsOf v)=false,st.newBox i (cellsOf v))
@[push_cast] theorem qna(st:St)(i:Nat)(v:PV):boxH st i v=(qas v=true/\anyT (isId i) nul (cellsOf v)=false,st.newBox i (cellsOf v)):=_root_.id rfl
def bslH(st1:St)(i es ty:Nat)(zero:List PV)(n:Nat)(q:Prop×List (List PV)):Prop×St:=((0<es/\zero.length=es/\n*es<=16777216)/\q.1,st1.newArr i ⟨es,ty,q.2⟩)
@[push_cast] theorem qnb(st1:St)(i es ty:Nat)(zero:List PV)(n:Nat)(p:Prop)(xs:List (List PV)):bslH st1 i es ty zero n (p,xs)=((0<es/\zero.length=es/\n*es<=16777216)/\p,st1.newArr i ⟨es,ty,xs⟩):=_root_.id rfl
@[push_cast] theorem qnc(st:St):frzParts st []=st:=_root_.id rfl
@[push_cast] theorem qnd(st:St)(j:Nat)(x:Opd)(r:List (Nat×Opd)):frzParts st ((j,x)::r)=frzParts (st.frzs (cellsOf (x.ev st))) r:=_root_.id rfl
@[push_cast] theorem qne(st:St)(es:Nat)(xs:List (List PV)):bslF st es [] xs=(True,xs):=_root_.id rfl
@[push_cast] theorem qnf (st : St) (es j : Nat) (x : Opd) (r : List (Nat × Opd)) (xs : List (List PV)) :
  bslF st es ((j,x)::r) xs=andQ (qas (x.ev st)=true/\ql7 (cellsOf (x.ev st))=true/\(cellsOf (x.ev st)).length=es/\j<xs.length) (bslF st es r (xs.set j (cellsOf (x.ev st)))):=by
 simp only[bslF,andQ,and_assoc,ql8]
def mksH(st:St)(i es ty by_:Nat)(zero:List PV):PV->PV->Prop×St
 | .sc (.int _ n),.sc (.int _ m)=>((0<es/\zero.length=es)/\0<=n/\n<=m/\m.toNat*by_<=140737488355328/\m<=9223372036854775807,st.newArr i ⟨es,ty,List.replicate n.toNat zero⟩)
 |_,_=>(False,st)
@[push_cast] theorem qng (st : St) (i es ty by_ : Nat) (zero : List PV) (k l : IntKind) (n m : Int) : mksH st i es ty by_ zero (.sc (.int k n)) (.sc (.int l m)) =
  ((0<es/\zero.length=es)/\0<=n/\n<=m/\m.toNat*by_<=140737488355328/\m<=9223372036854775807,st.newArr i ⟨es,ty,List.replicate n.toNat zero⟩):=rfl
def stoB(s:List (Nat×PV))(b:List (Nat×List PV))(a:List (Nat×Arr))(m:List (Nat×Mp))(sz id off:Nat)(v:PV):Option (List PV)->Prop×St
 |some cs=>((qas v=true/\(cellsOf v).length=sz)/\off+sz<=cs.length,⟨s,up b id (spl cs off (cellsOf v)),a,m⟩)
 |none=>(False,⟨s,b,a,m⟩)
@[push_cast] theorem qnh (s : List (Nat × PV)) (b : List (Nat × List PV)) (a : List (Nat × Arr)) (m : List (Nat × Mp)) (sz id off : Nat) (v : PV) (cs : List PV) :
  stoB s b a m sz id off v (some cs)=((qas v=true/\(cellsOf v).length=sz)/\off+sz<=cs.length,⟨s,up b id (spl cs off (cellsOf v)),a,m⟩):=rfl
def stoE(st1:St)(sz:Nat)(x v:PV)(id i off:Nat):Option Arr->Prop×St
 |some A=>(((qas v=true/\ql7 (cellsOf v)=true)/\(cellsOf v).length=sz/\x= .eptr id i off)/\off+sz<=A.es/\i<A.xs.length,{ st1 with a:=up st1.a id { A with xs:=A.xs.set i (spl (A.xs.getD i []) off (cellsOf v)) } })
 |none=>(False,st1)
@[push_cast] theorem qni (s : List (Nat × PV)) (b : List (Nat × List PV)) (a : List (Nat × Arr)) (m : List (Nat × Mp)) (sz : Nat) (x v : PV) (id i off es ty : Nat) (xs : List (List PV)) :
  stoE ⟨s,b,a,m⟩ sz x v id i off (some ⟨es,ty,xs⟩)=(((qas v=true/\ql7 (cellsOf v)=true)/\(cellsOf v).length=sz/\x= .eptr id i off)/\off+sz<=es/\i<xs.length,⟨s,b,up a id ⟨es,ty,xs.set i (spl (xs.getD i []) off (cellsOf v))⟩,m⟩):=rfl
def lkA(st:St)(id:Nat):Option Arr:=lk st.a id
@[push_cast] theorem qnj(s:List (Nat×PV))(b:List (Nat×List PV))(a:List (Nat×Arr))(m:List (Nat×Mp))(id:Nat):lkA ⟨s,b,a,m⟩ id=lk a id:=_root_.id rfl
def stoH(st st1:St)(sz:Nat)(x v:Opd):PV->Prop×St
 | .ptr id off=>stoB st.s st.b st.a st.m sz id off (v.ev st) (lk st.b id)
 | .eptr id i off=>stoE st1 sz (x.ev st1) (v.ev st1) id i off (lkA st1 id)
 |_=>(False,st)
@[push_cast] theorem qnk(s:List (Nat×PV))(b:List (Nat×List PV))(a:List (Nat×Arr))(m:List (Nat×Mp))(st1:St)(sz:Nat)(x v:Opd)(id off:Nat):stoH ⟨s,b,a,m⟩ st1 sz x v (.ptr id off)=stoB s b a m sz id off (v.ev ⟨s,b,a,m⟩) (lk b id):=_root_.id rfl
@[push_cast] theorem qnl(st st1:St)(sz:Nat)(x v:Opd)(id i off:Nat):stoH st st1 sz x v (.eptr id i off)=stoE st1 sz (x.ev st1) (v.ev st1) id i off (lkA st1 id):=_root_.id rfl
def srcV(st:St)(es:Nat):PV->Prop×List (List PV)
 | .nil=>(True,[])
 | .sl _ es' ys=>(es' =es,ys)
 | .view id lo n=>srcA es lo n (lk st.a id)
 |_=>(False,[])
where
 srcA (es lo n:Nat):Option Arr->Prop×List (List PV)
  |some A=>(A.es=es,(A.xs.drop lo).take n)
  |none=>(False,[])
theorem qnm(st:St)(es:Nat)(v:PV):qbN st es v=srcV st es v:=by
 cases v<;>simp only[qbN,srcV]
 split<;>simp_all[srcV.srcA]
@[push_cast] theorem qnn(st:St)(es:Nat):srcV st es .nil=(True,[]):=_root_.id rfl
@[push_cast] theorem qno(st:St)(es:Nat)(p:Bool)(es' :Nat)(ys:List (List PV)):srcV st es (.sl p es' ys)=(es' =es,ys):=_root_.id rfl
@[push_cast] theorem qnp(s:List (Nat×PV))(b:List (Nat×List PV))(a:List (Nat×Arr))(m:List (Nat×Mp))(es id lo n:Nat):srcV ⟨s,b,a,m⟩ es (.view id lo n)=srcV.srcA es lo n (lk a id):=_root_.id rfl
@[push_cast] theorem qnq(es lo n e t:Nat)(xs:List (List PV)):srcV.srcA es lo n (some ⟨e,t,xs⟩)=(e=es,(xs.drop lo).take n):=_root_.id rfl
attribute [push_cast] List.drop_zero
def appA(st:St)(i es ty by_ id lo n:Nat)(q:Prop×List (List PV)):Option Arr->Prop×St
 | some A => (((lo = 0 /\ A.es = es /\ A.ty = ty) /\ q.1) /\ n = A.xs.length /\ (n + q.2.length) * by_ <= 140737488355328 /\ n + q.2.length <= 9223372036854775807,
   { s:=up (st.kill nul (fun j=>j==id)).s i (.view id 0 (n+q.2.length)),b:=(st.kill nul (fun j=>j==id)).b,a:=up st.a id { A with xs:=A.xs++q.2 },m:=(st.kill nul (fun j=>j==id)).m })
 |none=>(False,st)
@[push_cast] theorem qnr (s : List (Nat × PV)) (b : List (Nat × List PV)) (a : List (Nat × Arr)) (m : List (Nat × Mp)) (i es ty by_ id lo n : Nat) (p : Prop) (ys : List (List PV)) (e t : Nat) (xs : List (List PV)) :
  appA ⟨s,b,a,m⟩ i es ty by_ id lo n (p,ys) (some ⟨e,t,xs⟩)=(((lo=0/\e=es/\t=ty)/\p)/\n=xs.length/\(n+ys.length)*by_<=140737488355328/\n+ys.length<=9223372036854775807,
   ⟨up (qiE nul (isId id) s) i (.view id 0 (n+ys.length)),qiF nul (isId id) b,up a id ⟨e,t,xs++ys⟩,m⟩):=by
 simp only[appA,St.kill,qjd,qje,qjo];rfl
def appN(st:St)(i es ty by_:Nat)(p:Prop):List (List PV)->Prop×St
 |[]=>(0<es/\p,{ st with s:=up st.s i .nil })
 |y::r=>((0<es/\p)/\(r.length+1)*by_<=140737488355328/\r.length+1<=9223372036854775807,st.newArr i ⟨es,ty,y::r⟩)
@[push_cast] theorem qns(s:List (Nat×PV))(b:List (Nat×List PV))(a:List (Nat×Arr))(m:List (Nat×Mp))(i es ty by_:Nat)(p:Prop):appN ⟨s,b,a,m⟩ i es ty by_ p []=(0<es/\p,⟨up s i .nil,b,a,m⟩):=_root_.id rfl
@[push_cast] theorem qnt(st:St)(i es ty by_:Nat)(p:Prop)(y:List PV)(r:List (List PV)):appN st i es ty by_ p (y::r)=((0<es/\p)/\(r.length+1)*by_<=140737488355328/\r.length+1<=9223372036854775807,st.newArr i ⟨es,ty,y::r⟩):=_root_.id rfl
def appH(st:St)(i es ty by_:Nat)(q:Prop×List (List PV)):PV->Prop×St
 | .nil=>appN st i es ty by_ q.1 q.2
 | .view id lo n=>appA st i es ty by_ id lo n q (lk st.a id)
 |_=>(False,st)
@[push_cast] theorem qnu(st:St)(i es ty by_:Nat)(p:Prop)(ys:List (List PV)):appH st i es ty by_ (p,ys) .nil=appN st i es ty by_ p ys:=_root_.id rfl
@[push_cast] theorem qnv(s:List (Nat×PV))(b:List (Nat×List PV))(a:List (Nat×Arr))(m:List (Nat×Mp))(i es ty by_ id lo n:Nat)(q:Prop×List (List PV)):appH ⟨s,b,a,m⟩ i es ty by_ q (.view id lo n)=appA ⟨s,b,a,m⟩ i es ty by_ id lo n q (lk a id):=_root_.id rfl
def cpyA(st:St)(d:Option Nat)(es id lo n:Nat)(q:Prop×List (List PV)):Option Arr->Prop×St
 |some A=>((0<es/\A.es=es)/\q.1,({ st with a:=up st.a id { A with xs:=cpyF A.xs lo (q.2.take n) } } :St).put d (.int (min q.2.length n:Nat)))
 |none=>(False,st)
@[push_cast] theorem qnw (s : List (Nat × PV)) (b : List (Nat × List PV)) (a : List (Nat × Arr)) (m : List (Nat × Mp)) (d : Option Nat) (es id lo n : Nat) (p : Prop) (ys : List (List PV)) (e t : Nat) (xs : List (List PV)) :
  cpyA ⟨s,b,a,m⟩ d es id lo n (p,ys) (some ⟨e,t,xs⟩)=((0<es/\e=es)/\p,(⟨s,b,up a id ⟨e,t,cpyF xs lo (ys.take n)⟩,m⟩:St).put d (.int (min ys.length n:Nat))):=rfl
def cpyH(st:St)(d:Option Nat)(es:Nat)(q:Prop×List (List PV)):PV->Prop×St
 | .view id lo n=>cpyA st d es id lo n q (lk st.a id)
 |_=>(False,st)
@[push_cast] theorem qnx(s:List (Nat×PV))(b:List (Nat×List PV))(a:List (Nat×Arr))(m:List (Nat×Mp))(d:Option Nat)(es id lo n:Nat)(q:Prop×List (List PV)):cpyH ⟨s,b,a,m⟩ d es q (.view id lo n)=cpyA ⟨s,b,a,m⟩ d es id lo n q (lk a id):=_root_.id rfl
variable (i:Nat) (r:List AO) (st:St) (K:St->Prop)
@[push_cast] theorem qny(d:Option Nat)(es:Nat)(x y:Opd):opsK P (⟨d,none,.cpy es x y⟩::r) st K=hS P (cpyH st d es (srcV st es (y.ev st)) (x.ev st)) r K:=by
 have:hev st d (.cpy es x y)=cpyH st d es (srcV st es (y.ev st)) (x.ev st):=by
  simp only[hev,qnm]
  generalize x.ev st=u
  generalize srcV st es (y.ev st)=q
  cases u with
  |view id lo n=>simp only[cpyH];cases lk st.a id<;>rfl
  |_=>rfl
 simp only[opsK,grdK,opK,qcH,if_true,hS,this]
@[push_cast] theorem qnz(zero:List PV):opsK P (⟨some i,none,.alc zero⟩::r) st K=opsK P r (st.newBox i zero) K:=by
 simp only[opsK,grdK,opK,hev,qcH,if_true,true_and]
@[push_cast] theorem qnA(x:Opd):opsK P (⟨some i,none,.box x⟩::r) st K=hS P (boxH st i (x.ev st)) r K:=by
 simp only[opsK,grdK,opK,hev,qcH,if_true,hS,boxH,qhK];rfl
@[push_cast] theorem qnB(es ty:Nat)(zero:List PV)(n:Nat)(parts:List (Nat×Opd)):opsK P (⟨some i,none,.bsl es ty zero n parts⟩::r) st K=hS P (bslH (frzParts st parts) i es ty zero n (bslF (frzParts st parts) es parts (List.replicate n zero))) r K:=_root_.id rfl
@[push_cast] theorem qnC(es ty by_:Nat)(zero:List PV)(l c:Opd):opsK P (⟨some i,none,.mks es ty by_ zero l c⟩::r) st K=hS P (mksH st i es ty by_ zero (l.ev st) (c.ev st)) r K:=by
 have:hev st (some i) (.mks es ty by_ zero l c)=mksH st i es ty by_ zero (l.ev st) (c.ev st):=by
  simp only[hev]
  generalize l.ev st=u
  generalize c.ev st=v
  cases u with
  | sc u => cases v with
    |sc v=>cases u<;>cases v<;>rfl
    |_=>cases u<;>rfl
  |_=>cases v<;>rfl
 simp only[opsK,grdK,opK,qcH,if_true,hS,this]
@[push_cast] theorem qnD(sz:Nat)(x v:Opd):opsK P (⟨none,none,.sto sz x v⟩::r) st K=hS P (stoH st (st.frzs (cellsOf (v.ev st))) sz x v (x.ev st)) r K:=by
 have:hev st none (.sto sz x v)=stoH st (st.frzs (cellsOf (v.ev st))) sz x v (x.ev st):=by
  simp only[hev]
  generalize x.ev st=u
  cases u with
  |ptr id off=>simp only[stoH];cases lk st.b id<;>rfl
  |eptr id j off=>
    simp only[stoH,lkA]
    cases lk (st.frzs (cellsOf (v.ev st))).a id with
    |none=>rfl
    |some A=>simp only[stoE,ql8]
  |_=>rfl
 simp only[opsK,grdK,opK,qcH,if_true,hS,this]
@[push_cast] theorem qnE(es ty by_:Nat)(s x:Opd):opsK P (⟨some i,none,.app es ty by_ s x⟩::r) st K=hS P (appH st i es ty by_ (srcV st es (x.ev st)) (s.ev st)) r K:=by
 have:hev st (some i) (.app es ty by_ s x)=appH st i es ty by_ (srcV st es (x.ev st)) (s.ev st):=by
  simp only[hev,qnm]
  generalize s.ev st=u
  generalize srcV st es (x.ev st)=q
  cases u with
  |nil=>obtain⟨p,ys⟩:=q;cases ys<;>rfl
  |view id lo n=>simp only[appH];cases lk st.a id<;>rfl
  |_=>rfl
 simp only[opsK,grdK,opK,qcH,if_true,hS,this]
end
section
variable (P:Env) (Q:Exit->St->Prop) (st:St)
@[push_cast] theorem qnF:awp P .skip Q st=Q .normal st:=_root_.id rfl
@[push_cast] theorem qnG(segs:List (List Nat×List AO)):awp P (.rgs segs) Q st=segK P segs st (Q .normal):=_root_.id rfl
@[push_cast] theorem qnH(P:Env)(st:St)(K:St->Prop):segK P [] st K=K st:=rfl
@[push_cast] theorem qnI(P:Env)(ks:List Nat)(ops:List AO)(r:List (List Nat×List AO))(st:St)(K:St->Prop):segK P ((ks,ops)::r) st K=opsK P ops (st.keepS ks) fun st' =>segK P r st' K:=rfl
@[push_cast] theorem qnJ(keep:List Nat)(ops:List AO):awp P (.reg keep ops) Q st=opsK P ops (st.keepS keep) (Q .normal):=_root_.id rfl
@[push_cast] theorem qnK(x y:AC):awp P (.seq x y) Q st=awp P x (Exit.thn (awp P y Q) Q) st:=_root_.id rfl
@[push_cast] theorem qnL(c:Opd)(x y:AC):awp P (.cond c x y) Q st=qcN (c.ev st) (awp P x Q st) (awp P y Q st):=_root_.id rfl
@[push_cast] theorem qnM(id:Nat)(b:AC):awp P (.block id b) Q st=awp P b (Exit.inB id Q) st:=_root_.id rfl
@[push_cast] theorem qnN:awp P .ret Q st=Q .ret st:=_root_.id rfl
@[push_cast] theorem qnO(id:Nat):awp P (.exit id) Q st=Q (.exit id) st:=_root_.id rfl
variable (n:St->Prop)
@[push_cast] theorem qnP:Exit.thn n Q .normal st=n st:=_root_.id rfl
@[push_cast] theorem qnQ:Exit.thn n Q .ret st=Q .ret st:=_root_.id rfl
@[push_cast] theorem qnR(id:Nat):Exit.thn n Q (.exit id) st=Q (.exit id) st:=_root_.id rfl
@[push_cast] theorem qnS(id:Nat):Exit.inB id Q .normal st=Q .normal st:=_root_.id rfl
@[push_cast] theorem qnT(id:Nat):Exit.inB id Q .ret st=Q .ret st:=_root_.id rfl
@[push_cast] theorem qnU(id id' :Nat):Exit.inB id Q (.exit id') st=if id' =id then Q .normal st else Q (.exit id') st:=_root_.id rfl
@[push_cast] theorem qnV(x y:Prop):qcN (.sc (.bool true)) x y=x:=by simp[qcN]
@[push_cast] theorem qnW(x y:Prop):qcN (.sc (.bool false)) x y=y:=by simp[qcN]
end
theorem qnX{b:Bool}{x y:Prop}(h1:b=true->x)(h2:b=false->y):qcN (.sc (.bool b)) x y:=⟨h1,h2⟩
theorem qnY{p:Prop} [Decidable p]{x y:Prop}(h1:p->x)(h2: ¬p->y):qcN (.sc (.bool (decide p))) x y:=⟨fun h=>h1 (of_decide_eq_true h),fun h=>h2 (of_decide_eq_false h)⟩
def rp:List (Nat×PV)->Nat->PV->List (Nat×PV)
 |[],_,_=>[]
 |(k,u)::r,i,v=>if k=i then(k,v)::r else(k,u)::rp r i v
@[push_cast] theorem qnZ(i:Nat)(v:PV):rp [] i v=[]:=_root_.id rfl
@[push_cast] theorem qo0(k i:Nat)(u v:PV)(r:List (Nat×PV)):rp ((k,u)::r) i v=if k=i then(k,v)::r else(k,u)::rp r i v:=_root_.id rfl
theorem qo1(sl:List (Nat×PV))(s:Nat)(c:PV)(hc:getL sl s=c):rp sl s c=sl:=by
 induction sl with
 |nil=>rfl
 |cons x t ih=>
   obtain⟨k,v⟩:=x
   simp only[getL]at hc
   simp only[rp]
   split
   ·rename_i e;rw[if_pos e]at hc;rw[hc]
   ·rename_i e;rw[if_neg e]at hc;rw[ih hc]
theorem qo2 {P : Env} {d : Option Nat} {s : Nat} {want : Bool} {op : AOp} {r : List AO} {sl : List (Nat × PV)} {bx : List (Nat × List PV)} {ar : List (Nat × Arr)} {mm : List (Nat × Mp)} {K : St -> Prop} (b : Bool) (h : getL sl s = .sc (.bool b))
  (h1:b=want->opsK P (⟨d,none,op⟩::r) ⟨rp sl s (.sc (.bool want)),bx,ar,mm⟩ K) (h2:b= !want->opsK P r ((⟨rp sl s (.sc (.bool !want)),bx,ar,mm⟩:St).put d (.tup [])) K):
  opsK P (⟨d,some (s,want),op⟩::r) ⟨sl,bx,ar,mm⟩ K:=by
 have hup:=fun c (hc:getL sl s=c)=>qo1 sl s c hc
 have hg:(⟨sl,bx,ar,mm⟩:St).get s= .sc (.bool b):=by rw[qhe];exact h
 unfold opsK grdK
 simp only[hg]
 refine⟨fun e=> ?_,fun e=> ?_⟩
 ·have:=h1 e
  subst e
  rw[hup _ h]at this
  exact this
 ·have e' :b= !want:=by cases b<;>cases want<;>simp_all
  have:=h2 e'
  rw[<- e',hup _ h]at this
  exact this
section
variable {P:Env} {d:Option Nat} {s:Nat} {op:AOp} {r:List AO} {sl:List (Nat×PV)} {bx:List (Nat×List PV)} {ar:List (Nat×Arr)} {mm:List (Nat×Mp)} {K:St->Prop}
@[push_cast] theorem qo3(h:getL sl s= .sc (.bool true)):opsK P (⟨d,some (s,true),op⟩::r) ⟨sl,bx,ar,mm⟩ K=opsK P (⟨d,none,op⟩::r) ⟨sl,bx,ar,mm⟩ K:=by
 have hg:(⟨sl,bx,ar,mm⟩:St).get s= .sc (.bool true):=by rw[qhe];exact h
 rw[opsK,opsK];simp[grdK,hg];rfl
@[push_cast] theorem qo4(h:getL sl s= .sc (.bool false)):opsK P (⟨d,some (s,false),op⟩::r) ⟨sl,bx,ar,mm⟩ K=opsK P (⟨d,none,op⟩::r) ⟨sl,bx,ar,mm⟩ K:=by
 have hg:(⟨sl,bx,ar,mm⟩:St).get s= .sc (.bool false):=by rw[qhe];exact h
 rw[opsK,opsK];simp[grdK,hg];rfl
@[push_cast] theorem qo5(h:getL sl s= .sc (.bool false)):opsK P (⟨d,some (s,true),op⟩::r) ⟨sl,bx,ar,mm⟩ K=opsK P r ((⟨sl,bx,ar,mm⟩:St).put d (.tup [])) K:=by
 have hg:(⟨sl,bx,ar,mm⟩:St).get s= .sc (.bool false):=by rw[qhe];exact h
 rw[opsK];simp[grdK,hg]
@[push_cast] theorem qo6(h:getL sl s= .sc (.bool true)):opsK P (⟨d,some (s,false),op⟩::r) ⟨sl,bx,ar,mm⟩ K=opsK P r ((⟨sl,bx,ar,mm⟩:St).put d (.tup [])) K:=by
 have hg:(⟨sl,bx,ar,mm⟩:St).get s= .sc (.bool true):=by rw[qhe];exact h
 rw[opsK];simp[grdK,hg]
end
section
variable {P:Env} {d:Option Nat} {s:Nat} {w:Bool} {op:AOp} {r:List AO} {sl:List (Nat×PV)} {bx:List (Nat×List PV)} {ar:List (Nat×Arr)} {mm:List (Nat×Mp)} {K:St->Prop}
@[push_cast] theorem qo7(h:getL sl s= .tup []):opsK P (⟨d,some (s,w),op⟩::r) ⟨sl,bx,ar,mm⟩ K=opsK P r ((⟨sl,bx,ar,mm⟩:St).put d (.tup [])) K:=by
 have hg:(⟨sl,bx,ar,mm⟩:St).get s= .tup []:=by rw[qhe];exact h
 rw[opsK];simp[grdK,hg]
end
def rsL(st:St):List PV->List PV
 |[]=>[]
 |c::r=>c.rs1 st::rsL st r
def rs0L(st:St):List PV->List PV
 |[]=>[]
 |c::r=>c.rs0 st::rs0L st r
section
variable (st:St)
theorem qo8(cs:List PV):cs.map (PV.rs1 st)=rsL st cs:=by induction cs<;>simp_all[rsL]
theorem qo9(cs:List PV):cs.map (PV.rs0 st)=rs0L st cs:=by induction cs<;>simp_all[rs0L]
@[push_cast] theorem qoa:rsL st []=[]:=_root_.id rfl
@[push_cast] theorem qob(c:PV)(r:List PV):rsL st (c::r)=c.rs1 st::rsL st r:=_root_.id rfl
@[push_cast] theorem qoc:rs0L st []=[]:=_root_.id rfl
@[push_cast] theorem qod(c:PV)(r:List PV):rs0L st (c::r)=c.rs0 st::rs0L st r:=_root_.id rfl
def rsV(es0:Unit)(lo n:Nat):Option Arr->PV
 |some A=> .sl false A.es ((A.xs.drop lo).take n)
 |none=>match es0 with|()=> .bot
def rsB:Nat->Option (List PV)->PV
 |off,some cs=> .iptr false (rs0L st cs) off
 |_,none=> .bot
def rsE(i off:Nat):Option Arr->PV
 |some A=> .iptr false (A.xs.getD i []) off
 |none=> .bot
@[push_cast] theorem qoe(u:Unit)(lo n e t:Nat)(xs:List (List PV)):rsV u lo n (some ⟨e,t,xs⟩)= .sl false e ((xs.drop lo).take n):=_root_.id rfl
@[push_cast] theorem qof(off:Nat)(cs:List PV):rsB st off (some cs)= .iptr false (rs0L st cs) off:=_root_.id rfl
@[push_cast] theorem qog(i off e t:Nat)(xs:List (List PV)):rsE i off (some ⟨e,t,xs⟩)= .iptr false (xs.getD i []) off:=_root_.id rfl
end
section
variable (s:List (Nat×PV)) (b:List (Nat×List PV)) (a:List (Nat×Arr)) (m:List (Nat×Mp))
@[push_cast] theorem qoh(id lo n:Nat):PV.rs0 ⟨s,b,a,m⟩ (.view id lo n)=rsV () lo n (lk a id):=by simp only[PV.rs0];cases lk a id<;>rfl
@[push_cast] theorem qoi(id i o:Nat):PV.rs0 ⟨s,b,a,m⟩ (.eptr id i o)=rsE i o (lk a id):=by simp only[PV.rs0];cases lk a id<;>rfl
@[push_cast] theorem qoj(id o:Nat):PV.rs0 ⟨s,b,a,m⟩ (.ptr id o)= .bot:=_root_.id rfl
@[push_cast] theorem qok(v:Value):PV.rs0 ⟨s,b,a,m⟩ (.sc v)= .sc v:=_root_.id rfl
@[push_cast] theorem qol:PV.rs0 ⟨s,b,a,m⟩ .nil= .nil:=_root_.id rfl
@[push_cast] theorem qom:PV.rs0 ⟨s,b,a,m⟩ .bot= .bot:=_root_.id rfl
@[push_cast] theorem qon(p:Bool)(es:Nat)(xs:List (List PV)):PV.rs0 ⟨s,b,a,m⟩ (.sl p es xs)= .sl p es xs:=_root_.id rfl
@[push_cast] theorem qoo(p:Bool)(cs:List PV)(o:Nat):PV.rs0 ⟨s,b,a,m⟩ (.iptr p cs o)= .iptr p cs o:=_root_.id rfl
@[push_cast] theorem qop(id lo n:Nat):PV.rs1 ⟨s,b,a,m⟩ (.view id lo n)=rsV () lo n (lk a id):=qoh s b a m id lo n
@[push_cast] theorem qoq(id i o:Nat):PV.rs1 ⟨s,b,a,m⟩ (.eptr id i o)=rsE i o (lk a id):=qoi s b a m id i o
@[push_cast] theorem qor(id o:Nat):PV.rs1 ⟨s,b,a,m⟩ (.ptr id o)=rsB ⟨s,b,a,m⟩ o (lk b id):=by simp only[PV.rs1,qo9];cases lk b id<;>rfl
@[push_cast] theorem qos(v:Value):PV.rs1 ⟨s,b,a,m⟩ (.sc v)= .sc v:=_root_.id rfl
@[push_cast] theorem qot:PV.rs1 ⟨s,b,a,m⟩ .nil= .nil:=_root_.id rfl
@[push_cast] theorem qou:PV.rs1 ⟨s,b,a,m⟩ .bot= .bot:=_root_.id rfl
@[push_cast] theorem qov(p:Bool)(es:Nat)(xs:List (List PV)):PV.rs1 ⟨s,b,a,m⟩ (.sl p es xs)= .sl p es xs:=_root_.id rfl
@[push_cast] theorem qow(p:Bool)(cs:List PV)(o:Nat):PV.rs1 ⟨s,b,a,m⟩ (.iptr p cs o)= .iptr p cs o:=_root_.id rfl
@[push_cast] theorem qox(cs:List PV):PV.rsA ⟨s,b,a,m⟩ (.agg cs)= .agg (rsL ⟨s,b,a,m⟩ cs):=by simp only[PV.rsA,qo8]
@[push_cast] theorem qoy(id lo n:Nat):PV.rsA ⟨s,b,a,m⟩ (.view id lo n)=rsV () lo n (lk a id):=qoh s b a m id lo n
@[push_cast] theorem qoz(id i o:Nat):PV.rsA ⟨s,b,a,m⟩ (.eptr id i o)=rsE i o (lk a id):=qoi s b a m id i o
@[push_cast] theorem qoA(id o:Nat):PV.rsA ⟨s,b,a,m⟩ (.ptr id o)=rsB ⟨s,b,a,m⟩ o (lk b id):=qor s b a m id o
@[push_cast] theorem qoB(v:Value):PV.rsA ⟨s,b,a,m⟩ (.sc v)= .sc v:=_root_.id rfl
@[push_cast] theorem qoC:PV.rsA ⟨s,b,a,m⟩ .nil= .nil:=_root_.id rfl
@[push_cast] theorem qoD:PV.rsA ⟨s,b,a,m⟩ .bot= .bot:=_root_.id rfl
@[push_cast] theorem qoE(p:Bool)(es:Nat)(xs:List (List PV)):PV.rsA ⟨s,b,a,m⟩ (.sl p es xs)= .sl p es xs:=_root_.id rfl
@[push_cast] theorem qoF(p:Bool)(cs:List PV)(o:Nat):PV.rsA ⟨s,b,a,m⟩ (.iptr p cs o)= .iptr p cs o:=_root_.id rfl
end
def qoG(st:St):List Opd->List PV
 |[]=>[]
 |x::r=>(x.ev st).rsA st::qoG st r
@[push_cast] theorem qoH(st:St):qoG st []=[]:=_root_.id rfl
@[push_cast] theorem qoI(st:St)(x:Opd)(r:List Opd):qoG st (x::r)=(x.ev st).rsA st::qoG st r:=_root_.id rfl
theorem qoJ(st:St)(l:List Opd):(l.map fun x=>(x.ev st).rsA st)=qoG st l:=by induction l<;>simp_all[qoG]
def calK(P:Env)(d:Option Nat)(f:Nat)(args:List PV)(r:List AO)(st:St)(K:St->Prop):Prop:= ∃post,FnOK P.p f args post/\ ∀v,post v->opsK P r (st.put d v) K
@[congr] theorem qoK{P:Env}{d:Option Nat}{f:Nat}{args args' :List PV}{r:List AO}{st st' :St}{K:St->Prop}(h1:args=args')(h2:st=st'):calK P d f args r st K=calK P d f args' r st' K:=by rw[h1,h2]
@[push_cast] theorem qoL(P:Env)(d:Option Nat)(f:Nat)(args:List Opd)(r:List AO)(st:St)(K:St->Prop):opsK P (⟨d,none,.cal f args⟩::r) st K=calK P d f (qoG st args) r st K:=by
 simp only[opsK,grdK,opK,calK,qoJ]
theorem qoM{P:Env}{d:Option Nat}{f:Nat}{args:List PV}{r:List AO}{st:St}{K:St->Prop}{v:PV}(hc:FnEq P.p f args v)(h:opsK P r (st.put d v) K):calK P d f args r st K:=
 ⟨_,hc,fun u hu=>by subst hu;exact h⟩
theorem qoO {P : Env} {ks : List Nat} {body : AC} {Q : Exit -> St -> Prop} {st : St} (I : Nat -> St -> Prop) (n0 : Nat) (h0 : ∃ st1, SWk (st.keepS ks) st1 /\ I n0 st1)
  (hr: ∀n st',I n st' ->awp P body (Exit.thn (fun st'' => ∃st1,SWk (st''.keepS ks) st1/\ ∃n',n' <n/\I n' st1) Q) st'):awp P (.lps ks body) Q st:=⟨I,n0,h0,hr⟩
theorem SWk.refl(st:St):SWk st st:=fun _ _ _ _ _ h=>h
theorem qoP {P : Env} {ks : List Nat} {body : AC} {Q : Exit -> St -> Prop} {st : St} (I : Nat -> St -> Prop) (n0 : Nat) (h0 : I n0 (st.gc ks))
  (hr: ∀n st',I n st' ->awp P body (Exit.thn (fun st'' => ∃n',n' <n/\I n' (st''.gc ks)) Q) st'):awp P (.loop ks body) Q st:=⟨I,n0,h0,hr⟩
section
variable (rvs:List RV) (post:PV->Prop)
@[push_cast] theorem qoQ(st:St):retK rvs post .ret st=((resV st rvs).1/\qgW (resV st rvs).2=true/\Perm (resV st rvs).2/\post (resV st rvs).2):=by simp[retK,qgU]
@[push_cast] theorem qoR(st:St):retK rvs post .normal st=((resV st rvs).1/\qgW (resV st rvs).2=true/\Perm (resV st rvs).2/\post (resV st rvs).2):=by simp[retK,qgU]
end
def rvW(st:St):RV->Prop×PV:=fun r=>r.val st
@[push_cast] theorem qoS(st:St)(r:RV):resV st [r]=rvW (r.frz st) r:=_root_.id rfl
def rvT(st:St):List RV->Prop×List PV
 |[]=>(True,[])
 |r::rs=>andT (rvW st r) (rvT st rs)
where
 andT (x:Prop×PV) (y:Prop×List PV):Prop×List PV:=(x.1/\y.1,x.2::y.2)
def tupT(x:Prop×List PV):Prop×PV:=(x.1,.tup x.2)
@[push_cast] theorem qoT(p q:Prop)(v:PV)(vs:List PV):rvT.andT (p,v) (q,vs)=(p/\q,v::vs):=_root_.id rfl
@[push_cast] theorem qoU(st:St):rvT st []=(True,[]):=_root_.id rfl
@[push_cast] theorem qoV(st:St)(r:RV)(rs:List RV):rvT st (r::rs)=rvT.andT (rvW st r) (rvT st rs):=_root_.id rfl
@[push_cast] theorem qoW(p:Prop)(vs:List PV):tupT (p,vs)=(p,.tup vs):=_root_.id rfl
theorem qoX(st:St)(rs:List RV):((∀r∈rs,(r.val st).1)=(rvT st rs).1)/\(rs.map fun r=>(r.val st).2)=(rvT st rs).2:=by
 induction rs with
 |nil=>simp[rvT]
 |cons r rs ih=>simp[rvT,rvT.andT,rvW,<- ih.1,<- ih.2]
@[push_cast] theorem qoY(st:St)(r1 r2:RV)(rs:List RV):resV st (r1::r2::rs)=tupT (rvT (frzAll st (r1::r2::rs)) (r1::r2::rs)):=by
 have h:=qoX (frzAll st (r1::r2::rs)) (r1::r2::rs)
 show((∀r∈r1::r2::rs,(r.val (frzAll st (r1::r2::rs))).1),PV.tup ((r1::r2::rs).map fun r=>(r.val (frzAll st (r1::r2::rs))).2))=_
 rw[h.1,h.2];rfl
@[push_cast] theorem qoZ(st:St):resV st []=(True,.tup []):=by simp[resV]
@[push_cast] theorem qp0(st:St):frzAll st []=st:=_root_.id rfl
@[push_cast] theorem qp1(st:St)(r:RV)(rs:List RV):frzAll st (r::rs)=frzAll (r.frz st) rs:=_root_.id rfl
def frzW(st:St):PV->St
 | .agg cs=>st.frzs cs
 | .view id _ _=>st.frz id
 | .eptr id _ _=>st.frz id
 |_=>st
theorem qp2(st:St)(v:PV):frzVal st v=frzW st v:=by cases v<;>rfl
@[push_cast] theorem qp3(st:St)(t:Nat):RV.frz st (.tmp t)=frzW st (st.get t):=qp2 st _
@[push_cast] theorem qp4(st:St)(cs:List PV):frzW st (.agg cs)=st.frzs cs:=_root_.id rfl
@[push_cast] theorem qp5(st:St)(id lo n:Nat):frzW st (.view id lo n)=st.frz id:=_root_.id rfl
@[push_cast] theorem qp6(st:St)(v:Value):frzW st (.sc v)=st:=_root_.id rfl
@[push_cast] theorem qp7(st:St):frzW st .nil=st:=_root_.id rfl
@[push_cast] theorem qp8(st:St)(p:Bool)(es:Nat)(xs:List (List PV)):frzW st (.sl p es xs)=st:=_root_.id rfl
@[push_cast] theorem qp9(st:St)(id o:Nat):frzW st (.ptr id o)=st:=_root_.id rfl
@[push_cast] theorem qpa(st:St)(p:Bool)(cs:List PV)(o:Nat):frzW st (.iptr p cs o)=st:=_root_.id rfl
def frzC(st:St):PV->St
 | .ptr id _=>frzD st (lk st.b id)
 |_=>st
where
 frzD (st:St):Option (List PV)->St
  |some cs=>st.frzs cs
  |none=>st
@[push_cast] theorem qpb(st:St)(t:Nat)(agg:Bool)(sz:Nat):RV.frz st (.cell t agg sz)=frzC st (st.get t):=by
 simp only[RV.frz]
 cases st.get t<;>simp only[frzC]
 rename_i id o
 cases lk st.b id<;>rfl
@[push_cast] theorem qpc(s:List (Nat×PV))(b:List (Nat×List PV))(a:List (Nat×Arr))(m:List (Nat×Mp))(id o:Nat):frzC ⟨s,b,a,m⟩ (.ptr id o)=frzC.frzD ⟨s,b,a,m⟩ (lk b id):=_root_.id rfl
@[push_cast] theorem qpd(st:St)(cs:List PV):frzC.frzD st (some cs)=st.frzs cs:=_root_.id rfl
@[push_cast] theorem qpe(st:St)(t:Nat):rvW st (.tmp t)=(True,st.get t):=_root_.id rfl
def rvC(st:St)(agg:Bool)(sz:Nat):PV->Prop×PV
 | .ptr id off=>rvD agg sz off (lk st.b id)
 |_=>(False,.bot)
where
 rvD (agg:Bool) (sz off:Nat):Option (List PV)->Prop×PV
  |some cs=>(off+sz<=cs.length,ldc agg sz off cs)
  |none=>(False,.bot)
@[push_cast] theorem qpf(st:St)(t:Nat)(agg:Bool)(sz:Nat):rvW st (.cell t agg sz)=rvC st agg sz (st.get t):=by
 simp only[rvW,RV.val]
 cases st.get t<;>simp only[rvC]
 rename_i id o
 cases lk st.b id<;>rfl
@[push_cast] theorem qpg(s:List (Nat×PV))(b:List (Nat×List PV))(a:List (Nat×Arr))(m:List (Nat×Mp))(agg:Bool)(sz id o:Nat):rvC ⟨s,b,a,m⟩ agg sz (.ptr id o)=rvC.rvD agg sz o (lk b id):=_root_.id rfl
@[push_cast] theorem qph(agg:Bool)(sz off:Nat)(cs:List PV):rvC.rvD agg sz off (some cs)=(off+sz<=cs.length,ldc agg sz off cs):=_root_.id rfl
@[push_cast] theorem qpi(v:Value):qgW (.sc v)=true:=_root_.id rfl
@[push_cast] theorem qpj(p:Bool)(es:Nat)(xs:List (List PV)):qgW (.sl p es xs)=true:=_root_.id rfl
@[push_cast] theorem qpk(cs:List PV):qgW (.agg cs)=true:=_root_.id rfl
@[push_cast] theorem qpl:qgW .nil=true:=_root_.id rfl
@[push_cast] theorem qpm(cs:List PV):qgW (.tup cs)=cs.all fun c=> !qgV c:=_root_.id rfl
attribute [push_cast] List.all_cons List.all_nil Bool.not_false Bool.not_true
@[push_cast] theorem qpn(v:Value):qgV (.sc v)=false:=_root_.id rfl
@[push_cast] theorem qpo(p:Bool)(es:Nat)(xs:List (List PV)):qgV (.sl p es xs)=false:=_root_.id rfl
@[push_cast] theorem qpp(cs:List PV):qgV (.agg cs)=false:=_root_.id rfl
@[push_cast] theorem qpq:qgV .nil=false:=_root_.id rfl
attribute [push_cast] qcw qcx qcy qcA qcB qkB qkC List.forall_mem_cons
@[push_cast] theorem qpr(P:PV->Prop):(∀x∈([]:List PV),P x) ↔ True:=by simp
@[push_cast] theorem qps(l:List PV):slots0 l=slots0.go 0 l:=_root_.id rfl
@[push_cast] theorem qpt(k:Nat):slots0.go k []=[]:=_root_.id rfl
@[push_cast] theorem qpu(k:Nat)(c:PV)(r:List PV):slots0.go k (c::r)=(k,c)::slots0.go (k+1) r:=_root_.id rfl
end Go.Vc
