/- VcZo A B C D E F G Shelf H I J K L: lemmas -/
import Derived.Test.YtdmkfgkmnpohlaaGreatPart08
import Derived.Sort.OwnSortedInts
import Derived.Test.YtdmkfgkmnpohlaaGreatPart07
import Derived.Shelf.Small.Bits
import Derived.Shelf.Small.Wraps
import Derived.Shelf.Strconv.Itoa0
import Derived.Shelf.Sort.Plain
import Derived.Ground.Names2Prog
import Derived.Shelf.Slices.CompactI
import Derived.Shelf.Slices.SearchI
import Derived.Shelf.Slices.Cells
import Derived.Shelf.Slices.In.SortNone
import Derived.Shelf.Slices.Empties
import Derived.Test.YtdmkfgkmnpohlaaGreatProg
set_option linter.unusedSimpArgs false
set_option linter.unusedVariables false
open Nat (reduceEqDiff reduceAdd reduceSub reduceMul reduceLT reduceLeDiff)
open Int (reduceToNat reduceNeg)
namespace Go.Vc
open Go Go.RowKit Go.Sort
section
variable (P:Env) (r:List AO) (st:St) (K:St->Prop) (d:Option Nat)
def qu3(v:PV)(A:Prop):Prop:=match v with| .nil=>A|_=>False
@[push_cast] theorem qu4(A:Prop):qu3 .nil A=A:=rfl
def clrX(P:Env)(es:Nat)(zero:List PV)(id lo n:Nat)(r:List AO)(st:St)(K:St->Prop):Option Arr->Prop
 |some A=>(A.es=es/\zero.length=es)/\opsK P r { st with a:=up st.a id { A with xs:=cpyF A.xs lo (List.replicate n zero) } } K
 |none=>False
@[push_cast] theorem qu6 (es : Nat) (zero : List PV) (id lo n : Nat) (s : List (Nat × PV)) (b : List (Nat × List PV)) (a : List (Nat × Arr)) (m : List (Nat × Mp)) (e t : Nat) (xs : List (List PV)) :
  clrX P es zero id lo n r ⟨s,b,a,m⟩ K (some ⟨e,t,xs⟩)=((e=es/\zero.length=es)/\opsK P r ⟨s,b,up a id ⟨e,t,cpyF xs lo (List.replicate n zero)⟩,m⟩ K):=rfl
def clrV(P:Env)(es:Nat)(zero:List PV)(r:List AO)(st:St)(K:St->Prop):PV->Prop
 | .view id lo n=>clrX P es zero id lo n r st K (lk st.a id)
 |_=>False
@[push_cast] theorem qu7(es:Nat)(zero:List PV)(s:List (Nat×PV))(b:List (Nat×List PV))(a:List (Nat×Arr))(m:List (Nat×Mp))(id lo n:Nat):clrV P es zero r ⟨s,b,a,m⟩ K (.view id lo n)=clrX P es zero id lo n r ⟨s,b,a,m⟩ K (lk a id):=rfl
@[push_cast] theorem qu8(es:Nat)(zero:List PV)(x:Opd):opsK P (⟨none,none,.xo (.clr es zero) [x]⟩::r) st K=clrV P es zero r st K (x.ev st):=by
 show xoK st none (.clr es zero) [x.ev st] (fun st' =>opsK P r st' K)=_
 generalize x.ev st=u
 cases u with
 |view id lo n=>
   show(match lk st.a id with|some A=>_|none=>False)=clrX P es zero id lo n r st K (lk st.a id)
   cases lk st.a id<;>rfl
 |_=>rfl
def apmV(P:Env)(i es ty by_:Nat)(zero:List PV)(r:List AO)(st:St)(K:St->Prop):PV->PV->Prop
 | .nil,.sc (.int .i64 n)=>(0<es/\zero.length=es)/\0<n/\n.toNat*by_<=140737488355328/\n<=9223372036854775807/\opsK P r (st.newArr i ⟨es,ty,List.replicate n.toNat zero⟩) K
 |_,_=>False
@[push_cast] theorem qu9(i es ty by_:Nat)(zero:List PV)(n:Int):apmV P i es ty by_ zero r st K .nil (.sc (.int .i64 n))=((0<es/\zero.length=es)/\0<n/\n.toNat*by_<=140737488355328/\n<=9223372036854775807/\opsK P r (st.newArr i ⟨es,ty,List.replicate n.toNat zero⟩) K):=rfl
def bsxB(i es:Nat):List PV->Prop×List PV
 |[]=>(True,[])
 |v::r=>((qas v=true/\(cellsOf v).length=es/\anyT (isId i) nul (cellsOf v)=false)/\(bsxB i es r).1,cellsOf v++(bsxB i es r).2)
@[push_cast] theorem qub(i es:Nat):bsxB i es []=(True,[]):=rfl
@[push_cast] theorem quc(i es:Nat)(v:PV)(r:List PV):bsxB i es (v::r)=((qas v=true/\(cellsOf v).length=es/\anyT (isId i) nul (cellsOf v)=false)/\(bsxB i es r).1,cellsOf v++(bsxB i es r).2):=rfl
def mkxV(P:Env)(i by_:Nat)(zero:PV)(r:List AO)(st:St)(K:St->Prop):PV->Prop
 | .sc (.int _ n)=>(0<=n/\n.toNat*by_<=140737488355328/\n<=9223372036854775807)/\opsK P r (st.newBx i 1 (List.replicate n.toNat zero) n.toNat) K
 |_=>False
@[push_cast] theorem que(i by_:Nat)(zero:PV)(k:IntKind)(n:Int):mkxV P i by_ zero r st K (.sc (.int k n))=((0<=n/\n.toNat*by_<=140737488355328/\n<=9223372036854775807)/\opsK P r (st.newBx i 1 (List.replicate n.toNat zero) n.toNat) K):=rfl
end
section
variable {w0:World} {Z0:Zone} {X:Gh} {G:Nat->Value} {Z:Zone} {L:Lay} {st:St} {w:World} {P:Program}
theorem quh(l:List Int):ints l=l.map fun x=>[PV.sc (.int .i64 x)]:=rfl
theorem XR.holds{id ty:Nat}{zs:List Int}{cur:Array Value}(h:XR w Z L id ⟨1,ty,ints zs⟩ cur):cur.toList.take zs.length=zs.map (Value.int .i64):=by
 have hs:=h.size
 have hf:=h.fits
 simp only[quh,List.length_map,Nat.mul_one]at hs hf
 apply List.ext_getElem?
 intro j
 by_cases hj:j<zs.length
 ·have hc:=(h.cell j 0 [.sc (.int .i64 zs[j])] (.sc (.int .i64 zs[j])) (by rw[quh];simp[hj]) rfl).1
  have hv:cur.getD (j*1+0) undef= .int .i64 zs[j]:=VR.sc (L:=L) hc
  rw[List.getElem?_take_of_lt hj,Array.getElem?_toList]
  simp only[Nat.mul_one,Nat.add_zero,Array.getD_eq_getD_getElem?]at hv
  rw[Array.getElem?_eq_getElem (by omega)]at hv ⊢
  simp only[Option.getD_some]at hv
  rw[hv]
  simp[hj]
 ·rw[List.getElem?_take_eq_none (by omega),List.getElem?_eq_none (by simp;omega)]
theorem Inv.row (h : Mem w0 Z0 X G Z L st w) {id ty : Nat} {zs ts : List Int} (hA : lk st.a id = some ⟨1, ty, ints zs⟩) (hl : ts.length = zs.length) (n : Nat) (os : Array Obj) :
  Mem w0 Z0 X G Z L { st with a:=up st.a id ⟨1,ty,ints ts⟩ } (grow (putRow (Value.int .i64) (Sort.ahead w n) (L.ab id) 0 ts.toArray) os):=by
 obtain⟨cur,hX⟩:=h.arrs id _ hA
 obtain⟨o1,o2,o3⟩:=h.owna id _ hA
 have hs:=hX.size
 have hf:=hX.fits
 have hal:=hX.al
 simp only[quh,List.length_map,Nat.mul_one]at hs hf hal
 have hsz:(putCells (Value.int .i64) 0 ts.toArray cur).size=cur.size:=by simp[putCells]
 exact h.setArr (grownBy_sortedI (os:=os) (n:=n) ts.toArray) (row:=some (L.ab id)) (fun k ek=>⟨_,hA,by cases ek;rfl⟩) (id:=id) (LSame.refl L) (fun _ _=>rfl) (.inl ⟨_,hA,rfl⟩)
  (by have:=(grownBy_sortedI (w:=w) (g:=L.ab id) (os:=os) (n:=n) ts.toArray).size;omega) (St.noTo_nul _) (A' :=⟨1,ty,ints ts⟩) (cur:=putCells (Value.int .i64) 0 ts.toArray cur)
  ⟨hX.pos,hX.ae,by simp only[quh,List.length_map];omega,heap_sortedI ts.toArray hX.blk,by rw[hsz];simpa using hs,by simp only[quh,List.length_map];omega,hX.max,fun r hr=>by
   obtain⟨x,_,rfl⟩:=List.mem_map.1 hr
   rfl,fun p q r c hp hq=>by
   obtain⟨x,hx,rfl⟩: ∃x,ts[p]? =some x/\[PV.sc (.int .i64 x)]=r:=by
    rw[quh,List.getElem?_map]at hp
    cases hx:ts[p]? with
    |none=>rw[hx]at hp;cases hp
    |some x=>rw[hx]at hp;exact⟨x,rfl,by simpa using hp⟩
   have hpl:p<ts.length:=(List.getElem?_eq_some_iff.1 hx).1
   have hq0:q=0:=by have:=(List.getElem?_eq_some_iff.1 hq).1;simpa using this
   subst hq0
   have hc:c= .sc (.int .i64 x):=by simpa using hq.symm
   subst hc
   have hg:(putCells (Value.int .i64) 0 ts.toArray cur).getD (p*1+0) undef= .int .i64 x:=by
    have:=take_putCellsI cur ts (by omega)
    have h2:((putCells (Value.int .i64) 0 ts.toArray cur).toList.take ts.length)[p]? =(ts.map (Value.int .i64))[p]? :=by rw[this]
    rw[List.getElem?_take_of_lt hpl,Array.getElem?_toList,List.getElem?_map,hx]at h2
    rw[Nat.mul_one,Nat.add_zero,Array.getD_eq_getD_getElem?,h2]
    rfl
   dsimp only
   rw[hg]
   exact⟨.sc _ rfl,rfl⟩⟩
theorem qui{id n:Nat}{vs:Array Value}(h:ArgsR w Z L [.view id 0 n] vs): ∃c,vs= #[.slice (some ⟨L.ab id,0,none⟩) n c]/\c=L.ac id/\n<=c/\n<=L.al id/\VR w Z L (.view id 0 n) (.slice (some ⟨L.ab id,0,none⟩) n c):=by
 obtain⟨hs,hc⟩:=h
 have h0:=hc 0 _ rfl
 have h1:VR w Z L (.view id 0 n) (vs.getD 0 undef):=h0
 obtain⟨a,c,hv,h2,h3,h4,h5,h6⟩:=h0
 obtain⟨rfl,rfl⟩:=h6 rfl
 have hs1:vs.size=1:=hs
 have e:vs= #[.slice (some ⟨L.ab id,0,none⟩) n (L.ac id)]:=by
  rw[<- hv]
  apply Array.ext
  ·simpa using hs1
  ·intro i h7 h8
   have:i=0:=by simp at h8;omega
   subst this
   simp[Array.getD_eq_getD_getElem?,Array.getElem?_eq_getElem h7]
 rw[hv]at h1
 exact⟨_,e,rfl,h2,by omega,h1⟩
theorem quj {f : Nat} (hb : qcG P f = true)
  (hc: ∀(blk off cap:Nat) (zs:List Int) (w:World),Holds (Value.int .i64) w blk off zs.toArray->blk<w.heap.size->zs.length<4611686018427387904->Calls P f #[.slice (some ⟨blk,off,none⟩) zs.length cap] w fun e w' =>
   e= .returned (.tuple #[])/\ ∃n os,w' =grow (putRow (Value.int .i64) (Sort.ahead w n) blk off (zs.mergeSort fun x y=>decide (x<=y)).toArray) os)
  {id ty:Nat} {zs:List Int} {s:List (Nat×PV)} {b:List (Nat×List PV)} {a:List (Nat×Arr)} {m:List (Nat×Mp)} (hA:lk a id=some ⟨1,ty,ints zs⟩) (hl:zs.length<4611686018427387904):
  FnM (Env.of P) f [.view id 0 zs.length] ⟨s,b,a,m⟩ fun r st' =>r= .tup []/\st' =⟨s,b,up a id ⟨1,ty,ints (zs.mergeSort fun x y=>decide (x<=y))⟩,m⟩:=by
 refine⟨hb,fun w0 Z0 X G Z L w vs _ h2 h3=> ?_⟩
 obtain⟨c,rfl,rfl,h4,h5,h6⟩:=qui h3
 obtain⟨cur,hX⟩:=h2.arrs id _ hA
 obtain⟨o1,o2,o3⟩:=h2.owna id _ hA
 refine(hc (L.ab id) 0 (L.ac id) zs w (holds_of_blockI hX.blk hX.holds) o2 hl).mono ?_
 rintro e w' ⟨rfl,n,os,rfl⟩
 exact⟨_,.tup [],_,Z,L,rfl,⟨rfl,rfl⟩,h2.row hA (List.length_mergeSort _) n os,⟨#[],rfl,rfl,fun j c hj=>by simp at hj⟩⟩
theorem quk {f : Nat} (hb : qcG P f = true) {cp : List Int -> List Int} (hle : ∀ l, (cp l).length <= l.length)
  (hc: ∀(blk off cap:Nat) (zs:List Int) (w:World),Holds (Value.int .i64) w blk off zs.toArray->zs.length<=9223372036854775807->zs.length<=cap->Calls P f #[.slice (some ⟨blk,off,none⟩) zs.length cap] w fun e w' =>
   e= .returned (.slice (some ⟨blk,off,none⟩) (cp zs).length cap)/\ ∃q,w' =putRow (Value.int .i64) (Sort.ahead w q) blk off (cp zs++List.replicate (zs.length-(cp zs).length) 0).toArray)
  {id ty:Nat} {zs:List Int} {s:List (Nat×PV)} {b:List (Nat×List PV)} {a:List (Nat×Arr)} {m:List (Nat×Mp)} (hA:lk a id=some ⟨1,ty,ints zs⟩) (hl:zs.length<=9223372036854775807):
  FnM (Env.of P) f [.view id 0 zs.length] ⟨s,b,a,m⟩ fun r st' =>r= .view id 0 (cp zs).length/\st' =⟨s,b,up a id ⟨1,ty,ints (cp zs++List.replicate (zs.length-(cp zs).length) 0)⟩,m⟩:=by
 refine⟨hb,fun w0 Z0 X G Z L w vs _ h2 h3=> ?_⟩
 obtain⟨c,rfl,rfl,h4,h5,h6⟩:=qui h3
 obtain⟨cur,hX⟩:=h2.arrs id _ hA
 have hcl:=hle zs
 refine(hc (L.ab id) 0 (L.ac id) zs w (holds_of_blockI hX.blk hX.holds) hl h4).mono ?_
 rintro e w' ⟨rfl,n,rfl⟩
 have h7:=h2.row hA (ts:=cp zs++List.replicate (zs.length-(cp zs).length) 0) (by simp;omega) n #[]
 rw[grow_empty]at h7
 exact⟨_,.view id 0 (cp zs).length,_,Z,L,rfl,⟨rfl,rfl⟩,h7,⟨_,_,rfl,by omega,hX.max,by omega,by simp,by simp⟩⟩
theorem Inv.row_forget(h:Mem w0 Z0 X G Z L st w)(i:Nat):Mem w0 Z0 X G Z L { st with a:=rm st.a i } w:=
 h.forget (fun i v hl=> .inl hl) (fun _ _ h=>h) (fun j A hl=>by
  rw[qa4]at hl
  split at hl
  ·cases hl
  ·exact hl) (fun _ _ h=>h)
theorem FnM.dropA{E:Env}{f:Nat}{args:List PV}{Q:PV->St->Prop}(i:Nat)(h:FnM E f args st fun r st' =>Q r { st' with a:=rm st'.a i }):FnM E f args st Q:=
 ⟨h.1,fun w0 Z0 X G Z L w vs h1 h2 h3=>(h.2 w0 Z0 X G Z L w vs h1 h2 h3).mono fun _ _ ⟨v,r,st',Z',L',e1,e2,e3,e4⟩=>⟨v,r,_,Z',L',e1,e2,e3.row_forget i,e4⟩⟩
theorem FnM.frm {f : Nat} {args : List PV} {s ps t : List (Nat × PV)} {b : List (Nat × List PV)} {a : List (Nat × Arr)} {m : List (Nat × Mp)} {Q : PV -> St -> Prop}
  (hps: ∀i v,lk ps i=some v-> ∃id,v= .ptr id 0)
  (ht: ∀i v,lk t i=some v->lk s i=some v/\((∃x,v= .sc x)\/(∃id k,v= .ptr id 0/\lk ps k=some v)\/ ∃g ids,v= .clo g ids/\ ∀id∈ids,∃k,lk ps k=some (.ptr id 0)))
  (h:FnM (Env.of P) f args ⟨ps,b,a,m⟩ fun r st' => ∃b' a' m',st' =⟨ps,b',a',m'⟩/\Q r ⟨t,b',a',m'⟩):FnM (Env.of P) f args ⟨s,b,a,m⟩ Q:=by
 refine⟨h.1,fun w0 Z0 X G Z L w vs h2 h3 h4=> ?_⟩
 let G' :Nat->Value:=fun i=>qu2 L ((lk ps i).getD .bot)
 have hGi: ∀i v,lk ps i=some v->G' i=qu2 L v:=fun i v hi=>by
  show qu2 L _=_
  rw[hi]
  rfl
 have hm:Mem w0 Z0 X G' Z L ⟨ps,b,a,m⟩ w:=Inv.setG h3 fun i v hl=>by
  obtain⟨id,rfl⟩:=hps i v hl
  rw[hGi i _ hl]
  rfl
 refine(h.2 w0 Z0 X G' Z L w vs (EnvOK.of P w0 Z0 X G') hm h4).mono ?_
 rintro e w' ⟨v,r,st',Z',L',e1,⟨b',a',m',rfl,hq⟩,h5,h6⟩
 have hbx: ∀id k,lk ps k=some (.ptr id 0)->L'.bx id=L.bx id:=fun id k hk=>by
  have p3:VR w' Z' L' (.ptr id 0) (G' k):=Inv.slotG h5 hk
  rw[hGi k _ hk]at p3
  have p4:Value.pointer (some ⟨L.bx id,0,none⟩)=Value.pointer (some ⟨L'.bx id,0,none⟩):=p3
  injection p4 with p4
  injection p4 with p4
  injection p4 with p4
  exact p4.symm
 refine⟨v,r,_,Z',L',e1,hq,Inv.setG h5 fun i u hl=> ?_,h6⟩
 obtain⟨g1,g2⟩:=ht i u hl
 rcases g2 with⟨x,rfl⟩|⟨id,k,rfl,hk⟩|⟨g,ids,rfl,hk⟩
 ·have:=Inv.slotG h3 g1
  have:TR w Z (.sc x) (G i):=this
  show TR w' Z' (.sc x) (G i)
  cases this with
  |sc _ hx=>exact .sc _ hx
 ·have p2:G i= .pointer (some ⟨L.bx id,0,none⟩):=Inv.slotG h3 g1
  show G i= .pointer (some ⟨L'.bx id,0,none⟩)
  rw[p2,hbx id k hk]
 ·have p2:G i= .func (.func g) #[] (ids.map fun i=>Value.pointer (some ⟨L.bx i,0,none⟩)).toArray:=Inv.slotG h3 g1
  show G i= .func (.func g) #[] (ids.map fun i=>Value.pointer (some ⟨L'.bx i,0,none⟩)).toArray
  rw[p2]
  congr 2
  refine List.map_congr_left fun id hid=> ?_
  obtain⟨k,hk⟩:=hk id hid
  rw[hbx id k hk]
def hasP:List (Nat×PV)->Nat->Bool
 |[],_=>false
 |(_,.ptr id _)::r,j=>id==j||hasP r j
 |_::r,j=>hasP r j
def allP:List (Nat×PV)->Bool
 |[]=>true
 |(_,.ptr _ o)::r=>o==0&&allP r
 |_::_=>false
def frV(ps:List (Nat×PV)):PV->Prop
 | .sc _=>True
 | .ptr id o=>o=0/\hasP ps id=true
 | .clo _ ids=>ids.all (hasP ps)=true
 |_=>False
def frT(s ps:List (Nat×PV)):List (Nat×PV)->Prop
 |[]=>True
 |(i,v)::r=>(lk s i=some v/\frV ps v)/\frT s ps r
@[push_cast] theorem qul(i id o j:Nat)(r:List (Nat×PV)):hasP ((i,.ptr id o)::r) j=(id==j||hasP r j):=_root_.id rfl
@[push_cast] theorem qum(j:Nat):hasP [] j=false:=_root_.id rfl
@[push_cast] theorem qun(ps:List (Nat×PV))(x:Value):frV ps (.sc x)=True:=_root_.id rfl
@[push_cast] theorem qup(ps:List (Nat×PV))(i o:Nat):frV ps (.ptr i o)=(o=0/\hasP ps i=true):=_root_.id rfl
@[push_cast] theorem quq(ps:List (Nat×PV))(g:Nat)(ids:List Nat):frV ps (.clo g ids)=(ids.all (hasP ps)=true):=_root_.id rfl
@[push_cast] theorem qur(s ps:List (Nat×PV)):frT s ps []=True:=_root_.id rfl
@[push_cast] theorem qus(s ps r:List (Nat×PV))(i:Nat)(v:PV):frT s ps ((i,v)::r)=((lk s i=some v/\frV ps v)/\frT s ps r):=_root_.id rfl
attribute [push_cast] List.all_cons List.all_nil
theorem qut: ∀ {ps:List (Nat×PV)},allP ps=true-> ∀i v,lk ps i=some v-> ∃id,v= .ptr id 0
 |[],_,i,v,hl=>by cases hl
 | (k, u) :: r, h, i, v, hl => by
   cases u with
   |ptr id o=>
     simp only[allP,Bool.and_eq_true,beq_iff_eq]at h
     obtain⟨rfl,h⟩:=h
     simp only[lk]at hl
     split at hl
     ·cases hl;exact⟨id,rfl⟩
     ·exact qut h i v hl
   |_=>cases h
def quu:List (Nat×PV)->Bool
 |[]=>true
 |(k,_)::r=>r.all (fun x=>x.1 !=k)&&quu r
theorem quv{k:Nat}{v:PV} : ∀ {r:List (Nat×PV)},lk r k=some v-> ∃x∈r,x.1=k
 | (j, u) :: r, h => by
   simp only[lk]at h
   split at h
   ·rename_i e;exact⟨_,List.mem_cons_self,e⟩
   ·obtain⟨x,hx,e⟩:=quv h;exact⟨x,List.mem_cons_of_mem _ hx,e⟩
theorem quw: ∀ {ps:List (Nat×PV)},allP ps=true->quu ps=true-> ∀ {j:Nat},hasP ps j=true-> ∃k,lk ps k=some (.ptr j 0)
 |[],_,_,_,h=>by cases h
 | (k, u) :: r, h1, h2, j, h => by
   cases u with
   |ptr id o=>
     simp only[allP,quu,Bool.and_eq_true,beq_iff_eq,hasP,Bool.or_eq_true]at h1 h2 h
     obtain⟨rfl,h1⟩:=h1
     rcases h with rfl|h
     ·exact⟨k,by simp only[lk,if_true]⟩
     ·obtain⟨k',hk'⟩:=quw h1 h2.2 h
      refine⟨k',?_⟩
      have hne:k≠k' :=fun e=>by
       subst e
       obtain⟨x,hx,e⟩:=quv hk'
       have:=List.all_eq_true.1 h2.1 x hx
       simp[e]at this
      simp only[lk]
      rw[if_neg hne]
      exact hk'
   |_=>cases h1
theorem qux{s ps:List (Nat×PV)} : ∀ {t:List (Nat×PV)},frT s ps t-> ∀i v,lk t i=some v->lk s i=some v/\frV ps v
 |[],_,i,v,hl=>by cases hl
 | (k, u) :: r, h, i, v, hl => by
   simp only[lk]at hl
   split at hl
   ·rename_i e
    cases hl
    subst e
    exact h.1
   ·exact qux h.2 i v hl
theorem FnM.frame {f : Nat} {args : List PV} {s : List (Nat × PV)} (ps t : List (Nat × PV)) {b : List (Nat × List PV)} {a : List (Nat × Arr)} {m : List (Nat × Mp)} {Q : PV -> St -> Prop} (h1 : allP ps = true) (h2 : quu ps = true) (ht : frT s ps t)
  (h:FnM (Env.of P) f args ⟨ps,b,a,m⟩ fun r st' => ∃b' a' m',st' =⟨ps,b',a',m'⟩/\Q r ⟨t,b',a',m'⟩):FnM (Env.of P) f args ⟨s,b,a,m⟩ Q:=by
 refine FnM.frm (fun i v hl=>qut h1 i v hl) (fun i v hl=> ?_) h
 obtain⟨g1,g2⟩:=qux ht i v hl
 refine⟨g1,?_⟩
 cases v with
 |sc x=>exact .inl ⟨x,rfl⟩
 |ptr id o=>
   obtain⟨rfl,g3⟩:=g2
   obtain⟨k,hk⟩:=quw h1 h2 g3
   exact .inr (.inl ⟨id,k,rfl,hk⟩)
 |clo g ids=>exact .inr (.inr ⟨g,ids,rfl,fun id hid=>quw h1 h2 (List.all_eq_true.1 g2 id hid)⟩)
 |_=>exact g2.elim
end
end Go.Vc
namespace Go.Proofs.YtdmkfgkmnpohlaaGreat
open Go Go.Vc Txt
structure Grid where
 w:Int
 h:Int
 tracks:Int
 pads:Int
 kind:List Int
 deriving DecidableEq,Inhabited
structure Spot where
 kind:Int
 x:Int
 y:Int
 i:Int
 deriving DecidableEq,Inhabited
def quy(q:Bool)(g:Grid):List PV:=[.int g.w,.int g.h,.int g.tracks,.int g.pads,.sl q 1 (ints g.kind)]
def quz(s:Spot):List PV:=[.int s.kind,.int s.x,.int s.y,.int s.i]
@[push_cast] theorem quA(q:Bool)(g:Grid):quy q g=[.int g.w,.int g.h,.int g.tracks,.int g.pads,.sl q 1 (ints g.kind)]:=rfl
@[push_cast] theorem quB(s:Spot):quz s=[.int s.kind,.int s.x,.int s.y,.int s.i]:=rfl
structure GOk (g:Grid):Prop where
 w:1<=g.w/\g.w<=64
 h:1<=g.h/\g.h<=64
 tracks:1<=g.tracks/\g.tracks<=64
 pads:0<=g.pads/\g.pads<=1000
 kind:(g.kind.length:Int)=g.w*g.h
def quC(g:Grid):Int:=6+2*g.tracks
def allI(g:Grid):Int:=g.w*g.h*quC g
def quD(g:Grid):Int:=allI g+2*g.pads
theorem GOk.wh{g:Grid}(h:GOk g):1<=g.w*g.h/\g.w*g.h<=64*64:=
 ⟨Int.mul_le_mul (a:=1) (b:=1) h.w.1 h.h.1 (by omega) (by have:=h.w;omega),Int.mul_le_mul h.w.2 h.h.2 (by have:=h.h;omega) (by omega)⟩
theorem GOk.each{g:Grid}(h:GOk g):8<=quC g/\quC g<=134:=by have:=h.tracks;unfold quC;omega
theorem GOk.all{g:Grid}(h:GOk g):8<=allI g/\allI g<=64*64*134:=by
 have h1:=h.wh
 have h2:=h.each
 have h3:1*8<=g.w*g.h*quC g:=Int.mul_le_mul h1.1 h2.1 (by omega) (by omega)
 have h4:g.w*g.h*quC g<=64*64*134:=Int.mul_le_mul h1.2 h2.2 (by omega) (by omega)
 unfold allI;omega
theorem GOk.count{g:Grid}(h:GOk g):8<=quD g/\quD g<=600000:=by
 have h1:=h.all
 have h2:=h.pads
 unfold quD;omega
theorem quE(g:Grid)(hg:GOk g):FnEq Tryz.prog 80 [.agg (quy false g)] (.int (quC g)):=by
 refine FnEq.of_awp Tryz.func80 ok80 (by show 1<=_;decide) (by simp only[push_cast,reduceIte,reduceEqDiff,reduceAdd,reduceSub,reduceMul,Nat.reduceBEq,reduceLT,reduceLeDiff,reduceCtorEq,reduceToNat,reduceNeg]<;>first|exact fun _ _=>trivial|simp) ?_
 simp only[ac80,rv80,push_cast,reduceIte,reduceEqDiff,reduceAdd,reduceSub,reduceMul,Nat.reduceBEq,reduceLT,reduceLeDiff,reduceCtorEq,reduceToNat,reduceNeg]
 have:=hg.tracks
 refine⟨⟨by omega,by omega⟩,⟨by omega,by omega⟩,rfl⟩
theorem quF(g:Grid)(hg:GOk g):FnEq Tryz.prog 78 [.agg (quy false g)] (.int (allI g)):=by
 refine FnEq.of_awp Tryz.func78 ok78 (by show 1<=_;decide) (by simp only[push_cast,reduceIte,reduceEqDiff,reduceAdd,reduceSub,reduceMul,Nat.reduceBEq,reduceLT,reduceLeDiff,reduceCtorEq,reduceToNat,reduceNeg]<;>first|exact fun _ _=>trivial|simp) ?_
 simp only[ac78,rv78,push_cast,reduceIte,reduceEqDiff,reduceAdd,reduceSub,reduceMul,Nat.reduceBEq,reduceLT,reduceLeDiff,reduceCtorEq,reduceToNat,reduceNeg]
 have h1:=hg.wh
 have h2:=hg.all
 have e:g.w*g.h*quC g=allI g:=rfl
 refine⟨by omega,?_⟩
 refine qro (quE g hg) sC rfl ?_
 refine sB ?_
 rw[e]
 exact⟨by omega,rfl⟩
theorem quG(g:Grid)(hg:GOk g):FnEq Tryz.prog 79 [.agg (quy false g)] (.int (quD g)):=by
 refine FnEq.of_awp Tryz.func79 ok79 (by show 1<=_;decide) (by simp only[push_cast,reduceIte,reduceEqDiff,reduceAdd,reduceSub,reduceMul,Nat.reduceBEq,reduceLT,reduceLeDiff,reduceCtorEq,reduceToNat,reduceNeg]<;>first|exact fun _ _=>trivial|simp) ?_
 simp only[ac79,rv79,push_cast,reduceIte,reduceEqDiff,reduceAdd,reduceSub,reduceMul,Nat.reduceBEq,reduceLT,reduceLeDiff,reduceCtorEq,reduceToNat,reduceNeg]
 have h1:=hg.pads
 have h2:=hg.all
 refine qro (quF g hg) sC rfl ?_
 refine sB ?_
 exact⟨by omega,by omega,rfl⟩
theorem quH(g:Grid)(hg:GOk g):FnEq Tryz.prog 49 [.agg (quy false g)] (.int (quC g)):=by
 refine FnEq.of_awp Tryz.func49 ok49 (by show 1<=_;decide) (by simp only[push_cast,reduceIte,reduceEqDiff,reduceAdd,reduceSub,reduceMul,Nat.reduceBEq,reduceLT,reduceLeDiff,reduceCtorEq,reduceToNat,reduceNeg]<;>first|exact fun _ _=>trivial|simp) ?_
 simp only[ac49,rv49,push_cast,reduceIte,reduceEqDiff,reduceAdd,reduceSub,reduceMul,Nat.reduceBEq,reduceLT,reduceLeDiff,reduceCtorEq,reduceToNat,reduceNeg]
 have:=hg.tracks
 refine⟨⟨by omega,by omega⟩,⟨by omega,by omega⟩,rfl⟩
theorem quI(g:Grid)(hg:GOk g):FnEq Tryz.prog 41 [.agg (quy false g)] (.int (quD g)):=by
 refine FnEq.of_awp Tryz.func41 ok41 (by show 1<=_;decide) (by simp only[push_cast,reduceIte,reduceEqDiff,reduceAdd,reduceSub,reduceMul,Nat.reduceBEq,reduceLT,reduceLeDiff,reduceCtorEq,reduceToNat,reduceNeg]<;>first|exact fun _ _=>trivial|simp) ?_
 simp only[ac41,rv41,push_cast,reduceIte,reduceEqDiff,reduceAdd,reduceSub,reduceMul,Nat.reduceBEq,reduceLT,reduceLeDiff,reduceCtorEq,reduceToNat,reduceNeg]
 have h1:=hg.wh
 have h2:=hg.all
 have h3:=hg.pads
 have e:g.w*g.h*quC g=allI g:=rfl
 refine⟨by omega,?_⟩
 refine qro (quH g hg) sC rfl ?_
 refine sB ?_
 rw[e]
 exact⟨by omega,by omega,by omega,rfl⟩
def quJ(g:Grid)(n:Int):Spot:=
 if allI g+g.pads<=n then⟨7,g.w,(n-allI g-g.pads)%g.h,n-allI g-g.pads⟩
 else if allI g<=n then⟨6,-1,(n-allI g)%g.h,n-allI g⟩
 else
  let t:=n/quC g
  let i:=n%quC g
  if 6+g.tracks<=i then⟨5,t%g.w,t/g.w,i-6-g.tracks⟩
  else if 6<=i then⟨4,t%g.w,t/g.w,i-6⟩
  else if 2<=i then⟨3,t%g.w,t/g.w,i-2⟩
  else if i=1 then⟨2,t%g.w,t/g.w,0⟩
  else⟨1,t%g.w,t/g.w,0⟩
def quK(g:Grid)(n:Int):Spot×Int:=if n<0\/quD g<=n then(⟨0,0,0,0⟩,1)else(quJ g n,0)
def quL(p:Spot×Int):PV:= .tup [.agg (quz p.1),.int p.2]
theorem quM(g:Grid)(hg:GOk g)(n:Int)(hn: -1000000000<=n/\n<=1000000000):FnEq Tryz.prog 50 [.agg (quy false g),.int n] (quL (quK g n)):=by
 have h1:=hg.all
 have h2:=hg.each
 have h3:=hg.count
 have h4:=hg.pads
 have hw:=hg.w
 have hh:=hg.h
 have ht:=hg.tracks
 have hc:quD g=allI g+2*g.pads:=rfl
 unfold quL
 refine FnEq.of_awp Tryz.func50 ok50 (by show 2<=_;decide) (by simp only[push_cast,reduceIte,reduceEqDiff,reduceAdd,reduceSub,reduceMul,Nat.reduceBEq,reduceLT,reduceLeDiff,reduceCtorEq,reduceToNat,reduceNeg]<;>first|exact fun _ _=>trivial|simp) ?_
 simp only[ac50,rv50,push_cast,reduceIte,reduceEqDiff,reduceAdd,reduceSub,reduceMul,Nat.reduceBEq,reduceLT,reduceLeDiff,reduceCtorEq,reduceToNat,reduceNeg]
 refine qrm (quF g hg) sC ?_
 refine sB ?_
 refine⟨by omega,?_⟩
 refine qry ⟨[(1,.int n),(2,.ptr 2 0),(4,.ptr 4 0),(6,.int (n-allI g)),(14,.bool (decide (n<0\/quD g<=n)))],[(2,quy false g),(4,[.int 0,.int 0,.int 0,.int 0])],[],[]⟩ ?_ ?_
 ·refine qrr rfl (fun h=> ?_) fun h=> ?_<;>simp only[push_cast,reduceIte,reduceEqDiff,reduceAdd,reduceSub,reduceMul,Nat.reduceBEq,reduceLT,reduceLeDiff,reduceCtorEq,reduceToNat,reduceNeg]
  ·rw[decide_eq_true (show n<0\/quD g<=n from .inl h)]
  ·refine qrm (quG g hg) sC ?_
   refine sB ?_
   rw[show decide (quD g<=n)=decide (n<0\/quD g<=n)from by rw[decide_eq_decide];omega]
 refine sB ?_
 refine qnR (fun h=> ?_) fun h=> ?_
 ·rw[quK,if_pos h]
  exact sC
 rw[quK,if_neg h]
 refine sB ?_
 refine qnR (fun h5=> ?_) fun h5=> ?_
 ·rw[quJ,if_pos (by omega)]
  refine sB ?_
  exact⟨by omega,by omega,by omega⟩
 refine qnR (fun h6=> ?_) fun h6=> ?_
 ·rw[quJ,if_neg (by omega),if_pos (by omega)]
  refine sB ?_
  exact⟨by omega,by omega⟩
 have hd:quJ g n=(let t:=n/quC g;let i:=n%quC g;if 6+g.tracks<=i then⟨5,t%g.w,t/g.w,i-6-g.tracks⟩else if 6<=i then⟨4,t%g.w,t/g.w,i-6⟩else if 2<=i then⟨3,t%g.w,t/g.w,i-2⟩else if i=1 then⟨2,t%g.w,t/g.w,0⟩else⟨1,t%g.w,t/g.w,0⟩):=by rw[quJ,if_neg (by omega),if_neg (by omega)]
 dsimp only at hd
 have e1:0<=n/quC g/\n/quC g<=n:=⟨Int.ediv_nonneg (by omega) (by omega),Int.ediv_le_self _ (by omega)⟩
 have e2:=Int.emod_nonneg n (show quC g≠0 by omega)
 have e3:=Int.emod_lt_of_pos n (show 0<quC g by omega)
 have e4:quC g=6+2*g.tracks:=rfl
 refine qro (quE g hg) sC rfl ?_
 refine sB ?_
 refine⟨by omega,?_⟩
 refine qro (quE g hg) sC rfl ?_
 refine sB ?_
 refine⟨by omega,by omega,by omega,?_⟩
 refine⟨by omega,?_⟩
 refine qnR (fun h7=> ?_) fun h7=> ?_
 ·rw[show quJ g n=⟨5,n/quC g%g.w,n/quC g/g.w,n%quC g-6-g.tracks⟩from by rw[hd,if_pos (show 6+g.tracks<=n%quC g by omega)]]
  exact⟨by omega,by omega,by omega,rfl,rfl,rfl,congrArg (Value.int .i64) (by show _=n%quC g-6-g.tracks;omega)⟩
 refine qnR (fun h8=> ?_) fun h8=> ?_
 ·rw[show quJ g n=⟨4,n/quC g%g.w,n/quC g/g.w,n%quC g-6⟩from by rw[hd,if_neg (show ¬6+g.tracks<=n%quC g by omega),if_pos (show 6<=n%quC g by omega)]]
  exact⟨by omega,by omega,rfl,rfl,rfl,congrArg (Value.int .i64) (by show _=n%quC g-6;omega)⟩
 refine qnR (fun h9=> ?_) fun h9=> ?_
 ·rw[show quJ g n=⟨3,n/quC g%g.w,n/quC g/g.w,n%quC g-2⟩from by rw[hd,if_neg (show ¬6+g.tracks<=n%quC g by omega),if_neg (show ¬6<=n%quC g by omega),if_pos (show 2<=n%quC g by omega)]]
  exact⟨by omega,rfl,rfl,rfl,rfl⟩
 refine qnR (fun h10=> ?_) fun h10=> ?_
 ·rw[show quJ g n=⟨2,n/quC g%g.w,n/quC g/g.w,0⟩from by rw[hd,if_neg (show ¬6+g.tracks<=n%quC g by omega),if_neg (show ¬6<=n%quC g by omega),if_neg (show ¬2<=n%quC g by omega),if_pos (show n%quC g=1 by omega)]]
  exact⟨rfl,rfl,rfl,rfl⟩
 ·rw[show quJ g n=⟨1,n/quC g%g.w,n/quC g/g.w,0⟩from by rw[hd,if_neg (show ¬6+g.tracks<=n%quC g by omega),if_neg (show ¬6<=n%quC g by omega),if_neg (show ¬2<=n%quC g by omega),if_neg (show ¬n%quC g=1 by omega)]]
  exact⟨rfl,rfl,rfl,rfl⟩
structure SOk (s:Spot):Prop where
 x: -1<=s.x/\s.x<=65
 y: -1<=s.y/\s.y<=65
 i: -1<=s.i/\s.i<=2000
def quN(g:Grid)(s:Spot):Int:=(s.y*g.w+s.x)*quC g
def quO(g:Grid)(s:Spot):Int:=
 if s.kind=1 then quN g s else if s.kind=2 then quN g s+1 else if s.kind=3 then quN g s+2+s.i else if s.kind=4 then quN g s+2+4+s.i
 else if s.kind=5 then quN g s+2+4+g.tracks+s.i else if s.kind=6 then allI g+s.i else if s.kind=7 then allI g+g.pads+s.i else -1
def quP(g:Grid)(s:Spot):Int×Int:=if(quK g (quO g s)).2=0/\(quK g (quO g s)).1=s then(quO g s,0)else(0,1)
theorem quQ{a b A B:Int}(h1: -A<=a/\a<=A)(h2: -B<=b/\b<=B)(h3:0<=A)(h4:0<=B): -(A*B)<=a*b/\a*b<=A*B:=by
 have k1:=Int.natAbs_mul a b
 have k2:(a.natAbs:Int)<=A:=by omega
 have k3:(b.natAbs:Int)<=B:=by omega
 have k4:(a.natAbs:Int)*b.natAbs<=A*B:=Int.mul_le_mul k2 k3 (by omega) (by omega)
 have k5:((a*b).natAbs:Int)<=A*B:=by rw[k1,Int.natCast_mul];exact k4
 omega
theorem quR{g:Grid}(hg:GOk g){s:Spot}(hs:SOk s):(-4160<=s.y*g.w/\s.y*g.w<=4160)/\ -600000<=quN g s/\quN g s<=600000:=by
 have h1:=hg.w
 have h2:=hg.each
 have h3:=hs.x
 have h4:=hs.y
 have h5:=quQ (A:=65) (B:=64) (a:=s.y) (b:=g.w) (by omega) (by omega) (by omega) (by omega)
 have h6:=quQ (A:=4225) (B:=134) (a:=s.y*g.w+s.x) (b:=quC g) (by omega) (by omega) (by omega) (by omega)
 unfold quN
 omega
theorem quS(d s:Spot):(decide (d.kind=s.kind)&&(decide (d.x=s.x)&&(decide (d.y=s.y)&&decide (d.i=s.i))))=decide (d=s):=by
 obtain⟨a,b,c,e⟩:=d
 obtain⟨a',b',c',e'⟩:=s
 rw[Bool.eq_iff_iff]
 simp
theorem quT (g : Grid) (hg : GOk g) (s : Spot) (n : Int) (hn : -1000000000 <= n /\ n <= 1000000000) (st : St) (hst : st.keepS [0, 87, 2, 3, 7] = ⟨[(2, .ptr 2 0), (3, .ptr 3 0), (7, .int n)], [(2, quy false g), (3, quz s)], [], []⟩) (Q : PV -> Prop)
  (hq:Q (.tup [.int (if(quK g n).2=0/\(quK g n).1=s then n else 0),.int (if(quK g n).2=0/\(quK g n).1=s then 0 else 1)])):
  awp (Env.of Tryz.prog) ac83_r18 (retK [RV.tmp 4,RV.tmp 5] Q) st:=by
 simp only[ac83_r18,push_cast,reduceIte,reduceEqDiff,reduceAdd,reduceSub,reduceMul,Nat.reduceBEq,reduceLT,reduceLeDiff,reduceCtorEq,reduceToNat,reduceNeg,hst]
 refine qrm (quM g hg n hn) sC ?_
 obtain⟨⟨d,e⟩,hde⟩: ∃p,quK g n=p:=⟨_,rfl⟩
 rw[hde]at hq ⊢
 simp only[quL,push_cast,reduceIte,reduceEqDiff,reduceAdd,reduceSub,reduceMul,Nat.reduceBEq,reduceLT,reduceLeDiff,reduceCtorEq,reduceToNat,reduceNeg]at hq ⊢
 refine qry ⟨[(7,.int n),(85,.bool (decide ¬(e=0/\d=s)))],[(2,quy false g),(3,quz s),(8,quz d)],[],[]⟩ ?_ ?_
 ·refine qrr rfl (fun h=> ?_) fun h=> ?_<;>simp only[push_cast,reduceIte,reduceEqDiff,reduceAdd,reduceSub,reduceMul,Nat.reduceBEq,reduceLT,reduceLeDiff,reduceCtorEq,reduceToNat,reduceNeg]
  ·rw[decide_eq_true (show ¬(e=0/\d=s)from fun hh=>h hh.1)]
  ·have he:e=0:=by simpa using h
   have hb:=quS d s
   rw[show(!(decide (d.kind=s.kind)&&(decide (d.x=s.x)&&(decide (d.y=s.y)&&decide (d.i=s.i)))))=decide ¬(e=0/\d=s)from by rw[hb];simp[he]]
 ·refine sB ?_
  refine qnR (fun h=> ?_) fun h=> ?_
  ·rw[if_neg h,if_neg h]at hq
   exact hq
  ·rw[if_pos (Classical.not_not.1 h),if_pos (Classical.not_not.1 h)]at hq
   exact hq
theorem quU(g:Grid)(hg:GOk g)(s:Spot)(hs:SOk s):FnEq Tryz.prog 83 [.agg (quy false g),.agg (quz s)] (.tup [.int (quP g s).1,.int (quP g s).2]):=by
 obtain⟨h1,h2⟩:=quR hg hs
 have h3:=hg.all
 have h4:=hg.pads
 have h5:=hg.tracks
 have h6:=hs.i
 have h7:=hs.x
 have e:(s.y*g.w+s.x)*quC g=quN g s:=rfl
 have key: ∀n,quO g s=n->(PV.tup [.int (if(quK g n).2=0/\(quK g n).1=s then n else 0),.int (if(quK g n).2=0/\(quK g n).1=s then 0 else 1)])= .tup [.int (quP g s).1,.int (quP g s).2]:=fun n hn=>by
  rw[quP,hn]
  split<;>rfl
 refine FnEq.of_awp Tryz.func83 ok83 (by show 2<=_;decide) (by simp only[push_cast,reduceIte,reduceEqDiff,reduceAdd,reduceSub,reduceMul,Nat.reduceBEq,reduceLT,reduceLeDiff,reduceCtorEq,reduceToNat,reduceNeg]<;>first|exact fun _ _=>trivial|simp) ?_
 simp only[ac83,rv83,push_cast,reduceIte,reduceEqDiff,reduceAdd,reduceSub,reduceMul,Nat.reduceBEq,reduceLT,reduceLeDiff,reduceCtorEq,reduceToNat,reduceNeg]
 refine⟨by omega,by omega,?_⟩
 refine qro (quE g hg) sC rfl ?_
 refine sB ?_
 rw[e]
 refine⟨by omega,?_⟩
 refine qnR (fun k1=> ?_) fun k1=> ?_
 ·refine quT g hg s (quN g s) (by omega) _ sC _ ?_
  rw[key _ (by rw[quO,if_pos k1])]
  exact .refl _
 refine qnR (fun k2=> ?_) fun k2=> ?_
 ·refine⟨by omega,?_⟩
  refine quT g hg s (quN g s+1) (by omega) _ sC _ ?_
  rw[key _ (by rw[quO,if_neg k1,if_pos k2])]
  exact .refl _
 refine qnR (fun k3=> ?_) fun k3=> ?_
 ·refine⟨by omega,by omega,?_⟩
  refine quT g hg s (quN g s+2+s.i) (by omega) _ sC _ ?_
  rw[key _ (by rw[quO,if_neg k1,if_neg k2,if_pos k3])]
  exact .refl _
 refine qnR (fun k4=> ?_) fun k4=> ?_
 ·refine⟨by omega,by omega,by omega,?_⟩
  refine quT g hg s (quN g s+2+4+s.i) (by omega) _ sC _ ?_
  rw[key _ (by rw[quO,if_neg k1,if_neg k2,if_neg k3,if_pos k4])]
  exact .refl _
 refine qnR (fun k5=> ?_) fun k5=> ?_
 ·refine⟨by omega,by omega,by omega,by omega,?_⟩
  refine quT g hg s (quN g s+2+4+g.tracks+s.i) (by omega) _ sC _ ?_
  rw[key _ (by rw[quO,if_neg k1,if_neg k2,if_neg k3,if_neg k4,if_pos k5])]
  exact .refl _
 refine qnR (fun k6=> ?_) fun k6=> ?_
 ·refine qro (quF g hg) sC rfl ?_
  refine sB ?_
  refine⟨by omega,?_⟩
  refine quT g hg s (allI g+s.i) (by omega) _ sC _ ?_
  rw[key _ (by rw[quO,if_neg k1,if_neg k2,if_neg k3,if_neg k4,if_neg k5,if_pos k6])]
  exact .refl _
 refine qnR (fun k7=> ?_) fun k7=> ?_
 ·refine qro (quF g hg) sC rfl ?_
  refine sB ?_
  refine⟨by omega,by omega,?_⟩
  refine quT g hg s (allI g+g.pads+s.i) (by omega) _ sC _ ?_
  rw[key _ (by rw[quO,if_neg k1,if_neg k2,if_neg k3,if_neg k4,if_neg k5,if_neg k6,if_pos k7])]
  exact .refl _
 ·refine quT g hg s (-1) (by omega) _ sC _ ?_
  rw[key _ (by rw[quO,if_neg k1,if_neg k2,if_neg k3,if_neg k4,if_neg k5,if_neg k6,if_neg k7])]
  exact .refl _
@[push_cast] theorem quV{α:Type}(z x:α):(List.replicate 1 z).set 0 x=[x]:=rfl
@[push_cast] theorem quW{α:Type}(l:List α):l.take l.length=l:=List.take_length
@[push_cast] theorem quX{α:Type}(x:α):List.take 1 [x]=[x]:=rfl
theorem quY{α:Type}(f:α->List PV)(x:α):rows f [x]=[f x]:=rfl
def lv:List Int->PV
 |[]=> .nil
 |x::l=> .view 434 0 (x::l).length
def la:List Int->List (Nat×Arr)
 |[]=>[]
 |x::l=>[(434,⟨1,3,ints (x::l)⟩)]
@[push_cast] theorem quZ:lv []= .nil:=rfl
@[push_cast] theorem qv0:la []=[]:=rfl
theorem qv1{l:List Int}(h:l≠[]):lv l= .view 434 0 l.length:=by cases l with|nil=>exact absurd rfl h|cons x r=>rfl
theorem qv2{l:List Int}(h:l≠[]):la l=[(434,⟨1,3,ints l⟩)]:=by cases l with|nil=>exact absurd rfl h|cons x r=>rfl
def stD(g:Grid)(s:Spot)(l:List Int)(xs:List (Nat×List PV)):St:=
 ⟨[(0,.ptr 2 0),(1,.ptr 5 0),(2,.ptr 7 0),(3,.ptr 18 0),(4,.ptr 103 0),(5,.ptr 104 0)],
  (2,quy false g)::(5,quz s)::(7,[.ptr 18 0])::(18,[.int g.w,.int g.h,.int g.tracks,.int g.pads,.sl false 1 (ints g.kind),lv l])::xs,la l,[]⟩
def addF(g:Grid)(l:List Int)(s:Spot):List Int:=if(quP g s).2=0 then l++[(quP g s).1]else l
theorem qv3(g:Grid)(l:List Int)(s:Spot):(addF g l s).length<=l.length+1:=by unfold addF;split<;>simp
theorem qv4 (g : Grid) (hg : GOk g) (s : Spot) (l : List Int) (hl : (l.length : Int) <= 1000000) (xs : List (Nat × List PV)) (hx : ∀ i, qiz nul (isId i) xs = xs) (t : Spot) (ht : SOk t) :
  FnM (Env.of Tryz.prog) 65 [.ptr 18 0,.int t.kind,.int t.x,.int t.y,.int t.i] (stD g s l xs) (fun r st' =>r= .tup []/\st' =stD g s (addF g l t) xs):=by
 refine FnM.dropA 433 ?_
 unfold stD
 by_cases hn:l=[]
 ·subst hn
  refine qtT 400 Tryz.func65 ok65_400 (by show 5<=_;decide) rfl (by show 0<=400;decide) ?_
  simp only[ac65_400,rv65_400,push_cast,reduceIte,reduceEqDiff,reduceAdd,reduceSub,reduceMul,Nat.reduceBEq,reduceLT,reduceLeDiff,reduceCtorEq,reduceToNat,reduceNeg]
  refine qrm (quU g hg t ht) sC ?_
  refine sB ?_
  refine qnR (fun h=> ?_) fun h=> ?_
  ·have hf:addF g [] t=[(quP g t).1]:=by rw[addF,if_pos h];rfl
   rw[hf]
   simp only[hx,quY,push_cast,reduceIte,reduceEqDiff,reduceAdd,reduceSub,reduceMul,Nat.reduceBEq,reduceLT,reduceLeDiff,reduceCtorEq,reduceToNat,reduceNeg]
   exact⟨by simp,rfl⟩
  ·have hf:addF g [] t=[]:=by rw[addF,if_neg h]
   rw[hf]
   rfl
 ·rw[qv1 hn,qv2 hn]
  refine qtT 400 Tryz.func65 ok65_400 (by show 5<=_;decide) rfl (by show 0<=400;decide) ?_
  simp only[ac65_400,rv65_400,push_cast,reduceIte,reduceEqDiff,reduceAdd,reduceSub,reduceMul,Nat.reduceBEq,reduceLT,reduceLeDiff,reduceCtorEq,reduceToNat,reduceNeg]
  refine qrm (quU g hg t ht) sC ?_
  refine sB ?_
  refine qnR (fun h=> ?_) fun h=> ?_
  ·have hf:addF g l t=l++[(quP g t).1]:=by rw[addF,if_pos h]
   rw[hf,qv1 (by simp),qv2 (by simp)]
   simp only[hx,push_cast,reduceIte,reduceEqDiff,reduceAdd,reduceSub,reduceMul,Nat.reduceBEq,reduceLT,reduceLeDiff,reduceCtorEq,reduceToNat,reduceNeg]
   refine⟨by simp,by omega,?_⟩
   simp[ints]
  ·have hf:addF g l t=l:=by rw[addF,if_neg h]
   rw[hf,qv1 hn,qv2 hn]
def PS:List (Nat×PV):=[(0,.ptr 2 0),(1,.ptr 5 0),(2,.ptr 7 0),(3,.ptr 18 0),(4,.ptr 103 0),(5,.ptr 104 0)]
@[push_cast] theorem qv5:PS=[(0,.ptr 2 0),(1,.ptr 5 0),(2,.ptr 7 0),(3,.ptr 18 0),(4,.ptr 103 0),(5,.ptr 104 0)]:=rfl
def stX(z:List (Nat×PV))(g:Grid)(s:Spot)(l:List Int)(xs:List (Nat×List PV)):St:=
 ⟨z,(2,quy false g)::(5,quz s)::(7,[.ptr 18 0])::(18,[.int g.w,.int g.h,.int g.tracks,.int g.pads,.sl false 1 (ints g.kind),lv l])::xs,la l,[]⟩
theorem qv6(z:List (Nat×PV))(g:Grid)(s:Spot)(l:List Int)(xs:List (Nat×List PV)):stX z g s l xs=
 ⟨z,(2,quy false g)::(5,quz s)::(7,[.ptr 18 0])::(18,[.int g.w,.int g.h,.int g.tracks,.int g.pads,.sl false 1 (ints g.kind),lv l])::xs,la l,[]⟩:=rfl
theorem qv7 {f : Nat} {args : List PV} {z : List (Nat × PV)} {g : Grid} {s : Spot} {l l' : List Int} {xs : List (Nat × List PV)} (hz : frT z PS z) (h : FnM (Env.of Tryz.prog) f args (stX PS g s l xs) (fun r st' => r = .tup [] /\ st' = stX PS g s l' xs)) :
  FnM (Env.of Tryz.prog) f args (stX z g s l xs) (fun r st' =>r= .tup []/\st' =stX z g s l' xs):=
 FnM.frame PS z rfl rfl hz (FnM.mono h fun r st' hq=>by
  obtain⟨rfl,rfl⟩:=hq
  exact⟨_,_,_,rfl,rfl,rfl⟩)
def qv8(g:Grid)(l:List Int)(x y t:Int):List Int:=
 if x<0\/g.w<=x\/y<0\/g.h<=y then l else addF g (addF g (addF g (addF g l ⟨4,x,y,t⟩) ⟨5,x,y,t⟩) ⟨4,x-1,y,t⟩) ⟨5,x,y-1,t⟩
theorem qv9(g:Grid)(l:List Int)(x y t:Int):(qv8 g l x y t).length<=l.length+4:=by
 unfold qv8
 split
 ·omega
 ·have h1:=qv3 g l ⟨4,x,y,t⟩
  have h2:=qv3 g (addF g l ⟨4,x,y,t⟩) ⟨5,x,y,t⟩
  have h3:=qv3 g (addF g (addF g l ⟨4,x,y,t⟩) ⟨5,x,y,t⟩) ⟨4,x-1,y,t⟩
  have h4:=qv3 g (addF g (addF g (addF g l ⟨4,x,y,t⟩) ⟨5,x,y,t⟩) ⟨4,x-1,y,t⟩) ⟨5,x,y-1,t⟩
  omega
theorem qva (g : Grid) (hg : GOk g) (s : Spot) (l : List Int) (hl : (l.length : Int) <= 900000) (xs : List (Nat × List PV)) (hx : ∀ i, qiz nul (isId i) xs = xs) (x y t : Int) (hb : (-1 <= x /\ x <= 65) /\ (-1 <= y /\ y <= 65) /\ (0 <= t /\ t <= 64)) :
  FnM (Env.of Tryz.prog) 68 [.ptr 18 0,.int x,.int y,.int t] (stX PS g s l xs) (fun r st' =>r= .tup []/\st' =stX PS g s (qv8 g l x y t) xs):=by
 rw[qv6,qv5]
 refine qtT 250 Tryz.func68 ok68_250 (by show 4<=_;decide) rfl (by show 0<=250;decide) ?_
 simp only[ac68_250,rv68_250,push_cast,reduceIte,reduceEqDiff,reduceAdd,reduceSub,reduceMul,Nat.reduceBEq,reduceLT,reduceLeDiff,reduceCtorEq,reduceToNat,reduceNeg]
 refine qry ⟨[(0,.ptr 2 0),(1,.ptr 5 0),(2,.ptr 7 0),(3,.ptr 18 0),(4,.ptr 103 0),(5,.ptr 104 0),(250,.ptr 18 0),(251,.int x),(252,.int y),(253,.int t),(281,.bool (decide (x<0\/g.w<=x\/y<0\/g.h<=y)))],(2,quy false g)::(5,quz s)::(7,[.ptr 18 0])::(18,[.int g.w,.int g.h,.int g.tracks,.int g.pads,.sl false 1 (ints g.kind),lv l])::xs,la l,[]⟩ ?_ ?_
 ·refine qrr rfl (fun h=> ?_) fun h=> ?_<;>simp only[push_cast,reduceIte,reduceEqDiff,reduceAdd,reduceSub,reduceMul,Nat.reduceBEq,reduceLT,reduceLeDiff,reduceCtorEq,reduceToNat,reduceNeg]
  ·simp[h]
  refine qrr rfl (fun h2=> ?_) fun h2=> ?_<;>simp only[push_cast,reduceIte,reduceEqDiff,reduceAdd,reduceSub,reduceMul,Nat.reduceBEq,reduceLT,reduceLeDiff,reduceCtorEq,reduceToNat,reduceNeg]
  ·simp[h,h2]
  refine qrr rfl (fun h3=> ?_) fun h3=> ?_<;>simp only[push_cast,reduceIte,reduceEqDiff,reduceAdd,reduceSub,reduceMul,Nat.reduceBEq,reduceLT,reduceLeDiff,reduceCtorEq,reduceToNat,reduceNeg]
  ·simp[h,h2,h3]
  simp[h,h2,h3]
 refine sB ?_
 refine qnR (fun h=> ?_) fun h=> ?_
 ·rw[qv8,if_pos h]
  first|rfl|exact⟨rfl,rfl⟩
 have hw:=hg.w
 have hh:=hg.h
 have h1:=qv3 g l ⟨4,x,y,t⟩
 have h2:=qv3 g (addF g l ⟨4,x,y,t⟩) ⟨5,x,y,t⟩
 have h3:=qv3 g (addF g (addF g l ⟨4,x,y,t⟩) ⟨5,x,y,t⟩) ⟨4,x-1,y,t⟩
 have e1:(4:Int)=(⟨4,x,y,t⟩:Spot).kind:=rfl
 rw[qv8,if_neg h]
 refine qst (qv7 ?_ (qv4 g hg s (l) (by omega) xs hx ⟨4,x,y,t⟩ ⟨by show -1<=x/\x<=65;omega,by show -1<=y/\y<=65;omega,by show -1<=t/\t<=2000;omega⟩)) ?_
 ·exact sC
 simp only[qv6,push_cast,reduceIte,reduceEqDiff,reduceAdd,reduceSub,reduceMul,Nat.reduceBEq,reduceLT,reduceLeDiff,reduceCtorEq,reduceToNat,reduceNeg]
 refine qst (qv7 ?_ (qv4 g hg s (addF g l ⟨4,x,y,t⟩) (by omega) xs hx ⟨5,x,y,t⟩ ⟨by show -1<=x/\x<=65;omega,by show -1<=y/\y<=65;omega,by show -1<=t/\t<=2000;omega⟩)) ?_
 ·exact sC
 simp only[qv6,push_cast,reduceIte,reduceEqDiff,reduceAdd,reduceSub,reduceMul,Nat.reduceBEq,reduceLT,reduceLeDiff,reduceCtorEq,reduceToNat,reduceNeg]
 refine⟨by omega,?_⟩
 refine qst (qv7 ?_ (qv4 g hg s (addF g (addF g l ⟨4,x,y,t⟩) ⟨5,x,y,t⟩) (by omega) xs hx ⟨4,x-1,y,t⟩ ⟨by show -1<=x-1/\x-1<=65;omega,by show -1<=y/\y<=65;omega,by show -1<=t/\t<=2000;omega⟩)) ?_
 ·exact sC
 simp only[qv6,push_cast,reduceIte,reduceEqDiff,reduceAdd,reduceSub,reduceMul,Nat.reduceBEq,reduceLT,reduceLeDiff,reduceCtorEq,reduceToNat,reduceNeg]
 refine⟨by omega,?_⟩
 refine qst (qv7 ?_ (qv4 g hg s (addF g (addF g (addF g l ⟨4,x,y,t⟩) ⟨5,x,y,t⟩) ⟨4,x-1,y,t⟩) (by omega) xs hx ⟨5,x,y-1,t⟩ ⟨by show -1<=x/\x<=65;omega,by show -1<=y-1/\y-1<=65;omega,by show -1<=t/\t<=2000;omega⟩)) ?_
 ·exact sC
 simp only[qv6,push_cast,reduceIte,reduceEqDiff,reduceAdd,reduceSub,reduceMul,Nat.reduceBEq,reduceLT,reduceLeDiff,reduceCtorEq,reduceToNat,reduceNeg]
def allN(g:Grid)(x y:Int)(l:List Int):Nat->List Int
 |0=>l
 |t+1=>qv8 g (allN g x y l t) x y t
def allF(g:Grid)(l:List Int)(x y:Int):List Int:=allN g x y l g.tracks.toNat
theorem qvb(g:Grid)(x y:Int)(l:List Int): ∀n,(allN g x y l n).length<=l.length+4*n
 |0=>by simp[allN]
 |n+1=>by have h1:=qvb g x y l n;have h2:=qv9 g (allN g x y l n) x y n;rw[allN];omega
theorem qvc (g : Grid) (hg : GOk g) (s : Spot) (l : List Int) (hl : (l.length : Int) <= 800000) (x y : Int) (hb : (-1 <= x /\ x <= 65) /\ (-1 <= y /\ y <= 65)) :
  FnM (Env.of Tryz.prog) 64 [.ptr 18 0,.int x,.int y] (stX PS g s l []) (fun r st' =>r= .tup []/\st' =stX PS g s (allF g l x y) []):=by
 have ht:=hg.tracks
 obtain⟨n,hn⟩: ∃n:Nat,g.tracks=n:=⟨g.tracks.toNat,by omega⟩
 rw[qv6,qv5]
 refine qtT 200 Tryz.func64 ok64_200 (by show 3<=_;decide) rfl (by show 0<=200;decide) ?_
 simp only[ac64_200,rv64_200,push_cast,reduceIte,reduceEqDiff,reduceAdd,reduceSub,reduceMul,Nat.reduceBEq,reduceLT,reduceLeDiff,reduceCtorEq,reduceToNat,reduceNeg]
 refine qoH (fun m st=> ∃k:Nat,k<=n/\m=n-k/\st=stX [(0,.ptr 2 0),(1,.ptr 5 0),(2,.ptr 7 0),(3,.ptr 18 0),(4,.ptr 103 0),(5,.ptr 104 0),(200,.ptr 18 0),(201,.int x),(202,.int y),(211,.int g.tracks),(212,.int k)] g s (allN g x y l k) []) n ?_ ?_
 ·refine⟨0,by omega,by omega,?_⟩
  rw[allN]
  rcases l with _|⟨a,r⟩
  ·simp only[qv6,push_cast,reduceIte,reduceEqDiff,reduceAdd,reduceSub,reduceMul,Nat.reduceBEq,reduceLT,reduceLeDiff,reduceCtorEq,reduceToNat,reduceNeg]
  ·simp only[qv6,lv,la,push_cast,reduceIte,reduceEqDiff,reduceAdd,reduceSub,reduceMul,Nat.reduceBEq,reduceLT,reduceLeDiff,reduceCtorEq,reduceToNat,reduceNeg]
 ·rintro m st ⟨k,hk,rfl,rfl⟩
  simp only[qv6,push_cast,reduceIte,reduceEqDiff,reduceAdd,reduceSub,reduceMul,Nat.reduceBEq,reduceLT,reduceLeDiff,reduceCtorEq,reduceToNat,reduceNeg]
  have hlen:=qvb g x y l k
  refine qnR (fun h=> ?_) fun h=> ?_
  ·refine qst (qv7 ?_ (qva g hg s (allN g x y l k) (by omega) [] (fun i=>rfl) x y k ⟨hb.1,hb.2,by omega⟩)) ?_
   ·exact sC
   simp only[qv6,push_cast,reduceIte,reduceEqDiff,reduceAdd,reduceSub,reduceMul,Nat.reduceBEq,reduceLT,reduceLeDiff,reduceCtorEq,reduceToNat,reduceNeg]
   refine⟨by omega,_,?_,k+1,by omega,rfl,?_⟩
   ·omega
   ·show _=_
    have e:allN g x y l (k+1)=qv8 g (allN g x y l k) x y k:=rfl
    rw[e]
    generalize qv8 g (allN g x y l k) x y k=l'
    rcases l' with _|⟨a,r⟩
    ·simp only[lv,la,push_cast,reduceIte,reduceEqDiff,reduceAdd,reduceSub,reduceMul,Nat.reduceBEq,reduceLT,reduceLeDiff,reduceCtorEq,reduceToNat,reduceNeg]
    ·simp only[lv,la,push_cast,reduceIte,reduceEqDiff,reduceAdd,reduceSub,reduceMul,Nat.reduceBEq,reduceLT,reduceLeDiff,reduceCtorEq,reduceToNat,reduceNeg]
  ·have e:allF g l x y=allN g x y l k:=by rw[allF,show g.tracks.toNat=k from by omega]
   rw[e]
def padR(g:Grid)(y:Int):Nat->Int->List Int->List Int
 |0,_,l=>l
 |f+1,k,l=>if k<g.pads then padR g y f (k+g.h) (addF g l ⟨6,-1,y,k⟩)else l
def qvd(g:Grid)(l:List Int)(y:Int):List Int:=padR g y g.pads.toNat y l
theorem qve(g:Grid)(y:Int): ∀f k l,(padR g y f k l).length<=l.length+f
 |0,_,l=>by simp[padR]
 | f + 1, k, l => by
   rw[padR]
   split
   ·have h1:=qve g y f (k+g.h) (addF g l ⟨6,-1,y,k⟩)
    have h2:=qv3 g l ⟨6,-1,y,k⟩
    omega
   ·omega
theorem qvf {f : Nat} {args : List PV} {z : List (Nat × PV)} (t : List (Nat × PV)) {g : Grid} {s : Spot} {l l' : List Int} {xs : List (Nat × List PV)} (hz : frT z PS t) (h : FnM (Env.of Tryz.prog) f args (stX PS g s l xs) (fun r st' => r = .tup [] /\ st' = stX PS g s l' xs)) :
  FnM (Env.of Tryz.prog) f args (stX z g s l xs) (fun r st' =>r= .tup []/\st' =stX t g s l' xs):=
 FnM.frame PS t rfl rfl hz (FnM.mono h fun r st' hq=>by
  obtain⟨rfl,rfl⟩:=hq
  exact⟨_,_,_,rfl,rfl,rfl⟩)
def endF(g:Grid)(s:Spot)(l:List Int)(x y:Int):List Int:=
 let l3:=qv8 g (addF g (addF g l ⟨1,x,y,0⟩) ⟨2,x,y,0⟩) x y s.i
 if x=0 then qvd g l3 y else l3
theorem qvg(g:Grid)(hg:GOk g)(s:Spot)(l:List Int)(x y:Int):(endF g s l x y).length<=l.length+1006:=by
 have h0:=hg.pads
 have h1:=qv3 g l ⟨1,x,y,0⟩
 have h2:=qv3 g (addF g l ⟨1,x,y,0⟩) ⟨2,x,y,0⟩
 have h3:=qv9 g (addF g (addF g l ⟨1,x,y,0⟩) ⟨2,x,y,0⟩) x y s.i
 have h4:=qve g y g.pads.toNat y (qv8 g (addF g (addF g l ⟨1,x,y,0⟩) ⟨2,x,y,0⟩) x y s.i)
 simp only[endF,qvd]
 split<;>omega
def XB(g:Grid)(s:Spot):List (Nat×List PV):=[(103,quy false g),(104,quz s)]
@[push_cast] theorem qvh(g:Grid)(s:Spot):XB g s=[(103,quy false g),(104,quz s)]:=rfl
theorem qvi(g:Grid)(s:Spot)(i:Nat):qiz nul (isId i) (XB g s)=XB g s:=by simp only[push_cast,reduceIte,reduceEqDiff,reduceAdd,reduceSub,reduceMul,Nat.reduceBEq,reduceLT,reduceLeDiff,reduceCtorEq,reduceToNat,reduceNeg]
theorem qvj (g : Grid) (hg : GOk g) (s : Spot) (hs : SOk s) (hsi : 0 <= s.i /\ s.i <= 64) (l : List Int) (hl : (l.length : Int) <= 100000) (x y : Int) (hb : (0 <= x /\ x <= 64) /\ (0 <= y /\ y <= 64)) :
  FnM (Env.of Tryz.prog) 67 [.int x,.int y,.ptr 7 0,.ptr 5 0,.ptr 2 0] (stX PS g s l (XB g s)) (fun r st' =>r= .tup []/\st' =stX PS g s (endF g s l x y) (XB g s)):=by
 have hp:=hg.pads
 have hh:=hg.h
 have a1:=qv3 g l ⟨1,x,y,0⟩
 have a2:=qv3 g (addF g l ⟨1,x,y,0⟩) ⟨2,x,y,0⟩
 have a3:=qv9 g (addF g (addF g l ⟨1,x,y,0⟩) ⟨2,x,y,0⟩) x y s.i
 rw[qv6,qv5]
 refine qtT 150 Tryz.func67 ok67_150 (by show 5<=_;decide) rfl (by show 0<=150;decide) ?_
 simp only[ac67_150,rv67_150,push_cast,reduceIte,reduceEqDiff,reduceAdd,reduceSub,reduceMul,Nat.reduceBEq,reduceLT,reduceLeDiff,reduceCtorEq,reduceToNat,reduceNeg]
 refine qst (qv7 ?_ (qv4 g hg s l (by omega) (XB g s) (qvi g s) ⟨1,x,y,0⟩ ⟨by show -1<=x/\x<=65;omega,by show -1<=y/\y<=65;omega,by show(-1:Int)<=0/\(0:Int)<=2000;omega⟩)) ?_
 ·exact sC
 simp only[qv6,push_cast,reduceIte,reduceEqDiff,reduceAdd,reduceSub,reduceMul,Nat.reduceBEq,reduceLT,reduceLeDiff,reduceCtorEq,reduceToNat,reduceNeg]
 refine qst (qv7 ?_ (qv4 g hg s (addF g l ⟨1,x,y,0⟩) (by omega) (XB g s) (qvi g s) ⟨2,x,y,0⟩ ⟨by show -1<=x/\x<=65;omega,by show -1<=y/\y<=65;omega,by show(-1:Int)<=0/\(0:Int)<=2000;omega⟩)) ?_
 ·exact sC
 simp only[qv6,push_cast,reduceIte,reduceEqDiff,reduceAdd,reduceSub,reduceMul,Nat.reduceBEq,reduceLT,reduceLeDiff,reduceCtorEq,reduceToNat,reduceNeg]
 refine qst (qvf [(0,.ptr 2 0),(1,.ptr 5 0),(2,.ptr 7 0),(3,.ptr 18 0),(4,.ptr 103 0),(5,.ptr 104 0),(150,.int x),(151,.int y),(152,.ptr 7 0),(153,.ptr 5 0),(154,.ptr 2 0)] ?_ (qva g hg s (addF g (addF g l ⟨1,x,y,0⟩) ⟨2,x,y,0⟩) (by omega) (XB g s) (qvi g s) x y s.i ⟨by omega,by omega,hsi⟩)) ?_
 ·exact sC
 simp only[qv6,push_cast,reduceIte,reduceEqDiff,reduceAdd,reduceSub,reduceMul,Nat.reduceBEq,reduceLT,reduceLeDiff,reduceCtorEq,reduceToNat,reduceNeg]
 obtain⟨l3,hl3⟩: ∃l3,qv8 g (addF g (addF g l ⟨1,x,y,0⟩) ⟨2,x,y,0⟩) x y s.i=l3:=⟨_,rfl⟩
 have hE:endF g s l x y=if x=0 then qvd g l3 y else l3:=by simp only[endF,hl3]
 rw[hl3]at a3 ⊢
 rw[hE]
 have hl3b:(l3.length:Int)<=100006:=by omega
 clear hE hl3 a3 a2 a1
 refine qoH (fun m st=> ∃(k:Int) (f:Nat) (l' :List Int),(0<=k/\k<=2000)/\m=f/\g.pads-k<=f/\(l'.length:Int)+f<=102000/\qvd g l3 y=padR g y f k l' /\(x≠0->l' =l3)/\
  st=stX [(0,.ptr 2 0),(1,.ptr 5 0),(2,.ptr 7 0),(3,.ptr 18 0),(4,.ptr 103 0),(5,.ptr 104 0),(150,.int x),(151,.int y),(152,.ptr 7 0),(154,.ptr 2 0),(157,.int k)] g s l' (XB g s)) g.pads.toNat ?_ ?_
 ·refine⟨y,g.pads.toNat,l3,by omega,rfl,by omega,by omega,rfl,fun _=>rfl,?_⟩
  rcases l3 with _|⟨a,r⟩<;>simp only[qv6,lv,la,push_cast,reduceIte,reduceEqDiff,reduceAdd,reduceSub,reduceMul,Nat.reduceBEq,reduceLT,reduceLeDiff,reduceCtorEq,reduceToNat,reduceNeg]
 ·rintro m st ⟨k,f,l',hk,rfl,hf,hlf,hpad,hx0,rfl⟩
  simp only[qv6,push_cast,reduceIte,reduceEqDiff,reduceAdd,reduceSub,reduceMul,Nat.reduceBEq,reduceLT,reduceLeDiff,reduceCtorEq,reduceToNat,reduceNeg]
  refine qry (stX [(0,.ptr 2 0),(1,.ptr 5 0),(2,.ptr 7 0),(3,.ptr 18 0),(4,.ptr 103 0),(5,.ptr 104 0),(150,.int x),(151,.int y),(152,.ptr 7 0),(154,.ptr 2 0),(157,.int k),(180,.bool (decide (x=0/\k<g.pads)))] g s l' (XB g s)) ?_ ?_
  ·refine qrq rfl (fun h=> ?_) fun h=> ?_<;>simp only[qv6,push_cast,reduceIte,reduceEqDiff,reduceAdd,reduceSub,reduceMul,Nat.reduceBEq,reduceLT,reduceLeDiff,reduceCtorEq,reduceToNat,reduceNeg]
   ·simp[h]
   ·simp[h]
  ·simp only[qv6,push_cast,reduceIte,reduceEqDiff,reduceAdd,reduceSub,reduceMul,Nat.reduceBEq,reduceLT,reduceLeDiff,reduceCtorEq,reduceToNat,reduceNeg]
   refine qnR (fun h=> ?_) fun h=> ?_
   ·obtain⟨f',rfl⟩: ∃f',m=f' +1:=⟨m-1,by omega⟩
    have a4:=qv3 g l' ⟨6,-1,y,k⟩
    refine qst (qv7 ?_ (qv4 g hg s l' (by omega) (XB g s) (qvi g s) ⟨6,-1,y,k⟩ ⟨by show(-1:Int)<= -1/\(-1:Int)<=65;omega,by show -1<=y/\y<=65;omega,by show -1<=k/\k<=2000;omega⟩)) ?_
    ·exact sC
    simp only[qv6,push_cast,reduceIte,reduceEqDiff,reduceAdd,reduceSub,reduceMul,Nat.reduceBEq,reduceLT,reduceLeDiff,reduceCtorEq,reduceToNat,reduceNeg]
    refine⟨by omega,f',by omega,k+g.h,f',addF g l' ⟨6,-1,y,k⟩,by omega,rfl,by omega,by omega,?_,fun hx=>absurd h.1 hx,?_⟩
    ·rw[hpad,padR,if_pos h.2]
    ·generalize addF g l' ⟨6,-1,y,k⟩=l2
     rcases l2 with _|⟨a,r⟩<;>simp only[lv,la,push_cast,reduceIte,reduceEqDiff,reduceAdd,reduceSub,reduceMul,Nat.reduceBEq,reduceLT,reduceLeDiff,reduceCtorEq,reduceToNat,reduceNeg]
   ·have e : (if x = 0 then qvd g l3 y else l3) = l' := by
     by_cases hx:x=0
     ·rw[if_pos hx,hpad]
      cases m with
      |zero=>rfl
      |succ f=>rw[padR,if_neg (fun h2=>h ⟨hx,h2⟩)]
     ·rw[if_neg hx,hx0 hx]
    rw[e]
end Go.Proofs.YtdmkfgkmnpohlaaGreat
namespace Go.Vc
theorem FnM.dropB{E:Env}{f:Nat}{args:List PV}{st:St}{Q:PV->St->Prop}(i:Nat)(h:FnM E f args st fun r st' =>Q r { st' with b:=rm st'.b i }):FnM E f args st Q:=
 ⟨h.1,fun w0 Z0 X G Z L w vs h1 h2 h3=>(h.2 w0 Z0 X G Z L w vs h1 h2 h3).mono fun _ _ ⟨v,r,st',Z',L',e1,e2,e3,e4⟩=>⟨v,r,_,Z',L',e1,e2,e3.forget (fun i v hl=> .inl hl) (fun j A hl=>by
  rw[qa4]at hl
  split at hl
  ·cases hl
  ·exact hl) (fun _ _ h=>h) (fun _ _ h=>h),e4⟩⟩
end Go.Vc
namespace Go.Proofs.YtdmkfgkmnpohlaaGreat
open Go Go.Vc Txt
def qvk(g:Grid)(s:Spot)(l:List Int):List Int:=
 let l1:=endF g s l s.x s.y
 if s.kind=4 then(if s.x+1<g.w/\s.y<g.h then endF g s l1 (s.x+1) s.y else l1)else(if s.x<g.w/\s.y+1<g.h then endF g s l1 s.x (s.y+1)else l1)
@[push_cast] theorem qvl(i:Nat)(l:List Int):PV.to (isId i) nul (lv l)=false:=by cases l<;>rfl
def P4:List (Nat×PV):=[(0,.ptr 2 0),(1,.ptr 5 0),(2,.ptr 7 0),(3,.ptr 18 0)]
@[push_cast] theorem qvm:P4=[(0,.ptr 2 0),(1,.ptr 5 0),(2,.ptr 7 0),(3,.ptr 18 0)]:=rfl
def qvn(g:Grid)(s:Spot)(l1:List Int):List Int:=
 if s.kind=4 then(if s.x+1<g.w/\s.y<g.h then endF g s l1 (s.x+1) s.y else l1)else(if s.x<g.w/\s.y+1<g.h then endF g s l1 s.x (s.y+1)else l1)
set_option maxHeartbeats 2000000 in
theorem qvo (g : Grid) (hg : GOk g) (s : Spot) (hs : SOk s) (hsi : 0 <= s.i /\ s.i <= 64) (hsx : (0 <= s.x /\ s.x < g.w) /\ (0 <= s.y /\ s.y < g.h)) (l : List Int) (hl : (l.length : Int) <= 90000) :
  FnM (Env.of Tryz.prog) 66 [.agg (quy false g),.agg (quz s),.clo 67 [7,5,2]] (stX P4 g s l []) (fun r st' =>r= .tup []/\st' =stX P4 g s (qvk g s l) []):=by
 refine FnM.dropB 103 (FnM.dropB 104 ?_)
 have hw:=hg.w
 have hh:=hg.h
 have hE:qvk g s l=qvn g s (endF g s l s.x s.y):=rfl
 have hl1:=qvg g hg s l s.x s.y
 rw[hE,qv6,qvm]
 refine qtT 100 Tryz.func66 ok66_100 (by show 3<=_;decide) rfl (by show 0<=100;decide) ?_
 simp only[ac66_100,rv66_100,push_cast,reduceIte,reduceEqDiff,reduceAdd,reduceSub,reduceMul,Nat.reduceBEq,reduceLT,reduceLeDiff,reduceCtorEq,reduceToNat,reduceNeg]
 refine qst (qvf [(0,.ptr 2 0),(1,.ptr 5 0),(2,.ptr 7 0),(3,.ptr 18 0),(102,.clo 67 [7,5,2]),(103,.ptr 103 0),(104,.ptr 104 0)] ?_ (qvj g hg s hs hsi l (by omega) s.x s.y (by omega))) ?_
 ·exact sC
 simp only[qv6,push_cast,reduceIte,reduceEqDiff,reduceAdd,reduceSub,reduceMul,Nat.reduceBEq,reduceLT,reduceLeDiff,reduceCtorEq,reduceToNat,reduceNeg]
 generalize endF g s l s.x s.y=l1 at hl1 ⊢
 refine qnR (fun h=> ?_) fun h=> ?_
 ·refine⟨by omega,?_⟩
  have e:qvn g s l1=if s.x+1<g.w/\s.y<g.h then endF g s l1 (s.x+1) s.y else l1:=by rw[qvn,if_pos h]
  rw[e]
  refine qry (stX [(0,.ptr 2 0),(1,.ptr 5 0),(2,.ptr 7 0),(3,.ptr 18 0),(102,.clo 67 [7,5,2]),(106,.int (s.x+1)),(107,.int (s.y)),(134,.bool (decide (s.x+1<g.w/\s.y<g.h)))] g s l1 (XB g s)) ?_ ?_
  ·refine qrq rfl (fun h2=> ?_) fun h2=> ?_<;>simp only[qv6,push_cast,reduceIte,reduceEqDiff,reduceAdd,reduceSub,reduceMul,Nat.reduceBEq,reduceLT,reduceLeDiff,reduceCtorEq,reduceToNat,reduceNeg]
   ·rw[show decide (s.y<g.h)=decide (s.x+1<g.w/\s.y<g.h)from by rw[decide_eq_decide];omega]
   ·rw[decide_eq_false (show ¬(s.x+1<g.w/\s.y<g.h)from fun h3=>h2 h3.1)]
  ·simp only[qv6,push_cast,reduceIte,reduceEqDiff,reduceAdd,reduceSub,reduceMul,Nat.reduceBEq,reduceLT,reduceLeDiff,reduceCtorEq,reduceToNat,reduceNeg]
   refine qnR (fun h2=> ?_) fun h2=> ?_
   ·rw[if_pos h2]
    refine qst (qvf [(0,.ptr 2 0),(1,.ptr 5 0),(2,.ptr 7 0),(3,.ptr 18 0)] ?_ (qvj g hg s hs hsi l1 (by omega) (s.x+1) (s.y) (by omega))) ?_
    ·exact sC
    simp only[qv6,push_cast,reduceIte,reduceEqDiff,reduceAdd,reduceSub,reduceMul,Nat.reduceBEq,reduceLT,reduceLeDiff,reduceCtorEq,reduceToNat,reduceNeg]
   ·rw[if_neg h2]
 ·refine⟨by omega,?_⟩
  have e:qvn g s l1=if s.x<g.w/\s.y+1<g.h then endF g s l1 s.x (s.y+1)else l1:=by rw[qvn,if_neg h]
  rw[e]
  refine qry (stX [(0,.ptr 2 0),(1,.ptr 5 0),(2,.ptr 7 0),(3,.ptr 18 0),(102,.clo 67 [7,5,2]),(106,.int (s.x)),(107,.int (s.y+1)),(134,.bool (decide (s.x<g.w/\s.y+1<g.h)))] g s l1 (XB g s)) ?_ ?_
  ·refine qrq rfl (fun h2=> ?_) fun h2=> ?_<;>simp only[qv6,push_cast,reduceIte,reduceEqDiff,reduceAdd,reduceSub,reduceMul,Nat.reduceBEq,reduceLT,reduceLeDiff,reduceCtorEq,reduceToNat,reduceNeg]
   ·rw[show decide (s.y+1<g.h)=decide (s.x<g.w/\s.y+1<g.h)from by rw[decide_eq_decide];omega]
   ·rw[decide_eq_false (show ¬(s.x<g.w/\s.y+1<g.h)from fun h3=>h2 h3.1)]
  ·simp only[qv6,push_cast,reduceIte,reduceEqDiff,reduceAdd,reduceSub,reduceMul,Nat.reduceBEq,reduceLT,reduceLeDiff,reduceCtorEq,reduceToNat,reduceNeg]
   refine qnR (fun h2=> ?_) fun h2=> ?_
   ·rw[if_pos h2]
    refine qst (qvf [(0,.ptr 2 0),(1,.ptr 5 0),(2,.ptr 7 0),(3,.ptr 18 0)] ?_ (qvj g hg s hs hsi l1 (by omega) (s.x) (s.y+1) (by omega))) ?_
    ·exact sC
    simp only[qv6,push_cast,reduceIte,reduceEqDiff,reduceAdd,reduceSub,reduceMul,Nat.reduceBEq,reduceLT,reduceLeDiff,reduceCtorEq,reduceToNat,reduceNeg]
   ·rw[if_neg h2]
end Go.Proofs.YtdmkfgkmnpohlaaGreat
namespace Go.Proofs
open Go.Shelf
open Go.RowKit in
def Tryz.lays189_ren:Go.Shelf.Ren:=⟨fun |189=>84|125=>94|257=>93|128=>103|129=>104|294=>95|295=>96|296=>97|297=>98|298=>99|299=>100|216=>57|300=>101|301=>102|328=>105|329=>106|330=>107|331=>108|332=>109|215=>82|343=>110|n=>n,fun |28=>29|3=>3|46=>132|0=>0|51=>182|53=>118|4=>4|183=>177|182=>176|131=>99|5=>5|9=>9|218=>184|222=>188|228=>190|229=>191|n=>n,fun |n=>n⟩
theorem Tryz.lays189:Go.Proofs.Lays.n189 Tryz.prog Tryz.lays189_ren:= {
 mixed:=by kernel_rfl
 f125:=Tryz.func94.trans (congrArg some (by kernel_rfl))
 f128:=Tryz.func103.trans (congrArg some (by kernel_rfl))
 f129:=Tryz.func104.trans (congrArg some (by kernel_rfl))
 f189:=Tryz.func84.trans (congrArg some (by kernel_rfl))
 f215:=Tryz.func82.trans (congrArg some (by kernel_rfl))
 f216:=Tryz.func57.trans (congrArg some (by kernel_rfl))
 f257:=Tryz.func93.trans (congrArg some (by kernel_rfl))
 f294:=Tryz.func95.trans (congrArg some (by kernel_rfl))
 f295:=Tryz.func96.trans (congrArg some (by kernel_rfl))
 f296:=Tryz.func97.trans (congrArg some (by kernel_rfl))
 f297:=Tryz.func98.trans (congrArg some (by kernel_rfl))
 f298:=Tryz.func99.trans (congrArg some (by kernel_rfl))
 f299:=Tryz.func100.trans (congrArg some (by kernel_rfl))
 f300:=Tryz.func101.trans (congrArg some (by kernel_rfl))
 f301:=Tryz.func102.trans (congrArg some (by kernel_rfl))
 f328:=Tryz.func105.trans (congrArg some (by kernel_rfl))
 f329:=Tryz.func106.trans (congrArg some (by kernel_rfl))
 f330:=Tryz.func107.trans (congrArg some (by kernel_rfl))
 f331:=Tryz.func108.trans (congrArg some (by kernel_rfl))
 f332:=Tryz.func109.trans (congrArg some (by kernel_rfl))
 f343:=Tryz.func110.trans (congrArg some (by kernel_rfl))
 t0:=Tryz.underlying0
 a0:=Tryz.isAgg0
 z0:=Tryz.sizeOf0
 v0:=Tryz.zeroValue0
 t3:=Tryz.underlying3
 a3:=Tryz.isAgg3
 z3:=Tryz.sizeOf3
 v3:=Tryz.zeroValue3
 t4:=Tryz.underlying4
 a4:=Tryz.isAgg4
 z4:=Tryz.sizeOf4
 v4:=Tryz.zeroValue4
 t5:=Tryz.underlying5
 a5:=Tryz.isAgg5
 z5:=Tryz.sizeOf5
 v5:=Tryz.zeroValue5
 t9:=Tryz.underlying9
 a9:=Tryz.isAgg9
 z9:=Tryz.sizeOf9
 v9:=Tryz.zeroValue9
 t28:=Tryz.underlying29
 a28:=Tryz.isAgg29
 z28:=Tryz.sizeOf29
 v28:=Tryz.zeroValue29
 t46:=Tryz.underlying132
 a46:=Tryz.isAgg132
 z46:=Tryz.sizeOf132
 v46:=Tryz.zeroValue132
 t51:=Tryz.underlying182
 a51:=Tryz.isAgg182
 z51:=Tryz.sizeOf182
 v51:=Tryz.zeroValue182
 t53:=Tryz.underlying118
 a53:=Tryz.isAgg118
 z53:=Tryz.sizeOf118
 v53:=Tryz.zeroValue118
 t131:=Tryz.underlying99
 a131:=Tryz.isAgg99
 z131:=Tryz.sizeOf99
 v131:=Tryz.zeroValue99
 t182:=Tryz.underlying176
 a182:=Tryz.isAgg176
 z182:=Tryz.sizeOf176
 v182:=Tryz.zeroValue176
 t183:=Tryz.underlying177
 a183:=Tryz.isAgg177
 z183:=Tryz.sizeOf177
 v183:=Tryz.zeroValue177
 t218:=Tryz.underlying184
 a218:=Tryz.isAgg184
 z218:=Tryz.sizeOf184
 v218:=Tryz.zeroValue184
 t222:=Tryz.underlying188
 a222:=Tryz.isAgg188
 z222:=Tryz.sizeOf188
 v222:=Tryz.zeroValue188
 t228:=Tryz.underlying190
 a228:=Tryz.isAgg190
 z228:=Tryz.sizeOf190
 v228:=Tryz.zeroValue190
 t229:=Tryz.underlying191
 a229:=Tryz.isAgg191
 z229:=Tryz.sizeOf191
 v229:=Tryz.zeroValue191 }
open Go.Sort Go.RowKit in
theorem Tryz.slices_Sort_int (blk off cap : Nat) (zs : List Int) (w : World) (hH : Holds (Value.int .i64) w blk off zs.toArray) (hblk : blk < w.heap.size) (hsz : zs.length < 4611686018427387904) :
  Calls Tryz.prog 84 #[.slice (some ⟨blk,off,none⟩) zs.length cap] w fun e w' =>
   e= .returned (.tuple #[])/\ ∃n os,w' =grow (putRow (Value.int .i64) (Sort.ahead w n) blk off (zs.mergeSort fun x y=>decide (x<=y)).toArray) os:=Any.slices_Sort_int Tryz.lays189 blk off cap zs w hH hblk hsz
def Tryz.laysNm220_ren:Go.Shelf.Ren:=⟨fun |20=>85|n=>n,fun |22=>29|3=>3|4=>4|0=>0|n=>n,fun |n=>n⟩
theorem Tryz.laysNm220:Go.Proofs.Lays2.n20 Tryz.prog Tryz.laysNm220_ren:= {
 mixed:=by kernel_rfl
 f20:=Tryz.func85.trans (congrArg some (by kernel_rfl))
 t0:=Tryz.underlying0
 a0:=Tryz.isAgg0
 z0:=Tryz.sizeOf0
 v0:=Tryz.zeroValue0
 t3:=Tryz.underlying3
 a3:=Tryz.isAgg3
 z3:=Tryz.sizeOf3
 v3:=Tryz.zeroValue3
 t4:=Tryz.underlying4
 a4:=Tryz.isAgg4
 z4:=Tryz.sizeOf4
 v4:=Tryz.zeroValue4
 t22:=Tryz.underlying29
 a22:=Tryz.isAgg29
 z22:=Tryz.sizeOf29
 v22:=Tryz.zeroValue29
 i3:=by kernel_rfl }
open Go.RowKit Go.Lib Go.Sort in
open Go.RowKit Go.Lib Go.Sort in
theorem Tryz.slices_Compact_int (blk off cap : Nat) (zs : List Int) (w : World) (hH : Holds (Value.int .i64) w blk off zs.toArray) (hsz : zs.length <= 9223372036854775807) (hcap : zs.length <= cap) :
  Calls Tryz.prog 85 #[.slice (some ⟨blk,off,none⟩) zs.length cap] w fun e w' =>e= .returned (.slice (some ⟨blk,off,none⟩) (Lib.compact zs).length cap)/\ ∃q,w' =putRow (Value.int .i64) (Sort.ahead w q) blk off (Lib.compact zs++List.replicate (zs.length-(Lib.compact zs).length) 0).toArray:=Any.slices_Compact_int Tryz.laysNm220 blk off cap zs w hH hsz hcap
open Go.RowKit Go.Lib Go.Sort in
theorem Tryz.slices_Compact_int_empty (a : Option Addr) (cap : Nat) (w : World) :
  Calls Tryz.prog 85 #[.slice a 0 cap] w fun e w' =>e= .returned (.slice a 0 cap)/\w' =w:=Any.slices_Compact_int_empty Tryz.laysNm220 a cap w
open Go.RowKit Go.Lib in
open Go.RowKit Go.Lib in
open Go.RowKit Go.Lib in
def Tryz.laysNm225_ren:Go.Shelf.Ren:=⟨fun |25=>30|31=>57|32=>58|37=>82|n=>n,fun |22=>29|3=>3|4=>4|40=>132|0=>0|n=>n,fun |n=>n⟩
theorem Tryz.laysNm225:Go.Proofs.Lays2.n25 Tryz.prog Tryz.laysNm225_ren:= {
 mixed:=by kernel_rfl
 f25:=Tryz.func30.trans (congrArg some (by kernel_rfl))
 f31:=Tryz.func57.trans (congrArg some (by kernel_rfl))
 f32:=Tryz.func58.trans (congrArg some (by kernel_rfl))
 f37:=Tryz.func82.trans (congrArg some (by kernel_rfl))
 t0:=Tryz.underlying0
 a0:=Tryz.isAgg0
 z0:=Tryz.sizeOf0
 v0:=Tryz.zeroValue0
 t3:=Tryz.underlying3
 a3:=Tryz.isAgg3
 z3:=Tryz.sizeOf3
 v3:=Tryz.zeroValue3
 t4:=Tryz.underlying4
 a4:=Tryz.isAgg4
 z4:=Tryz.sizeOf4
 v4:=Tryz.zeroValue4
 t22:=Tryz.underlying29
 a22:=Tryz.isAgg29
 z22:=Tryz.sizeOf29
 v22:=Tryz.zeroValue29
 t40:=Tryz.underlying132
 a40:=Tryz.isAgg132
 z40:=Tryz.sizeOf132
 v40:=Tryz.zeroValue132 }
open Go.RowKit Go.Lib in
theorem Tryz.slices_BinarySearch_int (b off n c : Nat) (zs : List Int) (x : Int) (w : World) (hz : n <= zs.length) (hbig : n < 4611686018427387904) (hc : ∀ j, j < zs.length -> w.cell? ⟨b, off + j, none⟩ = some (.int .i64 (zs.getD j 0))) (hs : (zs.take n).Pairwise (· <= ·)) :
  Calls Tryz.prog 30 #[.slice (some ⟨b,off,none⟩) n c,.int .i64 x] w fun e w' =>e= .returned (.tuple #[.int .i64 ((zs.take n).countP (· <x):Nat),.bool ((zs.take n).contains x)])/\ ∃q,w' =w.drewN q:=Any.slices_BinarySearch_int Tryz.laysNm225 b off n c zs x w hz hbig hc hs
open Go.RowKit Go.Lib Go.Sort in
open Go.RowKit Go.Sort in
theorem Tryz.slices_Sort_int_none (p : Option Addr) (cap : Nat) (w : World) :
  Calls Tryz.prog 84 #[.slice p 0 cap] w fun e w' =>e= .returned (.tuple #[])/\w' =w:=Any.slices_Sort_int_none Tryz.lays189 p cap w
open Go.RowKit Go.Lib in
theorem Tryz.slices_BinarySearch_int_empty (a : Option Addr) (c : Nat) (x : Int) (w : World) :
  Calls Tryz.prog 30 #[.slice a 0 c,.int .i64 x] w fun e w' =>e= .returned (.tuple #[.int .i64 0,.bool false])/\w' =w:=Any.slices_BinarySearch_int_empty Tryz.laysNm225 a c x w
end Go.Proofs
namespace Go.Proofs.YtdmkfgkmnpohlaaGreat
open Go Go.Vc Txt
theorem qvp {P : Program} {f : Nat} (hb : qcG P f = true) {V : Option Addr -> Nat -> Value} (hc : ∀ (p : Option Addr) (cap : Nat) (w : World), Calls P f #[.slice p 0 cap] w fun e w' => e = .returned (V p cap) /\ w' = w) {st : St} {r : PV}
  (hr: ∀(w:World) (Z:Zone) (L:Lay),VR w Z L r (V none 0)):FnM (Env.of P) f [.nil] st (fun r' st' =>r' =r/\st' =st):=by
 refine⟨hb,fun w0 Z0 X G Z L w vs _ h2 h3=> ?_⟩
 obtain⟨hs,ha⟩:=h3
 have h0:=ha 0 .nil rfl
 simp only[VR,AR,CR]at h0
 have hv:vs.getD 0 undef= .slice none 0 0:=by generalize vs.getD 0 undef=u at h0;cases h0;rfl
 have hs1:vs.size=1:=hs
 have e:vs= #[.slice none 0 0]:=by
  rw[<- hv]
  apply Array.ext
  ·simpa using hs1
  ·intro i h7 h8
   have:i=0:=by simp at h8;omega
   subst this
   simp[Array.getD_eq_getD_getElem?,Array.getElem?_eq_getElem h7]
 subst e
 refine(hc none 0 w).mono ?_
 rintro e w' ⟨rfl,rfl⟩
 exact⟨_,r,st,Z,L,rfl,⟨rfl,rfl⟩,h2,hr w' Z L⟩
theorem qvq{st:St} :FnM (Env.of Tryz.prog) 84 [.nil] st (fun r st' =>r= .tup []/\st' =st):=
 qvp (by kernel_rfl) Tryz.slices_Sort_int_none fun w Z L=>⟨#[],rfl,rfl,fun j c hj=>by simp at hj⟩
theorem qvr{st:St} :FnM (Env.of Tryz.prog) 85 [.nil] st (fun r st' =>r= .nil/\st' =st):=
 qvp (by kernel_rfl) Tryz.slices_Compact_int_empty fun w Z L=>TR.nil
def qvs(l:List Int):List Int:=l.mergeSort fun x y=>decide (x<=y)
theorem qvt {id ty : Nat} {zs : List Int} {s : List (Nat × PV)} {b : List (Nat × List PV)} {a : List (Nat × Arr)} {m : List (Nat × Mp)} (hA : lk a id = some ⟨1, ty, ints zs⟩) (hl : zs.length < 4611686018427387904) :
  FnM (Env.of Tryz.prog) 84 [.view id 0 zs.length] ⟨s,b,a,m⟩ fun r st' =>r= .tup []/\st' =⟨s,b,up a id ⟨1,ty,ints (qvs zs)⟩,m⟩:=
 quj (by kernel_rfl) (fun blk off cap zs w h1 h2 h3=>Tryz.slices_Sort_int blk off cap zs w h1 h2 h3) hA hl
theorem qvu(l:List Int):(Go.Lib.compact l).length<=l.length:=by
 unfold Go.Lib.compact Go.Lib.compactUpTo
 rw[List.length_map]
 exact Nat.le_trans (List.length_filter_le _ _) (by simp)
theorem qvv {id ty : Nat} {zs : List Int} {s : List (Nat × PV)} {b : List (Nat × List PV)} {a : List (Nat × Arr)} {m : List (Nat × Mp)} (hA : lk a id = some ⟨1, ty, ints zs⟩) (hl : zs.length <= 9223372036854775807) :
  FnM (Env.of Tryz.prog) 85 [.view id 0 zs.length] ⟨s,b,a,m⟩ fun r st' =>r= .view id 0 (Go.Lib.compact zs).length/\st' =⟨s,b,up a id ⟨1,ty,ints (Go.Lib.compact zs++List.replicate (zs.length-(Go.Lib.compact zs).length) 0)⟩,m⟩:=
 quk (by kernel_rfl) qvu (fun blk off cap zs w h1 h2 h3=>Tryz.slices_Compact_int blk off cap zs w h1 h2 h3) hA hl
def fidx(p:Int->Bool)(l:List Int):Int:=match l.findIdx? p with|some k=>k|none=> -1
theorem qvw{p:Int->Bool}{l:List Int}(h: ∀x∈l,p x=false):fidx p l= -1:=by
 unfold fidx
 rw[List.findIdx?_eq_none_iff.2 h]
theorem qvx{p:Int->Bool}{l:List Int}{k:Nat}(hk:k<l.length)(h: ∀x∈l.take k,p x=false)(hp:p l[k]=true):fidx p l=k:=by
 unfold fidx
 rw[List.findIdx?_eq_some_iff_getElem.2 ⟨hk,hp,fun j hj=>by
  have:l[j]∈l.take k:=List.mem_take_iff_getElem.2 ⟨j,by omega,rfl⟩
  simp[h _ this]⟩]
theorem qvz (l : List Int) (p : Int -> Bool) (f : Nat) (caps : List PV) (hf : qcG Tryz.prog f = true) (hp : ∀ x ∈ l, FnEq Tryz.prog f (.int x :: caps) (.bool (p x))) (hl : (l.length : Int) <= 4611686018427387904) :
  FnEq Tryz.prog 59 [.sl false 1 (ints l),.pcl f caps] (.int (fidx p l)):=by
 refine FnEq.of_awp Tryz.func59 ok59 (by show 2<=_;decide) (by simp only[push_cast,reduceIte,reduceEqDiff,reduceAdd,reduceSub,reduceMul,Nat.reduceBEq,reduceLT,reduceLeDiff,reduceCtorEq,reduceToNat,reduceNeg]<;>first|exact fun _ _=>trivial|simp) ?_
 simp only[ac59,rv59,push_cast,reduceIte,reduceEqDiff,reduceAdd,reduceSub,reduceMul,Nat.reduceBEq,reduceLT,reduceLeDiff,reduceCtorEq,reduceToNat,reduceNeg]
 refine qoH (fun m st=> ∃k:Nat,k<=l.length/\m=l.length-k/\(∀x∈l.take k,p x=false)/\st=⟨[(0,.sl false 1 (ints l)),(1,.pcl f caps),(7,.int l.length),(8,.int k)],[],[],[]⟩) l.length ?_ ?_
 ·refine⟨0,by omega,by omega,by simp,?_⟩
  exact sC
 ·rintro m st ⟨k,hk,rfl,hn,rfl⟩
  refine sB ?_
  refine qnR (fun h=>⟨by omega,by omega,?_⟩) fun h=> ?_
  ·have hk' :k<l.length:=by omega
   have hg:l.getD k default=l[k]:=by simp[hk']
   rw[hg]
   refine qsw hf (hp _ (List.getElem_mem hk')) sC ?_
   refine sB ?_
   refine qnQ (fun e=> ?_) fun e=>⟨by omega,_,?_,k+1,by omega,rfl,?_,?_⟩
   ·rw[qvx hk' hn e]
   ·omega
   ·intro x hx
    rw[List.take_succ_eq_append_getElem hk',List.mem_append,List.mem_singleton]at hx
    rcases hx with hx|rfl
    ·exact hn x hx
    ·exact e
   ·simp
  ·rw[List.take_of_length_le (by omega)]at hn;rw[qvw hn]
theorem qvA(x b:Int):FnEq Tryz.prog 87 [.int x,.iptr false [.int b] 0] (.bool (decide (x=b))):=by
 refine FnEq.of_awp Tryz.func87 ok87 (by show 2<=_;decide) (by simp only[push_cast,reduceIte,reduceEqDiff,reduceAdd,reduceSub,reduceMul,Nat.reduceBEq,reduceLT,reduceLeDiff,reduceCtorEq,reduceToNat,reduceNeg]<;>first|exact fun _ _=>trivial|simp) ?_
 simp only[ac87,rv87,push_cast,reduceIte,reduceEqDiff,reduceAdd,reduceSub,reduceMul,Nat.reduceBEq,reduceLT,reduceLeDiff,reduceCtorEq,reduceToNat,reduceNeg]
theorem qvB (x b : Int) {z : List (Nat × PV)} {bx : List (Nat × List PV)} {ar : List (Nat × Arr)} (hb : lk bx 103 = some [.int b]) :
  FnM (Env.of Tryz.prog) 87 [.int x,.ptr 103 0] ⟨z,bx,ar,[]⟩ (fun r st' =>r= .bool (decide (x=b))/\st' =⟨z,bx,ar,[]⟩):=by
 refine FnM.of_ok (by kernel_rfl) (args:=[.int x,.ptr 103 0]) (post:=fun r=>r= .bool (decide (x=b))) ?_ fun r hr=>⟨hr,rfl⟩
 have e:[PV.int x,.ptr 103 0].map (PV.rsA ⟨z,bx,ar,[]⟩)=[.int x,.iptr false [.int b] 0]:=by
  simp only[List.map_cons,List.map_nil,PV.rsA,PV.rs1,hb]
  rfl
 rw[e]
 exact qvA x b
theorem qvC{l:List Int}{b:Int}{k:Nat}(h:k<l.length):(l.take (k+1)).filter (fun x=>decide (x≠b))=(l.take k).filter (fun x=>decide (x≠b))++if l.getD k default=b then[]else[l.getD k default]:=by
 have e:l.getD k default=l[k]:=by simp[h]
 rw[List.take_succ_eq_append_getElem h,List.filter_append,e]
 by_cases h2:l[k]=b<;>simp[h2]
def cl(ws:List Int)(i n:Nat):List Int:=ws.take i++List.replicate (n-i) 0++ws.drop (i+(n-i))
theorem qvD{ws:List Int}{i n:Nat}(h1:i<=n)(h2:n<=ws.length):(cl ws i n).length=ws.length:=by simp[cl];omega
theorem qvE{ws:List Int}{i n:Nat}(h:i<=ws.length):(cl ws i n).take i=ws.take i:=by
 rw[cl,List.append_assoc,List.take_append_of_le_length (by simp;omega),List.take_take,Nat.min_self]
theorem qvF(ws:List Int)(i n:Nat):cpyF (ints ws) i (rows intC (List.replicate (n-i) 0))=ints (cl ws i n):=by
 show cpyF (ints ws) i (ints (List.replicate (n-i) 0))=_
 simp only[cpyF,cl,quh,List.map_append,List.map_take,List.map_drop,List.map_replicate,List.length_replicate]
def delF(l:List Int)(b:Int):List Int:=l.filter fun x=>decide (x≠b)
set_option maxHeartbeats 2000000 in
theorem qvG (g : Grid) (s : Spot) (zs : List Int) (n : Nat) (hn : n <= zs.length) (hl : (zs.length : Int) <= 1000000) (b : Int) (u : PV) :
  FnM (Env.of Tryz.prog) 86 [.view 434 0 n,.clo 87 [103]]
   ⟨[(0,.ptr 2 0),(1,.ptr 5 0),(2,.ptr 7 0),(3,.ptr 18 0),(4,.ptr 103 0)],[(2,quy false g),(5,quz s),(7,[.ptr 18 0]),(18,[.int g.w,.int g.h,.int g.tracks,.int g.pads,.sl false 1 (ints g.kind),.view 434 0 n]),(103,[.int b])],[(434,⟨1,3,ints zs⟩)],[]⟩
   (fun r st' => ∃ys:List Int,r= .view 434 0 (delF (zs.take n) b).length/\ys.length=zs.length/\ys.take (delF (zs.take n) b).length=delF (zs.take n) b/\
    st' =⟨[(0,.ptr 2 0),(1,.ptr 5 0),(2,.ptr 7 0),(3,.ptr 18 0),(4,.ptr 103 0)],[(2,quy false g),(5,quz s),(7,[.ptr 18 0]),(18,[.int g.w,.int g.h,.int g.tracks,.int g.pads,.sl false 1 (ints g.kind),.view 434 0 n]),(103,[.int b])],[(434,⟨1,3,ints ys⟩)],[]⟩):=by
 refine qtT 150 Tryz.func86 ok86_150 (by show 2<=_;decide) rfl (by show 0<=150;decide) ?_
 simp only[ac86_150,rv86_150,push_cast,reduceIte,reduceEqDiff,reduceAdd,reduceSub,reduceMul,Nat.reduceBEq,reduceLT,reduceLeDiff,reduceCtorEq,reduceToNat,reduceNeg]
 have hz:(zs.take n).length=n:=by simp;omega
 have hI:=qvz (zs.take n) (fun x=>decide (x=b)) 87 [.iptr false [.int b] 0] (by kernel_rfl) (fun x _=>qvA x b) (by omega)
 by_cases hex: ∃x∈zs.take n,x=b
 ·obtain ⟨k, hk, hkb, hkt⟩ : ∃ k : Nat, k < n /\ zs.getD k default = b /\ ∀ x ∈ zs.take k, x ≠ b := by
   obtain⟨x,hx,rfl⟩:=hex
   obtain⟨t,ht,e⟩:=List.mem_iff_getElem.1 hx
   rw[hz]at ht
   rw[List.getElem_take]at e
   have htl:t<zs.length:=by omega
   have hp: ∃y∈zs,decide (y=x)=true:=⟨x,List.mem_of_mem_take hx,by simp⟩
   have hlt:zs.findIdx (fun y=>decide (y=x))<zs.length:=List.findIdx_lt_length_of_exists hp
   have hle:zs.findIdx (fun y=>decide (y=x))<=t:=Nat.le_of_not_lt fun h=>by
    have:=List.not_of_lt_findIdx h
    simp[e]at this
   refine⟨zs.findIdx (fun y=>decide (y=x)),by omega,?_,fun y hy he=> ?_⟩
   ·have:=List.findIdx_getElem (w:=hlt)
    simp at this
    simp[List.getD_eq_getElem?_getD,hlt,this]
   ·obtain⟨q,hq,e2⟩:=List.mem_iff_getElem.1 hy
    rw[List.length_take]at hq
    rw[List.getElem_take]at e2
    have:=List.not_of_lt_findIdx (p:=fun y=>decide (y=x)) (xs:=zs) (i:=q) (by omega)
    simp[e2,he]at this
  have hi:fidx (fun x=>decide (x=b)) (zs.take n)=k:=by
   have hkz:k<zs.length:=by omega
   refine qvx (by omega) (fun x hx=>decide_eq_false (hkt x ?_)) ?_
   ·rw[List.take_take]at hx
    rwa [show min k n=k from by omega]at hx
   ·rw[List.getElem_take]
    have:zs[k]=b:=by rw[<- hkb];simp[List.getD_eq_getElem?_getD,hkz]
    simp[this]
  rw[hi]at hI
  refine qrm hI sC ?_
  refine sB ?_
  refine⟨by omega,?_⟩
  refine qoH (fun m st=> ∃(i j:Nat) (ws:List Int),j<=n/\m=n-j/\i<j/\ws.length=zs.length/\i=(delF (zs.take j) b).length/\ws.take i=delF (zs.take j) b/\(∀t:Nat,j<=t->ws.getD t default=zs.getD t default)/\
   st=⟨[(0,.ptr 2 0),(1,.ptr 5 0),(2,.ptr 7 0),(3,.ptr 18 0),(4,.ptr 103 0),(150,.view 434 0 n),(151,.clo 87 [103]),(155,.int i),(156,.int j)],[(2,quy false g),(5,quz s),(7,[.ptr 18 0]),(18,[.int g.w,.int g.h,.int g.tracks,.int g.pads,.sl false 1 (ints g.kind),.view 434 0 n]),(103,[.int b])],[(434,⟨1,3,ints ws⟩)],[]⟩) (n-(k+1)) ?_ ?_
  ·have hd : delF (zs.take (k + 1)) b = zs.take k := by
    rw[delF,qvC (by omega),if_pos hkb,List.append_nil]
    exact List.filter_eq_self.2 fun x hx=>decide_eq_true (hkt x hx)
   refine⟨k,k+1,zs,by omega,rfl,by omega,rfl,by rw[hd];simp;omega,by rw[hd],fun t _=>rfl,?_⟩
   exact sC
  ·rintro m st ⟨i,j,ws,hj,rfl,hij,hwl,hil,hwt,hwd,rfl⟩
   refine sB ?_
   refine qnR (fun h=> ?_) fun h=> ?_
   ·have hj' :j<zs.length:=by omega
    refine⟨by omega,by omega,?_⟩
    have hfs:=qvC (l:=zs) (b:=b) hj'
    rw[hwd j (Nat.le_refl _)]
    refine qst (FnM.mono (qvB (zs.getD j default) b rfl) fun r st' hq=>hq) ?_
    refine sB ?_
    refine qnQ (fun h2=> ?_) fun h2=> ?_
    ·have h2:zs.getD j default≠b:=by simpa using h2
     have hd:delF (zs.take (j+1)) b=delF (zs.take j) b++[zs.getD j default]:=by
      rw[delF,delF,hfs,if_neg h2]
     refine⟨by omega,by omega,by omega,by omega,_,?_,i+1,j+1,ws.set i (zs.getD j default),by omega,rfl,by omega,by simpa using hwl,?_,?_,fun t ht=> ?_,?_⟩
     ·omega
     ·rw[hd,List.length_append,<- hil];rfl
     ·rw[hd,<- hwt,List.take_succ_eq_append_getElem (by simp;omega),List.take_set_of_le (Nat.le_refl _)]
      simp
     ·rw[List.getD_eq_getElem?_getD,List.getElem?_set_ne (by omega),<- List.getD_eq_getElem?_getD]
      exact hwd t (by omega)
     ·simp
    ·have h2:zs.getD j default=b:=by simpa using h2
     have hd:delF (zs.take (j+1)) b=delF (zs.take j) b:=by
      rw[delF,delF,hfs,if_pos h2,List.append_nil]
     refine⟨by omega,_,?_,i,j+1,ws,by omega,rfl,by omega,hwl,by rw[hd];exact hil,by rw[hd];exact hwt,fun t ht=>hwd t (by omega),?_⟩
     ·omega
     ·simp
   ·have hjn:j=n:=by omega
    subst hjn
    refine⟨by omega,by omega,rfl,cl ws i j,?_,?_,?_,?_⟩
    ·rw[Nat.sub_zero,hil]
    ·rw[qvD (by omega) (by omega),hwl]
    ·rw[<- hil,qvE (by omega),hwt]
    ·rw[qvF]
 ·have hne: ∀x∈zs.take n,x≠b:=fun x hx e=>hex ⟨x,hx,e⟩
  have hi:fidx (fun x=>decide (x=b)) (zs.take n)= -1:=qvw fun x hx=>decide_eq_false (hne x hx)
  have hd:delF (zs.take n) b=zs.take n:=List.filter_eq_self.2 fun x hx=>decide_eq_true (hne x hx)
  rw[hi]at hI
  refine qrm hI sC ?_
  refine sB ?_
  rw[hd]
  refine⟨rfl,zs,by rw[hz],rfl,by rw[hz],rfl⟩
theorem qvH (b : Int) {z : List (Nat × PV)} (hz : z = [(0, .ptr 2 0), (1, .ptr 5 0), (2, .ptr 7 0), (3, .ptr 18 0), (4, .ptr 103 0)]) {bx : List (Nat × List PV)} (hb : lk bx 103 = some [.int b]) :
  FnM (Env.of Tryz.prog) 86 [.nil,.clo 87 [103]] ⟨z,bx,[],[]⟩ (fun r st' =>r= .nil/\st' =⟨z,bx,[],[]⟩):=by
 subst hz
 refine qtT 150 Tryz.func86 ok86_150 (by show 2<=_;decide) rfl (by show 0<=150;decide) ?_
 simp only[hb,ac86_150,rv86_150,push_cast,reduceIte,reduceEqDiff,reduceAdd,reduceSub,reduceMul,Nat.reduceBEq,reduceLT,reduceLeDiff,reduceCtorEq,reduceToNat,reduceNeg]
 have hI:=qvz [] (fun x=>decide (x=b)) 87 [.iptr false [.int b] 0] (by kernel_rfl) (fun x _=>qvA x b) (by simp)
 rw[show fidx (fun x=>decide (x=b)) []= -1 from rfl]at hI
 refine qrm hI ⟨.nil _ _,.refl _,trivial⟩ ?_
 exact sC
theorem qvI {id ty n : Nat} {zs : List Int} (hn : n = zs.length) {s : List (Nat × PV)} {b : List (Nat × List PV)} {a : List (Nat × Arr)} {m : List (Nat × Mp)} (hA : lk a id = some ⟨1, ty, ints zs⟩) (hl : zs.length < 4611686018427387904) :
  FnM (Env.of Tryz.prog) 84 [.view id 0 n] ⟨s,b,a,m⟩ fun r st' =>r= .tup []/\st' =⟨s,b,up a id ⟨1,ty,ints (qvs zs)⟩,m⟩:=by subst hn;exact qvt hA hl
theorem qvJ {id ty n : Nat} {zs : List Int} (hn : n = zs.length) {s : List (Nat × PV)} {b : List (Nat × List PV)} {a : List (Nat × Arr)} {m : List (Nat × Mp)} (hA : lk a id = some ⟨1, ty, ints zs⟩) (hl : zs.length <= 9223372036854775807) :
  FnM (Env.of Tryz.prog) 85 [.view id 0 n] ⟨s,b,a,m⟩ fun r st' =>r= .view id 0 (Go.Lib.compact zs).length/\st' =⟨s,b,up a id ⟨1,ty,ints (Go.Lib.compact zs++List.replicate (zs.length-(Go.Lib.compact zs).length) 0)⟩,m⟩:=by
 subst hn;exact qvv hA hl
def qvK(l:List Int)(b:Int):List Int:=delF (Go.Lib.compact (qvs l)) b
def SRes(l:List Int)(b:Int)(r:PV)(a:List (Nat×Arr)):Prop:=
 (r= .nil/\qvK l b=[]/\a=[])\/ ∃ys:List Int,r= .view 434 0 (qvK l b).length/\ys.take (qvK l b).length=qvK l b/\a=[(434,⟨1,3,ints ys⟩)]
theorem qvL (g : Grid) (s : Spot) (l : List Int) (hl : (l.length : Int) <= 1000000) (b : Int) :
  FnM (Env.of Tryz.prog) 69 [.ptr 18 0,.int b] (stX P4 g s l []) (fun r st' => ∃b' a',st' =⟨P4,b',a',[]⟩/\SRes l b r a'):=by
 by_cases hn:l=[]
 ·subst hn
  rw[qv6,qvm]
  refine qtT 100 Tryz.func69 ok69_100 (by show 2<=_;decide) rfl (by show 0<=100;decide) ?_
  simp only[ac69_100,rv69_100,push_cast,reduceIte,reduceEqDiff,reduceAdd,reduceSub,reduceMul,Nat.reduceBEq,reduceLT,reduceLeDiff,reduceCtorEq,reduceToNat,reduceNeg]
  refine qst qvq ?_
  refine sB ?_
  refine qst qvr ?_
  refine sB ?_
  refine qss (Q:=fun r st' =>r= .nil/\ ∃b',st' =⟨[(0,.ptr 2 0),(1,.ptr 5 0),(2,.ptr 7 0),(3,.ptr 18 0)],b',[],[]⟩) (FnM.frame [(0,.ptr 2 0),(1,.ptr 5 0),(2,.ptr 7 0),(3,.ptr 18 0),(4,.ptr 103 0)] [(0,.ptr 2 0),(1,.ptr 5 0),(2,.ptr 7 0),(3,.ptr 18 0)] rfl rfl sC (FnM.mono (qvH b rfl rfl) fun r st' hq=> ?_)) ?_
  ·exact⟨_,_,_,hq.2,hq.1,_,rfl⟩
  ·rintro r st' ⟨rfl,b',rfl⟩
   refine sB ?_
   exact⟨_,_,rfl,.inl ⟨rfl,by simp[qvK,qvs,Go.Lib.compact,Go.Lib.compactUpTo,delF],rfl⟩⟩
 ·rw[qv6,qvm,qv1 hn,qv2 hn]
  refine qtT 100 Tryz.func69 ok69_100 (by show 2<=_;decide) rfl (by show 0<=100;decide) ?_
  simp only[ac69_100,rv69_100,push_cast,reduceIte,reduceEqDiff,reduceAdd,reduceSub,reduceMul,Nat.reduceBEq,reduceLT,reduceLeDiff,reduceCtorEq,reduceToNat,reduceNeg]
  refine qst (qvI rfl rfl (by omega)) ?_
  refine sB ?_
  refine qst (qvJ (by rw[qvs,List.length_mergeSort]) rfl (by rw[qvs,List.length_mergeSort];omega)) ?_
  refine sB ?_
  have hlc:=qvu (qvs l)
  have hls:(qvs l).length=l.length:=by rw[qvs,List.length_mergeSort]
  have hdel:=qvG g s (Go.Lib.compact (qvs l)++List.replicate ((qvs l).length-(Go.Lib.compact (qvs l)).length) 0) (Go.Lib.compact (qvs l)).length (by simp) (by simp;omega) b .bot
  rw[List.take_left' rfl]at hdel
  refine qss (Q:=fun r st' => ∃ys:List Int,r= .view 434 0 (qvK l b).length/\ys.take (qvK l b).length=qvK l b/\st' =⟨[(0,.ptr 2 0),(1,.ptr 5 0),(2,.ptr 7 0),(3,.ptr 18 0)],[(2,quy false g),(5,quz s),(7,[.ptr 18 0]),(18,[.int g.w,.int g.h,.int g.tracks,.int g.pads,.sl false 1 (ints g.kind),.view 434 0 (Go.Lib.compact (qvs l)).length]),(103,[.int b])],[(434,⟨1,3,ints ys⟩)],[]⟩)
   (FnM.frame [(0,.ptr 2 0),(1,.ptr 5 0),(2,.ptr 7 0),(3,.ptr 18 0),(4,.ptr 103 0)] [(0,.ptr 2 0),(1,.ptr 5 0),(2,.ptr 7 0),(3,.ptr 18 0)] rfl rfl sC (FnM.mono hdel fun r st' hq=> ?_)) ?_
  ·obtain⟨ys,q1,q2,q3,q4⟩:=hq
   exact⟨_,_,_,q4,ys,q1,q3,rfl⟩
  ·rintro r st' ⟨ys,rfl,q2,rfl⟩
   refine sB ?_
   exact⟨rfl,_,_,rfl,.inr ⟨ys,rfl,q2,rfl⟩⟩
def rawD(g:Grid)(s:Spot):List Int:=
 if s.kind=3 then(if s.i=3 then addF g (allF g [] s.x s.y) ⟨1,s.x,s.y-1,0⟩else allF g [] s.x s.y)
 else if s.kind=7 then allF g [] (g.w-1) s.y
 else if s.kind=4\/s.kind=5 then qvk g s []
 else[]
def qvM(g:Grid)(n:Int):List Int:=if(quK g n).2=0 then qvK (rawD g (quK g n).1) n else[]
theorem qvN{g:Grid}(hg:GOk g){n:Int}(h: ¬(n<0\/quD g<=n)):SOk (quJ g n)/\(0<=(quJ g n).i/\(quJ g n).i<=1000)/\((quJ g n).kind<=5->(0<=(quJ g n).x/\(quJ g n).x<g.w)/\(0<=(quJ g n).y/\(quJ g n).y<g.h)/\(quJ g n).i<=64)/\(0<=(quJ g n).y/\(quJ g n).y<g.h):=by
 have h1:=hg.all
 have h2:=hg.each
 have h4:=hg.pads
 have hw:=hg.w
 have hh:=hg.h
 have ht:=hg.tracks
 have hc:quD g=allI g+2*g.pads:=rfl
 have e4:quC g=6+2*g.tracks:=rfl
 have e2:=Int.emod_nonneg n (show quC g≠0 by omega)
 have e3:=Int.emod_lt_of_pos n (show 0<quC g by omega)
 unfold quJ
 split
 ·have:=Int.emod_nonneg (n-allI g-g.pads) (show g.h≠0 by omega)
  have:=Int.emod_lt_of_pos (n-allI g-g.pads) (show 0<g.h by omega)
  exact⟨⟨by simp only;omega,by simp only;omega,by simp only;omega⟩,by simp only;omega,fun h=>absurd h (by simp only;omega),by simp only;omega⟩
 ·split
  ·have:=Int.emod_nonneg (n-allI g) (show g.h≠0 by omega)
   have:=Int.emod_lt_of_pos (n-allI g) (show 0<g.h by omega)
   exact⟨⟨by simp only;omega,by simp only;omega,by simp only;omega⟩,by simp only;omega,fun h=>absurd h (by simp only;omega),by simp only;omega⟩
  ·have x1:=Int.emod_nonneg (n/quC g) (show g.w≠0 by omega)
   have x2:=Int.emod_lt_of_pos (n/quC g) (show 0<g.w by omega)
   have y0:0<=n/quC g:=Int.ediv_nonneg (by omega) (by omega)
   have y1:0<=n/quC g/g.w:=Int.ediv_nonneg y0 (by omega)
   have y2:n/quC g/g.w<g.h:=by
    rw[Int.ediv_lt_iff_lt_mul (by omega),Int.ediv_lt_iff_lt_mul (by omega),Int.mul_comm g.h g.w]
    show n<allI g
    omega
   simp only
   generalize n/quC g/g.w=Y at y1 y2 ⊢
   generalize n/quC g%g.w=X at x1 x2 ⊢
   generalize n%quC g=I at e2 e3 ⊢
   split
   ·exact⟨⟨by simp only;omega,by simp only;omega,by simp only;omega⟩,by simp only;omega,fun _=>by simp only;omega,by simp only;omega⟩
   ·split
    ·exact⟨⟨by simp only;omega,by simp only;omega,by simp only;omega⟩,by simp only;omega,fun _=>by simp only;omega,by simp only;omega⟩
    ·split
     ·exact⟨⟨by simp only;omega,by simp only;omega,by simp only;omega⟩,by simp only;omega,fun _=>by simp only;omega,by simp only;omega⟩
     ·split<;>exact⟨⟨by simp only;omega,by simp only;omega,by simp only;omega⟩,by simp only;omega,fun _=>by simp only;omega,by simp only;omega⟩
theorem qvO {f : Nat} {args : List PV} {z : List (Nat × PV)} (t : List (Nat × PV)) {g : Grid} {s : Spot} {l l' : List Int} {xs : List (Nat × List PV)} (hz : frT z P4 t) (h : FnM (Env.of Tryz.prog) f args (stX P4 g s l xs) (fun r st' => r = .tup [] /\ st' = stX P4 g s l' xs)) :
  FnM (Env.of Tryz.prog) f args (stX z g s l xs) (fun r st' =>r= .tup []/\st' =stX t g s l' xs):=
 FnM.frame P4 t rfl rfl hz (FnM.mono h fun r st' hq=>by
  obtain⟨rfl,rfl⟩:=hq
  exact⟨_,_,_,rfl,rfl,rfl⟩)
theorem qvP (g : Grid) (s : Spot) (l : List Int) (hl : (l.length : Int) <= 1000000) (n : Int) (st : St) (hst : st.keepS [0, 58, 1, 7] = stX [(1, .int n), (7, .ptr 7 0)] g s l []) (Q : PV -> Prop)
  (hq: ∀v,Sub v (.sl true 1 (ints (qvK l n)))->Q v):awp (Env.of Tryz.prog) ac36_r15 (retK [RV.tmp 4] Q) st:=by
 simp only[ac36_r15,push_cast,reduceIte,reduceEqDiff,reduceAdd,reduceSub,reduceMul,Nat.reduceBEq,reduceLT,reduceLeDiff,reduceCtorEq,reduceToNat,reduceNeg,hst,qv6]
 refine qss (Q:=fun r st' => ∃b' a',st' =⟨[(1,.int n),(7,.ptr 7 0)],b',a',[]⟩/\SRes l n r a')
  (FnM.frame P4 [(1,.int n),(7,.ptr 7 0)] rfl rfl sC (FnM.mono (qvL g s l hl n) fun r st' hq=> ?_)) ?_
 ·obtain⟨b',a',rfl,h⟩:=hq
  exact⟨b',a',[],rfl,b',a',rfl,h⟩
 ·rintro r st' ⟨b',a',rfl,⟨rfl,h2,rfl⟩|⟨ys,rfl,h2,rfl⟩⟩
  ·refine sB ?_
   exact hq _ (by rw[h2];exact .nil true 1)
  ·refine sB ?_
   exact⟨fun _ _=>trivial,hq _ (by rw[h2];exact .refl _)⟩
theorem qvQ(g:Grid)(hg:GOk g)(n:Int)(hn: -1000000000<=n/\n<=1000000000):FnEq Tryz.prog 36 [.agg (quy false g),.int n] (.sl true 1 (ints (qvM g n))):=by
 refine FnEq.of_awp Tryz.func36 ok36 (by show 2<=_;decide) (by simp only[push_cast,reduceIte,reduceEqDiff,reduceAdd,reduceSub,reduceMul,Nat.reduceBEq,reduceLT,reduceLeDiff,reduceCtorEq,reduceToNat,reduceNeg]<;>first|exact fun _ _=>trivial|simp) ?_
 simp only[ac36,rv36,push_cast,reduceIte,reduceEqDiff,reduceAdd,reduceSub,reduceMul,Nat.reduceBEq,reduceLT,reduceLeDiff,reduceCtorEq,reduceToNat,reduceNeg]
 have hD:=quM g hg n hn
 by_cases hE:n<0\/quD g<=n
 ·have e:quK g n=(⟨0,0,0,0⟩,1):=by rw[quK,if_pos hE]
  have e2:qvM g n=[]:=by rw[qvM,e];rfl
  rw[e]at hD
  refine qrm hD sC ?_
  simp only[quL,push_cast,reduceIte,reduceEqDiff,reduceAdd,reduceSub,reduceMul,Nat.reduceBEq,reduceLT,reduceLeDiff,reduceCtorEq,reduceToNat,reduceNeg]
  refine qnR (fun _=> ?_) fun h=>absurd (by decide) h
  exact e2
 have e:quK g n=(quJ g n,0):=by rw[quK,if_neg hE]
 obtain⟨r1,r2,r3,r4⟩:=qvN hg hE
 have e2:qvM g n=qvK (rawD g (quJ g n)) n:=by rw[qvM,e];rfl
 rw[e]at hD
 refine qrm hD sC ?_
 simp only[quL,push_cast,reduceIte,reduceEqDiff,reduceAdd,reduceSub,reduceMul,Nat.reduceBEq,reduceLT,reduceLeDiff,reduceCtorEq,reduceToNat,reduceNeg]
 rw[e2]
 generalize quJ g n=s at r1 r2 r3 r4 ⊢
 have hw:=hg.w
 have hh:=hg.h
 have ht:=hg.tracks
 have hal: ∀x y,(allF g [] x y).length<=256:=fun x y=>by
  have:=qvb g x y [] g.tracks.toNat
  rw[allF]
  simp only[List.length_nil]at this
  omega
 refine qnR (fun h=>absurd rfl h) fun _=> ?_
 refine qnR (fun k3=> ?_) fun k3=> ?_
 ·obtain⟨⟨x1,x2⟩,⟨y1,y2⟩,i1⟩:=r3 (by omega)
  refine qst (qvf [(1,.int n),(5,.ptr 5 0),(7,.ptr 7 0)] ?_ (qvc g hg s [] (by simp) s.x s.y (by omega))) ?_
  ·exact sC
  simp only[qv6,push_cast,reduceIte,reduceEqDiff,reduceAdd,reduceSub,reduceMul,Nat.reduceBEq,reduceLT,reduceLeDiff,reduceCtorEq,reduceToNat,reduceNeg]
  refine qnR (fun k4=> ?_) fun k4=> ?_
  ·refine⟨by omega,?_⟩
   refine qst (qvf [(1,.int n),(7,.ptr 7 0)] ?_ (qv4 g hg s (allF g [] s.x s.y) (by have:=hal s.x s.y;omega) [] (fun i=>rfl) ⟨1,s.x,s.y-1,0⟩ ⟨by show -1<=s.x/\s.x<=65;omega,by show -1<=s.y-1/\s.y-1<=65;omega,by show(-1:Int)<=0/\(0:Int)<=2000;omega⟩)) ?_
   ·exact sC
   simp only[qv6,push_cast,reduceIte,reduceEqDiff,reduceAdd,reduceSub,reduceMul,Nat.reduceBEq,reduceLT,reduceLeDiff,reduceCtorEq,reduceToNat,reduceNeg]
   have hr:rawD g s=addF g (allF g [] s.x s.y) ⟨1,s.x,s.y-1,0⟩:=by rw[rawD,if_pos k3,if_pos k4]
   rw[<- hr]
   refine qvP g s (rawD g s) (by rw[hr];have:=qv3 g (allF g [] s.x s.y) ⟨1,s.x,s.y-1,0⟩;have:=hal s.x s.y;omega) n _ (by simp only[qv6,push_cast,reduceIte,reduceEqDiff,reduceAdd,reduceSub,reduceMul,Nat.reduceBEq,reduceLT,reduceLeDiff,reduceCtorEq,reduceToNat,reduceNeg]) _ fun v hv=>hv
  ·have hr:rawD g s=allF g [] s.x s.y:=by rw[rawD,if_pos k3,if_neg k4]
   rw[<- hr]
   refine qvP g s (rawD g s) (by rw[hr];have:=hal s.x s.y;omega) n _ (by simp only[qv6,push_cast,reduceIte,reduceEqDiff,reduceAdd,reduceSub,reduceMul,Nat.reduceBEq,reduceLT,reduceLeDiff,reduceCtorEq,reduceToNat,reduceNeg]) _ fun v hv=>hv
 refine qnR (fun k7=> ?_) fun k7=> ?_
 ·refine⟨by omega,?_⟩
  refine qst (qvf [(1,.int n),(7,.ptr 7 0)] ?_ (qvc g hg s [] (by simp) (g.w-1) s.y (by omega))) ?_
  ·exact sC
  simp only[qv6,push_cast,reduceIte,reduceEqDiff,reduceAdd,reduceSub,reduceMul,Nat.reduceBEq,reduceLT,reduceLeDiff,reduceCtorEq,reduceToNat,reduceNeg]
  have hr:rawD g s=allF g [] (g.w-1) s.y:=by rw[rawD,if_neg k3,if_pos k7]
  rw[<- hr]
  refine qvP g s (rawD g s) (by rw[hr];have:=hal (g.w-1) s.y;omega) n _ (by simp only[qv6,push_cast,reduceIte,reduceEqDiff,reduceAdd,reduceSub,reduceMul,Nat.reduceBEq,reduceLT,reduceLeDiff,reduceCtorEq,reduceToNat,reduceNeg]) _ fun v hv=>hv
 have key:(s.kind=4\/s.kind=5)->FnM (Env.of Tryz.prog) 66 [.agg (quy false g),.agg (quz s),.clo 67 [7,5,2]] (stX P4 g s [] []) (fun r st' =>r= .tup []/\st' =stX P4 g s (qvk g s []) []):=fun h=>by
  obtain⟨⟨x1,x2⟩,⟨y1,y2⟩,i1⟩:=r3 (by omega)
  exact qvo g hg s r1 (by omega) ⟨⟨x1,x2⟩,y1,y2⟩ [] (by simp)
 have hle:((qvk g s []).length:Int)<=1000000:=by
  have h1:=qvg g hg s [] s.x s.y
  have h2:=fun x y=>qvg g hg s (endF g s [] s.x s.y) x y
  simp only[List.length_nil]at h1
  have e:qvk g s []=qvn g s (endF g s [] s.x s.y):=rfl
  rw[e,qvn]
  split<;>split<;>first|omega|(have:=h2 (s.x+1) s.y;omega)|(have:=h2 s.x (s.y+1);omega)
 refine qnR (fun k4=>qnR (fun _=> ?_) fun h=>absurd k4 h) fun k4=> ?_
 ·skip
  refine qst (qvO [(1,.int n),(7,.ptr 7 0)] ?_ (key (.inl k4))) ?_
  ·exact sC
  simp only[qv6,push_cast,reduceIte,reduceEqDiff,reduceAdd,reduceSub,reduceMul,Nat.reduceBEq,reduceLT,reduceLeDiff,reduceCtorEq,reduceToNat,reduceNeg]
  have hr:rawD g s=qvk g s []:=by rw[rawD,if_neg k3,if_neg k7,if_pos (.inl k4)]
  rw[<- hr]
  refine qvP g s (rawD g s) (by rw[hr];exact hle) n _ (by simp only[qv6,push_cast,reduceIte,reduceEqDiff,reduceAdd,reduceSub,reduceMul,Nat.reduceBEq,reduceLT,reduceLeDiff,reduceCtorEq,reduceToNat,reduceNeg]) _ fun v hv=>hv
 refine qnR (fun k5=> ?_) fun k5=> ?_
 ·skip
  refine qst (qvO [(1,.int n),(7,.ptr 7 0)] ?_ (key (.inr k5))) ?_
  ·exact sC
  simp only[qv6,push_cast,reduceIte,reduceEqDiff,reduceAdd,reduceSub,reduceMul,Nat.reduceBEq,reduceLT,reduceLeDiff,reduceCtorEq,reduceToNat,reduceNeg]
  have hr:rawD g s=qvk g s []:=by rw[rawD,if_neg k3,if_neg k7,if_pos (.inr k5)]
  rw[<- hr]
  refine qvP g s (rawD g s) (by rw[hr];exact hle) n _ (by simp only[qv6,push_cast,reduceIte,reduceEqDiff,reduceAdd,reduceSub,reduceMul,Nat.reduceBEq,reduceLT,reduceLeDiff,reduceCtorEq,reduceToNat,reduceNeg]) _ fun v hv=>hv
 ·have hr:rawD g s=[]:=by rw[rawD,if_neg k3,if_neg k7,if_neg (fun h=>h.elim k4 k5)]
  rw[hr]
  refine qvP g s [] (by simp) n _ (by simp only[qv6,lv,la,push_cast,reduceIte,reduceEqDiff,reduceAdd,reduceSub,reduceMul,Nat.reduceBEq,reduceLT,reduceLeDiff,reduceCtorEq,reduceToNat,reduceNeg]) _ fun v hv=>hv
def Adj(g:Grid)(w:Spot)(x y:Int):Prop:=
 ¬(x<0\/g.w<=x\/y<0\/g.h<=y)/\(((w.kind=4\/w.kind=5)/\w.x=x/\w.y=y)\/(w.kind=4/\w.x+1=x/\w.y=y)\/(w.kind=5/\w.x=x/\w.y+1=y))
instance (g:Grid) (w:Spot) (x y:Int):Decidable (Adj g w x y):=by unfold Adj;infer_instance
set_option maxHeartbeats 2000000 in
set_option maxRecDepth 10000 in
theorem qvR(g:Grid)(w:Spot)(hw:SOk w)(x y:Int):FnEq Tryz.prog 90 [.agg (quy false g),.agg (quz w),.int x,.int y] (.bool (decide (Adj g w x y))):=by
 have hx:=hw.x
 have hy:=hw.y
 obtain⟨k,wx,wy,wi⟩:=w
 simp only at hx hy
 refine FnEq.of_awp Tryz.func90 ok90 (by show 4<=_;decide) (by simp only[push_cast,reduceIte,reduceEqDiff,reduceAdd,reduceSub,reduceMul,Nat.reduceBEq,reduceLT,reduceLeDiff,reduceCtorEq,reduceToNat,reduceNeg]<;>first|exact fun _ _=>trivial|simp) ?_
 simp only[ac90,rv90,push_cast,reduceIte,reduceEqDiff,reduceAdd,reduceSub,reduceMul,Nat.reduceBEq,reduceLT,reduceLeDiff,reduceCtorEq,reduceToNat,reduceNeg]
 refine qry ⟨[(2,.int x),(3,.int y),(5,.ptr 5 0),(26,.bool (decide (x<0\/g.w<=x\/y<0\/g.h<=y)))],[(4,quy false g),(5,quz ⟨k,wx,wy,wi⟩)],[],[]⟩ ?_ ?_
 ·refine qrr rfl (fun h=> ?_) fun h=> ?_<;>simp only[push_cast,reduceIte,reduceEqDiff,reduceAdd,reduceSub,reduceMul,Nat.reduceBEq,reduceLT,reduceLeDiff,reduceCtorEq,reduceToNat,reduceNeg]
  ·simp[h]
  refine qrr rfl (fun h2=> ?_) fun h2=> ?_<;>simp only[push_cast,reduceIte,reduceEqDiff,reduceAdd,reduceSub,reduceMul,Nat.reduceBEq,reduceLT,reduceLeDiff,reduceCtorEq,reduceToNat,reduceNeg]
  ·simp[h,h2]
  refine qrr rfl (fun h3=> ?_) fun h3=> ?_<;>simp only[push_cast,reduceIte,reduceEqDiff,reduceAdd,reduceSub,reduceMul,Nat.reduceBEq,reduceLT,reduceLeDiff,reduceCtorEq,reduceToNat,reduceNeg]
  ·simp[h,h2,h3]
  simp[h,h2,h3]
 have hA: ¬(x<0\/g.w<=x\/y<0\/g.h<=y)->decide (Adj g ⟨k,wx,wy,wi⟩ x y)=((decide (k=4)||decide (k=5))&&decide (wx=x)&&decide (wy=y)||decide (k=4)&&decide (wx+1=x)&&decide (wy=y)||decide (k=5)&&decide (wx=x)&&decide (wy+1=y)):=fun h=>by
  rw[Bool.eq_iff_iff]
  simp[Adj,h]
  constructor
  ·rintro(⟨h1,h2,h3⟩|⟨h1,h2,h3⟩|⟨h1,h2,h3⟩)
   ·exact .inl (.inl ⟨⟨h1,h2⟩,h3⟩)
   ·exact .inl (.inr ⟨⟨h1,h2⟩,h3⟩)
   ·exact .inr ⟨⟨h1,h2⟩,h3⟩
  ·rintro((⟨⟨h1,h2⟩,h3⟩|⟨⟨h1,h2⟩,h3⟩)|⟨⟨h1,h2⟩,h3⟩)
   ·exact .inl ⟨h1,h2,h3⟩
   ·exact .inr (.inl ⟨h1,h2,h3⟩)
   ·exact .inr (.inr ⟨h1,h2,h3⟩)
 refine sB ?_
 refine qnR (fun h=> ?_) fun h=> ?_
 ·exact congrArg Value.bool (decide_eq_false (fun hh=>hh.1 h)).symm
 have hA:=hA h
 cases h4:decide (k=4)
 ·cases h5:decide (k=5)
  ·rw[h4,h5]at hA
   simp only[h4,h5,push_cast,reduceIte,reduceEqDiff,reduceAdd,reduceSub,reduceMul,Nat.reduceBEq,reduceLT,reduceLeDiff,reduceCtorEq,reduceToNat,reduceNeg]
   first|exact congrArg Value.bool hA.symm|exact⟨by omega,congrArg Value.bool hA.symm⟩|exact⟨by omega,by omega,congrArg Value.bool hA.symm⟩
  ·cases hD : decide (wy = y) <;> cases hC : decide (wx = x) <;> cases hF : decide (wy + 1 = y) <;> rw [h4, h5, hC, hD, hF] at hA <;> simp only [h4, h5, hC, hD, hF, push_cast, reduceIte, reduceEqDiff, reduceAdd, reduceSub, reduceMul, Nat.reduceBEq, reduceLT, reduceLeDiff, reduceCtorEq, reduceToNat, reduceNeg] <;>
    first|exact congrArg Value.bool hA.symm|exact⟨by omega,congrArg Value.bool hA.symm⟩|exact⟨by omega,by omega,congrArg Value.bool hA.symm⟩
 ·have h5:decide (k=5)=false:=by simp at h4 ⊢;omega
  cases hD:decide (wy=y)<;>cases hC:decide (wx=x)<;>cases hE:decide (wx+1=x)<;>rw[h4,h5,hC,hD,hE]at hA<;>simp only[h4,h5,hC,hD,hE,push_cast,reduceIte,reduceEqDiff,reduceAdd,reduceSub,reduceMul,Nat.reduceBEq,reduceLT,reduceLeDiff,reduceCtorEq,reduceToNat,reduceNeg]<;>
   first|exact congrArg Value.bool hA.symm|exact⟨by omega,congrArg Value.bool hA.symm⟩|exact⟨by omega,by omega,congrArg Value.bool hA.symm⟩
end Go.Proofs.YtdmkfgkmnpohlaaGreat
