/- HU HY HZ VcZy VcZz IGa IG IH VcZza: lemmas -/
import Derived.Test.YtecoaapkcnhlhaaDoorPart11
import Derived.Test.YtecoaapkcnhlhaaDoorPart12
set_option linter.unusedSimpArgs false
set_option linter.unusedVariables false
open Nat (reduceEqDiff reduceAdd reduceSub reduceMul reduceLT reduceLeDiff)
open Int (reduceToNat reduceNeg)
namespace Go.Ham
def dgA(h w:Nat):Nat:=((h^^^w)*15485907386658061715)%2^64
def dgS(h w:Nat):Nat:=((dgA h w^^^(dgA h w>>>32))*11562461410679940143)%2^64
def dig0:Nat:=512970876019
def qEn(h:Nat)(l:List Nat):Nat:=l.foldl dgS h
def digW(l:List Nat):Nat:=dgS (qEn dig0 l) l.length
theorem qEo(h w:Nat):dgS h w<2^64:=Nat.mod_lt _ (by decide)
theorem qEp: ∀(l:List Nat) (h:Nat),h<2^64->qEn h l<2^64
 |[],_,h=>h
 |w::l,h,_=>qEp l _ (qEo _ _)
theorem qEq{c ci x y:Nat}(hc:c*ci%2^64=1)(hx:x<2^64)(hy:y<2^64)(h:x*c%2^64=y*c%2^64):x=y:=by
 have key: ∀z,z<2^64->(z*c%2^64)*ci%2^64=z:=fun z hz=>by
  rw[Nat.mod_mul_mod,Nat.mul_assoc,<- Nat.mul_mod_mod,hc,Nat.mul_one,Nat.mod_eq_of_lt hz]
 have h1:=key x hx
 rw[h,key y hy]at h1
 exact h1.symm
theorem qEr{a b:Nat}(ha:a<2^64)(hb:b<2^64)(h:a^^^(a>>>32)=b^^^(b>>>32)):a=b:=by
 have key: ∀z,z<2^64->(z^^^(z>>>32))^^^((z^^^(z>>>32))>>>32)=z:=fun z hz=>by
  rw[Nat.shiftRight_xor_distrib,<- Nat.shiftRight_add,show z>>>(32+32)=0 from by rw[Nat.shiftRight_eq_div_pow];exact Nat.div_eq_of_lt hz]
  rw[Nat.xor_zero,Nat.xor_assoc,Nat.xor_self,Nat.xor_zero]
 have h1:=key a ha
 rw[h,key b hb]at h1
 exact h1.symm
theorem qEs{a b c:Nat}(h:a^^^c=b^^^c):a=b:=by
 have:=congrArg (· ^^^c) h
 simpa[Nat.xor_assoc]using this
theorem qEt{a b c:Nat}(h:c^^^a=c^^^b):a=b:=qEs (c:=c) (by rw[Nat.xor_comm a,Nat.xor_comm b];exact h)
theorem qEu{x y:Nat}(hx:x<2^64)(hy:y<2^64)(h:((x*15485907386658061715%2^64^^^((x*15485907386658061715%2^64)>>>32))*11562461410679940143)%2^64=((y*15485907386658061715%2^64^^^((y*15485907386658061715%2^64)>>>32))*11562461410679940143)%2^64):x=y:=by
 have l: ∀z:Nat,(z*15485907386658061715%2^64^^^((z*15485907386658061715%2^64)>>>32))<2^64:=fun z=>by
  have h1:z*15485907386658061715%2^64<2^64:=Nat.mod_lt _ (by decide)
  exact Nat.xor_lt_two_pow h1 (by rw[Nat.shiftRight_eq_div_pow];exact Nat.lt_of_le_of_lt (Nat.div_le_self _ _) h1)
 have h1:=qEq (ci:=10636502746458383055) (by decide) (l x) (l y) h
 have h2:=qEr (Nat.mod_lt _ (by decide)) (Nat.mod_lt _ (by decide)) h1
 exact qEq (ci:=14982988110149298331) (by decide) hx hy h2
theorem qEv{h h' w:Nat}(a:h<2^64)(b:h' <2^64)(c:w<2^64)(e:dgS h w=dgS h' w):h=h' :=
 qEs (qEu (Nat.xor_lt_two_pow a c) (Nat.xor_lt_two_pow b c) e)
theorem qEw{h w w' :Nat}(a:h<2^64)(b:w<2^64)(c:w' <2^64)(e:dgS h w=dgS h w'):w=w' :=
 qEt (qEu (Nat.xor_lt_two_pow a b) (Nat.xor_lt_two_pow a c) e)
theorem qEx: ∀(l:List Nat) (h h' :Nat),h<2^64->h' <2^64->(∀w∈l,w<2^64)->qEn h l=qEn h' l->h=h'
 |[],_,_,_,_,_,e=>e
 |w::l,h,h',a,b,hl,e=>qEv a b (hl w List.mem_cons_self) (qEx l _ _ (qEo _ _) (qEo _ _) (fun v hv=>hl v (List.mem_cons_of_mem _ hv)) e)
theorem qEy{l r:List Nat}{a b:Nat}(hl: ∀w∈l,w<2^64)(hr: ∀w∈r,w<2^64)(ha:a<2^64)(hb:b<2^64)(hab:a≠b)(hn:(l++a::r).length<2^64):digW (l++a::r)≠digW (l++b::r):=by
 intro e
 have h0:qEn dig0 l<2^64:=qEp l _ (by decide)
 have e1:qEn dig0 (l++a::r)=qEn dig0 (l++b::r):=by
  unfold digW at e
  rw[show(l++b::r).length=(l++a::r).length from by simp]at e
  exact qEv (qEp _ _ (by decide)) (qEp _ _ (by decide)) hn e
 have e2:qEn (dgS (qEn dig0 l) a) r=qEn (dgS (qEn dig0 l) b) r:=by
  simpa[qEn]using e1
 exact hab (qEw h0 ha hb (qEx r _ _ (qEo _ _) (qEo _ _) hr e2))
def qEz(l:List (List Nat)):List Nat:=l.length::l.flatMap fun ws=>ws.length::ws
def digF(l:List (List Nat)):Nat:=digW (qEz l)
end Go.Ham
namespace Go.Proofs.YtecoaapkcnhlhaaDoor
open Go Go.Vc Txt Go.Ham
def nats(l:List Nat):List Int:=l.map fun n:Nat=>(n:Int)
def frmC(q:Bool)(ws:List Nat):List PV:=[.sl q 1 (rows u64C (nats ws))]
@[push_cast] theorem qEA(q:Bool)(ws:List Nat):frmC q ws=[.sl q 1 (rows u64C (nats ws))]:=rfl
theorem qEB(a b:Nat):IntKind.u64.wrap ((a:Int)*b)=((a*b%2^64:Nat):Int):=by
 rw[IntKind.wrap_u64,<- Int.natCast_mul];rfl
theorem qEC {E : Env} (hE : E.p = Tryd.prog) (hkk : E.kk <= 200) (hpn : ∀ ch st, ¬ E.pan ch st) {s : List (Nat × PV)} {b : List (Nat × List PV)} {a : List (Nat × Arr)} {m : List (Nat × Mp)} (hs : qtT 200 s = true)
  (id v ty h w:Nat) (hb:lk b id=some [.sc (.int .u64 h)]) (ha:lk a v=some ⟨1,ty,rows u64C [(w:Int)]⟩) (hh:h<2^64) (hw:w<2^64):
  FnM E 71 [.ptr id 0,.view v 0 1] ⟨s,b,a,m⟩ (fun r st' =>r= .tup []/\st' =⟨s,up b id [.sc (.int .u64 (dgS h w:Nat))],a,m⟩):=by
 refine qub 200 (by rw[hE];exact Tryd.func71) (by rw[hE];exact ok71_200) (by show 2<=_;decide) hs hkk ?_ hpn
 simp only[ac71_200,rv71_200,qCo hs,qCn hs,qCp hs,qCq hs,qCr hs,hb,ha,push_cast,reduceIte,reduceEqDiff,reduceAdd,reduceSub,reduceMul,Nat.reduceBEq,reduceLT,reduceLeDiff,reduceCtorEq,reduceToNat,reduceNeg,cNI]
 refine qoK (fun n st=>(n=1/\st=⟨s++[(200,.ptr id 0),(207,.view v 0 1),(208,.int 1),(209,.int 0)],b,a,m⟩)\/(n=0/\st=⟨s++[(200,.ptr id 0),(207,.view v 0 1),(208,.int 1),(209,.int 1)],up b id [.sc (.int .u64 (dgS h w:Nat))],a,m⟩)) 1 ⟨_,SWk.refl _,.inl ⟨rfl,?_⟩⟩ ?_
 ·simp only[qCn hs,qCp hs,qCq hs,Int.zero_add,push_cast,reduceIte,reduceEqDiff,reduceAdd,reduceSub,reduceMul,Nat.reduceBEq,reduceLT,reduceLeDiff,reduceCtorEq,reduceToNat,reduceNeg,cNI]
 rintro n st (⟨rfl,rfl⟩|⟨rfl,rfl⟩)
 ·simp only[qCo hs,qCn hs,qCp hs,qCq hs,qCr hs,hb,ha,List.getD_cons_zero,List.length_cons,List.length_nil,push_cast,reduceIte,reduceEqDiff,reduceAdd,reduceSub,reduceMul,Nat.reduceBEq,reduceLT,reduceLeDiff,reduceCtorEq,reduceToNat,reduceNeg,cNI]
  refine qnU (fun _=> ?_) fun h=>absurd (by decide) h
  have hx:h^^^w<2^64:=Nat.xor_lt_two_pow hh hw
  have hA:dgA h w<2^64:=Nat.mod_lt _ (by decide)
  have e1:IntKind.u64.wrap (bitF .xor .u64 (h:Int) (w:Int)*15485907386658061715)=((dgA h w:Nat):Int):=by
   rw[qBe hh hw];exact qEB (h^^^w) 15485907386658061715
  have e2:IntKind.u64.wrap (bitF .xor .u64 (dgA h w:Int) (shfF .shr .u64 (dgA h w:Int) 32)*11562461410679940143)=((dgS h w:Nat):Int):=by
   rw[show shfF .shr .u64 (dgA h w:Int) 32=((dgA h w>>>32:Nat):Int)from(qBi _ 32 (by decide)).trans (by rw[Nat.shiftRight_eq_div_pow]),qBe hA (by rw[Nat.shiftRight_eq_div_pow];exact Nat.lt_of_le_of_lt (Nat.div_le_self _ _) hA)]
   exact qEB (dgA h w^^^dgA h w>>>32) 11562461410679940143
  simp only[e1,e2,push_cast,reduceIte,reduceEqDiff,reduceAdd,reduceSub,reduceMul,Nat.reduceBEq,reduceLT,reduceLeDiff,reduceCtorEq,reduceToNat,reduceNeg,cNI]
  exact⟨⟨by decide,by decide⟩,by decide,⟨by decide,by decide⟩,_,SWk.refl _,0,by decide,.inr ⟨rfl,rfl⟩⟩
 ·simp only[qCo hs,qCn hs,qCp hs,qCq hs,qCr hs,hb,ha,push_cast,reduceIte,reduceEqDiff,reduceAdd,reduceSub,reduceMul,Nat.reduceBEq,reduceLT,reduceLeDiff,reduceCtorEq,reduceToNat,reduceNeg,cNI]
  exact qnU (fun h=>absurd h (by decide)) fun _=>trivial
def toW(n:Int):Nat:=(n%18446744073709551616).toNat
theorem qED(n:Int):toW n<2^64:=by unfold toW;omega
theorem qEE(n:Int):IntKind.u64.wrap n=((toW n:Nat):Int):=by rw[IntKind.wrap_u64];unfold toW;omega
theorem qEF{α β:Type}(f:β->α->β)(h:β)(l:List α)(w:α):(l++[w]).foldl f h=f (l.foldl f h) w:=by simp
theorem qEG(h:Nat)(l:List Nat)(w:Nat):qEn h (l++[w])=dgS (qEn h l) w:=qEF dgS h l w
theorem qEH(l:List Int)(k:Nat)(h:k<l.length):l.take (k+1)=l.take k++[l.getD k default]:=by
 rw[List.take_succ_eq_append_getElem h];simp[List.getD_eq_getElem?_getD,h]
theorem qEI(l:List Int)(hl:(l.length:Int)<=1000000):FnEq Tryd.prog 50 [.sl false 1 (ints l)] (.sc (.int .u64 (digW (l.map toW):Nat))):=by
 refine FnEq.of_awp Tryd.func50 ok50 (by show 1<=_;decide) (by simp only[push_cast,reduceIte,reduceEqDiff,reduceAdd,reduceSub,reduceMul,Nat.reduceBEq,reduceLT,reduceLeDiff,reduceCtorEq,reduceToNat,reduceNeg,cNI]<;>first|exact fun _ _=>trivial|simp) ?_
 simp only[ac50,rv50,push_cast,reduceIte,reduceEqDiff,reduceAdd,reduceSub,reduceMul,Nat.reduceBEq,reduceLT,reduceLeDiff,reduceCtorEq,reduceToNat,reduceNeg,cNI]
 refine qoL (fun n st=> ∃k:Nat,k<=l.length/\n=l.length-k/\st=⟨[(0,.sl false 1 (ints l)),(3,.ptr 3 0),(4,.bm 71 3),(8,.sl false 1 (ints l)),(9,.int l.length),(10,.int k)],[(3,[.sc (.int .u64 (qEn dig0 ((l.take k).map toW):Nat))])],[],[]⟩) l.length ⟨0,by omega,by omega,?_⟩ ?_
 ·refine sB ?_
  rfl
 rintro n st ⟨k,hk,rfl,rfl⟩
 have hF:qEn dig0 ((l.take k).map toW)<2^64:=qEp _ _ (by decide)
 refine sB ?_
 have e1: ∀x:Int,(List.replicate 1 (0:Int)).set 0 x=[x]:=fun _=>rfl
 refine qnU (fun h=> ?_) fun h=> ?_
 ·simp only[e1,qEE,List.length_cons,List.length_nil,List.length_replicate,push_cast,reduceIte,reduceEqDiff,reduceAdd,reduceSub,reduceMul,Nat.reduceBEq,reduceLT,reduceLeDiff,reduceCtorEq,reduceToNat,reduceNeg,cNI]
  refine⟨⟨by omega,by omega⟩,by omega,?_⟩
  refine qsL (qEC rfl (by decide) (fun _ _ h=>h) rfl 3 17 54 _ _ rfl rfl hF (qED _)) ?_
  refine sB ?_
  refine⟨by omega,l.length-(k+1),by omega,k+1,by omega,rfl,?_⟩
  rw[qEH l k (by omega),List.map_append,List.map_cons,List.map_nil,qEG]
  rfl
 ·have:k=l.length:=by omega
  subst this
  rw[List.take_length]at hF ⊢
  simp only[e1,qEE,List.length_cons,List.length_nil,List.length_replicate,push_cast,reduceIte,reduceEqDiff,reduceAdd,reduceSub,reduceMul,Nat.reduceBEq,reduceLT,reduceLeDiff,reduceCtorEq,reduceToNat,reduceNeg,cNI]
  refine qsL (qEC rfl (by decide) (fun _ _ h=>h) rfl 3 24 54 _ _ rfl rfl hF (qED _)) ?_
  refine sB ?_
  have:digW (l.map toW)=dgS (qEn dig0 (l.map toW)) (toW l.length):=by
   unfold digW
   rw[List.length_map]
   congr 1
   unfold toW;omega
  rw[this]
end Go.Proofs.YtecoaapkcnhlhaaDoor
namespace Go.Proofs.YtecoaapkcnhlhaaDoor
open Go Go.Vc Txt Go.Ham
theorem qEJ{w:Nat}(h:w<2^64):toW (IntKind.i64.wrap (w:Int))=w:=by
 unfold toW
 rw[IntKind.wrap_i64]
 omega
def wI(w:Nat):Int:=IntKind.i64.wrap (w:Int)
def numR(ws:List Nat):List Int:=(ws.length:Int)::ws.map wI
def qEK(n:Nat)(l:List (List Nat)):List Int:=(n:Int)::l.flatMap numR
theorem qEL{n:Nat}(h:n<2^64):toW (n:Int)=n:=by unfold toW;omega
theorem qEM{ws:List Nat}(h: ∀w∈ws,w<2^64)(hl:ws.length<2^64):(numR ws).map toW=ws.length::ws:=by
 unfold numR
 rw[List.map_cons,qEL hl,List.map_map]
 congr 1
 conv=>rhs;rw[<- List.map_id ws]
 exact List.map_congr_left fun w hw=>qEJ (h w hw)
theorem qEN{l:List (List Nat)}(h:qDo l)(hl: ∀ws∈l,ws.length<2^64)(hn:l.length<2^64):(qEK l.length l).map toW=qEz l:=by
 unfold qEK qEz
 rw[List.map_cons,qEL hn,List.map_flatMap]
 congr 1
 unfold qDo at h
 clear hn
 induction l with
 |nil=>rfl
 |cons ws l ih=>
   rw[List.flatMap_cons,List.flatMap_cons,qEM (h ws List.mem_cons_self) (hl ws List.mem_cons_self),ih (fun v hv=>h v (List.mem_cons_of_mem _ hv)) fun v hv=>hl v (List.mem_cons_of_mem _ hv)]
structure FrmSm (l:List (List Nat)):Prop where
 ok:qDo l
 n:l.length<=900
 len: ∀ws∈l,ws.length<=1000
theorem qEO{l:List (List Nat)}(h: ∀ws∈l,ws.length<=1000)(n:Nat):(qEK n l).length<=1+1001*l.length:=by
 unfold qEK
 rw[List.length_cons]
 induction l with
 |nil=>simp
 |cons ws l ih=>
   have h1:=h ws List.mem_cons_self
   have h2:=ih fun v hv=>h v (List.mem_cons_of_mem _ hv)
   have h3:(numR ws).length=ws.length+1:=by simp[numR]
   rw[List.flatMap_cons,List.length_append,h3,List.length_cons]
   omega
theorem qEP{α:Type} [Inhabited α](l:List α)(k:Nat)(h:k<l.length):l.take (k+1)=l.take k++[l.getD k default]:=by
 rw[List.take_succ_eq_append_getElem h];simp[List.getD_eq_getElem?_getD,h]
theorem qEQ(l:List Nat)(k:Nat):(nats l).getD k default=((l.getD k default:Nat):Int):=by
 simp only[nats,List.getD_eq_getElem?_getD,List.getElem?_map]
 cases l[k]? <;>rfl
theorem qER(l:List Nat):(nats l).length=l.length:=by simp[nats]
theorem rep1{α:Type}(a:α):List.replicate 1 a=[a]:=rfl
theorem qES(n:Nat)(l:List (List Nat))(ws:List Nat):qEK n (l++[ws])=qEK n l++numR ws:=by simp[qEK]
theorem qET(l:List (List Nat))(hl:FrmSm l):FnEq Tryd.prog 28 [.sl false 1 (rows (frmC false) l)] (.sc (.int .u64 (digF l:Nat))):=by
 have h1:=hl.n
 refine FnEq.of_awp Tryd.func28 ok28 (by show 1<=_;decide) (by simp only[push_cast,reduceIte,reduceEqDiff,reduceAdd,reduceSub,reduceMul,Nat.reduceBEq,reduceLT,reduceLeDiff,reduceCtorEq,reduceToNat,reduceNeg,cNI]<;>first|exact fun _ _=>trivial|simp) ?_
 simp only[ac28,rv28,push_cast,reduceIte,reduceEqDiff,reduceAdd,reduceSub,reduceMul,Nat.reduceBEq,reduceLT,reduceLeDiff,reduceCtorEq,reduceToNat,reduceNeg,cNI]
 simp only[rep1,List.set_cons_zero,List.length_cons,List.length_nil,push_cast,reduceIte,reduceEqDiff,reduceAdd,reduceSub,reduceMul,Nat.reduceBEq,reduceLT,reduceLeDiff,reduceCtorEq,reduceToNat,reduceNeg,cNI]
 refine qoL (fun n st=> ∃k:Nat,k<=l.length/\n=l.length-k/\st=⟨[(3,.view 10 0 (qEK l.length (l.take k)).length),(11,.sl false 1 (rows (frmC false) l)),(12,.int l.length),(13,.int k)],[],[(10,⟨1,3,ints (qEK l.length (l.take k))⟩)],[]⟩) l.length ⟨0,by omega,by omega,?_⟩ ?_
 ·refine sB ?_
  rfl
 rintro n st ⟨k,hk,rfl,rfl⟩
 have hn:=qEO (l:=l.take k) (fun ws hws=>hl.len ws (List.mem_of_mem_take hws)) l.length
 have htk:(l.take k).length=k:=by rw[List.length_take];omega
 simp only[rep1,List.set_cons_zero,List.length_cons,List.length_nil,push_cast,reduceIte,reduceEqDiff,reduceAdd,reduceSub,reduceMul,Nat.reduceBEq,reduceLT,reduceLeDiff,reduceCtorEq,reduceToNat,reduceNeg,cNI]
 refine qnU (fun h=> ?_) fun h=> ?_
 ·have hws:=hl.len _ (show l.getD k default∈l by simp[List.getD_eq_getElem?_getD,show k<l.length by omega])
  have hT:=qEP l k (by omega)
  generalize l.getD k default=ws at hws hT ⊢
  simp only[qER]
  refine⟨⟨by omega,by omega⟩,by omega,⟨by omega,by omega⟩,?_⟩
  refine qoL (fun n st=> ∃j:Nat,j<=ws.length/\n=ws.length-j/\st=⟨[(3,.view 10 0 (qEK l.length (l.take k)++((ws.length:Int)::(ws.take j).map wI)).length),(11,.sl false 1 (rows (frmC false) l)),(12,.int l.length),(13,.int k),(24,.sl false 1 (rows u64C (nats ws))),(25,.int ws.length),(26,.int j)],[],[(10,⟨1,3,ints (qEK l.length (l.take k)++((ws.length:Int)::(ws.take j).map wI))⟩)],[]⟩) ws.length ⟨0,by omega,by omega,?_⟩ ?_
  ·simp only[List.take_zero,List.map_nil,List.length_append,List.length_cons,List.length_nil,push_cast,reduceIte,reduceEqDiff,reduceAdd,reduceSub,reduceMul,Nat.reduceBEq,reduceLT,reduceLeDiff,reduceCtorEq,reduceToNat,reduceNeg,cNI]
   try rfl
  rintro n st ⟨j,hj,rfl,rfl⟩
  have htj:(ws.take j).length=j:=by rw[List.length_take];omega
  simp only[rep1,List.set_cons_zero,List.length_cons,List.length_nil,List.length_append,List.length_map,htj,push_cast,reduceIte,reduceEqDiff,reduceAdd,reduceSub,reduceMul,Nat.reduceBEq,reduceLT,reduceLeDiff,reduceCtorEq,reduceToNat,reduceNeg,cNI]
  refine qnU (fun h2=> ?_) fun h2=> ?_
  ·have hTj:=qEP ws j (by omega)
   simp only[qEQ,qER]
   refine⟨⟨by omega,by omega⟩,by omega,⟨by omega,by omega⟩,⟨by omega,by omega⟩,ws.length-(j+1),by omega,j+1,by omega,rfl,?_⟩
   rw[hTj,List.map_append,List.map_cons,List.map_nil,List.append_assoc,List.cons_append,List.length_append,htj]
   rfl
  ·have:j=ws.length:=by omega
   subst this
   rw[List.take_length]
   refine⟨⟨by omega,by omega⟩,l.length-(k+1),by omega,k+1,by omega,rfl,?_⟩
   rw[hT,qES,List.length_append,show(numR ws).length=ws.length+1 from by simp[numR]]
   rfl
 ·have:k=l.length:=by omega
  subst this
  rw[List.take_length]
  rw[List.take_length]at hn
  refine qrr (qEI (qEK l.length l) (by omega)) sC ?_
  refine sB ?_
  rw[qEN hl.ok (fun ws hws=>by have:=hl.len ws hws;omega) (by omega)]
  rfl
def colF(g:Grid)(n:Int):Int:=if quV g<=n then -1 else if g.w*g.h<=n/quU g then g.w else n/quU g%g.w
theorem qEU(g:Grid)(hg:GOk g)(n:Int)(hn:0<=n/\n<=1000000000):FnEq Tryd.prog 29 [.agg (quQ false g),.int n] (.int (colF g n)):=by
 have h1:=hg.count
 have h2:=hg.each
 have h3:=hg.tracks
 have h4:=hg.w
 have h5:=hg.wh
 have he:6+2*g.tracks=quU g:=rfl
 refine FnEq.of_awp Tryd.func29 ok29 (by show 2<=_;decide) (by simp only[push_cast,reduceIte,reduceEqDiff,reduceAdd,reduceSub,reduceMul,Nat.reduceBEq,reduceLT,reduceLeDiff,reduceCtorEq,reduceToNat,reduceNeg,cNI]<;>first|exact fun _ _=>trivial|simp) ?_
 simp only[ac29,rv29,push_cast,reduceIte,reduceEqDiff,reduceAdd,reduceSub,reduceMul,Nat.reduceBEq,reduceLT,reduceLeDiff,reduceCtorEq,reduceToNat,reduceNeg,cNI]
 rw[decide_eq_false (show ¬n<0 by omega)]
 refine⟨⟨by omega,by omega⟩,⟨by omega,by omega⟩,⟨by omega,by omega,by omega⟩,?_⟩
 refine sB ?_
 refine qrr (quY g hg) sC ?_
 refine sB ?_
 have hq:0<=n/quU g:=Int.ediv_nonneg hn.1 (by omega)
 have hq2:n/quU g<=n:=Int.ediv_le_self _ hn.1
 unfold colF
 rw[he]
 refine qnU (fun h=> ?_) fun h=> ?_
 ·rw[if_pos h]
  done
 rw[if_neg h]
 refine⟨⟨by omega,by omega⟩,?_⟩
 refine qnU (fun h=> ?_) fun h=> ?_
 ·rw[if_pos h]
 ·rw[if_neg h]
  exact⟨⟨hq,by omega,by omega⟩,rfl⟩
end Go.Proofs.YtecoaapkcnhlhaaDoor
namespace Go.Vc
open Go Go.RowKit
theorem qEV{i j:Nat}{c:PV}(h:c.to nul (isId i)=false):c.ren i j=c:=by
 cases c<;>first|rfl|skip
 ·rename_i id lo n
  have h:(id==i)=false:=h
  have h:id≠i:=by simpa using h
  simp only[PV.ren,if_neg h]
 ·rename_i id lo n
  have h:(id==i)=false:=h
  have h:id≠i:=by simpa using h
  simp only[PV.ren,if_neg h]
theorem qEW{i j:Nat} : ∀ {l:List PV},anyT nul (isId i) l=false->l.map (PV.ren i j)=l
 |[],_=>rfl
 | c :: r, h => by
   rw[qhK,Bool.or_eq_false_iff]at h
   rw[List.map_cons,qEV h.1,qEW h.2]
theorem qEX{i j:Nat}{c:PV}(h:c.toA nul (isId i)=false):c.renA i j=c:=by
 by_cases hc: ∃cs,c= .agg cs
 ·obtain⟨cs,rfl⟩:=hc
  rw[qhN]at h;simp only[PV.renA,qEW h]
 ·have e:c.renA i j=c.ren i j:=by cases c<;>first|rfl|exact absurd ⟨_,rfl⟩ hc
  have e2:c.toA nul (isId i)=c.to nul (isId i):=by cases c<;>first|rfl|exact absurd ⟨_,rfl⟩ hc
  rw[e,qEV (by rw[<- e2];exact h)]
theorem qEY{i j:Nat}{c:PV}(h:c.toV nul (isId i)=false):c.renV i j=c:=by
 by_cases hc: ∃cs,c= .tup cs
 ·obtain⟨cs,rfl⟩:=hc
  simp only[PV.renV]
  congr 1
  have h:cs.any (PV.toA nul (isId i))=false:=h
  conv=>rhs;rw[<- List.map_id cs]
  apply List.map_congr_left
  intro c hc
  exact qEX (by simpa using List.any_eq_false.1 h c hc)
 ·have e:c.renV i j=c.renA i j:=by cases c<;>first|rfl|exact absurd ⟨_,rfl⟩ hc
  have e2:c.toV nul (isId i)=c.toA nul (isId i):=by cases c<;>first|rfl|exact absurd ⟨_,rfl⟩ hc
  rw[e,qEX (by rw[<- e2];exact h)]
theorem qEZ{i j:Nat} : ∀ {s:List (Nat×PV)},farL i s->(s.map fun x=>(x.1,x.2.renV i j))=s
 |[],_=>rfl
 |(k,v)::r,h=>by rw[List.map_cons,qEZ h.2,qEY h.1.2]
theorem qF0{i:Nat} : ∀ {s:List (Nat×PV)},farL i s->s.all (fun x=> !x.2.toV nul (isId i))=true
 |[],_=>rfl
 |(k,v)::r,h=>by rw[List.all_cons,qF0 h.2,h.1.2];rfl
theorem SWk.renEq {s : List (Nat × PV)} {b b' : List (Nat × List PV)} {a a' : List (Nat × Arr)} {A : Arr} (i j : Nat) (hA : lk a i = some A) (hj : lk a j = none) (hfi : farL i s) (hfj : farL j s)
  (hbj:refB nul (isId j) b=false) (hb:(b.map fun x=>(x.1,x.2.map (PV.ren i j)))=b') (ha:up (rm a i) j A=a'):SWk ⟨s,b,a,[]⟩ ⟨s,b',a',[]⟩:=by
 have h:=SWk.ren (st:=⟨s,b,a,[]⟩) i j hA hj (by
  simp only[St.noTo,Bool.and_eq_true]
  refine⟨⟨qF0 hfj,?_⟩,rfl⟩
  rw[<- qij]at hbj
  rw[List.all_eq_true]
  intro x hx
  have:=List.any_eq_false.1 hbj x hx
  rw[Bool.not_eq_true]at this
  rw[Bool.not_eq_true']
  exact this)
 simp only[St.ren]at h
 rw[qEZ hfi,hb,ha]at h
 exact h
theorem qF1{α:Type}(l:List (Nat×α)){k i:Nat}(v:α)(h:k≠i):rm ((k,v)::l) i=(k,v)::rm l i:=by
 show(if k=i then rm l i else(k,v)::rm l i)=_
 rw[if_neg h]
theorem qF2{α:Type}(l:List (Nat×α))(k:Nat)(v:α):rm ((k,v)::l) k=rm l k:=by
 show(if k=k then rm l k else(k,v)::rm l k)=_
 rw[if_pos rfl]
theorem rowsA_rm(es ty:Nat): ∀(k:Nat) (rs:List (Option (List (List PV)))) (x:Nat),rm (qAS es ty k rs) (k+x)=qAS es ty k (rs.set x none)
 |_,[],x=>by simp[qAS,Go.Vc.rm]
 | k, none :: rs, 0 => by
   rw[List.set_cons_zero]
   exact rm_ge es ty (k+1) rs k (by omega)
 | k, some r :: rs, 0 => by
   rw[List.set_cons_zero];show rm ((k,_)::qAS es ty (k+1) rs) k=_;rw[qF2]
   exact rm_ge es ty (k+1) rs k (by omega)
 |k,none::rs,x+1=>by rw[qAS,List.set_cons_succ,qAS,show k+(x+1)=k+1+x from by omega,rowsA_rm es ty (k+1) rs x]
 |k,some r::rs,x+1=>by rw[qAS,List.set_cons_succ,qAS,qF1 _ _ (show k≠k+(x+1)by omega),show k+(x+1)=k+1+x from by omega,rowsA_rm es ty (k+1) rs x]
where
 rm_ge (es ty:Nat): ∀(k:Nat) (rs:List (Option (List (List PV)))) (i:Nat),i<k->rm (qAS es ty k rs) i=qAS es ty k rs
  |_,[],_,_=>rfl
  |k,none::rs,i,h=>rm_ge es ty (k+1) rs i (by omega)
  |k,some r::rs,i,h=>by rw[qAS,qF1 _ _ (show k≠i by omega),rm_ge es ty (k+1) rs i (by omega)]
theorem qF3(es ty:Nat)(k:Nat)(rs:List (Option (List (List PV))))(i:Nat)(h:i<k):rm (qAS es ty k rs) i=qAS es ty k rs:=rowsA_rm.rm_ge es ty k rs i h
theorem qF4: ∀(j k:Nat) (rs:List (Option (List (List PV)))) (x:Nat) (r:List (List PV)),rs[x]? =some (some r)->(qAR k rs).map (PV.ren (k+x) j)=(qAR k (rs.set x none)).set x (.view j 0 r.length)
 |_,_,[],x,r,h=>by simp at h
 | j, k, q :: rs, 0, r, h => by
   simp at h;subst h
   rw[qAR,List.map_cons,List.set_cons_zero,qAR,List.set_cons_zero,qAZ (k+0) j (k+1) rs fun x _=>by omega]
   simp[rowC,PV.ren]
 | j, k, q :: rs, x + 1, r, h => by
   rw[qAR,List.map_cons,List.set_cons_succ,qAR,List.set_cons_succ,show k+(x+1)=k+1+x from by omega,qF4 j (k+1) rs x r (by simpa using h)]
   congr 1
   cases q with
   |none=>rfl
   |some q=>simp only[rowC,PV.ren,if_neg (show k≠k+1+x by omega)]
theorem qF5: ∀(j k:Nat) (rs:List (Option (List (List PV)))) (x:Nat) (r:List (List PV)),x<rs.length->j<k->((qAR k rs).set x (.view j 0 r.length)).map (PV.ren j (k+x))=qAR k (rs.set x (some r))
 |_,_,[],x,r,h,_=>by simp at h
 | j, k, q :: rs, 0, r, h, hj => by
   rw[qAR,List.set_cons_zero,List.map_cons,List.set_cons_zero,qAR,qAZ j (k+0) (k+1) rs fun x _=>by omega]
   simp[rowC,PV.ren]
 | j, k, q :: rs, x + 1, r, h, hj => by
   rw[qAR,List.set_cons_succ,List.map_cons,List.set_cons_succ,qAR,show k+(x+1)=k+1+x from by omega,qF5 j (k+1) rs x r (by simpa using h) (by omega)]
   congr 1
   cases q with
   |none=>rfl
   |some q=>simp only[rowC,PV.ren,if_neg (show k≠j by omega)]
theorem qF6(pa:Nat->Bool): ∀(k:Nat) (rs:List (Option (List (List PV)))),(∀x r,rs[x]? =some (some r)->pa (k+x)=false)->anyT nul pa (qAR k rs)=false
 |_,[],_=>rfl
 | k, r :: rs, h => by
   rw[qAR,qhK,qF6 pa (k+1) rs fun x r hx=>by rw[show k+1+x=k+(x+1)from by omega];exact h (x+1) r (by simpa using hx),Bool.or_false]
   cases r with
   |none=>rfl
   |some r=>exact h 0 r (by simp)
theorem qF7(pb pa:Nat->Bool)(c:PV): ∀(l:List PV) (x:Nat),anyT pb pa l=false->c.to pb pa=false->anyT pb pa (l.set x c)=false
 |[],_,_,_=>rfl
 | d :: l, 0, h, hc => by
   rw[qhK,Bool.or_eq_false_iff]at h
   rw[List.set_cons_zero,qhK,hc,h.2];rfl
 | d :: l, x + 1, h, hc => by
   rw[qhK,Bool.or_eq_false_iff]at h
   rw[List.set_cons_succ,qhK,h.1,qF7 pb pa c l x h.2 hc];rfl
theorem qF8{P:Env}(cs:List PV)(off:Nat)(d:Option Nat)(r:List AO)(st:St)(K:St->Prop):qS P d (rowV false 1 off cs) r st K=(off+1<=cs.length/\opsK P r (st.put d (cs.getD off .bot)) K):=rfl
theorem qF9(cs:List PV)(i:Nat)(v:PV)(h:i<cs.length):spl cs i [v]=cs.set i v:=by
 unfold spl
 rw[List.set_eq_take_append_cons_drop,if_pos h]
 simp
end Go.Vc
namespace Go.Vc
open Go Go.RowKit
theorem qFa(pb pa:Nat->Bool): ∀(s:List (Nat×PV)) (i:Nat) (v:PV),qiB pb pa (up s i v)=up (qiB pb pa s) i (v.killV pb pa)
 | [], i, v => by
   simp only[up,qiF,qiG]
   cases h:v.toV pb pa
   ·rw[qiN pb pa h];rfl
   ·rfl
 | (k, u) :: r, i, v => by
   have e: ∀k:Nat,(k,bif v.toV pb pa then v.killV pb pa else v)=(k,v.killV pb pa):=fun k=>by
    cases h:v.toV pb pa
    ·rw[qiN pb pa h];rfl
    ·rfl
   simp only[up,qiG]
   split
   ·simp only[qiG,e]
   ·split
    ·simp only[qiG,e]
    ·rw[qiG,qFa pb pa r i v]
theorem qFb(pb pa:Nat->Bool)(V:Nat->PV)(dn:List Nat): ∀(ops:List XO) (s:List (Nat×PV)),qiB pb pa (slD V dn ops s)=slD (fun i=>(V i).killV pb pa) dn ops (qiB pb pa s)
 |[],_=>rfl
 | x :: r, s => by
   rw[qAn,qAn,qFb pb pa V dn r]
   congr 1
   split
   ·unfold putD
    split
    ·exact qFa pb pa s _ _
    ·rfl
   ·rfl
theorem qFc{V V' :Nat->PV}{dn:List Nat}(h: ∀i,dn.contains i=true->V i=V' i): ∀(ops:List XO) (s:List (Nat×PV)),slD V dn ops s=slD V' dn ops s
 |[],_=>rfl
 | x :: r, s => by
   rw[qAn,qAn,qFc h r]
   split
   ·next hx=>
    unfold putD
    rw[h x.i hx]
   ·rfl
theorem qFd {P : Env} {ops : List XO} {V : List Nat -> Nat -> PV} {s0 : List (Nat × PV)} (mem : List Nat -> List (Nat × List PV) × List (Nat × Arr) × List (Nat × Mp)) (hops : qAo ops = true) (hg : ops.all (fun x => x.o.g.isNone) = true)
  (step: ∀x∈ops,∀dn,rdyB dn x=true->qAw ops dn-> ∀K:St->Prop,K ⟨putD (V (x.i::dn)) x (slD (V (x.i::dn)) dn ops s0),(mem (x.i::dn)).1,(mem (x.i::dn)).2.1,(mem (x.i::dn)).2.2⟩->
   opK P x.o ⟨slD (V dn) dn ops s0,(mem dn).1,(mem dn).2.1,(mem dn).2.2⟩ K) {K:St->Prop}
  (hK: ∀dn,(∀x∈ops,dn.contains x.i=true)->K ⟨slD (V dn) dn ops s0,(mem dn).1,(mem dn).2.1,(mem dn).2.2⟩):
  ∀(n:Nat) (dn:List Nat),dn.length+n=ops.length->dn.Nodup->(∀j∈dn,j∈ops.map (·.i))->qAw ops dn->allK P ops n dn ⟨slD (V dn) dn ops s0,(mem dn).1,(mem dn).2.1,(mem dn).2.2⟩ K
 | 0, dn, hl, hn, hs, _ => by
   have hall: ∀x∈ops,dn.contains x.i=true:=fun x hx=>by
    refine Classical.byContradiction fun hc=> ?_
    have hm:x.i∉dn:=by simpa using hc
    have:=qAx (l1:=x.i::dn) (l2:=ops.map (·.i)) (List.nodup_cons.2 ⟨hm,hn⟩) fun j hj=>(List.mem_cons.1 hj).elim (fun e=>by rw[e];exact List.mem_map_of_mem hx) (hs j)
    simp at this
    omega
   exact⟨List.all_eq_true.2 hall,hK dn hall⟩
 | n + 1, dn, hl, hn, hs, hc => by
   refine⟨fun e=>hK dn (List.all_eq_true.1 e),fun x hx hr=> ?_⟩
   have h2:x.o.g=none:=by simpa using List.all_eq_true.1 hg x hx
   have hr2:=hr
   simp only[rdyB,Bool.and_eq_true,Bool.not_eq_true',List.all_eq_true]at hr2
   have hm:x.i∉dn:=by simpa using hr2.1
   simp only[h2,grdK]
   refine step x hx dn hr hc _ ?_
   rw[<- qAt hr2.1 hops hx]
   refine qFd mem hops hg step hK n (x.i::dn) (by simp;omega) (List.nodup_cons.2 ⟨hm,hn⟩) (fun j hj=>(List.mem_cons.1 hj).elim (fun e=>by rw[e];exact List.mem_map_of_mem hx) (hs j)) ?_
   intro y hy hyd j hj
   rw[List.contains_cons,Bool.or_eq_true]at hyd ⊢
   rcases hyd with e|hyd
   ·have e:y.i=x.i:=by simpa using e
    have:y=x:=qAy hops hy hx e
    subst this
    exact .inr (hr2.2 j hj)
   ·exact .inr (hc y hy hyd j hj)
theorem qFe {P : Env} {ops : List XO} (V : List Nat -> Nat -> PV) {s0 : List (Nat × PV)} (mem : List Nat -> List (Nat × List PV) × List (Nat × Arr) × List (Nat × Mp)) (hops : qAo ops = true) (hg : ops.all (fun x => x.o.g.isNone) = true)
  (step: ∀x∈ops,∀(dn:List Nat) (S:List (Nat×PV)),rdyB dn x=true->qAw ops dn->S=slD (V dn) dn ops s0->(∀t,knW ops dn t->getL S t=vlW ops (V dn) s0 t)->
   ∀K:St->Prop,K ⟨putD (V (x.i::dn)) x (slD (V (x.i::dn)) dn ops s0),(mem (x.i::dn)).1,(mem (x.i::dn)).2.1,(mem (x.i::dn)).2.2⟩->opsK P [x.o] ⟨S,(mem dn).1,(mem dn).2.1,(mem dn).2.2⟩ K) {K:St->Prop}
  (hK: ∀dn,(∀x∈ops,dn.contains x.i=true)->K ⟨slA (V dn) ops s0,(mem dn).1,(mem dn).2.1,(mem dn).2.2⟩) {st:St} (hst:st=⟨s0,(mem []).1,(mem []).2.1,(mem []).2.2⟩):allK P ops ops.length [] st K:=by
 have h0:slD (V []) [] ops s0=s0:=by
  have: ∀(l:List XO) (s:List (Nat×PV)),slD (V []) [] l s=s:=by
   intro l
   induction l with
   |nil=>exact fun _=>rfl
   |cons x r ih=>exact fun s=>by rw[qAn,if_neg (by simp)];exact ih s
  exact this ops s0
 subst hst
 have key:=qFd (P:=P) (ops:=ops) (V:=V) (s0:=s0) mem hops hg (fun x hx dn hr hc K hk=>qAH (by simpa using List.all_eq_true.1 hg x hx) (step x hx dn _ hr hc rfl (fun t ht=>qAC hops ht) K hk)) (K:=K) (fun dn h=>by rw[qAD h];exact hK dn h) ops.length [] (by simp) .nil (fun j hj=>by cases hj) (fun x _ h=>by simp at h)
 rw[h0]at key
 exact key
theorem qFf{K:Nat} : ∀ {s:List (Nat×PV)} {i:Nat} {v:PV},qtT K s=true->i<K->qtT K (up s i v)=true
 |[],i,v,_,hi=>by simp[up,qtT,hi]
 | (k, u) :: r, i, v, h, hi => by
   have h' :decide (k<K)=true/\qtT K r=true:=by simpa[qtT]using h
   simp only[up]
   split
   ·simpa[qtT]using h'
   ·split
    ·simp[qtT,hi,h'.2];simpa using h'.1
    ·have:=qFf (v:=v) h'.2 hi
     simp[qtT,this];simpa using h'.1
theorem qFg{K:Nat}{V:Nat->PV}{dn:List Nat} : ∀ {ops:List XO} {s:List (Nat×PV)},qtT K s=true->(ops.all fun x=>match x.o.d with|some d=>decide (d<K)|none=>true)=true->qtT K (slD V dn ops s)=true
 |[],_,h,_=>h
 | x :: r, s, h, ho => by
   rw[List.all_cons,Bool.and_eq_true]at ho
   rw[qAn]
   refine qFg ?_ ho.2
   split
   ·unfold putD
    split
    ·next d hd=>
     rw[hd]at ho
     exact qFf h (by simpa using ho.1)
    ·exact h
   ·exact h
end Go.Vc
namespace Go.Proofs.YtecoaapkcnhlhaaDoor
open Go Go.Vc Txt
def qFh(n xi len:Nat)(cell cell' :PV)(dn:List Nat):Nat->PV
 |0=> .bv 32 1 n
 |1=> .int xi
 |2=> .bv 32 1 n
 |3=> .int xi
 |4=> .ptr 32 xi
 |5=>if dn.contains 7=true then cell' else cell
 |6=> .view 1054 0 1
 |7=> .view 1055 0 (len+1)
 |8=> .ptr 32 xi
 |_=> .bot
def qFi(b b7 b9:List (Nat×List PV))(a a6 a7:List (Nat×Arr))(dn:List Nat):List (Nat×List PV)×List (Nat×Arr)×List (Nat×Mp):=
 (if dn.contains 9=true then b9 else if dn.contains 7=true then b7 else b,if dn.contains 7=true then a7 else if dn.contains 6=true then a6 else a,[])
def qFj(a:List (Nat×Arr))(W:List (List PV))(cell cell' :PV):Prop:=(cell= .nil/\W=[]/\cell' = .nil)\/(cell= .view 1055 0 W.length/\lk a 1055=some ⟨1,54,W⟩/\cell' = .bot)
set_option maxHeartbeats 4000000 in
theorem qFk {P : Env} {s0 : List (Nat × PV)} {b b7 : List (Nat × List PV)} {a : List (Nat × Arr)} (n xi : Nat) (W : List (List PV)) (cell cell' : PV) (C C7 : List PV) (K : St -> Prop)
  (hP:getL s0 1008= .ptr 8 0) (hX:getL s0 1009= .int xi) (hx:xi<n) (hW:W.length<100000000)
  (hb1:lk b 8=some [.bv 32 1 n]) (hb2:lk b7 8=some [.bv 32 1 n]) (hc:lk b 32=some C) (hc7:lk b7 32=some C7) (hC:C.length=n) (hC7:C7.length=n) (hcell:C.getD xi .bot=cell)
  (k6:qiC nul (isId 1054) b=b) (k7:qiC nul (isId 1055) b=b7) (f6:qiB nul (isId 1054) s0=s0) (f7:qiB nul (isId 1055) s0=s0)
  (h:qFj a W cell cell')
  (hK:K ⟨slA (qFh n xi W.length cell cell' [7]) xs33_13 s0,up b7 32 (C7.set xi (.view 1055 0 (W.length+1))),up (up a 1054 ⟨1,54,[[.sc (.int .u64 0)]]⟩) 1055 ⟨1,54,W++[[.sc (.int .u64 0)]]⟩,[]⟩):
  allK P xs33_13 xs33_13.length [] ⟨s0,b,a,[]⟩ K:=by
 have hlk: ∀(l:List (Nat×Arr)) (A:Arr),lk (up l 1054 A) 1055=lk l 1055:=fun l A=>by rw[qa2,if_neg (by decide)]
 have hlk6: ∀(l:List (Nat×Arr)) (A:Arr),lk (up l 1054 A) 1054=some A:=fun l A=>by rw[qa2,if_pos rfl]
 have hub: ∀(c:List PV),lk (up b7 32 c) 8=some [.bv 32 1 n]:=fun c=>by rw[qa2,if_neg (by decide)];exact hb2
 refine qFe (ops:=xs33_13) (qFh n xi W.length cell cell') (qFi b b7 (up b7 32 (C7.set xi (.view 1055 0 (W.length+1)))) a (up a 1054 ⟨1,54,[[.sc (.int .u64 0)]]⟩) (up (up a 1054 ⟨1,54,[[.sc (.int .u64 0)]]⟩) 1055 ⟨1,54,W++[[.sc (.int .u64 0)]]⟩)) rfl rfl ?_ ?_ rfl
 ·rw[xs33_13_all]
  refine⟨?_,?_,?_,?_,?_,?_,?_,?_,?_,?_⟩
  ·intro dn S hr hc' hS L K hK
   have h9:dn.contains 9=false:=qAK hc' hr (List.mem_of_getElem? (i:=9) rfl) (by decide)
   have g0:getL S 1008= .ptr 8 0:=(L 1008 trivial).trans hP
   have e:qFh n xi W.length cell cell' (0::dn)=qFh n xi W.length cell cell' dn:=rfl
   have em:qFi b b7 (up b7 32 (C7.set xi (.view 1055 0 (W.length+1)))) a (up a 1054 ⟨1,54,[[.sc (.int .u64 0)]]⟩) (up (up a 1054 ⟨1,54,[[.sc (.int .u64 0)]]⟩) 1055 ⟨1,54,W++[[.sc (.int .u64 0)]]⟩) (0::dn)=qFi b b7 (up b7 32 (C7.set xi (.view 1055 0 (W.length+1)))) a (up a 1054 ⟨1,54,[[.sc (.int .u64 0)]]⟩) (up (up a 1054 ⟨1,54,[[.sc (.int .u64 0)]]⟩) 1055 ⟨1,54,W++[[.sc (.int .u64 0)]]⟩) dn:=rfl
   rw[em,e,<- hS]at hK
   revert hK
   unfold qFi
   rw[h9]
   intro hK
   cases h7:dn.contains 7<;>rw[h7]at hK<;>simp only[g0,hb1,hb2,push_cast,reduceIte,reduceEqDiff,reduceAdd,reduceSub,reduceMul,Nat.reduceBEq,reduceLT,reduceLeDiff,reduceCtorEq,reduceToNat,reduceNeg,cNI]at hK ⊢ <;>exact hK
  ·intro dn S hr hc' hS L K hK
   have g0:getL S 1009= .int xi:=(L 1009 trivial).trans hX
   have e:qFh n xi W.length cell cell' (1::dn)=qFh n xi W.length cell cell' dn:=rfl
   rw[e,<- hS]at hK
   simp only[g0,push_cast,reduceIte,reduceEqDiff,reduceAdd,reduceSub,reduceMul,Nat.reduceBEq,reduceLT,reduceLeDiff,reduceCtorEq,reduceToNat,reduceNeg,cNI]
   exact hK
  ·intro dn S hr hc' hS L K hK
   have h9:dn.contains 9=false:=qAK hc' hr (List.mem_of_getElem? (i:=9) rfl) (by decide)
   have g0:getL S 1008= .ptr 8 0:=(L 1008 trivial).trans hP
   have e:qFh n xi W.length cell cell' (2::dn)=qFh n xi W.length cell cell' dn:=rfl
   have em:qFi b b7 (up b7 32 (C7.set xi (.view 1055 0 (W.length+1)))) a (up a 1054 ⟨1,54,[[.sc (.int .u64 0)]]⟩) (up (up a 1054 ⟨1,54,[[.sc (.int .u64 0)]]⟩) 1055 ⟨1,54,W++[[.sc (.int .u64 0)]]⟩) (2::dn)=qFi b b7 (up b7 32 (C7.set xi (.view 1055 0 (W.length+1)))) a (up a 1054 ⟨1,54,[[.sc (.int .u64 0)]]⟩) (up (up a 1054 ⟨1,54,[[.sc (.int .u64 0)]]⟩) 1055 ⟨1,54,W++[[.sc (.int .u64 0)]]⟩) dn:=rfl
   rw[em,e,<- hS]at hK
   revert hK
   unfold qFi
   rw[h9]
   intro hK
   cases h7:dn.contains 7<;>rw[h7]at hK<;>simp only[g0,hb1,hb2,push_cast,reduceIte,reduceEqDiff,reduceAdd,reduceSub,reduceMul,Nat.reduceBEq,reduceLT,reduceLeDiff,reduceCtorEq,reduceToNat,reduceNeg,cNI]at hK ⊢ <;>exact hK
  ·intro dn S hr hc' hS L K hK
   have g0:getL S 1009= .int xi:=(L 1009 trivial).trans hX
   have e:qFh n xi W.length cell cell' (3::dn)=qFh n xi W.length cell cell' dn:=rfl
   rw[e,<- hS]at hK
   simp only[g0,push_cast,reduceIte,reduceEqDiff,reduceAdd,reduceSub,reduceMul,Nat.reduceBEq,reduceLT,reduceLeDiff,reduceCtorEq,reduceToNat,reduceNeg,cNI]
   exact hK
  ·intro dn S hr hc' hS L K hK
   have g1:getL S 1050= .bv 32 1 n:=L 1050 (qAI hr (j:=2) (by decide))
   have g2:getL S 1051= .int xi:=L 1051 (qAI hr (j:=3) (by decide))
   have e:qFh n xi W.length cell cell' (4::dn)=qFh n xi W.length cell cell' dn:=rfl
   rw[e,<- hS]at hK
   simp only[g1,g2,Nat.mul_one,push_cast,reduceIte,reduceEqDiff,reduceAdd,reduceSub,reduceMul,Nat.reduceBEq,reduceLT,reduceLeDiff,reduceCtorEq,reduceToNat,reduceNeg,cNI]
   exact⟨⟨by omega,by omega⟩,hK⟩
  ·intro dn S hr hc' hS L K hK
   have g1:getL S 1052= .ptr 32 xi:=L 1052 (qAI hr (j:=4) (by decide))
   have h7:dn.contains 7=false:=qAK hc' hr (List.mem_of_getElem? (i:=7) rfl) (by decide)
   have h9:dn.contains 9=false:=qAK hc' hr (List.mem_of_getElem? (i:=9) rfl) (by decide)
   have e:qFh n xi W.length cell cell' (5::dn)=qFh n xi W.length cell cell' dn:=rfl
   have em: ∀q1 q2 q3 q4 q5 q6,qFi q1 q2 q3 q4 q5 q6 (5::dn)=qFi q1 q2 q3 q4 q5 q6 dn:=fun _ _ _ _ _ _=>rfl
   rw[em,e,<- hS]at hK
   have e5:qFh n xi W.length cell cell' dn 5=cell:=by
    show(if dn.contains 7=true then cell' else cell)=cell
    rw[h7];rfl
   have hK:K ⟨up S 1053 (qFh n xi W.length cell cell' dn 5),_,_,_⟩:=hK
   rw[e5]at hK
   revert hK
   unfold qFi
   rw[h9,h7]
   intro hK
   simp only[g1,hc,qF8 C,hcell,hC,push_cast,reduceIte,reduceEqDiff,reduceAdd,reduceSub,reduceMul,Nat.reduceBEq,reduceLT,reduceLeDiff,reduceCtorEq,reduceToNat,reduceNeg,cNI]at hK ⊢
   exact⟨by omega,hK⟩
  ·intro dn S hr hc' hS L K hK
   have h7:dn.contains 7=false:=qAK hc' hr (List.mem_of_getElem? (i:=7) rfl) (by decide)
   have h9:dn.contains 9=false:=qAK hc' hr (List.mem_of_getElem? (i:=9) rfl) (by decide)
   have h6:dn.contains 6=false:=qAJ hr
   have e:qFh n xi W.length cell cell' (6::dn)=qFh n xi W.length cell cell' dn:=rfl
   have em: ∀q1 q2 q3 q4 q5 q6,qFi q1 q2 q3 q4 q5 q6 (6::dn)=(q1,q5,[]):=fun q1 q2 q3 q4 q5 q6=>by
    show(if dn.contains 9=true then _ else if dn.contains 7=true then _ else _,if dn.contains 7=true then _ else if true=true then _ else _,_)=_
    rw[h9,h7];rfl
   have em0: ∀q1 q2 q3 q4 q5 q6,qFi q1 q2 q3 q4 q5 q6 dn=(q1,q4,[]):=fun q1 q2 q3 q4 q5 q6=>by
    unfold qFi
    rw[h9,h7,h6];rfl
   rw[em,e,<- hS]at hK
   rw[em0]
   have hkS:qiB nul (isId 1054) S=S:=by
    rw[hS,qFb,f6]
    apply qFc
    intro i hi
    rcases i with _|_|_|_|_|_|_|_|_|_|i<;>try rfl
    ·show PV.killV nul (isId 1054) (if dn.contains 7=true then cell' else cell)=(if dn.contains 7=true then cell' else cell)
     rw[h7]
     rcases h with⟨h1,-,-⟩|⟨h1,-,-⟩<;>rw[h1]<;>rfl
    ·rw[h6]at hi;cases hi
   simp only[hkS,k6,rep1,List.set_cons_zero,List.length_cons,List.length_nil,push_cast,reduceIte,reduceEqDiff,reduceAdd,reduceSub,reduceMul,Nat.reduceBEq,reduceLT,reduceLeDiff,reduceCtorEq,reduceToNat,reduceNeg,cNI]at hK ⊢
   first|exact hK|exact⟨by decide,hK⟩
  ·intro dn S hr hc' hS L K hK
   have h9:dn.contains 9=false:=qAK hc' hr (List.mem_of_getElem? (i:=9) rfl) (by decide)
   have h7:dn.contains 7=false:=qAJ hr
   have h6:dn.contains 6=true:=qAI hr (j:=6) (by decide)
   have g5:getL S 1053=cell:=by
    rw[L 1053 (qAI hr (j:=5) (by decide))]
    show(if dn.contains 7=true then cell' else cell)=cell
    rw[h7];rfl
   have g6:getL S 1054= .view 1054 0 1:=L 1054 (qAI hr (j:=6) (by decide))
   have em: ∀q1 q2 q3 q4 q5 q6,qFi q1 q2 q3 q4 q5 q6 (7::dn)=(q2,q6,[]):=fun q1 q2 q3 q4 q5 q6=>by
    show(if dn.contains 9=true then _ else if true=true then _ else _,if true=true then _ else if dn.contains 6=true then _ else _,_)=_
    rw[h9];rfl
   have em0: ∀q1 q2 q3 q4 q5 q6,qFi q1 q2 q3 q4 q5 q6 dn=(q1,q5,[]):=fun q1 q2 q3 q4 q5 q6=>by
    unfold qFi
    rw[h9,h7,h6];rfl
   rw[em]at hK
   rw[em0]
   have hkS:qiB nul (isId 1055) S=slD (qFh n xi W.length cell cell' (7::dn)) dn xs33_13 s0:=by
    rw[hS,qFb,f7]
    apply qFc
    intro i hi
    rcases i with _|_|_|_|_|_|_|_|_|_|i<;>try rfl
    ·show PV.killV nul (isId 1055) (if dn.contains 7=true then cell' else cell)=cell'
     rw[h7]
     rcases h with⟨h1,-,h3⟩|⟨h1,-,h3⟩<;>rw[h1,h3]<;>rfl
    ·rw[h7]at hi;cases hi
   have hK:K ⟨up (slD (qFh n xi W.length cell cell' (7::dn)) dn xs33_13 s0) 1055 (.view 1055 0 (W.length+1)),_,_,_⟩:=hK
   rw[<- hkS]at hK
   rcases h with⟨h1,h2,h3⟩|⟨h1,h2,h3⟩
   ·subst h2
    rw[h1]at g5
    simp only[g5,g6,hlk6,k7,List.take_succ_cons,List.take_zero,List.length_cons,List.length_nil,List.nil_append,push_cast,reduceIte,reduceEqDiff,reduceAdd,reduceSub,reduceMul,Nat.reduceBEq,reduceLT,reduceLeDiff,reduceCtorEq,reduceToNat,reduceNeg,cNI]at hK ⊢
    first|exact hK|exact⟨by decide,hK⟩
   ·rw[h1]at g5
    simp only[g5,g6,hlk,hlk6,h2,k7,List.take_succ_cons,List.take_zero,List.length_cons,List.length_nil,push_cast,reduceIte,reduceEqDiff,reduceAdd,reduceSub,reduceMul,Nat.reduceBEq,reduceLT,reduceLeDiff,reduceCtorEq,reduceToNat,reduceNeg,cNI]at hK ⊢
    exact⟨⟨by omega,by omega⟩,hK⟩
  ·intro dn S hr hc' hS L K hK
   have h9:dn.contains 9=false:=qAK hc' hr (List.mem_of_getElem? (i:=9) rfl) (by decide)
   have g1:getL S 1048= .bv 32 1 n:=L 1048 (qAI hr (j:=0) (by decide))
   have g2:getL S 1049= .int xi:=L 1049 (qAI hr (j:=1) (by decide))
   have e:qFh n xi W.length cell cell' (8::dn)=qFh n xi W.length cell cell' dn:=rfl
   rw[e,<- hS]at hK
   simp only[g1,g2,Nat.mul_one,push_cast,reduceIte,reduceEqDiff,reduceAdd,reduceSub,reduceMul,Nat.reduceBEq,reduceLT,reduceLeDiff,reduceCtorEq,reduceToNat,reduceNeg,cNI]
   exact⟨⟨by omega,by omega⟩,hK⟩
  ·intro dn S hr hc' hS L K hK
   have h9:dn.contains 9=false:=qAJ hr
   have h7:dn.contains 7=true:=qAI hr (j:=7) (by decide)
   have g1:getL S 1056= .ptr 32 xi:=L 1056 (qAI hr (j:=8) (by decide))
   have g2:getL S 1055= .view 1055 0 (W.length+1):=L 1055 (qAI hr (j:=7) (by decide))
   have e:qFh n xi W.length cell cell' (9::dn)=qFh n xi W.length cell cell' dn:=rfl
   have em: ∀q1 q2 q3 q4 q5 q6,qFi q1 q2 q3 q4 q5 q6 (9::dn)=(q3,q6,[]):=fun q1 q2 q3 q4 q5 q6=>by
    show(if true=true then _ else if dn.contains 7=true then _ else _,if dn.contains 7=true then _ else if dn.contains 6=true then _ else _,_)=_
    rw[h7];rfl
   have em0: ∀q1 q2 q3 q4 q5 q6,qFi q1 q2 q3 q4 q5 q6 dn=(q2,q6,[]):=fun q1 q2 q3 q4 q5 q6=>by
    unfold qFi
    rw[h9,h7];rfl
   rw[em,e,<- hS]at hK
   rw[em0]
   have hK:K ⟨S,_,_,_⟩:=hK
   simp only[g1,g2,hc7,hC7,qF9 C7 xi _ (by omega),push_cast,reduceIte,reduceEqDiff,reduceAdd,reduceSub,reduceMul,Nat.reduceBEq,reduceLT,reduceLeDiff,reduceCtorEq,reduceToNat,reduceNeg,cNI]at hK ⊢
   exact⟨by omega,hK⟩
 ·intro dn h
  rw[xs33_13_all]at h
  obtain⟨h0,h1,h2,h3,h4,h5,h6,h7,h8,h9⟩:=h
  have em: ∀q1 q2 q3 q4 q5 q6,qFi q1 q2 q3 q4 q5 q6 dn=(q3,q6,[]):=fun q1 q2 q3 q4 q5 q6=>by
   unfold qFi
   rw[if_pos h9,if_pos h7]
  have ev:qFh n xi W.length cell cell' dn=qFh n xi W.length cell cell' [7]:=by
   funext i
   rcases i with _|_|_|_|_|_|_|_|_|_|i<;>try rfl
   show(if dn.contains 7=true then cell' else cell)=cell'
   rw[if_pos h7]
  rw[em,ev]
  exact hK
end Go.Proofs.YtecoaapkcnhlhaaDoor
namespace Go.Proofs.YtecoaapkcnhlhaaDoor
open Go Go.Vc Go.Ham Txt
def rowO(l:List Bool):Option (List (List PV)):=if l=[]then none else some (rows u64C (nats (qBy l)))
def rsD(n:Nat)(D:Nat->List Bool):List (Option (List (List PV))):=(List.range n).map fun x=>rowO (D x)
def updD(D:Nat->List Bool)(x:Nat)(l:List Bool):Nat->List Bool:=fun y=>if y=x then l else D y
theorem qFl(n:Nat)(D:Nat->List Bool):(rsD n D).length=n:=by simp[rsD]
theorem qFm{n x:Nat}(h:x<n)(D:Nat->List Bool):(rsD n D)[x]? =some (rowO (D x)):=by
 rw[rsD,List.getElem?_map,List.getElem?_range h];rfl
theorem qFn(n:Nat)(D:Nat->List Bool)(x:Nat)(l:List Bool):(rsD n D).set x (rowO l)=rsD n (updD D x l):=by
 refine List.ext_getElem (by simp[rsD]) fun i h1 h2=> ?_
 rw[List.getElem_set]
 simp only[rsD,List.getElem_map,List.getElem_range,updD]
 split
 ·next h=>rw[if_pos h.symm]
 ·next h=>rw[if_neg fun e=>h e.symm]
def bitB(g:Grid)(c:Cfg)(D:Nat->List Bool):List (Nat×List PV):=[(2,quQ false g),(3,cfgC false c),(7,[.view 28 0 (wN g+1)]),(8,[.bv 32 1 (wN g+1)]),(24,List.replicate (wN g+1) .nil),(32,qAR 2000 (rsD (wN g+1) D)),(102,quQ false g),(103,[.ptr 3 0]),(105,[.int (quU g)]),(204,[.yl 999])]
def bitA(g:Grid)(L:List Int)(D:Nat->List Bool):List (Nat×Arr):=(28,⟨1,3,ints L⟩)::qAS 1 54 2000 (rsD (wN g+1) D)
theorem qFo(n:Nat):rsD n (fun _=>[])=List.replicate n none:=by
 rw[List.eq_replicate_iff]
 exact⟨by simp[rsD],fun b hb=>by obtain⟨x,_,rfl⟩:=List.mem_map.1 hb;rfl⟩
theorem qFp: ∀k n:Nat,qAR k (List.replicate n none)=List.replicate n .nil
 |_,0=>rfl
 |k,n+1=>by rw[List.replicate_succ,qAR,qFp (k+1) n];rfl
theorem qFq(es ty:Nat): ∀k n:Nat,qAS es ty k (List.replicate n none)=[]
 |_,0=>rfl
 |k,n+1=>by rw[List.replicate_succ,qAS,qFq es ty (k+1) n]
theorem qFr(pb pa:Nat->Bool): ∀n:Nat,anyT pb pa (List.replicate n PV.nil)=false
 |0=>rfl
 | n + 1 => by
   rw[List.replicate_succ]
   refine sB ?_
   exact qFr pb pa n
theorem qFs(l:List Int):farV (.sl false 1 (ints l)):=⟨fun _ _=>⟨rfl,rfl⟩,fun _ _ _=>⟨rfl,rfl⟩⟩
theorem qFt(g:Grid)(hg:GOk g)(c:Cfg)(hs:CfgSm c)(h0:validE g c≠0):FnEq Tryd.prog 33 [.agg (quQ false g),.agg (cfgC false c)] (.tup [.nil,.int 310]):=by
 have hv:=qyr g hg c hs
 refine FnEq.of_awp Tryd.func33 ok33 (by show 2<=_;decide) (by simp only[push_cast,reduceIte,reduceEqDiff,reduceAdd,reduceSub,reduceMul,Nat.reduceBEq,reduceLT,reduceLeDiff,reduceCtorEq,reduceToNat,reduceNeg,cNI]<;>first|exact fun _ _=>trivial|simp) ?_
 simp only[ac33,rv33,push_cast,reduceIte,reduceEqDiff,reduceAdd,reduceSub,reduceMul,Nat.reduceBEq,reduceLT,reduceLeDiff,reduceCtorEq,reduceToNat,reduceNeg,cNI]
 refine qrr hv (by exact⟨.refl _,.refl _,trivial⟩) ?_
 simp only[qFr,push_cast,reduceIte,reduceEqDiff,reduceAdd,reduceSub,reduceMul,Nat.reduceBEq,reduceLT,reduceLeDiff,reduceCtorEq,reduceToNat,reduceNeg,cNI]
 exact qnU (fun h=>trivial) fun h=>absurd h0 h
theorem qFu(a k:Nat)(hk:k<=64):shfF .shr .i64 a k=((a/2^k:Nat):Int):=by
 show(a:Int).fdiv (2^(min (k:Int).toNat 64))=_
 rw[Int.toNat_natCast,Nat.min_eq_left hk,Int.fdiv_eq_ediv_of_nonneg _ (Int.pow_nonneg (by decide)),Int.natCast_ediv]
 norm_cast
theorem qFv(v k:Nat)(hv:v<2^62)(hk:k<=64):bitF .and .i64 (shfF .shr .i64 v k) 1=((v.testBit k).toNat:Int):=by
 rw[qFu v k hk]
 have h1:v/2^k<2^63:=Nat.lt_of_le_of_lt (Nat.div_le_self _ _) (by omega)
 rw[show(1:Int)=((1:Nat):Int)from rfl,qBf h1 (by decide)]
 have:v/2^k&&&1=(v.testBit k).toNat:=by
  rw[Nat.testBit_eq_decide_div_mod_eq,Nat.and_one_is_mod]
  rcases Nat.mod_two_eq_zero_or_one (v/2^k)with e|e<;>rw[e]<;>rfl
 rw[this]
theorem qFw(w r:Nat)(b:Bool)(hw:w<2^57)(hr:r<57):bitF .or .u64 (w:Int) (shfF .shl .u64 (b.toNat:Int) (r:Int))=((w|||(b.toNat<<<r):Nat):Int):=by
 have h2:b.toNat*2^r<2^57:=by
  have:2^r<2^57:=Nat.pow_lt_pow_right (by decide) hr
  cases b<;>simp<;>omega
 rw[qBj (by omega) (by omega),qBd (by omega) (by omega),Nat.shiftLeft_eq]
theorem qFx(W:List Nat)(i:Nat):(nats W).getD i default=((W.getD i 0:Nat):Int):=by
 simp only[nats,List.getD_eq_getElem?_getD,List.getElem?_map]
 cases W[i]? <;>rfl
theorem qFy(W:List Nat)(i v:Nat):(nats W).set i (v:Int)=nats (W.set i v):=by
 simp[nats,List.map_set]
def bxE(g:Grid)(c:Cfg)(cells:List PV)(p:PV)(n:Int):List (Nat×List PV):=[(2,quQ false g),(3,cfgC false c),(7,[.view 28 0 (wN g+1)]),(8,[.bv 32 1 (wN g+1)]),(24,List.replicate (wN g+1) .nil),(32,cells),(102,quQ false g),(103,[.ptr 3 0]),(105,[.int (quU g)]),(204,[.yl 999]),(1010,[p,.int n])]
theorem qFz (g : Grid) (hg : GOk g) (c : Cfg) {S : List (Nat × PV)} (hS : qtT 1000 S = true) (cells : List PV) (x n k i : Nat) (l : List Int) (hi : i < l.length) (W : List Nat) (hx : x <= wN g) (hc : cells.length = wN g + 1) (hcx : cells.getD x .bot = .view 1055 0 W.length)
  (L:List Int) (hL:L.length=wN g+1) (ct:Nat) (hLx:L.getD x default=ct) (hct:ct/57<W.length) (hct2:ct<3000000000) (hk:k<64) (v:Nat) (hlv:l.getD i default=v) (hv2:v<2^62) (hW:W.getD (ct/57) 0<2^57) (R A:List (Nat×Arr)) (hA:A=[]\/ ∃z,A=[(1054,z)]) (T:List (Nat×PV)) (hT:qhk [1000,125,1007,1008,1009,1010,1011,1038,1039] T=[]) (Q:Exit->St->Prop)
  (hQ:Q .normal ⟨S++[(1007,.ptr 7 0),(1008,.ptr 8 0),(1009,.int x),(1010,.ptr 1010 0),(1038,.int n),(1039,.int k),(1084,.view 28 0 (wN g+1)),(1085,.int x),(1086,.eptr 28 x 0),(1087,.int ct),(1088,.int ((ct:Int)+1)),(1089,.eptr 28 x 0)],bxE g c cells (qCI (.sl false 1 (ints l)) i) n,(28,⟨1,3,ints (L.set x ((ct:Int)+1))⟩)::(A++(1055,⟨1,54,rows u64C (nats (W.set (ct/57) (W.getD (ct/57) 0|||((v.testBit k).toNat<<<(ct%57)))))⟩)::R),[]⟩):
  awp (Env.of Tryd.prog) ac33_r14 Q ⟨S++([(1007,.ptr 7 0),(1008,.ptr 8 0),(1009,.int x),(1010,.ptr 1010 0),(1011,.int k),(1038,.int n),(1039,.int k)]++T),bxE g c cells (qCI (.sl false 1 (ints l)) i) n,(28,⟨1,3,ints L⟩)::(A++(1055,⟨1,54,rows u64C (nats W)⟩)::R),[]⟩:=by
 unfold bxE at hQ ⊢
 have hb:=qFv v k hv2 (by omega)
 obtain⟨q,hq⟩: ∃q,q=ct/57:=⟨_,rfl⟩
 obtain⟨r,hr⟩: ∃r,r=ct%57:=⟨_,rfl⟩
 have hd:(ct:Int)/57=(q:Int):=by omega
 have hm:(ct:Int)%57=(r:Int):=by omega
 rw[<- hq]at hct hW hQ
 rw[<- hr]at hQ
 have hw2:=hg.n.w2
 have hbn:(v.testBit k).toNat<=1:=Bool.toNat_le _
 simp only[qCI]at hQ
 rcases hA with rfl|⟨z,rfl⟩
 all_goals
  simp only[ac33_r14,hT,qCo hS,qCn hS,qCp hS,qCq hS,qCr hS,qCI,Nat.mul_one,qF8 cells,hc,hcx,hL,hLx,hlv,hb,hd,hm,qFx,qFw _ r (v.testBit k) hW (by omega),qFy,qER,push_cast,reduceIte,reduceEqDiff,reduceAdd,reduceSub,reduceMul,Nat.reduceBEq,reduceLT,reduceLeDiff,reduceCtorEq,reduceToNat,reduceNeg,cNI]
  exact⟨⟨by omega,by omega⟩,hx,⟨by omega,by omega⟩,by omega,⟨by omega,by omega,by decide⟩,⟨by omega,by omega⟩,by omega,hi,by omega,⟨by omega,by omega⟩,⟨by omega,by omega⟩,by omega,⟨by omega,by omega,by decide⟩,by omega,⟨by omega,by omega⟩,by omega,⟨by omega,by omega⟩,by omega,⟨by omega,by omega⟩,⟨by omega,by omega⟩,by omega,hQ⟩
def wrdN(m:List Bool):List Nat:=if m.length%57=0 then qBy m++[0]else qBy m
theorem qFA(m:List Bool):m.length/57<(wrdN m).length:=by
 unfold wrdN
 split
 ·rw[List.length_append,qBA];simp only[nW,List.length_cons,List.length_nil];omega
 ·rw[qBA];simp only[nW];omega
theorem qFB(m:List Bool):(wrdN m).getD (m.length/57) 0<2^57:=by
 rw[List.getD_eq_getElem?_getD,List.getElem?_eq_getElem (qFA m)]
 have h:=List.getElem_mem (qFA m)
 simp only[Option.getD_some]
 generalize (wrdN m)[m.length/57]'(qFA m)=w at h
 unfold wrdN at h
 split at h
 ·rcases List.mem_append.1 h with h|h
  ·exact qBB h
  ·simp at h;subst h;decide
 ·exact qBB h
theorem qFC(m:List Bool)(b:Bool):(wrdN m).set (m.length/57) ((wrdN m).getD (m.length/57) 0|||(b.toNat<<<(m.length%57)))=qBy (m++[b]):=by
 unfold wrdN
 split
 ·next h=>
  have hl:(qBy m).length=m.length/57:=by rw[qBA];simp only[nW];omega
  rw[qBD m b h,<- hl,h]
  simp[List.getD_eq_getElem?_getD]
 ·next h=>rw[qBE m b h]
def opA(id:Nat):Option (List (List PV))->List (Nat×Arr)
 |none=>[]
 |some r=>[(id,⟨1,54,r⟩)]
def qFD(g:Grid)(D:Nat->List Bool)(x:Nat)(m:List Bool):List PV:=(qAR 2000 (rsD (wN g+1) (updD D x []))).set x (rowC 1055 (rowO m))
def qFE(g:Grid)(A:List (Nat×Arr))(L:List Int)(D:Nat->List Bool)(x:Nat)(m:List Bool):List (Nat×Arr):=(28,⟨1,3,ints L⟩)::(A++(opA 1055 (rowO m)++qAS 1 54 2000 (rsD (wN g+1) (updD D x []))))
def a54(A:List (Nat×Arr)):Prop:=A=[]\/ ∃z,A=[(1054,z)]
theorem qFF{j:Nat}(C:List PV)(x n:Nat)(hx:x<C.length)(hC:anyT nul (isId j) (C.set x .nil)=false):qiA nul (isId j) (C.set x (.view j 0 n))=C.set x .bot:=by
 induction C generalizing x with
 |nil=>simp at hx
 |cons c C ih=>
   cases x with
   |zero=>
     rw[List.set_cons_zero,qhK,Bool.or_eq_false_iff]at hC
     rw[List.set_cons_zero,qiE,qiL _ _ hC.2]
     simp[PV.to,isId,PV.killed]
   |succ x=>
     rw[List.set_cons_succ,qhK,Bool.or_eq_false_iff]at hC
     rw[List.set_cons_succ,qiE,hC.1,ih x (by simpa using hx) hC.2]
     rfl
theorem qFG{j:Nat}(C:List PV)(x n:Nat)(hx:x<C.length):anyT nul (isId j) (C.set x (.view j 0 n))=true:=by
 rw[<- qhH,List.any_eq_true]
 exact⟨.view j 0 n,List.mem_of_getElem? (i:=x) (by simp[hx]),by simp[PV.to,isId]⟩
theorem qFH(g:Grid)(D:Nat->List Bool)(x j:Nat)(hj:j<2000):anyT nul (isId j) (qAR 2000 (rsD (wN g+1) (updD D x [])))=false:=
 qF6 _ _ _ fun y r _=>beq_false_of_ne (by omega)
theorem qFI{g:Grid}{x:Nat}(hx:x<=wN g)(D:Nat->List Bool):(qAR 2000 (rsD (wN g+1) (updD D x []))).set x .nil=qAR 2000 (rsD (wN g+1) (updD D x [])):=by
 have h:(rsD (wN g+1) (updD D x [])).set x none=rsD (wN g+1) (updD D x []):=by
  have:=qFn (wN g+1) (updD D x []) x []
  rw[show rowO []=none from rfl]at this
  rw[this]
  congr 1
  funext y
  simp only[updD]
  split<;>rfl
 have h2:=qAV 2000 (rsD (wN g+1) (updD D x [])) x none
 rw[h]at h2
 exact h2
theorem qFJ(g:Grid)(D:Nat->List Bool){j:Nat}(hj:j<2000)(A:Arr):up (qAS 1 54 2000 (rsD (wN g+1) D)) j A=(j,A)::qAS 1 54 2000 (rsD (wN g+1) D):=
 qB2 _ _ _ fun y hy=>by have:=qB3 1 54 2000 _ y hy;omega
theorem qFL(l m:List Nat):nats l++nats m=nats (l++m):=by simp[nats]
set_option maxHeartbeats 1000000 in
theorem qFM (g : Grid) (hg : GOk g) (c : Cfg) {S : List (Nat × PV)} (hS : qtT 1000 S = true) (hSf : ∀ j, 1000 <= j -> farL j S) (D : Nat -> List Bool) (x n k i : Nat) (l : List Int) (hi : i < l.length) (m : List Bool) (hx : x <= wN g)
  (L:List Int) (hL:L.length=wN g+1) (hLx:L.getD x default=m.length) (hct2:m.length<2000000000) (hk:k<64) (v:Nat) (hlv:l.getD i default=v) (hv2:v<2^62) (A:List (Nat×Arr)) (hA:a54 A) (T:List (Nat×PV)) (hT:qhk [1000,125,1007,1008,1009,1010,1038,1039] T=[]) (Q:Exit->St->Prop)
  (hQ: ∀A,a54 A->Q .normal ⟨S++[(1007,.ptr 7 0),(1008,.ptr 8 0),(1009,.int x),(1010,.ptr 1010 0),(1038,.int n),(1039,.int k),(1084,.view 28 0 (wN g+1)),(1085,.int x),(1086,.eptr 28 x 0),(1087,.int m.length),(1088,.int ((m.length:Int)+1)),(1089,.eptr 28 x 0)],bxE g c (qFD g D x (m++[v.testBit k])) (qCI (.sl false 1 (ints l)) i) n,qFE g A (L.set x ((m.length:Int)+1)) D x (m++[v.testBit k]),[]⟩):
  awp (Env.of Tryd.prog) ac33_r11 Q ⟨S++([(1007,.ptr 7 0),(1008,.ptr 8 0),(1009,.int x),(1010,.ptr 1010 0),(1038,.int n),(1039,.int k)]++T),bxE g c (qFD g D x m) (qCI (.sl false 1 (ints l)) i) n,qFE g A L D x m,[]⟩:=by
 have hw2:=hg.n.w2
 have hwl:=qFA m
 have hws:=qFC m (v.testBit k)
 have hne:m++[v.testBit k]≠[]:=by simp
 have f4:=qFH g D x 1054 (by decide)
 have f5:=qFH g D x 1055 (by decide)
 have r4:=qFJ g (updD D x []) (j:=1054) (by decide)
 have r5:=qFJ g (updD D x []) (j:=1055) (by decide)
 have hn:=qFI hx D
 have s4:=qCQ (hSf 1054 (by decide))
 have s5:=qCQ (hSf 1055 (by decide))
 have hcl:(qAR 2000 (rsD (wN g+1) (updD D x []))).length=wN g+1:=by rw[qAT,qFl]
 unfold qFD at hQ ⊢
 unfold qFE at hQ ⊢
 generalize qAR 2000 (rsD (wN g+1) (updD D x []))=C at *
 generalize qAS 1 54 2000 (rsD (wN g+1) (updD D x []))=R at *
 have hcx: ∀v,(C.set x v).getD x .bot=v:=fun v=>by rw[List.getD_eq_getElem?_getD,List.getElem?_set_self (by omega)];rfl
 have hcl2: ∀v,(C.set x v).length=wN g+1:=fun v=>by rw[List.length_set,hcl]
 have rest:=fun(C' :List PV) W h1 h2 h3 h4 R' A hA T hT hq=>qFz g hg c hS C' x n k i l hi W hx h1 h2 L hL m.length hLx h3 (by omega) hk v hlv hv2 h4 R' A hA T hT Q hq
 have hro: ∀m:List Bool,m≠[]->rowO m=some (rows u64C (nats (qBy m))):=fun m h=>if_neg h
 have hwr:(wrdN m).length=(qBy m).length+(if m.length%57=0 then 1 else 0):=by unfold wrdN;split<;>simp
 have hwn:(qBy m).length<100000000:=by rw[qBA];simp only[nW];omega
 have hset: ∀(W:List Nat) (i v:Nat),(W.set i v).length=W.length:=fun _ _ _=>List.length_set ..
 have hsetX: ∀v w,(C.set x v).set x w=C.set x w:=fun v w=>List.set_set ..
 have fin: ∀A,a54 A-> ∀T,qhk [1000,125,1007,1008,1009,1010,1011,1038,1039] T=[]->awp (Env.of Tryd.prog) ac33_r14 Q ⟨S++([(1007,.ptr 7 0),(1008,.ptr 8 0),(1009,.int x),(1010,.ptr 1010 0),(1011,.int k),(1038,.int n),(1039,.int k)]++T),bxE g c (C.set x (.view 1055 0 (wrdN m).length)) (qCI (.sl false 1 (ints l)) i) n,(28,⟨1,3,ints L⟩)::(A++(1055,⟨1,54,rows u64C (nats (wrdN m))⟩)::R),[]⟩:=by
  intro A hA T hT
  refine rest _ (wrdN m) (hcl2 _) (hcx _) hwl (qFB m) R A hA T hT ?_
  have hq:=hQ A hA
  rw[hro _ hne]at hq
  have hl:(qBy (m++[v.testBit k])).length=(wrdN m).length:=by rw[<- hws,List.length_set]
  simp only[rowC,opA,qER,qkg,List.cons_append,List.nil_append]at hq
  rw[hws,<- hl]
  exact hq
 cases hm:m with
 |nil=>
   rw[hm]at hLx fin
   have hw0:wrdN []=[0]:=by decide
   rw[hw0]at fin
   rcases hA with rfl|⟨z,rfl⟩
   all_goals
    simp only[ac33_r11,hT,bxE,rowO,if_true,rowC,opA,hn,hcl,qCo hS,qCn hS,qCp hS,qCq hS,qCr hS,qCI,Nat.mul_one,hL,hLx,push_cast,reduceIte,reduceEqDiff,reduceAdd,reduceSub,reduceMul,Nat.reduceBEq,reduceLT,reduceLeDiff,reduceCtorEq,reduceToNat,reduceNeg,cNI]
    refine⟨⟨by omega,by omega⟩,by omega,⟨by decide,by decide,by decide⟩,qnU (fun _=> ?_) fun h=>absurd (by decide) h⟩
    refine qFk (b:=bxE g c C (qCI (.sl false 1 (ints l)) i) n) (b7:=bxE g c C (qCI (.sl false 1 (ints l)) i) n) (n:=wN g+1) (xi:=x) (W:=[]) (cell:= .nil) (cell' := .nil) (C:=C) (C7:=C) _ ?_ ?_ (by omega) (by decide) rfl rfl rfl rfl hcl hcl ?_ ?_ ?_ ?_ ?_ (.inl ⟨rfl,rfl,rfl⟩) ?_
    ·simp only[qCp hS,push_cast,reduceIte,reduceEqDiff,reduceAdd,reduceSub,reduceMul,Nat.reduceBEq,reduceLT,reduceLeDiff,reduceCtorEq,reduceToNat,reduceNeg,cNI]
    ·simp only[qCp hS,push_cast,reduceIte,reduceEqDiff,reduceAdd,reduceSub,reduceMul,Nat.reduceBEq,reduceLT,reduceLeDiff,reduceCtorEq,reduceToNat,reduceNeg,cNI]
    ·rw[<- hn];exact hcx _
    ·simp only[bxE,qCI,f4,qFr,push_cast,reduceIte,reduceEqDiff,reduceAdd,reduceSub,reduceMul,Nat.reduceBEq,reduceLT,reduceLeDiff,reduceCtorEq,reduceToNat,reduceNeg,cNI]
    ·simp only[bxE,qCI,f5,qFr,push_cast,reduceIte,reduceEqDiff,reduceAdd,reduceSub,reduceMul,Nat.reduceBEq,reduceLT,reduceLeDiff,reduceCtorEq,reduceToNat,reduceNeg,cNI]
    ·simp only[qCS,s4,push_cast,reduceIte,reduceEqDiff,reduceAdd,reduceSub,reduceMul,Nat.reduceBEq,reduceLT,reduceLeDiff,reduceCtorEq,reduceToNat,reduceNeg,cNI]
    ·simp only[qCS,s5,push_cast,reduceIte,reduceEqDiff,reduceAdd,reduceSub,reduceMul,Nat.reduceBEq,reduceLT,reduceLeDiff,reduceCtorEq,reduceToNat,reduceNeg,cNI]
    ·simp only[slA,xs33_13,putD,qFh,bxE,qCI,r4,r5,qCo hS,qCn hS,qCp hS,qCq hS,qCr hS,push_cast,reduceIte,reduceEqDiff,reduceAdd,reduceSub,reduceMul,Nat.reduceBEq,reduceLT,reduceLeDiff,reduceCtorEq,reduceToNat,reduceNeg,cNI]
     exact fin [(1054,_)] (.inr ⟨_,rfl⟩) [(1048,_),(1049,_),(1050,_),(1051,_),(1052,_),(1053,_),(1054,_),(1055,_),(1056,_)] rfl
 |cons y r=>
   have hmn:m≠[]:=by rw[hm];exact List.cons_ne_nil _ _
   rw[<- hm,hro _ hmn]
   have b4:anyT nul (isId 1054) (C.set x (.view 1055 0 (qBy m).length))=false:=qF7 _ _ _ _ _ f4 rfl
   have b5:=qFG (j:=1055) C x (qBy m).length (by omega)
   have b6:=qFF (j:=1055) C x (qBy m).length (by omega) (by rw[hn];exact f5)
   have hfin:=fin A hA
   rcases hA with rfl|⟨z,rfl⟩
   all_goals
    simp only[ac33_r11,hT,bxE,rowC,opA,hcl,qkg,qER,qCo hS,qCn hS,qCp hS,qCq hS,qCr hS,qCI,Nat.mul_one,hL,hLx,push_cast,reduceIte,reduceEqDiff,reduceAdd,reduceSub,reduceMul,Nat.reduceBEq,reduceLT,reduceLeDiff,reduceCtorEq,reduceToNat,reduceNeg,cNI]
    refine⟨⟨by omega,by omega⟩,by omega,⟨by omega,by omega,by decide⟩,qnU (fun h=> ?_) fun h=> ?_⟩
    ·have hw1:wrdN m=qBy m++[0]:=if_pos (by omega)
     rw[hw1]at fin
     refine qFk (b:=bxE g c (C.set x (.view 1055 0 (qBy m).length)) (qCI (.sl false 1 (ints l)) i) n) (b7:=bxE g c (C.set x .bot) (qCI (.sl false 1 (ints l)) i) n) (n:=wN g+1) (xi:=x) (W:=rows u64C (nats (qBy m))) (cell:= .view 1055 0 (qBy m).length) (cell' := .bot) (C:=C.set x (.view 1055 0 (qBy m).length)) (C7:=C.set x .bot) _ ?_ ?_ (by omega) ?_ rfl rfl rfl rfl (hcl2 _) (hcl2 _) (hcx _) ?_ ?_ ?_ ?_ (.inr ⟨?_,rfl,rfl⟩) ?_
     ·simp only[qCp hS,push_cast,reduceIte,reduceEqDiff,reduceAdd,reduceSub,reduceMul,Nat.reduceBEq,reduceLT,reduceLeDiff,reduceCtorEq,reduceToNat,reduceNeg,cNI]
     ·simp only[qCp hS,push_cast,reduceIte,reduceEqDiff,reduceAdd,reduceSub,reduceMul,Nat.reduceBEq,reduceLT,reduceLeDiff,reduceCtorEq,reduceToNat,reduceNeg,cNI]
     ·rw[qkg,qER];exact hwn
     ·simp only[bxE,qCI,b4,qFr,push_cast,reduceIte,reduceEqDiff,reduceAdd,reduceSub,reduceMul,Nat.reduceBEq,reduceLT,reduceLeDiff,reduceCtorEq,reduceToNat,reduceNeg,cNI]
     ·simp only[bxE,qCI,b5,b6,qFr,push_cast,reduceIte,reduceEqDiff,reduceAdd,reduceSub,reduceMul,Nat.reduceBEq,reduceLT,reduceLeDiff,reduceCtorEq,reduceToNat,reduceNeg,cNI]
     ·simp only[qCS,s4,push_cast,reduceIte,reduceEqDiff,reduceAdd,reduceSub,reduceMul,Nat.reduceBEq,reduceLT,reduceLeDiff,reduceCtorEq,reduceToNat,reduceNeg,cNI]
     ·simp only[qCS,s5,push_cast,reduceIte,reduceEqDiff,reduceAdd,reduceSub,reduceMul,Nat.reduceBEq,reduceLT,reduceLeDiff,reduceCtorEq,reduceToNat,reduceNeg,cNI]
     ·rw[qkg,qER]
     ·simp only[slA,xs33_13,putD,qFh,bxE,qCI,hsetX,qkg,qER,qCo hS,qCn hS,qCp hS,qCq hS,qCr hS,push_cast,reduceIte,reduceEqDiff,reduceAdd,reduceSub,reduceMul,Nat.reduceBEq,reduceLT,reduceLeDiff,reduceCtorEq,reduceToNat,reduceNeg,cNI]
      have hf:=fin [(1054,⟨1,54,[[.sc (.int .u64 0)]]⟩)] (.inr ⟨_,rfl⟩) [(1048,.bv 32 1 (wN g+1)),(1049,.int x),(1050,.bv 32 1 (wN g+1)),(1051,.int x),(1052,.ptr 32 x),(1053,.bot),(1054,.view 1054 0 1),(1055,.view 1055 0 ((qBy m).length+1)),(1056,.ptr 32 x)] rfl
      simp only[bxE,qCI,List.length_append,List.length_cons,List.length_nil,List.cons_append,List.nil_append]at hf
      rw[show nats (qBy m++[0])=nats (qBy m)++[0]from by rw[<- qFL];rfl]at hf
      exact hf
    ·have hw1:wrdN m=qBy m:=if_neg (by omega)
     rw[hw1]at hfin
     have hT2:qhk [1000,125,1007,1008,1009,1010,1011,1038,1039] [(1042,.view 28 0 (wN g+1)),(1043,.int x),(1044,.eptr 28 x 0),(1045,.int m.length),(1046,.int ((m.length:Int)%57)),(1047,.bool (decide ((m.length:Int)%57=0)))]=[]:=by simp only[push_cast,reduceIte,reduceEqDiff,reduceAdd,reduceSub,reduceMul,Nat.reduceBEq,reduceLT,reduceLeDiff,reduceCtorEq,reduceToNat,reduceNeg,cNI]
     exact hfin _ hT2
end Go.Proofs.YtecoaapkcnhlhaaDoor
namespace Go.Proofs.YtecoaapkcnhlhaaDoor
open Go Go.Vc Go.Ham Txt
theorem qFN(D:Nat->List Bool)(x:Nat)(h:D x=[]):updD D x []=D:=by
 funext y;unfold updD;split
 ·next e=>rw[e,h]
 ·rfl
theorem qFO(D:Nat->List Bool)(x:Nat)(l m:List Bool):updD (updD D x l) x m=updD D x m:=by
 funext y;unfold updD;split<;>simp_all
theorem qFP (g : Grid) (c : Cfg) {s : List (Nat × PV)} (D : Nat -> List Bool) (x : Nat) (hx : x <= wN g) (hs1 : farL (2000 + x) s) (hs2 : farL 1055 s) (L l : List Int) (i : Nat) (n : Int) :
  SWk ⟨s,bxE g c (qAR 2000 (rsD (wN g+1) D)) (qCI (.sl false 1 (ints l)) i) n,(28,⟨1,3,ints L⟩)::qAS 1 54 2000 (rsD (wN g+1) D),[]⟩ ⟨s,bxE g c (qFD g D x (D x)) (qCI (.sl false 1 (ints l)) i) n,qFE g [] L D x (D x),[]⟩:=by
 have hN:=qFm (n:=wN g+1) (x:=x) (by omega) D
 have hset:(rsD (wN g+1) D).set x none=rsD (wN g+1) (updD D x []):=qFn (wN g+1) D x []
 by_cases h:D x=[]
 ·have e:=qFI hx D
  unfold qFD qFE
  rw[h,show rowO []=none from rfl]
  simp only[rowC,opA,e,List.nil_append]
  rw[qFN D x h]
  exact SWk.refl _
 ·have hr:rowO (D x)=some (rows u64C (nats (qBy (D x)))):=if_neg h
  rw[hr]at hN
  have h28: ¬28=2000+x:=by omega
  refine SWk.renEq (A:=⟨1,54,rows u64C (nats (qBy (D x)))⟩) (2000+x) 1055 ?_ ?_ hs1 hs2 ?_ ?_ ?_
  ·rw[lk,if_neg h28,qB1,hN];rfl
  ·rw[lk,if_neg (by decide),qB0 _ _ _ _ _ (by decide)]
  ·have:=qF6 (isId 1055) 2000 (rsD (wN g+1) D) fun y r _=>beq_false_of_ne (by omega)
   simp only[bxE,qCI,qFr,this,qin,qim,push_cast,reduceIte,reduceEqDiff,reduceAdd,reduceSub,reduceMul,Nat.reduceBEq,reduceLT,reduceLeDiff,reduceCtorEq,reduceToNat,reduceNeg,cNI]
  ·have e:=qF4 1055 2000 _ x _ hN
   rw[hset]at e
   simp only[bxE,qCI,qFD,hr,rowC,qkg,qER]at e ⊢
   simp only[List.map_cons,List.map_nil,List.map_replicate,e,quQ,cfgC,PV.ren,if_neg h28]
  ·rw[qF1 _ _ h28,rowsA_rm,hset]
   unfold qFE
   rw[hr]
   show up _ _ _=(28,_)::(1055,_)::_
   rw[up,if_neg (by decide),if_neg (by decide),qFJ g _ (by decide)]
   rfl
theorem qFQ{A R:List (Nat×Arr)}(hA:a54 A):(A++R).filter (fun x=>x.1 !=1054)=R.filter (fun x=>x.1 !=1054):=by
 rcases hA with rfl|⟨z,rfl⟩<;>simp
theorem qFR (g : Grid) (c : Cfg) {s : List (Nat × PV)} (D : Nat -> List Bool) (x : Nat) (hx : x <= wN g) (hs1 : farL (2000 + x) s) (hs2 : farL 1055 s) (L l : List Int) (i : Nat) (n : Int) (m : List Bool) (A : List (Nat × Arr)) (hA : a54 A) :
  SWk ⟨s,bxE g c (qFD g D x m) (qCI (.sl false 1 (ints l)) i) n,qFE g A L D x m,[]⟩ ⟨s,bitB g c (updD D x m),bitA g L (updD D x m),[]⟩:=by
 have hrf:=fun D=>qB5 1 54 (fun x=>x.1 !=1054) 2000 (rsD (wN g+1) D) fun y r _=>bne_iff_ne.2 (show 2000+y≠1054 by omega)
 have hset:(rsD (wN g+1) (updD D x [])).set x (rowO m)=rsD (wN g+1) (updD D x m):=by rw[qFn,qFO]
 refine SWk.trans (SWk.drop (fun i=>i !=1010) (fun i=>i !=1054)) ?_
 have hb:(bxE g c (qFD g D x m) (qCI (.sl false 1 (ints l)) i) n).filter (fun x=>x.1 !=1010)=[(2,quQ false g),(3,cfgC false c),(7,[.view 28 0 (wN g+1)]),(8,[.bv 32 1 (wN g+1)]),(24,List.replicate (wN g+1) .nil),(32,qFD g D x m),(102,quQ false g),(103,[.ptr 3 0]),(105,[.int (quU g)]),(204,[.yl 999])]:=rfl
 rw[hb]
 have ha:(qFE g A L D x m).filter (fun x=>x.1 !=1054)=(28,⟨1,3,ints L⟩)::(opA 1055 (rowO m)++qAS 1 54 2000 (rsD (wN g+1) (updD D x []))):=by
  unfold qFE
  rw[List.filter_cons_of_pos rfl,qFQ hA,List.filter_append,hrf]
  congr 2
  cases rowO m<;>rfl
 rw[ha]
 by_cases h:m=[]
 ·subst h
  have e:=qFI hx D
  unfold qFD
  rw[show rowO []=none from rfl]
  simp only[rowC,opA,e,List.nil_append]
  exact SWk.refl _
 ·have hr:rowO m=some (rows u64C (nats (qBy m))):=if_neg h
  have h28: ¬(28:Nat)=1055:=by decide
  have hq28: ¬28=2000+x:=by omega
  have hl:(rsD (wN g+1) (updD D x [])).length=wN g+1:=qFl _ _
  rw[hr]
  refine SWk.renEq (A:=⟨1,54,rows u64C (nats (qBy m))⟩) 1055 (2000+x) ?_ ?_ hs2 hs1 ?_ ?_ ?_
  ·rfl
  ·show lk ((28,_)::(1055,_)::qAS 1 54 2000 _) _=none
   rw[lk,if_neg hq28,lk,if_neg (by omega),qB1,qFm (by omega)]
   simp only[updD,if_true];rfl
  ·have f := qF6 (isId (2000 + x)) 2000 (rsD (wN g + 1) (updD D x [])) fun y r hy => by
    refine beq_false_of_ne fun e=> ?_
    obtain rfl:y=x:=by omega
    rw[qFm (by omega)]at hy
    simp only[updD,if_true,Option.some.injEq]at hy
    cases hy
   have f2:anyT nul (isId (2000+x)) (qFD g D x m)=false:=by
    unfold qFD
    refine qF7 _ _ _ _ _ f ?_
    rw[hr]
    exact beq_false_of_ne (by omega)
   have hb28:(28==2000+x)=false:=beq_false_of_ne hq28
   simp only[qFr,f2,hb28,qin,qim,push_cast,reduceIte,reduceEqDiff,reduceAdd,reduceSub,reduceMul,Nat.reduceBEq,reduceLT,reduceLeDiff,reduceCtorEq,reduceToNat,reduceNeg,cNI]
  ·have e:=qF5 1055 2000 (rsD (wN g+1) (updD D x [])) x (rows u64C (nats (qBy m))) (by omega) (by decide)
   rw[<- hr,hset]at e
   simp only[bitB,qFD,hr,rowC]at e ⊢
   simp only[List.map_cons,List.map_nil,List.map_replicate,e,quQ,cfgC,PV.ren,if_neg h28]
  ·show up (rm ((28,_)::(1055,_)::qAS 1 54 2000 _) 1055) _ _=_
   rw[qF1 _ _ h28,qF2,qF3 _ _ _ _ _ (by decide),up,if_neg hq28,if_neg (by omega),qB4 _ _ _ _ _ _ (by omega),<- hr,hset]
   rfl
set_option maxHeartbeats 1000000 in
theorem qFS (g : Grid) (hg : GOk g) (c : Cfg) {S : List (Nat × PV)} (hS : qtT 1000 S = true) (hSf : ∀ j, 1000 <= j -> farL j S) (D : Nat -> List Bool) (x n i : Nat) (l : List Int) (hi : i < l.length) (hx : x <= wN g)
  (L:List Int) (hL:L.length=wN g+1) (hLx:L.getD x default=(D x).length) (hct:(D x).length+n<2000000000) (hn:n<=64) (v:Nat) (hlv:l.getD i default=v) (hv2:v<2^62) (T:List (Nat×PV)) (hT:qhk [1000,125,1007,1008,1009,1010] T=[]) (Q:Exit->St->Prop)
  (hQ: ∀A,a54 A->Q .normal ⟨S++[(1007,.ptr 7 0),(1008,.ptr 8 0),(1009,.int x),(1010,.ptr 1010 0),(1038,.int n),(1039,.int n),(1040,.bool false)],bxE g c (qFD g D x (D x++qBl v n)) (qCI (.sl false 1 (ints l)) i) n,qFE g A (L.set x ((D x).length+n:Nat)) D x (D x++qBl v n),[]⟩):
  awp (Env.of Tryd.prog) ac33_r9 Q ⟨S++([(1007,.ptr 7 0),(1008,.ptr 8 0),(1009,.int x),(1010,.ptr 1010 0)]++T),bxE g c (qAR 2000 (rsD (wN g+1) D)) (qCI (.sl false 1 (ints l)) i) n,(28,⟨1,3,ints L⟩)::qAS 1 54 2000 (rsD (wN g+1) D),[]⟩:=by
 have hLs: ∀y,(L.set x y).getD x default=y:=fun y=>by rw[List.getD_eq_getElem?_getD,List.getElem?_set_self (by omega)];rfl
 have hLset: ∀y z,(L.set x y).set x z=L.set x z:=fun y z=>List.set_set ..
 have hL0:L.set x ((D x).length:Int)=L:=by
  rw[<- hLx]
  apply List.ext_getElem (by simp)
  intro j h1 h2
  rw[List.getElem_set]
  split
  ·next e=>subst e;simp[List.getD_eq_getElem?_getD,h2]
  ·rfl
 have fS: ∀k:Int,∀j,1011<=j->farL j (S++[(1007,.ptr 7 0),(1008,.ptr 8 0),(1009,.int x),(1010,.ptr 1010 0),(1038,.int n),(1039,.int k)]):=fun k j hj=>by
  have n1: ∀q,q<1011->(q==j)=false:=fun q hq=>beq_false_of_ne (by omega)
  simp only[qCO,hSf j (by omega),n1 7 (by decide),n1 8 (by decide),n1 1010 (by decide),push_cast,reduceIte,reduceEqDiff,reduceAdd,reduceSub,reduceMul,Nat.reduceBEq,reduceLT,reduceLeDiff,reduceCtorEq,reduceToNat,reduceNeg,cNI]
 have hin:=qFP g c D x hx (fS 0 (2000+x) (by omega)) (fS 0 1055 (by decide)) L l i n
 have hbE: ∀cells p (m:Int),lk (bxE g c cells p m) 1010=some [p,.int m]:=fun _ _ _=>rfl
 simp only[ac33_r9,hT,qCo hS,qCn hS,qCp hS,qCq hS,qCr hS,hbE,push_cast,reduceIte,reduceEqDiff,reduceAdd,reduceSub,reduceMul,Nat.reduceBEq,reduceLT,reduceLeDiff,reduceCtorEq,reduceToNat,reduceNeg,cNI]
 refine qoK (fun j st=> ∃(k:Nat) (A:List (Nat×Arr)),k<=n/\j=n-k/\a54 A/\st=⟨S++[(1007,.ptr 7 0),(1008,.ptr 8 0),(1009,.int x),(1010,.ptr 1010 0),(1038,.int n),(1039,.int k)],bxE g c (qFD g D x (D x++qBl v k)) (qCI (.sl false 1 (ints l)) i) n,qFE g A (L.set x ((D x).length+k:Nat)) D x (D x++qBl v k),[]⟩) n ⟨_,?_,0,[],by omega,by omega,.inl rfl,rfl⟩ ?_
 ·simp only[qCo hS,qCn hS,qCp hS,qCq hS,qCr hS,push_cast,reduceIte,reduceEqDiff,reduceAdd,reduceSub,reduceMul,Nat.reduceBEq,reduceLT,reduceLeDiff,reduceCtorEq,reduceToNat,reduceNeg,cNI]
  rw[show qBl v 0=[]from rfl,List.append_nil,hL0]
  exact hin
 rintro j st ⟨k,A,hk,rfl,hA,rfl⟩
 simp only[qCo hS,qCn hS,qCp hS,qCq hS,qCr hS,push_cast,reduceIte,reduceEqDiff,reduceAdd,reduceSub,reduceMul,Nat.reduceBEq,reduceLT,reduceLeDiff,reduceCtorEq,reduceToNat,reduceNeg,cNI]
 refine qnU (fun h=> ?_) fun h=> ?_
 ·have hm:(D x++qBl v k).length=(D x).length+k:=by rw[List.length_append,qBm]
  refine qFM g hg c hS hSf D x n k i l hi (D x++qBl v k) hx (L.set x ((D x).length+k:Nat)) (by rw[List.length_set,hL]) (by rw[hLs,hm]) (by omega) (by omega) v hlv hv2 A hA [(1040,.bool (decide ((k:Int)<n)))] sC _ fun A' hA' => ?_
  simp only[qCo hS,qCn hS,qCp hS,qCq hS,qCr hS,push_cast,reduceIte,reduceEqDiff,reduceAdd,reduceSub,reduceMul,Nat.reduceBEq,reduceLT,reduceLeDiff,reduceCtorEq,reduceToNat,reduceNeg,cNI]
  refine⟨⟨by omega,by omega⟩,_,SWk.refl _,n-(k+1),by omega,k+1,A',by omega,rfl,hA',?_⟩
  rw[hLset,hm,qBn,List.append_assoc]
  rfl
 ·obtain rfl:k=n:=by omega
  have hq:=hQ A hA
  rw[show decide ((k:Int)<k)=false from decide_eq_false (by omega)]
  exact hq
end Go.Proofs.YtecoaapkcnhlhaaDoor
namespace Go.Vc
open Go Go.RowKit
def PV.fb(id:Nat)(cs:List PV):PV->PV
 | .bv i es n=>if i=id then(if es=1/\n=cs.length then .sl true 1 (cs.map fun c=>[c])else .bot)else .bv i es n
 |c=>c.kill (isId id) nul
def PV.fbA(id:Nat)(cs:List PV):PV->PV
 | .agg l=> .agg (l.map (PV.fb id cs))
 |c=>c.fb id cs
def PV.fbV(id:Nat)(cs:List PV):PV->PV
 | .tup l=> .tup (l.map (PV.fbA id cs))
 |c=>c.fbA id cs
section
variable {w w0:World} {Z Z0:Zone} {L:Lay} {N:Fr} {st:St} {a:Act} {id:Nat} {cs:List PV} {c:PV} {v:Value}
theorem CR.kz{Z' :Zone}(hz: ∀p b,Z p b->Z' p b)(h:CR w Z L c v):CR w Z' L c v:=h.keep ⟨fun _ _ _=>rfl⟩ hz (LSame.refl L) (PV.to_nul c)
theorem CR.fb{Z' :Zone}(hB:BR w Z L id cs)(hz: ∀p b,Z p b->Z' p b)(hid:Z' true (L.bx id))(hp:cs.all qbM=true)(h:CR w Z L c v):CR w Z' L (c.fb id cs) v:=by
 have hk: ∀c:PV,CR w Z L c v->CR w Z' L (c.kill (isId id) nul) v:=fun c h=>(CR.kill h).kz hz
 cases c with
 |bv i es n=>
   simp only[PV.fb]
   split
   ·rename_i e;subst e
    split
    ·rename_i e2
     obtain⟨rfl,rfl⟩:=e2
     obtain⟨rfl,hm⟩:=h
     obtain⟨vs,T,h1,h2,h3⟩:=hB
     show TR w Z' _ _
     by_cases h0:cs=[]
     ·subst h0
      exact TR.sl0 _ _ _ _ hm
     ·have hpos:=List.length_pos_iff.2 h0
      have:=TR.sl (w:=w) (Z:=Z') true 1 (cs.map fun c=>[c]) (L.bx i) 0 cs.length (fun i _=>vs.getD i undef) (by omega) hid (by simpa using hpos) (by simp) hm
       (fun x hx=>by obtain⟨c,_,rfl⟩:=List.mem_map.1 hx;rfl)
       (fun i j hi hj=>by
        simp only[List.length_map]at hi
        obtain rfl:j=0:=by omega
        refine⟨?_,(h3 i _ (List.getElem?_eq_getElem hi)).2⟩
        rw[cell_of_row w _ _ _ _ _ h1]
        simp[Array.getD,h2,hi])
       (fun i j x c hi hj=>by
        rw[List.getElem?_map]at hi
        obtain⟨c',h4,rfl⟩:=Option.map_eq_some_iff.1 hi
        match j,hj with
        |0,hj=>
          simp at hj;subst hj
          have h5:=(h3 i c' h4).1
          have h6:=List.all_eq_true.1 hp c' (List.mem_of_getElem? h4)
          have h7:TR w Z c' (vs.getD i undef):=by
           cases c' <;>first|exact h5|cases h6
          exact h7.keep ⟨fun _ _ _=>rfl⟩ hz)
      simpa using this
    ·exact TR.bot _
   ·exact h.kz hz
 |_=>exact hk _ h
theorem AR.fb{Z' :Zone}(hB:BR w Z L id cs)(hz: ∀p b,Z p b->Z' p b)(hid:Z' true (L.bx id))(hp:cs.all qbM=true)(h:AR w Z L c v):AR w Z' L (c.fbA id cs) v:=by
 cases c with
 |agg l=>
   obtain⟨vs,h1,h2,h3⟩:=h
   refine⟨vs,h1,by simpa using h2,fun j c hj=> ?_⟩
   rw[List.getElem?_map]at hj
   obtain⟨c',h4,rfl⟩:=Option.map_eq_some_iff.1 hj
   exact⟨(h3 j c' h4).1.fb hB hz hid hp,(h3 j c' h4).2⟩
 |_=>exact AR.cr (CR.fb hB hz hid hp (AR.toCR (by simp) h))
theorem VR.fb{Z' :Zone}(hB:BR w Z L id cs)(hz: ∀p b,Z p b->Z' p b)(hid:Z' true (L.bx id))(hp:cs.all qbM=true)(h:VR w Z L c v):VR w Z' L (c.fbV id cs) v:=by
 cases c with
 |tup l=>
   obtain⟨vs,h1,h2,h3⟩:=h
   refine⟨vs,h1,by simpa using h2,fun j c hj=> ?_⟩
   rw[List.getElem?_map]at hj
   obtain⟨c',h4,rfl⟩:=Option.map_eq_some_iff.1 hj
   exact(h3 j c' h4).fb hB hz hid hp
 |_=>exact VR.ar (AR.fb hB hz hid hp (VR.toAR (by simp) h))
theorem Inv.frzB {s : List (Nat × PV)} {b : List (Nat × List PV)} {aa : List (Nat × Arr)} (h : Inv w0 Z0 N Z L ⟨s, b, aa, []⟩ a w) (hb : lk b id = some cs) (hp : cs.all qbM = true) :
  ∃Z',Inv w0 Z0 N Z' L ⟨s.map fun x=>(x.1,x.2.fbV id cs),rm (b.map fun x=>(x.1,x.2.map (PV.fb id cs))) id,aa,[]⟩ a w:=by
 have hB:=h.boxes id cs hb
 obtain⟨o1,o2,o3⟩:=h.ownb id cs hb
 have hk:Kept Z w w:=⟨fun _ _ _=>rfl⟩
 have hz: ∀p b,Z p b->(Z p b\/b=L.bx id):=fun _ _ h=> .inl h
 have hR:=h.rest.keep (Z' :=fun p b=>Z p b\/b=L.bx id) hk hz (fun b o p hb hc hp=>hp.elim (fun e=>e) (fun e=>absurd e (hB.notCells hb hc))) (fun _ _ _ _=>rfl) (Nat.le_refl _) (LSame.refl L) (m' :=[])
  (fun i M hM=>by cases hM)
 have key: ∀i u,lk (rm (b.map fun x=>(x.1,x.2.map (PV.fb id cs))) id) i=some u->id≠i/\ ∃u',lk b i=some u' /\u=u'.map (PV.fb id cs):=fun i u hl=>by
  rw[qa4]at hl
  split at hl
  ·cases hl
  ·rename_i e
   exact⟨e,qbK b _ i u hl⟩
 refine⟨fun p b=>Z p b\/b=L.bx id,fun b hb=>hb.imp (h.zt b) (fun e=>e),fun p b hp=> .inl (h.z0 p b hp),?_,?_,h.below,?_,?_,?_,?_,?_,?_,?_,hR.1,hR.2.1,hR.2.2.1,hR.2.2.2.1,h.yb,h.size,hR.2.2.2.2,?_⟩
 ·rintro p b (hp|rfl)
  ·exact h.zn p b hp
  ·exact .inr o1
 ·rintro p b (hp|rfl)
  ·exact h.zb p b hp
  ·exact o2
 ·intro i u hl
  obtain⟨e,u',h1,_⟩:=key i u hl
  obtain⟨p1,p2,p3⟩:=h.ownb i u' h1
  exact⟨p1,p2,fun p hp=>hp.elim (p3 p) (fun e' =>e (h.injb i id u' cs h1 hb e').symm)⟩
 ·intro i A hl
  obtain⟨p1,p2,p3⟩:=h.owna i A hl
  exact⟨p1,p2,fun p hp=>hp.elim (p3 p) (fun e=>h.injx id i cs A hb hl e.symm)⟩
 ·intro i j x y hx hy
  obtain⟨_,u,h1,_⟩:=key i x hx
  obtain⟨_,u',h2,_⟩:=key j y hy
  exact h.injb i j u u' h1 h2
 ·exact fun i j x y hx hy=>h.inja i j x y hx hy
 ·intro i j x y hx hy
  obtain⟨_,u,h1,_⟩:=key i x hx
  exact h.injx i j u y h1 hy
 ·intro i x hl
  obtain⟨_,u,h1,rfl⟩:=key i x hl
  obtain⟨vs,T,h2,h3,h4⟩:=h.boxes i u h1
  refine⟨vs,T,h2,by simpa using h3,fun j c hj=> ?_⟩
  rw[List.getElem?_map]at hj
  obtain⟨c',h5,rfl⟩:=Option.map_eq_some_iff.1 hj
  exact⟨(h4 j c' h5).1.fb hB hz (.inr rfl) hp,(h4 j c' h5).2⟩
 ·intro i A hl
  obtain⟨cur,hc⟩:=h.arrs i A hl
  exact⟨cur,hc.keep hk hz rfl (LSame.refl L) rfl⟩
 ·intro i v hl
  obtain⟨u,h1,rfl⟩:=qbK s _ i v hl
  exact(h.slots i u h1).fb hB hz (.inr rfl) hp
end
theorem SWk.frzB {s s' : List (Nat × PV)} {b b' : List (Nat × List PV)} {a : List (Nat × Arr)} {cs : List PV} (id : Nat) (hb : lk b id = some cs) (hp : cs.all qbM = true)
  (hs:(s.map fun x=>(x.1,x.2.fbV id cs))=s') (hb' :rm (b.map fun x=>(x.1,x.2.map (PV.fb id cs))) id=b'):SWk ⟨s,b,a,[]⟩ ⟨s',b',a,[]⟩:=fun _ _ _ _ _ ⟨_,L,h⟩=>by
 obtain⟨Z',h'⟩:=h.frzB hb hp
 rw[hs,hb']at h'
 exact⟨Z',L,h'⟩
theorem SWk.dropS{s:List (Nat×PV)}{b:List (Nat×List PV)}{a:List (Nat×Arr)}{m:List (Nat×Mp)}(ps pb pa:Nat->Bool):SWk ⟨s,b,a,m⟩ ⟨s.filter (fun x=>ps x.1),b.filter (fun x=>pb x.1),a.filter (fun x=>pa x.1),m⟩:=fun _ _ _ _ _ ⟨Z,L,h⟩=>
 ⟨Z,L,h.forget (fun i v hl=> .inl (qa8 _ _ (fun _ _=>rfl) i v hl)) (fun i v hl=>qa8 _ _ (fun _ _=>rfl) i v hl) (fun i v hl=>qa8 _ _ (fun _ _=>rfl) i v hl) (fun _ _ hl=>hl)⟩
theorem qFU{α:Type}{p q:Bool}{es:Nat}{l:List α}(f g:α->List PV)(hq:q=true->p=true)(h1: ∀x∈l,(f x).length=(g x).length)(h2: ∀x∈l,SubL (f x) (g x)):Sub (.sl p es (l.map f)) (.sl q es (l.map g)):=by
 refine .sl p q es _ _ hq (by simp) (fun i x y hx hy=> ?_) fun i x y j c d hx hy hc hd=> ?_
 ·rw[List.getElem?_map]at hx hy
  obtain⟨a,ha,rfl⟩:=Option.map_eq_some_iff.1 hx
  rw[ha]at hy
  cases hy
  exact h1 a (List.mem_of_getElem? ha)
 ·rw[List.getElem?_map]at hx hy
  obtain⟨a,ha,rfl⟩:=Option.map_eq_some_iff.1 hx
  rw[ha]at hy
  cases hy
  exact(h2 a (List.mem_of_getElem? ha)).at j c d hc hd
def rowP:Option (List (List PV))->PV
 |none=> .nil
 |some r=> .sl true 1 r
theorem qFY(id:Nat)(A:Arr): ∀(l:List (Option (List (List PV)))),(l.map rowP).map (PV.fz id A)=l.map rowP
 |[]=>rfl
 |none::r=>by simp only[List.map_cons,qFY id A r];rfl
 |some x::r=>by simp only[List.map_cons,qFY id A r];rfl
theorem qFZ(id:Nat)(A:Arr): ∀(k:Nat) (rs:List (Option (List (List PV)))),id<k->(qAR k rs).map (PV.fz id A)=qAR k rs
 |_,[],_=>rfl
 | k, r :: rs, h => by
   rw[qAR,List.map_cons,qFZ id A (k+1) rs (by omega)]
   congr 1
   cases r with
   |none=>rfl
   |some r=>simp only[rowC,PV.fz,if_neg (show k≠id by omega)]
theorem SWk.frzRows {s : List (Nat × PV)} {b1 b2 : List (Nat × List PV)} {id k ty : Nat} : ∀ (rs0 rs : List (Option (List (List PV)))) (_ : ∀ j, k <= j -> farL j s) (_ : ∀ j, k <= j -> refB nul (isId j) b1 = false) (_ : ∀ j, k <= j -> refB nul (isId j) b2 = false),
  SWk ⟨s,b1++(id,rs0.map rowP++qAR (k+rs0.length) rs)::b2,qAS 1 ty (k+rs0.length) rs,[]⟩ ⟨s,b1++(id,(rs0++rs).map rowP)::b2,[],[]⟩
 | rs0, [], hs, h1, h2 => by
   rw[List.append_nil,qAR,List.append_nil]
   exact SWk.refl _
 | rs0, none :: rs, hs, h1, h2 => by
   have h:=SWk.frzRows (rs0++[none]) rs hs h1 h2 (id:=id) (ty:=ty)
   rw[List.length_append,List.map_append,List.append_assoc,List.append_assoc]at h
   exact h
 | rs0, some r :: rs, hs, h1, h2 => by
   have h:=SWk.frzRows (rs0++[some r]) rs hs h1 h2 (id:=id) (ty:=ty)
   rw[List.length_append,List.map_append,List.append_assoc,List.append_assoc]at h
   refine SWk.trans ?_ h
   have hf:=SWk.frz ⟨s,b1++(id,rs0.map rowP++qAR (k+rs0.length) (some r::rs))::b2,qAS 1 ty (k+rs0.length) (some r::rs),[]⟩ (k+rs0.length)
   have e1: ∀b:List (Nat×List PV),refB nul (isId (k+rs0.length)) b=false->fzB (k+rs0.length) ⟨1,ty,r⟩ b=b:=by
    intro b
    induction b with
    |nil=>exact fun _=>rfl
    |cons x b ih=>
      obtain⟨i,v⟩:=x
      intro h
      rw[qin,Bool.or_eq_false_iff]at h
      rw[qjN,h.1,ih h.2];rfl
   have e2:fzS (k+rs0.length) ⟨1,ty,r⟩ s=s:=by
    have:=hs (k+rs0.length) (by omega)
    clear hf hs h
    induction s with
    |nil=>rfl
    |cons x s ih=>
      obtain⟨i,v⟩:=x
      rw[qCN]at this
      rw[qjL,this.1.2,ih this.2];rfl
   have e3: ∀b c:List (Nat×List PV),fzB (k+rs0.length) ⟨1,ty,r⟩ (b++c)=fzB (k+rs0.length) ⟨1,ty,r⟩ b++fzB (k+rs0.length) ⟨1,ty,r⟩ c:=fun b c=>by
    rw[<- qk5,<- qk5,<- qk5,List.map_append]
   have e4: ∀v:List PV,(bif anyT nul (isId (k+rs0.length)) v then fzL (k+rs0.length) ⟨1,ty,r⟩ v else v)=v.map (PV.fz (k+rs0.length) ⟨1,ty,r⟩):=fun v=>by
    cases hv:anyT nul (isId (k+rs0.length)) v
    ·rw[qjY,qk1 _ _ hv];rfl
    ·rw[qjY];rfl
   rw[qk8,qAS,lk,if_pos rfl,qk6,qF2,qF3 _ _ _ _ _ (by omega),e2,e3,qjN,e1 b1 (h1 _ (by omega)),e1 b2 (h2 _ (by omega)),e4,List.map_append,qFY,qAR,List.map_cons,qFZ _ _ _ _ (by omega)]at hf
   have e5:PV.fz (k+rs0.length) ⟨1,ty,r⟩ (rowC (k+rs0.length) (some r))= .sl true 1 r:=by
    simp[rowC,PV.fz]
   rw[e5]at hf
   exact hf
end Go.Vc
