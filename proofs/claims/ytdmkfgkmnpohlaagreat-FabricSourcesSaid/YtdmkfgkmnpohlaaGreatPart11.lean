/- GB FA FB Q DA S R DB DC DD TxtG T U V W X Y Z ZA TxtJ: lemmas -/
import Derived.Test.YtdmkfgkmnpohlaaGreatPart10
import Derived.Test.YtdmkfgkmnpohlaaGreatPart01
import Derived.Test.YtdmkfgkmnpohlaaGreatPart06
import Derived.Test.YtdmkfgkmnpohlaaGreatChecked
set_option linter.unusedSimpArgs false
set_option linter.unusedVariables false
open Nat (reduceEqDiff reduceAdd reduceSub reduceMul reduceLT reduceLeDiff)
open Int (reduceToNat reduceNeg)
namespace Go.Proofs.YtdmkfgkmnpohlaaGreat
open Go Go.Vc Txt
def arrC(q:Bool)(c:Cfg)(sp:List Spot)(fi dr:List Int)(s:PSt)(pd:List Bool):List PV:=cfgC q c++[.sl q 4 (rows quz sp),.sl q 1 (ints fi),.sl q 1 (ints dr)]++pstC q s++[.sl q 1 (rows qk7 pd)]
@[push_cast] theorem qxa(q:Bool)(c:Cfg)(sp:List Spot)(fi dr:List Int)(s:PSt)(pd:List Bool):arrC q c sp fi dr s pd=
 [.sl q 1 (ints c.sel),.sl q 1 (ints c.mode),.sl q 1 (ints c.tab),.sl q 1 (ints c.ram),.sl q 4 (rows quz sp),.sl q 1 (ints fi),.sl q 1 (ints dr),.sl q 1 (ints s.regs),.sl q 1 (rows (memC q) s.mems),.sl q 1 (rows qk7 pd)]:=rfl
section
variable (c:Cfg) (sp:List Spot) (fi dr:List Int) (s:PSt) (pd:List Bool)
theorem qxb(t:Int)(ht:0<=t/\t<c.tab.length)(p:List Bool)(hp:p.length=4):FnEq Tryz.prog 53 [.iptr false (arrC false c sp fi dr s pd) 0,.int t,.sl false 1 (rows qk7 p)] (.bool (qwU (c.tab.getD t.toNat 0) p)):=by
 have e0: ∀(l:List Int) (j:Nat),l.getD j default=l.getD j 0:=fun _ _=>rfl
 refine FnEq.of_awp Tryz.func53 ok53 (by show 3<=_;decide) (by simp only[push_cast,reduceIte,reduceEqDiff,reduceAdd,reduceSub,reduceMul,Nat.reduceBEq,reduceLT,reduceLeDiff,reduceCtorEq,reduceToNat,reduceNeg]<;>first|exact fun _ _=>trivial|simp) ?_
 simp only[ac53,rv53,push_cast,reduceIte,reduceEqDiff,reduceAdd,reduceSub,reduceMul,Nat.reduceBEq,reduceLT,reduceLeDiff,reduceCtorEq,reduceToNat,reduceNeg]
 simp only[e0,push_cast,reduceIte,reduceEqDiff,reduceAdd,reduceSub,reduceMul,Nat.reduceBEq,reduceLT,reduceLeDiff,reduceCtorEq,reduceToNat,reduceNeg]
 refine⟨by omega,by omega,?_⟩
 refine qrm (qx3 (c.tab.getD t.toNat 0) p hp) sC ?_
 exact sC
theorem qxc(a t i:PV):FnEq Tryz.prog 52 [a,t,i] (.bool false):=by
 refine FnEq.of_awp Tryz.func52 ok52 (by show 3<=_;decide) (by simp only[push_cast,reduceIte,reduceEqDiff,reduceAdd,reduceSub,reduceMul,Nat.reduceBEq,reduceLT,reduceLeDiff,reduceCtorEq,reduceToNat,reduceNeg]<;>first|exact fun _ _=>trivial|simp) ?_
 simp only[ac52,rv52,push_cast,reduceIte,reduceEqDiff,reduceAdd,reduceSub,reduceMul,Nat.reduceBEq,reduceLT,reduceLeDiff,reduceCtorEq,reduceToNat,reduceNeg]
theorem qxd(a t:PV):FnEq Tryz.prog 51 [a,t] (.bool false):=by
 refine FnEq.of_awp Tryz.func51 ok51 (by show 2<=_;decide) (by simp only[push_cast,reduceIte,reduceEqDiff,reduceAdd,reduceSub,reduceMul,Nat.reduceBEq,reduceLT,reduceLeDiff,reduceCtorEq,reduceToNat,reduceNeg]<;>first|exact fun _ _=>trivial|simp) ?_
 simp only[ac51,rv51,push_cast,reduceIte,reduceEqDiff,reduceAdd,reduceSub,reduceMul,Nat.reduceBEq,reduceLT,reduceLeDiff,reduceCtorEq,reduceToNat,reduceNeg]
theorem qxe(t:Int)(ht:0<=t/\t<c.ram.length)(hr:0<=c.ram.getD t.toNat 0/\c.ram.getD t.toNat 0<=255):FnEq Tryz.prog 54 [.iptr false (arrC false c sp fi dr s pd) 0,.int t] (.bool (qwT s.regs (c.ram.getD t.toNat 0/8) (c.ram.getD t.toNat 0%8))):=by
 have e0: ∀(l:List Int) (j:Nat),l.getD j default=l.getD j 0:=fun _ _=>rfl
 refine FnEq.of_awp Tryz.func54 ok54 (by show 2<=_;decide) (by simp only[push_cast,reduceIte,reduceEqDiff,reduceAdd,reduceSub,reduceMul,Nat.reduceBEq,reduceLT,reduceLeDiff,reduceCtorEq,reduceToNat,reduceNeg]<;>first|exact fun _ _=>trivial|simp) ?_
 simp only[ac54,rv54,push_cast,reduceIte,reduceEqDiff,reduceAdd,reduceSub,reduceMul,Nat.reduceBEq,reduceLT,reduceLeDiff,reduceCtorEq,reduceToNat,reduceNeg]
 simp only[e0,push_cast,reduceIte,reduceEqDiff,reduceAdd,reduceSub,reduceMul,Nat.reduceBEq,reduceLT,reduceLeDiff,reduceCtorEq,reduceToNat,reduceNeg]
 refine⟨by omega,by omega,by omega,by omega,by omega,by omega,?_⟩
 have hB:=qx2 s.regs (c.ram.getD t.toNat 0/8) (c.ram.getD t.toNat 0%8) (by omega) (by omega)
 refine qrm hB sC ?_
 exact sC
theorem qxf(t:Int)(ht:0<=t/\t<c.ram.length)(hr:0<=c.ram.getD t.toNat 0/\c.ram.getD t.toNat 0<=255)(p:List Bool)(hp:p.length=4):FnEq Tryz.prog 56 [.iptr false (arrC false c sp fi dr s pd) 0,.int t,.sl false 1 (rows qk7 p)] (.bool (ramF s (c.ram.getD t.toNat 0) p)):=by
 have e0: ∀(l:List Int) (j:Nat),l.getD j default=l.getD j 0:=fun _ _=>rfl
 have e1: ∀(l:List Bool) (j:Nat),l.getD j default=l.getD j false:=fun _ _=>rfl
 refine FnEq.of_awp Tryz.func56 ok56 (by show 3<=_;decide) (by simp only[push_cast,reduceIte,reduceEqDiff,reduceAdd,reduceSub,reduceMul,Nat.reduceBEq,reduceLT,reduceLeDiff,reduceCtorEq,reduceToNat,reduceNeg]<;>first|exact fun _ _=>trivial|simp) ?_
 simp only[ac56,rv56,push_cast,reduceIte,reduceEqDiff,reduceAdd,reduceSub,reduceMul,Nat.reduceBEq,reduceLT,reduceLeDiff,reduceCtorEq,reduceToNat,reduceNeg]
 simp only[e0,push_cast,reduceIte,reduceEqDiff,reduceAdd,reduceSub,reduceMul,Nat.reduceBEq,reduceLT,reduceLeDiff,reduceCtorEq,reduceToNat,reduceNeg]
 refine⟨by omega,by omega,by omega,by omega,?_⟩
 have h3:(p.take 3).length=3:=by rw[List.length_take];omega
 refine qoH (fun m st=> ∃k:Nat,k<=3/\m=3-k/\st=⟨[(0,.iptr false (arrC false c sp fi dr s pd) 0),(1,.int t),(7,.int (c.ram.getD t.toNat 0/8)),(8,.int (atN p k)),(21,.sl false 1 (rows qk7 (p.take 3))),(22,.int 3),(23,.int k)],[],[],[]⟩) 3 ?_ ?_
 ·refine⟨0,by omega,by omega,?_⟩
  simp only[atN,h3,push_cast,reduceIte,reduceEqDiff,reduceAdd,reduceSub,reduceMul,Nat.reduceBEq,reduceLT,reduceLeDiff,reduceCtorEq,reduceToNat,reduceNeg]
  try rfl
 rintro m st ⟨k,hk,rfl,rfl⟩
 simp only[e1,push_cast,reduceIte,reduceEqDiff,reduceAdd,reduceSub,reduceMul,Nat.reduceBEq,reduceLT,reduceLeDiff,reduceCtorEq,reduceToNat,reduceNeg]
 refine qnR (fun h=> ?_) fun h=> ?_
 ·have e : (p.take 3).getD k false = p.getD k false := by
   rw[List.getD_eq_getElem?_getD,List.getElem?_take,if_pos (by omega),<- List.getD_eq_getElem?_getD]
  rw[e]
  refine⟨by omega,by omega,?_⟩
  refine qnQ (fun e=> ?_) fun e=> ?_
  ·refine⟨by omega,by omega,_,?_,k+1,by omega,rfl,?_⟩
   ·omega
   ·rw[atN,if_pos e]
    simp
  ·refine⟨by omega,_,?_,k+1,by omega,rfl,?_⟩
   ·omega
   ·rw[atN,if_neg (by rw[e];decide)]
    simp
 ·have hk3:k=3:=by omega
  subst hk3
  have e2: ∀(l:List (List Int)) (j:Nat),l.getD j default=l.getD j []:=fun _ _=>rfl
  have hat:=qx0 hp (k:=3) (by omega)
  unfold ramF
  refine qru rfl (fun h1=> ?_) fun h1=> ?_<;>simp only[e0,e2,push_cast,reduceIte,reduceEqDiff,reduceAdd,reduceSub,reduceMul,Nat.reduceBEq,reduceLT,reduceLeDiff,reduceCtorEq,reduceToNat,reduceNeg]
  ·rw[if_pos h1]
   refine⟨by omega,by omega,by omega,by omega,by omega,?_⟩
   have hB:=qx2 (s.mems.getD (c.ram.getD t.toNat 0/8).toNat []) (atN p 3) (c.ram.getD t.toNat 0%8) hat (by omega)
   refine qrm hB sC ?_
   exact sC
  ·rw[if_neg h1]
def qxg:List PV:=[.sc (.func (.func 52) #[] #[]),.sc (.func (.func 51) #[] #[]),.int 0,.sc (.func (.func 53) #[] #[]),.sc (.func (.func 51) #[] #[]),.int 4,
 .sc (.func (.func 53) #[] #[]),.sc (.func (.func 54) #[] #[]),.int 4,.sc (.func (.func 56) #[] #[]),.sc (.func (.func 51) #[] #[]),.int 3]
@[push_cast] theorem qxh:qxg=[.sc (.func (.func 52) #[] #[]),.sc (.func (.func 51) #[] #[]),.int 0,.sc (.func (.func 53) #[] #[]),.sc (.func (.func 51) #[] #[]),.int 4,
 .sc (.func (.func 53) #[] #[]),.sc (.func (.func 54) #[] #[]),.int 4,.sc (.func (.func 56) #[] #[]),.sc (.func (.func 51) #[] #[]),.int 3]:=rfl
theorem qxi:FnEq Tryz.prog 28 [] (.agg qxg):=by
 refine FnEq.of_awp Tryz.func28 ok28 (by show 0<=_;decide) (by simp only[push_cast,reduceIte,reduceEqDiff,reduceAdd,reduceSub,reduceMul,Nat.reduceBEq,reduceLT,reduceLeDiff,reduceCtorEq,reduceToNat,reduceNeg]<;>first|exact fun _ _=>trivial|simp) ?_
 simp only[ac28,rv28,push_cast,reduceIte,reduceEqDiff,reduceAdd,reduceSub,reduceMul,Nat.reduceBEq,reduceLT,reduceLeDiff,reduceCtorEq,reduceToNat,reduceNeg]
 done
end
end Go.Proofs.YtdmkfgkmnpohlaaGreat
namespace Go.Proofs.YtdmkfgkmnpohlaaGreat
def qxj(R:List Bool->Nat->Bool)(n:Nat)(v:List Bool):List Bool:=(List.range n).map (R v)
def qxk(R:List Bool->Nat->Bool)(n:Nat):Nat->List Bool->List Bool
 |0,v=>v
 |k+1,v=>qxk R n k (qxj R n v)
def qxl(R:List Bool->Nat->Bool)(n:Nat):Nat->List Bool->List Bool
 |0,v=>v
 |k+1,v=>if qxj R n v=v then v else qxl R n k (qxj R n v)
theorem qxm(R:List Bool->Nat->Bool)(n:Nat)(v:List Bool):(qxj R n v).length=n:=by simp[qxj]
theorem qxn(R:List Bool->Nat->Bool)(n:Nat): ∀(k:Nat) (v:List Bool),v.length=n->(qxk R n k v).length=n
 |0,_,h=>h
 |k+1,v,_=>qxn R n k _ (qxm R n v)
theorem qxo{R:List Bool->Nat->Bool}{n:Nat}{v:List Bool}(h:qxj R n v=v): ∀k,qxk R n k v=v
 |0=>rfl
 |k+1=>by rw[qxk,h,qxo h k]
theorem qxp(R:List Bool->Nat->Bool)(n:Nat): ∀(k:Nat) (v:List Bool),qxk R n (k+1) v=qxj R n (qxk R n k v)
 |0,_=>rfl
 |k+1,v=>by rw[qxk,qxp R n k,<- qxk]
theorem qxq(R:List Bool->Nat->Bool)(n:Nat): ∀(k:Nat) (v:List Bool),qxl R n k v=qxk R n k v
 |0,_=>rfl
 | k + 1, v => by
   rw[qxl]
   split
   ·rename_i h;rw[qxo h]
   ·rw[qxq R n k,qxk]
structure Loc (R:List Bool->Nat->Bool) (dep:Nat->List Nat) (n:Nat):Prop where
 loc: ∀v w i,i<n->(∀j∈dep i,v.getD j false=w.getD j false)->R v i=R w i
 rng: ∀i,i<n-> ∀j∈dep i,j<n
structure Rank (dep:Nat->List Nat) (n:Nat) (ρ:Nat->Nat):Prop where
 lt: ∀i,i<n->ρ i<n
 dec: ∀i,i<n-> ∀j∈dep i,ρ j<ρ i
theorem qxr{R:List Bool->Nat->Bool}{n:Nat}{v:List Bool}{i:Nat}(h:i<n)(d:Bool):(qxj R n v).getD i d=R v i:=by
 rw[List.getD_eq_getElem?_getD,qxj,List.getElem?_map,List.getElem?_range h];rfl
theorem qxs{R:List Bool->Nat->Bool}{dep:Nat->List Nat}{n:Nat}{ρ:Nat->Nat}(hL:Loc R dep n)(hR:Rank dep n ρ)(v w:List Bool): ∀k i,i<n->ρ i<k->(qxk R n k v).getD i false=(qxk R n k w).getD i false
 |0,_,_,h=>absurd h (Nat.not_lt_zero _)
 | k + 1, i, hi, h => by
   rw[qxp,qxp,qxr hi,qxr hi]
   refine hL.loc _ _ i hi fun j hj=>qxs hL hR v w k j (hL.rng i hi j hj) ?_
   have:=hR.dec i hi j hj
   omega
theorem qxt{l m:List Bool}{n:Nat}(h1:l.length=n)(h2:m.length=n)(h: ∀i,i<n->l.getD i false=m.getD i false):l=m:=by
 refine List.ext_getElem? fun i=> ?_
 by_cases hi:i<n
 ·have:=h i hi
  rw[List.getD_eq_getElem?_getD,List.getD_eq_getElem?_getD,List.getElem?_eq_getElem (by omega),List.getElem?_eq_getElem (by omega)]at this
  rw[List.getElem?_eq_getElem (by omega),List.getElem?_eq_getElem (by omega)]
  simpa using this
 ·rw[List.getElem?_eq_none (by omega),List.getElem?_eq_none (by omega)]
theorem qxu{R:List Bool->Nat->Bool}{dep:Nat->List Nat}{n:Nat}{ρ:Nat->Nat}(hL:Loc R dep n)(hR:Rank dep n ρ){v w:List Bool}(hv:v.length=n)(hw:w.length=n):qxk R n n v=qxk R n n w:=
 qxt (qxn R n n v hv) (qxn R n n w hw) fun i hi=>qxs hL hR v w n i hi (hR.lt i hi)
theorem qxv{R:List Bool->Nat->Bool}{dep:Nat->List Nat}{n:Nat}{ρ:Nat->Nat}(hL:Loc R dep n)(hR:Rank dep n ρ){v:List Bool}(hv:v.length=n):qxj R n (qxk R n n v)=qxk R n n v:=by
 rw[<- qxp,qxk]
 exact qxu hL hR (qxm R n v) hv
def qxw(dep:Nat->List Nat)(f:List Bool)(i:Nat):Bool:= !f.getD i false&&(dep i).all fun j=>f.getD j false
def qxx(dep:Nat->List Nat)(f:List Bool)(i:Nat):List Bool:=if qxw dep f i=true then f.set i true else f
def qxy(dep:Nat->List Nat)(f:List Bool):Nat->List Bool
 |0=>f
 |k+1=>qxx dep (qxy dep f k) k
def qxz(dep:Nat->List Nat)(n:Nat):Nat->List Bool
 |0=>List.replicate n false
 |k+1=>qxy dep (qxz dep n k) n
structure Ord (dep:Nat->List Nat) (n:Nat) (f:List Bool) (o:List Nat):Prop where
 len:f.length=n
 nod:o.Nodup
 mem: ∀i,f.getD i false=true ↔ i∈o
 rng: ∀i∈o,i<n
 dep: ∀k,k<o.length-> ∀j∈dep (o.getD k 0),j∈o.take k
theorem qxA: ∀ {l1 l2:List Nat},l1.Nodup->(∀x∈l1,x∈l2)->l1.length<=l2.length
 |[],_,_,_=>Nat.zero_le _
 | x :: l1, l2, h, hs => by
   rw[List.nodup_cons]at h
   have hx:=hs x (by simp)
   have h1:=qxA (l1:=l1) (l2:=l2.erase x) h.2 fun y hy=>(List.mem_erase_of_ne (fun e=>h.1 (by rw[<- e];exact hy))).2 (hs y (by simp[hy]))
   rw[List.length_erase_of_mem hx]at h1
   have:=List.length_pos_of_mem hx
   rw[List.length_cons]
   omega
theorem Ord.cnt{dep:Nat->List Nat}{n:Nat}{f:List Bool}{o:List Nat}(h:Ord dep n f o):o.length<=n:=by
 have:=qxA (l2:=List.range n) h.nod fun i hi=>List.mem_range.2 (h.rng i hi)
 simpa using this
theorem qxB(l:List Bool)(i j:Nat)(v:Bool):(l.set i v).getD j false=if i=j/\i<l.length then v else l.getD j false:=by
 rw[List.getD_eq_getElem?_getD,List.getElem?_set,List.getD_eq_getElem?_getD]
 by_cases h:i=j
 ·subst h
  by_cases h2:i<l.length<;>simp[h2]
 ·simp[h]
theorem Ord.mark{dep:Nat->List Nat}{n:Nat}{f:List Bool}{o:List Nat}(h:Ord dep n f o){i:Nat}(hi:i<n): ∃o',Ord dep n (qxx dep f i) o' /\o'.length=o.length+(if qxw dep f i=true then 1 else 0):=by
 unfold qxx
 by_cases hm:qxw dep f i=true
 ·rw[if_pos hm,if_pos hm]
  simp only[qxw,Bool.and_eq_true,Bool.not_eq_true',List.all_eq_true]at hm
  obtain⟨h1,h2⟩:=hm
  have hni:i∉o:=fun e=>by rw[(h.mem i).2 e]at h1;cases h1
  refine⟨o++[i],⟨by simp[h.len],?_,fun j=> ?_,fun j hj=> ?_,fun k hk j hj=> ?_⟩,by simp⟩
  ·rw[List.nodup_append]
   exact⟨h.nod,by simp,fun a ha b hb e=>hni (by rw[List.mem_singleton]at hb;subst hb;subst e;exact ha)⟩
  ·rw[qxB,List.mem_append,List.mem_singleton,<- h.mem j]
   by_cases e:i=j
   ·subst e;simp[h.len,hi]
   ·rw[if_neg (fun q=>e q.1)];exact⟨.inl,fun q=>q.elim id fun q=>absurd q.symm e⟩
  ·rcases List.mem_append.1 hj with hj|hj
   ·exact h.rng j hj
   ·rw[List.mem_singleton]at hj;omega
  ·rw[List.length_append,List.length_singleton]at hk
   by_cases e:k<o.length
   ·rw[List.getD_eq_getElem?_getD,List.getElem?_append_left e,<- List.getD_eq_getElem?_getD]at hj
    rw[List.take_append_of_le_length (by omega)]
    exact h.dep k e j hj
   ·have ek:k=o.length:=by omega
    subst ek
    rw[List.getD_eq_getElem?_getD,List.getElem?_append_right (Nat.le_refl _),Nat.sub_self]at hj
    rw[List.take_left' rfl]
    exact(h.mem j).1 (h2 j hj)
 ·rw[if_neg hm,if_neg hm]
  exact⟨o,h,rfl⟩
def cntN(dep:Nat->List Nat)(f:List Bool):Nat->Nat
 |0=>0
 |k+1=>cntN dep f k+if qxw dep (qxy dep f k) k=true then 1 else 0
def cntM(dep:Nat->List Nat)(n:Nat):Nat->Nat
 |0=>0
 |k+1=>cntM dep n k+cntN dep (qxz dep n k) n
theorem Ord.sweep{dep:Nat->List Nat}{n:Nat}{f:List Bool}{o:List Nat}(h:Ord dep n f o): ∀k,k<=n-> ∃o',Ord dep n (qxy dep f k) o' /\o'.length=o.length+cntN dep f k
 |0,_=>⟨o,h,rfl⟩
 | k + 1, hk => by
   obtain⟨o1,h1,e1⟩:=Ord.sweep h k (by omega)
   obtain⟨o2,h2,e2⟩:=h1.mark (i:=k) (by omega)
   exact⟨o2,h2,by rw[e2,e1,cntN];omega⟩
theorem qxC(dep:Nat->List Nat)(n:Nat): ∀k,∃o,Ord dep n (qxz dep n k) o/\o.length=cntM dep n k
 | 0 => ⟨[], ⟨by simp [qxz], by simp, fun i => by
   rw[qxz,List.getD_eq_getElem?_getD,List.getElem?_replicate]
   split<;>simp,by simp,fun k hk=>by simp at hk⟩,rfl⟩
 | k + 1 => by
   obtain⟨o1,h1,e1⟩:=qxC dep n k
   obtain⟨o2,h2,e2⟩:=h1.sweep n (Nat.le_refl _)
   exact⟨o2,h2,by rw[e2,e1,cntM]⟩
structure Stuck (dep:Nat->List Nat) (n:Nat) (U:Nat->Prop):Prop where
 ne: ∃i,i<n/\U i
 on: ∀i,i<n->U i-> ∃j∈dep i,U j
theorem qxG{dep:Nat->List Nat}{n:Nat}(h:cntM dep n (n+1)=n): ∃ρ,Rank dep n ρ:=by
 obtain⟨o,h1,h2⟩:=qxC dep n (n+1)
 rw[h]at h2
 have hall: ∀i,i<n->i∈o:=fun i hi=>Classical.byContradiction fun hno=>by
  have:=qxA (l1:=i::o) (l2:=List.range n) (List.nodup_cons.2 ⟨hno,h1.nod⟩) fun j hj=>List.mem_range.2 (by
   rcases List.mem_cons.1 hj with rfl|hj
   ·exact hi
   ·exact h1.rng j hj)
  simp at this
  omega
 refine⟨fun i=>o.idxOf i,fun i hi=>by have:=List.idxOf_lt_length_of_mem (hall i hi);omega,fun i hi j hj=> ?_⟩
 have hk:=List.idxOf_lt_length_of_mem (hall i hi)
 have hg:o.getD (o.idxOf i) 0=i:=by rw[List.getD_eq_getElem?_getD,List.getElem?_eq_getElem hk];simp
 have:=h1.dep _ hk j (by rw[hg];exact hj)
 obtain⟨m,hm,e⟩:=List.getElem_of_mem this
 rw[List.length_take]at hm
 rw[List.getElem_take]at e
 have hji:o.idxOf j=m:=by rw[<- e];exact h1.nod.idxOf_getElem m (by omega)
 omega
end Go.Proofs.YtdmkfgkmnpohlaaGreat
namespace Go.Proofs.YtdmkfgkmnpohlaaGreat
def dfsL(f:List Int->Nat->Bool×List Int):List Int->List Nat->Bool×List Int
 |st,[]=>(false,st)
 |st,j::js=>if(f st j).1=true then(true,(f st j).2)else dfsL f (f st j).2 js
def dfs(dep:Nat->List Nat):Nat->List Int->Nat->Bool×List Int
 |0,st,i=>(decide (st.getD i 0=1),st)
 |k+1,st,i=>
   if st.getD i 0≠0 then(decide (st.getD i 0=1),st)
   else if(dfsL (dfs dep k) (st.set i 1) (dep i)).1=true then(true,(dfsL (dfs dep k) (st.set i 1) (dep i)).2)
   else(false,(dfsL (dfs dep k) (st.set i 1) (dep i)).2.set i 2)
def qxJ(dep:Nat->List Nat)(n:Nat):Bool:=(dfsL (dfs dep n) (List.replicate n 0) (List.range n)).1
theorem qxL(dep:Nat->List Nat): ∀(k:Nat) (st:List Int) (i:Nat),(dfs dep k st i).2.length=st.length
 |0,_,_=>rfl
 | k + 1, st, i => by
   have hL: ∀(js:List Nat) (s:List Int),(dfsL (dfs dep k) s js).2.length=s.length:=by
    intro js
    induction js with
    |nil=>intro s;rfl
    |cons j js ih=>
      intro s
      rw[dfsL]
      split
      ·exact qxL dep k s j
      ·rw[ih,qxL dep k s j]
   rw[dfs]
   split
   ·rfl
   ·split
    ·rw[hL,List.length_set]
    ·rw[List.length_set,hL,List.length_set]
theorem qxM(dep:Nat->List Nat)(k:Nat): ∀(js:List Nat) (s:List Int),(dfsL (dfs dep k) s js).2.length=s.length
 |[],_=>rfl
 | j :: js, s => by
   rw[dfsL]
   split
   ·exact qxL dep k s j
   ·rw[qxM dep k js,qxL dep k s j]
def qxO(st:List Int):Nat:=st.countP (· ==0)
theorem qxP{st:List Int}{i:Nat}(hi:i<st.length)(v:Int):qxO (st.set i v)+(if st.getD i 0=0 then 1 else 0)=qxO st+if v=0 then 1 else 0:=by
 unfold qxO
 induction st generalizing i with
 |nil=>simp at hi
 |cons x st ih=>
   cases i with
   |zero=>
     simp only[List.set_cons_zero,List.countP_cons,List.getD_cons_zero,beq_iff_eq]
     omega
   |succ i=>
     have:=ih (i:=i) (by simpa using hi)
     simp only[List.set_cons_succ,List.countP_cons,List.getD_cons_succ]
     omega
theorem qxQ{st:List Int}{i:Nat}(hi:i<st.length)(h:st.getD i 0=0):0<qxO st:=by
 have:=qxP hi 1
 rw[if_pos h]at this
 simp at this
 omega
structure Found (U:Nat->Prop) (st st' :List Int):Prop where
 clean: ∀o,st'.getD o 0=2-> ¬U o
 keep: ∀o,st.getD o 0≠0->st'.getD o 0=st.getD o 0
 zer:qxO st' <=qxO st
open Go Go.Vc Txt
def wrC(g:Grid):List PV:=quy false g++[.view 109 0 (quD g).toNat,.view 111 0 g.kind.length,.view 113 0 g.kind.length,.view 115 0 g.kind.length,.mp 17]
@[push_cast] theorem qxU(g:Grid):wrC g=[.int g.w,.int g.h,.int g.tracks,.int g.pads,.sl false 1 (ints g.kind),.view 109 0 (quD g).toNat,.view 111 0 g.kind.length,.view 113 0 g.kind.length,.view 115 0 g.kind.length,.mp 17]:=rfl
@[push_cast] theorem qxV(c:Cfg):encA c=[(109,⟨1,3,ints c.sel⟩),(111,⟨1,3,ints c.mode⟩),(113,⟨1,3,ints c.tab⟩),(115,⟨1,3,ints c.ram⟩)]:=rfl
structure CfgOk (g:Grid) (c:Cfg):Prop where
 sel:c.sel.length=(quD g).toNat
 mode:c.mode.length=g.kind.length
 tab:c.tab.length=g.kind.length
 ram:c.ram.length=g.kind.length
end Go.Proofs.YtdmkfgkmnpohlaaGreat
namespace Go.Vc
theorem FnX.dropB{E:Env}{f:Nat}{args:List PV}{st:St}{Q:PV->St->Prop}(i:Nat)(h:FnX E f args st fun r st' =>Q r { st' with b:=rm st'.b i }):FnX E f args st Q:=
 ⟨h.1,fun w0 Z0 X G Z L w vs h1 h2 h3=>(h.2 w0 Z0 X G Z L w vs h1 h2 h3).mono fun _ _ h=>h.imp (fun⟨v,r,st',Z',L',e1,e2,e3,e4⟩=>⟨v,r,_,Z',L',e1,e2,e3.rmBox i,e4⟩) id⟩
end Go.Vc
namespace Go.Proofs.YtdmkfgkmnpohlaaGreat
open Go Go.Vc Txt
theorem qxX(zs:List Int)(hs:zs.Pairwise (· <= ·)): ∀m,m<=zs.length->(Go.Lib.compactUpTo zs.toArray m).Pairwise (· < ·)/\ ∀x,x∈Go.Lib.compactUpTo zs.toArray m ↔ x∈zs.take m
 |0,_=>by simp[Go.Lib.compactUpTo]
 | m + 1, hm => by
   obtain⟨h1,h2⟩:=qxX zs hs m (by omega)
   have hlt:m<zs.length:=by omega
   have hget:zs.toArray[m]! =zs[m]:=by simp[hlt]
   have htk:zs.take (m+1)=zs.take m++[zs[m]]:=List.take_succ_eq_append_getElem hlt
   rw[Go.Lib.compactUpTo_succ,htk,hget]
   have hle: ∀a b (ha:a<zs.length) (hb:b<zs.length),a<=b->zs[a]<=zs[b]:=fun a b ha hb hab=>by
    by_cases e:a=b
    ·subst e;exact Int.le_refl _
    ·exact List.pairwise_iff_getElem.1 hs a b ha hb (by omega)
   by_cases hm0:m=0
   ·subst hm0
    rw[if_pos (Go.Lib.keeps_lt_one _ 0 (by omega))]
    simp[Go.Lib.compactUpTo]
   have hget2:zs.toArray[m-1]! =zs[m-1]:=by simp[show m-1<zs.length by omega]
   by_cases e:zs[m-1]=zs[m]
   ·rw[if_neg (by rw[Go.Lib.keeps_neg (by omega) (by rw[hget,hget2,e])];decide),List.append_nil]
    refine⟨h1,fun x=> ?_⟩
    rw[h2 x,List.mem_append,List.mem_singleton]
    refine⟨.inl,fun h=>h.elim _root_.id fun e2=> ?_⟩
    subst e2
    rw[<- e]
    exact List.mem_iff_getElem.2 ⟨m-1,by simp;omega,by simp⟩
   ·rw[if_pos (Go.Lib.keeps_pos (by rw[hget,hget2];exact Ne.symm e))]
    refine⟨List.pairwise_append.2 ⟨h1,List.pairwise_singleton _ _,fun x hx y hy=> ?_⟩,fun x=>by rw[List.mem_append,List.mem_append,h2 x]⟩
    rw[List.mem_singleton]at hy
    subst hy
    have hx:=(h2 x).1 hx
    obtain⟨j,hj,rfl⟩:=List.getElem_of_mem hx
    have hj2:j<m:=by simp at hj;omega
    rw[List.getElem_take]
    have h3:=hle j (m-1) (by omega) (by omega) (by omega)
    have h4:=hle (m-1) m (by omega) hlt (by omega)
    omega
theorem qxY(l:List Int):(qvs l).Pairwise (· <= ·):=by
 have:=List.pairwise_mergeSort (le:=fun x y:Int=>decide (x<=y)) (fun a b c h1 h2=>by simp at *;omega) (fun a b=>by simp;omega) l
 exact this.imp fun h=>by simpa using h
theorem qxZ(l:List Int)(x:Int):x∈qvs l ↔ x∈l:=List.mem_mergeSort
theorem qy0(l:List Int):(Go.Lib.compact (qvs l)).Pairwise (· < ·)/\ ∀x,x∈Go.Lib.compact (qvs l) ↔ x∈l:=by
 obtain⟨h1,h2⟩:=qxX (qvs l) (qxY l) (qvs l).length (Nat.le_refl _)
 refine⟨h1,fun x=> ?_⟩
 rw[Go.Lib.compact,h2 x,List.take_length,qxZ]
theorem qy1(l:List Int)(b:Int):(qvK l b).Pairwise (· < ·)/\ ∀x,x∈qvK l b ↔ x∈l/\x≠b:=by
 obtain⟨h1,h2⟩:=qy0 l
 refine⟨h1.filter _,fun x=> ?_⟩
 rw[qvK,delF,List.mem_filter,h2 x]
 simp
theorem qy2(g:Grid)(n:Int):(qvM g n).Pairwise (· < ·):=by
 rw[qvM]
 split
 ·exact(qy1 _ _).1
 ·exact .nil
theorem qy3(g:Grid)(n x:Int):x∈qvM g n ↔ (quK g n).2=0/\x∈rawD g (quK g n).1/\x≠n:=by
 rw[qvM]
 split
 ·rename_i h;rw[(qy1 _ _).2];simp[h]
 ·rename_i h;simp[h]
theorem qy4(g:Grid)(hg:GOk g)(s:Spot):((rawD g s).length:Int)<=100000:=by
 have ht:=hg.tracks
 have hal: ∀x y,(allF g [] x y).length<=256:=fun x y=>by
  have:=qvb g x y [] g.tracks.toNat
  rw[allF]
  simp only[List.length_nil]at this
  omega
 rw[rawD]
 split
 ·split
  ·have:=qv3 g (allF g [] s.x s.y) ⟨1,s.x,s.y-1,0⟩
   have:=hal s.x s.y
   omega
  ·have:=hal s.x s.y;omega
 ·split
  ·have:=hal (g.w-1) s.y;omega
  ·split
   ·have h1:=qvg g hg s [] s.x s.y
    have h2:=fun x y=>qvg g hg s (endF g s [] s.x s.y) x y
    simp only[List.length_nil]at h1
    have e:qvk g s []=qvn g s (endF g s [] s.x s.y):=rfl
    rw[e,qvn]
    split<;>split<;>first|omega|(have:=h2 (s.x+1) s.y;omega)|(have:=h2 s.x (s.y+1);omega)
   ·simp
theorem qy5(g:Grid)(hg:GOk g)(n:Int):((qvM g n).length:Int)<=100000:=by
 rw[qvM]
 split
 ·rename_i h
  have h1:=qy4 g hg (quK g n).1
  have h2:(qvK (rawD g (quK g n).1) n).length<=(rawD g (quK g n).1).length:=by
   refine Nat.le_trans (List.length_filter_le _ _) (Nat.le_trans (Go.Lib.compact_length_le _) ?_)
   rw[qvs,List.length_mergeSort];exact Nat.le_refl _
  omega
 ·simp
def qy8(l:List Int):List (Value×PV):=l.map fun x=>(.int .i64 x,.sc (.bool true))
theorem qy9(x y:Int):vEq (.int .i64 x) (.int .i64 y)=decide (x=y):=by
 by_cases h:x=y<;>simp[vEq,h]
theorem qya(x:Int): ∀l:List Int,mget (qy8 l) (.int .i64 x)=if x∈l then some (.sc (.bool true))else none
 |[]=>rfl
 | y :: r => by
   show(if vEq (.int .i64 y) (.int .i64 x)=true then _ else mget (qy8 r) _)=_
   rw[qy9,qya x r]
   by_cases h:y=x
   ·simp[h]
   ·simp[h,Ne.symm h]
theorem qyb(x:Int): ∀l:List Int,x∉l->mput (qy8 l) (.int .i64 x) (.sc (.bool true))=qy8 (l++[x])
 |[],_=>rfl
 | y :: r, h => by
   show(if vEq (.int .i64 y) (.int .i64 x)=true then _ else _::mput (qy8 r) _ _)=_
   rw[qy9,qyb x r (fun e=>h (List.mem_cons_of_mem _ e))]
   have: ¬y=x:=fun e=>h (by rw[e];exact List.mem_cons_self)
   simp[this,qy8]
def Rng(g:Grid)(n:Int):Prop:=0<=n/\n<quD g
structure DOk (g:Grid) (d:Spot):Prop where
 kind:1<=d.kind/\d.kind<=7
 pos:d.kind<=5->(0<=d.x/\d.x<g.w)/\(0<=d.y/\d.y<g.h)
 i0:d.kind<=2->d.i=0
 i3:d.kind=3->0<=d.i/\d.i<4
 i4:d.kind=4\/d.kind=5->0<=d.i/\d.i<g.tracks
 k6:d.kind=6->d.x= -1/\d.y=d.i%g.h/\0<=d.i/\d.i<g.pads
 k7:d.kind=7->d.x=g.w/\d.y=d.i%g.h/\0<=d.i/\d.i<g.pads
theorem qyg{g:Grid}(hg:GOk g){n:Int}(hn:Rng g n):DOk g (quJ g n)/\quO g (quJ g n)=n:=by
 obtain⟨n1,n2⟩:=hn
 have h1:=hg.each
 have h2:=hg.w
 have h3:=hg.h
 have h4:=hg.tracks
 have h5:=hg.pads
 have hc:quD g=allI g+2*g.pads:=rfl
 rw[quJ]
 split
 ·refine⟨⟨by simp,fun h=>by simp at h,fun h=>by simp at h,fun h=>by simp at h,fun h=>by simp at h,fun h=>by simp at h,fun _=>⟨rfl,rfl,by simp only;omega,by simp only;omega⟩⟩,?_⟩
  simp only[quO];simp;omega
 rename_i c1
 split
 ·refine⟨⟨by simp,fun h=>by simp at h,fun h=>by simp at h,fun h=>by simp at h,fun h=>by simp at h,fun _=>⟨rfl,rfl,by simp only;omega,by simp only;omega⟩,fun h=>by simp at h⟩,?_⟩
  simp only[quO];simp;omega
 rename_i c2
 have ha:n<g.w*g.h*quC g:=by unfold allI at c2;omega
 have hdm:quC g*(n/quC g)+n%quC g=n:=Int.mul_ediv_add_emod n (quC g)
 have hm1:0<=n%quC g:=Int.emod_nonneg _ (by omega)
 have hm2:n%quC g<quC g:=Int.emod_lt_of_pos _ (by omega)
 have he:quC g=6+2*g.tracks:=rfl
 have ht0:0<=n/quC g:=Int.ediv_nonneg n1 (by omega)
 have ht1:n/quC g<g.w*g.h:=Int.ediv_lt_of_lt_mul (by omega) ha
 dsimp only
 generalize n/quC g=t at *
 generalize n%quC g=i at *
 have hdm2:g.w*(t/g.w)+t%g.w=t:=Int.mul_ediv_add_emod t g.w
 have hx1:0<=t%g.w:=Int.emod_nonneg _ (by omega)
 have hx2:t%g.w<g.w:=Int.emod_lt_of_pos _ (by omega)
 have hy1:0<=t/g.w:=Int.ediv_nonneg ht0 (by omega)
 have hy2:t/g.w<g.h:=Int.ediv_lt_of_lt_mul (by omega) (by rw[Int.mul_comm];exact ht1)
 have hb:(t/g.w*g.w+t%g.w)*quC g+i=n:=by rw[Int.mul_comm (t/g.w),hdm2,Int.mul_comm];exact hdm
 generalize t%g.w=x at *
 generalize t/g.w=y at *
 have hbase: ∀k j:Int,quN g ⟨k,x,y,j⟩+i=n:=fun k j=>hb
 split
 ·refine⟨⟨by simp,fun _=>⟨⟨hx1,hx2⟩,hy1,hy2⟩,fun h=>by simp at h,fun h=>by simp at h,fun _=>⟨by simp only;omega,by simp only;omega⟩,fun h=>by simp at h,fun h=>by simp at h⟩,?_⟩
  have:=hbase 5 (i-6-g.tracks)
  simp only[quO];simp;omega
 split
 ·refine⟨⟨by simp,fun _=>⟨⟨hx1,hx2⟩,hy1,hy2⟩,fun h=>by simp at h,fun h=>by simp at h,fun _=>⟨by simp only;omega,by simp only;omega⟩,fun h=>by simp at h,fun h=>by simp at h⟩,?_⟩
  have:=hbase 4 (i-6)
  simp only[quO];simp;omega
 split
 ·refine⟨⟨by simp,fun _=>⟨⟨hx1,hx2⟩,hy1,hy2⟩,fun h=>by simp at h,fun _=>⟨by simp only;omega,by simp only;omega⟩,fun h=>by simp at h,fun h=>by simp at h,fun h=>by simp at h⟩,?_⟩
  have:=hbase 3 (i-2)
  simp only[quO];simp;omega
 split
 ·refine⟨⟨by simp,fun _=>⟨⟨hx1,hx2⟩,hy1,hy2⟩,fun _=>rfl,fun h=>by simp at h,fun h=>by simp at h,fun h=>by simp at h,fun h=>by simp at h⟩,?_⟩
  have:=hbase 2 0
  simp only[quO];simp;omega
 ·refine⟨⟨by simp,fun _=>⟨⟨hx1,hx2⟩,hy1,hy2⟩,fun _=>rfl,fun h=>by simp at h,fun h=>by simp at h,fun h=>by simp at h,fun h=>by simp at h⟩,?_⟩
  have:=hbase 1 0
  simp only[quO];simp;omega
theorem qyh{g:Grid}{n:Int}(h:Rng g n):quK g n=(quJ g n,0):=by
 unfold Rng at h
 rw[quK,if_neg (by omega)]
theorem qyi{g:Grid}{n:Int}(h:(quK g n).2=0):Rng g n:=by
 unfold quK at h
 unfold Rng
 split at h
 ·cases h
 ·omega
theorem qyj{g:Grid}(hg:GOk g)(l:List Int)(s:Spot)(x:Int):x∈addF g l s ↔ x∈l\/(Rng g x/\quJ g x=s):=by
 have key: ∀x,Rng g x->quJ g x=s->quP g s=(x,0):=fun x hx e=>by
  obtain⟨_,h⟩:=qyg hg hx
  rw[e]at h
  rw[quP,h,qyh hx,if_pos ⟨rfl,e⟩]
 rw[addF]
 split
 ·rename_i h
  rw[List.mem_append,List.mem_singleton]
  have h2:(quK g (quO g s)).2=0/\(quK g (quO g s)).1=s:=by
   unfold quP at h
   split at h
   ·assumption
   ·cases h
  have h3:=qyi h2.1
  have h4:quJ g (quO g s)=s:=by rw[qyh h3]at h2;exact h2.2
  rw[key _ h3 h4]
  refine or_congr_right ⟨fun e=>by subst e;exact⟨h3,h4⟩,fun e=> ?_⟩
  have:=key x e.1 e.2
  rw[key _ h3 h4]at this
  cases this;rfl
 ·rename_i h
  refine⟨.inl,fun e=>e.elim id fun e=>absurd ?_ h⟩
  rw[key x e.1 e.2]
def qyk(g:Grid)(d:Spot)(x y:Int):Prop:= ¬(x<0\/g.w<=x\/y<0\/g.h<=y)/\((d.kind=4/\d.y=y/\(d.x=x\/d.x=x-1))\/(d.kind=5/\d.x=x/\(d.y=y\/d.y=y-1)))
theorem qyl(d:Spot)(k x y i:Int):d=⟨k,x,y,i⟩ ↔ d.kind=k/\d.x=x/\d.y=y/\d.i=i:=by
 obtain⟨a,b,c,e⟩:=d
 simp
section
variable {g:Grid} (hg:GOk g)
include hg
theorem qym(l:List Int)(x y t n:Int):n∈qv8 g l x y t ↔ n∈l\/(Rng g n/\(quJ g n).i=t/\qyk g (quJ g n) x y):=by
 unfold qv8 qyk
 split
 ·rename_i h
  simp[h]
 ·rename_i h
  simp only[qyj hg,qyl]
  generalize quJ g n=d
  constructor
  ·rintro((((h1|⟨r,h1⟩)|⟨r,h1⟩)|⟨r,h1⟩)|⟨r,h1⟩)
   ·exact .inl h1
   all_goals exact .inr ⟨r,by omega,h,by omega⟩
  ·rintro(h1|⟨r,h1,_,h2⟩)
   ·exact .inl (.inl (.inl (.inl h1)))
   ·rcases h2 with⟨a,b,c|c⟩|⟨a,b,c|c⟩
    ·exact .inl (.inl (.inl (.inr ⟨r,by omega⟩)))
    ·exact .inl (.inr ⟨r,by omega⟩)
    ·exact .inl (.inl (.inr ⟨r,by omega⟩))
    ·exact .inr ⟨r,by omega⟩
theorem qyn(x y n:Int)(l:List Int): ∀m:Nat,n∈allN g x y l m ↔ n∈l\/(Rng g n/\(0<=(quJ g n).i/\(quJ g n).i<m)/\qyk g (quJ g n) x y)
 | 0 => by
   rw[allN]
   refine⟨.inl,fun h=>h.elim id fun h=> ?_⟩
   have:=h.2.1
   omega
 | m + 1 => by
   rw[allN,qym hg,qyn x y n l m]
   constructor
   ·rintro((h|⟨r,h1,h2⟩)|⟨r,h1,h2⟩)
    ·exact .inl h
    ·exact .inr ⟨r,by omega,h2⟩
    ·exact .inr ⟨r,by omega,h2⟩
   ·rintro(h|⟨r,h1,h2⟩)
    ·exact .inl (.inl h)
    ·by_cases e:(quJ g n).i=m
     ·exact .inr ⟨r,e,h2⟩
     ·exact .inl (.inr ⟨r,by omega,h2⟩)
theorem qyo(x y n:Int):n∈allF g [] x y ↔ Rng g n/\qyk g (quJ g n) x y:=by
 have ht:=hg.tracks
 rw[allF,qyn hg]
 constructor
 ·rintro(h|⟨r,_,h⟩)
  ·cases h
  ·exact⟨r,h⟩
 ·rintro⟨r,h⟩
  have hd:=(qyg hg r).1.i4 (by unfold qyk at h;omega)
  exact .inr ⟨r,by omega,h⟩
theorem qyp(y n:Int): ∀(f:Nat) (k:Int) (l:List Int),g.pads<=k+f->(n∈padR g y f k l ↔ n∈l\/(Rng g n/\(quJ g n).kind=6/\(quJ g n).x= -1/\(quJ g n).y=y/\k<=(quJ g n).i/\(quJ g n).i<g.pads/\((quJ g n).i-k)%g.h=0))
 | 0, k, l, hf => by
   rw[padR]
   refine⟨.inl,fun h=>h.elim id fun h=> ?_⟩
   omega
 | f + 1, k, l, hf => by
   have hh:=hg.h
   rw[padR]
   split
   ·rename_i hk
    rw[qyp y n f (k+g.h) _ (by omega),qyj hg,qyl]
    generalize quJ g n=d
    have e:(d.i-(k+g.h))%g.h=(d.i-k)%g.h:=by
     rw[show d.i-(k+g.h)=d.i-k-g.h by omega]
     exact Int.sub_emod_right (d.i-k) g.h
    rw[e]
    constructor
    ·rintro((h|⟨r,h⟩)|⟨r,h⟩)
     ·exact .inl h
     ·refine .inr ⟨r,h.1,h.2.1,h.2.2.1,by omega,by omega,?_⟩
      rw[h.2.2.2];simp
     ·exact .inr ⟨r,h.1,h.2.1,h.2.2.1,by omega,by omega,h.2.2.2.2.2⟩
    ·rintro(h|⟨r,h1,h2,h3,h4,h5,h6⟩)
     ·exact .inl (.inl h)
     ·by_cases e2:d.i=k
      ·exact .inl (.inr ⟨r,h1,h2,h3,e2⟩)
      ·refine .inr ⟨r,h1,h2,h3,?_,h5,h6⟩
       have:=Int.emod_lt_of_pos (d.i-k) (show 0<g.h by omega)
       by_cases e3:d.i-k<g.h
       ·rw[Int.emod_eq_of_lt (by omega) e3]at h6;omega
       ·omega
   ·rename_i hk
    refine⟨.inl,fun h=>h.elim id fun h=> ?_⟩
    omega
theorem qyq(l:List Int)(y n:Int)(hy:0<=y/\y<g.h):n∈qvd g l y ↔ n∈l\/(Rng g n/\(quJ g n).kind=6/\(quJ g n).y=y):=by
 have hp:=hg.pads
 rw[qvd,qyp hg _ _ _ _ _ (by omega)]
 refine or_congr_right ⟨fun h=>⟨h.1,h.2.1,h.2.2.2.1⟩,fun⟨r,h1,h2⟩=> ?_⟩
 obtain⟨k1,k2,k3,k4⟩:=(qyg hg r).1.k6 h1
 generalize quJ g n=d at *
 have hh:=hg.h
 have e:=Int.mul_ediv_add_emod d.i g.h
 have hle:d.i%g.h<=d.i:=by
  have:=Int.ediv_nonneg k3 (show 0<=g.h by omega)
  have:=Int.mul_nonneg (show 0<=g.h by omega) this
  omega
 refine⟨r,h1,k1,h2,by omega,k4,?_⟩
 rw[show d.i-y=g.h*(d.i/g.h)by omega]
 exact Int.mul_emod_right _ _
theorem qyr (s : Spot) (l : List Int) (x y n : Int) (hy : 0 <= y /\ y < g.h) : n ∈ endF g s l x y ↔ n ∈ l \/ (Rng g n /\ (((quJ g n).kind = 1 /\ (quJ g n).x = x /\ (quJ g n).y = y) \/ ((quJ g n).kind = 2 /\ (quJ g n).x = x /\ (quJ g n).y = y) \/
  ((quJ g n).i=s.i/\qyk g (quJ g n) x y)\/(x=0/\(quJ g n).kind=6/\(quJ g n).y=y))):=by
 have key:n∈qv8 g (addF g (addF g l ⟨1,x,y,0⟩) ⟨2,x,y,0⟩) x y s.i ↔ n∈l\/(Rng g n/\(((quJ g n).kind=1/\(quJ g n).x=x/\(quJ g n).y=y)\/((quJ g n).kind=2/\(quJ g n).x=x/\(quJ g n).y=y)\/
  ((quJ g n).i=s.i/\qyk g (quJ g n) x y))):=by
  rw[qym hg,qyj hg,qyj hg,qyl,qyl]
  constructor
  ·rintro(((h|⟨r,h⟩)|⟨r,h⟩)|⟨r,h⟩)
   ·exact .inl h
   ·exact .inr ⟨r,.inl ⟨h.1,h.2.1,h.2.2.1⟩⟩
   ·exact .inr ⟨r,.inr (.inl ⟨h.1,h.2.1,h.2.2.1⟩)⟩
   ·exact .inr ⟨r,.inr (.inr h)⟩
  ·rintro(h|⟨r,h|h|h⟩)
   ·exact .inl (.inl (.inl h))
   ·exact .inl (.inl (.inr ⟨r,h.1,h.2.1,h.2.2,(qyg hg r).1.i0 (by omega)⟩))
   ·exact .inl (.inr ⟨r,h.1,h.2.1,h.2.2,(qyg hg r).1.i0 (by omega)⟩)
   ·exact .inr ⟨r,h⟩
 simp only[endF]
 split
 ·rename_i hx
  rw[qyq hg _ _ _ hy,key]
  constructor
  ·rintro((h|⟨r,h|h|h⟩)|⟨r,h⟩)
   ·exact .inl h
   ·exact .inr ⟨r,.inl h⟩
   ·exact .inr ⟨r,.inr (.inl h)⟩
   ·exact .inr ⟨r,.inr (.inr (.inl h))⟩
   ·exact .inr ⟨r,.inr (.inr (.inr ⟨hx,h⟩))⟩
  ·rintro(h|⟨r,h|h|h|h⟩)
   ·exact .inl (.inl h)
   ·exact .inl (.inr ⟨r,.inl h⟩)
   ·exact .inl (.inr ⟨r,.inr (.inl h)⟩)
   ·exact .inl (.inr ⟨r,.inr (.inr h)⟩)
   ·exact .inr ⟨r,h.2⟩
 ·rename_i hx
  rw[key]
  constructor
  ·rintro(h|⟨r,h|h|h⟩)
   ·exact .inl h
   ·exact .inr ⟨r,.inl h⟩
   ·exact .inr ⟨r,.inr (.inl h)⟩
   ·exact .inr ⟨r,.inr (.inr (.inl h))⟩
  ·rintro(h|⟨r,h|h|h|h⟩)
   ·exact .inl h
   ·exact .inr ⟨r,.inl h⟩
   ·exact .inr ⟨r,.inr (.inl h)⟩
   ·exact .inr ⟨r,.inr (.inr h)⟩
   ·exact absurd h.1 hx
end
theorem qys{g:Grid}{w:Spot}{x y:Int}(h:w.kind≠4)(h2:w.kind≠5): ¬Adj g w x y:=by unfold Adj;omega
theorem qyt{g:Grid}{d:Spot}{x y:Int} :Adj g d x y ↔ qyk g d x y:=by
 obtain⟨k,dx,dy,i⟩:=d
 simp only[Adj,qyk]
 refine and_congr_right fun _=> ?_
 omega
def Can2(g:Grid)(a b:Spot):Prop:=(a.kind=1/\(Adj g b a.x a.y\/(b.kind=3/\b.i=3/\b.x=a.x/\b.y=a.y+1)))\/(a.kind=2/\Adj g b a.x a.y)\/(a.kind=6/\Adj g b 0 a.y)\/
 ((a.kind=4\/a.kind=5)/\(b.kind=4\/b.kind=5)/\a≠b/\a.i=b.i/\Meet g a b)\/((a.kind=4\/a.kind=5)/\b.kind=3/\Adj g a b.x b.y)\/((a.kind=4\/a.kind=5)/\b.kind=7/\Adj g a (g.w-1) b.y)
theorem qyu(g:Grid)(a b:Spot):CanD g a b ↔ Can2 g a b:=by
 unfold CanD Can2
 by_cases h1:a.kind=1
 ·simp[h1]
 by_cases h2:a.kind=2
 ·simp[h2]
 by_cases h6:a.kind=6
 ·simp[h6]
 by_cases h4:a.kind=4\/a.kind=5
 ·rw[if_neg h1,if_neg h2,if_neg h6,if_pos h4]
  simp only[h1,h2,h6,h4,false_and,false_or,true_and]
  split
  ·rename_i hb
   have h3: ¬b.kind=3:=by omega
   have h7: ¬b.kind=7:=by omega
   simp[hb,h3,h7]
  ·rename_i hb
   simp[hb]
 ·rw[if_neg h1,if_neg h2,if_neg h6,if_neg h4]
  simp[h1,h2,h6,h4]
section
variable {g:Grid} (hg:GOk g)
include hg
theorem qyv(s:Spot)(hs:DOk g s)(k3:s.kind=3)(n:Int)(hn:Rng g n):(n∈rawD g s/\quJ g n≠s) ↔ CanD g (quJ g n) s:=by
 have hd:=(qyg hg hn).1
 have e1:n∈rawD g s ↔ qyk g (quJ g n) s.x s.y\/(s.i=3/\(quJ g n).kind=1/\(quJ g n).x=s.x/\(quJ g n).y=s.y-1):=by
  rw[rawD,if_pos k3]
  split
  ·rename_i h3
   rw[qyj hg,qyo hg,qyl]
   refine or_congr ⟨fun h=>h.2,fun h=>⟨hn,h⟩⟩ ⟨fun h=>⟨h3,h.2.1,h.2.2.1,h.2.2.2.1⟩,fun h=>⟨hn,h.2.1,h.2.2.1,h.2.2.2,hd.i0 (by omega)⟩⟩
  ·rename_i h3
   rw[qyo hg]
   exact⟨fun h=> .inl h.2,fun h=>h.elim (fun h=>⟨hn,h⟩) fun h=>absurd h.1 h3⟩
 have n1: ∀x y,¬Adj g s x y:=fun x y=>qys (by omega) (by omega)
 rw[e1,qyu,Can2]
 simp only[n1,qyt,k3,true_and,false_or,and_false,show ¬((3:Int)=4\/(3:Int)=5)by decide,show ¬(3:Int)=7 by decide,false_and,or_false]
 generalize quJ g n=d at *
 constructor
 ·rintro⟨h|h,_⟩
  ·refine .inr ⟨?_,h⟩
   unfold qyk at h;omega
  ·exact .inl ⟨h.2.1,h.1,h.2.2.1.symm,by omega⟩
 ·rintro(h|h)
  ·exact⟨.inr ⟨h.2.1,h.1,h.2.2.1.symm,by omega⟩,fun e=>by rw[e]at h;omega⟩
  ·exact⟨.inl h.2,fun e=>by rw[e]at h;omega⟩
theorem qyw(s:Spot)(hs:DOk g s)(k7:s.kind=7)(n:Int)(hn:Rng g n):(n∈rawD g s/\quJ g n≠s) ↔ CanD g (quJ g n) s:=by
 have e1:n∈rawD g s ↔ qyk g (quJ g n) (g.w-1) s.y:=by
  rw[rawD,if_neg (by omega),if_pos k7,qyo hg]
  exact⟨fun h=>h.2,fun h=>⟨hn,h⟩⟩
 have n1: ∀x y,¬Adj g s x y:=fun x y=>qys (by omega) (by omega)
 rw[e1,qyu,Can2]
 simp only[n1,qyt,k7,true_and,false_or,and_false,show ¬((7:Int)=4\/(7:Int)=5)by decide,show ¬(7:Int)=3 by decide,false_and,or_false]
 generalize quJ g n=d at *
 constructor
 ·rintro⟨h,_⟩
  refine⟨?_,h⟩
  unfold qyk at h;omega
 ·rintro h
  exact⟨h.2,fun e=>by rw[e]at h;omega⟩
omit hg in
theorem qyx(s:Spot)(k:s.kind=1\/s.kind=2\/s.kind=6)(n:Int):(n∈rawD g s/\quJ g n≠s) ↔ CanD g (quJ g n) s:=by
 have e1:rawD g s=[]:=by rw[rawD,if_neg (by omega),if_neg (by omega),if_neg (by omega)]
 have n1: ∀x y,¬Adj g s x y:=fun x y=>qys (by omega) (by omega)
 rw[e1,qyu,Can2]
 simp only[n1,List.not_mem_nil,false_and,false_or,and_false,show ¬(s.kind=4\/s.kind=5)by omega,show ¬s.kind=3 by omega,show ¬s.kind=7 by omega,or_false]
end
theorem qyy {g : Grid} (d s : Spot) (hs : s.kind = 4 \/ s.kind = 5) (hsx : (0 <= s.x /\ s.x < g.w) /\ (0 <= s.y /\ s.y < g.h)) (hdx : (0 <= d.x /\ d.x < g.w) /\ (0 <= d.y /\ d.y < g.h)) (hd : d.kind = 4 \/ d.kind = 5) :
  Meet g d s ↔ qyk g d s.x s.y\/(s.kind=4/\s.x+1<g.w/\qyk g d (s.x+1) s.y)\/(s.kind=5/\s.y+1<g.h/\qyk g d s.x (s.y+1)):=by
 obtain⟨k,x,y,i⟩:=d
 obtain⟨k',x',y',i'⟩:=s
 simp only[Meet,Adj,qyk]at *
 rcases hs with rfl|rfl<;>rcases hd with rfl|rfl<;>simp only[show ¬(4:Int)=5 by decide,show ¬(5:Int)=4 by decide,or_false,false_or,true_or,or_true,true_and,false_and]<;>omega
section
variable {g:Grid} (hg:GOk g)
include hg
theorem qyz(s:Spot)(hs:DOk g s)(k:s.kind=4\/s.kind=5)(n:Int)(hn:Rng g n):(n∈rawD g s/\quJ g n≠s) ↔ CanD g (quJ g n) s:=by
 have hd:=(qyg hg hn).1
 obtain⟨sx,sy⟩:=hs.pos (by omega)
 have hw:=hg.w
 have hh:=hg.h
 have e1:n∈rawD g s ↔ n∈qvn g s (endF g s [] s.x s.y):=by
  rw[rawD,if_neg (by omega),if_neg (by omega),if_pos k];rfl
 have hsk3: ¬s.kind=3:=by omega
 have hsk7: ¬s.kind=7:=by omega
 have hh0:0<g.h:=by omega
 let E:Int->Int->Prop:=fun x y=>((quJ g n).kind=1/\(quJ g n).x=x/\(quJ g n).y=y)\/((quJ g n).kind=2/\(quJ g n).x=x/\(quJ g n).y=y)\/((quJ g n).i=s.i/\qyk g (quJ g n) x y)\/(x=0/\(quJ g n).kind=6/\(quJ g n).y=y)
 have e2:n∈qvn g s (endF g s [] s.x s.y) ↔ E s.x s.y\/(s.kind=4/\s.x+1<g.w/\E (s.x+1) s.y)\/(s.kind=5/\s.y+1<g.h/\E s.x (s.y+1)):=by
  have m1:n∈endF g s [] s.x s.y ↔ E s.x s.y:=by
   rw[qyr hg _ _ _ _ _ sy]
   simp only[List.not_mem_nil,false_or,hn,true_and]
   rfl
  rw[qvn]
  split
  ·rename_i k4
   have h5: ¬s.kind=5:=by omega
   simp only[k4,show ¬(4:Int)=5 by decide,false_and,or_false,true_and]
   split
   ·rename_i hh2
    rw[qyr hg _ _ _ _ _ sy,m1]
    exact or_congr_right ⟨fun h=>⟨hh2.1,h.2⟩,fun h=>⟨hn,h.2⟩⟩
   ·rename_i hh2
    rw[m1]
    exact⟨.inl,fun h=>h.elim _root_.id fun h=>absurd ⟨h.1,sy.2⟩ hh2⟩
  ·rename_i k4
   have h5:s.kind=5:=by omega
   simp only[h5,show ¬(5:Int)=4 by decide,false_and,false_or,true_and]
   split
   ·rename_i hh2
    rw[qyr hg _ _ _ _ _ (by omega),m1]
    exact or_congr_right ⟨fun h=>⟨hh2.2,h.2⟩,fun h=>⟨hn,h.2⟩⟩
   ·rename_i hh2
    rw[m1]
    exact⟨.inl,fun h=>h.elim _root_.id fun h=>absurd ⟨sx.2,h.1⟩ hh2⟩
 rw[e1,e2,qyu,Can2]
 show((((quJ g n).kind=1/\_/\_)\/_)\/_)/\_ ↔ _
 have dpos:=hd.pos
 have d6:=hd.k6
 have hmw:=qyy (g:=g) (quJ g n) s k ⟨sx,sy⟩
 have dk:=hd.kind
 have dy:(quJ g n).kind=6->0<=(quJ g n).y/\(quJ g n).y<g.h:=fun h=>by
  obtain⟨_,e,_⟩:=d6 h
  rw[e]
  exact⟨Int.emod_nonneg _ (fun e=>by rw[e]at hh0;exact absurd hh0 (by decide)),Int.emod_lt_of_pos _ hh0⟩
 simp only[E]
 clear e1 e2 E hs hd d6
 generalize quJ g n=d at *
 have hne: ¬(d.kind=4\/d.kind=5)->d≠s:=fun h e=>by rw[e]at h;exact h k
 have hwn: ¬(d.kind=4\/d.kind=5)-> ∀x y,¬qyk g d x y:=fun h x y hW=>h (hW.2.elim (fun z=> .inl z.1) fun z=> .inr z.1)
 by_cases k45:d.kind=4\/d.kind=5
 ·have m:=hmw (dpos (by rcases k45 with h|h<;>rw[h]<;>decide)) k45
  have a1: ¬d.kind=1:=fun e=>by rw[e]at k45;exact absurd k45 (by decide)
  have a2: ¬d.kind=2:=fun e=>by rw[e]at k45;exact absurd k45 (by decide)
  have a6: ¬d.kind=6:=fun e=>by rw[e]at k45;exact absurd k45 (by decide)
  simp only[a1,a2,a6,hsk3,hsk7,k45,k,m,false_and,and_false,or_false,false_or,true_and]
  constructor
  ·rintro⟨h|⟨b,c,h⟩|⟨b,c,h⟩,h2⟩
   ·exact⟨h2,h.1,.inl h.2⟩
   ·exact⟨h2,h.1,.inr (.inl ⟨b,c,h.2⟩)⟩
   ·exact⟨h2,h.1,.inr (.inr ⟨b,c,h.2⟩)⟩
  ·rintro⟨h2,h1,h|⟨b,c,h⟩|⟨b,c,h⟩⟩
   ·exact⟨.inl ⟨h1,h⟩,h2⟩
   ·exact⟨.inr (.inl ⟨b,c,h1,h⟩),h2⟩
   ·exact⟨.inr (.inr ⟨b,c,h1,h⟩),h2⟩
 ·have hn2:=hne k45
  have hw2:=hwn k45
  clear hne hwn hmw
  simp only[hw2,hn2,k45,hsk3,hsk7,and_false,false_and,or_false,false_or,ne_eq,not_false_eq_true,and_true]
  by_cases a1:d.kind=1
  ·have dp:=dpos (by rw[a1];decide)
   clear dpos dy hw2
   simp only[a1,true_and,show ¬(1:Int)=2 by decide,show ¬(1:Int)=6 by decide,false_and,and_false,or_false,Adj,k,true_and]
   omega
  by_cases a2:d.kind=2
  ·have dp:=dpos (by rw[a2];decide)
   clear dpos dy hw2
   simp only[a2,true_and,show ¬(2:Int)=1 by decide,show ¬(2:Int)=6 by decide,false_and,and_false,or_false,false_or,Adj,k,true_and]
   omega
  by_cases a6:d.kind=6
  ·have dp:=dy a6
   clear dpos dy hw2
   simp only[a6,true_and,show ¬(6:Int)=1 by decide,show ¬(6:Int)=2 by decide,false_and,and_false,or_false,false_or,and_true,Adj,k]
   omega
  ·simp only[a1,a2,a6,false_and,and_false,or_false]
theorem qyA(s:Spot)(hs:DOk g s)(n:Int)(hn:Rng g n):(n∈rawD g s/\quJ g n≠s) ↔ CanD g (quJ g n) s:=by
 have h1:=hs.kind
 by_cases k3:s.kind=3
 ·exact qyv hg s hs k3 n hn
 by_cases k7:s.kind=7
 ·exact qyw hg s hs k7 n hn
 by_cases k4:s.kind=4\/s.kind=5
 ·exact qyz hg s hs k4 n hn
 ·exact qyx s (by omega) n
theorem qyB(s:Spot)(hs:DOk g s)(n:Int)(h:n∈rawD g s):Rng g n:=by
 have hE: ∀(x y:Int) (l:List Int),(n∈l->Rng g n)->0<=y/\y<g.h->n∈endF g s l x y->Rng g n:=fun x y l hl hy hm=>by
  rw[qyr hg _ _ _ _ _ hy]at hm
  exact hm.elim hl fun h=>h.1
 rw[rawD]at h
 split at h
 ·split at h
  ·rw[qyj hg,qyo hg]at h
   exact h.elim (fun h=>h.1) fun h=>h.1
  ·rw[qyo hg]at h
   exact h.1
 ·split at h
  ·rw[qyo hg]at h
   exact h.1
  ·split at h
   ·rename_i k
    obtain⟨sx,sy⟩:=hs.pos (by omega)
    have h0:=hE s.x s.y [] (fun h=>by cases h) sy
    simp only[qvk]at h
    split at h
    ·split at h
     ·exact hE _ _ _ h0 sy h
     ·exact h0 h
    ·split at h
     ·exact hE _ _ _ h0 (by omega) h
     ·exact h0 h
   ·cases h
end
theorem qyC: ∀ {l1 l2:List Int},l1.Pairwise (· < ·)->l2.Pairwise (· < ·)->(∀x,x∈l1 ↔ x∈l2)->l1=l2
 |[],[],_,_,_=>rfl
 |[],y::r,_,_,h=>by have:=(h y).2 List.mem_cons_self;cases this
 |x::r,[],_,_,h=>by have:=(h x).1 List.mem_cons_self;cases this
 | x :: r, y :: s, h1, h2, h => by
   have e:x=y:=by
    have a:=(h x).1 List.mem_cons_self
    have b:=(h y).2 List.mem_cons_self
    rcases List.mem_cons.1 a with a|a
    ·exact a
    rcases List.mem_cons.1 b with b|b
    ·exact b.symm
    have c:=(List.pairwise_cons.1 h2).1 x a
    have d:=(List.pairwise_cons.1 h1).1 y b
    omega
   subst e
   rw[qyC (List.pairwise_cons.1 h1).2 (List.pairwise_cons.1 h2).2 fun z=>⟨fun hz=> ?_,fun hz=> ?_⟩]
   ·have:=(h z).1 (List.mem_cons_of_mem _ hz)
    rcases List.mem_cons.1 this with e|e
    ·subst e
     have:=(List.pairwise_cons.1 h1).1 z hz
     omega
    ·exact e
   ·have:=(h z).2 (List.mem_cons_of_mem _ hz)
    rcases List.mem_cons.1 this with e|e
    ·subst e
     have:=(List.pairwise_cons.1 h2).1 z hz
     omega
    ·exact e
theorem qyD(g:Grid)(s:Spot): ∀k:Nat,(qvZ g s k).Pairwise (· < ·)/\ ∀x,x∈qvZ g s k ↔ (0<=x/\x<k)/\CanD g (quJ g x) s
 |0=>⟨.nil,fun x=>by simp[qvZ];omega⟩
 | k + 1 => by
   obtain⟨h1,h2⟩:=qyD g s k
   have hm: ∀x,x∈qvZ g s (k+1) ↔ (0<=x/\x<((k+1:Nat):Int))/\CanD g (quJ g x) s:=fun x=>by
    rw[qvZ,List.mem_append,h2 x]
    split
    ·rename_i hc
     rw[List.mem_singleton]
     constructor
     ·rintro(h|h)
      ·exact⟨by omega,h.2⟩
      ·subst h;exact⟨by omega,hc⟩
     ·rintro⟨h,h3⟩
      by_cases e:x=k
      ·exact .inr e
      ·exact .inl ⟨by omega,h3⟩
    ·rename_i hc
     simp only[List.not_mem_nil,or_false]
     constructor
     ·exact fun h=>⟨by omega,h.2⟩
     ·rintro⟨h,h3⟩
      by_cases e:x=k
      ·subst e;exact absurd h3 hc
      ·exact⟨by omega,h3⟩
   refine⟨?_,hm⟩
   rw[qvZ]
   split
   ·refine List.pairwise_append.2 ⟨h1,List.pairwise_singleton _ _,fun x hx y hy=> ?_⟩
    rw[List.mem_singleton]at hy
    have:=((h2 x).1 hx).1
    omega
   ·simpa using h1
theorem qyE{g:Grid}(hg:GOk g)(n:Int):qvM g n=rdrF g n:=by
 have hc:=hg.count
 rw[rdrF]
 split
 ·rename_i h
  have hr:=qyi h
  have he:=qyh hr
  refine qyC (qy2 g n) (qyD g _ _).1 fun x=> ?_
  rw[qy3,(qyD g _ _).2 x,he]
  simp only[true_and]
  obtain⟨hd,hN⟩:=qyg hg hr
  constructor
  ·rintro⟨h1,h2⟩
   have hx:=qyB hg _ hd x h1
   refine⟨by unfold Rng at hx;omega,(qyA hg _ hd x hx).1 ⟨h1,fun e=>h2 ?_⟩⟩
   rw[<- (qyg hg hx).2,e,hN]
  ·rintro⟨h1,h2⟩
   have hx:Rng g x:=by unfold Rng;omega
   have:=(qyA hg _ hd x hx).2 h2
   exact⟨this.1,fun e=>this.2 (by rw[e])⟩
 ·rename_i h
  rw[qvM,if_neg h]
end Go.Proofs.YtdmkfgkmnpohlaaGreat
namespace Go.Proofs.YtdmkfgkmnpohlaaGreat.Txt
open Go Go.Vc
set_option maxRecDepth 100000
def ac40:AC:=
 (.seq (.reg [0,103,0,1] [
 (aO 2 (.box (.t 0))),(aO 4 (.alc [zI,zI,zI,zI,.nil,.nil,.nil,.nil,.nil,.nil,.nil]))])
 (.seq (.seq (.reg [0,103,1,2,4] [
 (aO 5 (.mv (kI 0)))])
 (.block 0
 (.loop [0,103,1,2,4,5]
 (.seq (.seq (.reg [0,103,1,2,4,5] [
 (aO 8 (.mv (.t 5))),(aO 9 (.mv (.t 1))),(aO 10 (.len (.t 9))),(aO 11 (.cmp .lss .i64 (.t 8) (.t 10))),(aO 12 (.mv (.t 11))),⟨some 13,some (12,true),.mv (.t 5)⟩,⟨some 14,some (12,true),.cmp .lss .i64 (.t 13) (kI 12)⟩,(aO 15 (.pick (.t 12) (.t 14) (.c (.sc (.bool false)))))])
 (.cut [0,103,1,2,4,5,15] (.cond (.t 15)
 .skip
 (.exit 0))))
 (.seq (.block 1
 (.seq (.drw [0,103,1,2,4,5] [
 (eT 18 (.mv (.t 1))),(eT 19 (.mv (.t 5))),(eT 20 (.ixs 3 (.t 18) (.t 19))),(eT 21 (.ixa 3 1 (.t 20) (kI 0))),(eT 22 (.ld false 1 (.t 21))),(eT 23 (.cnv true .i64 (.t 22))),(eT 24 (.fa 0 (.t 2))),(eT 25 (.fa 0 (.t 24))),(eT 26 (.ld false 1 (.t 25))),(eT 27 (.fa 0 (.t 2))),(eT 28 (.fa 1 (.t 27))),(eT 29 (.ld false 1 (.t 28))),(eT 30 (.ari .mul true .i64 (.t 26) (.t 29))),(eF 31 (.dvd .rem true .i64 (.t 23) (.t 30))),(eF 6 (.mv (.t 31)))])
 (.seq (.drw [0,103,1,2,4,5,6] [
 (eU 32 (.mv (.t 1)) [] [7]),(eU 33 (.mv (.t 5)) [] [7]),(eU 34 (.ixs 3 (.t 32) (.t 33)) [] [7]),(eU 35 (.ixa 3 1 (.t 34) (kI 1)) [] [7]),(eU 36 (.ld false 1 (.t 35)) [] [7]),(eU 37 (.cnv true .i64 (.t 36)) [] [7]),(eU 38 (.ari .mul true .i64 (kI 256) (.t 37)) [] [7]),(eU 39 (.mv (.t 1)) [] [7]),(eU 40 (.mv (.t 5)) [] [7]),(eU 41 (.ixs 3 (.t 39) (.t 40)) [] [7]),(eU 42 (.ixa 3 1 (.t 41) (kI 2)) [] [7]),(eU 43 (.ld false 1 (.t 42)) [] [7]),(eU 44 (.cnv true .i64 (.t 43)) [] [7]),(eU 45 (.ari .add true .i64 (.t 38) (.t 44)) [] [7]),(eU 46 (.bld [.nil,zI,zI,zI,.sc (.int .u64 0)] [(1,1,(.t 45)),(2,1,(kI (-1))),(3,1,(kI (-1)))]) [] [7]),(eU 7 (.alc [.nil,zI,zI,zI,.sc (.int .u64 0)]) [7] []),⟨(aN (.sto 5 (.t 7) (.t 46))),[],[],false⟩])
 (.seq (.seq (.reg [0,103,1,2,4,5,6,7] [
 (aO 47 (.mv (.t 1))),(aO 48 (.mv (.t 5))),(aO 49 (.ixs 3 (.t 47) (.t 48))),(aO 50 (.ixa 3 1 (.t 49) (kI 1))),(aO 51 (.ld false 1 (.t 50))),(aO 52 (.dvd .rem true .u8 (.t 51) (.c (.sc (.int .u8 3)))))])
 (.block 2
 (.seq (.reg [0,103,1,2,4,5,6,7,52] [
 (aO 54 (.cmp .eql .u8 (.t 52) (.c (.sc (.int .u8 1))))),(aO 53 (.mv (.t 54)))])
 (.cond (.t 53)
 (.reg [0,103,1,2,4,5,6,7] [
 (aO 55 (.mv (.t 1))),(aO 56 (.mv (.t 5))),(aO 57 (.ixs 3 (.t 55) (.t 56))),(aO 58 (.ixa 3 1 (.t 57) (kI 2))),(aO 59 (.ld false 1 (.t 58))),(aO 60 (.dvd .rem true .u8 (.t 59) (.c (.sc (.int .u8 24))))),(aO 61 (.cnv true .i64 (.t 60))),(aO 62 (.fa 3 (.t 7))),(aN (.sto 1 (.t 62) (.t 61)))])
 (.seq (.reg [0,103,1,2,4,5,6,7,52] [
 (aO 64 (.cmp .eql .u8 (.t 52) (.c (.sc (.int .u8 2))))),(aO 63 (.mv (.t 64)))])
 (.cond (.t 63)
 (.reg [0,103,1,2,4,5,6,7] [
 (aO 65 (.mv (.t 1))),(aO 66 (.mv (.t 5))),(aO 67 (.ixs 3 (.t 65) (.t 66))),(aO 68 (.ixa 3 1 (.t 67) (kI 2))),(aO 69 (.ld false 1 (.t 68))),(aO 70 (.dvd .rem true .u8 (.t 69) (.c (.sc (.int .u8 16))))),(aO 71 (.cnv true .i64 (.t 70))),(aO 72 (.fa 2 (.t 7))),(aN (.sto 1 (.t 72) (.t 71)))])
 .skip))))))
 (.seq (.reg [0,103,1,2,4,5,6,7] [
 (aO 73 (.fa 9 (.t 2))),(aO 74 (.fa 0 (.t 73))),(aO 75 (.ld false 1 (.t 74))),(aO 76 (.mv (.t 6))),(aO 77 (.cal 44 [(.t 75),(.t 76)])),(aO 78 (.cmp .lss .i64 (.t 77) (kI 0))),(aO 79 (.mv (.t 78))),⟨some 80,some (79,true),.fa 0 (.t 2)⟩,⟨some 81,some (79,true),.ld true 5 (.t 80)⟩,⟨some 82,some (79,true),.ld true 5 (.t 7)⟩,⟨some 83,some (79,true),.mv (.t 6)⟩,⟨some 84,some (79,true),.cal 73 [(.t 81),(.t 82),(.t 83)]⟩,(aO 85 (.pick (.t 79) (.t 84) (.c (.sc (.bool false)))))])
 (.cut [0,103,1,2,4,5,6,7,85] (.cond (.t 85)
 (.seq (.reg [0,103,1,2,4,5,6,7] [
 (aO 86 (.fa 5 (.t 2))),(aO 87 (.fa 1 (.t 86))),(aO 88 (.ld false 1 (.t 87))),(aO 89 (.ld true 5 (.t 7))),(aO 90 (.bsl 5 120 [.nil,zI,zI,zI,.sc (.int .u64 0)] 1 [(0,(.t 89))])),(aO 91 (.app 5 120 56 (.t 88) (.t 90))),(aO 92 (.fa 5 (.t 2))),(aO 93 (.fa 1 (.t 92))),(aN (.sto 1 (.t 93) (.t 91)))])
 (.reg [0,103,1,2,4,5,6] [
 (aO 94 (.fa 9 (.t 2))),(aO 95 (.fa 0 (.t 94))),(aO 96 (.ld false 1 (.t 95))),(aO 97 (.mv (.t 6))),(aO 98 (.bsl 1 3 [zI] 1 [(0,(.t 97))])),(aO 99 (.app 1 3 8 (.t 96) (.t 98))),(aO 100 (.fa 9 (.t 2))),(aO 101 (.fa 0 (.t 100))),(aN (.sto 1 (.t 101) (.t 99)))]))
 .skip)))))))
 (.reg [0,103,1,2,4,5] [
 (aO 16 (.mv (.t 5))),(aO 17 (.ari .add true .i64 (.t 16) (kI 1))),(aO 5 (.mv (.t 17)))]))))))
 (.seq (.reg [0,103,2,4] [
 (aO 102 (.ld true 11 (.t 2))),(aN (.sto 11 (.t 4) (.t 102)))])
 .ret)))
def rv40:List RV:=[.cell 4 true 11]
theorem ok40:fnOk Tryz.prog ac40 rv40 Tryz.f40=true:=by kernel_rfl

def ac42:AC:=
 (.seq (.reg [0,120,0,1,2] [
 (aO 3 (.box (.t 0))),(aO 6 (.alc [zI,.nil,.nil]))])
 (.seq (.reg [0,120,1,2,3,6] [
 (aO 14 (.ld true 5 (.t 3))),(aO 15 (.cal 74 [(.t 14)])),(aO 7 (.mv (.t 15)))])
 (.seq (.reg [0,120,1,2,3,6,7] [
 (aO 16 (.bld [zI,.nil,.nil] [])),(aO 8 (.alc [zI,.nil,.nil])),(aN (.sto 3 (.t 8) (.t 16)))])
 (.seq (.seq (.reg [0,120,1,2,3,6,7,8] [
 (aO 9 (.mv (kI 0)))])
 (.block 0
 (.loop [0,120,1,2,3,6,7,8,9]
 (.seq (.seq (.reg [0,120,1,2,3,6,7,8,9] [
 (aO 17 (.mv (.t 9))),(aO 18 (.mv (.t 2))),(aO 19 (.len (.t 18))),(aO 20 (.cmp .lss .i64 (.t 17) (.t 19))),(aO 21 (.mv (.t 20))),⟨some 22,some (21,true),.mv (.t 9)⟩,⟨some 23,some (21,true),.cmp .lss .i64 (.t 22) (kI 16)⟩,(aO 24 (.pick (.t 21) (.t 23) (.c (.sc (.bool false)))))])
 (.cut [0,120,1,2,3,6,7,8,9,24] (.cond (.t 24)
 .skip
 (.exit 0))))
 (.seq (.block 1
 (.seq (.seq (.reg [0,120,1,2,3,6,7,8,9] [
 (aO 27 (.fa 1 (.t 8))),(aO 28 (.ld false 1 (.t 27))),(aO 29 (.len (.t 28))),(aO 30 (.cmp .eql .i64 (.t 29) (kI 0)))])
 (.cond (.t 30)
 (.seq (.reg [0,120,1,2,3,6,7,8,9] [
 (aO 31 (.mv (.t 7))),(aO 32 (.mv (.t 2))),(aO 33 (.mv (.t 9))),(aO 34 (.ixs 1 (.t 32) (.t 33))),(aO 35 (.ld false 1 (.t 34))),(aO 36 (.cnv true .i64 (.t 35))),(aO 37 (.mv (.t 7))),(aO 38 (.len (.t 37))),(aO 39 (.dvd .rem true .i64 (.t 36) (.t 38))),(aO 40 (.ixs 1 (.t 31) (.t 39))),(aO 41 (.ld false 1 (.t 40))),(aO 10 (.mv (.t 41)))])
 (.seq (.seq (.reg [0,120,1,2,3,6,7,8,9,10] [
 (aO 42 (.mv (.t 1))),(aO 43 (.mv (.t 10))),(aO 44 (.ixs 1 (.t 42) (.t 43))),(aO 45 (.ld false 1 (.t 44))),(aO 46 (.not (.t 45)))])
 (.cond (.t 46)
 (.seq (.reg [0,120,1,2,3,6,7,8,9,10] [
 (aO 47 (.fa 1 (.t 8))),(aO 48 (.ld false 1 (.t 47))),(aO 49 (.mv (.t 10))),(aO 50 (.bsl 1 3 [zI] 1 [(0,(.t 49))])),(aO 51 (.app 1 3 8 (.t 48) (.t 50))),(aO 52 (.fa 1 (.t 8))),(aN (.sto 1 (.t 52) (.t 51)))])
 (.reg [0,120,1,2,3,6,7,8,9] [
 (aO 53 (.fa 2 (.t 8))),(aO 54 (.ld false 1 (.t 53))),(aO 55 (.bsl 1 3 [zI] 1 [(0,(kI (-1)))])),(aO 56 (.app 1 3 8 (.t 54) (.t 55))),(aO 57 (.fa 2 (.t 8))),(aN (.sto 1 (.t 57) (.t 56)))]))
 .skip))
 (.exit 1)))
 .skip))
 (.seq (.drw [0,120,1,2,3,6,7,8,9] [
 (eT 58 (.fa 1 (.t 8))),(eT 59 (.ld false 1 (.t 58))),(eT 60 (.len (.t 59))),(eT 61 (.ari .sub true .i64 (.t 60) (kI 1))),(eT 62 (.mv (.t 2))),(eT 63 (.mv (.t 9))),(eT 64 (.ixs 1 (.t 62) (.t 63))),(eT 65 (.ld false 1 (.t 64))),(eT 66 (.dvd .quo true .u8 (.t 65) (.c (.sc (.int .u8 64))))),(eT 67 (.cnv true .i64 (.t 66))),(eT 68 (.fa 1 (.t 8))),(eT 69 (.ld false 1 (.t 68))),(eT 70 (.len (.t 69))),(eT 71 (.dvd .rem true .i64 (.t 67) (.t 70))),(eF 72 (.ari .sub true .i64 (.t 61) (.t 71))),(eF 11 (.mv (.t 72)))])
 (.seq (.drw [0,120,1,2,3,6,7,8,9,11] [
 (eT 73 (.ld true 5 (.t 3))),(eT 74 (.fa 1 (.t 8))),(eT 75 (.ld false 1 (.t 74))),(eT 76 (.mv (.t 11))),(eT 77 (.ixs 1 (.t 75) (.t 76))),(eT 78 (.ld false 1 (.t 77))),(eF 79 (.cal 75 [(.t 73),(.t 78)])),(eF 12 (.mv (.t 79)))])
 (.seq (.seq (.reg [0,120,1,2,3,6,7,8,9,11,12] [
 (aO 80 (.mv (.t 12))),(aO 81 (.len (.t 80))),(aO 82 (.cmp .eql .i64 (.t 81) (kI 0)))])
 (.cond (.t 82)
 (.exit 1)
 .skip))
 (.seq (.reg [0,120,1,2,3,6,7,8,9,11,12] [
 (aO 83 (.mv (.t 12))),(aO 84 (.mv (.t 2))),(aO 85 (.mv (.t 9))),(aO 86 (.ixs 1 (.t 84) (.t 85))),(aO 87 (.ld false 1 (.t 86))),(aO 88 (.dvd .rem true .u8 (.t 87) (.c (.sc (.int .u8 64))))),(aO 89 (.cnv true .i64 (.t 88))),(aO 90 (.mv (.t 12))),(aO 91 (.len (.t 90))),(aO 92 (.dvd .rem true .i64 (.t 89) (.t 91))),(aO 93 (.ixs 1 (.t 83) (.t 92))),(aO 94 (.ld false 1 (.t 93))),(aO 13 (.mv (.t 94)))])
 (.seq (.reg [0,120,1,2,3,6,7,8,9,11,13] [
 (aO 95 (.mv (.t 1))),(aO 96 (.mv (.t 13))),(aO 97 (.ixs 1 (.t 95) (.t 96))),(aO 98 (.ld false 1 (.t 97))),(aO 99 (.not (.t 98))),(aO 100 (.mv (.t 99))),⟨some 101,some (100,true),.fa 1 (.t 8)⟩,⟨some 102,some (100,true),.ld false 1 (.t 101)⟩,⟨some 103,some (100,true),.mv (.t 13)⟩,⟨some 104,some (100,true),.cal 44 [(.t 102),(.t 103)]⟩,⟨some 105,some (100,true),.cmp .lss .i64 (.t 104) (kI 0)⟩,(aO 106 (.pick (.t 100) (.t 105) (.c (.sc (.bool false)))))])
 (.cut [0,120,1,2,3,6,7,8,9,11,13,106] (.cond (.t 106)
 (.seq (.reg [0,120,1,2,3,6,7,8,9,11,13] [
 (aO 107 (.fa 1 (.t 8))),(aO 108 (.ld false 1 (.t 107))),(aO 109 (.mv (.t 13))),(aO 110 (.bsl 1 3 [zI] 1 [(0,(.t 109))])),(aO 111 (.app 1 3 8 (.t 108) (.t 110))),(aO 112 (.fa 1 (.t 8))),(aN (.sto 1 (.t 112) (.t 111)))])
 (.reg [0,120,1,2,3,6,7,8,9,11] [
 (aO 113 (.fa 2 (.t 8))),(aO 114 (.ld false 1 (.t 113))),(aO 115 (.mv (.t 11))),(aO 116 (.bsl 1 3 [zI] 1 [(0,(.t 115))])),(aO 117 (.app 1 3 8 (.t 114) (.t 116))),(aO 118 (.fa 2 (.t 8))),(aN (.sto 1 (.t 118) (.t 117)))]))
 .skip)))))))))
 (.reg [0,120,1,2,3,6,7,8,9] [
 (aO 25 (.mv (.t 9))),(aO 26 (.ari .add true .i64 (.t 25) (kI 1))),(aO 9 (.mv (.t 26)))]))))))
 (.seq (.reg [0,120,6,8] [
 (aO 119 (.ld true 3 (.t 8))),(aN (.sto 3 (.t 6) (.t 119)))])
 .ret)))))
def rv42:List RV:=[.cell 6 true 3]
theorem ok42:fnOk Tryz.prog ac42 rv42 Tryz.f42=true:=by kernel_rfl

def ac44:AC:=
 (.seq (.reg [0,19,0,1] [
 (aO 4 (.mv (kI 0)))])
 (.seq (.seq (.reg [0,19,0,1] [
 (aO 5 (.mv (kI 0)))])
 (.block 0
 (.loop [0,19,0,1,5]
 (.seq (.seq (.reg [0,19,0,1,5] [
 (aO 6 (.mv (.t 5))),(aO 7 (.mv (.t 0))),(aO 8 (.len (.t 7))),(aO 9 (.cmp .lss .i64 (.t 6) (.t 8)))])
 (.cond (.t 9)
 .skip
 (.exit 0)))
 (.seq (.block 1
 (.seq (.reg [0,19,0,1,5] [
 (aO 12 (.mv (.t 0))),(aO 13 (.mv (.t 5))),(aO 14 (.ixs 1 (.t 12) (.t 13))),(aO 15 (.ld false 1 (.t 14))),(aO 16 (.mv (.t 1))),(aO 17 (.cmp .eql .i64 (.t 15) (.t 16)))])
 (.cond (.t 17)
 (.seq (.reg [0,19,5] [
 (aO 18 (.mv (.t 5))),(aO 4 (.mv (.t 18)))])
 .ret)
 .skip)))
 (.reg [0,19,0,1,5] [
 (aO 10 (.mv (.t 5))),(aO 11 (.ari .add true .i64 (.t 10) (kI 1))),(aO 5 (.mv (.t 11)))]))))))
 (.seq (.reg [0,19] [
 (aO 4 (.mv (kI (-1))))])
 .ret)))
def rv44:List RV:=[.tmp 4]
theorem ok44:fnOk Tryz.prog ac44 rv44 Tryz.f44=true:=by kernel_rfl

def ac18:AC:=
 (.seq (.reg [0,48,0,1,2] [
 (aO 3 (.box (.t 0))),(aO 4 (.box (.t 1))),(aO 6 (.mv (kI 0))),(aO 7 (.mv (kI 0)))])
 (.seq (.seq (.reg [0,48,2,3,4] [
 (aO 10 (.mv (.t 2))),(aO 11 (.fa 0 (.t 4))),(aO 12 (.ld false 1 (.t 11))),(aO 13 (.len (.t 12))),(aO 14 (.ari .sub true .i64 (.t 13) (kI 1))),(aO 15 (.cal 35 [(.t 10),(kI 0),(.t 14)])),(aO 16 (.not (.t 15)))])
 (.cond (.t 16)
 (.seq (.reg [0,48] [
 (aO 6 (.mv (kI 0))),(aO 7 (.mv (kI 4)))])
 .ret)
 .skip))
 (.seq (.seq (.reg [0,48,2,3,4] [
 (aO 17 (.mkm (.int .i64))),(aO 8 (.mv (.t 17)))])
 (.block 0
 (.loop [0,48,2,3,4,8]
 (.seq (.seq (.reg [0,48,2,3,4,8] [
 (aO 18 (.mv (.t 8))),(aO 19 (.mv (.t 2))),(aO 20 (.mlk (.int .i64) false (.sc (.bool false)) (.t 18) (.t 19))),(aO 21 (.not (.t 20)))])
 (.cond (.t 21)
 .skip
 (.exit 0)))
 (.block 1
 (.seq (.reg [0,48,2,3,4,8] [
 (aO 22 (.mv (.t 8))),(aO 23 (.mv (.t 2))),(aN (.mup (.int .i64) (.t 22) (.t 23) (.c (.sc (.bool true)))))])
 (.seq (.reg [0,48,2,3,4,8] [
 (aO 24 (.ld true 5 (.t 3))),(aO 25 (.mv (.t 2))),(aO 26 (.cal 36 [(.t 24),(.t 25)])),(aO 9 (.mv (.t 26)))])
 (.seq (.block 2
 (.seq (.reg [0,48,2,3,4,8,9] [
 (aO 28 (.mv (.t 9))),(aO 29 (.len (.t 28))),(aO 30 (.cmp .eql .i64 (.t 29) (kI 0))),(aO 27 (.mv (.t 30)))])
 (.cond (.t 27)
 (.seq (.reg [0,48,2] [
 (aO 31 (.mv (.t 2))),(aO 6 (.mv (.t 31))),(aO 7 (.mv (kI 0)))])
 .ret)
 (.seq (.reg [0,48,2,3,4,8,9] [
 (aO 33 (.fa 0 (.t 4))),(aO 34 (.ld false 1 (.t 33))),(aO 35 (.mv (.t 2))),(aO 36 (.ixs 1 (.t 34) (.t 35))),(aO 37 (.ld false 1 (.t 36))),(aO 38 (.cmp .eql .i64 (.t 37) (kI 0))),(aO 32 (.mv (.t 38)))])
 (.cond (.t 32)
 (.seq (.reg [0,48] [
 (aO 6 (.mv (kI 0))),(aO 7 (.mv (kI 4)))])
 .ret)
 .skip)))))
 (.reg [0,48,2,3,4,8,9] [
 (aO 39 (.mv (.t 9))),(aO 40 (.fa 0 (.t 4))),(aO 41 (.ld false 1 (.t 40))),(aO 42 (.mv (.t 2))),(aO 43 (.ixs 1 (.t 41) (.t 42))),(aO 44 (.ld false 1 (.t 43))),(aO 45 (.ari .sub true .i64 (.t 44) (kI 1))),(aO 46 (.ixs 1 (.t 39) (.t 45))),(aO 47 (.ld false 1 (.t 46))),(aO 2 (.mv (.t 47)))])))))))))
 (.seq (.reg [0,48] [
 (aO 6 (.mv (kI 0))),(aO 7 (.mv (kI 50)))])
 .ret))))
def rv18:List RV:=[.tmp 6,.tmp 7]
theorem ok18:fnOk Tryz.prog ac18 rv18 Tryz.f18=true:=by kernel_rfl

def ac73:AC:=
 (.seq (.reg [0,77,0,1,2] [
 (aO 3 (.box (.t 0))),(aO 4 (.box (.t 1))),(aO 6 (.mv (.c (.sc (.bool false)))))])
 (.seq (.seq (.reg [0,77,2,3,4] [
 (aO 7 (.mv (.t 2))),(aO 8 (.cmp .lss .i64 (.t 7) (kI 0))),(aO 9 (.mv (.t 8))),⟨some 10,some (9,false),.mv (.t 2)⟩,⟨some 11,some (9,false),.fa 0 (.t 3)⟩,⟨some 12,some (9,false),.ld false 1 (.t 11)⟩,⟨some 13,some (9,false),.fa 1 (.t 3)⟩,⟨some 14,some (9,false),.ld false 1 (.t 13)⟩,⟨some 15,some (9,false),.ari .mul true .i64 (.t 12) (.t 14)⟩,⟨some 16,some (9,false),.cmp .geq .i64 (.t 10) (.t 15)⟩,(aO 17 (.pick (.t 9) (.c (.sc (.bool true))) (.t 16))),(aO 18 (.mv (.t 17))),⟨some 19,some (18,false),.fa 4 (.t 3)⟩,⟨some 20,some (18,false),.ld false 1 (.t 19)⟩,⟨some 21,some (18,false),.mv (.t 2)⟩,⟨some 22,some (18,false),.ixs 1 (.t 20) (.t 21)⟩,⟨some 23,some (18,false),.ld false 1 (.t 22)⟩,⟨some 24,some (18,false),.cmp .eql .i64 (.t 23) (kI 0)⟩,(aO 25 (.pick (.t 18) (.c (.sc (.bool true))) (.t 24))),(aO 26 (.mv (.t 25))),⟨some 27,some (26,false),.fa 4 (.t 3)⟩,⟨some 28,some (26,false),.ld false 1 (.t 27)⟩,⟨some 29,some (26,false),.mv (.t 2)⟩,⟨some 30,some (26,false),.ixs 1 (.t 28) (.t 29)⟩,⟨some 31,some (26,false),.ld false 1 (.t 30)⟩,⟨some 32,some (26,false),.cmp .eql .i64 (.t 31) (kI 1)⟩,⟨some 33,some (26,false),.mv (.t 32)⟩,⟨some 34,some (33,true),.fa 2 (.t 4)⟩,⟨some 35,some (33,true),.ld false 1 (.t 34)⟩,⟨some 36,some (33,true),.cmp .neq .i64 (.t 35) (kI (-1))⟩,⟨some 37,some (26,false),.pick (.t 33) (.t 36) (.c (.sc (.bool false)))⟩,(aO 38 (.pick (.t 26) (.c (.sc (.bool true))) (.t 37)))])
 (.cut [0,77,4,38] (.cond (.t 38)
 (.seq (.reg [0,77] [
 (aO 6 (.mv (.c (.sc (.bool false)))))])
 .ret)
 .skip)))
 (.seq (.reg [0,77,4] [
 (aO 39 (.fa 1 (.t 4))),(aO 40 (.ld false 1 (.t 39))),(aO 41 (.cmp .geq .i64 (.t 40) (kI 0))),(aO 42 (.mv (.t 41))),⟨some 43,some (42,true),.fa 1 (.t 4)⟩,⟨some 44,some (42,true),.ld false 1 (.t 43)⟩,⟨some 45,some (42,true),.cmp .leq .i64 (.t 44) (kI 65535)⟩,(aO 46 (.pick (.t 42) (.t 45) (.c (.sc (.bool false))))),(aO 47 (.mv (.t 46))),⟨some 48,some (47,true),.fa 2 (.t 4)⟩,⟨some 49,some (47,true),.ld false 1 (.t 48)⟩,⟨some 50,some (47,true),.cmp .geq .i64 (.t 49) (kI (-1))⟩,(aO 51 (.pick (.t 47) (.t 50) (.c (.sc (.bool false))))),(aO 52 (.mv (.t 51))),⟨some 53,some (52,true),.fa 2 (.t 4)⟩,⟨some 54,some (52,true),.ld false 1 (.t 53)⟩,⟨some 55,some (52,true),.cmp .leq .i64 (.t 54) (kI 255)⟩,(aO 56 (.pick (.t 52) (.t 55) (.c (.sc (.bool false))))),(aO 57 (.mv (.t 56))),⟨some 58,some (57,true),.fa 3 (.t 4)⟩,⟨some 59,some (57,true),.ld false 1 (.t 58)⟩,⟨some 60,some (57,true),.cmp .geq .i64 (.t 59) (kI (-1))⟩,(aO 61 (.pick (.t 57) (.t 60) (.c (.sc (.bool false))))),(aO 62 (.mv (.t 61))),⟨some 63,some (62,true),.fa 3 (.t 4)⟩,⟨some 64,some (62,true),.ld false 1 (.t 63)⟩,⟨some 65,some (62,true),.cmp .leq .i64 (.t 64) (kI 255)⟩,(aO 66 (.pick (.t 62) (.t 65) (.c (.sc (.bool false))))),(aO 67 (.mv (.t 66))),⟨some 68,some (67,true),.fa 2 (.t 4)⟩,⟨some 69,some (67,true),.ld false 1 (.t 68)⟩,⟨some 70,some (67,true),.cmp .eql .i64 (.t 69) (kI (-1))⟩,⟨some 71,some (67,true),.mv (.t 70)⟩,⟨some 72,some (71,false),.fa 3 (.t 4)⟩,⟨some 73,some (71,false),.ld false 1 (.t 72)⟩,⟨some 74,some (71,false),.cmp .eql .i64 (.t 73) (kI (-1))⟩,⟨some 75,some (67,true),.pick (.t 71) (.c (.sc (.bool true))) (.t 74)⟩,(aO 76 (.pick (.t 67) (.t 75) (.c (.sc (.bool false))))),(aO 6 (.mv (.t 76)))])
 .ret)))
def rv73:List RV:=[.tmp 6]
theorem ok73:fnOk Tryz.prog ac73 rv73 Tryz.f73=true:=by kernel_rfl

def ac74:AC:=
 (.seq (.reg [0,33,0] [
 (aO 1 (.box (.t 0))),(aO 2 (.mv (.c (.nil))))])
 (.seq (.reg [0,33,1] [
 (aO 6 (.bsl 1 3 [zI] 0 [])),(aO 3 (.mv (.t 6)))])
 (.seq (.seq (.reg [0,33,1,3] [
 (aO 4 (.mv (kI 0)))])
 (.block 0
 (.loop [0,33,1,3,4]
 (.seq (.seq (.reg [0,33,1,3,4] [
 (aO 7 (.mv (.t 4))),(aO 8 (.ld true 5 (.t 1))),(aO 9 (.cal 41 [(.t 8)])),(aO 10 (.cmp .lss .i64 (.t 7) (.t 9)))])
 (.cond (.t 10)
 .skip
 (.exit 0)))
 (.seq (.block 1
 (.seq (.reg [0,33,1,3,4] [
 (aO 13 (.ld true 5 (.t 1))),(aO 14 (.mv (.t 4))),(aO 15 (.cal 48 [(.t 13),(.t 14)])),(aO 16 (.fl true 0 4 (.t 15))),(aO 17 (.fl false 0 1 (.t 16))),(aO 5 (.mv (.t 17)))])
 (.seq (.reg [0,33,1,3,4,5] [
 (aO 18 (.mv (.t 5))),(aO 19 (.cmp .eql .i64 (.t 18) (kI 1))),(aO 20 (.mv (.t 19))),⟨some 21,some (20,false),.mv (.t 5)⟩,⟨some 22,some (20,false),.cmp .eql .i64 (.t 21) (kI 2)⟩,(aO 23 (.pick (.t 20) (.c (.sc (.bool true))) (.t 22))),(aO 24 (.mv (.t 23))),⟨some 25,some (24,false),.mv (.t 5)⟩,⟨some 26,some (24,false),.cmp .eql .i64 (.t 25) (kI 6)⟩,(aO 27 (.pick (.t 24) (.c (.sc (.bool true))) (.t 26)))])
 (.cut [0,33,1,3,4,27] (.cond (.t 27)
 (.reg [0,33,1,3,4] [
 (aO 28 (.mv (.t 3))),(aO 29 (.mv (.t 4))),(aO 30 (.bsl 1 3 [zI] 1 [(0,(.t 29))])),(aO 31 (.app 1 3 8 (.t 28) (.t 30))),(aO 3 (.mv (.t 31)))])
 .skip)))))
 (.reg [0,33,1,3,4] [
 (aO 11 (.mv (.t 4))),(aO 12 (.ari .add true .i64 (.t 11) (kI 1))),(aO 4 (.mv (.t 12)))]))))))
 (.seq (.reg [0,33,3] [
 (aO 32 (.mv (.t 3))),(aO 2 (.mv (.t 32)))])
 .ret))))
def rv74:List RV:=[.tmp 2]
theorem ok74:fnOk Tryz.prog ac74 rv74 Tryz.f74=true:=by kernel_rfl

def ac75:AC:=
 (.seq (.reg [0,36,0,1] [
 (aO 2 (.box (.t 0))),(aO 4 (.mv (.c (.nil))))])
 (.seq (.reg [0,36,1,2] [
 (aO 8 (.bsl 1 3 [zI] 0 [])),(aO 5 (.mv (.t 8)))])
 (.seq (.reg [0,36,1,2,5] [
 (aO 9 (.ld true 5 (.t 2))),(aO 10 (.mv (.t 1))),(aO 11 (.cal 48 [(.t 9),(.t 10)])),(aO 6 (.alc [zI,zI,zI,zI,zI])),(aN (.sto 5 (.t 6) (.t 11)))])
 (.seq (.seq (.reg [0,36,2,5,6] [
 (aO 7 (.mv (kI 0)))])
 (.block 0
 (.loop [0,36,2,5,6,7]
 (.seq (.seq (.reg [0,36,2,5,6,7] [
 (aO 12 (.mv (.t 7))),(aO 13 (.ld true 5 (.t 2))),(aO 14 (.cal 41 [(.t 13)])),(aO 15 (.cmp .lss .i64 (.t 12) (.t 14))),(aO 16 (.mv (.t 15))),⟨some 17,some (16,true),.fa 4 (.t 6)⟩,⟨some 18,some (16,true),.ld false 1 (.t 17)⟩,⟨some 19,some (16,true),.cmp .eql .i64 (.t 18) (kI 0)⟩,(aO 20 (.pick (.t 16) (.t 19) (.c (.sc (.bool false)))))])
 (.cut [0,36,2,5,6,7,20] (.cond (.t 20)
 .skip
 (.exit 0))))
 (.seq (.block 1
 (.seq (.drw [0,36,2,5,6,7] [
 (eT 23 (.ld true 5 (.t 2))),(eT 24 (.fa 0 (.t 6))),(eT 25 (.ld true 4 (.t 24))),(eT 26 (.ld true 5 (.t 2))),(eT 27 (.mv (.t 7))),(eT 28 (.cal 48 [(.t 26),(.t 27)])),(eT 29 (.fl true 0 4 (.t 28))),(eF 30 (.cal 77 [(.t 23),(.t 25),(.t 29)]))])
 (.cond (.t 30)
 (.reg [0,36,2,5,6,7] [
 (aO 31 (.mv (.t 5))),(aO 32 (.mv (.t 7))),(aO 33 (.bsl 1 3 [zI] 1 [(0,(.t 32))])),(aO 34 (.app 1 3 8 (.t 31) (.t 33))),(aO 5 (.mv (.t 34)))])
 .skip)))
 (.reg [0,36,2,5,6,7] [
 (aO 21 (.mv (.t 7))),(aO 22 (.ari .add true .i64 (.t 21) (kI 1))),(aO 7 (.mv (.t 22)))]))))))
 (.seq (.reg [0,36,5] [
 (aO 35 (.mv (.t 5))),(aO 4 (.mv (.t 35)))])
 .ret)))))
def rv75:List RV:=[.tmp 4]
theorem ok75:fnOk Tryz.prog ac75 rv75 Tryz.f75=true:=by kernel_rfl

def ac76:AC:=
 (.seq (.reg [0,87,0,1] [
 (aO 2 (.box (.t 0))),(aO 3 (.box (.t 1))),(aO 4 (.mv (.c (.sc (.bool false)))))])
 (.seq (.seq (.reg [0,87,2,3] [
 (aO 7 (.fa 1 (.t 3))),(aO 8 (.ld false 1 (.t 7))),(aO 9 (.len (.t 8))),(aO 10 (.cmp .eql .i64 (.t 9) (kI 0))),(aO 11 (.mv (.t 10))),⟨some 12,some (11,false),.fa 2 (.t 3)⟩,⟨some 13,some (11,false),.ld false 1 (.t 12)⟩,⟨some 14,some (11,false),.len (.t 13)⟩,⟨some 15,some (11,false),.fa 1 (.t 3)⟩,⟨some 16,some (11,false),.ld false 1 (.t 15)⟩,⟨some 17,some (11,false),.len (.t 16)⟩,⟨some 18,some (11,false),.cmp .neq .i64 (.t 14) (.t 17)⟩,(aO 19 (.pick (.t 11) (.c (.sc (.bool true))) (.t 18))),(aO 20 (.mv (.t 19))),⟨some 21,some (20,false),.fa 2 (.t 3)⟩,⟨some 22,some (20,false),.ld false 1 (.t 21)⟩,⟨some 23,some (20,false),.ixs 1 (.t 22) (kI 0)⟩,⟨some 24,some (20,false),.ld false 1 (.t 23)⟩,⟨some 25,some (20,false),.cmp .neq .i64 (.t 24) (kI (-1))⟩,(aO 26 (.pick (.t 20) (.c (.sc (.bool true))) (.t 25)))])
 (.cut [0,87,2,3,26] (.cond (.t 26)
 (.seq (.reg [0,87] [
 (aO 4 (.mv (.c (.sc (.bool false)))))])
 .ret)
 .skip)))
 (.seq (.drw [0,87,2,3] [
 (eU 27 (.ld true 5 (.t 2)) [] [5]),(eU 28 (.fa 1 (.t 3)) [] [5]),(eU 29 (.ld false 1 (.t 28)) [] [5]),(eU 30 (.ixs 1 (.t 29) (kI 0)) [] [5]),(eU 31 (.ld false 1 (.t 30)) [] [5]),(eU 32 (.cal 48 [(.t 27),(.t 31)]) [] [5]),(eU 5 (.alc [zI,zI,zI,zI,zI]) [5] []),⟨(aN (.sto 5 (.t 5) (.t 32))),[],[],false⟩])
 (.seq (.seq (.drw [0,87,2,3,5] [
 (eF 33 (.fa 4 (.t 5))),(eF 34 (.ld false 1 (.t 33))),(eF 35 (.cmp .neq .i64 (.t 34) (kI 0))),(eF 36 (.mv (.t 35))),⟨⟨some 37,some (36,false),.ld true 5 (.t 2)⟩,[],[],true⟩,⟨⟨some 38,some (36,false),.fa 1 (.t 3)⟩,[],[],true⟩,⟨⟨some 39,some (36,false),.ld false 1 (.t 38)⟩,[],[],true⟩,⟨⟨some 40,some (36,false),.ixs 1 (.t 39) (kI 0)⟩,[],[],true⟩,⟨⟨some 41,some (36,false),.ld false 1 (.t 40)⟩,[],[],true⟩,⟨⟨some 42,some (36,false),.cal 46 [(.t 37),(.t 41)]⟩,[],[],false⟩,⟨⟨some 43,some (36,false),.cmp .gtr .i64 (.t 42) (kI 0)⟩,[],[],false⟩,(eF 44 (.pick (.t 36) (.c (.sc (.bool true))) (.t 43)))])
 (.cut [0,87,2,3,44] (.cond (.t 44)
 (.seq (.reg [0,87] [
 (aO 4 (.mv (.c (.sc (.bool false)))))])
 .ret)
 .skip)))
 (.seq (.seq (.reg [0,87,2,3] [
 (aO 6 (.mv (kI 1)))])
 (.block 0
 (.loop [0,87,2,3,6]
 (.seq (.seq (.reg [0,87,2,3,6] [
 (aO 45 (.mv (.t 6))),(aO 46 (.fa 1 (.t 3))),(aO 47 (.ld false 1 (.t 46))),(aO 48 (.len (.t 47))),(aO 49 (.cmp .lss .i64 (.t 45) (.t 48)))])
 (.cond (.t 49)
 .skip
 (.exit 0)))
 (.seq (.block 1
 (.seq (.drw [0,87,2,3,6] [
 (eT 52 (.fa 2 (.t 3))),(eT 53 (.ld false 1 (.t 52))),(eT 54 (.mv (.t 6))),(eF 55 (.ixs 1 (.t 53) (.t 54))),(eF 56 (.ld false 1 (.t 55))),(eF 57 (.cmp .lss .i64 (.t 56) (kI 0))),(eF 58 (.mv (.t 57))),⟨⟨some 59,some (58,false),.fa 2 (.t 3)⟩,[],[],true⟩,⟨⟨some 60,some (58,false),.ld false 1 (.t 59)⟩,[],[],true⟩,⟨⟨some 61,some (58,false),.mv (.t 6)⟩,[],[],true⟩,⟨⟨some 62,some (58,false),.ixs 1 (.t 60) (.t 61)⟩,[],[],true⟩,⟨⟨some 63,some (58,false),.ld false 1 (.t 62)⟩,[],[],true⟩,⟨⟨some 64,some (58,false),.mv (.t 6)⟩,[],[],true⟩,⟨⟨some 65,some (58,false),.cmp .geq .i64 (.t 63) (.t 64)⟩,[],[],false⟩,(eF 66 (.pick (.t 58) (.c (.sc (.bool true))) (.t 65))),(eF 67 (.mv (.t 66))),⟨⟨some 68,some (67,false),.ld true 5 (.t 2)⟩,[],[],true⟩,⟨⟨some 69,some (67,false),.fa 1 (.t 3)⟩,[],[],true⟩,⟨⟨some 70,some (67,false),.ld false 1 (.t 69)⟩,[],[],true⟩,⟨⟨some 71,some (67,false),.mv (.t 6)⟩,[],[],true⟩,⟨⟨some 72,some (67,false),.ixs 1 (.t 70) (.t 71)⟩,[],[],true⟩,⟨⟨some 73,some (67,false),.ld false 1 (.t 72)⟩,[],[],true⟩,⟨⟨some 74,some (67,false),.cal 45 [(.t 68),(.t 73)]⟩,[],[],true⟩,⟨⟨some 75,some (67,false),.fa 1 (.t 3)⟩,[],[],true⟩,⟨⟨some 76,some (67,false),.ld false 1 (.t 75)⟩,[],[],true⟩,⟨⟨some 77,some (67,false),.fa 2 (.t 3)⟩,[],[],true⟩,⟨⟨some 78,some (67,false),.ld false 1 (.t 77)⟩,[],[],true⟩,⟨⟨some 79,some (67,false),.mv (.t 6)⟩,[],[],true⟩,⟨⟨some 80,some (67,false),.ixs 1 (.t 78) (.t 79)⟩,[],[],true⟩,⟨⟨some 81,some (67,false),.ld false 1 (.t 80)⟩,[],[],true⟩,⟨⟨some 82,some (67,false),.ixs 1 (.t 76) (.t 81)⟩,[],[],true⟩,⟨⟨some 83,some (67,false),.ld false 1 (.t 82)⟩,[],[],true⟩,⟨⟨some 84,some (67,false),.cal 44 [(.t 74),(.t 83)]⟩,[],[],false⟩,⟨⟨some 85,some (67,false),.cmp .lss .i64 (.t 84) (kI 0)⟩,[],[],false⟩,(eF 86 (.pick (.t 67) (.c (.sc (.bool true))) (.t 85)))])
 (.cut [0,87,2,3,6,86] (.cond (.t 86)
 (.seq (.reg [0,87] [
 (aO 4 (.mv (.c (.sc (.bool false)))))])
 .ret)
 .skip))))
 (.reg [0,87,2,3,6] [
 (aO 50 (.mv (.t 6))),(aO 51 (.ari .add true .i64 (.t 50) (kI 1))),(aO 6 (.mv (.t 51)))]))))))
 (.seq (.reg [0,87] [
 (aO 4 (.mv (.c (.sc (.bool true)))))])
 .ret))))))
def rv76:List RV:=[.tmp 4]
theorem ok76:fnOk Tryz.prog ac76 rv76 Tryz.f76=true:=by kernel_rfl

def ac22:AC:=
 (.seq (.reg [0,71,0] [
 (aO 1 (.box (.t 0))),(aO 2 (.alc [zI,zI,zI,zI,.nil,.nil,.nil,.nil,.nil,.nil,.nil]))])
 (.seq (.reg [0,71,1,2] [
 (aO 9 (.fa 0 (.t 1))),(aO 10 (.ld true 5 (.t 9))),(aO 11 (.cal 39 [(.t 10)])),(aO 3 (.alc [zI,zI,zI,zI,.nil])),(aN (.sto 5 (.t 3) (.t 11)))])
 (.seq (.reg [0,71,1,2,3] [
 (aO 12 (.fa 3 (.t 3))),(aN (.sto 1 (.t 12) (kI 4)))])
 (.seq (.reg [0,71,1,2,3] [
 (aO 13 (.ld true 5 (.t 3))),(aO 14 (.bld [zI,zI,zI,zI,.nil,.nil,.nil,.nil,.nil,.nil,.nil] [(0,5,(.t 13))])),(aO 15 (.fa 5 (.t 1))),(aO 16 (.ld false 1 (.t 15))),(aO 17 (.cal 40 [(.t 14),(.t 16)])),(aO 4 (.alc [zI,zI,zI,zI,.nil,.nil,.nil,.nil,.nil,.nil,.nil])),(aN (.sto 11 (.t 4) (.t 17)))])
 (.seq (.reg [0,71,1,2,4] [
 (aO 18 (.fa 0 (.t 4))),(aO 19 (.ld true 5 (.t 18))),(aO 20 (.cal 41 [(.t 19)])),(aO 21 (.mks 1 4 1 [.sc (.bool false)] (.t 20) (.t 20))),(aO 5 (.mv (.t 21)))])
 (.seq (.seq (.reg [0,71,1,2,4,5] [
 (aO 6 (.mv (kI 0)))])
 (.block 0
 (.loop [0,71,1,2,4,5,6]
 (.seq (.seq (.reg [0,71,1,2,4,5,6] [
 (aO 22 (.mv (.t 6))),(aO 23 (.fa 6 (.t 1))),(aO 24 (.ld false 1 (.t 23))),(aO 25 (.len (.t 24))),(aO 26 (.cmp .lss .i64 (.t 22) (.t 25))),(aO 27 (.mv (.t 26))),⟨some 28,some (27,true),.mv (.t 6)⟩,⟨some 29,some (27,true),.cmp .lss .i64 (.t 28) (kI 5)⟩,(aO 30 (.pick (.t 27) (.t 29) (.c (.sc (.bool false)))))])
 (.cut [0,71,1,2,4,5,6,30] (.cond (.t 30)
 .skip
 (.exit 0))))
 (.seq (.block 1
 (.seq (.drw [0,71,1,2,4,5,6] [
 (eU 33 (.fa 0 (.t 4)) [] [7]),(eU 34 (.ld true 5 (.t 33)) [] [7]),(eU 35 (.mv (.t 5)) [] [7]),(eU 36 (.fa 6 (.t 1)) [] [7]),(eU 37 (.ld false 1 (.t 36)) [] [7]),(eU 38 (.mv (.t 6)) [] [7]),(eU 39 (.ixs 1 (.t 37) (.t 38)) [] [7]),(eU 40 (.ld false 1 (.t 39)) [] [7]),(eU 41 (.cal 42 [(.t 34),(.t 35),(.t 40)]) [] [7]),(eU 7 (.alc [zI,.nil,.nil]) [7] []),⟨(aN (.sto 3 (.t 7) (.t 41))),[],[],false⟩])
 (.seq (.seq (.reg [0,71,1,2,4,5,6,7] [
 (aO 42 (.fa 1 (.t 7))),(aO 43 (.ld false 1 (.t 42))),(aO 44 (.len (.t 43))),(aO 45 (.cmp .eql .i64 (.t 44) (kI 0)))])
 (.cond (.t 45)
 (.exit 1)
 .skip))
 (.seq (.reg [0,71,1,2,4,5,6,7] [
 (aO 46 (.mv (.t 6))),(aO 47 (.fa 0 (.t 7))),(aN (.sto 1 (.t 47) (.t 46)))])
 (.seq (.seq (.reg [0,71,1,2,4,5,6,7] [
 (aO 8 (.mv (kI 0)))])
 (.block 2
 (.loop [0,71,1,2,4,5,6,7,8]
 (.seq (.seq (.reg [0,71,1,2,4,5,6,7,8] [
 (aO 48 (.mv (.t 8))),(aO 49 (.fa 1 (.t 7))),(aO 50 (.ld false 1 (.t 49))),(aO 51 (.len (.t 50))),(aO 52 (.cmp .lss .i64 (.t 48) (.t 51)))])
 (.cond (.t 52)
 .skip
 (.exit 2)))
 (.seq (.block 3
 (.reg [0,71,1,2,4,5,6,7,8] [
 (aO 55 (.mv (.t 5))),(aO 56 (.fa 1 (.t 7))),(aO 57 (.ld false 1 (.t 56))),(aO 58 (.mv (.t 8))),(aO 59 (.ixs 1 (.t 57) (.t 58))),(aO 60 (.ld false 1 (.t 59))),(aO 61 (.ixs 1 (.t 55) (.t 60))),(aN (.sto 1 (.t 61) (.c (.sc (.bool true)))))]))
 (.reg [0,71,1,2,4,5,6,7,8] [
 (aO 53 (.mv (.t 8))),(aO 54 (.ari .add true .i64 (.t 53) (kI 1))),(aO 8 (.mv (.t 54)))]))))))
 (.reg [0,71,1,2,4,5,6,7] [
 (aO 62 (.fa 9 (.t 4))),(aO 63 (.fa 1 (.t 62))),(aO 64 (.ld false 1 (.t 63))),(aO 65 (.ld true 3 (.t 7))),(aO 66 (.bsl 3 115 [zI,.nil,.nil] 1 [(0,(.t 65))])),(aO 67 (.app 3 115 56 (.t 64) (.t 66))),(aO 68 (.fa 9 (.t 4))),(aO 69 (.fa 1 (.t 68))),(aN (.sto 1 (.t 69) (.t 67)))]))))))
 (.reg [0,71,1,2,4,5,6] [
 (aO 31 (.mv (.t 6))),(aO 32 (.ari .add true .i64 (.t 31) (kI 1))),(aO 6 (.mv (.t 32)))]))))))
 (.seq (.reg [0,71,2,4] [
 (aO 70 (.ld true 11 (.t 4))),(aN (.sto 11 (.t 2) (.t 70)))])
 .ret)))))))
def rv22:List RV:=[.cell 2 true 11]
theorem ok22:fnOk Tryz.prog ac22 rv22 Tryz.f22=true:=by kernel_rfl
end Go.Proofs.YtdmkfgkmnpohlaaGreat.Txt
namespace Go.Proofs.YtdmkfgkmnpohlaaGreat
open Go Go.Vc Txt
theorem qyF: ∀ {l m:List Int},l.Nodup->(∀x∈l,x∈m)->l.length<=m.length
 |[],_,_,_=>by simp
 | x :: l, m, hn, h => by
   rw[List.nodup_cons]at hn
   have hx:=h x (by simp)
   have:=qyF (l:=l) (m:=m.erase x) hn.2 fun y hy=>by
    have hne:y≠x:=fun e=>hn.1 (e▸hy)
    exact(List.mem_erase_of_ne hne).2 (h y (by simp[hy]))
   rw[List.length_erase_of_mem hx]at this
   have:=List.length_pos_of_mem hx
   simp only[List.length_cons]
   omega
theorem qyG{l:List Int}{n:Nat}(h:l.Nodup)(hr: ∀x∈l,0<=x/\x<n):l.length<=n:=by
 have:=qyF (m:=(List.range n).map Int.ofNat) h fun x hx=>by
  obtain⟨a,b⟩:=hr x hx
  exact List.mem_map.2 ⟨x.toNat,by simp;omega,by simp;omega⟩
 simpa using this
theorem qyI(g:Grid)(hg:GOk g)(n:Int)(hn: -1000000000<=n/\n<=1000000000):FnEq Tryz.prog 46 [.agg (quy false g),.int n] (.int (qvM g n).length):=by
 refine FnEq.of_awp Tryz.func46 ok46 (by show 2<=_;decide) (by simp only[push_cast,reduceIte,reduceEqDiff,reduceAdd,reduceSub,reduceMul,Nat.reduceBEq,reduceLT,reduceLeDiff,reduceCtorEq,reduceToNat,reduceNeg]<;>first|exact fun _ _=>trivial|simp) ?_
 simp only[ac46,rv46,push_cast,reduceIte,reduceEqDiff,reduceAdd,reduceSub,reduceMul,Nat.reduceBEq,reduceLT,reduceLeDiff,reduceCtorEq,reduceToNat,reduceNeg]
 refine qrm (qw1 g hg n hn) sC ?_
 refine sB ?_
 rw[qyE hg]
def idxF(p:Nat->Bool):Nat->List Int
 |0=>[]
 |k+1=>idxF p k++if p k then[(k:Int)]else[]
theorem qyJ(p:Nat->Bool): ∀k,(idxF p k).length<=k
 |0=>Nat.le_refl _
 |k+1=>by have:=qyJ p k;rw[idxF,List.length_append];split<;>simp<;>omega
def lvN(id:Nat):List Int->PV
 |[]=> .nil
 |x::l=> .view id 0 (x::l).length
def laN(id:Nat):List Int->List (Nat×Arr)
 |[]=>[]
 |x::l=>[(id,⟨1,3,ints (x::l)⟩)]
@[push_cast] theorem qyK(id:Nat):lvN id []= .nil:=rfl
@[push_cast] theorem qyL(id:Nat)(x:Int)(l:List Int):lvN id (x::l)= .view id 0 (l.length+1):=rfl
@[push_cast] theorem qyM(id:Nat):laN id []=[]:=rfl
@[push_cast] theorem qyN(id:Nat)(x:Int)(l:List Int):laN id (x::l)=[(id,⟨1,3,ints (x::l)⟩)]:=rfl
end Go.Proofs.YtdmkfgkmnpohlaaGreat
namespace Go.Vc
end Go.Vc
namespace Go.Proofs.YtdmkfgkmnpohlaaGreat
open Go Go.Vc Txt
end Go.Proofs.YtdmkfgkmnpohlaaGreat
namespace Go.Vc
end Go.Vc
namespace Go.Proofs.YtdmkfgkmnpohlaaGreat
open Go Go.Vc Txt
def lsC(l:List Int):List PV:=[.sl true 1 (ints l)]
@[push_cast] theorem qyQ(l:List Int):lsC l=[.sl true 1 (ints l)]:=rfl
structure CfgSm (c:Cfg):Prop where
 sel:(c.sel.length:Int)<=1000000
 mode:(c.mode.length:Int)<=1000000
 tab:(c.tab.length:Int)<=1000000
 ram:(c.ram.length:Int)<=1000000
def qyV(k m t r:Int):Prop:=(0<=m/\m<=3)/\qwy k m=true/\(0<=t/\t<=if m=1\/m=2 then 65535 else 0)/\(0<=r/\r<=if m=2\/m=3 then 255 else 0)
instance (k m t r:Int):Decidable (qyV k m t r):=by unfold qyV;infer_instance
open Classical in
theorem qyX{p:Prop} [Decidable p](h:(!decide p)=true): ¬p:=by simpa using h
theorem qyY{p:Prop} [Decidable p](h:(!decide p)=false):p:=by simpa using h
def qyZ(g:Grid)(c:Cfg):Prop:=c.sel.length=(quD g).toNat/\c.mode.length=g.kind.length/\c.tab.length=g.kind.length/\c.ram.length=g.kind.length
instance (g:Grid) (c:Cfg):Decidable (qyZ g c):=by unfold qyZ;infer_instance
def qz0(g:Grid)(c:Cfg)(i:Nat):Prop:=c.sel.getD i 0≠0->1<=c.sel.getD i 0/\c.sel.getD i 0<=(qvM g i).length
def qz1(g:Grid)(c:Cfg)(t:Nat):Prop:=qyV (g.kind.getD t 0) (c.mode.getD t 0) (c.tab.getD t 0) (c.ram.getD t 0)
instance (g:Grid) (c:Cfg) (i:Nat):Decidable (qz0 g c i):=by unfold qz0;infer_instance
instance (g:Grid) (c:Cfg) (t:Nat):Decidable (qz1 g c t):=by unfold qz1;infer_instance
def qz6(g:Grid)(c:Cfg):Nat->List Int->Int->Int×Int
 |0,_,_=>(0,50)
 | f + 1, sn, n => if n ∈ sn then (0, 50) else if qvM g n = [] then (n, 0) else if c.sel.getD n.toNat 0 = 0 then (0, 4) else
   qz6 g c f (sn++[n]) ((qvM g n).getD (c.sel.getD n.toNat 0-1).toNat 0)
def qz7(g:Grid)(c:Cfg)(n:Int):Int×Int:=if 0<=n/\n<=(c.sel.length:Int)-1 then qz6 g c (c.sel.length+1) [] n else(0,4)
structure SelsOk (g:Grid) (c:Cfg):Prop where
 len:c.sel.length=(quD g).toNat
 sel: ∀i,i<c.sel.length->qz0 g c i
theorem qz8(g:Grid)(s:Spot): ∀k,∀x∈qvZ g s k,0<=x/\x<k
 |0,x,h=>by simp[qvZ]at h
 | k + 1, x, h => by
   rw[qvZ,List.mem_append]at h
   rcases h with h|h
   ·have:=qz8 g s k x h;omega
   ·split at h
    ·simp at h;omega
    ·simp at h
theorem qz9{g:Grid}(hg:GOk g)(n x:Int)(h:x∈qvM g n):0<=x/\x<(quD g).toNat:=by
 rw[qyE hg,rdrF]at h
 split at h
 ·exact qz8 _ _ _ _ h
 ·simp at h
theorem qza{l:List Int}{k:Nat}(h:k<l.length):l.getD k 0∈l:=by simp[h]
set_option maxHeartbeats 2000000 in
theorem qzb(g:Grid)(hg:GOk g)(c:Cfg)(hc:SelsOk g c)(n:Int):FnEq Tryz.prog 18 [.agg (quy false g),.agg (cfgC false c),.int n] (.tup [.int (qz7 g c n).1,.int (qz7 g c n).2]):=by
 have h1:=hg.count
 have h2:=hc.len
 refine FnEq.of_awp Tryz.func18 ok18 (by show 3<=_;decide) (by simp only[push_cast,reduceIte,reduceEqDiff,reduceAdd,reduceSub,reduceMul,Nat.reduceBEq,reduceLT,reduceLeDiff,reduceCtorEq,reduceToNat,reduceNeg]<;>first|exact fun _ _=>trivial|simp) ?_
 simp only[ac18,rv18,push_cast,reduceIte,reduceEqDiff,reduceAdd,reduceSub,reduceMul,Nat.reduceBEq,reduceLT,reduceLeDiff,reduceCtorEq,reduceToNat,reduceNeg]
 refine⟨by omega,?_⟩
 refine qoF (qwx _ _ _) ?_
 refine sB ?_
 refine qnQ (fun e=> ?_) fun e=> ?_
 ·have e:=qyX e
  rw[qz7,if_neg (by omega)]
  exact⟨rfl,rfl⟩
 have e:=qyY e
 have hF:qz7 g c n=qz6 g c (c.sel.length+1) [] n:=if_pos (by omega)
 rw[hF]
 clear hF
 refine qoH (fun m st=> ∃(sn:List Int) (x:Int),m+sn.length=c.sel.length/\sn.Nodup/\(∀y∈sn,0<=y/\y<c.sel.length)/\(0<=x/\x<c.sel.length)/\
  qz6 g c (c.sel.length+1) [] n=qz6 g c (m+1) sn x/\st=⟨[(2,.int x),(3,.ptr 3 0),(4,.ptr 4 0),(8,.mp 17)],[(3,quy false g),(4,cfgC false c)],[],[(17,⟨.int .i64,qy8 sn,none⟩)]⟩) c.sel.length ?_ ?_
 ·refine⟨[],n,by simp,.nil,by simp,by omega,rfl,?_⟩
  simp only[qy8,List.map_nil,push_cast,reduceIte,reduceEqDiff,reduceAdd,reduceSub,reduceMul,Nat.reduceBEq,reduceLT,reduceLeDiff,reduceCtorEq,reduceToNat,reduceNeg]
 rintro m st ⟨sn,x,hm,hnd,hr,hx,hS,rfl⟩
 rw[hS]
 have hmg:mlkT false (.sc (.bool false)) (mget (qy8 sn) (.int .i64 x))= .sc (.bool (decide (x∈sn))):=by
  rw[qya]
  by_cases h:x∈sn<;>simp[h,mlkT]
 simp only[hmg,push_cast,reduceIte,reduceEqDiff,reduceAdd,reduceSub,reduceMul,Nat.reduceBEq,reduceLT,reduceLeDiff,reduceCtorEq,reduceToNat,reduceNeg]
 refine qnQ (fun e2=> ?_) fun e2=> ?_
 rotate_left
 ·have e2:x∈sn:=qyY e2
  rw[qz6,if_pos e2]
  exact⟨rfl,rfl⟩
 have e2:x∉sn:=qyX e2
 simp only[qyb x sn e2,push_cast,reduceIte,reduceEqDiff,reduceAdd,reduceSub,reduceMul,Nat.reduceBEq,reduceLT,reduceLeDiff,reduceCtorEq,reduceToNat,reduceNeg]
 have hnd' :(sn++[x]).Nodup:=List.nodup_append.2 ⟨hnd,by simp,by intro a ha b hb h;simp at hb;subst hb;subst h;exact e2 ha⟩
 have hr' : ∀y∈sn++[x],0<=y/\y<c.sel.length:=fun y hy=>by
  rw[List.mem_append,List.mem_singleton]at hy
  rcases hy with hy|rfl
  ·exact hr y hy
  ·exact hx
 have hln:=qyG (n:=c.sel.length) hnd' hr'
 rw[List.length_append,List.length_singleton]at hln
 obtain⟨k,rfl⟩: ∃k,m=k+1:=⟨m-1,by omega⟩
 have hdl:=qy5 g hg x
 refine qrm (qvQ g hg x (by omega)) sC ?_
 refine sB ?_
 refine qnR (fun h0=> ?_) fun h0=> ?_
 ·have hd:qvM g x=[]:=List.length_eq_zero_iff.1 (by omega)
  rw[qz6,if_neg e2,if_pos hd]
  exact⟨rfl,rfl⟩
 have hd: ¬qvM g x=[]:=fun h=>h0 (by rw[h];rfl)
 refine⟨by omega,by omega,?_⟩
 have e0: ∀(l:List Int) (j:Nat),l.getD j default=l.getD j 0:=fun _ _=>rfl
 simp only[e0]
 refine qnR (fun h3=> ?_) fun h3=> ?_
 ·rw[qz6,if_neg e2,if_neg hd,if_pos h3]
  exact⟨rfl,rfl⟩
 have hsa:=hc.sel x.toNat (by omega) h3
 rw[show((x.toNat:Nat):Int)=x by omega]at hsa
 have hgm:=qz9 hg x _ (qza (l:=qvM g x) (k:=(c.sel.getD x.toNat 0-1).toNat) (by omega))
 have hst:qz6 g c (k+1+1) sn x=qz6 g c (k+1) (sn++[x]) ((qvM g x).getD (c.sel.getD x.toNat 0-1).toNat 0):=by
  rw[qz6,if_neg e2,if_neg hd,if_neg h3]
 generalize c.sel.getD x.toNat 0=s at *
 refine⟨by omega,by omega,by omega,by omega,by omega,_,?_,sn++[x],_,?_,hnd',hr',?_,hst,?_⟩
 ·omega
 ·rw[List.length_append,List.length_singleton];omega
 ·omega
 ·simp only[e0,push_cast,reduceIte,reduceEqDiff,reduceAdd,reduceSub,reduceMul,Nat.reduceBEq,reduceLT,reduceLeDiff,reduceCtorEq,reduceToNat,reduceNeg]
def desC(q:Bool)(g:Grid)(p:Packed)(l:Layout):List PV:=quy q g++qwC q p++layC q l
@[push_cast] theorem qzc(q:Bool)(g:Grid)(p:Packed)(l:Layout):desC q g p l=quy q g++qwC q p++layC q l:=rfl
end Go.Proofs.YtdmkfgkmnpohlaaGreat
namespace Go.Proofs.YtdmkfgkmnpohlaaGreat.Txt
open Go Go.Vc
set_option maxRecDepth 100000
def ac37_200w:AC:=
 (.seq (.reg [200,19,200] [
 (aO 201 (.box (.t 200))),(aO 202 (.alc [.nil,.nil,.nil,.nil]))])
 (.seq (.reg [200,19,201,202] [
 (aO 204 (.fa 0 (.t 201))),(aO 205 (.ld false 1 (.t 204))),(aO 206 (.fa 1 (.t 201))),(aO 207 (.ld false 1 (.t 206))),(aO 208 (.ari .mul true .i64 (.t 205) (.t 207))),(aO 203 (.mv (.t 208)))])
 (.seq (.drw [200,19,201,202,203] [
 (eU 209 (.ld true 5 (.t 201)) [] [213,215,217]),(eU 210 (.cal 41 [(.t 209)]) [] [213,215,217]),(eU 211 (.mks 1 3 8 [zI] (.t 210) (.t 210)) [211] [213,215,217]),(eU 212 (.mv (.t 203)) [] [211,215,217]),(eU 213 (.mks 1 3 8 [zI] (.t 212) (.t 212)) [213] [211,215,217]),(eU 214 (.mv (.t 203)) [] [211,213,217]),(eU 215 (.mks 1 3 8 [zI] (.t 214) (.t 214)) [215] [211,213,217]),(eU 216 (.mv (.t 203)) [] [211,213,215]),(eU 217 (.mks 1 3 8 [zI] (.t 216) (.t 216)) [217] [211,213,215]),(eF 218 (.bld [.nil,.nil,.nil,.nil] [(0,1,(.t 211)),(1,1,(.t 213)),(2,1,(.t 215)),(3,1,(.t 217))])),⟨(aN (.sto 4 (.t 202) (.t 218))),[],[],false⟩])
 .ret)))
def rv37_200w:List RV:=[.cell 202 true 4]
theorem ok37_200w:qh0 Tryz.prog 200 ac37_200w rv37_200w Tryz.f37=true:=by kernel_rfl

def ac23w:AC:=
 (.seq (.reg [0,130,0,1,2] [
 (aO 3 (.box (.t 0))),(aO 4 (.box (.t 1))),(aO 5 (.box (.t 2))),(aO 6 (.alc [.nil,.nil,.nil,.nil,zI]))])
 (.seq (.seq (.reg [0,130,3,4,5,6] [
 (aO 14 (.ld true 4 (.t 3))),(aO 15 (.ld true 5 (.t 4))),(aO 16 (.ld true 2 (.t 5))),(aO 17 (.cal 43 [(.t 14),(.t 15),(.t 16)])),(aO 18 (.not (.t 17)))])
 (.cond (.t 18)
 (.seq (.reg [0,130,6] [
 (aO 19 (.bld [.nil,.nil,.nil,.nil,zI] [(4,1,(kI 350))])),(aN (.sto 5 (.t 6) (.t 19)))])
 .ret)
 .skip))
 (.seq (.reg [0,130,3,4,5,6] [
 (aO 20 (.ld true 5 (.t 4))),(aO 21 (.clm 37 [(.t 20)])),(aO 7 (.alc [.nil,.nil,.nil,.nil])),(aN (.sto 4 (.t 7) (.t 21)))])
 (.seq (.seq (.reg [0,130,3,4,5,6,7] [
 (aO 8 (.mv (kI 0)))])
 (.block 0
 (.loop [0,130,3,4,5,6,7,8]
 (.seq (.seq (.reg [0,130,3,4,5,6,7,8] [
 (aO 22 (.mv (.t 8))),(aO 23 (.fa 0 (.t 5))),(aO 24 (.ld false 1 (.t 23))),(aO 25 (.len (.t 24))),(aO 26 (.cmp .lss .i64 (.t 22) (.t 25)))])
 (.cond (.t 26)
 .skip
 (.exit 0)))
 (.seq (.block 1
 (.seq (.drw [0,130,3,4,5,6,7,8] [
 (eU 29 (.fa 1 (.t 3)) [] [9]),(eU 30 (.ld false 1 (.t 29)) [] [9]),(eU 31 (.mv (.t 8)) [] [9]),(eU 32 (.ixs 5 (.t 30) (.t 31)) [] [9]),(eU 33 (.ld true 5 (.t 32)) [] [9]),(eU 34 (.fa 0 (.t 5)) [] [9]),(eU 35 (.ld false 1 (.t 34)) [] [9]),(eU 36 (.mv (.t 8)) [] [9]),(eU 37 (.ixs 1 (.t 35) (.t 36)) [] [9]),(eU 38 (.ld false 1 (.t 37)) [] [9]),(eU 9 (.alc [.nil,zI,zI,zI,.sc (.int .u64 0)]) [9] []),⟨(aN (.sto 5 (.t 9) (.t 33))),[],[9],true⟩,(eF 10 (.mv (.t 38)))])
 (.block 2
 (.seq (.reg [0,130,3,4,5,6,7,8,9,10] [
 (aO 50 (.fa 2 (.t 9))),(aO 51 (.ld false 1 (.t 50))),(aO 52 (.cmp .neq .i64 (.t 51) (kI (-1)))),(aO 49 (.mv (.t 52)))])
 (.cond (.t 49)
 (.seq (.reg [0,130,3,4,5,6,7,8,9,10] [
 (aO 53 (.fa 1 (.t 7))),(aO 54 (.ld false 1 (.t 53))),(aO 55 (.mv (.t 10))),(aO 56 (.ixs 1 (.t 54) (.t 55))),(aN (.sto 1 (.t 56) (kI 3)))])
 (.reg [0,130,3,4,5,6,7,8,9,10] [
 (aO 57 (.fa 3 (.t 7))),(aO 58 (.ld false 1 (.t 57))),(aO 59 (.mv (.t 10))),(aO 60 (.fa 2 (.t 9))),(aO 61 (.ld false 1 (.t 60))),(aO 62 (.ixs 1 (.t 58) (.t 59))),(aN (.sto 1 (.t 62) (.t 61)))]))
 (.seq (.reg [0,130,3,4,5,6,7,8,9,10] [
 (aO 64 (.fa 3 (.t 9))),(aO 65 (.ld false 1 (.t 64))),(aO 66 (.cmp .neq .i64 (.t 65) (kI (-1)))),(aO 63 (.mv (.t 66)))])
 (.cond (.t 63)
 (.seq (.reg [0,130,3,4,5,6,7,8,9,10] [
 (aO 67 (.fa 1 (.t 7))),(aO 68 (.ld false 1 (.t 67))),(aO 69 (.mv (.t 10))),(aO 70 (.ixs 1 (.t 68) (.t 69))),(aN (.sto 1 (.t 70) (kI 2)))])
 (.seq (.reg [0,130,3,4,5,6,7,8,9,10] [
 (aO 71 (.fa 2 (.t 7))),(aO 72 (.ld false 1 (.t 71))),(aO 73 (.mv (.t 10))),(aO 74 (.fa 1 (.t 9))),(aO 75 (.ld false 1 (.t 74))),(aO 76 (.ixs 1 (.t 72) (.t 73))),(aN (.sto 1 (.t 76) (.t 75)))])
 (.reg [0,130,3,4,5,6,7,8,9,10] [
 (aO 77 (.fa 3 (.t 7))),(aO 78 (.ld false 1 (.t 77))),(aO 79 (.mv (.t 10))),(aO 80 (.fa 3 (.t 9))),(aO 81 (.ld false 1 (.t 80))),(aO 82 (.ixs 1 (.t 78) (.t 79))),(aN (.sto 1 (.t 82) (.t 81)))])))
 (.seq (.reg [0,130,3,4,5,6,7,8,9,10] [
 (aO 39 (.fa 1 (.t 7))),(aO 40 (.ld false 1 (.t 39))),(aO 41 (.mv (.t 10))),(aO 42 (.ixs 1 (.t 40) (.t 41))),(aN (.sto 1 (.t 42) (kI 1)))])
 (.reg [0,130,3,4,5,6,7,8,9,10] [
 (aO 43 (.fa 2 (.t 7))),(aO 44 (.ld false 1 (.t 43))),(aO 45 (.mv (.t 10))),(aO 46 (.fa 1 (.t 9))),(aO 47 (.ld false 1 (.t 46))),(aO 48 (.ixs 1 (.t 44) (.t 45))),(aN (.sto 1 (.t 48) (.t 47)))])))))))))
 (.reg [0,130,3,4,5,6,7,8] [
 (aO 27 (.mv (.t 8))),(aO 28 (.ari .add true .i64 (.t 27) (kI 1))),(aO 8 (.mv (.t 28)))]))))))
 (.seq (.seq (.reg [0,130,4,5,6,7] [
 (aO 11 (.mv (kI 0)))])
 (.block 3
 (.loop [0,130,4,5,6,7,11]
 (.seq (.seq (.reg [0,130,4,5,6,7,11] [
 (aO 83 (.mv (.t 11))),(aO 84 (.fa 1 (.t 5))),(aO 85 (.ld false 1 (.t 84))),(aO 86 (.len (.t 85))),(aO 87 (.cmp .lss .i64 (.t 83) (.t 86)))])
 (.cond (.t 87)
 .skip
 (.exit 3)))
 (.seq (.block 4
 (.seq (.reg [0,130,4,5,6,7,11] [
 (aO 90 (.fa 1 (.t 5))),(aO 91 (.ld false 1 (.t 90))),(aO 92 (.mv (.t 11))),(aO 93 (.ixs 3 (.t 91) (.t 92))),(aO 94 (.ld true 3 (.t 93))),(aO 12 (.alc [zI,.nil,.nil])),(aN (.sto 3 (.t 12) (.t 94)))])
 (.seq (.reg [0,130,4,5,6,7,11,12] [
 (aO 13 (.mv (kI 1)))])
 (.block 5
 (.loop [0,130,4,5,6,7,11,12,13]
 (.seq (.seq (.reg [0,130,4,5,6,7,11,12,13] [
 (aO 95 (.mv (.t 13))),(aO 96 (.fa 1 (.t 12))),(aO 97 (.ld false 1 (.t 96))),(aO 98 (.len (.t 97))),(aO 99 (.cmp .lss .i64 (.t 95) (.t 98)))])
 (.cond (.t 99)
 .skip
 (.exit 5)))
 (.seq (.block 6
 (.drw [0,130,4,5,6,7,11,12,13] [
 (eT 102 (.fa 0 (.t 7))),(eT 103 (.ld false 1 (.t 102))),(eT 104 (.fa 1 (.t 12))),(eT 105 (.ld false 1 (.t 104))),(eT 106 (.mv (.t 13))),(eT 107 (.ixs 1 (.t 105) (.t 106))),(eT 108 (.ld false 1 (.t 107))),(eT 109 (.ld true 5 (.t 4))),(eT 110 (.fa 1 (.t 12))),(eT 111 (.ld false 1 (.t 110))),(eT 112 (.mv (.t 13))),(eT 113 (.ixs 1 (.t 111) (.t 112))),(eT 114 (.ld false 1 (.t 113))),(eT 115 (.cal 45 [(.t 109),(.t 114)])),(eT 116 (.fa 1 (.t 12))),(eT 117 (.ld false 1 (.t 116))),(eT 118 (.fa 2 (.t 12))),(eT 119 (.ld false 1 (.t 118))),(eT 120 (.mv (.t 13))),(eT 121 (.ixs 1 (.t 119) (.t 120))),(eT 122 (.ld false 1 (.t 121))),(eT 123 (.ixs 1 (.t 117) (.t 122))),(eT 124 (.ld false 1 (.t 123))),(eT 125 (.cal 44 [(.t 115),(.t 124)])),(eT 126 (.ari .add true .i64 (kI 1) (.t 125))),(eF 127 (.ixs 1 (.t 103) (.t 108))),⟨(aN (.sto 1 (.t 127) (.t 126))),[],[],false⟩]))
 (.reg [0,130,4,5,6,7,11,12,13] [
 (aO 100 (.mv (.t 13))),(aO 101 (.ari .add true .i64 (.t 100) (kI 1))),(aO 13 (.mv (.t 101)))]))))))))
 (.reg [0,130,4,5,6,7,11] [
 (aO 88 (.mv (.t 11))),(aO 89 (.ari .add true .i64 (.t 88) (kI 1))),(aO 11 (.mv (.t 89)))]))))))
 (.seq (.reg [0,130,6,7] [
 (aO 128 (.ld true 4 (.t 7))),(aO 129 (.bld [.nil,.nil,.nil,.nil,zI] [(0,4,(.t 128))])),(aN (.sto 5 (.t 6) (.t 129)))])
 .ret))))))
def rv23w:List RV:=[.cell 6 true 5]
theorem ok23w:fnOk Tryz.prog ac23w rv23w Tryz.f23=true:=by kernel_rfl

def ac24w:AC:=
 (.seq (.reg [0,133,0,1] [
 (aO 2 (.box (.t 0))),(aO 4 (.alc [.nil,.nil,.nil,.nil]))])
 (.seq (.reg [0,133,1,2,4] [
 (aO 10 (.ld true 5 (.t 2))),(aO 11 (.clm 37 [(.t 10)])),(aO 5 (.alc [.nil,.nil,.nil,.nil])),(aN (.sto 4 (.t 5) (.t 11)))])
 (.seq (.seq (.reg [0,133,1,2,4,5] [
 (aO 6 (.mv (kI 0)))])
 (.block 0
 (.loop [0,133,1,2,4,5,6]
 (.seq (.seq (.reg [0,133,1,2,4,5,6] [
 (aO 12 (.mv (.t 6))),(aO 13 (.ari .add true .i64 (.t 12) (kI 1))),(aO 14 (.mv (.t 1))),(aO 15 (.len (.t 14))),(aO 16 (.cmp .lss .i64 (.t 13) (.t 15))),(aO 17 (.mv (.t 16))),⟨some 18,some (17,true),.mv (.t 6)⟩,⟨some 19,some (17,true),.cmp .lss .i64 (.t 18) (kI 80)⟩,(aO 20 (.pick (.t 17) (.t 19) (.c (.sc (.bool false)))))])
 (.cut [0,133,1,2,4,5,6,20] (.cond (.t 20)
 .skip
 (.exit 0))))
 (.seq (.block 1
 (.seq (.drw [0,133,1,2,4,5,6] [
 (eT 23 (.mv (.t 6))),(eT 24 (.ari .mul true .i64 (kI 7) (.t 23))),(eT 25 (.mv (.t 1))),(eT 26 (.mv (.t 6))),(eT 27 (.ixs 1 (.t 25) (.t 26))),(eT 28 (.ld false 1 (.t 27))),(eT 29 (.cnv true .i64 (.t 28))),(eT 30 (.ari .add true .i64 (.t 24) (.t 29))),(eT 31 (.fa 0 (.t 5))),(eT 32 (.ld false 1 (.t 31))),(eT 33 (.len (.t 32))),(eF 34 (.dvd .rem true .i64 (.t 30) (.t 33))),(eF 7 (.mv (.t 34)))])
 (.seq (.reg [0,133,1,2,4,5,6,7] [
 (aO 35 (.ld true 5 (.t 2))),(aO 36 (.mv (.t 7))),(aO 37 (.cal 46 [(.t 35),(.t 36)])),(aO 8 (.mv (.t 37)))])
 (.seq (.seq (.reg [0,133,1,2,4,5,6,7,8] [
 (aO 38 (.mv (.t 8))),(aO 39 (.cmp .gtr .i64 (.t 38) (kI 0)))])
 (.cond (.t 39)
 (.drw [0,133,1,2,4,5,6,7,8] [
 (eT 40 (.fa 0 (.t 5))),(eT 41 (.ld false 1 (.t 40))),(eT 42 (.mv (.t 7))),(eT 43 (.mv (.t 1))),(eT 44 (.mv (.t 6))),(eT 45 (.ari .add true .i64 (.t 44) (kI 1))),(eT 46 (.ixs 1 (.t 43) (.t 45))),(eT 47 (.ld false 1 (.t 46))),(eT 48 (.cnv true .i64 (.t 47))),(eT 49 (.mv (.t 8))),(eT 50 (.dvd .rem true .i64 (.t 48) (.t 49))),(eT 51 (.ari .add true .i64 (kI 1) (.t 50))),(eF 52 (.ixs 1 (.t 41) (.t 42))),⟨(aN (.sto 1 (.t 52) (.t 51))),[],[],false⟩])
 .skip))
 (.seq (.drw [0,133,1,2,4,5,6] [
 (eT 53 (.mv (.t 1))),(eT 54 (.mv (.t 6))),(eT 55 (.ixs 1 (.t 53) (.t 54))),(eT 56 (.ld false 1 (.t 55))),(eT 57 (.cnv true .i64 (.t 56))),(eT 58 (.fa 0 (.t 2))),(eT 59 (.ld false 1 (.t 58))),(eT 60 (.fa 1 (.t 2))),(eT 61 (.ld false 1 (.t 60))),(eT 62 (.ari .mul true .i64 (.t 59) (.t 61))),(eF 63 (.dvd .rem true .i64 (.t 57) (.t 62))),(eF 9 (.mv (.t 63)))])
 (.block 2
 (.seq (.reg [0,133,1,2,4,5,6,9] [
 (aO 65 (.fa 4 (.t 2))),(aO 66 (.ld false 1 (.t 65))),(aO 67 (.mv (.t 9))),(aO 68 (.ixs 1 (.t 66) (.t 67))),(aO 69 (.ld false 1 (.t 68))),(aO 70 (.cmp .eql .i64 (.t 69) (kI 0))),(aO 64 (.mv (.t 70)))])
 (.cond (.t 64)
 .skip
 (.seq (.reg [0,133,1,2,4,5,6,9] [
 (aO 72 (.mv (.t 1))),(aO 73 (.mv (.t 6))),(aO 74 (.ari .add true .i64 (.t 73) (kI 1))),(aO 75 (.ixs 1 (.t 72) (.t 74))),(aO 76 (.ld false 1 (.t 75))),(aO 77 (.dvd .rem true .u8 (.t 76) (.c (.sc (.int .u8 3))))),(aO 78 (.cmp .eql .u8 (.t 77) (.c (.sc (.int .u8 0))))),(aO 71 (.mv (.t 78)))])
 (.cond (.t 71)
 (.seq (.reg [0,133,1,2,4,5,6,9] [
 (aO 79 (.fa 1 (.t 5))),(aO 80 (.ld false 1 (.t 79))),(aO 81 (.mv (.t 9))),(aO 82 (.ixs 1 (.t 80) (.t 81))),(aN (.sto 1 (.t 82) (kI 1)))])
 (.seq (.drw [0,133,1,2,4,5,6,9] [
 (eT 83 (.fa 2 (.t 5))),(eT 84 (.ld false 1 (.t 83))),(eT 85 (.mv (.t 9))),(eT 86 (.mv (.t 1))),(eT 87 (.mv (.t 6))),(eT 88 (.ari .add true .i64 (.t 87) (kI 1))),(eT 89 (.ixs 1 (.t 86) (.t 88))),(eT 90 (.ld false 1 (.t 89))),(eT 91 (.cnv true .i64 (.t 90))),(eT 92 (.ari .mul true .i64 (kI 100) (.t 91))),(eF 93 (.ixs 1 (.t 84) (.t 85))),⟨(aN (.sto 1 (.t 93) (.t 92))),[],[],false⟩])
 (.reg [0,133,1,2,4,5,6,9] [
 (aO 94 (.fa 3 (.t 5))),(aO 95 (.ld false 1 (.t 94))),(aO 96 (.mv (.t 9))),(aO 97 (.ixs 1 (.t 95) (.t 96))),(aN (.sto 1 (.t 97) (kI 0)))])))
 (.seq (.reg [0,133,1,2,4,5,6,9] [
 (aO 99 (.mv (.t 1))),(aO 100 (.mv (.t 6))),(aO 101 (.ari .add true .i64 (.t 100) (kI 1))),(aO 102 (.ixs 1 (.t 99) (.t 101))),(aO 103 (.ld false 1 (.t 102))),(aO 104 (.dvd .rem true .u8 (.t 103) (.c (.sc (.int .u8 3))))),(aO 105 (.cmp .eql .u8 (.t 104) (.c (.sc (.int .u8 1))))),(aO 98 (.mv (.t 105)))])
 (.cond (.t 98)
 (.seq (.reg [0,133,1,2,4,5,6,9] [
 (aO 106 (.fa 1 (.t 5))),(aO 107 (.ld false 1 (.t 106))),(aO 108 (.mv (.t 9))),(aO 109 (.ixs 1 (.t 107) (.t 108))),(aN (.sto 1 (.t 109) (kI 2)))])
 (.seq (.drw [0,133,1,2,4,5,6,9] [
 (eT 110 (.fa 2 (.t 5))),(eT 111 (.ld false 1 (.t 110))),(eT 112 (.mv (.t 9))),(eT 113 (.mv (.t 1))),(eT 114 (.mv (.t 6))),(eT 115 (.ari .add true .i64 (.t 114) (kI 1))),(eT 116 (.ixs 1 (.t 113) (.t 115))),(eT 117 (.ld false 1 (.t 116))),(eT 118 (.cnv true .i64 (.t 117))),(eT 119 (.ari .mul true .i64 (kI 100) (.t 118))),(eF 120 (.ixs 1 (.t 111) (.t 112))),⟨(aN (.sto 1 (.t 120) (.t 119))),[],[],false⟩])
 (.drw [0,133,1,2,4,5,6,9] [
 (eT 121 (.fa 3 (.t 5))),(eT 122 (.ld false 1 (.t 121))),(eT 123 (.mv (.t 9))),(eT 124 (.mv (.t 1))),(eT 125 (.mv (.t 6))),(eT 126 (.ari .add true .i64 (.t 125) (kI 1))),(eT 127 (.ixs 1 (.t 124) (.t 126))),(eT 128 (.ld false 1 (.t 127))),(eT 129 (.dvd .quo true .u8 (.t 128) (.c (.sc (.int .u8 3))))),(eT 130 (.cnv true .i64 (.t 129))),(eF 131 (.ixs 1 (.t 122) (.t 123))),⟨(aN (.sto 1 (.t 131) (.t 130))),[],[],false⟩])))
 .skip))))))))))))
 (.reg [0,133,1,2,4,5,6] [
 (aO 21 (.mv (.t 6))),(aO 22 (.ari .add true .i64 (.t 21) (kI 2))),(aO 6 (.mv (.t 22)))]))))))
 (.seq (.reg [0,133,4,5] [
 (aO 132 (.ld true 4 (.t 5))),(aN (.sto 4 (.t 4) (.t 132)))])
 .ret))))
def rv24w:List RV:=[.cell 4 true 4]
theorem ok24w:fnOk Tryz.prog ac24w rv24w Tryz.f24=true:=by kernel_rfl
end Go.Proofs.YtdmkfgkmnpohlaaGreat.Txt
