/- IG IH VcZza II IA IB IC TxtR: lemmas -/
import Derived.Test.YtecoaapkcnhlhaaGreatDoorPart12
import Derived.Test.YtecoaapkcnhlhaaGreatDoorPart10
import Derived.Test.YtecoaapkcnhlhaaGreatDoorPart05
import Derived.Test.YtecoaapkcnhlhaaGreatDoorChecked
set_option linter.unusedSimpArgs false
set_option linter.unusedVariables false
open Option renaming map_eq_some_iff->zR
open Bool renaming false_ne_true->zQ
open List renaming getD_eq_getElem?_getD->zK,getElem?_eq_getElem->zL,mem_of_getElem? ->zP,getElem?_map->zS,length_append->zU,length_cons->zV,map_cons->zW,mem_cons_self->zX,take_of_length_le->zY,take_succ_eq_append_getElem->zZ,mem_append->yC,any_eq_false->yD,all_eq_true->yE,length_set->yF,length_map->yG,map_append->yH
open Int renaming reduceToNat->zH,reduceNeg->zJ
open Nat renaming reduceEqDiff->zA,reduceAdd->zB,reduceSub->zC,reduceMul->zD,reduceBEq->zE,reduceLT->zF,reduceLeDiff->zG
namespace Go.Proofs.YtecoaapkcnhlhaaGreatDoor
open Go Go.Vc Go.Ham Txt
def rowO(l:List Bool):Option (List (List PV)):=if l=[]then none else some (rows u64C (nats (qBH l)))
def rsD(n:Nat)(D:Nat->List Bool):List (Option (List (List PV))):=(List.range n).map fun x=>rowO (D x)
def updD(D:Nat->List Bool)(x:Nat)(l:List Bool):Nat->List Bool:=fun y=>if y=x then l else D y
theorem qFu(n:Nat)(D:Nat->List Bool):(rsD n D).length=n:=by simp[rsD]
theorem qFv{n x:Nat}(h:x<n)(D:Nat->List Bool):(rsD n D)[x]? =some (rowO (D x)):=by
 rw[rsD,zS,List.getElem?_range h];rfl
theorem qFw(n:Nat)(D:Nat->List Bool)(x:Nat)(l:List Bool):(rsD n D).set x (rowO l)=rsD n (updD D x l):=by
 refine List.ext_getElem (by simp[rsD]) fun i h1 h2=> ?_
 rw[List.getElem_set]
 simp only[rsD,List.getElem_map,List.getElem_range,updD]
 split
 ·next h=>rw[if_pos h.symm]
 ·next h=>rw[if_neg fun e=>h e.symm]
def bitB(g:Grid)(c:Cfg)(D:Nat->List Bool):List (Nat×List PV):=[(2,quX false g),(3,cfgC false c),(7,[.view 28 0 (wN g+1)]),(8,[.bv 32 1 (wN g+1)]),(24,List.replicate (wN g+1) .nil),(32,qB0 2000 (rsD (wN g+1) D)),(102,quX false g),(103,[.ptr 3 0]),(105,[.int (qv1 g)]),(204,[.yl 999])]
def bitA(g:Grid)(L:List Int)(D:Nat->List Bool):List (Nat×Arr):=(28,⟨1,3,ints L⟩)::qB1 1 59 2000 (rsD (wN g+1) D)
theorem qFx(n:Nat):rsD n (fun _=>[])=List.replicate n none:=by
 rw[List.eq_replicate_iff]
 exact⟨by simp[rsD],fun b hb=>by obtain⟨x,_,rfl⟩:=List.mem_map.1 hb;rfl⟩
theorem qFy: ∀k n:Nat,qB0 k (List.replicate n none)=List.replicate n .nil
 |_,0=>rfl
 |k,n+1=>by rw[List.replicate_succ,qB0,qFy (k+1) n];rfl
theorem qFz(es ty:Nat): ∀k n:Nat,qB1 es ty k (List.replicate n none)=[]
 |_,0=>rfl
 |k,n+1=>by rw[List.replicate_succ,qB1,qFz es ty (k+1) n]
theorem qFA(pb pa:Nat->Bool): ∀n:Nat,anyT pb pa (List.replicate n PV.nil)=false
 |0=>rfl
 | n + 1 => by
   rw[List.replicate_succ]
   refine sB ?_
   exact qFA pb pa n
theorem qFB(l:List Int):farV (.sl false 1 (ints l)):=⟨fun _ _=>⟨rfl,rfl⟩,fun _ _ _=>⟨rfl,rfl⟩⟩
theorem qFC(g:Grid)(hg:GOk g)(c:Cfg)(hs:CfgSm c)(h0:validE g c≠0):FnEq Tryz.prog 32 [.agg (quX false g),.agg (cfgC false c)] (.tup [.nil,.int 310]):=by
 have hv:=qyz g hg c hs
 refine FnEq.of_awp Tryz.func32 ok32 (by show 2<=_;decide) (by simp only[push_cast,reduceIte,zA,zB,zC,zD,zE,zF,zG,reduceCtorEq,zH,zJ,cNI]<;>first|exact fun _ _=>trivial|simp) ?_
 simp only[ac32,rv32,push_cast,reduceIte,zA,zB,zC,zD,zE,zF,zG,reduceCtorEq,zH,zJ,cNI]
 refine qrv hv (by exact⟨.refl _,.refl _,trivial⟩) ?_
 simp only[qFA,push_cast,reduceIte,zA,zB,zC,zD,zE,zF,zG,reduceCtorEq,zH,zJ,cNI]
 exact qnY (fun h=>trivial) fun h=>absurd h0 h
theorem qFD(a k:Nat)(hk:k<=64):shfF .shr .i64 a k=((a/2^k:Nat):Int):=by
 show(a:Int).fdiv (2^(min (k:Int).toNat 64))=_
 rw[Int.toNat_natCast,Nat.min_eq_left hk,Int.fdiv_eq_ediv_of_nonneg _ (Int.pow_nonneg (by decide)),Int.natCast_ediv]
 norm_cast
theorem qFE(v k:Nat)(hv:v<2^62)(hk:k<=64):bitF .and .i64 (shfF .shr .i64 v k) 1=((v.testBit k).toNat:Int):=by
 rw[qFD v k hk]
 have h1:v/2^k<2^63:=Nat.lt_of_le_of_lt (Nat.div_le_self _ _) oM
 rw[show(1:Int)=((1:Nat):Int)from rfl,qBo h1 (by decide)]
 have:v/2^k&&&1=(v.testBit k).toNat:=by
  rw[Nat.testBit_eq_decide_div_mod_eq,Nat.and_one_is_mod]
  rcases Nat.mod_two_eq_zero_or_one (v/2^k)with e|e<;>rw[e]<;>rfl
 rw[this]
theorem qFF(w r:Nat)(b:Bool)(hw:w<2^57)(hr:r<57):bitF .or .u64 (w:Int) (shfF .shl .u64 (b.toNat:Int) (r:Int))=((w|||(b.toNat<<<r):Nat):Int):=by
 have h2:b.toNat*2^r<2^57:=by
  have:2^r<2^57:=Nat.pow_lt_pow_right (by decide) hr
  cases b<;>simp<;>omega
 rw[qBs oM oM,qBm oM oM,Nat.shiftLeft_eq]
theorem qFG(W:List Nat)(i:Nat):(nats W).getD i default=((W.getD i 0:Nat):Int):=by
 simp only[nats,zK,zS]
 cases W[i]? <;>rfl
theorem qFH(W:List Nat)(i v:Nat):(nats W).set i (v:Int)=nats (W.set i v):=by
 simp[nats,List.map_set]
def bxE(g:Grid)(c:Cfg)(cells:List PV)(p:PV)(n:Int):List (Nat×List PV):=[(2,quX false g),(3,cfgC false c),(7,[.view 28 0 (wN g+1)]),(8,[.bv 32 1 (wN g+1)]),(24,List.replicate (wN g+1) .nil),(32,cells),(102,quX false g),(103,[.ptr 3 0]),(105,[.int (qv1 g)]),(204,[.yl 999]),(1010,[p,.int n])]
theorem qFI (g : Grid) (hg : GOk g) (c : Cfg) {S : List (Nat × PV)} (hS : qtX 1000 S = true) (cells : List PV) (x n k i : Nat) (l : List Int) (hi : i < l.length) (W : List Nat) (hx : x <= wN g) (hc : cells.length = wN g + 1) (hcx : cells.getD x .bot = .view 1055 0 W.length)
  (L:List Int) (hL:L.length=wN g+1) (ct:Nat) (hLx:L.getD x default=ct) (hct:ct/57<W.length) (hct2:ct<3000000000) (hk:k<64) (v:Nat) (hlv:l.getD i default=v) (hv2:v<2^62) (hW:W.getD (ct/57) 0<2^57) (R A:List (Nat×Arr)) (hA:A=[]\/ ∃z,A=[(1054,z)]) (T:List (Nat×PV)) (hT:qhn [1000,125,1007,1008,1009,1010,1011,1038,1039] T=[]) (Q:Exit->St->Prop)
  (hQ:Q .normal ⟨S++[(1007,.ptr 7 0),(1008,.ptr 8 0),(1009,.int x),(1010,.ptr 1010 0),(1038,.int n),(1039,.int k),(1084,.view 28 0 (wN g+1)),(1085,.int x),(1086,.eptr 28 x 0),(1087,.int ct),(1088,.int ((ct:Int)+1)),(1089,.eptr 28 x 0)],bxE g c cells (qCR (.sl false 1 (ints l)) i) n,(28,⟨1,3,ints (L.set x ((ct:Int)+1))⟩)::(A++(1055,⟨1,59,rows u64C (nats (W.set (ct/57) (W.getD (ct/57) 0|||((v.testBit k).toNat<<<(ct%57)))))⟩)::R),[]⟩):
  awp (Env.of Tryz.prog) ac32_r14 Q ⟨S++([(1007,.ptr 7 0),(1008,.ptr 8 0),(1009,.int x),(1010,.ptr 1010 0),(1011,.int k),(1038,.int n),(1039,.int k)]++T),bxE g c cells (qCR (.sl false 1 (ints l)) i) n,(28,⟨1,3,ints L⟩)::(A++(1055,⟨1,59,rows u64C (nats W)⟩)::R),[]⟩:=by
 unfold bxE at hQ ⊢
 have hb:=qFE v k hv2 oM
 obtain⟨q,hq⟩: ∃q,q=ct/57:=⟨_,rfl⟩
 obtain⟨r,hr⟩: ∃r,r=ct%57:=⟨_,rfl⟩
 have hd:(ct:Int)/57=(q:Int):=by omega
 have hm:(ct:Int)%57=(r:Int):=by omega
 rw[<- hq]at hct hW hQ
 rw[<- hr]at hQ
 have hw2:=hg.n.w2
 have hbn:(v.testBit k).toNat<=1:=Bool.toNat_le _
 simp only[qCR]at hQ
 rcases hA with rfl|⟨z,rfl⟩
 all_goals
  simp only[ac32_r14,hT,qCx hS,qCw hS,qCy hS,qCz hS,qCA hS,qCR,Nat.mul_one,qFh cells,hc,hcx,hL,hLx,hlv,hb,hd,hm,qFG,qFF _ r (v.testBit k) hW oM,qFH,qF0,push_cast,reduceIte,zA,zB,zC,zD,zE,zF,zG,reduceCtorEq,zH,zJ,cNI]
  exact⟨⟨oM,oM⟩,hx,⟨oM,oM⟩,oM,⟨oM,oM,by decide⟩,⟨oM,oM⟩,oM,hi,oM,⟨oM,oM⟩,⟨oM,oM⟩,oM,⟨oM,oM,by decide⟩,oM,⟨oM,oM⟩,oM,⟨oM,oM⟩,oM,⟨oM,oM⟩,⟨oM,oM⟩,oM,hQ⟩
def wrdN(m:List Bool):List Nat:=if m.length%57=0 then qBH m++[0]else qBH m
theorem qFJ(m:List Bool):m.length/57<(wrdN m).length:=by
 unfold wrdN
 split
 ·rw[zU,qBJ];simp only[nW,zV,List.length_nil];omega
 ·rw[qBJ];simp only[nW];omega
theorem qFK(m:List Bool):(wrdN m).getD (m.length/57) 0<2^57:=by
 rw[zK,zL (qFJ m)]
 have h:=List.getElem_mem (qFJ m)
 simp only[Option.getD_some]
 generalize (wrdN m)[m.length/57]'(qFJ m)=w at h
 unfold wrdN at h
 split at h
 ·rcases yC.1 h with h|h
  ·exact qBK h
  ·simp at h;subst h;decide
 ·exact qBK h
theorem qFL(m:List Bool)(b:Bool):(wrdN m).set (m.length/57) ((wrdN m).getD (m.length/57) 0|||(b.toNat<<<(m.length%57)))=qBH (m++[b]):=by
 unfold wrdN
 split
 ·next h=>
  have hl:(qBH m).length=m.length/57:=by rw[qBJ];simp only[nW];omega
  rw[qBM m b h,<- hl,h]
  simp[zK]
 ·next h=>rw[qBN m b h]
def opA(id:Nat):Option (List (List PV))->List (Nat×Arr)
 |none=>[]
 |some r=>[(id,⟨1,59,r⟩)]
def qFM(g:Grid)(D:Nat->List Bool)(x:Nat)(m:List Bool):List PV:=(qB0 2000 (rsD (wN g+1) (updD D x []))).set x (rowC 1055 (rowO m))
def qFN(g:Grid)(A:List (Nat×Arr))(L:List Int)(D:Nat->List Bool)(x:Nat)(m:List Bool):List (Nat×Arr):=(28,⟨1,3,ints L⟩)::(A++(opA 1055 (rowO m)++qB1 1 59 2000 (rsD (wN g+1) (updD D x []))))
def a54(A:List (Nat×Arr)):Prop:=A=[]\/ ∃z,A=[(1054,z)]
theorem qFO{j:Nat}(C:List PV)(x n:Nat)(hx:x<C.length)(hC:anyT nul (isId j) (C.set x .nil)=false):qiD nul (isId j) (C.set x (.view j 0 n))=C.set x .bot:=by
 induction C generalizing x with
 |nil=>simp at hx
 |cons c C ih=>
   cases x with
   |zero=>
     rw[List.set_cons_zero,qhN,Bool.or_eq_false_iff]at hC
     rw[List.set_cons_zero,qiH,qiO _ _ hC.2]
     simp[PV.to,isId,PV.killed]
   |succ x=>
     rw[List.set_cons_succ,qhN,Bool.or_eq_false_iff]at hC
     rw[List.set_cons_succ,qiH,hC.1,ih x (by simpa using hx) hC.2]
     rfl
theorem qFP{j:Nat}(C:List PV)(x n:Nat)(hx:x<C.length):anyT nul (isId j) (C.set x (.view j 0 n))=true:=by
 rw[<- qhK,List.any_eq_true]
 exact⟨.view j 0 n,zP (i:=x) (by simp[hx]),by simp[PV.to,isId]⟩
theorem qFQ(g:Grid)(D:Nat->List Bool)(x j:Nat)(hj:j<2000):anyT nul (isId j) (qB0 2000 (rsD (wN g+1) (updD D x [])))=false:=
 qFf _ _ _ fun y r _=>beq_false_of_ne oM
theorem qFR{g:Grid}{x:Nat}(hx:x<=wN g)(D:Nat->List Bool):(qB0 2000 (rsD (wN g+1) (updD D x []))).set x .nil=qB0 2000 (rsD (wN g+1) (updD D x [])):=by
 have h:(rsD (wN g+1) (updD D x [])).set x none=rsD (wN g+1) (updD D x []):=by
  have:=qFw (wN g+1) (updD D x []) x []
  rw[show rowO []=none from rfl]at this
  rw[this]
  congr 1
  funext y
  simp only[updD]
  split<;>rfl
 have h2:=qB4 2000 (rsD (wN g+1) (updD D x [])) x none
 rw[h]at h2
 exact h2
theorem qFS(g:Grid)(D:Nat->List Bool){j:Nat}(hj:j<2000)(A:Arr):up (qB1 1 59 2000 (rsD (wN g+1) D)) j A=(j,A)::qB1 1 59 2000 (rsD (wN g+1) D):=
 qBb _ _ _ fun y hy=>by have:=qBc 1 59 2000 _ y hy;omega
theorem qFU(l m:List Nat):nats l++nats m=nats (l++m):=by simp[nats]
set_option maxHeartbeats 1000000 in
theorem qFV (g : Grid) (hg : GOk g) (c : Cfg) {S : List (Nat × PV)} (hS : qtX 1000 S = true) (hSf : ∀ j, 1000 <= j -> farL j S) (D : Nat -> List Bool) (x n k i : Nat) (l : List Int) (hi : i < l.length) (m : List Bool) (hx : x <= wN g)
  (L:List Int) (hL:L.length=wN g+1) (hLx:L.getD x default=m.length) (hct2:m.length<2000000000) (hk:k<64) (v:Nat) (hlv:l.getD i default=v) (hv2:v<2^62) (A:List (Nat×Arr)) (hA:a54 A) (T:List (Nat×PV)) (hT:qhn [1000,125,1007,1008,1009,1010,1038,1039] T=[]) (Q:Exit->St->Prop)
  (hQ: ∀A,a54 A->Q .normal ⟨S++[(1007,.ptr 7 0),(1008,.ptr 8 0),(1009,.int x),(1010,.ptr 1010 0),(1038,.int n),(1039,.int k),(1084,.view 28 0 (wN g+1)),(1085,.int x),(1086,.eptr 28 x 0),(1087,.int m.length),(1088,.int ((m.length:Int)+1)),(1089,.eptr 28 x 0)],bxE g c (qFM g D x (m++[v.testBit k])) (qCR (.sl false 1 (ints l)) i) n,qFN g A (L.set x ((m.length:Int)+1)) D x (m++[v.testBit k]),[]⟩):
  awp (Env.of Tryz.prog) ac32_r11 Q ⟨S++([(1007,.ptr 7 0),(1008,.ptr 8 0),(1009,.int x),(1010,.ptr 1010 0),(1038,.int n),(1039,.int k)]++T),bxE g c (qFM g D x m) (qCR (.sl false 1 (ints l)) i) n,qFN g A L D x m,[]⟩:=by
 have hw2:=hg.n.w2
 have hwl:=qFJ m
 have hws:=qFL m (v.testBit k)
 have hne:m++[v.testBit k]≠[]:=by simp
 have f4:=qFQ g D x 1054 (by decide)
 have f5:=qFQ g D x 1055 (by decide)
 have r4:=qFS g (updD D x []) (j:=1054) (by decide)
 have r5:=qFS g (updD D x []) (j:=1055) (by decide)
 have hn:=qFR hx D
 have s4:=qCZ (hSf 1054 (by decide))
 have s5:=qCZ (hSf 1055 (by decide))
 have hcl:(qB0 2000 (rsD (wN g+1) (updD D x []))).length=wN g+1:=by rw[qB2,qFu]
 unfold qFM at hQ ⊢
 unfold qFN at hQ ⊢
 generalize qB0 2000 (rsD (wN g+1) (updD D x []))=C at *
 generalize qB1 1 59 2000 (rsD (wN g+1) (updD D x []))=R at *
 have hcx: ∀v,(C.set x v).getD x .bot=v:=fun v=>by rw[zK,List.getElem?_set_self oM];rfl
 have hcl2: ∀v,(C.set x v).length=wN g+1:=fun v=>by rw[yF,hcl]
 have rest:=fun(C' :List PV) W h1 h2 h3 h4 R' A hA T hT hq=>qFI g hg c hS C' x n k i l hi W hx h1 h2 L hL m.length hLx h3 oM hk v hlv hv2 h4 R' A hA T hT Q hq
 have hro: ∀m:List Bool,m≠[]->rowO m=some (rows u64C (nats (qBH m))):=fun m h=>if_neg h
 have hwr:(wrdN m).length=(qBH m).length+(if m.length%57=0 then 1 else 0):=by unfold wrdN;split<;>simp
 have hwn:(qBH m).length<100000000:=by rw[qBJ];simp only[nW];omega
 have hset: ∀(W:List Nat) (i v:Nat),(W.set i v).length=W.length:=fun _ _ _=>yF ..
 have hsetX: ∀v w,(C.set x v).set x w=C.set x w:=fun v w=>List.set_set ..
 have fin: ∀A,a54 A-> ∀T,qhn [1000,125,1007,1008,1009,1010,1011,1038,1039] T=[]->awp (Env.of Tryz.prog) ac32_r14 Q ⟨S++([(1007,.ptr 7 0),(1008,.ptr 8 0),(1009,.int x),(1010,.ptr 1010 0),(1011,.int k),(1038,.int n),(1039,.int k)]++T),bxE g c (C.set x (.view 1055 0 (wrdN m).length)) (qCR (.sl false 1 (ints l)) i) n,(28,⟨1,3,ints L⟩)::(A++(1055,⟨1,59,rows u64C (nats (wrdN m))⟩)::R),[]⟩:=by
  intro A hA T hT
  refine rest _ (wrdN m) (hcl2 _) (hcx _) hwl (qFK m) R A hA T hT ?_
  have hq:=hQ A hA
  rw[hro _ hne]at hq
  have hl:(qBH (m++[v.testBit k])).length=(wrdN m).length:=by rw[<- hws,yF]
  simp only[rowC,opA,qF0,qkk,List.cons_append,List.nil_append]at hq
  rw[hws,<- hl]
  exact hq
 cases hm:m with
 |nil=>
   rw[hm]at hLx fin
   have hw0:wrdN []=[0]:=by decide
   rw[hw0]at fin
   rcases hA with rfl|⟨z,rfl⟩
   all_goals
    simp only[ac32_r11,hT,bxE,rowO,if_true,rowC,opA,hn,hcl,qCx hS,qCw hS,qCy hS,qCz hS,qCA hS,qCR,Nat.mul_one,hL,hLx,push_cast,reduceIte,zA,zB,zC,zD,zE,zF,zG,reduceCtorEq,zH,zJ,cNI]
    refine⟨⟨oM,oM⟩,oM,⟨by decide,by decide,by decide⟩,qnY (fun _=> ?_) fun h=>absurd (by decide) h⟩
    refine qFt (b:=bxE g c C (qCR (.sl false 1 (ints l)) i) n) (b7:=bxE g c C (qCR (.sl false 1 (ints l)) i) n) (n:=wN g+1) (xi:=x) (W:=[]) (cell:= .nil) (cell' := .nil) (C:=C) (C7:=C) _ ?_ ?_ oM (by decide) rfl rfl rfl rfl hcl hcl ?_ ?_ ?_ ?_ ?_ (.inl ⟨rfl,rfl,rfl⟩) ?_
    ·simp only[qCy hS,push_cast,reduceIte,zA,zB,zC,zD,zE,zF,zG,reduceCtorEq,zH,zJ,cNI]
    ·simp only[qCy hS,push_cast,reduceIte,zA,zB,zC,zD,zE,zF,zG,reduceCtorEq,zH,zJ,cNI]
    ·rw[<- hn];exact hcx _
    ·simp only[bxE,qCR,f4,qFA,push_cast,reduceIte,zA,zB,zC,zD,zE,zF,zG,reduceCtorEq,zH,zJ,cNI]
    ·simp only[bxE,qCR,f5,qFA,push_cast,reduceIte,zA,zB,zC,zD,zE,zF,zG,reduceCtorEq,zH,zJ,cNI]
    ·simp only[qD1,s4,push_cast,reduceIte,zA,zB,zC,zD,zE,zF,zG,reduceCtorEq,zH,zJ,cNI]
    ·simp only[qD1,s5,push_cast,reduceIte,zA,zB,zC,zD,zE,zF,zG,reduceCtorEq,zH,zJ,cNI]
    ·simp only[slA,xs32_13,putD,qFq,bxE,qCR,r4,r5,qCx hS,qCw hS,qCy hS,qCz hS,qCA hS,push_cast,reduceIte,zA,zB,zC,zD,zE,zF,zG,reduceCtorEq,zH,zJ,cNI]
     exact fin [(1054,_)] (.inr ⟨_,rfl⟩) [(1048,_),(1049,_),(1050,_),(1051,_),(1052,_),(1053,_),(1054,_),(1055,_),(1056,_)] rfl
 |cons y r=>
   have hmn:m≠[]:=by rw[hm];exact List.cons_ne_nil _ _
   rw[<- hm,hro _ hmn]
   have b4:anyT nul (isId 1054) (C.set x (.view 1055 0 (qBH m).length))=false:=qFg _ _ _ _ _ f4 rfl
   have b5:=qFP (j:=1055) C x (qBH m).length oM
   have b6:=qFO (j:=1055) C x (qBH m).length oM (by rw[hn];exact f5)
   have hfin:=fin A hA
   rcases hA with rfl|⟨z,rfl⟩
   all_goals
    simp only[ac32_r11,hT,bxE,rowC,opA,hcl,qkk,qF0,qCx hS,qCw hS,qCy hS,qCz hS,qCA hS,qCR,Nat.mul_one,hL,hLx,push_cast,reduceIte,zA,zB,zC,zD,zE,zF,zG,reduceCtorEq,zH,zJ,cNI]
    refine⟨⟨oM,oM⟩,oM,⟨oM,oM,by decide⟩,qnY (fun h=> ?_) fun h=> ?_⟩
    ·have hw1:wrdN m=qBH m++[0]:=if_pos oM
     rw[hw1]at fin
     refine qFt (b:=bxE g c (C.set x (.view 1055 0 (qBH m).length)) (qCR (.sl false 1 (ints l)) i) n) (b7:=bxE g c (C.set x .bot) (qCR (.sl false 1 (ints l)) i) n) (n:=wN g+1) (xi:=x) (W:=rows u64C (nats (qBH m))) (cell:= .view 1055 0 (qBH m).length) (cell' := .bot) (C:=C.set x (.view 1055 0 (qBH m).length)) (C7:=C.set x .bot) _ ?_ ?_ oM ?_ rfl rfl rfl rfl (hcl2 _) (hcl2 _) (hcx _) ?_ ?_ ?_ ?_ (.inr ⟨?_,rfl,rfl⟩) ?_
     ·simp only[qCy hS,push_cast,reduceIte,zA,zB,zC,zD,zE,zF,zG,reduceCtorEq,zH,zJ,cNI]
     ·simp only[qCy hS,push_cast,reduceIte,zA,zB,zC,zD,zE,zF,zG,reduceCtorEq,zH,zJ,cNI]
     ·rw[qkk,qF0];exact hwn
     ·simp only[bxE,qCR,b4,qFA,push_cast,reduceIte,zA,zB,zC,zD,zE,zF,zG,reduceCtorEq,zH,zJ,cNI]
     ·simp only[bxE,qCR,b5,b6,qFA,push_cast,reduceIte,zA,zB,zC,zD,zE,zF,zG,reduceCtorEq,zH,zJ,cNI]
     ·simp only[qD1,s4,push_cast,reduceIte,zA,zB,zC,zD,zE,zF,zG,reduceCtorEq,zH,zJ,cNI]
     ·simp only[qD1,s5,push_cast,reduceIte,zA,zB,zC,zD,zE,zF,zG,reduceCtorEq,zH,zJ,cNI]
     ·rw[qkk,qF0]
     ·simp only[slA,xs32_13,putD,qFq,bxE,qCR,hsetX,qkk,qF0,qCx hS,qCw hS,qCy hS,qCz hS,qCA hS,push_cast,reduceIte,zA,zB,zC,zD,zE,zF,zG,reduceCtorEq,zH,zJ,cNI]
      have hf:=fin [(1054,⟨1,59,[[.sc (.int .u64 0)]]⟩)] (.inr ⟨_,rfl⟩) [(1048,.bv 32 1 (wN g+1)),(1049,.int x),(1050,.bv 32 1 (wN g+1)),(1051,.int x),(1052,.ptr 32 x),(1053,.bot),(1054,.view 1054 0 1),(1055,.view 1055 0 ((qBH m).length+1)),(1056,.ptr 32 x)] rfl
      simp only[bxE,qCR,zU,zV,List.length_nil,List.cons_append,List.nil_append]at hf
      rw[show nats (qBH m++[0])=nats (qBH m)++[0]from by rw[<- qFU];rfl]at hf
      exact hf
    ·have hw1:wrdN m=qBH m:=if_neg oM
     rw[hw1]at hfin
     have hT2:qhn [1000,125,1007,1008,1009,1010,1011,1038,1039] [(1042,.view 28 0 (wN g+1)),(1043,.int x),(1044,.eptr 28 x 0),(1045,.int m.length),(1046,.int ((m.length:Int)%57)),(1047,.bool (decide ((m.length:Int)%57=0)))]=[]:=by simp only[push_cast,reduceIte,zA,zB,zC,zD,zE,zF,zG,reduceCtorEq,zH,zJ,cNI]
     exact hfin _ hT2
end Go.Proofs.YtecoaapkcnhlhaaGreatDoor
namespace Go.Proofs.YtecoaapkcnhlhaaGreatDoor
open Go Go.Vc Go.Ham Txt
theorem qFW(D:Nat->List Bool)(x:Nat)(h:D x=[]):updD D x []=D:=by
 funext y;unfold updD;split
 ·next e=>rw[e,h]
 ·rfl
theorem qFX(D:Nat->List Bool)(x:Nat)(l m:List Bool):updD (updD D x l) x m=updD D x m:=by
 funext y;unfold updD;split<;>simp_all
theorem qFY (g : Grid) (c : Cfg) {s : List (Nat × PV)} (D : Nat -> List Bool) (x : Nat) (hx : x <= wN g) (hs1 : farL (2000 + x) s) (hs2 : farL 1055 s) (L l : List Int) (i : Nat) (n : Int) :
  SWk ⟨s,bxE g c (qB0 2000 (rsD (wN g+1) D)) (qCR (.sl false 1 (ints l)) i) n,(28,⟨1,3,ints L⟩)::qB1 1 59 2000 (rsD (wN g+1) D),[]⟩ ⟨s,bxE g c (qFM g D x (D x)) (qCR (.sl false 1 (ints l)) i) n,qFN g [] L D x (D x),[]⟩:=by
 have hN:=qFv (n:=wN g+1) (x:=x) oM D
 have hset:(rsD (wN g+1) D).set x none=rsD (wN g+1) (updD D x []):=qFw (wN g+1) D x []
 by_cases h:D x=[]
 ·have e:=qFR hx D
  unfold qFM qFN
  rw[h,show rowO []=none from rfl]
  simp only[rowC,opA,e,List.nil_append]
  rw[qFW D x h]
  exact SWk.refl _
 ·have hr:rowO (D x)=some (rows u64C (nats (qBH (D x)))):=if_neg h
  rw[hr]at hN
  have h28: ¬28=2000+x:=by omega
  refine SWk.renEq (A:=⟨1,59,rows u64C (nats (qBH (D x)))⟩) (2000+x) 1055 ?_ ?_ hs1 hs2 ?_ ?_ ?_
  ·rw[lk,if_neg h28,qBa,hN];rfl
  ·rw[lk,if_neg (by decide),qB9 _ _ _ _ _ (by decide)]
  ·have:=qFf (isId 1055) 2000 (rsD (wN g+1) D) fun y r _=>beq_false_of_ne oM
   simp only[bxE,qCR,qFA,this,qiq,qip,push_cast,reduceIte,zA,zB,zC,zD,zE,zF,zG,reduceCtorEq,zH,zJ,cNI]
  ·have e:=qFd 1055 2000 _ x _ hN
   rw[hset]at e
   simp only[bxE,qCR,qFM,hr,rowC,qkk,qF0]at e ⊢
   simp only[zW,List.map_nil,List.map_replicate,e,quX,cfgC,PV.ren,if_neg h28]
  ·rw[qFa _ _ h28,rowsA_rm,hset]
   unfold qFN
   rw[hr]
   show up _ _ _=(28,_)::(1055,_)::_
   rw[up,if_neg (by decide),if_neg (by decide),qFS g _ (by decide)]
   rfl
theorem qFZ{A R:List (Nat×Arr)}(hA:a54 A):(A++R).filter (fun x=>x.1 !=1054)=R.filter (fun x=>x.1 !=1054):=by
 rcases hA with rfl|⟨z,rfl⟩<;>simp
theorem qG0 (g : Grid) (c : Cfg) {s : List (Nat × PV)} (D : Nat -> List Bool) (x : Nat) (hx : x <= wN g) (hs1 : farL (2000 + x) s) (hs2 : farL 1055 s) (L l : List Int) (i : Nat) (n : Int) (m : List Bool) (A : List (Nat × Arr)) (hA : a54 A) :
  SWk ⟨s,bxE g c (qFM g D x m) (qCR (.sl false 1 (ints l)) i) n,qFN g A L D x m,[]⟩ ⟨s,bitB g c (updD D x m),bitA g L (updD D x m),[]⟩:=by
 have hrf:=fun D=>qBe 1 59 (fun x=>x.1 !=1054) 2000 (rsD (wN g+1) D) fun y r _=>bne_iff_ne.2 (show 2000+y≠1054 by omega)
 have hset:(rsD (wN g+1) (updD D x [])).set x (rowO m)=rsD (wN g+1) (updD D x m):=by rw[qFw,qFX]
 refine SWk.trans (SWk.drop (fun i=>i !=1010) (fun i=>i !=1054)) ?_
 have hb:(bxE g c (qFM g D x m) (qCR (.sl false 1 (ints l)) i) n).filter (fun x=>x.1 !=1010)=[(2,quX false g),(3,cfgC false c),(7,[.view 28 0 (wN g+1)]),(8,[.bv 32 1 (wN g+1)]),(24,List.replicate (wN g+1) .nil),(32,qFM g D x m),(102,quX false g),(103,[.ptr 3 0]),(105,[.int (qv1 g)]),(204,[.yl 999])]:=rfl
 rw[hb]
 have ha:(qFN g A L D x m).filter (fun x=>x.1 !=1054)=(28,⟨1,3,ints L⟩)::(opA 1055 (rowO m)++qB1 1 59 2000 (rsD (wN g+1) (updD D x []))):=by
  unfold qFN
  rw[List.filter_cons_of_pos rfl,qFZ hA,List.filter_append,hrf]
  congr 2
  cases rowO m<;>rfl
 rw[ha]
 by_cases h:m=[]
 ·subst h
  have e:=qFR hx D
  unfold qFM
  rw[show rowO []=none from rfl]
  simp only[rowC,opA,e,List.nil_append]
  exact SWk.refl _
 ·have hr:rowO m=some (rows u64C (nats (qBH m))):=if_neg h
  have h28: ¬(28:Nat)=1055:=by decide
  have hq28: ¬28=2000+x:=by omega
  have hl:(rsD (wN g+1) (updD D x [])).length=wN g+1:=qFu _ _
  rw[hr]
  refine SWk.renEq (A:=⟨1,59,rows u64C (nats (qBH m))⟩) 1055 (2000+x) ?_ ?_ hs2 hs1 ?_ ?_ ?_
  ·rfl
  ·show lk ((28,_)::(1055,_)::qB1 1 59 2000 _) _=none
   rw[lk,if_neg hq28,lk,if_neg oM,qBa,qFv oM]
   simp only[updD,if_true];rfl
  ·have f := qFf (isId (2000 + x)) 2000 (rsD (wN g + 1) (updD D x [])) fun y r hy => by
    refine beq_false_of_ne fun e=> ?_
    obtain rfl:y=x:=by omega
    rw[qFv oM]at hy
    simp only[updD,if_true,Option.some.injEq]at hy
    cases hy
   have f2:anyT nul (isId (2000+x)) (qFM g D x m)=false:=by
    unfold qFM
    refine qFg _ _ _ _ _ f ?_
    rw[hr]
    exact beq_false_of_ne oM
   have hb28:(28==2000+x)=false:=beq_false_of_ne hq28
   simp only[qFA,f2,hb28,qiq,qip,push_cast,reduceIte,zA,zB,zC,zD,zE,zF,zG,reduceCtorEq,zH,zJ,cNI]
  ·have e:=qFe 1055 2000 (rsD (wN g+1) (updD D x [])) x (rows u64C (nats (qBH m))) oM (by decide)
   rw[<- hr,hset]at e
   simp only[bitB,qFM,hr,rowC]at e ⊢
   simp only[zW,List.map_nil,List.map_replicate,e,quX,cfgC,PV.ren,if_neg h28]
  ·show up (rm ((28,_)::(1055,_)::qB1 1 59 2000 _) 1055) _ _=_
   rw[qFa _ _ h28,qFb,qFc _ _ _ _ _ (by decide),up,if_neg hq28,if_neg oM,qBd _ _ _ _ _ _ oM,<- hr,hset]
   rfl
set_option maxHeartbeats 1000000 in
theorem qG1 (g : Grid) (hg : GOk g) (c : Cfg) {S : List (Nat × PV)} (hS : qtX 1000 S = true) (hSf : ∀ j, 1000 <= j -> farL j S) (D : Nat -> List Bool) (x n i : Nat) (l : List Int) (hi : i < l.length) (hx : x <= wN g)
  (L:List Int) (hL:L.length=wN g+1) (hLx:L.getD x default=(D x).length) (hct:(D x).length+n<2000000000) (hn:n<=64) (v:Nat) (hlv:l.getD i default=v) (hv2:v<2^62) (T:List (Nat×PV)) (hT:qhn [1000,125,1007,1008,1009,1010] T=[]) (Q:Exit->St->Prop)
  (hQ: ∀A,a54 A->Q .normal ⟨S++[(1007,.ptr 7 0),(1008,.ptr 8 0),(1009,.int x),(1010,.ptr 1010 0),(1038,.int n),(1039,.int n),(1040,.bool false)],bxE g c (qFM g D x (D x++qBu v n)) (qCR (.sl false 1 (ints l)) i) n,qFN g A (L.set x ((D x).length+n:Nat)) D x (D x++qBu v n),[]⟩):
  awp (Env.of Tryz.prog) ac32_r9 Q ⟨S++([(1007,.ptr 7 0),(1008,.ptr 8 0),(1009,.int x),(1010,.ptr 1010 0)]++T),bxE g c (qB0 2000 (rsD (wN g+1) D)) (qCR (.sl false 1 (ints l)) i) n,(28,⟨1,3,ints L⟩)::qB1 1 59 2000 (rsD (wN g+1) D),[]⟩:=by
 have hLs: ∀y,(L.set x y).getD x default=y:=fun y=>by rw[zK,List.getElem?_set_self oM];rfl
 have hLset: ∀y z,(L.set x y).set x z=L.set x z:=fun y z=>List.set_set ..
 have hL0:L.set x ((D x).length:Int)=L:=by
  rw[<- hLx]
  apply List.ext_getElem (by simp)
  intro j h1 h2
  rw[List.getElem_set]
  split
  ·next e=>subst e;simp[zK,h2]
  ·rfl
 have fS: ∀k:Int,∀j,1011<=j->farL j (S++[(1007,.ptr 7 0),(1008,.ptr 8 0),(1009,.int x),(1010,.ptr 1010 0),(1038,.int n),(1039,.int k)]):=fun k j hj=>by
  have n1: ∀q,q<1011->(q==j)=false:=fun q hq=>beq_false_of_ne oM
  simp only[qCX,hSf j oM,n1 7 (by decide),n1 8 (by decide),n1 1010 (by decide),push_cast,reduceIte,zA,zB,zC,zD,zE,zF,zG,reduceCtorEq,zH,zJ,cNI]
 have hin:=qFY g c D x hx (fS 0 (2000+x) oM) (fS 0 1055 (by decide)) L l i n
 have hbE: ∀cells p (m:Int),lk (bxE g c cells p m) 1010=some [p,.int m]:=fun _ _ _=>rfl
 simp only[ac32_r9,hT,qCx hS,qCw hS,qCy hS,qCz hS,qCA hS,hbE,push_cast,reduceIte,zA,zB,zC,zD,zE,zF,zG,reduceCtorEq,zH,zJ,cNI]
 refine qoO (fun j st=> ∃(k:Nat) (A:List (Nat×Arr)),k<=n/\j=n-k/\a54 A/\st=⟨S++[(1007,.ptr 7 0),(1008,.ptr 8 0),(1009,.int x),(1010,.ptr 1010 0),(1038,.int n),(1039,.int k)],bxE g c (qFM g D x (D x++qBu v k)) (qCR (.sl false 1 (ints l)) i) n,qFN g A (L.set x ((D x).length+k:Nat)) D x (D x++qBu v k),[]⟩) n ⟨_,?_,0,[],oM,oM,.inl rfl,rfl⟩ ?_
 ·simp only[qCx hS,qCw hS,qCy hS,qCz hS,qCA hS,push_cast,reduceIte,zA,zB,zC,zD,zE,zF,zG,reduceCtorEq,zH,zJ,cNI]
  rw[show qBu v 0=[]from rfl,List.append_nil,hL0]
  exact hin
 rintro j st ⟨k,A,hk,rfl,hA,rfl⟩
 simp only[qCx hS,qCw hS,qCy hS,qCz hS,qCA hS,push_cast,reduceIte,zA,zB,zC,zD,zE,zF,zG,reduceCtorEq,zH,zJ,cNI]
 refine qnY (fun h=> ?_) fun h=> ?_
 ·have hm:(D x++qBu v k).length=(D x).length+k:=by rw[zU,qBv]
  refine qFV g hg c hS hSf D x n k i l hi (D x++qBu v k) hx (L.set x ((D x).length+k:Nat)) (by rw[yF,hL]) (by rw[hLs,hm]) oM oM v hlv hv2 A hA [(1040,.bool (decide ((k:Int)<n)))] sC _ fun A' hA' => ?_
  simp only[qCx hS,qCw hS,qCy hS,qCz hS,qCA hS,push_cast,reduceIte,zA,zB,zC,zD,zE,zF,zG,reduceCtorEq,zH,zJ,cNI]
  refine⟨⟨oM,oM⟩,_,SWk.refl _,n-(k+1),oM,k+1,A',oM,rfl,hA',?_⟩
  rw[hLset,hm,qBw,List.append_assoc]
  rfl
 ·obtain rfl:k=n:=by omega
  have hq:=hQ A hA
  rw[show decide ((k:Int)<k)=false from decide_eq_false oM]
  exact hq
end Go.Proofs.YtecoaapkcnhlhaaGreatDoor
namespace Go.Vc
open Go Go.RowKit
def PV.fb(id:Nat)(cs:List PV):PV->PV
 | .bv i es n=>if i=id then(if es=1/\n=cs.length then .sl true 1 (cs.map fun c=>[c])else .bot)else .bv i es n
 |c=>c.kill (isId id) nul
def PV.fbA(id:Nat)(cs:List PV):PV->PV
 | .agg l=> .agg (l.map (PV.fb id cs))
 |c=>c.fb id cs
def PV.fbV(id:Nat)(cs:List PV):PV->PV
 | .tup l=> .tup (l.map (PV.fbA id cs))
 |c=>c.fbA id cs
section
variable {w w0:World} {Z Z0:Zone} {L:Lay} {N:Fr} {st:St} {a:Act} {id:Nat} {cs:List PV} {c:PV} {v:Value}
theorem CR.kz{Z' :Zone}(hz: ∀p b,Z p b->Z' p b)(h:CR w Z L c v):CR w Z' L c v:=h.keep ⟨fun _ _ _=>rfl⟩ hz (LSame.refl L) (PV.to_nul c)
theorem CR.fb{Z' :Zone}(hB:BR w Z L id cs)(hz: ∀p b,Z p b->Z' p b)(hid:Z' true (L.bx id))(hp:cs.all qbM=true)(h:CR w Z L c v):CR w Z' L (c.fb id cs) v:=by
 have hk: ∀c:PV,CR w Z L c v->CR w Z' L (c.kill (isId id) nul) v:=fun c h=>(CR.kill h).kz hz
 cases c with
 |bv i es n=>
   simp only[PV.fb]
   split
   ·rename_i e;subst e
    split
    ·rename_i e2
     obtain⟨rfl,rfl⟩:=e2
     obtain⟨cp,rfl,hcp,hm,_⟩:=h
     obtain⟨vs,T,h1,h2,h3⟩:=hB
     show TR w Z' _ _
     by_cases h0:cs=[]
     ·subst h0
      exact TR.sl0 _ _ _ _ hm
     ·have hpos:=List.length_pos_iff.2 h0
      have:=TR.sl (w:=w) (Z:=Z') true 1 (cs.map fun c=>[c]) (L.bx i) 0 cp (fun i _=>vs.getD i undef) (by omega) hid (by simpa using hpos) (by simpa using hcp) hm
       (fun x hx=>by obtain⟨c,_,rfl⟩:=List.mem_map.1 hx;rfl)
       (fun i j hi hj=>by
        simp only[yG]at hi
        obtain rfl:j=0:=by omega
        refine⟨?_,(h3 i _ (zL hi)).2⟩
        rw[cell_of_row w _ _ _ _ _ h1]
        have hi2:i<vs.size:=Nat.lt_of_lt_of_le hi h2.1
        simp[Array.getD,hi2])
       (fun i j x c hi hj=>by
        rw[zS]at hi
        obtain⟨c',h4,rfl⟩:=zR.1 hi
        match j,hj with
        |0,hj=>
          simp at hj;subst hj
          have h5:=(h3 i c' h4).1
          have h6:=yE.1 hp c' (zP h4)
          have h7:TR w Z c' (vs.getD i undef):=by
           cases c' <;>first|exact h5|cases h6
          exact h7.keep ⟨fun _ _ _=>rfl⟩ hz)
      simpa using this
    ·exact TR.bot _
   ·exact h.kz hz
 |_=>exact hk _ h
theorem AR.fb{Z' :Zone}(hB:BR w Z L id cs)(hz: ∀p b,Z p b->Z' p b)(hid:Z' true (L.bx id))(hp:cs.all qbM=true)(h:AR w Z L c v):AR w Z' L (c.fbA id cs) v:=by
 cases c with
 |agg l=>
   obtain⟨vs,h1,h2,h3⟩:=h
   refine⟨vs,h1,by simpa using h2,fun j c hj=> ?_⟩
   rw[zS]at hj
   obtain⟨c',h4,rfl⟩:=zR.1 hj
   exact⟨(h3 j c' h4).1.fb hB hz hid hp,(h3 j c' h4).2⟩
 |_=>exact AR.cr (CR.fb hB hz hid hp (AR.toCR (by simp) h))
theorem VR.fb{Z' :Zone}(hB:BR w Z L id cs)(hz: ∀p b,Z p b->Z' p b)(hid:Z' true (L.bx id))(hp:cs.all qbM=true)(h:VR w Z L c v):VR w Z' L (c.fbV id cs) v:=by
 cases c with
 |tup l=>
   obtain⟨vs,h1,h2,h3⟩:=h
   refine⟨vs,h1,by simpa using h2,fun j c hj=> ?_⟩
   rw[zS]at hj
   obtain⟨c',h4,rfl⟩:=zR.1 hj
   exact(h3 j c' h4).fb hB hz hid hp
 |_=>exact VR.ar (AR.fb hB hz hid hp (VR.toAR (by simp) h))
theorem Inv.frzB {s : List (Nat × PV)} {b : List (Nat × List PV)} {aa : List (Nat × Arr)} (h : Inv w0 Z0 N Z L ⟨s, b, aa, []⟩ a w) (hb : lk b id = some cs) (hp : cs.all qbM = true) :
  ∃Z',Inv w0 Z0 N Z' L ⟨s.map fun x=>(x.1,x.2.fbV id cs),rm (b.map fun x=>(x.1,x.2.map (PV.fb id cs))) id,aa,[]⟩ a w:=by
 have hB:=h.boxes id cs hb
 obtain⟨o1,o2,o3⟩:=h.ownb id cs hb
 have hk:Kept Z w w:=⟨fun _ _ _=>rfl⟩
 have hz: ∀p b,Z p b->(Z p b\/b=L.bx id):=fun _ _ h=> .inl h
 have hR:=h.rest.keep (Z' :=fun p b=>Z p b\/b=L.bx id) hk hz (fun b o p hb hc hp=>hp.elim (fun e=>e) (fun e=>absurd e (hB.notCells hb hc))) (fun _ _ _ _=>rfl) (Nat.le_refl _) (LSame.refl L) (m' :=[])
  (fun i M hM=>by cases hM)
 have key: ∀i u,lk (rm (b.map fun x=>(x.1,x.2.map (PV.fb id cs))) id) i=some u->id≠i/\ ∃u',lk b i=some u' /\u=u'.map (PV.fb id cs):=fun i u hl=>by
  rw[qa4]at hl
  split at hl
  ·cases hl
  ·rename_i e
   exact⟨e,qbK b _ i u hl⟩
 refine⟨fun p b=>Z p b\/b=L.bx id,fun b hb=>hb.imp (h.zt b) (fun e=>e),fun p b hp=> .inl (h.z0 p b hp),?_,?_,h.below,?_,?_,?_,?_,?_,?_,?_,hR.1,hR.2.1,hR.2.2.1,hR.2.2.2.1,h.yb,h.size,hR.2.2.2.2,?_⟩
 ·rintro p b (hp|rfl)
  ·exact h.zn p b hp
  ·exact .inr o1
 ·rintro p b (hp|rfl)
  ·exact h.zb p b hp
  ·exact o2
 ·intro i u hl
  obtain⟨e,u',h1,_⟩:=key i u hl
  obtain⟨p1,p2,p3⟩:=h.ownb i u' h1
  exact⟨p1,p2,fun p hp=>hp.elim (p3 p) (fun e' =>e (h.injb i id u' cs h1 hb e').symm)⟩
 ·intro i A hl
  obtain⟨p1,p2,p3⟩:=h.owna i A hl
  exact⟨p1,p2,fun p hp=>hp.elim (p3 p) (fun e=>h.injx id i cs A hb hl e.symm)⟩
 ·intro i j x y hx hy
  obtain⟨_,u,h1,_⟩:=key i x hx
  obtain⟨_,u',h2,_⟩:=key j y hy
  exact h.injb i j u u' h1 h2
 ·exact fun i j x y hx hy=>h.inja i j x y hx hy
 ·intro i j x y hx hy
  obtain⟨_,u,h1,_⟩:=key i x hx
  exact h.injx i j u y h1 hy
 ·intro i x hl
  obtain⟨_,u,h1,rfl⟩:=key i x hl
  obtain⟨vs,T,h2,h3,h4⟩:=h.boxes i u h1
  refine⟨vs,T,h2,by simpa using h3,fun j c hj=> ?_⟩
  rw[zS]at hj
  obtain⟨c',h5,rfl⟩:=zR.1 hj
  exact⟨(h4 j c' h5).1.fb hB hz (.inr rfl) hp,(h4 j c' h5).2⟩
 ·intro i A hl
  obtain⟨cur,hc⟩:=h.arrs i A hl
  exact⟨cur,hc.keep hk hz rfl (LSame.refl L) rfl⟩
 ·intro i v hl
  obtain⟨u,h1,rfl⟩:=qbK s _ i v hl
  exact(h.slots i u h1).fb hB hz (.inr rfl) hp
end
theorem SWk.frzB {s s' : List (Nat × PV)} {b b' : List (Nat × List PV)} {a : List (Nat × Arr)} {cs : List PV} (id : Nat) (hb : lk b id = some cs) (hp : cs.all qbM = true)
  (hs:(s.map fun x=>(x.1,x.2.fbV id cs))=s') (hb' :rm (b.map fun x=>(x.1,x.2.map (PV.fb id cs))) id=b'):SWk ⟨s,b,a,[]⟩ ⟨s',b',a,[]⟩:=fun _ _ _ _ _ ⟨_,L,h⟩=>by
 obtain⟨Z',h'⟩:=h.frzB hb hp
 rw[hs,hb']at h'
 exact⟨Z',L,h'⟩
theorem SWk.dropS{s:List (Nat×PV)}{b:List (Nat×List PV)}{a:List (Nat×Arr)}{m:List (Nat×Mp)}(ps pb pa:Nat->Bool):SWk ⟨s,b,a,m⟩ ⟨s.filter (fun x=>ps x.1),b.filter (fun x=>pb x.1),a.filter (fun x=>pa x.1),m⟩:=fun _ _ _ _ _ ⟨Z,L,h⟩=>
 ⟨Z,L,h.forget (fun i v hl=> .inl (qa8 _ _ (fun _ _=>rfl) i v hl)) (fun i v hl=>qa8 _ _ (fun _ _=>rfl) i v hl) (fun i v hl=>qa8 _ _ (fun _ _=>rfl) i v hl) (fun _ _ hl=>hl)⟩
theorem qG3{α:Type}{p q:Bool}{es:Nat}{l:List α}(f g:α->List PV)(hq:q=true->p=true)(h1: ∀x∈l,(f x).length=(g x).length)(h2: ∀x∈l,SubL (f x) (g x)):Sub (.sl p es (l.map f)) (.sl q es (l.map g)):=by
 refine .sl p q es _ _ hq (by simp) (fun i x y hx hy=> ?_) fun i x y j c d hx hy hc hd=> ?_
 ·rw[zS]at hx hy
  obtain⟨a,ha,rfl⟩:=zR.1 hx
  rw[ha]at hy
  cases hy
  exact h1 a (zP ha)
 ·rw[zS]at hx hy
  obtain⟨a,ha,rfl⟩:=zR.1 hx
  rw[ha]at hy
  cases hy
  exact(h2 a (zP ha)).at j c d hc hd
def rowP:Option (List (List PV))->PV
 |none=> .nil
 |some r=> .sl true 1 r
theorem qG7(id:Nat)(A:Arr): ∀(l:List (Option (List (List PV)))),(l.map rowP).map (PV.fz id A)=l.map rowP
 |[]=>rfl
 |none::r=>by simp only[zW,qG7 id A r];rfl
 |some x::r=>by simp only[zW,qG7 id A r];rfl
theorem qG8(id:Nat)(A:Arr): ∀(k:Nat) (rs:List (Option (List (List PV)))),id<k->(qB0 k rs).map (PV.fz id A)=qB0 k rs
 |_,[],_=>rfl
 | k, r :: rs, h => by
   rw[qB0,zW,qG8 id A (k+1) rs (by omega)]
   congr 1
   cases r with
   |none=>rfl
   |some r=>simp only[rowC,PV.fz,if_neg (show k≠id by omega)]
theorem SWk.frzRows {s : List (Nat × PV)} {b1 b2 : List (Nat × List PV)} {id k ty : Nat} : ∀ (rs0 rs : List (Option (List (List PV)))) (_ : ∀ j, k <= j -> farL j s) (_ : ∀ j, k <= j -> refB nul (isId j) b1 = false) (_ : ∀ j, k <= j -> refB nul (isId j) b2 = false),
  SWk ⟨s,b1++(id,rs0.map rowP++qB0 (k+rs0.length) rs)::b2,qB1 1 ty (k+rs0.length) rs,[]⟩ ⟨s,b1++(id,(rs0++rs).map rowP)::b2,[],[]⟩
 | rs0, [], hs, h1, h2 => by
   rw[List.append_nil,qB0,List.append_nil]
   exact SWk.refl _
 | rs0, none :: rs, hs, h1, h2 => by
   have h:=SWk.frzRows (rs0++[none]) rs hs h1 h2 (id:=id) (ty:=ty)
   rw[zU,yH,List.append_assoc,List.append_assoc]at h
   exact h
 | rs0, some r :: rs, hs, h1, h2 => by
   have h:=SWk.frzRows (rs0++[some r]) rs hs h1 h2 (id:=id) (ty:=ty)
   rw[zU,yH,List.append_assoc,List.append_assoc]at h
   refine SWk.trans ?_ h
   have hf:=SWk.frz ⟨s,b1++(id,rs0.map rowP++qB0 (k+rs0.length) (some r::rs))::b2,qB1 1 ty (k+rs0.length) (some r::rs),[]⟩ (k+rs0.length)
   have e1: ∀b:List (Nat×List PV),refB nul (isId (k+rs0.length)) b=false->fzB (k+rs0.length) ⟨1,ty,r⟩ b=b:=by
    intro b
    induction b with
    |nil=>exact fun _=>rfl
    |cons x b ih=>
      obtain⟨i,v⟩:=x
      intro h
      rw[qiq,Bool.or_eq_false_iff]at h
      rw[qjR,h.1,ih h.2];rfl
   have e2:fzS (k+rs0.length) ⟨1,ty,r⟩ s=s:=by
    have:=hs (k+rs0.length) (by omega)
    clear hf hs h
    induction s with
    |nil=>rfl
    |cons x s ih=>
      obtain⟨i,v⟩:=x
      rw[qCW]at this
      rw[qjP,this.1.2,ih this.2];rfl
   have e3: ∀b c:List (Nat×List PV),fzB (k+rs0.length) ⟨1,ty,r⟩ (b++c)=fzB (k+rs0.length) ⟨1,ty,r⟩ b++fzB (k+rs0.length) ⟨1,ty,r⟩ c:=fun b c=>by
    rw[<- qk9,<- qk9,<- qk9,yH]
   have e4: ∀v:List PV,(bif anyT nul (isId (k+rs0.length)) v then fzL (k+rs0.length) ⟨1,ty,r⟩ v else v)=v.map (PV.fz (k+rs0.length) ⟨1,ty,r⟩):=fun v=>by
    cases hv:anyT nul (isId (k+rs0.length)) v
    ·rw[qk2,qk5 _ _ hv];rfl
    ·rw[qk2];rfl
   rw[qkc,qB1,lk,if_pos rfl,qka,qFb,qFc _ _ _ _ _ (by omega),e2,e3,qjR,e1 b1 (h1 _ (by omega)),e1 b2 (h2 _ (by omega)),e4,yH,qG7,qB0,zW,qG8 _ _ _ _ (by omega)]at hf
   have e5:PV.fz (k+rs0.length) ⟨1,ty,r⟩ (rowC (k+rs0.length) (some r))= .sl true 1 r:=by
    simp[rowC,PV.fz]
   rw[e5]at hf
   exact hf
end Go.Vc
namespace Go.Proofs.YtecoaapkcnhlhaaGreatDoor
open Go Go.Vc Go.Ham Txt
theorem qG9{g:Grid}(hg:GOk g){c:Cfg}(h:validE g c=0){f:Fld}(hf:FIn g f):cfgV c f.kind f.i<2^62:=by
 have h1:=(qDr hg h hf).2
 obtain⟨⟨l1,l2,l3,l4⟩,h2,h3⟩:=(qDp g c).1 h
 rcases hf.key with⟨a,b,d⟩|⟨a,b,d⟩|⟨a,b,d⟩|⟨a,b,d⟩
 ·have hs:=h2 f.i (by rw[l1];exact b)
  have hd:=qxu g hg f.i
  unfold qyt at hs
  unfold cfgV
  rw[a]
  simp only[cfgI,if_true]
  by_cases e:c.sel.getD f.i 0=0
  ·rw[e];decide
  ·have:=hs e
   omega
 all_goals
  rw[d]at h1
  exact Nat.lt_of_lt_of_le h1 (Nat.pow_le_pow_right (by decide) (by decide))
theorem qGa{g:Grid}{f:Fld}(hf:FIn g f):f.n<=64:=by
 rcases hf.key with⟨a,b,d⟩|⟨a,b,d⟩|⟨a,b,d⟩|⟨a,b,d⟩<;>rw[d]
 ·exact qDW 64 _
 all_goals decide
def outP(h:Nat->Nat)(D:Nat->List Nat)(x:Nat):PV:=if D x=[]then .nil else .sl true 1 (rows u64C (nats ((D x).map h)))
def datP(D:Nat->List Nat)(x:Nat):PV:=if D x=[]then .nil else .sl true 1 (rows u64C (nats (D x)))
def outC(h:Nat->Nat)(n:Nat)(D:Nat->List Nat)(k:Nat):List PV:=(List.range n).map fun x=>if x<k then outP h D x else .nil
def datC(n:Nat)(D:Nat->List Nat):List PV:=(List.range n).map (datP D)
theorem qGb{h:Nat->Nat}(n:Nat)(D:Nat->List Nat)(k:Nat):(outC h n D k).length=n:=by simp[outC]
theorem qGc(n:Nat)(D:Nat->List Nat):(datC n D).length=n:=by simp[datC]
theorem qGd{h:Nat->Nat}{n k:Nat}(hk:k<n)(D:Nat->List Nat):(outC h n D k).getD k .bot= .nil:=by simp[outC,zK,hk]
theorem qGe{n k:Nat}(h:k<n)(D:Nat->List Nat):(datC n D).getD k .bot=datP D k:=by simp[datC,zK,h]
theorem qGf{h:Nat->Nat}{n k:Nat}(D:Nat->List Nat):(outC h n D k).set k (outP h D k)=outC h n D (k+1):=by
 apply List.ext_getElem (by simp[outC])
 intro i h1 h2
 rw[List.getElem_set]
 simp only[outC,List.getElem_map,List.getElem_range]
 split
 ·next e=>subst e;rw[if_pos oM]
 ·next e=>
  by_cases h3:i<k
  ·rw[if_pos h3,if_pos oM]
  ·rw[if_neg h3,if_neg oM]
theorem qGg{h:Nat->Nat}{n k:Nat}(D:Nat->List Nat)(h0:D k=[]):outC h n D k=outC h n D (k+1):=by
 unfold outC
 apply List.map_congr_left
 intro x _
 by_cases e:x=k
 ·subst e
  rw[if_neg oM,if_pos oM,outP,if_pos h0]
 ·by_cases h2:x<k
  ·rw[if_pos h2,if_pos oM]
  ·rw[if_neg h2,if_neg oM]
theorem qGh{h:Nat->Nat}{n:Nat}(D:Nat->List Nat)(k:Nat)(pb pa:Nat->Bool):anyT pb pa (outC h n D k)=false:=by
 rw[<- qhK,yD]
 intro c hc
 obtain⟨x,_,rfl⟩:=List.mem_map.1 hc
 unfold outP
 split
 ·split<;>simp[PV.to]
 ·simp[PV.to]
theorem qGi{n:Nat}(D:Nat->List Nat)(pb pa:Nat->Bool):anyT pb pa (datC n D)=false:=by
 rw[<- qhK,yD]
 intro c hc
 obtain⟨x,_,rfl⟩:=List.mem_map.1 hc
 unfold datP
 split<;>simp[PV.to]
theorem qGj{h:Nat->Nat}(n:Nat)(D:Nat->List Nat)(k:Nat):(outC h n D k).all qbM=true:=by
 rw[yE]
 intro c hc
 obtain⟨x,_,rfl⟩:=List.mem_map.1 hc
 unfold outP
 split
 ·split<;>rfl
 ·rfl
set_option maxHeartbeats 2000000 in
theorem qGl (n : Nat) (hn : n <= 1000) (D : Nat -> List Nat) (hD : ∀ x, (D x).length < 100000000) (hD2 : ∀ x, ∀ w ∈ D x, w < 2 ^ 57) (Q : Exit -> St -> Prop) (st : St)
  (h0:SWk st ⟨[(6,.bv 24 1 n),(8,.ptr 8 0)],[(8,[.bv 32 1 n]),(24,outC encW n D 0),(32,datC n D)],[],[]⟩)
  (hQ:Q .ret ⟨[(4,.sl true 1 ((outC encW n D n).map fun c=>[c])),(5,.int 0),(6,.sl true 1 ((outC encW n D n).map fun c=>[c])),(124,.sl true 1 ((outC encW n D n).map fun c=>[c]))],[(8,[.bv 32 1 n]),(32,datC n D)],[],[]⟩):
  awp (Env.of Tryz.prog) ac32_r17 Q st:=by
 simp only[ac32_r17,push_cast,reduceIte,zA,zB,zC,zD,zE,zF,zG,reduceCtorEq,zH,zJ,cNI]
 refine qr9 _ h0 ?_
 refine sB ?_
 refine qoO (fun j st=> ∃k:Nat,k<=n/\j=n-k/\st=⟨[(6,.bv 24 1 n),(8,.ptr 8 0),(92,.int n),(93,.int k)],[(8,[.bv 32 1 n]),(24,outC encW n D k),(32,datC n D)],[],[]⟩) n ⟨_,SWk.refl _,0,oM,oM,by simp only[push_cast,reduceIte,zA,zB,zC,zD,zE,zF,zG,reduceCtorEq,zH,zJ,cNI]⟩ ?_
 rintro j st ⟨k,hk,rfl,rfl⟩
 refine sB ?_
 refine qnY (fun h=> ?_) fun h=> ?_
 ·have hk' :k<n:=by omega
  simp only[Nat.mul_one,qFh (datC n D),qGc,qGe hk',push_cast,reduceIte,zA,zB,zC,zD,zE,zF,zG,reduceCtorEq,zH,zJ,cNI]
  refine⟨⟨oM,oM⟩,oM,?_⟩
  unfold datP
  by_cases hE:D k=[]
  ·rw[if_pos hE]
   refine sB ?_
   refine qoO (fun _ s=>s=_) 0 ⟨_,SWk.refl _,rfl⟩ ?_
   rintro _ _ rfl
   refine sB ?_
   refine qnY (fun h=>absurd h (by decide)) fun _=> ?_
   refine⟨⟨oM,oM⟩,_,SWk.refl _,n-(k+1),oM,k+1,oM,rfl,?_⟩
   rw[qGg D hE]
   rfl
  ·rw[if_neg hE]
   have hlen:=hD k
   have hR: ∀j,(((D k).map encW).take j).length=min j (D k).length:=fun j=>by simp
   have hcl: ∀v,((outC encW n D k).set k v).length=n:=fun v=>by rw[yF,qGb]
   have hcx: ∀v,((outC encW n D k).set k v).getD k .bot=v:=fun v=>by rw[zK,List.getElem?_set_self (by rw[qGb];omega)];rfl
   have hset2: ∀v w,((outC encW n D k).set k v).set k w=(outC encW n D k).set k w:=fun v w=>List.set_set ..
   have f8: ∀j c,c.to nul (isId j)=false->anyT nul (isId j) ((outC encW n D k).set k c)=false:=fun j c hc=>qFg _ _ _ _ _ (qGh D k _ _) hc
   have g8:=fun j=>qGi (n:=n) D nul (isId j)
   have b5:=fun m=>qFP (j:=119) (outC encW n D k) k m (by rw[qGb];omega)
   have b6:=fun m=>qFO (j:=119) (outC encW n D k) k m (by rw[qGb];omega) (qFg _ _ _ _ _ (qGh D k _ _) rfl)
   have hn0:(outC encW n D k).set k .nil=outC encW n D k:=by
    have e:=qGd (h:=encW) hk' D
    apply List.ext_getElem (by simp)
    intro i h1 h2
    rw[List.getElem_set]
    split
    ·next q=>subst q;rw[zK,zL h2]at e;exact e.symm
    ·rfl
   have e8: ∀m,anyT nul (isId 118) ((outC encW n D k).set k (.view 119 0 m))=false:=fun m=>f8 _ _ rfl
   have hspl: ∀v w,spl ((outC encW n D k).set k v) k [w]=(outC encW n D k).set k w:=fun v w=>by rw[qFi _ _ _ (by rw[hcl];omega),hset2]
   simp only[qF0,push_cast,reduceIte,zA,zB,zC,zD,zE,zF,zG,reduceCtorEq,zH,zJ,cNI]
   refine qoO (fun m st=> ∃j:Nat,j<=(D k).length/\m=(D k).length-j/\st=⟨[(6,.bv 24 1 n),(8,.ptr 8 0),(12,.int k),(92,.int n),(93,.int k),(99,.sl true 1 (rows u64C (nats (D k)))),(100,.int (D k).length),(101,.int j)],
    [(8,[.bv 32 1 n]),(24,(outC encW n D k).set k (if j=0 then .nil else .view 119 0 j)),(32,datC n D)],(if j=0 then[]else[(119,⟨1,59,rows u64C (nats (((D k).map encW).take j))⟩)]),[]⟩) (D k).length ⟨_,SWk.refl _,0,oM,oM,?_⟩ ?_
   ·simp only[if_true,hn0,push_cast,reduceIte,zA,zB,zC,zD,zE,zF,zG,reduceCtorEq,zH,zJ,cNI]
   rintro m st ⟨j,hj,rfl,rfl⟩
   simp only[qF0,push_cast,reduceIte,zA,zB,zC,zD,zE,zF,zG,reduceCtorEq,zH,zJ,cNI]
   refine qnY (fun h2=> ?_) fun h2=> ?_
   ·have hj' :j<(D k).length:=by omega
    have hw:(D k).getD j 0<2^57:=hD2 k _ (by rw[zK,zL hj'];exact List.getElem_mem hj')
    have hen:=qEp ((D k).getD j 0) hw
    have htk:((D k).map encW).take (j+1)=((D k).map encW).take j++[encW ((D k).getD j 0)]:=by
     rw[zZ (by simpa using hj'),List.getElem_map,zK,zL hj']
     rfl
    refine⟨⟨oM,oM⟩,oM,?_⟩
    rw[qFG]
    refine qrv hen sC ?_
    cases j with
    |zero=>
      simp only[if_true,Nat.mul_one,qFh,hcl,hcx,hset2,hn0,f8,qGh,g8,rep1,List.set_cons_zero,zV,List.length_nil,qGb,qGd hk',qFi _ k _ (by rw[qGb];omega:k<(outC encW n D k).length),push_cast,reduceIte,zA,zB,zC,zD,zE,zF,zG,reduceCtorEq,zH,zJ,cNI]
      refine⟨⟨oM,oM⟩,oM,⟨oM,oM⟩,oM,⟨oM,oM⟩,_,SWk.drop (fun _=>true) (fun i=>i !=118),(D k).length-1,oM,1,oM,rfl,?_⟩
      rw[htk]
      rfl
    |succ j=>
      simp only[if_neg (Nat.succ_ne_zero j),Nat.mul_one,qFh,hcl,hcx,hset2,hn0,e8,hspl,b5,b6,f8,qGh,g8,rep1,List.set_cons_zero,zV,List.length_nil,qGb,qGd hk',push_cast,reduceIte,zA,zB,zC,zD,zE,zF,zG,reduceCtorEq,zH,zJ,cNI]
      refine⟨⟨oM,oM⟩,oM,⟨by rw[qF0,hR];omega,oM,oM⟩,⟨oM,oM⟩,oM,⟨oM,oM⟩,_,SWk.drop (fun _=>true) (fun i=>i !=118),(D k).length-(j+1+1),oM,j+1+1,oM,rfl,?_⟩
      rw[htk,<- qFU]
      rfl
   ·obtain rfl:j=(D k).length:=by omega
    have hz: ¬(D k).length=0:=fun e=>hE (List.length_eq_zero_iff.1 e)
    have hfz:(outC encW n D k).map (PV.fz 119 ⟨1,59,rows u64C (nats ((D k).map encW))⟩)=outC encW n D k:=by rw[qk2,qk5 _ _ (qGh D k _ _)]
    rw[if_neg hz,if_neg hz,zY (by simp)]
    refine⟨⟨oM,oM⟩,_,SWk.frz _ 119,n-(k+1),oM,k+1,oM,rfl,?_⟩
    simp only[b5,qGi,qk5 _ _ (qGi D _ _),<- qk2,push_cast,reduceIte,zA,zB,zC,zD,zE,zF,zG,reduceCtorEq,zH,zJ,cNI]
    have e:PV.fz 119 ⟨1,59,rows u64C (nats ((D k).map encW))⟩ (.view 119 0 (D k).length)=outP encW D k:=by
     rw[outP,if_neg hE,qjS,if_pos rfl]
     simp only[List.drop_zero]
     rw[zY (by simp[rows,nats])]
    rw[List.map_set,hfz,e,qGf]
 ·obtain rfl:k=n:=by omega
  refine qr9 ⟨[(6,.sl true 1 ((outC encW k D k).map fun c=>[c])),(8,.ptr 8 0),(92,.int k),(93,.int k),(94,.bool (decide ((k:Int)<k)))],[(8,[.bv 32 1 k]),(32,datC k D)],[],[]⟩ (SWk.frzB 24 (cs:=outC encW k D k) rfl (qGj _ _ _) ?_ ?_) ?_
  ·simp only[zW,List.map_nil,PV.fbV,PV.fbA,PV.fb,qGb,if_true,and_self,PV.kill]
   rfl
  ·have e : (datC k D).map (PV.fb 24 (outC encW k D k)) = datC k D := by
    conv=>rhs;rw[<- List.map_id (datC k D)]
    apply List.map_congr_left
    intro c hc
    obtain⟨x,_,rfl⟩:=List.mem_map.1 hc
    unfold datP
    split<;>rfl
   simp only[zW,List.map_nil,e]
   rfl
  refine sB ?_
  exact hQ
def bxV(g:Grid)(c:Cfg)(cells v:List PV):List (Nat×List PV):=[(2,quX false g),(3,cfgC false c),(7,[.view 28 0 (wN g+1)]),(8,[.bv 32 1 (wN g+1)]),(24,List.replicate (wN g+1) .nil),(32,cells),(102,quX false g),(103,[.ptr 3 0]),(105,[.int (qv1 g)]),(204,[.yl 999]),(1010,v)]
theorem qGm(g:Grid)(c:Cfg)(D:Nat->List Bool)(v:List PV):up (bitB g c D) 1010 v=bxV g c (qB0 2000 (rsD (wN g+1) D)) v:=rfl
theorem qGn(g:Grid)(c:Cfg)(cells v w:List PV):up (bxV g c cells v) 1010 w=bxV g c cells w:=rfl
theorem qGo(g:Grid)(c:Cfg)(cells v:List PV):lk (bxV g c cells v) 1010=some v:=rfl
theorem qGp(g:Grid)(c:Cfg)(cells:List PV)(p:PV)(n:Int):bxV g c cells [p,.int n]=bxE g c cells p n:=rfl
theorem qGq(g:Grid)(c:Cfg)(D:Nat->List Bool):qiF (isId 1010) nul (bitB g c D)=bitB g c D:=by
 have h:anyT (isId 1010) nul (qB0 2000 (rsD (wN g+1) D))=false:=by
  rw[<- qhK];exact qB5 _ _ _ _ fun _ _=>rfl
 unfold bitB
 simp only[h,qFA,push_cast,reduceIte,zA,zB,zC,zD,zE,zF,zG,reduceCtorEq,zH,zJ,cNI]
theorem qGr{g:Grid}{c:Cfg}(h:validE g c=0)(hg:GOk g){f:Fld}(hf:FIn g f): ∃l,cfK (.sl false 1 (ints c.sel)) (.sl false 1 (ints c.mode)) (.sl false 1 (ints c.tab)) (.sl false 1 (ints c.ram)) f.kind= .sl false 1 (ints l)/\f.i<l.length/\l.getD f.i default=(cfgV c f.kind f.i:Int):=by
 have hc:=hg.n.c
 have hk:=hg.n.k
 have h1:=(qDr hg h hf).1
 obtain⟨⟨l1,l2,l3,l4⟩,_⟩:=(qDp g c).1 h
 unfold cfgV
 rcases hf.key with⟨a,b,d⟩|⟨a,b,d⟩|⟨a,b,d⟩|⟨a,b,d⟩<;>rw[a]at h1 ⊢
 ·exact⟨c.sel,rfl,oM,by simp only[cfgI,if_true]at h1 ⊢;exact(Int.toNat_of_nonneg h1).symm⟩
 ·exact⟨c.mode,rfl,oM,(Int.toNat_of_nonneg h1).symm⟩
 ·exact⟨c.tab,rfl,oM,(Int.toNat_of_nonneg h1).symm⟩
 ·exact⟨c.ram,rfl,oM,(Int.toNat_of_nonneg h1).symm⟩
set_option maxHeartbeats 4000000 in
theorem qGs(g:Grid)(hg:GOk g)(c:Cfg)(hs:CfgSm c)(h0:validE g c=0):FnEq Tryz.prog 32 [.agg (quX false g),.agg (cfgC false c)] (.tup [.sl true 1 (rows (frmC true) (qDu g c)),.int 0]):=by
 have hn:=hg.n
 have hv:=qyz g hg c hs
 refine FnEq.of_awp Tryz.func32 ok32 (by show 2<=_;decide) (by simp only[push_cast,reduceIte,zA,zB,zC,zD,zE,zF,zG,reduceCtorEq,zH,zJ,cNI]<;>first|exact fun _ _=>trivial|simp) ?_
 simp only[ac32,rv32,push_cast,reduceIte,zA,zB,zC,zD,zE,zF,zG,reduceCtorEq,zH,zJ,cNI]
 refine qrv hv (by exact⟨.refl _,.refl _,trivial⟩) ?_
 simp only[qFA,push_cast,reduceIte,zA,zB,zC,zD,zE,zF,zG,reduceCtorEq,zH,zJ,cNI]
 have hw:=hg.w
 have hw2:=hn.w
 refine qnY (fun h=>absurd h0 h) fun _=> ?_
 rw[show(g.w+1).toNat=wN g+1 by omega,List.length_replicate]
 refine⟨⟨oM,oM⟩,⟨oM,oM,oM⟩,⟨oM,oM⟩,⟨oM,oM,oM,oM⟩,⟨oM,oM⟩,⟨oM,oM,oM⟩,?_⟩
 have hF : FnM (Env.of Tryz.prog) 58 [.agg (quX false g), .ptr 3 0] ⟨[(2, .ptr 2 0), (3, .ptr 3 0), (6, .bv 24 1 (wN g + 1)), (7, .ptr 7 0), (8, .ptr 8 0), (33, .agg (quX false g))], [(2, quX false g), (3, cfgC false c), (7, [.view 28 0 (wN g + 1)]), (8, [.bv 32 1 (wN g + 1)]), (24, List.replicate (wN g + 1) .nil), (32, List.replicate (wN g + 1) .nil)], [(28, ⟨1, 3, ints (List.replicate (wN g + 1) 0)⟩)], []⟩
   (fun v st' =>v= .clo 82 [103,102,105]/\st' =⟨[(2,.ptr 2 0),(3,.ptr 3 0),(6,.bv 24 1 (wN g+1)),(7,.ptr 7 0),(8,.ptr 8 0),(33,.agg (quX false g))],[(2,quX false g),(3,cfgC false c),(7,[.view 28 0 (wN g+1)]),(8,[.bv 32 1 (wN g+1)]),(24,List.replicate (wN g+1) .nil),(32,List.replicate (wN g+1) .nil),(102,quX false g),(103,[.ptr 3 0]),(105,[.int (qv1 g)])],[(28,⟨1,3,ints (List.replicate (wN g+1) 0)⟩)],[]⟩):=by
  refine quf 100 Tryz.func58 ok58_100 (by show 2<=_;decide) rfl (by decide) ?_
  have ht:=hg.tracks
  simp only[ac58_100,rv58_100,qFA,push_cast,reduceIte,zA,zB,zC,zD,zE,zF,zG,reduceCtorEq,zH,zJ,cNI]
  exact⟨⟨oM,oM⟩,⟨oM,oM⟩,rfl⟩
 refine qsP hF ?_
 simp only[qFA,push_cast,reduceIte,zA,zB,zC,zD,zE,zF,zG,reduceCtorEq,zH,zJ,cNI]
 refine qud (st1:=⟨[(6,.bv 24 1 (wN g+1)),(7,.ptr 7 0),(8,.ptr 8 0),(34,.clo 82 [103,102,105])],[(2,quX false g),(3,cfgC false c),(7,[.view 28 0 (wN g+1)]),(8,[.bv 32 1 (wN g+1)]),(24,List.replicate (wN g+1) .nil),(32,List.replicate (wN g+1) .nil),(102,quX false g),(103,[.ptr 3 0]),(105,[.int (qv1 g)])],bitA g (qDQ g []) (fun x=>qBU [] (cfgV c) x),[]⟩) (Env.of_noY _) rfl ?_
  (qDd (s:=[(6,.bv 24 1 (wN g+1)),(7,.ptr 7 0),(8,.ptr 8 0),(34,.clo 82 [103,102,105])]) rfl (by show 125<=200;decide) (fun _ _ h=>h) rfl g hg 103 102 105 3 _ _ _ _ _ (fun pre=>bitB g c fun x=>qBU pre (cfgV c) x) (fun pre=>bitA g (qDQ g pre) fun x=>qBU pre (cfgV c) x) rfl rfl rfl sC ?_ (fun pre hp=>⟨rfl,rfl,rfl,rfl,rfl⟩) (fun pre hp=>⟨rfl,rfl,rfl,rfl⟩) ?_ ⟨by decide,by decide,by decide,by decide⟩ ⟨qFB _,qFB _,qFB _,qFB _⟩ ?_) ?_
 ·simp only[qFA,push_cast,reduceIte,zA,zB,zC,zD,zE,zF,zG,reduceCtorEq,zH,zJ,cNI]
  rw[qE2,bitA,show(fun x=>qBU [] (cfgV c) x)=fun _=>[]from rfl,qFx,qFz]
 ·simp only[qFA,push_cast,reduceIte,zA,zB,zC,zD,zE,zF,zG,reduceCtorEq,zH,zJ,cNI]
  rw[bitB,show(fun x=>qBU [] (cfgV c) x)=fun _=>[]from rfl,qFx,qFy]
  rfl
 ·have hc:=hn.c
  have hk:=hn.k
  obtain⟨⟨l1,l2,l3,l4⟩,_⟩:=(qDp g c).1 h0
  refine⟨?_,?_,?_,?_⟩<;>simp[qCS,rows,l1,l2,l3,l4,cN,hk]
 ·intro pre f hpf t ht h4 hft
  have hm:midL 0 125 ([(6,.bv 24 1 (wN g+1)),(7,.ptr 7 0),(8,.ptr 8 0),(34,.clo 82 [103,102,105])]++t)=[(6,.bv 24 1 (wN g+1)),(7,.ptr 7 0),(8,.ptr 8 0),(34,.clo 82 [103,102,105])]:=by
   simp only[List.cons_append,List.nil_append,qtU]
   rw[qCQ fun x hx=>by have:=h4 x hx;omega]
   rfl
  have hs:qtX 1000 ([(6,.bv 24 1 (wN g+1)),(7,.ptr 7 0),(8,.ptr 8 0),(34,.clo 82 [103,102,105])]++t)=true:=by simpa[qtX]using ht
  refine qCC rfl rfl hs ?_
  rw[hm]
  have hS: ∀j,1000<=j->farL j ([(6,.bv 24 1 (wN g+1)),(7,.ptr 7 0),(8,.ptr 8 0),(34,.clo 82 [103,102,105])]++t):=by
   intro j hj
   have n1: ∀i,i<1000->(i==j)=false:=fun i hi=>beq_false_of_ne oM
   simp only[qCX,n1 7 (by decide),n1 8 (by decide),n1 24 (by decide),n1 103 (by decide),n1 102 (by decide),n1 105 (by decide),hft j hj,push_cast,reduceIte,zA,zB,zC,zD,zE,zF,zG,reduceCtorEq,zH,zJ,cNI]
  have hg6:getL ([(6,.bv 24 1 (wN g+1)),(7,.ptr 7 0),(8,.ptr 8 0),(34,.clo 82 [103,102,105])]++t) 6= .bv 24 1 (wN g+1):=rfl
  have hg7:getL ([(6,.bv 24 1 (wN g+1)),(7,.ptr 7 0),(8,.ptr 8 0),(34,.clo 82 [103,102,105])]++t) 7= .ptr 7 0:=rfl
  have hg8:getL ([(6,.bv 24 1 (wN g+1)),(7,.ptr 7 0),(8,.ptr 8 0),(34,.clo 82 [103,102,105])]++t) 8= .ptr 8 0:=rfl
  have hg34:getL ([(6,.bv 24 1 (wN g+1)),(7,.ptr 7 0),(8,.ptr 8 0),(34,.clo 82 [103,102,105])]++t) 34= .clo 82 [103,102,105]:=rfl
  clear hm ht h4
  generalize [(6,PV.bv 24 1 (wN g+1)),(7,.ptr 7 0),(8,.ptr 8 0),(34,.clo 82 [103,102,105])]++t=S at hs hS hg6 hg7 hg8 hg34 ⊢
  unfold qua
  have hfi:=qD5 hg (hpf.subset (List.mem_append_right _ zX))
  have hfx:=hfi.x
  have hbd:=qDX hg hpf f.x
  rw[qBZ]at hbd
  simp only[qBV,if_true]at hbd
  have hv1:=qDr hg h0 hfi
  have hv2:=qG9 hg h0 hfi
  have hfn:=qGa hfi
  obtain⟨l,hl,hil,hlv⟩:=qGr h0 hg hfi
  obtain⟨p1,p2⟩:=qCU (a:=[]) (v:= .sl false 1 (ints l)) rfl f.i
  obtain⟨p3,-⟩:=(qFB l).2 f.i 1010 (by decide)
  have hfl:=qBW (cfgV c) f.x pre
  simp only[qCx hs,qCw hs,hg6,hg7,hg8,hg34,qCy hs,qCz hs,qCA hs,qD1,qCY (hS 1010 (by decide)),hl,p1,p2,p3,qGq,qGm,qGn,qGo,push_cast,reduceIte,zA,zB,zC,zD,zE,zF,zG,reduceCtorEq,zH,zJ,cNI]
  simp only[qGp]
  refine qG1 g hg c hs hS (fun x=>qBU pre (cfgV c) x) f.x f.n f.i l hil hfx (qDQ g pre) (qDY g pre) (by rw[qDZ hfx,hfl]) oM hfn (cfgV c f.kind f.i) hlv hv2 [(1036,.agg [qCR (.sl false 1 (ints l)) f.i,.int f.n])] sC _ fun A hA=> ?_
  simp only[qCx hs,qCw hs,qCy hs,qCz hs,qCA hs,push_cast,reduceIte,zA,zB,zC,zD,zE,zF,zG,reduceCtorEq,zH,zJ,cNI]
  refine⟨_,qG0 g c (fun x=>qBU pre (cfgV c) x) f.x hfx (hS _ oM) (hS 1055 (by decide)) _ l f.i f.n _ A hA,hs,?_⟩
  have e1:updD (fun x=>qBU pre (cfgV c) x) f.x (qBU pre (cfgV c) f.x++qBu (cfgV c f.kind f.i) f.n)=fun x=>qBU (pre++[f]) (cfgV c) x:=by
   funext y
   unfold updD
   rw[qBX,qBY,show qBU [] (cfgV c) y=[]from rfl,List.append_nil]
   by_cases e:y=f.x
   ·rw[if_pos e,if_pos e.symm,e]
   ·rw[if_neg e,if_neg (fun h=>e h.symm),List.append_nil]
  rw[e1,hfl,qE0]
 ·rintro _ _ rfl
  have hw1:wN g+1<=1000:=by omega
  have hkc:anyT (isId 999) nul (qB0 2000 (rsD (wN g+1) fun x=>qBU (qCn g) (cfgV c) x))=false:=by
   rw[<- qhK];exact qB5 _ _ _ _ fun _ _=>rfl
  simp only[bitB,bitA,hkc,qFA,push_cast,reduceIte,zA,zB,zC,zD,zE,zF,zG,reduceCtorEq,zH,zJ,cNI]
  refine qGl (wN g+1) hw1 (fun x=>qBH (qBU (qCn g) (cfgV c) x)) (fun x=> ?_) (fun x w hw=>qBK hw) _ _ ?_ ?_
  ·have hb:=qDX hg List.prefix_rfl x
   rw[qBJ,qBW]
   simp only[nW];omega
  ·have hrf:=qBe 1 59 (fun x=>x.1 !=28) 2000 (rsD (wN g+1) fun x=>qBU (qCn g) (cfgV c) x) fun y r _=>bne_iff_ne.2 (show 2000+y≠28 by omega)
   refine SWk.trans (SWk.dropS (fun i=>i==6||i==8) (fun i=>i==8||i==24||i==32) (fun i=>i !=28)) ?_
   have ha:((28,⟨1,3,ints (qDQ g (qCn g))⟩)::qB1 1 59 2000 (rsD (wN g+1) fun x=>qBU (qCn g) (cfgV c) x)).filter (fun x:Nat×Arr=>x.1 !=28)=qB1 1 59 2000 (rsD (wN g+1) fun x=>qBU (qCn g) (cfgV c) x):=(List.filter_cons_of_neg zQ).trans hrf
   rw[ha]
   have hz:=SWk.frzRows (s:=[(6,PV.bv 24 1 (wN g+1)),(8,.ptr 8 0)]) (b1:=[(8,[.bv 32 1 (wN g+1)]),(24,List.replicate (wN g+1) .nil)]) (b2:=[]) (id:=32) (k:=2000) (ty:=59) [] (rsD (wN g+1) fun x=>qBU (qCn g) (cfgV c) x)
    (fun j hj=>by simp only[beq_false_of_ne (show 24≠j by omega),beq_false_of_ne (show 8≠j by omega),push_cast,reduceIte,zA,zB,zC,zD,zE,zF,zG,reduceCtorEq,zH,zJ,cNI]) (fun j hj=>by simp only[qFA,qiq,qip,push_cast,reduceIte,zA,zB,zC,zD,zE,zF,zG,reduceCtorEq,zH,zJ,cNI]) (fun j hj=>rfl)
   have e1:List.replicate (wN g+1) PV.nil=outC encW (wN g+1) (fun x=>qBH (qBU (qCn g) (cfgV c) x)) 0:=by
    symm
    rw[List.eq_replicate_iff]
    refine⟨qGb _ _ _,fun b hb=> ?_⟩
    obtain⟨x,_,rfl⟩:=List.mem_map.1 hb
    rfl
   have e2:(rsD (wN g+1) fun x=>qBU (qCn g) (cfgV c) x).map rowP=datC (wN g+1) (fun x=>qBH (qBU (qCn g) (cfgV c) x)):=by
    unfold rsD datC
    rw[List.map_map]
    apply List.map_congr_left
    intro x _
    show rowP (rowO _)=_
    unfold rowO datP
    have:qBH (qBU (qCn g) (cfgV c) x)=[] ↔ qBU (qCn g) (cfgV c) x=[]:=by
     rw[<- List.length_eq_zero_iff,<- List.length_eq_zero_iff,qBJ];simp only[nW];omega
    by_cases h:qBU (qCn g) (cfgV c) x=[]
    ·rw[if_pos h,if_pos (this.2 h)];rfl
    ·rw[if_neg h,if_neg fun e=>h (this.1 e)];rfl
   rw[List.nil_append,e2]at hz
   rw[<- e1]
   exact hz
  ·refine sB ?_
   refine⟨fun x hx d hd=> ?_,?_⟩
   ·obtain⟨e,he,rfl⟩:=List.mem_map.1 hx
    obtain⟨y,_,rfl⟩:=List.mem_map.1 he
    obtain rfl:d=_:=by simpa using hd
    split
    ·unfold outP
     split
     ·exact .nil
     ·exact .sl _ _ _ rfl fun x hx c hc => by
       obtain⟨z,_,rfl⟩:=List.mem_map.1 hx
       obtain rfl:c=_:=by simpa[u64C]using hc
       exact .sc _
    ·exact .nil
   ·unfold outC qDu rows
    rw[List.map_map,List.map_map]
    refine qG3 _ _ (fun h=>h) (fun _ _=>rfl) fun x hx=> ?_
    have hx:=List.mem_range.1 hx
    show SubL [_] [_]
    simp only[if_pos hx,rowB,qC8]
    refine⟨?_,trivial⟩
    unfold outP
    split
    ·next h=>
     have h:qBH (qBU (qCn g) (cfgV c) x)=[]:=h
     rw[h];exact .nil _ _
    ·exact .refl _
end Go.Proofs.YtecoaapkcnhlhaaGreatDoor
namespace Go.Proofs.YtecoaapkcnhlhaaGreatDoor
open Go Go.Vc Txt Go.Ham
theorem qGt(a b:List Nat)(ha:a.length<=1000000)(hb:b.length<=1000000):FnEq Tryz.prog 55 [.sl false 1 (rows u64C (nats a)),.sl false 1 (rows u64C (nats b))] (.bool (decide (a=b))):=by
 refine FnEq.of_awp Tryz.func55 ok55 (by show 2<=_;decide) (by simp only[push_cast,reduceIte,zA,zB,zC,zD,zE,zF,zG,reduceCtorEq,zH,zJ,cNI]<;>first|exact fun _ _=>trivial|simp) ?_
 simp only[ac55,rv55,push_cast,reduceIte,zA,zB,zC,zD,zE,zF,zG,reduceCtorEq,zH,zJ,cNI]
 simp only[qF0]
 refine qnY (fun h=> ?_) fun h=> ?_
 ·rw[decide_eq_false];intro e;exact h (by rw[e])
 have hab:a.length=b.length:=by omega
 refine qoP (fun m st=> ∃k:Nat,k<=a.length/\m=a.length-k/\a.take k=b.take k/\st=⟨[(0,.sl false 1 (rows u64C (nats a))),(1,.sl false 1 (rows u64C (nats b))),(5,.int k)],[],[],[]⟩) a.length ?_ ?_
 ·refine⟨0,oM,oM,by simp,?_⟩
  simp only[push_cast,reduceIte,zA,zB,zC,zD,zE,zF,zG,reduceCtorEq,zH,zJ,cNI]
  try rfl
 ·rintro m st ⟨k,hk,rfl,h1,rfl⟩
  simp only[qF0,qEZ,push_cast,reduceIte,zA,zB,zC,zD,zE,zF,zG,reduceCtorEq,zH,zJ,cNI]
  refine qnY (fun h2=> ?_) fun h2=> ?_
  ·have ka:k<a.length:=by omega
   have kb:k<b.length:=by omega
   have ga:a.getD k default=a[k]:=by simp[ka]
   have gb:b.getD k default=b[k]:=by simp[kb]
   rw[ga,gb]
   refine⟨⟨oM,oM⟩,ka,⟨oM,oM⟩,kb,qnY (fun h3=> ?_) fun h3=> ?_⟩
   ·rw[decide_eq_false];intro e;subst e;exact h3 rfl
   ·refine⟨⟨oM,oM⟩,_,?_,k+1,oM,rfl,?_,?_⟩
    ·omega
    ·rw[zZ ka,zZ kb,h1,show a[k]=b[k]by omega]
    ·try simp
     try rfl
  ·rw[zY oM,zY oM]at h1
   rw[decide_eq_true h1]
theorem qGu(a b:List Nat)(ha:a.length<=1000000)(hb:b.length<=1000000):FnEq Tryz.prog 54 [.sl false 1 (rows u64C (nats a)),.sl false 1 (rows u64C (nats b))] (.bool (decide (a=b))):=by
 refine FnEq.of_awp Tryz.func54 ok54 (by show 2<=_;decide) (by simp only[push_cast,reduceIte,zA,zB,zC,zD,zE,zF,zG,reduceCtorEq,zH,zJ,cNI]<;>first|exact fun _ _=>trivial|simp) ?_
 simp only[ac54,rv54,push_cast,reduceIte,zA,zB,zC,zD,zE,zF,zG,reduceCtorEq,zH,zJ,cNI]
 simp only[qF0]
 refine qnY (fun h=> ?_) fun h=> ?_
 ·rw[decide_eq_false];intro e;exact h (by rw[e])
 have hab:a.length=b.length:=by omega
 refine qoP (fun m st=> ∃k:Nat,k<=a.length/\m=a.length-k/\a.take k=b.take k/\st=⟨[(0,.sl false 1 (rows u64C (nats a))),(1,.sl false 1 (rows u64C (nats b))),(12,.int a.length),(13,.int k)],[],[],[]⟩) a.length ?_ ?_
 ·refine⟨0,oM,oM,by simp,?_⟩
  simp only[push_cast,reduceIte,zA,zB,zC,zD,zE,zF,zG,reduceCtorEq,zH,zJ,cNI]
  try rfl
 ·rintro m st ⟨k,hk,rfl,h1,rfl⟩
  simp only[qF0,qEZ,push_cast,reduceIte,zA,zB,zC,zD,zE,zF,zG,reduceCtorEq,zH,zJ,cNI]
  refine qnY (fun h2=> ?_) fun h2=> ?_
  ·have ka:k<a.length:=by omega
   have kb:k<b.length:=by omega
   have ga:a.getD k default=a[k]:=by simp[ka]
   have gb:b.getD k default=b[k]:=by simp[kb]
   rw[ga,gb]
   refine⟨⟨oM,oM⟩,ka,⟨oM,oM⟩,kb,qnY (fun h3=> ?_) fun h3=> ?_⟩
   ·rw[decide_eq_false];intro e;subst e;exact h3 rfl
   ·refine⟨⟨oM,oM⟩,_,?_,k+1,oM,rfl,?_,?_⟩
    ·omega
    ·rw[zZ ka,zZ kb,h1,show a[k]=b[k]by omega]
    ·try simp
     try rfl
  ·rw[zY oM,zY oM]at h1
   rw[decide_eq_true h1]
theorem qGv(a b:List Int)(ha:(a.length:Int)<=1000000)(hb:(b.length:Int)<=1000000):FnEq Tryz.prog 12 [.sl false 1 (ints a),.sl false 1 (ints b)] (.bool (decide (a=b))):=by
 refine FnEq.of_awp Tryz.func12 ok12 (by show 2<=_;decide) (by simp only[push_cast,reduceIte,zA,zB,zC,zD,zE,zF,zG,reduceCtorEq,zH,zJ,cNI]<;>first|exact fun _ _=>trivial|simp) ?_
 simp only[ac12,rv12,push_cast,reduceIte,zA,zB,zC,zD,zE,zF,zG,reduceCtorEq,zH,zJ,cNI]
 refine qnY (fun h=> ?_) fun h=> ?_
 ·rw[decide_eq_false];intro e;exact h (by rw[e])
 have hab:a.length=b.length:=by omega
 refine qoP (fun m st=> ∃k:Nat,k<=a.length/\m=a.length-k/\a.take k=b.take k/\st=⟨[(0,.sl false 1 (ints a)),(1,.sl false 1 (ints b)),(5,.int k)],[],[],[]⟩) a.length ?_ ?_
 ·refine⟨0,oM,oM,by simp,?_⟩
  exact sC
 ·rintro m st ⟨k,hk,rfl,h1,rfl⟩
  refine sB ?_
  refine qnY (fun h2=> ?_) fun h2=> ?_
  ·have ka:k<a.length:=by omega
   have kb:k<b.length:=by omega
   have ga:a.getD k default=a[k]:=by simp[ka]
   have gb:b.getD k default=b[k]:=by simp[kb]
   rw[ga,gb]
   refine⟨⟨oM,oM⟩,ka,⟨oM,oM⟩,kb,qnY (fun h3=> ?_) fun h3=> ?_⟩
   ·rw[decide_eq_false];intro e;subst e;exact h3 rfl
   ·refine⟨⟨oM,oM⟩,_,?_,k+1,oM,rfl,?_,?_⟩
    ·omega
    ·rw[zZ ka,zZ kb,h1,Classical.not_not.1 h3]
    ·simp
  ·rw[zY oM,zY oM]at h1
   rw[decide_eq_true h1]
def difB(a b:List (List Nat))(i:Nat):Bool:=decide (a.length<=i)||decide (b.length<=i)|| !decide (a.getD i default=b.getD i default)
def difN(a b:List (List Nat))(k:Nat):List Int:=((List.range k).filter (difB a b)).map fun i:Nat=>(i:Int)
def qGw(a b:List (List Nat)):List Int:=difN a b (max a.length b.length)
theorem qGx(a b:List (List Nat))(k:Nat):difN a b (k+1)=if difB a b k then difN a b k++[(k:Int)]else difN a b k:=by
 unfold difN
 rw[List.range_succ,List.filter_append,yH]
 cases h:difB a b k<;>simp[h]
theorem qGy(a b:List (List Nat))(k:Nat):(difN a b k).length<=k:=by
 unfold difN;rw[yG];exact Nat.le_trans (List.length_filter_le _ _) (by simp)
theorem qGz{l:List (List Nat)}(h:FrmSm l){k:Nat}(hk:k<l.length):(l.getD k default).length<=1000:=h.len _ (by simp[zK,hk])
theorem qGA(a b:List (List Nat))(ha:FrmSm a)(hb:FrmSm b):FnEq Tryz.prog 28 [.sl false 1 (rows (frmC false) a),.sl false 1 (rows (frmC false) b)] (.sl true 1 (ints (qGw a b))):=by
 have ha1:=ha.n
 have hb1:=hb.n
 refine FnEq.of_awp Tryz.func28 ok28 (by show 2<=_;decide) (by simp only[push_cast,reduceIte,zA,zB,zC,zD,zE,zF,zG,reduceCtorEq,zH,zJ,cNI]<;>first|exact fun _ _=>trivial|simp) ?_
 simp only[ac28,rv28,push_cast,reduceIte,zA,zB,zC,zD,zE,zF,zG,reduceCtorEq,zH,zJ,cNI]
 refine qoP (fun m st=> ∃k:Nat,k<=max a.length b.length/\m=max a.length b.length-k/\st=⟨[(0,.sl false 1 (rows (frmC false) a)),(1,.sl false 1 (rows (frmC false) b)),(5,.view 7 0 (difN a b k).length),(6,.int k)],[],[(7,⟨1,3,ints (difN a b k)⟩)],[]⟩) (max a.length b.length) ?_ ?_
 ·refine⟨0,oM,oM,?_⟩
  refine sB ?_
  rfl
 rintro m st ⟨k,hk,rfl,rfl⟩
 have hdl:=qGy a b k
 refine sB ?_
 refine qrH ⟨[(0,.sl false 1 (rows (frmC false) a)),(1,.sl false 1 (rows (frmC false) b)),(5,.view 7 0 (difN a b k).length),(6,.int k),(17,.bool (decide (k<max a.length b.length)))],[],[(7,⟨1,3,ints (difN a b k)⟩)],[]⟩ ?_ ?_
 ·refine qrA rfl (fun h1=> ?_) fun h1=> ?_<;>simp only[push_cast,reduceIte,zA,zB,zC,zD,zE,zF,zG,reduceCtorEq,zH,zJ,cNI]
  ·rw[decide_eq_true (show k<max a.length b.length by omega)]
  ·rw[decide_eq_decide.2 (show((k:Int)<b.length ↔ k<max a.length b.length)by omega)]
 refine sB ?_
 refine qnY (fun h=> ?_) fun h=> ?_
 ·refine qrI ⟨[(0,.sl false 1 (rows (frmC false) a)),(1,.sl false 1 (rows (frmC false) b)),(5,.view 7 0 (difN a b k).length),(6,.int k),(43,.bool (difB a b k))],[],[(7,⟨1,3,ints (difN a b k)⟩)],[]⟩ ?_ ?_
  ·refine qrE rfl (fun h1=> ?_) fun h1=> ?_<;>simp only[push_cast,reduceIte,zA,zB,zC,zD,zE,zF,zG,reduceCtorEq,zH,zJ,cNI]
   ·rw[show difB a b k=true from by unfold difB;rw[decide_eq_true (show a.length<=k by omega)];rfl]
    try rfl
   ·have ka:k<a.length:=by omega
    refine qrE rfl (fun h2=> ?_) fun h2=> ?_<;>simp only[push_cast,reduceIte,zA,zB,zC,zD,zE,zF,zG,reduceCtorEq,zH,zJ,cNI]
    ·rw[show difB a b k=true from by unfold difB;rw[decide_eq_true (show b.length<=k by omega)];simp]
     try rfl
    ·have kb:k<b.length:=by omega
     have la:=qGz ha ka
     have lb:=qGz hb kb
     have hd:difB a b k= !decide (a.getD k default=b.getD k default):=by
      unfold difB
      rw[decide_eq_false (show ¬a.length<=k by omega),decide_eq_false (show ¬b.length<=k by omega)]
      simp
     rw[hd]
     refine⟨⟨oM,oM⟩,ka,⟨oM,oM⟩,kb,?_⟩
     refine qrv (qGt (a.getD k default) (b.getD k default) oM oM) sC ?_
     simp only[push_cast,reduceIte,zA,zB,zC,zD,zE,zF,zG,reduceCtorEq,zH,zJ,cNI]
     done
  simp only[rep1,List.set_cons_zero,zV,List.length_nil,push_cast,reduceIte,zA,zB,zC,zD,zE,zF,zG,reduceCtorEq,zH,zJ,cNI]
  refine qnX (fun h1=> ?_) fun h1=> ?_
  ·refine⟨⟨oM,oM⟩,⟨oM,oM⟩,max a.length b.length-(k+1),oM,k+1,oM,rfl,?_⟩
   rw[qGx,if_pos h1,zU]
   rfl
  ·refine⟨⟨oM,oM⟩,max a.length b.length-(k+1),oM,k+1,oM,rfl,?_⟩
   rw[qGx,if_neg (by rw[h1];decide)]
   rfl
 ·rw[show k=max a.length b.length by omega]
  exact⟨fun _ _=>trivial,.refl _⟩
end Go.Proofs.YtecoaapkcnhlhaaGreatDoor
namespace Go.Proofs.YtecoaapkcnhlhaaGreatDoor
open Go Go.Vc Txt Go.Ham
theorem qGB(a b:List (List Nat)):qGw a b=[] ↔ a=b:=by
 constructor
 ·intro h
  have key: ∀i,i<max a.length b.length->difB a b i=false:=fun i hi=>by
   cases hd:difB a b i
   ·rfl
   ·exfalso
    have:(i:Int)∈qGw a b:=by
     unfold qGw difN
     rw[List.mem_map]
     exact⟨i,List.mem_filter.2 ⟨List.mem_range.2 hi,hd⟩,rfl⟩
    rw[h]at this;cases this
  have hlen:a.length=b.length:=by
   apply Classical.byContradiction
   intro hn
   have h1:=key (min a.length b.length) oM
   unfold difB at h1
   rw[Bool.or_eq_false_iff,Bool.or_eq_false_iff]at h1
   have h2:=h1.1.1
   have h3:=h1.1.2
   simp at h2 h3
   omega
  apply List.ext_getElem hlen
  intro i h1 h2
  have h3:=key i oM
  unfold difB at h3
  rw[Bool.or_eq_false_iff]at h3
  have h4:=h3.2
  rw[Bool.not_eq_false',decide_eq_true_eq]at h4
  simpa[zK,h1,h2]using h4
 ·rintro rfl
  unfold qGw difN
  have:(List.range (max a.length a.length)).filter (difB a a)=[]:=by
   rw[List.filter_eq_nil_iff]
   intro i hi
   have:=List.mem_range.1 hi
   unfold difB
   rw[decide_eq_false (show ¬a.length<=i by omega)]
   simp
  rw[this];rfl
theorem qGC(a b:List (List Nat))(ha:FrmSm a)(hb:FrmSm b):FnEq Tryz.prog 11 [.sl false 1 (rows (frmC false) a),.sl false 1 (rows (frmC false) b)] (.bool (decide (a=b))):=by
 refine FnEq.of_awp Tryz.func11 ok11 (by show 2<=_;decide) (by simp only[push_cast,reduceIte,zA,zB,zC,zD,zE,zF,zG,reduceCtorEq,zH,zJ,cNI]<;>first|exact fun _ _=>trivial|simp) ?_
 simp only[ac11,rv11,push_cast,reduceIte,zA,zB,zC,zD,zE,zF,zG,reduceCtorEq,zH,zJ,cNI]
 refine qrv (qGA a b ha hb) sC ?_
 refine sB ?_
 have e:decide ((qGw a b).length=(0:Int))=decide (a=b):=decide_eq_decide.2 (by rw[<- qGB];exact⟨fun h=>List.length_eq_zero_iff.1 oM,fun h=>by rw[h];rfl⟩)
 rw[e]
def nlS(id:Nat)(l:List Int):PV:=match l with|[]=> .nil|_::_=> .view id 0 l.length
def nlA(id ty:Nat)(l:List Int):List (Nat×Arr):=match l with|[]=>[]|_::_=>[(id,⟨1,ty,ints l⟩)]
theorem qGD(id:Nat):nlS id []= .nil:=rfl
theorem qGE(id:Nat)(y:Int)(l:List Int):nlS id (y::l)= .view id 0 (l.length+1):=rfl
theorem qGF(id ty:Nat):nlA id ty []=[]:=rfl
theorem qGG(id ty:Nat)(y:Int)(l:List Int):nlA id ty (y::l)=[(id,⟨1,ty,ints (y::l)⟩)]:=rfl
set_option maxHeartbeats 1000000 in
theorem qGH(a b:List (List Nat))(ha:FrmSm a)(hb:FrmSm b):FnEq Tryz.prog 27 [.sl false 1 (rows (frmC false) a),.sl false 1 (rows (frmC false) b)] (.sl true 1 (ints (qGw a b))):=by
 have ha1:=ha.n
 have hb1:=hb.n
 refine FnEq.of_awp Tryz.func27 ok27 (by show 2<=_;decide) (by simp only[push_cast,reduceIte,zA,zB,zC,zD,zE,zF,zG,reduceCtorEq,zH,zJ,cNI]<;>first|exact fun _ _=>trivial|simp) ?_
 simp only[ac27,rv27,push_cast,reduceIte,zA,zB,zC,zD,zE,zF,zG,reduceCtorEq,zH,zJ,cNI]
 refine qoP (fun m st=> ∃k:Nat,k<=max a.length b.length/\m=max a.length b.length-k/\st=⟨[(0,.sl false 1 (rows (frmC false) a)),(1,.sl false 1 (rows (frmC false) b)),(5,nlS 42 (difN a b k)),(11,.int (max (a.length:Int) b.length)),(12,.int k)],[],nlA 42 3 (difN a b k),[]⟩) (max a.length b.length) ?_ ?_
 ·refine⟨0,oM,oM,?_⟩
  refine sB ?_
  rfl
 rintro m st ⟨k,hk,rfl,rfl⟩
 have hdl:=qGy a b k
 have hds:=qGx a b k
 cases hD:difN a b k with
 |nil=>
   rw[hD]at hds hdl
   simp only[qGD,qGF,push_cast,reduceIte,zA,zB,zC,zD,zE,zF,zG,reduceCtorEq,zH,zJ,cNI]
   refine qnY (fun h=> ?_) fun h=> ?_
   ·refine qrI ⟨[(0,.sl false 1 (rows (frmC false) a)),(1,.sl false 1 (rows (frmC false) b)),(5,.nil),(6,.int k),(11,.int (max (a.length:Int) b.length)),(12,.int k),(38,.bool (difB a b k))],[],[],[]⟩ ?_ ?_
    ·refine qrE rfl (fun h1=> ?_) fun h1=> ?_<;>simp only[push_cast,reduceIte,zA,zB,zC,zD,zE,zF,zG,reduceCtorEq,zH,zJ,cNI]
     ·rw[show difB a b k=true from by unfold difB;rw[decide_eq_true (show a.length<=k by omega)];rfl]
      try rfl
     ·have ka:k<a.length:=by omega
      refine qrE rfl (fun h2=> ?_) fun h2=> ?_<;>simp only[push_cast,reduceIte,zA,zB,zC,zD,zE,zF,zG,reduceCtorEq,zH,zJ,cNI]
      ·rw[show difB a b k=true from by unfold difB;rw[decide_eq_true (show b.length<=k by omega)];simp]
       try rfl
      ·have kb:k<b.length:=by omega
       have la:=qGz ha ka
       have lb:=qGz hb kb
       have hd:difB a b k= !decide (a.getD k default=b.getD k default):=by
        unfold difB
        rw[decide_eq_false (show ¬a.length<=k by omega),decide_eq_false (show ¬b.length<=k by omega)]
        simp
       rw[hd]
       refine⟨⟨oM,oM⟩,ka,⟨oM,oM⟩,kb,?_⟩
       refine qrv (qGu (a.getD k default) (b.getD k default) oM oM) sC ?_
       exact sC
    simp only[rep1,List.set_cons_zero,zV,List.length_nil,push_cast,reduceIte,zA,zB,zC,zD,zE,zF,zG,reduceCtorEq,zH,zJ,cNI]
    refine qnX (fun h1=> ?_) fun h1=> ?_
    ·rw[if_pos h1]at hds
     refine⟨⟨oM,oM⟩,max a.length b.length-(k+1),oM,k+1,oM,rfl,?_⟩
     rw[hds]
     rfl
    ·rw[if_neg (by rw[h1];decide)]at hds
     refine⟨⟨oM,oM⟩,max a.length b.length-(k+1),oM,k+1,oM,rfl,?_⟩
     rw[hds]
     rfl
   ·rw[show k=max a.length b.length by omega]at hD
    have hD:qGw a b=[]:=hD
    rw[hD]
 |cons y l=>
   rw[hD]at hds hdl
   rw[zV]at hdl
   simp only[qGE,qGG,push_cast,reduceIte,zA,zB,zC,zD,zE,zF,zG,reduceCtorEq,zH,zJ,cNI]
   refine qnY (fun h=> ?_) fun h=> ?_
   ·refine qrI ⟨[(0,.sl false 1 (rows (frmC false) a)),(1,.sl false 1 (rows (frmC false) b)),(5,.view 42 0 (l.length+1)),(6,.int k),(11,.int (max (a.length:Int) b.length)),(12,.int k),(38,.bool (difB a b k))],[],[(42,⟨1,3,ints (y::l)⟩)],[]⟩ ?_ ?_
    ·refine qrE rfl (fun h1=> ?_) fun h1=> ?_<;>simp only[push_cast,reduceIte,zA,zB,zC,zD,zE,zF,zG,reduceCtorEq,zH,zJ,cNI]
     ·rw[show difB a b k=true from by unfold difB;rw[decide_eq_true (show a.length<=k by omega)];rfl]
      try rfl
     ·have ka:k<a.length:=by omega
      refine qrE rfl (fun h2=> ?_) fun h2=> ?_<;>simp only[push_cast,reduceIte,zA,zB,zC,zD,zE,zF,zG,reduceCtorEq,zH,zJ,cNI]
      ·rw[show difB a b k=true from by unfold difB;rw[decide_eq_true (show b.length<=k by omega)];simp]
       try rfl
      ·have kb:k<b.length:=by omega
       have la:=qGz ha ka
       have lb:=qGz hb kb
       have hd:difB a b k= !decide (a.getD k default=b.getD k default):=by
        unfold difB
        rw[decide_eq_false (show ¬a.length<=k by omega),decide_eq_false (show ¬b.length<=k by omega)]
        simp
       rw[hd]
       refine⟨⟨oM,oM⟩,ka,⟨oM,oM⟩,kb,?_⟩
       refine qrv (qGu (a.getD k default) (b.getD k default) oM oM) sC ?_
       exact sC
    simp only[rep1,List.set_cons_zero,zV,List.length_nil,push_cast,reduceIte,zA,zB,zC,zD,zE,zF,zG,reduceCtorEq,zH,zJ,cNI]
    refine qnX (fun h1=> ?_) fun h1=> ?_
    ·rw[if_pos h1]at hds
     refine⟨⟨oM,oM⟩,⟨oM,oM⟩,max a.length b.length-(k+1),oM,k+1,oM,rfl,?_⟩
     rw[hds]
     rw[List.cons_append]
     simp only[nlS,nlA,zV,zU,List.length_nil]
     rfl
    ·rw[if_neg (by rw[h1];decide)]at hds
     refine⟨⟨oM,oM⟩,max a.length b.length-(k+1),oM,k+1,oM,rfl,?_⟩
     rw[hds]
     rfl
   ·rw[show k=max a.length b.length by omega]at hD
    have hD:qGw a b=y::l:=hD
    rw[hD]
    rw[zY (by simp)]
    exact⟨fun _ _=>trivial,.refl _⟩
end Go.Proofs.YtecoaapkcnhlhaaGreatDoor
namespace Go.Proofs.YtecoaapkcnhlhaaGreatDoor
open Go Go.Vc Txt Go.Ham
def spC(x:Nat×Nat):List PV:=[.int (x.1:Nat),.int (x.2:Nat)]
@[push_cast] theorem qGI(x:Nat×Nat):spC x=[.int (x.1:Nat),.int (x.2:Nat)]:=rfl
def qGJ(l:List (List Nat))(i:Nat):List (Nat×Nat):=(List.range (l.getD i default).length).map fun k=>(i,k)
def qGK(l:List (List Nat))(k:Nat):List (Nat×Nat):=(List.range k).flatMap (qGJ l)
def qGL(l:List (List Nat)):List (Nat×Nat):=qGK l l.length
theorem qGM(l:List (List Nat))(k:Nat):qGK l (k+1)=qGK l k++qGJ l k:=by simp[qGK,List.range_succ]
theorem qGN{l:List (List Nat)}(h:FrmSm l): ∀k,k<=l.length->(qGK l k).length<=1000*k
 |0,_=>by simp[qGK]
 | k + 1, hk => by
   have:=qGN h k oM
   have h2:=qGz h (show k<l.length by omega)
   rw[qGM,zU,show(qGJ l k).length=(l.getD k default).length from by simp[qGJ]]
   omega
theorem qGO(l:List (List Nat))(hl:FrmSm l):FnEq Tryz.prog 43 [.sl false 1 (rows (frmC false) l)] (.sl true 2 (rows spC (qGL l))):=by
 have h1:=hl.n
 refine FnEq.of_awp Tryz.func43 ok43 (by show 1<=_;decide) (by simp only[push_cast,reduceIte,zA,zB,zC,zD,zE,zF,zG,reduceCtorEq,zH,zJ,cNI]<;>first|exact fun _ _=>trivial|simp) ?_
 simp only[ac43,rv43,push_cast,reduceIte,zA,zB,zC,zD,zE,zF,zG,reduceCtorEq,zH,zJ,cNI]
 refine qoP (fun m st=> ∃k:Nat,k<=l.length/\m=l.length-k/\st=⟨[(0,.sl false 1 (rows (frmC false) l)),(3,.view 6 0 (qGK l k).length),(4,.int k)],[],[(6,⟨2,86,rows spC (qGK l k)⟩)],[]⟩) l.length ⟨0,oM,oM,?_⟩ ?_
 ·refine sB ?_
  rfl
 rintro m st ⟨k,hk,rfl,rfl⟩
 have hs:=qGN hl k hk
 refine sB ?_
 refine qnY (fun h=> ?_) fun h=> ?_
 ·have hw:=qGz hl (show k<l.length by omega)
  have hN:=qGM l k
  refine qoP (fun m st=> ∃j:Nat,j<=(l.getD k default).length/\m=(l.getD k default).length-j/\st=⟨[(0,.sl false 1 (rows (frmC false) l)),(3,.view 6 0 (qGK l k++(List.range j).map fun j=>(k,j)).length),(4,.int k),(5,.int j)],[],[(6,⟨2,86,rows spC (qGK l k++(List.range j).map fun j=>(k,j))⟩)],[]⟩) (l.getD k default).length ⟨0,oM,oM,?_⟩ ?_
  ·simp only[List.range_zero,List.map_nil,List.append_nil,push_cast,reduceIte,zA,zB,zC,zD,zE,zF,zG,reduceCtorEq,zH,zJ,cNI]
   try rfl
  rintro m st ⟨j,hj,rfl,rfl⟩
  have hjl:(qGK l k++(List.range j).map fun j=>(k,j)).length=(qGK l k).length+j:=by simp
  simp only[rep1,List.set_cons_zero,zV,List.length_nil,qF0,hjl,push_cast,reduceIte,zA,zB,zC,zD,zE,zF,zG,reduceCtorEq,zH,zJ,cNI]
  refine⟨⟨oM,oM⟩,oM,?_⟩
  refine qnY (fun h2=> ?_) fun h2=> ?_
  ·refine⟨⟨oM,oM⟩,⟨oM,oM⟩,(l.getD k default).length-(j+1),oM,j+1,oM,rfl,?_⟩
   rw[List.range_succ,yH,zW,List.map_nil,<- List.append_assoc,zU,hjl]
   simp[rows,spC]
  ·have:j=(l.getD k default).length:=by omega
   refine⟨⟨oM,oM⟩,l.length-(k+1),oM,k+1,oM,rfl,?_⟩
   rw[hN,zU,show(qGJ l k).length=(l.getD k default).length from by simp[qGJ],this]
   rfl
 ·rw[show k=l.length by omega]
  exact⟨fun _ _=>trivial,.refl _⟩
def qGQ(l:List (List Nat)):List Int:=l.map fun ws=>(ws.length:Int)
theorem qGR(f:List Nat)(hf:f.length<=1000)(n:Int):FnEq Tryz.prog 68 [.agg (frmC false f),.int n] (.bool (decide ((f.length:Int)=n))):=by
 refine FnEq.of_awp Tryz.func68 ok68 (by show 2<=_;decide) (by simp only[push_cast,reduceIte,zA,zB,zC,zD,zE,zF,zG,reduceCtorEq,zH,zJ,cNI]<;>first|exact fun _ _=>trivial|simp) ?_
 simp only[ac68,rv68,push_cast,reduceIte,zA,zB,zC,zD,zE,zF,zG,reduceCtorEq,zH,zJ,cNI]
 simp only[qF0]
theorem qGS(l:List (List Nat)){k:Nat}(h:k<l.length):(qGQ l).getD k default=((l.getD k default).length:Int):=by
 simp[qGQ,zK,h]
theorem qGT(l:List (List Nat))(hl:FrmSm l)(n:List Int)(hn:n.length<=1000000):FnEq Tryz.prog 67 [.sl false 1 (rows (frmC false) l),.sl false 1 (ints n),.sc (.func (.func 68) #[] #[])] (.bool (decide (qGQ l=n))):=by
 have h1:=hl.n
 have hll:(qGQ l).length=l.length:=by simp[qGQ]
 refine FnEq.of_awp Tryz.func67 ok67 (by show 3<=_;decide) (by simp only[push_cast,reduceIte,zA,zB,zC,zD,zE,zF,zG,reduceCtorEq,zH,zJ,cNI]<;>first|exact fun _ _=>trivial|simp) ?_
 simp only[ac67,rv67,push_cast,reduceIte,zA,zB,zC,zD,zE,zF,zG,reduceCtorEq,zH,zJ,cNI]
 refine qnY (fun h=> ?_) fun h=> ?_
 ·rw[decide_eq_false];intro e;apply h;rw[<- e,hll]
 refine qoP (fun m st=> ∃k:Nat,k<=l.length/\m=l.length-k/\(qGQ l).take k=n.take k/\st=⟨[(1,.sl false 1 (ints n)),(2,.sc (.func (.func 68) #[] #[])),(15,.sl false 1 (rows (frmC false) l)),(16,.int l.length),(17,.int k)],[],[],[]⟩) l.length ⟨0,oM,oM,by simp,?_⟩ ?_
 ·simp only[push_cast,reduceIte,zA,zB,zC,zD,zE,zF,zG,reduceCtorEq,zH,zJ,cNI]
  try rfl
 rintro m st ⟨k,hk,rfl,hT,rfl⟩
 refine sB ?_
 refine qnY (fun h2=> ?_) fun h2=> ?_
 ·have hw:=qGz hl (show k<l.length by omega)
  refine⟨⟨oM,oM⟩,oM,⟨oM,oM⟩,oM,?_⟩
  refine qsP (FnM.of_ok (by kernel_rfl) (show FnOK _ _ _ _ from qGR (l.getD k default) oM (n.getD k default)) fun r hr=>⟨hr,rfl⟩) ?_
  refine sB ?_
  have hk1:k<(qGQ l).length:=by omega
  have hk2:k<n.length:=by omega
  have hg1:(qGQ l)[k]=((l.getD k default).length:Int):=by
   rw[<- qGS l oM];simp[zK,hk1]
  have hg2:n.getD k default=n[k]:=by simp[zK,hk2]
  refine qnX (fun h3=> ?_) fun h3=> ?_
  ·have h4: ¬((l.getD k default).length:Int)=n.getD k default:=by simpa using h3
   rw[decide_eq_false]
   intro e
   apply h4
   rw[hg2,<- hg1]
   simp[e]
  ·have h4:((l.getD k default).length:Int)=n.getD k default:=by simpa using h3
   refine⟨⟨oM,oM⟩,l.length-(k+1),oM,k+1,oM,rfl,?_,?_⟩
   ·rw[zZ hk1,zZ hk2,hT,hg1,h4,hg2]
   ·exact sC
 ·rw[zY oM,zY oM]at hT
  rw[decide_eq_true hT]
end Go.Proofs.YtecoaapkcnhlhaaGreatDoor
namespace Go.Proofs.YtecoaapkcnhlhaaGreatDoor.Txt
open Go Go.Vc
set_option maxRecDepth 100000
def ac73_2500:AC:=
 (.seq (.reg [2500,37,2500] [
 aO 2502 (.mv (.c (.nil)))])
 (.seq (.reg [2500,37,2500] [
 mT 2505 2500,nT 2506 2505,aO 2507 (.xo (.mkx 24 (.nil)) [(.t 2506)]),mT 2503 2507])
 (.seq (.seq (.reg [2500,37,2500,2503] [
 mT 2508 2500,nT 2509 2508,mK 2510 0])
 (.block 0
 (.lps [2500,37,2500,2503,2509,2510]
 (.seq (.reg [2500,37,2500,2503,2509,2510] [
 lS 2511 2510 2509])
 (.seq (.cond (.t 2511)
 .skip
 (.exit 0))
 (.seq (.block 1
 (.seq (.reg [2500,37,2500,2503,2509,2510] [
 mT 2512 2510,mT 2504 2512])
 (.seq (.reg [2500,37,2500,2503,2504,2509,2510] [
 mT 2513 2503,mT 2514 2504,mT 2515 2500,mT 2516 2504,iX 2517 1 2515 2516,fA 2518 0 2517,lF 2519 1 2518,nT 2520 2519,aO 2521 (.mks 1 59 8 [.sc (.int .u64 0)] (.t 2520) (.t 2520)),iX 2522 1 2513 2514,fA 2523 0 2522,sT 1 2523 2521])
 (.drw [2500,37,2500,2503,2504,2509,2510] [
 eM 2524 2503,eM 2525 2504,eI 2526 1 2524 2525,eA 2527 0 2526,eL 2528 1 2527,eM 2529 2500,eM 2530 2504,eI 2531 1 2529 2530,eA 2532 0 2531,eL 2533 1 2532,eF 2534 (.cpy 1 (.t 2528) (.t 2533))]))))
 (.reg [2500,37,2500,2503,2509,2510] [
 uF 2535 2510 1,mT 2510 2535])))))))
 (.seq (.reg [2500,37,2503] [
 mT 2536 2503,mT 2502 2536])
 .ret))))
def rv73_2500:List RV:=[.tmp 2502]
theorem ok73_2500:qh6 Tryz.prog 2500 ac73_2500 rv73_2500 Tryz.f73=true:=by kernel_rfl

def ac47_r9:AC:=
 (.seq (.seq (.reg [0,52,5,6,7,8,9,10,16,17] [
 mT 20 5,mT 21 9,iX 22 1 20 21,fA 23 0 22,lF 24 1 23,nT 25 24,mK 26 0])
 (.block 2
 (.lps [0,52,5,6,7,8,9,10,16,17,25,26]
 (.seq (.reg [0,52,5,6,7,8,9,10,16,17,25,26] [
 lS 27 26 25])
 (.seq (.cond (.t 27)
 .skip
 (.exit 2))
 (.seq (.block 3
 (.seq (.reg [0,52,5,6,7,8,9,10,16,17,25,26] [
 mT 28 26,mT 11 28])
 (.reg [0,52,5,6,7,8,9,10,11,16,17,25,26] [
 mT 29 8,mT 30 5,mT 31 9,iX 32 1 30 31,fA 33 0 32,lF 34 1 33,mT 35 11,iX 36 1 34 35,aO 37 (.clv (.t 29) [(.t 36)]),mT 38 37,uB 39 38 (.mv (.t 10)),aO 40 (pF 38 39),mT 10 40])))
 (.reg [0,52,5,6,7,8,9,10,16,17,25,26] [
 uF 41 26 1,mT 26 41])))))))
 (.seq (.reg [0,52,5,6,7,8,9,10,16,17] [
 mT 42 10,aO 43 (.not (.t 42))])
 (.cond (.t 43)
 (.reg [0,52,5,6,7,8,9,16,17] [
 mT 44 7,mT 45 9,aO 46 (.bsl 1 3 [zI] 1 [(0,(.t 45))]),aO 47 (.app 1 3 8 (.t 44) (.t 46)),mT 7 47])
 .skip)))
def ac47_r5:AC:=
 (.seq (.seq (.reg [0,52,5,6,7,8] [
 mT 15 5,nT 16 15,mK 17 0])
 (.block 0
 (.lps [0,52,5,6,7,8,16,17]
 (.seq (.reg [0,52,5,6,7,8,16,17] [
 lS 18 17 16])
 (.seq (.cond (.t 18)
 .skip
 (.exit 0))
 (.seq (.block 1
 (.seq (.reg [0,52,5,6,7,8,16,17] [
 mT 19 17,mT 9 19])
 (.seq (.reg [0,52,5,6,7,8,9,16,17] [
 aO 10 (.mv bT)])
 ac47_r9)))
 (.reg [0,52,5,6,7,8,16,17] [
 uF 48 17 1,mT 17 48])))))))
 (.seq (.wk (.drw [0,52,5,6,7] [
 eM 49 5,eL 50 1 6,eM 51 7,eM 2 49,eM 3 50,eF 4 (.mv (.t 51))]))
 .ret))
def ac47:AC:=
 (.seq (.reg [0,52,0] [
 aO 2 (.mv (.c (.nil))),mK 3 0,aO 4 (.mv (.c (.nil)))])
 (.seq (.reg [0,52,0] [
 mT 12 0,aO 13 (.clm 73 [(.t 12)]),mT 5 13])
 (.seq (.reg [0,52,5] [
 aO 6 (.alc [zI]),aN (.sto 1 (.t 6) (kI 0))])
 (.seq (.reg [0,52,5,6] [
 aO 7 (.mv (.c (.nil)))])
 (.seq (.reg [0,52,5,6,7] [
 aO 14 (.mkf 74 [(.t 6)]),mT 8 14])
 ac47_r5)))))
def rv47:List RV:=[.tmp 2,.tmp 3,.tmp 4]
theorem ok47:fnOk Tryz.prog ac47 rv47 Tryz.f47=true:=by kernel_rfl

def ac74_1000:AC:=
 (.seq (.reg [1000,27,1000,1001] [
 aO 1003 (.mv bF)])
 (.seq (.reg [1000,27,1000,1001] [
 mT 1008 1000,aO 1009 (.nck (.t 1008)),lF 1010 1 1009,aO 1011 (.cal 69 [(.t 1010)]),mT 1007 1011,aO 1012 (.ext (.t 1007) 0),aO 1013 (.ext (.t 1007) 1),aO 1014 (.ext (.t 1007) 2),mT 1004 1012,mT 1005 1013,mT 1006 1014])
 (.seq (.seq (.reg [1000,27,1000,1001,1004,1005,1006] [
 mT 1015 1006,aO 1016 (.cmp .neq .i64 (.t 1015) (kI 0))])
 (.cond (.t 1016)
 (.seq (.reg [1000,27] [
 aO 1003 (.mv bF)])
 .ret)
 .skip))
 (.seq (.reg [1000,27,1000,1001,1004,1005] [
 lF 1017 1 1001,mT 1018 1005,aO 1019 (.ari .add true .i64 (.t 1017) (.t 1018)),sT 1 1001 1019])
 (.seq (.reg [1000,27,1000,1004] [
 mT 1021 1000,mT 1022 1004,aO 1023 (.cal 59 [(.t 1022)]),mT 1020 1023,aO 1024 (.ext (.t 1020) 0),aO 1025 (.ext (.t 1020) 1),aO 1026 (.nck (.t 1021)),sT 1 1026 1024])
 (.seq (.reg [1000,27] [
 aO 1003 (.mv bT)])
 .ret))))))
def rv74_1000:List RV:=[.tmp 1003]
theorem ok74_1000:qh6 Tryz.prog 1000 ac74_1000 rv74_1000 Tryz.f74=true:=by kernel_rfl

def ac48_r4:AC:=
 (.seq (.drw [0,62,3,6] [
 eM 46 6,eA 47 0 3,eL 48 1 47,eI 49 1 46 48,eA 50 0 49,eL 51 1 50,eA 52 1 3,eL 53 1 52,eI 54 1 51 53,eL 55 1 54,eA 56 2 3,eL 57 1 56,eT 58 (.shf .shl .u64 (.c (.sc (.int .u64 1))) (.t 57)),eF 59 (.bit .xor .u64 (.t 55) (.t 58)),eF 60 (.ixs 1 (.t 51) (.t 53)),⟨sT 1 60 59,[],[],false⟩])
 (.seq (.wk (.reg [0,62,6] [
 mT 61 6,mT 4 61,mK 5 0]))
 .ret))
def ac48_r3:AC:=
 (.seq (.reg [0,62,0,3] [
 mT 44 0,aO 45 (.clm 73 [(.t 44)]),mT 6 45])
 ac48_r4)
def ac48:AC:=
 (.seq (.reg [0,62,0,1] [
 xT 3 1,aO 4 (.mv (.c (.nil))),mK 5 0])
 (.seq (.seq (.drw [0,62,0,3] [
 eF 7 (.fa 0 (.t 3)),eF 8 (.ld false 1 (.t 7)),eF 9 (.cmp .lss .i64 (.t 8) (kI 0)),eF 10 (.mv (.t 9)),uC 11 10 (.fa 0 (.t 3)),uC 12 10 (.ld false 1 (.t 11)),uC 13 10 (.mv (.t 0)),uC 14 10 (.len (.t 13)),⟨uA 15 10 (.cmp .geq .i64 (.t 12) (.t 14)),[],[],false⟩,eF 16 (uG 10 15),eF 17 (.mv (.t 16)),⟨uA 18 17 (.fa 1 (.t 3)),[],[],false⟩,⟨uA 19 17 (.ld false 1 (.t 18)),[],[],false⟩,⟨uA 20 17 (.cmp .lss .i64 (.t 19) (kI 0)),[],[],false⟩,eF 21 (uG 17 20),eF 22 (.mv (.t 21)),uC 23 22 (.fa 1 (.t 3)),uC 24 22 (.ld false 1 (.t 23)),uC 25 22 (.mv (.t 0)),uC 26 22 (.fa 0 (.t 3)),uC 27 22 (.ld false 1 (.t 26)),uC 28 22 (.ixs 1 (.t 25) (.t 27)),uC 29 22 (.fa 0 (.t 28)),uC 30 22 (.ld false 1 (.t 29)),uC 31 22 (.len (.t 30)),⟨uA 32 22 (.cmp .geq .i64 (.t 24) (.t 31)),[],[],false⟩,eF 33 (uG 22 32),eF 34 (.mv (.t 33)),⟨uA 35 34 (.fa 2 (.t 3)),[],[],false⟩,⟨uA 36 34 (.ld false 1 (.t 35)),[],[],false⟩,⟨uA 37 34 (.cmp .lss .i64 (.t 36) (kI 0)),[],[],false⟩,eF 38 (uG 34 37),eF 39 (.mv (.t 38)),⟨uA 40 39 (.fa 2 (.t 3)),[],[],false⟩,⟨uA 41 39 (.ld false 1 (.t 40)),[],[],false⟩,⟨uA 42 39 (.cmp .gtr .i64 (.t 41) (kI 63)),[],[],false⟩,eF 43 (uG 39 42)])
 (.cut [0,62,0,3,43] (.cond (.t 43)
 (.seq (.reg [0,62] [
 aO 4 (.mv (.c (.nil))),mK 5 1])
 .ret)
 .skip)))
 ac48_r3))
def rv48:List RV:=[.tmp 4,.tmp 5]
theorem ok48:fnOk Tryz.prog ac48 rv48 Tryz.f48=true:=by kernel_rfl
end Go.Proofs.YtecoaapkcnhlhaaGreatDoor.Txt
