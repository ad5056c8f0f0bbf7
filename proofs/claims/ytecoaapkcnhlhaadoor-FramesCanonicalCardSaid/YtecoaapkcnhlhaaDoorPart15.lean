/- IC TxtR IU HT IV TxtQ IJa IK IL IW: lemmas -/
import Derived.Test.YtecoaapkcnhlhaaDoorPart14
import Derived.Test.YtecoaapkcnhlhaaDoorPart06
import Derived.Test.YtecoaapkcnhlhaaDoorChecked
import Derived.Test.YtecoaapkcnhlhaaDoorPart12
import Derived.Test.YtecoaapkcnhlhaaDoorPart13
set_option linter.unusedSimpArgs false
set_option linter.unusedVariables false
open Bool renaming and_eq_true->zN
open List renaming getD_eq_getElem?_getD->zK,getElem?_eq_getElem->zL,mem_of_getElem? ->zP,getElem?_map->zS,mem_cons_of_mem->zT,length_append->zU,length_cons->zV,map_cons->zW,mem_cons_self->zX,take_of_length_le->zY,take_succ_eq_append_getElem->zZ,getElem?_append_left->yA,getElem?_append_right->yB,all_eq_true->yE,length_set->yF,length_map->yG,map_append->yH
open Int renaming reduceToNat->zH,reduceNeg->zJ
open Nat renaming reduceEqDiff->zA,reduceAdd->zB,reduceSub->zC,reduceMul->zD,reduceBEq->zE,reduceLT->zF,reduceLeDiff->zG
namespace Go.Proofs.YtecoaapkcnhlhaaDoor
open Go Go.Vc Txt Go.Ham
def spC(x:Nat×Nat):List PV:=[.int (x.1:Nat),.int (x.2:Nat)]
@[push_cast] theorem qGG(x:Nat×Nat):spC x=[.int (x.1:Nat),.int (x.2:Nat)]:=rfl
def qGH(l:List (List Nat))(i:Nat):List (Nat×Nat):=(List.range (l.getD i default).length).map fun k=>(i,k)
def qGI(l:List (List Nat))(k:Nat):List (Nat×Nat):=(List.range k).flatMap (qGH l)
def qGJ(l:List (List Nat)):List (Nat×Nat):=qGI l l.length
theorem qGK(l:List (List Nat))(k:Nat):qGI l (k+1)=qGI l k++qGH l k:=by simp[qGI,List.range_succ]
theorem qGL{l:List (List Nat)}(h:FrmSm l): ∀k,k<=l.length->(qGI l k).length<=1000*k
 |0,_=>by simp[qGI]
 | k + 1, hk => by
   have:=qGL h k oM
   have h2:=qGx h (show k<l.length by omega)
   rw[qGK,zU,show(qGH l k).length=(l.getD k default).length from by simp[qGH]]
   omega
theorem qGM(l:List (List Nat))(hl:FrmSm l):FnEq Tryd.prog 19 [.sl false 1 (rows (frmC false) l)] (.sl true 2 (rows spC (qGJ l))):=by
 have h1:=hl.n
 refine FnEq.of_awp Tryd.func19 ok19 (by show 1<=_;decide) (by simp only[push_cast,reduceIte,zA,zB,zC,zD,zE,zF,zG,reduceCtorEq,zH,zJ,cNI]<;>first|exact fun _ _=>trivial|simp) ?_
 simp only[ac19,rv19,push_cast,reduceIte,zA,zB,zC,zD,zE,zF,zG,reduceCtorEq,zH,zJ,cNI]
 refine qoP (fun m st=> ∃k:Nat,k<=l.length/\m=l.length-k/\st=⟨[(0,.sl false 1 (rows (frmC false) l)),(3,.view 6 0 (qGI l k).length),(4,.int k)],[],[(6,⟨2,62,rows spC (qGI l k)⟩)],[]⟩) l.length ⟨0,oM,oM,?_⟩ ?_
 ·refine sB ?_
  rfl
 rintro m st ⟨k,hk,rfl,rfl⟩
 have hs:=qGL hl k hk
 refine sB ?_
 refine qnY (fun h=> ?_) fun h=> ?_
 ·have hw:=qGx hl (show k<l.length by omega)
  have hN:=qGK l k
  refine qoP (fun m st=> ∃j:Nat,j<=(l.getD k default).length/\m=(l.getD k default).length-j/\st=⟨[(0,.sl false 1 (rows (frmC false) l)),(3,.view 6 0 (qGI l k++(List.range j).map fun j=>(k,j)).length),(4,.int k),(5,.int j)],[],[(6,⟨2,62,rows spC (qGI l k++(List.range j).map fun j=>(k,j))⟩)],[]⟩) (l.getD k default).length ⟨0,oM,oM,?_⟩ ?_
  ·simp only[List.range_zero,List.map_nil,List.append_nil,push_cast,reduceIte,zA,zB,zC,zD,zE,zF,zG,reduceCtorEq,zH,zJ,cNI]
   try rfl
  rintro m st ⟨j,hj,rfl,rfl⟩
  have hjl:(qGI l k++(List.range j).map fun j=>(k,j)).length=(qGI l k).length+j:=by simp
  simp only[rep1,List.set_cons_zero,zV,List.length_nil,qEY,hjl,push_cast,reduceIte,zA,zB,zC,zD,zE,zF,zG,reduceCtorEq,zH,zJ,cNI]
  refine⟨⟨oM,oM⟩,oM,?_⟩
  refine qnY (fun h2=> ?_) fun h2=> ?_
  ·refine⟨⟨oM,oM⟩,⟨oM,oM⟩,(l.getD k default).length-(j+1),oM,j+1,oM,rfl,?_⟩
   rw[List.range_succ,yH,zW,List.map_nil,<- List.append_assoc,zU,hjl]
   simp[rows,spC]
  ·have:j=(l.getD k default).length:=by omega
   refine⟨⟨oM,oM⟩,l.length-(k+1),oM,k+1,oM,rfl,?_⟩
   rw[hN,zU,show(qGH l k).length=(l.getD k default).length from by simp[qGH],this]
   rfl
 ·rw[show k=l.length by omega]
  exact⟨fun _ _=>trivial,.refl _⟩
def qGO(l:List (List Nat)):List Int:=l.map fun ws=>(ws.length:Int)
theorem qGP(f:List Nat)(hf:f.length<=1000)(n:Int):FnEq Tryd.prog 55 [.agg (frmC false f),.int n] (.bool (decide ((f.length:Int)=n))):=by
 refine FnEq.of_awp Tryd.func55 ok55 (by show 2<=_;decide) (by simp only[push_cast,reduceIte,zA,zB,zC,zD,zE,zF,zG,reduceCtorEq,zH,zJ,cNI]<;>first|exact fun _ _=>trivial|simp) ?_
 simp only[ac55,rv55,push_cast,reduceIte,zA,zB,zC,zD,zE,zF,zG,reduceCtorEq,zH,zJ,cNI]
 simp only[qEY]
theorem qGQ(l:List (List Nat)){k:Nat}(h:k<l.length):(qGO l).getD k default=((l.getD k default).length:Int):=by
 simp[qGO,zK,h]
theorem qGR(l:List (List Nat))(hl:FrmSm l)(n:List Int)(hn:n.length<=1000000):FnEq Tryd.prog 54 [.sl false 1 (rows (frmC false) l),.sl false 1 (ints n),.sc (.func (.func 55) #[] #[])] (.bool (decide (qGO l=n))):=by
 have h1:=hl.n
 have hll:(qGO l).length=l.length:=by simp[qGO]
 refine FnEq.of_awp Tryd.func54 ok54 (by show 3<=_;decide) (by simp only[push_cast,reduceIte,zA,zB,zC,zD,zE,zF,zG,reduceCtorEq,zH,zJ,cNI]<;>first|exact fun _ _=>trivial|simp) ?_
 simp only[ac54,rv54,push_cast,reduceIte,zA,zB,zC,zD,zE,zF,zG,reduceCtorEq,zH,zJ,cNI]
 refine qnY (fun h=> ?_) fun h=> ?_
 ·rw[decide_eq_false];intro e;apply h;rw[<- e,hll]
 refine qoP (fun m st=> ∃k:Nat,k<=l.length/\m=l.length-k/\(qGO l).take k=n.take k/\st=⟨[(1,.sl false 1 (ints n)),(2,.sc (.func (.func 55) #[] #[])),(15,.sl false 1 (rows (frmC false) l)),(16,.int l.length),(17,.int k)],[],[],[]⟩) l.length ⟨0,oM,oM,by simp,?_⟩ ?_
 ·simp only[push_cast,reduceIte,zA,zB,zC,zD,zE,zF,zG,reduceCtorEq,zH,zJ,cNI]
  try rfl
 rintro m st ⟨k,hk,rfl,hT,rfl⟩
 refine sB ?_
 refine qnY (fun h2=> ?_) fun h2=> ?_
 ·have hw:=qGx hl (show k<l.length by omega)
  refine⟨⟨oM,oM⟩,oM,⟨oM,oM⟩,oM,?_⟩
  refine qsP (FnM.of_ok (by kernel_rfl) (show FnOK _ _ _ _ from qGP (l.getD k default) oM (n.getD k default)) fun r hr=>⟨hr,rfl⟩) ?_
  refine sB ?_
  have hk1:k<(qGO l).length:=by omega
  have hk2:k<n.length:=by omega
  have hg1:(qGO l)[k]=((l.getD k default).length:Int):=by
   rw[<- qGQ l oM];simp[zK,hk1]
  have hg2:n.getD k default=n[k]:=by simp[zK,hk2]
  refine qnX (fun h3=> ?_) fun h3=> ?_
  ·have h4: ¬((l.getD k default).length:Int)=n.getD k default:=by simpa using h3
   rw[decide_eq_false]
   intro e
   apply h4
   rw[hg2,<- hg1]
   simp[e]
  ·have h4:((l.getD k default).length:Int)=n.getD k default:=by simpa using h3
   refine⟨⟨oM,oM⟩,l.length-(k+1),oM,k+1,oM,rfl,?_,?_⟩
   ·rw[zZ hk1,zZ hk2,hT,hg1,h4,hg2]
   ·exact sC
 ·rw[zY oM,zY oM]at hT
  rw[decide_eq_true hT]
end Go.Proofs.YtecoaapkcnhlhaaDoor
namespace Go.Proofs.YtecoaapkcnhlhaaDoor.Txt
open Go Go.Vc
set_option maxRecDepth 100000
def ac68_2500:AC:=
 (.seq (.reg [2500,37,2500] [
 (aO 2502 (.mv (.c (.nil))))])
 (.seq (.reg [2500,37,2500] [
 (aO 2505 (.mv (.t 2500))),(aO 2506 (.len (.t 2505))),(aO 2507 (.xo (.mkx 24 (.nil)) [(.t 2506)])),(aO 2503 (.mv (.t 2507)))])
 (.seq (.seq (.reg [2500,37,2500,2503] [
 (aO 2508 (.mv (.t 2500))),(aO 2509 (.len (.t 2508))),(aO 2510 (.mv (kI 0)))])
 (.block 0
 (.lps [2500,37,2500,2503,2509,2510]
 (.seq (.reg [2500,37,2500,2503,2509,2510] [
 (aO 2511 (.cmp .lss .i64 (.t 2510) (.t 2509)))])
 (.seq (.cond (.t 2511)
 .skip
 (.exit 0))
 (.seq (.block 1
 (.seq (.reg [2500,37,2500,2503,2509,2510] [
 (aO 2512 (.mv (.t 2510))),(aO 2504 (.mv (.t 2512)))])
 (.seq (.reg [2500,37,2500,2503,2504,2509,2510] [
 (aO 2513 (.mv (.t 2503))),(aO 2514 (.mv (.t 2504))),(aO 2515 (.mv (.t 2500))),(aO 2516 (.mv (.t 2504))),(aO 2517 (.ixs 1 (.t 2515) (.t 2516))),(aO 2518 (.fa 0 (.t 2517))),(aO 2519 (.ld false 1 (.t 2518))),(aO 2520 (.len (.t 2519))),(aO 2521 (.mks 1 54 8 [.sc (.int .u64 0)] (.t 2520) (.t 2520))),(aO 2522 (.ixs 1 (.t 2513) (.t 2514))),(aO 2523 (.fa 0 (.t 2522))),(aN (.sto 1 (.t 2523) (.t 2521)))])
 (.drw [2500,37,2500,2503,2504,2509,2510] [
 (eT 2524 (.mv (.t 2503))),(eT 2525 (.mv (.t 2504))),(eT 2526 (.ixs 1 (.t 2524) (.t 2525))),(eT 2527 (.fa 0 (.t 2526))),(eT 2528 (.ld false 1 (.t 2527))),(eT 2529 (.mv (.t 2500))),(eT 2530 (.mv (.t 2504))),(eT 2531 (.ixs 1 (.t 2529) (.t 2530))),(eT 2532 (.fa 0 (.t 2531))),(eT 2533 (.ld false 1 (.t 2532))),(eF 2534 (.cpy 1 (.t 2528) (.t 2533)))]))))
 (.reg [2500,37,2500,2503,2509,2510] [
 (aO 2535 (.ari .add true .i64 (.t 2510) (kI 1))),(aO 2510 (.mv (.t 2535)))])))))))
 (.seq (.reg [2500,37,2503] [
 (aO 2536 (.mv (.t 2503))),(aO 2502 (.mv (.t 2536)))])
 .ret))))
def rv68_2500:List RV:=[.tmp 2502]
theorem ok68_2500:qh6 Tryd.prog 2500 ac68_2500 rv68_2500 Tryd.f68=true:=by kernel_rfl

def ac44_r9:AC:=
 (.seq (.seq (.reg [0,52,5,6,7,8,9,10,16,17] [
 (aO 20 (.mv (.t 5))),(aO 21 (.mv (.t 9))),(aO 22 (.ixs 1 (.t 20) (.t 21))),(aO 23 (.fa 0 (.t 22))),(aO 24 (.ld false 1 (.t 23))),(aO 25 (.len (.t 24))),(aO 26 (.mv (kI 0)))])
 (.block 2
 (.lps [0,52,5,6,7,8,9,10,16,17,25,26]
 (.seq (.reg [0,52,5,6,7,8,9,10,16,17,25,26] [
 (aO 27 (.cmp .lss .i64 (.t 26) (.t 25)))])
 (.seq (.cond (.t 27)
 .skip
 (.exit 2))
 (.seq (.block 3
 (.seq (.reg [0,52,5,6,7,8,9,10,16,17,25,26] [
 (aO 28 (.mv (.t 26))),(aO 11 (.mv (.t 28)))])
 (.reg [0,52,5,6,7,8,9,10,11,16,17,25,26] [
 (aO 29 (.mv (.t 8))),(aO 30 (.mv (.t 5))),(aO 31 (.mv (.t 9))),(aO 32 (.ixs 1 (.t 30) (.t 31))),(aO 33 (.fa 0 (.t 32))),(aO 34 (.ld false 1 (.t 33))),(aO 35 (.mv (.t 11))),(aO 36 (.ixs 1 (.t 34) (.t 35))),(aO 37 (.clv (.t 29) [(.t 36)])),(aO 38 (.mv (.t 37))),⟨some 39,some (38,true),.mv (.t 10)⟩,(aO 40 (.pick (.t 38) (.t 39) (.c (.sc (.bool false))))),(aO 10 (.mv (.t 40)))])))
 (.reg [0,52,5,6,7,8,9,10,16,17,25,26] [
 (aO 41 (.ari .add true .i64 (.t 26) (kI 1))),(aO 26 (.mv (.t 41)))])))))))
 (.seq (.reg [0,52,5,6,7,8,9,10,16,17] [
 (aO 42 (.mv (.t 10))),(aO 43 (.not (.t 42)))])
 (.cond (.t 43)
 (.reg [0,52,5,6,7,8,9,16,17] [
 (aO 44 (.mv (.t 7))),(aO 45 (.mv (.t 9))),(aO 46 (.bsl 1 3 [zI] 1 [(0,(.t 45))])),(aO 47 (.app 1 3 8 (.t 44) (.t 46))),(aO 7 (.mv (.t 47)))])
 .skip)))
def ac44_r5:AC:=
 (.seq (.seq (.reg [0,52,5,6,7,8] [
 (aO 15 (.mv (.t 5))),(aO 16 (.len (.t 15))),(aO 17 (.mv (kI 0)))])
 (.block 0
 (.lps [0,52,5,6,7,8,16,17]
 (.seq (.reg [0,52,5,6,7,8,16,17] [
 (aO 18 (.cmp .lss .i64 (.t 17) (.t 16)))])
 (.seq (.cond (.t 18)
 .skip
 (.exit 0))
 (.seq (.block 1
 (.seq (.reg [0,52,5,6,7,8,16,17] [
 (aO 19 (.mv (.t 17))),(aO 9 (.mv (.t 19)))])
 (.seq (.reg [0,52,5,6,7,8,9,16,17] [
 (aO 10 (.mv (.c (.sc (.bool true)))))])
 ac44_r9)))
 (.reg [0,52,5,6,7,8,16,17] [
 (aO 48 (.ari .add true .i64 (.t 17) (kI 1))),(aO 17 (.mv (.t 48)))])))))))
 (.seq (.wk (.drw [0,52,5,6,7] [
 (eT 49 (.mv (.t 5))),(eT 50 (.ld false 1 (.t 6))),(eT 51 (.mv (.t 7))),(eT 2 (.mv (.t 49))),(eT 3 (.mv (.t 50))),(eF 4 (.mv (.t 51)))]))
 .ret))
def ac44:AC:=
 (.seq (.reg [0,52,0] [
 (aO 2 (.mv (.c (.nil)))),(aO 3 (.mv (kI 0))),(aO 4 (.mv (.c (.nil))))])
 (.seq (.reg [0,52,0] [
 (aO 12 (.mv (.t 0))),(aO 13 (.clm 68 [(.t 12)])),(aO 5 (.mv (.t 13)))])
 (.seq (.reg [0,52,5] [
 (aO 6 (.alc [zI])),(aN (.sto 1 (.t 6) (kI 0)))])
 (.seq (.reg [0,52,5,6] [
 (aO 7 (.mv (.c (.nil))))])
 (.seq (.reg [0,52,5,6,7] [
 (aO 14 (.mkf 69 [(.t 6)])),(aO 8 (.mv (.t 14)))])
 ac44_r5)))))
def rv44:List RV:=[.tmp 2,.tmp 3,.tmp 4]
theorem ok44:fnOk Tryd.prog ac44 rv44 Tryd.f44=true:=by kernel_rfl

def ac69_1000:AC:=
 (.seq (.reg [1000,27,1000,1001] [
 (aO 1003 (.mv (.c (.sc (.bool false)))))])
 (.seq (.reg [1000,27,1000,1001] [
 (aO 1008 (.mv (.t 1000))),(aO 1009 (.nck (.t 1008))),(aO 1010 (.ld false 1 (.t 1009))),(aO 1011 (.cal 25 [(.t 1010)])),(aO 1007 (.mv (.t 1011))),(aO 1012 (.ext (.t 1007) 0)),(aO 1013 (.ext (.t 1007) 1)),(aO 1014 (.ext (.t 1007) 2)),(aO 1004 (.mv (.t 1012))),(aO 1005 (.mv (.t 1013))),(aO 1006 (.mv (.t 1014)))])
 (.seq (.seq (.reg [1000,27,1000,1001,1004,1005,1006] [
 (aO 1015 (.mv (.t 1006))),(aO 1016 (.cmp .neq .i64 (.t 1015) (kI 0)))])
 (.cond (.t 1016)
 (.seq (.reg [1000,27] [
 (aO 1003 (.mv (.c (.sc (.bool false)))))])
 .ret)
 .skip))
 (.seq (.reg [1000,27,1000,1001,1004,1005] [
 (aO 1017 (.ld false 1 (.t 1001))),(aO 1018 (.mv (.t 1005))),(aO 1019 (.ari .add true .i64 (.t 1017) (.t 1018))),(aN (.sto 1 (.t 1001) (.t 1019)))])
 (.seq (.reg [1000,27,1000,1004] [
 (aO 1021 (.mv (.t 1000))),(aO 1022 (.mv (.t 1004))),(aO 1023 (.cal 26 [(.t 1022)])),(aO 1020 (.mv (.t 1023))),(aO 1024 (.ext (.t 1020) 0)),(aO 1025 (.ext (.t 1020) 1)),(aO 1026 (.nck (.t 1021))),(aN (.sto 1 (.t 1026) (.t 1024)))])
 (.seq (.reg [1000,27] [
 (aO 1003 (.mv (.c (.sc (.bool true)))))])
 .ret))))))
def rv69_1000:List RV:=[.tmp 1003]
theorem ok69_1000:qh6 Tryd.prog 1000 ac69_1000 rv69_1000 Tryd.f69=true:=by kernel_rfl

def ac43_r4:AC:=
 (.seq (.drw [0,62,3,6] [
 (eT 46 (.mv (.t 6))),(eT 47 (.fa 0 (.t 3))),(eT 48 (.ld false 1 (.t 47))),(eT 49 (.ixs 1 (.t 46) (.t 48))),(eT 50 (.fa 0 (.t 49))),(eT 51 (.ld false 1 (.t 50))),(eT 52 (.fa 1 (.t 3))),(eT 53 (.ld false 1 (.t 52))),(eT 54 (.ixs 1 (.t 51) (.t 53))),(eT 55 (.ld false 1 (.t 54))),(eT 56 (.fa 2 (.t 3))),(eT 57 (.ld false 1 (.t 56))),(eT 58 (.shf .shl .u64 (.c (.sc (.int .u64 1))) (.t 57))),(eF 59 (.bit .xor .u64 (.t 55) (.t 58))),(eF 60 (.ixs 1 (.t 51) (.t 53))),⟨(aN (.sto 1 (.t 60) (.t 59))),[],[],false⟩])
 (.seq (.wk (.reg [0,62,6] [
 (aO 61 (.mv (.t 6))),(aO 4 (.mv (.t 61))),(aO 5 (.mv (kI 0)))]))
 .ret))
def ac43_r3:AC:=
 (.seq (.reg [0,62,0,3] [
 (aO 44 (.mv (.t 0))),(aO 45 (.clm 68 [(.t 44)])),(aO 6 (.mv (.t 45)))])
 ac43_r4)
def ac43:AC:=
 (.seq (.reg [0,62,0,1] [
 (aO 3 (.box (.t 1))),(aO 4 (.mv (.c (.nil)))),(aO 5 (.mv (kI 0)))])
 (.seq (.seq (.drw [0,62,0,3] [
 (eF 7 (.fa 0 (.t 3))),(eF 8 (.ld false 1 (.t 7))),(eF 9 (.cmp .lss .i64 (.t 8) (kI 0))),(eF 10 (.mv (.t 9))),⟨⟨some 11,some (10,false),.fa 0 (.t 3)⟩,[],[],true⟩,⟨⟨some 12,some (10,false),.ld false 1 (.t 11)⟩,[],[],true⟩,⟨⟨some 13,some (10,false),.mv (.t 0)⟩,[],[],true⟩,⟨⟨some 14,some (10,false),.len (.t 13)⟩,[],[],true⟩,⟨⟨some 15,some (10,false),.cmp .geq .i64 (.t 12) (.t 14)⟩,[],[],false⟩,(eF 16 (.pick (.t 10) (.c (.sc (.bool true))) (.t 15))),(eF 17 (.mv (.t 16))),⟨⟨some 18,some (17,false),.fa 1 (.t 3)⟩,[],[],false⟩,⟨⟨some 19,some (17,false),.ld false 1 (.t 18)⟩,[],[],false⟩,⟨⟨some 20,some (17,false),.cmp .lss .i64 (.t 19) (kI 0)⟩,[],[],false⟩,(eF 21 (.pick (.t 17) (.c (.sc (.bool true))) (.t 20))),(eF 22 (.mv (.t 21))),⟨⟨some 23,some (22,false),.fa 1 (.t 3)⟩,[],[],true⟩,⟨⟨some 24,some (22,false),.ld false 1 (.t 23)⟩,[],[],true⟩,⟨⟨some 25,some (22,false),.mv (.t 0)⟩,[],[],true⟩,⟨⟨some 26,some (22,false),.fa 0 (.t 3)⟩,[],[],true⟩,⟨⟨some 27,some (22,false),.ld false 1 (.t 26)⟩,[],[],true⟩,⟨⟨some 28,some (22,false),.ixs 1 (.t 25) (.t 27)⟩,[],[],true⟩,⟨⟨some 29,some (22,false),.fa 0 (.t 28)⟩,[],[],true⟩,⟨⟨some 30,some (22,false),.ld false 1 (.t 29)⟩,[],[],true⟩,⟨⟨some 31,some (22,false),.len (.t 30)⟩,[],[],true⟩,⟨⟨some 32,some (22,false),.cmp .geq .i64 (.t 24) (.t 31)⟩,[],[],false⟩,(eF 33 (.pick (.t 22) (.c (.sc (.bool true))) (.t 32))),(eF 34 (.mv (.t 33))),⟨⟨some 35,some (34,false),.fa 2 (.t 3)⟩,[],[],false⟩,⟨⟨some 36,some (34,false),.ld false 1 (.t 35)⟩,[],[],false⟩,⟨⟨some 37,some (34,false),.cmp .lss .i64 (.t 36) (kI 0)⟩,[],[],false⟩,(eF 38 (.pick (.t 34) (.c (.sc (.bool true))) (.t 37))),(eF 39 (.mv (.t 38))),⟨⟨some 40,some (39,false),.fa 2 (.t 3)⟩,[],[],false⟩,⟨⟨some 41,some (39,false),.ld false 1 (.t 40)⟩,[],[],false⟩,⟨⟨some 42,some (39,false),.cmp .gtr .i64 (.t 41) (kI 63)⟩,[],[],false⟩,(eF 43 (.pick (.t 39) (.c (.sc (.bool true))) (.t 42)))])
 (.cut [0,62,0,3,43] (.cond (.t 43)
 (.seq (.reg [0,62] [
 (aO 4 (.mv (.c (.nil)))),(aO 5 (.mv (kI 1)))])
 .ret)
 .skip)))
 ac43_r3))
def rv43:List RV:=[.tmp 4,.tmp 5]
theorem ok43:fnOk Tryd.prog ac43 rv43 Tryd.f43=true:=by kernel_rfl
end Go.Proofs.YtecoaapkcnhlhaaDoor.Txt
namespace Go.Proofs.YtecoaapkcnhlhaaDoor
open Go Go.Vc Go.Ham Txt
def rsK(l:List (List Nat))(k:Nat):List (Option (List (List PV))):=(List.range l.length).map fun x=>if x<k then some (rows u64C (nats (l.getD x [])))else none
theorem qGS(l:List (List Nat))(k:Nat):(rsK l k).length=l.length:=by simp[rsK]
theorem qGT{l:List (List Nat)}{x:Nat}(h:x<l.length)(k:Nat):(rsK l k)[x]? =some (if x<k then some (rows u64C (nats (l.getD x [])))else none):=by
 rw[rsK,zS,List.getElem?_range h];rfl
theorem qGU(l:List (List Nat)):rsK l 0=List.replicate l.length none:=by
 rw[List.eq_replicate_iff]
 exact⟨qGS _ _,fun b hb=>by obtain⟨x,_,rfl⟩:=List.mem_map.1 hb;rfl⟩
theorem qGV(l:List (List Nat))(k:Nat):(rsK l k).set k (some (rows u64C (nats (l.getD k []))))=rsK l (k+1):=by
 refine List.ext_getElem (by simp[rsK]) fun i h1 h2=> ?_
 rw[List.getElem_set]
 simp only[rsK,List.getElem_map,List.getElem_range]
 split
 ·next h=>rw[h,if_pos oM]
 ·next h=>
  by_cases h3:i<k
  ·rw[if_pos h3,if_pos oM]
  ·rw[if_neg h3,if_neg oM]
set_option maxHeartbeats 400000 in
theorem qGW(l:List (List Nat))(hl:FrmSm l):FnM (Env.of Tryd.prog) 68 [.sl false 1 (rows (frmC false) l)] ⟨[],[],[],[]⟩ (fun v st' =>v= .bv 2507 1 l.length/\st' =⟨[],[(2507,qAY 3000 (rsK l l.length))],qAZ 1 54 3000 (rsK l l.length),[]⟩):=by
 have h1:=hl.n
 refine quf 2500 Tryd.func68 ok68_2500 (by show 1<=_;decide) rfl (by decide) ?_
 simp only[ac68_2500,rv68_2500,qFy,push_cast,reduceIte,zA,zB,zC,zD,zE,zF,zG,reduceCtorEq,zH,zJ,cNI]
 refine⟨⟨oM,oM,oM⟩,?_⟩
 refine qoO (fun j st=> ∃k:Nat,k<=l.length/\j=l.length-k/\st=⟨[(2500,.sl false 1 (rows (frmC false) l)),(2503,.bv 2507 1 l.length),(2509,.int l.length),(2510,.int k)],[(2507,qAY 3000 (rsK l k))],qAZ 1 54 3000 (rsK l k),[]⟩) l.length ⟨_,SWk.refl _,0,oM,oM,?_⟩ ?_
 ·rw[qGU,qFw,qFx]
  exact sC
 rintro j st ⟨k,hk,rfl,rfl⟩
 refine sB ?_
 refine qnY (fun h=> ?_) fun h=> ?_
 ·have hk' :k<l.length:=by omega
  obtain⟨ws,hws⟩: ∃ws,ws=l.getD k default:=⟨_,rfl⟩
  have hmem:ws∈l:=by rw[hws,zK,zL hk'];exact List.getElem_mem hk'
  have hln:=hl.len ws hmem
  have hcl:(qAY 3000 (rsK l k)).length=l.length:=by rw[qB0,qGS]
  have hfar:anyT nul (isId 2521) (qAY 3000 (rsK l k))=false:=qFd _ _ _ fun y r _=>beq_false_of_ne oM
  have hup: ∀A,up (qAZ 1 54 3000 (rsK l k)) 2521 A=(2521,A)::qAZ 1 54 3000 (rsK l k):=fun A=>qB9 _ _ _ fun y hy=>by have:=qBa 1 54 3000 _ y hy;omega
  have hspl: ∀v,spl (qAY 3000 (rsK l k)) k [v]=(qAY 3000 (rsK l k)).set k v:=fun v=>qFg _ _ _ oM
  have hcx: ∀v,((qAY 3000 (rsK l k)).set k v).getD k .bot=v:=fun v=>by rw[zK,List.getElem?_set_self oM];rfl
  have hcl2: ∀v,((qAY 3000 (rsK l k)).set k v).length=l.length:=fun v=>by rw[yF,hcl]
  have hqc:=fun v off d r st K=>qFf (P:=Env.of Tryd.prog) ((qAY 3000 (rsK l k)).set k v) off d r st K
  have hcp:cpyF (rows u64C (List.replicate ws.length (0:Int))) 0 (rows u64C (List.take ws.length (nats ws)))=rows u64C (nats ws):=by
   rw[zY (by rw[qEY];exact Nat.le_refl _)]
   unfold cpyF
   rw[List.take_zero,List.nil_append,qkk,qEY,List.drop_of_length_le (by rw[qkk,List.length_replicate];omega),List.append_nil]
  simp only[<- hws,qEY,Nat.mul_one,hcl,hfar,hup,hspl,hqc,hcx,hcl2,hcp,List.length_replicate,push_cast,reduceIte,zA,zB,zC,zD,zE,zF,zG,reduceCtorEq,zH,zJ,cNI]
  refine⟨⟨oM,oM⟩,hk',⟨oM,oM,oM,oM⟩,⟨oM,oM⟩,oM,⟨oM,oM⟩,oM,⟨oM,oM⟩,hk',⟨oM,oM⟩,?_⟩
  have hdk:l.getD k []=ws:=hws.symm
  have hset:=qGV l k
  have h07:PV.toV (isId (3000+k)) nul (.bv 2507 1 l.length)=false:=beq_false_of_ne (show 2507≠3000+k by omega)
  rw[hdk]at hset
  refine⟨_,SWk.renEq (A:=⟨1,54,rows u64C (nats ws)⟩) (b' :=[(2507,qAY 3000 (rsK l (k+1)))]) (a' :=qAZ 1 54 3000 (rsK l (k+1))) 2521 (3000+k) rfl ?_ ⟨⟨rfl,rfl⟩,⟨rfl,rfl⟩,⟨rfl,rfl⟩,⟨rfl,rfl⟩,trivial⟩ ⟨⟨rfl,rfl⟩,⟨h07,rfl⟩,⟨rfl,rfl⟩,⟨rfl,rfl⟩,trivial⟩ ?_ ?_ ?_,l.length-(k+1),oM,k+1,oM,rfl,rfl⟩
  ·rw[lk,if_neg oM,qB8,qGT hk',if_neg (Nat.lt_irrefl k)];rfl
  ·have f := qFd (isId (3000 + k)) 3000 (rsK l k) fun y r hy => by
    refine beq_false_of_ne fun e=> ?_
    obtain rfl:y=k:=by omega
    rw[qGT hk',if_neg (Nat.lt_irrefl _)]at hy
    cases hy
   have h21:PV.to nul (isId (3000+k)) (.view 2521 0 ws.length)=false:=beq_false_of_ne (show 2521≠3000+k by omega)
   rw[qiq,qFe _ _ _ _ _ f h21];rfl
  ·have e:=qFc 2521 3000 (rsK l k) k (rows u64C (nats ws)) (by rw[qGS];exact hk') (by decide)
   rw[hset,qkk,qEY]at e
   simp only[zW,List.map_nil,e]
  ·rw[qF9,qFa _ _ _ _ _ (by decide),qBb _ _ _ _ _ _ (by rw[qGS];exact hk'),hset]
 ·obtain rfl:k=l.length:=by omega
  exact sC
theorem qGX(es ty:Nat): ∀(k:Nat) (rs:List (Option (List (List PV)))),∀y∈qAZ es ty k rs,∃x,x<rs.length/\y.1=k+x
 |_,[],y,h=>by cases h
 | k, none :: rs, y, h => by
   obtain⟨x,h1,h2⟩:=qGX es ty (k+1) rs y h
   exact⟨x+1,by simpa using h1,oM⟩
 | k, some r :: rs, y, h => by
   rcases List.mem_cons.1 h with rfl|h
   ·exact⟨0,by simp,rfl⟩
   ·obtain⟨x,h1,h2⟩:=qGX es ty (k+1) rs y h
    exact⟨x+1,by simpa using h1,oM⟩
def naK(n:Nat):List Nat:=(List.range n).map fun x=>3000+x
theorem qGY{n x:Nat}(h:x<n):inL (naK n) (3000+x)=true:=by
 unfold inL naK
 rw[List.contains_iff_mem]
 exact List.mem_map.2 ⟨x,List.mem_range.2 h,rfl⟩
theorem qGZ(l:List (List Nat)):qDJ [2507] (naK l.length) (.bv 2507 1 l.length) ⟨[],[(2507,qAY 3000 (rsK l l.length))],qAZ 1 54 3000 (rsK l l.length),[]⟩=true:=by
 simp only[qDJ,zN,List.all_cons,List.all_nil,yE]
 refine⟨⟨⟨rfl,rfl⟩,⟨⟨rfl,?_⟩,trivial⟩,fun y hy=> ?_⟩,rfl⟩
 ·rw [qB3 (outL [2507]) (outL (naK l.length)) 3000 _ fun x hx => by
   rw[qGS]at hx
   unfold outL
   rw[qGY hx];rfl]
  rfl
 ·obtain⟨x,h1,h2⟩:=qGX _ _ _ _ y hy
  rw[qGS]at h1
  rw[h2]
  exact qGY h1
def rsW(l:List (List Nat)):List (Option (List (List PV))):=l.map fun ws=>some (rows u64C (nats ws))
theorem qH0(l:List (List Nat)):(rsW l).length=l.length:=by simp[rsW]
theorem qH1{l:List (List Nat)}{x:Nat}(h:x<l.length):(rsW l)[x]? =some (some (rows u64C (nats (l.getD x [])))):=by
 rw[rsW,zS,zK,zL h];rfl
theorem qH2(l:List (List Nat))(x:Nat)(ws:List Nat):(rsW l).set x (some (rows u64C (nats ws)))=rsW (l.set x ws):=by
 simp[rsW,List.map_set]
theorem qH3(l:List (List Nat)):rsK l l.length=rsW l:=by
 refine List.ext_getElem (by simp[rsK,rsW]) fun i h1 h2=> ?_
 have hi:i<l.length:=by simpa[rsK]using h1
 simp[rsK,rsW,hi,zK]
theorem qH4{l:List (List Nat)}{x:Nat}(h:x<l.length):(qAY 3000 (rsW l)).getD x .bot= .view (3000+x) 0 (l.getD x []).length:=by
 rw[zK,qB1,qH1 h]
 simp[rowC,qkk,qEY]
theorem qH5{l:List (List Nat)}{x:Nat}(h:x<l.length):lk (qAZ 1 54 3000 (rsW l)) (3000+x)=some ⟨1,54,rows u64C (nats (l.getD x []))⟩:=by
 rw[qB8,qH1 h];rfl
theorem qH6{l:List (List Nat)}{x:Nat}(h:x<l.length)(ws:List Nat):up (qAZ 1 54 3000 (rsW l)) (3000+x) ⟨1,54,rows u64C (nats ws)⟩=qAZ 1 54 3000 (rsW (l.set x ws)):=by
 rw[qBb _ _ _ _ _ _ (by rw[qH0];exact h),qH2]
theorem qH7(l:List (List Nat)):((rsW l).map rowP).map (fun c=>[c])=rows (frmC true) l:=by
 unfold rsW rows
 rw[List.map_map,List.map_map]
 rfl
theorem qH8(l:List (List Nat)):((rsW l).map rowP).all qbM=true:=by
 rw[yE]
 intro c hc
 obtain⟨r,hr,rfl⟩:=List.mem_map.1 hc
 obtain⟨ws,_,rfl⟩:=List.mem_map.1 hr
 rfl
theorem qH9{l:List (List Nat)}{x:Nat}(hx:x<l.length){ws:List Nat}(h:ws.length=(l.getD x []).length):qAY 3000 (rsW l)=qAY 3000 (rsW (l.set x ws)):=by
 rw[<- qH2,<- qB2]
 have hc:=qH4 hx
 rw[<- h]at hc
 have hl:x<(qAY 3000 (rsW l)).length:=by rw[qB0,qH0];exact hx
 simp only[rowC,qkk,qEY]
 apply List.ext_getElem (by simp)
 intro i h1 h2
 rw[List.getElem_set]
 split
 ·next q=>subst q;rw[zK,zL h1]at hc;exact hc
 ·rfl
theorem qHa(s s' :List (Nat×PV))(l:List (List Nat))(hs: ∀j,3000<=j->farL j s)(h:(s.map fun x=>(x.1,x.2.fbV 2507 ((rsW l).map rowP)))=s'):SWk ⟨s,[(2507,qAY 3000 (rsW l))],qAZ 1 54 3000 (rsW l),[]⟩ ⟨s',[],[],[]⟩:=by
 refine SWk.trans (SWk.frzRows (b1:=[]) (b2:=[]) (id:=2507) (k:=3000) [] (rsW l) hs (fun _ _=>rfl) (fun _ _=>rfl)) ?_
 exact SWk.frzB 2507 rfl (qH8 l) h rfl
end Go.Proofs.YtecoaapkcnhlhaaDoor
namespace Go.Proofs.YtecoaapkcnhlhaaDoor
open Go Go.Vc Go.Ham
def qHb(l:List (List Nat))(x k b:Nat):List (List Nat):=l.set x ((l.getD x []).set k (((l.getD x []).getD k 0)^^^2^b))
def atW(l:List (List Nat))(x k:Nat):Nat:=(l.getD x []).getD k 0
def inW(l:List (List Nat))(x k:Nat):Prop:=x<l.length/\k<(l.getD x []).length
theorem qHc{α:Type}(l:List α)(i j:Nat)(v d:α):(l.set i v).getD j d=if i=j/\i<l.length then v else l.getD j d:=by
 simp only[zK,List.getElem?_set]
 by_cases e:i=j
 ·subst e
  by_cases h:i<l.length
  ·simp[h]
  ·simp[h]
 ·simp[e]
theorem qHd(l:List (List Nat))(x k b x' :Nat):(qHb l x k b).getD x' []=if x=x' /\x<l.length then(l.getD x []).set k (atW l x k^^^2^b)else l.getD x' []:=by
 rw[qHb,qHc];rfl
theorem qHe{l:List (List Nat)}{x k b:Nat}(h:inW l x k)(x' k' :Nat):atW (qHb l x k b) x' k' =if x=x' /\k=k' then atW l x k^^^2^b else atW l x' k' :=by
 unfold atW
 rw[qHd]
 by_cases e:x=x'
 ·subst e
  rw[if_pos ⟨rfl,h.1⟩,qHc]
  by_cases e2:k=k'
  ·subst e2;rw[if_pos ⟨rfl,h.2⟩,if_pos ⟨rfl,rfl⟩];rfl
  ·rw[if_neg (fun z=>e2 z.1),if_neg (fun z=>e2 z.2)]
 ·rw[if_neg (fun z=>e z.1),if_neg (fun z=>e z.1)]
theorem qHf(l:List (List Nat))(x k b:Nat):(qHb l x k b).length=l.length:=by simp[qHb]
theorem qHg(l:List (List Nat))(x k b x' :Nat):((qHb l x k b).getD x' []).length=(l.getD x' []).length:=by
 rw[qHd];split
 ·rename_i h;rw[yF,h.1]
 ·rfl
theorem qHh{l m:List (List Nat)}(h1:l.length=m.length)(h2: ∀x,(l.getD x []).length=(m.getD x []).length):l.map List.length=m.map List.length:=by
 apply List.ext_getElem
 ·simpa using h1
 ·intro i a b
  have:=h2 i
  simp only[yG]at a b
  simpa[zK,a,b]using this
theorem qHi(l:List (List Nat))(x k b:Nat):(qHb l x k b).map List.length=l.map List.length:=qHh (qHf l x k b) (qHg l x k b)
theorem qHj{l m:List (List Nat)}(h:l.map List.length=m.map List.length)(h2: ∀x k,inW l x k->atW l x k=atW m x k):l=m:=by
 have hl:l.length=m.length:=by have:=congrArg List.length h;simpa using this
 apply List.ext_getElem hl
 intro x hx hx'
 have hr:l[x].length=m[x].length:=by
  have:=congrArg (fun z=>z[x]?) h
  simp only[zS,zL hx,zL hx',Option.map_some,Option.some.injEq]at this
  exact this
 apply List.ext_getElem hr
 intro k hk hk'
 have:=h2 x k ⟨hx,by simp[zK,hx];exact hk⟩
 simpa[atW,zK,hx,hx',hk,hk']using this
theorem qHk{l m:List (List Nat)}(h:l.map List.length=m.map List.length)(x k:Nat):inW l x k ↔ inW m x k:=by
 have hl:l.length=m.length:=by have:=congrArg List.length h;simpa using this
 have hr:(l.getD x []).length=(m.getD x []).length:=by
  by_cases hx:x<l.length
  ·have:=congrArg (fun z=>z[x]?) h
   simp only[zS,zL hx,zL (show x<m.length by omega),Option.map_some,Option.some.injEq]at this
   simpa[zK,hx,show x<m.length by omega]using this
  ·simp[zK,List.getElem?_eq_none (show l.length<=x by omega),List.getElem?_eq_none (show m.length<=x by omega)]
 unfold inW;rw[hl,hr]
theorem qHl{l:List (List Nat)}{ws:List Nat}(h:ws∈l){w:Nat}(hw:w∈ws): ∃x k,inW l x k/\atW l x k=w:=by
 obtain⟨x,hx,rfl⟩:=List.getElem_of_mem h
 obtain⟨k,hk,rfl⟩:=List.getElem_of_mem hw
 exact⟨x,k,⟨hx,by simpa[zK,hx]using hk⟩,by simp[atW,zK,hx,hk]⟩
theorem qHm{l:List (List Nat)}{x k:Nat}(h:inW l x k): ∃ws∈l,atW l x k∈ws:=by
 obtain⟨h1,h2⟩:=h
 have e:l.getD x []=l[x]:=by simp[zK,h1]
 rw[e]at h2
 refine⟨l[x],List.getElem_mem h1,?_⟩
 unfold atW
 rw[e]
 simp[zK,h2]
def qHn(l:List (List Nat)):Nat:=(l.map qDu).sum
theorem qHo: ∀(l:List (List Nat)) (x:Nat) (r:List Nat),x<l.length->((l.set x r).map qDu).sum+qDu (l.getD x [])=(l.map qDu).sum+qDu r
 |[],x,r,h=>by simp at h
 |a::l,0,r,h=>by simp;omega
 | a :: l, x + 1, r, h => by
   have:=qHo l x r (by simpa using h)
   simp only[List.set_cons_succ,zW,List.sum_cons,List.getD_cons_succ];omega
theorem qHp: ∀(l:List Nat) (k v:Nat),k<l.length->qDu (l.set k v)+(if chkW (l.getD k 0)=1 then 1 else 0)=qDu l+(if chkW v=1 then 1 else 0)
 |[],k,v,h=>by simp at h
 | a :: l, 0, v, h => by
   simp only[qDu,List.set_cons_zero,List.countP_cons,List.getD_cons_zero,decide_eq_true_eq];omega
 | a :: l, k + 1, v, h => by
   have:=qHp l k v (by simpa using h)
   simp only[qDu,List.set_cons_succ,List.countP_cons,List.getD_cons_succ]at this ⊢;omega
theorem qHq{l:List (List Nat)}{x k b:Nat}(h:inW l x k):qHn (qHb l x k b)+(if chkW (atW l x k)=1 then 1 else 0)=qHn l+(if chkW (atW l x k^^^2^b)=1 then 1 else 0):=by
 have h1:=qHo l x ((l.getD x []).set k (atW l x k^^^2^b)) h.1
 have h2:=qHp (l.getD x []) k (atW l x k^^^2^b) h.2
 show((l.set x ((l.getD x []).set k (atW l x k^^^2^b))).map qDu).sum+_=_
 unfold qHn
 change _+(if chkW (atW l x k)=1 then 1 else 0)=_ at h2
 omega
theorem qHr: ∀ {l:List (List Nat)},(∀ws∈l,∀w∈ws,chkW w=0)->qHn l=0
 |[],_=>rfl
 | ws :: l, h => by
   have h1:qDu ws=0:=by
    unfold qDu
    rw[List.countP_eq_zero]
    intro w hw
    rw[h ws zX w hw];decide
   have h2:=qHr (l:=l) fun ws hws=>h ws (zT _ hws)
   unfold qHn at h2 ⊢
   rw[zW,List.sum_cons,h1,h2]
structure Near (l m:List (List Nat)):Prop where
 size:m.map List.length=l.map List.length
 at' : ∀x k,inW l x k->atW m x k=atW l x k\/ ∃b,b<64/\atW m x k=atW l x k^^^2^b
theorem Near.refl(l:List (List Nat)):Near l l:=⟨rfl,fun _ _ _=> .inl rfl⟩
theorem Near.flip{l m:List (List Nat)}(h:Near l m){x k b:Nat}(hi:inW l x k)(hb:b<64)(he:atW m x k=atW l x k):Near l (qHb m x k b):=by
 have hm:inW m x k:=(qHk h.size x k).2 hi
 refine⟨by rw[qHi];exact h.size,fun x' k' hi' => ?_⟩
 rw[qHe hm]
 split
 ·rename_i e
  obtain⟨rfl,rfl⟩:=e
  exact .inr ⟨b,hb,by rw[he]⟩
 ·exact h.at' x' k' hi'
theorem qHs{w v:Nat}(hw:w<2^64)(hc:chkW w=0)(h:v=w\/ ∃b,b<64/\v=w^^^2^b):chkW v≠2/\datW v=datW w/\fixW v=w:=by
 have hf:fixW w=w:=by
  unfold fixW datW
  rw[if_neg oM,if_neg oM,qA8 hw hc]
 rcases h with rfl|⟨b,hb,rfl⟩
 ·exact⟨oM,rfl,hf⟩
 ·obtain⟨h1,h2⟩:=qA9 hc hb
  have hd:datW (w^^^2^b)=datW w:=by
   unfold datW
   rw[if_pos h1,h2,if_neg oM,qAb]
  refine⟨oM,hd,?_⟩
  unfold fixW
  rw[if_neg oM,hd]
  unfold fixW at hf
  rw[if_neg oM]at hf
  exact hf
theorem qHt{l m:List (List Nat)}(hl:qDv l)(hc: ∀ws∈l,∀w∈ws,chkW w=0)(h:Near l m):(∀ws∈m,qDt ws=true)/\(∀x,datF m x=datF l x)/\m.map (fun ws=>ws.map fixW)=l:=by
 have key: ∀x k,inW m x k->chkW (atW m x k)≠2/\datW (atW m x k)=datW (atW l x k)/\fixW (atW m x k)=atW l x k:=fun x k hi=>by
  have hi' :=(qHk h.size x k).1 hi
  obtain⟨ws,h1,h2⟩:=qHm hi'
  exact qHs (hl ws h1 _ h2) (hc ws h1 _ h2) (h.at' x k hi')
 have hlen:m.length=l.length:=by have:=congrArg List.length h.size;simpa using this
 have hrow: ∀x,(m.getD x []).length=(l.getD x []).length:=fun x=>by
  by_cases hx:x<m.length
  ·have:=congrArg (fun z=>z[x]?) h.size
   simp only[zS,zL hx,zL (show x<l.length by omega),Option.map_some,Option.some.injEq]at this
   simpa[zK,hx,show x<l.length by omega]using this
  ·simp[zK,List.getElem?_eq_none (show l.length<=x by omega),List.getElem?_eq_none (show m.length<=x by omega)]
 refine⟨fun ws hws=>yE.2 fun w hw=> ?_,fun x=> ?_,qHj ?_ fun x k hi=> ?_⟩
 ·obtain⟨x,k,hi,rfl⟩:=qHl hws hw
  simpa using(key x k hi).1
 ·unfold datF
  apply List.ext_getElem
  ·simpa using hrow x
  ·intro k h1 h2
   have hk:k<(m.getD x []).length:=by simpa using h1
   have hx:x<m.length:=by
    apply Classical.byContradiction
    intro hn
    rw[zK,List.getElem?_eq_none oM]at hk
    simp at hk
   have:=(key x k ⟨hx,hk⟩).2.1
   rw[List.getElem_map,List.getElem_map]
   have hk2:k<(l.getD x []).length:=by rw[<- hrow];exact hk
   have e1:atW m x k=(m.getD x [])[k]:=by unfold atW;rw[zK,zL hk];rfl
   have e2:atW l x k=(l.getD x [])[k]:=by unfold atW;rw[zK,zL hk2];rfl
   rw[<- e1,<- e2];exact this
 ·rw[List.map_map,<- h.size]
  exact List.map_congr_left fun ws _=>by simp
 ·have hi2:inW m x k:=by
   unfold inW at hi ⊢
   rw[yG]at hi
   refine⟨hi.1,?_⟩
   have:=hi.2
   rw[zK,zS,zL hi.1]at this
   simpa[zK,hi.1]using this
  have e:atW (m.map fun ws=>ws.map fixW) x k=fixW (atW m x k):=by
   have hx:=hi2.1
   have hk:=hi2.2
   rw[zK,zL hx]at hk
   simp only[Option.getD_some]at hk
   simp[atW,zK,hx,hk]
  rw[e];exact(key x k hi2).2.2
end Go.Proofs.YtecoaapkcnhlhaaDoor
namespace Go.Proofs.YtecoaapkcnhlhaaDoor
open Go Go.Vc Go.Ham Txt
structure FlipA where
 x:Int
 k:Int
 b:Int
 deriving DecidableEq,Inhabited
def qHu(f:FlipA):List PV:=[.int f.x,.int f.k,.int f.b]
@[push_cast] theorem qHv(f:FlipA):qHu f=[.int f.x,.int f.k,.int f.b]:=rfl
def qHw(l:List (List Nat))(f:FlipA):Prop:=0<=f.x/\f.x<l.length/\0<=f.k/\f.k<(l.getD f.x.toNat []).length/\0<=f.b/\f.b<=63
instance (l:List (List Nat)) (f:FlipA):Decidable (qHw l f):=by unfold qHw;infer_instance
def qHx(l:List (List Nat))(f:FlipA):PV:=if qHw l f then .tup [.sl true 1 (rows (frmC true) (qHb l f.x.toNat f.k.toNat f.b.toNat)),.int 0]else .tup [.nil,.int 1]
set_option maxHeartbeats 400000 in
theorem qHy(l:List (List Nat))(hl:FrmSm l)(f:FlipA):FnEq Tryd.prog 43 [.sl false 1 (rows (frmC false) l),.agg (qHu f)] (qHx l f):=by
 have hn:=hl.n
 have hP:Perm (qHx l f):=by
  unfold qHx
  split
  ·simp only[push_cast,reduceIte,zA,zB,zC,zD,zE,zF,zG,reduceCtorEq,zH,zJ,cNI];simp
  ·exact sC
 refine FnEq.of_awp Tryd.func43 ok43 (by show 2<=_;decide) hP ?_
 simp only[ac43,rv43,push_cast,reduceIte,zA,zB,zC,zD,zE,zF,zG,reduceCtorEq,zH,zJ,cNI]
 refine qrI ⟨[(0,.sl false 1 (rows (frmC false) l)),(3,.ptr 3 0),(43,.bool (!decide (qHw l f)))],[(3,[.int f.x,.int f.k,.int f.b])],[],[]⟩ ?_ ?_
 ·have no: ¬qHw l f->decide (qHw l f)=false:=fun h=>decide_eq_false h
  refine qrE rfl (fun h1=> ?_) fun h1=> ?_<;>simp only[push_cast,reduceIte,zA,zB,zC,zD,zE,zF,zG,reduceCtorEq,zH,zJ,cNI]
  ·rw[no fun h=>by have:=h.1;omega];rfl
  first|(refine qrE rfl (fun h2=> ?_) fun h2=> ?_<;>simp only[push_cast,reduceIte,zA,zB,zC,zD,zE,zF,zG,reduceCtorEq,zH,zJ,cNI])|(refine qrA rfl (fun h2=> ?_) fun h2=> ?_<;>simp only[push_cast,reduceIte,zA,zB,zC,zD,zE,zF,zG,reduceCtorEq,zH,zJ,cNI])
  ·rw[no fun h=>by have:=h.2.1;omega];rfl
  first|(refine qrE rfl (fun h3=> ?_) fun h3=> ?_<;>simp only[push_cast,reduceIte,zA,zB,zC,zD,zE,zF,zG,reduceCtorEq,zH,zJ,cNI])|(refine qrA rfl (fun h3=> ?_) fun h3=> ?_<;>simp only[push_cast,reduceIte,zA,zB,zC,zD,zE,zF,zG,reduceCtorEq,zH,zJ,cNI])
  ·rw[no fun h=>by have:=h.2.2.1;omega];rfl
  have hx:f.x.toNat<l.length:=by omega
  simp only[qEY,push_cast,reduceIte,zA,zB,zC,zD,zE,zF,zG,reduceCtorEq,zH,zJ,cNI]
  refine⟨⟨oM,oM⟩,hx,?_⟩
  first|(refine qrE rfl (fun h4=> ?_) fun h4=> ?_<;>simp only[push_cast,reduceIte,zA,zB,zC,zD,zE,zF,zG,reduceCtorEq,zH,zJ,cNI])|(refine qrA rfl (fun h4=> ?_) fun h4=> ?_<;>simp only[push_cast,reduceIte,zA,zB,zC,zD,zE,zF,zG,reduceCtorEq,zH,zJ,cNI])
  ·rw[no fun h=>by have h5:f.k<(l.getD f.x.toNat default).length:=h.2.2.2.1;omega];rfl
  first|(refine qrE rfl (fun h5=> ?_) fun h5=> ?_<;>simp only[push_cast,reduceIte,zA,zB,zC,zD,zE,zF,zG,reduceCtorEq,zH,zJ,cNI])|(refine qrA rfl (fun h5=> ?_) fun h5=> ?_<;>simp only[push_cast,reduceIte,zA,zB,zC,zD,zE,zF,zG,reduceCtorEq,zH,zJ,cNI])
  ·rw[no fun h=>by have:=h.2.2.2.2.1;omega];rfl
  have e:decide (63<f.b)= !decide (qHw l f):=by
   by_cases h6:63<f.b
   ·rw[decide_eq_true h6,no fun h=>by have:=h.2.2.2.2.2;omega];rfl
   ·rw[decide_eq_false h6,decide_eq_true (show qHw l f from⟨oM,oM,oM,by show f.k<(l.getD f.x.toNat default).length;omega,oM,oM⟩)];rfl
  rw[e]
 ·refine qnX (fun h=> ?_) fun h=> ?_
  ·have hf: ¬qHw l f:=by simpa using h
   unfold qHx
   rw[if_neg hf]
   exact sC
  ·have hf:qHw l f:=by simpa using h
   unfold qHx
   rw[if_pos hf]
   obtain⟨q1,q2,q3,q4,q5,q6⟩:=hf
   simp only[ac43_r3,push_cast,reduceIte,zA,zB,zC,zD,zE,zF,zG,reduceCtorEq,zH,zJ,cNI]
   refine qDN [2507] (naK l.length) (qGW l hl) rfl rfl (qGZ l) ?_
   have hx:f.x.toNat<l.length:=by omega
   obtain⟨x,hxe⟩: ∃x,x=f.x.toNat:=⟨_,rfl⟩
   obtain⟨k,hke⟩: ∃k,k=f.k.toNat:=⟨_,rfl⟩
   obtain⟨b,hbe⟩: ∃b,b=f.b.toNat:=⟨_,rfl⟩
   have hfb:f.b=(b:Int):=by omega
   have hkl:k<(l.getD x []).length:=by rw[<- hxe]at q4;omega
   have hb64:b<64:=by omega
   have hmem:l.getD x []∈l:=by rw[zK,zL oM];exact List.getElem_mem _
   have hw:(l.getD x []).getD k 0<2^64:=by
    rw[zK,zL hkl]
    exact hl.ok _ hmem _ (List.getElem_mem _)
   rw[qH3,<- hxe,<- hke,<- hbe,hfb]
   rw[<- hxe]at hx
   have hcl:(qAY 3000 (rsW l)).length=l.length:=by rw[qB0,qH0]
   have hxor:bitF .xor .u64 ((((l.getD x []).getD k 0:Nat):Int)) (shfF .shl .u64 1 (b:Int))=(((l.getD x []).getD k 0^^^2^b:Nat):Int):=by
    rw[shl1 hb64,qBl hw (Nat.pow_lt_pow_right (by decide) hb64)]
   simp only[ac43_r4,List.cons_append,List.nil_append,<- hxe,<- hke,Nat.mul_one,qFf (qAY 3000 (rsW l)),hcl,qH4 hx,qH5 hx,qEY,qFE,hxor,qFF,qH6 hx,push_cast,reduceIte,zA,zB,zC,zD,zE,zF,zG,reduceCtorEq,zH,zJ,cNI]
   have hdef:qHb l x k b=l.set x ((l.getD x []).set k ((l.getD x []).getD k 0^^^2^b)):=rfl
   refine⟨⟨oM,oM⟩,oM,⟨oM,oM⟩,hkl,oM,⟨oM,oM⟩,hkl,?_⟩
   rw[qH9 hx (ws:=(l.getD x []).set k ((l.getD x []).getD k 0^^^2^b)) (by rw[yF]),<- hdef]
   have hfl:(qHb l x k b).length=l.length:=by rw[hdef,yF]
   refine qr9 ⟨[(6,.sl true 1 (rows (frmC true) (qHb l x k b)))],[],[],[]⟩ (SWk.trans (SWk.dropS (fun i=>i==6) (fun i=>i==2507) (fun _=>true)) ?_) ?_
   ·have hfa:(qAZ 1 54 3000 (rsW (qHb l x k b))).filter (fun _=>true)=qAZ 1 54 3000 (rsW (qHb l x k b)):=List.filter_eq_self.2 fun _ _=>rfl
    rw[hfa]
    refine qHa [(6,.bv 2507 1 l.length)] _ (qHb l x k b) (fun j hj=>⟨⟨beq_false_of_ne (show 2507≠j by omega),rfl⟩,trivial⟩) ?_
    rw[<- qH7]
    simp only[zW,List.map_nil,PV.fbV,PV.fbA,PV.fb,if_true,yG,qH0,hfl,and_self]
   ·refine sB ?_
    exact fun _ _ _ _=>trivial
end Go.Proofs.YtecoaapkcnhlhaaDoor
namespace Go.Proofs.YtecoaapkcnhlhaaDoor.Txt
open Go Go.Vc
set_option maxRecDepth 100000
def xs34_15:List XO:=[⟨0,[],(aO 58 (.ld false 1 (.t 8)))⟩,⟨1,[],(aO 59 (.mv (.t 9)))⟩,⟨2,[],(aO 60 (.ld false 1 (.t 8)))⟩,⟨3,[],(aO 61 (.mv (.t 9)))⟩,⟨4,[2,3],(aO 62 (.ixs 1 (.t 60) (.t 61)))⟩,⟨5,[4],(aO 63 (.ld false 1 (.t 62)))⟩,⟨6,[],(aO 64 (.mv (.t 13)))⟩,⟨7,[6],(aO 65 (.bsl 1 54 [.sc (.int .u64 0)] 1 [(0,(.t 64))]))⟩,⟨8,[5,7],(aO 66 (.app 1 54 8 (.t 63) (.t 65)))⟩,⟨9,[0,1,2,3,4,5,6,7,8],(aO 67 (.ixs 1 (.t 58) (.t 59)))⟩,⟨10,[0,1,2,3,4,5,6,7,8,9],(aN (.sto 1 (.t 67) (.t 66)))⟩]
theorem xs34_15_all{p:XO->Prop} :(∀x∈xs34_15,p x) ↔ p ⟨0,[],(aO 58 (.ld false 1 (.t 8)))⟩/\p ⟨1,[],(aO 59 (.mv (.t 9)))⟩/\p ⟨2,[],(aO 60 (.ld false 1 (.t 8)))⟩/\p ⟨3,[],(aO 61 (.mv (.t 9)))⟩/\p ⟨4,[2,3],(aO 62 (.ixs 1 (.t 60) (.t 61)))⟩/\p ⟨5,[4],(aO 63 (.ld false 1 (.t 62)))⟩/\p ⟨6,[],(aO 64 (.mv (.t 13)))⟩/\p ⟨7,[6],(aO 65 (.bsl 1 54 [.sc (.int .u64 0)] 1 [(0,(.t 64))]))⟩/\p ⟨8,[5,7],(aO 66 (.app 1 54 8 (.t 63) (.t 65)))⟩/\p ⟨9,[0,1,2,3,4,5,6,7,8],(aO 67 (.ixs 1 (.t 58) (.t 59)))⟩/\p ⟨10,[0,1,2,3,4,5,6,7,8,9],(aN (.sto 1 (.t 67) (.t 66)))⟩:=by simp only[xs34_15,List.forall_mem_cons,List.not_mem_nil,false_implies,implies_true,and_true]
def xs34_27:List XO:=[⟨0,[],(aO 1085 (.fa 0 (.t 1020)))⟩,⟨1,[0],(aO 1086 (.ld false 1 (.t 1085)))⟩,⟨2,[1],(aO 1087 (.nck (.t 1086)))⟩,⟨3,[2],(aO 1088 (.ld false 1 (.t 1087)))⟩,⟨4,[],(aO 1089 (.ld false 1 (.t 1018)))⟩,⟨5,[],(aO 1090 (.mv (.t 1019)))⟩,⟨6,[4,5],(aO 1091 (.clv (.t 1089) [(.t 1090)]))⟩,⟨7,[],(aO 1092 (.mv (.t 1021)))⟩,⟨8,[6,7],(aO 1093 (.shf .shl .i64 (.t 1091) (.t 1092)))⟩,⟨9,[3,8],(aO 1094 (.bit .or .i64 (.t 1088) (.t 1093)))⟩,⟨10,[0,1,2,3,4,5,6,7,8,9],(aO 1095 (.nck (.t 1086)))⟩,⟨11,[0,1,2,3,4,5,6,7,8,9,10],(aN (.sto 1 (.t 1095) (.t 1094)))⟩]
theorem xs34_27_all{p:XO->Prop} :(∀x∈xs34_27,p x) ↔ p ⟨0,[],(aO 1085 (.fa 0 (.t 1020)))⟩/\p ⟨1,[0],(aO 1086 (.ld false 1 (.t 1085)))⟩/\p ⟨2,[1],(aO 1087 (.nck (.t 1086)))⟩/\p ⟨3,[2],(aO 1088 (.ld false 1 (.t 1087)))⟩/\p ⟨4,[],(aO 1089 (.ld false 1 (.t 1018)))⟩/\p ⟨5,[],(aO 1090 (.mv (.t 1019)))⟩/\p ⟨6,[4,5],(aO 1091 (.clv (.t 1089) [(.t 1090)]))⟩/\p ⟨7,[],(aO 1092 (.mv (.t 1021)))⟩/\p ⟨8,[6,7],(aO 1093 (.shf .shl .i64 (.t 1091) (.t 1092)))⟩/\p ⟨9,[3,8],(aO 1094 (.bit .or .i64 (.t 1088) (.t 1093)))⟩/\p ⟨10,[0,1,2,3,4,5,6,7,8,9],(aO 1095 (.nck (.t 1086)))⟩/\p ⟨11,[0,1,2,3,4,5,6,7,8,9,10],(aN (.sto 1 (.t 1095) (.t 1094)))⟩:=by simp only[xs34_27,List.forall_mem_cons,List.not_mem_nil,false_implies,implies_true,and_true]
def ac34_r14:AC:=
 (.seq (.reg [0,126,1,2,4,7,8,9,13,14,32,33,34,40,41,42] [
 (aO 55 (.mv (.t 7))),(aO 56 (.mv (.t 14))),(aO 57 (.ari .add true .i64 (.t 55) (.t 56))),(aO 7 (.mv (.t 57)))])
 (.dra [0,126,1,2,4,7,8,9,13,32,33,34,40,41,42] xs34_15))
def ac34_r8:AC:=
 (.seq (.reg [0,126,1,2,4,7,8,9,10,32,33,34] [
 (aO 39 (.fa 0 (.t 10))),(aO 40 (.ld false 1 (.t 39))),(aO 41 (.len (.t 40))),(aO 42 (.mv (kI 0)))])
 (.block 2
 (.lps [0,126,1,2,4,7,8,9,32,33,34,40,41,42]
 (.seq (.reg [0,126,1,2,4,7,8,9,32,33,34,40,41,42] [
 (aO 43 (.cmp .lss .i64 (.t 42) (.t 41)))])
 (.seq (.cond (.t 43)
 .skip
 (.exit 2))
 (.seq (.block 3
 (.seq (.reg [0,126,1,2,4,7,8,9,32,33,34,40,41,42] [
 (aO 44 (.ixs 1 (.t 40) (.t 42))),(aO 45 (.ld false 1 (.t 44))),(aO 12 (.mv (.t 45)))])
 (.seq (.reg [0,126,1,2,4,7,8,9,12,32,33,34,40,41,42] [
 (aO 47 (.mv (.t 12))),(aO 48 (.cal 25 [(.t 47)])),(aO 46 (.mv (.t 48))),(aO 49 (.ext (.t 46) 0)),(aO 50 (.ext (.t 46) 1)),(aO 51 (.ext (.t 46) 2)),(aO 13 (.mv (.t 49))),(aO 14 (.mv (.t 50))),(aO 15 (.mv (.t 51)))])
 (.seq (.seq (.reg [0,126,1,2,4,7,8,9,13,14,15,32,33,34,40,41,42] [
 (aO 52 (.mv (.t 15))),(aO 53 (.cmp .neq .i64 (.t 52) (kI 0)))])
 (.cond (.t 53)
 (.seq (.reg [0,126,4] [
 (aO 54 (.bld [.nil,.nil,.nil,.nil] [])),(aN (.sto 4 (.t 4) (.t 54))),(aO 5 (.mv (kI 0))),(aO 6 (.mv (kI 380)))])
 .ret)
 .skip))
 ac34_r14))))
 (.reg [0,126,1,2,4,7,8,9,32,33,34,40,41,42] [
 (aO 68 (.ari .add true .i64 (.t 42) (kI 1))),(aO 42 (.mv (.t 68)))])))))))
def ac34_r26:AC:=
 (.seq (.reg [1000,126,1018,1019,1020,1081,1082] [
 (aO 1084 (.mv (.t 1082))),(aO 1021 (.mv (.t 1084)))])
 (.dra [1000,126,1018,1019,1020,1021,1081,1082] xs34_27))
def ac34_r24:AC:=
 (.seq (.reg [1000,126,1018,1019,1020] [
 (aO 1080 (.fa 1 (.t 1020))),(aO 1081 (.ld false 1 (.t 1080))),(aO 1082 (.mv (kI 0)))])
 (.block 6
 (.lps [1000,126,1018,1019,1020,1081,1082]
 (.seq (.reg [1000,126,1018,1019,1020,1081,1082] [
 (aO 1083 (.cmp .lss .i64 (.t 1082) (.t 1081)))])
 (.seq (.cond (.t 1083)
 .skip
 (.exit 6))
 (.seq (.block 7
 ac34_r26)
 (.reg [1000,126,1018,1019,1020,1081,1082] [
 (aO 1096 (.ari .add true .i64 (.t 1082) (kI 1))),(aO 1082 (.mv (.t 1096)))])))))))
def ac34_r31:AC:=
 (.seq (.reg [0,126,2,4,7,8,16,17,18,98,99] [
 (aO 101 (.mv (.t 99))),(aO 22 (.mv (.t 101)))])
 (.block 10
 (.lps [0,126,2,4,7,8,16,17,18,22,98,99]
 (.seq (.seq (.drw [0,126,2,4,7,8,16,17,18,22,98,99] [
 (eT 102 (.ld false 1 (.t 17))),(eT 103 (.mv (.t 22))),(eT 104 (.ixs 1 (.t 102) (.t 103))),(eT 105 (.ld false 1 (.t 104))),(eT 106 (.ld false 1 (.t 8))),(eT 107 (.mv (.t 22))),(eT 108 (.ixs 1 (.t 106) (.t 107))),(eT 109 (.ld false 1 (.t 108))),(eT 110 (.len (.t 109))),(eT 111 (.ari .mul true .i64 (kI 57) (.t 110))),(eF 112 (.cmp .lss .i64 (.t 105) (.t 111)))])
 (.cond (.t 112)
 .skip
 (.exit 10)))
 (.block 11
 (.seq (.reg [0,126,2,4,7,8,16,17,18,22,98,99] [
 (aO 113 (.ld false 1 (.t 18))),(aO 114 (.mv (.t 22))),(aO 115 (.clv (.t 113) [(.t 114)])),(aO 116 (.cmp .neq .i64 (.t 115) (kI 0)))])
 (.cond (.t 116)
 (.seq (.reg [0,126,4] [
 (aO 117 (.bld [.nil,.nil,.nil,.nil] [])),(aN (.sto 4 (.t 4) (.t 117))),(aO 5 (.mv (kI 0))),(aO 6 (.mv (kI 380)))])
 .ret)
 .skip)))))))
def ac34_r36:AC:=
 (.seq (.seq (.reg [0,126,2,4,7,16] [
 (aO 119 (.ld true 5 (.t 2))),(aO 120 (.ld true 4 (.t 16))),(aO 121 (.cal 18 [(.t 119),(.t 120)])),(aO 122 (.cmp .neq .i64 (.t 121) (kI 0)))])
 (.cond (.t 122)
 (.seq (.reg [0,126,4] [
 (aO 123 (.bld [.nil,.nil,.nil,.nil] [])),(aN (.sto 4 (.t 4) (.t 123))),(aO 5 (.mv (kI 0))),(aO 6 (.mv (kI 380)))])
 .ret)
 .skip))
 (.seq (.reg [0,126,4,7,16] [
 (aO 124 (.ld true 4 (.t 16))),(aO 125 (.mv (.t 7))),(aN (.sto 4 (.t 4) (.t 124))),(aO 5 (.mv (.t 125))),(aO 6 (.mv (kI 0)))])
 .ret))
def ac34_r29:AC:=
 (.seq (.seq (.reg [0,126,1,2,4,7,8,16,17,18] [
 (aO 97 (.mv (.t 1))),(aO 98 (.len (.t 97))),(aO 99 (.mv (kI 0)))])
 (.block 8
 (.lps [0,126,2,4,7,8,16,17,18,98,99]
 (.seq (.reg [0,126,2,4,7,8,16,17,18,98,99] [
 (aO 100 (.cmp .lss .i64 (.t 99) (.t 98)))])
 (.seq (.cond (.t 100)
 .skip
 (.exit 8))
 (.seq (.block 9
 ac34_r31)
 (.reg [0,126,2,4,7,8,16,17,18,98,99] [
 (aO 118 (.ari .add true .i64 (.t 99) (kI 1))),(aO 99 (.mv (.t 118)))])))))))
 ac34_r36)
def ac34_r21:AC:=
 (.seq (.seq (.reg [0,126,1,2,4,7,8,16,17,18] [
 (aO 76 (.ld true 5 (.t 2))),(aO 77 (.clm 53 [(.t 76),(.t 16)]))])
 (.block 4
 (.rngf ⟨(.t 77),0,126,1000,[0,126,1,2,4,7,8,16,17,18,77],999⟩ [1078,1079]
 (.seq (.reg [1000,126,1018,1078,1079] [
 (aO 1019 (.mv (.t 1078)))])
 (.reg [1000,126,1018,1019,1079] [
 (aO 1020 (.alc [.sc (.pointer none),zI])),(aN (.sto 2 (.t 1020) (.t 1079)))]))
 (.block 5
 ac34_r24))))
 ac34_r29)
def ac34_r18:AC:=
 (.seq (.reg [0,126,1,2,4,7,8] [
 (aO 70 (.ld true 5 (.t 2))),(aO 71 (.clm 56 [(.t 70)])),(aO 16 (.alc [.nil,.nil,.nil,.nil])),(aN (.sto 4 (.t 16) (.t 71)))])
 (.seq (.reg [0,126,1,2,4,7,8,16] [
 (aO 72 (.mv (.t 1))),(aO 73 (.len (.t 72))),(aO 74 (.mks 1 3 8 [zI] (.t 73) (.t 73))),(aO 17 (.alc [.nil])),(aN (.sto 1 (.t 17) (.t 74)))])
 (.seq (.reg [0,126,1,2,4,7,8,16,17] [
 (aO 75 (.mkf 57 [(.t 8),(.t 17)])),(aO 18 (.alc [.sc .nilFunc])),(aN (.sto 1 (.t 18) (.t 75)))])
 ac34_r21)))
def ac34_r3:AC:=
 (.seq (.reg [0,126,1,2,4] [
 (aO 7 (.mv (kI 0)))])
 (.seq (.reg [0,126,1,2,4,7] [
 (aO 29 (.mv (.t 1))),(aO 30 (.len (.t 29))),(aO 31 (.xo (.mkx 24 (.nil)) [(.t 30)])),(aO 8 (.alc [.nil])),(aN (.sto 1 (.t 8) (.t 31)))])
 (.seq (.seq (.reg [0,126,1,2,4,7,8] [
 (aO 32 (.mv (.t 1))),(aO 33 (.len (.t 32))),(aO 34 (.mv (kI 0)))])
 (.block 0
 (.lps [0,126,1,2,4,7,8,32,33,34]
 (.seq (.reg [0,126,1,2,4,7,8,32,33,34] [
 (aO 35 (.cmp .lss .i64 (.t 34) (.t 33)))])
 (.seq (.cond (.t 35)
 .skip
 (.exit 0))
 (.seq (.block 1
 (.seq (.reg [0,126,1,2,4,7,8,32,33,34] [
 (aO 36 (.mv (.t 34))),(aO 37 (.ixs 1 (.t 32) (.t 34))),(aO 38 (.ld true 1 (.t 37))),(aO 10 (.alc [.nil])),(aO 9 (.mv (.t 36))),(aN (.sto 1 (.t 10) (.t 38)))])
 ac34_r8))
 (.reg [0,126,1,2,4,7,8,32,33,34] [
 (aO 69 (.ari .add true .i64 (.t 34) (kI 1))),(aO 34 (.mv (.t 69)))])))))))
 ac34_r18)))
def ac34:AC:=
 (.seq (.reg [0,126,0,1] [
 (aO 2 (.box (.t 0))),(aO 4 (.alc [.nil,.nil,.nil,.nil])),(aO 5 (.mv (kI 0))),(aO 6 (.mv (kI 0)))])
 (.seq (.seq (.reg [0,126,1,2,4] [
 (aO 23 (.mv (.t 1))),(aO 24 (.ld true 5 (.t 2))),(aO 25 (.cal 15 [(.t 24)])),(aO 26 (.cal 54 [(.t 23),(.t 25),(.c (.sc (.func (.func 55) #[] #[])))])),(aO 27 (.not (.t 26)))])
 (.cond (.t 27)
 (.seq (.reg [0,126,4] [
 (aO 28 (.bld [.nil,.nil,.nil,.nil] [])),(aN (.sto 4 (.t 4) (.t 28))),(aO 5 (.mv (kI 0))),(aO 6 (.mv (kI 380)))])
 .ret)
 .skip))
 ac34_r3))
def rv34:List RV:=[.cell 4 true 4,.tmp 5,.tmp 6]
theorem ok34:fnOk Tryd.prog ac34 rv34 Tryd.f34=true:=by kernel_rfl

def ac57_2000:AC:=
 (.seq (.reg [2000,32,2000,2001,2002] [
 (aO 2004 (.mv (kI 0)))])
 (.seq (.drw [2000,32,2000,2001,2002] [
 (eT 2006 (.ld false 1 (.t 2001))),(eT 2007 (.mv (.t 2000))),(eT 2008 (.ixs 1 (.t 2006) (.t 2007))),(eT 2009 (.ld false 1 (.t 2008))),(eT 2010 (.ld false 1 (.t 2002))),(eT 2011 (.mv (.t 2000))),(eT 2012 (.ixs 1 (.t 2010) (.t 2011))),(eT 2013 (.ld false 1 (.t 2012))),(eT 2014 (.dvd .quo true .i64 (.t 2013) (kI 57))),(eT 2015 (.ixs 1 (.t 2009) (.t 2014))),(eT 2016 (.ld false 1 (.t 2015))),(eT 2017 (.ld false 1 (.t 2002))),(eT 2018 (.mv (.t 2000))),(eT 2019 (.ixs 1 (.t 2017) (.t 2018))),(eT 2020 (.ld false 1 (.t 2019))),(eT 2021 (.dvd .rem true .i64 (.t 2020) (kI 57))),(eF 2022 (.shf .shr .u64 (.t 2016) (.t 2021))),(eF 2023 (.bit .and .u64 (.t 2022) (.c (.sc (.int .u64 1))))),(eF 2005 (.mv (.t 2023)))])
 (.seq (.reg [2000,32,2000,2002,2005] [
 (aO 2024 (.ld false 1 (.t 2002))),(aO 2025 (.mv (.t 2000))),(aO 2026 (.ixs 1 (.t 2024) (.t 2025))),(aO 2027 (.ld false 1 (.t 2026))),(aO 2028 (.ari .add true .i64 (.t 2027) (kI 1))),(aO 2029 (.ixs 1 (.t 2024) (.t 2025))),(aN (.sto 1 (.t 2029) (.t 2028)))])
 (.seq (.reg [2000,32,2005] [
 (aO 2030 (.mv (.t 2005))),(aO 2031 (.cnv true .i64 (.t 2030))),(aO 2004 (.mv (.t 2031)))])
 .ret))))
def rv57_2000:List RV:=[.tmp 2004]
theorem ok57_2000:qh6 Tryd.prog 2000 ac57_2000 rv57_2000 Tryd.f57=true:=by kernel_rfl

def ac56_100:AC:=
 (.seq (.reg [100,17,100] [
 (aO 101 (.box (.t 100))),(aO 102 (.alc [.nil,.nil,.nil,.nil]))])
 (.seq (.reg [100,17,101,102] [
 (aO 104 (.fa 4 (.t 101))),(aO 105 (.ld false 1 (.t 104))),(aO 106 (.len (.t 105))),(aO 103 (.mv (.t 106)))])
 (.seq (.drw [100,17,101,102,103] [
 (eU 107 (.ld true 5 (.t 101)) [] [111,113,115]),(eU 108 (.cal 39 [(.t 107)]) [] [111,113,115]),(eU 109 (.mks 1 3 8 [zI] (.t 108) (.t 108)) [109] [111,113,115]),(eU 110 (.mv (.t 103)) [] [109,113,115]),(eU 111 (.mks 1 3 8 [zI] (.t 110) (.t 110)) [111] [109,113,115]),(eU 112 (.mv (.t 103)) [] [109,111,115]),(eU 113 (.mks 1 3 8 [zI] (.t 112) (.t 112)) [113] [109,111,115]),(eU 114 (.mv (.t 103)) [] [109,111,113]),(eU 115 (.mks 1 3 8 [zI] (.t 114) (.t 114)) [115] [109,111,113]),(eF 116 (.bld [.nil,.nil,.nil,.nil] [(0,1,(.t 109)),(1,1,(.t 111)),(2,1,(.t 113)),(3,1,(.t 115))])),⟨(aN (.sto 4 (.t 102) (.t 116))),[],[],false⟩])
 .ret)))
def rv56_100:List RV:=[.cell 102 true 4]
theorem ok56_100:qh6 Tryd.prog 100 ac56_100 rv56_100 Tryd.f56=true:=by kernel_rfl
end Go.Proofs.YtecoaapkcnhlhaaDoor.Txt
namespace Go.Proofs.YtecoaapkcnhlhaaDoor
open Go Go.Vc Txt
def qHz(v:Int)(n xi len:Nat)(cell cell' :PV)(dn:List Nat):Nat->PV
 |0=> .bv 31 1 n
 |1=> .int xi
 |2=> .bv 31 1 n
 |3=> .int xi
 |4=> .ptr 31 xi
 |5=>if dn.contains 8=true then cell' else cell
 |6=> .sc (.int .u64 v)
 |7=> .view 65 0 1
 |8=> .view 66 0 (len+1)
 |9=> .ptr 31 xi
 |_=> .bot
def qHA(b b7 b9:List (Nat×List PV))(a a6 a7:List (Nat×Arr))(dn:List Nat):List (Nat×List PV)×List (Nat×Arr)×List (Nat×Mp):=
 (if dn.contains 10=true then b9 else if dn.contains 8=true then b7 else b,if dn.contains 8=true then a7 else if dn.contains 7=true then a6 else a,[])
def qHB(a:List (Nat×Arr))(W:List (List PV))(cell cell' :PV):Prop:=(cell= .nil/\W=[]/\cell' = .nil)\/(cell= .view 66 0 W.length/\lk a 66=some ⟨1,54,W⟩/\cell' = .bot)
set_option maxHeartbeats 4000000 in
theorem qHC {P : Env} {s0 : List (Nat × PV)} {b b7 : List (Nat × List PV)} {a : List (Nat × Arr)} (n xi : Nat) (W : List (List PV)) (cell cell' : PV) (C C7 : List PV) (v : Int) (K : St -> Prop)
  (hP:getL s0 8= .ptr 8 0) (hX:getL s0 9= .int xi) (hx:xi<n) (hW:W.length<100000000) (hv:getL s0 13= .sc (.int .u64 v))
  (hb1:lk b 8=some [.bv 31 1 n]) (hb2:lk b7 8=some [.bv 31 1 n]) (hc:lk b 31=some C) (hc7:lk b7 31=some C7) (hC:C.length=n) (hC7:C7.length=n) (hcell:C.getD xi .bot=cell)
  (k6:qiF nul (isId 65) b=b) (k7:qiF nul (isId 66) b=b7) (f6:qiE nul (isId 65) s0=s0) (f7:qiE nul (isId 66) s0=s0)
  (h:qHB a W cell cell')
  (hK:K ⟨slA (qHz v n xi W.length cell cell' [8]) xs34_15 s0,up b7 31 (C7.set xi (.view 66 0 (W.length+1))),up (up a 65 ⟨1,54,[[.sc (.int .u64 v)]]⟩) 66 ⟨1,54,W++[[.sc (.int .u64 v)]]⟩,[]⟩):
  allK P xs34_15 xs34_15.length [] ⟨s0,b,a,[]⟩ K:=by
 have hlk: ∀(l:List (Nat×Arr)) (A:Arr),lk (up l 65 A) 66=lk l 66:=fun l A=>by rw[qa2,if_neg (by decide)]
 have hlk6: ∀(l:List (Nat×Arr)) (A:Arr),lk (up l 65 A) 65=some A:=fun l A=>by rw[qa2,if_pos rfl]
 have hub: ∀(c:List PV),lk (up b7 31 c) 8=some [.bv 31 1 n]:=fun c=>by rw[qa2,if_neg (by decide)];exact hb2
 refine qFl (ops:=xs34_15) (qHz v n xi W.length cell cell') (qHA b b7 (up b7 31 (C7.set xi (.view 66 0 (W.length+1)))) a (up a 65 ⟨1,54,[[.sc (.int .u64 v)]]⟩) (up (up a 65 ⟨1,54,[[.sc (.int .u64 v)]]⟩) 66 ⟨1,54,W++[[.sc (.int .u64 v)]]⟩)) rfl rfl ?_ ?_ rfl
 ·rw[xs34_15_all]
  refine⟨?_,?_,?_,?_,?_,?_,?_,?_,?_,?_,?_⟩
  ·intro dn S hr hc' hS L K hK
   have h9:dn.contains 10=false:=qAR hc' hr (zP (i:=10) rfl) (by decide)
   have g0:getL S 8= .ptr 8 0:=(L 8 trivial).trans hP
   have e:qHz v n xi W.length cell cell' (0::dn)=qHz v n xi W.length cell cell' dn:=rfl
   have em:qHA b b7 (up b7 31 (C7.set xi (.view 66 0 (W.length+1)))) a (up a 65 ⟨1,54,[[.sc (.int .u64 v)]]⟩) (up (up a 65 ⟨1,54,[[.sc (.int .u64 v)]]⟩) 66 ⟨1,54,W++[[.sc (.int .u64 v)]]⟩) (0::dn)=qHA b b7 (up b7 31 (C7.set xi (.view 66 0 (W.length+1)))) a (up a 65 ⟨1,54,[[.sc (.int .u64 v)]]⟩) (up (up a 65 ⟨1,54,[[.sc (.int .u64 v)]]⟩) 66 ⟨1,54,W++[[.sc (.int .u64 v)]]⟩) dn:=rfl
   rw[em,e,<- hS]at hK
   revert hK
   unfold qHA
   rw[h9]
   intro hK
   cases h7:dn.contains 8<;>rw[h7]at hK<;>simp only[g0,hb1,hb2,push_cast,reduceIte,zA,zB,zC,zD,zE,zF,zG,reduceCtorEq,zH,zJ,cNI]at hK ⊢ <;>exact hK
  ·intro dn S hr hc' hS L K hK
   have g0:getL S 9= .int xi:=(L 9 trivial).trans hX
   have e:qHz v n xi W.length cell cell' (1::dn)=qHz v n xi W.length cell cell' dn:=rfl
   rw[e,<- hS]at hK
   simp only[g0,push_cast,reduceIte,zA,zB,zC,zD,zE,zF,zG,reduceCtorEq,zH,zJ,cNI]
   exact hK
  ·intro dn S hr hc' hS L K hK
   have h9:dn.contains 10=false:=qAR hc' hr (zP (i:=10) rfl) (by decide)
   have g0:getL S 8= .ptr 8 0:=(L 8 trivial).trans hP
   have e:qHz v n xi W.length cell cell' (2::dn)=qHz v n xi W.length cell cell' dn:=rfl
   have em:qHA b b7 (up b7 31 (C7.set xi (.view 66 0 (W.length+1)))) a (up a 65 ⟨1,54,[[.sc (.int .u64 v)]]⟩) (up (up a 65 ⟨1,54,[[.sc (.int .u64 v)]]⟩) 66 ⟨1,54,W++[[.sc (.int .u64 v)]]⟩) (2::dn)=qHA b b7 (up b7 31 (C7.set xi (.view 66 0 (W.length+1)))) a (up a 65 ⟨1,54,[[.sc (.int .u64 v)]]⟩) (up (up a 65 ⟨1,54,[[.sc (.int .u64 v)]]⟩) 66 ⟨1,54,W++[[.sc (.int .u64 v)]]⟩) dn:=rfl
   rw[em,e,<- hS]at hK
   revert hK
   unfold qHA
   rw[h9]
   intro hK
   cases h7:dn.contains 8<;>rw[h7]at hK<;>simp only[g0,hb1,hb2,push_cast,reduceIte,zA,zB,zC,zD,zE,zF,zG,reduceCtorEq,zH,zJ,cNI]at hK ⊢ <;>exact hK
  ·intro dn S hr hc' hS L K hK
   have g0:getL S 9= .int xi:=(L 9 trivial).trans hX
   have e:qHz v n xi W.length cell cell' (3::dn)=qHz v n xi W.length cell cell' dn:=rfl
   rw[e,<- hS]at hK
   simp only[g0,push_cast,reduceIte,zA,zB,zC,zD,zE,zF,zG,reduceCtorEq,zH,zJ,cNI]
   exact hK
  ·intro dn S hr hc' hS L K hK
   have g1:getL S 60= .bv 31 1 n:=L 60 (qAP hr (j:=2) (by decide))
   have g2:getL S 61= .int xi:=L 61 (qAP hr (j:=3) (by decide))
   have e:qHz v n xi W.length cell cell' (4::dn)=qHz v n xi W.length cell cell' dn:=rfl
   rw[e,<- hS]at hK
   simp only[g1,g2,Nat.mul_one,push_cast,reduceIte,zA,zB,zC,zD,zE,zF,zG,reduceCtorEq,zH,zJ,cNI]
   exact⟨⟨oM,oM⟩,hK⟩
  ·intro dn S hr hc' hS L K hK
   have g1:getL S 62= .ptr 31 xi:=L 62 (qAP hr (j:=4) (by decide))
   have h7:dn.contains 8=false:=qAR hc' hr (zP (i:=8) rfl) (by decide)
   have h9:dn.contains 10=false:=qAR hc' hr (zP (i:=10) rfl) (by decide)
   have e:qHz v n xi W.length cell cell' (5::dn)=qHz v n xi W.length cell cell' dn:=rfl
   have em: ∀q1 q2 q3 q4 q5 q6,qHA q1 q2 q3 q4 q5 q6 (5::dn)=qHA q1 q2 q3 q4 q5 q6 dn:=fun _ _ _ _ _ _=>rfl
   rw[em,e,<- hS]at hK
   have e5:qHz v n xi W.length cell cell' dn 5=cell:=by
    show(if dn.contains 8=true then cell' else cell)=cell
    rw[h7];rfl
   have hK:K ⟨up S 63 (qHz v n xi W.length cell cell' dn 5),_,_,_⟩:=hK
   rw[e5]at hK
   revert hK
   unfold qHA
   rw[h9,h7]
   intro hK
   simp only[g1,hc,qFf C,hcell,hC,push_cast,reduceIte,zA,zB,zC,zD,zE,zF,zG,reduceCtorEq,zH,zJ,cNI]at hK ⊢
   exact⟨oM,hK⟩
  ·intro dn S hr hc' hS L K hK
   have g0:getL S 13= .sc (.int .u64 v):=(L 13 trivial).trans hv
   have e:qHz v n xi W.length cell cell' (6::dn)=qHz v n xi W.length cell cell' dn:=rfl
   rw[e,<- hS]at hK
   simp only[g0,push_cast,reduceIte,zA,zB,zC,zD,zE,zF,zG,reduceCtorEq,zH,zJ,cNI]
   exact hK
  ·intro dn S hr hc' hS L K hK
   have h7:dn.contains 8=false:=qAR hc' hr (zP (i:=8) rfl) (by decide)
   have h9:dn.contains 10=false:=qAR hc' hr (zP (i:=10) rfl) (by decide)
   have h6:dn.contains 7=false:=qAQ hr
   have e:qHz v n xi W.length cell cell' (7::dn)=qHz v n xi W.length cell cell' dn:=rfl
   have em: ∀q1 q2 q3 q4 q5 q6,qHA q1 q2 q3 q4 q5 q6 (7::dn)=(q1,q5,[]):=fun q1 q2 q3 q4 q5 q6=>by
    show(if dn.contains 10=true then _ else if dn.contains 8=true then _ else _,if dn.contains 8=true then _ else if true=true then _ else _,_)=_
    rw[h9,h7];rfl
   have em0: ∀q1 q2 q3 q4 q5 q6,qHA q1 q2 q3 q4 q5 q6 dn=(q1,q4,[]):=fun q1 q2 q3 q4 q5 q6=>by
    unfold qHA
    rw[h9,h7,h6];rfl
   rw[em,e,<- hS]at hK
   rw[em0]
   have hkS:qiE nul (isId 65) S=S:=by
    rw[hS,qFi,f6]
    apply qFj
    intro i hi
    rcases i with _|_|_|_|_|_|_|_|_|_|_|i<;>try rfl
    ·show PV.killV nul (isId 65) (if dn.contains 8=true then cell' else cell)=(if dn.contains 8=true then cell' else cell)
     rw[h7]
     rcases h with⟨h1,-,-⟩|⟨h1,-,-⟩<;>rw[h1]<;>rfl
    ·rw[h6]at hi;cases hi
   have g1:getL S 64= .sc (.int .u64 v):=L 64 (qAP hr (j:=6) (by decide))
   simp only[g1,hkS,k6,rep1,List.set_cons_zero,zV,List.length_nil,push_cast,reduceIte,zA,zB,zC,zD,zE,zF,zG,reduceCtorEq,zH,zJ,cNI]at hK ⊢
   first|exact hK|exact⟨by decide,hK⟩
  ·intro dn S hr hc' hS L K hK
   have h9:dn.contains 10=false:=qAR hc' hr (zP (i:=10) rfl) (by decide)
   have h7:dn.contains 8=false:=qAQ hr
   have h6:dn.contains 7=true:=qAP hr (j:=7) (by decide)
   have g5:getL S 63=cell:=by
    rw[L 63 (qAP hr (j:=5) (by decide))]
    show(if dn.contains 8=true then cell' else cell)=cell
    rw[h7];rfl
   have g6:getL S 65= .view 65 0 1:=L 65 (qAP hr (j:=7) (by decide))
   have em: ∀q1 q2 q3 q4 q5 q6,qHA q1 q2 q3 q4 q5 q6 (8::dn)=(q2,q6,[]):=fun q1 q2 q3 q4 q5 q6=>by
    show(if dn.contains 10=true then _ else if true=true then _ else _,if true=true then _ else if dn.contains 7=true then _ else _,_)=_
    rw[h9];rfl
   have em0: ∀q1 q2 q3 q4 q5 q6,qHA q1 q2 q3 q4 q5 q6 dn=(q1,q5,[]):=fun q1 q2 q3 q4 q5 q6=>by
    unfold qHA
    rw[h9,h7,h6];rfl
   rw[em]at hK
   rw[em0]
   have hkS:qiE nul (isId 66) S=slD (qHz v n xi W.length cell cell' (8::dn)) dn xs34_15 s0:=by
    rw[hS,qFi,f7]
    apply qFj
    intro i hi
    rcases i with _|_|_|_|_|_|_|_|_|_|_|i<;>try rfl
    ·show PV.killV nul (isId 66) (if dn.contains 8=true then cell' else cell)=cell'
     rw[h7]
     rcases h with⟨h1,-,h3⟩|⟨h1,-,h3⟩<;>rw[h1,h3]<;>rfl
    ·rw[h7]at hi;cases hi
   have hK:K ⟨up (slD (qHz v n xi W.length cell cell' (8::dn)) dn xs34_15 s0) 66 (.view 66 0 (W.length+1)),_,_,_⟩:=hK
   rw[<- hkS]at hK
   rcases h with⟨h1,h2,h3⟩|⟨h1,h2,h3⟩
   ·subst h2
    rw[h1]at g5
    simp only[g5,g6,hlk6,k7,List.take_succ_cons,List.take_zero,zV,List.length_nil,List.nil_append,push_cast,reduceIte,zA,zB,zC,zD,zE,zF,zG,reduceCtorEq,zH,zJ,cNI]at hK ⊢
    first|exact hK|exact⟨by decide,hK⟩
   ·rw[h1]at g5
    simp only[g5,g6,hlk,hlk6,h2,k7,List.take_succ_cons,List.take_zero,zV,List.length_nil,push_cast,reduceIte,zA,zB,zC,zD,zE,zF,zG,reduceCtorEq,zH,zJ,cNI]at hK ⊢
    exact⟨⟨oM,oM⟩,hK⟩
  ·intro dn S hr hc' hS L K hK
   have h9:dn.contains 10=false:=qAR hc' hr (zP (i:=10) rfl) (by decide)
   have g1:getL S 58= .bv 31 1 n:=L 58 (qAP hr (j:=0) (by decide))
   have g2:getL S 59= .int xi:=L 59 (qAP hr (j:=1) (by decide))
   have e:qHz v n xi W.length cell cell' (9::dn)=qHz v n xi W.length cell cell' dn:=rfl
   rw[e,<- hS]at hK
   simp only[g1,g2,Nat.mul_one,push_cast,reduceIte,zA,zB,zC,zD,zE,zF,zG,reduceCtorEq,zH,zJ,cNI]
   exact⟨⟨oM,oM⟩,hK⟩
  ·intro dn S hr hc' hS L K hK
   have h9:dn.contains 10=false:=qAQ hr
   have h7:dn.contains 8=true:=qAP hr (j:=8) (by decide)
   have g1:getL S 67= .ptr 31 xi:=L 67 (qAP hr (j:=9) (by decide))
   have g2:getL S 66= .view 66 0 (W.length+1):=L 66 (qAP hr (j:=8) (by decide))
   have e:qHz v n xi W.length cell cell' (10::dn)=qHz v n xi W.length cell cell' dn:=rfl
   have em: ∀q1 q2 q3 q4 q5 q6,qHA q1 q2 q3 q4 q5 q6 (10::dn)=(q3,q6,[]):=fun q1 q2 q3 q4 q5 q6=>by
    show(if true=true then _ else if dn.contains 8=true then _ else _,if dn.contains 8=true then _ else if dn.contains 7=true then _ else _,_)=_
    rw[h7];rfl
   have em0: ∀q1 q2 q3 q4 q5 q6,qHA q1 q2 q3 q4 q5 q6 dn=(q2,q6,[]):=fun q1 q2 q3 q4 q5 q6=>by
    unfold qHA
    rw[h9,h7];rfl
   rw[em,e,<- hS]at hK
   rw[em0]
   have hK:K ⟨S,_,_,_⟩:=hK
   simp only[g1,g2,hc7,hC7,qFg C7 xi _ oM,push_cast,reduceIte,zA,zB,zC,zD,zE,zF,zG,reduceCtorEq,zH,zJ,cNI]at hK ⊢
   exact⟨oM,hK⟩
 ·intro dn h
  rw[xs34_15_all]at h
  obtain⟨h0,h1,h2,h3,h4,h5,h6,h7,h8,h9,h10⟩:=h
  have em: ∀q1 q2 q3 q4 q5 q6,qHA q1 q2 q3 q4 q5 q6 dn=(q3,q6,[]):=fun q1 q2 q3 q4 q5 q6=>by
   unfold qHA
   rw[if_pos h10,if_pos h8]
  have ev:qHz v n xi W.length cell cell' dn=qHz v n xi W.length cell cell' [8]:=by
   funext i
   rcases i with _|_|_|_|_|_|_|_|_|_|_|i<;>try rfl
   show(if dn.contains 8=true then cell' else cell)=cell'
   rw[if_pos h8]
  rw[em,ev]
  exact hK
end Go.Proofs.YtecoaapkcnhlhaaDoor
namespace Go.Proofs.YtecoaapkcnhlhaaDoor
open Go Go.Vc Go.Ham Txt
def decB(g:Grid)(n:Nat)(C:List PV):List (Nat×List PV):=[(2,quX false g),(4,[.nil,.nil,.nil,.nil]),(8,[.bv 31 1 n]),(31,C)]
def rw66(W:List Nat):List (Nat×Arr):=match W with|[]=>[]|_::_=>[(66,⟨1,54,rows u64C (nats W)⟩)]
def rc66(W:List Nat):PV:=match W with|[]=> .nil|_::_=> .view 66 0 W.length
set_option maxHeartbeats 2000000 in
theorem qHD (g : Grid) (l : List (List Nat)) (n x : Nat) (hx : x < n) (C : List PV) (hC : C.length = n) (hCf : ∀ j, anyT nul (isId j) C = false) (hC0 : C.set x .nil = C) (f : Int) (w : Nat) (hf : 0 <= f /\ f <= 1000000000) (hw : w <= 1) (d : Nat) (W : List Nat) (hW : W.length < 100000000)
  (ws:List Nat) (i len:Int) (Q:Exit->St->Prop)
  (hQ: ∀z,Q .normal ⟨[(1,.sl false 1 (rows (frmC false) l)),(2,.ptr 2 0),(4,.ptr 4 0),(7,.int (f+w)),(8,.ptr 8 0),(9,.int x),(13,.sc (.int .u64 d)),(32,.sl false 1 (rows (frmC false) l)),(33,.int n),(34,.int x),(40,.sl false 1 (rows u64C (nats ws))),(41,.int len),(42,.int i),(58,.bv 31 1 n),(59,.int x),(60,.bv 31 1 n),(61,.int x),(62,.ptr 31 x),(63,z),(64,.sc (.int .u64 d)),(65,.view 65 0 1),(66,.view 66 0 (W.length+1)),(67,.ptr 31 x)],decB g n (C.set x (.view 66 0 (W.length+1))),[(65,⟨1,54,rows u64C (nats [d])⟩),(66,⟨1,54,rows u64C (nats (W++[d]))⟩)],[]⟩):
  awp (Env.of Tryd.prog) ac34_r14 Q ⟨[(1,.sl false 1 (rows (frmC false) l)),(2,.ptr 2 0),(4,.ptr 4 0),(7,.int f),(8,.ptr 8 0),(9,.int x),(13,.sc (.int .u64 d)),(14,.int w),(15,.int 0),(32,.sl false 1 (rows (frmC false) l)),(33,.int n),(34,.int x),(40,.sl false 1 (rows u64C (nats ws))),(41,.int len),(42,.int i),(52,.int 0),(53,.bool (decide ((0:Int)≠0)))],decB g n (C.set x (rc66 W)),rw66 W,[]⟩:=by
 have hcx: ∀v,(C.set x v).getD x .bot=v:=fun v=>by rw[zK,List.getElem?_set_self oM];rfl
 have hcl: ∀v,(C.set x v).length=n:=fun v=>by rw[yF,hC]
 have hset2: ∀v w,(C.set x v).set x w=C.set x w:=fun v w=>List.set_set ..
 have e5: ∀j,anyT nul (isId j) (C.set x .nil)=false:=fun j=>qFe _ _ _ _ _ (hCf j) rfl
 have b65: ∀m,anyT nul (isId 65) (C.set x (.view 66 0 m))=false:=fun m=>qFe _ _ _ _ _ (hCf 65) rfl
 have b5:=fun m=>qFN (j:=66) C x m oM
 have b6:=fun m=>qFM (j:=66) C x m oM (e5 66)
 cases W with
 |nil=>
   simp only[ac34_r14,rc66,rw66,decB,hC0,push_cast,reduceIte,zA,zB,zC,zD,zE,zF,zG,reduceCtorEq,zH,zJ,cNI]
   refine⟨⟨oM,oM⟩,?_⟩
   refine qHC (b:=decB g n C) (b7:=decB g n C) (n:=n) (xi:=x) (W:=[]) (cell:= .nil) (cell' := .nil) (C:=C) (C7:=C) (v:=d) _ rfl rfl hx (by decide) rfl rfl rfl rfl rfl hC hC ?_ ?_ ?_ rfl rfl (.inl ⟨rfl,rfl,rfl⟩) ?_
   ·rw[<- hC0];exact hcx _
   ·simp only[decB,hCf,push_cast,reduceIte,zA,zB,zC,zD,zE,zF,zG,reduceCtorEq,zH,zJ,cNI]
   ·simp only[decB,hCf,push_cast,reduceIte,zA,zB,zC,zD,zE,zF,zG,reduceCtorEq,zH,zJ,cNI]
   ·simp only[slA,xs34_15,putD,qHz,decB,push_cast,reduceIte,zA,zB,zC,zD,zE,zF,zG,reduceCtorEq,zH,zJ,cNI]
    exact hQ _
 |cons y r=>
   simp only[ac34_r14,rc66,rw66,decB,push_cast,reduceIte,zA,zB,zC,zD,zE,zF,zG,reduceCtorEq,zH,zJ,cNI]
   refine⟨⟨oM,oM⟩,?_⟩
   refine qHC (b:=decB g n (C.set x (.view 66 0 (y::r).length))) (b7:=decB g n (C.set x .bot)) (n:=n) (xi:=x) (W:=rows u64C (nats (y::r))) (cell:= .view 66 0 (y::r).length) (cell' := .bot) (C:=C.set x (.view 66 0 (y::r).length)) (C7:=C.set x .bot) (v:=d) _ rfl rfl hx ?_ rfl rfl rfl rfl rfl (hcl _) (hcl _) (hcx _) ?_ ?_ rfl rfl (.inr ⟨?_,rfl,rfl⟩) ?_
   ·rw[qkk,qEY];exact hW
   ·simp only[decB,b65,hCf,push_cast,reduceIte,zA,zB,zC,zD,zE,zF,zG,reduceCtorEq,zH,zJ,cNI]
   ·simp only[decB,b5,b6,hCf,push_cast,reduceIte,zA,zB,zC,zD,zE,zF,zG,reduceCtorEq,zH,zJ,cNI]
   ·rw[qkk,qEY]
   ·simp only[slA,xs34_15,putD,qHz,decB,hset2,qkk,qEY,push_cast,reduceIte,zA,zB,zC,zD,zE,zF,zG,reduceCtorEq,zH,zJ,cNI]
    have hq:=hQ .bot
    rw[<- qFS]at hq
    exact hq
theorem qHE(l:List Nat)(w:Nat):qDt (l++[w])=(qDt l&&decide (chkW w≠2)):=by simp[qDt]
theorem qHF(l:List Nat)(w:Nat)(h:chkW w≠2):qDu (l++[w])=qDu l+chkW w:=by
 unfold qDu
 rw[List.countP_append]
 have:=qAd w
 by_cases e:chkW w=1
 ·simp[e]
 ·have:chkW w=0:=by omega
  simp[this]
theorem qHG(l:List Nat):qDu l<=l.length:=List.countP_le_length
theorem qHI(W:List Nat)(d:Nat):rc66 (W++[d])= .view 66 0 (W.length+1):=by
 cases W<;>simp[rc66]
theorem qHJ(W:List Nat)(d:Nat):rw66 (W++[d])=[(66,⟨1,54,rows u64C (nats (W++[d]))⟩)]:=by
 cases W<;>rfl
def frV(l:List (List Nat)):PV:= .sl false 1 (rows (frmC false) l)
set_option maxHeartbeats 2000000 in
theorem qHK (g : Grid) (l : List (List Nat)) (n x : Nat) (hx : x < n) (C : List PV) (hC : C.length = n) (hCf : ∀ j, anyT nul (isId j) C = false) (hC0 : C.set x .nil = C) (f : Nat) (hf : f <= 900000000) (ws : List Nat) (hws : ∀ w ∈ ws, w < 2 ^ 64) (hl : ws.length <= 1000) (Q : Exit -> St -> Prop)
  (hE:qDt ws=false-> ∀C' A,Q .ret ⟨[(4,.ptr 4 0),(5,.int 0),(6,.int 380),(54,.agg [.nil,.nil,.nil,.nil])],decB g n C',A,[]⟩)
  (hQ:qDt ws=true-> ∀T,qhn [0,126,1,2,4,7,8,32,33,34] T=[]->Q .normal ⟨[(1,.sl false 1 (rows (frmC false) l)),(2,.ptr 2 0),(4,.ptr 4 0),(7,.int (f+qDu ws:Nat)),(8,.ptr 8 0),(9,.int x),(32,.sl false 1 (rows (frmC false) l)),(33,.int n),(34,.int x)]++T,decB g n (C.set x (rc66 (ws.map datW))),rw66 (ws.map datW),[]⟩):
  awp (Env.of Tryd.prog) ac34_r8 Q ⟨[(1,.sl false 1 (rows (frmC false) l)),(2,.ptr 2 0),(4,.ptr 4 0),(7,.int f),(8,.ptr 8 0),(9,.int x),(10,.ptr 10 0),(32,.sl false 1 (rows (frmC false) l)),(33,.int n),(34,.int x),(36,.int x),(37,.iptr false ((rows (frmC false) l).getD x []) 0),(38,.agg [.sl false 1 (rows u64C (nats ws))])],[(2,quX false g),(4,[.nil,.nil,.nil,.nil]),(8,[.bv 31 1 n]),(10,[.sl false 1 (rows u64C (nats ws))]),(31,C)],[],[]⟩:=by
 have hset2: ∀v w,(C.set x v).set x w=C.set x w:=fun v w=>List.set_set ..
 simp only[ac34_r8,push_cast,reduceIte,zA,zB,zC,zD,zE,zF,zG,reduceCtorEq,zH,zJ,cNI]
 refine qoO (fun m st=> ∃j:Nat,j<=ws.length/\m=ws.length-j/\qDt (ws.take j)=true/\st=⟨[(1,.sl false 1 (rows (frmC false) l)),(2,.ptr 2 0),(4,.ptr 4 0),(7,.int (f+qDu (ws.take j):Nat)),(8,.ptr 8 0),(9,.int x),(32,.sl false 1 (rows (frmC false) l)),(33,.int n),(34,.int x),(40,.sl false 1 (rows u64C (nats ws))),(41,.int ws.length),(42,.int j)],
  decB g n (C.set x (rc66 ((ws.take j).map datW))),rw66 ((ws.take j).map datW),[]⟩) ws.length ⟨_,SWk.drop (fun i=>i !=10) (fun _=>true),0,oM,oM,rfl,?_⟩ ?_
 ·rw[List.take_zero,List.map_nil,show rc66 []= .nil from rfl,hC0,qEY]
  rfl
 rintro m st ⟨j,hj,rfl,hok,rfl⟩
 have hc:=qHG (ws.take j)
 rw[List.length_take]at hc
 refine sB ?_
 refine qnY (fun h=> ?_) fun h=> ?_
 ·have hj' :j<ws.length:=by omega
  obtain⟨w,hw⟩: ∃w,w=ws.getD j 0:=⟨_,rfl⟩
  have hwb:w<2^64:=hws _ (by rw[hw,zK,zL hj'];exact List.getElem_mem hj')
  have htk:ws.take (j+1)=ws.take j++[w]:=by
   rw[zZ hj',hw,zK,zL hj']
   rfl
  have hde:=qEt w hwb
  have hcw:=qAd w
  simp only[qEY,qFE,<- hw,push_cast,reduceIte,zA,zB,zC,zD,zE,zF,zG,reduceCtorEq,zH,zJ,cNI]
  refine⟨⟨oM,oM⟩,oM,?_⟩
  unfold decV at hde
  by_cases h2:chkW w=2
  ·rw[if_pos h2]at hde
   refine qrv hde sC ?_
   refine sB ?_
   refine qnY (fun _=> ?_) fun h=>absurd (by decide) h
   simp only[decB,push_cast,reduceIte,zA,zB,zC,zD,zE,zF,zG,reduceCtorEq,zH,zJ,cNI]
   refine hE ?_ _ _
   have hm:w∈ws:=by rw[hw,zK,zL hj'];exact List.getElem_mem hj'
   refine List.all_eq_false.2 ⟨w,hm,by simp[h2]⟩
  ·rw[if_neg h2]at hde
   refine qrv hde sC ?_
   refine sB ?_
   refine qnY (fun h=>absurd rfl h) fun _=> ?_
   have hcs:=qHF (ws.take j) w h2
   have hok2:qDt (ws.take (j+1))=true:=by rw[htk,qHE,hok];simp[h2]
   have hWl:((ws.take j).map datW).length=j:=by rw[yG,List.length_take];omega
   refine qHD g l n x hx C hC hCf hC0 ((f:Int)+(qDu (ws.take j):Nat)) (chkW w) ⟨oM,oM⟩ oM (datW w) ((ws.take j).map datW) oM ws j ws.length _ fun z=> ?_
   refine sB ?_
   refine⟨⟨oM,oM⟩,_,SWk.drop (fun _=>true) (fun i=>i !=65),ws.length-(j+1),oM,j+1,oM,rfl,hok2,?_⟩
   rw[htk,hcs,yH,show[w].map datW=[datW w]from rfl,qHI,qHJ,show(f:Int)+(qDu (ws.take j):Nat)+(chkW w:Nat)=((f+(qDu (ws.take j)+chkW w):Nat):Int)from by omega]
   rfl
 ·obtain rfl:j=ws.length:=by omega
  rw[List.take_length]at hok ⊢
  exact hQ hok _ rfl
end Go.Proofs.YtecoaapkcnhlhaaDoor
namespace Go.Proofs.YtecoaapkcnhlhaaDoor
open Go Go.Vc Go.Ham Txt
def cntF(l:List (List Nat)):Nat:=(l.map qDu).sum
def okF(l:List (List Nat)):Bool:=l.all qDt
def datD(l:List (List Nat))(x:Nat):List Nat:=l.getD x []
theorem qHL(l:List (List Nat))(ws:List Nat):cntF (l++[ws])=cntF l+qDu ws:=by simp[cntF]
theorem qHM{l:List (List Nat)}(h: ∀ws∈l,ws.length<=1000):cntF l<=1000*l.length:=by
 induction l with
 |nil=>exact Nat.le_refl _
 |cons a l ih=>
   have h1:=ih fun ws hw=>h ws (zT _ hw)
   have h2:=qHG a
   have h3:=h a zX
   simp only[cntF,zW,List.sum_cons,zV]at h1 ⊢
   omega
theorem qHN{C:List PV}{x:Nat}(v:PV)(h:C.getD x .bot=v)(hx:x<C.length):C.set x v=C:=by
 apply List.ext_getElem (by simp)
 intro i h1 h2
 rw[List.getElem_set]
 split
 ·next q=>subst q;rw[zK,zL h2]at h;exact h.symm
 ·rfl
theorem fz66 {h : Nat -> Nat} {g : Grid} {n k : Nat} (hk : k < n) (D : Nat -> List Nat) (s : List (Nat × PV)) (hs : farL 66 s) :
  SWk ⟨s,decB g n ((outC h n D k).set k (rc66 ((D k).map h))),rw66 ((D k).map h),[]⟩ ⟨s,decB g n (outC h n D (k+1)),[],[]⟩:=by
 by_cases hE:D k=[]
 ·rw[hE,List.map_nil,show rc66 []= .nil from rfl,show rw66 []=[]from rfl,qHN _ (qGb hk D) (by rw[qG9];exact hk),qGe D hE]
  exact SWk.refl _
 ·have hrw : rw66 ((D k).map h) = [(66, ⟨1, 54, rows u64C (nats ((D k).map h))⟩)] := by
   revert hE
   cases D k with
   |nil=>intro h;exact absurd rfl h
   |cons a r=>intro _;rfl
  have hrc:rc66 ((D k).map h)= .view 66 0 (D k).length:=by
   revert hE
   cases D k with
   |nil=>intro h;exact absurd rfl h
   |cons a r=>intro _;simp[rc66]
  rw[hrw,hrc]
  have hf:=SWk.frz ⟨s,decB g n ((outC h n D k).set k (.view 66 0 (D k).length)),[(66,⟨1,54,rows u64C (nats ((D k).map h))⟩)],[]⟩ 66
  have e2:fzS 66 ⟨1,54,rows u64C (nats ((D k).map h))⟩ s=s:=by
   clear hf
   induction s with
   |nil=>rfl
   |cons x s ih=>
     obtain⟨i,v⟩:=x
     rw[qCU]at hs
     rw[qjP,hs.1.2,ih hs.2];rfl
  have b5:=qFN (j:=66) (outC h n D k) k (D k).length (by rw[qG9];exact hk)
  have hfz:(outC h n D k).map (PV.fz 66 ⟨1,54,rows u64C (nats ((D k).map h))⟩)=outC h n D k:=by rw[qk2,qk5 _ _ (qGf D k _ _)]
  have e:PV.fz 66 ⟨1,54,rows u64C (nats ((D k).map h))⟩ (.view 66 0 (D k).length)=outP h D k:=by
   rw[outP,if_neg hE,qjS,if_pos rfl]
   simp only[List.drop_zero]
   rw[zY (by simp[rows,nats])]
  simp only[decB,e2,b5,<- qk2,List.map_set,hfz,e,qGd,push_cast,reduceIte,zA,zB,zC,zD,zE,zF,zG,reduceCtorEq,zH,zJ,cNI]at hf
  exact hf
set_option maxHeartbeats 2000000 in
theorem qHO (g : Grid) (l : List (List Nat)) (hl : FrmSm l) (Q : Exit -> St -> Prop)
  (hE:okF l=false-> ∀C' A,Q .ret ⟨[(4,.ptr 4 0),(5,.int 0),(6,.int 380),(54,.agg [.nil,.nil,.nil,.nil])],decB g l.length C',A,[]⟩)
  (h18:okF l=true-> ∀T,qhn [0,126,1,2,4,7,8] T=[]->awp (Env.of Tryd.prog) ac34_r18 Q ⟨[(1,.sl false 1 (rows (frmC false) l)),(2,.ptr 2 0),(4,.ptr 4 0),(7,.int (cntF l:Nat)),(8,.ptr 8 0)]++T,decB g l.length (outC datW l.length (datD l) l.length),[],[]⟩) (T:List (Nat×PV)) (hT:qhn [0,126,1,2,4] T=[]):
  awp (Env.of Tryd.prog) ac34_r3 Q ⟨[(1,.sl false 1 (rows (frmC false) l)),(2,.ptr 2 0),(4,.ptr 4 0)]++T,[(2,quX false g),(4,[.nil,.nil,.nil,.nil])],[],[]⟩:=by
 have h1:=hl.n
 have hre:List.replicate l.length PV.nil=outC datW l.length (datD l) 0:=by
  symm
  rw[List.eq_replicate_iff]
  refine⟨qG9 _ _ _,fun b hb=> ?_⟩
  obtain⟨x,_,rfl⟩:=List.mem_map.1 hb
  rfl
 simp only[ac34_r3,hT,qFy,hre,qGf,push_cast,reduceIte,zA,zB,zC,zD,zE,zF,zG,reduceCtorEq,zH,zJ,cNI]
 refine⟨⟨oM,oM,oM⟩,?_⟩
 refine qoO (fun j st=> ∃k:Nat,k<=l.length/\j=l.length-k/\okF (l.take k)=true/\st=⟨[(1,.sl false 1 (rows (frmC false) l)),(2,.ptr 2 0),(4,.ptr 4 0),(7,.int (cntF (l.take k):Nat)),(8,.ptr 8 0),(32,.sl false 1 (rows (frmC false) l)),(33,.int l.length),(34,.int k)],decB g l.length (outC datW l.length (datD l) k),[],[]⟩) l.length ⟨_,SWk.refl _,0,oM,oM,rfl,by simp only[push_cast,reduceIte,zA,zB,zC,zD,zE,zF,zG,reduceCtorEq,zH,zJ,cNI];rfl⟩ ?_
 rintro j st ⟨k,hk,rfl,hok,rfl⟩
 refine sB ?_
 refine qnY (fun h=> ?_) fun h=> ?_
 ·have hk' :k<l.length:=by omega
  obtain⟨ws,hws⟩: ∃ws,ws=l.getD k default:=⟨_,rfl⟩
  have hmem:ws∈l:=by rw[hws,zK,zL hk'];exact List.getElem_mem hk'
  have htk:l.take (k+1)=l.take k++[ws]:=by rw[qEW l k hk',hws]
  have hcb:=qHM (l:=l.take k) fun ws hw=>hl.len ws (List.mem_of_mem_take hw)
  rw[List.length_take]at hcb
  have hdk:datD l k=ws:=hws.symm
  simp only[decB,qGf,<- hws,rep1,List.set_cons_zero,push_cast,reduceIte,zA,zB,zC,zD,zE,zF,zG,reduceCtorEq,zH,zJ,cNI]
  refine⟨⟨oM,oM⟩,oM,?_⟩
  have hset0:(outC datW l.length (datD l) k).set k .nil=outC datW l.length (datD l) k:=qHN _ (qGb hk' _) (by rw[qG9];exact hk')
  refine qHK g l l.length k hk' _ (qG9 _ _ _) (fun j=>qGf _ _ _ _) hset0 (cntF (l.take k)) oM ws (hl.ok ws hmem) (hl.len ws hmem) _ (fun hb C' A=>hE (List.all_eq_false.2 ⟨ws,hmem,by rw[hb];decide⟩) C' A) fun hrow T hT=> ?_
  simp only[List.cons_append,List.nil_append,qhr,hT,decB,push_cast,reduceIte,zA,zB,zC,zD,zE,zF,zG,reduceCtorEq,zH,zJ,cNI]
  have hz:=fz66 (h:=datW) (g:=g) hk' (datD l) [(1,.sl false 1 (rows (frmC false) l)),(2,.ptr 2 0),(4,.ptr 4 0),(7,.int (cntF (l.take k)+qDu ws:Nat)),(8,.ptr 8 0),(32,.sl false 1 (rows (frmC false) l)),(33,.int l.length),(34,.int ((k:Int)+1))] sC
  rw[hdk]at hz
  simp only[decB,push_cast,reduceIte,zA,zB,zC,zD,zE,zF,zG,reduceCtorEq,zH,zJ,cNI]at hz
  refine⟨⟨oM,oM⟩,_,hz,l.length-(k+1),oM,k+1,oM,rfl,?_,?_⟩
  ·rw[htk,okF,List.all_append,zN]
   exact⟨hok,by simp[hrow]⟩
  ·rw[htk,qHL]
   rfl
 ·obtain rfl:k=l.length:=by omega
  rw[List.take_length]at hok ⊢
  exact h18 hok _ rfl
end Go.Proofs.YtecoaapkcnhlhaaDoor
namespace Go.Proofs.YtecoaapkcnhlhaaDoor
open Go Go.Vc Go.Ham Txt
set_option maxHeartbeats 400000 in
theorem qHP {s : List (Nat × PV)} (hs : qtX 1000 s = true) (id i r : Nat) (ws : List Nat) (hi : i < ws.length) (hw : ws.getD i 0 < 2 ^ 64) (hr : r <= 1000000000) (B : List (Nat × List PV)) (A : List (Nat × Arr)) (h6 : lk B 6 = some [.int r]) (hA : lk A id = some ⟨1, 54, rows u64C (nats ws)⟩) :
  FnM (Env.of Tryd.prog) 69 [.eptr id i 0,.ptr 6 0] ⟨s,B,A,[]⟩ (fun v st' =>(chkW (ws.getD i 0)=2/\v= .bool false/\st' =⟨s,B,A,[]⟩)\/
   (chkW (ws.getD i 0)≠2/\v= .bool true/\st' =⟨s,up B 6 [.int (r+chkW (ws.getD i 0):Nat)],up A id ⟨1,54,rows u64C (nats (ws.set i (encW (datW (ws.getD i 0)))))⟩,[]⟩)):=by
 refine quf 1000 Tryd.func69 ok69_1000 (by show 2<=_;decide) hs (by decide) ?_
 have hde:=qEt (ws.getD i 0) hw
 have hen:=qEn (datW (ws.getD i 0)) (qAp _)
 have hck:=qAd (ws.getD i 0)
 simp only[ac69_1000,rv69_1000,h6,hA,qFE,qCv hs,qCu hs,qCw hs,qCx hs,qCy hs,push_cast,reduceIte,zA,zB,zC,zD,zE,zF,zG,reduceCtorEq,zH,zJ,cNI]
 refine⟨by rw[qEY];exact hi,?_⟩
 unfold decV at hde
 by_cases h2:chkW (ws.getD i 0)=2
 ·rw[if_pos h2]at hde
  refine qrv hde sC ?_
  simp only[h2,qCv hs,qCu hs,qCw hs,qCx hs,qCy hs,push_cast,reduceIte,zA,zB,zC,zD,zE,zF,zG,reduceCtorEq,zH,zJ,cNI]
  exact qnY (fun _=> .inl trivial) fun h=>absurd (by decide) h
 ·rw[if_neg h2]at hde
  refine qrv hde sC ?_
  simp only[h6,hA,qCv hs,qCu hs,qCw hs,qCx hs,qCy hs,push_cast,reduceIte,zA,zB,zC,zD,zE,zF,zG,reduceCtorEq,zH,zJ,cNI]
  refine qnY (fun h=>absurd rfl h) fun _=>⟨⟨oM,oM⟩,?_⟩
  refine qrv hen sC ?_
  simp only[hA,qEY,qFF,qCv hs,qCu hs,qCw hs,qCx hs,qCy hs,push_cast,reduceIte,zA,zB,zC,zD,zE,zF,zG,reduceCtorEq,zH,zJ,cNI]
  exact⟨hi,.inr h2⟩
def mix{α:Type}(f:α->α)(l:List α)(k:Nat):List α:=(l.take k).map f++l.drop k
theorem qHQ{α:Type}(f:α->α)(l:List α):mix f l 0=l:=by simp[mix]
theorem qHR{α:Type}(f:α->α)(l:List α):mix f l l.length=l.map f:=by simp[mix]
theorem qHS{α:Type}(f:α->α)(l:List α)(k:Nat):(mix f l k).length=l.length:=by simp[mix];omega
theorem qHT{α:Type}(f:α->α)(l:List α)(k i:Nat)(h:i<l.length):(mix f l k)[i]? =some (if i<k then f l[i]else l[i]):=by
 unfold mix
 by_cases hi:i<k
 ·rw[yA (by simp;omega),if_pos hi,zS,List.getElem?_take,if_pos hi,zL h];rfl
 ·have h2:((l.take k).map f).length=k:=by simp;omega
  rw[yB oM,h2,if_neg hi,List.getElem?_drop,show k+(i-k)=i by omega,zL h]
theorem qHU{α:Type}(f:α->α)(d:α){l:List α}{k:Nat}(h:k<l.length):(mix f l k).getD k d=l.getD k d:=by
 rw[zK,qHT f l k k h,if_neg (Nat.lt_irrefl k),zK,zL h]
theorem qHV{α:Type}(f:α->α)(d:α){l:List α}{k:Nat}(h:k<l.length):(mix f l k).set k (f (l.getD k d))=mix f l (k+1):=by
 apply List.ext_getElem?
 intro i
 rw[List.getElem?_set]
 by_cases hi:i<l.length
 ·rw[qHT f l (k+1) i hi,qHT f l k i hi]
  split
  ·next e=>
   subst e
   rw[qHS,if_pos h,if_pos oM,zK,zL h];rfl
  ·next e=>
   by_cases h3:i<k
   ·rw[if_pos h3,if_pos oM]
   ·rw[if_neg h3,if_neg oM]
 ·rw[if_neg oM,List.getElem?_eq_none (by rw[qHS];omega),List.getElem?_eq_none (by rw[qHS];omega)]
theorem qHW{w:Nat}(h:chkW w=2):fixW w=w:=if_pos h
theorem qHX{w:Nat}(h:chkW w≠2):fixW w=encW (datW w):=if_neg h
theorem qHY{α:Type}(l:List α)(k:Nat)(d:α)(h:k<l.length):l.set k (l.getD k d)=l:=by
 apply List.ext_getElem (by simp)
 intro i h1 h2
 rw[List.getElem_set]
 split
 ·next q=>subst q;rw[zK,zL h];rfl
 ·rfl
theorem qHZ(l:List Nat)(w:Nat)(h:chkW w=2):qDu (l++[w])=qDu l:=by
 unfold qDu;rw[List.countP_append];simp[h]
theorem qI0(l:List Nat)(w:Nat):qDt (l++[w])=(qDt l&&decide (chkW w≠2)):=qHE l w
def badN(l:List (List Nat))(k:Nat):List Int:=((List.range k).filter fun x=> !qDt (l.getD x [])).map fun x:Nat=>(x:Int)
theorem qI1(l:List (List Nat))(k:Nat):badN l (k+1)=if qDt (l.getD k [])then badN l k else badN l k++[(k:Int)]:=by
 unfold badN
 rw[List.range_succ,List.filter_append,yH]
 cases h:qDt (l.getD k [])
 ·rw[List.filter_cons_of_pos (by rw[h];rfl)];rfl
 ·rw[List.filter_cons_of_neg (by rw[h];decide)];simp
theorem qI2(l:List (List Nat))(k:Nat):(badN l k).length<=k:=by
 unfold badN;rw[yG];have:=List.length_filter_le (fun x=> !qDt (l.getD x [])) (List.range k);simpa using this
def scrB(r:Int)(l:List (List Nat)):List (Nat×List PV):=[(6,[.int r]),(2507,qAY 3000 (rsW l))]
set_option maxHeartbeats 1000000 in
theorem qI3 (n x : Nat) (M : List (List Nat)) (hM : M.length = n) (hx : x < n) (ws : List Nat) (hws : M.getD x [] = ws) (hwb : ∀ w ∈ ws, w < 2 ^ 64) (hwl : ws.length <= 1000) (r : Nat) (hr : r <= 900000000) (hn : n <= 1000) (bad : List Int) (hbad : bad.length <= 1000) (Q : Exit -> St -> Prop) (T : List (Nat × PV)) (hT : qhn [0, 52, 5, 6, 7, 8, 9, 10, 16, 17] T = [])
  (hQ1:qDt ws=true->Q .normal ⟨[(5,.bv 2507 1 n),(6,.ptr 6 0),(7,nlS 47 bad),(8,.clo 69 [6]),(9,.int x),(10,.bool true),(16,.int n),(17,.int x),(42,.bool true),(43,.bool false)],scrB (r+qDu ws:Nat) (M.set x (ws.map fixW)),nlA 47 3 bad++qAZ 1 54 3000 (rsW (M.set x (ws.map fixW))),[]⟩)
  (hQ2:qDt ws=false-> ∀z A,Q .normal ⟨[(5,.bv 2507 1 n),(6,.ptr 6 0),(7,nlS 47 (bad++[(x:Int)])),(8,.clo 69 [6]),(9,.int x),(16,.int n),(17,.int x),(44,z),(45,.int x),(46,.view 46 0 1),(47,nlS 47 (bad++[(x:Int)]))],scrB (r+qDu ws:Nat) (M.set x (ws.map fixW)),(46,A)::(nlA 47 3 (bad++[(x:Int)])++qAZ 1 54 3000 (rsW (M.set x (ws.map fixW)))),[]⟩):
  awp (Env.of Tryd.prog) ac44_r9 Q ⟨[(5,.bv 2507 1 n),(6,.ptr 6 0),(7,nlS 47 bad),(8,.clo 69 [6]),(9,.int x),(10,.bool true),(16,.int n),(17,.int x)]++T,scrB r M,nlA 47 3 bad++qAZ 1 54 3000 (rsW M),[]⟩:=by
 have hxM:x<M.length:=by omega
 have hcl:(qAY 3000 (rsW M)).length=n:=by rw[qB0,qH0,hM]
 have hcell:=qH4 hxM
 rw[hws]at hcell
 have hset: ∀j,qAY 3000 (rsW M)=qAY 3000 (rsW (M.set x (mix fixW ws j))):=fun j=>qH9 hxM (by rw[qHS,hws])
 have hMx: ∀v,(M.set x v).getD x []=v:=fun v=>by rw[zK,List.getElem?_set_self hxM];rfl
 have hlk: ∀R id,3000<=id->lk (nlA 47 3 bad++R) id=lk R id:=fun R id hid=>by
  cases bad with
  |nil=>rfl
  |cons y b=>show lk ((47,_)::R) id=_;rw[lk,if_neg oM]
 have hup: ∀R id A,3000<=id->up (nlA 47 3 bad++R) id A=nlA 47 3 bad++up R id A:=fun R id A hid=>by
  cases bad with
  |nil=>rfl
  |cons y b=>show up ((47,_)::R) id A=(47,_)::up R id A;rw[up,if_neg oM,if_neg oM]
 have hM0:M.set x (mix fixW ws 0)=M:=by
  rw[qHQ,<- hws]
  exact qHY M x [] hxM
 have h7: ∀pb pa,(nlS 47 bad).toV pb pa=(nlS 47 bad).toV pb pa:=fun _ _=>rfl
 simp only[ac44_r9,hT,scrB,Nat.mul_one,qFf (qAY 3000 (rsW M)),hcl,hcell,push_cast,reduceIte,zA,zB,zC,zD,zE,zF,zG,reduceCtorEq,zH,zJ,cNI]
 refine⟨⟨oM,oM⟩,oM,?_⟩
 refine qoO (fun m st=> ∃j:Nat,j<=ws.length/\m=ws.length-j/\st=⟨[(5,.bv 2507 1 n),(6,.ptr 6 0),(7,nlS 47 bad),(8,.clo 69 [6]),(9,.int x),(10,.bool (qDt (ws.take j))),(16,.int n),(17,.int x),(25,.int ws.length),(26,.int j)],[(6,[.int (r+qDu (ws.take j):Nat)]),(2507,qAY 3000 (rsW M))],nlA 47 3 bad++qAZ 1 54 3000 (rsW (M.set x (mix fixW ws j))),[]⟩) ws.length ⟨_,SWk.refl _,0,oM,oM,?_⟩ ?_
 ·rw[hM0]
  refine sB ?_
  rfl
 rintro m st ⟨j,hj,rfl,rfl⟩
 have hcr:=qHG (ws.take j)
 rw[List.length_take]at hcr
 refine sB ?_
 refine qnY (fun h=> ?_) fun h=> ?_
 ·have hj' :j<ws.length:=by omega
  obtain⟨w,hw⟩: ∃w,w=ws.getD j 0:=⟨_,rfl⟩
  have hwb2:w<2^64:=hwb _ (by rw[hw,zK,zL hj'];exact List.getElem_mem hj')
  have htk:ws.take (j+1)=ws.take j++[w]:=by
   rw[zZ hj',hw,zK,zL hj'];rfl
  have hmg:(mix fixW ws j).getD j 0=w:=by rw[qHU fixW 0 hj',hw]
  have hms:=qHV fixW 0 hj'
  rw[<- hw]at hms
  have hlj:x<(M.set x (mix fixW ws j)).length:=by rw[yF];exact hxM
  have hlkj:=qH5 hlj
  rw[hMx]at hlkj
  simp only[Nat.mul_one,qFf (qAY 3000 (rsW M)),hcl,hcell,hlk _ (3000+x) oM,hlkj,qkk,qEY,qHS,push_cast,reduceIte,zA,zB,zC,zD,zE,zF,zG,reduceCtorEq,zH,zJ,cNI]
  refine⟨⟨oM,oM⟩,oM,⟨oM,oM⟩,?_⟩
  have hfx:=qHP (s:=[(5,.bv 2507 1 n),(6,.ptr 6 0),(7,nlS 47 bad),(8,.clo 69 [6]),(9,.int x),(10,.bool (qDt (ws.take j))),(11,.int j),(16,.int n),(17,.int x),(25,.int ws.length),(26,.int j),(29,.clo 69 [6]),(30,.bv 2507 1 n),(31,.int x),(32,.ptr 2507 x),(33,.ptr 2507 x),(34,.view (3000+x) 0 ws.length),(35,.int j),(36,.eptr (3000+x) j 0)]) rfl (3000+x) j (r+qDu (ws.take j)) (mix fixW ws j) (by rw[qHS];exact hj') (by rw[hmg];exact hwb2) oM [(6,[.int (r+qDu (ws.take j):Nat)]),(2507,qAY 3000 (rsW M))] (nlA 47 3 bad++qAZ 1 54 3000 (rsW (M.set x (mix fixW ws j)))) rfl ((hlk _ _ oM).trans hlkj)
  rw[hmg]at hfx
  refine qsO hfx ?_
  rintro _ _ (⟨h2,rfl,rfl⟩|⟨h2,rfl,rfl⟩)
  ·refine sB ?_
   refine⟨⟨oM,oM⟩,_,SWk.refl _,ws.length-(j+1),oM,j+1,oM,rfl,?_⟩
   rw[qHW h2]at hms
   have hsame:mix fixW ws (j+1)=mix fixW ws j:=by
    rw[<- hms,<- hmg];exact qHY _ _ _ (by rw[qHS];exact hj')
   rw[hsame,htk,qI0,qHZ _ _ h2,h2]
   rw[show(qDt (ws.take j)&&decide ((2:Nat)≠2))=false from by simp]
   rfl
  ·rw[qHX h2]at hms
   rw[hms,hup _ _ _ oM,qH6 hlj,List.set_set]
   refine sB ?_
   refine⟨⟨oM,oM⟩,_,SWk.refl _,ws.length-(j+1),oM,j+1,oM,rfl,?_⟩
   rw[htk,qI0,qHF _ _ h2,decide_eq_true h2,Bool.and_true,show(r:Int)+(qDu (ws.take j):Nat)+(chkW w:Nat)=((r+(qDu (ws.take j)+chkW w):Nat):Int)from by omega]
   rfl
 ·obtain rfl:j=ws.length:=by omega
  rw[List.take_length,qHR]
  have hset2:=hset ws.length
  rw[qHR]at hset2
  have f46:anyT nul (isId 46) (qAY 3000 (rsW M))=false:=qFd _ _ _ fun y r _=>beq_false_of_ne oM
  have f47:anyT nul (isId 47) (qAY 3000 (rsW M))=false:=qFd _ _ _ fun y r _=>beq_false_of_ne oM
  have hu: ∀id A,id<3000->up (qAZ 1 54 3000 (rsW (M.set x (ws.map fixW)))) id A=(id,A)::qAZ 1 54 3000 (rsW (M.set x (ws.map fixW))):=fun id A hid=>qB9 _ _ _ fun y hy=>by have:=qBa 1 54 3000 _ y hy;omega
  rw[hset2]at f46 f47 ⊢
  refine qnX (fun h=> ?_) fun h=> ?_
  ·have hk:qDt ws=false:=by simpa using h
   have hr1:(List.replicate 1 (0:Int)).length=1:=rfl
   cases bad with
   |nil=>
     simp only[qGB,qGD,f46,f47,List.nil_append,hu 46 _ (by decide),push_cast,reduceIte,zA,zB,zC,zD,zE,zF,zG,reduceCtorEq,zH,zJ,cNI]
     simp only[rep1,rows,zW,List.map_nil,zV,List.length_nil,f47,push_cast,reduceIte,zA,zB,zC,zD,zE,zF,zG,reduceCtorEq,zH,zJ,cNI]
     rw[hu 47 _ (by decide)]
     exact hQ2 hk .nil ⟨1,3,ints [(x:Int)]⟩
   |cons y b=>
     simp only[qGC,qGE,f46,f47,List.cons_append,List.nil_append,hu 46 _ (by decide),push_cast,reduceIte,zA,zB,zC,zD,zE,zF,zG,reduceCtorEq,zH,zJ,cNI]
     refine⟨by decide,⟨by simp at hbad;omega,by simp at hbad;omega⟩,?_⟩
     have hq:=hQ2 hk .bot ⟨1,3,ints [(x:Int)]⟩
     simp only[List.cons_append,nlS,nlA,zV,zU,List.length_nil,scrB]at hq
     exact hq
  ·have hk:qDt ws=true:=by simpa using h
   rw[hk]
   exact hQ1 hk
end Go.Proofs.YtecoaapkcnhlhaaDoor
