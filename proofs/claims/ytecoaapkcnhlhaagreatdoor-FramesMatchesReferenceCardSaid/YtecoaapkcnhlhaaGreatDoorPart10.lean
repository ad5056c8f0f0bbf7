/- TxtG T U TxtI V W X Y Z ZA TxtJ ZB ZC ZD ZE TxtA HM VcZs VcZt: lemmas -/
import Derived.Test.YtecoaapkcnhlhaaGreatDoorPart05
import Derived.Test.YtecoaapkcnhlhaaGreatDoorChecked
import Derived.Test.YtecoaapkcnhlhaaGreatDoorPart09
import Derived.Test.YtecoaapkcnhlhaaGreatDoorPart07
import Derived.Test.YtecoaapkcnhlhaaGreatDoorPart01
import Derived.Test.YtecoaapkcnhlhaaGreatDoorPart08
set_option linter.unusedSimpArgs false
set_option linter.unusedVariables false
open Bool renaming and_eq_true->zN
open List renaming getD_eq_getElem?_getD->zK,length_cons->zV,take_of_length_le->zY,take_succ_eq_append_getElem->zZ,any_eq_false->yD,all_eq_true->yE,length_set->yF,length_map->yG
open Int renaming reduceToNat->zH,reduceNeg->zJ
open Nat renaming reduceEqDiff->zA,reduceAdd->zB,reduceSub->zC,reduceMul->zD,reduceBEq->zE,reduceLT->zF,reduceLeDiff->zG
namespace Go.Proofs.YtecoaapkcnhlhaaGreatDoor.Txt
open Go Go.Vc
set_option maxRecDepth 100000
def ac24:AC:=
 (.seq (.reg [0,31,0,1] [
 xT 2 0,xT 3 1,aO 4 (.mv bF)])
 (.seq (.reg [0,31,2,3] [
 fA 5 0 2,lF 6 1 5,fA 7 0 3,lF 8 1 7,aO 9 (.cal 51 [(.t 6),(.t 8)]),mT 10 9,uB 11 10 (.fa 1 (.t 2)),uB 12 10 (.ld false 1 (.t 11)),uB 13 10 (.fa 1 (.t 3)),uB 14 10 (.ld false 1 (.t 13)),uB 15 10 (.cal 51 [(.t 12),(.t 14)]),aO 16 (pF 10 15),mT 17 16,uB 18 17 (.fa 2 (.t 2)),uB 19 17 (.ld false 1 (.t 18)),uB 20 17 (.fa 2 (.t 3)),uB 21 17 (.ld false 1 (.t 20)),uB 22 17 (.cal 51 [(.t 19),(.t 21)]),aO 23 (pF 17 22),mT 24 23,uB 25 24 (.fa 3 (.t 2)),uB 26 24 (.ld false 1 (.t 25)),uB 27 24 (.fa 3 (.t 3)),uB 28 24 (.ld false 1 (.t 27)),uB 29 24 (.cal 51 [(.t 26),(.t 28)]),aO 30 (pF 24 29),mT 4 30])
 .ret))
def rv24:List RV:=[.tmp 4]
theorem ok24:fnOk Tryz.prog ac24 rv24 Tryz.f24=true:=by kernel_rfl

def ac33:AC:=
 (.seq (.reg [0,82,0,1] [
 xT 2 0,xT 3 1,mK 4 0])
 (.seq (.reg [0,82,2,3] [
 fA 8 0 2,lF 9 1 8,fA 10 1 2,lF 11 1 10,aO 12 (.ari .mul true .i64 (.t 9) (.t 11)),mT 5 12])
 (.seq (.seq (.drw [0,82,2,3,5] [
 eA 13 0 3,eL 14 1 13,eT 15 (.len (.t 14)),eT 16 (.ld true 5 (.t 2)),eT 17 (.cal 41 [(.t 16)]),eF 18 (.cmp .neq .i64 (.t 15) (.t 17)),eF 19 (.mv (.t 18)),uC 20 19 (.fa 1 (.t 3)),uC 21 19 (.ld false 1 (.t 20)),uC 22 19 (.len (.t 21)),uC 23 19 (.mv (.t 5)),⟨uA 24 19 (.cmp .neq .i64 (.t 22) (.t 23)),[],[],false⟩,eF 25 (uG 19 24),eF 26 (.mv (.t 25)),uC 27 26 (.fa 2 (.t 3)),uC 28 26 (.ld false 1 (.t 27)),uC 29 26 (.len (.t 28)),uC 30 26 (.mv (.t 5)),⟨uA 31 26 (.cmp .neq .i64 (.t 29) (.t 30)),[],[],false⟩,eF 32 (uG 26 31),eF 33 (.mv (.t 32)),uC 34 33 (.fa 3 (.t 3)),uC 35 33 (.ld false 1 (.t 34)),uC 36 33 (.len (.t 35)),uC 37 33 (.mv (.t 5)),⟨uA 38 33 (.cmp .neq .i64 (.t 36) (.t 37)),[],[],false⟩,eF 39 (uG 33 38)])
 (.cut [0,82,2,3,5,39] (.cond (.t 39)
 (.seq (.reg [0,82] [
 mK 4 310])
 .ret)
 .skip)))
 (.seq (.seq (.reg [0,82,2,3,5] [
 mK 6 0])
 (.block 0
 (.loop [0,82,2,3,5,6]
 (.seq (.seq (.reg [0,82,2,3,5,6] [
 mT 40 6,fA 41 0 3,lF 42 1 41,nT 43 42,lS 44 40 43])
 (.cond (.t 44)
 .skip
 (.exit 0)))
 (.seq (.block 1
 (.seq (.drw [0,82,2,3,5,6] [
 eA 47 0 3,eL 48 1 47,eM 49 6,eF 50 (.ixs 1 (.t 48) (.t 49)),eF 51 (.ld false 1 (.t 50)),eF 52 (.cmp .neq .i64 (.t 51) (kI 0)),eF 53 (.mv (.t 52)),uD 54 53 (.fa 0 (.t 3)),uD 55 53 (.ld false 1 (.t 54)),uD 56 53 (.mv (.t 6)),⟨uB 57 53 (.ixs 1 (.t 55) (.t 56)),[],[],false⟩,⟨uB 58 53 (.ld false 1 (.t 57)),[],[],false⟩,⟨uB 59 53 (.cmp .lss .i64 (.t 58) (kI 0)),[],[],false⟩,⟨uB 60 53 (.mv (.t 59)),[],[],false⟩,uC 61 60 (.fa 0 (.t 3)),uC 62 60 (.ld false 1 (.t 61)),uC 63 60 (.mv (.t 6)),uC 64 60 (.ixs 1 (.t 62) (.t 63)),uC 65 60 (.ld false 1 (.t 64)),uC 66 60 (.ld true 5 (.t 2)),uC 67 60 (.mv (.t 6)),uC 68 60 (.cal 31 [(.t 66),(.t 67)]),⟨uA 69 60 (.cmp .gtr .i64 (.t 65) (.t 68)),[],[],false⟩,⟨uB 70 53 (uG 60 69),[],[],false⟩,eF 71 (pF 53 70)])
 (.cut [0,82,2,3,5,6,71] (.cond (.t 71)
 (.seq (.reg [0,82] [
 mK 4 310])
 .ret)
 .skip))))
 (.reg [0,82,2,3,5,6] [
 mT 45 6,uF 46 45 1,mT 6 46]))))))
 (.seq (.seq (.reg [0,82,2,3,5] [
 mK 7 0])
 (.block 2
 (.loop [0,82,2,3,5,7]
 (.seq (.seq (.reg [0,82,2,3,5,7] [
 mT 72 7,mT 73 5,lS 74 72 73])
 (.cond (.t 74)
 .skip
 (.exit 2)))
 (.seq (.block 3
 (.seq (.reg [0,82,2,3,5,7] [
 uE 77 5 2,uE 78 4 3,mT 79 7,aO 80 (.cal 60 [(.t 77),(.t 78),(.t 79)]),aO 81 (.not (.t 80))])
 (.cond (.t 81)
 (.seq (.reg [0,82] [
 mK 4 310])
 .ret)
 .skip)))
 (.reg [0,82,2,3,5,7] [
 mT 75 7,uF 76 75 1,mT 7 76]))))))
 (.seq (.reg [0,82] [
 mK 4 0])
 .ret))))))
def rv33:List RV:=[.tmp 4]
theorem ok33:fnOk Tryz.prog ac33 rv33 Tryz.f33=true:=by kernel_rfl

def ac60:AC:=
 (.seq (.reg [0,109,0,1,2] [
 xT 3 0,xT 4 1,aO 6 (.mv bF)])
 (.seq (.reg [0,109,2,3,4] [
 fA 10 1 4,lF 11 1 10,mT 12 2,iX 13 1 11 12,lF 14 1 13,mT 7 14])
 (.seq (.seq (.reg [0,109,2,3,4,7] [
 mT 15 7,aO 16 (.cmp .lss .i64 (.t 15) (kI 0)),mT 17 16,uA 18 17 (.mv (.t 7)),uA 19 17 (.cmp .gtr .i64 (.t 18) (kI 3)),aO 20 (uG 17 19),mT 21 20,uA 22 21 (.fa 4 (.t 3)),uA 23 21 (.ld false 1 (.t 22)),uA 24 21 (.mv (.t 2)),uA 25 21 (.ixs 1 (.t 23) (.t 24)),uA 26 21 (.ld false 1 (.t 25)),uA 27 21 (.cmp .eql .i64 (.t 26) (kI 0)),uA 28 21 (.mv (.t 27)),uB 29 28 (.mv (.t 7)),uB 30 28 (.cmp .neq .i64 (.t 29) (kI 0)),uA 31 21 (pF 28 30),aO 32 (uG 21 31),mT 33 32,uA 34 33 (.fa 4 (.t 3)),uA 35 33 (.ld false 1 (.t 34)),uA 36 33 (.mv (.t 2)),uA 37 33 (.ixs 1 (.t 35) (.t 36)),uA 38 33 (.ld false 1 (.t 37)),uA 39 33 (.cmp .eql .i64 (.t 38) (kI 1)),uA 40 33 (.mv (.t 39)),uB 41 40 (.mv (.t 7)),uB 42 40 (.cmp .eql .i64 (.t 41) (kI 3)),uA 43 33 (pF 40 42),aO 44 (uG 33 43)])
 (.cut [0,109,2,4,7,44] (.cond (.t 44)
 (.seq (.reg [0,109] [
 aO 6 (.mv bF)])
 .ret)
 .skip)))
 (.seq (.reg [0,109,2,4,7] [
 mT 45 7,eK 46 45 1,mT 47 46,uA 48 47 (.mv (.t 7)),uA 49 47 (.cmp .eql .i64 (.t 48) (kI 2)),aO 50 (uG 47 49),mT 51 7,eK 52 51 2,mT 53 52,uA 54 53 (.mv (.t 7)),uA 55 53 (.cmp .eql .i64 (.t 54) (kI 3)),aO 56 (uG 53 55),mT 8 50,mT 9 56])
 (.cut [0,109,2,4,8,9] (.seq (.reg [0,109,2,4,8,9] [
 fA 57 2 4,lF 58 1 57,mT 59 2,iX 60 1 58 59,lF 61 1 60,aO 62 (.cmp .geq .i64 (.t 61) (kI 0)),mT 63 62,uB 64 63 (.fa 2 (.t 4)),uB 65 63 (.ld false 1 (.t 64)),uB 66 63 (.mv (.t 2)),uB 67 63 (.ixs 1 (.t 65) (.t 66)),uB 68 63 (.ld false 1 (.t 67)),uB 69 63 (.cmp .leq .i64 (.t 68) (kI 65535)),aO 70 (pF 63 69),mT 71 70,uB 72 71 (.mv (.t 8)),uB 73 71 (.mv (.t 72)),uA 74 73 (.fa 2 (.t 4)),uA 75 73 (.ld false 1 (.t 74)),uA 76 73 (.mv (.t 2)),uA 77 73 (.ixs 1 (.t 75) (.t 76)),uA 78 73 (.ld false 1 (.t 77)),uA 79 73 (.cmp .eql .i64 (.t 78) (kI 0)),uB 80 71 (uG 73 79),aO 81 (pF 71 80),mT 82 81,uB 83 82 (.fa 3 (.t 4)),uB 84 82 (.ld false 1 (.t 83)),uB 85 82 (.mv (.t 2)),uB 86 82 (.ixs 1 (.t 84) (.t 85)),uB 87 82 (.ld false 1 (.t 86)),uB 88 82 (.cmp .geq .i64 (.t 87) (kI 0)),aO 89 (pF 82 88),mT 90 89,uB 91 90 (.fa 3 (.t 4)),uB 92 90 (.ld false 1 (.t 91)),uB 93 90 (.mv (.t 2)),uB 94 90 (.ixs 1 (.t 92) (.t 93)),uB 95 90 (.ld false 1 (.t 94)),uB 96 90 (.cmp .leq .i64 (.t 95) (kI 255)),aO 97 (pF 90 96),mT 98 97,uB 99 98 (.mv (.t 9)),uB 100 98 (.mv (.t 99)),uA 101 100 (.fa 3 (.t 4)),uA 102 100 (.ld false 1 (.t 101)),uA 103 100 (.mv (.t 2)),uA 104 100 (.ixs 1 (.t 102) (.t 103)),uA 105 100 (.ld false 1 (.t 104)),uA 106 100 (.cmp .eql .i64 (.t 105) (kI 0)),uB 107 98 (uG 100 106),aO 108 (pF 98 107),mT 6 108])
 .ret))))))
def rv60:List RV:=[.tmp 6]
theorem ok60:fnOk Tryz.prog ac60 rv60 Tryz.f60=true:=by kernel_rfl
end Go.Proofs.YtecoaapkcnhlhaaGreatDoor.Txt
namespace Go.Proofs.YtecoaapkcnhlhaaGreatDoor
open Go Go.Vc Txt
theorem qy6(a b:List Int)(ha:(a.length:Int)<=1000000)(hb:(b.length:Int)<=1000000):FnEq Tryz.prog 51 [.sl false 1 (ints a),.sl false 1 (ints b)] (.bool (decide (a=b))):=by
 refine FnEq.of_awp Tryz.func51 ok51 (by show 2<=_;decide) (by simp only[push_cast,reduceIte,zA,zB,zC,zD,zE,zF,zG,reduceCtorEq,zH,zJ,cNI]<;>first|exact fun _ _=>trivial|simp) ?_
 simp only[ac51,rv51,push_cast,reduceIte,zA,zB,zC,zD,zE,zF,zG,reduceCtorEq,zH,zJ,cNI]
 refine qnY (fun h=> ?_) fun h=> ?_
 ·rw[decide_eq_false];intro e;exact h (by rw[e])
 have hab:a.length=b.length:=by omega
 refine qoP (fun m st=> ∃k:Nat,k<=a.length/\m=a.length-k/\a.take k=b.take k/\st=⟨[(0,.sl false 1 (ints a)),(1,.sl false 1 (ints b)),(5,.int k)],[],[],[]⟩) a.length ?_ ?_
 ·refine⟨0,oM,oM,by simp,?_⟩
  exact sC
 ·rintro m st ⟨k,hk,rfl,h1,rfl⟩
  refine sB ?_
  refine qnY (fun h2=> ?_) fun h2=> ?_
  ·have ka:k<a.length:=by omega
   have kb:k<b.length:=by omega
   have ga:a.getD k default=a[k]:=by simp[ka]
   have gb:b.getD k default=b[k]:=by simp[kb]
   rw[ga,gb]
   refine⟨⟨oM,oM⟩,ka,⟨oM,oM⟩,kb,qnY (fun h3=> ?_) fun h3=> ?_⟩
   ·rw[decide_eq_false];intro e;subst e;exact h3 rfl
   ·refine⟨⟨oM,oM⟩,_,?_,k+1,oM,rfl,?_,?_⟩
    ·omega
    ·rw[zZ ka,zZ kb,h1,Classical.not_not.1 h3]
    ·simp
  ·rw[zY oM,zY oM]at h1
   rw[decide_eq_true h1]
theorem qy7(g:Grid)(hg:GOk g):FnEq Tryz.prog 65 [.agg (quX false g)] (.agg (cfgC true (qxc g))):=by
 have h1:=hg.count
 have h2:=hg.wh
 have h3:=hg.kind
 refine FnEq.of_awp Tryz.func65 ok65 (by show 1<=_;decide) (by simp only[push_cast,reduceIte,zA,zB,zC,zD,zE,zF,zG,reduceCtorEq,zH,zJ,cNI]<;>first|exact fun _ _=>trivial|simp) ?_
 simp only[ac65,rv65,push_cast,reduceIte,zA,zB,zC,zD,zE,zF,zG,reduceCtorEq,zH,zJ,cNI]
 refine qrx (qv5 g hg) sC rfl ?_
 refine sB ?_
 refine⟨oM,oM,oM,oM,?_⟩
 simp only[qxc,push_cast,reduceIte,zA,zB,zC,zD,zE,zF,zG,reduceCtorEq,zH,zJ,cNI]
 exact⟨fun _ _=>trivial,fun _ _=>trivial⟩
theorem qy9(g:Grid)(hg:GOk g)(n:Int)(hn: -1000000000<=n/\n<=1000000000):FnEq Tryz.prog 31 [.agg (quX false g),.int n] (.int (qwb g n).length):=by
 refine FnEq.of_awp Tryz.func31 ok31 (by show 2<=_;decide) (by simp only[push_cast,reduceIte,zA,zB,zC,zD,zE,zF,zG,reduceCtorEq,zH,zJ,cNI]<;>first|exact fun _ _=>trivial|simp) ?_
 simp only[ac31,rv31,push_cast,reduceIte,zA,zB,zC,zD,zE,zF,zG,reduceCtorEq,zH,zJ,cNI]
 refine qrv (qwq g hg n hn) sC ?_
 refine sB ?_
 rw[qy3 hg]
end Go.Proofs.YtecoaapkcnhlhaaGreatDoor
namespace Go.Vc
end Go.Vc
namespace Go.Proofs.YtecoaapkcnhlhaaGreatDoor
open Go Go.Vc Txt
end Go.Proofs.YtecoaapkcnhlhaaGreatDoor
namespace Go.Vc
end Go.Vc
namespace Go.Proofs.YtecoaapkcnhlhaaGreatDoor
open Go Go.Vc Txt
structure CfgSm (c:Cfg):Prop where
 sel:(c.sel.length:Int)<=1000000
 mode:(c.mode.length:Int)<=1000000
 tab:(c.tab.length:Int)<=1000000
 ram:(c.ram.length:Int)<=1000000
end Go.Proofs.YtecoaapkcnhlhaaGreatDoor
namespace Go.Proofs.YtecoaapkcnhlhaaGreatDoor.Txt
open Go Go.Vc
set_option maxRecDepth 100000
def ac81b_r6:AC:=
 (.seq (.reg [0,40,0,1,2,3,9,10] [
 mT 23 1,aO 24 (.cal 79 [(.t 23),(kI 0),(kI 3)]),mT 25 24,uB 26 25 (.mv (.t 0)),uB 27 25 (.mv (.t 1)),uB 28 25 (.cal 103 [(.t 26),(.t 27)]),aO 29 (pF 25 28),mT 30 29,uB 31 30 (.mv (.t 2)),uB 32 30 (.mv (.t 9)),uB 33 30 (.cal 79 [(.t 31),(kI 0),(.t 32)]),aO 34 (pF 30 33),mT 35 34,uB 36 35 (.mv (.t 3)),uB 37 35 (.mv (.t 10)),uB 38 35 (.cal 79 [(.t 36),(kI 0),(.t 37)]),aO 39 (pF 35 38),mT 8 39])
 .ret)
def ac81b:AC:=
 (.seq (.reg [0,40,0,1,2,3] [
 aO 8 (.mv bF)])
 (.seq (.reg [0,40,0,1,2,3] [
 mK 9 0,mK 10 0])
 (.seq (.seq (.reg [0,40,0,1,2,3,9,10] [
 mT 11 1,eK 12 11 1,mT 13 12,uA 14 13 (.mv (.t 1)),uA 15 13 (.cmp .eql .i64 (.t 14) (kI 2)),aO 16 (uG 13 15)])
 (.cut [0,40,0,1,2,3,9,10,16] (.cond (.t 16)
 (.reg [0,40,0,1,2,3,10] [
 mK 9 65535])
 .skip)))
 (.seq (.seq (.reg [0,40,0,1,2,3,9,10] [
 mT 17 1,eK 18 17 2,mT 19 18,uA 20 19 (.mv (.t 1)),uA 21 19 (.cmp .eql .i64 (.t 20) (kI 3)),aO 22 (uG 19 21)])
 (.cut [0,40,0,1,2,3,9,10,22] (.cond (.t 22)
 (.reg [0,40,0,1,2,3,9] [
 mK 10 255])
 .skip)))
 ac81b_r6))))
def rv81b:List RV:=[.tmp 8]
theorem ok81b:fnOk Tryz.prog ac81b rv81b Tryz.f81=true:=by kernel_rfl
end Go.Proofs.YtecoaapkcnhlhaaGreatDoor.Txt
namespace Go.Proofs.YtecoaapkcnhlhaaGreatDoor
open Go Go.Vc Txt
def qym(k m t r:Int):Prop:=(0<=m/\m<=3)/\qwY k m=true/\(0<=t/\t<=if m=1\/m=2 then 65535 else 0)/\(0<=r/\r<=if m=2\/m=3 then 255 else 0)
instance (k m t r:Int):Decidable (qym k m t r):=by unfold qym;infer_instance
set_option maxHeartbeats 2000000 in
theorem qyn(k m t r:Int):FnEq Tryz.prog 81 [.int k,.int m,.int t,.int r] (.bool (decide (qym k m t r))):=by
 have key: ∀T R:Int,(T=if m=1\/m=2 then 65535 else 0)->(R=if m=2\/m=3 then 255 else 0)->(qym k m t r ↔ (0<=m/\m<=3)/\qwY k m=true/\(0<=t/\t<=T)/\(0<=r/\r<=R)):=fun T R hT hR=>by rw[qym,hT,hR]
 have fin : ∀ T R : Int, (T = if m = 1 \/ m = 2 then 65535 else 0) -> (R = if m = 2 \/ m = 3 then 255 else 0) -> ∀ {st : St}, st.keepS [0, 40, 0, 1, 2, 3, 9, 10] = ⟨[(0, .int k), (1, .int m), (2, .int t), (3, .int r), (9, .int T), (10, .int R)], [], [], []⟩ ->
   awp (Env.of Tryz.prog) ac81b_r6 (retK rv81b fun x=>Sub x (.bool (decide (qym k m t r)))) st:=by
  intro T R hT hR st hst
  have hk:=key T R hT hR
  simp only[ac81b_r6,rv81b,push_cast,reduceIte,zA,zB,zC,zD,zE,zF,zG,reduceCtorEq,zH,zJ,cNI,hst]
  refine qoM (qwX _ _ _) ?_
  refine sB ?_
  refine qrz rfl (fun w1=> ?_) fun w1=> ?_<;>simp only[push_cast,reduceIte,zA,zB,zC,zD,zE,zF,zG,reduceCtorEq,zH,zJ,cNI]
  rotate_left
  ·rw[decide_eq_false fun h=>w1 (hk.1 h).1]
  refine qoM (qwZ _ _) ?_
  refine sB ?_
  refine qrB rfl (fun w2=> ?_) fun w2=> ?_<;>simp only[push_cast,reduceIte,zA,zB,zC,zD,zE,zF,zG,reduceCtorEq,zH,zJ,cNI]
  rotate_left
  ·rw[decide_eq_false fun h=>by have:=(hk.1 h).2.1;rw[w2]at this;cases this]
  refine qoM (qwX _ _ _) ?_
  refine sB ?_
  refine qrz rfl (fun w3=> ?_) fun w3=> ?_<;>simp only[push_cast,reduceIte,zA,zB,zC,zD,zE,zF,zG,reduceCtorEq,zH,zJ,cNI]
  rotate_left
  ·rw[decide_eq_false fun h=>w3 (hk.1 h).2.2.1]
  refine qoM (qwX _ _ _) ?_
  refine sB ?_
  rw[decide_eq_decide.2 (show(0<=r/\r<=R) ↔ qym k m t r from⟨fun h=>hk.2 ⟨w1,w2,w3,h⟩,fun h=>(hk.1 h).2.2.2⟩)]
 refine FnEq.of_awp Tryz.func81 ok81b (by show 4<=_;decide) (by simp only[push_cast,reduceIte,zA,zB,zC,zD,zE,zF,zG,reduceCtorEq,zH,zJ,cNI]<;>first|exact fun _ _=>trivial|simp) ?_
 simp only[ac81b,push_cast,reduceIte,zA,zB,zC,zD,zE,zF,zG,reduceCtorEq,zH,zJ,cNI]
 cases e1:decide (m=1)<;>cases e2:decide (m=2)<;>cases e3:decide (m=3)
 all_goals have h1:=e1
 all_goals have h2:=e2
 all_goals have h3:=e3
 all_goals simp only[decide_eq_true_eq,decide_eq_false_iff_not]at h1 h2 h3
 all_goals first|(exfalso;omega)|skip
 all_goals simp only[e1,e2,e3,push_cast,reduceIte,zA,zB,zC,zD,zE,zF,zG,reduceCtorEq,zH,zJ,cNI]
 ·refine fin 0 0 (by rw[if_neg oM]) (by rw[if_neg oM]) ?_
  exact sC
 ·refine fin 0 255 (by rw[if_neg oM]) (by rw[if_pos oM]) ?_
  exact sC
 ·refine fin 65535 255 (by rw[if_pos oM]) (by rw[if_pos oM]) ?_
  exact sC
 ·refine fin 65535 0 (by rw[if_pos oM]) (by rw[if_neg oM]) ?_
  exact sC
set_option maxHeartbeats 4000000 in
theorem qyo (g : Grid) (c : Cfg) (t : Int) (ht : 0 <= t /\ t < g.kind.length) (h1 : t < c.mode.length) (h2 : t < c.tab.length) (h3 : t < c.ram.length) :
  FnEq Tryz.prog 60 [.agg (quX false g),.agg (cfgC false c),.int t] (.bool (decide (qym (g.kind.getD t.toNat default) (c.mode.getD t.toNat default) (c.tab.getD t.toNat default) (c.ram.getD t.toNat default)))):=by
 refine FnEq.of_awp Tryz.func60 ok60 (by show 3<=_;decide) (by simp only[push_cast,reduceIte,zA,zB,zC,zD,zE,zF,zG,reduceCtorEq,zH,zJ,cNI]<;>first|exact fun _ _=>trivial|simp) ?_
 simp only[ac60,rv60,push_cast,reduceIte,zA,zB,zC,zD,zE,zF,zG,reduceCtorEq,zH,zJ,cNI]
 refine⟨oM,oM,?_⟩
 generalize hm:c.mode.getD t.toNat default=m
 generalize hk:g.kind.getD t.toNat default=k
 generalize ha:c.tab.getD t.toNat default=a
 generalize hr:c.ram.getD t.toNat default=r
 obtain⟨B,hB⟩: ∃B,B=decide (m<0\/3<m\/(k=0/\m≠0)\/(k=1/\m=3)):=⟨_,rfl⟩
 refine qrH ⟨[(2,.int t),(4,.ptr 4 0),(7,.int m),(44,.bool B)],[(3,quX false g),(4,cfgC false c)],[],[]⟩ ?_ ?_
 ·repeat' (first
   |(refine qrz rfl (fun _=> ?_) fun _=> ?_<;>simp only[hk,push_cast,reduceIte,zA,zB,zC,zD,zE,zF,zG,reduceCtorEq,zH,zJ,cNI])
   |(refine qrA rfl (fun _=> ?_) fun _=> ?_<;>simp only[hk,push_cast,reduceIte,zA,zB,zC,zD,zE,zF,zG,reduceCtorEq,zH,zJ,cNI])
   |(refine And.intro oM ?_))
  all_goals first
   |(rw[show B=true from by rw[hB];exact decide_eq_true oM];done)
   |(rw[show B=false from by rw[hB];exact decide_eq_false oM];done)
   |(rw[show B=decide (m=3)from by rw[hB,decide_eq_decide];omega];done)
   |(rw[show B=decide (¬m=0)from by rw[hB,decide_eq_decide];omega];done)
 refine sB ?_
 refine qnX (fun e=> ?_) fun e=> ?_
 ·rw[hB,decide_eq_true_eq]at e
  rw[decide_eq_false fun h=> ?_]
  have h1:=h.1
  have h2:=h.2.1
  unfold qwY at h2
  by_cases k0:k=0
  ·rw[if_pos k0]at h2
   simp at h2
   omega
  ·rw[if_neg k0]at h2
   by_cases k1:k=1
   ·rw[if_pos k1]at h2
    simp at h2
    omega
   ·omega
 ·rw[hB,decide_eq_false_iff_not]at e
  have hh:qwY k m=true:=by
   unfold qwY
   split
   ·simp;omega
   ·split
    ·simp;omega
    ·rfl
  obtain⟨T1,hT1⟩: ∃T1,T1=decide (m=1\/m=2):=⟨_,rfl⟩
  obtain⟨R1,hR1⟩: ∃R1,R1=decide (m=2\/m=3):=⟨_,rfl⟩
  refine qrH ⟨[(2,.int t),(4,.ptr 4 0),(8,.bool T1),(9,.bool R1)],[(3,quX false g),(4,cfgC false c)],[],[]⟩ ?_ ?_
  ·repeat' (first
    |(refine qrz rfl (fun _=> ?_) fun _=> ?_<;>simp only[push_cast,reduceIte,zA,zB,zC,zD,zE,zF,zG,reduceCtorEq,zH,zJ,cNI])
    |(refine qrA rfl (fun _=> ?_) fun _=> ?_<;>simp only[push_cast,reduceIte,zA,zB,zC,zD,zE,zF,zG,reduceCtorEq,zH,zJ,cNI]))
   all_goals
    first
     |(rw[show T1=true from by rw[hT1];exact decide_eq_true oM,show R1=true from by rw[hR1];exact decide_eq_true oM];done)
     |(rw[show T1=true from by rw[hT1];exact decide_eq_true oM,show R1=false from by rw[hR1];exact decide_eq_false oM];done)
     |(rw[show T1=true from by rw[hT1];exact decide_eq_true oM,show R1=decide (m=3)from by rw[hR1,decide_eq_decide];omega];done)
     |(rw[show T1=false from by rw[hT1];exact decide_eq_false oM,show R1=true from by rw[hR1];exact decide_eq_true oM];done)
     |(rw[show T1=false from by rw[hT1];exact decide_eq_false oM,show R1=false from by rw[hR1];exact decide_eq_false oM];done)
     |(rw[show T1=false from by rw[hT1];exact decide_eq_false oM,show R1=decide (m=3)from by rw[hR1,decide_eq_decide];omega];done)
     |(rw[show T1=decide (m=2)from by rw[hT1,decide_eq_decide];omega,show R1=true from by rw[hR1];exact decide_eq_true oM];done)
     |(rw[show T1=decide (m=2)from by rw[hT1,decide_eq_decide];omega,show R1=false from by rw[hR1];exact decide_eq_false oM];done)
     |(rw[show T1=decide (m=2)from by rw[hT1,decide_eq_decide];omega,show R1=decide (m=3)from by rw[hR1,decide_eq_decide];omega];done)
  have hT:qym k m a r ↔ 0<=a/\a<=65535/\(T1=true\/a=0)/\0<=r/\r<=255/\(R1=true\/r=0):=by
   rw[hT1,hR1,decide_eq_true_eq,decide_eq_true_eq,qym]
   constructor
   ·rintro⟨_,_,q1,q2⟩
    split at q1<;>split at q2<;>omega
   ·intro q
    refine⟨oM,hh,?_,?_⟩
    ·split<;>omega
    ·split<;>omega
  clear hT1 hR1 e hh hB
  cases T1<;>cases R1<;>simp only[Bool.false_eq_true,eq_self,false_or,true_or,true_and,and_true]at hT<;>simp only[push_cast,reduceIte,zA,zB,zC,zD,zE,zF,zG,reduceCtorEq,zH,zJ,cNI]
  all_goals repeat' (first
   |(refine qrz rfl (fun _=> ?_) fun _=> ?_<;>simp only[ha,hr,push_cast,reduceIte,zA,zB,zC,zD,zE,zF,zG,reduceCtorEq,zH,zJ,cNI])
   |(refine qrA rfl (fun _=> ?_) fun _=> ?_<;>simp only[ha,hr,push_cast,reduceIte,zA,zB,zC,zD,zE,zF,zG,reduceCtorEq,zH,zJ,cNI])
   |(refine And.intro oM ?_))
  all_goals
   first
    |(rw[decide_eq_false fun h=>by have:=hT.1 h;omega];done)
    |(rw[decide_eq_true (hT.2 oM)];done)
    |(rw[show decide (qym k m a r)=decide (r=0)from by rw[decide_eq_decide,hT];omega];done)
    |(rw[show decide (qym k m a r)=decide (r<=255)from by rw[decide_eq_decide,hT];omega];done)
def qyp(g:Grid)(c:Cfg):Prop:=(c.sel.length=(qv2 g).toNat/\c.mode.length=g.kind.length/\c.tab.length=g.kind.length/\c.ram.length=g.kind.length)/\
 (∀i,i<c.sel.length->c.sel.getD i 0≠0->1<=c.sel.getD i 0/\c.sel.getD i 0<=(qwb g i).length)/\ ∀t,t<g.kind.length->qym (g.kind.getD t 0) (c.mode.getD t 0) (c.tab.getD t 0) (c.ram.getD t 0)
open Classical in
noncomputable def validE (g:Grid) (c:Cfg):Int:=if qyp g c then 0 else 310
theorem qyq{p:Prop} [Decidable p](h:(!decide p)=true): ¬p:=by simpa using h
theorem qyr{p:Prop} [Decidable p](h:(!decide p)=false):p:=by simpa using h
def qys(g:Grid)(c:Cfg):Prop:=c.sel.length=(qv2 g).toNat/\c.mode.length=g.kind.length/\c.tab.length=g.kind.length/\c.ram.length=g.kind.length
instance (g:Grid) (c:Cfg):Decidable (qys g c):=by unfold qys;infer_instance
def qyt(g:Grid)(c:Cfg)(i:Nat):Prop:=c.sel.getD i 0≠0->1<=c.sel.getD i 0/\c.sel.getD i 0<=(qwb g i).length
def qyu(g:Grid)(c:Cfg)(t:Nat):Prop:=qym (g.kind.getD t 0) (c.mode.getD t 0) (c.tab.getD t 0) (c.ram.getD t 0)
instance (g:Grid) (c:Cfg) (i:Nat):Decidable (qyt g c i):=by unfold qyt;infer_instance
instance (g:Grid) (c:Cfg) (t:Nat):Decidable (qyu g c t):=by unfold qyu;infer_instance
theorem qyv{g:Grid}{c:Cfg}(h1:qys g c)(h2: ∀i,i<c.sel.length->qyt g c i)(h3: ∀t,t<g.kind.length->qyu g c t):validE g c=0:=if_pos ⟨h1,h2,h3⟩
theorem qyw{g:Grid}{c:Cfg}(h: ¬qys g c):validE g c=310:=if_neg fun e=>h e.1
theorem qyx{g:Grid}{c:Cfg}{i:Nat}(hi:i<c.sel.length)(h: ¬qyt g c i):validE g c=310:=if_neg fun e=>h (e.2.1 i hi)
theorem qyy{g:Grid}{c:Cfg}{t:Nat}(ht:t<g.kind.length)(h: ¬qyu g c t):validE g c=310:=if_neg fun e=>h (e.2.2 t ht)
set_option maxHeartbeats 4000000 in
theorem qyz(g:Grid)(hg:GOk g)(c:Cfg)(hs:CfgSm c):FnEq Tryz.prog 57 [.agg (quX false g),.agg (cfgC false c)] (.int (validE g c)):=by
 have hc:=hg.count
 have hk:=hg.kind
 have hw:=hg.wh
 have s1:=hs.sel
 have s2:=hs.mode
 have s3:=hs.tab
 have s4:=hs.ram
 refine FnEq.of_awp Tryz.func57 ok57 (by show 2<=_;decide) (by simp only[push_cast,reduceIte,zA,zB,zC,zD,zE,zF,zG,reduceCtorEq,zH,zJ,cNI]<;>first|exact fun _ _=>trivial|simp) ?_
 simp only[ac57,rv57,push_cast,reduceIte,zA,zB,zC,zD,zE,zF,zG,reduceCtorEq,zH,zJ,cNI]
 refine qrx (qv5 g hg) sC rfl ?_
 refine sB ?_
 obtain⟨B,hB⟩: ∃B,B=decide (¬qys g c):=⟨_,rfl⟩
 refine qrI ⟨[(2,.ptr 2 0),(3,.ptr 3 0),(39,.bool B)],[(2,quX false g),(3,cfgC false c)],[],[]⟩ ?_ ?_
 ·unfold qys at hB
  repeat' (first
   |(refine qrE rfl (fun _=> ?_) fun _=> ?_<;>simp only[push_cast,reduceIte,zA,zB,zC,zD,zE,zF,zG,reduceCtorEq,zH,zJ,cNI])
   |(refine qrD rfl (fun _=> ?_) fun _=> ?_<;>simp only[push_cast,reduceIte,zA,zB,zC,zD,zE,zF,zG,reduceCtorEq,zH,zJ,cNI]))
  all_goals first
   |(rw[show B=true from by rw[hB];exact decide_eq_true oM];done)
   |(rw[show B=decide ((c.ram.length:Int)≠g.kind.length)from by rw[hB,decide_eq_decide];omega];done)
 refine sB ?_
 refine qnX (fun e=> ?_) fun e=> ?_
 ·rw[hB,decide_eq_true_eq]at e
  rw[qyw e]
 rw[hB,decide_eq_false_iff_not,Classical.not_not]at e
 have el:=e
 obtain⟨q1,q2,q3,q4⟩:=e
 refine qoP (fun m st=> ∃k:Nat,k<=c.sel.length/\m=c.sel.length-k/\(∀i,i<k->qyt g c i)/\st=⟨[(2,.ptr 2 0),(3,.ptr 3 0),(41,.sl false 1 (ints c.sel)),(42,.int c.sel.length),(43,.int k)],[(2,quX false g),(3,cfgC false c)],[],[]⟩) c.sel.length ?_ ?_
 ·refine⟨0,oM,oM,fun i hi=>by omega,?_⟩
  exact sC
 rintro m st ⟨k,hk,rfl,hP,rfl⟩
 refine sB ?_
 refine qnY (fun h=>⟨oM,oM,?_⟩) fun h=> ?_
 ·have next : qyt g c k -> ∀ i, i < k + 1 -> qyt g c i := fun hs i hi => by
   by_cases e:i=k
   ·rw[e];exact hs
   ·exact hP i oM
  have hdl:=qxu g hg k
  refine qrz rfl (fun h2=> ?_) fun h2=> ?_<;>simp only[push_cast,reduceIte,zA,zB,zC,zD,zE,zF,zG,reduceCtorEq,zH,zJ,cNI]
  ·refine qrv (qwf g hg k oM) sC ?_
   refine sB ?_
   refine qoM (qwX _ _ _) ?_
   refine sB ?_
   refine qnX (fun h3=> ?_) fun h3=> ?_
   ·have h3: ¬(1<=c.sel.getD k 0/\c.sel.getD k 0<=(qwb g k).length):=qyq h3
    rw[qyx (i:=k) oM (fun hs=>h3 (hs h2))]
   ·have h3:1<=c.sel.getD k 0/\c.sel.getD k 0<=(qwb g k).length:=qyr h3
    refine⟨oM,_,?_,k+1,oM,rfl,next (fun _=>h3),?_⟩
    ·omega
    ·exact sC
  ·refine⟨oM,_,?_,k+1,oM,rfl,next (fun h3=>absurd h3 h2),?_⟩
   ·omega
   ·exact sC
 have hsel: ∀i,i<c.sel.length->qyt g c i:=fun i hi=>hP i oM
 refine qoP (fun m st=> ∃k:Nat,k<=g.kind.length/\m=g.kind.length-k/\(∀i,i<k->qyu g c i)/\st=⟨[(3,.ptr 3 0),(61,.sl false 1 (ints g.kind)),(62,.int g.kind.length),(63,.int k)],[(3,cfgC false c)],[],[]⟩) g.kind.length ?_ ?_
 ·refine⟨0,oM,oM,fun i hi=>by omega,?_⟩
  exact sC
 rintro m st ⟨k,hk,rfl,hP,rfl⟩
 refine sB ?_
 refine qnY (fun h=>⟨oM,oM,?_⟩) fun h=> ?_
 ·refine⟨oM,oM,oM,oM,oM,oM,?_⟩
  refine qoM (qyn _ _ _ _) ?_
  refine sB ?_
  refine qnX (fun h3=> ?_) fun h3=> ?_
  ·have h3: ¬qyu g c k:=qyq h3
   rw[qyy (t:=k) oM h3]
  ·have h3:qyu g c k:=qyr h3
   refine⟨oM,_,?_,k+1,oM,rfl,?_,?_⟩
   ·omega
   ·intro i hi
    by_cases e:i=k
    ·rw[e];exact h3
    ·exact hP i oM
   ·exact sC
 ·rw[qyv el hsel fun t ht=>hP t oM]
set_option maxHeartbeats 4000000 in
theorem qyA(g:Grid)(hg:GOk g)(c:Cfg)(hs:CfgSm c):FnEq Tryz.prog 33 [.agg (quX false g),.agg (cfgC false c)] (.int (validE g c)):=by
 have hc:=hg.count
 have hk:=hg.kind
 have hw:=hg.wh
 have s1:=hs.sel
 have s2:=hs.mode
 have s3:=hs.tab
 have s4:=hs.ram
 refine FnEq.of_awp Tryz.func33 ok33 (by show 2<=_;decide) (by simp only[push_cast,reduceIte,zA,zB,zC,zD,zE,zF,zG,reduceCtorEq,zH,zJ,cNI]<;>first|exact fun _ _=>trivial|simp) ?_
 simp only[ac33,rv33,push_cast,reduceIte,zA,zB,zC,zD,zE,zF,zG,reduceCtorEq,zH,zJ,cNI]
 refine⟨oM,?_⟩
 rw[show g.w*g.h=(g.kind.length:Int)by omega]
 refine qrx (qv7 g hg) sC rfl ?_
 refine sB ?_
 obtain⟨B,hB⟩: ∃B,B=decide (¬qys g c):=⟨_,rfl⟩
 refine qrI ⟨[(2,.ptr 2 0),(3,.ptr 3 0),(5,.int g.kind.length),(39,.bool B)],[(2,quX false g),(3,cfgC false c)],[],[]⟩ ?_ ?_
 ·unfold qys at hB
  repeat' (first
   |(refine qrE rfl (fun _=> ?_) fun _=> ?_<;>simp only[push_cast,reduceIte,zA,zB,zC,zD,zE,zF,zG,reduceCtorEq,zH,zJ,cNI])
   |(refine qrD rfl (fun _=> ?_) fun _=> ?_<;>simp only[push_cast,reduceIte,zA,zB,zC,zD,zE,zF,zG,reduceCtorEq,zH,zJ,cNI]))
  all_goals first
   |(rw[show B=true from by rw[hB];exact decide_eq_true oM];done)
   |(rw[show B=decide ((c.ram.length:Int)≠g.kind.length)from by rw[hB,decide_eq_decide];omega];done)
 refine sB ?_
 refine qnX (fun e=> ?_) fun e=> ?_
 ·rw[hB,decide_eq_true_eq]at e
  rw[qyw e]
 rw[hB,decide_eq_false_iff_not,Classical.not_not]at e
 have el:=e
 obtain⟨q1,q2,q3,q4⟩:=e
 refine qoP (fun m st=> ∃k:Nat,k<=c.sel.length/\m=c.sel.length-k/\(∀i,i<k->qyt g c i)/\st=⟨[(2,.ptr 2 0),(3,.ptr 3 0),(5,.int g.kind.length),(6,.int k)],[(2,quX false g),(3,cfgC false c)],[],[]⟩) c.sel.length ?_ ?_
 ·refine⟨0,oM,oM,fun i hi=>by omega,?_⟩
  exact sC
 rintro m st ⟨k,hk,rfl,hP,rfl⟩
 refine sB ?_
 refine qnY (fun h=>⟨oM,oM,?_⟩) fun h=> ?_
 ·have next : qyt g c k -> ∀ i, i < k + 1 -> qyt g c i := fun hs i hi => by
   by_cases e:i=k
   ·rw[e];exact hs
   ·exact hP i oM
  have hdl:=qxu g hg k
  have hdef:c.sel.getD k default=c.sel.getD k 0:=rfl
  rw[hdef]
  generalize hx:c.sel.getD k 0=x
  obtain⟨D,hD⟩: ∃D,D=decide (¬qyt g c k):=⟨_,rfl⟩
  have hSA:qyt g c k ↔ (x≠0->1<=x/\x<=(qwb g k).length):=by rw[qyt,hx]
  refine qrI ⟨[(2,.ptr 2 0),(3,.ptr 3 0),(5,.int g.kind.length),(6,.int k),(71,.bool D)],[(2,quX false g),(3,cfgC false c)],[],[]⟩ ?_ ?_
  ·refine qrD rfl (fun _=> ?_) fun _=> ?_<;>simp only[hdef,hx,push_cast,reduceIte,zA,zB,zC,zD,zE,zF,zG,reduceCtorEq,zH,zJ,cNI]
   ·refine⟨oM,oM,?_⟩
    refine qrE rfl (fun _=> ?_) fun _=> ?_<;>simp only[hdef,hx,push_cast,reduceIte,zA,zB,zC,zD,zE,zF,zG,reduceCtorEq,zH,zJ,cNI]
    ·rw[show D=true from by rw[hD];exact decide_eq_true (by rw[hSA];omega)]
    ·refine⟨oM,oM,?_⟩
     refine qqU (qy9 g hg k oM) (u:=[]) rfl ?_
     simp only[hdef,hx,push_cast,reduceIte,zA,zB,zC,zD,zE,zF,zG,reduceCtorEq,zH,zJ,cNI]
     rw[show D=decide (((qwb g k).length:Int)<x)from by rw[hD,decide_eq_decide,hSA];omega]
   ·rw[show D=false from by rw[hD];exact decide_eq_false (by rw[hSA];omega)]
  refine sB ?_
  refine qnX (fun h3=> ?_) fun h3=> ?_
  ·rw[hD,decide_eq_true_eq]at h3
   rw[qyx (i:=k) oM h3]
  ·rw[hD,decide_eq_false_iff_not,Classical.not_not]at h3
   refine⟨oM,_,?_,k+1,oM,rfl,next h3,?_⟩
   ·omega
   ·exact sC
 have hsel: ∀i,i<c.sel.length->qyt g c i:=fun i hi=>hP i oM
 refine qoP (fun m st=> ∃k:Nat,k<=g.kind.length/\m=g.kind.length-k/\(∀i,i<k->qyu g c i)/\st=⟨[(2,.ptr 2 0),(3,.ptr 3 0),(5,.int g.kind.length),(7,.int k)],[(2,quX false g),(3,cfgC false c)],[],[]⟩) g.kind.length ?_ ?_
 ·refine⟨0,oM,oM,fun i hi=>by omega,?_⟩
  exact sC
 rintro m st ⟨k,hk,rfl,hP,rfl⟩
 refine sB ?_
 refine qnY (fun h=> ?_) fun h=> ?_
 ·refine qrv (qyo g c k oM oM oM oM) sC ?_
  refine sB ?_
  refine qnX (fun h3=> ?_) fun h3=> ?_
  ·have h3: ¬qyu g c k:=qyq h3
   rw[qyy (t:=k) oM h3]
  ·have h3:qyu g c k:=qyr h3
   refine⟨oM,_,?_,k+1,oM,rfl,?_,?_⟩
   ·omega
   ·intro i hi
    by_cases e:i=k
    ·rw[e];exact h3
    ·exact hP i oM
   ·exact sC
 ·rw[qyv el hsel fun t ht=>hP t oM]
structure SelsOk (g:Grid) (c:Cfg):Prop where
 len:c.sel.length=(qv2 g).toNat
 sel: ∀i,i<c.sel.length->qyt g c i
theorem qyF{l:List Int}{k:Nat}(h:k<l.length):l.getD k 0∈l:=by simp[h]
theorem qyG(c d:Cfg)(hc:CfgSm c)(hd:CfgSm d):FnEq Tryz.prog 24 [.agg (cfgC false c),.agg (cfgC false d)] (.bool (decide (c=d))):=by
 have i0:=qy6 c.sel d.sel hc.sel hd.sel
 have i1:=qy6 c.mode d.mode hc.mode hd.mode
 have i2:=qy6 c.tab d.tab hc.tab hd.tab
 have i3:=qy6 c.ram d.ram hc.ram hd.ram
 have hE:c=d ↔ c.sel=d.sel/\c.mode=d.mode/\c.tab=d.tab/\c.ram=d.ram:=by
  cases c;cases d;simp
 refine FnEq.of_awp Tryz.func24 ok24 (by show 2<=_;decide) (by simp only[push_cast,reduceIte,zA,zB,zC,zD,zE,zF,zG,reduceCtorEq,zH,zJ,cNI]<;>first|exact fun _ _=>trivial|simp) ?_
 simp only[ac24,rv24,push_cast,reduceIte,zA,zB,zC,zD,zE,zF,zG,reduceCtorEq,zH,zJ,cNI]
 refine qoM i0 ?_
 refine sB ?_
 refine qrz rfl (fun e1=> ?_) fun e1=> ?_<;>simp only[push_cast,reduceIte,zA,zB,zC,zD,zE,zF,zG,reduceCtorEq,zH,zJ,cNI]
 ·refine qoM i1 ?_
  refine sB ?_
  refine qrz rfl (fun e2=> ?_) fun e2=> ?_<;>simp only[push_cast,reduceIte,zA,zB,zC,zD,zE,zF,zG,reduceCtorEq,zH,zJ,cNI]
  ·refine qoM i2 ?_
   refine sB ?_
   refine qrz rfl (fun e3=> ?_) fun e3=> ?_<;>simp only[push_cast,reduceIte,zA,zB,zC,zD,zE,zF,zG,reduceCtorEq,zH,zJ,cNI]
   ·refine qoM i3 ?_
    refine sB ?_
    simp_all
   ·simp_all
  ·simp_all
 ·simp_all
end Go.Proofs.YtecoaapkcnhlhaaGreatDoor
namespace Go.Proofs.YtecoaapkcnhlhaaGreatDoor.Txt
open Go Go.Vc
set_option maxRecDepth 100000
def ac30_200w:AC:=
 (.seq (.reg [200,19,200] [
 xT 201 200,aO 202 (.alc [.nil,.nil,.nil,.nil])])
 (.seq (.reg [200,19,201,202] [
 fA 204 0 201,lF 205 1 204,fA 206 1 201,lF 207 1 206,aO 208 (.ari .mul true .i64 (.t 205) (.t 207)),mT 203 208])
 (.seq (.drw [200,19,201,202,203] [
 eU 209 (.ld true 5 (.t 201)) [] [213,215,217],eU 210 (.cal 41 [(.t 209)]) [] [213,215,217],eU 211 (.mks 1 3 8 [zI] (.t 210) (.t 210)) [211] [213,215,217],eU 212 (.mv (.t 203)) [] [211,215,217],eU 213 (.mks 1 3 8 [zI] (.t 212) (.t 212)) [213] [211,215,217],eU 214 (.mv (.t 203)) [] [211,213,217],eU 215 (.mks 1 3 8 [zI] (.t 214) (.t 214)) [215] [211,213,217],eU 216 (.mv (.t 203)) [] [211,213,215],eU 217 (.mks 1 3 8 [zI] (.t 216) (.t 216)) [217] [211,213,215],eF 218 (.bld [.nil,.nil,.nil,.nil] [(0,1,(.t 211)),(1,1,(.t 213)),(2,1,(.t 215)),(3,1,(.t 217))]),⟨sT 4 202 218,[],[],false⟩])
 .ret)))
def rv30_200w:List RV:=[.cell 202 true 4]
theorem ok30_200w:qh6 Tryz.prog 200 ac30_200w rv30_200w Tryz.f30=true:=by kernel_rfl

def ac8w:AC:=
 (.seq (.reg [0,133,0,1] [
 xT 2 0,aO 4 (.alc [.nil,.nil,.nil,.nil])])
 (.seq (.reg [0,133,1,2,4] [
 uE 10 5 2,aO 11 (.clm 30 [(.t 10)]),aO 5 (.alc [.nil,.nil,.nil,.nil]),sT 4 5 11])
 (.seq (.seq (.reg [0,133,1,2,4,5] [
 mK 6 0])
 (.block 0
 (.loop [0,133,1,2,4,5,6]
 (.seq (.seq (.reg [0,133,1,2,4,5,6] [
 mT 12 6,uF 13 12 1,mT 14 1,nT 15 14,lS 16 13 15,mT 17 16,uB 18 17 (.mv (.t 6)),uB 19 17 (.cmp .lss .i64 (.t 18) (kI 80)),aO 20 (pF 17 19)])
 (.cut [0,133,1,2,4,5,6,20] (.cond (.t 20)
 .skip
 (.exit 0))))
 (.seq (.block 1
 (.seq (.drw [0,133,1,2,4,5,6] [
 eM 23 6,eT 24 (.ari .mul true .i64 (kI 7) (.t 23)),eM 25 1,eM 26 6,eI 27 1 25 26,eL 28 1 27,eT 29 (.cnv true .i64 (.t 28)),eT 30 (.ari .add true .i64 (.t 24) (.t 29)),eA 31 0 5,eL 32 1 31,eT 33 (.len (.t 32)),eF 34 (.dvd .rem true .i64 (.t 30) (.t 33)),eF 7 (.mv (.t 34))])
 (.seq (.reg [0,133,1,2,4,5,6,7] [
 uE 35 5 2,mT 36 7,aO 37 (.cal 31 [(.t 35),(.t 36)]),mT 8 37])
 (.seq (.seq (.reg [0,133,1,2,4,5,6,7,8] [
 mT 38 8,aO 39 (.cmp .gtr .i64 (.t 38) (kI 0))])
 (.cond (.t 39)
 (.drw [0,133,1,2,4,5,6,7,8] [
 eA 40 0 5,eL 41 1 40,eM 42 7,eM 43 1,eM 44 6,eT 45 (.ari .add true .i64 (.t 44) (kI 1)),eI 46 1 43 45,eL 47 1 46,eT 48 (.cnv true .i64 (.t 47)),eM 49 8,eT 50 (.dvd .rem true .i64 (.t 48) (.t 49)),eT 51 (.ari .add true .i64 (kI 1) (.t 50)),eF 52 (.ixs 1 (.t 41) (.t 42)),⟨sT 1 52 51,[],[],false⟩])
 .skip))
 (.seq (.drw [0,133,1,2,4,5,6] [
 eM 53 1,eM 54 6,eI 55 1 53 54,eL 56 1 55,eT 57 (.cnv true .i64 (.t 56)),eA 58 0 2,eL 59 1 58,eA 60 1 2,eL 61 1 60,eT 62 (.ari .mul true .i64 (.t 59) (.t 61)),eF 63 (.dvd .rem true .i64 (.t 57) (.t 62)),eF 9 (.mv (.t 63))])
 (.block 2
 (.seq (.reg [0,133,1,2,4,5,6,9] [
 fA 65 4 2,lF 66 1 65,mT 67 9,iX 68 1 66 67,lF 69 1 68,eK 70 69 0,mT 64 70])
 (.cond (.t 64)
 .skip
 (.seq (.reg [0,133,1,2,4,5,6,9] [
 mT 72 1,mT 73 6,uF 74 73 1,iX 75 1 72 74,lF 76 1 75,aO 77 (.dvd .rem true .u8 (.t 76) (.c (.sc (.int .u8 3)))),aO 78 (.cmp .eql .u8 (.t 77) (.c (.sc (.int .u8 0)))),mT 71 78])
 (.cond (.t 71)
 (.seq (.reg [0,133,1,2,4,5,6,9] [
 fA 79 1 5,lF 80 1 79,mT 81 9,iX 82 1 80 81,aN (.sto 1 (.t 82) (kI 1))])
 (.seq (.drw [0,133,1,2,4,5,6,9] [
 eA 83 2 5,eL 84 1 83,eM 85 9,eM 86 1,eM 87 6,eT 88 (.ari .add true .i64 (.t 87) (kI 1)),eI 89 1 86 88,eL 90 1 89,eT 91 (.cnv true .i64 (.t 90)),eT 92 (.ari .mul true .i64 (kI 100) (.t 91)),eF 93 (.ixs 1 (.t 84) (.t 85)),⟨sT 1 93 92,[],[],false⟩])
 (.reg [0,133,1,2,4,5,6,9] [
 fA 94 3 5,lF 95 1 94,mT 96 9,iX 97 1 95 96,aN (.sto 1 (.t 97) (kI 0))])))
 (.seq (.reg [0,133,1,2,4,5,6,9] [
 mT 99 1,mT 100 6,uF 101 100 1,iX 102 1 99 101,lF 103 1 102,aO 104 (.dvd .rem true .u8 (.t 103) (.c (.sc (.int .u8 3)))),aO 105 (.cmp .eql .u8 (.t 104) (.c (.sc (.int .u8 1)))),mT 98 105])
 (.cond (.t 98)
 (.seq (.reg [0,133,1,2,4,5,6,9] [
 fA 106 1 5,lF 107 1 106,mT 108 9,iX 109 1 107 108,aN (.sto 1 (.t 109) (kI 2))])
 (.seq (.drw [0,133,1,2,4,5,6,9] [
 eA 110 2 5,eL 111 1 110,eM 112 9,eM 113 1,eM 114 6,eT 115 (.ari .add true .i64 (.t 114) (kI 1)),eI 116 1 113 115,eL 117 1 116,eT 118 (.cnv true .i64 (.t 117)),eT 119 (.ari .mul true .i64 (kI 100) (.t 118)),eF 120 (.ixs 1 (.t 111) (.t 112)),⟨sT 1 120 119,[],[],false⟩])
 (.drw [0,133,1,2,4,5,6,9] [
 eA 121 3 5,eL 122 1 121,eM 123 9,eM 124 1,eM 125 6,eT 126 (.ari .add true .i64 (.t 125) (kI 1)),eI 127 1 124 126,eL 128 1 127,eT 129 (.dvd .quo true .u8 (.t 128) (.c (.sc (.int .u8 3)))),eT 130 (.cnv true .i64 (.t 129)),eF 131 (.ixs 1 (.t 122) (.t 123)),⟨sT 1 131 130,[],[],false⟩])))
 .skip))))))))))))
 (.reg [0,133,1,2,4,5,6] [
 mT 21 6,uF 22 21 2,mT 6 22]))))))
 (.seq (.reg [0,133,4,5] [
 uE 132 4 5,sT 4 4 132])
 .ret))))
def rv8w:List RV:=[.cell 4 true 4]
theorem ok8w:fnOk Tryz.prog ac8w rv8w Tryz.f8=true:=by kernel_rfl
end Go.Proofs.YtecoaapkcnhlhaaGreatDoor.Txt
namespace Go.Proofs.YtecoaapkcnhlhaaGreatDoor
open Go Go.Vc Txt
theorem qyJ{α:Type}(f:Nat->α)(k:Nat):(List.range (k+1)).map f=(List.range k).map f++[f k]:=by simp[List.range_succ]
def qyK(l:List Int)(i:Nat):Int:=if i<l.length/\l.getD i default%8<2 then l.getD i default%8 else 2
def qyL(n:Nat)(l:List Int):List Int:=(List.range n).map (qyK l)
theorem qyM (n : Nat) (hn : (n : Int) <= 1000000) (l : List Int) (hl : (l.length : Int) <= 9223372036854775807) (hb : ∀ x ∈ l, 0 <= x /\ x <= 255) :
  FnEq Tryz.prog 29 [.int n,.sl false 1 (qkf l)] (.sl true 1 (ints (qyL n l))):=by
 refine FnEq.of_awp Tryz.func29 ok29 (by show 2<=_;decide) (by simp only[push_cast,reduceIte,zA,zB,zC,zD,zE,zF,zG,reduceCtorEq,zH,zJ,cNI]<;>first|exact fun _ _=>trivial|simp) ?_
 simp only[ac29,rv29,push_cast,reduceIte,zA,zB,zC,zD,zE,zF,zG,reduceCtorEq,zH,zJ,cNI]
 refine qoP (fun m st=> ∃k:Nat,k<=n/\m=n-k/\
  st=⟨[(0,.int n),(1,.sl false 1 (qkf l)),(5,.view 8 0 k),(6,.int k)],[],[(8,⟨1,3,ints ((List.range k).map (qyK l))⟩)],[]⟩) n ?_ ?_
 ·refine⟨0,oM,oM,?_⟩
  refine sB ?_
  rfl
 ·rintro m st ⟨k,hk,rfl,rfl⟩
  refine sB ?_
  have hlen:((List.range k).map (qyK l)).length=k:=by simp
  have hsucc:=qyJ (qyK l) k
  refine qnY (fun h=> ?_) fun h=> ?_
  ·refine qrH ⟨[(0,.int n),(1,.sl false 1 (qkf l)),(5,.view 8 0 k),(6,.int k),(7,.int 2),(25,.bool (decide (k<l.length/\l.getD k default%8<2)))],[],[(8,⟨1,3,ints ((List.range k).map (qyK l))⟩)],[]⟩ ?_ ?_
   ·refine qrz rfl (fun h1=> ?_) fun h1=> ?_<;>simp only[push_cast,reduceIte,zA,zB,zC,zD,zE,zF,zG,reduceCtorEq,zH,zJ,cNI]
    ·have h1' :k<l.length:=by omega
     have hx:=hb _ (show l.getD k default∈l by simp[zK,h1'])
     refine⟨⟨oM,oM⟩,h1',⟨oM,oM,oM⟩,?_⟩
     rw[show decide (k<l.length/\l.getD k default%8<2)=decide (l.getD k default%8<2)from by rw[decide_eq_decide];omega]
    ·have h1' : ¬k<l.length:=by omega
     simp[h1']
   refine sB ?_
   refine qnY (fun h1=> ?_) fun h1=> ?_
   ·have hx:=hb _ (show l.getD k default∈l by simp[zK,h1.1])
    have hf:qyK l k=l.getD k default%8:=by rw[qyK,if_pos h1]
    rw[hf]at hsucc
    refine⟨⟨oM,oM⟩,h1.1,⟨oM,oM,oM⟩,⟨oM,oM⟩,by simp,⟨hlen.symm,oM,oM⟩,⟨oM,oM⟩,_,?_,k+1,oM,rfl,?_⟩
    ·omega
    ·rw[hsucc];simp
   ·have hf:qyK l k=2:=by rw[qyK,if_neg h1]
    rw[hf]at hsucc
    refine⟨by simp,⟨hlen.symm,oM,oM⟩,⟨oM,oM⟩,_,?_,k+1,oM,rfl,?_⟩
    ·omega
    ·rw[hsucc];simp
  ·have hkk:k=n:=by omega
   subst hkk
   rw[zY oM]
   exact⟨fun _ _=>trivial,.refl _⟩
structure RawG where
 w:Int
 h:Int
 tracks:Int
 pads:Int
 kind:List Int
def qyN(q:Bool)(x:RawG):List PV:=[.sc (.int .u8 x.w),.sc (.int .u8 x.h),.sc (.int .u8 x.tracks),.sc (.int .u8 x.pads),.sl q 1 (qkf x.kind)]
@[push_cast] theorem qyO(q:Bool)(x:RawG):qyN q x=[.sc (.int .u8 x.w),.sc (.int .u8 x.h),.sc (.int .u8 x.tracks),.sc (.int .u8 x.pads),.sl q 1 (qkf x.kind)]:=rfl
structure RawG.Ok (x:RawG):Prop where
 w:0<=x.w/\x.w<=255
 h:0<=x.h/\x.h<=255
 tracks:0<=x.tracks/\x.tracks<=255
 pads:0<=x.pads/\x.pads<=255
 len:(x.kind.length:Int)<=9223372036854775807
 kind: ∀k∈x.kind,0<=k/\k<=255
def qyP(x:RawG):Grid:=⟨2+x.w%4,2+x.h%4,2+x.tracks%3,24,qyL ((2+x.w%4)*(2+x.h%4)).toNat x.kind⟩
theorem qyQ(x:RawG)(hx:x.Ok):FnEq Tryz.prog 7 [.agg (qyN false x)] (.agg (quX true (qyP x))):=by
 refine FnEq.of_awp Tryz.func7 ok7 (by show 1<=_;decide) (by simp only[push_cast,reduceIte,zA,zB,zC,zD,zE,zF,zG,reduceCtorEq,zH,zJ,cNI]<;>first|exact fun _ _=>trivial|simp) ?_
 simp only[ac7,rv7,push_cast,reduceIte,zA,zB,zC,zD,zE,zF,zG,reduceCtorEq,zH,zJ,cNI]
 obtain⟨h1,h2,h3,h4,h5,h6⟩:=hx
 have hm:0<=(2+x.w%4)*(2+x.h%4)/\(2+x.w%4)*(2+x.h%4)<=5*5:=⟨Int.mul_nonneg oM oM,Int.mul_le_mul oM oM oM oM⟩
 obtain⟨n,hn⟩: ∃n:Nat,(2+x.w%4)*(2+x.h%4)=n:=⟨((2+x.w%4)*(2+x.h%4)).toNat,oM⟩
 have hg:qyP x=⟨2+x.w%4,2+x.h%4,2+x.tracks%3,24,qyL n x.kind⟩:=by unfold qyP;rw[hn,Int.toNat_natCast]
 rw[hn]at hm ⊢
 rw[hg]
 refine⟨⟨oM,oM,oM⟩,⟨oM,oM⟩,⟨oM,oM⟩,⟨oM,oM,oM⟩,⟨oM,oM⟩,⟨oM,oM⟩,⟨oM,oM,oM⟩,⟨oM,oM⟩,⟨oM,oM⟩,⟨oM,oM⟩,?_⟩
 refine qrv (qyM n oM x.kind h5 h6) sC ?_
 refine sB ?_
 exact fun _ _=>trivial
theorem qyR(x:RawG):GOk (qyP x)/\(qyP x).pads=24:=by
 have hm:0<=(2+x.w%4)*(2+x.h%4):=Int.mul_nonneg oM oM
 refine⟨⟨?_,?_,?_,?_,?_⟩,rfl⟩<;>simp only[qyP,qyL,yG,List.length_range]<;>omega
def wilA(c:Cfg):List (Nat×Arr):=[(211,⟨1,3,ints c.sel⟩),(213,⟨1,3,ints c.mode⟩),(215,⟨1,3,ints c.tab⟩),(217,⟨1,3,ints c.ram⟩)]
def wilV(c:Cfg):List PV:=[.view 211 0 c.sel.length,.view 213 0 c.mode.length,.view 215 0 c.tab.length,.view 217 0 c.ram.length]
def wilS(l:List Int)(g:Grid):St:=⟨[(1,.sl false 1 (qkf l)),(2,.ptr 2 0),(4,.ptr 4 0),(10,.agg (quX false g))],[(2,quX false g),(4,[.nil,.nil,.nil,.nil])],[],[]⟩
theorem qyS(l:List Int)(g:Grid)(hg:GOk g):FnM (Env.of Tryz.prog) 30 [.agg (quX false g)] (wilS l g) (fun v st' =>v= .agg (wilV (qxc g))/\st' = { wilS l g with a:=wilA (qxc g) }):=by
 have h1:=hg.count
 have h2:=hg.wh
 have h3:=hg.kind
 refine FnM.dropB 201 (FnM.dropB 202 ?_)
 simp only[wilS,push_cast,reduceIte,zA,zB,zC,zD,zE,zF,zG,reduceCtorEq,zH,zJ,cNI]
 refine quf 200 Tryz.func30 ok30_200w (by show 1<=_;decide) rfl (by decide) ?_
 simp only[ac30_200w,rv30_200w,push_cast,reduceIte,zA,zB,zC,zD,zE,zF,zG,reduceCtorEq,zH,zJ,cNI]
 refine⟨oM,?_⟩
 refine qrx (qv7 g hg) sC rfl ?_
 refine sB ?_
 refine⟨oM,oM,oM,oM,?_,?_⟩
 ·simp[wilV,qxc]
  omega
 ·rw[show(g.w*g.h).toNat=g.kind.length by omega]
  simp only[wilA,qxc,List.length_replicate,push_cast,reduceIte,zA,zB,zC,zD,zE,zF,zG,reduceCtorEq,zH,zJ,cNI]
def selW(g:Grid)(c:Cfg)(n b:Int):Cfg:=if 0<((qwb g n).length:Int)then { c with sel:=c.sel.set n.toNat (1+b%((qwb g n).length:Int)) } else c
def qyT(g:Grid)(c:Cfg)(t:Nat)(b:Int):Cfg:=
 if g.kind.getD t 0=0 then c else if b%3=0 then { c with mode:=c.mode.set t 1,tab:=c.tab.set t (100*b),ram:=c.ram.set t 0 }
 else if b%3=1 then { c with mode:=c.mode.set t 2,tab:=c.tab.set t (100*b),ram:=c.ram.set t (b/3) } else c
def qyU(g:Grid)(l:List Int)(c:Cfg)(i:Nat):Cfg:=
 qyT g (selW g c ((7*(i:Int)+l.getD i 0)%(c.sel.length:Int)) (l.getD (i+1) 0)) (l.getD i 0%(g.w*g.h)).toNat (l.getD (i+1) 0)
def qyV(g:Grid)(l:List Int):Nat->Cfg
 |0=>qxc g
 |j+1=>qyU g l (qyV g l j) (2*j)
def qyW(g:Grid)(l:List Int):Cfg:=qyV g l (min (l.length/2) 40)
def CfgLn(g:Grid)(c:Cfg):Prop:=c.sel.length=(qv2 g).toNat/\c.mode.length=g.kind.length/\c.tab.length=g.kind.length/\c.ram.length=g.kind.length
theorem qyX{g:Grid}{c:Cfg}{n b:Int}(h:CfgLn g c):CfgLn g (selW g c n b):=by
 obtain⟨h1,h2,h3,h4⟩:=h
 unfold selW
 split<;>refine⟨?_,?_,?_,?_⟩<;>simp[*]
theorem qyY{g:Grid}{c:Cfg}{t:Nat}{b:Int}(h:CfgLn g c):CfgLn g (qyT g c t b):=by
 obtain⟨h1,h2,h3,h4⟩:=h
 unfold qyT
 split
 ·exact⟨h1,h2,h3,h4⟩
 ·split
  ·refine⟨?_,?_,?_,?_⟩<;>simp[*]
  ·split
   ·refine⟨?_,?_,?_,?_⟩<;>simp[*]
   ·exact⟨h1,h2,h3,h4⟩
theorem qyZ{g:Grid}{l:List Int}{c:Cfg}{i:Nat}(h:CfgLn g c):CfgLn g (qyU g l c i):=qyY (qyX h)
theorem qz0(g:Grid)(l:List Int): ∀j,CfgLn g (qyV g l j)
 |0=>by refine⟨?_,?_,?_,?_⟩<;>simp[qyV,qxc]
 |j+1=>qyZ (qz0 g l j)
set_option maxHeartbeats 4000000 in
theorem qz1(g:Grid)(hg:GOk g)(l:List Int)(hl:(l.length:Int)<=9223372036854775807)(hb: ∀x∈l,0<=x/\x<=255):FnEq Tryz.prog 8 [.agg (quX false g),.sl false 1 (qkf l)] (.agg (cfgC true (qyW g l))):=by
 have h1:=hg.count
 have h2:=hg.wh
 have h3:=hg.kind
 refine FnEq.of_awp Tryz.func8 ok8w (by show 2<=_;decide) (by simp only[push_cast,reduceIte,zA,zB,zC,zD,zE,zF,zG,reduceCtorEq,zH,zJ,cNI]<;>first|exact fun _ _=>trivial|simp) ?_
 simp only[ac8w,rv8w,push_cast,reduceIte,zA,zB,zC,zD,zE,zF,zG,reduceCtorEq,zH,zJ,cNI]
 refine qsP (qyS l g hg) ?_
 simp only[wilV,wilA,wilS,push_cast,reduceIte,zA,zB,zC,zD,zE,zF,zG,reduceCtorEq,zH,zJ,cNI]
 refine qoP (fun m st=> ∃j:Nat,j<=min (l.length/2) 40/\m=min (l.length/2) 40-j/\st=⟨[(1,.sl false 1 (qkf l)),(2,.ptr 2 0),(4,.ptr 4 0),(5,.ptr 5 0),(6,.int (2*(j:Int)))],[(2,quX false g),(4,[.nil,.nil,.nil,.nil]),(5,wilV (qyV g l j))],wilA (qyV g l j),[]⟩) (min (l.length/2) 40) ?_ ?_
 ·refine⟨0,oM,oM,?_⟩
  simp only[wilV,wilA,qyV,Int.mul_zero,push_cast,reduceIte,zA,zB,zC,zD,zE,zF,zG,reduceCtorEq,zH,zJ,cNI]
 rintro m st ⟨j,hj,rfl,rfl⟩
 obtain⟨q1,q2,q3,q4⟩:=qz0 g l j
 have e0: ∀(l:List Int) (j:Nat),l.getD j default=l.getD j 0:=fun _ _=>rfl
 have hst:qyV g l (j+1)=qyU g l (qyV g l j) (2*j):=rfl
 have hcast:((2*j:Nat):Int)=2*(j:Int):=by omega
 have hF:qyW g l=qyV g l (min (l.length/2) 40):=rfl
 have hba:0<=l.getD (2*j) 0/\l.getD (2*j) 0<=255:=by
  by_cases h:2*j<l.length
  ·exact hb _ (qyF h)
  ·rw[zK,List.getElem?_eq_none oM];decide
 have hbb:0<=l.getD (2*j+1) 0/\l.getD (2*j+1) 0<=255:=by
  by_cases h:2*j+1<l.length
  ·exact hb _ (qyF h)
  ·rw[zK,List.getElem?_eq_none oM];decide
 simp only[wilV,wilA,push_cast,reduceIte,zA,zB,zC,zD,zE,zF,zG,reduceCtorEq,zH,zJ,cNI]
 refine⟨oM,?_⟩
 obtain⟨B,hB⟩: ∃B,B=decide (2*j+1<l.length/\2*j<80):=⟨_,rfl⟩
 refine qrH ⟨[(1,.sl false 1 (qkf l)),(2,.ptr 2 0),(4,.ptr 4 0),(5,.ptr 5 0),(6,.int (2*j)),(20,.bool B)],[(2,quX false g),(4,[.nil,.nil,.nil,.nil]),(5,wilV (qyV g l j))],wilA (qyV g l j),[]⟩ ?_ ?_
 ·refine qrz rfl (fun e1=> ?_) fun e1=> ?_<;>simp only[push_cast,reduceIte,zA,zB,zC,zD,zE,zF,zG,reduceCtorEq,zH,zJ,cNI]
  ·rw[show B=decide (2*(j:Int)<80)from by rw[hB,decide_eq_decide];omega]
   simp only[wilV,wilA,push_cast,reduceIte,zA,zB,zC,zD,zE,zF,zG,reduceCtorEq,zH,zJ,cNI]
  ·rw[show B=false from by rw[hB];exact decide_eq_false oM]
   simp only[wilV,wilA,push_cast,reduceIte,zA,zB,zC,zD,zE,zF,zG,reduceCtorEq,zH,zJ,cNI]
 simp only[wilV,wilA,push_cast,reduceIte,zA,zB,zC,zD,zE,zF,zG,reduceCtorEq,zH,zJ,cNI]
 refine qnX (fun e=> ?_) fun e=> ?_
 rotate_left
 ·rw[hB,decide_eq_false_iff_not]at e
  rw[hF,show min (l.length/2) 40=j by omega]
  exact⟨⟨fun _ _=>trivial,fun _ _=>trivial,fun _ _=>trivial,fun _ _=>trivial⟩,.refl _,.refl _,.refl _,.refl _⟩
 rw[hB,decide_eq_true_eq]at e
 obtain⟨e1,e2⟩:=e
 generalize qyV g l j=c at *
 have ht:(2*(j:Int)).toNat=2*j:=by omega
 have ht1:(2*(j:Int)+1).toNat=2*j+1:=by omega
 have hm:(0<=l.getD (2*j) 0%(g.w*g.h)/\l.getD (2*j) 0%(g.w*g.h)<g.w*g.h):=⟨Int.emod_nonneg _ oM,Int.emod_lt_of_pos _ oM⟩
 rw[qyU,hcast]at hst
 have hn0:0<=(7*(2*(j:Int))+l.getD (2*j) 0)%(c.sel.length:Int)/\(7*(2*(j:Int))+l.getD (2*j) 0)%(c.sel.length:Int)<c.sel.length:=⟨Int.emod_nonneg _ oM,Int.emod_lt_of_pos _ oM⟩
 simp only[e0,ht,ht1,push_cast,reduceIte,zA,zB,zC,zD,zE,zF,zG,reduceCtorEq,zH,zJ,cNI]
 generalize hA:l.getD (2*j) 0=a at *
 generalize hC:l.getD (2*j+1) 0=b at *
 refine⟨oM,oM,oM,oM,oM,oM,?_⟩
 generalize (7*(2*(j:Int))+a)%(c.sel.length:Int)=n at *
 refine qoM (qy9 g hg n oM) ?_
 simp only[e0,ht,ht1,hA,hC,push_cast,reduceIte,zA,zB,zC,zD,zE,zF,zG,reduceCtorEq,zH,zJ,cNI]
 have hdl:=qxu g hg n
 rw[selW]at hst
 generalize (qwb g n).length=k at *
 generalize g.w*g.h=wh at *
 generalize a%wh=t at *
 have next:2*((j:Int)+1)=2*(j:Int)+2:=by omega
 refine qnY (fun hk=> ?_) fun hk=> ?_
 ·rw[if_pos hk]at hst
  have hbk:0<=b%(k:Int)/\b%(k:Int)<k:=⟨Int.emod_nonneg _ oM,Int.emod_lt_of_pos _ oM⟩
  refine⟨oM,oM,oM,oM,oM,oM,oM,oM,oM,oM,oM,oM,oM,oM,oM,?_⟩
  refine qnY (fun h0=> ?_) fun h0=> ?_
  ·refine⟨oM,_,?_,j+1,oM,rfl,?_⟩
   ·omega
   ·rw[hst,qyT,if_pos h0]
    simp only[wilV,wilA,yF,push_cast,reduceIte,zA,zB,zC,zD,zE,zF,zG,reduceCtorEq,zH,zJ,cNI]
    rw[next]
  refine⟨oM,oM,oM,oM,qnY (fun h4=> ?_) fun h4=> ?_⟩
  ·refine⟨oM,oM,oM,oM,oM,oM,oM,oM,oM,oM,oM,?_⟩
   refine⟨oM,_,?_,j+1,oM,rfl,?_⟩
   ·omega
   ·rw[hst,qyT,if_neg h0,if_pos h4]
    simp only[wilV,wilA,yF,push_cast,reduceIte,zA,zB,zC,zD,zE,zF,zG,reduceCtorEq,zH,zJ,cNI]
    rw[next]
  refine⟨oM,oM,oM,oM,qnY (fun h5=> ?_) fun h5=> ?_⟩
  ·refine⟨oM,oM,oM,oM,oM,oM,oM,oM,oM,oM,oM,oM,oM,oM,oM,oM,?_⟩
   refine⟨oM,_,?_,j+1,oM,rfl,?_⟩
   ·omega
   ·rw[hst,qyT,if_neg h0,if_neg h4,if_pos h5]
    simp only[wilV,wilA,yF,push_cast,reduceIte,zA,zB,zC,zD,zE,zF,zG,reduceCtorEq,zH,zJ,cNI]
    rw[next]
  ·refine⟨oM,_,?_,j+1,oM,rfl,?_⟩
   ·omega
   ·rw[hst,qyT,if_neg h0,if_neg h4,if_neg h5]
    simp only[wilV,wilA,yF,push_cast,reduceIte,zA,zB,zC,zD,zE,zF,zG,reduceCtorEq,zH,zJ,cNI]
    rw[next]
 ·rw[if_neg hk]at hst
  refine⟨oM,oM,oM,oM,oM,oM,oM,?_⟩
  refine qnY (fun h0=> ?_) fun h0=> ?_
  ·refine⟨oM,_,?_,j+1,oM,rfl,?_⟩
   ·omega
   ·rw[hst,qyT,if_pos h0]
    simp only[wilV,wilA,yF,push_cast,reduceIte,zA,zB,zC,zD,zE,zF,zG,reduceCtorEq,zH,zJ,cNI]
    rw[next]
  refine⟨oM,oM,oM,oM,qnY (fun h4=> ?_) fun h4=> ?_⟩
  ·refine⟨oM,oM,oM,oM,oM,oM,oM,oM,oM,oM,oM,?_⟩
   refine⟨oM,_,?_,j+1,oM,rfl,?_⟩
   ·omega
   ·rw[hst,qyT,if_neg h0,if_pos h4]
    simp only[wilV,wilA,yF,push_cast,reduceIte,zA,zB,zC,zD,zE,zF,zG,reduceCtorEq,zH,zJ,cNI]
    rw[next]
  refine⟨oM,oM,oM,oM,qnY (fun h5=> ?_) fun h5=> ?_⟩
  ·refine⟨oM,oM,oM,oM,oM,oM,oM,oM,oM,oM,oM,oM,oM,oM,oM,oM,?_⟩
   refine⟨oM,_,?_,j+1,oM,rfl,?_⟩
   ·omega
   ·rw[hst,qyT,if_neg h0,if_neg h4,if_pos h5]
    simp only[wilV,wilA,yF,push_cast,reduceIte,zA,zB,zC,zD,zE,zF,zG,reduceCtorEq,zH,zJ,cNI]
    rw[next]
  ·refine⟨oM,_,?_,j+1,oM,rfl,?_⟩
   ·omega
   ·rw[hst,qyT,if_neg h0,if_neg h4,if_neg h5]
    simp only[wilV,wilA,yF,push_cast,reduceIte,zA,zB,zC,zD,zE,zF,zG,reduceCtorEq,zH,zJ,cNI]
    rw[next]
theorem qz2(l:List Int)(i j:Nat)(v:Int):(l.set i v).getD j 0=if i=j/\i<l.length then v else l.getD j 0:=by
 rw[zK,List.getElem?_set,zK]
 by_cases h:i=j
 ·subst h
  by_cases h2:i<l.length<;>simp[h2]
 ·simp[h]
theorem qz3{g:Grid}{c:Cfg}{n b:Int}(hn:0<=n)(h: ∀i,i<c.sel.length->qyt g c i): ∀i,i<c.sel.length->qyt g (selW g c n b) i:=by
 intro i hi
 unfold selW
 split
 ·rename_i hk
  have hbk:0<=b%((qwb g n).length:Int)/\b%((qwb g n).length:Int)<((qwb g n).length:Int):=⟨Int.emod_nonneg _ oM,Int.emod_lt_of_pos _ oM⟩
  unfold qyt
  simp only
  rw[qz2]
  by_cases e:n.toNat=i/\n.toNat<c.sel.length
  ·rw[if_pos e]
   intro _
   rw[show((i:Nat):Int)=n by omega]
   omega
  ·rw[if_neg e]
   exact h i hi
 ·exact h i hi
theorem qz4(g:Grid)(c:Cfg)(t:Nat)(b:Int):(qyT g c t b).sel=c.sel:=by
 unfold qyT
 split
 ·rfl
 ·split
  ·rfl
  ·split<;>rfl
theorem qz5{g:Grid}(hg:GOk g)(l:List Int): ∀j,∀i,i<(qyV g l j).sel.length->qyt g (qyV g l j) i
 |0=>fun i hi h=>absurd (by simp[qyV,qxc,List.getElem?_replicate]at hi ⊢;split<;>rfl) h
 | j + 1 => fun i hi => by
   have h1:=hg.count
   have h2:=(qz0 g l j).1
   have h3:=(qz0 g l (j+1)).1
   have hn:=Int.emod_nonneg (7*((2*j:Nat):Int)+l.getD (2*j) 0) (show((qyV g l j).sel.length:Int)≠0 by omega)
   have:=qz3 (b:=l.getD (2*j+1) 0) hn (qz5 hg l j) i oM
   unfold qyt at this ⊢
   show(qyT _ _ _ _).sel.getD _ _≠0->_
   rw[qz4]
   intro h4
   show 1<=(qyT _ _ _ _).sel.getD _ _/\(qyT _ _ _ _).sel.getD _ _<=_
   rw[qz4]
   exact this h4
theorem qz6{g:Grid}(hg:GOk g)(l:List Int):SelsOk g (qyW g l):=⟨(qz0 g l _).1,qz5 hg l _⟩
structure RawG.By (x:RawG):Prop where
 w:0<=x.w/\x.w<=255
 h:0<=x.h/\x.h<=255
 tracks:0<=x.tracks/\x.tracks<=255
 pads:0<=x.pads/\x.pads<=255
 len:(x.kind.length:Int)<=9223372036854775807
 kind: ∀k∈x.kind,0<=k/\k<=255
theorem RawG.By.ok{x:RawG}(h:x.By):x.Ok:=⟨h.w,h.h,h.tracks,h.pads,h.len,h.kind⟩
def qzn:List Ty:=[.i .u8,.i .u8,.i .u8,.i .u8,.sl 1 [.i .u8]]
theorem qzo{a:List PV}(h:RowV [] a):a=[]:=List.length_eq_zero_iff.1 h.1
theorem qmu{t:Ty}{ts:List Ty}{a:List PV}(h:RowV (t::ts) a): ∃c r,a=c::r/\qrM t c/\RowV ts r:=by
 obtain⟨h1,h2⟩:=h
 cases a with
 |nil=>cases h1
 |cons c r=>exact⟨c,r,rfl,h2 0 t c rfl rfl,by simpa using h1,fun j t' c' ht hc=>h2 (j+1) t' c' ht hc⟩
theorem qzp{k:IntKind}{c:PV}(h:qrM (.i k) c): ∃n:Int,c= .sc (.int k n)/\k.min<=n/\n<=k.max:=by
 cases h with|i k n h1 h2=>exact⟨n,rfl,h1,h2⟩
theorem qzq{c:PV}(h:qrM (.i .u8) c): ∃n:Int,c= .sc (.int .u8 n)/\0<=n/\n<=255:=by
 obtain⟨n,h1,h2,h3⟩:=qzp h
 exact⟨n,h1,h2,h3⟩
theorem qzs{es:Nat}{ts:List Ty}{c:PV}(h:qrM (.sl es ts) c): ∃rs:List (List PV),c= .sl true es rs/\rs.length<=maxLen/\ ∀r∈rs,RowV ts r:=by
 cases h with|sl es ts rs h1 h2 h3=>exact⟨rs,rfl,h1,fun r hr=>⟨h2 r hr,h3 r hr⟩⟩
theorem qzt{α:Type}{f:α->List PV}{Q:α->Prop} : ∀ {rs:List (List PV)},(∀r∈rs,∃x,r=f x/\Q x)-> ∃l:List α,rs=rows f l/\ ∀x∈l,Q x
 |[],_=>⟨[],rfl,fun x hx=>by cases hx⟩
 | r :: rs, h => by
   obtain⟨x,rfl,hx⟩:=h r (by simp)
   obtain⟨l,rfl,hl⟩:=qzt (f:=f) (Q:=Q) (rs:=rs) fun r hr=>h r (by simp[hr])
   refine⟨x::l,rfl,fun y hy=> ?_⟩
   rcases List.mem_cons.1 hy with rfl|hy
   ·exact hx
   ·exact hl y hy
theorem qzu{c:PV}(h:qrM (.sl 1 [.i .u8]) c): ∃l:List Int,c= .sl true 1 (qkf l)/\(l.length:Int)<=9223372036854775807/\ ∀b∈l,0<=b/\b<=255:=by
 obtain⟨rs,rfl,h1,h2⟩:=qzs h
 obtain⟨l,rfl,hl⟩:=qzt (f:=fun x:Int=>[PV.sc (.int .u8 x)]) (Q:=fun b=>0<=b/\b<=255) (rs:=rs) fun r hr=>by
  obtain⟨c,q,rfl,hc,h3⟩:=qmu (h2 r hr)
  obtain⟨n,rfl,hn⟩:=qzq hc
  rw[qzo h3]
  exact⟨n,rfl,hn⟩
 simp only[rows,yG]at h1
 have:maxLen=9223372036854775807:=rfl
 exact⟨l,rfl,oM,hl⟩
theorem qzx{a:List PV}(h:RowV qzn a): ∃x:RawG,x.By/\a=qyN true x:=by
 obtain⟨c0,a0,rfl,h0,k0⟩:=qmu h
 obtain⟨c1,a1,rfl,h1,k1⟩:=qmu k0
 obtain⟨c2,a2,rfl,h2,k2⟩:=qmu k1
 obtain⟨c3,a3,rfl,h3,k3⟩:=qmu k2
 obtain⟨c4,a4,rfl,h4,k4⟩:=qmu k3
 obtain⟨n0,rfl,b0⟩:=qzq h0
 obtain⟨n1,rfl,b1⟩:=qzq h1
 obtain⟨n2,rfl,b2⟩:=qzq h2
 obtain⟨n3,rfl,b3⟩:=qzq h3
 obtain⟨l,rfl,hn,hl⟩:=qzu h4
 rw[qzo k4]
 exact⟨⟨n0,n1,n2,n3,l⟩,⟨b0,b1,b2,b3,hn,hl⟩,rfl⟩
theorem okSl{P:Program}{W:World}{base:Nat}{t e:TypeId}{v:Value}(hu:P.underlying t=some (.slice e))(h:Value.okWide P W .any base t v):v.cells= #[v]:=by
 unfold Value.okWide Cell.okWide Cell.ok at h
 rw[hu]at h
 cases v<;>first
  |rfl
  |(simp only at h)
end Go.Proofs.YtecoaapkcnhlhaaGreatDoor
namespace Go.Proofs.YtecoaapkcnhlhaaGreatDoor.Txt
open Go Go.Vc
set_option maxRecDepth 100000
def ac88:AC:=
 (.seq (.reg [0,35,0] [
 mK 2 0])
 (.seq (.reg [0,35,0] [
 mT 3 0,aO 4 (.shf .shr .u64 (.t 3) (.c (.sc (.int .u64 1)))),aO 5 (.bit .and .u64 (.t 4) (.c (.sc (.int .u64 6148914691236517205)))),mT 6 0,aO 7 (.bit .and .u64 (.t 6) (.c (.sc (.int .u64 6148914691236517205)))),aO 8 (.ari .add false .u64 (.t 5) (.t 7)),mT 0 8])
 (.seq (.reg [0,35,0] [
 mT 9 0,aO 10 (.shf .shr .u64 (.t 9) (.c (.sc (.int .u64 2)))),aO 11 (.bit .and .u64 (.t 10) (.c (.sc (.int .u64 3689348814741910323)))),mT 12 0,aO 13 (.bit .and .u64 (.t 12) (.c (.sc (.int .u64 3689348814741910323)))),aO 14 (.ari .add false .u64 (.t 11) (.t 13)),mT 0 14])
 (.seq (.reg [0,35,0] [
 mT 15 0,aO 16 (.shf .shr .u64 (.t 15) (.c (.sc (.int .u64 4)))),mT 17 0,aO 18 (.ari .add false .u64 (.t 16) (.t 17)),aO 19 (.bit .and .u64 (.t 18) (.c (.sc (.int .u64 1085102592571150095)))),mT 0 19])
 (.seq (.reg [0,35,0] [
 mT 20 0,mT 21 0,aO 22 (.shf .shr .u64 (.t 21) (.c (.sc (.int .u64 8)))),aO 23 (.ari .add false .u64 (.t 20) (.t 22)),mT 0 23])
 (.seq (.reg [0,35,0] [
 mT 24 0,mT 25 0,aO 26 (.shf .shr .u64 (.t 25) (.c (.sc (.int .u64 16)))),aO 27 (.ari .add false .u64 (.t 24) (.t 26)),mT 0 27])
 (.seq (.reg [0,35,0] [
 mT 28 0,mT 29 0,aO 30 (.shf .shr .u64 (.t 29) (.c (.sc (.int .u64 32)))),aO 31 (.ari .add false .u64 (.t 28) (.t 30)),mT 0 31])
 (.seq (.reg [0,35,0] [
 mT 32 0,aO 33 (.cnv true .i64 (.t 32)),aO 34 (.bit .and .i64 (.t 33) (kI 127)),mT 2 34])
 .ret))))))))
def rv88:List RV:=[.tmp 2]
theorem ok88:fnOk Tryz.prog ac88 rv88 Tryz.f88=true:=by kernel_rfl

def ac87:AC:=
 (.seq (.reg [0,15,0] [
 mK 2 0])
 (.seq (.reg [0,15,0] [
 mK 3 0])
 (.seq (.block 0
 (.loop [0,15,0,3]
 (.seq (.seq (.reg [0,15,0,3] [
 mT 4 0,aO 5 (.cmp .neq .u64 (.t 4) (.c (.sc (.int .u64 0))))])
 (.cond (.t 5)
 .skip
 (.exit 0)))
 (.seq (.block 1
 (.reg [0,15,0,3] [
 mT 10 3,mT 11 0,aO 12 (.cal 106 [(.t 11)]),aO 13 (.bit .xor .i64 (.t 10) (.t 12)),mT 3 13]))
 (.reg [0,15,0,3] [
 mT 6 0,mT 7 0,aO 8 (.ari .sub false .u64 (.t 7) (.c (.sc (.int .u64 1)))),aO 9 (.bit .and .u64 (.t 6) (.t 8)),mT 0 9])))))
 (.seq (.reg [0,15,3] [
 mT 14 3,mT 2 14])
 .ret))))
def rv87:List RV:=[.tmp 2]
theorem ok87:fnOk Tryz.prog ac87 rv87 Tryz.f87=true:=by kernel_rfl

def ac91:AC:=
 (.seq (.reg [0,12,0] [
 mK 2 0])
 (.seq (.block 0
 (.seq (.reg [0,12,0] [
 mT 4 0,aO 5 (.cal 88 [(.t 4)]),aO 6 (.dvd .rem true .i64 (.t 5) (kI 2)),eK 7 6 1,mT 3 7])
 (.cond (.t 3)
 (.seq (.reg [0,12] [
 mK 2 1])
 .ret)
 (.seq (.reg [0,12,0] [
 mT 9 0,aO 10 (.cal 87 [(.t 9)]),aO 11 (.cmp .neq .i64 (.t 10) (kI 0)),mT 8 11])
 (.cond (.t 8)
 (.seq (.reg [0,12] [
 mK 2 2])
 .ret)
 .skip)))))
 (.seq (.reg [0,12] [
 mK 2 0])
 .ret)))
def rv91:List RV:=[.tmp 2]
theorem ok91:fnOk Tryz.prog ac91 rv91 Tryz.f91=true:=by kernel_rfl

def ac92:AC:=
 (.seq (.reg [0,16,0,1] [
 aO 4 (.mv (.c (.sc (.int .u64 0))))])
 (.seq (.seq (.reg [0,16,0,1] [
 mT 5 1,aO 6 (.cmp .lss .i64 (.t 5) (kI 0)),mT 7 6,uA 8 7 (.mv (.t 1)),uA 9 7 (.cmp .gtr .i64 (.t 8) (kI 63)),aO 10 (uG 7 9)])
 (.cut [0,16,0,1,10] (.cond (.t 10)
 (.seq (.reg [0,16,0] [
 mT 11 0,mT 4 11])
 .ret)
 .skip)))
 (.seq (.reg [0,16,0,1] [
 mT 12 0,mT 13 1,aO 14 (.shf .shl .u64 (.c (.sc (.int .u64 1))) (.t 13)),aO 15 (.bit .xor .u64 (.t 12) (.t 14)),mT 4 15])
 .ret)))
def rv92:List RV:=[.tmp 4]
theorem ok92:fnOk Tryz.prog ac92 rv92 Tryz.f92=true:=by kernel_rfl

def ac86_200:AC:=
 (.seq (.reg [200,20,200] [
 mK 202 0])
 (.seq (.reg [200,20,200,202] [
 mK 203 3])
 (.block 0
 (.lps [200,20,200,202,203]
 (.seq (.seq (.reg [200,20,200,202,203] [
 mT 204 203,aO 205 (.cmp .lss .i64 (.t 204) (kI 64))])
 (.cond (.t 205)
 .skip
 (.exit 0)))
 (.seq (.block 1
 (.seq (.seq (.reg [200,20,200,202,203] [
 mT 208 203,mT 209 203,aO 210 (.ari .sub true .i64 (.t 209) (kI 1)),aO 211 (.bit .and .i64 (.t 208) (.t 210)),eK 212 211 0])
 (.cond (.t 212)
 (.exit 1)
 .skip))
 (.seq (.seq (.reg [200,20,200,202,203] [
 mT 213 200,mT 214 202,mT 215 203,aO 216 (.clv (.t 213) [(.t 214),(.t 215)]),aO 217 (.not (.t 216))])
 (.cond (.t 217)
 .ret
 .skip))
 (.reg [200,20,200,202,203] [
 mT 218 202,uF 219 218 1,mT 202 219]))))
 (.reg [200,20,200,202,203] [
 mT 206 203,uF 207 206 1,mT 203 207])))))))
def rv86_200:List RV:=[]
theorem ok86_200:qh6 Tryz.prog 200 ac86_200 rv86_200 Tryz.f86=true:=by kernel_rfl

def ac85_2000:AC:=
 (.drw [2000,7,2000,2001] [
 eL 2003 1 2001,eM 2004 2000,eT 2005 (.shf .shl .u64 (.c (.sc (.int .u64 1))) (.t 2004)),eF 2006 (.bit .or .u64 (.t 2003) (.t 2005)),⟨sT 1 2001 2006,[],[],false⟩])
def rv85_2000:List RV:=[]
theorem ok85_2000:qh6 Tryz.prog 2000 ac85_2000 rv85_2000 Tryz.f85=true:=by kernel_rfl

def ac59:AC:=
 (.seq (.reg [0,43,0] [
 xT 1 0,aO 2 (.mv (.c (.sc (.int .u64 0)))),mK 3 0])
 (.seq (.seq (.reg [0,43,1] [
 lF 10 1 1,aO 11 (.cmp .geq .u64 (.t 10) (.c (.sc (.int .u64 144115188075855872))))])
 (.cond (.t 11)
 (.seq (.reg [0,43] [
 aO 2 (.mv (.c (.sc (.int .u64 0)))),mK 3 1])
 .ret)
 .skip))
 (.seq (.reg [0,43,1] [
 aO 4 (.alc [.sc (.int .u64 0)])])
 (.seq (.reg [0,43,1,4] [
 aO 12 (.mkf 85 [(.t 4)]),aO 5 (.alc [.sc .nilFunc]),sT 1 5 12])
 (.seq (.block 0
 (.rngf ⟨(.c (.sc (.func (.func 86) #[] #[]))),0,43,1000,[0,43,1,4,5],999⟩ [1013,1014]
 (.seq (.reg [1000,43,1001,1005,1013,1014] [
 mT 1006 1013])
 (.reg [1000,43,1001,1005,1006,1014] [
 mT 1007 1014]))
 (.block 1
 (.seq (.reg [1000,43,1001,1005,1006,1007] [
 lF 1015 1 1001,mT 1016 1006,aO 1017 (.shf .shr .u64 (.t 1015) (.t 1016)),aO 1018 (.bit .and .u64 (.t 1017) (.c (.sc (.int .u64 1)))),aO 1019 (.cmp .eql .u64 (.t 1018) (.c (.sc (.int .u64 1))))])
 (.cond (.t 1019)
 (.reg [1000,43,1005,1007] [
 lF 1020 1 1005,mT 1021 1007,aO 1022 (.clv (.t 1020) [(.t 1021)])])
 .skip)))))
 (.seq (.reg [0,43,4,5] [
 lF 23 1 4,aO 24 (.cal 87 [(.t 23)]),mT 8 24])
 (.seq (.seq (.reg [0,43,4,5,8] [
 mK 9 1])
 (.block 2
 (.loop [0,43,4,5,8,9]
 (.seq (.seq (.reg [0,43,4,5,8,9] [
 mT 25 9,aO 26 (.cmp .lss .i64 (.t 25) (kI 64))])
 (.cond (.t 26)
 .skip
 (.exit 2)))
 (.seq (.block 3
 (.seq (.reg [0,43,4,5,8,9] [
 mT 29 8,mT 30 9,aO 31 (.bit .and .i64 (.t 29) (.t 30)),aO 32 (.cmp .neq .i64 (.t 31) (kI 0))])
 (.cond (.t 32)
 (.reg [0,43,4,5,8,9] [
 lF 33 1 5,mT 34 9,aO 35 (.clv (.t 33) [(.t 34)])])
 .skip)))
 (.reg [0,43,4,5,8,9] [
 mT 27 9,aO 28 (.ari .mul true .i64 (.t 27) (kI 2)),mT 9 28]))))))
 (.seq (.seq (.reg [0,43,4,5] [
 lF 36 1 4,aO 37 (.cal 88 [(.t 36)]),aO 38 (.dvd .rem true .i64 (.t 37) (kI 2)),eK 39 38 1])
 (.cond (.t 39)
 (.reg [0,43,4,5] [
 lF 40 1 5,aO 41 (.clv (.t 40) [(kI 0)])])
 .skip))
 (.seq (.reg [0,43,4] [
 lF 42 1 4,mT 2 42,mK 3 0])
 .ret)))))))))
def rv59:List RV:=[.tmp 2,.tmp 3]
theorem ok59:fnOk Tryz.prog ac59 rv59 Tryz.f59=true:=by kernel_rfl

def ac69_r6:AC:=
 (.seq (.reg [0,31,1,5] [
 aO 6 (.alc [.sc (.int .u64 0)])])
 (.seq (.block 0
 (.rngf ⟨(.c (.sc (.func (.func 86) #[] #[]))),0,31,1000,[0,31,1,5,6],999⟩ [1019,1020]
 (.seq (.reg [1000,31,1001,1006,1019,1020] [
 mT 1007 1019])
 (.reg [1000,31,1001,1006,1007,1020] [
 mT 1008 1020]))
 (.block 1
 (.drw [1000,31,1001,1006,1007,1008] [
 eL 1021 1 1006,eL 1022 1 1001,eM 1023 1008,eT 1024 (.shf .shr .u64 (.t 1022) (.t 1023)),eT 1025 (.bit .and .u64 (.t 1024) (.c (.sc (.int .u64 1)))),eM 1026 1007,eT 1027 (.shf .shl .u64 (.t 1025) (.t 1026)),eF 1028 (.bit .or .u64 (.t 1021) (.t 1027)),⟨sT 1 1006 1028,[],[],false⟩]))))
 (.seq (.reg [0,31,5,6] [
 lF 29 1 6,mT 30 5,mT 2 29,mT 3 30,mK 4 0])
 .ret)))
def ac69:AC:=
 (.seq (.reg [0,31,0] [
 xT 1 0,aO 2 (.mv (.c (.sc (.int .u64 0)))),mK 3 0,mK 4 0])
 (.seq (.reg [0,31,1] [
 lF 9 1 1,aO 10 (.cal 91 [(.t 9)]),mT 5 10])
 (.seq (.seq (.reg [0,31,1,5] [
 mT 11 5,eK 12 11 2])
 (.cond (.t 12)
 (.seq (.reg [0,31] [
 aO 2 (.mv (.c (.sc (.int .u64 0)))),mK 3 0,mK 4 6])
 .ret)
 .skip))
 (.seq (.seq (.reg [0,31,1,5] [
 mT 13 5,eK 14 13 1])
 (.cond (.t 14)
 (.drw [0,31,1,5] [
 eL 15 1 1,eL 16 1 1,eT 17 (.cal 87 [(.t 16)]),eF 18 (.cal 92 [(.t 15),(.t 17)]),⟨sT 1 1 18,[],[],false⟩])
 .skip))
 ac69_r6))))
def rv69:List RV:=[.tmp 2,.tmp 3,.tmp 4]
theorem ok69:fnOk Tryz.prog ac69 rv69 Tryz.f69=true:=by kernel_rfl
end Go.Proofs.YtecoaapkcnhlhaaGreatDoor.Txt
namespace Go.Ham
def syn(w:Nat):Nat->Nat
 |0=>0
 |n+1=>if w.testBit n then syn w n^^^n else syn w n
def ons(w:Nat):Nat->Nat
 |0=>0
 |n+1=>ons w n+(w.testBit n).toNat
theorem qzA: ∀n,syn 0 n=0
 |0=>rfl
 |n+1=>by simp[syn,qzA n]
theorem xor3(a b n:Nat):a^^^n^^^b=a^^^b^^^n:=by rw[Nat.xor_assoc,Nat.xor_comm n b,<- Nat.xor_assoc]
theorem qzB(w v:Nat): ∀n,syn (w^^^v) n=syn w n^^^syn v n
 |0=>by simp[syn]
 | n + 1 => by
   simp only[syn,Nat.testBit_xor,qzB w v n]
   cases w.testBit n<;>cases v.testBit n<;>simp
   ·rw[Nat.xor_assoc]
   ·rw[xor3]
   ·rw[<- Nat.xor_assoc,xor3 _ _ n,Nat.xor_assoc _ n n];simp
theorem qzC(w v:Nat): ∀n,ons (w^^^v) n%2=(ons w n+ons v n)%2
 |0=>rfl
 | n + 1 => by
   have:=qzC w v n
   simp only[ons,Nat.testBit_xor]
   cases w.testBit n<;>cases v.testBit n<;>simp<;>omega
theorem qzD(i:Nat): ∀n,syn (2^i) n=if i<n then i else 0
 |0=>rfl
 | n + 1 => by
   simp only[syn,Nat.testBit_two_pow,qzD i n,decide_eq_true_eq]
   by_cases h:i=n
   ·subst h;simp
   ·by_cases h2:i<n
    ·simp[h,h2,Nat.lt_succ_of_lt h2]
    ·have: ¬i<n+1:=by omega
     simp[h,h2,this]
theorem qzE(i:Nat): ∀n,ons (2^i) n=if i<n then 1 else 0
 |0=>rfl
 | n + 1 => by
   simp only[ons,Nat.testBit_two_pow,qzE i n]
   by_cases h:i=n
   ·subst h;simp
   ·by_cases h2:i<n
    ·simp[h,h2,Nat.lt_succ_of_lt h2]
    ·have: ¬i<n+1:=by omega
     simp[h,h2,this]
theorem qzF(w:Nat): ∀n,n<=64->syn w n<64
 |0,_=>by simp[syn]
 | n + 1, h => by
   have h1:syn w n<2^6:=qzF w n (by omega)
   simp only[syn]
   split
   ·exact Nat.xor_lt_two_pow h1 (show n<2^6 by omega)
   ·exact h1
def plc:List (Nat×Nat):=(List.range 57).zip [3,5,6,7,9,10,11,12,13,14,15,17,18,19,20,21,22,23,24,25,26,27,28,29,30,31,33,34,35,36,37,38,39,40,41,42,43,44,45,46,47,48,49,50,51,52,53,54,55,56,57,58,59,60,61,62,63]
def sctL(d:Nat)(l:List (Nat×Nat)):Nat:=l.foldl (fun w x=>if d.testBit x.1 then w|||2^x.2 else w) 0
def gatL(w:Nat)(l:List (Nat×Nat)):Nat:=l.foldl (fun d x=>if w.testBit x.2 then d|||2^x.1 else d) 0
def sct(d:Nat):Nat:=sctL d plc
def gat(w:Nat):Nat:=gatL w plc
def prt(w s:Nat):Nat:=(List.range 6).foldl (fun w k=>if s.testBit k then w|||2^(2^k)else w) w
def fin(w:Nat):Nat:=if ons w 64%2=1 then w|||1 else w
def encW(d:Nat):Nat:=fin (prt (sct d) (syn (sct d) 64))
def chkW(w:Nat):Nat:=if ons w 64%2=1 then 1 else if syn w 64≠0 then 2 else 0
theorem qzG{α:Type}(c:α->Bool)(e:α->Nat)(p:Nat): ∀(l:List α) (w:Nat),(l.foldl (fun w x=>if c x then w|||2^e x else w) w).testBit p=(w.testBit p||l.any fun x=>c x&&decide (e x=p))
 |[],w=>by simp
 | x :: l, w => by
   rw[List.foldl_cons,qzG c e p l,List.any_cons]
   cases h:c x<;>simp[Nat.testBit_or,Nat.testBit_two_pow,Bool.or_assoc]
theorem qzH(d p:Nat):(sct d).testBit p=plc.any fun x=>d.testBit x.1&&decide (x.2=p):=by
 unfold sct sctL;rw[qzG (fun x:Nat×Nat=>d.testBit x.1) (fun x=>x.2)];simp
theorem qzI(w p:Nat):(gat w).testBit p=plc.any fun x=>w.testBit x.2&&decide (x.1=p):=by
 unfold gat gatL;rw[qzG (fun x:Nat×Nat=>w.testBit x.2) (fun x=>x.1)];simp
theorem qzJ:plc.all (fun x=>plc.all fun y=>(decide (x.1=y.1))==decide (x.2=y.2))=true:=by decide+kernel
theorem qzK:(List.range 57).all (fun i=>plc.any fun x=>decide (x.1=i))=true:=by decide+kernel
theorem qzL:plc.all (fun x=>decide (x.1<57)&&decide (x.2<64)&&decide (x.2≠0)&&(List.range 6).all fun k=>decide (x.2≠2^k))=true:=by decide+kernel
theorem qzM:(List.range 64).all (fun p=>decide (p=0)||(List.range 6).any (fun k=>decide (p=2^k))||plc.any fun x=>decide (x.2=p))=true:=by decide+kernel
theorem inj1{x y:Nat×Nat}(hx:x∈plc)(hy:y∈plc):x.1=y.1 ↔ x.2=y.2:=by
 have:=yE.1 (yE.1 qzJ x hx) y hy
 simpa using this
theorem qzN{x:Nat×Nat}(hx:x∈plc):x.1<57/\x.2<64/\x.2≠0/\ ∀k,k<6->x.2≠2^k:=by
 have:=yE.1 qzL x hx
 simp only[zN,decide_eq_true_eq,yE,List.mem_range]at this
 exact⟨this.1.1.1,this.1.1.2,this.1.2,this.2⟩
theorem qzO(d:Nat){x:Nat×Nat}(hx:x∈plc):(sct d).testBit x.2=d.testBit x.1:=by
 rw[qzH]
 cases h:d.testBit x.1
 ·rw[yD]
  intro y hy
  by_cases e:y.2=x.2
  ·rw[(inj1 hy hx).2 e];simp[h]
  ·simp[e]
 ·rw[List.any_eq_true]
  exact⟨x,hx,by simp[h]⟩
theorem qzP(w:Nat){x:Nat×Nat}(hx:x∈plc):(gat w).testBit x.1=w.testBit x.2:=by
 rw[qzI]
 cases h:w.testBit x.2
 ·rw[yD]
  intro y hy
  by_cases e:y.1=x.1
  ·rw[(inj1 hy hx).1 e];simp[h]
  ·simp[e]
 ·rw[List.any_eq_true]
  exact⟨x,hx,by simp[h]⟩
theorem qzQ(d p:Nat)(h: ∀x∈plc,x.2≠p):(sct d).testBit p=false:=by
 rw[qzH,yD]
 intro x hx
 simp[h x hx]
theorem qzR(w:Nat):gat w<2^57:=by
 apply Nat.lt_pow_two_of_testBit
 intro i hi
 rw[qzI,yD]
 intro x hx
 have:=(qzN hx).1
 have:x.1≠i:=by omega
 simp[this]
theorem qzS{a b:Nat}(ha:a<2^57)(hb:b<2^57)(h: ∀x∈plc,a.testBit x.1=b.testBit x.1):a=b:=by
 apply Nat.eq_of_testBit_eq
 intro i
 by_cases hi:i<57
 ·have:=yE.1 qzK i (List.mem_range.2 hi)
  obtain⟨x,hx,hxi⟩:=List.any_eq_true.1 this
  have hxi:x.1=i:=by simpa using hxi
  rw[<- hxi];exact h x hx
 ·have e:2^57<=2^i:=Nat.pow_le_pow_right (by decide) (by omega)
  rw[Nat.testBit_lt_two_pow (by omega),Nat.testBit_lt_two_pow (by omega)]
theorem qzT{w d:Nat}(hd:d<2^57)(h: ∀x∈plc,w.testBit x.2=d.testBit x.1):gat w=d:=
 qzS (qzR w) hd fun x hx=>by rw[qzP w hx,h x hx]
theorem qzU(w s p:Nat):(prt w s).testBit p=(w.testBit p||(List.range 6).any fun k=>s.testBit k&&decide (2^k=p)):=by
 unfold prt;exact qzG (fun k=>s.testBit k) (fun k=>2^k) p _ w
theorem qzV: ∀s,s<64->syn (prt 0 s) 64=s:=by
 have:(List.range 64).all (fun s=>decide (syn (prt 0 s) 64=s))=true:=by decide+kernel
 intro s hs
 simpa using yE.1 this s (List.mem_range.2 hs)
theorem qzW(w s:Nat)(h: ∀k,k<6->w.testBit (2^k)=false):prt w s=w^^^prt 0 s:=by
 apply Nat.eq_of_testBit_eq
 intro p
 rw[Nat.testBit_xor,qzU,qzU,Nat.zero_testBit,Bool.false_or]
 cases ha:(List.range 6).any fun k=>s.testBit k&&decide (2^k=p)
 ·simp
 ·obtain⟨k,hk,h2⟩:=List.any_eq_true.1 ha
  simp only[zN,decide_eq_true_eq]at h2
  rw[<- h2.2,h k (List.mem_range.1 hk)];rfl
theorem qzX{w:Nat}(h:w.testBit 0=false):w|||1=w^^^1:=by
 apply Nat.eq_of_testBit_eq
 intro p
 rw[Nat.testBit_or,Nat.testBit_xor,show(1:Nat)=2^0 from rfl,Nat.testBit_two_pow]
 by_cases e:0=p
 ·subst e;rw[h];rfl
 ·simp[e]
theorem qzY(d k:Nat)(hk:k<6):(sct d).testBit (2^k)=false:=qzQ d _ fun _ hx=>(qzN hx).2.2.2 k hk
theorem qzZ(d:Nat):(sct d).testBit 0=false:=qzQ d _ fun _ hx=>(qzN hx).2.2.1
theorem qA0(s:Nat):(prt 0 s).testBit 0=false:=by
 rw[qzU,Nat.zero_testBit,Bool.false_or,yD]
 intro k _
 have:2^k≠0:=by have:=Nat.two_pow_pos k;omega
 simp[this]
theorem qA1(s:Nat){x:Nat×Nat}(hx:x∈plc):(prt 0 s).testBit x.2=false:=by
 rw[qzU,Nat.zero_testBit,Bool.false_or,yD]
 intro k hk
 have:=(qzN hx).2.2.2 k (List.mem_range.1 hk)
 have:2^k≠x.2:=fun e=>this e.symm
 simp[this]
theorem qA3(d:Nat):(∀x∈plc,(encW d).testBit x.2=d.testBit x.1)/\syn (encW d) 64=0/\ons (encW d) 64%2=0:=by
 have hs:syn (sct d) 64<64:=qzF _ _ (Nat.le_refl _)
 have h1:prt (sct d) (syn (sct d) 64)=sct d^^^prt 0 (syn (sct d) 64):=qzW _ _ fun k hk=>qzY d k hk
 have hb: ∀x∈plc,(prt (sct d) (syn (sct d) 64)).testBit x.2=d.testBit x.1:=fun x hx=>by
  rw[h1,Nat.testBit_xor,qzO d hx,qA1 _ hx];simp
 have hy:syn (prt (sct d) (syn (sct d) 64)) 64=0:=by rw[h1,qzB,qzV _ hs];simp
 have h0:(prt (sct d) (syn (sct d) 64)).testBit 0=false:=by rw[h1,Nat.testBit_xor,qzZ,qA0];rfl
 unfold encW fin
 split
 ·rename_i ho
  rw[qzX h0]
  refine⟨fun x hx=> ?_,?_,?_⟩
  ·rw[Nat.testBit_xor,hb x hx,show(1:Nat)=2^0 from rfl,Nat.testBit_two_pow]
   have:=(qzN hx).2.2.1
   have:0≠x.2:=fun e=>this e.symm
   simp[this]
  ·rw[qzB,hy,show(1:Nat)=2^0 from rfl,qzD];rfl
  ·rw[qzC,show(1:Nat)=2^0 from rfl,qzE];simp;omega
 ·rename_i ho
  exact⟨hb,hy,by omega⟩
theorem qA4{w:Nat}{n:Nat}(h: ∀p,n<=p->w.testBit p=false):w<2^n:=Nat.lt_pow_two_of_testBit w h
theorem qA5(d:Nat):sct d<2^64:=qA4 fun p hp=>qzQ d p fun x hx=>by have:=(qzN hx).2.1;omega
theorem qA6(d:Nat):encW d<2^64:=by
 have h1:prt (sct d) (syn (sct d) 64)<2^64:=qA4 fun p hp=>by
  rw[qzU,Nat.testBit_lt_two_pow (Nat.lt_of_lt_of_le (qA5 d) (Nat.pow_le_pow_right (by decide) hp)),Bool.false_or,yD]
  intro k hk
  have hk:k<6:=List.mem_range.1 hk
  have:2^k<=2^5:=Nat.pow_le_pow_right (by decide) (by omega)
  have:2^k≠p:=by omega
  simp[this]
 unfold encW fin
 split
 ·exact Nat.or_lt_two_pow h1 (by decide)
 ·exact h1
theorem qA7{d:Nat}(hd:d<2^57):gat (encW d)=d:=qzT hd (qA3 d).1
theorem qA8(d:Nat):chkW (encW d)=0:=by
 obtain⟨_,h2,h3⟩:=qA3 d
 unfold chkW;rw[if_neg (by omega),if_neg (by omega)]
theorem qA9{x:Nat}(hx:x<2^64)(h1: ∀q∈plc,x.testBit q.2=false)(h2:syn x 64=0)(h3:ons x 64%2=0):x=0:=by
 have hx' :x=(if x.testBit 0 then 1 else 0)^^^prt 0 ((if x.testBit 1 then 1 else 0)+(if x.testBit 2 then 2 else 0)+(if x.testBit 4 then 4 else 0)+(if x.testBit 8 then 8 else 0)+(if x.testBit 16 then 16 else 0)+(if x.testBit 32 then 32 else 0)):=by
  apply Nat.eq_of_testBit_eq
  intro p
  by_cases hp:p<64
  ·have:=yE.1 qzM p (List.mem_range.2 hp)
   simp only[Bool.or_eq_true,decide_eq_true_eq,List.any_eq_true]at this
   rcases this with(rfl|⟨k,hk,rfl⟩)|⟨q,hq,rfl⟩
   ·rw[Nat.testBit_xor,qA0]
    cases x.testBit 0<;>rfl
   ·rw[Nat.testBit_xor]
    have e0:(if x.testBit 0 then 1 else 0:Nat).testBit (2^k)=false:=by
     have hk:k<6:=List.mem_range.1 hk
     cases x.testBit 0
     ·simp
     ·simp only[if_true];rw[show(1:Nat)=2^0 from rfl,Nat.testBit_two_pow];have:=Nat.two_pow_pos k;simp;omega
    rw[e0,Bool.false_xor]
    have hk:k<6:=List.mem_range.1 hk
    have key: ∀b1 b2 b3 b4 b5 b6:Bool,∀k,k<6->(prt 0 ((if b1 then 1 else 0)+(if b2 then 2 else 0)+(if b3 then 4 else 0)+(if b4 then 8 else 0)+(if b5 then 16 else 0)+(if b6 then 32 else 0))).testBit (2^k)=[b1,b2,b3,b4,b5,b6].getD k false:=by decide+kernel
    rw[key _ _ _ _ _ _ k hk]
    have:k=0\/k=1\/k=2\/k=3\/k=4\/k=5:=by omega
    rcases this with rfl|rfl|rfl|rfl|rfl|rfl<;>rfl
   ·rw[h1 q hq,Nat.testBit_xor,qA1 _ hq]
    obtain⟨_,_,q3,_⟩:=qzN hq
    cases x.testBit 0
    ·simp
    ·simp only[if_true];rw[show(1:Nat)=2^0 from rfl,Nat.testBit_two_pow];simp;omega
  ·have e:2^64<=2^p:=Nat.pow_le_pow_right (by decide) (by omega)
   rw[Nat.testBit_lt_two_pow (by omega),Nat.testBit_xor,qzU,Nat.zero_testBit,Bool.false_or]
   have e1:(if x.testBit 0 then 1 else 0:Nat).testBit p=false:=by
    cases x.testBit 0
    ·simp
    ·simp only[if_true];rw[show(1:Nat)=2^0 from rfl,Nat.testBit_two_pow];simp;omega
   rw[e1,Bool.false_xor]
   refine(yD.2 fun k hk=> ?_).symm
   have hk:k<6:=List.mem_range.1 hk
   have:2^k<=2^5:=Nat.pow_le_pow_right (by decide) (by omega)
   have:2^k≠p:=by omega
   simp[this]
 revert h2 h3
 rw[hx']
 have key : ∀ b0 b1 b2 b3 b4 b5 b6 : Bool, syn ((if b0 then 1 else 0) ^^^ prt 0 ((if b1 then 1 else 0) + (if b2 then 2 else 0) + (if b3 then 4 else 0) + (if b4 then 8 else 0) + (if b5 then 16 else 0) + (if b6 then 32 else 0))) 64 = 0 -> ons ((if b0 then 1 else 0) ^^^ prt 0 ((if b1 then 1 else 0) + (if b2 then 2 else 0) + (if b3 then 4 else 0) + (if b4 then 8 else 0) + (if b5 then 16 else 0) + (if b6 then 32 else 0))) 64 % 2 = 0 ->
   (if b0 then 1 else 0)^^^prt 0 ((if b1 then 1 else 0)+(if b2 then 2 else 0)+(if b3 then 4 else 0)+(if b4 then 8 else 0)+(if b5 then 16 else 0)+(if b6 then 32 else 0))=0:=by decide+kernel
 exact key _ _ _ _ _ _ _
theorem qAa{w:Nat}(hw:w<2^64)(h:chkW w=0):encW (gat w)=w:=by
 unfold chkW at h
 have h1:ons w 64%2=0:=by
  by_cases e:ons w 64%2=1
  ·rw[if_pos e]at h;omega
  ·omega
 rw[if_neg (by omega)]at h
 have h2:syn w 64=0:=by
  by_cases e:syn w 64=0
  ·exact e
  ·rw[if_pos e]at h;omega
 obtain⟨g1,g2,g3⟩:=qA3 (gat w)
 have hz:encW (gat w)^^^w=0:=by
  refine qA9 (Nat.xor_lt_two_pow (qA6 _) hw) (fun q hq=> ?_) ?_ ?_
  ·rw[Nat.testBit_xor,g1 q hq,qzP w hq];simp
  ·rw[qzB,g2,h2];rfl
  ·rw[qzC];omega
 have:=congrArg (· ^^^w) hz
 simpa[Nat.xor_assoc]using this
theorem qAb{w:Nat}(h:chkW w=0){i:Nat}(hi:i<64):chkW (w^^^2^i)=1/\syn (w^^^2^i) 64=i:=by
 unfold chkW at h
 have h1:ons w 64%2=0:=by
  by_cases e:ons w 64%2=1
  ·rw[if_pos e]at h;omega
  ·omega
 rw[if_neg (by omega)]at h
 have h2:syn w 64=0:=by
  by_cases e:syn w 64=0
  ·exact e
  ·rw[if_pos e]at h;omega
 constructor
 ·unfold chkW;rw[qzC,qzE,if_pos hi,if_pos (by omega)]
 ·rw[qzB,qzD,if_pos hi,h2];simp
theorem qAd(w v:Nat):w^^^v^^^v=w:=by rw[Nat.xor_assoc];simp
theorem fix1{w:Nat}(h:chkW w=1):syn w 64<64/\chkW (w^^^2^syn w 64)=0:=by
 have hs:=qzF w 64 (Nat.le_refl _)
 refine⟨hs,?_⟩
 have h1:ons w 64%2=1:=by
  unfold chkW at h
  by_cases e:ons w 64%2=1
  ·exact e
  ·rw[if_neg e]at h;split at h<;>omega
 unfold chkW
 rw[qzC,qzE,if_pos hs,if_neg (by omega),qzB,qzD,if_pos hs]
 simp
theorem qAf(w:Nat):chkW w=0\/chkW w=1\/chkW w=2:=by
 unfold chkW
 split
 ·exact .inr (.inl rfl)
 ·split
  ·exact .inr (.inr rfl)
  ·exact .inl rfl
theorem qAg(k m:Nat):(2^k*(2*m+1))&&&(2^k*(2*m+1)-1)=2^k*(2*m+1)^^^2^k/\2^k*(2*m+1)^^^2^k<2^k*(2*m+1)/\(2^k*(2*m+1)).testBit k=true:=by
 have hp:=Nat.two_pow_pos k
 have e1:2^k*(2*m+1)=2^(k+1)*m+2^k:=by rw[Nat.pow_succ,Nat.mul_add,Nat.mul_one,Nat.mul_assoc]
 have hlt:2^k<2^(k+1):=Nat.pow_lt_pow_right (by decide) (by omega)
 have e2:2^k*(2*m+1)-1=2^(k+1)*m+(2^k-1):=by omega
 have hx:2^k*(2*m+1)^^^2^k=2^(k+1)*m:=by
  apply Nat.eq_of_testBit_eq
  intro i
  rw[e1,Nat.testBit_xor,Nat.testBit_two_pow_mul_add _ hlt,Nat.testBit_two_pow_mul,Nat.testBit_two_pow]
  split
  ·rename_i h
   have: ¬k+1<=i:=by omega
   simp[this]
  ·rename_i h
   have h1:k+1<=i:=by omega
   have h2:k≠i:=by omega
   simp[h1,h2]
 refine⟨?_,by rw[hx];omega,?_⟩
 ·rw[hx,e2]
  apply Nat.eq_of_testBit_eq
  intro i
  rw[e1,Nat.testBit_and,Nat.testBit_two_pow_mul_add _ hlt,Nat.testBit_two_pow_mul_add _ (by omega),Nat.testBit_two_pow_mul,Nat.testBit_two_pow,Nat.testBit_two_pow_sub_one]
  split
  ·rename_i h
   have: ¬k+1<=i:=by omega
   have h3:(decide (k=i)&&decide (i<k))=false:=by
    by_cases e:k=i
    ·subst e;simp
    ·simp[e]
   rw[h3]
   simp[this]
  ·rename_i h
   have h1:k+1<=i:=by omega
   simp[h1]
 ·rw[e1,Nat.testBit_two_pow_mul_add _ hlt,if_pos (by omega),Nat.testBit_two_pow_self]
theorem qAh{b c:Nat}(y z:Nat)(hb:b<256)(hc:c<256):(256*y+b)&&&(256*z+c)=256*(y&&&z)+(b&&&c):=by
 have hbc:b&&&c<2^8:=Nat.and_lt_two_pow _ hc
 apply Nat.eq_of_testBit_eq
 intro i
 rw[show(256:Nat)=2^8 from rfl,Nat.testBit_and,Nat.testBit_two_pow_mul_add _ hb,Nat.testBit_two_pow_mul_add _ hc,Nat.testBit_two_pow_mul_add _ hbc]
 split<;>rw[Nat.testBit_and]
theorem qAi{b:Nat}(y:Nat)(hb:b<256): ∀n,ons (256*y+b) (n+8)=ons y n+ons b 8
 |0=>by simp[ons,show(256:Nat)=2^8 from rfl,Nat.testBit_two_pow_mul_add y (show b<2^8 from hb)]
 | n + 1 => by
   show ons _ (n+8)+_=_
   rw[qAi y hb n,show(256:Nat)=2^8 from rfl,Nat.testBit_two_pow_mul_add y (show b<2^8 from hb),if_neg (by omega)]
   simp only[ons,show n+8-8=n from by omega]
   omega
def sa(m x:Nat):Nat:=(x/2&&&m)+(x&&&m)
def sb(m x:Nat):Nat:=(x/4&&&m)+(x&&&m)
def sc(m x:Nat):Nat:=(x/16+x)&&&m
theorem qAj{b:Nat}(y m:Nat)(hb:b<256):sa (256*m+85) (256*y+b)=256*sa m y+sa 85 b:=by
 have key: ∀b,b<256-> ∀c,c<2->((b/2+128*c)&&&85)=(b/2&&&85):=by decide+kernel
 unfold sa
 rw[show(256*y+b)/2=256*(y/2)+(b/2+128*(y%2))from by omega,qAh _ _ (by omega) (by omega),qAh _ _ hb (by omega),key b hb _ (by omega)]
 omega
theorem qAk{b:Nat}(y m:Nat)(hb:b<256):sb (256*m+51) (256*y+b)=256*sb m y+sb 51 b:=by
 have key: ∀b,b<256-> ∀c,c<4->((b/4+64*c)&&&51)=(b/4&&&51):=by decide+kernel
 unfold sb
 rw[show(256*y+b)/4=256*(y/4)+(b/4+64*(y%4))from by omega,qAh _ _ (by omega) (by omega),qAh _ _ hb (by omega),key b hb _ (by omega)]
 omega
theorem qAl{b:Nat}(y m:Nat)(hb:b<69)(hy:y%16<5):sc (256*m+15) (256*y+b)=256*sc m y+sc 15 b:=by
 have key: ∀b,b<69-> ∀c,c<5->((b/16+16*c+b)&&&15)=(b/16+b&&&15):=by decide+kernel
 unfold sc
 rw[show(256*y+b)/16+(256*y+b)=256*(y/16+y)+(b/16+16*(y%16)+b)from by omega,qAh _ _ (by omega) (by omega),key b hb _ hy]
theorem qAm: ∀b,b<256->sa 85 b<256/\sb 51 (sa 85 b)<69/\sb 51 (sa 85 b)%16<5/\sc 15 (sb 51 (sa 85 b))=ons b 8/\ons b 8<=8:=by decide+kernel
def m0:Nat:=6148914691236517205
def m1:Nat:=3689348814741910323
def m2:Nat:=1085102592571150095
def sum8(x:Nat):Nat:=let a:=x+x/256;let b:=a+a/65536;let c:=b+b/4294967296;c%128
theorem qkf (x : Nat) (hx : x < 2 ^ 64) : ∃ b0 b1 b2 b3 b4 b5 b6 b7 : Nat, (b0 < 256 /\ b1 < 256 /\ b2 < 256 /\ b3 < 256 /\ b4 < 256 /\ b5 < 256 /\ b6 < 256 /\ b7 < 256) /\
  x=256*(256*(256*(256*(256*(256*(256*b7+b6)+b5)+b4)+b3)+b2)+b1)+b0:=
 ⟨x%256,x/256%256,x/65536%256,x/16777216%256,x/4294967296%256,x/1099511627776%256,x/281474976710656%256,x/72057594037927936,by omega,by omega⟩
def num:List Nat->Nat
 |[]=>0
 |b::r=>256*num r+b
def zad:List Nat->List Nat->List Nat
 |[],l=>l
 |l,[]=>l
 |a::r,b::s=>(a+b)::zad r s
theorem qAn: ∀a b,num a+num b=num (zad a b)
 |[],l=>by simp[num,zad]
 |a::r,[]=>by simp[num,zad]
 |a::r,b::s=>by simp only[num,zad,<- qAn r s];omega
theorem dv(b:Nat)(r:List Nat)(h:b<256):num (b::r)/256=num r:=by simp only[num];omega
theorem qAo(b:Nat)(r:List Nat)(h:b<128):num (b::r)%128=b:=by simp only[num];omega
theorem qAp (o0 o1 o2 o3 o4 o5 o6 o7 : Nat) (h0 : o0 <= 8) (h1 : o1 <= 8) (h2 : o2 <= 8) (h3 : o3 <= 8) (h4 : o4 <= 8) (h5 : o5 <= 8) (h6 : o6 <= 8) (h7 : o7 <= 8) :
  sum8 (256*(256*(256*(256*(256*(256*(256*o7+o6)+o5)+o4)+o3)+o2)+o1)+o0)=o7+o6+o5+o4+o3+o2+o1+o0:=by
 have e2: ∀x:Nat,x/65536=x/256/256:=fun x=>by rw[Nat.div_div_eq_div_mul]
 have e4: ∀x:Nat,x/4294967296=x/256/256/256/256:=fun x=>by rw[Nat.div_div_eq_div_mul,Nat.div_div_eq_div_mul,Nat.div_div_eq_div_mul]
 have hx:256*(256*(256*(256*(256*(256*(256*o7+o6)+o5)+o4)+o3)+o2)+o1)+o0=num [o0,o1,o2,o3,o4,o5,o6,o7]:=by simp[num]
 have a1:=dv o0 [o1,o2,o3,o4,o5,o6,o7] (by omega)
 have a2:num [o0,o1,o2,o3,o4,o5,o6,o7]+num [o1,o2,o3,o4,o5,o6,o7]=num [o0+o1,o1+o2,o2+o3,o3+o4,o4+o5,o5+o6,o6+o7,o7]:=qAn _ _
 have b1:num [o0+o1,o1+o2,o2+o3,o3+o4,o4+o5,o5+o6,o6+o7,o7]/65536=num [o2+o3,o3+o4,o4+o5,o5+o6,o6+o7,o7]:=by rw[e2,dv _ _ (by omega),dv _ _ (by omega)]
 have b2 : num [o0 + o1, o1 + o2, o2 + o3, o3 + o4, o4 + o5, o5 + o6, o6 + o7, o7] + num [o2 + o3, o3 + o4, o4 + o5, o5 + o6, o6 + o7, o7] =
   num [o0+o1+(o2+o3),o1+o2+(o3+o4),o2+o3+(o4+o5),o3+o4+(o5+o6),o4+o5+(o6+o7),o5+o6+o7,o6+o7,o7]:=qAn _ _
 have c1:num [o0+o1+(o2+o3),o1+o2+(o3+o4),o2+o3+(o4+o5),o3+o4+(o5+o6),o4+o5+(o6+o7),o5+o6+o7,o6+o7,o7]/4294967296=num [o4+o5+(o6+o7),o5+o6+o7,o6+o7,o7]:=by
  rw[e4,dv _ _ (by omega),dv _ _ (by omega),dv _ _ (by omega),dv _ _ (by omega)]
 have c2:num [o0+o1+(o2+o3),o1+o2+(o3+o4),o2+o3+(o4+o5),o3+o4+(o5+o6),o4+o5+(o6+o7),o5+o6+o7,o6+o7,o7]+num [o4+o5+(o6+o7),o5+o6+o7,o6+o7,o7]=num _:=qAn _ _
 simp only[sum8]
 rw[hx,a1,a2,b1,b2,c1,c2]
 simp only[zad]
 rw[qAo _ _ (by omega)]
 omega
theorem qAq(x:Nat)(hx:x<2^64):sa m0 x<2^64/\sb m1 (sa m0 x)<2^63/\sc m2 (sb m1 (sa m0 x))<2^60/\sum8 (sc m2 (sb m1 (sa m0 x)))=ons x 64:=by
 obtain⟨b0,b1,b2,b3,b4,b5,b6,b7,⟨h0,h1,h2,h3,h4,h5,h6,h7⟩,rfl⟩:=qkf x hx
 obtain⟨p0,q0,r0,s0,t0⟩:=qAm b0 h0
 obtain⟨p1,q1,r1,s1,t1⟩:=qAm b1 h1
 obtain⟨p2,q2,r2,s2,t2⟩:=qAm b2 h2
 obtain⟨p3,q3,r3,s3,t3⟩:=qAm b3 h3
 obtain⟨p4,q4,r4,s4,t4⟩:=qAm b4 h4
 obtain⟨p5,q5,r5,s5,t5⟩:=qAm b5 h5
 obtain⟨p6,q6,r6,s6,t6⟩:=qAm b6 h6
 obtain⟨p7,q7,r7,s7,t7⟩:=qAm b7 h7
 have em0:m0=256*(256*(256*(256*(256*(256*(256*85+85)+85)+85)+85)+85)+85)+85:=rfl
 have em1:m1=256*(256*(256*(256*(256*(256*(256*51+51)+51)+51)+51)+51)+51)+51:=rfl
 have em2:m2=256*(256*(256*(256*(256*(256*(256*15+15)+15)+15)+15)+15)+15)+15:=rfl
 have ea:=qAj (256*(256*(256*(256*(256*(256*b7+b6)+b5)+b4)+b3)+b2)+b1) (256*(256*(256*(256*(256*(256*85+85)+85)+85)+85)+85)+85) h0
 rw[qAj _ _ h1,qAj _ _ h2,qAj _ _ h3,qAj _ _ h4,qAj _ _ h5,qAj _ _ h6]at ea
 rw[em0,ea]
 have eb:=qAk (256*(256*(256*(256*(256*(256*sa 85 b7+sa 85 b6)+sa 85 b5)+sa 85 b4)+sa 85 b3)+sa 85 b2)+sa 85 b1) (256*(256*(256*(256*(256*(256*51+51)+51)+51)+51)+51)+51) p0
 rw[qAk _ _ p1,qAk _ _ p2,qAk _ _ p3,qAk _ _ p4,qAk _ _ p5,qAk _ _ p6]at eb
 rw[em1,eb]
 generalize sb 51 (sa 85 b0)=c0 at *
 generalize sb 51 (sa 85 b1)=c1 at *
 generalize sb 51 (sa 85 b2)=c2 at *
 generalize sb 51 (sa 85 b3)=c3 at *
 generalize sb 51 (sa 85 b4)=c4 at *
 generalize sb 51 (sa 85 b5)=c5 at *
 generalize sb 51 (sa 85 b6)=c6 at *
 generalize sb 51 (sa 85 b7)=c7 at *
 rw[em2,qAl _ _ q0 (by omega),qAl _ _ q1 (by omega),qAl _ _ q2 (by omega),qAl _ _ q3 (by omega),qAl _ _ q4 (by omega),qAl _ _ q5 (by omega),qAl _ _ q6 (by omega),s0,s1,s2,s3,s4,s5,s6,s7]
 have eo:=qAi (256*(256*(256*(256*(256*(256*b7+b6)+b5)+b4)+b3)+b2)+b1) h0 56
 rw[qAi _ h1 48,qAi _ h2 40,qAi _ h3 32,qAi _ h4 24,qAi _ h5 16,qAi _ h6 8]at eo
 rw[eo]
 clear eo ea eb em0 em1 em2
 generalize ons b0 8=o0 at *
 generalize ons b1 8=o1 at *
 generalize ons b2 8=o2 at *
 generalize ons b3 8=o3 at *
 generalize ons b4 8=o4 at *
 generalize ons b5 8=o5 at *
 generalize ons b6 8=o6 at *
 generalize ons b7 8=o7 at *
 refine⟨by omega,by omega,by omega,?_⟩
 rw[qAp _ _ _ _ _ _ _ _ t0 t1 t2 t3 t4 t5 t6 t7]
def datW(w:Nat):Nat:=gat (if chkW w=1 then w^^^2^syn w 64 else w)
def fixW(w:Nat):Nat:=if chkW w=2 then w else encW (datW w)
theorem qAr(w:Nat):datW w<2^57:=qzR _
end Go.Ham
namespace Go.Vc
open Go Go.RowKit
end Go.Vc
namespace Go.Vc
open Go Go.RowKit
def slD(V:Nat->PV)(dn:List Nat):List XO->List (Nat×PV)->List (Nat×PV)
 |[],s=>s
 |x::r,s=>slD V dn r (if dn.contains x.i=true then(match x.o.d with|some d=>up s d (V x.i)|none=>s)else s)
def putD(V:Nat->PV)(x:XO)(s:List (Nat×PV)):List (Nat×PV):=match x.o.d with|some d=>up s d (V x.i)|none=>s
theorem qAw(V:Nat->PV)(dn:List Nat)(x:XO)(r:List XO)(s:List (Nat×PV)):slD V dn (x::r) s=slD V dn r (if dn.contains x.i=true then putD V x s else s):=rfl
def qAx:List XO->Bool
 |[]=>true
 |x::r=>r.all (fun y=>x.i !=y.i&&(match x.o.d,y.o.d with|some d,some e=>d !=e|_,_=>true))&&qAx r
theorem qAy(V:Nat->PV){x y:XO}(h: ∀d e,x.o.d=some d->y.o.d=some e->d≠e)(s:List (Nat×PV)):putD V x (putD V y s)=putD V y (putD V x s):=by
 unfold putD
 cases hx:x.o.d with
 |none=>cases y.o.d<;>rfl
 |some d=>
   cases hy:y.o.d with
   |none=>rfl
   |some e=>exact qa3 s _ _ (fun q=>h d e hx hy q.symm)
theorem qAz{V:Nat->PV}{dn:List Nat}{x:XO} : ∀ {r:List XO} (_: ∀y∈r,∀d e,x.o.d=some d->y.o.d=some e->d≠e) (s:List (Nat×PV)),slD V dn r (putD V x s)=putD V x (slD V dn r s)
 |[],_,_=>rfl
 | y :: r, h, s => by
   rw[qAw,qAw]
   split
   ·rw[<- qAy V (h y (by simp)) s]
    exact qAz (fun z hz=>h z (by simp[hz])) _
   ·exact qAz (fun z hz=>h z (by simp[hz])) _
theorem qAA{x:XO}{r:List XO}(h:qAx (x::r)=true):(∀y∈r,x.i≠y.i/\ ∀d e,x.o.d=some d->y.o.d=some e->d≠e)/\qAx r=true:=by
 simp only[qAx,zN,yE]at h
 refine⟨fun y hy=> ?_,h.2⟩
 obtain⟨h1,h2⟩:=h.1 y hy
 refine⟨by simpa using h1,fun d e e1 e2=> ?_⟩
 rw[e1,e2]at h2
 simpa using h2
theorem qAB{V:Nat->PV}{dn:List Nat}{i:Nat} : ∀ {r:List XO} (_: ∀y∈r,i≠y.i) (s:List (Nat×PV)),slD V (i::dn) r s=slD V dn r s
 |[],_,_=>rfl
 | y :: r, h, s => by
   have e:(i::dn).contains y.i=dn.contains y.i:=by
    have:=h y (by simp)
    simp[this.symm]
   rw[qAw,qAw,e]
   exact qAB (fun z hz=>h z (by simp[hz])) _
theorem qAC{V:Nat->PV}{dn:List Nat}{x:XO}(hnd:dn.contains x.i=false): ∀ {ops:List XO} (_:qAx ops=true) (_:x∈ops) (s:List (Nat×PV)),slD V (x.i::dn) ops s=putD V x (slD V dn ops s)
 | y :: r, h, hx, s => by
   obtain⟨h1,h2⟩:=qAA h
   rw[qAw,qAw]
   rcases List.mem_cons.1 hx with rfl|hx
   ·rw[if_pos (by simp),hnd,if_neg (by decide),qAB (fun z hz=>(h1 z hz).1),qAz fun z hz=>(h1 z hz).2]
   ·have hne:=(h1 x hx).1
    have e:(x.i::dn).contains y.i=dn.contains y.i:=by simp[hne]
    rw[e]
    exact qAC hnd h2 hx _
theorem qAD{V:Nat->PV}{dn:List Nat}{j:Nat} : ∀ {r:List XO} (_:r.all (fun y=>y.o.d !=some j)=true) (s:List (Nat×PV)),lk (slD V dn r s) j=lk s j
 |[],_,_=>rfl
 | y :: r, h, s => by
   simp only[List.all_cons,zN]at h
   rw[qAw,qAD h.2]
   split
   ·unfold putD
    split
    ·rename_i d hd
     rw[qa2,if_neg]
     intro e
     rw[hd,e]at h
     simp at h
    ·rfl
   ·rfl
theorem qAE{V:Nat->PV}{dn:List Nat}{x:XO}{d:Nat}(hd:x.o.d=some d)(hdn:dn.contains x.i=true): ∀ {ops:List XO} (_:qAx ops=true) (_:x∈ops) (s:List (Nat×PV)),lk (slD V dn ops s) d=some (V x.i)
 | y :: r, h, hx, s => by
   obtain⟨h1,h2⟩:=qAA h
   rw[qAw]
   rcases List.mem_cons.1 hx with rfl|hx
   ·rw[if_pos hdn,qAD]
    ·unfold putD
     rw[hd]
     simp only
     rw[qa2,if_pos rfl]
    ·rw[yE]
     intro z hz
     have:=(h1 z hz).2
     cases he:z.o.d with
     |none=>rfl
     |some e=>
       have:=this d e hd he
       simp[this.symm]
   ·exact qAE hd hdn h2 hx _
def qAF(ops:List XO)(dn:List Nat):Prop:= ∀x∈ops,dn.contains x.i=true-> ∀j∈x.deps,dn.contains j=true
theorem qAG: ∀ {l1 l2:List Nat},l1.Nodup->(∀x∈l1,x∈l2)->l1.length<=l2.length
 |[],_,_,_=>Nat.zero_le _
 | x :: l1, l2, h, hs => by
   rw[List.nodup_cons]at h
   have hx:=hs x (by simp)
   have h1:=qAG (l1:=l1) (l2:=l2.erase x) h.2 fun y hy=>(List.mem_erase_of_ne (fun e=>h.1 (by rw[<- e];exact hy))).2 (hs y (by simp[hy]))
   rw[List.length_erase_of_mem hx]at h1
   have:=List.length_pos_of_mem hx
   rw[zV]
   omega
theorem qAH{ops:List XO}(h:qAx ops=true){x y:XO}(hx:x∈ops)(hy:y∈ops)(e:x.i=y.i):x=y:=by
 induction ops with
 |nil=>cases hx
 |cons z r ih=>
   obtain⟨h1,h2⟩:=qAA h
   rcases List.mem_cons.1 hx with e1|hx2
   ·rcases List.mem_cons.1 hy with e2|hy2
    ·rw[e1,e2]
    ·exact absurd (by rw[<- e1,e]) (h1 y hy2).1
   ·rcases List.mem_cons.1 hy with e2|hy2
    ·exact absurd (by rw[<- e2,e]) (h1 x hx2).1
    ·exact ih h2 hx2 hy2
def dstB:Option Nat->Nat->Bool
 |some d,t=>d==t
 |none,_=>false
def idxW:List XO->Nat->Option Nat
 |[],_=>none
 |x::r,t=>if dstB x.o.d t=true then some x.i else idxW r t
def knW(ops:List XO)(dn:List Nat)(t:Nat):Prop:=match idxW ops t with|none=>True|some i=>dn.contains i=true
def vlW(ops:List XO)(V:Nat->PV)(s0:List (Nat×PV))(t:Nat):PV:=match idxW ops t with|none=>getL s0 t|some i=>V i
theorem dstB_iff{o:Option Nat}{t:Nat} :dstB o t=true ↔ o=some t:=by cases o<;>simp[dstB]
theorem qAJ: ∀ {ops:List XO} {t:Nat},idxW ops t=none->ops.all (fun y=>y.o.d !=some t)=true
 |[],_,_=>rfl
 | x :: r, t, h => by
   unfold idxW at h
   split at h
   ·cases h
   ·rename_i hd
    rw[List.all_cons,qAJ h,Bool.and_true]
    simp only[bne_iff_ne,ne_eq]
    exact fun e=>hd (dstB_iff.2 e)
theorem qAK: ∀ {ops:List XO} {t i:Nat},idxW ops t=some i-> ∃x∈ops,x.o.d=some t/\x.i=i
 |[],_,_,h=>by cases h
 | x :: r, t, i, h => by
   unfold idxW at h
   split at h
   ·rename_i hd
    injection h with h
    exact⟨x,by simp,dstB_iff.1 hd,h⟩
   ·obtain⟨y,hy,h2⟩:=qAK h
    exact⟨y,by simp[hy],h2⟩
theorem qAL{ops:List XO}{V:Nat->PV}{s0:List (Nat×PV)}{dn:List Nat}(hops:qAx ops=true){t:Nat}(h:knW ops dn t):getL (slD V dn ops s0) t=vlW ops V s0 t:=by
 unfold knW at h
 unfold vlW
 cases e:idxW ops t with
 |none=>rw[<- qhb,qAD (qAJ e),qhb]
 |some i=>
   rw[e]at h
   obtain⟨x,hx,h1,rfl⟩:=qAK e
   rw[<- qhb,qAE h1 h hops hx]
   rfl
def slA(V:Nat->PV):List XO->List (Nat×PV)->List (Nat×PV)
 |[],s=>s
 |x::r,s=>slA V r (putD V x s)
theorem qAM{V:Nat->PV}{dn:List Nat} : ∀ {ops:List XO} (_: ∀x∈ops,dn.contains x.i=true) (s:List (Nat×PV)),slD V dn ops s=slA V ops s
 |[],_,_=>rfl
 | x :: r, h, s => by
   rw[qAw,if_pos (h x (by simp)),slA]
   exact qAM (fun y hy=>h y (by simp[hy])) _
theorem qAQ{P:Env}{o:AO}{st:St}{K:St->Prop}(hg:o.g=none)(h:opsK P [o] st K):opK P o st K:=by
 obtain⟨d,g,op⟩:=o
 subst hg
 exact h
theorem qAR{dn:List Nat}{x:XO}(h:rdyB dn x=true){j:Nat}(hj:j∈x.deps):dn.contains j=true:=by
 simp only[rdyB,zN,yE]at h
 exact h.2 j hj
theorem qAS{dn:List Nat}{x:XO}(h:rdyB dn x=true):dn.contains x.i=false:=by
 simp only[rdyB,zN,Bool.not_eq_true']at h
 exact h.1
theorem qAT{ops:List XO}{dn:List Nat}{x y:XO}(hc:qAF ops dn)(hr:rdyB dn x=true)(hy:y∈ops)(hj:x.i∈y.deps):dn.contains y.i=false:=by
 cases h:dn.contains y.i with
 |false=>rfl
 |true=>exact absurd ((qAS hr).symm.trans (hc y hy h x.i hj)) (by decide)
end Go.Vc
