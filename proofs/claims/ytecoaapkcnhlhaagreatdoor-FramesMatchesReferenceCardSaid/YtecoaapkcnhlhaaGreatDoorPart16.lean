/- TxtKD KD JSb TxtKH KO TxtKP KP TxtKF KF TxtKG KG KE TxtKI KI: lemmas -/
import Derived.Test.YtecoaapkcnhlhaaGreatDoorPart05
import Derived.Test.YtecoaapkcnhlhaaGreatDoorChecked
import Derived.Test.YtecoaapkcnhlhaaGreatDoorPart12
import Derived.Test.YtecoaapkcnhlhaaGreatDoorPart15
import Derived.Test.YtecoaapkcnhlhaaGreatDoorPart09
import Derived.Test.YtecoaapkcnhlhaaGreatDoorPart11
import Derived.Test.YtecoaapkcnhlhaaGreatDoorPart13
import Derived.Test.YtecoaapkcnhlhaaGreatDoorPart10
set_option linter.unusedSimpArgs false
set_option linter.unusedVariables false
open Bool renaming and_eq_true->zN
open List renaming getD_eq_getElem?_getD->zK,getElem?_eq_getElem->zL,length_append->zU,length_cons->zV,map_cons->zW,take_of_length_le->zY,take_succ_eq_append_getElem->zZ,all_eq_true->yE,length_set->yF,length_map->yG,map_append->yH
open Int renaming reduceToNat->zH,reduceNeg->zJ
open Nat renaming reduceEqDiff->zA,reduceAdd->zB,reduceSub->zC,reduceMul->zD,reduceBEq->zE,reduceLT->zF,reduceLeDiff->zG
namespace Go.Proofs.YtecoaapkcnhlhaaGreatDoor.Txt
open Go Go.Vc
set_option maxRecDepth 100000
def ac46:AC:=
 (.seq (.reg [0,11,0,1] [
 aO 4 (.mv bF)])
 (.seq (.reg [0,11,0,1] [
 mT 5 0,mT 6 1,aO 7 (.cnv true .u64 (.t 6)),aO 8 (.shf .shr .u64 (.t 5) (.t 7)),aO 9 (.bit .and .u64 (.t 8) (.c (.sc (.int .u64 1)))),aO 10 (.cmp .eql .u64 (.t 9) (.c (.sc (.int .u64 1)))),mT 4 10])
 .ret))
def rv46:List RV:=[.tmp 4]
theorem ok46:fnOk Tryz.prog ac46 rv46 Tryz.f46=true:=by kernel_rfl

def ac89:AC:=
 (.seq (.reg [0,25,0] [
 aO 2 (.mv bF)])
 (.seq (.rgs [
 ([0,25,0],[
 mT 3 0,eK 4 3 1,mT 5 4,uA 6 5 (.mv (.t 0)),uA 7 5 (.cmp .eql .i64 (.t 6) (kI 2)),aO 8 (uG 5 7),mT 9 8,uA 10 9 (.mv (.t 0)),uA 11 9 (.cmp .eql .i64 (.t 10) (kI 4)),aO 12 (uG 9 11),mT 13 12,uA 14 13 (.mv (.t 0))]),([0,25,0,13,14],[
 uA 15 13 (.cmp .eql .i64 (.t 14) (kI 8)),aO 16 (uG 13 15),mT 17 16,uA 18 17 (.mv (.t 0)),uA 19 17 (.cmp .eql .i64 (.t 18) (kI 16)),aO 20 (uG 17 19),mT 21 20,uA 22 21 (.mv (.t 0)),uA 23 21 (.cmp .eql .i64 (.t 22) (kI 32)),aO 24 (uG 21 23),mT 2 24])])
 .ret))
def rv89:List RV:=[.tmp 2]
theorem ok89:fnOk Tryz.prog ac89 rv89 Tryz.f89=true:=by kernel_rfl

def ac62:AC:=
 (.seq (.reg [0,16,0] [
 mK 2 0])
 (.seq (.reg [0,16,0] [
 mK 3 (-1),mK 4 0])
 (.seq (.block 0
 (.loop [0,16,0,3,4]
 (.seq (.seq (.reg [0,16,0,3,4] [
 mT 5 3,mT 6 0,lS 7 5 6])
 (.cond (.t 7)
 .skip
 (.exit 0)))
 (.block 1
 (.seq (.reg [0,16,0,3,4] [
 mT 8 4,uF 9 8 1,mT 4 9])
 (.seq (.reg [0,16,0,3,4] [
 mT 10 4,aO 11 (.cal 89 [(.t 10)]),aO 12 (.not (.t 11))])
 (.cond (.t 12)
 (.reg [0,16,0,3,4] [
 mT 13 3,uF 14 13 1,mT 3 14])
 .skip)))))))
 (.seq (.reg [0,16,4] [
 mT 15 4,mT 2 15])
 .ret))))
def rv62:List RV:=[.tmp 2]
theorem ok62:fnOk Tryz.prog ac62 rv62 Tryz.f62=true:=by kernel_rfl

def ac63:AC:=
 (.seq (.reg [0,16,0] [
 mK 2 0])
 (.seq (.reg [0,16,0] [
 mK 3 0])
 (.seq (.seq (.reg [0,16,0,3] [
 mK 4 0])
 (.block 0
 (.loop [0,16,0,3,4]
 (.seq (.seq (.reg [0,16,0,3,4] [
 mT 5 4,aO 6 (.cmp .lss .i64 (.t 5) (kI 64))])
 (.cond (.t 6)
 .skip
 (.exit 0)))
 (.seq (.block 1
 (.seq (.reg [0,16,0,3,4] [
 mT 9 0,mT 10 4,aO 11 (.cal 46 [(.t 9),(.t 10)])])
 (.cond (.t 11)
 (.reg [0,16,0,3,4] [
 mT 12 3,mT 13 4,aO 14 (.bit .xor .i64 (.t 12) (.t 13)),mT 3 14])
 .skip)))
 (.reg [0,16,0,3,4] [
 mT 7 4,uF 8 7 1,mT 4 8]))))))
 (.seq (.reg [0,16,3] [
 mT 15 3,mT 2 15])
 .ret))))
def rv63:List RV:=[.tmp 2]
theorem ok63:fnOk Tryz.prog ac63 rv63 Tryz.f63=true:=by kernel_rfl

def ac64:AC:=
 (.seq (.reg [0,15,0] [
 mK 2 0])
 (.seq (.reg [0,15,0] [
 mK 3 0])
 (.seq (.seq (.reg [0,15,0,3] [
 mK 4 0])
 (.block 0
 (.loop [0,15,0,3,4]
 (.seq (.seq (.reg [0,15,0,3,4] [
 mT 5 4,aO 6 (.cmp .lss .i64 (.t 5) (kI 64))])
 (.cond (.t 6)
 .skip
 (.exit 0)))
 (.seq (.block 1
 (.seq (.reg [0,15,0,3,4] [
 mT 9 0,mT 10 4,aO 11 (.cal 46 [(.t 9),(.t 10)])])
 (.cond (.t 11)
 (.reg [0,15,0,3,4] [
 mT 12 3,uF 13 12 1,mT 3 13])
 .skip)))
 (.reg [0,15,0,3,4] [
 mT 7 4,uF 8 7 1,mT 4 8]))))))
 (.seq (.reg [0,15,3] [
 mT 14 3,mT 2 14])
 .ret))))
def rv64:List RV:=[.tmp 2]
theorem ok64:fnOk Tryz.prog ac64 rv64 Tryz.f64=true:=by kernel_rfl

def ac71:AC:=
 (.seq (.reg [0,10,0] [
 mK 2 0])
 (.seq (.seq (.reg [0,10,0] [
 mT 3 0,aO 4 (.cal 64 [(.t 3)]),aO 5 (.dvd .rem true .i64 (.t 4) (kI 2)),eK 6 5 1])
 (.cond (.t 6)
 (.seq (.reg [0,10] [
 mK 2 1])
 .ret)
 .skip))
 (.seq (.seq (.reg [0,10,0] [
 mT 7 0,aO 8 (.cal 63 [(.t 7)]),aO 9 (.cmp .neq .i64 (.t 8) (kI 0))])
 (.cond (.t 9)
 (.seq (.reg [0,10] [
 mK 2 2])
 .ret)
 .skip))
 (.seq (.reg [0,10] [
 mK 2 0])
 .ret))))
def rv71:List RV:=[.tmp 2]
theorem ok71:fnOk Tryz.prog ac71 rv71 Tryz.f71=true:=by kernel_rfl

def ac50:AC:=
 (.seq (.reg [0,17,0,1] [
 aO 4 (.mv (.c (.sc (.int .u64 0))))])
 (.seq (.seq (.reg [0,17,0,1] [
 mT 5 1,aO 6 (.cmp .lss .i64 (.t 5) (kI 0)),mT 7 6,uA 8 7 (.mv (.t 1)),uA 9 7 (.cmp .gtr .i64 (.t 8) (kI 63)),aO 10 (uG 7 9)])
 (.cut [0,17,0,1,10] (.cond (.t 10)
 (.seq (.reg [0,17,0] [
 mT 11 0,mT 4 11])
 .ret)
 .skip)))
 (.seq (.reg [0,17,0,1] [
 mT 12 0,mT 13 1,aO 14 (.cnv true .u64 (.t 13)),aO 15 (.shf .shl .u64 (.c (.sc (.int .u64 1))) (.t 14)),aO 16 (.bit .xor .u64 (.t 12) (.t 15)),mT 4 16])
 .ret)))
def rv50:List RV:=[.tmp 4]
theorem ok50:fnOk Tryz.prog ac50 rv50 Tryz.f50=true:=by kernel_rfl

def ac72:AC:=
 (.seq (.reg [0,19,0] [
 aO 2 (.mv (.c (.sc (.int .u64 0))))])
 (.seq (.reg [0,19,0] [
 aO 3 (.mv (.c (.sc (.int .u64 0))))])
 (.seq (.seq (.reg [0,19,0,3] [
 mK 4 0])
 (.block 0
 (.loop [0,19,0,3,4]
 (.seq (.seq (.reg [0,19,0,3,4] [
 mT 5 4,aO 6 (.cmp .lss .i64 (.t 5) (kI 57))])
 (.cond (.t 6)
 .skip
 (.exit 0)))
 (.seq (.block 1
 (.seq (.reg [0,19,0,3,4] [
 mT 9 0,mT 10 4,aO 11 (.cal 62 [(.t 10)]),aO 12 (.cal 46 [(.t 9),(.t 11)])])
 (.cond (.t 12)
 (.reg [0,19,0,3,4] [
 mT 13 3,mT 14 4,aO 15 (.cnv true .u64 (.t 14)),aO 16 (.shf .shl .u64 (.c (.sc (.int .u64 1))) (.t 15)),aO 17 (.bit .or .u64 (.t 13) (.t 16)),mT 3 17])
 .skip)))
 (.reg [0,19,0,3,4] [
 mT 7 4,uF 8 7 1,mT 4 8]))))))
 (.seq (.reg [0,19,3] [
 mT 18 3,mT 2 18])
 .ret))))
def rv72:List RV:=[.tmp 2]
theorem ok72:fnOk Tryz.prog ac72 rv72 Tryz.f72=true:=by kernel_rfl

def ac36:AC:=
 (.seq (.reg [0,50,0] [
 aO 2 (.alc [.sc (.int .u64 0),zI])])
 (.seq (.seq (.reg [0,50,0,2] [
 mT 7 0,aO 8 (.shf .shr .u64 (.t 7) (.c (.sc (.int .u64 57)))),aO 9 (.cmp .neq .u64 (.t 8) (.c (.sc (.int .u64 0))))])
 (.cond (.t 9)
 (.seq (.reg [0,50,2] [
 aO 10 (.bld [.sc (.int .u64 0),zI] [(1,1,(kI 1))]),sT 2 2 10])
 .ret)
 .skip))
 (.seq (.reg [0,50,0,2] [
 aO 3 (.mv (.c (.sc (.int .u64 0))))])
 (.seq (.seq (.reg [0,50,0,2,3] [
 mK 4 0])
 (.block 0
 (.loop [0,50,0,2,3,4]
 (.seq (.seq (.reg [0,50,0,2,3,4] [
 mT 11 4,aO 12 (.cmp .lss .i64 (.t 11) (kI 57))])
 (.cond (.t 12)
 .skip
 (.exit 0)))
 (.seq (.block 1
 (.seq (.reg [0,50,0,2,3,4] [
 mT 15 0,mT 16 4,aO 17 (.cal 46 [(.t 15),(.t 16)])])
 (.cond (.t 17)
 (.reg [0,50,0,2,3,4] [
 mT 18 3,mT 19 4,aO 20 (.cal 62 [(.t 19)]),aO 21 (.cnv true .u64 (.t 20)),aO 22 (.shf .shl .u64 (.c (.sc (.int .u64 1))) (.t 21)),aO 23 (.bit .or .u64 (.t 18) (.t 22)),mT 3 23])
 .skip)))
 (.reg [0,50,0,2,3,4] [
 mT 13 4,uF 14 13 1,mT 4 14]))))))
 (.seq (.reg [0,50,2,3] [
 mT 24 3,aO 25 (.cal 63 [(.t 24)]),mT 5 25])
 (.seq (.seq (.reg [0,50,2,3,5] [
 mK 6 0])
 (.block 2
 (.loop [0,50,2,3,5,6]
 (.seq (.seq (.reg [0,50,2,3,5,6] [
 mT 26 6,aO 27 (.cmp .lss .i64 (.t 26) (kI 6))])
 (.cond (.t 27)
 .skip
 (.exit 2)))
 (.seq (.block 3
 (.seq (.reg [0,50,2,3,5,6] [
 mT 30 5,mT 31 6,aO 32 (.cnv true .u64 (.t 31)),aO 33 (.shf .shr .i64 (.t 30) (.t 32)),aO 34 (.bit .and .i64 (.t 33) (kI 1)),eK 35 34 1])
 (.cond (.t 35)
 (.reg [0,50,2,3,5,6] [
 mT 36 3,mT 37 6,aO 38 (.cnv true .u64 (.t 37)),aO 39 (.shf .shl .u64 (.c (.sc (.int .u64 1))) (.t 38)),aO 40 (.shf .shl .u64 (.c (.sc (.int .u64 1))) (.t 39)),aO 41 (.bit .or .u64 (.t 36) (.t 40)),mT 3 41])
 .skip)))
 (.reg [0,50,2,3,5,6] [
 mT 28 6,uF 29 28 1,mT 6 29]))))))
 (.seq (.seq (.reg [0,50,2,3] [
 mT 42 3,aO 43 (.cal 64 [(.t 42)]),aO 44 (.dvd .rem true .i64 (.t 43) (kI 2)),eK 45 44 1])
 (.cond (.t 45)
 (.reg [0,50,2,3] [
 mT 46 3,aO 47 (.bit .or .u64 (.t 46) (.c (.sc (.int .u64 1)))),mT 3 47])
 .skip))
 (.seq (.reg [0,50,2,3] [
 mT 48 3,aO 49 (.bld [.sc (.int .u64 0),zI] [(0,1,(.t 48))]),sT 2 2 49])
 .ret))))))))
def rv36:List RV:=[.cell 2 true 2]
theorem ok36:fnOk Tryz.prog ac36 rv36 Tryz.f36=true:=by kernel_rfl

def ac45:AC:=
 (.seq (.reg [0,19,0] [
 aO 2 (.alc [.sc (.int .u64 0),zI,zI])])
 (.seq (.seq (.reg [0,19,0,2] [
 mT 3 0,aO 4 (.cal 71 [(.t 3)])])
 (.block 0
 (.seq (.reg [0,19,0,2,4] [
 eK 6 4 0,mT 5 6])
 (.cond (.t 5)
 (.seq (.reg [0,19,0,2] [
 mT 7 0,aO 8 (.cal 72 [(.t 7)]),aO 9 (.bld [.sc (.int .u64 0),zI,zI] [(0,1,(.t 8))]),sT 3 2 9])
 .ret)
 (.seq (.reg [0,19,0,2,4] [
 eK 11 4 1,mT 10 11])
 (.cond (.t 10)
 (.seq (.reg [0,19,0,2] [
 mT 12 0,mT 13 0,aO 14 (.cal 63 [(.t 13)]),aO 15 (.cal 50 [(.t 12),(.t 14)]),aO 16 (.cal 72 [(.t 15)]),aO 17 (.bld [.sc (.int .u64 0),zI,zI] [(0,1,(.t 16)),(1,1,(kI 1))]),sT 3 2 17])
 .ret)
 .skip))))))
 (.seq (.reg [0,19,2] [
 aO 18 (.bld [.sc (.int .u64 0),zI,zI] [(2,1,(kI 6))]),sT 3 2 18])
 .ret)))
def rv45:List RV:=[.cell 2 true 3]
theorem ok45:fnOk Tryz.prog ac45 rv45 Tryz.f45=true:=by kernel_rfl
end Go.Proofs.YtecoaapkcnhlhaaGreatDoor.Txt
namespace Go.Proofs.YtecoaapkcnhlhaaGreatDoor
open Go Go.Vc Go.Ham Txt
theorem qKm(w i:Nat)(hw:w<2^64)(hi:i<=64):decide (bitF .and .u64 (shfF .shr .u64 (w:Int) (i:Int)) 1=1)=w.testBit i:=by
 rw[qBr w i hi]
 have hd:w/2^i<2^64:=Nat.lt_of_le_of_lt (Nat.div_le_self _ _) hw
 have h1:bitF .and .u64 ((w/2^i:Nat):Int) ((1:Nat):Int)=_:=qBl hd (by decide)
 rw[show(1:Int)=((1:Nat):Int)from rfl,h1,Nat.and_one_is_mod,Nat.testBit_eq_decide_div_mod_eq,decide_eq_decide]
 omega
theorem qKn(w i:Nat)(hw:w<2^64)(hi:i<64):FnEq Tryz.prog 46 [.sc (.int .u64 w),.int i] (.bool (w.testBit i)):=by
 refine FnEq.of_awp Tryz.func46 ok46 (by show 2<=_;decide) (by simp only[push_cast,reduceIte,zA,zB,zC,zD,zE,zF,zG,reduceCtorEq,zH,zJ,cNI]<;>first|exact fun _ _=>trivial|simp) ?_
 simp only[ac46,rv46,push_cast,reduceIte,zA,zB,zC,zD,zE,zF,zG,reduceCtorEq,zH,zJ,cNI]
 rw[qKm w i hw oM]
 exact⟨oM,oM,rfl⟩
def npw(p:Int):Bool:=decide (p=1)||decide (p=2)||decide (p=4)||decide (p=8)||decide (p=16)||decide (p=32)
theorem qKo(p:Int):FnEq Tryz.prog 89 [.int p] (.bool (npw p)):=by
 unfold npw
 refine FnEq.of_awp Tryz.func89 ok89 (by show 1<=_;decide) (by simp only[push_cast,reduceIte,zA,zB,zC,zD,zE,zF,zG,reduceCtorEq,zH,zJ,cNI]<;>first|exact fun _ _=>trivial|simp) ?_
 simp only[ac89,rv89,push_cast,reduceIte,zA,zB,zC,zD,zE,zF,zG,reduceCtorEq,zH,zJ,cNI]
 refine qrA rfl (fun h1=> ?_) fun h1=> ?_<;>simp only[h1,push_cast,reduceIte,zA,zB,zC,zD,zE,zF,zG,reduceCtorEq,zH,zJ,cNI]
 refine qrA rfl (fun h2=> ?_) fun h2=> ?_<;>simp only[h2,push_cast,reduceIte,zA,zB,zC,zD,zE,zF,zG,reduceCtorEq,zH,zJ,cNI]
 refine qrA rfl (fun h3=> ?_) fun h3=> ?_<;>simp only[h3,push_cast,reduceIte,zA,zB,zC,zD,zE,zF,zG,reduceCtorEq,zH,zJ,cNI]
 refine qrA rfl (fun h4=> ?_) fun h4=> ?_<;>simp only[h4,push_cast,reduceIte,zA,zB,zC,zD,zE,zF,zG,reduceCtorEq,zH,zJ,cNI]
 refine qrA rfl (fun h5=> ?_) fun h5=> ?_<;>simp only[h5,push_cast,reduceIte,zA,zB,zC,zD,zE,zF,zG,reduceCtorEq,zH,zJ,cNI]
 done
theorem qKp(n i:Nat)(h:n<2^64)(hi:i<64):FnEq Tryz.prog 50 [.sc (.int .u64 n),.int i] (.sc (.int .u64 (n^^^2^i:Nat))):=by
 refine FnEq.of_awp Tryz.func50 ok50 (by show 2<=_;decide) (by simp only[push_cast,reduceIte,zA,zB,zC,zD,zE,zF,zG,reduceCtorEq,zH,zJ,cNI]<;>first|exact fun _ _=>trivial|simp) ?_
 simp only[ac50,rv50,push_cast,reduceIte,zA,zB,zC,zD,zE,zF,zG,reduceCtorEq,zH,zJ,cNI]
 rw[decide_eq_false (show ¬(i:Int)<0 by omega)]
 refine sB ?_
 rw[decide_eq_false (show ¬(63:Int)<i by omega)]
 refine sB ?_
 rw[shl1 hi,qBn h (Nat.pow_lt_pow_right (by decide) hi)]
 exact⟨oM,oM,rfl⟩
theorem qKq(w:Nat)(hw:w<2^64):FnEq Tryz.prog 63 [.sc (.int .u64 w)] (.int (syn w 64:Nat)):=by
 refine FnEq.of_awp Tryz.func63 ok63 (by show 1<=_;decide) (by simp only[push_cast,reduceIte,zA,zB,zC,zD,zE,zF,zG,reduceCtorEq,zH,zJ,cNI]<;>first|exact fun _ _=>trivial|simp) ?_
 simp only[ac63,rv63,push_cast,reduceIte,zA,zB,zC,zD,zE,zF,zG,reduceCtorEq,zH,zJ,cNI]
 refine qoP (fun m st=> ∃k:Nat,k<=64/\m=64-k/\st=⟨[(0,.sc (.int .u64 w)),(3,.int (syn w k:Nat)),(4,.int k)],[],[],[]⟩) 64 ⟨0,oM,oM,rfl⟩ ?_
 rintro m st ⟨k,hk,rfl,rfl⟩
 refine sB ?_
 refine qnY (fun h=> ?_) fun h=> ?_
 ·refine qoM (qKn w k hw oM) ?_
  refine sB ?_
  have hs:=qzF w k hk
  refine qnX (fun e=> ?_) fun e=> ?_
  ·rw[qBq oM oM]
   exact⟨oM,64-(k+1),oM,k+1,oM,rfl,by rw[syn,if_pos e];rfl⟩
  ·exact⟨oM,64-(k+1),oM,k+1,oM,rfl,by rw[syn,if_neg (by rw[e];decide)];rfl⟩
 ·rw[show k=64 by omega]
theorem qKr(w:Nat)(hw:w<2^64):FnEq Tryz.prog 64 [.sc (.int .u64 w)] (.int (ons w 64:Nat)):=by
 refine FnEq.of_awp Tryz.func64 ok64 (by show 1<=_;decide) (by simp only[push_cast,reduceIte,zA,zB,zC,zD,zE,zF,zG,reduceCtorEq,zH,zJ,cNI]<;>first|exact fun _ _=>trivial|simp) ?_
 simp only[ac64,rv64,push_cast,reduceIte,zA,zB,zC,zD,zE,zF,zG,reduceCtorEq,zH,zJ,cNI]
 refine qoP (fun m st=> ∃k:Nat,k<=64/\m=64-k/\st=⟨[(0,.sc (.int .u64 w)),(3,.int (ons w k:Nat)),(4,.int k)],[],[],[]⟩) 64 ⟨0,oM,oM,rfl⟩ ?_
 rintro m st ⟨k,hk,rfl,rfl⟩
 refine sB ?_
 refine qnY (fun h=> ?_) fun h=> ?_
 ·refine qoM (qKn w k hw oM) ?_
  refine sB ?_
  have hs:=qEd w k
  refine qnX (fun e=> ?_) fun e=> ?_
  ·exact⟨oM,oM,64-(k+1),oM,k+1,oM,rfl,by rw[ons,e];rfl⟩
  ·exact⟨oM,64-(k+1),oM,k+1,oM,rfl,by rw[ons,e];rfl⟩
 ·rw[show k=64 by omega]
theorem qKs(w:Nat)(hw:w<2^64):FnEq Tryz.prog 71 [.sc (.int .u64 w)] (.int (chkW w:Nat)):=by
 unfold chkW
 refine FnEq.of_awp Tryz.func71 ok71 (by show 1<=_;decide) (by simp only[push_cast,reduceIte,zA,zB,zC,zD,zE,zF,zG,reduceCtorEq,zH,zJ,cNI]<;>first|exact fun _ _=>trivial|simp) ?_
 simp only[ac71,rv71,push_cast,reduceIte,zA,zB,zC,zD,zE,zF,zG,reduceCtorEq,zH,zJ,cNI]
 have hol:=qEd w 64
 refine qoM (qKr w hw) ?_
 refine sB ?_
 refine⟨oM,?_⟩
 refine qnY (fun h=> ?_) fun h=> ?_
 ·rw[if_pos oM]
  try rfl
 ·rw[if_neg oM]
  refine qoM (qKq w hw) ?_
  refine sB ?_
  refine qnY (fun h2=> ?_) fun h2=> ?_
  ·rw[if_pos oM]
   try rfl
  ·rw[if_neg oM]
   try rfl
def plcF(i:Nat):Nat:=(plc.getD i (0,0)).2
theorem qKt: ∀p,p<63->npl (p+2)=npl (p+1)+(if npw ((p+1:Nat):Int)then 0 else 1):=fun p hp=>by
 have key:(List.range 63).all (fun p=>decide (npl (p+2)=npl (p+1)+(if npw ((p+1:Nat):Int)then 0 else 1)))=true:=by decide+kernel
 simpa using yE.1 key p (List.mem_range.2 hp)
theorem qKu{i p:Nat}(hi:i<57)(hp:p<64)(h:npl (p+1)=i+1)(hn:npw (p:Int)=false):plcF i=p:=by
 have key:(List.range 57).all (fun i=>(List.range 64).all fun p=> !decide (npl (p+1)=i+1)||npw (p:Int)||decide (plcF i=p))=true:=by decide+kernel
 have h2:=yE.1 (yE.1 key i (List.mem_range.2 hi)) p (List.mem_range.2 hp)
 simpa[h,hn]using h2
theorem qKv(i:Nat)(hi:i<57):FnEq Tryz.prog 62 [.int i] (.int (plcF i:Nat)):=by
 have e0:npl 1=0:=by decide+kernel
 have e63:npl 64=57:=by decide+kernel
 refine FnEq.of_awp Tryz.func62 ok62 (by show 1<=_;decide) (by simp only[push_cast,reduceIte,zA,zB,zC,zD,zE,zF,zG,reduceCtorEq,zH,zJ,cNI]<;>first|exact fun _ _=>trivial|simp) ?_
 simp only[ac62,rv62,push_cast,reduceIte,zA,zB,zC,zD,zE,zF,zG,reduceCtorEq,zH,zJ,cNI]
 refine qoP (fun m st=> ∃(p:Nat) (n:Int),p<=63/\m=63-p/\n=(npl (p+1):Int)-1/\n<=i/\(n=i->npw (p:Int)=false)/\st=⟨[(0,.int i),(3,.int n),(4,.int p)],[],[],[]⟩) 63 ⟨0,-1,oM,oM,by rw[e0];rfl,oM,fun h=>by omega,rfl⟩ ?_
 rintro m st ⟨p,n,hp,rfl,hn,hni,hnp,rfl⟩
 refine sB ?_
 refine qnY (fun h=> ?_) fun h=> ?_
 ·have hp2:p<63:=by
   refine Classical.byContradiction fun q=> ?_
   obtain rfl:p=63:=by omega
   rw[e63]at hn;omega
  have hx:=qKt p hp2
  refine⟨oM,?_⟩
  refine qoM (qKo _) ?_
  refine sB ?_
  rw[show((p+1:Nat):Int)=(p:Int)+1 from rfl]at hx
  cases hb:npw ((p:Int)+1)<;>rw[hb]at hx<;>simp only[push_cast,reduceIte,zA,zB,zC,zD,zE,zF,zG,reduceCtorEq,zH,zJ,cNI]
  ·exact⟨oM,63-(p+1),oM,p+1,n+1,oM,rfl,by have:npl (p+1+1)=npl (p+1)+1:=hx;omega,oM,fun _=>hb,rfl⟩
  ·exact⟨63-(p+1),oM,p+1,n,oM,rfl,by have:npl (p+1+1)=npl (p+1)+0:=hx;omega,oM,fun q=>by omega,rfl⟩
 ·have e:plcF i=p:=qKu hi oM oM (hnp oM)
  rw[e]
theorem qKw{k:Nat}(hk:k<57):plc.take (k+1)=plc.take k++[(k,plcF k)]/\plcF k<64:=by
 have hl:plc.length=57:=by decide
 have h1:plc.getD k (0,0)=(k,plcF k):=by
  have key:(List.range 57).all (fun k=>decide (plc.getD k (0,0)=(k,plcF k))&&decide (plcF k<64))=true:=by decide+kernel
  have:=yE.1 key k (List.mem_range.2 hk)
  simp only[zN,decide_eq_true_eq]at this
  exact this.1
 have h2:plcF k<64:=by
  have key:(List.range 57).all (fun k=>decide (plcF k<64))=true:=by decide+kernel
  simpa using yE.1 key k (List.mem_range.2 hk)
 refine⟨?_,h2⟩
 rw[zZ oM,<- h1,zK,zL oM];rfl
theorem qKx(w:Nat): ∀k,k<=57->gatL w (plc.take k)<2^57
 |0,_=>by show 0<2^57;decide
 | k + 1, hk => by
   have h:=qKx w k oM
   obtain⟨e,_⟩:=qKw (show k<57 by omega)
   unfold gatL at h ⊢
   rw[e,List.foldl_append]
   simp only[List.foldl_cons,List.foldl_nil]
   split
   ·exact Nat.or_lt_two_pow h (Nat.pow_lt_pow_right (by decide) oM)
   ·exact h
theorem qKy(d:Nat): ∀k,k<=57->sctL d (plc.take k)<2^64
 |0,_=>by show 0<2^64;decide
 | k + 1, hk => by
   have h:=qKy d k oM
   obtain⟨e,e2⟩:=qKw (show k<57 by omega)
   unfold sctL at h ⊢
   rw[e,List.foldl_append]
   simp only[List.foldl_cons,List.foldl_nil]
   split
   ·exact Nat.or_lt_two_pow h (Nat.pow_lt_pow_right (by decide) e2)
   ·exact h
theorem qKz(w:Nat)(hw:w<2^64):FnEq Tryz.prog 72 [.sc (.int .u64 w)] (.sc (.int .u64 (gat w:Nat))):=by
 refine FnEq.of_awp Tryz.func72 ok72 (by show 1<=_;decide) (by simp only[push_cast,reduceIte,zA,zB,zC,zD,zE,zF,zG,reduceCtorEq,zH,zJ,cNI]<;>first|exact fun _ _=>trivial|simp) ?_
 simp only[ac72,rv72,push_cast,reduceIte,zA,zB,zC,zD,zE,zF,zG,reduceCtorEq,zH,zJ,cNI]
 refine qoP (fun m st=> ∃k:Nat,k<=57/\m=57-k/\st=⟨[(0,.sc (.int .u64 w)),(3,.sc (.int .u64 (gatL w (plc.take k):Nat))),(4,.int k)],[],[],[]⟩) 57 ⟨0,oM,oM,rfl⟩ ?_
 rintro m st ⟨k,hk,rfl,rfl⟩
 refine sB ?_
 refine qnY (fun h=> ?_) fun h=> ?_
 ·obtain⟨e,e2⟩:=qKw (show k<57 by omega)
  have hlt:=qKx w k oM
  have hstep:gatL w (plc.take (k+1))=if w.testBit (plcF k)then gatL w (plc.take k)|||2^k else gatL w (plc.take k):=by
   unfold gatL
   rw[e,List.foldl_append];rfl
  refine qoM (qKv k oM) ?_
  refine sB ?_
  refine qoM (qKn w (plcF k) hw e2) ?_
  refine sB ?_
  refine qnX (fun q=> ?_) fun q=> ?_
  ·rw[shl1 oM,qBm oM (Nat.pow_lt_pow_right (by decide) oM)]
   rw[if_pos q]at hstep
   exact⟨oM,oM,oM,57-(k+1),oM,k+1,oM,rfl,by rw[hstep];rfl⟩
  ·rw[if_neg (by rw[q];decide)]at hstep
   exact⟨oM,57-(k+1),oM,k+1,oM,rfl,by rw[hstep];rfl⟩
 ·rw[show k=57 by omega]
  have:plc.take 57=plc:=by decide
  rw[this];rfl
end Go.Proofs.YtecoaapkcnhlhaaGreatDoor
namespace Go.Proofs.YtecoaapkcnhlhaaGreatDoor
open Go Go.Vc Go.Ham Txt
theorem qKC (B : Nat) (s s' : List (Nat × PV)) (b1 : List (Nat × List PV)) (l : List (List Nat)) (hB : lk b1 B = none) (hs : ∀ j, 3000 <= j -> farL j s) (hb : ∀ j, 3000 <= j -> refB nul (isId j) b1 = false)
  (h:(s.map fun x=>(x.1,x.2.fbV B ((rsW l).map rowP)))=s') (h2:(b1.map fun x=>(x.1,x.2.map (PV.fb B ((rsW l).map rowP))))=b1):SWk ⟨s,b1++[(B,qB0 3000 (rsW l))],qB1 1 59 3000 (rsW l),[]⟩ ⟨s',b1,[],[]⟩:=by
 refine SWk.trans (SWk.frzRows (b1:=b1) (b2:=[]) (id:=B) (k:=3000) [] (rsW l) hs hb (fun _ _=>rfl)) ?_
 have e1: ∀(b:List (Nat×List PV)) (c:List PV),lk b B=none->lk (b++[(B,c)]) B=some c:=fun b c=>by
  induction b with
  |nil=>intro _;simp[lk]
  |cons x r ih=>
    obtain⟨k,u⟩:=x
    intro hn
    rw[lk]at hn
    split at hn
    ·cases hn
    ·rename_i hk;rw[List.cons_append,lk,if_neg hk];exact ih hn
 have e2: ∀(b:List (Nat×List PV)) (c:List PV),lk b B=none->rm (b++[(B,c)]) B=b:=fun b c=>by
  induction b with
  |nil=>intro _;simp[rm]
  |cons x r ih=>
    obtain⟨k,u⟩:=x
    intro hn
    rw[lk]at hn
    split at hn
    ·cases hn
    ·rename_i hk;rw[List.cons_append,rm,if_neg hk,ih hn]
 refine SWk.frzB B (e1 _ _ hB) (qHa l) h ?_
 rw[List.nil_append,yH,h2]
 exact e2 _ _ hB
theorem qKD(l:List (List Nat)):qDL [1005] (naK l.length) (.bv 1005 1 l.length) ⟨[],[(1005,qB0 3000 (rsW l))],qB1 1 59 3000 (rsW l),[]⟩=true:=by
 simp only[qDL,zN,List.all_cons,List.all_nil,yE]
 refine⟨⟨⟨rfl,rfl⟩,⟨⟨rfl,?_⟩,trivial⟩,fun y hy=> ?_⟩,rfl⟩
 ·rw [qB5 (outL [1005]) (outL (naK l.length)) 3000 _ fun x hx => by
   rw[qH2]at hx
   unfold outL
   rw[qH0 hx];rfl]
  rfl
 ·obtain⟨x,h1,h2⟩:=qGZ _ _ _ _ y hy
  rw[qH2]at h1
  rw[h2]
  exact qH0 h1
end Go.Proofs.YtecoaapkcnhlhaaGreatDoor
namespace Go.Proofs.YtecoaapkcnhlhaaGreatDoor.Txt
open Go Go.Vc
set_option maxRecDepth 100000
def ac21:AC:=
 (.seq (.reg [0,77,0] [
 aO 2 (.alc [.nil,zI,.nil])])
 (.seq (.reg [0,77,0,2] [
 aO 10 (.bld [.nil,zI,.nil] []),aO 3 (.alc [.nil,zI,.nil]),sT 3 3 10])
 (.seq (.seq (.reg [0,77,0,2,3] [
 mK 4 0])
 (.block 0
 (.loop [0,77,0,2,3,4]
 (.seq (.seq (.reg [0,77,0,2,3,4] [
 mT 11 4,mT 12 0,nT 13 12,lS 14 11 13])
 (.cond (.t 14)
 .skip
 (.exit 0)))
 (.seq (.block 1
 (.seq (.reg [0,77,0,2,3,4] [
 aO 17 (.bld [.nil] []),aO 5 (.alc [.nil]),sT 1 5 17])
 (.seq (.reg [0,77,0,2,3,4,5] [
 aO 6 (.mv bF)])
 (.seq (.seq (.reg [0,77,0,2,3,4,5,6] [
 mK 7 0])
 (.block 2
 (.loop [0,77,0,2,3,4,5,6,7]
 (.seq (.seq (.reg [0,77,0,2,3,4,5,6,7] [
 mT 18 7,mT 19 0,mT 20 4,iX 21 1 19 20,fA 22 0 21,lF 23 1 22,nT 24 23,lS 25 18 24])
 (.cond (.t 25)
 .skip
 (.exit 2)))
 (.seq (.block 3
 (.seq (.reg [0,77,0,2,3,4,5,6,7] [
 mT 28 0,mT 29 4,iX 30 1 28 29,fA 31 0 30,lF 32 1 31,mT 33 7,iX 34 1 32 33,lF 35 1 34,mT 8 35])
 (.seq (.reg [0,77,0,2,3,4,5,6,7,8] [
 mT 36 8,aO 37 (.cal 45 [(.t 36)]),aO 9 (.alc [.sc (.int .u64 0),zI,zI]),sT 3 9 37])
 (.seq (.seq (.reg [0,77,0,2,3,4,5,6,7,8,9] [
 fA 38 2 9,lF 39 1 38,eK 40 39 0])
 (.cond (.t 40)
 (.seq (.reg [0,77,0,2,3,4,5,6,7,9] [
 fA 41 0 9,lF 42 1 41,aO 43 (.cal 36 [(.t 42)]),aO 44 (.fl false 0 1 (.t 43)),mT 8 44])
 (.reg [0,77,0,2,3,4,5,6,7,8,9] [
 fA 45 1 3,lF 46 1 45,fA 47 1 9,lF 48 1 47,aO 49 (.ari .add true .i64 (.t 46) (.t 48)),fA 50 1 3,sT 1 50 49]))
 .skip))
 (.seq (.reg [0,77,0,2,3,4,5,6,7,8,9] [
 mT 51 6,mT 52 51,uA 53 52 (.fa 2 (.t 9)),uA 54 52 (.ld false 1 (.t 53)),uA 55 52 (.cmp .neq .i64 (.t 54) (kI 0)),aO 56 (uG 52 55),mT 6 56])
 (.cut [0,77,0,2,3,4,5,6,7,8] (.reg [0,77,0,2,3,4,5,6,7,8] [
 fA 57 0 5,lF 58 1 57,mT 59 8,aO 60 (.bsl 1 59 [.sc (.int .u64 0)] 1 [(0,(.t 59))]),aO 61 (.app 1 59 8 (.t 58) (.t 60)),fA 62 0 5,sT 1 62 61])))))))
 (.reg [0,77,0,2,3,4,5,6,7] [
 mT 26 7,uF 27 26 1,mT 7 27]))))))
 (.seq (.seq (.reg [0,77,0,2,3,4,5,6] [
 mT 63 6])
 (.cond (.t 63)
 (.reg [0,77,0,2,3,4,5] [
 fA 64 2 3,lF 65 1 64,mT 66 4,aO 67 (.bsl 1 3 [zI] 1 [(0,(.t 66))]),aO 68 (.app 1 3 8 (.t 65) (.t 67)),fA 69 2 3,sT 1 69 68])
 .skip))
 (.reg [0,77,0,2,3,4,5] [
 fA 70 0 3,lF 71 1 70,uE 72 1 5,aO 73 (.bsl 1 65 [.nil] 1 [(0,(.t 72))]),aO 74 (.app 1 65 24 (.t 71) (.t 73)),fA 75 0 3,sT 1 75 74]))))))
 (.reg [0,77,0,2,3,4] [
 mT 15 4,uF 16 15 1,mT 4 16]))))))
 (.seq (.reg [0,77,2,3] [
 uE 76 3 3,sT 3 2 76])
 .ret))))
def rv21:List RV:=[.cell 2 true 3]
theorem ok21:fnOk Tryz.prog ac21 rv21 Tryz.f21=true:=by kernel_rfl

def ac23:AC:=
 (.seq (.reg [0,70,0,1] [
 xT 3 1,aO 4 (.alc [.nil,zI])])
 (.seq (.seq (.drw [0,70,0,3,4] [
 eF 6 (.fa 0 (.t 3)),eF 7 (.ld false 1 (.t 6)),eF 8 (.cmp .lss .i64 (.t 7) (kI 0)),eF 9 (.mv (.t 8)),uC 10 9 (.fa 0 (.t 3)),uC 11 9 (.ld false 1 (.t 10)),uC 12 9 (.mv (.t 0)),uC 13 9 (.len (.t 12)),⟨uA 14 9 (.cmp .geq .i64 (.t 11) (.t 13)),[],[],false⟩,eF 15 (uG 9 14),eF 16 (.mv (.t 15)),⟨uA 17 16 (.fa 1 (.t 3)),[],[],false⟩,⟨uA 18 16 (.ld false 1 (.t 17)),[],[],false⟩,⟨uA 19 16 (.cmp .lss .i64 (.t 18) (kI 0)),[],[],false⟩,eF 20 (uG 16 19),eF 21 (.mv (.t 20)),uC 22 21 (.fa 1 (.t 3)),uC 23 21 (.ld false 1 (.t 22)),uC 24 21 (.mv (.t 0)),uC 25 21 (.fa 0 (.t 3)),uC 26 21 (.ld false 1 (.t 25)),uC 27 21 (.ixs 1 (.t 24) (.t 26)),uC 28 21 (.fa 0 (.t 27)),uC 29 21 (.ld false 1 (.t 28)),uC 30 21 (.len (.t 29)),⟨uA 31 21 (.cmp .geq .i64 (.t 23) (.t 30)),[],[],false⟩,eF 32 (uG 21 31),eF 33 (.mv (.t 32)),⟨uA 34 33 (.fa 2 (.t 3)),[],[],false⟩,⟨uA 35 33 (.ld false 1 (.t 34)),[],[],false⟩,⟨uA 36 33 (.cmp .lss .i64 (.t 35) (kI 0)),[],[],false⟩,eF 37 (uG 33 36),eF 38 (.mv (.t 37)),⟨uA 39 38 (.fa 2 (.t 3)),[],[],false⟩,⟨uA 40 38 (.ld false 1 (.t 39)),[],[],false⟩,⟨uA 41 38 (.cmp .gtr .i64 (.t 40) (kI 63)),[],[],false⟩,eF 42 (uG 38 41)])
 (.cut [0,70,0,3,4,42] (.cond (.t 42)
 (.seq (.reg [0,70,4] [
 aO 43 (.bld [.nil,zI] [(1,1,(kI 1))]),sT 2 4 43])
 .ret)
 .skip)))
 (.seq (.reg [0,70,0,3,4] [
 mT 44 0,aO 45 (.clm 49 [(.t 44)]),mT 5 45])
 (.seq (.drw [0,70,3,4,5] [
 eM 46 5,eA 47 0 3,eL 48 1 47,eI 49 1 46 48,eA 50 0 49,eL 51 1 50,eA 52 1 3,eL 53 1 52,eM 54 5,eA 55 0 3,eL 56 1 55,eI 57 1 54 56,eA 58 0 57,eL 59 1 58,eA 60 1 3,eL 61 1 60,eI 62 1 59 61,eL 63 1 62,eA 64 2 3,eL 65 1 64,eT 66 (.cal 50 [(.t 63),(.t 65)]),eF 67 (.ixs 1 (.t 51) (.t 53)),⟨sT 1 67 66,[],[],false⟩])
 (.seq (.wk (.reg [0,70,4,5] [
 mT 68 5,aO 69 (.bld [.nil,zI] [(0,1,(.t 68))]),sT 2 4 69]))
 .ret)))))
def rv23:List RV:=[.cell 4 true 2]
theorem ok23:fnOk Tryz.prog ac23 rv23 Tryz.f23=true:=by kernel_rfl

def ac26:AC:=
 (.seq (.reg [0,48,0] [
 aO 2 (.mv (.c (.sc (.int .u64 0))))])
 (.seq (.reg [0,48,0] [
 mT 6 0,nT 7 6,aO 8 (.bsl 1 3 [zI] 1 [(0,(.t 7))]),mT 3 8])
 (.seq (.seq (.reg [0,48,0,3] [
 mK 4 0])
 (.block 0
 (.loop [0,48,0,3,4]
 (.seq (.seq (.reg [0,48,0,3,4] [
 mT 9 4,mT 10 0,nT 11 10,lS 12 9 11])
 (.cond (.t 12)
 .skip
 (.exit 0)))
 (.seq (.block 1
 (.seq (.reg [0,48,0,3,4] [
 mT 15 3,mT 16 0,mT 17 4,iX 18 1 16 17,fA 19 0 18,lF 20 1 19,nT 21 20,aO 22 (.bsl 1 3 [zI] 1 [(0,(.t 21))]),aO 23 (.app 1 3 8 (.t 15) (.t 22)),mT 3 23])
 (.seq (.reg [0,48,0,3,4] [
 mK 5 0])
 (.block 2
 (.loop [0,48,0,3,4,5]
 (.seq (.seq (.reg [0,48,0,3,4,5] [
 mT 24 5,mT 25 0,mT 26 4,iX 27 1 25 26,fA 28 0 27,lF 29 1 28,nT 30 29,lS 31 24 30])
 (.cond (.t 31)
 .skip
 (.exit 2)))
 (.seq (.block 3
 (.reg [0,48,0,3,4,5] [
 mT 34 3,mT 35 0,mT 36 4,iX 37 1 35 36,fA 38 0 37,lF 39 1 38,mT 40 5,iX 41 1 39 40,lF 42 1 41,aO 43 (.cnv false .i64 (.t 42)),aO 44 (.bsl 1 3 [zI] 1 [(0,(.t 43))]),aO 45 (.app 1 3 8 (.t 34) (.t 44)),mT 3 45]))
 (.reg [0,48,0,3,4,5] [
 mT 32 5,uF 33 32 1,mT 5 33]))))))))
 (.reg [0,48,0,3,4] [
 mT 13 4,uF 14 13 1,mT 4 14]))))))
 (.seq (.reg [0,48,3] [
 mT 46 3,aO 47 (.cal 53 [(.t 46)]),mT 2 47])
 .ret))))
def rv26:List RV:=[.tmp 2]
theorem ok26:fnOk Tryz.prog ac26 rv26 Tryz.f26=true:=by kernel_rfl

def ac53:AC:=
 (.seq (.reg [0,23,0] [
 aO 2 (.mv (.c (.sc (.int .u64 0))))])
 (.seq (.reg [0,23,0] [
 aO 3 (.mv (.c (.sc (.int .u64 512970876019))))])
 (.seq (.seq (.reg [0,23,0,3] [
 mK 4 0])
 (.block 0
 (.loop [0,23,0,3,4]
 (.seq (.seq (.reg [0,23,0,3,4] [
 mT 5 4,mT 6 0,nT 7 6,lS 8 5 7])
 (.cond (.t 8)
 .skip
 (.exit 0)))
 (.seq (.block 1
 (.reg [0,23,0,3,4] [
 mT 11 3,mT 12 0,mT 13 4,iX 14 1 12 13,lF 15 1 14,aO 16 (.cnv false .u64 (.t 15)),aO 17 (.cal 76 [(.t 11),(.t 16)]),mT 3 17]))
 (.reg [0,23,0,3,4] [
 mT 9 4,uF 10 9 1,mT 4 10]))))))
 (.seq (.reg [0,23,0,3] [
 mT 18 3,mT 19 0,nT 20 19,aO 21 (.cnv false .u64 (.t 20)),aO 22 (.cal 76 [(.t 18),(.t 21)]),mT 2 22])
 .ret))))
def rv53:List RV:=[.tmp 2]
theorem ok53:fnOk Tryz.prog ac53 rv53 Tryz.f53=true:=by kernel_rfl

def ac76:AC:=
 (.seq (.reg [0,17,0,1] [
 aO 4 (.mv (.c (.sc (.int .u64 0))))])
 (.seq (.reg [0,17,0,1] [
 mT 7 0,mT 8 1,aO 9 (.bit .xor .u64 (.t 7) (.t 8)),aO 10 (.ari .mul false .u64 (.t 9) (.c (.sc (.int .u64 15485907386658061715)))),mT 5 10])
 (.seq (.reg [0,17,5] [
 mT 11 5,mT 12 5,aO 13 (.shf .shr .u64 (.t 12) (.c (.sc (.int .u64 32)))),aO 14 (.bit .xor .u64 (.t 11) (.t 13)),mT 6 14])
 (.seq (.reg [0,17,6] [
 mT 15 6,aO 16 (.ari .mul false .u64 (.t 15) (.c (.sc (.int .u64 11562461410679940143)))),mT 4 16])
 .ret))))
def rv76:List RV:=[.tmp 4]
theorem ok76:fnOk Tryz.prog ac76 rv76 Tryz.f76=true:=by kernel_rfl

def ac16:AC:=
 (.seq (.reg [0,31,0,1] [
 xT 2 0,mK 4 0])
 (.seq (.seq (.reg [0,31,1,2] [
 mT 6 1,aO 7 (.cmp .lss .i64 (.t 6) (kI 0)),mT 8 7,uA 9 8 (.mv (.t 1)),uA 10 8 (.ld true 5 (.t 2)),uA 11 8 (.cal 41 [(.t 10)]),uA 12 8 (.cmp .geq .i64 (.t 9) (.t 11)),aO 13 (uG 8 12)])
 (.cut [0,31,1,2,13] (.cond (.t 13)
 (.seq (.reg [0,31] [
 mK 4 (-1)])
 .ret)
 .skip)))
 (.seq (.reg [0,31,1,2] [
 mT 14 1,uE 15 5 2,aO 16 (.cal 42 [(.t 15)]),aO 17 (.dvd .quo true .i64 (.t 14) (.t 16)),mT 5 17])
 (.seq (.seq (.reg [0,31,2,5] [
 mT 18 5,fA 19 0 2,lF 20 1 19,fA 21 1 2,lF 22 1 21,aO 23 (.ari .mul true .i64 (.t 20) (.t 22)),aO 24 (.cmp .geq .i64 (.t 18) (.t 23))])
 (.cond (.t 24)
 (.seq (.reg [0,31,2] [
 fA 25 0 2,lF 26 1 25,mT 4 26])
 .ret)
 .skip))
 (.seq (.reg [0,31,2,5] [
 mT 27 5,fA 28 0 2,lF 29 1 28,aO 30 (.dvd .rem true .i64 (.t 27) (.t 29)),mT 4 30])
 .ret)))))
def rv16:List RV:=[.tmp 4]
theorem ok16:fnOk Tryz.prog ac16 rv16 Tryz.f16=true:=by kernel_rfl
end Go.Proofs.YtecoaapkcnhlhaaGreatDoor.Txt
namespace Go.Proofs.YtecoaapkcnhlhaaGreatDoor
open Go Go.Vc Go.Ham Txt
set_option maxHeartbeats 1000000 in
theorem qKF(l:List (List Nat))(hl:FrmSm l)(f:FlipA):FnEq Tryz.prog 23 [.sl false 1 (rows (frmC false) l),.agg (qHw f)] (.agg (fmdC true (fldF l f) (fldE l f))):=by
 have hn:=hl.n
 have hP:Perm (.agg (fmdC true (fldF l f) (fldE l f))):=by simp only[push_cast,reduceIte,zA,zB,zC,zD,zE,zF,zG,reduceCtorEq,zH,zJ,cNI];simp
 refine FnEq.of_awp Tryz.func23 ok23 (by show 2<=_;decide) hP ?_
 simp only[ac23,rv23,push_cast,reduceIte,zA,zB,zC,zD,zE,zF,zG,reduceCtorEq,zH,zJ,cNI]
 refine qrI ⟨[(0,.sl false 1 (rows (frmC false) l)),(3,.ptr 3 0),(4,.ptr 4 0),(42,.bool (!decide (qHy l f)))],[(3,[.int f.x,.int f.k,.int f.b]),(4,[.nil,.int 0])],[],[]⟩ ?_ ?_
 ·have no: ¬qHy l f->decide (qHy l f)=false:=fun h=>decide_eq_false h
  refine qrE rfl (fun h1=> ?_) fun h1=> ?_<;>simp only[push_cast,reduceIte,zA,zB,zC,zD,zE,zF,zG,reduceCtorEq,zH,zJ,cNI]
  ·rw[no fun h=>by have:=h.1;omega];rfl
  first|(refine qrE rfl (fun h2=> ?_) fun h2=> ?_<;>simp only[push_cast,reduceIte,zA,zB,zC,zD,zE,zF,zG,reduceCtorEq,zH,zJ,cNI])|(refine qrA rfl (fun h2=> ?_) fun h2=> ?_<;>simp only[push_cast,reduceIte,zA,zB,zC,zD,zE,zF,zG,reduceCtorEq,zH,zJ,cNI])
  ·rw[no fun h=>by have:=h.2.1;omega];rfl
  first|(refine qrE rfl (fun h3=> ?_) fun h3=> ?_<;>simp only[push_cast,reduceIte,zA,zB,zC,zD,zE,zF,zG,reduceCtorEq,zH,zJ,cNI])|(refine qrA rfl (fun h3=> ?_) fun h3=> ?_<;>simp only[push_cast,reduceIte,zA,zB,zC,zD,zE,zF,zG,reduceCtorEq,zH,zJ,cNI])
  ·rw[no fun h=>by have:=h.2.2.1;omega];rfl
  have hx:f.x.toNat<l.length:=by omega
  simp only[qF0,push_cast,reduceIte,zA,zB,zC,zD,zE,zF,zG,reduceCtorEq,zH,zJ,cNI]
  refine⟨⟨oM,oM⟩,hx,?_⟩
  first|(refine qrE rfl (fun h4=> ?_) fun h4=> ?_<;>simp only[push_cast,reduceIte,zA,zB,zC,zD,zE,zF,zG,reduceCtorEq,zH,zJ,cNI])|(refine qrA rfl (fun h4=> ?_) fun h4=> ?_<;>simp only[push_cast,reduceIte,zA,zB,zC,zD,zE,zF,zG,reduceCtorEq,zH,zJ,cNI])
  ·rw[no fun h=>by have h5:f.k<(l.getD f.x.toNat default).length:=h.2.2.2.1;omega];rfl
  first|(refine qrE rfl (fun h5=> ?_) fun h5=> ?_<;>simp only[push_cast,reduceIte,zA,zB,zC,zD,zE,zF,zG,reduceCtorEq,zH,zJ,cNI])|(refine qrA rfl (fun h5=> ?_) fun h5=> ?_<;>simp only[push_cast,reduceIte,zA,zB,zC,zD,zE,zF,zG,reduceCtorEq,zH,zJ,cNI])
  ·rw[no fun h=>by have:=h.2.2.2.2.1;omega];rfl
  have e:decide (63<f.b)= !decide (qHy l f):=by
   by_cases h6:63<f.b
   ·rw[decide_eq_true h6,no fun h=>by have:=h.2.2.2.2.2;omega];rfl
   ·rw[decide_eq_false h6,decide_eq_true (show qHy l f from⟨oM,oM,oM,by show f.k<(l.getD f.x.toNat default).length;omega,oM,oM⟩)];rfl
  rw[e]
 ·refine qnX (fun h=> ?_) fun h=> ?_
  ·have hf: ¬qHy l f:=by simpa using h
   unfold fldF fldE
   rw[if_neg hf,if_neg hf]
   simp only[rows,List.map_nil,push_cast,reduceIte,zA,zB,zC,zD,zE,zF,zG,reduceCtorEq,zH,zJ,cNI]
  ·have hf:qHy l f:=by simpa using h
   unfold fldF fldE
   rw[if_pos hf,if_pos hf]
   obtain⟨q1,q2,q3,q4,q5,q6⟩:=hf
   refine sB ?_
   refine qDP [1005] (naK l.length) (qJX false l hl) rfl rfl (qKD l) ?_
   have hx:f.x.toNat<l.length:=by omega
   obtain⟨x,hxe⟩: ∃x,x=f.x.toNat:=⟨_,rfl⟩
   obtain⟨k,hke⟩: ∃k,k=f.k.toNat:=⟨_,rfl⟩
   obtain⟨b,hbe⟩: ∃b,b=f.b.toNat:=⟨_,rfl⟩
   have hfb:f.b=(b:Int):=by omega
   have hkl:k<(l.getD x []).length:=by rw[<- hxe]at q4;omega
   have hb64:b<64:=by omega
   have hmem:l.getD x []∈l:=by rw[zK,zL oM];exact List.getElem_mem _
   have hw:(l.getD x []).getD k 0<2^64:=by
    rw[zK,zL hkl]
    exact hl.ok _ hmem _ (List.getElem_mem _)
   rw[<- hxe,<- hke,<- hbe,hfb]
   rw[<- hxe]at hx
   have hcl:(qB0 3000 (rsW l)).length=l.length:=by rw[qB2,qH2]
   simp only[List.cons_append,List.nil_append,<- hxe,<- hke,Nat.mul_one,qFh (qB0 3000 (rsW l)),hcl,qH6 hx,qH7 hx,qF0,qFG,push_cast,reduceIte,zA,zB,zC,zD,zE,zF,zG,reduceCtorEq,zH,zJ,cNI]
   refine⟨oM,oM,oM,oM,oM,hkl,?_⟩
   refine qqU (qKp _ b hw hb64) rfl ?_
   have hdef:qHd l x k b=l.set x ((l.getD x []).set k ((l.getD x []).getD k 0^^^2^b)):=rfl
   simp only[qH7 hx,qF0,qFH,<- hke,qH8 hx,push_cast,reduceIte,zA,zB,zC,zD,zE,zF,zG,reduceCtorEq,zH,zJ,cNI]
   refine⟨oM,hkl,?_⟩
   rw[qHb hx (ws:=(l.getD x []).set k ((l.getD x []).getD k 0^^^2^b)) (by rw[yF]),<- hdef]
   have hfl:(qHd l x k b).length=l.length:=by rw[hdef,yF]
   refine qr9 ⟨[(4,.ptr 4 0),(5,.sl true 1 (rows (frmC true) (qHd l x k b)))],[(4,[.nil,.int 0])],[],[]⟩ (SWk.trans (SWk.dropS (fun i=>inL [4,5] i) (fun i=>inL [4,1005] i) (fun _=>true)) ?_) ?_
   ·have hfa:(qB1 1 59 3000 (rsW (qHd l x k b))).filter (fun _=>true)=qB1 1 59 3000 (rsW (qHd l x k b)):=List.filter_eq_self.2 fun _ _=>rfl
    rw[hfa]
    refine qKC 1005 [(4,.ptr 4 0),(5,.bv 1005 1 l.length)] _ [(4,[.nil,.int 0])] (qHd l x k b) rfl (fun j hj=>⟨⟨beq_false_of_ne (show 4≠j by omega),rfl⟩,⟨beq_false_of_ne (show 1005≠j by omega),rfl⟩,trivial⟩) (fun j hj=>rfl) ?_ rfl
    rw[<- qH9]
    simp only[zW,List.map_nil,PV.fbV,PV.fbA,PV.fb,if_true,yG,qH2,hfl,and_self]
    rfl
   ·refine sB ?_
    exact fun _ _ _ _=>trivial
end Go.Proofs.YtecoaapkcnhlhaaGreatDoor
namespace Go.Proofs.YtecoaapkcnhlhaaGreatDoor.Txt
open Go Go.Vc
set_option maxRecDepth 100000
def ac17:AC:=
 (.seq (.reg [0,53,0,1] [
 aO 4 (.mv (.c (.nil)))])
 (.seq (.reg [0,53,0,1] [
 mT 8 0,aO 9 (.cal 43 [(.t 8)]),mT 5 9])
 (.seq (.seq (.reg [0,53,0,1,5] [
 mK 6 0])
 (.block 0
 (.loop [0,53,0,1,5,6]
 (.seq (.seq (.reg [0,53,0,1,5,6] [
 mT 10 6,mT 11 1,nT 12 11,lS 13 10 12,mT 14 13,uB 15 14 (.mv (.t 6)),uB 16 14 (.cmp .lss .i64 (.t 15) (kI 12)),aO 17 (pF 14 16),mT 18 17,uB 19 18 (.mv (.t 5)),uB 20 18 (.len (.t 19)),uB 21 18 (.cmp .gtr .i64 (.t 20) (kI 0)),aO 22 (pF 18 21)])
 (.cut [0,53,0,1,5,6,22] (.cond (.t 22)
 .skip
 (.exit 0))))
 (.seq (.block 1
 (.seq (.reg [0,53,0,1,5,6] [
 mT 25 5,mT 26 1,mT 27 6,iX 28 3 26 27,aO 29 (.ixa 3 1 (.t 28) (kI 0)),lF 30 1 29,aO 31 (.cnv true .i64 (.t 30)),mT 32 5,nT 33 32,aO 34 (.dvd .rem true .i64 (.t 31) (.t 33)),iX 35 2 25 34,uE 36 2 35,aO 7 (.alc [zI,zI]),sT 2 7 36])
 (.drw [0,53,0,1,5,6,7] [
 eM 37 0,eT 38 (.ixa 2 1 (.t 7) (kI 0)),eL 39 1 38,eT 40 (.ixa 2 1 (.t 7) (kI 1)),eL 41 1 40,eM 42 1,eM 43 6,eI 44 3 42 43,eT 45 (.ixa 3 1 (.t 44) (kI 1)),eL 46 1 45,eT 47 (.dvd .rem true .u8 (.t 46) (.c (.sc (.int .u8 64)))),eT 48 (.cnv true .i64 (.t 47)),eT 49 (.bld [zI,zI,zI] [(0,1,(.t 39)),(1,1,(.t 41)),(2,1,(.t 48))]),eF 50 (.cal 23 [(.t 37),(.t 49)]),eF 51 (.fl false 0 1 (.t 50)),eF 0 (.mv (.t 51))])))
 (.reg [0,53,0,1,5,6] [
 mT 23 6,uF 24 23 1,mT 6 24]))))))
 (.seq (.reg [0,53,0] [
 mT 52 0,mT 4 52])
 .ret))))
def rv17:List RV:=[.tmp 4]
theorem ok17:fnOk Tryz.prog ac17 rv17 Tryz.f17=true:=by kernel_rfl
end Go.Proofs.YtecoaapkcnhlhaaGreatDoor.Txt
namespace Go.Proofs.YtecoaapkcnhlhaaGreatDoor
open Go Go.Vc Go.Ham Txt
theorem qKG{l:List (List Nat)}(h:FrmSm l)(f:FlipA):FrmSm (fldF l f):=by
 unfold fldF
 split
 ·next hf=>
  obtain⟨q1,q2,q3,q4,q5,q6⟩:=hf
  exact h.flip ⟨oM,oM⟩ oM
 ·exact⟨fun _ h=>absurd h (by simp),by simp,fun _ h=>absurd h (by simp)⟩
def spF(sp:List (Nat×Nat))(k:Int×Int×Int):FlipA:=⟨((sp.getD (k.1%sp.length).toNat default).1:Nat),((sp.getD (k.1%sp.length).toNat default).2:Nat),k.2.1%64⟩
def spoK(l:List (List Nat))(sp:List (Nat×Nat))(K:List (Int×Int×Int))(i:Nat):List (List Nat):=(K.take i).foldl (fun l k=>fldF l (spF sp k)) l
def spoI(sp:List (Nat×Nat))(K:List (Int×Int×Int)):Nat:=if sp.length=0 then 0 else min 12 K.length
def spoF(l:List (List Nat))(K:List (Int×Int×Int)):List (List Nat):=spoK l (qGL l) K (spoI (qGL l) K)
theorem qKH{l:List (List Nat)}(h:FrmSm l)(sp:List (Nat×Nat))(K:List (Int×Int×Int)): ∀i,FrmSm (spoK l sp K i)
 |0=>h
 | i + 1 => by
   by_cases hi:i<K.length
   ·unfold spoK
    rw[List.take_add_one,zL hi,List.foldl_append]
    exact qKG (qKH h sp K i) _
   ·have:=qKH h sp K i
    unfold spoK at this ⊢
    rw[zY oM]at this ⊢
    exact this
theorem qKI(l:List (List Nat))(sp:List (Nat×Nat))(K:List (Int×Int×Int)){i:Nat}(h:i<K.length):spoK l sp K (i+1)=fldF (spoK l sp K i) (spF sp (K.getD i default)):=by
 unfold spoK
 rw[List.take_add_one,zL h,List.foldl_append,zK,zL h]
 rfl
theorem qKJ(l:List (List Nat))(hl:FrmSm l)(K:List (Int×Int×Int))(hK:K.length<=1000)(hKb: ∀k∈K,(0<=k.1/\k.1<=255)/\0<=k.2.1/\k.2.1<=255):FnEq Tryz.prog 17 [.sl true 1 (rows (frmC true) l),.sl false 3 (rows k3C K)] (.sl true 1 (rows (frmC true) (spoF l K))):=by
 have hsp:=qGO l hl
 have hspl:(qGL l).length<=1000*l.length:=qGN hl _ (Nat.le_refl _)
 have hln:=hl.n
 refine FnEq.of_awp Tryz.func17 ok17 (by show 2<=_;decide) (by simp only[push_cast,reduceIte,zA,zB,zC,zD,zE,zF,zG,reduceCtorEq,zH,zJ,cNI];simp) ?_
 unfold spoF
 have hsm:=qKH hl (qGL l) K
 have hsu:=fun {i} =>qKI l (qGL l) K (i:=i)
 have hs0:spoK l (qGL l) K 0=l:=rfl
 simp only[ac17,rv17,push_cast,reduceIte,zA,zB,zC,zD,zE,zF,zG,reduceCtorEq,zH,zJ,cNI]
 refine qrv hsp (by exact⟨qJ8 true l,trivial⟩) ?_
 refine sB ?_
 generalize qGL l=sp at *
 have hIl:spoI sp K<=12:=by unfold spoI;split<;>omega
 have hIk:spoI sp K<=K.length:=by unfold spoI;split<;>omega
 have hIe: ∀i,i<=spoI sp K->(i<spoI sp K ↔ (i<K.length/\i<12/\0<sp.length)):=by intro i _;unfold spoI;split<;>omega
 generalize spoI sp K=I at *
 refine qoP (fun m st=> ∃i:Nat,i<=I/\m=I-i/\st=⟨[(0,.sl true 1 (rows (frmC true) (spoK l sp K i))),(1,.sl false 3 (rows k3C K)),(5,.sl true 2 (rows spC sp)),(6,.int i)],[],[],[]⟩) I ⟨0,oM,oM,by simp only[push_cast,reduceIte,zA,zB,zC,zD,zE,zF,zG,reduceCtorEq,zH,zJ,cNI];rfl⟩ ?_
 rintro m st ⟨i,hi,rfl,rfl⟩
 refine sB ?_
 refine qrH ⟨[(0,.sl true 1 (rows (frmC true) (spoK l sp K i))),(1,.sl false 3 (rows k3C K)),(5,.sl true 2 (rows spC sp)),(6,.int i),(22,.bool (decide (i<I)))],[],[],[]⟩ ?_ ?_
 ·refine qrz rfl (fun h3=> ?_) fun h3=> ?_<;>simp only[push_cast,reduceIte,zA,zB,zC,zD,zE,zF,zG,reduceCtorEq,zH,zJ,cNI]
  ·refine qrz rfl (fun h4=> ?_) fun h4=> ?_<;>simp only[push_cast,reduceIte,zA,zB,zC,zD,zE,zF,zG,reduceCtorEq,zH,zJ,cNI]
   ·rw[show decide (i<I)=decide (0<(sp.length:Int))from decide_eq_decide.2 (by rw[hIe i hi];omega)]
   ·rw[decide_eq_false (fun h=>by have:=(hIe i hi).1 h;omega)]
  ·rw[decide_eq_false (fun h=>by have:=(hIe i hi).1 h;omega)]
 ·refine sB ?_
  refine qnY (fun h3=> ?_) fun h3=> ?_
  ·obtain⟨h4,h5,h6⟩:=(hIe i hi).1 oM
   have hkm:K.getD i default∈K:=by rw[zK,zL h4];exact List.getElem_mem h4
   obtain⟨⟨b1,b2⟩,b3,b4⟩:=hKb _ hkm
   have hfl:=qKF (spoK l sp K i) (hsm i) (spF sp (K.getD i default))
   rw[<- hsu h4]at hfl
   unfold spF at hfl
   generalize K.getD i default=k at *
   have hm1:=Int.emod_nonneg k.1 (show(sp.length:Int)≠0 by omega)
   have hm2:=Int.emod_lt_of_pos k.1 (show 0<(sp.length:Int)by omega)
   refine⟨oM,oM,h4,oM,oM,oM,oM,oM,oM,oM,oM,h4,oM,oM,?_⟩
   refine qrv hfl (by exact⟨qJ8 true _,.refl _,trivial⟩) ?_
   refine sB ?_
   exact⟨oM,I-(i+1),oM,i+1,oM,rfl,rfl⟩
  ·obtain rfl:i=I:=by omega
   exact⟨fun _ _ _ _=>trivial,.refl _⟩
end Go.Proofs.YtecoaapkcnhlhaaGreatDoor
namespace Go.Proofs.YtecoaapkcnhlhaaGreatDoor.Txt
open Go Go.Vc
set_option maxRecDepth 100000
def ac61:AC:=
 (.seq (.reg [0,11,0] [
 mK 2 0])
 (.seq (.reg [0,11,0] [
 mK 3 0])
 (.seq (.block 0
 (.loop [0,11,0,3]
 (.seq (.seq (.reg [0,11,0,3] [
 mT 4 0,aO 5 (.cmp .gtr .i64 (.t 4) (kI 0))])
 (.cond (.t 5)
 .skip
 (.exit 0)))
 (.block 1
 (.seq (.reg [0,11,0,3] [
 mT 6 0,aO 7 (.dvd .quo true .i64 (.t 6) (kI 2)),mT 0 7])
 (.reg [0,11,0,3] [
 mT 8 3,uF 9 8 1,mT 3 9]))))))
 (.seq (.reg [0,11,3] [
 mT 10 3,mT 2 10])
 .ret))))
def rv61:List RV:=[.tmp 2]
theorem ok61:fnOk Tryz.prog ac61 rv61 Tryz.f61=true:=by kernel_rfl

def ac34:AC:=
 (.seq (.reg [0,91,0] [
 xT 1 0,aO 2 (.mv (.c (.nil)))])
 (.seq (.reg [0,91,1] [
 aO 10 (.bsl 4 75 [zI,zI,zI,zI] 0 []),mT 3 10])
 (.seq (.reg [0,91,1,3] [
 uE 11 5 1,aO 12 (.cal 42 [(.t 11)]),mT 4 12])
 (.seq (.seq (.reg [0,91,1,3,4] [
 mK 5 0])
 (.block 0
 (.loop [0,91,1,3,4,5]
 (.seq (.seq (.reg [0,91,1,3,4,5] [
 mT 13 5,fA 14 0 1,lF 15 1 14,lS 16 13 15])
 (.cond (.t 16)
 .skip
 (.exit 0)))
 (.seq (.block 1
 (.seq (.reg [0,91,1,3,4,5] [
 mK 6 0])
 (.block 2
 (.loop [0,91,1,3,4,5,6]
 (.seq (.seq (.reg [0,91,1,3,4,5,6] [
 mT 19 6,fA 20 1 1,lF 21 1 20,lS 22 19 21])
 (.cond (.t 22)
 .skip
 (.exit 2)))
 (.seq (.block 3
 (.seq (.reg [0,91,1,3,4,5,6] [
 mT 25 6,fA 26 0 1,lF 27 1 26,aO 28 (.ari .mul true .i64 (.t 25) (.t 27)),mT 29 5,aO 30 (.ari .add true .i64 (.t 28) (.t 29)),mT 7 30])
 (.seq (.seq (.reg [0,91,1,3,4,5,6,7] [
 mT 31 7,mT 32 4,aO 33 (.ari .mul true .i64 (.t 31) (.t 32)),mT 8 33])
 (.block 4
 (.loop [0,91,1,3,4,5,6,7,8]
 (.seq (.seq (.reg [0,91,1,3,4,5,6,7,8] [
 mT 34 8,mT 35 7,uF 36 35 1,mT 37 4,aO 38 (.ari .mul true .i64 (.t 36) (.t 37)),lS 39 34 38])
 (.cond (.t 39)
 .skip
 (.exit 4)))
 (.seq (.block 5
 (.reg [0,91,1,3,4,5,6,7,8] [
 mT 42 3,mT 43 5,mT 44 8,uE 45 5 1,mT 46 8,aO 47 (.cal 56 [(.t 45),(.t 46)]),nT 48 47,aO 49 (.cal 61 [(.t 48)]),aO 50 (.bld [zI,zI,zI,zI] [(0,1,(.t 43)),(1,1,(kI 0)),(2,1,(.t 44)),(3,1,(.t 49))]),aO 51 (.bsl 4 75 [zI,zI,zI,zI] 1 [(0,(.t 50))]),aO 52 (.app 4 75 32 (.t 42) (.t 51)),mT 3 52]))
 (.reg [0,91,1,3,4,5,6,7,8] [
 mT 40 8,uF 41 40 1,mT 8 41]))))))
 (.reg [0,91,1,3,4,5,6,7] [
 mT 53 3,mT 54 5,mT 55 7,aO 56 (.bld [zI,zI,zI,zI] [(0,1,(.t 54)),(1,1,(kI 1)),(2,1,(.t 55)),(3,1,(kI 2))]),mT 57 5,mT 58 7,aO 59 (.bld [zI,zI,zI,zI] [(0,1,(.t 57)),(1,1,(kI 2)),(2,1,(.t 58)),(3,1,(kI 16))]),mT 60 5,mT 61 7,aO 62 (.bld [zI,zI,zI,zI] [(0,1,(.t 60)),(1,1,(kI 3)),(2,1,(.t 61)),(3,1,(kI 8))]),aO 63 (.bsl 4 75 [zI,zI,zI,zI] 3 [(0,(.t 56)),(1,(.t 59)),(2,(.t 62))]),aO 64 (.app 4 75 32 (.t 53) (.t 63)),mT 3 64]))))
 (.reg [0,91,1,3,4,5,6] [
 mT 23 6,uF 24 23 1,mT 6 24])))))))
 (.reg [0,91,1,3,4,5] [
 mT 17 5,uF 18 17 1,mT 5 18]))))))
 (.seq (.seq (.reg [0,91,1,3,4] [
 fA 65 0 1,lF 66 1 65,fA 67 1 1,lF 68 1 67,aO 69 (.ari .mul true .i64 (.t 66) (.t 68)),mT 70 4,aO 71 (.ari .mul true .i64 (.t 69) (.t 70)),mT 9 71])
 (.block 6
 (.loop [0,91,1,3,9]
 (.seq (.seq (.reg [0,91,1,3,9] [
 mT 72 9,uE 73 5 1,aO 74 (.cal 41 [(.t 73)]),lS 75 72 74])
 (.cond (.t 75)
 .skip
 (.exit 6)))
 (.seq (.block 7
 (.drw [0,91,1,3,9] [
 eU 78 (.mv (.t 3)) [] [88],eA 79 0 1,eL 80 1 79,eM 81 9,eT 82 (.ld true 5 (.t 1)),eM 83 9,eT 84 (.cal 56 [(.t 82),(.t 83)]),eT 85 (.len (.t 84)),eT 86 (.cal 61 [(.t 85)]),eT 87 (.bld [zI,zI,zI,zI] [(0,1,(.t 80)),(1,1,(kI 0)),(2,1,(.t 81)),(3,1,(.t 86))]),eU 88 (.bsl 4 75 [zI,zI,zI,zI] 1 [(0,(.t 87))]) [88] [],eF 89 (.app 4 75 32 (.t 78) (.t 88)),eF 3 (.mv (.t 89))]))
 (.reg [0,91,1,3,9] [
 mT 76 9,uF 77 76 1,mT 9 77]))))))
 (.seq (.reg [0,91,3] [
 mT 90 3,mT 2 90])
 .ret))))))
def rv34:List RV:=[.tmp 2]
theorem ok34:fnOk Tryz.prog ac34 rv34 Tryz.f34=true:=by kernel_rfl

def ac39:AC:=
 (.seq (.reg [0,6,0] [
 mK 2 0])
 (.seq (.reg [0,6,0] [
 mT 3 0,uF 4 3 56,aO 5 (.dvd .quo true .i64 (.t 4) (kI 57)),mT 2 5])
 .ret))
def rv39:List RV:=[.tmp 2]
theorem ok39:fnOk Tryz.prog ac39 rv39 Tryz.f39=true:=by kernel_rfl

def ac35:AC:=
 (.seq (.reg [0,37,0,1] [
 xT 2 0,xT 3 1,mK 4 0])
 (.seq (.seq (.reg [0,37,2,3] [
 fA 5 1 3,lF 6 1 5])
 (.block 0
 (.seq (.reg [0,37,2,3,6] [
 eK 8 6 0,mT 7 8])
 (.cond (.t 7)
 (.seq (.reg [0,37,2,3] [
 fA 9 0 2,lF 10 1 9,fA 11 2 3,lF 12 1 11,iX 13 1 10 12,lF 14 1 13,mT 4 14])
 .ret)
 (.seq (.reg [0,37,2,3,6] [
 eK 16 6 1,mT 15 16])
 (.cond (.t 15)
 (.seq (.reg [0,37,2,3] [
 fA 17 1 2,lF 18 1 17,fA 19 2 3,lF 20 1 19,iX 21 1 18 20,lF 22 1 21,mT 4 22])
 .ret)
 (.seq (.reg [0,37,2,3,6] [
 eK 24 6 2,mT 23 24])
 (.cond (.t 23)
 (.seq (.reg [0,37,2,3] [
 fA 25 2 2,lF 26 1 25,fA 27 2 3,lF 28 1 27,iX 29 1 26 28,lF 30 1 29,mT 4 30])
 .ret)
 .skip))))))))
 (.seq (.reg [0,37,2,3] [
 fA 31 3 2,lF 32 1 31,fA 33 2 3,lF 34 1 33,iX 35 1 32 34,lF 36 1 35,mT 4 36])
 .ret)))
def rv35:List RV:=[.tmp 4]
theorem ok35:fnOk Tryz.prog ac35 rv35 Tryz.f35=true:=by kernel_rfl
end Go.Proofs.YtecoaapkcnhlhaaGreatDoor.Txt
namespace Go.Proofs.YtecoaapkcnhlhaaGreatDoor
open Go Go.Vc Go.Ham Txt
theorem qKK{v:Nat}(h:v≠0)(h2:v<2^62):Go.Lib.bitLen v=Go.Lib.bitLen (v/2)+1:=by
 have e:Go.Lib.bitLenAux 64 (v/2)=Go.Lib.bitLenAux 63 (v/2):=Go.Lib.bitLenAux_fuel 63 (v/2) oM 64 oM
 show Go.Lib.bitLenAux 64 v=Go.Lib.bitLenAux 64 (v/2)+1
 rw[e]
 show(if v=0 then 0 else 1+Go.Lib.bitLenAux 63 (v/2))=_
 rw[if_neg h,Nat.add_comm]
theorem qKL(n:Nat)(hn:n<2^62):FnEq Tryz.prog 61 [.int n] (.int (Go.Lib.bitLen n:Nat)):=by
 refine FnEq.of_awp Tryz.func61 ok61 (by show 1<=_;decide) (by simp only[push_cast,reduceIte,zA,zB,zC,zD,zE,zF,zG,reduceCtorEq,zH,zJ,cNI]<;>first|exact fun _ _=>trivial|simp) ?_
 simp only[ac61,rv61,push_cast,reduceIte,zA,zB,zC,zD,zE,zF,zG,reduceCtorEq,zH,zJ,cNI]
 refine qoP (fun m st=> ∃k v:Nat,m=v/\v<=n/\k+Go.Lib.bitLen v=Go.Lib.bitLen n/\k+v<=n/\st=⟨[(0,.int v),(3,.int k)],[],[],[]⟩) n ⟨0,n,rfl,oM,oM,oM,rfl⟩ ?_
 rintro v st ⟨k,_,rfl,hv,hk,hkv,rfl⟩
 refine sB ?_
 refine qnY (fun h=> ?_) fun h=> ?_
 ·have hb:=qKK (show v≠0 by omega) oM
  exact⟨oM,oM,v/2,oM,k+1,v/2,rfl,oM,oM,oM,rfl⟩
 ·obtain rfl:v=0:=by omega
  have:Go.Lib.bitLen 0=0:=rfl
  rw[show k=Go.Lib.bitLen n by omega]
def fldR(f:Fld):List PV:=[.int (f.x:Nat),.int (f.kind:Nat),.int (f.i:Nat),.int (f.n:Nat)]
@[push_cast] theorem qKM(f:Fld):fldR f=[.int (f.x:Nat),.int (f.kind:Nat),.int (f.i:Nat),.int (f.n:Nat)]:=rfl
theorem qKN (c : Cfg) (f : Fld) (hk : f.kind <= 3) (hi : (f.kind = 0 -> f.i < c.sel.length) /\ (f.kind = 1 -> f.i < c.mode.length) /\ (f.kind = 2 -> f.i < c.tab.length) /\ (f.kind = 3 -> f.i < c.ram.length)) :
  FnEq Tryz.prog 35 [.agg (cfgC false c),.agg (fldR f)] (.int (cfgI c f.kind f.i)):=by
 obtain⟨i0,i1,i2,i3⟩:=hi
 unfold cfgI
 refine FnEq.of_awp Tryz.func35 ok35 (by show 2<=_;decide) (by simp only[push_cast,reduceIte,zA,zB,zC,zD,zE,zF,zG,reduceCtorEq,zH,zJ,cNI]<;>first|exact fun _ _=>trivial|simp) ?_
 simp only[ac35,rv35,push_cast,reduceIte,zA,zB,zC,zD,zE,zF,zG,reduceCtorEq,zH,zJ,cNI]
 refine qnY (fun h=> ?_) fun h=> ?_
 ·have h:f.kind=0:=by omega
  have:=i0 h
  rw[if_pos h]
  exact⟨oM,oM,rfl⟩
 rw[if_neg oM]
 refine qnY (fun h=> ?_) fun h=> ?_
 ·have h:f.kind=1:=by omega
  have:=i1 h
  rw[if_pos h]
  exact⟨oM,oM,rfl⟩
 rw[if_neg oM]
 refine qnY (fun h=> ?_) fun h=> ?_
 ·have h:f.kind=2:=by omega
  have:=i2 h
  rw[if_pos h]
  exact⟨oM,oM,rfl⟩
 rw[if_neg oM]
 have:=i3 oM
 exact⟨oM,oM,rfl⟩
theorem qKO(n:Nat)(hn:n<=1000000000):FnEq Tryz.prog 39 [.int n] (.int (nW n:Nat)):=by
 unfold nW
 refine FnEq.of_awp Tryz.func39 ok39 (by show 1<=_;decide) (by simp only[push_cast,reduceIte,zA,zB,zC,zD,zE,zF,zG,reduceCtorEq,zH,zJ,cNI]<;>first|exact fun _ _=>trivial|simp) ?_
 simp only[ac39,rv39,push_cast,reduceIte,zA,zB,zC,zD,zE,zF,zG,reduceCtorEq,zH,zJ,cNI]
 exact⟨oM,oM,rfl⟩
theorem qKQ{g:Grid}(hg:GOk g){L:List Fld}(h:L<+:qCn g):L.length<=1200000:=by
 have q:=hg.n
 have hc:=hg.count
 have h1:=h.length_le
 have h2:(qCn g).length=wN g*(hN g*(eN g+3))+(cN g-wN g*hN g*eN g):=by
  rw[qCn,zU,qDU]
  simp[qCm,qCh]
 have h3:hN g*(eN g+3)<=64*137:=Nat.mul_le_mul q.h2 (by have:=q.e2;omega)
 have h4:wN g*(hN g*(eN g+3))<=64*(64*137):=Nat.mul_le_mul q.w2 h3
 have h5:(cN g:Int)=qv2 g:=q.c
 omega
set_option maxHeartbeats 1000000 in
theorem qKR(g:Grid)(hg:GOk g):FnEq Tryz.prog 34 [.agg (quX false g)] (.sl true 4 (rows fldR (qCn g))):=by
 have q:=hg.n
 have hw:=q.w
 have hh:=q.h
 have he:=q.e
 have hc:=q.c
 have w2:=q.w2
 have h2:=q.h2
 have e2:=q.e2
 have hcnt:=hg.count
 refine FnEq.of_awp Tryz.func34 ok34 (by show 1<=_;decide) (by simp only[push_cast,reduceIte,zA,zB,zC,zD,zE,zF,zG,reduceCtorEq,zH,zJ,cNI]<;>first|exact fun _ _=>trivial|simp) ?_
 simp only[ac34,rv34,push_cast,reduceIte,zA,zB,zC,zD,zE,zF,zG,reduceCtorEq,zH,zJ,cNI]
 refine qrv (qv6 g hg) sC ?_
 refine sB ?_
 refine qoP (fun m st=> ∃x:Nat,x<=wN g/\m=wN g-x/\st=⟨[(1,.ptr 1 0),(3,.view 10 0 (qCl g x).length),(4,.int (qv1 g)),(5,.int x)],[(1,quX false g)],[(10,⟨4,75,rows fldR (qCl g x)⟩)],[]⟩) (wN g) ⟨0,oM,oM,?_⟩ ?_
 ·refine sB ?_
  rfl
 rintro m st ⟨x,hx,rfl,rfl⟩
 refine sB ?_
 refine qnY (fun h=> ?_) fun h=> ?_
 ·have hpx:=qCq g (show x<=wN g by omega)
  refine qoP (fun m st=> ∃y:Nat,y<=hN g/\m=hN g-y/\st=⟨[(1,.ptr 1 0),(3,.view 10 0 (qCl g x++qCk g x y).length),(4,.int (qv1 g)),(5,.int x),(6,.int y)],[(1,quX false g)],[(10,⟨4,75,rows fldR (qCl g x++qCk g x y)⟩)],[]⟩) (hN g) ⟨0,oM,oM,?_⟩ ?_
  ·have:qCk g x 0=[]:=rfl
   rw[this,List.append_nil];rfl
  rintro m st ⟨y,hy,rfl,rfl⟩
  refine sB ?_
  refine qnY (fun h3=> ?_) fun h3=> ?_
  ·have hxl:x<wN g:=by omega
   have hyl:y<hN g:=by omega
   have ht:(y:Int)*g.w+x=((y*wN g+x:Nat):Int):=by rw[<- hw];simp
   have hte:((y*wN g+x:Nat):Int)*qv1 g=(((y*wN g+x)*eN g:Nat):Int):=by rw[<- he];simp
   have hte1:(((y*wN g+x:Nat):Int)+1)*qv1 g=(((y*wN g+x)*eN g+eN g:Nat):Int):=by rw[Int.add_mul,Int.one_mul,hte,<- he];simp
   have hpf:=qCs (g:=g) hxl hyl
   have htl:=qD3 hxl hyl
   have hwh:wN g*hN g<=64*64:=Nat.mul_le_mul w2 h2
   have htb:(y*wN g+x)*eN g+eN g<=cN g:=by
    have:=qD4 (e:=eN g) (j:=eN g-1) htl (by have:=q.e1;omega)
    have:=q.ce
    have:=q.e1
    omega
   have hm1:(y:Int)*g.w=((y*wN g:Nat):Int):=by rw[<- hw];simp
   have hm2:y*wN g<=64*64:=Nat.mul_le_mul oM w2
   rw[ht,hte]
   have hfb: ∀j,j<=eN g->(qCl g x++qCk g x y++qCh g x ((y*wN g+x)*eN g) j).length<=1200000:=fun j hj=>qKQ hg (((List.prefix_append_right_inj _).2 ((qCu g x ((y*wN g+x)*eN g) hj).trans (List.prefix_append _ _))).trans hpf)
   have hfT:(qCl g x++qCk g x y++qCj g x (y*wN g+x)).length<=1200000:=qKQ hg hpf
   have hsuc:=qCp g x y
   have hsel:qCj g x (y*wN g+x)=qCh g x ((y*wN g+x)*eN g) (eN g)++qCi x (y*wN g+x):=rfl
   generalize y*wN g+x=t at *
   generalize t*eN g=a at *
   iterate 3 (refine And.intro oM ?_)
   refine qoP (fun m st=> ∃j:Nat,j<=eN g/\m=eN g-j/\st=⟨[(1,.ptr 1 0),(3,.view 10 0 (qCl g x++qCk g x y++qCh g x a j).length),(4,.int (qv1 g)),(5,.int x),(6,.int y),(7,.int t),(8,.int (a+j:Nat))],[(1,quX false g)],[(10,⟨4,75,rows fldR (qCl g x++qCk g x y++qCh g x a j)⟩)],[]⟩) (eN g) ⟨0,oM,oM,?_⟩ ?_
   ·have:qCh g x a 0=[]:=rfl
    rw[this,List.append_nil];rfl
   rintro m st ⟨j,hj,rfl,rfl⟩
   have hlj:=hfb j hj
   simp only[hte1,push_cast,reduceIte,zA,zB,zC,zD,zE,zF,zG,reduceCtorEq,zH,zJ,cNI]
   refine⟨oM,oM,?_⟩
   refine qnY (fun h4=> ?_) fun h4=> ?_
   ·have hdr:=qwq g hg ((a+j:Nat):Int) ⟨oM,oM⟩
    rw[<- qy3 hg]at hdr
    have hdl:=qxu g hg ((a+j:Nat):Int)
    have hdg:=qKL (qwb g ((a+j:Nat):Int)).length oM
    have hnb:Go.Lib.bitLen (qwb g ((a+j:Nat):Int)).length=qCg g (a+j):=rfl
    rw[hnb]at hdg
    generalize qwb g ((a+j:Nat):Int)=dl at *
    refine qrv hdr (by exact⟨.refl _,.refl _,trivial⟩) ?_
    refine sB ?_
    refine qoM hdg ?_
    simp only[rep1,List.set_cons_zero,zV,List.length_nil,push_cast,reduceIte,zA,zB,zC,zD,zE,zF,zG,reduceCtorEq,zH,zJ,cNI]
    refine⟨⟨oM,oM⟩,⟨oM,oM⟩,eN g-(j+1),oM,j+1,oM,rfl,?_⟩
    rw[qCt,<- List.append_assoc,zU]
    simp[rows,fldR]
    omega
   ·obtain rfl:j=eN g:=by omega
    refine⟨⟨oM,oM⟩,⟨oM,oM⟩,hN g-(y+1),oM,y+1,oM,rfl,?_⟩
    rw[hsuc,hsel]
    simp[rows,fldR,qCi]
    omega
  ·obtain rfl:y=hN g:=by omega
   refine⟨oM,wN g-(x+1),oM,x+1,oM,rfl,?_⟩
   rw[qCo];rfl
 ·obtain rfl:x=wN g:=by omega
  have hwh:wN g*hN g<=64*64:=Nat.mul_le_mul w2 h2
  have hm1:g.w*g.h=((wN g*hN g:Nat):Int):=by rw[<- hw,<- hh];simp
  have hm2:g.w*g.h*qv1 g=((wN g*hN g*eN g:Nat):Int):=by rw[hm1,<- he];simp
  have hce:=q.ce
  have hfe: ∀j,j<=cN g-wN g*hN g*eN g->(qCl g (wN g)++qCh g (wN g) (wN g*hN g*eN g) j).length<=1200000:=fun j hj=>qKQ hg (by
   show _<+:qCl g (wN g)++qCm g
   exact(List.prefix_append_right_inj _).2 (qCu g (wN g) (wN g*hN g*eN g) hj))
  rw[hm2,hm1]
  have hFF:qCn g=qCl g (wN g)++qCh g (wN g) (wN g*hN g*eN g) (cN g-wN g*hN g*eN g):=rfl
  have hal:wN g*hN g*eN g<=cN g:=by omega
  generalize wN g*hN g*eN g=a at *
  iterate 2 (refine And.intro oM ?_)
  refine qoP (fun m st=> ∃j:Nat,j<=cN g-a/\m=cN g-a-j/\st=⟨[(1,.ptr 1 0),(3,.view 10 0 (qCl g (wN g)++qCh g (wN g) a j).length),(9,.int (a+j:Nat))],[(1,quX false g)],[(10,⟨4,75,rows fldR (qCl g (wN g)++qCh g (wN g) a j)⟩)],[]⟩) (cN g-a) ⟨0,oM,oM,?_⟩ ?_
  ·have:qCh g (wN g) a 0=[]:=rfl
   rw[this,List.append_nil];rfl
  rintro m st ⟨j,hj,rfl,rfl⟩
  have hlj:=hfe j hj
  refine sB ?_
  refine qrv (qv7 g hg) (by exact⟨.refl _,trivial⟩) ?_
  refine sB ?_
  refine qnY (fun h4=> ?_) fun h4=> ?_
  ·have hdr:=qwq g hg ((a+j:Nat):Int) ⟨oM,oM⟩
   rw[<- qy3 hg]at hdr
   have hdl:=qxu g hg ((a+j:Nat):Int)
   have hdg:=qKL (qwb g ((a+j:Nat):Int)).length oM
   have hnb:Go.Lib.bitLen (qwb g ((a+j:Nat):Int)).length=qCg g (a+j):=rfl
   rw[hnb]at hdg
   generalize qwb g ((a+j:Nat):Int)=dl at *
   refine qrx hdr (by exact⟨.refl _,.refl _,trivial⟩) rfl ?_
   refine sB ?_
   refine qqU hdg rfl ?_
   simp only[rep1,List.set_cons_zero,zV,List.length_nil,push_cast,reduceIte,zA,zB,zC,zD,zE,zF,zG,reduceCtorEq,zH,zJ,cNI]
   refine⟨⟨oM,oM⟩,⟨oM,oM⟩,cN g-a-(j+1),oM,j+1,oM,rfl,?_⟩
   rw[qCt,<- List.append_assoc,zU]
   simp[rows,fldR,hw]
   omega
  ·obtain rfl:j=cN g-a:=by omega
   rw[hFF]
   exact⟨fun _ _=>trivial,.refl _⟩
end Go.Proofs.YtecoaapkcnhlhaaGreatDoor
namespace Go.Proofs.YtecoaapkcnhlhaaGreatDoor.Txt
open Go Go.Vc
set_option maxRecDepth 100000
def ac38_100:AC:=
 (.seq (.reg [100,33,100,101] [
 xT 102 100,aO 104 (.mv (.c (.nil)))])
 (.seq (.reg [100,33,101,102] [
 fA 107 0 102,lF 108 1 107,uF 109 108 1,aO 110 (.mks 1 3 8 [zI] (.t 109) (.t 109)),mT 105 110])
 (.seq (.seq (.reg [100,33,101,105] [
 mK 106 0])
 (.block 0
 (.loop [100,33,101,105,106]
 (.seq (.seq (.reg [100,33,101,105,106] [
 mT 111 106,mT 112 101,nT 113 112,lS 114 111 113])
 (.cond (.t 114)
 .skip
 (.exit 0)))
 (.seq (.block 1
 (.drw [100,33,101,105,106] [
 eM 117 105,eM 118 101,eM 119 106,eI 120 4 118 119,eA 121 0 120,eL 122 1 121,eI 123 1 117 122,eL 124 1 123,eM 125 101,eM 126 106,eI 127 4 125 126,eA 128 3 127,eL 129 1 128,eF 130 (.ari .add true .i64 (.t 124) (.t 129)),eF 131 (.ixs 1 (.t 117) (.t 122)),⟨sT 1 131 130,[],[],false⟩]))
 (.reg [100,33,101,105,106] [
 mT 115 106,uF 116 115 1,mT 106 116]))))))
 (.seq (.reg [100,33,105] [
 mT 132 105,mT 104 132])
 .ret))))
def rv38_100:List RV:=[.tmp 104]
theorem ok38_100:qh6 Tryz.prog 100 ac38_100 rv38_100 Tryz.f38=true:=by kernel_rfl

def ac14:AC:=
 (.seq (.reg [0,24,0] [
 xT 1 0,aO 2 (.mv (.c (.nil)))])
 (.seq (.drw [0,24,1] [
 eT 5 (.ld true 5 (.t 1)),eT 6 (.ld true 5 (.t 1)),eT 7 (.cal 34 [(.t 6)]),eF 8 (.clm 38 [(.t 5),(.t 7)]),eF 3 (.mv (.t 8))])
 (.seq (.seq (.reg [0,24,3] [
 mK 4 0])
 (.block 0
 (.loop [0,24,3,4]
 (.seq (.seq (.reg [0,24,3,4] [
 mT 9 4,mT 10 3,nT 11 10,lS 12 9 11])
 (.cond (.t 12)
 .skip
 (.exit 0)))
 (.seq (.block 1
 (.reg [0,24,3,4] [
 mT 15 3,mT 16 4,mT 17 3,mT 18 4,iX 19 1 17 18,lF 20 1 19,aO 21 (.cal 39 [(.t 20)]),iX 22 1 15 16,sT 1 22 21]))
 (.reg [0,24,3,4] [
 mT 13 4,uF 14 13 1,mT 4 14]))))))
 (.seq (.reg [0,24,3] [
 mT 23 3,mT 2 23])
 .ret))))
def rv14:List RV:=[.tmp 2]
theorem ok14:fnOk Tryz.prog ac14 rv14 Tryz.f14=true:=by kernel_rfl
end Go.Proofs.YtecoaapkcnhlhaaGreatDoor.Txt
namespace Go.Proofs.YtecoaapkcnhlhaaGreatDoor
open Go Go.Vc Go.Ham Txt
theorem qKS{l:List Fld}{k:Nat}(h:k<l.length):l.getD k default∈l:=by
 rw[zK,zL h];exact List.getElem_mem h
theorem qKT{α:Type} [Inhabited α]{l:List α}{k:Nat}(h:k<l.length):l.take (k+1)=l.take k++[l.getD k default]:=by
 rw[List.take_add_one,zK,zL h];rfl
set_option maxHeartbeats 1000000 in
theorem qKU(q:Bool)(g:Grid)(hg:GOk g):FnM (Env.of Tryz.prog) 38 [.agg (quX false g),.sl q 4 (rows fldR (qCn g))] ⟨[],[],[],[]⟩ (fun v st' =>v= .view 110 0 (wN g+1)/\st' =⟨[],[],[(110,⟨1,3,ints (qDQ g (qCn g))⟩)],[]⟩):=by
 have hn:=hg.n
 have hw:=hg.w
 have hw2:=hn.w
 have hlen:=qKQ hg List.prefix_rfl
 refine quf 100 Tryz.func38 ok38_100 (by show 2<=_;decide) rfl (by decide) ?_
 simp only[ac38_100,rv38_100,push_cast,reduceIte,zA,zB,zC,zD,zE,zF,zG,reduceCtorEq,zH,zJ,cNI]
 refine⟨⟨oM,oM⟩,⟨oM,oM,oM,oM⟩,?_⟩
 rw[show(g.w+1).toNat=wN g+1 by omega,<- qE2 g]
 refine qoP (fun j st=> ∃k:Nat,k<=(qCn g).length/\j=(qCn g).length-k/\st=⟨[(101,.sl q 4 (rows fldR (qCn g))),(105,.view 110 0 (wN g+1)),(106,.int k)],[],[(110,⟨1,3,ints (qDQ g ((qCn g).take k))⟩)],[]⟩) (qCn g).length ⟨0,oM,oM,?_⟩ ?_
 ·rw[qDY];rfl
 rintro j st ⟨k,hk,rfl,rfl⟩
 refine sB ?_
 refine qnY (fun h=> ?_) fun h=> ?_
 ·have hkl:k<(qCn g).length:=by omega
  have hf:=qD5 hg (qKS hkl)
  have hfx:=hf.x
  have htk:=qKT hkl
  have hbd:=qDX hg (List.take_prefix (k+1) (qCn g)) ((qCn g).getD k default).x
  rw[htk,qBZ]at hbd
  generalize (qCn g).getD k default=f at *
  simp only[qBV,if_true]at hbd
  have hLL:=qDY g ((qCn g).take k)
  rw[qDZ hfx,qE0]
  exact⟨oM,hkl,oM,oM,oM,hkl,oM,oM,oM,oM,(qCn g).length-(k+1),oM,k+1,oM,rfl,by rw[htk];rfl⟩
 ·obtain rfl:k=(qCn g).length:=by omega
  rw[List.take_length]
  exact⟨rfl,rfl⟩
theorem qKV(g:Grid)(hg:GOk g):FnEq Tryz.prog 14 [.agg (quX false g)] (.sl true 1 (ints ((qDt g).map Int.ofNat))):=by
 have hn:=hg.n
 have hw2:=hn.w2
 refine FnEq.of_awp Tryz.func14 ok14 (by show 1<=_;decide) (by simp only[push_cast,reduceIte,zA,zB,zC,zD,zE,zF,zG,reduceCtorEq,zH,zJ,cNI]<;>first|exact fun _ _=>trivial|simp) ?_
 simp only[ac14,rv14,push_cast,reduceIte,zA,zB,zC,zD,zE,zF,zG,reduceCtorEq,zH,zJ,cNI]
 refine qrx (qKR g hg) sC rfl ?_
 refine sB ?_
 refine qDP [] [110] (qKU true g hg) rfl rfl rfl ?_
 refine sB ?_
 rw[<- qE8]
 refine qoP (fun j st=> ∃k:Nat,k<=wN g+1/\j=wN g+1-k/\st=⟨[(3,.view 110 0 (wN g+1)),(4,.int k)],[],[(110,⟨1,3,ints (midV g k)⟩)],[]⟩) (wN g+1) ⟨0,oM,oM,by simp only[push_cast,reduceIte,zA,zB,zC,zD,zE,zF,zG,reduceCtorEq,zH,zJ,cNI]⟩ ?_
 rintro j st ⟨k,hk,rfl,rfl⟩
 refine sB ?_
 refine qnY (fun h=> ?_) fun h=> ?_
 ·have hb:=qDX hg List.prefix_rfl k
  have hb2:qDs g k<=1000000000:=hb
  have hML:=qE5 g k
  rw[qE6 oM]
  have hwo:=qKO (qDs g k) hb2
  refine⟨oM,oM,?_⟩
  refine qoM hwo ?_
  refine sB ?_
  rw[qE7]
  exact⟨oM,oM,oM,wN g+1-(k+1),oM,k+1,oM,rfl,rfl⟩
 ·obtain rfl:k=wN g+1:=by omega
  rw[zY (by rw[qE5];exact Nat.le_refl _),qE9]
  exact⟨fun _ _=>trivial,.refl _⟩
end Go.Proofs.YtecoaapkcnhlhaaGreatDoor
namespace Go.Proofs.YtecoaapkcnhlhaaGreatDoor
open Go Go.Vc Go.Ham Txt
def prtK(w s k:Nat):Nat:=(List.range k).foldl (fun w k=>if s.testBit k then w|||2^(2^k)else w) w
theorem qKW(w s k:Nat):prtK w s (k+1)=if s.testBit k then prtK w s k|||2^(2^k)else prtK w s k:=by
 unfold prtK
 rw[List.range_succ,List.foldl_append];rfl
theorem qKX{k:Nat}(hk:k<6):2^k<64:=by
 have:=Nat.pow_le_pow_right (show 2>0 by decide) (show k<=5 by omega)
 omega
theorem qKY{w s:Nat}(hw:w<2^64): ∀k,k<=6->prtK w s k<2^64
 |0,_=>hw
 | k + 1, hk => by
   have h:=qKY (s:=s) hw k oM
   rw[qKW]
   split
   ·exact Nat.or_lt_two_pow h (Nat.pow_lt_pow_right (by decide) (qKX oM))
   ·exact h
theorem qKZ(d:Nat)(hd:d<2^57):FnEq Tryz.prog 36 [.sc (.int .u64 d)] (.agg [.sc (.int .u64 (encW d:Nat)),.int 0]):=by
 have hs57:shfF .shr .u64 (d:Int) ((57:Nat):Int)=0:=by
  rw[qBr d 57 oM,Nat.div_eq_of_lt hd];rfl
 have hs57:shfF .shr .u64 (d:Int) 57=0:=hs57
 refine FnEq.of_awp Tryz.func36 ok36 (by show 1<=_;decide) (by simp only[push_cast,reduceIte,zA,zB,zC,zD,zE,zF,zG,reduceCtorEq,zH,zJ,cNI]<;>first|exact fun _ _=>trivial|simp) ?_
 simp only[ac36,rv36,push_cast,reduceIte,zA,zB,zC,zD,zE,zF,zG,reduceCtorEq,zH,zJ,cNI]
 rw[hs57]
 refine⟨oM,?_⟩
 refine qnY (fun h=>absurd rfl h) fun _=> ?_
 refine qoP (fun m st=> ∃k:Nat,k<=57/\m=57-k/\st=⟨[(0,.sc (.int .u64 d)),(2,.ptr 2 0),(3,.sc (.int .u64 (sctL d (plc.take k):Nat))),(4,.int k)],[(2,[.sc (.int .u64 0),.int 0])],[],[]⟩) 57 ⟨0,oM,oM,rfl⟩ ?_
 rintro m st ⟨k,hk,rfl,rfl⟩
 refine sB ?_
 refine qnY (fun h=> ?_) fun h=> ?_
 ·obtain⟨e,e2⟩:=qKw (show k<57 by omega)
  have hlt:=qKy d k oM
  have hstep:sctL d (plc.take (k+1))=if d.testBit k then sctL d (plc.take k)|||2^plcF k else sctL d (plc.take k):=by
   unfold sctL
   rw[e,List.foldl_append];rfl
  refine qoM (qKn d k oM oM) ?_
  refine sB ?_
  refine qnX (fun q=> ?_) fun q=> ?_
  ·refine qoM (qKv k oM) ?_
   refine sB ?_
   rw[shl1 e2,qBm hlt (Nat.pow_lt_pow_right (by decide) e2)]
   rw[if_pos q]at hstep
   exact⟨oM,oM,oM,57-(k+1),oM,k+1,oM,rfl,by rw[hstep];rfl⟩
  ·rw[if_neg (by rw[q];decide)]at hstep
   exact⟨oM,57-(k+1),oM,k+1,oM,rfl,by rw[hstep];rfl⟩
 obtain rfl:k=57:=by omega
 have hp57:plc.take 57=plc:=by decide
 rw[hp57]
 have hw:sct d<2^64:=qA5 d
 have hww:sctL d plc=sct d:=rfl
 rw[hww]
 have hsy:=qzF (sct d) 64 (Nat.le_refl _)
 refine qoM (qKq (sct d) hw) ?_
 refine sB ?_
 unfold encW
 rw[show prt (sct d) (syn (sct d) 64)=prtK (sct d) (syn (sct d) 64) 6 from rfl]
 generalize sct d=w at *
 generalize syn w 64=s at *
 refine qoP (fun m st=> ∃k:Nat,k<=6/\m=6-k/\st=⟨[(2,.ptr 2 0),(3,.sc (.int .u64 (prtK w s k:Nat))),(5,.int s),(6,.int k)],[(2,[.sc (.int .u64 0),.int 0])],[],[]⟩) 6 ⟨0,oM,oM,rfl⟩ ?_
 rintro m st ⟨k,hk,rfl,rfl⟩
 refine sB ?_
 have hlt:=qKY (s:=s) hw k hk
 refine qnY (fun h=> ?_) fun h=> ?_
 ·have h2:=qKX (show k<6 by omega)
  have hst:=qKW w s k
  rw[qFE s k oM oM,shl1 (show k<64 by omega),shl1 h2,qBm hlt (Nat.pow_lt_pow_right (by decide) h2)]
  refine⟨oM,oM,?_⟩
  have hbt:((s.testBit k).toNat:Int)=1 ↔ s.testBit k=true:=by cases s.testBit k<;>simp
  refine qnY (fun q=> ?_) fun q=> ?_
  ·rw[if_pos (hbt.1 q)]at hst
   exact⟨oM,oM,Int.natCast_nonneg _,oM,6-(k+1),oM,k+1,oM,rfl,by rw[hst];rfl⟩
  ·rw[if_neg (fun z=>q (hbt.2 z))]at hst
   exact⟨oM,6-(k+1),oM,k+1,oM,rfl,by rw[hst];rfl⟩
 ·obtain rfl:k=6:=by omega
  generalize prtK w s 6=p at *
  have hol:=qEd p 64
  refine qoM (qKr p hlt) ?_
  refine sB ?_
  refine⟨oM,?_⟩
  unfold fin
  refine qnY (fun q=> ?_) fun q=> ?_
  ·rw[if_pos oM]
   have:bitF .or .u64 (p:Int) ((1:Nat):Int)=((p|||1:Nat):Int):=qBm hlt (by decide)
   have this:bitF .or .u64 (p:Int) 1=((p|||1:Nat):Int):=this
   rw[this]
   done
  ·rw[if_neg oM]
   done
theorem qL0(w:Nat)(hw:w<2^64):FnEq Tryz.prog 45 [.sc (.int .u64 w)] (if chkW w=2 then .agg [.sc (.int .u64 0),.int 0,.int 6]else .agg [.sc (.int .u64 (datW w:Nat)),.int (chkW w:Nat),.int 0]):=by
 have hP:Perm (if chkW w=2 then .agg [.sc (.int .u64 0),.int 0,.int 6]else .agg [.sc (.int .u64 (datW w:Nat)),.int (chkW w:Nat),.int 0]):=by split<;>simp only[push_cast,reduceIte,zA,zB,zC,zD,zE,zF,zG,reduceCtorEq,zH,zJ,cNI]
 refine FnEq.of_awp Tryz.func45 ok45 (by show 1<=_;decide) hP ?_
 simp only[ac45,rv45,push_cast,reduceIte,zA,zB,zC,zD,zE,zF,zG,reduceCtorEq,zH,zJ,cNI]
 refine qoM (qKs w hw) ?_
 refine sB ?_
 have hsy:=qzF w 64 (Nat.le_refl _)
 refine qnY (fun h=> ?_) fun h=> ?_
 ·have h:chkW w=0:=by omega
  refine qoM (qKz w hw) ?_
  refine sB ?_
  rw[if_neg oM]
  unfold datW
  rw[h]
  exact .refl _
 refine qnY (fun h1=> ?_) fun h1=> ?_
 ·have h1:chkW w=1:=by omega
  refine qoM (qKq w hw) ?_
  refine sB ?_
  refine qoM (qKp w (syn w 64) hw hsy) ?_
  refine sB ?_
  refine qoM (qKz _ (Nat.xor_lt_two_pow hw (Nat.pow_lt_pow_right (by decide) hsy))) ?_
  refine sB ?_
  rw[if_neg oM]
  unfold datW
  rw[h1]
  exact .refl _
 ·have:=qAf w
  rw[if_pos oM]
  exact .refl _
end Go.Proofs.YtecoaapkcnhlhaaGreatDoor
namespace Go.Proofs.YtecoaapkcnhlhaaGreatDoor.Txt
open Go Go.Vc
set_option maxRecDepth 100000
def ac10:AC:=
 (.seq (.reg [0,113,0,1] [
 xT 2 0,xT 3 1,aO 4 (.alc [.nil,zI])])
 (.seq (.seq (.reg [0,113,2,3,4] [
 uE 15 5 2,uE 16 4 3,aO 17 (.cal 33 [(.t 15),(.t 16)]),aO 18 (.cmp .neq .i64 (.t 17) (kI 0))])
 (.cond (.t 18)
 (.seq (.reg [0,113,4] [
 aO 19 (.bld [.nil,zI] [(1,1,(kI 310))]),sT 2 4 19])
 .ret)
 .skip))
 (.seq (.reg [0,113,2,3,4] [
 uE 20 5 2,aO 21 (.cal 34 [(.t 20)]),mT 5 21])
 (.seq (.reg [0,113,2,3,4,5] [
 aO 22 (.bld [.nil,zI] []),aO 6 (.alc [.nil,zI]),sT 2 6 22])
 (.seq (.seq (.reg [0,113,2,3,4,5,6] [
 mK 7 0])
 (.block 0
 (.loop [0,113,2,3,4,5,6,7]
 (.seq (.seq (.reg [0,113,2,3,4,5,6,7] [
 mT 23 7,fA 24 0 2,lF 25 1 24,aO 26 (.cmp .leq .i64 (.t 23) (.t 25))])
 (.cond (.t 26)
 .skip
 (.exit 0)))
 (.seq (.block 1
 (.seq (.reg [0,113,2,3,4,5,6,7] [
 aO 29 (.bsl 1 4 [.sc (.bool false)] 0 []),mT 8 29])
 (.seq (.seq (.reg [0,113,2,3,4,5,6,7,8] [
 mK 9 0])
 (.block 2
 (.loop [0,113,2,3,4,5,6,7,8,9]
 (.seq (.seq (.reg [0,113,2,3,4,5,6,7,8,9] [
 mT 30 9,mT 31 5,nT 32 31,lS 33 30 32])
 (.cond (.t 33)
 .skip
 (.exit 2)))
 (.seq (.block 3
 (.seq (.reg [0,113,2,3,4,5,6,7,8,9] [
 mK 10 0])
 (.block 4
 (.loop [0,113,2,3,4,5,6,7,8,9,10]
 (.seq (.seq (.reg [0,113,2,3,4,5,6,7,8,9,10] [
 mT 36 5,mT 37 9,iX 38 4 36 37,fA 39 0 38,lF 40 1 39,mT 41 7,aO 42 (.cmp .eql .i64 (.t 40) (.t 41)),mT 43 42,uB 44 43 (.mv (.t 10)),uB 45 43 (.mv (.t 5)),uB 46 43 (.mv (.t 9)),uB 47 43 (.ixs 4 (.t 45) (.t 46)),uB 48 43 (.fa 3 (.t 47)),uB 49 43 (.ld false 1 (.t 48)),uB 50 43 (.cmp .lss .i64 (.t 44) (.t 49)),aO 51 (pF 43 50)])
 (.cut [0,113,2,3,4,5,6,7,8,9,10,51] (.cond (.t 51)
 .skip
 (.exit 4))))
 (.seq (.block 5
 (.drw [0,113,2,3,4,5,6,7,8,9,10] [
 eU 54 (.mv (.t 8)) [] [66],eT 55 (.ld true 4 (.t 3)),eM 56 5,eM 57 9,eI 58 4 56 57,eT 59 (.ld true 4 (.t 58)),eT 60 (.cal 35 [(.t 55),(.t 59)]),eM 61 10,eT 62 (.cnv true .u64 (.t 61)),eT 63 (.shf .shr .i64 (.t 60) (.t 62)),eT 64 (.bit .and .i64 (.t 63) (kI 1)),eT 65 (.cmp .eql .i64 (.t 64) (kI 1)),eU 66 (.bsl 1 4 [.sc (.bool false)] 1 [(0,(.t 65))]) [66] [],eF 67 (.app 1 4 1 (.t 54) (.t 66)),eF 8 (.mv (.t 67))]))
 (.reg [0,113,2,3,4,5,6,7,8,9,10] [
 mT 52 10,uF 53 52 1,mT 10 53])))))))
 (.reg [0,113,2,3,4,5,6,7,8,9] [
 mT 34 9,uF 35 34 1,mT 9 35]))))))
 (.seq (.reg [0,113,2,3,4,5,6,7,8] [
 aO 68 (.bld [.nil] []),aO 11 (.alc [.nil]),sT 1 11 68])
 (.seq (.seq (.reg [0,113,2,3,4,5,6,7,8,11] [
 mK 12 0])
 (.block 6
 (.loop [0,113,2,3,4,5,6,7,8,11,12]
 (.seq (.seq (.reg [0,113,2,3,4,5,6,7,8,11,12] [
 mT 69 12,mT 70 8,nT 71 70,lS 72 69 71])
 (.cond (.t 72)
 .skip
 (.exit 6)))
 (.seq (.block 7
 (.seq (.reg [0,113,2,3,4,5,6,7,8,11,12] [
 aO 13 (.mv (.c (.sc (.int .u64 0))))])
 (.seq (.seq (.reg [0,113,2,3,4,5,6,7,8,11,12,13] [
 mK 14 0])
 (.block 8
 (.loop [0,113,2,3,4,5,6,7,8,11,12,13,14]
 (.seq (.seq (.reg [0,113,2,3,4,5,6,7,8,11,12,13,14] [
 mT 75 14,aO 76 (.cmp .lss .i64 (.t 75) (kI 57)),mT 77 76,uB 78 77 (.mv (.t 12)),uB 79 77 (.mv (.t 14)),uB 80 77 (.ari .add true .i64 (.t 78) (.t 79)),uB 81 77 (.mv (.t 8)),uB 82 77 (.len (.t 81)),uB 83 77 (.cmp .lss .i64 (.t 80) (.t 82)),aO 84 (pF 77 83)])
 (.cut [0,113,2,3,4,5,6,7,8,11,12,13,14,84] (.cond (.t 84)
 .skip
 (.exit 8))))
 (.seq (.block 9
 (.seq (.reg [0,113,2,3,4,5,6,7,8,11,12,13,14] [
 mT 87 8,mT 88 12,mT 89 14,aO 90 (.ari .add true .i64 (.t 88) (.t 89)),iX 91 1 87 90,lF 92 1 91])
 (.cond (.t 92)
 (.reg [0,113,2,3,4,5,6,7,8,11,12,13,14] [
 mT 93 13,mT 94 14,aO 95 (.cnv true .u64 (.t 94)),aO 96 (.shf .shl .u64 (.c (.sc (.int .u64 1))) (.t 95)),aO 97 (.bit .or .u64 (.t 93) (.t 96)),mT 13 97])
 .skip)))
 (.reg [0,113,2,3,4,5,6,7,8,11,12,13,14] [
 mT 85 14,uF 86 85 1,mT 14 86]))))))
 (.drw [0,113,2,3,4,5,6,7,8,11,12,13] [
 eU 98 (.fa 0 (.t 11)) [] [103],eU 99 (.ld false 1 (.t 98)) [] [103],eM 100 13,eT 101 (.cal 36 [(.t 100)]),eT 102 (.fl false 0 1 (.t 101)),eU 103 (.bsl 1 59 [.sc (.int .u64 0)] 1 [(0,(.t 102))]) [103] [],eF 104 (.app 1 59 8 (.t 99) (.t 103)),eF 105 (.fa 0 (.t 11)),⟨sT 1 105 104,[],[],false⟩]))))
 (.reg [0,113,2,3,4,5,6,7,8,11,12] [
 mT 73 12,uF 74 73 57,mT 12 74]))))))
 (.reg [0,113,2,3,4,5,6,7,11] [
 fA 106 0 6,lF 107 1 106,uE 108 1 11,aO 109 (.bsl 1 65 [.nil] 1 [(0,(.t 108))]),aO 110 (.app 1 65 24 (.t 107) (.t 109)),fA 111 0 6,sT 1 111 110]))))))
 (.reg [0,113,2,3,4,5,6,7] [
 mT 27 7,uF 28 27 1,mT 7 28]))))))
 (.seq (.reg [0,113,4,6] [
 uE 112 2 6,sT 2 4 112])
 .ret))))))
def rv10:List RV:=[.cell 4 true 2]
theorem ok10:fnOk Tryz.prog ac10 rv10 Tryz.f10=true:=by kernel_rfl
end Go.Proofs.YtecoaapkcnhlhaaGreatDoor.Txt
namespace Go.Proofs.YtecoaapkcnhlhaaGreatDoor
open Go Go.Vc Go.Ham Txt
theorem qL1(g:Grid)(hg:GOk g)(c:Cfg)(hs:CfgSm c)(h:validE g c≠0):FnEq Tryz.prog 10 [.agg (quX false g),.agg (cfgC false c)] (.agg (fmdC true [] 310)):=by
 have hv:=qyA g hg c hs
 have hP:Perm (.agg (fmdC true [] 310)):=by simp only[push_cast,reduceIte,zA,zB,zC,zD,zE,zF,zG,reduceCtorEq,zH,zJ,cNI];simp
 refine FnEq.of_awp Tryz.func10 ok10 (by show 2<=_;decide) hP ?_
 simp only[ac10,rv10,push_cast,reduceIte,zA,zB,zC,zD,zE,zF,zG,reduceCtorEq,zH,zJ,cNI]
 refine qrv hv (by exact⟨.refl _,.refl _,trivial⟩) ?_
 refine sB ?_
 refine qnY (fun _=> ?_) fun h2=>absurd oM h2
 simp only[rows,List.map_nil,push_cast,reduceIte,zA,zB,zC,zD,zE,zF,zG,reduceCtorEq,zH,zJ,cNI]
def frmN(ws:List Nat):List PV:=[if ws=[]then .nil else .sl true 1 (rows u64C (nats ws))]
theorem qL2(ws:List Nat):SubL (frmN ws) (frmC true ws):=by
 unfold frmN frmC
 refine⟨?_,trivial⟩
 by_cases h:ws=[]
 ·rw[if_pos h,h];exact .nil _ _
 ·rw[if_neg h];exact .refl _
def nlV(id n:Nat):PV:=if n=0 then .nil else .view id 0 n
def nlR(id es ty n:Nat)(xs:List (List PV)):List (Nat×Arr):=if n=0 then[]else[(id,⟨es,ty,xs⟩)]
theorem qL3(id n:Nat):nlV id (n+1)= .view id 0 (n+1):=if_neg (Nat.succ_ne_zero n)
theorem qL4(id es ty n:Nat)(xs:List (List PV)):nlR id es ty (n+1) xs=[(id,⟨es,ty,xs⟩)]:=if_neg (Nat.succ_ne_zero n)
theorem qL5(l:List Nat)(x:Nat):nats (l++[x])=nats l++[(x:Int)]:=by simp[nats]
theorem qL6{α:Type}(f:α->List PV)(l:List α)(x:α):rows f (l++[x])=rows f l++[f x]:=by simp[rows]
def fr1(g:Grid)(c:Cfg)(x i:Nat):List Bool:=qBU ((qCn g).take i) (cfgV c) x
theorem qL7(g:Grid)(c:Cfg)(x:Nat){i:Nat}(h:i<(qCn g).length):fr1 g c x (i+1)=fr1 g c x i++qBu (cfgV c ((qCn g).getD i default).kind ((qCn g).getD i default).i) (if((qCn g).getD i default).x=x then((qCn g).getD i default).n else 0):=by
 unfold fr1
 rw[qKT h,qBX,qBY]
 congr 1
 split<;>simp[qBU,qBu]
set_option maxHeartbeats 2000000 in
theorem qL8(g:Grid)(hg:GOk g)(c:Cfg)(hs:CfgSm c)(h:validE g c=0):FnEq Tryz.prog 10 [.agg (quX false g),.agg (cfgC false c)] (.agg (fmdC true (qDu g c) 0)):=by
 have hv:=qyA g hg c hs
 have hP:Perm (.agg (fmdC true (qDu g c) 0)):=by simp only[push_cast,reduceIte,zA,zB,zC,zD,zE,zF,zG,reduceCtorEq,zH,zJ,cNI];simp
 have hn:=hg.n
 have hw:=hn.w
 have hw2:=hn.w2
 have hFl:=qKQ hg List.prefix_rfl
 have hcc:=hn.c
 obtain⟨⟨l1,l2,l3,l4⟩,-,-⟩:=(qDp g c).1 h
 refine FnEq.of_awp Tryz.func10 ok10 (by show 2<=_;decide) hP ?_
 simp only[ac10,rv10,push_cast,reduceIte,zA,zB,zC,zD,zE,zF,zG,reduceCtorEq,zH,zJ,cNI]
 refine qrv hv (by exact⟨.refl _,.refl _,trivial⟩) ?_
 refine sB ?_
 refine qnY (fun h2=>absurd h h2) fun _=> ?_
 refine qrv (qKR g hg) sC ?_
 refine sB ?_
 refine qoP (fun m st=> ∃x:Nat,x<=wN g+1/\m=wN g+1-x/\st=⟨[(2,.ptr 2 0),(3,.ptr 3 0),(4,.ptr 4 0),(5,.sl true 4 (rows fldR (qCn g))),(6,.ptr 6 0),(7,.int x)],
  [(2,quX false g),(3,cfgC false c),(4,[.nil,.int 0]),(6,[nlV 110 x,.int 0])],nlR 110 1 65 x (rows frmN ((qDu g c).take x)),[]⟩) (wN g+1) ⟨0,oM,oM,by simp only[push_cast,reduceIte,zA,zB,zC,zD,zE,zF,zG,reduceCtorEq,zH,zJ,cNI];rfl⟩ ?_
 rintro m st ⟨x,hx,rfl,rfl⟩
 have hx2:(x=0/\nlV 110 x= .nil/\nlR 110 1 65 x (rows frmN ((qDu g c).take x))=[])\/(x≠0/\nlV 110 x= .view 110 0 x/\nlR 110 1 65 x (rows frmN ((qDu g c).take x))=[(110,⟨1,65,rows frmN ((qDu g c).take x)⟩)]):=by
  unfold nlV nlR
  by_cases h0:x=0
  ·exact .inl ⟨h0,if_pos h0,if_pos h0⟩
  ·exact .inr ⟨h0,if_neg h0,if_neg h0⟩
 rcases hx2 with⟨hx0,e1,e2⟩|⟨hx0,e1,e2⟩
 all_goals
  simp only[e1,e2,push_cast,reduceIte,zA,zB,zC,zD,zE,zF,zG,reduceCtorEq,zH,zJ,cNI]
  refine qnY (fun h1=> ?_) fun h1=> ?_
  ·refine qoP (fun m st => ∃ i : Nat, i <= (qCn g).length /\ m = (qCn g).length - i /\ st = ⟨[(2, .ptr 2 0), (3, .ptr 3 0), (4, .ptr 4 0), (5, .sl true 4 (rows fldR (qCn g))), (6, .ptr 6 0), (7, .int x), (8, .view 29 0 (fr1 g c x i).length), (9, .int i)],
    [(2,quX false g),(3,cfgC false c),(4,[.nil,.int 0]),(6,[nlV 110 x,.int 0])],(29,⟨1,4,rows qke (fr1 g c x i)⟩)::nlR 110 1 65 x (rows frmN ((qDu g c).take x)),[]⟩) (qCn g).length ⟨0,oM,oM,?_⟩ ?_
   ·simp only[e1,e2,push_cast,reduceIte,zA,zB,zC,zD,zE,zF,zG,reduceCtorEq,zH,zJ,cNI]
    rfl
   rintro m st ⟨i,hi,rfl,rfl⟩
   simp only[e1,e2,push_cast,reduceIte,zA,zB,zC,zD,zE,zF,zG,reduceCtorEq,zH,zJ,cNI]
   refine qnY (fun h2=> ?_) fun h2=> ?_
   ·have hil:i<(qCn g).length:=by omega
    have hfm:=qKS hil
    have hfs:=qL7 g c x hil
    have hfi:=qD5 hg hfm
    have hv1:=qDr hg h hfi
    have hv2:=qG9 hg h hfi
    have hfn:=qIf hg hfi
    have hva:=qKN c ((qCn g).getD i default) (by rcases hfi.key with⟨a,_⟩|⟨a,_⟩|⟨a,_⟩|⟨a,_⟩<;>omega) ⟨fun e=>by rcases hfi.key with⟨a,b,_⟩|⟨a,b,_⟩|⟨a,b,_⟩|⟨a,b,_⟩<;>omega,fun e=>by rcases hfi.key with⟨a,b,_⟩|⟨a,b,_⟩|⟨a,b,_⟩|⟨a,b,_⟩<;>omega,fun e=>by rcases hfi.key with⟨a,b,_⟩|⟨a,b,_⟩|⟨a,b,_⟩|⟨a,b,_⟩<;>omega,fun e=>by rcases hfi.key with⟨a,b,_⟩|⟨a,b,_⟩|⟨a,b,_⟩|⟨a,b,_⟩<;>omega⟩
    have hvI:cfgI c ((qCn g).getD i default).kind ((qCn g).getD i default).i=(cfgV c ((qCn g).getD i default).kind ((qCn g).getD i default).i:Nat):=by unfold cfgV;omega
    rw[hvI]at hva
    have hbl:(fr1 g c x i).length<=1000000000:=by
     unfold fr1;rw[qBW];exact qDX hg (List.take_prefix i _) x
    generalize hfd:(qCn g).getD i default=f at *
    generalize cfgV c f.kind f.i=v at *
    generalize hM:(if f.x=x then f.n else 0)=M at *
    generalize fr1 g c x i=P at *
    refine qoP (fun m st=> ∃k:Nat,k<=M/\m=M-k/\st=⟨[(2,.ptr 2 0),(3,.ptr 3 0),(4,.ptr 4 0),(5,.sl true 4 (rows fldR (qCn g))),(6,.ptr 6 0),(7,.int x),(8,.view 29 0 (P++qBu v k).length),(9,.int i),(10,.int k)],
     [(2,quX false g),(3,cfgC false c),(4,[.nil,.int 0]),(6,[nlV 110 x,.int 0])],(29,⟨1,4,rows qke (P++qBu v k)⟩)::nlR 110 1 65 x (rows frmN ((qDu g c).take x)),[]⟩) M ⟨0,oM,oM,?_⟩ ?_
    ·simp only[e1,e2,push_cast,reduceIte,zA,zB,zC,zD,zE,zF,zG,reduceCtorEq,zH,zJ,cNI]
     simp[qBu]
    rintro m st ⟨k,hk,rfl,rfl⟩
    simp only[e1,e2,push_cast,reduceIte,zA,zB,zC,zD,zE,zF,zG,reduceCtorEq,zH,zJ,cNI]
    refine⟨oM,hil,?_⟩
    refine qrH ⟨[(2,.ptr 2 0),(3,.ptr 3 0),(4,.ptr 4 0),(5,.sl true 4 (rows fldR (qCn g))),(6,.ptr 6 0),(7,.int x),(8,.view 29 0 (P++qBu v k).length),(9,.int i),(10,.int k),(51,.bool (decide (k<M)))],
     [(2,quX false g),(3,cfgC false c),(4,[.nil,.int 0]),(6,[nlV 110 x,.int 0])],(29,⟨1,4,rows qke (P++qBu v k)⟩)::nlR 110 1 65 x (rows frmN ((qDu g c).take x)),[]⟩ ?_ ?_
    ·refine qrz rfl (fun h3=> ?_) fun h3=> ?_<;>rw[hfd]at h3<;>simp only[e1,e2,hfd,push_cast,reduceIte,zA,zB,zC,zD,zE,zF,zG,reduceCtorEq,zH,zJ,cNI]
     ·refine⟨oM,hil,?_⟩
      rw[show decide (k<M)=decide ((k:Int)<f.n)from decide_eq_decide.2 (by rw[if_pos oM]at hM;omega)]
     ·rw[decide_eq_false (show ¬k<M by rw[if_neg oM]at hM;omega)]
    ·simp only[e1,e2,hfd,push_cast,reduceIte,zA,zB,zC,zD,zE,zF,zG,reduceCtorEq,zH,zJ,cNI]
     refine qnY (fun h3=> ?_) fun h3=> ?_
     ·have hM61:M<=61:=by rw[<- hM];split<;>omega
      refine⟨oM,hil,?_⟩
      refine qrx hva (by exact⟨.refl _,.refl _,trivial⟩) rfl ?_
      have hbt:decide (bitF .and .i64 (shfF .shr .i64 (v:Int) (k:Int)) 1=1)=v.testBit k:=by
       rw[qFE v k hv2 oM]
       cases v.testBit k<;>decide
      have hPl:(P++qBu v k).length=P.length+k:=by rw[zU,qBv]
      simp only[rep1,List.set_cons_zero,zV,List.length_nil,hbt,push_cast,reduceIte,zA,zB,zC,zD,zE,zF,zG,reduceCtorEq,zH,zJ,cNI]
      refine⟨oM,oM,oM,oM,M-(k+1),oM,k+1,oM,rfl,?_⟩
      have e5:(P++qBu v k++[v.testBit k]).length=(P++qBu v k).length+1:=by simp[Nat.add_assoc]
      rw[qBw,<- List.append_assoc,e5]
      rfl
     ·obtain rfl:k=M:=by omega
      refine⟨oM,(qCn g).length-(i+1),oM,i+1,oM,rfl,?_⟩
      rw[hfs]
      rfl
   ·obtain rfl:i=(qCn g).length:=by omega
    have hBB:fr1 g c x (qCn g).length=qBU (qCn g) (cfgV c) x:=by unfold fr1;rw[List.take_length]
    have hBl:(qBU (qCn g) (cfgV c) x).length<=1000000000:=by rw[qBW];exact qDX hg List.prefix_rfl x
    have hrow:(qDu g c).getD x []=(qBH (qBU (qCn g) (cfgV c) x)).map encW:=qDD oM
    rw[hBB]
    generalize qBU (qCn g) (cfgV c) x=B at *
    have hWl:=qBJ B
    have hnW:nW B.length=(B.length+56)/57:=rfl
    have hEl:(qDu g c).length=wN g+1:=by simp[qDu]
    have hT:(qDu g c).take (x+1)=(qDu g c).take x++[(qBH B).map encW]:=by
     rw[qEY _ x oM];exact congrArg (fun z=>_++[z]) hrow
    refine qoP (fun m st=> ∃j:Nat,j<=nW B.length/\m=nW B.length-j/\st=⟨[(2,.ptr 2 0),(3,.ptr 3 0),(4,.ptr 4 0),(5,.sl true 4 (rows fldR (qCn g))),(6,.ptr 6 0),(7,.int x),(8,.view 29 0 B.length),(11,.ptr 11 0),(12,.int (57*j:Nat))],
     [(2,quX false g),(3,cfgC false c),(4,[.nil,.int 0]),(6,[nlV 110 x,.int 0]),(11,[nlV 104 j])],(29,⟨1,4,rows qke B⟩)::(nlR 104 1 59 j (rows u64C (nats (((qBH B).map encW).take j)))++nlR 110 1 65 x (rows frmN ((qDu g c).take x))),[]⟩) (nW B.length) ⟨0,oM,oM,?_⟩ ?_
    ·simp only[e1,e2,push_cast,reduceIte,zA,zB,zC,zD,zE,zF,zG,reduceCtorEq,zH,zJ,cNI]
     rfl
    rintro m st ⟨j,hj,rfl,rfl⟩
    have hj2:(j=0/\nlV 104 j= .nil/\nlR 104 1 59 j (rows u64C (nats (((qBH B).map encW).take j)))=[])\/(j≠0/\nlV 104 j= .view 104 0 j/\nlR 104 1 59 j (rows u64C (nats (((qBH B).map encW).take j)))=[(104,⟨1,59,rows u64C (nats (((qBH B).map encW).take j))⟩)]):=by
     unfold nlV nlR
     by_cases h0:j=0
     ·exact .inl ⟨h0,if_pos h0,if_pos h0⟩
     ·exact .inr ⟨h0,if_neg h0,if_neg h0⟩
    rcases hj2 with⟨hj0,e3,e4⟩|⟨hj0,e3,e4⟩
    all_goals
     simp only[e1,e2,e3,e4,List.nil_append,List.cons_append,push_cast,reduceIte,zA,zB,zC,zD,zE,zF,zG,reduceCtorEq,zH,zJ,cNI]
     refine qnY (fun h4=> ?_) fun h4=> ?_
     ·refine qoP (fun m st => ∃ k : Nat, k <= 57 /\ 57 * j + k <= B.length /\ m = 57 - k /\ st = ⟨[(2, .ptr 2 0), (3, .ptr 3 0), (4, .ptr 4 0), (5, .sl true 4 (rows fldR (qCn g))), (6, .ptr 6 0), (7, .int x), (8, .view 29 0 B.length), (11, .ptr 11 0), (12, .int (57 * j : Nat)), (13, .sc (.int .u64 (valB ((B.drop (57 * j)).take k) : Nat))), (14, .int k)],
       [(2,quX false g),(3,cfgC false c),(4,[.nil,.int 0]),(6,[nlV 110 x,.int 0]),(11,[nlV 104 j])],(29,⟨1,4,rows qke B⟩)::(nlR 104 1 59 j (rows u64C (nats (((qBH B).map encW).take j)))++nlR 110 1 65 x (rows frmN ((qDu g c).take x))),[]⟩) 57 ⟨0,oM,oM,oM,?_⟩ ?_
      ·simp only[e1,e2,e3,e4,List.nil_append,List.cons_append,push_cast,reduceIte,zA,zB,zC,zD,zE,zF,zG,reduceCtorEq,zH,zJ,cNI]
       rfl
      rintro m st ⟨k,hk,hk2,rfl,rfl⟩
      simp only[e1,e2,e3,e4,List.nil_append,List.cons_append,push_cast,reduceIte,zA,zB,zC,zD,zE,zF,zG,reduceCtorEq,zH,zJ,cNI]
      refine qrH ⟨[(2,.ptr 2 0),(3,.ptr 3 0),(4,.ptr 4 0),(5,.sl true 4 (rows fldR (qCn g))),(6,.ptr 6 0),(7,.int x),(8,.view 29 0 B.length),(11,.ptr 11 0),(12,.int (57*j:Nat)),(13,.sc (.int .u64 (valB ((B.drop (57*j)).take k):Nat))),(14,.int k),(84,.bool (decide (k<57/\57*j+k<B.length)))],
       [(2,quX false g),(3,cfgC false c),(4,[.nil,.int 0]),(6,[nlV 110 x,.int 0]),(11,[nlV 104 j])],(29,⟨1,4,rows qke B⟩)::(nlR 104 1 59 j (rows u64C (nats (((qBH B).map encW).take j)))++nlR 110 1 65 x (rows frmN ((qDu g c).take x))),[]⟩ ?_ ?_
      ·refine qrz rfl (fun h5=> ?_) fun h5=> ?_<;>simp only[e1,e2,e3,e4,List.nil_append,List.cons_append,push_cast,reduceIte,zA,zB,zC,zD,zE,zF,zG,reduceCtorEq,zH,zJ,cNI]
       ·refine⟨oM,?_⟩
        rw[show decide (k<57/\57*j+k<B.length)=decide (57*(j:Int)+k<B.length)from decide_eq_decide.2 oM]
       ·rw[decide_eq_false (show ¬(k<57/\57*j+k<B.length)by omega)]
      ·simp only[e1,e2,e3,e4,List.nil_append,List.cons_append,push_cast,reduceIte,zA,zB,zC,zD,zE,zF,zG,reduceCtorEq,zH,zJ,cNI]
       have hlt:valB ((B.drop (57*j)).take k)<2^k:=Nat.lt_of_lt_of_le (qBy _) (Nat.pow_le_pow_right (by decide) (by simp;omega))
       refine qnY (fun h5=> ?_) fun h5=> ?_
       ·have hdl:((B.drop (57*j)).take k).length=k:=by rw[List.length_take,List.length_drop];omega
        have hts:(B.drop (57*j)).take (k+1)=(B.drop (57*j)).take k++[B.getD (57*j+k) default]:=by
         rw[qKT (by rw[List.length_drop];omega),zK,List.getElem?_drop,<- zK]
        have hor:=qBE ((B.drop (57*j)).take k) (B.getD (57*j+k) default)
        rw[<- hts,hdl]at hor
        generalize (B.drop (57*j)).take k=D at *
        refine⟨oM,oM,oM,?_⟩
        have ejk:(57*(j:Int)+k).toNat=57*j+k:=by omega
        refine qnX (fun h6=> ?_) fun h6=> ?_
        ·rw[ejk]at h6
         rw[h6]at hor
         have e6:bitF .or .u64 (valB D:Int) (shfF .shl .u64 1 (k:Int))=(valB ((B.drop (57*j)).take (k+1)):Nat):=by
          rw[shl1 (show k<64 by omega),qBm (Nat.lt_of_lt_of_le hlt (Nat.pow_le_pow_right (by decide) oM)) (Nat.pow_lt_pow_right (by decide) (show k<64 by omega)),hor,Nat.shiftLeft_eq,Bool.toNat_true,Nat.one_mul]
         exact⟨oM,oM,oM,57-(k+1),oM,k+1,oM,oM,rfl,by rw[e6];rfl⟩
        ·rw[ejk]at h6
         rw[h6,Bool.toNat_false,Nat.zero_shiftLeft,Nat.or_zero]at hor
         exact⟨oM,57-(k+1),oM,k+1,oM,oM,rfl,by rw[hor];rfl⟩
       ·have hkk:k=57\/57*j+k=B.length:=by omega
        have hwj:(B.drop (57*j)).take k=(B.drop (57*j)).take 57:=by
         rcases hkk with rfl|hkk
         ·rfl
         ·rw[zY (by rw[List.length_drop];omega),zY (by rw[List.length_drop];omega)]
        have hjW:j<nW B.length:=by omega
        have hwk:(qBH B).getD j default=valB ((B.drop (57*j)).take 57):=by
         simp[qBH,qBG,zK,hjW]
        have hWs:((qBH B).map encW).take (j+1)=((qBH B).map encW).take j++[encW (valB ((B.drop (57*j)).take 57))]:=by
         rw[qEY _ j (by rw[yG,hWl];exact hjW),<- hwk]
         simp[zK,hWl,hjW]
        rw[hwj]
        refine qqU (qKZ _ (Nat.lt_of_lt_of_le (qBy _) (Nat.pow_le_pow_right (by decide) (by simp;omega)))) rfl ?_
        simp only[rep1,List.set_cons_zero,zV,List.length_nil,push_cast,reduceIte,zA,zB,zC,zD,zE,zF,zG,reduceCtorEq,zH,zJ,cNI]
        have hNl:(nats (((qBH B).map encW).take j)).length=j:=by rw[qF0,List.length_take,yG];omega
        have e57:(57:Int)*((j+1:Nat):Int)=57*j+57:=by omega
        first
         |refine⟨oM,nW B.length-(j+1),oM,j+1,oM,rfl,?_⟩
         |refine⟨oM,oM,nW B.length-(j+1),oM,j+1,oM,rfl,?_⟩
        rw[qL3,qL4,hWs,e57]
        first
         |(subst hj0;rfl)
         |(rw[qL5]<;>rfl)
     ·have hjn:j=nW B.length:=by omega
      have hWn:((qBH B).map encW).length=j:=by rw[yG];omega
      have hWF:(nats (((qBH B).map encW).take j)).take j=nats ((qBH B).map encW):=by rw[zY (l:=(qBH B).map encW) oM,zY (by rw[qF0];omega)]
      have hfN:frmN ((qBH B).map encW)=if j=0 then[.nil]else[.sl true 1 (rows u64C (nats ((qBH B).map encW)))]:=by
       unfold frmN
       by_cases h0:j=0
       ·rw[if_pos h0,if_pos (List.length_eq_zero_iff.1 oM)]
       ·rw[if_neg h0,if_neg (fun e=>by rw[e]at hWn;exact h0 hWn.symm)]
      try rw[hWF]
      generalize (qBH B).map encW=W at *
      first|rw[if_pos hj0]at hfN|rw[if_neg hj0]at hfN
      have hFl:((qDu g c).take x).length=x:=by rw[List.length_take];omega
      first
       |refine⟨oM,wN g+1-(x+1),oM,x+1,oM,rfl,?_⟩
       |refine⟨oM,oM,wN g+1-(x+1),oM,x+1,oM,rfl,?_⟩
      rw[qL3,qL4,hT,qL6,hfN]
      first
       |(subst hx0;rfl)
       |rfl
  ·first
    |(exfalso;omega)
    | (have hEl : (qDu g c).length = wN g + 1 := by simp [qDu]
       rw[List.take_take,Nat.min_self,zY oM]
       refine⟨fun ws _ y hy=> ?_,qG3 _ _ (fun h=>h) (fun _ _=>rfl) fun ws _=>qL2 ws⟩
       obtain rfl:=List.mem_singleton.1 hy
       split<;>simp only[push_cast,reduceIte,zA,zB,zC,zD,zE,zF,zG,reduceCtorEq,zH,zJ,cNI]
       try simp)
theorem qL9(g:Grid)(hg:GOk g)(c:Cfg)(hs:CfgSm c):FnEq Tryz.prog 10 [.agg (quX false g),.agg (cfgC false c)] (.agg (fmdC true (encL g c) (encE g c))):=by
 unfold encL encE
 by_cases h:validE g c=0
 ·rw[if_pos h,if_pos h];exact qL8 g hg c hs h
 ·rw[if_neg h,if_neg h];exact qL1 g hg c hs h
end Go.Proofs.YtecoaapkcnhlhaaGreatDoor
