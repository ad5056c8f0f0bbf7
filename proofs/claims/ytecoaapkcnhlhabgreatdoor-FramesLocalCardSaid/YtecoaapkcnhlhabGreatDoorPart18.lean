/- TxtKA KB KC PLocal: FramesLocal: the row and its card. -/
import Derived.Test.YtecoaapkcnhlhabGreatDoorPart06
import Derived.Test.YtecoaapkcnhlhabGreatDoorChecked
import Derived.Test.YtecoaapkcnhlhabGreatDoorPart17
import Derived.Test.YtecoaapkcnhlhabGreatDoorPart11
import Derived.Test.YtecoaapkcnhlhabGreatDoorPart12
import Derived.Test.YtecoaapkcnhlhabGreatDoorRows
import Derived.Test.YtecoaapkcnhlhabGreatDoorCards
import Derived.Test.YtecoaapkcnhlhabGreatDoorTie
import Derived.ProofKit
import Derived.LaidMore
import Derived.SevenTiedAt
set_option linter.unusedSimpArgs false
set_option linter.unusedVariables false
open List renaming length_cons->zV,take_of_length_le->zY,all_eq_true->yE,length_map->yG
open Int renaming reduceToNat->zH,reduceNeg->zJ
open Nat renaming reduceEqDiff->zA,reduceAdd->zB,reduceSub->zC,reduceMul->zD,reduceBEq->zE,reduceLT->zF,reduceLeDiff->zG
namespace Go.Proofs.YtecoaapkcnhlhabGreatDoor.Txt
open Go Go.Vc
set_option maxRecDepth 100000
def ac25:AC:=
 (.seq (.reg [0,31,0,1] [
 (aO 2 (.box (.t 0))),(aO 4 (.mv (kI 0)))])
 (.seq (.seq (.reg [0,31,1,2] [
 (aO 6 (.mv (.t 1))),(aO 7 (.cmp .lss .i64 (.t 6) (kI 0))),(aO 8 (.mv (.t 7))),⟨some 9,some (8,false),.mv (.t 1)⟩,⟨some 10,some (8,false),.ld true 5 (.t 2)⟩,⟨some 11,some (8,false),.cal 40 [(.t 10)]⟩,⟨some 12,some (8,false),.cmp .geq .i64 (.t 9) (.t 11)⟩,(aO 13 (.pick (.t 8) (.c (.sc (.bool true))) (.t 12)))])
 (.cut [0,31,1,2,13] (.cond (.t 13)
 (.seq (.reg [0,31] [
 (aO 4 (.mv (kI (-1))))])
 .ret)
 .skip)))
 (.seq (.reg [0,31,1,2] [
 (aO 14 (.mv (.t 1))),(aO 15 (.ld true 5 (.t 2))),(aO 16 (.cal 43 [(.t 15)])),(aO 17 (.dvd .quo true .i64 (.t 14) (.t 16))),(aO 5 (.mv (.t 17)))])
 (.seq (.seq (.reg [0,31,2,5] [
 (aO 18 (.mv (.t 5))),(aO 19 (.fa 0 (.t 2))),(aO 20 (.ld false 1 (.t 19))),(aO 21 (.fa 1 (.t 2))),(aO 22 (.ld false 1 (.t 21))),(aO 23 (.ari .mul true .i64 (.t 20) (.t 22))),(aO 24 (.cmp .geq .i64 (.t 18) (.t 23)))])
 (.cond (.t 24)
 (.seq (.reg [0,31,2] [
 (aO 25 (.fa 0 (.t 2))),(aO 26 (.ld false 1 (.t 25))),(aO 4 (.mv (.t 26)))])
 .ret)
 .skip))
 (.seq (.reg [0,31,2,5] [
 (aO 27 (.mv (.t 5))),(aO 28 (.fa 0 (.t 2))),(aO 29 (.ld false 1 (.t 28))),(aO 30 (.dvd .rem true .i64 (.t 27) (.t 29))),(aO 4 (.mv (.t 30)))])
 .ret)))))
def rv25:List RV:=[.tmp 4]
theorem ok25:fnOk Tryz.prog ac25 rv25 Tryz.f25=true:=by kernel_rfl

def ac8:AC:=
 (.seq (.reg [0,97,0,1,2] [
 (aO 3 (.box (.t 0))),(aO 4 (.box (.t 1))),(aO 5 (.box (.t 2))),(aO 6 (.alc [.nil,.nil,.nil,.nil])),(aO 7 (.mv (kI 0)))])
 (.seq (.drw [0,97,3,4,5,6] [
 (eU 11 (.bsl 1 3 [zI] 0 []) [11] [8,15,19,23]),(eU 12 (.fa 0 (.t 4)) [] [8,11,15,19,23]),(eU 13 (.ld false 1 (.t 12)) [] [8,11,15,19,23]),(eU 14 (.app 1 3 8 (.t 11) (.t 13)) [14,11] [8,15,19,23]),(eU 15 (.bsl 1 3 [zI] 0 []) [15] [8,11,14,19,23]),(eU 16 (.fa 1 (.t 4)) [] [8,11,14,15,19,23]),(eU 17 (.ld false 1 (.t 16)) [] [8,11,14,15,19,23]),(eU 18 (.app 1 3 8 (.t 15) (.t 17)) [18,15] [8,19,23]),(eU 19 (.bsl 1 3 [zI] 0 []) [19] [8,11,14,15,18,23]),(eU 20 (.fa 2 (.t 4)) [] [8,11,14,15,18,19,23]),(eU 21 (.ld false 1 (.t 20)) [] [8,11,14,15,18,19,23]),(eU 22 (.app 1 3 8 (.t 19) (.t 21)) [22,19] [8,23]),(eU 23 (.bsl 1 3 [zI] 0 []) [23] [8,11,14,15,18,19,22]),(eU 24 (.fa 3 (.t 4)) [] [8,11,14,15,18,19,22,23]),(eU 25 (.ld false 1 (.t 24)) [] [8,11,14,15,18,19,22,23]),(eU 26 (.app 1 3 8 (.t 23) (.t 25)) [26,23] [8]),(eU 27 (.bld [.nil,.nil,.nil,.nil] [(0,1,(.t 14)),(1,1,(.t 18)),(2,1,(.t 22)),(3,1,(.t 26))]) [] [8]),(eU 8 (.alc [.nil,.nil,.nil,.nil]) [8] [11,14,15,18,19,22,23,26]),⟨(aN (.sto 4 (.t 8) (.t 27))),[],[],false⟩])
 (.seq (.seq (.reg [0,97,3,4,5,6,8] [
 (aO 28 (.ixa 3 1 (.t 5) (kI 0))),(aO 29 (.ld false 1 (.t 28))),(aO 30 (.cmp .geq .u8 (.t 29) (.c (.sc (.int .u8 128)))))])
 (.cond (.t 30)
 (.seq (.reg [0,97,3,4,5,6,8] [
 (aO 31 (.ixa 3 1 (.t 5) (kI 1))),(aO 32 (.ld false 1 (.t 31))),(aO 33 (.cnv true .i64 (.t 32))),(aO 34 (.fa 1 (.t 4))),(aO 35 (.ld false 1 (.t 34))),(aO 36 (.len (.t 35))),(aO 37 (.dvd .rem true .i64 (.t 33) (.t 36))),(aO 9 (.mv (.t 37)))])
 (.seq (.seq (.reg [0,97,3,5,6,8,9] [
 (aO 38 (.fa 4 (.t 3))),(aO 39 (.ld false 1 (.t 38))),(aO 40 (.mv (.t 9))),(aO 41 (.ixs 1 (.t 39) (.t 40))),(aO 42 (.ld false 1 (.t 41))),(aO 43 (.cmp .neq .i64 (.t 42) (kI 0)))])
 (.cond (.t 43)
 (.seq (.reg [0,97,3,5,6,8,9] [
 (aO 44 (.fa 1 (.t 8))),(aO 45 (.ld false 1 (.t 44))),(aO 46 (.mv (.t 9))),(aO 47 (.ixs 1 (.t 45) (.t 46))),(aN (.sto 1 (.t 47) (kI 2)))])
 (.seq (.reg [0,97,3,5,6,8,9] [
 (aO 48 (.fa 2 (.t 8))),(aO 49 (.ld false 1 (.t 48))),(aO 50 (.mv (.t 9))),(aO 51 (.ixa 3 1 (.t 5) (kI 2))),(aO 52 (.ld false 1 (.t 51))),(aO 53 (.cnv true .i64 (.t 52))),(aO 54 (.ari .mul true .i64 (kI 257) (.t 53))),(aO 55 (.ixs 1 (.t 49) (.t 50))),(aN (.sto 1 (.t 55) (.t 54)))])
 (.reg [0,97,3,5,6,8,9] [
 (aO 56 (.fa 3 (.t 8))),(aO 57 (.ld false 1 (.t 56))),(aO 58 (.mv (.t 9))),(aO 59 (.ixa 3 1 (.t 5) (kI 2))),(aO 60 (.ld false 1 (.t 59))),(aO 61 (.cnv true .i64 (.t 60))),(aO 62 (.ixs 1 (.t 57) (.t 58))),(aN (.sto 1 (.t 62) (.t 61)))])))
 .skip))
 (.seq (.wk (.drw [0,97,3,6,8,9] [
 (eT 63 (.ld true 4 (.t 8))),(eT 64 (.mv (.t 9))),(eT 65 (.fa 0 (.t 3))),(eU 66 (.ld false 1 (.t 65)) [] [6]),(eT 67 (.dvd .rem true .i64 (.t 64) (.t 66))),⟨(aN (.sto 4 (.t 6) (.t 63))),[],[6],true⟩,(eF 7 (.mv (.t 67)))]))
 .ret)))
 .skip))
 (.seq (.reg [0,97,3,4,5,6,8] [
 (aO 68 (.ixa 3 1 (.t 5) (kI 0))),(aO 69 (.ld false 1 (.t 68))),(aO 70 (.cnv true .i64 (.t 69))),(aO 71 (.ari .mul true .i64 (kI 256) (.t 70))),(aO 72 (.ixa 3 1 (.t 5) (kI 1))),(aO 73 (.ld false 1 (.t 72))),(aO 74 (.cnv true .i64 (.t 73))),(aO 75 (.ari .add true .i64 (.t 71) (.t 74))),(aO 76 (.fa 0 (.t 4))),(aO 77 (.ld false 1 (.t 76))),(aO 78 (.len (.t 77))),(aO 79 (.dvd .rem true .i64 (.t 75) (.t 78))),(aO 10 (.mv (.t 79)))])
 (.seq (.drw [0,97,3,5,6,8,10] [
 (eT 80 (.fa 0 (.t 8))),(eT 81 (.ld false 1 (.t 80))),(eT 82 (.mv (.t 10))),(eT 83 (.ixa 3 1 (.t 5) (kI 2))),(eT 84 (.ld false 1 (.t 83))),(eT 85 (.cnv true .i64 (.t 84))),(eT 86 (.ld true 5 (.t 3))),(eT 87 (.mv (.t 10))),(eT 88 (.cal 24 [(.t 86),(.t 87)])),(eT 89 (.len (.t 88))),(eT 90 (.ari .add true .i64 (kI 1) (.t 89))),(eT 91 (.dvd .rem true .i64 (.t 85) (.t 90))),(eF 92 (.ixs 1 (.t 81) (.t 82))),⟨(aN (.sto 1 (.t 92) (.t 91))),[],[],false⟩])
 (.seq (.wk (.drw [0,97,3,6,8,10] [
 (eT 93 (.ld true 4 (.t 8))),(eT 94 (.ld true 5 (.t 3))),(eT 95 (.mv (.t 10))),(eT 96 (.cal 25 [(.t 94),(.t 95)])),⟨(aN (.sto 4 (.t 6) (.t 93))),[],[],false⟩,(eF 7 (.mv (.t 96)))]))
 .ret))))))
def rv8:List RV:=[.cell 6 true 4,.tmp 7]
theorem ok8:fnOk Tryz.prog ac8 rv8 Tryz.f8=true:=by kernel_rfl

def ac3:AC:=
 (.seq (.reg [0,99,0,1,2] [
 (aO 3 (.box (.t 0))),(aO 5 (.box (.t 2))),(aO 6 (.mv (.c (.sc (.bool false)))))])
 (.seq (.reg [0,99,1,3,5] [
 (aO 16 (.cal 4 [])),(aO 7 (.mv (.t 16)))])
 (.seq (.seq (.reg [0,99,1,3,5,7] [
 (aO 17 (.mv (.t 7))),(aO 18 (.not (.t 17))),(aO 19 (.mv (.t 18))),⟨some 20,some (19,false),.ld true 5 (.t 3)⟩,⟨some 21,some (19,false),.cal 5 [(.t 20)]⟩,⟨some 22,some (19,false),.not (.t 21)⟩,(aO 23 (.pick (.t 19) (.c (.sc (.bool true))) (.t 22))),(aO 24 (.mv (.t 23))),⟨some 25,some (24,false),.mv (.t 1)⟩,⟨some 26,some (24,false),.len (.t 25)⟩,⟨some 27,some (24,false),.cmp .gtr .i64 (.t 26) (kI 100)⟩,(aO 28 (.pick (.t 24) (.c (.sc (.bool true))) (.t 27)))])
 (.cut [0,99,1,3,5,7,28] (.cond (.t 28)
 (.seq (.reg [0,99,7] [
 (aO 29 (.mv (.t 7))),(aO 6 (.mv (.t 29)))])
 .ret)
 .skip)))
 (.seq (.reg [0,99,1,3,5,7] [
 (aO 30 (.ld true 5 (.t 3))),(aO 31 (.cal 6 [(.t 30)])),(aO 8 (.alc [zI,zI,zI,zI,.nil])),(aN (.sto 5 (.t 8) (.t 31)))])
 (.seq (.reg [0,99,1,5,7,8] [
 (aO 32 (.ld true 5 (.t 8))),(aO 33 (.mv (.t 1))),(aO 34 (.cal 7 [(.t 32),(.t 33)])),(aO 9 (.alc [.nil,.nil,.nil,.nil])),(aN (.sto 4 (.t 9) (.t 34)))])
 (.seq (.reg [0,99,5,7,8,9] [
 (aO 36 (.ld true 5 (.t 8))),(aO 37 (.ld true 4 (.t 9))),(aO 38 (.ld true 3 (.t 5))),(aO 39 (.cal 8 [(.t 36),(.t 37),(.t 38)])),(aO 35 (.mv (.t 39))),(aO 40 (.ext (.t 35) 0)),(aO 41 (.ext (.t 35) 1)),(aO 10 (.alc [.nil,.nil,.nil,.nil])),(aN (.sto 4 (.t 10) (.t 40))),(aO 11 (.mv (.t 41)))])
 (.seq (.reg [0,99,7,8,9,10,11] [
 (aO 42 (.ld true 5 (.t 8))),(aO 43 (.ld true 4 (.t 9))),(aO 44 (.cal 9 [(.t 42),(.t 43)])),(aO 12 (.alc [.nil,zI])),(aN (.sto 2 (.t 12) (.t 44)))])
 (.seq (.reg [0,99,7,8,9,10,11,12] [
 (aO 45 (.ld true 5 (.t 8))),(aO 46 (.ld true 4 (.t 10))),(aO 47 (.cal 9 [(.t 45),(.t 46)])),(aO 13 (.alc [.nil,zI])),(aN (.sto 2 (.t 13) (.t 47)))])
 (.seq (.seq (.reg [0,99,7,8,9,10,11,12,13] [
 (aO 48 (.fa 1 (.t 12))),(aO 49 (.ld false 1 (.t 48))),(aO 50 (.cmp .neq .i64 (.t 49) (kI 0))),(aO 51 (.mv (.t 50))),⟨some 52,some (51,false),.fa 1 (.t 13)⟩,⟨some 53,some (51,false),.ld false 1 (.t 52)⟩,⟨some 54,some (51,false),.cmp .neq .i64 (.t 53) (kI 0)⟩,(aO 55 (.pick (.t 51) (.c (.sc (.bool true))) (.t 54)))])
 (.cut [0,99,7,8,9,10,11,12,13,55] (.cond (.t 55)
 (.seq (.reg [0,99] [
 (aO 6 (.mv (.c (.sc (.bool false)))))])
 .ret)
 .skip)))
 (.seq (.reg [0,99,7,8,9,10,11,12,13] [
 (aO 57 (.ld true 4 (.t 9))),(aO 58 (.ld true 4 (.t 10))),(aO 59 (.cal 10 [(.t 57),(.t 58)])),(aO 56 (.mv (.t 59))),(aO 60 (.ext (.t 56) 0)),(aO 61 (.ext (.t 56) 1)),(aO 14 (.mv (.t 60))),(aO 15 (.mv (.t 61)))])
 (.seq (.seq (.reg [0,99,7,8,11,12,13,14,15] [
 (aO 62 (.mv (.t 14))),(aO 63 (.len (.t 62))),(aO 64 (.mv (.t 15))),(aO 65 (.len (.t 64))),(aO 66 (.ari .add true .i64 (.t 63) (.t 65))),(aO 67 (.cmp .eql .i64 (.t 66) (kI 0)))])
 (.cond (.t 67)
 (.seq (.reg [0,99,7,12,13] [
 (aO 68 (.fa 0 (.t 12))),(aO 69 (.ld false 1 (.t 68))),(aO 70 (.fa 0 (.t 13))),(aO 71 (.ld false 1 (.t 70))),(aO 72 (.cal 11 [(.t 69),(.t 71)])),(aO 73 (.mv (.t 72))),⟨some 74,some (73,true),.mv (.t 7)⟩,(aO 75 (.pick (.t 73) (.t 74) (.c (.sc (.bool false))))),(aO 6 (.mv (.t 75)))])
 .ret)
 .skip))
 (.seq (.seq (.drw [0,99,7,8,11,12,13,14] [
 (eF 76 (.mv (.t 14))),(eF 77 (.len (.t 76))),(eF 78 (.cmp .eql .i64 (.t 77) (kI 1))),(eF 79 (.mv (.t 78))),⟨⟨some 80,some (79,true),.ld true 5 (.t 8)⟩,[],[],true⟩,⟨⟨some 81,some (79,true),.mv (.t 14)⟩,[],[],true⟩,⟨⟨some 82,some (79,true),.ixs 1 (.t 81) (kI 0)⟩,[],[],true⟩,⟨⟨some 83,some (79,true),.ld false 1 (.t 82)⟩,[],[],true⟩,⟨⟨some 84,some (79,true),.cal 12 [(.t 80),(.t 83)]⟩,[],[],true⟩,⟨⟨some 85,some (79,true),.mv (.t 11)⟩,[],[],true⟩,⟨⟨some 86,some (79,true),.cmp .neq .i64 (.t 84) (.t 85)⟩,[],[],false⟩,(eF 87 (.pick (.t 79) (.t 86) (.c (.sc (.bool false)))))])
 (.cut [0,99,7,11,12,13,87] (.cond (.t 87)
 (.seq (.reg [0,99] [
 (aO 6 (.mv (.c (.sc (.bool false)))))])
 .ret)
 .skip)))
 (.seq (.reg [0,99,7,11,12,13] [
 (aO 88 (.fa 0 (.t 12))),(aO 89 (.ld false 1 (.t 88))),(aO 90 (.fa 0 (.t 13))),(aO 91 (.ld false 1 (.t 90))),(aO 92 (.cal 14 [(.t 89),(.t 91)])),(aO 93 (.mv (.t 11))),(aO 94 (.bsl 1 3 [zI] 1 [(0,(.t 93))])),(aO 95 (.cal 13 [(.t 92),(.t 94)])),(aO 96 (.mv (.t 95))),⟨some 97,some (96,true),.mv (.t 7)⟩,(aO 98 (.pick (.t 96) (.t 97) (.c (.sc (.bool false))))),(aO 6 (.mv (.t 98)))])
 .ret)))))))))))))
def rv3:List RV:=[.tmp 6]
theorem ok3:fnOk Tryz.prog ac3 rv3 Tryz.f3=true:=by kernel_rfl
end Go.Proofs.YtecoaapkcnhlhabGreatDoor.Txt
namespace Go.Proofs.YtecoaapkcnhlhabGreatDoor
open Go Go.Vc Go.Ham Txt
theorem qKt(g:Grid)(hg:GOk g)(n:Int)(hn:0<=n/\n<=1000000000):FnEq Tryz.prog 25 [.agg (quX false g),.int n] (.int (colF g n)):=by
 have h1:=hg.count
 have h2:=hg.each
 have h3:=hg.tracks
 have h4:=hg.w
 have h5:=hg.wh
 refine FnEq.of_awp Tryz.func25 ok25 (by show 2<=_;decide) (by simp only[push_cast,reduceIte,zA,zB,zC,zD,zE,zF,zG,reduceCtorEq,zH,zJ,cNI]<;>first|exact fun _ _=>trivial|simp) ?_
 simp only[ac25,rv25,push_cast,reduceIte,zA,zB,zC,zD,zE,zF,zG,reduceCtorEq,zH,zJ,cNI]
 rw[decide_eq_false (show ¬n<0 by omega)]
 refine sB ?_
 refine qrv (qv7 g hg) sC ?_
 refine sB ?_
 have hq:0<=n/qv1 g:=Int.ediv_nonneg hn.1 oM
 have hq2:n/qv1 g<=n:=Int.ediv_le_self _ hn.1
 unfold colF
 refine qnY (fun h=> ?_) fun h=> ?_
 ·rw[if_pos h]
  done
 rw[if_neg h]
 refine qrv (qv6 g hg) sC ?_
 refine sB ?_
 iterate 2 (refine And.intro oM ?_)
 refine qnY (fun h=> ?_) fun h=> ?_
 ·rw[if_pos h]
 ·rw[if_neg h]
  exact⟨⟨hq,oM,oM⟩,rfl⟩
theorem frz4 (g : Grid) (c : Cfg) (b5 : List PV) (k : Nat) (t : Int) (A B C D : List Int) (nA nB nC nD : Nat) (h1 : nA = A.length) (h2 : nB = B.length) (h3 : nC = C.length) (h4 : nD = D.length) (h5 : b5.map (PV.fz 11 ⟨1, 3, ints A⟩) = b5) (h6 : b5.map (PV.fz 15 ⟨1, 3, ints B⟩) = b5) (h7 : b5.map (PV.fz 19 ⟨1, 3, ints C⟩) = b5) (h8 : b5.map (PV.fz 23 ⟨1, 3, ints D⟩) = b5) :
  SWk ⟨[(3,.ptr 3 0),(6,.ptr 6 0),(8,.ptr 8 0),(k,.int t)],[(3,quX false g),(4,cfgC false c),(5,b5),(6,[.nil,.nil,.nil,.nil]),(8,[.view 11 0 nA,.view 15 0 nB,.view 19 0 nC,.view 23 0 nD])],[(11,⟨1,3,ints A⟩),(15,⟨1,3,ints B⟩),(19,⟨1,3,ints C⟩),(23,⟨1,3,ints D⟩)],[]⟩
   ⟨[(3,.ptr 3 0),(6,.ptr 6 0),(8,.ptr 8 0),(k,.int t)],[(3,quX false g),(4,cfgC false c),(5,b5),(6,[.nil,.nil,.nil,.nil]),(8,[.sl true 1 (ints A),.sl true 1 (ints B),.sl true 1 (ints C),.sl true 1 (ints D)])],[],[]⟩:=by
 subst h1 h2 h3 h4
 refine SWk.trans (SWk.frz _ 11) (SWk.trans (SWk.frz _ 15) (SWk.trans (SWk.frz _ 19) (SWk.trans (SWk.frz _ 23) (SWk.eq ?_))))
 have e: ∀l:List Int,((ints l).drop 0).take l.length=ints l:=fun l=>by rw[List.drop_zero,zY (by simp[rows])]
 show(⟨[(3,.ptr 3 0),(6,.ptr 6 0),(8,.ptr 8 0),(k,.int t)],[(3,quX false g),(4,cfgC false c),(5,(((b5.map (PV.fz 11 ⟨1,3,ints A⟩)).map (PV.fz 15 ⟨1,3,ints B⟩)).map (PV.fz 19 ⟨1,3,ints C⟩)).map (PV.fz 23 ⟨1,3,ints D⟩)),(6,[.nil,.nil,.nil,.nil]),(8,[.sl true 1 (((ints A).drop 0).take A.length),.sl true 1 (((ints B).drop 0).take B.length),.sl true 1 (((ints C).drop 0).take C.length),.sl true 1 (((ints D).drop 0).take D.length)])],[],[]⟩:St)=_
 rw[e,e,e,e,h5,h6,h7,h8]
theorem qKu (g : Grid) (hg : GOk g) (c : Cfg) (hc : CfgSm c) (hm : c.mode.length = g.kind.length) (ht : c.tab.length = g.kind.length) (hr : c.ram.length = g.kind.length) (k0 k1 k2 : Int) (h0 : 128 <= k0 /\ k0 <= 255) (h1 : 0 <= k1 /\ k1 <= 255) (h2 : 0 <= k2 /\ k2 <= 255) (t : Nat) (e : k1 % (g.kind.length : Int) = t) :
  FnEq Tryz.prog 8 [.agg (quX false g),.agg (cfgC false c),.agg [.sc (.int .u8 k0),.sc (.int .u8 k1),.sc (.int .u8 k2)]]
   (.tup [.agg (cfgC true (if g.kind.getD t 0≠0 then chgT c t k2 else c)),.int ((t%wN g:Nat):Int)]):=by
 obtain⟨s1,s2,s3,s4⟩:=hc
 have hw:=hg.w
 have hwh:=hg.wh
 have hk:=hg.kind
 have q:=hg.n
 have hkl:1<=g.kind.length:=by omega
 have htl:t<g.kind.length:=by
  have:=Int.emod_lt_of_pos k1 (show 0<(g.kind.length:Int)by omega)
  omega
 have e:k1%(c.mode.length:Int)=t:=by rw[hm];exact e
 have hwN:=q.w
 have hwt:(t:Int)%g.w=((t%wN g:Nat):Int):=by rw[<- hwN];rfl
 refine FnEq.of_awp Tryz.func8 ok8 (by show 3<=_;decide) (by simp only[push_cast,reduceIte,zA,zB,zC,zD,zE,zF,zG,reduceCtorEq,zH,zJ,cNI]<;>first|exact fun _ _=>trivial|simp) ?_
 by_cases hne:g.kind.getD t 0≠0
 ·rw[if_pos hne]
  unfold chgT
  simp only[ac8,rv8,push_cast,reduceIte,zA,zB,zC,zD,zE,zF,zG,reduceCtorEq,zH,zJ,cNI]
  simp only[List.replicate_zero,List.nil_append,List.length_nil,e,push_cast,reduceIte,zA,zB,zC,zD,zE,zF,zG,reduceCtorEq,zH,zJ,cNI]
  iterate 5 (refine And.intro oM ?_)
  refine qnY (fun _=> ?_) fun h=>absurd h0.1 h
  iterate 6 (try refine And.intro oM ?_)
  refine qnY (fun _=> ?_) fun h=>absurd hne h
  iterate 14 (try refine And.intro oM ?_)
  refine qr9 _ (SWk.trans (SWk.dropS (fun i=>inL [3,6,8,9] i) (fun _=>true) (fun _=>true)) (frz4 g c [.sc (.int .u8 k0),.sc (.int .u8 k1),.sc (.int .u8 k2)] 9 t c.sel (c.mode.set t 2) (c.tab.set t (257*k2)) (c.ram.set t k2) _ _ _ _ rfl (by simp) (by simp) (by simp) rfl rfl rfl rfl)) ?_
  refine sB ?_
  exact⟨⟨oM,oM,oM⟩,⟨fun _ _=>trivial,fun _ _=>trivial,fun _ _=>trivial,fun _ _=>trivial⟩,by rw[hwN]⟩
 ·rw[if_neg hne]
  simp only[ac8,rv8,push_cast,reduceIte,zA,zB,zC,zD,zE,zF,zG,reduceCtorEq,zH,zJ,cNI]
  simp only[List.replicate_zero,List.nil_append,List.length_nil,e,push_cast,reduceIte,zA,zB,zC,zD,zE,zF,zG,reduceCtorEq,zH,zJ,cNI]
  iterate 5 (refine And.intro oM ?_)
  refine qnY (fun _=> ?_) fun h=>absurd h0.1 h
  iterate 6 (try refine And.intro oM ?_)
  refine qnY (fun h=>absurd h hne) fun _=> ?_
  iterate 3 (try refine And.intro oM ?_)
  refine qr9 _ (SWk.trans (SWk.dropS (fun i=>inL [3,6,8,9] i) (fun _=>true) (fun _=>true)) (frz4 g c [.sc (.int .u8 k0),.sc (.int .u8 k1),.sc (.int .u8 k2)] 9 t c.sel c.mode c.tab c.ram _ _ _ _ rfl rfl rfl rfl rfl rfl rfl rfl)) ?_
  refine sB ?_
  exact⟨⟨oM,oM,oM⟩,⟨fun _ _=>trivial,fun _ _=>trivial,fun _ _=>trivial,fun _ _=>trivial⟩,by rw[hwN]⟩
theorem qKv (g : Grid) (hg : GOk g) (c : Cfg) (hc : CfgSm c) {n : Nat} (hn : n < cN g) (hnl : n < c.sel.length) (k0 k1 k2 : Int) (h0 : 0 <= k0 /\ k0 <= 127) (h1 : 0 <= k1 /\ k1 <= 255) (h2 : 0 <= k2 /\ k2 <= 255) (e : (256 * k0 + k1) % (c.sel.length : Int) = n) :
  FnEq Tryz.prog 8 [.agg (quX false g),.agg (cfgC false c),.agg [.sc (.int .u8 k0),.sc (.int .u8 k1),.sc (.int .u8 k2)]]
   (.tup [.agg (cfgC true (chgN c n (k2%(1+((qwb g n).length:Int))))),.int (colF g (n:Int))]):=by
 obtain⟨s1,s2,s3,s4⟩:=hc
 have hct:=hg.count
 have hnc:(n:Int)<qv2 g:=by rw[<- hg.n.c];omega
 have hdr:=qwq g hg n ⟨oM,oM⟩
 rw[<- qy3 hg]at hdr
 have hdl:=qxu g hg n
 have hco:=qKt g hg n ⟨oM,oM⟩
 refine FnEq.of_awp Tryz.func8 ok8 (by show 3<=_;decide) (by simp only[push_cast,reduceIte,zA,zB,zC,zD,zE,zF,zG,reduceCtorEq,zH,zJ,cNI]<;>first|exact fun _ _=>trivial|simp) ?_
 simp only[ac8,rv8,push_cast,reduceIte,zA,zB,zC,zD,zE,zF,zG,reduceCtorEq,zH,zJ,cNI]
 simp only[List.replicate_zero,List.nil_append,List.length_nil,e,push_cast,reduceIte,zA,zB,zC,zD,zE,zF,zG,reduceCtorEq,zH,zJ,cNI]
 iterate 5 (refine And.intro oM ?_)
 refine qnY (fun h=>absurd h oM) fun _=> ?_
 iterate 14 (try refine And.intro oM ?_)
 refine qrx hdr (by exact⟨.refl _,.refl _,trivial⟩) rfl ?_
 refine sB ?_
 have hv0:=Int.emod_nonneg k2 (show 1+((qwb g n).length:Int)≠0 by omega)
 iterate 10 (try refine And.intro oM ?_)
 unfold chgN
 generalize k2%(1+((qwb g n).length:Int))=v at *
 refine qr9 _ (SWk.trans (SWk.dropS (fun i=>inL [3,6,8,10] i) (fun _=>true) (fun _=>true)) (frz4 g c [.sc (.int .u8 k0),.sc (.int .u8 k1),.sc (.int .u8 k2)] 10 n (c.sel.set n v) c.mode c.tab c.ram _ _ _ _ (by simp) rfl rfl rfl rfl rfl rfl rfl)) ?_
 refine sB ?_
 refine qrx hco (by exact⟨.refl _,.refl _,trivial⟩) rfl ?_
 refine sB ?_
 exact⟨fun _ _=>trivial,fun _ _=>trivial,fun _ _=>trivial,fun _ _=>trivial⟩
end Go.Proofs.YtecoaapkcnhlhabGreatDoor
namespace Go.Proofs.YtecoaapkcnhlhabGreatDoor
open Go Go.Vc Go.Ham Txt
theorem qKw{c d:Cfg}(hc:CfgSm c)(hd:CfgSm d):(qyo c d).1.length<=1000000/\(qyo c d).2.length<=3000000:=by
 have h1:=qyp c.sel d.sel hc.sel hd.sel
 have h2:=qyp c.mode d.mode hc.mode hd.mode
 have h3:=qyp c.tab d.tab hc.tab hd.tab
 have h4:=qyp c.ram d.ram hc.ram hd.ram
 refine⟨by show(qyg c.sel d.sel).length<=_;omega,?_⟩
 have hcp: ∀zs:List Int,(Go.Lib.compact zs).length<=zs.length:=fun zs=>by
  show(((List.range zs.length).filter _).map _).length<=_
  rw[yG]
  exact Nat.le_trans (List.length_filter_le _ _) (by simp)
 have hs:(qvR (qyn c d)).length=(qyn c d).length:=List.length_mergeSort _
 have ht:(qyn c d).length=(qyg c.mode d.mode).length+(qyg c.tab d.tab).length+(qyg c.ram d.ram).length:=by simp[qyn,Nat.add_assoc]
 have:=hcp (qvR (qyn c d))
 show(Go.Lib.compact (qvR (qyn c d))).length<=_
 omega
structure Loc (g:Grid) (c d:Cfg) (col:Nat):Prop where
 valid:validE g d=0
 same:c=d->qDx g c=qDx g d
 diff:c≠d->qGz (qDx g c) (qDx g d)=[(col:Int)]
 none:c=d->(qyo c d).1.length+(qyo c d).2.length=0
 some:c≠d->(qyo c d).1.length+(qyo c d).2.length≠0
 node:(qyo c d).1.length=1->0<=(qyo c d).1.getD 0 default/\(qyo c d).1.getD 0 default<=1000000000/\colF g ((qyo c d).1.getD 0 default)=(col:Int)
 lt:col<=64
theorem qKx {g : Grid} (hg : GOk g) {c : Cfg} (hv : validE g c = 0) {k0 k1 k2 : Int} (h0 : 0 <= k0 /\ k0 <= 255) (h1 : 0 <= k1 /\ k1 <= 255) (h2 : 0 <= k2 /\ k2 <= 255) :
  ∃d col,FnEq Tryz.prog 8 [.agg (quX false g),.agg (cfgC false c),.agg [.sc (.int .u8 k0),.sc (.int .u8 k1),.sc (.int .u8 k2)]] (.tup [.agg (cfgC true d),.int (col:Nat)])/\Loc g c d col:=by
 obtain⟨⟨l1,l2,l3,l4⟩,hs,ht⟩:=(qDs g c).1 hv
 have hcm:CfgSm c:=qJi hg ⟨l1,l2,l3,l4⟩
 have q:=hg.n
 have hkl:1<=g.kind.length:=by
  have:=Nat.mul_le_mul q.w1 q.h1
  rw[q.k];exact this
 have hcn:8<=qv2 g/\qv2 g<=600000:=hg.count
 by_cases hk:128<=k0
 ·obtain⟨t,e⟩: ∃t:Nat,k1%(g.kind.length:Int)=t:=⟨(k1%(g.kind.length:Int)).toNat,by have:=Int.emod_nonneg k1 (show(g.kind.length:Int)≠0 by omega);omega⟩
  have htl:t<g.kind.length:=by
   have:=Int.emod_lt_of_pos k1 (show 0<(g.kind.length:Int)by omega)
   omega
  have hcol:t%wN g<wN g+1:=by have:=Nat.mod_lt t (show wN g>0 from q.w1);omega
  refine⟨_,_,qKu g hg c hcm l2 l3 l4 k0 k1 k2 ⟨hk,h0.2⟩ h1 h2 t e,?_⟩
  by_cases hne:g.kind.getD t 0≠0
  ·rw[if_pos hne]
   have hd:=qKp hv (t:=t) h2 hne
   obtain⟨d1,d2⟩:=qKr c (t:=t) oM oM oM k2
   obtain⟨e1,e2⟩:=qKj hg hv hd hcol fun f hf hx=>qKq hg c htl k2 hf hx
   refine⟨hd,e1,e2,fun h=> ?_,fun h=> ?_,fun h=> ?_,by have:=q.w2;omega⟩
   ·rw[d1,d2.2 h];rfl
   ·rw[d1]
    intro hz
    exact h (d2.1 (List.eq_nil_of_length_eq_zero (by simpa using hz)))
   ·rw[d1]at h;cases h
  ·rw[if_neg hne]
   have hdf:=qKe c
   exact⟨hv,fun _=>rfl,fun h=>absurd rfl h,fun _=>by rw[hdf];rfl,fun h=>absurd rfl h,fun h=>(by rw[hdf]at h;cases h),by have:=q.w2;omega⟩
 ·obtain⟨n,e⟩: ∃n:Nat,(256*k0+k1)%(c.sel.length:Int)=n:=⟨((256*k0+k1)%(c.sel.length:Int)).toNat,by have:=Int.emod_nonneg (256*k0+k1) (show(c.sel.length:Int)≠0 by omega);omega⟩
  have hnl:n<c.sel.length:=by
   have:=Int.emod_lt_of_pos (256*k0+k1) (show 0<(c.sel.length:Int)by omega)
   omega
  have hnc:n<cN g:=by rw[l1]at hnl;exact hnl
  have hcx:=qKs hg hnc
  have hch:=qKv g hg c hcm hnc hnl k0 k1 k2 ⟨h0.1,oM⟩ h1 h2 e
  rw[hcx]at hch
  have hdl:0<1+((qwb g n).length:Int):=by omega
  have m1:=Int.emod_nonneg k2 (show 1+((qwb g n).length:Int)≠0 by omega)
  have m2:=Int.emod_lt_of_pos k2 hdl
  have hd:=qKk hv (n:=n) (v:=k2%(1+((qwb g n).length:Int))) ⟨m1,oM⟩
  obtain⟨e1,e2⟩:=qKj hg hv hd (qKn hg n) fun f hf hx=>qKm hg c hnc _ hf hx
  refine⟨_,_,hch,hd,e1,e2,fun h=> ?_,fun h=> ?_,fun h=> ?_,by have:=qKn hg n;have:=q.w2;omega⟩
  ·rcases qKo c hnl (k2%(1+((qwb g n).length:Int)))with⟨_,h5⟩|⟨h5,_⟩
   ·rw[h5];rfl
   ·exact absurd h h5
  ·rcases qKo c hnl (k2%(1+((qwb g n).length:Int)))with⟨h5,_⟩|⟨_,h5⟩
   ·exact absurd h5 h
   ·rw[h5];simp
  ·rcases qKo c hnl (k2%(1+((qwb g n).length:Int)))with⟨_,h5⟩|⟨_,h5⟩
   ·rw[h5]at h;cases h
   ·rw[h5]
    exact⟨Int.natCast_nonneg n,by show(n:Int)<=1000000000;omega,hcx⟩
set_option maxHeartbeats 1000000 in
theorem qKy (x : RawG) (hx : x.By) (l : List Int) (hl : (l.length : Int) <= 9223372036854775807) (hb : ∀ b ∈ l, 0 <= b /\ b <= 255) (k0 k1 k2 : Int) (h0 : 0 <= k0 /\ k0 <= 255) (h1 : 0 <= k1 /\ k1 <= 255) (h2 : 0 <= k2 /\ k2 <= 255) :
  FnEq Tryz.prog 3 [.agg (qyQ false x),.sl false 1 (qkf l),.agg [.sc (.int .u8 k0),.sc (.int .u8 k1),.sc (.int .u8 k2)]] (.bool true):=by
 have hg:=(qyU x).1
 have hm:=qyT x hx.ok
 have hw:=qz4 (qyS x) hg l hl hb
 have hv:=qJs hg hb
 have hsm:=qJ1 x hx
 have hes:=fun c=>qJt x c
 obtain⟨d,col,hch,hL⟩:=qKx hg hv h0 h1 h2
 have hen:=qJm (qyS x) hg (qyZ (qyS x) l)
 have hed:=qJm (qyS x) hg d
 unfold encL encE at hen hed
 rw[if_pos hv,if_pos hv]at hen
 rw[if_pos hL.valid,if_pos hL.valid]at hed
 have hcm:CfgSm (qyZ (qyS x) l):=qJi hg ((qDs _ _).1 hv).1
 have hdm:CfgSm d:=qJi hg ((qDs _ _).1 hL.valid).1
 have hdf:=qyq (qyZ (qyS x) l) d hcm hdm
 have hds:=qKw hcm hdm
 have hF:=hes (qyZ (qyS x) l)
 have hD:=hes d
 have hcd:=qF6 (qyS x) hg
 obtain⟨_,v2,v3,v4,v5,v6,v7⟩:=hL
 generalize qyZ (qyS x) l=c at *
 generalize qyS x=g at *
 have hsame:=qGF _ _ hF hD
 have hdi:=qGK _ _ hF hD
 generalize qDx g c=F at *
 generalize qDx g d=D at *
 generalize (qyo c d).1=X at *
 generalize (qyo c d).2=Y at *
 have hgs:Sub (.agg (quX true g)) (.agg (quX false g)):=Sub.aggL ⟨.refl _,.refl _,.refl _,.refl _,.slp _ _ _ _ (fun h=>by cases h),trivial⟩
 have hcs2: ∀c:Cfg,Sub (.agg (cfgC true c)) (.agg (cfgC false c)):=fun c=>Sub.aggL ⟨.slp _ _ _ _ (fun h=>by cases h),.slp _ _ _ _ (fun h=>by cases h),.slp _ _ _ _ (fun h=>by cases h),.slp _ _ _ _ (fun h=>by cases h),trivial⟩
 refine FnEq.of_awp Tryz.func3 ok3 (by show 3<=_;decide) (by simp only[push_cast,reduceIte,zA,zB,zC,zD,zE,zF,zG,reduceCtorEq,zH,zJ,cNI]<;>first|exact fun _ _=>trivial|simp) ?_
 simp only[ac3,rv3,push_cast,reduceIte,zA,zB,zC,zD,zE,zF,zG,reduceCtorEq,zH,zJ,cNI]
 refine qoM qJh ?_
 refine sB ?_
 refine qoM hsm ?_
 refine sB ?_
 refine qrC rfl (fun e=> ?_) fun e=> ?_<;>simp only[push_cast,reduceIte,zA,zB,zC,zD,zE,zF,zG,reduceCtorEq,zH,zJ,cNI]
 refine qnY (fun _=>trivial) fun e3=> ?_
 refine qoM hm ?_
 refine sB ?_
 refine qrv hw sC ?_
 refine sB ?_
 refine qrv hch (by exact⟨hgs,hcs2 c,.refl _,trivial⟩) ?_
 refine sB ?_
 refine qrv hen (by exact⟨hgs,hcs2 c,trivial⟩) ?_
 refine sB ?_
 refine qrv hed (by exact⟨hgs,hcs2 d,trivial⟩) ?_
 refine sB ?_
 refine qrA rfl (fun e4=>absurd rfl e4) fun _=> ?_
 refine sB ?_
 refine qnY (fun e5=>absurd rfl e5) fun _=> ?_
 refine qrv hdf (by exact⟨hcs2 c,hcs2 d,trivial⟩) ?_
 refine sB ?_
 refine⟨oM,?_⟩
 refine qnY (fun hz=> ?_) fun hz=> ?_
 ·have he:c=d:=Classical.byContradiction fun q=>v5 q oM
  rw[decide_eq_true (v2 he)]at hsame
  refine qrv hsame (by exact⟨qJ9 true _,qJ9 true _,trivial⟩) ?_
  exact sC
 have hne:c≠d:=fun q=>hz (by have:=v4 q;omega)
 have v3:=v3 hne
 refine qrI ⟨[(7,.bool true),(11,.int col),(12,.ptr 12 0),(13,.ptr 13 0),(87,.bool false)],[(3,qyQ false x),(5,[.sc (.int .u8 k0),.sc (.int .u8 k1),.sc (.int .u8 k2)]),(8,quX true g),(9,cfgC true c),(10,cfgC true d),(12,[.sl true 1 (rows (frmC true) F),.int 0]),(13,[.sl true 1 (rows (frmC true) D),.int 0])],[],[]⟩ ?_ ?_
 ·refine sB ?_
  refine qrD rfl (fun h1=> ?_) fun h1=> ?_<;>simp only[push_cast,reduceIte,zA,zB,zC,zD,zE,zF,zG,reduceCtorEq,zH,zJ,cNI]
  obtain⟨w1,w2,w3⟩:=v6 oM
  have hcd:=hcd (X.getD 0 default) ⟨w1,w2⟩
  rw[w3]at hcd
  refine⟨oM,oM,?_⟩
  refine qrx hcd (by exact⟨hgs,.refl _,trivial⟩) rfl ?_
  refine sB ?_
  rw[decide_eq_false (fun h=>h rfl)]
 ·refine sB ?_
  refine qrv hdi (by exact⟨qJ9 true _,qJ9 true _,trivial⟩) ?_
  rw[v3]
  simp only[rep1,List.set_cons_zero,zV,List.length_nil,push_cast,reduceIte,zA,zB,zC,zD,zE,zF,zG,reduceCtorEq,zH,zJ,cNI]
  have hri:=qGy [(col:Int)] [(col:Int)] (by show(1:Int)<=_;decide) (by show(1:Int)<=_;decide)
  rw[decide_eq_true rfl]at hri
  try refine And.intro (by decide) ?_
  refine qrv hri (by exact⟨.slp _ _ _ _ (fun h=>by cases h),.refl _,trivial⟩) ?_
  exact sC
end Go.Proofs.YtecoaapkcnhlhabGreatDoor
namespace Go.Proofs.YtecoaapkcnhlhabGreatDoor
open Go Go.ChangeShapes Go.WideShapes Go.ChangeAt Go.RowKit Go.Vc
theorem qKz:qrL Tryz.prog 9 24 qzq=true:=by kernel_rfl
theorem slU:Tryz.prog.underlying 22=some (.slice 5):=by kernel_rfl
theorem qKA:qrL Tryz.prog 9 22 [.sl 1 [.i .u8]]=true:=by kernel_rfl
theorem qKB:qrL Tryz.prog 9 25 (List.replicate 3 (.i .u8))=true:=by kernel_rfl
theorem qKC {f : Nat} (hok : ∀ (x : RawG), x.By -> ∀ (l : List Int), (l.length : Int) <= 9223372036854775807 -> (∀ b ∈ l, 0 <= b /\ b <= 255) -> ∀ k0 k1 k2 : Int, 0 <= k0 /\ k0 <= 255 -> 0 <= k1 /\ k1 <= 255 -> 0 <= k2 /\ k2 <= 255 ->
   FnEq Tryz.prog f [.agg (qyQ false x),.sl false 1 (qkf l),.agg [.sc (.int .u8 k0),.sc (.int .u8 k1),.sc (.int .u8 k2)]] (.bool true))
  {a c:List PV} {b:PV} (ha:RowV qzq a) (hb:qrM (.sl 1 [.i .u8]) b) (hc:RowV (List.replicate 3 (.i .u8)) c):FnEq Tryz.prog f [.agg a,b,.agg c] (.bool true):=by
 obtain⟨x,hx,rfl⟩:=qzA ha
 obtain⟨l,rfl,h1,h2⟩:=qzx hb
 obtain⟨k,rfl,hk,hv⟩:=qzz hc
 match k,hk,hv with
 |[k0,k1,k2],_,hv=>exact FnOK.sub (hok x hx l h1 h2 k0 k1 k2 (hv _ (by simp)) (hv _ (by simp)) (hv _ (by simp))) ⟨qJD x,.slp _ _ _ _ (fun h=>by cases h),.refl _,trivial⟩
theorem Tryz.own:ownKnob Tryz.prog.godebug=none:=by kernel_rfl
theorem Tryz.laidOut:laidOutB Tryz.prog=true:=by kernel_rfl
theorem qKD:Tryz.prog.underlying 4=some .bool:=by kernel_rfl
theorem qKE:Tryz.f3.params= #[24,22,25]:=by kernel_rfl
def qKF : List (String × DataW Unit) := [("math/bits.deBruijn64tab", Rows.laid_math_bits_deBruijn64tab)]
theorem qKG(os:Os)(args:Array Value):laidMetH Tryz.prog qKF ((World.doorLaid Tryz.prog 14 os).forCall (fun _ _=>0) ⟨#[],args,[]⟩).memory:=
 laidMetH_of_parts3 (fuel:=8) (laidMet_of_run' 8 (by kernel_rfl) (by kernel_rfl)) (by kernel_rfl) (by kernel_rfl)
theorem qKH{w:World}(h:laidMetH Tryz.prog qKF w):GL Tryz.prog w:=
 qJy (g:=0) (t:=154) (e:=5) (D:=Rows.laid_math_bits_deBruijn64tab) (by kernel_rfl) (by kernel_rfl) (by kernel_rfl) (by kernel_rfl) (by kernel_rfl) (by kernel_rfl) (by rfl) h
set_option maxRecDepth 100000 in
theorem local_lifted (os : Os) (started : os.Started) (H : Type) (enc : TypeId × Value -> H) :
  ReturnsInHanded {} Tryz.checked os 3 .any (fun w args=>(Rows.framesLocalSpec.pre enc Tryz.prog Tryz.f3 [] false w args/\laidMetH Tryz.prog qKF w)/\sizedMet enc Tryz.prog Tryz.f3 (OpenSpec.ofChange Rows.framesLocalSpec) false w args) (Rows.framesLocalSpec.post enc Tryz.prog Tryz.f3 false true false false):=by
 refine returnsInHanded_of_change_and (C:=Tryz.checked) (X:=fun w _=>laidMetH Tryz.prog qKF w) (fun _ _ _ hh h=>h.of_heap hh) Tryz.own started (by kernel_rfl) Tryz.func3
  (ChangeSpec.witness_shaped (enc:=enc) (C:=Tryz.checked) (os:=os) (X:=fun w _=>laidMetH Tryz.prog qKF w) false (World.doorLaid Tryz.prog 14 os) #[.agg #[.int .u8 0,.int .u8 0,.int .u8 0,.int .u8 0,.slice none 0 0],.slice none 0 0,.agg #[.int .u8 0,.int .u8 0,.int .u8 0]] 8 rfl (World.shaped_of_RefB (by kernel_rfl) (by kernel_rfl)) (by kernel_rfl) (by kernel_rfl) (by kernel_rfl) (qKG os _)) ?_
 intro W base args ds gs before hval0 hW _ _ hL _
 have hval: ∀(j:Nat) t v,Tryz.f3.params[j]? =some t->args[j]? =some v->Value.okWide Tryz.prog W .any base t v:=hval0
 have hW' :=hW
 obtain⟨p,q,hA0,hV,rfl,hfz,hnd⟩:=hW
 have hA:DataW.TrodAll enc Tryz.prog W 0 (fun _=>true) true Tryz.f3.params.toList args.toList ds p:=hA0
 rw[qKE]at hA hval
 obtain⟨v0,v1,v2,d0,d1,d2,p0,p1,p2,rfl,rfl,rfl,h0,h1,h2⟩:=trodAll_three hA
 obtain⟨rfl,rfl⟩:=trodVars_none hV
 obtain⟨a,ra,ta⟩:=qrV qKz (by kernel_rfl) (hval 0 _ v0 rfl rfl) h0
 obtain⟨b,rb,tb⟩:=argC qKA (okSl slU (hval 1 _ v1 rfl rfl)) h1
 obtain⟨c,rc,tc⟩:=qrV qKB (by kernel_rfl) (hval 2 _ v2 rfl rfl) h2
 have hlt: ∀x∈p0++p1++p2,x.block<W.heap.size:=fun x hx=>hW'.lt x (by simpa using hx)
 refine(qrX (qKH hL) (qKC qKy ra rb rc) rfl fun j cc hj=> ?_).mono fun e W' ⟨he,hb⟩=> ?_
 ·match j with
  |0=>simp at hj;subst hj;exact ta
  |1=>simp at hj;subst hj;exact tb
  |2=>simp at hj;subst hj;exact tc
  |j+3=>simp at hj
 ·refine⟨_,he,_,_,_,[],_,[],hW',?_,trodAll_mk3 (Below.trod Tryz.laidOut (by kernel_rfl) (of_decide_eq_true (by kernel_rfl)) h0 hb fun x hx=>hlt x (by simp[hx])) (Below.trod Tryz.laidOut (by kernel_rfl) (of_decide_eq_true (by kernel_rfl)) h1 hb fun x hx=>hlt x (by simp[hx])) (Below.trod Tryz.laidOut (by kernel_rfl) (of_decide_eq_true (by kernel_rfl)) h2 hb fun x hx=>hlt x (by simp[hx])),rfl,hb.frame _,fun h=>by cases h⟩
  exact trodAll_mk1 (shut_bool qKD true)
theorem qKI:Rows.FramesLocalSaid:=
 OpenClaim.holds_of_wide 3 Tryz.f3 rfl rfl rfl rfl rfl rfl rfl ⟨rfl,rfl,rfl,rfl,rfl⟩ rfl rfl rfl rfl rfl (by kernel_rfl) Tryz.func3 (by kernel_rfl)
  (of_decide_eq_true (by kernel_rfl)) (by unfold Func.isWrapper;first|(rw[if_pos (by decide+kernel)];kernel_rfl)|(rw[if_neg (by decide+kernel)];exact⟨rfl,rfl⟩))
  (fun os started H enc _=>local_lifted os started H enc)
theorem local_holds:Rows.FramesLocalCardSaid:=
 Claim7.holds_tied_plain_at .later [] [.data] true (true, "71a9bce34150899aa9c20869352b3a237457b30f965a96a0681bf823574b4a16") false
  qKI (fun _ h=>by cases h) (by kernel_rfl) (fun _ h=>by cases h) framesLocal_row_tie rfl ⟨rfl,rfl⟩ (by kernel_rfl) rfl
  (fun f fn hf hfn=>by
   obtain rfl : f = 3 := Option.some.inj ((show Tryz.prog.funcNamed "wireloom/wireloomlaw38.FramesLocal" = some 3 by kernel_rfl).symm.trans hf) |>.symm
   obtain rfl:fn=Tryz.f3:=(Option.some.inj (Tryz.func3.symm.trans hfn)).symm
   exact⟨by kernel_rfl,fun j t ht=>by
    rw[qKE]at ht
    have hm:t∈[24,22,25]:=by simpa using Array.mem_of_getElem? ht
    have hall:([24,22,25].all fun u=> !Tryz.prog.wantsStandIn u)=true:=by kernel_rfl
    exact(show Tryz.prog.wantsStandIn t=false by simpa using yE.1 hall t hm)⟩)
  (by kernel_rfl)
end Go.Proofs.YtecoaapkcnhlhabGreatDoor
