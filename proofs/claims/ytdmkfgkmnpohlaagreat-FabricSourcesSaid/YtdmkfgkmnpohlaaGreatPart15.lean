/- TxtW VcZs VcZt GXa GX GXb GXc TxtX GY GYa: lemmas -/
import Derived.Test.YtdmkfgkmnpohlaaGreatPart06
import Derived.Test.YtdmkfgkmnpohlaaGreatChecked
import Derived.Test.YtdmkfgkmnpohlaaGreatPart08
import Derived.Test.YtdmkfgkmnpohlaaGreatPart09
import Derived.Test.YtdmkfgkmnpohlaaGreatPart10
import Derived.Test.YtdmkfgkmnpohlaaGreatPart14
set_option linter.unusedSimpArgs false
set_option linter.unusedVariables false
open Nat (reduceEqDiff reduceAdd reduceSub reduceMul reduceLT reduceLeDiff)
open Int (reduceToNat reduceNeg)
namespace Go.Proofs.YtdmkfgkmnpohlaaGreat.Txt
open Go Go.Vc
set_option maxRecDepth 100000
def ac70:AC:=
 (.seq (.reg [0,120,0,1,2,3] [
 (aO 4 (.box (.t 0))),(aO 5 (.box (.t 1))),(aO 8 (.mv (.c (.nil))))])
 (.seq (.reg [0,120,2,3,4,5] [
 (aO 12 (.fa 0 (.t 4))),(aO 13 (.ld false 1 (.t 12))),(aO 14 (.len (.t 13))),(aO 15 (.mks 1 4 1 [.sc (.bool false)] (.t 14) (.t 14))),(aO 9 (.mv (.t 15)))])
 (.seq (.seq (.reg [0,120,2,3,4,5,9] [
 (aO 16 (.fa 0 (.t 4))),(aO 17 (.ld false 1 (.t 16))),(aO 18 (.len (.t 17))),(aO 19 (.mv (kI 0)))])
 (.block 0
 (.loop [0,120,2,3,5,9,17,18,19]
 (.seq (.reg [0,120,2,3,5,9,17,18,19] [
 (aO 20 (.cmp .lss .i64 (.t 19) (.t 18)))])
 (.seq (.cond (.t 20)
 .skip
 (.exit 0))
 (.seq (.block 1
 (.seq (.reg [0,120,2,3,5,9,17,18,19] [
 (aO 21 (.mv (.t 19))),(aO 22 (.ixs 3 (.t 17) (.t 19))),(aO 23 (.ld true 3 (.t 22))),(aO 11 (.alc [zI,zI,zI])),(aO 10 (.mv (.t 21))),(aN (.sto 3 (.t 11) (.t 23)))])
 (.block 2
 (.seq (.reg [0,120,2,3,5,9,10,11,17,18,19] [
 (aO 25 (.fa 0 (.t 11))),(aO 26 (.ld false 1 (.t 25))),(aO 27 (.cmp .eql .i64 (.t 26) (kI 1))),(aO 28 (.mv (.t 27))),⟨some 29,some (28,true),.fa 1 (.t 11)⟩,⟨some 30,some (28,true),.ld false 1 (.t 29)⟩,⟨some 31,some (28,true),.fa 0 (.t 5)⟩,⟨some 32,some (28,true),.ld false 1 (.t 31)⟩,⟨some 33,some (28,true),.len (.t 32)⟩,⟨some 34,some (28,true),.cmp .lss .i64 (.t 30) (.t 33)⟩,(aO 35 (.pick (.t 28) (.t 34) (.c (.sc (.bool false))))),(aO 24 (.mv (.t 35)))])
 (.cut [0,120,2,3,5,9,10,11,17,18,19,24] (.cond (.t 24)
 (.drw [0,120,2,3,5,9,10,11,17,18,19] [
 (eT 36 (.mv (.t 9))),(eT 37 (.mv (.t 10))),(eT 38 (.fa 0 (.t 5))),(eT 39 (.ld false 1 (.t 38))),(eT 40 (.fa 1 (.t 11))),(eT 41 (.ld false 1 (.t 40))),(eT 42 (.ixs 1 (.t 39) (.t 41))),(eT 43 (.ld false 1 (.t 42))),(eT 44 (.fa 2 (.t 11))),(eT 45 (.ld false 1 (.t 44))),(eT 46 (.cal 88 [(.t 43),(.t 45)])),(eF 47 (.ixs 1 (.t 36) (.t 37))),⟨(aN (.sto 1 (.t 47) (.t 46))),[],[],false⟩])
 (.seq (.reg [0,120,2,3,5,9,10,11,17,18,19] [
 (aO 49 (.fa 0 (.t 11))),(aO 50 (.ld false 1 (.t 49))),(aO 51 (.cmp .eql .i64 (.t 50) (kI 2))),(aO 52 (.mv (.t 51))),⟨some 53,some (52,true),.fa 1 (.t 11)⟩,⟨some 54,some (52,true),.ld false 1 (.t 53)⟩,⟨some 55,some (52,true),.mv (.t 2)⟩,⟨some 56,some (52,true),.len (.t 55)⟩,⟨some 57,some (52,true),.cmp .lss .i64 (.t 54) (.t 56)⟩,(aO 58 (.pick (.t 52) (.t 57) (.c (.sc (.bool false))))),(aO 48 (.mv (.t 58)))])
 (.cut [0,120,2,3,5,9,10,11,17,18,19,48] (.cond (.t 48)
 (.drw [0,120,2,3,5,9,10,11,17,18,19] [
 (eT 59 (.mv (.t 9))),(eT 60 (.mv (.t 10))),(eT 61 (.mv (.t 2))),(eT 62 (.fa 1 (.t 11))),(eT 63 (.ld false 1 (.t 62))),(eT 64 (.ixs 2 (.t 61) (.t 63))),(eT 65 (.fa 0 (.t 64))),(eT 66 (.ld false 1 (.t 65))),(eT 67 (.mv (.t 66))),⟨⟨some 68,some (67,true),.mv (.t 2)⟩,[],[],true⟩,⟨⟨some 69,some (67,true),.fa 1 (.t 11)⟩,[],[],true⟩,⟨⟨some 70,some (67,true),.ld false 1 (.t 69)⟩,[],[],true⟩,⟨⟨some 71,some (67,true),.ixs 2 (.t 68) (.t 70)⟩,[],[],true⟩,⟨⟨some 72,some (67,true),.fa 1 (.t 71)⟩,[],[],true⟩,⟨⟨some 73,some (67,true),.ld false 1 (.t 72)⟩,[],[],true⟩,⟨⟨some 74,some (67,true),.fa 2 (.t 11)⟩,[],[],true⟩,⟨⟨some 75,some (67,true),.ld false 1 (.t 74)⟩,[],[],true⟩,⟨⟨some 76,some (67,true),.cal 88 [(.t 73),(.t 75)]⟩,[],[],true⟩,(eT 77 (.pick (.t 67) (.t 76) (.c (.sc (.bool false))))),(eF 78 (.ixs 1 (.t 59) (.t 60))),⟨(aN (.sto 1 (.t 78) (.t 77))),[],[],false⟩])
 (.seq (.reg [0,120,2,3,5,9,10,11,17,18,19] [
 (aO 80 (.fa 0 (.t 11))),(aO 81 (.ld false 1 (.t 80))),(aO 82 (.cmp .eql .i64 (.t 81) (kI 3))),(aO 83 (.mv (.t 82))),⟨some 84,some (83,true),.fa 1 (.t 11)⟩,⟨some 85,some (83,true),.ld false 1 (.t 84)⟩,⟨some 86,some (83,true),.mv (.t 2)⟩,⟨some 87,some (83,true),.len (.t 86)⟩,⟨some 88,some (83,true),.cmp .lss .i64 (.t 85) (.t 87)⟩,(aO 89 (.pick (.t 83) (.t 88) (.c (.sc (.bool false))))),(aO 79 (.mv (.t 89)))])
 (.cut [0,120,2,3,5,9,10,11,17,18,19,79] (.cond (.t 79)
 (.reg [0,120,2,3,5,9,10,11,17,18,19] [
 (aO 90 (.mv (.t 9))),(aO 91 (.mv (.t 10))),(aO 92 (.mv (.t 2))),(aO 93 (.fa 1 (.t 11))),(aO 94 (.ld false 1 (.t 93))),(aO 95 (.ixs 2 (.t 92) (.t 94))),(aO 96 (.fa 0 (.t 95))),(aO 97 (.ld false 1 (.t 96))),(aO 98 (.ixs 1 (.t 90) (.t 91))),(aN (.sto 1 (.t 98) (.t 97)))])
 (.seq (.reg [0,120,2,3,5,9,10,11,17,18,19] [
 (aO 100 (.fa 0 (.t 11))),(aO 101 (.ld false 1 (.t 100))),(aO 102 (.cmp .eql .i64 (.t 101) (kI 4))),(aO 103 (.mv (.t 102))),⟨some 104,some (103,true),.fa 1 (.t 11)⟩,⟨some 105,some (103,true),.ld false 1 (.t 104)⟩,⟨some 106,some (103,true),.mv (.t 3)⟩,⟨some 107,some (103,true),.len (.t 106)⟩,⟨some 108,some (103,true),.cmp .lss .i64 (.t 105) (.t 107)⟩,(aO 109 (.pick (.t 103) (.t 108) (.c (.sc (.bool false))))),(aO 99 (.mv (.t 109)))])
 (.cut [0,120,2,3,5,9,10,11,17,18,19,99] (.cond (.t 99)
 (.reg [0,120,2,3,5,9,10,11,17,18,19] [
 (aO 110 (.mv (.t 9))),(aO 111 (.mv (.t 10))),(aO 112 (.mv (.t 3))),(aO 113 (.fa 1 (.t 11))),(aO 114 (.ld false 1 (.t 113))),(aO 115 (.ixs 1 (.t 112) (.t 114))),(aO 116 (.ld false 1 (.t 115))),(aO 117 (.ixs 1 (.t 110) (.t 111))),(aN (.sto 1 (.t 117) (.t 116)))])
 .skip)))))))))))))))
 (.reg [0,120,2,3,5,9,17,18,19] [
 (aO 118 (.ari .add true .i64 (.t 19) (kI 1))),(aO 19 (.mv (.t 118)))])))))))
 (.seq (.reg [0,120,9] [
 (aO 119 (.mv (.t 9))),(aO 8 (.mv (.t 119)))])
 .ret))))
def rv70:List RV:=[.tmp 8]
theorem ok70:fnOk Tryz.prog ac70 rv70 Tryz.f70=true:=by kernel_rfl

def xs71_7:List XO:=[⟨0,[],(aO 41 (.mv (.t 10)))⟩,⟨1,[],(aO 42 (.fa 0 (.t 12)))⟩,⟨2,[1],(aO 43 (.ld false 1 (.t 42)))⟩,⟨3,[],(aO 44 (.fa 1 (.t 12)))⟩,⟨4,[3],(aO 45 (.ld false 1 (.t 44)))⟩,⟨5,[2,4],(aO 46 (.bld [zI,zI] [(0,1,(.t 43)),(1,1,(.t 45))]))⟩,⟨6,[0,5],(aO 47 (.mlk (.st 2) false (zI) (.t 41) (.t 46)))⟩,⟨7,[],(aO 48 (.fa 2 (.t 12)))⟩,⟨8,[7],(aO 49 (.ld false 1 (.t 48)))⟩,⟨9,[8],(aO 50 (.shf .shl .i64 (kI 1) (.t 49)))⟩,⟨10,[6,9],(aO 51 (.bit .or .i64 (.t 47) (.t 50)))⟩,⟨11,[0,1,2,3,4,5,7,8,9],(aO 52 (.men (.st 2) (zI) (.t 41) (.t 46)))⟩,⟨12,[11],(aO 53 (.ext (.t 52) 1))⟩,⟨13,[0,1,2,3,4,5,6,7,8,9,10,11,12],(aN (.est (.t 41) (.t 53) (.t 51)))⟩]
theorem xs71_7_all{p:XO->Prop} :(∀x∈xs71_7,p x) ↔ p ⟨0,[],(aO 41 (.mv (.t 10)))⟩/\p ⟨1,[],(aO 42 (.fa 0 (.t 12)))⟩/\p ⟨2,[1],(aO 43 (.ld false 1 (.t 42)))⟩/\p ⟨3,[],(aO 44 (.fa 1 (.t 12)))⟩/\p ⟨4,[3],(aO 45 (.ld false 1 (.t 44)))⟩/\p ⟨5,[2,4],(aO 46 (.bld [zI,zI] [(0,1,(.t 43)),(1,1,(.t 45))]))⟩/\p ⟨6,[0,5],(aO 47 (.mlk (.st 2) false (zI) (.t 41) (.t 46)))⟩/\p ⟨7,[],(aO 48 (.fa 2 (.t 12)))⟩/\p ⟨8,[7],(aO 49 (.ld false 1 (.t 48)))⟩/\p ⟨9,[8],(aO 50 (.shf .shl .i64 (kI 1) (.t 49)))⟩/\p ⟨10,[6,9],(aO 51 (.bit .or .i64 (.t 47) (.t 50)))⟩/\p ⟨11,[0,1,2,3,4,5,7,8,9],(aO 52 (.men (.st 2) (zI) (.t 41) (.t 46)))⟩/\p ⟨12,[11],(aO 53 (.ext (.t 52) 1))⟩/\p ⟨13,[0,1,2,3,4,5,6,7,8,9,10,11,12],(aN (.est (.t 41) (.t 53) (.t 51)))⟩:=by simp only[xs71_7,List.forall_mem_cons,List.not_mem_nil,false_implies,implies_true,and_true]
def xs71_13:List XO:=[⟨0,[],(aO 61 (.fa 1 (.t 13)))⟩,⟨1,[0],(aO 62 (.fa 0 (.t 61)))⟩,⟨2,[1],(aO 63 (.ld false 1 (.t 62)))⟩,⟨3,[],(aO 64 (.mv (.t 10)))⟩,⟨4,[],(aO 65 (.mv (.t 14)))⟩,⟨5,[4],(aO 66 (.bld [zI,zI] [(0,1,(kI 1)),(1,1,(.t 65))]))⟩,⟨6,[3,5],(aO 67 (.mlk (.st 2) false (zI) (.t 64) (.t 66)))⟩,⟨7,[6],(aO 68 (.bsl 1 3 [zI] 1 [(0,(.t 67))]))⟩,⟨8,[2,7],(aO 69 (.app 1 3 8 (.t 63) (.t 68)))⟩,⟨9,[0,1,2,3,4,5,6,7,8],(aO 70 (.fa 1 (.t 13)))⟩,⟨10,[0,1,2,3,4,5,6,7,8,9],(aO 71 (.fa 0 (.t 70)))⟩,⟨11,[0,1,2,3,4,5,6,7,8,10],(aN (.sto 1 (.t 71) (.t 69)))⟩]
theorem xs71_13_all{p:XO->Prop} :(∀x∈xs71_13,p x) ↔ p ⟨0,[],(aO 61 (.fa 1 (.t 13)))⟩/\p ⟨1,[0],(aO 62 (.fa 0 (.t 61)))⟩/\p ⟨2,[1],(aO 63 (.ld false 1 (.t 62)))⟩/\p ⟨3,[],(aO 64 (.mv (.t 10)))⟩/\p ⟨4,[],(aO 65 (.mv (.t 14)))⟩/\p ⟨5,[4],(aO 66 (.bld [zI,zI] [(0,1,(kI 1)),(1,1,(.t 65))]))⟩/\p ⟨6,[3,5],(aO 67 (.mlk (.st 2) false (zI) (.t 64) (.t 66)))⟩/\p ⟨7,[6],(aO 68 (.bsl 1 3 [zI] 1 [(0,(.t 67))]))⟩/\p ⟨8,[2,7],(aO 69 (.app 1 3 8 (.t 63) (.t 68)))⟩/\p ⟨9,[0,1,2,3,4,5,6,7,8],(aO 70 (.fa 1 (.t 13)))⟩/\p ⟨10,[0,1,2,3,4,5,6,7,8,9],(aO 71 (.fa 0 (.t 70)))⟩/\p ⟨11,[0,1,2,3,4,5,6,7,8,10],(aN (.sto 1 (.t 71) (.t 69)))⟩:=by simp only[xs71_13,List.forall_mem_cons,List.not_mem_nil,false_implies,implies_true,and_true]
def xs71_27:List XO:=[⟨0,[],(aO 119 (.fa 3 (.t 13)))⟩,⟨1,[0],(aO 120 (.ld false 1 (.t 119)))⟩,⟨2,[],(aO 121 (.mv (.t 9)))⟩,⟨3,[],(aO 122 (.mv (.t 18)))⟩,⟨4,[3],(aO 123 (.bld [zI,zI] [(0,1,(kI 5)),(1,1,(.t 122))]))⟩,⟨5,[2,4],(aO 124 (.mlk (.st 2) false (.sc (.bool false)) (.t 121) (.t 123)))⟩,⟨6,[5],(aO 125 (.bsl 1 4 [.sc (.bool false)] 1 [(0,(.t 124))]))⟩,⟨7,[1,6],(aO 126 (.app 1 4 1 (.t 120) (.t 125)))⟩,⟨8,[0,1,2,3,4,5,6,7],(aO 127 (.fa 3 (.t 13)))⟩,⟨9,[0,1,2,3,4,5,6,7,8],(aN (.sto 1 (.t 127) (.t 126)))⟩]
theorem xs71_27_all{p:XO->Prop} :(∀x∈xs71_27,p x) ↔ p ⟨0,[],(aO 119 (.fa 3 (.t 13)))⟩/\p ⟨1,[0],(aO 120 (.ld false 1 (.t 119)))⟩/\p ⟨2,[],(aO 121 (.mv (.t 9)))⟩/\p ⟨3,[],(aO 122 (.mv (.t 18)))⟩/\p ⟨4,[3],(aO 123 (.bld [zI,zI] [(0,1,(kI 5)),(1,1,(.t 122))]))⟩/\p ⟨5,[2,4],(aO 124 (.mlk (.st 2) false (.sc (.bool false)) (.t 121) (.t 123)))⟩/\p ⟨6,[5],(aO 125 (.bsl 1 4 [.sc (.bool false)] 1 [(0,(.t 124))]))⟩/\p ⟨7,[1,6],(aO 126 (.app 1 4 1 (.t 120) (.t 125)))⟩/\p ⟨8,[0,1,2,3,4,5,6,7],(aO 127 (.fa 3 (.t 13)))⟩/\p ⟨9,[0,1,2,3,4,5,6,7,8],(aN (.sto 1 (.t 127) (.t 126)))⟩:=by simp only[xs71_27,List.forall_mem_cons,List.not_mem_nil,false_implies,implies_true,and_true]
def ac71:AC:=
 (.seq (.reg [0,152,0,1,2,3] [
 (aO 4 (.box (.t 0))),(aO 5 (.box (.t 1))),(aO 7 (.box (.t 3))),(aO 8 (.alc [.sc (.bool false),.nil,.nil,.nil,.nil]))])
 (.seq (.reg [0,152,2,4,5,7,8] [
 (aO 21 (.mkm (.st 2))),(aO 22 (.mkm (.st 2))),(aO 9 (.mv (.t 21))),(aO 10 (.mv (.t 22)))])
 (.seq (.seq (.reg [0,152,2,4,5,7,8,9,10] [
 (aO 23 (.fa 2 (.t 4))),(aO 24 (.ld false 1 (.t 23))),(aO 25 (.len (.t 24))),(aO 26 (.mv (kI 0)))])
 (.block 0
 (.loop [0,152,2,5,7,8,9,10,24,25,26]
 (.seq (.reg [0,152,2,5,7,8,9,10,24,25,26] [
 (aO 27 (.cmp .lss .i64 (.t 26) (.t 25)))])
 (.seq (.cond (.t 27)
 .skip
 (.exit 0))
 (.seq (.block 1
 (.seq (.reg [0,152,2,5,7,8,9,10,24,25,26] [
 (aO 28 (.mv (.t 26))),(aO 29 (.ixs 3 (.t 24) (.t 26))),(aO 30 (.ld true 3 (.t 29))),(aO 12 (.alc [zI,zI,zI])),(aO 11 (.mv (.t 28))),(aN (.sto 3 (.t 12) (.t 30)))])
 (.seq (.reg [0,152,2,5,7,8,9,10,11,12,24,25,26] [
 (aO 31 (.mv (.t 2))),(aO 32 (.mv (.t 11))),(aO 33 (.ixs 1 (.t 31) (.t 32))),(aO 34 (.ld false 1 (.t 33)))])
 (.cond (.t 34)
 (.seq (.reg [0,152,2,5,7,8,9,10,12,24,25,26] [
 (aO 35 (.mv (.t 9))),(aO 36 (.fa 0 (.t 12))),(aO 37 (.ld false 1 (.t 36))),(aO 38 (.fa 1 (.t 12))),(aO 39 (.ld false 1 (.t 38))),(aO 40 (.bld [zI,zI] [(0,1,(.t 37)),(1,1,(.t 39))])),(aN (.mup (.st 2) (.t 35) (.t 40) (.c (.sc (.bool true)))))])
 (.obs 10 (.dra [0,152,2,5,7,8,9,10,12,24,25,26] xs71_7)))
 .skip))))
 (.reg [0,152,2,5,7,8,9,10,24,25,26] [
 (aO 54 (.ari .add true .i64 (.t 26) (kI 1))),(aO 26 (.mv (.t 54)))])))))))
 (.seq (.reg [0,152,5,7,8,9,10] [
 (aO 13 (.alc [.sc (.bool false),.nil,.nil,.nil,.nil]))])
 (.seq (.seq (.reg [0,152,5,7,8,9,10,13] [
 (aO 55 (.fa 0 (.t 5))),(aO 56 (.ld false 1 (.t 55))),(aO 57 (.len (.t 56))),(aO 58 (.mv (kI 0)))])
 (.block 2
 (.loop [0,152,5,7,8,9,10,13,57,58]
 (.seq (.reg [0,152,5,7,8,9,10,13,57,58] [
 (aO 59 (.cmp .lss .i64 (.t 58) (.t 57)))])
 (.seq (.cond (.t 59)
 .skip
 (.exit 2))
 (.seq (.block 3
 (.seq (.reg [0,152,5,7,8,9,10,13,57,58] [
 (aO 60 (.mv (.t 58))),(aO 14 (.mv (.t 60)))])
 (.dra [0,152,5,7,8,9,10,13,14,57,58] xs71_13)))
 (.reg [0,152,5,7,8,9,10,13,57,58] [
 (aO 72 (.ari .add true .i64 (.t 58) (kI 1))),(aO 58 (.mv (.t 72)))])))))))
 (.seq (.seq (.reg [0,152,5,7,8,9,10,13] [
 (aO 73 (.fa 1 (.t 5))),(aO 74 (.ld false 1 (.t 73))),(aO 75 (.len (.t 74))),(aO 76 (.mv (kI 0)))])
 (.block 4
 (.loop [0,152,7,8,9,10,13,74,75,76]
 (.seq (.reg [0,152,7,8,9,10,13,74,75,76] [
 (aO 77 (.cmp .lss .i64 (.t 76) (.t 75)))])
 (.seq (.cond (.t 77)
 .skip
 (.exit 4))
 (.seq (.block 5
 (.seq (.reg [0,152,7,8,9,10,13,74,75,76] [
 (aO 78 (.mv (.t 76))),(aO 79 (.ixs 1 (.t 74) (.t 76))),(aO 80 (.ld false 1 (.t 79))),(aO 15 (.mv (.t 78))),(aO 16 (.mv (.t 80)))])
 (.seq (.reg [0,152,7,8,9,10,13,15,16,74,75,76] [
 (aO 81 (.mv (.t 16))),(aO 82 (.cal 89 [(.t 81)])),(aO 16 (.mv (.t 82)))])
 (.seq (.seq (.reg [0,152,7,8,9,10,13,15,16,74,75,76] [
 (aO 83 (.mv (.t 10))),(aO 84 (.mv (.t 15))),(aO 85 (.bld [zI,zI] [(0,1,(kI 9)),(1,1,(.t 84))])),(aO 86 (.mlk (.st 2) false (zI) (.t 83) (.t 85))),(aO 17 (.mv (.t 86)))])
 (.seq (.reg [0,152,7,8,9,10,13,15,16,17,74,75,76] [
 (aO 87 (.mv (.t 9))),(aO 88 (.mv (.t 15))),(aO 89 (.bld [zI,zI] [(0,1,(kI 8)),(1,1,(.t 88))])),(aO 90 (.mlk (.st 2) false (.sc (.bool false)) (.t 87) (.t 89))),(aO 91 (.mv (.t 90))),⟨some 92,some (91,true),.mv (.t 17)⟩,⟨some 93,some (91,true),.mv (.t 16)⟩,⟨some 94,some (91,true),.len (.t 93)⟩,⟨some 95,some (91,true),.cmp .lss .i64 (.t 92) (.t 94)⟩,(aO 96 (.pick (.t 91) (.t 95) (.c (.sc (.bool false)))))])
 (.cut [0,152,7,8,9,10,13,15,16,17,74,75,76,96] (.cond (.t 96)
 (.reg [0,152,7,8,9,10,13,15,16,17,74,75,76] [
 (aO 97 (.mv (.t 16))),(aO 98 (.mv (.t 17))),(aO 99 (.mv (.t 10))),(aO 100 (.mv (.t 15))),(aO 101 (.bld [zI,zI] [(0,1,(kI 10)),(1,1,(.t 100))])),(aO 102 (.mlk (.st 2) false (zI) (.t 99) (.t 101))),(aO 103 (.ixs 1 (.t 97) (.t 98))),(aN (.sto 1 (.t 103) (.t 102)))])
 .skip))))
 (.reg [0,152,7,8,9,10,13,16,74,75,76] [
 (aO 104 (.fa 1 (.t 13))),(aO 105 (.fa 1 (.t 104))),(aO 106 (.ld false 1 (.t 105))),(aO 107 (.mv (.t 16))),(aO 108 (.bsl 1 29 [.nil] 1 [(0,(.t 107))])),(aO 109 (.app 1 29 24 (.t 106) (.t 108))),(aO 110 (.fa 1 (.t 13))),(aO 111 (.fa 1 (.t 110))),(aN (.sto 1 (.t 111) (.t 109)))])))))
 (.reg [0,152,7,8,9,10,13,74,75,76] [
 (aO 112 (.ari .add true .i64 (.t 76) (kI 1))),(aO 76 (.mv (.t 112)))])))))))
 (.seq (.seq (.reg [0,152,7,8,9,10,13] [
 (aO 113 (.ixa 2 1 (.t 7) (kI 0))),(aO 114 (.ld false 1 (.t 113))),(aO 115 (.mn true (.t 114) (kI 0))),(aO 116 (.mv (kI 0)))])
 (.block 6
 (.loop [0,152,7,8,9,10,13,115,116]
 (.seq (.reg [0,152,7,8,9,10,13,115,116] [
 (aO 117 (.cmp .lss .i64 (.t 116) (.t 115)))])
 (.seq (.cond (.t 117)
 .skip
 (.exit 6))
 (.seq (.block 7
 (.seq (.reg [0,152,7,8,9,10,13,115,116] [
 (aO 118 (.mv (.t 116))),(aO 18 (.mv (.t 118)))])
 (.dra [0,152,7,8,9,10,13,18,115,116] xs71_27)))
 (.reg [0,152,7,8,9,10,13,115,116] [
 (aO 128 (.ari .add true .i64 (.t 116) (kI 1))),(aO 116 (.mv (.t 128)))])))))))
 (.seq (.seq (.reg [0,152,7,8,9,10,13] [
 (aO 129 (.ixa 2 1 (.t 7) (kI 1))),(aO 130 (.ld false 1 (.t 129))),(aO 131 (.mn true (.t 130) (kI 0))),(aO 132 (.mv (kI 0)))])
 (.block 8
 (.loop [0,152,8,9,10,13,131,132]
 (.seq (.reg [0,152,8,9,10,13,131,132] [
 (aO 133 (.cmp .lss .i64 (.t 132) (.t 131)))])
 (.seq (.cond (.t 133)
 .skip
 (.exit 8))
 (.seq (.block 9
 (.seq (.reg [0,152,8,9,10,13,131,132] [
 (aO 134 (.mv (.t 132))),(aO 19 (.mv (.t 134)))])
 (.seq (.reg [0,152,8,9,10,13,19,131,132] [
 (aO 20 (.alc [.sc (.bool false),zI]))])
 (.seq (.seq (.reg [0,152,8,9,10,13,19,20,131,132] [
 (aO 135 (.mv (.t 9))),(aO 136 (.mv (.t 19))),(aO 137 (.bld [zI,zI] [(0,1,(kI 6)),(1,1,(.t 136))])),(aO 138 (.mlk (.st 2) false (.sc (.bool false)) (.t 135) (.t 137)))])
 (.cond (.t 138)
 (.reg [0,152,8,9,10,13,19,20,131,132] [
 (aO 139 (.mv (.t 10))),(aO 140 (.mv (.t 19))),(aO 141 (.bld [zI,zI] [(0,1,(kI 7)),(1,1,(.t 140))])),(aO 142 (.mlk (.st 2) false (zI) (.t 139) (.t 141))),(aO 143 (.bld [.sc (.bool false),zI] [(0,1,(.c (.sc (.bool true)))),(1,1,(.t 142))])),(aN (.sto 2 (.t 20) (.t 143)))])
 .skip))
 (.reg [0,152,8,9,10,13,20,131,132] [
 (aO 144 (.fa 4 (.t 13))),(aO 145 (.ld false 1 (.t 144))),(aO 146 (.ld true 2 (.t 20))),(aO 147 (.bsl 2 166 [.sc (.bool false),zI] 1 [(0,(.t 146))])),(aO 148 (.app 2 166 16 (.t 145) (.t 147))),(aO 149 (.fa 4 (.t 13))),(aN (.sto 1 (.t 149) (.t 148)))])))))
 (.reg [0,152,8,9,10,13,131,132] [
 (aO 150 (.ari .add true .i64 (.t 132) (kI 1))),(aO 132 (.mv (.t 150)))])))))))
 (.seq (.reg [0,152,8,13] [
 (aO 151 (.ld true 5 (.t 13))),(aN (.sto 5 (.t 8) (.t 151)))])
 .ret)))))))))
def rv71:List RV:=[.cell 8 true 5]
theorem ok71:fnOk Tryz.prog ac71 rv71 Tryz.f71=true:=by kernel_rfl

def xs38_1:List XO:=[⟨0,[],(aO 21 (.ld true 5 (.t 6)))⟩,⟨1,[],(aO 22 (.ld true 4 (.t 7)))⟩,⟨2,[],(aO 23 (.ld true 2 (.t 9)))⟩,⟨3,[],(aO 24 (.ixa 2 1 (.t 8) (kI 0)))⟩,⟨4,[3],(aO 25 (.ld false 1 (.t 24)))⟩,⟨5,[4],(aO 26 (.bld [.nil,.nil,.nil,.nil] [(0,1,(.t 25))]))⟩,⟨6,[],(aO 27 (.ld true 2 (.t 9)))⟩,⟨7,[],(aO 28 (.mv (.t 4)))⟩,⟨8,[],(aO 29 (.mv (.t 5)))⟩,⟨9,[5,6,7,8],(aO 30 (.cal 70 [(.t 26),(.t 27),(.t 28),(.t 29)]))⟩,⟨10,[0,1,2,9],(aO 31 (.clm 60 [(.t 21),(.t 22),(.t 23),(.t 30)]))⟩,⟨11,[0,1,2,3,4,5,6,7,8,9,10],(aO 13 (.mv (.t 31)))⟩]
theorem xs38_1_all{p:XO->Prop} :(∀x∈xs38_1,p x) ↔ p ⟨0,[],(aO 21 (.ld true 5 (.t 6)))⟩/\p ⟨1,[],(aO 22 (.ld true 4 (.t 7)))⟩/\p ⟨2,[],(aO 23 (.ld true 2 (.t 9)))⟩/\p ⟨3,[],(aO 24 (.ixa 2 1 (.t 8) (kI 0)))⟩/\p ⟨4,[3],(aO 25 (.ld false 1 (.t 24)))⟩/\p ⟨5,[4],(aO 26 (.bld [.nil,.nil,.nil,.nil] [(0,1,(.t 25))]))⟩/\p ⟨6,[],(aO 27 (.ld true 2 (.t 9)))⟩/\p ⟨7,[],(aO 28 (.mv (.t 4)))⟩/\p ⟨8,[],(aO 29 (.mv (.t 5)))⟩/\p ⟨9,[5,6,7,8],(aO 30 (.cal 70 [(.t 26),(.t 27),(.t 28),(.t 29)]))⟩/\p ⟨10,[0,1,2,9],(aO 31 (.clm 60 [(.t 21),(.t 22),(.t 23),(.t 30)]))⟩/\p ⟨11,[0,1,2,3,4,5,6,7,8,9,10],(aO 13 (.mv (.t 31)))⟩:=by simp only[xs38_1,List.forall_mem_cons,List.not_mem_nil,false_implies,implies_true,and_true]
def ac38:AC:=
 (.seq (.reg [0,118,0,1,2,3,4,5] [
 (aO 6 (.box (.t 0))),(aO 7 (.box (.t 1))),(aO 8 (.box (.t 2))),(aO 9 (.box (.t 3))),(aO 12 (.alc [.sc (.bool false),.nil,.nil,.nil,.nil]))])
 (.seq (.dra [0,118,4,5,6,7,8,9,12] xs38_1)
 (.seq (.reg [0,118,4,5,6,7,8,9,12,13] [
 (aO 32 (.mv (.t 13))),(aO 33 (.cal 61 [(.t 32)])),(aO 14 (.mv (.t 33)))])
 (.seq (.reg [0,118,4,5,6,7,8,9,12,13,14] [
 (aO 15 (.alc [.nil,.nil,.nil,.nil]))])
 (.seq (.reg [0,118,4,5,6,7,8,9,12,13,14,15] [
 (aO 16 (.mv (.c (.nil))))])
 (.seq (.seq (.reg [0,118,4,5,6,7,8,9,12,13,14,15,16] [
 (aO 34 (.fa 1 (.t 7))),(aO 35 (.ld false 1 (.t 34))),(aO 36 (.len (.t 35))),(aO 37 (.mv (kI 0)))])
 (.block 0
 (.loop [0,118,4,5,6,7,8,9,12,13,14,15,16,35,36,37]
 (.seq (.reg [0,118,4,5,6,7,8,9,12,13,14,15,16,35,36,37] [
 (aO 38 (.cmp .lss .i64 (.t 37) (.t 36)))])
 (.seq (.cond (.t 38)
 .skip
 (.exit 0))
 (.seq (.block 1
 (.seq (.reg [0,118,4,5,6,7,8,9,12,13,14,15,16,35,36,37] [
 (aO 39 (.mv (.t 37))),(aO 40 (.ixs 1 (.t 35) (.t 37))),(aO 41 (.ld false 1 (.t 40))),(aO 17 (.mv (.t 39))),(aO 18 (.mv (.t 41)))])
 (.seq (.reg [0,118,4,5,6,7,8,9,12,13,14,15,16,17,18,35,36,37] [
 (aO 42 (.mv (.t 18))),(aO 43 (.cmp .eql .i64 (.t 42) (kI 2)))])
 (.cond (.t 43)
 (.seq (.drw [0,118,4,5,6,7,8,9,12,13,14,15,16,17,35,36,37] [
 (eU 44 (.fa 2 (.t 15)) [] [59]),(eU 45 (.ld false 1 (.t 44)) [] [59]),(eT 46 (.fa 3 (.t 7))),(eT 47 (.ld false 1 (.t 46))),(eT 48 (.mv (.t 17))),(eT 49 (.ixs 1 (.t 47) (.t 48))),(eT 50 (.ld false 1 (.t 49))),(eT 51 (.dvd .quo true .i64 (.t 50) (kI 8))),(eT 52 (.fa 3 (.t 7))),(eT 53 (.ld false 1 (.t 52))),(eT 54 (.mv (.t 17))),(eT 55 (.ixs 1 (.t 53) (.t 54))),(eT 56 (.ld false 1 (.t 55))),(eT 57 (.dvd .rem true .i64 (.t 56) (kI 8))),(eT 58 (.bld [zI,zI,zI] [(0,1,(kI 1)),(1,1,(.t 51)),(2,1,(.t 57))])),(eU 59 (.bsl 3 151 [zI,zI,zI] 1 [(0,(.t 58))]) [59] []),(eF 60 (.app 3 151 24 (.t 45) (.t 59))),(eF 61 (.fa 2 (.t 15))),⟨(aN (.sto 1 (.t 61) (.t 60))),[],[],false⟩])
 (.reg [0,118,4,5,6,7,8,9,12,13,14,15,16,17,35,36,37] [
 (aO 62 (.mv (.t 16))),(aO 63 (.mv (.t 14))),(aO 64 (.mv (.t 13))),(aO 65 (.nck (.t 64))),(aO 66 (.fa 5 (.t 65))),(aO 67 (.ld false 1 (.t 66))),(aO 68 (.mv (.t 17))),(aO 69 (.ixs 1 (.t 67) (.t 68))),(aO 70 (.ld false 1 (.t 69))),(aO 71 (.ixs 1 (.t 63) (.t 70))),(aO 72 (.ld false 1 (.t 71))),(aO 73 (.bsl 1 4 [.sc (.bool false)] 1 [(0,(.t 72))])),(aO 74 (.app 1 4 1 (.t 62) (.t 73))),(aO 16 (.mv (.t 74)))]))
 .skip))))
 (.reg [0,118,4,5,6,7,8,9,12,13,14,15,16,35,36,37] [
 (aO 75 (.ari .add true .i64 (.t 37) (kI 1))),(aO 37 (.mv (.t 75)))])))))))
 (.seq (.reg [0,118,4,5,6,8,9,12,14,15,16] [
 (aO 76 (.fa 2 (.t 15))),(aO 77 (.ld false 1 (.t 76))),(aO 78 (.ixa 2 1 (.t 8) (kI 1))),(aO 79 (.ld false 1 (.t 78))),(aO 80 (.app 3 151 24 (.t 77) (.t 79))),(aO 81 (.fa 2 (.t 15))),(aN (.sto 1 (.t 81) (.t 80)))])
 (.seq (.reg [0,118,4,5,6,8,9,12,14,15,16] [
 (aO 82 (.mv (.t 14))),(aO 83 (.mv (.t 14))),(aO 84 (.len (.t 83))),(aO 85 (.fa 3 (.t 6))),(aO 86 (.ld false 1 (.t 85))),(aO 87 (.ari .sub true .i64 (.t 84) (.t 86))),(aO 88 (.slc 1 (.t 82) (some (.t 87)) none)),(aO 19 (.mv (.t 88)))])
 (.seq (.seq (.reg [0,118,4,5,8,9,12,15,16,19] [
 (aO 89 (.ixa 2 1 (.t 8) (kI 1))),(aO 90 (.ld false 1 (.t 89))),(aO 91 (.len (.t 90))),(aO 92 (.mv (kI 0)))])
 (.block 2
 (.loop [0,118,4,5,9,12,15,16,19,91,92]
 (.seq (.reg [0,118,4,5,9,12,15,16,19,91,92] [
 (aO 93 (.cmp .lss .i64 (.t 92) (.t 91)))])
 (.seq (.cond (.t 93)
 .skip
 (.exit 2))
 (.seq (.block 3
 (.seq (.reg [0,118,4,5,9,12,15,16,19,91,92] [
 (aO 94 (.mv (.t 92))),(aO 20 (.mv (.t 94)))])
 (.reg [0,118,4,5,9,12,15,16,19,20,91,92] [
 (aO 95 (.mv (.t 16))),(aO 96 (.mv (.t 20))),(aO 97 (.mv (.t 19))),(aO 98 (.len (.t 97))),(aO 99 (.cmp .lss .i64 (.t 96) (.t 98))),(aO 100 (.mv (.t 99))),⟨some 101,some (100,true),.mv (.t 19)⟩,⟨some 102,some (100,true),.mv (.t 20)⟩,⟨some 103,some (100,true),.ixs 1 (.t 101) (.t 102)⟩,⟨some 104,some (100,true),.ld false 1 (.t 103)⟩,(aO 105 (.pick (.t 100) (.t 104) (.c (.sc (.bool false))))),(aO 106 (.bsl 1 4 [.sc (.bool false)] 1 [(0,(.t 105))])),(aO 107 (.app 1 4 1 (.t 95) (.t 106))),(aO 16 (.mv (.t 107)))])))
 (.reg [0,118,4,5,9,12,15,16,19,91,92] [
 (aO 108 (.ari .add true .i64 (.t 92) (kI 1))),(aO 92 (.mv (.t 108)))])))))))
 (.seq (.reg [0,118,4,5,9,12,15,16] [
 (aO 109 (.ld true 4 (.t 15))),(aO 110 (.ld true 2 (.t 9))),(aO 111 (.mv (.t 16))),(aO 112 (.mv (.t 4))),(aO 113 (.len (.t 112))),(aO 114 (.mv (.t 5))),(aO 115 (.len (.t 114))),(aO 116 (.bld [zI,zI] [(0,1,(.t 113)),(1,1,(.t 115))])),(aO 117 (.cal 71 [(.t 109),(.t 110),(.t 111),(.t 116)])),(aN (.sto 5 (.t 12) (.t 117)))])
 .ret))))))))))
def rv38:List RV:=[.cell 12 true 5]
theorem ok38:fnOk Tryz.prog ac38 rv38 Tryz.f38=true:=by kernel_rfl

def ac20:AC:=
 (.seq (.reg [0,23,0,1,2] [
 (aO 3 (.box (.t 0))),(aO 4 (.box (.t 1))),(aO 5 (.box (.t 2))),(aO 6 (.alc [.sc (.bool false),.nil,.nil,.nil,.nil]))])
 (.seq (.rgs [
 ([0,23,3,4,5,6],[
 (aO 7 (.fa 0 (.t 3))),(aO 8 (.ld true 5 (.t 7))),(aO 9 (.fa 5 (.t 3))),(aO 10 (.ld true 4 (.t 9))),(aO 11 (.fa 0 (.t 4))),(aO 12 (.ld false 1 (.t 11))),(aO 13 (.fa 1 (.t 4))),(aO 14 (.ld false 1 (.t 13))),(aO 15 (.bld [.nil,.nil] [(0,1,(.t 12)),(1,1,(.t 14))])),(aO 16 (.fa 10 (.t 3))),(aO 17 (.ld true 2 (.t 16))),(aO 18 (.fa 0 (.t 5)))]),([0,23,5,6,8,10,15,17,18],[
 (aO 19 (.ld false 1 (.t 18))),(aO 20 (.fa 1 (.t 5))),(aO 21 (.ld false 1 (.t 20))),(aO 22 (.cal 38 [(.t 8),(.t 10),(.t 15),(.t 17),(.t 19),(.t 21)])),(aN (.sto 5 (.t 6) (.t 22)))])])
 .ret))
def rv20:List RV:=[.cell 6 true 5]
theorem ok20:fnOk Tryz.prog ac20 rv20 Tryz.f20=true:=by kernel_rfl

def ac6:AC:=
 (.seq (.reg [0,110] [
 (aO 0 (.mv (.c (.sc (.bool false)))))])
 (.seq (.reg [0,110] [
 (aO 7 (.cal 19 [(kI 2)])),(aO 8 (.cal 19 [(kI 1)])),(aO 1 (.alc [zI,zI,zI,zI,.nil,.nil,.nil,.nil,.nil,.nil,.nil,.nil,.nil])),(aO 2 (.alc [zI,zI,zI,zI,.nil,.nil,.nil,.nil,.nil,.nil,.nil,.nil,.nil])),(aN (.sto 13 (.t 1) (.t 7))),(aN (.sto 13 (.t 2) (.t 8)))])
 (.seq (.reg [0,110,1,2] [
 (aO 9 (.bsl 1 3 [zI] 1 [(0,(kI 0))])),(aO 10 (.fa 10 (.t 1))),(aO 11 (.fa 0 (.t 10))),(aN (.sto 1 (.t 11) (.t 9)))])
 (.seq (.reg [0,110,1,2] [
 (aO 12 (.ld true 13 (.t 1))),(aO 13 (.cal 11 [(.t 12)])),(aO 3 (.mv (.t 13)))])
 (.seq (.reg [0,110,1,2,3] [
 (aO 14 (.ld true 13 (.t 1))),(aO 15 (.bld [.nil,.nil] [])),(aO 16 (.bld [.nil,.nil] [])),(aO 17 (.cal 20 [(.t 14),(.t 15),(.t 16)])),(aO 4 (.alc [.sc (.bool false),.nil,.nil,.nil,.nil])),(aN (.sto 5 (.t 4) (.t 17)))])
 (.seq (.reg [0,110,1,2,3,4] [
 (aO 18 (.bsl 1 3 [zI] 1 [(0,(kI 1))])),(aO 19 (.fa 10 (.t 1))),(aO 20 (.fa 0 (.t 19))),(aN (.sto 1 (.t 20) (.t 18)))])
 (.seq (.reg [0,110,1,2,3,4] [
 (aO 21 (.ld true 13 (.t 1))),(aO 22 (.cal 11 [(.t 21)])),(aO 5 (.mv (.t 22)))])
 (.seq (.reg [0,110,1,2,3,4,5] [
 (aO 23 (.ld true 13 (.t 1))),(aO 24 (.bld [.nil,.nil] [])),(aO 25 (.bld [.nil,.nil] [])),(aO 26 (.cal 20 [(.t 23),(.t 24),(.t 25)])),(aO 6 (.alc [.sc (.bool false),.nil,.nil,.nil,.nil])),(aN (.sto 5 (.t 6) (.t 26)))])
 (.seq (.seq (.rgs [
 ([0,110,1,2,3,4,5,6],[
 (aO 27 (.mv (.t 3))),(aO 28 (.len (.t 27))),(aO 29 (.cmp .neq .i64 (.t 28) (kI 18))),(aO 30 (.mv (.t 29))),⟨some 31,some (30,false),.mv (.t 5)⟩,⟨some 32,some (30,false),.len (.t 31)⟩,⟨some 33,some (30,false),.cmp .neq .i64 (.t 32) (kI 18)⟩,(aO 34 (.pick (.t 30) (.c (.sc (.bool true))) (.t 33))),(aO 35 (.mv (.t 34))),⟨some 36,some (35,false),.mv (.t 3)⟩,⟨some 37,some (35,false),.ixs 1 (.t 36) (kI 0)⟩,⟨some 38,some (35,false),.ld false 1 (.t 37)⟩]),([0,110,1,2,3,4,5,6,35,38],[
 ⟨some 39,some (35,false),.not (.t 38)⟩,(aO 40 (.pick (.t 35) (.c (.sc (.bool true))) (.t 39))),(aO 41 (.mv (.t 40))),⟨some 42,some (41,false),.mv (.t 3)⟩,⟨some 43,some (41,false),.ixs 1 (.t 42) (kI 6)⟩,⟨some 44,some (41,false),.ld false 1 (.t 43)⟩,(aO 45 (.pick (.t 41) (.c (.sc (.bool true))) (.t 44))),(aO 46 (.mv (.t 45))),⟨some 47,some (46,false),.mv (.t 5)⟩,⟨some 48,some (46,false),.ixs 1 (.t 47) (kI 0)⟩,⟨some 49,some (46,false),.ld false 1 (.t 48)⟩,(aO 50 (.pick (.t 46) (.c (.sc (.bool true))) (.t 49)))]),([0,110,1,2,3,4,5,6,50],[
 (aO 51 (.mv (.t 50))),⟨some 52,some (51,false),.mv (.t 5)⟩,⟨some 53,some (51,false),.ixs 1 (.t 52) (kI 1)⟩,⟨some 54,some (51,false),.ld false 1 (.t 53)⟩,⟨some 55,some (51,false),.not (.t 54)⟩,(aO 56 (.pick (.t 51) (.c (.sc (.bool true))) (.t 55))),(aO 57 (.mv (.t 56))),⟨some 58,some (57,false),.mv (.t 5)⟩,⟨some 59,some (57,false),.ixs 1 (.t 58) (kI 6)⟩,⟨some 60,some (57,false),.ld false 1 (.t 59)⟩,⟨some 61,some (57,false),.not (.t 60)⟩,(aO 62 (.pick (.t 57) (.c (.sc (.bool true))) (.t 61)))]),([0,110,1,2,3,4,5,6,62],[
 (aO 63 (.mv (.t 62))),⟨some 64,some (63,false),.fa 1 (.t 4)⟩,⟨some 65,some (63,false),.fa 0 (.t 64)⟩,⟨some 66,some (63,false),.ld false 1 (.t 65)⟩,⟨some 67,some (63,false),.bsl 1 3 [zI] 1 [(0,(kI 1))]⟩,⟨some 68,some (63,false),.cal 21 [(.t 66),(.t 67)]⟩,⟨some 69,some (63,false),.not (.t 68)⟩,(aO 70 (.pick (.t 63) (.c (.sc (.bool true))) (.t 69))),(aO 71 (.mv (.t 70))),⟨some 72,some (71,false),.fa 1 (.t 6)⟩,⟨some 73,some (71,false),.fa 0 (.t 72)⟩,⟨some 74,some (71,false),.ld false 1 (.t 73)⟩]),([0,110,1,2,3,5,71,74],[
 ⟨some 75,some (71,false),.bsl 1 3 [zI] 1 [(0,(kI 0))]⟩,⟨some 76,some (71,false),.cal 21 [(.t 74),(.t 75)]⟩,⟨some 77,some (71,false),.not (.t 76)⟩,(aO 78 (.pick (.t 71) (.c (.sc (.bool true))) (.t 77)))])])
 (.cut [0,110,1,2,3,5,78] (.cond (.t 78)
 (.seq (.reg [0,110] [
 (aO 0 (.mv (.c (.sc (.bool false)))))])
 .ret)
 .skip)))
 (.seq (.rgs [
 ([0,110,1,2,3,5],[
 (aO 79 (.fa 0 (.t 1))),(aO 80 (.ld true 5 (.t 79))),(aO 81 (.fa 5 (.t 1))),(aO 82 (.ld true 4 (.t 81))),(aO 83 (.cal 10 [(.t 80),(.t 82)])),(aO 84 (.not (.t 83))),(aO 85 (.mv (.t 84))),⟨some 86,some (85,true),.fa 0 (.t 2)⟩,⟨some 87,some (85,true),.ld true 5 (.t 86)⟩,⟨some 88,some (85,true),.fa 5 (.t 2)⟩,⟨some 89,some (85,true),.ld true 4 (.t 88)⟩,⟨some 90,some (85,true),.cal 10 [(.t 87),(.t 89)]⟩]),([0,110,1,3,5,85,90],[
 (aO 91 (.pick (.t 85) (.t 90) (.c (.sc (.bool false))))),(aO 92 (.mv (.t 91))),⟨some 93,some (92,true),.ld true 13 (.t 1)⟩,⟨some 94,some (92,true),.mv (.t 5)⟩,⟨some 95,some (92,true),.cal 13 [(.t 93),(.t 94)]⟩,(aO 96 (.pick (.t 92) (.t 95) (.c (.sc (.bool false))))),(aO 97 (.mv (.t 96))),⟨some 98,some (97,true),.ld true 13 (.t 1)⟩,⟨some 99,some (97,true),.mv (.t 3)⟩,⟨some 100,some (97,true),.cal 13 [(.t 98),(.t 99)]⟩,⟨some 101,some (97,true),.not (.t 100)⟩,(aO 102 (.pick (.t 97) (.t 101) (.c (.sc (.bool false)))))]),([0,110,1,5,102],[
 (aO 103 (.mv (.t 102))),⟨some 104,some (103,true),.ld true 13 (.t 1)⟩,⟨some 105,some (103,true),.mv (.t 5)⟩,⟨some 106,some (103,true),.cal 15 [(.t 104),(.t 105)]⟩,⟨some 107,some (103,true),.mv (.t 5)⟩,⟨some 108,some (103,true),.cal 14 [(.t 106),(.t 107)]⟩,(aO 109 (.pick (.t 103) (.t 108) (.c (.sc (.bool false))))),(aO 0 (.mv (.t 109)))])])
 .ret))))))))))
def rv6:List RV:=[.tmp 0]
theorem ok6:fnOk Tryz.prog ac6 rv6 Tryz.f6=true:=by kernel_rfl
end Go.Proofs.YtdmkfgkmnpohlaaGreat.Txt
namespace Go.Vc
open Go Go.RowKit
theorem FnM.stkc {P : Program} {f : Nat} {args : List PV} {s ps t : List (Nat × PV)} {b : List (Nat × List PV)} {a : List (Nat × Arr)} {m : List (Nat × Mp)} {Q : PV -> St -> Prop}
  (ls:List (Nat×List (List PV))) (l:Nat×List (List PV)) (i0:Nat) (h0:lk s 0=some (stkC ls)) (h1:lk s i0=some (.sl false l.1 l.2)) (hps: ∀i v,lk ps i=some v->i≠0/\ ∃id,v= .ptr id 0)
  (ht: ∀i v,lk t i=some v->lk s i=some v/\((∃x,v= .sc x)\/i=0\/i=i0\/(∃id k,v= .ptr id 0/\lk ps k=some v)\/ ∃g ids,v= .clo g ids/\ ∀id∈ids,∃k,lk ps k=some (.ptr id 0)))
  (h:FnM (Env.of P) f args ⟨(0,stkC (l::ls))::ps,b,a,m⟩ fun r st' => ∃b' a' m',st' =⟨(0,stkC (l::ls))::ps,b',a',m'⟩/\Q r ⟨t,b',a',m'⟩):FnM (Env.of P) f args ⟨s,b,a,m⟩ Q:=by
 refine⟨h.1,fun w0 Z0 X G Z L w vs h2 h3 h4=> ?_⟩
 obtain⟨vs0,e0,z0,c0⟩:=stk_vr.1 (Inv.slotG h3 h0)
 have c1:TR w Z (.sl false l.1 l.2) (G i0):=Inv.slotG h3 h1
 have hz:vs0.size=ls.length:=z0
 let G' :Nat->Value:=fun i=>if i=0 then .tuple (#[G i0]++vs0)else qu2 L ((lk ps i).getD .bot)
 have hG0:G' 0= .tuple (#[G i0]++vs0):=if_pos rfl
 have hGi: ∀i v,lk ps i=some v->G' i=qu2 L v:=fun i v hi=>by
  show(if i=0 then _ else _)=_
  rw[if_neg (hps i v hi).1,hi]
  rfl
 have hm:Mem w0 Z0 X G' Z L ⟨(0,stkC (l::ls))::ps,b,a,m⟩ w:=Inv.setG h3 fun i v hl=>by
  simp only[lk]at hl
  split at hl
  ·rename_i e
   cases hl
   subst e
   rw[hG0]
   refine stk_vr.2 ⟨_,rfl,by simp[hz];omega,fun j x hx=> ?_⟩
   cases j with
   |zero=>
     simp at hx
     subst hx
     rw[Array.getD_eq_getD_getElem?,Array.getElem?_append_left (by simp)]
     exact c1
   |succ j=>
     simp at hx
     have:=c0 j x hx
     rw[Array.getD_eq_getD_getElem?]at this ⊢
     rw[Array.getElem?_append_right (by simp)]
     simpa using this
  ·obtain⟨e1,id,rfl⟩:=hps i v hl
   rw[hGi i _ hl]
   rfl
 refine(h.2 w0 Z0 X G' Z L w vs (EnvOK.of P w0 Z0 X G') hm h4).mono ?_
 rintro e w' ⟨v,r,st',Z',L',e1,⟨b',a',m',rfl,hq⟩,h5,h6⟩
 have hbx: ∀id k,lk ps k=some (.ptr id 0)->L'.bx id=L.bx id:=fun id k hk=>by
  have p3:VR w' Z' L' (.ptr id 0) (G' k):=Inv.slotG h5 (by simp only[lk];rw[if_neg (fun e=>(hps k _ hk).1 e.symm)];exact hk)
  rw[hGi k _ hk]at p3
  have p4:Value.pointer (some ⟨L.bx id,0,none⟩)=Value.pointer (some ⟨L'.bx id,0,none⟩):=p3
  injection p4 with p4
  injection p4 with p4
  injection p4 with p4
  exact p4.symm
 refine⟨v,r,_,Z',L',e1,hq,Inv.setG h5 fun i u hl=> ?_,h6⟩
 obtain⟨g1,g2⟩:=ht i u hl
 have hstk:VR w' Z' L' (stkC (l::ls)) (G' 0):=Inv.slotG h5 (by simp[lk])
 rw[hG0]at hstk
 obtain⟨vs1,e2,z1,c2⟩:=stk_vr.1 hstk
 injection e2 with e2
 subst e2
 rcases g2 with⟨x,rfl⟩|rfl|rfl|⟨id,k,rfl,hk⟩|⟨g,ids,rfl,hk⟩
 ·have:=Inv.slotG h3 g1
  have:TR w Z (.sc x) (G i):=this
  show TR w' Z' (.sc x) (G i)
  cases this with
  |sc _ hx=>exact .sc _ hx
 ·rw[h0]at g1
  cases g1
  rw[e0]
  refine stk_vr.2 ⟨_,rfl,hz,fun j x hx=> ?_⟩
  have:=c2 (j+1) x (by simpa using hx)
  rw[Array.getD_eq_getD_getElem?]at this ⊢
  rw[Array.getElem?_append_right (by simp)]at this
  simpa using this
 ·rw[h1]at g1
  cases g1
  have:=c2 0 l rfl
  rw[Array.getD_eq_getD_getElem?,Array.getElem?_append_left (by simp)]at this
  exact this
 ·show G i= .pointer (some ⟨L'.bx id,0,none⟩)
  have p2:G i= .pointer (some ⟨L.bx id,0,none⟩):=Inv.slotG h3 g1
  rw[p2,hbx id k hk]
 ·have p2:G i= .func (.func g) #[] (ids.map fun i=>Value.pointer (some ⟨L.bx i,0,none⟩)).toArray:=Inv.slotG h3 g1
  show G i= .func (.func g) #[] (ids.map fun i=>Value.pointer (some ⟨L'.bx i,0,none⟩)).toArray
  rw[p2]
  congr 2
  refine List.map_congr_left fun id hid=> ?_
  obtain⟨k,hk⟩:=hk id hid
  rw[hbx id k hk]
def stT(s ps:List (Nat×PV))(i0:Nat):List (Nat×PV)->Prop
 |[]=>True
 |(i,v)::r=>(lk s i=some v/\(i=0\/i=i0\/frV ps v))/\stT s ps i0 r
@[push_cast] theorem qFb(s ps:List (Nat×PV))(i0:Nat):stT s ps i0 []=True:=rfl
@[push_cast] theorem qFc(s ps r:List (Nat×PV))(i0 i:Nat)(v:PV):stT s ps i0 ((i,v)::r)=((lk s i=some v/\(i=0\/i=i0\/frV ps v))/\stT s ps i0 r):=rfl
theorem qFd{s ps:List (Nat×PV)}{i0:Nat} : ∀ {t:List (Nat×PV)},stT s ps i0 t-> ∀i v,lk t i=some v->lk s i=some v/\(i=0\/i=i0\/frV ps v)
 |[],_,i,v,hl=>by cases hl
 | (k, u) :: r, h, i, v, hl => by
   simp only[lk]at hl
   split at hl
   ·rename_i e
    cases hl
    subst e
    exact h.1
   ·exact qFd h.2 i v hl
def noZ(ps:List (Nat×PV)):Bool:=ps.all fun x=>x.1 !=0
theorem qFe{ps:List (Nat×PV)}(h:noZ ps=true){i:Nat}{v:PV}(hl:lk ps i=some v):i≠0:=by
 obtain⟨x,hx,e⟩:=quv hl
 have:=List.all_eq_true.1 h x hx
 rw[<- e]
 simpa using this
theorem FnM.stkf {P : Program} {f : Nat} {args : List PV} {s : List (Nat × PV)} (ps t : List (Nat × PV)) {b : List (Nat × List PV)} {a : List (Nat × Arr)} {m : List (Nat × Mp)} {Q : PV -> St -> Prop}
  (ls:List (Nat×List (List PV))) (l:Nat×List (List PV)) (i0:Nat) (h0:lk s 0=some (stkC ls)) (h1:lk s i0=some (.sl false l.1 l.2)) (hp:allP ps=true) (ho:quu ps=true) (hz:noZ ps=true) (ht:stT s ps i0 t)
  (h:FnM (Env.of P) f args ⟨(0,stkC (l::ls))::ps,b,a,m⟩ fun r st' => ∃b' a' m',st' =⟨(0,stkC (l::ls))::ps,b',a',m'⟩/\Q r ⟨t,b',a',m'⟩):FnM (Env.of P) f args ⟨s,b,a,m⟩ Q:=by
 refine FnM.stkc ls l i0 h0 h1 (fun i v hl=>⟨qFe hz hl,qut hp i v hl⟩) (fun i v hl=> ?_) h
 obtain⟨g1,g2⟩:=qFd ht i v hl
 refine⟨g1,?_⟩
 rcases g2 with g2|g2|g2
 ·exact .inr (.inl g2)
 ·exact .inr (.inr (.inl g2))
 cases v with
 |sc x=>exact .inl ⟨x,rfl⟩
 |ptr id o=>
   obtain⟨rfl,g3⟩:=g2
   obtain⟨k,hk⟩:=quw hp ho g3
   exact .inr (.inr (.inr (.inl ⟨id,k,rfl,hk⟩)))
 |clo g ids=>exact .inr (.inr (.inr (.inr ⟨g,ids,rfl,fun id hid=>quw hp ho (List.all_eq_true.1 g2 id hid)⟩)))
 |_=>exact g2.elim
theorem FnM.stkf0 {P : Program} {f : Nat} {args : List PV} {s : List (Nat × PV)} (ps t : List (Nat × PV)) {b : List (Nat × List PV)} {a : List (Nat × Arr)} {m : List (Nat × Mp)} {Q : PV -> St -> Prop}
  (hp:allP ps=true) (ho:quu ps=true) (hz:noZ ps=true) (ht:frT s ps t)
  (h:FnM (Env.of P) f args ⟨(0,stkC [])::ps,b,a,m⟩ fun r st' => ∃b' a' m',st' =⟨(0,stkC [])::ps,b',a',m'⟩/\Q r ⟨t,b',a',m'⟩):FnM (Env.of P) f args ⟨s,b,a,m⟩ Q:=by
 refine FnM.frame ps t hp ho ht ?_
 refine FnM.stk0 (t:=ps) (fun i v hl=>⟨qFe hz hl,qut hp i v hl⟩) (fun i v hl=>⟨hl,?_⟩) (FnM.mono h ?_)
 ·obtain⟨id,rfl⟩:=qut hp i v hl
  exact .inr ⟨id,i,rfl,hl⟩
 ·rintro r st' ⟨b',a',m',rfl,hq⟩
  exact⟨b',a',m',rfl,b',a',m',rfl,hq⟩
end Go.Vc
namespace Go.Vc
open Go Go.RowKit
def slD(V:Nat->PV)(dn:List Nat):List XO->List (Nat×PV)->List (Nat×PV)
 |[],s=>s
 |x::r,s=>slD V dn r (if dn.contains x.i=true then(match x.o.d with|some d=>up s d (V x.i)|none=>s)else s)
def putD(V:Nat->PV)(x:XO)(s:List (Nat×PV)):List (Nat×PV):=match x.o.d with|some d=>up s d (V x.i)|none=>s
theorem qFf(V:Nat->PV)(dn:List Nat)(x:XO)(r:List XO)(s:List (Nat×PV)):slD V dn (x::r) s=slD V dn r (if dn.contains x.i=true then putD V x s else s):=rfl
def qFg:List XO->Bool
 |[]=>true
 |x::r=>r.all (fun y=>x.i !=y.i&&(match x.o.d,y.o.d with|some d,some e=>d !=e|_,_=>true))&&qFg r
theorem qFh(V:Nat->PV){x y:XO}(h: ∀d e,x.o.d=some d->y.o.d=some e->d≠e)(s:List (Nat×PV)):putD V x (putD V y s)=putD V y (putD V x s):=by
 unfold putD
 cases hx:x.o.d with
 |none=>cases y.o.d<;>rfl
 |some d=>
   cases hy:y.o.d with
   |none=>rfl
   |some e=>exact qa3 s _ _ (fun q=>h d e hx hy q.symm)
theorem qFi{V:Nat->PV}{dn:List Nat}{x:XO} : ∀ {r:List XO} (_: ∀y∈r,∀d e,x.o.d=some d->y.o.d=some e->d≠e) (s:List (Nat×PV)),slD V dn r (putD V x s)=putD V x (slD V dn r s)
 |[],_,_=>rfl
 | y :: r, h, s => by
   rw[qFf,qFf]
   split
   ·rw[<- qFh V (h y (by simp)) s]
    exact qFi (fun z hz=>h z (by simp[hz])) _
   ·exact qFi (fun z hz=>h z (by simp[hz])) _
theorem qFj{x:XO}{r:List XO}(h:qFg (x::r)=true):(∀y∈r,x.i≠y.i/\ ∀d e,x.o.d=some d->y.o.d=some e->d≠e)/\qFg r=true:=by
 simp only[qFg,Bool.and_eq_true,List.all_eq_true]at h
 refine⟨fun y hy=> ?_,h.2⟩
 obtain⟨h1,h2⟩:=h.1 y hy
 refine⟨by simpa using h1,fun d e e1 e2=> ?_⟩
 rw[e1,e2]at h2
 simpa using h2
theorem qFk{V:Nat->PV}{dn:List Nat}{i:Nat} : ∀ {r:List XO} (_: ∀y∈r,i≠y.i) (s:List (Nat×PV)),slD V (i::dn) r s=slD V dn r s
 |[],_,_=>rfl
 | y :: r, h, s => by
   have e:(i::dn).contains y.i=dn.contains y.i:=by
    have:=h y (by simp)
    simp[this.symm]
   rw[qFf,qFf,e]
   exact qFk (fun z hz=>h z (by simp[hz])) _
theorem qFl{V:Nat->PV}{dn:List Nat}{x:XO}(hnd:dn.contains x.i=false): ∀ {ops:List XO} (_:qFg ops=true) (_:x∈ops) (s:List (Nat×PV)),slD V (x.i::dn) ops s=putD V x (slD V dn ops s)
 | y :: r, h, hx, s => by
   obtain⟨h1,h2⟩:=qFj h
   rw[qFf,qFf]
   rcases List.mem_cons.1 hx with rfl|hx
   ·rw[if_pos (by simp),hnd,if_neg (by decide),qFk (fun z hz=>(h1 z hz).1),qFi fun z hz=>(h1 z hz).2]
   ·have hne:=(h1 x hx).1
    have e:(x.i::dn).contains y.i=dn.contains y.i:=by simp[hne]
    rw[e]
    exact qFl hnd h2 hx _
theorem qFm{V:Nat->PV}{dn:List Nat}{j:Nat} : ∀ {r:List XO} (_:r.all (fun y=>y.o.d !=some j)=true) (s:List (Nat×PV)),lk (slD V dn r s) j=lk s j
 |[],_,_=>rfl
 | y :: r, h, s => by
   simp only[List.all_cons,Bool.and_eq_true]at h
   rw[qFf,qFm h.2]
   split
   ·unfold putD
    split
    ·rename_i d hd
     rw[qa2,if_neg]
     intro e
     rw[hd,e]at h
     simp at h
    ·rfl
   ·rfl
theorem qFn{V:Nat->PV}{dn:List Nat}{x:XO}{d:Nat}(hd:x.o.d=some d)(hdn:dn.contains x.i=true): ∀ {ops:List XO} (_:qFg ops=true) (_:x∈ops) (s:List (Nat×PV)),lk (slD V dn ops s) d=some (V x.i)
 | y :: r, h, hx, s => by
   obtain⟨h1,h2⟩:=qFj h
   rw[qFf]
   rcases List.mem_cons.1 hx with rfl|hx
   ·rw[if_pos hdn,qFm]
    ·unfold putD
     rw[hd]
     simp only
     rw[qa2,if_pos rfl]
    ·rw[List.all_eq_true]
     intro z hz
     have:=(h1 z hz).2
     cases he:z.o.d with
     |none=>rfl
     |some e=>
       have:=this d e hd he
       simp[this.symm]
   ·exact qFn hd hdn h2 hx _
def qFo(ops:List XO)(dn:List Nat):Prop:= ∀x∈ops,dn.contains x.i=true-> ∀j∈x.deps,dn.contains j=true
theorem qFp: ∀ {l1 l2:List Nat},l1.Nodup->(∀x∈l1,x∈l2)->l1.length<=l2.length
 |[],_,_,_=>Nat.zero_le _
 | x :: l1, l2, h, hs => by
   rw[List.nodup_cons]at h
   have hx:=hs x (by simp)
   have h1:=qFp (l1:=l1) (l2:=l2.erase x) h.2 fun y hy=>(List.mem_erase_of_ne (fun e=>h.1 (by rw[<- e];exact hy))).2 (hs y (by simp[hy]))
   rw[List.length_erase_of_mem hx]at h1
   have:=List.length_pos_of_mem hx
   rw[List.length_cons]
   omega
theorem qFq{ops:List XO}(h:qFg ops=true){x y:XO}(hx:x∈ops)(hy:y∈ops)(e:x.i=y.i):x=y:=by
 induction ops with
 |nil=>cases hx
 |cons z r ih=>
   obtain⟨h1,h2⟩:=qFj h
   rcases List.mem_cons.1 hx with e1|hx2
   ·rcases List.mem_cons.1 hy with e2|hy2
    ·rw[e1,e2]
    ·exact absurd (by rw[<- e1,e]) (h1 y hy2).1
   ·rcases List.mem_cons.1 hy with e2|hy2
    ·exact absurd (by rw[<- e2,e]) (h1 x hx2).1
    ·exact ih h2 hx2 hy2
theorem qFr {P : Env} {ops : List XO} {V : Nat -> PV} {s0 : List (Nat × PV)} (mem : List Nat -> List (Nat × List PV) × List (Nat × Arr) × List (Nat × Mp)) (hops : qFg ops = true) (hg : ops.all (fun x => x.o.g.isNone) = true)
  (step: ∀x∈ops,∀dn,rdyB dn x=true->qFo ops dn-> ∀K:St->Prop,K ⟨putD V x (slD V dn ops s0),(mem (x.i::dn)).1,(mem (x.i::dn)).2.1,(mem (x.i::dn)).2.2⟩->
   opK P x.o ⟨slD V dn ops s0,(mem dn).1,(mem dn).2.1,(mem dn).2.2⟩ K) {K:St->Prop}
  (hK: ∀dn,(∀x∈ops,dn.contains x.i=true)->K ⟨slD V dn ops s0,(mem dn).1,(mem dn).2.1,(mem dn).2.2⟩):
  ∀(n:Nat) (dn:List Nat),dn.length+n=ops.length->dn.Nodup->(∀j∈dn,j∈ops.map (·.i))->qFo ops dn->allK P ops n dn ⟨slD V dn ops s0,(mem dn).1,(mem dn).2.1,(mem dn).2.2⟩ K
 | 0, dn, hl, hn, hs, _ => by
   have hall: ∀x∈ops,dn.contains x.i=true:=fun x hx=>by
    refine Classical.byContradiction fun hc=> ?_
    have hm:x.i∉dn:=by simpa using hc
    have:=qFp (l1:=x.i::dn) (l2:=ops.map (·.i)) (List.nodup_cons.2 ⟨hm,hn⟩) fun j hj=>(List.mem_cons.1 hj).elim (fun e=>by rw[e];exact List.mem_map_of_mem hx) (hs j)
    simp at this
    omega
   exact⟨List.all_eq_true.2 hall,hK dn hall⟩
 | n + 1, dn, hl, hn, hs, hc => by
   refine⟨fun e=>hK dn (List.all_eq_true.1 e),fun x hx hr=> ?_⟩
   have h2:x.o.g=none:=by simpa using List.all_eq_true.1 hg x hx
   have hr2:=hr
   simp only[rdyB,Bool.and_eq_true,Bool.not_eq_true',List.all_eq_true]at hr2
   have hm:x.i∉dn:=by simpa using hr2.1
   simp only[h2,grdK]
   refine step x hx dn hr hc _ ?_
   rw[<- qFl hr2.1 hops hx]
   refine qFr mem hops hg step hK n (x.i::dn) (by simp;omega) (List.nodup_cons.2 ⟨hm,hn⟩) (fun j hj=>(List.mem_cons.1 hj).elim (fun e=>by rw[e];exact List.mem_map_of_mem hx) (hs j)) ?_
   intro y hy hyd j hj
   rw[List.contains_cons,Bool.or_eq_true]at hyd ⊢
   rcases hyd with e|hyd
   ·have e:y.i=x.i:=by simpa using e
    have:y=x:=qFq hops hy hx e
    subst this
    exact .inr (hr2.2 j hj)
   ·exact .inr (hc y hy hyd j hj)
def dstB:Option Nat->Nat->Bool
 |some d,t=>d==t
 |none,_=>false
def idxW:List XO->Nat->Option Nat
 |[],_=>none
 |x::r,t=>if dstB x.o.d t=true then some x.i else idxW r t
def knW(ops:List XO)(dn:List Nat)(t:Nat):Prop:=match idxW ops t with|none=>True|some i=>dn.contains i=true
def vlW(ops:List XO)(V:Nat->PV)(s0:List (Nat×PV))(t:Nat):PV:=match idxW ops t with|none=>getL s0 t|some i=>V i
theorem dstB_iff{o:Option Nat}{t:Nat} :dstB o t=true ↔ o=some t:=by cases o<;>simp[dstB]
theorem qFs: ∀ {ops:List XO} {t:Nat},idxW ops t=none->ops.all (fun y=>y.o.d !=some t)=true
 |[],_,_=>rfl
 | x :: r, t, h => by
   unfold idxW at h
   split at h
   ·cases h
   ·rename_i hd
    rw[List.all_cons,qFs h,Bool.and_true]
    simp only[bne_iff_ne,ne_eq]
    exact fun e=>hd (dstB_iff.2 e)
theorem qFt: ∀ {ops:List XO} {t i:Nat},idxW ops t=some i-> ∃x∈ops,x.o.d=some t/\x.i=i
 |[],_,_,h=>by cases h
 | x :: r, t, i, h => by
   unfold idxW at h
   split at h
   ·rename_i hd
    injection h with h
    exact⟨x,by simp,dstB_iff.1 hd,h⟩
   ·obtain⟨y,hy,h2⟩:=qFt h
    exact⟨y,by simp[hy],h2⟩
theorem qFu{ops:List XO}{V:Nat->PV}{s0:List (Nat×PV)}{dn:List Nat}(hops:qFg ops=true){t:Nat}(h:knW ops dn t):getL (slD V dn ops s0) t=vlW ops V s0 t:=by
 unfold knW at h
 unfold vlW
 cases e:idxW ops t with
 |none=>rw[<- qh5,qFm (qFs e),qh5]
 |some i=>
   rw[e]at h
   obtain⟨x,hx,h1,rfl⟩:=qFt e
   rw[<- qh5,qFn h1 h hops hx]
   rfl
def slA(V:Nat->PV):List XO->List (Nat×PV)->List (Nat×PV)
 |[],s=>s
 |x::r,s=>slA V r (putD V x s)
theorem qFv{V:Nat->PV}{dn:List Nat} : ∀ {ops:List XO} (_: ∀x∈ops,dn.contains x.i=true) (s:List (Nat×PV)),slD V dn ops s=slA V ops s
 |[],_,_=>rfl
 | x :: r, h, s => by
   rw[qFf,if_pos (h x (by simp)),slA]
   exact qFv (fun y hy=>h y (by simp[hy])) _
theorem qFw{q:PV->Bool} : ∀ {s:List (Nat×PV)} {i:Nat} {v:PV},s.all (fun y=>q y.2)=true->q v=true->(up s i v).all (fun y=>q y.2)=true
 |[],_,_,_,hv=>by simp[up,hv]
 | (k, u) :: r, i, v, h, hv => by
   rw[List.all_cons,Bool.and_eq_true]at h
   unfold up
   split
   ·rw[List.all_cons,hv,h.2];rfl
   ·split
    ·rw[List.all_cons,hv,List.all_cons,h.1,h.2];rfl
    ·rw[List.all_cons,h.1,qFw h.2 hv];rfl
theorem qFx{V:Nat->PV}{dn:List Nat}{q:PV->Bool} : ∀ {ops:List XO} {s:List (Nat×PV)},s.all (fun y=>q y.2)=true->(∀y∈ops,dn.contains y.i=true->q (V y.i)=true)->(slD V dn ops s).all (fun y=>q y.2)=true
 |[],_,h,_=>h
 | x :: r, s, h, hv => by
   rw[qFf]
   refine qFx ?_ fun y hy=>hv y (by simp[hy])
   split
   ·rename_i hx
    unfold putD
    split
    ·exact qFw h (hv x (by simp) hx)
    ·exact h
   ·exact h
theorem qFy{pb pa:Nat->Bool} : ∀ {s:List (Nat×PV)},s.all (fun y=> !y.2.toV pb pa)=true->qiy pb pa s=s
 |[],_=>rfl
 | (k, u) :: r, h => by
   rw[List.all_cons,Bool.and_eq_true,Bool.not_eq_true']at h
   rw[qiy,qFy h.2,h.1]
   rfl
theorem qFz{P:Env}{o:AO}{st:St}{K:St->Prop}(hg:o.g=none)(h:opsK P [o] st K):opK P o st K:=by
 obtain⟨d,g,op⟩:=o
 subst hg
 exact h
theorem qFA{dn:List Nat}{x:XO}(h:rdyB dn x=true){j:Nat}(hj:j∈x.deps):dn.contains j=true:=by
 simp only[rdyB,Bool.and_eq_true,List.all_eq_true]at h
 exact h.2 j hj
theorem qFB{dn:List Nat}{x:XO}(h:rdyB dn x=true):dn.contains x.i=false:=by
 simp only[rdyB,Bool.and_eq_true,Bool.not_eq_true']at h
 exact h.1
theorem qFC{ops:List XO}{dn:List Nat}{x y:XO}(hc:qFo ops dn)(hr:rdyB dn x=true)(hy:y∈ops)(hj:x.i∈y.deps):dn.contains y.i=false:=by
 cases h:dn.contains y.i with
 |false=>rfl
 |true=>exact absurd ((qFB hr).symm.trans (hc y hy h x.i hj)) (by decide)
theorem qFD {P : Env} {i id : Nat} {kd : KD} {zero : PV} {x k : Opd} {s : List (Nat × PV)} {b : List (Nat × List PV)} {a : List (Nat × Arr)} {m : List (Nat × Mp)} {K : St -> Prop} {kv : Value} {es : List (Value × PV)} {l : List Nat} {c : Nat}
  (hx:x.ev ⟨s,b,a,m⟩= .mp id) (hk:keyV (k.ev ⟨s,b,a,m⟩)=some kv) (hm:lk m id=some ⟨kd,es,some (.stp l c)⟩) (hh:kd.has kv=true) (hn:mget es kv=none) (hz:qbO zero=true)
  (h:K ⟨up s i (.tup [zero,.sc (.int .i64 c)]),b,a,up m id ⟨kd,es++[(kv,zero)],some (.stp (l++[c]) (c+1))⟩⟩):opsK P [⟨some i,none,.men kd zero x k⟩] ⟨s,b,a,m⟩ K:=by
 show(hev ⟨s,b,a,m⟩ (some i) (.men kd zero x k)).1/\K (hev ⟨s,b,a,m⟩ (some i) (.men kd zero x k)).2
 have e:hev ⟨s,b,a,m⟩ (some i) (.men kd zero x k)=(((kd=kd/\kd.has kv=true)/\mget es kv=none)/\qbO zero=true,⟨up s i (.tup [zero,.sc (.int .i64 c)]),b,a,up m id ⟨kd,es++[(kv,zero)],some (.stp (l++[c]) (c+1))⟩⟩):=by
  simp only[hev,hx,hk,hm]
  rfl
 rw[e]
 exact⟨⟨⟨⟨rfl,hh⟩,hn⟩,hz⟩,h⟩
theorem qFE {P : Env} {id j : Nat} {n : Int} {kd : KD} {x t v : Opd} {s : List (Nat × PV)} {b : List (Nat × List PV)} {a : List (Nat × Arr)} {m : List (Nat × Mp)} {K : St -> Prop} {es : List (Value × PV)} {l : List Nat} {c : Nat}
  (hx:x.ev ⟨s,b,a,m⟩= .mp id) (ht:t.ev ⟨s,b,a,m⟩= .sc (.int .i64 n)) (hm:lk m id=some ⟨kd,es,some (.stp l c)⟩) (hj:l.findIdx? (fun(q:Nat)=>(q:Int)==n)=some j) (hv:qbO (v.ev ⟨s,b,a,m⟩)=true)
  (h:K ⟨s,b,a,up m id ⟨kd,es.modify j fun y=>(y.1,v.ev ⟨s,b,a,m⟩),none⟩⟩):opsK P [⟨none,none,.est x t v⟩] ⟨s,b,a,m⟩ K:=by
 show(hev ⟨s,b,a,m⟩ none (.est x t v)).1/\K (hev ⟨s,b,a,m⟩ none (.est x t v)).2
 have e:hev ⟨s,b,a,m⟩ none (.est x t v)=(qbO (v.ev ⟨s,b,a,m⟩)=true,⟨s,b,a,up m id ⟨kd,es.modify j fun y=>(y.1,v.ev ⟨s,b,a,m⟩),none⟩⟩):=by
  simp only[hev,hx,ht,hm,hj]
 rw[e]
 exact⟨hv,h⟩
theorem qFF{s:List (Nat×PV)}{b:List (Nat×List PV)}{a:List (Nat×Arr)}{m:List (Nat×Mp)}{t:Nat}{v:PV}(h:getL s t=v):(Opd.t t).ev ⟨s,b,a,m⟩=v:=by
 rw[<- h];exact qh5 s t
theorem qFG {P : Env} {t id : Nat} {c : AC} {Q : Exit -> St -> Prop} {s : List (Nat × PV)} {b : List (Nat × List PV)} {a : List (Nat × Arr)} {m : List (Nat × Mp)} {M : Mp} (h1 : getL s t = .mp id) (h2 : lk m id = some M)
  (h: ∀l k,l.length=M.es.length->awp P c Q ⟨s,b,a,up m id ⟨M.kd,M.es,some (.stp l k)⟩⟩):awp P (.obs t c) Q ⟨s,b,a,m⟩:=by
 show obsK _ _ _
 unfold obsK
 rw[show St.get ⟨s,b,a,m⟩ t= .mp id by rw[<- h1];exact qh5 s t]
 show(match lk m id with|some M=> ∀l c',l.length=M.es.length->awp P c Q ⟨s,b,a,up m id ⟨M.kd,M.es,some (.stp l c')⟩⟩|none=>False)
 rw[h2]
 exact h
theorem qFH {P : Env} {ops : List XO} (V : Nat -> PV) {s0 : List (Nat × PV)} (mem : List Nat -> List (Nat × List PV) × List (Nat × Arr) × List (Nat × Mp)) (hops : qFg ops = true) (hg : ops.all (fun x => x.o.g.isNone) = true)
  (step: ∀x∈ops,∀(dn:List Nat) (S:List (Nat×PV)),rdyB dn x=true->qFo ops dn->(∀t,knW ops dn t->getL S t=vlW ops V s0 t)->
   (∀q:PV->Bool,s0.all (fun y=>q y.2)=true->(∀y∈ops,dn.contains y.i=true->q (V y.i)=true)->S.all (fun y=>q y.2)=true)->
   ∀K:St->Prop,K ⟨putD V x S,(mem (x.i::dn)).1,(mem (x.i::dn)).2.1,(mem (x.i::dn)).2.2⟩->opsK P [x.o] ⟨S,(mem dn).1,(mem dn).2.1,(mem dn).2.2⟩ K) {K:St->Prop}
  (hK: ∀dn,(∀x∈ops,dn.contains x.i=true)->K ⟨slA V ops s0,(mem dn).1,(mem dn).2.1,(mem dn).2.2⟩) {st:St} (hst:st=⟨s0,(mem []).1,(mem []).2.1,(mem []).2.2⟩):allK P ops ops.length [] st K:=by
 have h0:slD V [] ops s0=s0:=by
  have: ∀(l:List XO) (s:List (Nat×PV)),slD V [] l s=s:=by
   intro l
   induction l with
   |nil=>exact fun _=>rfl
   |cons x r ih=>exact fun s=>by rw[qFf,if_neg (by simp)];exact ih s
  exact this ops s0
 subst hst
 have key:=qFr (P:=P) (ops:=ops) (V:=V) (s0:=s0) mem hops hg (fun x hx dn hr hc K hk=>qFz (by simpa using List.all_eq_true.1 hg x hx) (step x hx dn _ hr hc (fun t ht=>qFu hops ht) (fun q h1 h2=>qFx h1 h2) K hk)) (K:=K) (fun dn h=>by rw[qFv h];exact hK dn h) ops.length [] (by simp) .nil (fun j hj=>by cases hj) (fun x _ h=>by simp at h)
 rw[h0]at key
 exact key
end Go.Vc
namespace Go.Proofs.YtdmkfgkmnpohlaaGreat
open Go Go.Vc Txt
def keyR:Value:= .agg #[.int .i64 1,.int .i64 0]
def v7(c:Nat):Nat->PV
 |0=> .mp 22
 |1=> .ptr 12 0
 |2=> .int 1
 |3=> .ptr 12 1
 |4=> .int 0
 |5=> .agg [.int 1,.int 0]
 |6=> .int 0
 |7=> .ptr 12 2
 |8=> .int 0
 |9=> .int (shfF .shl .i64 1 0)
 |10=> .int (Vc.bitF .or .i64 0 (shfF .shl .i64 1 0))
 |11=> .tup [.int 0,.int c]
 |12=> .int c
 |_=> .bot
def s7:List (Nat×PV):=[(2,.sl false 1 (rows qk7 [true])),(5,.ptr 5 0),(7,.ptr 7 0),(8,.ptr 8 0),(9,.mp 21),(10,.mp 22),(12,.ptr 12 0),(24,.sl false 3 (rows qwA [⟨1,0,0⟩])),(25,.int 1),(26,.int 0)]
def b7(r:Int):List (Nat×List PV):=[(5,[.sl false 1 (ints [r]),.sl false 1 (rows (memC false) [])]),(7,[.int 0,.int 0]),(8,[.bool false,.nil,.nil,.nil,.nil]),(12,[.int 1,.int 0,.int 0])]
def m21:Nat×Mp:=(21,⟨.st 2,[(keyR,.bool true)],none⟩)
def mm7(c:Nat)(h13 h11:Bool):List (Nat×Mp):=m21::[(22,if h13=true then⟨.st 2,[(keyR,.int (Vc.bitF .or .i64 0 (shfF .shl .i64 1 0)))],none⟩else if h11=true then⟨.st 2,[(keyR,.int 0)],some (.stp [c] (c+1))⟩else⟨.st 2,[],some (.stp [] c)⟩)]
set_option maxHeartbeats 4000000 in
theorem reg7(r:Int)(c:Nat)(K:St->Prop)(hK:K ⟨slA (v7 c) xs71_7 s7,b7 r,[],mm7 c true true⟩):allK (Env.of Tryz.prog) xs71_7 14 [] ⟨s7,b7 r,[],mm7 c false false⟩ K:=by
 refine qFH (ops:=xs71_7) (v7 c) (fun dn=>(b7 r,[],mm7 c (dn.contains 13) (dn.contains 11))) rfl rfl ?_ ?_ rfl
 ·rw[xs71_7_all]
  refine⟨?_,?_,?_,?_,?_,?_,?_,?_,?_,?_,?_,?_,?_,?_⟩
  ·intro dn S hr hc L N K hK
   have g10:getL S 10= .mp 22:=L 10 trivial
   simp only[g10,push_cast,reduceIte,reduceEqDiff,reduceAdd,reduceSub,reduceMul,Nat.reduceBEq,reduceLT,reduceLeDiff,reduceCtorEq,reduceToNat,reduceNeg]
   exact hK
  ·intro dn S hr hc L N K hK
   have g12:getL S 12= .ptr 12 0:=L 12 trivial
   simp only[g12,push_cast,reduceIte,reduceEqDiff,reduceAdd,reduceSub,reduceMul,Nat.reduceBEq,reduceLT,reduceLeDiff,reduceCtorEq,reduceToNat,reduceNeg]
   exact hK
  ·intro dn S hr hc L N K hK
   have g42:getL S 42= .ptr 12 0:=L 42 (qFA hr (j:=1) (by decide))
   simp only[g42,b7,push_cast,reduceIte,reduceEqDiff,reduceAdd,reduceSub,reduceMul,Nat.reduceBEq,reduceLT,reduceLeDiff,reduceCtorEq,reduceToNat,reduceNeg]
   exact hK
  ·intro dn S hr hc L N K hK
   have g12:getL S 12= .ptr 12 0:=L 12 trivial
   simp only[g12,push_cast,reduceIte,reduceEqDiff,reduceAdd,reduceSub,reduceMul,Nat.reduceBEq,reduceLT,reduceLeDiff,reduceCtorEq,reduceToNat,reduceNeg]
   exact hK
  ·intro dn S hr hc L N K hK
   have g44:getL S 44= .ptr 12 1:=L 44 (qFA hr (j:=3) (by decide))
   simp only[g44,b7,push_cast,reduceIte,reduceEqDiff,reduceAdd,reduceSub,reduceMul,Nat.reduceBEq,reduceLT,reduceLeDiff,reduceCtorEq,reduceToNat,reduceNeg]
   exact hK
  ·intro dn S hr hc L N K hK
   have g43:getL S 43= .int 1:=L 43 (qFA hr (j:=2) (by decide))
   have g45:getL S 45= .int 0:=L 45 (qFA hr (j:=4) (by decide))
   simp only[g43,g45,push_cast,reduceIte,reduceEqDiff,reduceAdd,reduceSub,reduceMul,Nat.reduceBEq,reduceLT,reduceLeDiff,reduceCtorEq,reduceToNat,reduceNeg]
   exact hK
  ·intro dn S hr hc L N K hK
   have g41:getL S 41= .mp 22:=L 41 (qFA hr (j:=0) (by decide))
   have g46:getL S 46= .agg [.int 1,.int 0]:=L 46 (qFA hr (j:=5) (by decide))
   have h13:dn.contains 13=false:=qFC hc hr (List.mem_of_getElem? (i:=13) rfl) (by decide)
   have hK:K ⟨up S 47 (.int 0),b7 r,[],mm7 c (dn.contains 13) (dn.contains 11)⟩:=hK
   rw[h13]at hK
   show opsK _ _ ⟨S,b7 r,[],mm7 c (dn.contains 13) (dn.contains 11)⟩ K
   rw[h13]
   cases h11:dn.contains 11<;>rw[h11]at hK<;>simp only[g41,g46,mm7,m21,push_cast,reduceIte,reduceEqDiff,reduceAdd,reduceSub,reduceMul,Nat.reduceBEq,reduceLT,reduceLeDiff,reduceCtorEq,reduceToNat,reduceNeg]<;>exact hK
  ·intro dn S hr hc L N K hK
   have g12:getL S 12= .ptr 12 0:=L 12 trivial
   simp only[g12,push_cast,reduceIte,reduceEqDiff,reduceAdd,reduceSub,reduceMul,Nat.reduceBEq,reduceLT,reduceLeDiff,reduceCtorEq,reduceToNat,reduceNeg]
   exact hK
  ·intro dn S hr hc L N K hK
   have g48:getL S 48= .ptr 12 2:=L 48 (qFA hr (j:=7) (by decide))
   simp only[g48,b7,push_cast,reduceIte,reduceEqDiff,reduceAdd,reduceSub,reduceMul,Nat.reduceBEq,reduceLT,reduceLeDiff,reduceCtorEq,reduceToNat,reduceNeg]
   exact hK
  ·intro dn S hr hc L N K hK
   have g49:getL S 49= .int 0:=L 49 (qFA hr (j:=8) (by decide))
   simp only[g49,push_cast,reduceIte,reduceEqDiff,reduceAdd,reduceSub,reduceMul,Nat.reduceBEq,reduceLT,reduceLeDiff,reduceCtorEq,reduceToNat,reduceNeg]
   exact⟨by omega,hK⟩
  ·intro dn S hr hc L N K hK
   have g47:getL S 47= .int 0:=L 47 (qFA hr (j:=6) (by decide))
   have g50:getL S 50= .int (shfF .shl .i64 1 0):=L 50 (qFA hr (j:=9) (by decide))
   simp only[g47,g50,push_cast,reduceIte,reduceEqDiff,reduceAdd,reduceSub,reduceMul,Nat.reduceBEq,reduceLT,reduceLeDiff,reduceCtorEq,reduceToNat,reduceNeg]
   exact hK
  ·intro dn S hr hc L N K hK
   have g41:getL S 41= .mp 22:=L 41 (qFA hr (j:=0) (by decide))
   have g46:getL S 46= .agg [.int 1,.int 0]:=L 46 (qFA hr (j:=5) (by decide))
   have h13:dn.contains 13=false:=qFC hc hr (List.mem_of_getElem? (i:=13) rfl) (by decide)
   have h11:dn.contains 11=false:=qFB hr
   have hK:K ⟨up S 52 (.tup [.int 0,.int c]),b7 r,[],mm7 c (dn.contains 13) true⟩:=hK
   rw[h13]at hK
   show opsK _ _ ⟨S,b7 r,[],mm7 c (dn.contains 13) (dn.contains 11)⟩ K
   rw[h13,h11]
   exact qFD (qFF g41) (kv:=keyR) (by rw[qFF g46];rfl) (id:=22) rfl rfl rfl rfl hK
  ·intro dn S hr hc L N K hK
   have g52:getL S 52= .tup [.int 0,.int c]:=L 52 (qFA hr (j:=11) (by decide))
   simp only[g52,push_cast,reduceIte,reduceEqDiff,reduceAdd,reduceSub,reduceMul,Nat.reduceBEq,reduceLT,reduceLeDiff,reduceCtorEq,reduceToNat,reduceNeg]
   exact hK
  ·intro dn S hr hc L N K hK
   have g41:getL S 41= .mp 22:=L 41 (qFA hr (j:=0) (by decide))
   have g51:getL S 51= .int (Vc.bitF .or .i64 0 (shfF .shl .i64 1 0)):=L 51 (qFA hr (j:=10) (by decide))
   have g53:getL S 53= .int c:=L 53 (qFA hr (j:=12) (by decide))
   have h13:dn.contains 13=false:=qFB hr
   have h11:dn.contains 11=true:=qFA hr (j:=11) (by decide)
   have hK:K ⟨S,b7 r,[],mm7 c true (dn.contains 11)⟩:=hK
   show opsK _ _ ⟨S,b7 r,[],mm7 c (dn.contains 13) (dn.contains 11)⟩ K
   rw[h13,h11]
   refine qFE (qFF g41) (qFF g53) (id:=22) (j:=0) rfl (by simp) (by rw[qFF g51];rfl) ?_
   rw[qFF g51]
   exact hK
 ·intro dn h
  rw[xs71_7_all]at h
  obtain⟨h0,h1,h2,h3,h4,h5,h6,h7,h8,h9,h10,h11,h12,h13⟩:=h
  show K ⟨_,_,_,mm7 c (dn.contains 13) (dn.contains 11)⟩
  rw[h13,h11]
  exact hK
def v13(w:Int):Nat->PV
 |0=> .ptr 13 1
 |1=> .ptr 13 1
 |2=> .nil
 |3=> .mp 22
 |4=> .int 0
 |5=> .agg [.int 1,.int 0]
 |6=> .int w
 |7=> .view 68 0 1
 |8=> .view 69 0 1
 |9=> .ptr 13 1
 |10=> .ptr 13 1
 |_=> .bot
def s13:List (Nat×PV):=[(5,.ptr 5 0),(7,.ptr 7 0),(8,.ptr 8 0),(9,.mp 21),(10,.mp 22),(13,.ptr 13 0),(14,.int 0),(57,.int 1),(58,.int 0)]
def b13(r:Int)(h11:Bool):List (Nat×List PV):=[(5,[.sl false 1 (ints [r]),.sl false 1 (rows (memC false) [])]),(7,[.int 0,.int 0]),(8,[.bool false,.nil,.nil,.nil,.nil]),(13,[.bool false,if h11=true then .view 69 0 1 else .nil,.nil,.nil,.nil])]
def a13(w:Int)(h7 h8:Bool):List (Nat×Arr):=(if h7=true then[(68,⟨1,3,[[.int w]]⟩)]else[])++(if h8=true then[(69,⟨1,3,[[.int w]]⟩)]else[])
def n13(e1 e2:List (Value×PV)):List (Nat×Mp):=[(21,⟨.st 2,e1,none⟩),(22,⟨.st 2,e2,none⟩)]
set_option maxHeartbeats 4000000 in
theorem qFI(r w:Int)(e1 e2:List (Value×PV))(he:(mget e2 keyR).getD (.int 0)= .int w)(K:St->Prop)(hK:K ⟨slA (v13 w) xs71_13 s13,b13 r true,a13 w true true,n13 e1 e2⟩):allK (Env.of Tryz.prog) xs71_13 12 [] ⟨s13,b13 r false,a13 w false false,n13 e1 e2⟩ K:=by
 refine qFH (ops:=xs71_13) (v13 w) (fun dn=>(b13 r (dn.contains 11),a13 w (dn.contains 7) (dn.contains 8),n13 e1 e2)) rfl rfl ?_ ?_ rfl
 ·rw[xs71_13_all]
  refine⟨?_,?_,?_,?_,?_,?_,?_,?_,?_,?_,?_,?_⟩
  ·intro dn S hr hc L N K hK
   have g13:getL S 13= .ptr 13 0:=L 13 trivial
   simp only[g13,push_cast,reduceIte,reduceEqDiff,reduceAdd,reduceSub,reduceMul,Nat.reduceBEq,reduceLT,reduceLeDiff,reduceCtorEq,reduceToNat,reduceNeg]
   exact hK
  ·intro dn S hr hc L N K hK
   have g61:getL S 61= .ptr 13 1:=L 61 (qFA hr (j:=0) (by decide))
   simp only[g61,push_cast,reduceIte,reduceEqDiff,reduceAdd,reduceSub,reduceMul,Nat.reduceBEq,reduceLT,reduceLeDiff,reduceCtorEq,reduceToNat,reduceNeg]
   exact hK
  ·intro dn S hr hc L N K hK
   have g62:getL S 62= .ptr 13 1:=L 62 (qFA hr (j:=1) (by decide))
   have h11:dn.contains 11=false:=qFC hc hr (List.mem_of_getElem? (i:=11) rfl) (by decide)
   show opsK _ _ ⟨S,b13 r (dn.contains 11),a13 w (dn.contains 7) (dn.contains 8),n13 e1 e2⟩ K
   have hK:K ⟨up S 63 .nil,b13 r (dn.contains 11),a13 w (dn.contains 7) (dn.contains 8),n13 e1 e2⟩:=hK
   rw[h11]at hK ⊢
   simp only[g62,b13,push_cast,reduceIte,reduceEqDiff,reduceAdd,reduceSub,reduceMul,Nat.reduceBEq,reduceLT,reduceLeDiff,reduceCtorEq,reduceToNat,reduceNeg]
   exact hK
  ·intro dn S hr hc L N K hK
   have g10:getL S 10= .mp 22:=L 10 trivial
   simp only[g10,push_cast,reduceIte,reduceEqDiff,reduceAdd,reduceSub,reduceMul,Nat.reduceBEq,reduceLT,reduceLeDiff,reduceCtorEq,reduceToNat,reduceNeg]
   exact hK
  ·intro dn S hr hc L N K hK
   have g14:getL S 14= .int 0:=L 14 trivial
   simp only[g14,push_cast,reduceIte,reduceEqDiff,reduceAdd,reduceSub,reduceMul,Nat.reduceBEq,reduceLT,reduceLeDiff,reduceCtorEq,reduceToNat,reduceNeg]
   exact hK
  ·intro dn S hr hc L N K hK
   have g65:getL S 65= .int 0:=L 65 (qFA hr (j:=4) (by decide))
   simp only[g65,push_cast,reduceIte,reduceEqDiff,reduceAdd,reduceSub,reduceMul,Nat.reduceBEq,reduceLT,reduceLeDiff,reduceCtorEq,reduceToNat,reduceNeg]
   exact hK
  ·intro dn S hr hc L N K hK
   have g64:getL S 64= .mp 22:=L 64 (qFA hr (j:=3) (by decide))
   have g66:getL S 66= .agg [.int 1,.int 0]:=L 66 (qFA hr (j:=5) (by decide))
   show opsK _ _ ⟨S,b13 r (dn.contains 11),a13 w (dn.contains 7) (dn.contains 8),n13 e1 e2⟩ K
   have hK:K ⟨up S 67 (.int w),b13 r (dn.contains 11),a13 w (dn.contains 7) (dn.contains 8),n13 e1 e2⟩:=hK
   rw[<- he]at hK
   simp only[g64,g66,n13,push_cast,reduceIte,reduceEqDiff,reduceAdd,reduceSub,reduceMul,Nat.reduceBEq,reduceLT,reduceLeDiff,reduceCtorEq,reduceToNat,reduceNeg]
   exact hK
  ·intro dn S hr hc L N K hK
   have g67:getL S 67= .int w:=L 67 (qFA hr (j:=6) (by decide))
   have h7:dn.contains 7=false:=qFB hr
   have h8:dn.contains 8=false:=qFC hc hr (List.mem_of_getElem? (i:=8) rfl) (by decide)
   show opsK _ _ ⟨S,b13 r (dn.contains 11),a13 w (dn.contains 7) (dn.contains 8),n13 e1 e2⟩ K
   have hK:K ⟨up S 68 (.view 68 0 1),b13 r (dn.contains 11),a13 w true (dn.contains 8),n13 e1 e2⟩:=hK
   rw[h7,h8]
   rw[h8]at hK
   have h11:dn.contains 11=false:=qFC hc hr (List.mem_of_getElem? (i:=11) rfl) (by decide)
   rw[h11]at hK ⊢
   have hq:qiy nul (isId 68) S=S:=qFy (N (fun y=> !y.toV nul (isId 68)) rfl (by rw[xs71_13_all];exact⟨fun _=>rfl,fun _=>rfl,fun _=>rfl,fun _=>rfl,fun _=>rfl,fun _=>rfl,fun _=>rfl,fun e=>absurd (h7.symm.trans e) (by decide),fun e=>absurd (h8.symm.trans e) (by decide),fun _=>rfl,fun _=>rfl,fun _=>rfl⟩))
   simp only[g67,a13,hq,b13,push_cast,reduceIte,reduceEqDiff,reduceAdd,reduceSub,reduceMul,Nat.reduceBEq,reduceLT,reduceLeDiff,reduceCtorEq,reduceToNat,reduceNeg]
   exact⟨by simp,hK⟩
  ·intro dn S hr hc L N K hK
   have g63:getL S 63= .nil:=L 63 (qFA hr (j:=2) (by decide))
   have g68:getL S 68= .view 68 0 1:=L 68 (qFA hr (j:=7) (by decide))
   have h8:dn.contains 8=false:=qFB hr
   have h7:dn.contains 7=true:=qFA hr (j:=7) (by decide)
   show opsK _ _ ⟨S,b13 r (dn.contains 11),a13 w (dn.contains 7) (dn.contains 8),n13 e1 e2⟩ K
   have hK:K ⟨up S 69 (.view 69 0 1),b13 r (dn.contains 11),a13 w (dn.contains 7) true,n13 e1 e2⟩:=hK
   rw[h7,h8]
   rw[h7]at hK
   have h11:dn.contains 11=false:=qFC hc hr (List.mem_of_getElem? (i:=11) rfl) (by decide)
   rw[h11]at hK ⊢
   have hq:qiy nul (isId 69) S=S:=qFy (N (fun y=> !y.toV nul (isId 69)) rfl (by rw[xs71_13_all];exact⟨fun _=>rfl,fun _=>rfl,fun _=>rfl,fun _=>rfl,fun _=>rfl,fun _=>rfl,fun _=>rfl,fun _=>rfl,fun e=>absurd (h8.symm.trans e) (by decide),fun _=>rfl,fun _=>rfl,fun _=>rfl⟩))
   simp only[g63,g68,a13,hq,b13,push_cast,reduceIte,reduceEqDiff,reduceAdd,reduceSub,reduceMul,Nat.reduceBEq,reduceLT,reduceLeDiff,reduceCtorEq,reduceToNat,reduceNeg]
   exact hK
  ·intro dn S hr hc L N K hK
   have g13:getL S 13= .ptr 13 0:=L 13 trivial
   simp only[g13,push_cast,reduceIte,reduceEqDiff,reduceAdd,reduceSub,reduceMul,Nat.reduceBEq,reduceLT,reduceLeDiff,reduceCtorEq,reduceToNat,reduceNeg]
   exact hK
  ·intro dn S hr hc L N K hK
   have g70:getL S 70= .ptr 13 1:=L 70 (qFA hr (j:=9) (by decide))
   simp only[g70,push_cast,reduceIte,reduceEqDiff,reduceAdd,reduceSub,reduceMul,Nat.reduceBEq,reduceLT,reduceLeDiff,reduceCtorEq,reduceToNat,reduceNeg]
   exact hK
  ·intro dn S hr hc L N K hK
   have g69:getL S 69= .view 69 0 1:=L 69 (qFA hr (j:=8) (by decide))
   have g71:getL S 71= .ptr 13 1:=L 71 (qFA hr (j:=10) (by decide))
   have h11:dn.contains 11=false:=qFB hr
   show opsK _ _ ⟨S,b13 r (dn.contains 11),a13 w (dn.contains 7) (dn.contains 8),n13 e1 e2⟩ K
   have hK:K ⟨S,b13 r true,a13 w (dn.contains 7) (dn.contains 8),n13 e1 e2⟩:=hK
   rw[h11]
   simp only[g69,g71,b13,push_cast,reduceIte,reduceEqDiff,reduceAdd,reduceSub,reduceMul,Nat.reduceBEq,reduceLT,reduceLeDiff,reduceCtorEq,reduceToNat,reduceNeg]
   exact hK
 ·intro dn h
  rw[xs71_13_all]at h
  obtain⟨h0,h1,h2,h3,h4,h5,h6,h7,h8,h9,h10,h11⟩:=h
  show K ⟨_,b13 r (dn.contains 11),a13 w (dn.contains 7) (dn.contains 8),_⟩
  rw[h11,h7,h8]
  exact hK
def wF(b:Bool):Int:=if b=true then Vc.bitF .or .i64 0 (shfF .shl .i64 1 0)else 0
def e1F(b:Bool):List (Value×PV):=if b=true then[(keyR,.bool true)]else[]
def e2F(b:Bool):List (Value×PV):=if b=true then[(keyR,.int (Vc.bitF .or .i64 0 (shfF .shl .i64 1 0)))]else[]
theorem qFJ(b:Bool):wF b=if b=true then 1 else 0:=by cases b<;>decide+kernel
set_option maxHeartbeats 4000000 in
theorem qFK (b : Bool) (r : Int) : FnEq Tryz.prog 71 [.agg [.nil, .nil, .sl false 3 (rows qwA [⟨1, 0, 0⟩]), .nil], .agg (pstC false ⟨[r], []⟩), .sl false 1 (rows qk7 [b]), .agg [.int 0, .int 0]]
  (.agg [.bool false,.sl true 1 [[.int (wF b)]],.nil,.nil,.nil]):=by
 refine FnEq.of_awp Tryz.func71 ok71 (by show 4<=_;decide) (by simp only[push_cast,reduceIte,reduceEqDiff,reduceAdd,reduceSub,reduceMul,Nat.reduceBEq,reduceLT,reduceLeDiff,reduceCtorEq,reduceToNat,reduceNeg]<;>first|exact fun _ _=>trivial|simp) ?_
 simp only[ac71,rv71,push_cast,reduceIte,reduceEqDiff,reduceAdd,reduceSub,reduceMul,Nat.reduceBEq,reduceLT,reduceLeDiff,reduceCtorEq,reduceToNat,reduceNeg]
 refine qoH (fun m st=>(m=1/\st=⟨[(2,.sl false 1 (rows qk7 [b])),(5,.ptr 5 0),(7,.ptr 7 0),(8,.ptr 8 0),(9,.mp 21),(10,.mp 22),(24,.sl false 3 (rows qwA [⟨1,0,0⟩])),(25,.int 1),(26,.int 0)],
  [(5,[.sl false 1 (ints [r]),.sl false 1 (rows (memC false) [])]),(7,[.int 0,.int 0]),(8,[.bool false,.nil,.nil,.nil,.nil])],[],[(21,{ kd:= .st 2,es:=[] }),(22,{ kd:= .st 2,es:=[] })]⟩)\/
  (m=0/\st=⟨[(2,.sl false 1 (rows qk7 [b])),(5,.ptr 5 0),(7,.ptr 7 0),(8,.ptr 8 0),(9,.mp 21),(10,.mp 22),(24,.sl false 3 (rows qwA [⟨1,0,0⟩])),(25,.int 1),(26,.int 1)],
  [(5,[.sl false 1 (ints [r]),.sl false 1 (rows (memC false) [])]),(7,[.int 0,.int 0]),(8,[.bool false,.nil,.nil,.nil,.nil])],[],n13 (e1F b) (e2F b)⟩)) 1 ?_ ?_
 ·refine .inl ⟨rfl,?_⟩
  simp only[push_cast,reduceIte,reduceEqDiff,reduceAdd,reduceSub,reduceMul,Nat.reduceBEq,reduceLT,reduceLeDiff,reduceCtorEq,reduceToNat,reduceNeg]
  try rfl
 rintro m st (⟨rfl,rfl⟩|⟨rfl,rfl⟩)
 ·refine sB ?_
  refine qnR (fun _=> ?_) fun h=>absurd (by decide) h
  refine⟨by decide,by decide,?_⟩
  simp only[List.getD_cons_zero,List.length_cons,List.length_nil,push_cast,reduceIte,reduceEqDiff,reduceAdd,reduceSub,reduceMul,Nat.reduceBEq,reduceLT,reduceLeDiff,reduceCtorEq,reduceToNat,reduceNeg]
  refine qnQ (fun e=> ?_) fun e=> ?_
  ·subst e
   refine qFG (id:=22) rfl rfl fun l k hl=> ?_
   have hl0:l=[]:=List.eq_nil_of_length_eq_zero hl
   subst hl0
   show allK _ _ _ _ _ _
   refine reg7 r k _ ?_
   simp only[slA,putD,v7,xs71_7,s7,b7,mm7,m21,push_cast,reduceIte,reduceEqDiff,reduceAdd,reduceSub,reduceMul,Nat.reduceBEq,reduceLT,reduceLeDiff,reduceCtorEq,reduceToNat,reduceNeg]
   exact⟨by decide,0,by decide,.inr ⟨rfl,rfl⟩⟩
  ·subst e
   exact⟨by decide,0,by decide,.inr ⟨rfl,rfl⟩⟩
 ·refine sB ?_
  refine qnR (fun h=>absurd h (by decide)) fun _=> ?_
  have he:(mget (e2F b) keyR).getD (.int 0)= .int (wF b):=by cases b<;>rfl
  generalize e1F b=e1 at *
  generalize e2F b=e2 at *
  generalize wF b=w at *
  refine qoH (fun m st=>(m=1/\st=⟨[(5,.ptr 5 0),(7,.ptr 7 0),(8,.ptr 8 0),(9,.mp 21),(10,.mp 22),(13,.ptr 13 0),(57,.int 1),(58,.int 0)],b13 r false,[],n13 e1 e2⟩)\/
   (m=0/\st=⟨[(5,.ptr 5 0),(7,.ptr 7 0),(8,.ptr 8 0),(9,.mp 21),(10,.mp 22),(13,.ptr 13 0),(57,.int 1),(58,.int 1)],b13 r true,[(69,⟨1,3,[[.int w]]⟩)],n13 e1 e2⟩)) 1 ?_ ?_
  ·refine .inl ⟨rfl,?_⟩
   simp only[b13,n13,push_cast,reduceIte,reduceEqDiff,reduceAdd,reduceSub,reduceMul,Nat.reduceBEq,reduceLT,reduceLeDiff,reduceCtorEq,reduceToNat,reduceNeg]
   try rfl
  rintro m st (⟨rfl,rfl⟩|⟨rfl,rfl⟩)
  ·refine sB ?_
   refine qnR (fun _=> ?_) fun h=>absurd (by decide) h
   show allK _ _ _ _ _ _
   refine qFI r w e1 e2 he _ ?_
   simp only[slA,putD,v13,xs71_13,s13,a13,b13,n13,push_cast,reduceIte,reduceEqDiff,reduceAdd,reduceSub,reduceMul,Nat.reduceBEq,reduceLT,reduceLeDiff,reduceCtorEq,reduceToNat,reduceNeg]
   exact⟨by decide,0,by decide,.inr ⟨rfl,rfl⟩⟩
  ·refine sB ?_
   refine qnR (fun h=>absurd h (by decide)) fun _=> ?_
   simp only[b13,n13,push_cast,reduceIte,reduceEqDiff,reduceAdd,reduceSub,reduceMul,Nat.reduceBEq,reduceLT,reduceLeDiff,reduceCtorEq,reduceToNat,reduceNeg]
   refine qoH (fun _ s=>s=_) 0 rfl ?_
   rintro _ _ rfl
   simp only[List.length_nil,push_cast,reduceIte,reduceEqDiff,reduceAdd,reduceSub,reduceMul,Nat.reduceBEq,reduceLT,reduceLeDiff,reduceCtorEq,reduceToNat,reduceNeg]
   refine qnR (fun h=>absurd h (by decide)) fun _=> ?_
   refine⟨⟨by decide,by decide⟩,?_⟩
   refine qoH (fun _ s=>s=_) 0 rfl ?_
   rintro _ _ rfl
   refine sB ?_
   refine qnR (fun h=>absurd h (by decide)) fun _=> ?_
   refine⟨⟨by decide,by decide⟩,?_⟩
   refine qoH (fun _ s=>s=_) 0 rfl ?_
   rintro _ _ rfl
   refine sB ?_
   refine qnR (fun h=>absurd h (by decide)) fun _=> ?_
   exact fun x hx=>absurd hx (by simp)
def opX(c:Cfg)(s:PSt)(a b d:PV):List PV:=cfgC false c++[a,b,d]++pstC false s++[.sl true 1 []]
@[push_cast] theorem qFL(c:Cfg)(s:PSt)(a b d:PV):opX c s a b d=[.sl false 1 (ints c.sel),.sl false 1 (ints c.mode),.sl false 1 (ints c.tab),.sl false 1 (ints c.ram),a,b,d,.sl false 1 (ints s.regs),.sl false 1 (rows (memC false) s.mems),.sl true 1 []]:=rfl
set_option maxHeartbeats 4000000 in
theorem qFM (g : Grid) (hg : GOk g) (c : Cfg) (hc : CfgG g c) (s : PSt) : FnM (Env.of Tryz.prog) 60 [.agg (quy false g), .agg (cfgC false c), .agg (pstC false s), .sl true 1 []] ⟨[], [], [], []⟩
  (fun rv st' =>rv= .ptr 313 0/\st' =⟨[],[(313,opX c s (.view 335 0 c.sel.length) (.view 348 0 g.kind.length) (.view 367 0 c.sel.length))],opA g c c.sel.length,[]⟩):=by
 have key:FnM (Env.of Tryz.prog) 60 [.agg (quy false g),.agg (cfgC false c),.agg (pstC false s),.sl true 1 []] ⟨[],[],[],[]⟩
  (fun rv st' =>rv= .ptr 313 0/\st'.onlyB [313]=⟨[],[(313,opX c s (.view 335 0 c.sel.length) (.view 348 0 g.kind.length) (.view 367 0 c.sel.length))],opA g c c.sel.length,[]⟩):=by
  refine qtT 100 Tryz.func60 ok60_100 (by show 4<=_;decide) rfl (by decide) ?_
  simp only[ac60_100,rv60_100,push_cast,reduceIte,reduceEqDiff,reduceAdd,reduceSub,reduceMul,Nat.reduceBEq,reduceLT,reduceLeDiff,reduceCtorEq,reduceToNat,reduceNeg]
  refine qCR [313] [335,348,367] (qCZ g hg c hc) rfl rfl rfl ?_
  simp only[opA,push_cast,reduceIte,reduceEqDiff,reduceAdd,reduceSub,reduceMul,Nat.reduceBEq,reduceLT,reduceLeDiff,reduceCtorEq,reduceToNat,reduceNeg]
  exact rfl
 refine FnM.mono (FnM.postB (fun _=>[313]) key) ?_
 rintro rv _ ⟨st1,⟨h1,h2⟩,rfl⟩
 exact⟨h1,h2⟩
theorem qFN(s:PSt):FnEq Tryz.prog 70 [.agg [.nil,.nil,.nil,.nil],.agg (pstC false s),.nil,.nil] (.sl true 1 []):=by
 refine FnEq.of_awp Tryz.func70 ok70 (by show 4<=_;decide) (by simp only[push_cast,reduceIte,reduceEqDiff,reduceAdd,reduceSub,reduceMul,Nat.reduceBEq,reduceLT,reduceLeDiff,reduceCtorEq,reduceToNat,reduceNeg]<;>first|exact fun _ _=>trivial|simp) ?_
 simp only[ac70,rv70,push_cast,reduceIte,reduceEqDiff,reduceAdd,reduceSub,reduceMul,Nat.reduceBEq,reduceLT,reduceLeDiff,reduceCtorEq,reduceToNat,reduceNeg]
 refine⟨⟨by decide,by decide,by decide⟩,?_⟩
 refine qoH (fun _ s=>s=_) 0 rfl ?_
 rintro _ _ rfl
 simp only[List.replicate_zero,List.length_nil,push_cast,reduceIte,reduceEqDiff,reduceAdd,reduceSub,reduceMul,Nat.reduceBEq,reduceLT,reduceLeDiff,reduceCtorEq,reduceToNat,reduceNeg]
 refine qnR (fun h=>absurd h (by decide)) fun _=> ?_
 exact⟨fun x hx=>absurd hx (by simp),.refl _⟩
def vT(g:Grid)(c:Cfg)(s:PSt):Nat->PV
 |0=> .agg (quy false g)
 |1=> .agg (cfgC false c)
 |2=> .agg (pstC false s)
 |3=> .ptr 8 0
 |4=> .nil
 |5=> .agg [.nil,.nil,.nil,.nil]
 |6=> .agg (pstC false s)
 |7=> .nil
 |8=> .nil
 |9=> .sl true 1 []
 |10=> .ptr 313 0
 |11=> .ptr 313 0
 |_=> .bot
def sT:List (Nat×PV):=[(4,.nil),(5,.nil),(6,.ptr 6 0),(7,.ptr 7 0),(8,.ptr 8 0),(9,.ptr 9 0),(12,.ptr 12 0)]
def bT(g:Grid)(c:Cfg)(s:PSt)(h:Bool):List (Nat×List PV):=[(6,quy false g),(7,cfgC false c),(8,[.nil,.nil]),(9,pstC false s),(12,[.bool false,.nil,.nil,.nil,.nil])]++(if h=true then[(313,opX c s (.view 335 0 c.sel.length) (.view 348 0 g.kind.length) (.view 367 0 c.sel.length))]else[])
def aT(g:Grid)(c:Cfg)(h:Bool):List (Nat×Arr):=if h=true then opA g c c.sel.length else[]
set_option maxHeartbeats 4000000 in
theorem regT(g:Grid)(hg:GOk g)(c:Cfg)(hcg:CfgG g c)(s:PSt)(K:St->Prop)(hK:K ⟨slA (vT g c s) xs38_1 sT,bT g c s true,aT g c true,[]⟩):allK (Env.of Tryz.prog) xs38_1 12 [] ⟨sT,bT g c s false,aT g c false,[]⟩ K:=by
 refine qFH (ops:=xs38_1) (vT g c s) (fun dn=>(bT g c s (dn.contains 10),aT g c (dn.contains 10),[])) rfl rfl ?_ ?_ rfl
 ·rw[xs38_1_all]
  refine⟨?_,?_,?_,?_,?_,?_,?_,?_,?_,?_,?_,?_⟩
  ·intro dn S hr hc L N K hK
   have g6:getL S 6= .ptr 6 0:=L 6 trivial
   show opsK _ _ ⟨S,bT g c s (dn.contains 10),aT g c (dn.contains 10),[]⟩ K
   have hK:K ⟨up S 21 (.agg (quy false g)),bT g c s (dn.contains 10),aT g c (dn.contains 10),[]⟩:=hK
   cases h10:dn.contains 10<;>rw[h10]at hK<;>simp only[g6,bT,List.cons_append,List.nil_append,push_cast,reduceIte,reduceEqDiff,reduceAdd,reduceSub,reduceMul,Nat.reduceBEq,reduceLT,reduceLeDiff,reduceCtorEq,reduceToNat,reduceNeg]<;>exact hK
  ·intro dn S hr hc L N K hK
   have g7:getL S 7= .ptr 7 0:=L 7 trivial
   show opsK _ _ ⟨S,bT g c s (dn.contains 10),aT g c (dn.contains 10),[]⟩ K
   have hK:K ⟨up S 22 (.agg (cfgC false c)),bT g c s (dn.contains 10),aT g c (dn.contains 10),[]⟩:=hK
   cases h10:dn.contains 10<;>rw[h10]at hK<;>simp only[g7,bT,List.cons_append,List.nil_append,push_cast,reduceIte,reduceEqDiff,reduceAdd,reduceSub,reduceMul,Nat.reduceBEq,reduceLT,reduceLeDiff,reduceCtorEq,reduceToNat,reduceNeg]<;>exact hK
  ·intro dn S hr hc L N K hK
   have g9:getL S 9= .ptr 9 0:=L 9 trivial
   show opsK _ _ ⟨S,bT g c s (dn.contains 10),aT g c (dn.contains 10),[]⟩ K
   have hK:K ⟨up S 23 (.agg (pstC false s)),bT g c s (dn.contains 10),aT g c (dn.contains 10),[]⟩:=hK
   cases h10:dn.contains 10<;>rw[h10]at hK<;>simp only[g9,bT,List.cons_append,List.nil_append,push_cast,reduceIte,reduceEqDiff,reduceAdd,reduceSub,reduceMul,Nat.reduceBEq,reduceLT,reduceLeDiff,reduceCtorEq,reduceToNat,reduceNeg]<;>exact hK
  ·intro dn S hr hc L N K hK
   have g8:getL S 8= .ptr 8 0:=L 8 trivial
   simp only[g8,push_cast,reduceIte,reduceEqDiff,reduceAdd,reduceSub,reduceMul,Nat.reduceBEq,reduceLT,reduceLeDiff,reduceCtorEq,reduceToNat,reduceNeg]
   exact⟨⟨by decide,by decide⟩,hK⟩
  ·intro dn S hr hc L N K hK
   have g24:getL S 24= .ptr 8 0:=L 24 (qFA hr (j:=3) (by decide))
   show opsK _ _ ⟨S,bT g c s (dn.contains 10),aT g c (dn.contains 10),[]⟩ K
   have hK:K ⟨up S 25 (.nil),bT g c s (dn.contains 10),aT g c (dn.contains 10),[]⟩:=hK
   cases h10:dn.contains 10<;>rw[h10]at hK<;>simp only[g24,bT,List.cons_append,List.nil_append,push_cast,reduceIte,reduceEqDiff,reduceAdd,reduceSub,reduceMul,Nat.reduceBEq,reduceLT,reduceLeDiff,reduceCtorEq,reduceToNat,reduceNeg]<;>exact hK
  ·intro dn S hr hc L N K hK
   have g25:getL S 25= .nil:=L 25 (qFA hr (j:=4) (by decide))
   simp only[g25,push_cast,reduceIte,reduceEqDiff,reduceAdd,reduceSub,reduceMul,Nat.reduceBEq,reduceLT,reduceLeDiff,reduceCtorEq,reduceToNat,reduceNeg]
   exact hK
  ·intro dn S hr hc L N K hK
   have g9:getL S 9= .ptr 9 0:=L 9 trivial
   show opsK _ _ ⟨S,bT g c s (dn.contains 10),aT g c (dn.contains 10),[]⟩ K
   have hK:K ⟨up S 27 (.agg (pstC false s)),bT g c s (dn.contains 10),aT g c (dn.contains 10),[]⟩:=hK
   cases h10:dn.contains 10<;>rw[h10]at hK<;>simp only[g9,bT,List.cons_append,List.nil_append,push_cast,reduceIte,reduceEqDiff,reduceAdd,reduceSub,reduceMul,Nat.reduceBEq,reduceLT,reduceLeDiff,reduceCtorEq,reduceToNat,reduceNeg]<;>exact hK
  ·intro dn S hr hc L N K hK
   have g4:getL S 4= .nil:=L 4 trivial
   simp only[g4,push_cast,reduceIte,reduceEqDiff,reduceAdd,reduceSub,reduceMul,Nat.reduceBEq,reduceLT,reduceLeDiff,reduceCtorEq,reduceToNat,reduceNeg]
   exact hK
  ·intro dn S hr hc L N K hK
   have g5:getL S 5= .nil:=L 5 trivial
   simp only[g5,push_cast,reduceIte,reduceEqDiff,reduceAdd,reduceSub,reduceMul,Nat.reduceBEq,reduceLT,reduceLeDiff,reduceCtorEq,reduceToNat,reduceNeg]
   exact hK
  ·intro dn S hr hc L N K hK
   have g26:getL S 26= .agg [.nil,.nil,.nil,.nil]:=L 26 (qFA hr (j:=5) (by decide))
   have g27:getL S 27= .agg (pstC false s):=L 27 (qFA hr (j:=6) (by decide))
   have g28:getL S 28= .nil:=L 28 (qFA hr (j:=7) (by decide))
   have g29:getL S 29= .nil:=L 29 (qFA hr (j:=8) (by decide))
   simp only[g26,g27,g28,g29,push_cast,reduceIte,reduceEqDiff,reduceAdd,reduceSub,reduceMul,Nat.reduceBEq,reduceLT,reduceLeDiff,reduceCtorEq,reduceToNat,reduceNeg]
   refine qrm (qFN s) sC ?_
   exact hK
  ·intro dn S hr hc L N K hK
   have g21:getL S 21= .agg (quy false g):=L 21 (qFA hr (j:=0) (by decide))
   have g22:getL S 22= .agg (cfgC false c):=L 22 (qFA hr (j:=1) (by decide))
   have g23:getL S 23= .agg (pstC false s):=L 23 (qFA hr (j:=2) (by decide))
   have g30:getL S 30= .sl true 1 []:=L 30 (qFA hr (j:=9) (by decide))
   have h10:dn.contains 10=false:=qFB hr
   show opsK _ _ ⟨S,bT g c s (dn.contains 10),aT g c (dn.contains 10),[]⟩ K
   have hK:K ⟨up S 31 (.ptr 313 0),bT g c s true,aT g c true,[]⟩:=hK
   rw[h10]
   simp only[g21,g22,g23,g30,push_cast,reduceIte,reduceEqDiff,reduceAdd,reduceSub,reduceMul,Nat.reduceBEq,reduceLT,reduceLeDiff,reduceCtorEq,reduceToNat,reduceNeg]
   refine qCR [313] [335,348,367] (qFM g hg c hcg s) rfl ?_ rfl ?_
   ·have hq:=N (fun y=> !y.toV (inL [313]) (inL [335,348,367])) rfl (by rw[xs38_1_all];exact⟨fun _=>rfl,fun _=>rfl,fun _=>rfl,fun _=>rfl,fun _=>rfl,fun _=>rfl,fun _=>rfl,fun _=>rfl,fun _=>rfl,fun _=>rfl,fun e=>absurd (h10.symm.trans e) (by decide),fun e=>absurd ((qFC hc hr (List.mem_of_getElem? (i:=11) rfl) (by decide)).symm.trans e) (by decide)⟩)
    unfold qCO St.noTo
    simp only[hq]
    rfl
   ·exact hK
  ·intro dn S hr hc L N K hK
   have g31:getL S 31= .ptr 313 0:=L 31 (qFA hr (j:=10) (by decide))
   simp only[g31,push_cast,reduceIte,reduceEqDiff,reduceAdd,reduceSub,reduceMul,Nat.reduceBEq,reduceLT,reduceLeDiff,reduceCtorEq,reduceToNat,reduceNeg]
   exact hK
 ·intro dn h
  rw[xs38_1_all]at h
  obtain⟨h0,h1,h2,h3,h4,h5,h6,h7,h8,h9,h10,h11⟩:=h
  show K ⟨_,bT g c s (dn.contains 10),aT g c (dn.contains 10),_⟩
  rw[h10]
  exact hK
theorem qFO {g : Grid} (hg : GOk g) {c : Cfg} (hc : CfgG g c) (s : PSt) : Sub
  (.iptr false [.sl false 1 (ints c.sel),.sl false 1 (ints c.mode),.sl false 1 (ints c.tab),.sl false 1 (ints c.ram),.sl false 4 (rows quz ((qCr g c.sel.length).take c.sel.length)),.sl false 1 (rows intC ((qCt g c.sel.length).take g.kind.length)),
   .sl false 1 (rows intC ((qCs g c c.sel.length).take c.sel.length)),.sl false 1 (ints s.regs),.sl false 1 (rows (memC false) s.mems),.sl true 1 []] 0)
  (.iptr false (arrC false c (qCr g c.sel.length) (qCt g c.sel.length) (qCs g c c.sel.length) s []) 0):=by
 have h1:=qD5 g c.sel.length
 have h2:=qD6 g c c.sel.length
 have h3:=qD7 hg hc
 rw[List.take_of_length_le (by omega),List.take_of_length_le (by omega),List.take_of_length_le (by omega)]
 exact qD4 ⟨.refl _,.refl _,.refl _,.refl _,.refl _,.refl _,.refl _,.refl _,.refl _,slTF _ _,trivial⟩
def tkS(g:Grid)(c:Cfg)(r:Int)(v:List Bool):Nat->St
 | 0 => ⟨[(4, .nil), (5, .nil), (6, .ptr 6 0), (7, .ptr 7 0), (8, .ptr 8 0), (9, .ptr 9 0), (12, .ptr 12 0), (13, .ptr 313 0), (14, .sl true 1 (rows qk7 v)), (15, .ptr 15 0), (16, .nil), (35, .sl false 1 (ints [2, 0])), (36, .int 2), (37, .int 0)],
   [(6,quy false g),(7,cfgC false c),(8,[.nil,.nil]),(9,pstC false ⟨[r],[]⟩),(12,[.bool false,.nil,.nil,.nil,.nil]),(15,[.nil,.nil,.nil,.nil]),(313,opX c ⟨[r],[]⟩ (.view 335 0 c.sel.length) (.view 348 0 g.kind.length) (.view 367 0 c.sel.length))],opA g c c.sel.length,[]⟩
 | k + 1 => ⟨[(4, .nil), (5, .nil), (6, .ptr 6 0), (7, .ptr 7 0), (8, .ptr 8 0), (9, .ptr 9 0), (12, .ptr 12 0), (13, .ptr 313 0), (14, .sl true 1 (rows qk7 v)), (15, .ptr 15 0), (16, .view 74 0 1), (35, .sl false 1 (ints [2, 0])), (36, .int 2), (37, .int (if k = 0 then 1 else 2))],
   [(6,quy false g),(7,cfgC false c),(8,[.nil,.nil]),(9,pstC false ⟨[r],[]⟩),(12,[.bool false,.nil,.nil,.nil,.nil]),(15,[.nil,.nil,.view 60 0 1,.nil]),(313,opX c ⟨[r],[]⟩ (.view 335 0 c.sel.length) (.view 348 0 g.kind.length) (.view 367 0 c.sel.length))],
   [(60,⟨3,151,[[.int 1,.int 0,.int 0]]⟩),(74,⟨1,4,[[.bool (v.getD 0 false)]]⟩)]++opA g c c.sel.length,[]⟩
set_option maxHeartbeats 8000000 in
theorem qFP (g : Grid) (hg : GOk g) (c : Cfg) (hc : CfgG g c) (r : Int) (hm : c.mode = [2, 0]) (hr : c.ram = [0, 0]) : FnEq Tryz.prog 38 [.agg (quy false g), .agg (cfgC false c), .agg [.nil, .nil], .agg (pstC false ⟨[r], []⟩), .nil, .nil]
  (.agg [.bool false,.sl true 1 [[.int (wF ((setF g c ⟨[r],[]⟩ []).getD 0 false))]],.nil,.nil,.nil]):=by
 have e0: ∀(l:List Int) (j:Nat),l.getD j default=l.getD j 0:=fun _ _=>rfl
 have e1: ∀(l:List Bool) (j:Nat),l.getD j default=l.getD j false:=fun _ _=>rfl
 have hS:=qD1 g hg c hc ⟨[r],[]⟩ []
 rw[show qxl (rndF g c ⟨[r],[]⟩ []) c.sel.length c.sel.length (List.replicate c.sel.length false)=setF g c ⟨[r],[]⟩ []from rfl]at hS
 have hA:=qFO hg hc ⟨[r],[]⟩
 refine FnEq.of_awp Tryz.func38 ok38 (by show 6<=_;decide) (by simp only[push_cast,reduceIte,reduceEqDiff,reduceAdd,reduceSub,reduceMul,Nat.reduceBEq,reduceLT,reduceLeDiff,reduceCtorEq,reduceToNat,reduceNeg]<;>first|exact fun _ _=>trivial|simp) ?_
 simp only[ac38,rv38,push_cast,reduceIte,reduceEqDiff,reduceAdd,reduceSub,reduceMul,Nat.reduceBEq,reduceLT,reduceLeDiff,reduceCtorEq,reduceToNat,reduceNeg]
 show allK _ _ _ _ _ _
 refine regT g hg c hc ⟨[r],[]⟩ _ ?_
 simp only[slA,putD,vT,xs38_1,sT,bT,aT,opA,List.cons_append,List.nil_append,push_cast,reduceIte,reduceEqDiff,reduceAdd,reduceSub,reduceMul,Nat.reduceBEq,reduceLT,reduceLeDiff,reduceCtorEq,reduceToNat,reduceNeg]
 refine qrm hS ⟨hA,trivial⟩ ?_
 have hvl:(setF g c ⟨[r],[]⟩ []).length=c.sel.length:=qD0 (by simp) _
 have hfl:=qD7 hg hc
 have hcn:=hg.count
 have hpd:=hg.pads
 have hC:quD g=allI g+2*g.pads:=rfl
 have hall:=hg.all
 have l1:=hc.ln.1
 have hf0:(qCt g c.sel.length).getD 0 0=0:=by
  rw[l1,qCw hg]
  have:=hg.wh
  have:=hg.kind
  obtain⟨n,hn⟩: ∃n,g.kind.length=n+1:=⟨g.kind.length-1,by omega⟩
  rw[hn,List.range_succ_eq_map]
  simp
 generalize setF g c ⟨[r],[]⟩ []=v at *
 refine sB ?_
 refine qoH (fun m st=>(m=2/\st=tkS g c r v 0)\/(m=1/\st=tkS g c r v 1)\/(m=0/\st=tkS g c r v 2)) 2 ?_ ?_
 ·refine .inl ⟨rfl,?_⟩
  simp only[tkS,opA,hm,List.length_cons,List.length_nil,push_cast,reduceIte,reduceEqDiff,reduceAdd,reduceSub,reduceMul,Nat.reduceBEq,reduceLT,reduceLeDiff,reduceCtorEq,reduceToNat,reduceNeg]
  try rfl
 rintro m st (⟨rfl,rfl⟩|⟨rfl,rfl⟩|⟨rfl,rfl⟩)
 ·simp only[tkS,opA,hm,hr,e0,e1,hf0,quY,List.getD_cons_zero,List.length_cons,List.length_nil,push_cast,reduceIte,reduceEqDiff,reduceAdd,reduceSub,reduceMul,Nat.reduceBEq,reduceLT,reduceLeDiff,reduceCtorEq,reduceToNat,reduceNeg]
  refine qnR (fun _=> ?_) fun h=>absurd (by decide) h
  have hwh:=hg.wh
  have hkd:=hg.kind
  refine⟨⟨by decide,by decide⟩,⟨by decide,by decide⟩,⟨by decide,by decide,by decide⟩,⟨by decide,by decide⟩,⟨by decide,by decide,by decide⟩,⟨by omega,by omega⟩,by omega,⟨by omega,by omega⟩,by omega,by simp,?_⟩
  exact⟨⟨by decide,by decide⟩,1,by decide,.inr (.inl ⟨rfl,rfl⟩)⟩
 ·simp only[tkS,opA,hm,hr,e0,e1,List.getD_cons_zero,List.getD_cons_succ,List.length_cons,List.length_nil,push_cast,reduceIte,reduceEqDiff,reduceAdd,reduceSub,reduceMul,Nat.reduceBEq,reduceLT,reduceLeDiff,reduceCtorEq,reduceToNat,reduceNeg]
  refine qnR (fun _=> ?_) fun h=>absurd (by decide) h
  refine⟨⟨by decide,by decide⟩,?_⟩
  refine qnR (fun h=>absurd h (by decide)) fun _=> ?_
  exact⟨⟨by decide,by decide⟩,0,by decide,.inr (.inr ⟨rfl,rfl⟩)⟩
 ·simp only[tkS,opA,hm,hr,List.getD_cons_zero,List.length_cons,List.length_nil,push_cast,reduceIte,reduceEqDiff,reduceAdd,reduceSub,reduceMul,Nat.reduceBEq,reduceLT,reduceLeDiff,reduceCtorEq,reduceToNat,reduceNeg]
  refine qnR (fun h=>absurd h (by decide)) fun _=> ?_
  refine⟨⟨by decide,by decide⟩,⟨by omega,by omega⟩,⟨by omega,by omega,by omega⟩,⟨by decide,by decide⟩,?_⟩
  refine qoH (fun _ s=>s=_) 0 rfl ?_
  rintro _ _ rfl
  refine sB ?_
  refine qnR (fun h=>absurd h (by decide)) fun _=> ?_
  refine qrm (qFK (v.getD 0 false) r) ?_ ?_
  ·refine sB ?_
   exact⟨.refl _,.refl _⟩
  ·refine sB ?_
   exact fun x hx=>absurd hx (by simp)
end Go.Proofs.YtdmkfgkmnpohlaaGreat
namespace Go.Proofs.YtdmkfgkmnpohlaaGreat.Txt
open Go Go.Vc
set_option maxRecDepth 100000
def ac19i:AC:=
 (.seq (.reg [0,31,0] [
 (aO 2 (.alc [zI,zI,zI,zI,.nil,.nil,.nil,.nil,.nil,.nil,.nil,.nil,.nil]))])
 (.seq (.reg [0,31,0,2] [
 (aO 6 (.bsl 1 3 [zI] 2 [(0,(kI 1)),(1,(kI 2))])),(aO 7 (.bld [zI,zI,zI,zI,.nil] [(0,1,(kI 2)),(1,1,(kI 1)),(2,1,(kI 1)),(3,1,(kI 1)),(4,1,(.t 6))])),(aO 3 (.alc [zI,zI,zI,zI,.nil])),(aN (.sto 5 (.t 3) (.t 7)))])
 (.seq (.frz [6] (.wk (.reg [0,31,0,2,3] [
 (aO 8 (.ld true 5 (.t 3))),(aO 9 (.clm 37 [(.t 8)])),(aO 4 (.alc [.nil,.nil,.nil,.nil])),(aN (.sto 4 (.t 4) (.t 9)))])))
 (.seq (.reg [0,31,0,2,3,4] [
 (aO 10 (.fa 1 (.t 4))),(aO 11 (.ld false 1 (.t 10))),(aO 12 (.ixs 1 (.t 11) (kI 0))),(aN (.sto 1 (.t 12) (kI 2)))])
 (.seq (.reg [0,31,0,2,3,4] [
 (aO 13 (.fa 2 (.t 4))),(aO 14 (.ld false 1 (.t 13))),(aO 15 (.ixs 1 (.t 14) (kI 0))),(aN (.sto 1 (.t 15) (kI 1)))])
 (.seq (.reg [0,31,0,2,3,4] [
 (aO 16 (.fa 0 (.t 4))),(aO 17 (.ld false 1 (.t 16))),(aO 18 (.mv (.t 0))),(aO 19 (.ixs 1 (.t 17) (kI 6))),(aN (.sto 1 (.t 19) (.t 18)))])
 (.seq (.seq (.reg [0,31,2,3,4] [
 (aO 5 (.mv (kI 2)))])
 (.block 0
 (.loop [0,31,2,3,4,5]
 (.seq (.seq (.reg [0,31,2,3,4,5] [
 (aO 20 (.mv (.t 5))),(aO 21 (.cmp .lss .i64 (.t 20) (kI 6)))])
 (.cond (.t 21)
 .skip
 (.exit 0)))
 (.seq (.block 1
 (.reg [0,31,2,3,4,5] [
 (aO 24 (.fa 0 (.t 4))),(aO 25 (.ld false 1 (.t 24))),(aO 26 (.mv (.t 5))),(aO 27 (.ixs 1 (.t 25) (.t 26))),(aN (.sto 1 (.t 27) (kI 1)))]))
 (.reg [0,31,2,3,4,5] [
 (aO 22 (.mv (.t 5))),(aO 23 (.ari .add true .i64 (.t 22) (kI 1))),(aO 5 (.mv (.t 23)))]))))))
 (.seq (.reg [0,31,2,3,4] [
 (aO 28 (.ld true 5 (.t 3))),(aO 29 (.ld true 4 (.t 4))),(aO 30 (.clm 25 [(.t 28),(.t 29)])),(aN (.sto 13 (.t 2) (.t 30)))])
 .ret))))))))
def rv19i:List RV:=[.cell 2 true 13]
theorem ok19i:fnOk Tryz.prog ac19i rv19i Tryz.f19=true:=by kernel_rfl

def ac25_100i:AC:=
 (.seq (.reg [100,11,100,101] [
 (aO 102 (.box (.t 100))),(aO 103 (.box (.t 101))),(aO 104 (.alc [zI,zI,zI,zI,.nil,.nil,.nil,.nil,.nil,.nil,.nil,.nil,.nil]))])
 (.seq (.drw [100,11,102,103,104] [
 (eT 105 (.ld true 5 (.t 102))),(eT 106 (.ld true 4 (.t 103))),(eT 107 (.ld true 5 (.t 102))),(eT 108 (.ld true 4 (.t 103))),(eT 109 (.cal 47 [(.t 107),(.t 108)])),(eF 110 (.bld [zI,zI,zI,zI,.nil,.nil,.nil,.nil,.nil,.nil,.nil,.nil,.nil] [(0,5,(.t 105)),(5,4,(.t 106)),(9,1,(.t 109))])),⟨(aN (.sto 13 (.t 104) (.t 110))),[],[],false⟩])
 .ret))
def rv25_100i:List RV:=[.cell 104 true 13]
theorem ok25_100i:qh0 Tryz.prog 100 ac25_100i rv25_100i Tryz.f25=true:=by kernel_rfl
end Go.Proofs.YtdmkfgkmnpohlaaGreat.Txt
namespace Go.Proofs.YtdmkfgkmnpohlaaGreat
open Go Go.Vc Txt
theorem qFQ(g:Grid)(hg:GOk g):FnM (Env.of Tryz.prog) 37 [.agg (quy true g)] ⟨[],[],[],[]⟩ (fun v st' =>v= .agg (wilV (qwM g))/\st' =⟨[],[],wilA (qwM g),[]⟩):=by
 have h1:=hg.count
 have h2:=hg.wh
 have h3:=hg.kind
 refine FnM.dropB 201 (FnM.dropB 202 ?_)
 refine qtT 200 Tryz.func37 ok37_200w (by show 1<=_;decide) rfl (by decide) ?_
 simp only[ac37_200w,rv37_200w,push_cast,reduceIte,reduceEqDiff,reduceAdd,reduceSub,reduceMul,Nat.reduceBEq,reduceLT,reduceLeDiff,reduceCtorEq,reduceToNat,reduceNeg]
 refine⟨by omega,?_⟩
 refine qro (quI g hg) ⟨qDV g,trivial⟩ rfl ?_
 refine sB ?_
 refine⟨by omega,by omega,by omega,by omega,?_,?_⟩
 ·simp[wilV,qwM]
  omega
 ·rw[show(g.w*g.h).toNat=g.kind.length by omega]
  simp only[wilA,qwM,List.length_replicate,push_cast,reduceIte,reduceEqDiff,reduceAdd,reduceSub,reduceMul,Nat.reduceBEq,reduceLT,reduceLeDiff,reduceCtorEq,reduceToNat,reduceNeg]
def gX:Grid:=⟨2,1,1,1,[1,2]⟩
theorem qFR:GOk gX:=⟨by decide,by decide,by decide,by decide,by decide⟩
def cX(k:Int):Cfg:=⟨[0,0,1,1,1,1,k,0,0,0,0,0,0,0,0,0,0,0],[2,0],[1,0],[0,0]⟩
theorem blX:qwM gX=⟨[0,0,0,0,0,0,0,0,0,0,0,0,0,0,0,0,0,0],[0,0],[0,0],[0,0]⟩:=by decide+kernel
instance (g:Grid) (c:Cfg) (t:Nat):Decidable (qz1 g c t):=by unfold qz1;infer_instance
theorem qFS(k:Int)(hk:k=1\/k=2):CfgG gX (cX k):=by
 have key: ∀i,i<18->(cX k).sel.getD i 0≠0->1<=(cX k).sel.getD i 0/\(cX k).sel.getD i 0<=((rdrF gX (i:Nat)).length:Int):=by
  rcases hk with rfl|rfl<;>decide+kernel
 have h18:(cX k).sel.length=18:=rfl
 refine⟨⟨by rw[h18];decide,rfl,rfl,rfl⟩,⟨by rw[h18];decide,fun i hi h=> ?_⟩,by rcases hk with rfl|rfl<;>decide⟩
 rw[qyE qFR]
 exact key i (by omega) h
def selI(k:Int):Nat->List Int
 |0=>[0,0,0,0,0,0,k,0,0,0,0,0,0,0,0,0,0,0]
 |j+1=>(selI k j).set (j+2) 1
theorem qFT(k:Int): ∀j,(selI k j).length=18
 |0=>rfl
 |j+1=>by rw[selI,List.length_set,qFT k j]
def ofiB:List (Nat×List PV):=[(2,[.int 0,.int 0,.int 0,.int 0,.nil,.nil,.nil,.nil,.nil,.nil,.nil,.nil,.nil]),(3,quy true gX),(4,[.view 211 0 18,.view 213 0 2,.view 215 0 2,.view 217 0 2])]
def ofiA(k:Int):List (Nat×Arr):=[(211,⟨1,3,ints (selI k 4)⟩),(213,⟨1,3,ints [2,0]⟩),(215,⟨1,3,ints [1,0]⟩),(217,⟨1,3,ints [0,0]⟩)]
set_option maxHeartbeats 4000000 in
theorem qFU (k : Int) (hk : k = 1 \/ k = 2) : FnM (Env.of Tryz.prog) 25 [.agg (quy true gX), .agg [.view 211 0 18, .view 213 0 2, .view 215 0 2, .view 217 0 2]] ⟨[(2, .ptr 2 0), (3, .ptr 3 0), (4, .ptr 4 0)], ofiB, ofiA k, []⟩
  (fun v st' =>v= .agg (quy true gX++[.view 211 0 18,.view 213 0 2,.view 215 0 2,.view 217 0 2,.sl true 1 (ints (qCs gX (cX k) 18)),.nil,.nil,.nil])/\st' =⟨[(2,.ptr 2 0),(3,.ptr 3 0),(4,.ptr 4 0)],ofiB,ofiA k,[]⟩):=by
 have hD:=qE0 gX qFR (cX k) (qFS k hk)
 rw[show(cX k).sel.length=18 from rfl]at hD
 generalize qCs gX (cX k) 18=dr at *
 refine FnM.dropB 102 (FnM.dropB 103 (FnM.dropB 104 ?_))
 simp only[ofiB,ofiA,push_cast,reduceIte,reduceEqDiff,reduceAdd,reduceSub,reduceMul,Nat.reduceBEq,reduceLT,reduceLeDiff,reduceCtorEq,reduceToNat,reduceNeg]
 refine qtT 100 Tryz.func25 ok25_100i (by show 2<=_;decide) rfl (by decide) ?_
 simp only[ac25_100i,rv25_100i,push_cast,reduceIte,reduceEqDiff,reduceAdd,reduceSub,reduceMul,Nat.reduceBEq,reduceLT,reduceLeDiff,reduceCtorEq,reduceToNat,reduceNeg]
 refine qro hD ⟨qDV gX,.refl _,trivial⟩ rfl ?_
 simp only[push_cast,reduceIte,reduceEqDiff,reduceAdd,reduceSub,reduceMul,Nat.reduceBEq,reduceLT,reduceLeDiff,reduceCtorEq,reduceToNat,reduceNeg]
 done
set_option maxHeartbeats 4000000 in
theorem qFV(k:Int)(hk:k=1\/k=2):FnEq Tryz.prog 19 [.int k] (.agg (ofC gX (cX k) (qCs gX (cX k) (cX k).sel.length))):=by
 have hO:=qFU k hk
 rw[show(cX k).sel.length=18 from rfl]
 generalize qCs gX (cX k) 18=dr at *
 refine FnEq.of_awp Tryz.func19 ok19i (by show 1<=_;decide) (by simp only[push_cast,reduceIte,reduceEqDiff,reduceAdd,reduceSub,reduceMul,Nat.reduceBEq,reduceLT,reduceLeDiff,reduceCtorEq,reduceToNat,reduceNeg]<;>first|exact fun _ _=>trivial|simp) ?_
 simp only[ac19i,rv19i,push_cast,reduceIte,reduceEqDiff,reduceAdd,reduceSub,reduceMul,Nat.reduceBEq,reduceLT,reduceLeDiff,reduceCtorEq,reduceToNat,reduceNeg]
 refine⟨by simp,?_⟩
 refine qr1 _ (Wk.refl _) ?_
 refine sB ?_
 refine qCR [] [211,213,215,217] (qFQ gX qFR) rfl rfl rfl ?_
 rw[blX]
 simp only[wilV,wilA,List.length_cons,List.length_nil,push_cast,reduceIte,reduceEqDiff,reduceAdd,reduceSub,reduceMul,Nat.reduceBEq,reduceLT,reduceLeDiff,reduceCtorEq,reduceToNat,reduceNeg]
 refine⟨by decide,by decide,by decide,?_⟩
 refine qoH (fun m st=> ∃j:Nat,j<=4/\m=4-j/\st=⟨[(2,.ptr 2 0),(3,.ptr 3 0),(4,.ptr 4 0),(5,.int ((j:Int)+2))],
  [(2,[.int 0,.int 0,.int 0,.int 0,.nil,.nil,.nil,.nil,.nil,.nil,.nil,.nil,.nil]),(3,quy true gX),(4,[.view 211 0 18,.view 213 0 2,.view 215 0 2,.view 217 0 2])],
  [(211,⟨1,3,ints (selI k j)⟩),(213,⟨1,3,ints [2,0]⟩),(215,⟨1,3,ints [1,0]⟩),(217,⟨1,3,ints [0,0]⟩)],[]⟩) 4 ?_ ?_
 ·refine⟨0,by omega,by omega,?_⟩
  refine sB ?_
  rfl
 rintro m st ⟨j,hj,rfl,rfl⟩
 have hl:=qFT k j
 refine sB ?_
 refine qnR (fun h=> ?_) fun h=> ?_
 ·refine⟨by omega,by omega,by omega,_,?_,j+1,by omega,rfl,?_⟩
  ·omega
  ·rw[show((j:Int)+2).toNat=j+2 by omega,show(j:Int)+2+1=((j+1:Nat):Int)+2 by omega]
   rfl
 ·have hj4:j=4:=by omega
  subst hj4
  refine qss (Q:=fun v st' =>v= .agg (quy true gX++[.view 211 0 18,.view 213 0 2,.view 215 0 2,.view 217 0 2,.sl true 1 (ints dr),.nil,.nil,.nil])/\st' =⟨[(2,.ptr 2 0),(3,.ptr 3 0),(4,.ptr 4 0)],ofiB,ofiA k,[]⟩)
   (FnM.only [2,3,4] [2,3,4] [211,213,215,217] [] ?_) ?_
  ·refine sB ?_
   exact hO
  rintro v st' ⟨rfl,rfl⟩
  simp only[ofiB,ofiA,List.cons_append,List.nil_append,push_cast,reduceIte,reduceEqDiff,reduceAdd,reduceSub,reduceMul,Nat.reduceBEq,reduceLT,reduceLeDiff,reduceCtorEq,reduceToNat,reduceNeg]
  exact⟨⟨fun _ _=>trivial,fun _ _=>trivial,fun _ _=>trivial,fun _ _=>trivial,fun _ _=>trivial,fun _ _=>trivial⟩,.refl _,.refl _,.refl _,.refl _⟩
set_option maxHeartbeats 4000000 in
theorem qFW (g : Grid) (hg : GOk g) (c : Cfg) (hc : CfgG g c) (r : Int) (hm : c.mode = [2, 0]) (hr : c.ram = [0, 0]) : FnEq Tryz.prog 20 [.agg (qDX false g c (qCs g c c.sel.length) ⟨[r], []⟩ []), .agg [.nil, .nil], .agg [.nil, .nil]]
  (.agg [.bool false,.sl true 1 [[.int (wF ((setF g c ⟨[r],[]⟩ []).getD 0 false))]],.nil,.nil,.nil]):=by
 have hT:=qFP g hg c hc r hm hr
 generalize qCs g c c.sel.length=dr at *
 generalize wF ((setF g c ⟨[r],[]⟩ []).getD 0 false)=w at *
 refine FnEq.of_awp Tryz.func20 ok20 (by show 3<=_;decide) (by simp only[push_cast,reduceIte,reduceEqDiff,reduceAdd,reduceSub,reduceMul,Nat.reduceBEq,reduceLT,reduceLeDiff,reduceCtorEq,reduceToNat,reduceNeg]<;>first|exact fun _ _=>trivial|simp) ?_
 simp only[ac20,rv20,push_cast,reduceIte,reduceEqDiff,reduceAdd,reduceSub,reduceMul,Nat.reduceBEq,reduceLT,reduceLeDiff,reduceCtorEq,reduceToNat,reduceNeg]
 refine qrm hT sC ?_
 refine sB ?_
 exact fun x hx=>absurd hx (by simp)
def drX(k:Int)(i:Nat):Int:=if(cX k).sel.getD i 0=0\/((rdrF gX i).length:Int)<(cX k).sel.getD i 0 then -1 else(rdrF gX i).getD ((cX k).sel.getD i 0-1).toNat 0
theorem qFX(k:Int)(i:Nat):qzD gX (cX k) i=drX k i:=by
 rw[qzD,qyE qFR]
 rfl
def rndX(k:Int)(s:PSt)(v:List Bool)(i:Nat):Bool:=
 if(quJ gX i).kind=6 then([]:List Bool).getD (quJ gX i).i.toNat false
 else if(quJ gX i).kind=1 then qwV (cX k) s (i/qC4 gX) (qC3 v i)
 else if(quJ gX i).kind=2 then qwW (cX k) s (i/qC4 gX)
 else drvV (drX k i) v
theorem qFY(k:Int)(s:PSt):rndF gX (cX k) s []=rndX k s:=by
 funext v i
 rw[rndF,qFX]
 rfl
def depX(k:Int)(i:Nat):List Nat:=
 if(quJ gX i).kind=1 then
  (if(cX k).mode.getD (i/qC4 gX) 0=1\/(cX k).mode.getD (i/qC4 gX) 0=2 then[i+2,i+3,i+4,i+5]else if(cX k).mode.getD (i/qC4 gX) 0=3 then[i+2,i+3,i+4]else[])
 else if 0<=drX k i then[(drX k i).toNat]else[]
theorem qFZ(k:Int):depF gX (cX k)=depX k:=by
 funext i
 rw[depF,qFX]
 rfl
def vX0:List Bool:=qxl (rndX 2 ⟨[0],[]⟩) 18 18 (List.replicate 18 false)
def vX1:List Bool:=qxl (rndX 2 ⟨[1],[]⟩) 18 18 (List.replicate 18 false)
theorem qG0:setF gX (cX 2) ⟨[0],[]⟩ []=vX0:=by rw[setF,qFY];rfl
theorem qG1:setF gX (cX 2) ⟨[1],[]⟩ []=vX1:=by rw[setF,qFY];rfl
theorem vX0_at:vX0.length=18/\vX0.getD 0 false=true/\vX0.getD 6 false=false:=by decide+kernel
theorem vX1_at:vX1.length=18/\vX1.getD 0 false=false/\vX1.getD 1 false=true/\vX1.getD 6 false=true:=by decide+kernel
theorem stX1:qxj (rndF gX (cX 2) ⟨[1],[]⟩ []) 18 vX1=vX1:=by rw[qFY];decide+kernel
theorem stX0:qxj (rndF gX (cX 2) ⟨[1],[]⟩ []) 18 vX0≠vX0:=by rw[qFY];decide+kernel
theorem lpX2:qxJ (depF gX (cX 2)) 18=false:=by rw[qFZ];decide+kernel
theorem lpX1:qxJ (depF gX (cX 1)) 18=true:=by rw[qFZ];decide+kernel
end Go.Proofs.YtdmkfgkmnpohlaaGreat
