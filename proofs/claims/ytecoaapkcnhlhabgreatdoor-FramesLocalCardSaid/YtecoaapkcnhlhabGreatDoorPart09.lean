/- Txt VcZm VcZn: lemmas -/
import Derived.Test.YtecoaapkcnhlhabGreatDoorPart06
import Derived.Test.YtecoaapkcnhlhabGreatDoorChecked
import Derived.Test.YtecoaapkcnhlhabGreatDoorPart08
set_option linter.unusedSimpArgs false
set_option linter.unusedVariables false
open List renaming map_cons->zW,any_eq_false->yD
open Int renaming reduceToNat->zH,reduceNeg->zJ
open Nat renaming reduceEqDiff->zA,reduceAdd->zB,reduceSub->zC,reduceMul->zD,reduceBEq->zE,reduceLT->zF,reduceLeDiff->zG
namespace Go.Proofs.YtecoaapkcnhlhabGreatDoor.Txt
open Go Go.Vc
set_option maxRecDepth 100000
def ac64_r15:AC:=
 (.seq (.reg [0,58,1,7] [
 (aO 55 (.ld false 1 (.t 7))),(aO 56 (.mv (.t 1))),(aO 57 (.clm 92 [(.t 55),(.t 56)])),(aO 4 (.mv (.t 57)))])
 .ret)
def ac64:AC:=
 (.seq (.reg [0,58,0,1] [
 (aO 2 (.box (.t 0))),(aO 4 (.mv (.c (.nil))))])
 (.seq (.reg [0,58,1,2] [
 (aO 9 (.ld true 5 (.t 2))),(aO 10 (.mv (.t 1))),(aO 11 (.cal 86 [(.t 9),(.t 10)])),(aO 8 (.mv (.t 11))),(aO 12 (.ext (.t 8) 0)),(aO 13 (.ext (.t 8) 1)),(aO 5 (.alc [zI,zI,zI,zI])),(aN (.sto 4 (.t 5) (.t 12))),(aO 6 (.mv (.t 13)))])
 (.seq (.seq (.reg [0,58,1,2,5,6] [
 (aO 14 (.mv (.t 6))),(aO 15 (.cmp .neq .i64 (.t 14) (kI 0)))])
 (.cond (.t 15)
 (.seq (.reg [0,58] [
 (aO 4 (.mv (.c (.nil))))])
 .ret)
 .skip))
 (.seq (.reg [0,58,1,2,5] [
 (aO 16 (.ld true 5 (.t 2))),(aO 17 (.bld [zI,zI,zI,zI,.nil,.nil] [(0,5,(.t 16))])),(aO 18 (.box (.t 17))),(aO 7 (.alc [.sc (.pointer none)])),(aN (.sto 1 (.t 7) (.t 18)))])
 (.seq (.seq (.reg [0,58,1,2,5,7] [
 (aO 19 (.fa 0 (.t 5))),(aO 20 (.ld false 1 (.t 19)))])
 (.block 0
 (.seq (.reg [0,58,1,2,5,7,20] [
 (aO 22 (.cmp .eql .i64 (.t 20) (kI 3))),(aO 21 (.mv (.t 22)))])
 (.cond (.t 21)
 (.seq (.reg [0,58,1,5,7] [
 (aO 23 (.ld false 1 (.t 7))),(aO 24 (.fa 1 (.t 5))),(aO 25 (.ld false 1 (.t 24))),(aO 26 (.fa 2 (.t 5))),(aO 27 (.ld false 1 (.t 26))),(aO 28 (.clm 87 [(.t 23),(.t 25),(.t 27)]))])
 (.seq (.reg [0,58,1,5,7] [
 (aO 29 (.fa 3 (.t 5))),(aO 30 (.ld false 1 (.t 29))),(aO 31 (.cmp .eql .i64 (.t 30) (kI 3)))])
 (.cond (.t 31)
 (.reg [0,58,1,5,7] [
 (aO 32 (.ld false 1 (.t 7))),(aO 33 (.fa 1 (.t 5))),(aO 34 (.ld false 1 (.t 33))),(aO 35 (.fa 2 (.t 5))),(aO 36 (.ld false 1 (.t 35))),(aO 37 (.ari .sub true .i64 (.t 36) (kI 1))),(aO 38 (.clm 88 [(.t 32),(kI 1),(.t 34),(.t 37),(kI 0)]))])
 .skip)))
 (.seq (.reg [0,58,1,2,5,7,20] [
 (aO 40 (.cmp .eql .i64 (.t 20) (kI 7))),(aO 39 (.mv (.t 40)))])
 (.cond (.t 39)
 (.reg [0,58,1,2,5,7] [
 (aO 41 (.ld false 1 (.t 7))),(aO 42 (.fa 0 (.t 2))),(aO 43 (.ld false 1 (.t 42))),(aO 44 (.ari .sub true .i64 (.t 43) (kI 1))),(aO 45 (.fa 2 (.t 5))),(aO 46 (.ld false 1 (.t 45))),(aO 47 (.clm 87 [(.t 41),(.t 44),(.t 46)]))])
 (.seq (.seq (.reg [0,58,1,2,5,7,20] [
 (aO 49 (.cmp .eql .i64 (.t 20) (kI 4))),(aO 48 (.mv (.t 49)))])
 (.cond (.t 48)
 .skip
 (.reg [0,58,1,2,5,7,20] [
 (aO 50 (.cmp .eql .i64 (.t 20) (kI 5))),(aO 48 (.mv (.t 50)))])))
 (.cond (.t 48)
 (.reg [0,58,1,2,5,7] [
 (aO 51 (.ld true 5 (.t 2))),(aO 52 (.ld true 4 (.t 5))),(aO 53 (.mkf 90 [(.t 7),(.t 5),(.t 2)])),(aO 54 (.clm 89 [(.t 51),(.t 52),(.t 53)]))])
 .skip))))))))
 ac64_r15)))))
def rv64:List RV:=[.tmp 4]
theorem ok64:fnOk Tryz.prog ac64 rv64 Tryz.f64=true:=by kernel_rfl

def ac86:AC:=
 (.seq (.reg [0,103,0,1] [
 (aO 2 (.box (.t 0))),(aO 4 (.alc [zI,zI,zI,zI])),(aO 5 (.mv (kI 0)))])
 (.seq (.reg [0,103,1,2,4] [
 (aO 10 (.mv (.t 1))),(aO 11 (.ld true 5 (.t 2))),(aO 12 (.cal 51 [(.t 11)])),(aO 13 (.ari .sub true .i64 (.t 10) (.t 12))),(aO 6 (.mv (.t 13)))])
 (.seq (.block 0
 (.seq (.reg [0,103,1,2,4,6] [
 (aO 15 (.mv (.t 1))),(aO 16 (.cmp .lss .i64 (.t 15) (kI 0))),(aO 17 (.mv (.t 16))),⟨some 18,some (17,false),.mv (.t 1)⟩,⟨some 19,some (17,false),.ld true 5 (.t 2)⟩,⟨some 20,some (17,false),.cal 32 [(.t 19)]⟩,⟨some 21,some (17,false),.cmp .geq .i64 (.t 18) (.t 20)⟩,(aO 22 (.pick (.t 17) (.c (.sc (.bool true))) (.t 21))),(aO 14 (.mv (.t 22)))])
 (.cut [0,103,1,2,4,6,14] (.cond (.t 14)
 (.seq (.reg [0,103,4] [
 (aO 23 (.bld [zI,zI,zI,zI] [])),(aN (.sto 4 (.t 4) (.t 23))),(aO 5 (.mv (kI 1)))])
 .ret)
 (.seq (.reg [0,103,1,2,4,6] [
 (aO 25 (.mv (.t 6))),(aO 26 (.fa 3 (.t 2))),(aO 27 (.ld false 1 (.t 26))),(aO 28 (.cmp .geq .i64 (.t 25) (.t 27))),(aO 24 (.mv (.t 28)))])
 (.cond (.t 24)
 (.seq (.drw [0,103,2,4,6] [
 (eT 29 (.fa 0 (.t 2))),(eT 30 (.ld false 1 (.t 29))),(eT 31 (.mv (.t 6))),(eT 32 (.fa 3 (.t 2))),(eT 33 (.ld false 1 (.t 32))),(eT 34 (.ari .sub true .i64 (.t 31) (.t 33))),(eT 35 (.fa 1 (.t 2))),(eT 36 (.ld false 1 (.t 35))),(eT 37 (.dvd .rem true .i64 (.t 34) (.t 36))),(eT 38 (.mv (.t 6))),(eT 39 (.fa 3 (.t 2))),(eT 40 (.ld false 1 (.t 39))),(eT 41 (.ari .sub true .i64 (.t 38) (.t 40))),(eF 42 (.bld [zI,zI,zI,zI] [(0,1,(kI 7)),(1,1,(.t 30)),(2,1,(.t 37)),(3,1,(.t 41))])),⟨(aN (.sto 4 (.t 4) (.t 42))),[],[],false⟩,(eF 5 (.mv (kI 0)))])
 .ret)
 (.seq (.reg [0,103,1,2,4,6] [
 (aO 44 (.mv (.t 6))),(aO 45 (.cmp .geq .i64 (.t 44) (kI 0))),(aO 43 (.mv (.t 45)))])
 (.cond (.t 43)
 (.seq (.reg [0,103,2,4,6] [
 (aO 46 (.mv (.t 6))),(aO 47 (.fa 1 (.t 2))),(aO 48 (.ld false 1 (.t 47))),(aO 49 (.dvd .rem true .i64 (.t 46) (.t 48))),(aO 50 (.mv (.t 6))),(aO 51 (.bld [zI,zI,zI,zI] [(0,1,(kI 6)),(1,1,(kI (-1))),(2,1,(.t 49)),(3,1,(.t 50))])),(aN (.sto 4 (.t 4) (.t 51))),(aO 5 (.mv (kI 0)))])
 .ret)
 .skip))))))))
 (.seq (.drw [0,103,1,2,4] [
 (eT 52 (.mv (.t 1))),(eT 53 (.ld true 5 (.t 2))),(eT 54 (.cal 83 [(.t 53)])),(eT 55 (.dvd .quo true .i64 (.t 52) (.t 54))),(eT 56 (.mv (.t 1))),(eT 57 (.ld true 5 (.t 2))),(eT 58 (.cal 83 [(.t 57)])),(eT 59 (.dvd .rem true .i64 (.t 56) (.t 58))),(eT 7 (.mv (.t 55))),(eF 8 (.mv (.t 59)))])
 (.seq (.drw [0,103,2,4,7,8] [
 (eU 60 (.mv (.t 7)) [] [9]),(eU 61 (.fa 0 (.t 2)) [] [9]),(eU 62 (.ld false 1 (.t 61)) [] [9]),(eU 63 (.dvd .rem true .i64 (.t 60) (.t 62)) [] [9]),(eU 64 (.mv (.t 7)) [] [9]),(eU 65 (.fa 0 (.t 2)) [] [9]),(eU 66 (.ld false 1 (.t 65)) [] [9]),(eU 67 (.dvd .quo true .i64 (.t 64) (.t 66)) [] [9]),(eU 68 (.bld [zI,zI,zI,zI] [(0,1,(kI 1)),(1,1,(.t 63)),(2,1,(.t 67))]) [] [9]),(eU 9 (.alc [zI,zI,zI,zI]) [9] []),⟨(aN (.sto 4 (.t 9) (.t 68))),[],[],false⟩])
 (.seq (.block 1
 (.seq (.reg [0,103,2,4,8,9] [
 (aO 70 (.mv (.t 8))),(aO 71 (.fa 2 (.t 2))),(aO 72 (.ld false 1 (.t 71))),(aO 73 (.ari .add true .i64 (kI 6) (.t 72))),(aO 74 (.cmp .geq .i64 (.t 70) (.t 73))),(aO 69 (.mv (.t 74)))])
 (.cond (.t 69)
 (.drw [0,103,2,4,8,9] [
 (eT 75 (.mv (.t 8))),(eT 76 (.ari .sub true .i64 (.t 75) (kI 2))),(eT 77 (.ari .sub true .i64 (.t 76) (kI 4))),(eT 78 (.fa 2 (.t 2))),(eU 79 (.ld false 1 (.t 78)) [] [9]),(eT 80 (.ari .sub true .i64 (.t 77) (.t 79))),(eT 81 (.fa 0 (.t 9))),⟨(aN (.sto 1 (.t 81) (kI 5))),[],[9],true⟩,(eF 82 (.fa 3 (.t 9))),⟨(aN (.sto 1 (.t 82) (.t 80))),[],[],false⟩])
 (.seq (.reg [0,103,4,8,9] [
 (aO 84 (.mv (.t 8))),(aO 85 (.cmp .geq .i64 (.t 84) (kI 6))),(aO 83 (.mv (.t 85)))])
 (.cond (.t 83)
 (.reg [0,103,4,8,9] [
 (aO 86 (.mv (.t 8))),(aO 87 (.ari .sub true .i64 (.t 86) (kI 2))),(aO 88 (.ari .sub true .i64 (.t 87) (kI 4))),(aO 89 (.fa 0 (.t 9))),(aN (.sto 1 (.t 89) (kI 4))),(aO 90 (.fa 3 (.t 9))),(aN (.sto 1 (.t 90) (.t 88)))])
 (.seq (.reg [0,103,4,8,9] [
 (aO 92 (.mv (.t 8))),(aO 93 (.cmp .geq .i64 (.t 92) (kI 2))),(aO 91 (.mv (.t 93)))])
 (.cond (.t 91)
 (.reg [0,103,4,8,9] [
 (aO 94 (.mv (.t 8))),(aO 95 (.ari .sub true .i64 (.t 94) (kI 2))),(aO 96 (.fa 0 (.t 9))),(aN (.sto 1 (.t 96) (kI 3))),(aO 97 (.fa 3 (.t 9))),(aN (.sto 1 (.t 97) (.t 95)))])
 (.seq (.reg [0,103,4,8,9] [
 (aO 99 (.mv (.t 8))),(aO 100 (.cmp .eql .i64 (.t 99) (kI 1))),(aO 98 (.mv (.t 100)))])
 (.cond (.t 98)
 (.reg [0,103,4,9] [
 (aO 101 (.fa 0 (.t 9))),(aN (.sto 1 (.t 101) (kI 2)))])
 .skip)))))))))
 (.seq (.reg [0,103,4,9] [
 (aO 102 (.ld true 4 (.t 9))),(aN (.sto 4 (.t 4) (.t 102))),(aO 5 (.mv (kI 0)))])
 .ret)))))))
def rv86:List RV:=[.cell 4 true 4,.tmp 5]
theorem ok86:fnOk Tryz.prog ac86 rv86 Tryz.f86=true:=by kernel_rfl

def ac51:AC:=
 (.seq (.reg [0,11,0] [
 (aO 1 (.box (.t 0))),(aO 2 (.mv (kI 0)))])
 (.seq (.drw [0,11,1] [
 (eT 3 (.fa 0 (.t 1))),(eT 4 (.ld false 1 (.t 3))),(eT 5 (.fa 1 (.t 1))),(eT 6 (.ld false 1 (.t 5))),(eT 7 (.ari .mul true .i64 (.t 4) (.t 6))),(eT 8 (.ld true 5 (.t 1))),(eT 9 (.cal 83 [(.t 8)])),(eF 10 (.ari .mul true .i64 (.t 7) (.t 9))),(eF 2 (.mv (.t 10)))])
 .ret))
def rv51:List RV:=[.tmp 2]
theorem ok51:fnOk Tryz.prog ac51 rv51 Tryz.f51=true:=by kernel_rfl

def ac32:AC:=
 (.seq (.reg [0,9,0] [
 (aO 1 (.box (.t 0))),(aO 2 (.mv (kI 0)))])
 (.seq (.drw [0,9,1] [
 (eT 3 (.ld true 5 (.t 1))),(eT 4 (.cal 51 [(.t 3)])),(eT 5 (.fa 3 (.t 1))),(eT 6 (.ld false 1 (.t 5))),(eT 7 (.ari .mul true .i64 (kI 2) (.t 6))),(eF 8 (.ari .add true .i64 (.t 4) (.t 7))),(eF 2 (.mv (.t 8)))])
 .ret))
def rv32:List RV:=[.tmp 2]
theorem ok32:fnOk Tryz.prog ac32 rv32 Tryz.f32=true:=by kernel_rfl

def ac83:AC:=
 (.seq (.reg [0,7,0] [
 (aO 1 (.box (.t 0))),(aO 2 (.mv (kI 0)))])
 (.seq (.reg [0,7,1] [
 (aO 3 (.fa 2 (.t 1))),(aO 4 (.ld false 1 (.t 3))),(aO 5 (.ari .mul true .i64 (kI 2) (.t 4))),(aO 6 (.ari .add true .i64 (kI 6) (.t 5))),(aO 2 (.mv (.t 6)))])
 .ret))
def rv83:List RV:=[.tmp 2]
theorem ok83:fnOk Tryz.prog ac83 rv83 Tryz.f83=true:=by kernel_rfl

def ac101_r18:AC:=
 (.seq (.seq (.reg [0,87,2,3,7] [
 (aO 74 (.ld true 5 (.t 2))),(aO 75 (.mv (.t 7))),(aO 76 (.cal 86 [(.t 74),(.t 75)])),(aO 73 (.mv (.t 76))),(aO 77 (.ext (.t 73) 0)),(aO 78 (.ext (.t 73) 1)),(aO 8 (.alc [zI,zI,zI,zI])),(aN (.sto 4 (.t 8) (.t 77))),(aO 9 (.mv (.t 78)))])
 (.seq (.reg [0,87,3,7,8,9] [
 (aO 79 (.mv (.t 9))),(aO 80 (.cmp .neq .i64 (.t 79) (kI 0))),(aO 81 (.mv (.t 80))),⟨some 82,some (81,false),.ld true 4 (.t 8)⟩,⟨some 83,some (81,false),.ld true 4 (.t 3)⟩,⟨some 84,some (81,false),.eqa true 4 (.t 82) (.t 83)⟩,(aO 85 (.pick (.t 81) (.c (.sc (.bool true))) (.t 84)))])
 (.cut [0,87,7,85] (.cond (.t 85)
 (.seq (.reg [0,87] [
 (aO 4 (.mv (kI 0))),(aO 5 (.mv (kI 1)))])
 .ret)
 .skip))))
 (.seq (.reg [0,87,7] [
 (aO 86 (.mv (.t 7))),(aO 4 (.mv (.t 86))),(aO 5 (.mv (kI 0)))])
 .ret))
def ac101:AC:=
 (.seq (.reg [0,87,0,1] [
 (aO 2 (.box (.t 0))),(aO 3 (.box (.t 1))),(aO 4 (.mv (kI 0))),(aO 5 (.mv (kI 0)))])
 (.seq (.drw [0,87,2,3] [
 (eT 10 (.fa 2 (.t 3))),(eT 11 (.ld false 1 (.t 10))),(eT 12 (.fa 0 (.t 2))),(eT 13 (.ld false 1 (.t 12))),(eT 14 (.ari .mul true .i64 (.t 11) (.t 13))),(eT 15 (.fa 1 (.t 3))),(eT 16 (.ld false 1 (.t 15))),(eT 17 (.ari .add true .i64 (.t 14) (.t 16))),(eT 18 (.ld true 5 (.t 2))),(eT 19 (.cal 83 [(.t 18)])),(eF 20 (.ari .mul true .i64 (.t 17) (.t 19))),(eF 6 (.mv (.t 20)))])
 (.seq (.reg [0,87,2,3,6] [
 (aO 7 (.mv (kI (-1))))])
 (.seq (.seq (.reg [0,87,2,3,6,7] [
 (aO 21 (.fa 0 (.t 3))),(aO 22 (.ld false 1 (.t 21)))])
 (.block 0
 (.seq (.reg [0,87,2,3,6,7,22] [
 (aO 24 (.cmp .eql .i64 (.t 22) (kI 1))),(aO 23 (.mv (.t 24)))])
 (.cond (.t 23)
 (.reg [0,87,2,3,6] [
 (aO 25 (.mv (.t 6))),(aO 7 (.mv (.t 25)))])
 (.seq (.reg [0,87,2,3,6,7,22] [
 (aO 27 (.cmp .eql .i64 (.t 22) (kI 2))),(aO 26 (.mv (.t 27)))])
 (.cond (.t 26)
 (.reg [0,87,2,3,6] [
 (aO 28 (.mv (.t 6))),(aO 29 (.ari .add true .i64 (.t 28) (kI 1))),(aO 7 (.mv (.t 29)))])
 (.seq (.reg [0,87,2,3,6,7,22] [
 (aO 31 (.cmp .eql .i64 (.t 22) (kI 3))),(aO 30 (.mv (.t 31)))])
 (.cond (.t 30)
 (.reg [0,87,2,3,6] [
 (aO 32 (.mv (.t 6))),(aO 33 (.ari .add true .i64 (.t 32) (kI 2))),(aO 34 (.fa 3 (.t 3))),(aO 35 (.ld false 1 (.t 34))),(aO 36 (.ari .add true .i64 (.t 33) (.t 35))),(aO 7 (.mv (.t 36)))])
 (.seq (.reg [0,87,2,3,6,7,22] [
 (aO 38 (.cmp .eql .i64 (.t 22) (kI 4))),(aO 37 (.mv (.t 38)))])
 (.cond (.t 37)
 (.reg [0,87,2,3,6] [
 (aO 39 (.mv (.t 6))),(aO 40 (.ari .add true .i64 (.t 39) (kI 2))),(aO 41 (.ari .add true .i64 (.t 40) (kI 4))),(aO 42 (.fa 3 (.t 3))),(aO 43 (.ld false 1 (.t 42))),(aO 44 (.ari .add true .i64 (.t 41) (.t 43))),(aO 7 (.mv (.t 44)))])
 (.seq (.reg [0,87,2,3,6,7,22] [
 (aO 46 (.cmp .eql .i64 (.t 22) (kI 5))),(aO 45 (.mv (.t 46)))])
 (.cond (.t 45)
 (.reg [0,87,2,3,6] [
 (aO 47 (.mv (.t 6))),(aO 48 (.ari .add true .i64 (.t 47) (kI 2))),(aO 49 (.ari .add true .i64 (.t 48) (kI 4))),(aO 50 (.fa 2 (.t 2))),(aO 51 (.ld false 1 (.t 50))),(aO 52 (.ari .add true .i64 (.t 49) (.t 51))),(aO 53 (.fa 3 (.t 3))),(aO 54 (.ld false 1 (.t 53))),(aO 55 (.ari .add true .i64 (.t 52) (.t 54))),(aO 7 (.mv (.t 55)))])
 (.seq (.reg [0,87,2,3,7,22] [
 (aO 57 (.cmp .eql .i64 (.t 22) (kI 6))),(aO 56 (.mv (.t 57)))])
 (.cond (.t 56)
 (.drw [0,87,2,3] [
 (eT 58 (.ld true 5 (.t 2))),(eT 59 (.cal 51 [(.t 58)])),(eT 60 (.fa 3 (.t 3))),(eT 61 (.ld false 1 (.t 60))),(eF 62 (.ari .add true .i64 (.t 59) (.t 61))),(eF 7 (.mv (.t 62)))])
 (.seq (.reg [0,87,2,3,7,22] [
 (aO 64 (.cmp .eql .i64 (.t 22) (kI 7))),(aO 63 (.mv (.t 64)))])
 (.cond (.t 63)
 (.drw [0,87,2,3] [
 (eT 65 (.ld true 5 (.t 2))),(eT 66 (.cal 51 [(.t 65)])),(eT 67 (.fa 3 (.t 2))),(eT 68 (.ld false 1 (.t 67))),(eT 69 (.ari .add true .i64 (.t 66) (.t 68))),(eT 70 (.fa 3 (.t 3))),(eT 71 (.ld false 1 (.t 70))),(eF 72 (.ari .add true .i64 (.t 69) (.t 71))),(eF 7 (.mv (.t 72)))])
 .skip))))))))))))))))
 ac101_r18))))
def rv101:List RV:=[.tmp 4,.tmp 5]
theorem ok101:fnOk Tryz.prog ac101 rv101 Tryz.f101=true:=by kernel_rfl

def ac87_200:AC:=
 (.seq (.reg [200,21,200,201,202] [
 (aO 207 (.mv (.t 200))),(aO 208 (.nck (.t 207))),(aO 209 (.fa 0 (.t 208))),(aO 210 (.fa 2 (.t 209))),(aO 211 (.ld false 1 (.t 210))),(aO 212 (.mv (kI 0)))])
 (.block 0
 (.loop [200,21,200,201,202,211,212]
 (.seq (.reg [200,21,200,201,202,211,212] [
 (aO 213 (.cmp .lss .i64 (.t 212) (.t 211)))])
 (.seq (.cond (.t 213)
 .skip
 (.exit 0))
 (.seq (.block 1
 (.seq (.reg [200,21,200,201,202,211,212] [
 (aO 214 (.mv (.t 212))),(aO 206 (.mv (.t 214)))])
 (.reg [200,21,200,201,202,206,211,212] [
 (aO 215 (.mv (.t 200))),(aO 216 (.mv (.t 201))),(aO 217 (.mv (.t 202))),(aO 218 (.mv (.t 206))),(aO 219 (.clm 91 [(.t 215),(.t 216),(.t 217),(.t 218)]))])))
 (.reg [200,21,200,201,202,211,212] [
 (aO 220 (.ari .add true .i64 (.t 212) (kI 1))),(aO 212 (.mv (.t 220)))])))))))
def rv87_200:List RV:=[]
theorem ok87_200:qh6 Tryz.prog 200 ac87_200 rv87_200 Tryz.f87=true:=by kernel_rfl

def ac88_400:AC:=
 (.seq (.reg [400,37,400,401,402,403,404] [
 (aO 413 (.mv (.t 400))),(aO 414 (.nck (.t 413))),(aO 415 (.fa 0 (.t 414))),(aO 416 (.ld true 5 (.t 415))),(aO 417 (.mv (.t 401))),(aO 418 (.mv (.t 402))),(aO 419 (.mv (.t 403))),(aO 420 (.mv (.t 404))),(aO 421 (.bld [zI,zI,zI,zI] [(0,1,(.t 417)),(1,1,(.t 418)),(2,1,(.t 419)),(3,1,(.t 420))])),(aO 422 (.cal 101 [(.t 416),(.t 421)])),(aO 412 (.mv (.t 422))),(aO 423 (.ext (.t 412) 0)),(aO 424 (.ext (.t 412) 1)),(aO 410 (.mv (.t 423))),(aO 411 (.mv (.t 424)))])
 (.seq (.reg [400,37,400,410,411] [
 (aO 425 (.mv (.t 411))),(aO 426 (.cmp .eql .i64 (.t 425) (kI 0)))])
 (.cond (.t 426)
 (.reg [400,37,400,410] [
 (aO 427 (.mv (.t 400))),(aO 428 (.mv (.t 400))),(aO 429 (.nck (.t 428))),(aO 430 (.fa 5 (.t 429))),(aO 431 (.ld false 1 (.t 430))),(aO 432 (.mv (.t 410))),(aO 433 (.bsl 1 3 [zI] 1 [(0,(.t 432))])),(aO 434 (.app 1 3 8 (.t 431) (.t 433))),(aO 435 (.nck (.t 427))),(aO 436 (.fa 5 (.t 435))),(aN (.sto 1 (.t 436) (.t 434)))])
 .skip)))
def rv88_400:List RV:=[]
theorem ok88_400:qh6 Tryz.prog 400 ac88_400 rv88_400 Tryz.f88=true:=by kernel_rfl

def ac89_100:AC:=
 (.seq (.reg [100,39,100,101,102] [
 (aO 103 (.box (.t 100))),(aO 104 (.box (.t 101)))])
 (.seq (.reg [100,39,102,103,104] [
 (aO 108 (.mv (.t 102))),(aO 109 (.fa 1 (.t 104))),(aO 110 (.ld false 1 (.t 109))),(aO 111 (.fa 2 (.t 104))),(aO 112 (.ld false 1 (.t 111))),(aO 113 (.clv (.t 108) [(.t 110),(.t 112)]))])
 (.seq (.drw [100,39,102,103,104] [
 (eT 114 (.fa 1 (.t 104))),(eT 115 (.ld false 1 (.t 114))),(eT 116 (.fa 2 (.t 104))),(eT 117 (.ld false 1 (.t 116))),(eT 106 (.mv (.t 115))),(eF 107 (.mv (.t 117)))])
 (.seq (.seq (.reg [100,39,102,103,104,106,107] [
 (aO 118 (.fa 0 (.t 104))),(aO 119 (.ld false 1 (.t 118))),(aO 120 (.cmp .eql .i64 (.t 119) (kI 4)))])
 (.cond (.t 120)
 (.reg [100,39,102,103,106,107] [
 (aO 121 (.mv (.t 106))),(aO 122 (.ari .add true .i64 (.t 121) (kI 1))),(aO 106 (.mv (.t 122)))])
 (.reg [100,39,102,103,106,107] [
 (aO 123 (.mv (.t 107))),(aO 124 (.ari .add true .i64 (.t 123) (kI 1))),(aO 107 (.mv (.t 124)))])))
 (.seq (.reg [100,39,102,103,106,107] [
 (aO 125 (.mv (.t 106))),(aO 126 (.fa 0 (.t 103))),(aO 127 (.ld false 1 (.t 126))),(aO 128 (.cmp .lss .i64 (.t 125) (.t 127))),(aO 129 (.mv (.t 128))),⟨some 130,some (129,true),.mv (.t 107)⟩,⟨some 131,some (129,true),.fa 1 (.t 103)⟩,⟨some 132,some (129,true),.ld false 1 (.t 131)⟩,⟨some 133,some (129,true),.cmp .lss .i64 (.t 130) (.t 132)⟩,(aO 134 (.pick (.t 129) (.t 133) (.c (.sc (.bool false)))))])
 (.cut [100,39,102,106,107,134] (.cond (.t 134)
 (.reg [100,39,102,106,107] [
 (aO 135 (.mv (.t 102))),(aO 136 (.mv (.t 106))),(aO 137 (.mv (.t 107))),(aO 138 (.clv (.t 135) [(.t 136),(.t 137)]))])
 .skip)))))))
def rv89_100:List RV:=[]
theorem ok89_100:qh6 Tryz.prog 100 ac89_100 rv89_100 Tryz.f89=true:=by kernel_rfl

def ac90_150:AC:=
 (.seq (.reg [150,39,150,151,152,153,154] [
 (aO 158 (.ld false 1 (.t 152))),(aO 159 (.mv (.t 150))),(aO 160 (.mv (.t 151))),(aO 161 (.clm 88 [(.t 158),(kI 1),(.t 159),(.t 160),(kI 0)]))])
 (.seq (.reg [150,39,150,151,152,153,154] [
 (aO 162 (.ld false 1 (.t 152))),(aO 163 (.mv (.t 150))),(aO 164 (.mv (.t 151))),(aO 165 (.clm 88 [(.t 162),(kI 2),(.t 163),(.t 164),(kI 0)]))])
 (.seq (.reg [150,39,150,151,152,153,154] [
 (aO 166 (.ld false 1 (.t 152))),(aO 167 (.mv (.t 150))),(aO 168 (.mv (.t 151))),(aO 169 (.fa 3 (.t 153))),(aO 170 (.ld false 1 (.t 169))),(aO 171 (.clm 91 [(.t 166),(.t 167),(.t 168),(.t 170)]))])
 (.seq (.reg [150,39,150,151,152,154] [
 (aO 172 (.mv (.t 151))),(aO 157 (.mv (.t 172)))])
 (.block 0
 (.loop [150,39,150,151,152,154,157]
 (.seq (.seq (.reg [150,39,150,151,152,154,157] [
 (aO 173 (.mv (.t 150))),(aO 174 (.cmp .eql .i64 (.t 173) (kI 0))),(aO 175 (.mv (.t 174))),⟨some 176,some (175,true),.mv (.t 157)⟩,⟨some 177,some (175,true),.fa 3 (.t 154)⟩,⟨some 178,some (175,true),.ld false 1 (.t 177)⟩,⟨some 179,some (175,true),.cmp .lss .i64 (.t 176) (.t 178)⟩,(aO 180 (.pick (.t 175) (.t 179) (.c (.sc (.bool false)))))])
 (.cut [150,39,150,151,152,154,157,180] (.cond (.t 180)
 .skip
 (.exit 0))))
 (.seq (.block 1
 (.reg [150,39,150,151,152,154,157] [
 (aO 185 (.ld false 1 (.t 152))),(aO 186 (.mv (.t 151))),(aO 187 (.mv (.t 157))),(aO 188 (.clm 88 [(.t 185),(kI 6),(kI (-1)),(.t 186),(.t 187)]))]))
 (.reg [150,39,150,151,152,154,157] [
 (aO 181 (.mv (.t 157))),(aO 182 (.fa 1 (.t 154))),(aO 183 (.ld false 1 (.t 182))),(aO 184 (.ari .add true .i64 (.t 181) (.t 183))),(aO 157 (.mv (.t 184)))])))))))))
def rv90_150:List RV:=[]
theorem ok90_150:qh6 Tryz.prog 150 ac90_150 rv90_150 Tryz.f90=true:=by kernel_rfl

def ac91_250:AC:=
 (.seq (.seq (.reg [250,54,250,251,252,253] [
 (aO 258 (.mv (.t 251))),(aO 259 (.cmp .lss .i64 (.t 258) (kI 0))),(aO 260 (.mv (.t 259))),⟨some 261,some (260,false),.mv (.t 251)⟩,⟨some 262,some (260,false),.mv (.t 250)⟩,⟨some 263,some (260,false),.nck (.t 262)⟩,⟨some 264,some (260,false),.fa 0 (.t 263)⟩,⟨some 265,some (260,false),.fa 0 (.t 264)⟩,⟨some 266,some (260,false),.ld false 1 (.t 265)⟩,⟨some 267,some (260,false),.cmp .geq .i64 (.t 261) (.t 266)⟩,(aO 268 (.pick (.t 260) (.c (.sc (.bool true))) (.t 267))),(aO 269 (.mv (.t 268))),⟨some 270,some (269,false),.mv (.t 252)⟩,⟨some 271,some (269,false),.cmp .lss .i64 (.t 270) (kI 0)⟩,(aO 272 (.pick (.t 269) (.c (.sc (.bool true))) (.t 271))),(aO 273 (.mv (.t 272))),⟨some 274,some (273,false),.mv (.t 252)⟩,⟨some 275,some (273,false),.mv (.t 250)⟩,⟨some 276,some (273,false),.nck (.t 275)⟩,⟨some 277,some (273,false),.fa 0 (.t 276)⟩,⟨some 278,some (273,false),.fa 1 (.t 277)⟩,⟨some 279,some (273,false),.ld false 1 (.t 278)⟩,⟨some 280,some (273,false),.cmp .geq .i64 (.t 274) (.t 279)⟩,(aO 281 (.pick (.t 273) (.c (.sc (.bool true))) (.t 280)))])
 (.cut [250,54,250,251,252,253,281] (.cond (.t 281)
 .ret
 .skip)))
 (.seq (.reg [250,54,250,251,252,253] [
 (aO 282 (.mv (.t 250))),(aO 283 (.mv (.t 251))),(aO 284 (.mv (.t 252))),(aO 285 (.mv (.t 253))),(aO 286 (.clm 88 [(.t 282),(kI 4),(.t 283),(.t 284),(.t 285)]))])
 (.seq (.reg [250,54,250,251,252,253] [
 (aO 287 (.mv (.t 250))),(aO 288 (.mv (.t 251))),(aO 289 (.mv (.t 252))),(aO 290 (.mv (.t 253))),(aO 291 (.clm 88 [(.t 287),(kI 5),(.t 288),(.t 289),(.t 290)]))])
 (.seq (.reg [250,54,250,251,252,253] [
 (aO 292 (.mv (.t 250))),(aO 293 (.mv (.t 251))),(aO 294 (.ari .sub true .i64 (.t 293) (kI 1))),(aO 295 (.mv (.t 252))),(aO 296 (.mv (.t 253))),(aO 297 (.clm 88 [(.t 292),(kI 4),(.t 294),(.t 295),(.t 296)]))])
 (.reg [250,54,250,251,252,253] [
 (aO 298 (.mv (.t 250))),(aO 299 (.mv (.t 251))),(aO 300 (.mv (.t 252))),(aO 301 (.ari .sub true .i64 (.t 300) (kI 1))),(aO 302 (.mv (.t 253))),(aO 303 (.clm 88 [(.t 298),(kI 5),(.t 299),(.t 301),(.t 302)]))])))))
def rv91_250:List RV:=[]
theorem ok91_250:qh6 Tryz.prog 250 ac91_250 rv91_250 Tryz.f91=true:=by kernel_rfl

def ac92_100:AC:=
 (.seq (.reg [100,24,100,101] [
 (aO 103 (.box (.t 101))),(aO 104 (.mv (.c (.nil))))])
 (.seq (.reg [100,24,100,103] [
 (aO 105 (.mv (.t 100))),(aO 106 (.nck (.t 105))),(aO 107 (.fa 5 (.t 106))),(aO 108 (.ld false 1 (.t 107))),(aO 109 (.clm 29 [(.t 108)]))])
 (.seq (.reg [100,24,100,103] [
 (aO 110 (.mv (.t 100))),(aO 111 (.mv (.t 100))),(aO 112 (.nck (.t 111))),(aO 113 (.fa 5 (.t 112))),(aO 114 (.ld false 1 (.t 113))),(aO 115 (.clm 30 [(.t 114)])),(aO 116 (.nck (.t 110))),(aO 117 (.fa 5 (.t 116))),(aN (.sto 1 (.t 117) (.t 115)))])
 (.seq (.reg [100,24,100,103] [
 (aO 118 (.mv (.t 100))),(aO 119 (.nck (.t 118))),(aO 120 (.fa 5 (.t 119))),(aO 121 (.ld false 1 (.t 120))),(aO 122 (.mkf 103 [(.t 103)])),(aO 123 (.clm 102 [(.t 121),(.t 122)])),(aO 104 (.mv (.t 123)))])
 .ret))))
def rv92_100:List RV:=[.tmp 104]
theorem ok92_100:qh6 Tryz.prog 100 ac92_100 rv92_100 Tryz.f92=true:=by kernel_rfl

def ac102_150:AC:=
 (.seq (.reg [150,42,150,151] [
 (aO 154 (.mv (.c (.nil))))])
 (.seq (.reg [150,42,150,151] [
 (aO 158 (.mv (.t 150))),(aO 159 (.mv (.t 151))),(aO 160 (.cal 105 [(.t 158),(.t 159)])),(aO 155 (.mv (.t 160)))])
 (.seq (.seq (.reg [150,42,150,151,155] [
 (aO 161 (.mv (.t 155))),(aO 162 (.cmp .eql .i64 (.t 161) (kI (-1))))])
 (.cond (.t 162)
 (.seq (.reg [150,42,150] [
 (aO 163 (.mv (.t 150))),(aO 154 (.mv (.t 163)))])
 .ret)
 .skip))
 (.seq (.seq (.reg [150,42,150,151,155] [
 (aO 164 (.mv (.t 155))),(aO 165 (.ari .add true .i64 (.t 164) (kI 1))),(aO 156 (.mv (.t 165)))])
 (.block 0
 (.loop [150,42,150,151,155,156]
 (.seq (.seq (.reg [150,42,150,151,155,156] [
 (aO 166 (.mv (.t 156))),(aO 167 (.mv (.t 150))),(aO 168 (.len (.t 167))),(aO 169 (.cmp .lss .i64 (.t 166) (.t 168)))])
 (.cond (.t 169)
 .skip
 (.exit 0)))
 (.seq (.block 1
 (.seq (.reg [150,42,150,151,155,156] [
 (aO 172 (.mv (.t 150))),(aO 173 (.mv (.t 156))),(aO 174 (.ixs 1 (.t 172) (.t 173))),(aO 175 (.ld false 1 (.t 174))),(aO 157 (.mv (.t 175)))])
 (.seq (.reg [150,42,150,151,155,156,157] [
 (aO 176 (.mv (.t 151))),(aO 177 (.mv (.t 157))),(aO 178 (.clv (.t 176) [(.t 177)])),(aO 179 (.not (.t 178)))])
 (.cond (.t 179)
 (.seq (.reg [150,42,150,151,155,156,157] [
 (aO 180 (.mv (.t 150))),(aO 181 (.mv (.t 155))),(aO 182 (.mv (.t 157))),(aO 183 (.ixs 1 (.t 180) (.t 181))),(aN (.sto 1 (.t 183) (.t 182)))])
 (.reg [150,42,150,151,155,156] [
 (aO 184 (.mv (.t 155))),(aO 185 (.ari .add true .i64 (.t 184) (kI 1))),(aO 155 (.mv (.t 185)))]))
 .skip))))
 (.reg [150,42,150,151,155,156] [
 (aO 170 (.mv (.t 156))),(aO 171 (.ari .add true .i64 (.t 170) (kI 1))),(aO 156 (.mv (.t 171)))]))))))
 (.seq (.reg [150,42,150,155] [
 (aO 186 (.mv (.t 150))),(aO 187 (.mv (.t 155))),(aO 188 (.slc 1 (.t 186) (some (.t 187)) none)),(aN (.xo (.clr 1 [zI]) [(.t 188)]))])
 (.seq (.reg [150,42,150,155] [
 (aO 189 (.mv (.t 150))),(aO 190 (.mv (.t 155))),(aO 191 (.slc 1 (.t 189) none (some (.t 190)))),(aO 154 (.mv (.t 191)))])
 .ret))))))
def rv102_150:List RV:=[.tmp 154]
theorem ok102_150:qh6 Tryz.prog 150 ac102_150 rv102_150 Tryz.f102=true:=by kernel_rfl

def ac103:AC:=
 (.seq (.reg [0,7,0,1] [
 (aO 3 (.mv (.c (.sc (.bool false)))))])
 (.seq (.reg [0,7,0,1] [
 (aO 4 (.mv (.t 0))),(aO 5 (.ld false 1 (.t 1))),(aO 6 (.cmp .eql .i64 (.t 4) (.t 5))),(aO 3 (.mv (.t 6)))])
 .ret))
def rv103:List RV:=[.tmp 3]
theorem ok103:fnOk Tryz.prog ac103 rv103 Tryz.f103=true:=by kernel_rfl

def ac105:AC:=
 (.seq (.reg [0,19,0,1] [
 (aO 4 (.mv (kI 0)))])
 (.seq (.seq (.reg [0,19,0,1] [
 (aO 6 (.mv (.t 0))),(aO 7 (.len (.t 6))),(aO 8 (.mv (kI 0)))])
 (.block 0
 (.loop [0,19,0,1,7,8]
 (.seq (.reg [0,19,0,1,7,8] [
 (aO 9 (.cmp .lss .i64 (.t 8) (.t 7)))])
 (.seq (.cond (.t 9)
 .skip
 (.exit 0))
 (.seq (.block 1
 (.seq (.reg [0,19,0,1,7,8] [
 (aO 10 (.mv (.t 8))),(aO 5 (.mv (.t 10)))])
 (.seq (.reg [0,19,0,1,5,7,8] [
 (aO 11 (.mv (.t 1))),(aO 12 (.mv (.t 0))),(aO 13 (.mv (.t 5))),(aO 14 (.ixs 1 (.t 12) (.t 13))),(aO 15 (.ld false 1 (.t 14))),(aO 16 (.clv (.t 11) [(.t 15)]))])
 (.cond (.t 16)
 (.seq (.reg [0,19,5] [
 (aO 17 (.mv (.t 5))),(aO 4 (.mv (.t 17)))])
 .ret)
 .skip))))
 (.reg [0,19,0,1,7,8] [
 (aO 18 (.ari .add true .i64 (.t 8) (kI 1))),(aO 8 (.mv (.t 18)))])))))))
 (.seq (.reg [0,19] [
 (aO 4 (.mv (kI (-1))))])
 .ret)))
def rv105:List RV:=[.tmp 4]
theorem ok105:fnOk Tryz.prog ac105 rv105 Tryz.f105=true:=by kernel_rfl

def ac40:AC:=
 (.seq (.reg [0,15,0] [
 (aO 1 (.box (.t 0))),(aO 2 (.mv (kI 0)))])
 (.seq (.drw [0,15,1] [
 (eT 3 (.fa 0 (.t 1))),(eT 4 (.ld false 1 (.t 3))),(eT 5 (.fa 1 (.t 1))),(eT 6 (.ld false 1 (.t 5))),(eT 7 (.ari .mul true .i64 (.t 4) (.t 6))),(eT 8 (.ld true 5 (.t 1))),(eT 9 (.cal 43 [(.t 8)])),(eT 10 (.ari .mul true .i64 (.t 7) (.t 9))),(eT 11 (.fa 3 (.t 1))),(eT 12 (.ld false 1 (.t 11))),(eT 13 (.ari .mul true .i64 (kI 2) (.t 12))),(eF 14 (.ari .add true .i64 (.t 10) (.t 13))),(eF 2 (.mv (.t 14)))])
 .ret))
def rv40:List RV:=[.tmp 2]
theorem ok40:fnOk Tryz.prog ac40 rv40 Tryz.f40=true:=by kernel_rfl

def ac43:AC:=
 (.seq (.reg [0,7,0] [
 (aO 1 (.box (.t 0))),(aO 2 (.mv (kI 0)))])
 (.seq (.reg [0,7,1] [
 (aO 3 (.fa 2 (.t 1))),(aO 4 (.ld false 1 (.t 3))),(aO 5 (.ari .mul true .i64 (kI 2) (.t 4))),(aO 6 (.ari .add true .i64 (kI 6) (.t 5))),(aO 2 (.mv (.t 6)))])
 .ret))
def rv43:List RV:=[.tmp 2]
theorem ok43:fnOk Tryz.prog ac43 rv43 Tryz.f43=true:=by kernel_rfl

def ac41:AC:=
 (.seq (.reg [0,113,0,1] [
 (aO 2 (.box (.t 0))),(aO 4 (.alc [zI,zI,zI,zI,zI]))])
 (.seq (.seq (.reg [0,113,1,2,4] [
 (aO 11 (.mv (.t 1))),(aO 12 (.cmp .lss .i64 (.t 11) (kI 0))),(aO 13 (.mv (.t 12))),⟨some 14,some (13,false),.mv (.t 1)⟩,⟨some 15,some (13,false),.ld true 5 (.t 2)⟩,⟨some 16,some (13,false),.cal 40 [(.t 15)]⟩,⟨some 17,some (13,false),.cmp .geq .i64 (.t 14) (.t 16)⟩,(aO 18 (.pick (.t 13) (.c (.sc (.bool true))) (.t 17)))])
 (.cut [0,113,1,2,4,18] (.cond (.t 18)
 (.seq (.reg [0,113,4] [
 (aO 19 (.bld [zI,zI,zI,zI,zI] [(4,1,(kI 1))])),(aN (.sto 5 (.t 4) (.t 19)))])
 .ret)
 .skip)))
 (.seq (.drw [0,113,1,2,4] [
 (eT 20 (.fa 0 (.t 2))),(eT 21 (.ld false 1 (.t 20))),(eT 22 (.fa 1 (.t 2))),(eT 23 (.ld false 1 (.t 22))),(eT 24 (.ari .mul true .i64 (.t 21) (.t 23))),(eT 25 (.ld true 5 (.t 2))),(eT 26 (.cal 43 [(.t 25)])),(eF 27 (.ari .mul true .i64 (.t 24) (.t 26))),(eF 5 (.mv (.t 27)))])
 (.seq (.seq (.reg [0,113,1,2,4,5] [
 (aO 28 (.mv (.t 1))),(aO 29 (.mv (.t 5))),(aO 30 (.fa 3 (.t 2))),(aO 31 (.ld false 1 (.t 30))),(aO 32 (.ari .add true .i64 (.t 29) (.t 31))),(aO 33 (.cmp .geq .i64 (.t 28) (.t 32)))])
 (.cond (.t 33)
 (.seq (.reg [0,113,1,2,4,5] [
 (aO 34 (.mv (.t 1))),(aO 35 (.mv (.t 5))),(aO 36 (.ari .sub true .i64 (.t 34) (.t 35))),(aO 37 (.fa 3 (.t 2))),(aO 38 (.ld false 1 (.t 37))),(aO 39 (.ari .sub true .i64 (.t 36) (.t 38))),(aO 6 (.mv (.t 39)))])
 (.seq (.drw [0,113,2,4,6] [
 (eT 40 (.fa 0 (.t 2))),(eT 41 (.ld false 1 (.t 40))),(eT 42 (.mv (.t 6))),(eT 43 (.fa 1 (.t 2))),(eT 44 (.ld false 1 (.t 43))),(eT 45 (.dvd .rem true .i64 (.t 42) (.t 44))),(eT 46 (.mv (.t 6))),(eF 47 (.bld [zI,zI,zI,zI] [(0,1,(kI 7)),(1,1,(.t 41)),(2,1,(.t 45)),(3,1,(.t 46))])),(eF 48 (.bld [zI,zI,zI,zI,zI] [(0,4,(.t 47))])),⟨(aN (.sto 5 (.t 4) (.t 48))),[],[],false⟩])
 .ret))
 .skip))
 (.seq (.seq (.reg [0,113,1,2,4,5] [
 (aO 49 (.mv (.t 1))),(aO 50 (.mv (.t 5))),(aO 51 (.cmp .geq .i64 (.t 49) (.t 50)))])
 (.cond (.t 51)
 (.seq (.reg [0,113,1,2,4,5] [
 (aO 52 (.mv (.t 1))),(aO 53 (.mv (.t 5))),(aO 54 (.ari .sub true .i64 (.t 52) (.t 53))),(aO 7 (.mv (.t 54)))])
 (.seq (.reg [0,113,2,4,7] [
 (aO 55 (.mv (.t 7))),(aO 56 (.fa 1 (.t 2))),(aO 57 (.ld false 1 (.t 56))),(aO 58 (.dvd .rem true .i64 (.t 55) (.t 57))),(aO 59 (.mv (.t 7))),(aO 60 (.bld [zI,zI,zI,zI] [(0,1,(kI 6)),(1,1,(kI (-1))),(2,1,(.t 58)),(3,1,(.t 59))])),(aO 61 (.bld [zI,zI,zI,zI,zI] [(0,4,(.t 60))])),(aN (.sto 5 (.t 4) (.t 61)))])
 .ret))
 .skip))
 (.seq (.drw [0,113,1,2,4] [
 (eT 62 (.mv (.t 1))),(eT 63 (.ld true 5 (.t 2))),(eT 64 (.cal 43 [(.t 63)])),(eT 65 (.dvd .quo true .i64 (.t 62) (.t 64))),(eT 66 (.mv (.t 1))),(eT 67 (.ld true 5 (.t 2))),(eT 68 (.cal 43 [(.t 67)])),(eT 69 (.dvd .rem true .i64 (.t 66) (.t 68))),(eT 8 (.mv (.t 65))),(eF 9 (.mv (.t 69)))])
 (.seq (.drw [0,113,2,4,8,9] [
 (eU 70 (.mv (.t 8)) [] [10]),(eU 71 (.fa 0 (.t 2)) [] [10]),(eU 72 (.ld false 1 (.t 71)) [] [10]),(eU 73 (.dvd .rem true .i64 (.t 70) (.t 72)) [] [10]),(eU 74 (.mv (.t 8)) [] [10]),(eU 75 (.fa 0 (.t 2)) [] [10]),(eU 76 (.ld false 1 (.t 75)) [] [10]),(eU 77 (.dvd .quo true .i64 (.t 74) (.t 76)) [] [10]),(eU 78 (.bld [zI,zI,zI,zI] [(1,1,(.t 73)),(2,1,(.t 77))]) [] [10]),(eU 10 (.alc [zI,zI,zI,zI]) [10] []),⟨(aN (.sto 4 (.t 10) (.t 78))),[],[],false⟩])
 (.seq (.block 0
 (.seq (.reg [0,113,2,4,9,10] [
 (aO 87 (.mv (.t 9))),(aO 88 (.cmp .eql .i64 (.t 87) (kI 0))),(aO 86 (.mv (.t 88)))])
 (.cond (.t 86)
 (.reg [0,113,4,10] [
 (aO 89 (.fa 0 (.t 10))),(aN (.sto 1 (.t 89) (kI 1)))])
 (.seq (.reg [0,113,2,4,9,10] [
 (aO 91 (.mv (.t 9))),(aO 92 (.cmp .eql .i64 (.t 91) (kI 1))),(aO 90 (.mv (.t 92)))])
 (.cond (.t 90)
 (.reg [0,113,4,10] [
 (aO 93 (.fa 0 (.t 10))),(aN (.sto 1 (.t 93) (kI 2)))])
 (.seq (.reg [0,113,2,4,9,10] [
 (aO 95 (.mv (.t 9))),(aO 96 (.cmp .lss .i64 (.t 95) (kI 6))),(aO 94 (.mv (.t 96)))])
 (.cond (.t 94)
 (.seq (.reg [0,113,4,9,10] [
 (aO 97 (.fa 0 (.t 10))),(aN (.sto 1 (.t 97) (kI 3)))])
 (.reg [0,113,4,9,10] [
 (aO 98 (.mv (.t 9))),(aO 99 (.ari .sub true .i64 (.t 98) (kI 2))),(aO 100 (.fa 3 (.t 10))),(aN (.sto 1 (.t 100) (.t 99)))]))
 (.seq (.reg [0,113,2,4,9,10] [
 (aO 102 (.mv (.t 9))),(aO 103 (.fa 2 (.t 2))),(aO 104 (.ld false 1 (.t 103))),(aO 105 (.ari .add true .i64 (kI 6) (.t 104))),(aO 106 (.cmp .lss .i64 (.t 102) (.t 105))),(aO 101 (.mv (.t 106)))])
 (.cond (.t 101)
 (.seq (.reg [0,113,4,9,10] [
 (aO 107 (.fa 0 (.t 10))),(aN (.sto 1 (.t 107) (kI 4)))])
 (.reg [0,113,4,9,10] [
 (aO 108 (.mv (.t 9))),(aO 109 (.ari .sub true .i64 (.t 108) (kI 6))),(aO 110 (.fa 3 (.t 10))),(aN (.sto 1 (.t 110) (.t 109)))]))
 (.seq (.reg [0,113,2,4,9,10] [
 (aO 79 (.fa 0 (.t 10))),(aN (.sto 1 (.t 79) (kI 5)))])
 (.reg [0,113,2,4,9,10] [
 (aO 80 (.mv (.t 9))),(aO 81 (.ari .sub true .i64 (.t 80) (kI 6))),(aO 82 (.fa 2 (.t 2))),(aO 83 (.ld false 1 (.t 82))),(aO 84 (.ari .sub true .i64 (.t 81) (.t 83))),(aO 85 (.fa 3 (.t 10))),(aN (.sto 1 (.t 85) (.t 84)))])))))))))))
 (.seq (.reg [0,113,4,10] [
 (aO 111 (.ld true 4 (.t 10))),(aO 112 (.bld [zI,zI,zI,zI,zI] [(0,4,(.t 111))])),(aN (.sto 5 (.t 4) (.t 112)))])
 .ret)))))))))
def rv41:List RV:=[.cell 4 true 5]
theorem ok41:fnOk Tryz.prog ac41 rv41 Tryz.f41=true:=by kernel_rfl

def ac60:AC:=
 (.seq (.reg [0,83,0,1,2,3] [
 (aO 4 (.box (.t 0))),(aO 5 (.box (.t 1))),(aO 8 (.mv (.c (.sc (.bool false)))))])
 (.seq (.seq (.reg [0,83,2,3,4,5] [
 (aO 9 (.mv (.t 2))),(aO 10 (.cmp .lss .i64 (.t 9) (kI 0))),(aO 11 (.mv (.t 10))),⟨some 12,some (11,false),.mv (.t 2)⟩,⟨some 13,some (11,false),.fa 0 (.t 4)⟩,⟨some 14,some (11,false),.ld false 1 (.t 13)⟩,⟨some 15,some (11,false),.cmp .geq .i64 (.t 12) (.t 14)⟩,(aO 16 (.pick (.t 11) (.c (.sc (.bool true))) (.t 15))),(aO 17 (.mv (.t 16))),⟨some 18,some (17,false),.mv (.t 3)⟩,⟨some 19,some (17,false),.cmp .lss .i64 (.t 18) (kI 0)⟩,(aO 20 (.pick (.t 17) (.c (.sc (.bool true))) (.t 19))),(aO 21 (.mv (.t 20))),⟨some 22,some (21,false),.mv (.t 3)⟩,⟨some 23,some (21,false),.fa 1 (.t 4)⟩,⟨some 24,some (21,false),.ld false 1 (.t 23)⟩,⟨some 25,some (21,false),.cmp .geq .i64 (.t 22) (.t 24)⟩,(aO 26 (.pick (.t 21) (.c (.sc (.bool true))) (.t 25)))])
 (.cut [0,83,2,3,5,26] (.cond (.t 26)
 (.seq (.reg [0,83] [
 (aO 8 (.mv (.c (.sc (.bool false)))))])
 .ret)
 .skip)))
 (.seq (.reg [0,83,2,3,5] [
 (aO 27 (.fa 0 (.t 5))),(aO 28 (.ld false 1 (.t 27))),(aO 29 (.cmp .eql .i64 (.t 28) (kI 4))),(aO 30 (.mv (.t 29))),⟨some 31,some (30,false),.fa 0 (.t 5)⟩,⟨some 32,some (30,false),.ld false 1 (.t 31)⟩,⟨some 33,some (30,false),.cmp .eql .i64 (.t 32) (kI 5)⟩,(aO 34 (.pick (.t 30) (.c (.sc (.bool true))) (.t 33))),(aO 35 (.mv (.t 34))),⟨some 36,some (35,true),.fa 1 (.t 5)⟩,⟨some 37,some (35,true),.ld false 1 (.t 36)⟩,⟨some 38,some (35,true),.mv (.t 2)⟩,⟨some 39,some (35,true),.cmp .eql .i64 (.t 37) (.t 38)⟩,(aO 40 (.pick (.t 35) (.t 39) (.c (.sc (.bool false))))),(aO 41 (.mv (.t 40))),⟨some 42,some (41,true),.fa 2 (.t 5)⟩,⟨some 43,some (41,true),.ld false 1 (.t 42)⟩,⟨some 44,some (41,true),.mv (.t 3)⟩,⟨some 45,some (41,true),.cmp .eql .i64 (.t 43) (.t 44)⟩,(aO 46 (.pick (.t 41) (.t 45) (.c (.sc (.bool false))))),(aO 47 (.mv (.t 46))),⟨some 48,some (47,false),.fa 0 (.t 5)⟩,⟨some 49,some (47,false),.ld false 1 (.t 48)⟩,⟨some 50,some (47,false),.cmp .eql .i64 (.t 49) (kI 4)⟩,⟨some 51,some (47,false),.mv (.t 50)⟩,⟨some 52,some (51,true),.fa 1 (.t 5)⟩,⟨some 53,some (51,true),.ld false 1 (.t 52)⟩,⟨some 54,some (51,true),.ari .add true .i64 (.t 53) (kI 1)⟩,⟨some 55,some (51,true),.mv (.t 2)⟩,⟨some 56,some (51,true),.cmp .eql .i64 (.t 54) (.t 55)⟩,⟨some 57,some (47,false),.pick (.t 51) (.t 56) (.c (.sc (.bool false)))⟩,⟨some 58,some (47,false),.mv (.t 57)⟩,⟨some 59,some (58,true),.fa 2 (.t 5)⟩,⟨some 60,some (58,true),.ld false 1 (.t 59)⟩,⟨some 61,some (58,true),.mv (.t 3)⟩,⟨some 62,some (58,true),.cmp .eql .i64 (.t 60) (.t 61)⟩,⟨some 63,some (47,false),.pick (.t 58) (.t 62) (.c (.sc (.bool false)))⟩,(aO 64 (.pick (.t 47) (.c (.sc (.bool true))) (.t 63))),(aO 65 (.mv (.t 64))),⟨some 66,some (65,false),.fa 0 (.t 5)⟩,⟨some 67,some (65,false),.ld false 1 (.t 66)⟩,⟨some 68,some (65,false),.cmp .eql .i64 (.t 67) (kI 5)⟩,⟨some 69,some (65,false),.mv (.t 68)⟩,⟨some 70,some (69,true),.fa 1 (.t 5)⟩,⟨some 71,some (69,true),.ld false 1 (.t 70)⟩,⟨some 72,some (69,true),.mv (.t 2)⟩,⟨some 73,some (69,true),.cmp .eql .i64 (.t 71) (.t 72)⟩,⟨some 74,some (65,false),.pick (.t 69) (.t 73) (.c (.sc (.bool false)))⟩,⟨some 75,some (65,false),.mv (.t 74)⟩,⟨some 76,some (75,true),.fa 2 (.t 5)⟩,⟨some 77,some (75,true),.ld false 1 (.t 76)⟩,⟨some 78,some (75,true),.ari .add true .i64 (.t 77) (kI 1)⟩,⟨some 79,some (75,true),.mv (.t 3)⟩,⟨some 80,some (75,true),.cmp .eql .i64 (.t 78) (.t 79)⟩,⟨some 81,some (65,false),.pick (.t 75) (.t 80) (.c (.sc (.bool false)))⟩,(aO 82 (.pick (.t 65) (.c (.sc (.bool true))) (.t 81))),(aO 8 (.mv (.t 82)))])
 .ret)))
def rv60:List RV:=[.tmp 8]
theorem ok60:fnOk Tryz.prog ac60 rv60 Tryz.f60=true:=by kernel_rfl

def ac61:AC:=
 (.seq (.reg [0,11,0] [
 (aO 1 (.box (.t 0))),(aO 2 (.mv (.c (.sc (.bool false)))))])
 (.seq (.reg [0,11,1] [
 (aO 3 (.fa 0 (.t 1))),(aO 4 (.ld false 1 (.t 3))),(aO 5 (.cmp .eql .i64 (.t 4) (kI 4))),(aO 6 (.mv (.t 5))),⟨some 7,some (6,false),.fa 0 (.t 1)⟩,⟨some 8,some (6,false),.ld false 1 (.t 7)⟩,⟨some 9,some (6,false),.cmp .eql .i64 (.t 8) (kI 5)⟩,(aO 10 (.pick (.t 6) (.c (.sc (.bool true))) (.t 9))),(aO 2 (.mv (.t 10)))])
 .ret))
def rv61:List RV:=[.tmp 2]
theorem ok61:fnOk Tryz.prog ac61 rv61 Tryz.f61=true:=by kernel_rfl

def ac62:AC:=
 (.seq (.reg [0,44,0,1,2] [
 (aO 3 (.box (.t 0))),(aO 4 (.box (.t 1))),(aO 5 (.box (.t 2))),(aO 6 (.mv (.c (.sc (.bool false)))))])
 (.seq (.reg [0,44,3,4,5] [
 (aO 7 (.ld true 5 (.t 3))),(aO 8 (.ld true 4 (.t 5))),(aO 9 (.fa 1 (.t 4))),(aO 10 (.ld false 1 (.t 9))),(aO 11 (.fa 2 (.t 4))),(aO 12 (.ld false 1 (.t 11))),(aO 13 (.cal 60 [(.t 7),(.t 8),(.t 10),(.t 12)])),(aO 14 (.mv (.t 13))),⟨some 15,some (14,false),.fa 0 (.t 4)⟩,⟨some 16,some (14,false),.ld false 1 (.t 15)⟩,⟨some 17,some (14,false),.cmp .eql .i64 (.t 16) (kI 4)⟩,⟨some 18,some (14,false),.mv (.t 17)⟩,⟨some 19,some (18,true),.ld true 5 (.t 3)⟩,⟨some 20,some (18,true),.ld true 4 (.t 5)⟩,⟨some 21,some (18,true),.fa 1 (.t 4)⟩,⟨some 22,some (18,true),.ld false 1 (.t 21)⟩,⟨some 23,some (18,true),.ari .add true .i64 (.t 22) (kI 1)⟩,⟨some 24,some (18,true),.fa 2 (.t 4)⟩,⟨some 25,some (18,true),.ld false 1 (.t 24)⟩,⟨some 26,some (18,true),.cal 60 [(.t 19),(.t 20),(.t 23),(.t 25)]⟩,⟨some 27,some (14,false),.pick (.t 18) (.t 26) (.c (.sc (.bool false)))⟩,(aO 28 (.pick (.t 14) (.c (.sc (.bool true))) (.t 27))),(aO 29 (.mv (.t 28))),⟨some 30,some (29,false),.fa 0 (.t 4)⟩,⟨some 31,some (29,false),.ld false 1 (.t 30)⟩,⟨some 32,some (29,false),.cmp .eql .i64 (.t 31) (kI 5)⟩,⟨some 33,some (29,false),.mv (.t 32)⟩,⟨some 34,some (33,true),.ld true 5 (.t 3)⟩,⟨some 35,some (33,true),.ld true 4 (.t 5)⟩,⟨some 36,some (33,true),.fa 1 (.t 4)⟩,⟨some 37,some (33,true),.ld false 1 (.t 36)⟩,⟨some 38,some (33,true),.fa 2 (.t 4)⟩,⟨some 39,some (33,true),.ld false 1 (.t 38)⟩,⟨some 40,some (33,true),.ari .add true .i64 (.t 39) (kI 1)⟩,⟨some 41,some (33,true),.cal 60 [(.t 34),(.t 35),(.t 37),(.t 40)]⟩,⟨some 42,some (29,false),.pick (.t 33) (.t 41) (.c (.sc (.bool false)))⟩,(aO 43 (.pick (.t 29) (.c (.sc (.bool true))) (.t 42))),(aO 6 (.mv (.t 43)))])
 .ret))
def rv62:List RV:=[.tmp 6]
theorem ok62:fnOk Tryz.prog ac62 rv62 Tryz.f62=true:=by kernel_rfl

def ac24:AC:=
 (.seq (.reg [0,36,0,1] [
 (aO 2 (.box (.t 0))),(aO 4 (.mv (.c (.nil))))])
 (.seq (.reg [0,36,1,2] [
 (aO 8 (.bsl 1 3 [zI] 0 [])),(aO 5 (.mv (.t 8)))])
 (.seq (.reg [0,36,1,2,5] [
 (aO 9 (.ld true 5 (.t 2))),(aO 10 (.mv (.t 1))),(aO 11 (.cal 41 [(.t 9),(.t 10)])),(aO 6 (.alc [zI,zI,zI,zI,zI])),(aN (.sto 5 (.t 6) (.t 11)))])
 (.seq (.seq (.reg [0,36,2,5,6] [
 (aO 7 (.mv (kI 0)))])
 (.block 0
 (.loop [0,36,2,5,6,7]
 (.seq (.seq (.reg [0,36,2,5,6,7] [
 (aO 12 (.mv (.t 7))),(aO 13 (.ld true 5 (.t 2))),(aO 14 (.cal 40 [(.t 13)])),(aO 15 (.cmp .lss .i64 (.t 12) (.t 14))),(aO 16 (.mv (.t 15))),⟨some 17,some (16,true),.fa 4 (.t 6)⟩,⟨some 18,some (16,true),.ld false 1 (.t 17)⟩,⟨some 19,some (16,true),.cmp .eql .i64 (.t 18) (kI 0)⟩,(aO 20 (.pick (.t 16) (.t 19) (.c (.sc (.bool false)))))])
 (.cut [0,36,2,5,6,7,20] (.cond (.t 20)
 .skip
 (.exit 0))))
 (.seq (.block 1
 (.seq (.drw [0,36,2,5,6,7] [
 (eT 23 (.ld true 5 (.t 2))),(eT 24 (.ld true 5 (.t 2))),(eT 25 (.mv (.t 7))),(eT 26 (.cal 41 [(.t 24),(.t 25)])),(eT 27 (.fl true 0 4 (.t 26))),(eT 28 (.fa 0 (.t 6))),(eT 29 (.ld true 4 (.t 28))),(eF 30 (.cal 42 [(.t 23),(.t 27),(.t 29)]))])
 (.cond (.t 30)
 (.reg [0,36,2,5,6,7] [
 (aO 31 (.mv (.t 5))),(aO 32 (.mv (.t 7))),(aO 33 (.bsl 1 3 [zI] 1 [(0,(.t 32))])),(aO 34 (.app 1 3 8 (.t 31) (.t 33))),(aO 5 (.mv (.t 34)))])
 .skip)))
 (.reg [0,36,2,5,6,7] [
 (aO 21 (.mv (.t 7))),(aO 22 (.ari .add true .i64 (.t 21) (kI 1))),(aO 7 (.mv (.t 22)))]))))))
 (.seq (.reg [0,36,5] [
 (aO 35 (.mv (.t 5))),(aO 4 (.mv (.t 35)))])
 .ret)))))
def rv24:List RV:=[.tmp 4]
theorem ok24:fnOk Tryz.prog ac24 rv24 Tryz.f24=true:=by kernel_rfl

def ac23:AC:=
 (.seq (.reg [0,9,0,1] [
 (aO 2 (.box (.t 0))),(aO 4 (.mv (kI 0)))])
 (.seq (.reg [0,9,1,2] [
 (aO 5 (.ld true 5 (.t 2))),(aO 6 (.mv (.t 1))),(aO 7 (.cal 24 [(.t 5),(.t 6)])),(aO 8 (.len (.t 7))),(aO 4 (.mv (.t 8)))])
 .ret))
def rv23:List RV:=[.tmp 4]
theorem ok23:fnOk Tryz.prog ac23 rv23 Tryz.f23=true:=by kernel_rfl

def ac21:AC:=
 (.seq (.reg [0,37,0,1] [
 (aO 4 (.mv (.c (.nil))))])
 (.seq (.reg [0,37,0,1] [
 (aO 8 (.bsl 1 3 [zI] 0 [])),(aO 5 (.mv (.t 8)))])
 (.seq (.seq (.reg [0,37,0,1,5] [
 (aO 6 (.mv (kI 0)))])
 (.block 0
 (.loop [0,37,0,1,5,6]
 (.seq (.seq (.reg [0,37,0,1,5,6] [
 (aO 9 (.mv (.t 6))),(aO 10 (.mv (.t 0))),(aO 11 (.cmp .lss .i64 (.t 9) (.t 10)))])
 (.cond (.t 11)
 .skip
 (.exit 0)))
 (.seq (.block 1
 (.seq (.reg [0,37,0,1,5,6] [
 (aO 7 (.mv (kI 2)))])
 (.seq (.seq (.reg [0,37,0,1,5,6,7] [
 (aO 14 (.mv (.t 6))),(aO 15 (.mv (.t 1))),(aO 16 (.len (.t 15))),(aO 17 (.cmp .lss .i64 (.t 14) (.t 16))),(aO 18 (.mv (.t 17))),⟨some 19,some (18,true),.mv (.t 1)⟩,⟨some 20,some (18,true),.mv (.t 6)⟩,⟨some 21,some (18,true),.ixs 1 (.t 19) (.t 20)⟩,⟨some 22,some (18,true),.ld false 1 (.t 21)⟩,⟨some 23,some (18,true),.dvd .rem true .u8 (.t 22) (.c (.sc (.int .u8 8)))⟩,⟨some 24,some (18,true),.cmp .lss .u8 (.t 23) (.c (.sc (.int .u8 2)))⟩,(aO 25 (.pick (.t 18) (.t 24) (.c (.sc (.bool false)))))])
 (.cut [0,37,0,1,5,6,7,25] (.cond (.t 25)
 (.reg [0,37,0,1,5,6] [
 (aO 26 (.mv (.t 1))),(aO 27 (.mv (.t 6))),(aO 28 (.ixs 1 (.t 26) (.t 27))),(aO 29 (.ld false 1 (.t 28))),(aO 30 (.dvd .rem true .u8 (.t 29) (.c (.sc (.int .u8 8))))),(aO 31 (.cnv true .i64 (.t 30))),(aO 7 (.mv (.t 31)))])
 .skip)))
 (.reg [0,37,0,1,5,6,7] [
 (aO 32 (.mv (.t 5))),(aO 33 (.mv (.t 7))),(aO 34 (.bsl 1 3 [zI] 1 [(0,(.t 33))])),(aO 35 (.app 1 3 8 (.t 32) (.t 34))),(aO 5 (.mv (.t 35)))]))))
 (.reg [0,37,0,1,5,6] [
 (aO 12 (.mv (.t 6))),(aO 13 (.ari .add true .i64 (.t 12) (kI 1))),(aO 6 (.mv (.t 13)))]))))))
 (.seq (.reg [0,37,5] [
 (aO 36 (.mv (.t 5))),(aO 4 (.mv (.t 36)))])
 .ret))))
def rv21:List RV:=[.tmp 4]
theorem ok21:fnOk Tryz.prog ac21 rv21 Tryz.f21=true:=by kernel_rfl

def ac6:AC:=
 (.seq (.reg [0,30,0] [
 (aO 1 (.box (.t 0))),(aO 2 (.alc [zI,zI,zI,zI,.nil]))])
 (.seq (.reg [0,30,1,2] [
 (aO 4 (.fa 0 (.t 1))),(aO 5 (.ld false 1 (.t 4))),(aO 6 (.dvd .rem true .u8 (.t 5) (.c (.sc (.int .u8 4))))),(aO 7 (.cnv true .i64 (.t 6))),(aO 8 (.ari .add true .i64 (kI 2) (.t 7))),(aO 9 (.fa 1 (.t 1))),(aO 10 (.ld false 1 (.t 9))),(aO 11 (.dvd .rem true .u8 (.t 10) (.c (.sc (.int .u8 4))))),(aO 12 (.cnv true .i64 (.t 11))),(aO 13 (.ari .add true .i64 (kI 2) (.t 12))),(aO 14 (.fa 2 (.t 1))),(aO 15 (.ld false 1 (.t 14))),(aO 16 (.dvd .rem true .u8 (.t 15) (.c (.sc (.int .u8 3))))),(aO 17 (.cnv true .i64 (.t 16))),(aO 18 (.ari .add true .i64 (kI 2) (.t 17))),(aO 19 (.bld [zI,zI,zI,zI,.nil] [(0,1,(.t 8)),(1,1,(.t 13)),(2,1,(.t 18)),(3,1,(kI 24))])),(aO 3 (.alc [zI,zI,zI,zI,.nil])),(aN (.sto 5 (.t 3) (.t 19)))])
 (.seq (.reg [0,30,1,2,3] [
 (aO 20 (.fa 0 (.t 3))),(aO 21 (.ld false 1 (.t 20))),(aO 22 (.fa 1 (.t 3))),(aO 23 (.ld false 1 (.t 22))),(aO 24 (.ari .mul true .i64 (.t 21) (.t 23))),(aO 25 (.fa 4 (.t 1))),(aO 26 (.ld false 1 (.t 25))),(aO 27 (.cal 21 [(.t 24),(.t 26)])),(aO 28 (.fa 4 (.t 3))),(aN (.sto 1 (.t 28) (.t 27)))])
 (.seq (.reg [0,30,2,3] [
 (aO 29 (.ld true 5 (.t 3))),(aN (.sto 5 (.t 2) (.t 29)))])
 .ret))))
def rv6:List RV:=[.cell 2 true 5]
theorem ok6:fnOk Tryz.prog ac6 rv6 Tryz.f6=true:=by kernel_rfl

def ac63:AC:=
 (.seq (.reg [0,15,0,1,2] [
 (aO 6 (.mv (.c (.sc (.bool false)))))])
 (.seq (.reg [0,15,0,1,2] [
 (aO 7 (.mv (.t 1))),(aO 8 (.mv (.t 0))),(aO 9 (.cmp .leq .i64 (.t 7) (.t 8))),(aO 10 (.mv (.t 9))),⟨some 11,some (10,true),.mv (.t 0)⟩,⟨some 12,some (10,true),.mv (.t 2)⟩,⟨some 13,some (10,true),.cmp .leq .i64 (.t 11) (.t 12)⟩,(aO 14 (.pick (.t 10) (.t 13) (.c (.sc (.bool false))))),(aO 6 (.mv (.t 14)))])
 .ret))
def rv63:List RV:=[.tmp 6]
theorem ok63:fnOk Tryz.prog ac63 rv63 Tryz.f63=true:=by kernel_rfl

def ac93:AC:=
 (.seq (.reg [0,14,0,1] [
 (aO 4 (.mv (.c (.sc (.bool false)))))])
 (.seq (.seq (.reg [0,14,0,1] [
 (aO 5 (.mv (.t 0)))])
 (.block 0
 (.seq (.reg [0,14,1,5] [
 (aO 7 (.cmp .eql .i64 (.t 5) (kI 0))),(aO 6 (.mv (.t 7)))])
 (.cond (.t 6)
 (.seq (.reg [0,14,1] [
 (aO 8 (.mv (.t 1))),(aO 9 (.cmp .eql .i64 (.t 8) (kI 0))),(aO 4 (.mv (.t 9)))])
 .ret)
 (.seq (.reg [0,14,1,5] [
 (aO 11 (.cmp .eql .i64 (.t 5) (kI 1))),(aO 10 (.mv (.t 11)))])
 (.cond (.t 10)
 (.seq (.reg [0,14,1] [
 (aO 12 (.mv (.t 1))),(aO 13 (.cmp .neq .i64 (.t 12) (kI 3))),(aO 4 (.mv (.t 13)))])
 .ret)
 .skip))))))
 (.seq (.reg [0,14] [
 (aO 4 (.mv (.c (.sc (.bool true)))))])
 .ret)))
def rv93:List RV:=[.tmp 4]
theorem ok93:fnOk Tryz.prog ac93 rv93 Tryz.f93=true:=by kernel_rfl

def ac44:AC:=
 (.seq (.reg [0,87,0,1] [
 (aO 2 (.box (.t 0))),(aO 3 (.box (.t 1))),(aO 4 (.mv (kI 0)))])
 (.seq (.reg [0,87,2,3] [
 (aO 10 (.fa 4 (.t 2))),(aO 11 (.ld false 1 (.t 10))),(aO 12 (.len (.t 11))),(aO 5 (.mv (.t 12)))])
 (.seq (.seq (.drw [0,87,2,3,5] [
 (eT 13 (.fa 0 (.t 3))),(eT 14 (.ld false 1 (.t 13))),(eT 15 (.len (.t 14))),(eT 16 (.ld true 5 (.t 2))),(eT 17 (.cal 32 [(.t 16)])),(eF 18 (.cmp .neq .i64 (.t 15) (.t 17))),(eF 19 (.mv (.t 18))),⟨⟨some 20,some (19,false),.fa 1 (.t 3)⟩,[],[],true⟩,⟨⟨some 21,some (19,false),.ld false 1 (.t 20)⟩,[],[],true⟩,⟨⟨some 22,some (19,false),.len (.t 21)⟩,[],[],true⟩,⟨⟨some 23,some (19,false),.mv (.t 5)⟩,[],[],true⟩,⟨⟨some 24,some (19,false),.cmp .neq .i64 (.t 22) (.t 23)⟩,[],[],false⟩,(eF 25 (.pick (.t 19) (.c (.sc (.bool true))) (.t 24))),(eF 26 (.mv (.t 25))),⟨⟨some 27,some (26,false),.fa 2 (.t 3)⟩,[],[],true⟩,⟨⟨some 28,some (26,false),.ld false 1 (.t 27)⟩,[],[],true⟩,⟨⟨some 29,some (26,false),.len (.t 28)⟩,[],[],true⟩,⟨⟨some 30,some (26,false),.mv (.t 5)⟩,[],[],true⟩,⟨⟨some 31,some (26,false),.cmp .neq .i64 (.t 29) (.t 30)⟩,[],[],false⟩,(eF 32 (.pick (.t 26) (.c (.sc (.bool true))) (.t 31))),(eF 33 (.mv (.t 32))),⟨⟨some 34,some (33,false),.fa 3 (.t 3)⟩,[],[],true⟩,⟨⟨some 35,some (33,false),.ld false 1 (.t 34)⟩,[],[],true⟩,⟨⟨some 36,some (33,false),.len (.t 35)⟩,[],[],true⟩,⟨⟨some 37,some (33,false),.mv (.t 5)⟩,[],[],true⟩,⟨⟨some 38,some (33,false),.cmp .neq .i64 (.t 36) (.t 37)⟩,[],[],false⟩,(eF 39 (.pick (.t 33) (.c (.sc (.bool true))) (.t 38)))])
 (.cut [0,87,2,3,39] (.cond (.t 39)
 (.seq (.reg [0,87] [
 (aO 4 (.mv (kI 310)))])
 .ret)
 .skip)))
 (.seq (.seq (.reg [0,87,2,3] [
 (aO 40 (.fa 0 (.t 3))),(aO 41 (.ld false 1 (.t 40))),(aO 42 (.len (.t 41))),(aO 43 (.mv (kI 0)))])
 (.block 0
 (.loop [0,87,2,3,41,42,43]
 (.seq (.reg [0,87,2,3,41,42,43] [
 (aO 44 (.cmp .lss .i64 (.t 43) (.t 42)))])
 (.seq (.cond (.t 44)
 .skip
 (.exit 0))
 (.seq (.block 1
 (.seq (.reg [0,87,2,3,41,42,43] [
 (aO 45 (.mv (.t 43))),(aO 46 (.ixs 1 (.t 41) (.t 43))),(aO 47 (.ld false 1 (.t 46))),(aO 6 (.mv (.t 45))),(aO 7 (.mv (.t 47)))])
 (.seq (.reg [0,87,2,3,6,7,41,42,43] [
 (aO 48 (.mv (.t 7))),(aO 49 (.cmp .neq .i64 (.t 48) (kI 0))),(aO 50 (.mv (.t 49))),⟨some 51,some (50,true),.mv (.t 7)⟩,⟨some 52,some (50,true),.ld true 5 (.t 2)⟩,⟨some 53,some (50,true),.mv (.t 6)⟩,⟨some 54,some (50,true),.cal 64 [(.t 52),(.t 53)]⟩,⟨some 55,some (50,true),.len (.t 54)⟩,⟨some 56,some (50,true),.cal 63 [(.t 51),(kI 1),(.t 55)]⟩,⟨some 57,some (50,true),.not (.t 56)⟩,(aO 58 (.pick (.t 50) (.t 57) (.c (.sc (.bool false)))))])
 (.cut [0,87,2,3,41,42,43,58] (.cond (.t 58)
 (.seq (.reg [0,87] [
 (aO 4 (.mv (kI 310)))])
 .ret)
 .skip)))))
 (.reg [0,87,2,3,41,42,43] [
 (aO 59 (.ari .add true .i64 (.t 43) (kI 1))),(aO 43 (.mv (.t 59)))])))))))
 (.seq (.seq (.reg [0,87,2,3] [
 (aO 60 (.fa 4 (.t 2))),(aO 61 (.ld false 1 (.t 60))),(aO 62 (.len (.t 61))),(aO 63 (.mv (kI 0)))])
 (.block 2
 (.loop [0,87,3,61,62,63]
 (.seq (.reg [0,87,3,61,62,63] [
 (aO 64 (.cmp .lss .i64 (.t 63) (.t 62)))])
 (.seq (.cond (.t 64)
 .skip
 (.exit 2))
 (.seq (.block 3
 (.seq (.reg [0,87,3,61,62,63] [
 (aO 65 (.mv (.t 63))),(aO 66 (.ixs 1 (.t 61) (.t 63))),(aO 67 (.ld false 1 (.t 66))),(aO 8 (.mv (.t 65))),(aO 9 (.mv (.t 67)))])
 (.seq (.drw [0,87,3,8,9,61,62,63] [
 (eT 68 (.mv (.t 9))),(eT 69 (.fa 1 (.t 3))),(eT 70 (.ld false 1 (.t 69))),(eT 71 (.mv (.t 8))),(eT 72 (.ixs 1 (.t 70) (.t 71))),(eT 73 (.ld false 1 (.t 72))),(eT 74 (.fa 2 (.t 3))),(eT 75 (.ld false 1 (.t 74))),(eT 76 (.mv (.t 8))),(eT 77 (.ixs 1 (.t 75) (.t 76))),(eT 78 (.ld false 1 (.t 77))),(eT 79 (.fa 3 (.t 3))),(eT 80 (.ld false 1 (.t 79))),(eT 81 (.mv (.t 8))),(eT 82 (.ixs 1 (.t 80) (.t 81))),(eT 83 (.ld false 1 (.t 82))),(eF 84 (.cal 65 [(.t 68),(.t 73),(.t 78),(.t 83)])),(eF 85 (.not (.t 84)))])
 (.cond (.t 85)
 (.seq (.reg [0,87] [
 (aO 4 (.mv (kI 310)))])
 .ret)
 .skip))))
 (.reg [0,87,3,61,62,63] [
 (aO 86 (.ari .add true .i64 (.t 63) (kI 1))),(aO 63 (.mv (.t 86)))])))))))
 (.seq (.reg [0,87] [
 (aO 4 (.mv (kI 0)))])
 .ret))))))
def rv44:List RV:=[.tmp 4]
theorem ok44:fnOk Tryz.prog ac44 rv44 Tryz.f44=true:=by kernel_rfl

def ac55:AC:=
 (.seq (.reg [0,17,0] [
 (aO 1 (.box (.t 0))),(aO 2 (.alc [.nil,.nil,.nil,.nil]))])
 (.seq (.reg [0,17,1,2] [
 (aO 4 (.fa 4 (.t 1))),(aO 5 (.ld false 1 (.t 4))),(aO 6 (.len (.t 5))),(aO 3 (.mv (.t 6)))])
 (.seq (.drw [0,17,1,2,3] [
 (eU 7 (.ld true 5 (.t 1)) [] [11,13,15]),(eU 8 (.cal 32 [(.t 7)]) [] [11,13,15]),(eU 9 (.mks 1 3 8 [zI] (.t 8) (.t 8)) [9] [11,13,15]),(eU 10 (.mv (.t 3)) [] [9,13,15]),(eU 11 (.mks 1 3 8 [zI] (.t 10) (.t 10)) [11] [9,13,15]),(eU 12 (.mv (.t 3)) [] [9,11,15]),(eU 13 (.mks 1 3 8 [zI] (.t 12) (.t 12)) [13] [9,11,15]),(eU 14 (.mv (.t 3)) [] [9,11,13]),(eU 15 (.mks 1 3 8 [zI] (.t 14) (.t 14)) [15] [9,11,13]),(eF 16 (.bld [.nil,.nil,.nil,.nil] [(0,1,(.t 9)),(1,1,(.t 11)),(2,1,(.t 13)),(3,1,(.t 15))])),⟨(aN (.sto 4 (.t 2) (.t 16))),[],[],false⟩])
 .ret)))
def rv55:List RV:=[.cell 2 true 4]
theorem ok55:fnOk Tryz.prog ac55 rv55 Tryz.f55=true:=by kernel_rfl

def ac28:AC:=
 (.seq (.reg [0,42,0,1] [
 (aO 4 (.mv (.c (.nil))))])
 (.seq (.reg [0,42,0,1] [
 (aO 5 (.mv (.c (.nil))))])
 (.seq (.seq (.reg [0,42,0,1,5] [
 (aO 7 (.mv (.t 0))),(aO 8 (.len (.t 7))),(aO 9 (.mv (.t 1))),(aO 10 (.len (.t 9))),(aO 11 (.mn true (.t 8) (.t 10))),(aO 12 (.mv (kI 0)))])
 (.block 0
 (.loop [0,42,0,1,5,11,12]
 (.seq (.reg [0,42,0,1,5,11,12] [
 (aO 13 (.cmp .lss .i64 (.t 12) (.t 11)))])
 (.seq (.cond (.t 13)
 .skip
 (.exit 0))
 (.seq (.block 1
 (.seq (.reg [0,42,0,1,5,11,12] [
 (aO 14 (.mv (.t 12))),(aO 6 (.mv (.t 14)))])
 (.seq (.drw [0,42,0,1,5,6,11,12] [
 (eT 15 (.mv (.t 6))),(eT 16 (.mv (.t 0))),(eT 17 (.len (.t 16))),(eF 18 (.cmp .geq .i64 (.t 15) (.t 17))),(eF 19 (.mv (.t 18))),⟨⟨some 20,some (19,false),.mv (.t 6)⟩,[],[],true⟩,⟨⟨some 21,some (19,false),.mv (.t 1)⟩,[],[],true⟩,⟨⟨some 22,some (19,false),.len (.t 21)⟩,[],[],true⟩,⟨⟨some 23,some (19,false),.cmp .geq .i64 (.t 20) (.t 22)⟩,[],[],false⟩,(eF 24 (.pick (.t 19) (.c (.sc (.bool true))) (.t 23))),(eF 25 (.mv (.t 24))),⟨⟨some 26,some (25,false),.mv (.t 0)⟩,[],[],true⟩,⟨⟨some 27,some (25,false),.mv (.t 6)⟩,[],[],true⟩,⟨⟨some 28,some (25,false),.ixs 1 (.t 26) (.t 27)⟩,[],[],true⟩,⟨⟨some 29,some (25,false),.ld false 1 (.t 28)⟩,[],[],true⟩,⟨⟨some 30,some (25,false),.mv (.t 1)⟩,[],[],true⟩,⟨⟨some 31,some (25,false),.mv (.t 6)⟩,[],[],true⟩,⟨⟨some 32,some (25,false),.ixs 1 (.t 30) (.t 31)⟩,[],[],true⟩,⟨⟨some 33,some (25,false),.ld false 1 (.t 32)⟩,[],[],true⟩,⟨⟨some 34,some (25,false),.cmp .neq .i64 (.t 29) (.t 33)⟩,[],[],false⟩,(eF 35 (.pick (.t 25) (.c (.sc (.bool true))) (.t 34)))])
 (.cut [0,42,0,1,5,6,11,12,35] (.cond (.t 35)
 (.reg [0,42,0,1,5,6,11,12] [
 (aO 36 (.mv (.t 5))),(aO 37 (.mv (.t 6))),(aO 38 (.bsl 1 3 [zI] 1 [(0,(.t 37))])),(aO 39 (.app 1 3 8 (.t 36) (.t 38))),(aO 5 (.mv (.t 39)))])
 .skip)))))
 (.reg [0,42,0,1,5,11,12] [
 (aO 40 (.ari .add true .i64 (.t 12) (kI 1))),(aO 12 (.mv (.t 40)))])))))))
 (.seq (.reg [0,42,5] [
 (aO 41 (.mv (.t 5))),(aO 4 (.mv (.t 41)))])
 .ret))))
def rv28:List RV:=[.tmp 4]
theorem ok28:fnOk Tryz.prog ac28 rv28 Tryz.f28=true:=by kernel_rfl

def ac10:AC:=
 (.seq (.reg [0,33,0,1] [
 (aO 2 (.box (.t 0))),(aO 3 (.box (.t 1))),(aO 4 (.mv (.c (.nil)))),(aO 5 (.mv (.c (.nil))))])
 (.seq (.drw [0,33,2,3] [
 (eT 7 (.fa 1 (.t 2))),(eT 8 (.ld false 1 (.t 7))),(eT 9 (.fa 1 (.t 3))),(eT 10 (.ld false 1 (.t 9))),(eT 11 (.cal 28 [(.t 8),(.t 10)])),(eT 12 (.fa 2 (.t 2))),(eT 13 (.ld false 1 (.t 12))),(eT 14 (.fa 2 (.t 3))),(eT 15 (.ld false 1 (.t 14))),(eT 16 (.cal 28 [(.t 13),(.t 15)])),(eT 17 (.fa 3 (.t 2))),(eT 18 (.ld false 1 (.t 17))),(eT 19 (.fa 3 (.t 3))),(eT 20 (.ld false 1 (.t 19))),(eF 21 (.cal 28 [(.t 18),(.t 20)])),(eF 22 (.bsl 1 28 [.nil] 3 [(0,(.t 11)),(1,(.t 16)),(2,(.t 21))])),(eF 23 (.clm 27 [(.t 22)])),(eF 6 (.mv (.t 23)))])
 (.seq (.reg [0,33,2,3,6] [
 (aO 24 (.mv (.t 6))),(aO 25 (.clm 29 [(.t 24)]))])
 (.seq (.reg [0,33,2,3,6] [
 (aO 26 (.fa 0 (.t 2))),(aO 27 (.ld false 1 (.t 26))),(aO 28 (.fa 0 (.t 3))),(aO 29 (.ld false 1 (.t 28))),(aO 30 (.cal 28 [(.t 27),(.t 29)])),(aO 31 (.mv (.t 6))),(aO 32 (.clm 30 [(.t 31)])),(aO 4 (.mv (.t 30))),(aO 5 (.mv (.t 32)))])
 .ret))))
def rv10:List RV:=[.tmp 4,.tmp 5]
theorem ok10:fnOk Tryz.prog ac10 rv10 Tryz.f10=true:=by kernel_rfl

def ac27_500:AC:=
 (.seq (.reg [500,36,500] [
 (aO 502 (.mv (.c (.nil))))])
 (.seq (.reg [500,36,500] [
 (aO 503 (.mv (kI 0)))])
 (.seq (.seq (.reg [500,36,500,503] [
 (aO 509 (.mv (.t 500))),(aO 510 (.len (.t 509))),(aO 511 (.mv (kI 0)))])
 (.block 0
 (.loop [500,36,500,503,509,510,511]
 (.seq (.reg [500,36,500,503,509,510,511] [
 (aO 512 (.cmp .lss .i64 (.t 511) (.t 510)))])
 (.seq (.cond (.t 512)
 .skip
 (.exit 0))
 (.seq (.block 1
 (.seq (.reg [500,36,500,503,509,510,511] [
 (aO 513 (.ixs 1 (.t 509) (.t 511))),(aO 514 (.ld false 1 (.t 513))),(aO 505 (.mv (.t 514)))])
 (.seq (.reg [500,36,500,503,505,509,510,511] [
 (aO 515 (.mv (.t 503))),(aO 516 (.mv (.t 505))),(aO 517 (.len (.t 516))),(aO 518 (.ari .add true .i64 (.t 515) (.t 517))),(aO 503 (.mv (.t 518)))])
 (.seq (.reg [500,36,500,503,509,510,511] [
 (aO 519 (.mv (.t 503))),(aO 520 (.cmp .lss .i64 (.t 519) (kI 0)))])
 (.cond (.t 520)
 (.reg [500,36,500,503,509,510,511] [
 (aO 521 (.bad)),(aN (.bad))])
 .skip)))))
 (.reg [500,36,500,503,509,510,511] [
 (aO 522 (.ari .add true .i64 (.t 511) (kI 1))),(aO 511 (.mv (.t 522)))])))))))
 (.seq (.reg [500,36,500,503] [
 (aO 523 (.mv (.t 503))),(aO 524 (.clm 47 [(.c (.nil)),(.t 523)])),(aO 506 (.mv (.t 524)))])
 (.seq (.seq (.reg [500,36,500,506] [
 (aO 525 (.mv (.t 500))),(aO 526 (.len (.t 525))),(aO 527 (.mv (kI 0)))])
 (.block 2
 (.loop [500,36,506,525,526,527]
 (.seq (.reg [500,36,506,525,526,527] [
 (aO 528 (.cmp .lss .i64 (.t 527) (.t 526)))])
 (.seq (.cond (.t 528)
 .skip
 (.exit 2))
 (.seq (.block 3
 (.seq (.reg [500,36,506,525,526,527] [
 (aO 529 (.ixs 1 (.t 525) (.t 527))),(aO 530 (.ld false 1 (.t 529))),(aO 508 (.mv (.t 530)))])
 (.reg [500,36,506,508,525,526,527] [
 (aO 531 (.mv (.t 506))),(aO 532 (.mv (.t 508))),(aO 533 (.app 1 3 8 (.t 531) (.t 532))),(aO 506 (.mv (.t 533)))])))
 (.reg [500,36,506,525,526,527] [
 (aO 534 (.ari .add true .i64 (.t 527) (kI 1))),(aO 527 (.mv (.t 534)))])))))))
 (.seq (.reg [500,36,506] [
 (aO 535 (.mv (.t 506))),(aO 502 (.mv (.t 535)))])
 .ret))))))
def rv27_500:List RV:=[.tmp 502]
theorem ok27_500:qh6 Tryz.prog 500 ac27_500 rv27_500 Tryz.f27=true:=by kernel_rfl

def ac47_600:AC:=
 (.seq (.reg [600,27,600,601] [
 (aO 604 (.mv (.c (.nil))))])
 (.seq (.seq (.reg [600,27,600,601] [
 (aO 605 (.mv (.t 601))),(aO 606 (.cmp .lss .i64 (.t 605) (kI 0)))])
 (.cond (.t 606)
 (.reg [600,27,600,601] [
 (aO 607 (.bad)),(aN (.bad))])
 .skip))
 (.seq (.seq (.reg [600,27,600,601] [
 (aO 608 (.mv (.t 601))),(aO 609 (.mv (.t 600))),(aO 610 (.xo .cap0 [(.t 609)])),(aO 611 (.mv (.t 600))),(aO 612 (.len (.t 611))),(aO 613 (.ari .sub true .i64 (.t 610) (.t 612))),(aO 614 (.ari .sub true .i64 (.t 608) (.t 613))),(aO 601 (.mv (.t 614)))])
 (.seq (.reg [600,27,600,601] [
 (aO 615 (.mv (.t 601))),(aO 616 (.cmp .gtr .i64 (.t 615) (kI 0)))])
 (.cond (.t 616)
 (.reg [600,27,600,601] [
 (aO 617 (.mv (.t 600))),(aO 618 (.mv (.t 600))),(aO 619 (.xo .cap0 [(.t 618)])),(aO 620 (.slc 1 (.t 617) none (some (.t 619)))),(aO 621 (.mv (.t 601))),(aO 622 (.xo (.apm 1 3 8 [zI]) [(.t 620),(.t 621)])),(aO 623 (.mv (.t 600))),(aO 624 (.len (.t 623))),(aO 625 (.slc 1 (.t 622) none (some (.t 624)))),(aO 600 (.mv (.t 625)))])
 .skip)))
 (.seq (.reg [600,27,600] [
 (aO 626 (.mv (.t 600))),(aO 604 (.mv (.t 626)))])
 .ret))))
def rv47_600:List RV:=[.tmp 604]
theorem ok47_600:qh6 Tryz.prog 600 ac47_600 rv47_600 Tryz.f47=true:=by kernel_rfl

def ac35:AC:=
 (.seq (.reg [0,26,0,1] [
 (aO 4 (.mv (.c (.sc (.bool false)))))])
 (.seq (.seq (.reg [0,26,0,1] [
 (aO 6 (.mv (.t 0))),(aO 7 (.len (.t 6))),(aO 8 (.mv (.t 1))),(aO 9 (.len (.t 8))),(aO 10 (.cmp .neq .i64 (.t 7) (.t 9)))])
 (.cond (.t 10)
 (.seq (.reg [0,26] [
 (aO 4 (.mv (.c (.sc (.bool false)))))])
 .ret)
 .skip))
 (.seq (.seq (.reg [0,26,0,1] [
 (aO 5 (.mv (kI 0)))])
 (.block 0
 (.loop [0,26,0,1,5]
 (.seq (.seq (.reg [0,26,0,1,5] [
 (aO 11 (.mv (.t 5))),(aO 12 (.mv (.t 0))),(aO 13 (.len (.t 12))),(aO 14 (.cmp .lss .i64 (.t 11) (.t 13)))])
 (.cond (.t 14)
 .skip
 (.exit 0)))
 (.seq (.block 1
 (.seq (.drw [0,26,0,1,5] [
 (eT 17 (.mv (.t 0))),(eT 18 (.mv (.t 5))),(eT 19 (.ixs 1 (.t 17) (.t 18))),(eT 20 (.ld false 1 (.t 19))),(eT 21 (.mv (.t 1))),(eT 22 (.mv (.t 5))),(eT 23 (.ixs 1 (.t 21) (.t 22))),(eT 24 (.ld false 1 (.t 23))),(eF 25 (.cmp .neq .i64 (.t 20) (.t 24)))])
 (.cond (.t 25)
 (.seq (.reg [0,26] [
 (aO 4 (.mv (.c (.sc (.bool false)))))])
 .ret)
 .skip)))
 (.reg [0,26,0,1,5] [
 (aO 15 (.mv (.t 5))),(aO 16 (.ari .add true .i64 (.t 15) (kI 1))),(aO 5 (.mv (.t 16)))]))))))
 (.seq (.reg [0,26] [
 (aO 4 (.mv (.c (.sc (.bool true)))))])
 .ret))))
def rv35:List RV:=[.tmp 4]
theorem ok35:fnOk Tryz.prog ac35 rv35 Tryz.f35=true:=by kernel_rfl
end Go.Proofs.YtecoaapkcnhlhabGreatDoor.Txt
namespace Go.Vc
open Go Go.RowKit
def evL(st:St):List Opd->List PV
 |[]=>[]
 |x::r=>x.ev st::evL st r
theorem qrY(st:St)(l:List Opd):l.map (·.ev st)=evL st l:=by induction l<;>simp_all[evL]
@[push_cast] theorem qrZ(st:St):evL st []=[]:=rfl
@[push_cast] theorem qs0(st:St)(x:Opd)(r:List Opd):evL st (x::r)=x.ev st::evL st r:=rfl
def boxI:List PV->List Nat->Option (List Nat)
 |[],acc=>some acc
 | .ptr i 0::r,acc=>boxI r (acc++[i])
 |_::_,_=>none
theorem qs1: ∀(l:List PV) (acc:List Nat),boxI l acc=(qau l).map (acc++ ·)
 |[],acc=>by simp[boxI,qau]
 | c :: r, acc => by
   cases c with
   |ptr i off=>
     cases off with
     |zero=>
       simp only[boxI,qau,qs1 r]
       cases qau r<;>simp
     |succ n=>rfl
   |_=>rfl
@[push_cast] theorem qs2(acc:List Nat):boxI [] acc=some acc:=rfl
@[push_cast] theorem qs3(i:Nat)(r:List PV)(acc:List Nat):boxI (.ptr i 0::r) acc=boxI r (acc++[i]):=rfl
attribute [push_cast] List.nil_append List.cons_append
def mkfV(f:Nat):Option (List Nat)->Prop×PV
 |some []=>(True,.sc (.func (.func f) #[] #[]))
 |some ids=>(True,.clo f ids)
 |none=>(False,.bot)
@[push_cast] theorem qs4(f:Nat):mkfV f (some [])=(True,.sc (.func (.func f) #[] #[])):=rfl
@[push_cast] theorem qs5(f i:Nat)(r:List Nat):mkfV f (some (i::r))=(True,.clo f (i::r)):=rfl
def mlkT(ok:Bool)(zero:PV)(o:Option PV):PV:=bif ok then(match o with|some v=> .tup [v,.sc (.bool true)]|none=> .tup [zero,.sc (.bool false)])else o.getD zero
@[push_cast] theorem qs6(zero:PV):mlkT true zero none= .tup [zero,.sc (.bool false)]:=rfl
@[push_cast] theorem qs7(zero v:PV):mlkT true zero (some v)= .tup [v,.sc (.bool true)]:=rfl
@[push_cast] theorem qs8(zero:PV):mlkT false zero none=zero:=rfl
@[push_cast] theorem qs9(zero v:PV):mlkT false zero (some v)=v:=rfl
def mlkM(kd:KD)(ok:Bool)(zero:PV)(kv:Value):Option Mp->Prop×PV
 |some M=>(M.kd=kd/\kd.has kv=true,mlkT ok zero (mget M.es kv))
 |none=>(False,.bot)
def mlkO(kd:KD)(ok:Bool)(zero:PV)(M:Option Mp):Option Value->Prop×PV
 |some kv=>mlkM kd ok zero kv M
 |none=>(False,.bot)
def mlkV(st:St)(kd:KD)(ok:Bool)(zero:PV):PV->PV->Prop×PV
 | .mp id,k=>mlkO kd ok zero (lk st.m id) (keyV k)
 |_,_=>(False,.bot)
def keyA:Option (List Value)->Option Value
 |some l=>some (.agg l.toArray)
 |none=>none
def keyC(n:Int):Option (List Value)->Option (List Value)
 |some l=>some (.int .i64 n::l)
 |none=>none
@[push_cast] theorem qsa(kd:KD)(ok:Bool)(zero:PV)(M:Option Mp)(kv:Value):mlkO kd ok zero M (some kv)=mlkM kd ok zero kv M:=rfl
@[push_cast] theorem qsb(cs:List PV):keyV (.agg cs)=keyA (keyL cs):=by
 show(keyL cs).map _=_
 cases keyL cs<;>rfl
@[push_cast] theorem qsc(l:List Value):keyA (some l)=some (.agg l.toArray):=rfl
@[push_cast] theorem qsd:keyL []=some []:=rfl
@[push_cast] theorem qse(n:Int)(r:List PV):keyL (.sc (.int .i64 n)::r)=keyC n (keyL r):=by
 show(keyL r).map _=_
 cases keyL r<;>rfl
@[push_cast] theorem qsf(n:Int)(l:List Value):keyC n (some l)=some (.int .i64 n::l):=rfl
@[push_cast] theorem qsg(n:Nat)(l:List Value):KD.has (.st n) (.agg l.toArray)=i64s n l:=rfl
@[push_cast] theorem qsh:i64s 0 []=true:=rfl
@[push_cast] theorem qsi(n:Nat)(m:Int)(r:List Value):i64s (n+1) (.int .i64 m::r)=i64s n r:=rfl
@[push_cast] theorem qsj(m:Int):i64s 1 [.int .i64 m]=true:=rfl
@[push_cast] theorem qsk(m n:Int):i64s 2 [.int .i64 m,.int .i64 n]=true:=rfl
@[push_cast] theorem qsl(m n k:Int):i64s 3 [.int .i64 m,.int .i64 n,.int .i64 k]=true:=rfl
@[push_cast] theorem qsm(k:IntKind):(KD.sc (.int k)=true)=True:=by simp[KD.sc]
@[push_cast] theorem qsn:(KD.sc .str=true)=True:=by simp[KD.sc]
@[push_cast] theorem qso:(KD.sc .bol=true)=True:=by simp[KD.sc]
@[push_cast] theorem qsp(kd kd' :KD)(ok:Bool)(zero:PV)(kv:Value)(es:List (Value×PV))(it:Option ItX):mlkM kd ok zero kv (some ⟨kd',es,it⟩)=(kd' =kd/\kd.has kv=true,mlkT ok zero (mget es kv)):=rfl
@[push_cast] theorem qsq(s:List (Nat×PV))(b:List (Nat×List PV))(a:List (Nat×Arr))(m:List (Nat×Mp))(kd:KD)(ok:Bool)(zero:PV)(id:Nat)(kv:Value):mlkV ⟨s,b,a,m⟩ kd ok zero (.mp id) (.sc kv)=mlkM kd ok zero kv (lk m id):=rfl
@[push_cast] theorem qsr(s:List (Nat×PV))(b:List (Nat×List PV))(a:List (Nat×Arr))(m:List (Nat×Mp))(kd:KD)(ok:Bool)(zero:PV)(id:Nat)(cs:List PV):mlkV ⟨s,b,a,m⟩ kd ok zero (.mp id) (.agg cs)=mlkO kd ok zero (lk m id) (keyV (.agg cs)):=rfl
@[push_cast] theorem qss(k l:IntKind)(n:Int):KD.has (.int k) (.int l n)=(k==l):=rfl
@[push_cast] theorem qst(s:ByteArray):KD.has .str (.string s)=true:=rfl
@[push_cast] theorem qsu(b:Bool):KD.has .bol (.bool b)=true:=rfl
@[push_cast] theorem qsv(k:Value):mget [] k=none:=rfl
@[push_cast] theorem qsw(k:Value)(v:PV):mput [] k v=[(k,v)]:=rfl
def entO(kd:KD)(it:Nat):Option ItX->Prop×PV
 |some (.run it' _ (some (k,v)))=>(it' =it/\kd.sc=true,.tup [.sc k,v])
 |_=>(False,.bot)
def entM(it:Nat):Option Mp->Prop×PV
 |some M=>entO M.kd it M.it
 |none=>(False,.bot)
def entV(st:St):PV->Prop×PV
 | .itr id it=>entM it (lk st.m id)
 |_=>(False,.bot)
@[push_cast] theorem qsx(it it' :Nat)(kd:KD)(es l:List (Value×PV))(k:Value)(v:PV):entM it (some ⟨kd,es,some (.run it' l (some (k,v)))⟩)=(it' =it/\kd.sc=true,.tup [.sc k,v]):=rfl
@[push_cast] theorem qsy(s:List (Nat×PV))(b:List (Nat×List PV))(a:List (Nat×Arr))(m:List (Nat×Mp))(id it:Nat):entV ⟨s,b,a,m⟩ (.itr id it)=entM it (lk m id):=rfl
def mlnM:Option Mp->Prop×PV
 |some M=>(True,.int M.es.length)
 |none=>(False,.bot)
def mlnV(st:St):PV->Prop×PV
 | .mp id=>mlnM (lk st.m id)
 |_=>(False,.bot)
@[push_cast] theorem qsz(kd:KD)(es:List (Value×PV))(it:Option ItX):mlnM (some ⟨kd,es,it⟩)=(True,.int es.length):=rfl
@[push_cast] theorem qsA(s:List (Nat×PV))(b:List (Nat×List PV))(a:List (Nat×Arr))(m:List (Nat×Mp))(id:Nat):mlnV ⟨s,b,a,m⟩ (.mp id)=mlnM (lk m id):=rfl
def qsB:PV->Bool
 | .agg cs=>ql7 cs
 | .sc _| .nil| .sl .. | .iptr .. =>true
 |_=>false
@[push_cast] theorem qsD(cs:List PV):qsB (.agg cs)=ql7 cs:=rfl
@[push_cast] theorem qsE(v:Value):qsB (.sc v)=true:=rfl
@[push_cast] theorem qsF:qsB .nil=true:=rfl
@[push_cast] theorem qsG(p:Bool)(es:Nat)(xs:List (List PV)):qsB (.sl p es xs)=true:=rfl
def mupM(s:List (Nat×PV))(b:List (Nat×List PV))(a:List (Nat×Arr))(m:List (Nat×Mp))(id:Nat)(kd:KD)(kv:Value)(v:PV):Option Mp->Prop×St
 |some M=>((M.kd=kd/\kd.has kv=true)/\qsB v=true,⟨s,b,a,up m id ⟨kd,mput M.es kv v,none⟩⟩)
 |none=>(False,⟨s,b,a,m⟩)
def mupO(st:St)(kd:KD)(v:PV)(id:Nat):Option Value->Prop×St
 |some kv=>mupM st.s st.b st.a st.m id kd kv v (lk st.m id)
 |none=>(False,st)
def mupH(st:St)(kd:KD)(v:PV):PV->PV->Prop×St
 | .mp id,k=>mupO st kd v id (keyV k)
 |_,_=>(False,st)
@[push_cast] theorem qsH(s:List (Nat×PV))(b:List (Nat×List PV))(a:List (Nat×Arr))(m:List (Nat×Mp))(kd:KD)(v:PV)(id:Nat)(kv:Value):mupO ⟨s,b,a,m⟩ kd v id (some kv)=mupM s b a m id kd kv v (lk m id):=rfl
@[push_cast] theorem qsI(s:List (Nat×PV))(b:List (Nat×List PV))(a:List (Nat×Arr))(m:List (Nat×Mp))(kd:KD)(v:PV)(id:Nat)(cs:List PV):mupH ⟨s,b,a,m⟩ kd v (.mp id) (.agg cs)=mupO ⟨s,b,a,m⟩ kd v id (keyV (.agg cs)):=rfl
@[push_cast] theorem qsJ (s : List (Nat × PV)) (b : List (Nat × List PV)) (a : List (Nat × Arr)) (m : List (Nat × Mp)) (id : Nat) (kd kd' : KD) (kv : Value) (v : PV) (es : List (Value × PV)) (it : Option ItX) :
  mupM s b a m id kd kv v (some ⟨kd',es,it⟩)=((kd' =kd/\kd.has kv=true)/\qsB v=true,⟨s,b,a,up m id ⟨kd,mput es kv v,none⟩⟩):=rfl
@[push_cast] theorem qsK(s:List (Nat×PV))(b:List (Nat×List PV))(a:List (Nat×Arr))(m:List (Nat×Mp))(kd:KD)(v:PV)(id:Nat)(kv:Value):mupH ⟨s,b,a,m⟩ kd v (.mp id) (.sc kv)=mupM s b a m id kd kv v (lk m id):=rfl
def rngM(s:List (Nat×PV))(b:List (Nat×List PV))(a:List (Nat×Arr))(m:List (Nat×Mp))(i id:Nat):Option Mp->Prop×St
 |some M=>(True,⟨up s i (.itr id i),b,a,up m id { M with it:=some (.run i M.es none) }⟩)
 |none=>(False,⟨s,b,a,m⟩)
def rngH(st:St)(i:Nat):PV->Prop×St
 | .mp id=>rngM (qiE (isId i) nul st.s) (rm (qiF (isId i) nul st.b) i) st.a (qjj (isId i) st.m st.m) i id (lk (qjj (isId i) st.m st.m) id)
 |_=>(False,st)
@[push_cast] theorem qsL (s : List (Nat × PV)) (b : List (Nat × List PV)) (a : List (Nat × Arr)) (m : List (Nat × Mp)) (i id : Nat) (kd : KD) (es : List (Value × PV)) (it : Option ItX) :
  rngM s b a m i id (some ⟨kd,es,it⟩)=(True,⟨up s i (.itr id i),b,a,up m id ⟨kd,es,some (.run i es none)⟩⟩):=rfl
@[push_cast] theorem qsM(s:List (Nat×PV))(b:List (Nat×List PV))(a:List (Nat×Arr))(m:List (Nat×Mp))(i id:Nat):rngH ⟨s,b,a,m⟩ i (.mp id)=rngM (qiE (isId i) nul s) (rm (qiF (isId i) nul b) i) a (qjj (isId i) m m) i id (lk (qjj (isId i) m m) id):=rfl
def clmK(P:Env)(d:Option Nat)(f:Nat)(args:List PV)(r:List AO)(st:St)(K:St->Prop):Prop:=FnM P f args st fun rv st' =>opsK P r (st'.put d rv) K
@[congr] theorem qsN{P:Env}{d:Option Nat}{f:Nat}{args args' :List PV}{r:List AO}{st st' :St}{K:St->Prop}(h1:args=args')(h2:st=st'):clmK P d f args r st K=clmK P d f args' r st' K:=by rw[h1,h2]
theorem qsO{P:Env}{d:Option Nat}{f:Nat}{args:List PV}{r:List AO}{st:St}{K:St->Prop}{Q:PV->St->Prop}(h:FnM P f args st Q)(hk: ∀rv st',Q rv st' ->opsK P r (st'.put d rv) K):clmK P d f args r st K:=FnM.mono h hk
theorem qsP{P:Env}{d:Option Nat}{f:Nat}{args:List PV}{r:List AO}{st:St}{K:St->Prop}{v:PV}{st1:St}(h:FnM P f args st (fun rv st' =>rv=v/\st' =st1))(hk:opsK P r (st1.put d v) K):clmK P d f args r st K:=
 FnM.mono h fun _ _ ⟨e1,e2⟩=>by subst e1;subst e2;exact hk
def pclK(P:Env)(d:Option Nat)(f:Nat)(args:List PV)(r:List AO)(st:St)(K:St->Prop):Prop:=qcG P.p f=true/\ ∃post,FnOK P.p f args post/\ ∀v,post v->opsK P r (st.put d v) K
@[congr] theorem qsQ{P:Env}{d:Option Nat}{f:Nat}{args args' :List PV}{r:List AO}{st st' :St}{K:St->Prop}(h1:args=args')(h2:st=st'):pclK P d f args r st K=pclK P d f args' r st' K:=by rw[h1,h2]
theorem qsR{P:Env}{d:Option Nat}{f:Nat}{args:List PV}{r:List AO}{st:St}{K:St->Prop}{v:PV}(hf:qcG P.p f=true)(hc:FnEq P.p f args v)(h:opsK P r (st.put d v) K):pclK P d f args r st K:=
 ⟨hf,_,hc,fun u hu=>by subst hu;exact h⟩
theorem qsS{P:Env}{d:Option Nat}{f:Nat}{args args' :List PV}{r:List AO}{st:St}{K:St->Prop}{v:PV}(hf:qcG P.p f=true)(hc:FnEq P.p f args' v)(hs:SubL args args')(h:opsK P r (st.put d v) K):pclK P d f args r st K:=qsR hf (FnOK.sub hc hs) h
def ylK(P:Env)(d:Option Nat)(id:Nat)(args:List PV)(r:List AO)(st:St)(K:St->Prop):Prop:= ∃K',P.Y id args st K' /\ ∀st',K' st' ->opsK P r (st'.put d (.sc (.bool true))) K
@[congr] theorem qsT{P:Env}{d:Option Nat}{id:Nat}{args args' :List PV}{r:List AO}{st st' :St}{K:St->Prop}(h1:args=args')(h2:st=st'):ylK P d id args r st K=ylK P d id args' r st' K:=by rw[h1,h2]
def clvS(P:Env)(d:Option Nat)(v:PV)(args:List PV)(r:List AO)(st:St)(K:St->Prop):Prop:=clvK P st d v args fun st' =>opsK P r st' K
@[congr] theorem qsU{P:Env}{d:Option Nat}{v v' :PV}{args args' :List PV}{r:List AO}{st st' :St}{K:St->Prop}(h0:v=v')(h1:args=args')(h2:st=st'):clvS P d v args r st K=clvS P d v' args' r st' K:=by rw[h0,h1,h2]
def nxtS(P:Env)(d:Option Nat)(r:List AO)(K:St->Prop)(st:St)(v:PV):Prop:=nxtK st d v fun st' =>opsK P r st' K
@[congr] theorem qsV{P:Env}{d:Option Nat}{r:List AO}{st st' :St}{K:St->Prop}{v v' :PV}(h1:st=st')(h2:v=v'):nxtS P d r K st v=nxtS P d r K st' v' :=by rw[h1,h2]
def rsAL(st:St):List PV->List PV
 |[]=>[]
 |c::r=>c.rsA st::rsAL st r
theorem qsW(st:St)(l:List PV):l.map (PV.rsA st)=rsAL st l:=by induction l<;>simp_all[rsAL]
@[push_cast] theorem qsX(st:St):rsAL st []=[]:=rfl
@[push_cast] theorem qsY(st:St)(c:PV)(r:List PV):rsAL st (c::r)=c.rsA st::rsAL st r:=rfl
@[push_cast] theorem qsZ(st:St)(f:Nat)(caps:List PV):(PV.pcl f caps).rsA st= .pcl f caps:=rfl
def rsBL(st:St):List Nat->List PV
 |[]=>[]
 |i::r=>rsB st 0 (lk st.b i)::rsBL st r
@[push_cast] theorem qt0(st:St):rsBL st []=[]:=rfl
@[push_cast] theorem qt1(s:List (Nat×PV))(b:List (Nat×List PV))(a:List (Nat×Arr))(m:List (Nat×Mp))(i:Nat)(r:List Nat):rsBL ⟨s,b,a,m⟩ (i::r)=rsB ⟨s,b,a,m⟩ 0 (lk b i)::rsBL ⟨s,b,a,m⟩ r:=rfl
@[push_cast] theorem qt2(st:St)(f:Nat)(ids:List Nat):(PV.clo f ids).rsA st= .pcl f (rsBL st ids):=by
 show PV.pcl f (ids.map (qcu st))=_
 congr 1
 induction ids with
 |nil=>rfl
 |cons i r ih=>
   simp only[zW,ih,rsBL,qcu,qo9]
   cases lk st.b i<;>rfl
section
variable (P:Env) (i:Nat) (d:Option Nat) (r:List AO) (st:St) (K:St->Prop)
@[push_cast] theorem qt3(f:Nat)(caps:List Opd):opsK P (⟨d,none,.mkf f caps⟩::r) st K=qS P d (mkfV f (boxI (evL st caps) [])) r st K:=by
 have:aev st (.mkf f caps)=mkfV f (boxI (evL st caps) []):=by
  simp only[aev,qs1,qrY]
  cases qau (evL st caps)with
  |none=>rfl
  |some l=>cases l<;>rfl
 simp only[opsK,grdK,opK,qcH,Bool.false_eq_true,if_false,qS,this]
@[push_cast] theorem qtb(f:Nat)(args:List Opd):opsK P (⟨d,none,.clm f args⟩::r) st K=clmK P d f (evL st args) r st K:=by
 rw[<- qrY];rfl
@[push_cast] theorem qtc(x:Opd)(args:List Opd):opsK P (⟨d,none,.clv x args⟩::r) st K=clvS P d (x.ev st) (evL st args) r st K:=by
 rw[<- qrY];rfl
end
section
variable (K:Bool->Prop)
@[push_cast] theorem qte:niqK .nil K=K true:=rfl
@[push_cast] theorem qtf(id lo n:Nat):niqK (.view id lo n) K=K false:=rfl
@[push_cast] theorem qtg(p:Bool)(es:Nat)(x:List PV)(xs:List (List PV)):niqK (.sl p es (x::xs)) K=K false:=rfl
end
section
variable (s:List (Nat×PV)) (b:List (Nat×List PV)) (a:List (Nat×Arr)) (m:List (Nat×Mp)) (d:Option Nat) (K:St->Prop)
def nxtM(P:Env)(s:List (Nat×PV))(b:List (Nat×List PV))(a:List (Nat×Arr))(m:List (Nat×Mp))(d:Option Nat)(r:List AO)(id it:Nat)(K:St->Prop):Option Mp->Prop
 | some ⟨kd, es, some (.run it' left _)⟩ => (it' = it /\ kd.sc = true) /\ (left = [] -> opsK P r ((⟨s, b, a, m⟩ : St).put d (.tup [.sc (.bool false)])) K) /\
   ∀(i:Nat) (z:Value×PV),left[i]? =some z->opsK P r ((⟨s,b,a,up m id ⟨kd,es,some (.run it' (left.eraseIdx i) (some z))⟩⟩:St).put d (.tup [.sc (.bool true),.sc z.1,z.2])) K
 |_=>False
@[push_cast] theorem qti(P:Env)(r:List AO)(id it:Nat):nxtS P d r K ⟨s,b,a,m⟩ (.itr id it)=nxtM P s b a m d r id it K (lk m id):=by
 simp only[nxtS,nxtK]
 cases lk m id with
 |none=>rfl
 |some M=>obtain⟨kd,es,i⟩:=M;rcases i with _|⟨i,l,c⟩<;>rfl
end
def ptrs:List Nat->List PV
 |[]=>[]
 |i::r=> .ptr i 0::ptrs r
theorem qtk(l:List Nat):(l.map fun i=>PV.ptr i 0)=ptrs l:=by induction l<;>simp_all[ptrs]
@[push_cast] theorem qtl:ptrs []=[]:=rfl
@[push_cast] theorem qtm(i:Nat)(r:List Nat):ptrs (i::r)= .ptr i 0::ptrs r:=rfl
section
variable (P:Env) (st:St) (d:Option Nat) (args:List PV) (r:List AO) (K:St->Prop)
@[push_cast] theorem qtn(f:Nat)(ids:List Nat):clvS P d (.clo f ids) args r st K=clmK P d f (args++ptrs ids) r st K:=by rw[<- qtk];rfl
@[push_cast] theorem qto(f:Nat)(u v:Array Value):clvS P d (.sc (.func (.func f) u v)) args r st K=clmK P d f args r st K:=rfl
@[push_cast] theorem qtp(f id:Nat):clvS P d (.bm f id) args r st K=clmK P d f (.ptr id 0::args) r st K:=rfl
@[push_cast] theorem qtq(id:Nat):clvS P d (.yl id) args r st K=ylK P d id args r st K:=rfl
@[push_cast] theorem qtr(f:Nat)(caps:List PV):clvS P d (.pcl f caps) args r st K=pclK P d f (rsAL st args++caps) r st K:=by rw[<- qsW];rfl
end
section
variable (P:Env) (Q:Exit->St->Prop) (st:St)
@[push_cast] theorem qts(c:AC):awp P (.scope c) Q st=awp P c Q st:=rfl
@[push_cast] theorem qtt:awp P .label Q st=Q .normal st:=rfl
end
@[push_cast] theorem qtu(f:Nat)(ids:List Nat):cellsOf (.clo f ids)=[.clo f ids]:=rfl
@[push_cast] theorem qtv(f:Nat)(ids:List Nat):qas (.clo f ids)=true:=rfl
@[push_cast] theorem qtw(f:Nat)(ids:List Nat):qgW (.clo f ids)=true:=rfl
@[push_cast] theorem qtx(i:Nat):cellsOf (.mp i)=[.mp i]:=rfl
@[push_cast] theorem qty(i e n:Nat):cellsOf (.bv i e n)=[.bv i e n]:=rfl
@[push_cast] theorem qtz(i e n:Nat):qas (.bv i e n)=true:=rfl
@[push_cast] theorem qtA(i e n:Nat):qgW (.bv i e n)=true:=rfl
@[push_cast] theorem qtB(i:Nat):qas (.mp i)=true:=rfl
@[push_cast] theorem qtC(i:Nat):qgW (.mp i)=true:=rfl
@[push_cast] theorem qtD(i:Nat):cellsOf (.yl i)=[.yl i]:=rfl
@[push_cast] theorem qtE(i:Nat):qgW (.yl i)=true:=rfl
@[push_cast] theorem qtF(i j:Nat):cellsOf (.itr i j)=[.itr i j]:=rfl
@[push_cast] theorem qtG(i j:Nat):qgW (.itr i j)=true:=rfl
@[push_cast] theorem qtH(f:Nat)(cs:List PV):cellsOf (.pcl f cs)=[.pcl f cs]:=rfl
@[push_cast] theorem qtI(f:Nat)(cs:List PV):qgW (.pcl f cs)=true:=rfl
def lowL(k:Nat):List (Nat×PV)->List (Nat×PV)
 |[]=>[]
 |(i,v)::r=>if i<k then(i,v)::lowL k r else lowL k r
theorem qtJ(k:Nat)(s:List (Nat×PV)):s.filter (fun x=>decide (x.1<k))=lowL k s:=by
 induction s with
 |nil=>rfl
 |cons x r ih=>
   obtain⟨i,v⟩:=x
   simp only[List.filter_cons,lowL,ih,decide_eq_true_eq]
@[push_cast] theorem qtK(k:Nat):lowL k []=[]:=rfl
@[push_cast] theorem qtL(k i:Nat)(v:PV)(r:List (Nat×PV)):lowL k ((i,v)::r)=if i<k then(i,v)::lowL k r else lowL k r:=rfl
@[push_cast] theorem qtM(s:List (Nat×PV))(b:List (Nat×List PV))(a:List (Nat×Arr))(m:List (Nat×Mp))(k:Nat):St.low ⟨s,b,a,m⟩ k=⟨lowL k s,b,a,m⟩:=by simp only[St.low,qtJ]
@[push_cast] theorem qtN(K:Nat)(s:List (Nat×PV)):argS K [] s=s:=rfl
@[push_cast] theorem qtO(K:Nat)(c:PV)(r:List PV)(s:List (Nat×PV)):argS K (c::r) s=argS (K+1) r (up s K c):=rfl
@[push_cast] theorem qtP(s:List (Nat×PV))(b:List (Nat×List PV))(a:List (Nat×Arr))(m:List (Nat×Mp))(i:Nat):St.noId ⟨s,b,a,m⟩ i=⟨qiE (isId i) nul s,rm (qiF (isId i) nul b) i,a,qjj (isId i) m m⟩:=by
 simp only[St.noId,St.kill,qjd,qje]
 rw[show(fun x:Nat×Mp=> !(fun j=>j==i) x.1&& !mpTo m (fun j=>j==i) x.1)=fun x=> !isId i x.1&& !mpTo m (isId i) x.1 from rfl,qjm];rfl
@[push_cast] theorem qtQ(vs:List PV)(s:List (Nat×PV)):qcQ [] vs s=s:=by cases vs<;>rfl
@[push_cast] theorem qtR(p:Nat)(ps:List Nat)(v:PV)(vs:List PV)(s:List (Nat×PV)):qcQ (p::ps) (v::vs) s=qcQ ps vs (up s p v):=rfl
def midL(k n:Nat):List (Nat×PV)->List (Nat×PV)
 |[]=>[]
 |(i,v)::r=>if k<=i/\i<k+n then(i,v)::midL k n r else midL k n r
theorem qtS(k n:Nat)(s:List (Nat×PV)):s.filter (fun x=>decide (k<=x.1/\x.1<k+n))=midL k n s:=by
 induction s with
 |nil=>rfl
 |cons x r ih=>
   obtain⟨i,v⟩:=x
   simp only[List.filter_cons,midL,ih,decide_eq_true_eq]
@[push_cast] theorem qtT(k n:Nat):midL k n []=[]:=rfl
@[push_cast] theorem qtU(k n i:Nat)(v:PV)(r:List (Nat×PV)):midL k n ((i,v)::r)=if k<=i/\i<k+n then(i,v)::midL k n r else midL k n r:=rfl
@[push_cast] theorem qtV(K K2:Nat)(src s:List (Nat×PV)):qcP K K2 src [] s=s:=rfl
@[push_cast] theorem qtW(K K2 i:Nat)(v:PV)(src r s:List (Nat×PV)):qcP K K2 src ((i,v)::r) s=qcP K K2 src r (up s (K2+(i-K)) (getL src i)):=by
 rw[qcP,qhb]
def qtX(k:Nat):List (Nat×PV)->Bool
 |[]=>true
 |(i,_)::r=>if i<k then qtX k r else false
theorem qtY(k:Nat)(s:List (Nat×PV)):s.all (fun x=>decide (x.1<k))=qtX k s:=by
 induction s with
 |nil=>rfl
 |cons x r ih=>
   obtain⟨i,v⟩:=x
   simp only[List.all_cons,qtX,ih]
   by_cases h:i<k<;>simp[h]
@[push_cast] theorem qtZ(k:Nat):qtX k []=true:=rfl
@[push_cast] theorem qu0(k i:Nat)(v:PV)(r:List (Nat×PV)):qtX k ((i,v)::r)=if i<k then qtX k r else false:=rfl
@[push_cast] theorem qu2(st:St)(x:RV):resM st [x]=x.val st:=rfl
@[push_cast] theorem qu3(st:St):resM st []=(True,.tup []):=by simp[resM]
@[push_cast] theorem qu4(st:St)(x y:RV):resM st [x,y]=((x.val st).1/\(y.val st).1,.tup [(x.val st).2,(y.val st).2]):=by simp[resM]
@[push_cast] theorem qu5(st:St)(x y z:RV):resM st [x,y,z]=((x.val st).1/\(y.val st).1/\(z.val st).1,.tup [(x.val st).2,(y.val st).2,(z.val st).2]):=by simp[resM]
@[push_cast] theorem qu6(st:St)(t:Nat):RV.val st (.tmp t)=(True,st.get t):=rfl
@[push_cast] theorem qu8(K:Nat)(rvs:List RV)(Q:PV->St->Prop)(st:St):retM K rvs Q .ret st=((resM st rvs).1/\qgW (resM st rvs).2=true/\Q (resM st rvs).2 (st.low K)):=by simp[retM,qgU]
@[push_cast] theorem qu9(K:Nat)(rvs:List RV)(Q:PV->St->Prop)(st:St):retM K rvs Q .normal st=((resM st rvs).1/\qgW (resM st rvs).2=true/\Q (resM st rvs).2 (st.low K)):=by simp[retM,qgU]
def qua(P:Env)(ass body:AC)(st:St)(K:St->Prop):Prop:=awp P ass (Exit.thn (awp P body fun e st'' =>e= .normal/\K st'') fun _ _=>False) st
def rngC(P:Env)(ρ:RF)(ps:List Nat)(ass body:AC)(Q:Exit->St->Prop)(st:St)(v:PV):Prop:=
 match qcR v with
 | .clo f ids=>(P.noY/\ids.contains ρ.id=false)/\FnM ⟨P.p,ρ.K+ρ.n,rngY ρ ps (qua P ass body),fun _ _=>False⟩ f (.yl ρ.id::ids.map fun i=> .ptr i 0) (st.noId ρ.id) fun _ st' =>Q .normal ((st'.low (ρ.K+ρ.n)).noId ρ.id)
 |_=>False
@[congr] theorem qub{P:Env}{ρ:RF}{ps:List Nat}{ass body:AC}{Q:Exit->St->Prop}{st st' :St}{v v' :PV}(h1:st=st')(h2:v=v'):rngC P ρ ps ass body Q st v=rngC P ρ ps ass body Q st' v' :=by rw[h1,h2]
@[push_cast] theorem quc (P : Env) (Q : Exit -> St -> Prop) (st : St) (f : Opd) (K n K2 : Nat) (ks : List Nat) (id : Nat) (ps : List Nat) (ass body : AC) :
  awp P (.rngf ⟨f,K,n,K2,ks,id⟩ ps ass body) Q st=(qtX (K+n) st.s=true/\rngC P ⟨f,K,n,K2,ks,id⟩ ps ass body Q (st.keepS ks) (f.ev (st.keepS ks))):=by
 simp only[awp,qtY];rfl
theorem qud {P : Env} {ρ : RF} {ps : List Nat} {ass body : AC} {Q : Exit -> St -> Prop} {st st1 : St} {f : Nat} {ids : List Nat} (hn : P.noY) (hi : ids.contains ρ.id = false) (hst : st.noId ρ.id = st1) {R : PV -> St -> Prop}
  (h:FnM ⟨P.p,ρ.K+ρ.n,rngY ρ ps (qua P ass body),fun _ _=>False⟩ f (.yl ρ.id::ptrs ids) st1 R) (hk: ∀rv st',R rv st' ->Q .normal ((st'.low (ρ.K+ρ.n)).noId ρ.id)):rngC P ρ ps ass body Q st (.clo f ids):=by
 subst hst
 refine⟨⟨hn,hi⟩,?_⟩
 rw[qtk]
 exact FnM.mono h hk
theorem que {P : Env} {ρ : RF} {ps : List Nat} {ass body : AC} {Q : Exit -> St -> Prop} {st st1 : St} {f : Nat} (hn : P.noY) (hst : st.noId ρ.id = st1) {R : PV -> St -> Prop}
  (h:FnM ⟨P.p,ρ.K+ρ.n,rngY ρ ps (qua P ass body),fun _ _=>False⟩ f [.yl ρ.id] st1 R) (hk: ∀rv st',R rv st' ->Q .normal ((st'.low (ρ.K+ρ.n)).noId ρ.id)):rngC P ρ ps ass body Q st (.sc (.func (.func f) #[] #[])):=by
 subst hst
 exact⟨⟨hn,rfl⟩,FnM.mono h hk⟩
theorem Env.of_noY(P:Program):(Env.of P).noY:=⟨fun _ _ _ _ h=>h,fun _ _ h=>h⟩
theorem quf {E : Env} {f : Nat} {fn : Func} {ac : AC} {rvs : List RV} {args : List PV} {Q : PV -> St -> Prop} {s : List (Nat × PV)} {b : List (Nat × List PV)} {a : List (Nat × Arr)} {m : List (Nat × Mp)} (K : Nat) (hf : E.p.funcs[f]? = some fn) (hok : qh6 E.p K ac rvs fn = true) (hn : args.length <= fn.ntmps)
  (hlow:qtX K s=true) (hkk:E.kk<=K) (h:awp E ac (retM K rvs Q) ⟨argS K args s,b,a,m⟩) (hpn: ∀ch st,¬E.pan ch st:=by exact fun _ _ h=>h):FnM E f args ⟨s,b,a,m⟩ Q:=
 FnM.of_awp K hf hok hn (by rw[qtY];exact hlow) hkk h hpn
def qug{α:Type}(ks:List Nat):List (Nat×α)->List (Nat×α)
 |[]=>[]
 |(i,v)::r=>if inL ks i=true then(i,v)::qug ks r else qug ks r
@[push_cast] theorem quh{α:Type}(ks:List Nat):qug ks ([]:List (Nat×α))=[]:=rfl
@[push_cast] theorem qui{α:Type}(ks:List Nat)(i:Nat)(v:α)(r:List (Nat×α)):qug ks ((i,v)::r)=if inL ks i=true then(i,v)::qug ks r else qug ks r:=rfl
theorem quj{α:Type}(ks:List Nat)(l:List (Nat×α)):qug ks l=l.filter fun x=>inL ks x.1:=by
 induction l with
 |nil=>rfl
 |cons x r ih=>
   obtain⟨i,v⟩:=x
   simp only[qug,List.filter_cons,ih]
theorem quk{α:Type}{ks:List Nat}{l:List (Nat×α)}{i:Nat}{v:α}(h:lk (qug ks l) i=some v):lk l i=some v:=by
 rw[quj]at h
 exact qa8 l (fun x=>inL ks x.1) (fun _ _=>rfl) i v h
def St.only(st:St)(ks bs ar ms:List Nat):St:=⟨qug ks st.s,qug bs st.b,qug ar st.a,qug ms st.m⟩
@[push_cast] theorem qul(s:List (Nat×PV))(b:List (Nat×List PV))(a:List (Nat×Arr))(m:List (Nat×Mp))(ks bs ar ms:List Nat):St.only ⟨s,b,a,m⟩ ks bs ar ms=⟨qug ks s,qug bs b,qug ar a,qug ms m⟩:=rfl
theorem FnM.only{E:Env}{f:Nat}{args:List PV}{st:St}{Q:PV->St->Prop}(ks bs ar ms:List Nat)(h:FnM E f args (st.only ks bs ar ms) Q):FnM E f args st Q:=
 ⟨h.1,fun w0 Z0 X G Z L w vs h1 h2 h3=>h.2 w0 Z0 X G Z L w vs h1 (h2.forget (fun _ _ h=> .inl (quk h)) (fun _ _ h=>quk h) (fun _ _ h=>quk h) (fun _ _ h=>quk h)) h3⟩
def St.onlyB(st:St)(bs:List Nat):St:=⟨st.s,qug bs st.b,st.a,st.m⟩
@[push_cast] theorem qum(s:List (Nat×PV))(b:List (Nat×List PV))(a:List (Nat×Arr))(m:List (Nat×Mp))(bs:List Nat):St.onlyB ⟨s,b,a,m⟩ bs=⟨s,qug bs b,a,m⟩:=rfl
theorem FnM.postB{E:Env}{f:Nat}{args:List PV}{st:St}{Q:PV->St->Prop}(bs:PV->List Nat)(h:FnM E f args st fun rv st' =>Q rv st'):FnM E f args st fun rv st' => ∃st1,Q rv st1/\st' =st1.onlyB (bs rv):=
 ⟨h.1,fun w0 Z0 X G Z L w vs h1 h2 h3=>(h.2 w0 Z0 X G Z L w vs h1 h2 h3).mono fun _ _ ⟨v,r,st',Z',L',e1,e2,e3,e4⟩=>
  ⟨v,r,st'.onlyB (bs r),Z',L',e1,⟨st',e2,rfl⟩,e3.forget (fun _ _ h=> .inl h) (fun _ _ h=>quk h) (fun _ _ h=>h) (fun _ _ h=>h),e4⟩⟩
end Go.Vc
namespace Go.Vc
theorem cNI{n:Nat} :(Nat.cast (no_index (OfNat.ofNat n)):Int)=OfNat.ofNat n:=rfl
end Go.Vc
attribute [push_cast] ite_true ite_false Bool.false_eq_true Bool.or_false Bool.false_or Bool.or_true Bool.true_or Bool.and_true Bool.true_and Bool.and_false Bool.false_and cond_true cond_false Nat.zero_add Nat.add_zero Nat.zero_mul Nat.mul_zero Nat.succ_ne_self beq_self_eq_true true_and and_true Int.toNat_natCast Int.cast_ofNat_Int decide_true decide_false Nat.zero_le
namespace Go.Vc
theorem sB{p q:Prop}(h:q)(e:p=q:=by(simp only[push_cast,reduceIte,zA,zB,zC,zD,zE,zF,zG,reduceCtorEq,zH,zJ,cNI];exact rfl)):p:=e.mpr h
theorem sC{p:Prop}(h:p:=by simp only[push_cast,reduceIte,zA,zB,zC,zD,zE,zF,zG,reduceCtorEq,zH,zJ,cNI]):p:=h
end Go.Vc
namespace Go.Vc
open Go Go.RowKit
def stkC(ls:List (Nat×List (List PV))):PV:= .tup (ls.map fun x=> .sl false x.1 x.2)
@[push_cast] theorem qun(pb pa:Nat->Bool)(ls:List (Nat×List (List PV))):PV.toV pb pa (stkC ls)=false:=by
 show(ls.map fun x=>PV.sl false x.1 x.2).any (PV.toA pb pa)=false
 rw[yD]
 intro x hx
 obtain⟨y,_,rfl⟩:=List.mem_map.1 hx
 simp[PV.toA,PV.to]
theorem Inv.slotG{w0:World}{Z0:Zone}{X:Gh}{G:Nat->Value}{Z:Zone}{L:Lay}{st:St}{w:World}(h:Mem w0 Z0 X G Z L st w){i:Nat}{v:PV}(hl:lk st.s i=some v):VR w Z L v (G i):=by
 have:=h.slots i v hl
 rwa [show Fr.val ⟨0,0,G,X,none⟩ ⟨#[],[]⟩ i=G i from by unfold Fr.val;rw[if_neg (by simp only;omega)]]at this
theorem Inv.setG {w0 : World} {Z0 : Zone} {X : Gh} {G G' : Nat -> Value} {Z : Zone} {L : Lay} {s s' : List (Nat × PV)} {b : List (Nat × List PV)} {a : List (Nat × Arr)} {m : List (Nat × Mp)} {w : World}
  (h:Mem w0 Z0 X G Z L ⟨s,b,a,m⟩ w) (hs: ∀i v,lk s' i=some v->VR w Z L v (G' i)):Mem w0 Z0 X G' Z L ⟨s',b,a,m⟩ w:=by
 refine⟨h.zt,h.z0,h.zn,h.zb,h.below,h.ownb,h.owna,h.injb,h.inja,h.injx,h.boxes,h.arrs,h.ownm,h.injm,h.maps,h.oth,h.yb,h.size,h.defers,fun i v hl=> ?_⟩
 rw[show Fr.val ⟨0,0,G',X,none⟩ ⟨#[],[]⟩ i=G' i from by unfold Fr.val;rw[if_neg (by simp only;omega)]]
 exact hs i v hl
def qup(L:Lay):PV->Value
 | .ptr id _=> .pointer (some ⟨L.bx id,0,none⟩)
 |_=>undef
end Go.Vc
