/- Txt VcZm VcZn: lemmas -/
import Derived.Test.YtledbjkolidhkaaPart06
import Derived.Test.YtledbjkolidhkaaChecked
import Derived.Test.YtledbjkolidhkaaPart07
set_option linter.unusedSimpArgs false
set_option linter.unusedVariables false
open Nat (reduceEqDiff reduceAdd reduceSub reduceMul reduceLT reduceLeDiff)
open Int (reduceToNat reduceNeg)
namespace Go.Proofs.Ytledbjkolidhkaa.Txt
open Go Go.Vc
set_option maxRecDepth 100000
def ac42_r15 : AC :=
 (.seq (.reg [0,58,1,7] [
 (aO 55 (.ld false 1 (.t 7))),(aO 56 (.mv (.t 1))),(aO 57 (.clm 67 [(.t 55),(.t 56)])),(aO 4 (.mv (.t 57)))])
 .ret)
def ac42 : AC :=
 (.seq (.reg [0,58,0,1] [
 (aO 2 (.box (.t 0))),(aO 4 (.mv (.c (.nil))))])
 (.seq (.reg [0,58,1,2] [
 (aO 9 (.ld true 5 (.t 2))),(aO 10 (.mv (.t 1))),(aO 11 (.cal 61 [(.t 9),(.t 10)])),(aO 8 (.mv (.t 11))),(aO 12 (.ext (.t 8) 0)),(aO 13 (.ext (.t 8) 1)),(aO 5 (.alc [zI,zI,zI,zI])),(aN (.sto 4 (.t 5) (.t 12))),(aO 6 (.mv (.t 13)))])
 (.seq (.seq (.reg [0,58,1,2,5,6] [
 (aO 14 (.mv (.t 6))),(aO 15 (.cmp .neq .i64 (.t 14) (kI 0)))])
 (.cond (.t 15)
 (.seq (.reg [0,58] [
 (aO 4 (.mv (.c (.nil))))])
 .ret)
 .skip))
 (.seq (.reg [0,58,1,2,5] [
 (aO 16 (.ld true 5 (.t 2))),(aO 17 (.bld [zI,zI,zI,zI,.nil,.nil] [(0,5,(.t 16))])),(aO 18 (.box (.t 17))),(aO 7 (.alc [.sc (.pointer none)])),(aN (.sto 1 (.t 7) (.t 18)))])
 (.seq (.seq (.reg [0,58,1,2,5,7] [
 (aO 19 (.fa 0 (.t 5))),(aO 20 (.ld false 1 (.t 19)))])
 (.block 0
 (.seq (.reg [0,58,1,2,5,7,20] [
 (aO 22 (.cmp .eql .i64 (.t 20) (kI 3))),(aO 21 (.mv (.t 22)))])
 (.cond (.t 21)
 (.seq (.reg [0,58,1,5,7] [
 (aO 23 (.ld false 1 (.t 7))),(aO 24 (.fa 1 (.t 5))),(aO 25 (.ld false 1 (.t 24))),(aO 26 (.fa 2 (.t 5))),(aO 27 (.ld false 1 (.t 26))),(aO 28 (.clm 62 [(.t 23),(.t 25),(.t 27)]))])
 (.seq (.reg [0,58,1,5,7] [
 (aO 29 (.fa 3 (.t 5))),(aO 30 (.ld false 1 (.t 29))),(aO 31 (.cmp .eql .i64 (.t 30) (kI 3)))])
 (.cond (.t 31)
 (.reg [0,58,1,5,7] [
 (aO 32 (.ld false 1 (.t 7))),(aO 33 (.fa 1 (.t 5))),(aO 34 (.ld false 1 (.t 33))),(aO 35 (.fa 2 (.t 5))),(aO 36 (.ld false 1 (.t 35))),(aO 37 (.ari .sub true .i64 (.t 36) (kI 1))),(aO 38 (.clm 63 [(.t 32),(kI 1),(.t 34),(.t 37),(kI 0)]))])
 .skip)))
 (.seq (.reg [0,58,1,2,5,7,20] [
 (aO 40 (.cmp .eql .i64 (.t 20) (kI 7))),(aO 39 (.mv (.t 40)))])
 (.cond (.t 39)
 (.reg [0,58,1,2,5,7] [
 (aO 41 (.ld false 1 (.t 7))),(aO 42 (.fa 0 (.t 2))),(aO 43 (.ld false 1 (.t 42))),(aO 44 (.ari .sub true .i64 (.t 43) (kI 1))),(aO 45 (.fa 2 (.t 5))),(aO 46 (.ld false 1 (.t 45))),(aO 47 (.clm 62 [(.t 41),(.t 44),(.t 46)]))])
 (.seq (.seq (.reg [0,58,1,2,5,7,20] [
 (aO 49 (.cmp .eql .i64 (.t 20) (kI 4))),(aO 48 (.mv (.t 49)))])
 (.cond (.t 48)
 .skip
 (.reg [0,58,1,2,5,7,20] [
 (aO 50 (.cmp .eql .i64 (.t 20) (kI 5))),(aO 48 (.mv (.t 50)))])))
 (.cond (.t 48)
 (.reg [0,58,1,2,5,7] [
 (aO 51 (.ld true 5 (.t 2))),(aO 52 (.ld true 4 (.t 5))),(aO 53 (.mkf 65 [(.t 7),(.t 5),(.t 2)])),(aO 54 (.clm 64 [(.t 51),(.t 52),(.t 53)]))])
 .skip))))))))
 ac42_r15)))))
def rv42 : List RV := [.tmp 4]
theorem ok42 : fnOk Try.prog ac42 rv42 Try.f42 = true := by kernel_rfl

def ac61 : AC :=
 (.seq (.reg [0,103,0,1] [
 (aO 2 (.box (.t 0))),(aO 4 (.alc [zI,zI,zI,zI])),(aO 5 (.mv (kI 0)))])
 (.seq (.reg [0,103,1,2,4] [
 (aO 10 (.mv (.t 1))),(aO 11 (.ld true 5 (.t 2))),(aO 12 (.cal 60 [(.t 11)])),(aO 13 (.ari .sub true .i64 (.t 10) (.t 12))),(aO 6 (.mv (.t 13)))])
 (.seq (.block 0
 (.seq (.reg [0,103,1,2,4,6] [
 (aO 15 (.mv (.t 1))),(aO 16 (.cmp .lss .i64 (.t 15) (kI 0))),(aO 17 (.mv (.t 16))),⟨some 18,some (17,false),.mv (.t 1)⟩,⟨some 19,some (17,false),.ld true 5 (.t 2)⟩,⟨some 20,some (17,false),.cal 40 [(.t 19)]⟩,⟨some 21,some (17,false),.cmp .geq .i64 (.t 18) (.t 20)⟩,(aO 22 (.pick (.t 17) (.c (.sc (.bool true))) (.t 21))),(aO 14 (.mv (.t 22)))])
 (.cut [0,103,1,2,4,6,14] (.cond (.t 14)
 (.seq (.reg [0,103,4] [
 (aO 23 (.bld [zI,zI,zI,zI] [])),(aN (.sto 4 (.t 4) (.t 23))),(aO 5 (.mv (kI 1)))])
 .ret)
 (.seq (.reg [0,103,1,2,4,6] [
 (aO 25 (.mv (.t 6))),(aO 26 (.fa 3 (.t 2))),(aO 27 (.ld false 1 (.t 26))),(aO 28 (.cmp .geq .i64 (.t 25) (.t 27))),(aO 24 (.mv (.t 28)))])
 (.cond (.t 24)
 (.seq (.drw [0,103,2,4,6] [
 (eT 29 (.fa 0 (.t 2))),(eT 30 (.ld false 1 (.t 29))),(eT 31 (.mv (.t 6))),(eT 32 (.fa 3 (.t 2))),(eT 33 (.ld false 1 (.t 32))),(eT 34 (.ari .sub true .i64 (.t 31) (.t 33))),(eT 35 (.fa 1 (.t 2))),(eT 36 (.ld false 1 (.t 35))),(eT 37 (.dvd .rem true .i64 (.t 34) (.t 36))),(eT 38 (.mv (.t 6))),(eT 39 (.fa 3 (.t 2))),(eT 40 (.ld false 1 (.t 39))),(eT 41 (.ari .sub true .i64 (.t 38) (.t 40))),(eF 42 (.bld [zI,zI,zI,zI] [(0,1,(kI 7)),(1,1,(.t 30)),(2,1,(.t 37)),(3,1,(.t 41))])),⟨(aN (.sto 4 (.t 4) (.t 42))),[],[],false⟩,(eF 5 (.mv (kI 0)))])
 .ret)
 (.seq (.reg [0,103,1,2,4,6] [
 (aO 44 (.mv (.t 6))),(aO 45 (.cmp .geq .i64 (.t 44) (kI 0))),(aO 43 (.mv (.t 45)))])
 (.cond (.t 43)
 (.seq (.reg [0,103,2,4,6] [
 (aO 46 (.mv (.t 6))),(aO 47 (.fa 1 (.t 2))),(aO 48 (.ld false 1 (.t 47))),(aO 49 (.dvd .rem true .i64 (.t 46) (.t 48))),(aO 50 (.mv (.t 6))),(aO 51 (.bld [zI,zI,zI,zI] [(0,1,(kI 6)),(1,1,(kI (-1))),(2,1,(.t 49)),(3,1,(.t 50))])),(aN (.sto 4 (.t 4) (.t 51))),(aO 5 (.mv (kI 0)))])
 .ret)
 .skip))))))))
 (.seq (.drw [0,103,1,2,4] [
 (eT 52 (.mv (.t 1))),(eT 53 (.ld true 5 (.t 2))),(eT 54 (.cal 78 [(.t 53)])),(eT 55 (.dvd .quo true .i64 (.t 52) (.t 54))),(eT 56 (.mv (.t 1))),(eT 57 (.ld true 5 (.t 2))),(eT 58 (.cal 78 [(.t 57)])),(eT 59 (.dvd .rem true .i64 (.t 56) (.t 58))),(eT 7 (.mv (.t 55))),(eF 8 (.mv (.t 59)))])
 (.seq (.drw [0,103,2,4,7,8] [
 (eU 60 (.mv (.t 7)) [] [9]),(eU 61 (.fa 0 (.t 2)) [] [9]),(eU 62 (.ld false 1 (.t 61)) [] [9]),(eU 63 (.dvd .rem true .i64 (.t 60) (.t 62)) [] [9]),(eU 64 (.mv (.t 7)) [] [9]),(eU 65 (.fa 0 (.t 2)) [] [9]),(eU 66 (.ld false 1 (.t 65)) [] [9]),(eU 67 (.dvd .quo true .i64 (.t 64) (.t 66)) [] [9]),(eU 68 (.bld [zI,zI,zI,zI] [(0,1,(kI 1)),(1,1,(.t 63)),(2,1,(.t 67))]) [] [9]),(eU 9 (.alc [zI,zI,zI,zI]) [9] []),⟨(aN (.sto 4 (.t 9) (.t 68))),[],[],false⟩])
 (.seq (.block 1
 (.seq (.reg [0,103,2,4,8,9] [
 (aO 70 (.mv (.t 8))),(aO 71 (.fa 2 (.t 2))),(aO 72 (.ld false 1 (.t 71))),(aO 73 (.ari .add true .i64 (kI 6) (.t 72))),(aO 74 (.cmp .geq .i64 (.t 70) (.t 73))),(aO 69 (.mv (.t 74)))])
 (.cond (.t 69)
 (.drw [0,103,2,4,8,9] [
 (eT 75 (.mv (.t 8))),(eT 76 (.ari .sub true .i64 (.t 75) (kI 2))),(eT 77 (.ari .sub true .i64 (.t 76) (kI 4))),(eT 78 (.fa 2 (.t 2))),(eU 79 (.ld false 1 (.t 78)) [] [9]),(eT 80 (.ari .sub true .i64 (.t 77) (.t 79))),(eT 81 (.fa 0 (.t 9))),⟨(aN (.sto 1 (.t 81) (kI 5))),[],[9],true⟩,(eF 82 (.fa 3 (.t 9))),⟨(aN (.sto 1 (.t 82) (.t 80))),[],[],false⟩])
 (.seq (.reg [0,103,4,8,9] [
 (aO 84 (.mv (.t 8))),(aO 85 (.cmp .geq .i64 (.t 84) (kI 6))),(aO 83 (.mv (.t 85)))])
 (.cond (.t 83)
 (.reg [0,103,4,8,9] [
 (aO 86 (.mv (.t 8))),(aO 87 (.ari .sub true .i64 (.t 86) (kI 2))),(aO 88 (.ari .sub true .i64 (.t 87) (kI 4))),(aO 89 (.fa 0 (.t 9))),(aN (.sto 1 (.t 89) (kI 4))),(aO 90 (.fa 3 (.t 9))),(aN (.sto 1 (.t 90) (.t 88)))])
 (.seq (.reg [0,103,4,8,9] [
 (aO 92 (.mv (.t 8))),(aO 93 (.cmp .geq .i64 (.t 92) (kI 2))),(aO 91 (.mv (.t 93)))])
 (.cond (.t 91)
 (.reg [0,103,4,8,9] [
 (aO 94 (.mv (.t 8))),(aO 95 (.ari .sub true .i64 (.t 94) (kI 2))),(aO 96 (.fa 0 (.t 9))),(aN (.sto 1 (.t 96) (kI 3))),(aO 97 (.fa 3 (.t 9))),(aN (.sto 1 (.t 97) (.t 95)))])
 (.seq (.reg [0,103,4,8,9] [
 (aO 99 (.mv (.t 8))),(aO 100 (.cmp .eql .i64 (.t 99) (kI 1))),(aO 98 (.mv (.t 100)))])
 (.cond (.t 98)
 (.reg [0,103,4,9] [
 (aO 101 (.fa 0 (.t 9))),(aN (.sto 1 (.t 101) (kI 2)))])
 .skip)))))))))
 (.seq (.reg [0,103,4,9] [
 (aO 102 (.ld true 4 (.t 9))),(aN (.sto 4 (.t 4) (.t 102))),(aO 5 (.mv (kI 0)))])
 .ret)))))))
def rv61 : List RV := [.cell 4 true 4,.tmp 5]
theorem ok61 : fnOk Try.prog ac61 rv61 Try.f61 = true := by kernel_rfl

def ac60 : AC :=
 (.seq (.reg [0,11,0] [
 (aO 1 (.box (.t 0))),(aO 2 (.mv (kI 0)))])
 (.seq (.drw [0,11,1] [
 (eT 3 (.fa 0 (.t 1))),(eT 4 (.ld false 1 (.t 3))),(eT 5 (.fa 1 (.t 1))),(eT 6 (.ld false 1 (.t 5))),(eT 7 (.ari .mul true .i64 (.t 4) (.t 6))),(eT 8 (.ld true 5 (.t 1))),(eT 9 (.cal 78 [(.t 8)])),(eF 10 (.ari .mul true .i64 (.t 7) (.t 9))),(eF 2 (.mv (.t 10)))])
 .ret))
def rv60 : List RV := [.tmp 2]
theorem ok60 : fnOk Try.prog ac60 rv60 Try.f60 = true := by kernel_rfl

def ac40 : AC :=
 (.seq (.reg [0,9,0] [
 (aO 1 (.box (.t 0))),(aO 2 (.mv (kI 0)))])
 (.seq (.drw [0,9,1] [
 (eT 3 (.ld true 5 (.t 1))),(eT 4 (.cal 60 [(.t 3)])),(eT 5 (.fa 3 (.t 1))),(eT 6 (.ld false 1 (.t 5))),(eT 7 (.ari .mul true .i64 (kI 2) (.t 6))),(eF 8 (.ari .add true .i64 (.t 4) (.t 7))),(eF 2 (.mv (.t 8)))])
 .ret))
def rv40 : List RV := [.tmp 2]
theorem ok40 : fnOk Try.prog ac40 rv40 Try.f40 = true := by kernel_rfl

def ac78 : AC :=
 (.seq (.reg [0,7,0] [
 (aO 1 (.box (.t 0))),(aO 2 (.mv (kI 0)))])
 (.seq (.reg [0,7,1] [
 (aO 3 (.fa 2 (.t 1))),(aO 4 (.ld false 1 (.t 3))),(aO 5 (.ari .mul true .i64 (kI 2) (.t 4))),(aO 6 (.ari .add true .i64 (kI 6) (.t 5))),(aO 2 (.mv (.t 6)))])
 .ret))
def rv78 : List RV := [.tmp 2]
theorem ok78 : fnOk Try.prog ac78 rv78 Try.f78 = true := by kernel_rfl

def ac79_r18 : AC :=
 (.seq (.seq (.reg [0,87,2,3,7] [
 (aO 74 (.ld true 5 (.t 2))),(aO 75 (.mv (.t 7))),(aO 76 (.cal 61 [(.t 74),(.t 75)])),(aO 73 (.mv (.t 76))),(aO 77 (.ext (.t 73) 0)),(aO 78 (.ext (.t 73) 1)),(aO 8 (.alc [zI,zI,zI,zI])),(aN (.sto 4 (.t 8) (.t 77))),(aO 9 (.mv (.t 78)))])
 (.seq (.reg [0,87,3,7,8,9] [
 (aO 79 (.mv (.t 9))),(aO 80 (.cmp .neq .i64 (.t 79) (kI 0))),(aO 81 (.mv (.t 80))),⟨some 82,some (81,false),.ld true 4 (.t 8)⟩,⟨some 83,some (81,false),.ld true 4 (.t 3)⟩,⟨some 84,some (81,false),.eqa true 4 (.t 82) (.t 83)⟩,(aO 85 (.pick (.t 81) (.c (.sc (.bool true))) (.t 84)))])
 (.cut [0,87,7,85] (.cond (.t 85)
 (.seq (.reg [0,87] [
 (aO 4 (.mv (kI 0))),(aO 5 (.mv (kI 1)))])
 .ret)
 .skip))))
 (.seq (.reg [0,87,7] [
 (aO 86 (.mv (.t 7))),(aO 4 (.mv (.t 86))),(aO 5 (.mv (kI 0)))])
 .ret))
def ac79 : AC :=
 (.seq (.reg [0,87,0,1] [
 (aO 2 (.box (.t 0))),(aO 3 (.box (.t 1))),(aO 4 (.mv (kI 0))),(aO 5 (.mv (kI 0)))])
 (.seq (.drw [0,87,2,3] [
 (eT 10 (.fa 2 (.t 3))),(eT 11 (.ld false 1 (.t 10))),(eT 12 (.fa 0 (.t 2))),(eT 13 (.ld false 1 (.t 12))),(eT 14 (.ari .mul true .i64 (.t 11) (.t 13))),(eT 15 (.fa 1 (.t 3))),(eT 16 (.ld false 1 (.t 15))),(eT 17 (.ari .add true .i64 (.t 14) (.t 16))),(eT 18 (.ld true 5 (.t 2))),(eT 19 (.cal 78 [(.t 18)])),(eF 20 (.ari .mul true .i64 (.t 17) (.t 19))),(eF 6 (.mv (.t 20)))])
 (.seq (.reg [0,87,2,3,6] [
 (aO 7 (.mv (kI (-1))))])
 (.seq (.seq (.reg [0,87,2,3,6,7] [
 (aO 21 (.fa 0 (.t 3))),(aO 22 (.ld false 1 (.t 21)))])
 (.block 0
 (.seq (.reg [0,87,2,3,6,7,22] [
 (aO 24 (.cmp .eql .i64 (.t 22) (kI 1))),(aO 23 (.mv (.t 24)))])
 (.cond (.t 23)
 (.reg [0,87,2,3,6] [
 (aO 25 (.mv (.t 6))),(aO 7 (.mv (.t 25)))])
 (.seq (.reg [0,87,2,3,6,7,22] [
 (aO 27 (.cmp .eql .i64 (.t 22) (kI 2))),(aO 26 (.mv (.t 27)))])
 (.cond (.t 26)
 (.reg [0,87,2,3,6] [
 (aO 28 (.mv (.t 6))),(aO 29 (.ari .add true .i64 (.t 28) (kI 1))),(aO 7 (.mv (.t 29)))])
 (.seq (.reg [0,87,2,3,6,7,22] [
 (aO 31 (.cmp .eql .i64 (.t 22) (kI 3))),(aO 30 (.mv (.t 31)))])
 (.cond (.t 30)
 (.reg [0,87,2,3,6] [
 (aO 32 (.mv (.t 6))),(aO 33 (.ari .add true .i64 (.t 32) (kI 2))),(aO 34 (.fa 3 (.t 3))),(aO 35 (.ld false 1 (.t 34))),(aO 36 (.ari .add true .i64 (.t 33) (.t 35))),(aO 7 (.mv (.t 36)))])
 (.seq (.reg [0,87,2,3,6,7,22] [
 (aO 38 (.cmp .eql .i64 (.t 22) (kI 4))),(aO 37 (.mv (.t 38)))])
 (.cond (.t 37)
 (.reg [0,87,2,3,6] [
 (aO 39 (.mv (.t 6))),(aO 40 (.ari .add true .i64 (.t 39) (kI 2))),(aO 41 (.ari .add true .i64 (.t 40) (kI 4))),(aO 42 (.fa 3 (.t 3))),(aO 43 (.ld false 1 (.t 42))),(aO 44 (.ari .add true .i64 (.t 41) (.t 43))),(aO 7 (.mv (.t 44)))])
 (.seq (.reg [0,87,2,3,6,7,22] [
 (aO 46 (.cmp .eql .i64 (.t 22) (kI 5))),(aO 45 (.mv (.t 46)))])
 (.cond (.t 45)
 (.reg [0,87,2,3,6] [
 (aO 47 (.mv (.t 6))),(aO 48 (.ari .add true .i64 (.t 47) (kI 2))),(aO 49 (.ari .add true .i64 (.t 48) (kI 4))),(aO 50 (.fa 2 (.t 2))),(aO 51 (.ld false 1 (.t 50))),(aO 52 (.ari .add true .i64 (.t 49) (.t 51))),(aO 53 (.fa 3 (.t 3))),(aO 54 (.ld false 1 (.t 53))),(aO 55 (.ari .add true .i64 (.t 52) (.t 54))),(aO 7 (.mv (.t 55)))])
 (.seq (.reg [0,87,2,3,7,22] [
 (aO 57 (.cmp .eql .i64 (.t 22) (kI 6))),(aO 56 (.mv (.t 57)))])
 (.cond (.t 56)
 (.drw [0,87,2,3] [
 (eT 58 (.ld true 5 (.t 2))),(eT 59 (.cal 60 [(.t 58)])),(eT 60 (.fa 3 (.t 3))),(eT 61 (.ld false 1 (.t 60))),(eF 62 (.ari .add true .i64 (.t 59) (.t 61))),(eF 7 (.mv (.t 62)))])
 (.seq (.reg [0,87,2,3,7,22] [
 (aO 64 (.cmp .eql .i64 (.t 22) (kI 7))),(aO 63 (.mv (.t 64)))])
 (.cond (.t 63)
 (.drw [0,87,2,3] [
 (eT 65 (.ld true 5 (.t 2))),(eT 66 (.cal 60 [(.t 65)])),(eT 67 (.fa 3 (.t 2))),(eT 68 (.ld false 1 (.t 67))),(eT 69 (.ari .add true .i64 (.t 66) (.t 68))),(eT 70 (.fa 3 (.t 3))),(eT 71 (.ld false 1 (.t 70))),(eF 72 (.ari .add true .i64 (.t 69) (.t 71))),(eF 7 (.mv (.t 72)))])
 .skip))))))))))))))))
 ac79_r18))))
def rv79 : List RV := [.tmp 4,.tmp 5]
theorem ok79 : fnOk Try.prog ac79 rv79 Try.f79 = true := by kernel_rfl

def ac62_200 : AC :=
 (.seq (.reg [200,21,200,201,202] [
 (aO 207 (.mv (.t 200))),(aO 208 (.nck (.t 207))),(aO 209 (.fa 0 (.t 208))),(aO 210 (.fa 2 (.t 209))),(aO 211 (.ld false 1 (.t 210))),(aO 212 (.mv (kI 0)))])
 (.block 0
 (.loop [200,21,200,201,202,211,212]
 (.seq (.reg [200,21,200,201,202,211,212] [
 (aO 213 (.cmp .lss .i64 (.t 212) (.t 211)))])
 (.seq (.cond (.t 213)
 .skip
 (.exit 0))
 (.seq (.block 1
 (.seq (.reg [200,21,200,201,202,211,212] [
 (aO 214 (.mv (.t 212))),(aO 206 (.mv (.t 214)))])
 (.reg [200,21,200,201,202,206,211,212] [
 (aO 215 (.mv (.t 200))),(aO 216 (.mv (.t 201))),(aO 217 (.mv (.t 202))),(aO 218 (.mv (.t 206))),(aO 219 (.clm 66 [(.t 215),(.t 216),(.t 217),(.t 218)]))])))
 (.reg [200,21,200,201,202,211,212] [
 (aO 220 (.ari .add true .i64 (.t 212) (kI 1))),(aO 212 (.mv (.t 220)))])))))))
def rv62_200 : List RV := []
theorem ok62_200 : fnOkK Try.prog 200 ac62_200 rv62_200 Try.f62 = true := by kernel_rfl

def ac63_400 : AC :=
 (.seq (.reg [400,37,400,401,402,403,404] [
 (aO 413 (.mv (.t 400))),(aO 414 (.nck (.t 413))),(aO 415 (.fa 0 (.t 414))),(aO 416 (.ld true 5 (.t 415))),(aO 417 (.mv (.t 401))),(aO 418 (.mv (.t 402))),(aO 419 (.mv (.t 403))),(aO 420 (.mv (.t 404))),(aO 421 (.bld [zI,zI,zI,zI] [(0,1,(.t 417)),(1,1,(.t 418)),(2,1,(.t 419)),(3,1,(.t 420))])),(aO 422 (.cal 79 [(.t 416),(.t 421)])),(aO 412 (.mv (.t 422))),(aO 423 (.ext (.t 412) 0)),(aO 424 (.ext (.t 412) 1)),(aO 410 (.mv (.t 423))),(aO 411 (.mv (.t 424)))])
 (.seq (.reg [400,37,400,410,411] [
 (aO 425 (.mv (.t 411))),(aO 426 (.cmp .eql .i64 (.t 425) (kI 0)))])
 (.cond (.t 426)
 (.reg [400,37,400,410] [
 (aO 427 (.mv (.t 400))),(aO 428 (.mv (.t 400))),(aO 429 (.nck (.t 428))),(aO 430 (.fa 5 (.t 429))),(aO 431 (.ld false 1 (.t 430))),(aO 432 (.mv (.t 410))),(aO 433 (.bsl 1 3 [zI] 1 [(0,(.t 432))])),(aO 434 (.app 1 3 8 (.t 431) (.t 433))),(aO 435 (.nck (.t 427))),(aO 436 (.fa 5 (.t 435))),(aN (.sto 1 (.t 436) (.t 434)))])
 .skip)))
def rv63_400 : List RV := []
theorem ok63_400 : fnOkK Try.prog 400 ac63_400 rv63_400 Try.f63 = true := by kernel_rfl

def ac64_100 : AC :=
 (.seq (.reg [100,39,100,101,102] [
 (aO 103 (.box (.t 100))),(aO 104 (.box (.t 101)))])
 (.seq (.reg [100,39,102,103,104] [
 (aO 108 (.mv (.t 102))),(aO 109 (.fa 1 (.t 104))),(aO 110 (.ld false 1 (.t 109))),(aO 111 (.fa 2 (.t 104))),(aO 112 (.ld false 1 (.t 111))),(aO 113 (.clv (.t 108) [(.t 110),(.t 112)]))])
 (.seq (.drw [100,39,102,103,104] [
 (eT 114 (.fa 1 (.t 104))),(eT 115 (.ld false 1 (.t 114))),(eT 116 (.fa 2 (.t 104))),(eT 117 (.ld false 1 (.t 116))),(eT 106 (.mv (.t 115))),(eF 107 (.mv (.t 117)))])
 (.seq (.seq (.reg [100,39,102,103,104,106,107] [
 (aO 118 (.fa 0 (.t 104))),(aO 119 (.ld false 1 (.t 118))),(aO 120 (.cmp .eql .i64 (.t 119) (kI 4)))])
 (.cond (.t 120)
 (.reg [100,39,102,103,106,107] [
 (aO 121 (.mv (.t 106))),(aO 122 (.ari .add true .i64 (.t 121) (kI 1))),(aO 106 (.mv (.t 122)))])
 (.reg [100,39,102,103,106,107] [
 (aO 123 (.mv (.t 107))),(aO 124 (.ari .add true .i64 (.t 123) (kI 1))),(aO 107 (.mv (.t 124)))])))
 (.seq (.reg [100,39,102,103,106,107] [
 (aO 125 (.mv (.t 106))),(aO 126 (.fa 0 (.t 103))),(aO 127 (.ld false 1 (.t 126))),(aO 128 (.cmp .lss .i64 (.t 125) (.t 127))),(aO 129 (.mv (.t 128))),⟨some 130,some (129,true),.mv (.t 107)⟩,⟨some 131,some (129,true),.fa 1 (.t 103)⟩,⟨some 132,some (129,true),.ld false 1 (.t 131)⟩,⟨some 133,some (129,true),.cmp .lss .i64 (.t 130) (.t 132)⟩,(aO 134 (.pick (.t 129) (.t 133) (.c (.sc (.bool false)))))])
 (.cut [100,39,102,106,107,134] (.cond (.t 134)
 (.reg [100,39,102,106,107] [
 (aO 135 (.mv (.t 102))),(aO 136 (.mv (.t 106))),(aO 137 (.mv (.t 107))),(aO 138 (.clv (.t 135) [(.t 136),(.t 137)]))])
 .skip)))))))
def rv64_100 : List RV := []
theorem ok64_100 : fnOkK Try.prog 100 ac64_100 rv64_100 Try.f64 = true := by kernel_rfl

def ac65_150 : AC :=
 (.seq (.reg [150,39,150,151,152,153,154] [
 (aO 158 (.ld false 1 (.t 152))),(aO 159 (.mv (.t 150))),(aO 160 (.mv (.t 151))),(aO 161 (.clm 63 [(.t 158),(kI 1),(.t 159),(.t 160),(kI 0)]))])
 (.seq (.reg [150,39,150,151,152,153,154] [
 (aO 162 (.ld false 1 (.t 152))),(aO 163 (.mv (.t 150))),(aO 164 (.mv (.t 151))),(aO 165 (.clm 63 [(.t 162),(kI 2),(.t 163),(.t 164),(kI 0)]))])
 (.seq (.reg [150,39,150,151,152,153,154] [
 (aO 166 (.ld false 1 (.t 152))),(aO 167 (.mv (.t 150))),(aO 168 (.mv (.t 151))),(aO 169 (.fa 3 (.t 153))),(aO 170 (.ld false 1 (.t 169))),(aO 171 (.clm 66 [(.t 166),(.t 167),(.t 168),(.t 170)]))])
 (.seq (.reg [150,39,150,151,152,154] [
 (aO 172 (.mv (.t 151))),(aO 157 (.mv (.t 172)))])
 (.block 0
 (.loop [150,39,150,151,152,154,157]
 (.seq (.seq (.reg [150,39,150,151,152,154,157] [
 (aO 173 (.mv (.t 150))),(aO 174 (.cmp .eql .i64 (.t 173) (kI 0))),(aO 175 (.mv (.t 174))),⟨some 176,some (175,true),.mv (.t 157)⟩,⟨some 177,some (175,true),.fa 3 (.t 154)⟩,⟨some 178,some (175,true),.ld false 1 (.t 177)⟩,⟨some 179,some (175,true),.cmp .lss .i64 (.t 176) (.t 178)⟩,(aO 180 (.pick (.t 175) (.t 179) (.c (.sc (.bool false)))))])
 (.cut [150,39,150,151,152,154,157,180] (.cond (.t 180)
 .skip
 (.exit 0))))
 (.seq (.block 1
 (.reg [150,39,150,151,152,154,157] [
 (aO 185 (.ld false 1 (.t 152))),(aO 186 (.mv (.t 151))),(aO 187 (.mv (.t 157))),(aO 188 (.clm 63 [(.t 185),(kI 6),(kI (-1)),(.t 186),(.t 187)]))]))
 (.reg [150,39,150,151,152,154,157] [
 (aO 181 (.mv (.t 157))),(aO 182 (.fa 1 (.t 154))),(aO 183 (.ld false 1 (.t 182))),(aO 184 (.ari .add true .i64 (.t 181) (.t 183))),(aO 157 (.mv (.t 184)))])))))))))
def rv65_150 : List RV := []
theorem ok65_150 : fnOkK Try.prog 150 ac65_150 rv65_150 Try.f65 = true := by kernel_rfl

def ac66_250 : AC :=
 (.seq (.seq (.reg [250,54,250,251,252,253] [
 (aO 258 (.mv (.t 251))),(aO 259 (.cmp .lss .i64 (.t 258) (kI 0))),(aO 260 (.mv (.t 259))),⟨some 261,some (260,false),.mv (.t 251)⟩,⟨some 262,some (260,false),.mv (.t 250)⟩,⟨some 263,some (260,false),.nck (.t 262)⟩,⟨some 264,some (260,false),.fa 0 (.t 263)⟩,⟨some 265,some (260,false),.fa 0 (.t 264)⟩,⟨some 266,some (260,false),.ld false 1 (.t 265)⟩,⟨some 267,some (260,false),.cmp .geq .i64 (.t 261) (.t 266)⟩,(aO 268 (.pick (.t 260) (.c (.sc (.bool true))) (.t 267))),(aO 269 (.mv (.t 268))),⟨some 270,some (269,false),.mv (.t 252)⟩,⟨some 271,some (269,false),.cmp .lss .i64 (.t 270) (kI 0)⟩,(aO 272 (.pick (.t 269) (.c (.sc (.bool true))) (.t 271))),(aO 273 (.mv (.t 272))),⟨some 274,some (273,false),.mv (.t 252)⟩,⟨some 275,some (273,false),.mv (.t 250)⟩,⟨some 276,some (273,false),.nck (.t 275)⟩,⟨some 277,some (273,false),.fa 0 (.t 276)⟩,⟨some 278,some (273,false),.fa 1 (.t 277)⟩,⟨some 279,some (273,false),.ld false 1 (.t 278)⟩,⟨some 280,some (273,false),.cmp .geq .i64 (.t 274) (.t 279)⟩,(aO 281 (.pick (.t 273) (.c (.sc (.bool true))) (.t 280)))])
 (.cut [250,54,250,251,252,253,281] (.cond (.t 281)
 .ret
 .skip)))
 (.seq (.reg [250,54,250,251,252,253] [
 (aO 282 (.mv (.t 250))),(aO 283 (.mv (.t 251))),(aO 284 (.mv (.t 252))),(aO 285 (.mv (.t 253))),(aO 286 (.clm 63 [(.t 282),(kI 4),(.t 283),(.t 284),(.t 285)]))])
 (.seq (.reg [250,54,250,251,252,253] [
 (aO 287 (.mv (.t 250))),(aO 288 (.mv (.t 251))),(aO 289 (.mv (.t 252))),(aO 290 (.mv (.t 253))),(aO 291 (.clm 63 [(.t 287),(kI 5),(.t 288),(.t 289),(.t 290)]))])
 (.seq (.reg [250,54,250,251,252,253] [
 (aO 292 (.mv (.t 250))),(aO 293 (.mv (.t 251))),(aO 294 (.ari .sub true .i64 (.t 293) (kI 1))),(aO 295 (.mv (.t 252))),(aO 296 (.mv (.t 253))),(aO 297 (.clm 63 [(.t 292),(kI 4),(.t 294),(.t 295),(.t 296)]))])
 (.reg [250,54,250,251,252,253] [
 (aO 298 (.mv (.t 250))),(aO 299 (.mv (.t 251))),(aO 300 (.mv (.t 252))),(aO 301 (.ari .sub true .i64 (.t 300) (kI 1))),(aO 302 (.mv (.t 253))),(aO 303 (.clm 63 [(.t 298),(kI 5),(.t 299),(.t 301),(.t 302)]))])))))
def rv66_250 : List RV := []
theorem ok66_250 : fnOkK Try.prog 250 ac66_250 rv66_250 Try.f66 = true := by kernel_rfl

def ac67_100 : AC :=
 (.seq (.reg [100,24,100,101] [
 (aO 103 (.box (.t 101))),(aO 104 (.mv (.c (.nil))))])
 (.seq (.reg [100,24,100,103] [
 (aO 105 (.mv (.t 100))),(aO 106 (.nck (.t 105))),(aO 107 (.fa 5 (.t 106))),(aO 108 (.ld false 1 (.t 107))),(aO 109 (.clm 71 [(.t 108)]))])
 (.seq (.reg [100,24,100,103] [
 (aO 110 (.mv (.t 100))),(aO 111 (.mv (.t 100))),(aO 112 (.nck (.t 111))),(aO 113 (.fa 5 (.t 112))),(aO 114 (.ld false 1 (.t 113))),(aO 115 (.clm 72 [(.t 114)])),(aO 116 (.nck (.t 110))),(aO 117 (.fa 5 (.t 116))),(aN (.sto 1 (.t 117) (.t 115)))])
 (.seq (.reg [100,24,100,103] [
 (aO 118 (.mv (.t 100))),(aO 119 (.nck (.t 118))),(aO 120 (.fa 5 (.t 119))),(aO 121 (.ld false 1 (.t 120))),(aO 122 (.mkf 81 [(.t 103)])),(aO 123 (.clm 80 [(.t 121),(.t 122)])),(aO 104 (.mv (.t 123)))])
 .ret))))
def rv67_100 : List RV := [.tmp 104]
theorem ok67_100 : fnOkK Try.prog 100 ac67_100 rv67_100 Try.f67 = true := by kernel_rfl

def ac80_150 : AC :=
 (.seq (.reg [150,42,150,151] [
 (aO 154 (.mv (.c (.nil))))])
 (.seq (.reg [150,42,150,151] [
 (aO 158 (.mv (.t 150))),(aO 159 (.mv (.t 151))),(aO 160 (.cal 87 [(.t 158),(.t 159)])),(aO 155 (.mv (.t 160)))])
 (.seq (.seq (.reg [150,42,150,151,155] [
 (aO 161 (.mv (.t 155))),(aO 162 (.cmp .eql .i64 (.t 161) (kI (-1))))])
 (.cond (.t 162)
 (.seq (.reg [150,42,150] [
 (aO 163 (.mv (.t 150))),(aO 154 (.mv (.t 163)))])
 .ret)
 .skip))
 (.seq (.seq (.reg [150,42,150,151,155] [
 (aO 164 (.mv (.t 155))),(aO 165 (.ari .add true .i64 (.t 164) (kI 1))),(aO 156 (.mv (.t 165)))])
 (.block 0
 (.loop [150,42,150,151,155,156]
 (.seq (.seq (.reg [150,42,150,151,155,156] [
 (aO 166 (.mv (.t 156))),(aO 167 (.mv (.t 150))),(aO 168 (.len (.t 167))),(aO 169 (.cmp .lss .i64 (.t 166) (.t 168)))])
 (.cond (.t 169)
 .skip
 (.exit 0)))
 (.seq (.block 1
 (.seq (.reg [150,42,150,151,155,156] [
 (aO 172 (.mv (.t 150))),(aO 173 (.mv (.t 156))),(aO 174 (.ixs 1 (.t 172) (.t 173))),(aO 175 (.ld false 1 (.t 174))),(aO 157 (.mv (.t 175)))])
 (.seq (.reg [150,42,150,151,155,156,157] [
 (aO 176 (.mv (.t 151))),(aO 177 (.mv (.t 157))),(aO 178 (.clv (.t 176) [(.t 177)])),(aO 179 (.not (.t 178)))])
 (.cond (.t 179)
 (.seq (.reg [150,42,150,151,155,156,157] [
 (aO 180 (.mv (.t 150))),(aO 181 (.mv (.t 155))),(aO 182 (.mv (.t 157))),(aO 183 (.ixs 1 (.t 180) (.t 181))),(aN (.sto 1 (.t 183) (.t 182)))])
 (.reg [150,42,150,151,155,156] [
 (aO 184 (.mv (.t 155))),(aO 185 (.ari .add true .i64 (.t 184) (kI 1))),(aO 155 (.mv (.t 185)))]))
 .skip))))
 (.reg [150,42,150,151,155,156] [
 (aO 170 (.mv (.t 156))),(aO 171 (.ari .add true .i64 (.t 170) (kI 1))),(aO 156 (.mv (.t 171)))]))))))
 (.seq (.reg [150,42,150,155] [
 (aO 186 (.mv (.t 150))),(aO 187 (.mv (.t 155))),(aO 188 (.slc 1 (.t 186) (some (.t 187)) none)),(aN (.xo (.clr 1 [zI]) [(.t 188)]))])
 (.seq (.reg [150,42,150,155] [
 (aO 189 (.mv (.t 150))),(aO 190 (.mv (.t 155))),(aO 191 (.slc 1 (.t 189) none (some (.t 190)))),(aO 154 (.mv (.t 191)))])
 .ret))))))
def rv80_150 : List RV := [.tmp 154]
theorem ok80_150 : fnOkK Try.prog 150 ac80_150 rv80_150 Try.f80 = true := by kernel_rfl

def ac81 : AC :=
 (.seq (.reg [0,7,0,1] [
 (aO 3 (.mv (.c (.sc (.bool false)))))])
 (.seq (.reg [0,7,0,1] [
 (aO 4 (.mv (.t 0))),(aO 5 (.ld false 1 (.t 1))),(aO 6 (.cmp .eql .i64 (.t 4) (.t 5))),(aO 3 (.mv (.t 6)))])
 .ret))
def rv81 : List RV := [.tmp 3]
theorem ok81 : fnOk Try.prog ac81 rv81 Try.f81 = true := by kernel_rfl

def ac87 : AC :=
 (.seq (.reg [0,19,0,1] [
 (aO 4 (.mv (kI 0)))])
 (.seq (.seq (.reg [0,19,0,1] [
 (aO 6 (.mv (.t 0))),(aO 7 (.len (.t 6))),(aO 8 (.mv (kI 0)))])
 (.block 0
 (.loop [0,19,0,1,7,8]
 (.seq (.reg [0,19,0,1,7,8] [
 (aO 9 (.cmp .lss .i64 (.t 8) (.t 7)))])
 (.seq (.cond (.t 9)
 .skip
 (.exit 0))
 (.seq (.block 1
 (.seq (.reg [0,19,0,1,7,8] [
 (aO 10 (.mv (.t 8))),(aO 5 (.mv (.t 10)))])
 (.seq (.reg [0,19,0,1,5,7,8] [
 (aO 11 (.mv (.t 1))),(aO 12 (.mv (.t 0))),(aO 13 (.mv (.t 5))),(aO 14 (.ixs 1 (.t 12) (.t 13))),(aO 15 (.ld false 1 (.t 14))),(aO 16 (.clv (.t 11) [(.t 15)]))])
 (.cond (.t 16)
 (.seq (.reg [0,19,5] [
 (aO 17 (.mv (.t 5))),(aO 4 (.mv (.t 17)))])
 .ret)
 .skip))))
 (.reg [0,19,0,1,7,8] [
 (aO 18 (.ari .add true .i64 (.t 8) (kI 1))),(aO 8 (.mv (.t 18)))])))))))
 (.seq (.reg [0,19] [
 (aO 4 (.mv (kI (-1))))])
 .ret)))
def rv87 : List RV := [.tmp 4]
theorem ok87 : fnOk Try.prog ac87 rv87 Try.f87 = true := by kernel_rfl

def ac22 : AC :=
 (.seq (.reg [0,15,0] [
 (aO 1 (.box (.t 0))),(aO 2 (.mv (kI 0)))])
 (.seq (.drw [0,15,1] [
 (eT 3 (.fa 0 (.t 1))),(eT 4 (.ld false 1 (.t 3))),(eT 5 (.fa 1 (.t 1))),(eT 6 (.ld false 1 (.t 5))),(eT 7 (.ari .mul true .i64 (.t 4) (.t 6))),(eT 8 (.ld true 5 (.t 1))),(eT 9 (.cal 45 [(.t 8)])),(eT 10 (.ari .mul true .i64 (.t 7) (.t 9))),(eT 11 (.fa 3 (.t 1))),(eT 12 (.ld false 1 (.t 11))),(eT 13 (.ari .mul true .i64 (kI 2) (.t 12))),(eF 14 (.ari .add true .i64 (.t 10) (.t 13))),(eF 2 (.mv (.t 14)))])
 .ret))
def rv22 : List RV := [.tmp 2]
theorem ok22 : fnOk Try.prog ac22 rv22 Try.f22 = true := by kernel_rfl

def ac45 : AC :=
 (.seq (.reg [0,7,0] [
 (aO 1 (.box (.t 0))),(aO 2 (.mv (kI 0)))])
 (.seq (.reg [0,7,1] [
 (aO 3 (.fa 2 (.t 1))),(aO 4 (.ld false 1 (.t 3))),(aO 5 (.ari .mul true .i64 (kI 2) (.t 4))),(aO 6 (.ari .add true .i64 (kI 6) (.t 5))),(aO 2 (.mv (.t 6)))])
 .ret))
def rv45 : List RV := [.tmp 2]
theorem ok45 : fnOk Try.prog ac45 rv45 Try.f45 = true := by kernel_rfl

def ac50 : AC :=
 (.seq (.reg [0,113,0,1] [
 (aO 2 (.box (.t 0))),(aO 4 (.alc [zI,zI,zI,zI,zI]))])
 (.seq (.seq (.reg [0,113,1,2,4] [
 (aO 11 (.mv (.t 1))),(aO 12 (.cmp .lss .i64 (.t 11) (kI 0))),(aO 13 (.mv (.t 12))),⟨some 14,some (13,false),.mv (.t 1)⟩,⟨some 15,some (13,false),.ld true 5 (.t 2)⟩,⟨some 16,some (13,false),.cal 22 [(.t 15)]⟩,⟨some 17,some (13,false),.cmp .geq .i64 (.t 14) (.t 16)⟩,(aO 18 (.pick (.t 13) (.c (.sc (.bool true))) (.t 17)))])
 (.cut [0,113,1,2,4,18] (.cond (.t 18)
 (.seq (.reg [0,113,4] [
 (aO 19 (.bld [zI,zI,zI,zI,zI] [(4,1,(kI 1))])),(aN (.sto 5 (.t 4) (.t 19)))])
 .ret)
 .skip)))
 (.seq (.drw [0,113,1,2,4] [
 (eT 20 (.fa 0 (.t 2))),(eT 21 (.ld false 1 (.t 20))),(eT 22 (.fa 1 (.t 2))),(eT 23 (.ld false 1 (.t 22))),(eT 24 (.ari .mul true .i64 (.t 21) (.t 23))),(eT 25 (.ld true 5 (.t 2))),(eT 26 (.cal 45 [(.t 25)])),(eF 27 (.ari .mul true .i64 (.t 24) (.t 26))),(eF 5 (.mv (.t 27)))])
 (.seq (.seq (.reg [0,113,1,2,4,5] [
 (aO 28 (.mv (.t 1))),(aO 29 (.mv (.t 5))),(aO 30 (.fa 3 (.t 2))),(aO 31 (.ld false 1 (.t 30))),(aO 32 (.ari .add true .i64 (.t 29) (.t 31))),(aO 33 (.cmp .geq .i64 (.t 28) (.t 32)))])
 (.cond (.t 33)
 (.seq (.reg [0,113,1,2,4,5] [
 (aO 34 (.mv (.t 1))),(aO 35 (.mv (.t 5))),(aO 36 (.ari .sub true .i64 (.t 34) (.t 35))),(aO 37 (.fa 3 (.t 2))),(aO 38 (.ld false 1 (.t 37))),(aO 39 (.ari .sub true .i64 (.t 36) (.t 38))),(aO 6 (.mv (.t 39)))])
 (.seq (.drw [0,113,2,4,6] [
 (eT 40 (.fa 0 (.t 2))),(eT 41 (.ld false 1 (.t 40))),(eT 42 (.mv (.t 6))),(eT 43 (.fa 1 (.t 2))),(eT 44 (.ld false 1 (.t 43))),(eT 45 (.dvd .rem true .i64 (.t 42) (.t 44))),(eT 46 (.mv (.t 6))),(eF 47 (.bld [zI,zI,zI,zI] [(0,1,(kI 7)),(1,1,(.t 41)),(2,1,(.t 45)),(3,1,(.t 46))])),(eF 48 (.bld [zI,zI,zI,zI,zI] [(0,4,(.t 47))])),⟨(aN (.sto 5 (.t 4) (.t 48))),[],[],false⟩])
 .ret))
 .skip))
 (.seq (.seq (.reg [0,113,1,2,4,5] [
 (aO 49 (.mv (.t 1))),(aO 50 (.mv (.t 5))),(aO 51 (.cmp .geq .i64 (.t 49) (.t 50)))])
 (.cond (.t 51)
 (.seq (.reg [0,113,1,2,4,5] [
 (aO 52 (.mv (.t 1))),(aO 53 (.mv (.t 5))),(aO 54 (.ari .sub true .i64 (.t 52) (.t 53))),(aO 7 (.mv (.t 54)))])
 (.seq (.reg [0,113,2,4,7] [
 (aO 55 (.mv (.t 7))),(aO 56 (.fa 1 (.t 2))),(aO 57 (.ld false 1 (.t 56))),(aO 58 (.dvd .rem true .i64 (.t 55) (.t 57))),(aO 59 (.mv (.t 7))),(aO 60 (.bld [zI,zI,zI,zI] [(0,1,(kI 6)),(1,1,(kI (-1))),(2,1,(.t 58)),(3,1,(.t 59))])),(aO 61 (.bld [zI,zI,zI,zI,zI] [(0,4,(.t 60))])),(aN (.sto 5 (.t 4) (.t 61)))])
 .ret))
 .skip))
 (.seq (.drw [0,113,1,2,4] [
 (eT 62 (.mv (.t 1))),(eT 63 (.ld true 5 (.t 2))),(eT 64 (.cal 45 [(.t 63)])),(eT 65 (.dvd .quo true .i64 (.t 62) (.t 64))),(eT 66 (.mv (.t 1))),(eT 67 (.ld true 5 (.t 2))),(eT 68 (.cal 45 [(.t 67)])),(eT 69 (.dvd .rem true .i64 (.t 66) (.t 68))),(eT 8 (.mv (.t 65))),(eF 9 (.mv (.t 69)))])
 (.seq (.drw [0,113,2,4,8,9] [
 (eU 70 (.mv (.t 8)) [] [10]),(eU 71 (.fa 0 (.t 2)) [] [10]),(eU 72 (.ld false 1 (.t 71)) [] [10]),(eU 73 (.dvd .rem true .i64 (.t 70) (.t 72)) [] [10]),(eU 74 (.mv (.t 8)) [] [10]),(eU 75 (.fa 0 (.t 2)) [] [10]),(eU 76 (.ld false 1 (.t 75)) [] [10]),(eU 77 (.dvd .quo true .i64 (.t 74) (.t 76)) [] [10]),(eU 78 (.bld [zI,zI,zI,zI] [(1,1,(.t 73)),(2,1,(.t 77))]) [] [10]),(eU 10 (.alc [zI,zI,zI,zI]) [10] []),⟨(aN (.sto 4 (.t 10) (.t 78))),[],[],false⟩])
 (.seq (.block 0
 (.seq (.reg [0,113,2,4,9,10] [
 (aO 87 (.mv (.t 9))),(aO 88 (.cmp .eql .i64 (.t 87) (kI 0))),(aO 86 (.mv (.t 88)))])
 (.cond (.t 86)
 (.reg [0,113,4,10] [
 (aO 89 (.fa 0 (.t 10))),(aN (.sto 1 (.t 89) (kI 1)))])
 (.seq (.reg [0,113,2,4,9,10] [
 (aO 91 (.mv (.t 9))),(aO 92 (.cmp .eql .i64 (.t 91) (kI 1))),(aO 90 (.mv (.t 92)))])
 (.cond (.t 90)
 (.reg [0,113,4,10] [
 (aO 93 (.fa 0 (.t 10))),(aN (.sto 1 (.t 93) (kI 2)))])
 (.seq (.reg [0,113,2,4,9,10] [
 (aO 95 (.mv (.t 9))),(aO 96 (.cmp .lss .i64 (.t 95) (kI 6))),(aO 94 (.mv (.t 96)))])
 (.cond (.t 94)
 (.seq (.reg [0,113,4,9,10] [
 (aO 97 (.fa 0 (.t 10))),(aN (.sto 1 (.t 97) (kI 3)))])
 (.reg [0,113,4,9,10] [
 (aO 98 (.mv (.t 9))),(aO 99 (.ari .sub true .i64 (.t 98) (kI 2))),(aO 100 (.fa 3 (.t 10))),(aN (.sto 1 (.t 100) (.t 99)))]))
 (.seq (.reg [0,113,2,4,9,10] [
 (aO 102 (.mv (.t 9))),(aO 103 (.fa 2 (.t 2))),(aO 104 (.ld false 1 (.t 103))),(aO 105 (.ari .add true .i64 (kI 6) (.t 104))),(aO 106 (.cmp .lss .i64 (.t 102) (.t 105))),(aO 101 (.mv (.t 106)))])
 (.cond (.t 101)
 (.seq (.reg [0,113,4,9,10] [
 (aO 107 (.fa 0 (.t 10))),(aN (.sto 1 (.t 107) (kI 4)))])
 (.reg [0,113,4,9,10] [
 (aO 108 (.mv (.t 9))),(aO 109 (.ari .sub true .i64 (.t 108) (kI 6))),(aO 110 (.fa 3 (.t 10))),(aN (.sto 1 (.t 110) (.t 109)))]))
 (.seq (.reg [0,113,2,4,9,10] [
 (aO 79 (.fa 0 (.t 10))),(aN (.sto 1 (.t 79) (kI 5)))])
 (.reg [0,113,2,4,9,10] [
 (aO 80 (.mv (.t 9))),(aO 81 (.ari .sub true .i64 (.t 80) (kI 6))),(aO 82 (.fa 2 (.t 2))),(aO 83 (.ld false 1 (.t 82))),(aO 84 (.ari .sub true .i64 (.t 81) (.t 83))),(aO 85 (.fa 3 (.t 10))),(aN (.sto 1 (.t 85) (.t 84)))])))))))))))
 (.seq (.reg [0,113,4,10] [
 (aO 111 (.ld true 4 (.t 10))),(aO 112 (.bld [zI,zI,zI,zI,zI] [(0,4,(.t 111))])),(aN (.sto 5 (.t 4) (.t 112)))])
 .ret)))))))))
def rv50 : List RV := [.cell 4 true 5]
theorem ok50 : fnOk Try.prog ac50 rv50 Try.f50 = true := by kernel_rfl

def ac73 : AC :=
 (.seq (.reg [0,83,0,1,2,3] [
 (aO 4 (.box (.t 0))),(aO 5 (.box (.t 1))),(aO 8 (.mv (.c (.sc (.bool false)))))])
 (.seq (.seq (.reg [0,83,2,3,4,5] [
 (aO 9 (.mv (.t 2))),(aO 10 (.cmp .lss .i64 (.t 9) (kI 0))),(aO 11 (.mv (.t 10))),⟨some 12,some (11,false),.mv (.t 2)⟩,⟨some 13,some (11,false),.fa 0 (.t 4)⟩,⟨some 14,some (11,false),.ld false 1 (.t 13)⟩,⟨some 15,some (11,false),.cmp .geq .i64 (.t 12) (.t 14)⟩,(aO 16 (.pick (.t 11) (.c (.sc (.bool true))) (.t 15))),(aO 17 (.mv (.t 16))),⟨some 18,some (17,false),.mv (.t 3)⟩,⟨some 19,some (17,false),.cmp .lss .i64 (.t 18) (kI 0)⟩,(aO 20 (.pick (.t 17) (.c (.sc (.bool true))) (.t 19))),(aO 21 (.mv (.t 20))),⟨some 22,some (21,false),.mv (.t 3)⟩,⟨some 23,some (21,false),.fa 1 (.t 4)⟩,⟨some 24,some (21,false),.ld false 1 (.t 23)⟩,⟨some 25,some (21,false),.cmp .geq .i64 (.t 22) (.t 24)⟩,(aO 26 (.pick (.t 21) (.c (.sc (.bool true))) (.t 25)))])
 (.cut [0,83,2,3,5,26] (.cond (.t 26)
 (.seq (.reg [0,83] [
 (aO 8 (.mv (.c (.sc (.bool false)))))])
 .ret)
 .skip)))
 (.seq (.reg [0,83,2,3,5] [
 (aO 27 (.fa 0 (.t 5))),(aO 28 (.ld false 1 (.t 27))),(aO 29 (.cmp .eql .i64 (.t 28) (kI 4))),(aO 30 (.mv (.t 29))),⟨some 31,some (30,false),.fa 0 (.t 5)⟩,⟨some 32,some (30,false),.ld false 1 (.t 31)⟩,⟨some 33,some (30,false),.cmp .eql .i64 (.t 32) (kI 5)⟩,(aO 34 (.pick (.t 30) (.c (.sc (.bool true))) (.t 33))),(aO 35 (.mv (.t 34))),⟨some 36,some (35,true),.fa 1 (.t 5)⟩,⟨some 37,some (35,true),.ld false 1 (.t 36)⟩,⟨some 38,some (35,true),.mv (.t 2)⟩,⟨some 39,some (35,true),.cmp .eql .i64 (.t 37) (.t 38)⟩,(aO 40 (.pick (.t 35) (.t 39) (.c (.sc (.bool false))))),(aO 41 (.mv (.t 40))),⟨some 42,some (41,true),.fa 2 (.t 5)⟩,⟨some 43,some (41,true),.ld false 1 (.t 42)⟩,⟨some 44,some (41,true),.mv (.t 3)⟩,⟨some 45,some (41,true),.cmp .eql .i64 (.t 43) (.t 44)⟩,(aO 46 (.pick (.t 41) (.t 45) (.c (.sc (.bool false))))),(aO 47 (.mv (.t 46))),⟨some 48,some (47,false),.fa 0 (.t 5)⟩,⟨some 49,some (47,false),.ld false 1 (.t 48)⟩,⟨some 50,some (47,false),.cmp .eql .i64 (.t 49) (kI 4)⟩,⟨some 51,some (47,false),.mv (.t 50)⟩,⟨some 52,some (51,true),.fa 1 (.t 5)⟩,⟨some 53,some (51,true),.ld false 1 (.t 52)⟩,⟨some 54,some (51,true),.ari .add true .i64 (.t 53) (kI 1)⟩,⟨some 55,some (51,true),.mv (.t 2)⟩,⟨some 56,some (51,true),.cmp .eql .i64 (.t 54) (.t 55)⟩,⟨some 57,some (47,false),.pick (.t 51) (.t 56) (.c (.sc (.bool false)))⟩,⟨some 58,some (47,false),.mv (.t 57)⟩,⟨some 59,some (58,true),.fa 2 (.t 5)⟩,⟨some 60,some (58,true),.ld false 1 (.t 59)⟩,⟨some 61,some (58,true),.mv (.t 3)⟩,⟨some 62,some (58,true),.cmp .eql .i64 (.t 60) (.t 61)⟩,⟨some 63,some (47,false),.pick (.t 58) (.t 62) (.c (.sc (.bool false)))⟩,(aO 64 (.pick (.t 47) (.c (.sc (.bool true))) (.t 63))),(aO 65 (.mv (.t 64))),⟨some 66,some (65,false),.fa 0 (.t 5)⟩,⟨some 67,some (65,false),.ld false 1 (.t 66)⟩,⟨some 68,some (65,false),.cmp .eql .i64 (.t 67) (kI 5)⟩,⟨some 69,some (65,false),.mv (.t 68)⟩,⟨some 70,some (69,true),.fa 1 (.t 5)⟩,⟨some 71,some (69,true),.ld false 1 (.t 70)⟩,⟨some 72,some (69,true),.mv (.t 2)⟩,⟨some 73,some (69,true),.cmp .eql .i64 (.t 71) (.t 72)⟩,⟨some 74,some (65,false),.pick (.t 69) (.t 73) (.c (.sc (.bool false)))⟩,⟨some 75,some (65,false),.mv (.t 74)⟩,⟨some 76,some (75,true),.fa 2 (.t 5)⟩,⟨some 77,some (75,true),.ld false 1 (.t 76)⟩,⟨some 78,some (75,true),.ari .add true .i64 (.t 77) (kI 1)⟩,⟨some 79,some (75,true),.mv (.t 3)⟩,⟨some 80,some (75,true),.cmp .eql .i64 (.t 78) (.t 79)⟩,⟨some 81,some (65,false),.pick (.t 75) (.t 80) (.c (.sc (.bool false)))⟩,(aO 82 (.pick (.t 65) (.c (.sc (.bool true))) (.t 81))),(aO 8 (.mv (.t 82)))])
 .ret)))
def rv73 : List RV := [.tmp 8]
theorem ok73 : fnOk Try.prog ac73 rv73 Try.f73 = true := by kernel_rfl

def ac74 : AC :=
 (.seq (.reg [0,11,0] [
 (aO 1 (.box (.t 0))),(aO 2 (.mv (.c (.sc (.bool false)))))])
 (.seq (.reg [0,11,1] [
 (aO 3 (.fa 0 (.t 1))),(aO 4 (.ld false 1 (.t 3))),(aO 5 (.cmp .eql .i64 (.t 4) (kI 4))),(aO 6 (.mv (.t 5))),⟨some 7,some (6,false),.fa 0 (.t 1)⟩,⟨some 8,some (6,false),.ld false 1 (.t 7)⟩,⟨some 9,some (6,false),.cmp .eql .i64 (.t 8) (kI 5)⟩,(aO 10 (.pick (.t 6) (.c (.sc (.bool true))) (.t 9))),(aO 2 (.mv (.t 10)))])
 .ret))
def rv74 : List RV := [.tmp 2]
theorem ok74 : fnOk Try.prog ac74 rv74 Try.f74 = true := by kernel_rfl

def ac75 : AC :=
 (.seq (.reg [0,44,0,1,2] [
 (aO 3 (.box (.t 0))),(aO 4 (.box (.t 1))),(aO 5 (.box (.t 2))),(aO 6 (.mv (.c (.sc (.bool false)))))])
 (.seq (.reg [0,44,3,4,5] [
 (aO 7 (.ld true 5 (.t 3))),(aO 8 (.ld true 4 (.t 5))),(aO 9 (.fa 1 (.t 4))),(aO 10 (.ld false 1 (.t 9))),(aO 11 (.fa 2 (.t 4))),(aO 12 (.ld false 1 (.t 11))),(aO 13 (.cal 73 [(.t 7),(.t 8),(.t 10),(.t 12)])),(aO 14 (.mv (.t 13))),⟨some 15,some (14,false),.fa 0 (.t 4)⟩,⟨some 16,some (14,false),.ld false 1 (.t 15)⟩,⟨some 17,some (14,false),.cmp .eql .i64 (.t 16) (kI 4)⟩,⟨some 18,some (14,false),.mv (.t 17)⟩,⟨some 19,some (18,true),.ld true 5 (.t 3)⟩,⟨some 20,some (18,true),.ld true 4 (.t 5)⟩,⟨some 21,some (18,true),.fa 1 (.t 4)⟩,⟨some 22,some (18,true),.ld false 1 (.t 21)⟩,⟨some 23,some (18,true),.ari .add true .i64 (.t 22) (kI 1)⟩,⟨some 24,some (18,true),.fa 2 (.t 4)⟩,⟨some 25,some (18,true),.ld false 1 (.t 24)⟩,⟨some 26,some (18,true),.cal 73 [(.t 19),(.t 20),(.t 23),(.t 25)]⟩,⟨some 27,some (14,false),.pick (.t 18) (.t 26) (.c (.sc (.bool false)))⟩,(aO 28 (.pick (.t 14) (.c (.sc (.bool true))) (.t 27))),(aO 29 (.mv (.t 28))),⟨some 30,some (29,false),.fa 0 (.t 4)⟩,⟨some 31,some (29,false),.ld false 1 (.t 30)⟩,⟨some 32,some (29,false),.cmp .eql .i64 (.t 31) (kI 5)⟩,⟨some 33,some (29,false),.mv (.t 32)⟩,⟨some 34,some (33,true),.ld true 5 (.t 3)⟩,⟨some 35,some (33,true),.ld true 4 (.t 5)⟩,⟨some 36,some (33,true),.fa 1 (.t 4)⟩,⟨some 37,some (33,true),.ld false 1 (.t 36)⟩,⟨some 38,some (33,true),.fa 2 (.t 4)⟩,⟨some 39,some (33,true),.ld false 1 (.t 38)⟩,⟨some 40,some (33,true),.ari .add true .i64 (.t 39) (kI 1)⟩,⟨some 41,some (33,true),.cal 73 [(.t 34),(.t 35),(.t 37),(.t 40)]⟩,⟨some 42,some (29,false),.pick (.t 33) (.t 41) (.c (.sc (.bool false)))⟩,(aO 43 (.pick (.t 29) (.c (.sc (.bool true))) (.t 42))),(aO 6 (.mv (.t 43)))])
 .ret))
def rv75 : List RV := [.tmp 6]
theorem ok75 : fnOk Try.prog ac75 rv75 Try.f75 = true := by kernel_rfl

def ac31 : AC :=
 (.seq (.reg [0,36,0,1] [
 (aO 2 (.box (.t 0))),(aO 4 (.mv (.c (.nil))))])
 (.seq (.reg [0,36,1,2] [
 (aO 8 (.bsl 1 3 [zI] 0 [])),(aO 5 (.mv (.t 8)))])
 (.seq (.reg [0,36,1,2,5] [
 (aO 9 (.ld true 5 (.t 2))),(aO 10 (.mv (.t 1))),(aO 11 (.cal 50 [(.t 9),(.t 10)])),(aO 6 (.alc [zI,zI,zI,zI,zI])),(aN (.sto 5 (.t 6) (.t 11)))])
 (.seq (.seq (.reg [0,36,2,5,6] [
 (aO 7 (.mv (kI 0)))])
 (.block 0
 (.loop [0,36,2,5,6,7]
 (.seq (.seq (.reg [0,36,2,5,6,7] [
 (aO 12 (.mv (.t 7))),(aO 13 (.ld true 5 (.t 2))),(aO 14 (.cal 22 [(.t 13)])),(aO 15 (.cmp .lss .i64 (.t 12) (.t 14))),(aO 16 (.mv (.t 15))),⟨some 17,some (16,true),.fa 4 (.t 6)⟩,⟨some 18,some (16,true),.ld false 1 (.t 17)⟩,⟨some 19,some (16,true),.cmp .eql .i64 (.t 18) (kI 0)⟩,(aO 20 (.pick (.t 16) (.t 19) (.c (.sc (.bool false)))))])
 (.cut [0,36,2,5,6,7,20] (.cond (.t 20)
 .skip
 (.exit 0))))
 (.seq (.block 1
 (.seq (.drw [0,36,2,5,6,7] [
 (eT 23 (.ld true 5 (.t 2))),(eT 24 (.ld true 5 (.t 2))),(eT 25 (.mv (.t 7))),(eT 26 (.cal 50 [(.t 24),(.t 25)])),(eT 27 (.fl true 0 4 (.t 26))),(eT 28 (.fa 0 (.t 6))),(eT 29 (.ld true 4 (.t 28))),(eF 30 (.cal 51 [(.t 23),(.t 27),(.t 29)]))])
 (.cond (.t 30)
 (.reg [0,36,2,5,6,7] [
 (aO 31 (.mv (.t 5))),(aO 32 (.mv (.t 7))),(aO 33 (.bsl 1 3 [zI] 1 [(0,(.t 32))])),(aO 34 (.app 1 3 8 (.t 31) (.t 33))),(aO 5 (.mv (.t 34)))])
 .skip)))
 (.reg [0,36,2,5,6,7] [
 (aO 21 (.mv (.t 7))),(aO 22 (.ari .add true .i64 (.t 21) (kI 1))),(aO 7 (.mv (.t 22)))]))))))
 (.seq (.reg [0,36,5] [
 (aO 35 (.mv (.t 5))),(aO 4 (.mv (.t 35)))])
 .ret)))))
def rv31 : List RV := [.tmp 4]
theorem ok31 : fnOk Try.prog ac31 rv31 Try.f31 = true := by kernel_rfl

def ac39 : AC :=
 (.seq (.reg [0,9,0,1] [
 (aO 2 (.box (.t 0))),(aO 4 (.mv (kI 0)))])
 (.seq (.reg [0,9,1,2] [
 (aO 5 (.ld true 5 (.t 2))),(aO 6 (.mv (.t 1))),(aO 7 (.cal 31 [(.t 5),(.t 6)])),(aO 8 (.len (.t 7))),(aO 4 (.mv (.t 8)))])
 .ret))
def rv39 : List RV := [.tmp 4]
theorem ok39 : fnOk Try.prog ac39 rv39 Try.f39 = true := by kernel_rfl

def ac49 : AC :=
 (.seq (.reg [0,37,0,1] [
 (aO 4 (.mv (.c (.nil))))])
 (.seq (.reg [0,37,0,1] [
 (aO 8 (.bsl 1 3 [zI] 0 [])),(aO 5 (.mv (.t 8)))])
 (.seq (.seq (.reg [0,37,0,1,5] [
 (aO 6 (.mv (kI 0)))])
 (.block 0
 (.loop [0,37,0,1,5,6]
 (.seq (.seq (.reg [0,37,0,1,5,6] [
 (aO 9 (.mv (.t 6))),(aO 10 (.mv (.t 0))),(aO 11 (.cmp .lss .i64 (.t 9) (.t 10)))])
 (.cond (.t 11)
 .skip
 (.exit 0)))
 (.seq (.block 1
 (.seq (.reg [0,37,0,1,5,6] [
 (aO 7 (.mv (kI 2)))])
 (.seq (.seq (.reg [0,37,0,1,5,6,7] [
 (aO 14 (.mv (.t 6))),(aO 15 (.mv (.t 1))),(aO 16 (.len (.t 15))),(aO 17 (.cmp .lss .i64 (.t 14) (.t 16))),(aO 18 (.mv (.t 17))),⟨some 19,some (18,true),.mv (.t 1)⟩,⟨some 20,some (18,true),.mv (.t 6)⟩,⟨some 21,some (18,true),.ixs 1 (.t 19) (.t 20)⟩,⟨some 22,some (18,true),.ld false 1 (.t 21)⟩,⟨some 23,some (18,true),.dvd .rem true .u8 (.t 22) (.c (.sc (.int .u8 8)))⟩,⟨some 24,some (18,true),.cmp .lss .u8 (.t 23) (.c (.sc (.int .u8 2)))⟩,(aO 25 (.pick (.t 18) (.t 24) (.c (.sc (.bool false)))))])
 (.cut [0,37,0,1,5,6,7,25] (.cond (.t 25)
 (.reg [0,37,0,1,5,6] [
 (aO 26 (.mv (.t 1))),(aO 27 (.mv (.t 6))),(aO 28 (.ixs 1 (.t 26) (.t 27))),(aO 29 (.ld false 1 (.t 28))),(aO 30 (.dvd .rem true .u8 (.t 29) (.c (.sc (.int .u8 8))))),(aO 31 (.cnv true .i64 (.t 30))),(aO 7 (.mv (.t 31)))])
 .skip)))
 (.reg [0,37,0,1,5,6,7] [
 (aO 32 (.mv (.t 5))),(aO 33 (.mv (.t 7))),(aO 34 (.bsl 1 3 [zI] 1 [(0,(.t 33))])),(aO 35 (.app 1 3 8 (.t 32) (.t 34))),(aO 5 (.mv (.t 35)))]))))
 (.reg [0,37,0,1,5,6] [
 (aO 12 (.mv (.t 6))),(aO 13 (.ari .add true .i64 (.t 12) (kI 1))),(aO 6 (.mv (.t 13)))]))))))
 (.seq (.reg [0,37,5] [
 (aO 36 (.mv (.t 5))),(aO 4 (.mv (.t 36)))])
 .ret))))
def rv49 : List RV := [.tmp 4]
theorem ok49 : fnOk Try.prog ac49 rv49 Try.f49 = true := by kernel_rfl

def ac30 : AC :=
 (.seq (.reg [0,30,0] [
 (aO 1 (.box (.t 0))),(aO 2 (.alc [zI,zI,zI,zI,.nil]))])
 (.seq (.reg [0,30,1,2] [
 (aO 4 (.fa 0 (.t 1))),(aO 5 (.ld false 1 (.t 4))),(aO 6 (.dvd .rem true .u8 (.t 5) (.c (.sc (.int .u8 4))))),(aO 7 (.cnv true .i64 (.t 6))),(aO 8 (.ari .add true .i64 (kI 2) (.t 7))),(aO 9 (.fa 1 (.t 1))),(aO 10 (.ld false 1 (.t 9))),(aO 11 (.dvd .rem true .u8 (.t 10) (.c (.sc (.int .u8 4))))),(aO 12 (.cnv true .i64 (.t 11))),(aO 13 (.ari .add true .i64 (kI 2) (.t 12))),(aO 14 (.fa 2 (.t 1))),(aO 15 (.ld false 1 (.t 14))),(aO 16 (.dvd .rem true .u8 (.t 15) (.c (.sc (.int .u8 3))))),(aO 17 (.cnv true .i64 (.t 16))),(aO 18 (.ari .add true .i64 (kI 2) (.t 17))),(aO 19 (.bld [zI,zI,zI,zI,.nil] [(0,1,(.t 8)),(1,1,(.t 13)),(2,1,(.t 18)),(3,1,(kI 24))])),(aO 3 (.alc [zI,zI,zI,zI,.nil])),(aN (.sto 5 (.t 3) (.t 19)))])
 (.seq (.reg [0,30,1,2,3] [
 (aO 20 (.fa 0 (.t 3))),(aO 21 (.ld false 1 (.t 20))),(aO 22 (.fa 1 (.t 3))),(aO 23 (.ld false 1 (.t 22))),(aO 24 (.ari .mul true .i64 (.t 21) (.t 23))),(aO 25 (.fa 4 (.t 1))),(aO 26 (.ld false 1 (.t 25))),(aO 27 (.cal 49 [(.t 24),(.t 26)])),(aO 28 (.fa 4 (.t 3))),(aN (.sto 1 (.t 28) (.t 27)))])
 (.seq (.reg [0,30,2,3] [
 (aO 29 (.ld true 5 (.t 3))),(aN (.sto 5 (.t 2) (.t 29)))])
 .ret))))
def rv30 : List RV := [.cell 2 true 5]
theorem ok30 : fnOk Try.prog ac30 rv30 Try.f30 = true := by kernel_rfl

def ac41 : AC :=
 (.seq (.reg [0,15,0,1,2] [
 (aO 6 (.mv (.c (.sc (.bool false)))))])
 (.seq (.reg [0,15,0,1,2] [
 (aO 7 (.mv (.t 1))),(aO 8 (.mv (.t 0))),(aO 9 (.cmp .leq .i64 (.t 7) (.t 8))),(aO 10 (.mv (.t 9))),⟨some 11,some (10,true),.mv (.t 0)⟩,⟨some 12,some (10,true),.mv (.t 2)⟩,⟨some 13,some (10,true),.cmp .leq .i64 (.t 11) (.t 12)⟩,(aO 14 (.pick (.t 10) (.t 13) (.c (.sc (.bool false))))),(aO 6 (.mv (.t 14)))])
 .ret))
def rv41 : List RV := [.tmp 6]
theorem ok41 : fnOk Try.prog ac41 rv41 Try.f41 = true := by kernel_rfl

def ac68 : AC :=
 (.seq (.reg [0,14,0,1] [
 (aO 4 (.mv (.c (.sc (.bool false)))))])
 (.seq (.seq (.reg [0,14,0,1] [
 (aO 5 (.mv (.t 0)))])
 (.block 0
 (.seq (.reg [0,14,1,5] [
 (aO 7 (.cmp .eql .i64 (.t 5) (kI 0))),(aO 6 (.mv (.t 7)))])
 (.cond (.t 6)
 (.seq (.reg [0,14,1] [
 (aO 8 (.mv (.t 1))),(aO 9 (.cmp .eql .i64 (.t 8) (kI 0))),(aO 4 (.mv (.t 9)))])
 .ret)
 (.seq (.reg [0,14,1,5] [
 (aO 11 (.cmp .eql .i64 (.t 5) (kI 1))),(aO 10 (.mv (.t 11)))])
 (.cond (.t 10)
 (.seq (.reg [0,14,1] [
 (aO 12 (.mv (.t 1))),(aO 13 (.cmp .neq .i64 (.t 12) (kI 3))),(aO 4 (.mv (.t 13)))])
 .ret)
 .skip))))))
 (.seq (.reg [0,14] [
 (aO 4 (.mv (.c (.sc (.bool true)))))])
 .ret)))
def rv68 : List RV := [.tmp 4]
theorem ok68 : fnOk Try.prog ac68 rv68 Try.f68 = true := by kernel_rfl

def ac18 : AC :=
 (.seq (.reg [0,87,0,1] [
 (aO 2 (.box (.t 0))),(aO 3 (.box (.t 1))),(aO 4 (.mv (kI 0)))])
 (.seq (.reg [0,87,2,3] [
 (aO 10 (.fa 4 (.t 2))),(aO 11 (.ld false 1 (.t 10))),(aO 12 (.len (.t 11))),(aO 5 (.mv (.t 12)))])
 (.seq (.seq (.drw [0,87,2,3,5] [
 (eT 13 (.fa 0 (.t 3))),(eT 14 (.ld false 1 (.t 13))),(eT 15 (.len (.t 14))),(eT 16 (.ld true 5 (.t 2))),(eT 17 (.cal 40 [(.t 16)])),(eF 18 (.cmp .neq .i64 (.t 15) (.t 17))),(eF 19 (.mv (.t 18))),⟨⟨some 20,some (19,false),.fa 1 (.t 3)⟩,[],[],true⟩,⟨⟨some 21,some (19,false),.ld false 1 (.t 20)⟩,[],[],true⟩,⟨⟨some 22,some (19,false),.len (.t 21)⟩,[],[],true⟩,⟨⟨some 23,some (19,false),.mv (.t 5)⟩,[],[],true⟩,⟨⟨some 24,some (19,false),.cmp .neq .i64 (.t 22) (.t 23)⟩,[],[],false⟩,(eF 25 (.pick (.t 19) (.c (.sc (.bool true))) (.t 24))),(eF 26 (.mv (.t 25))),⟨⟨some 27,some (26,false),.fa 2 (.t 3)⟩,[],[],true⟩,⟨⟨some 28,some (26,false),.ld false 1 (.t 27)⟩,[],[],true⟩,⟨⟨some 29,some (26,false),.len (.t 28)⟩,[],[],true⟩,⟨⟨some 30,some (26,false),.mv (.t 5)⟩,[],[],true⟩,⟨⟨some 31,some (26,false),.cmp .neq .i64 (.t 29) (.t 30)⟩,[],[],false⟩,(eF 32 (.pick (.t 26) (.c (.sc (.bool true))) (.t 31))),(eF 33 (.mv (.t 32))),⟨⟨some 34,some (33,false),.fa 3 (.t 3)⟩,[],[],true⟩,⟨⟨some 35,some (33,false),.ld false 1 (.t 34)⟩,[],[],true⟩,⟨⟨some 36,some (33,false),.len (.t 35)⟩,[],[],true⟩,⟨⟨some 37,some (33,false),.mv (.t 5)⟩,[],[],true⟩,⟨⟨some 38,some (33,false),.cmp .neq .i64 (.t 36) (.t 37)⟩,[],[],false⟩,(eF 39 (.pick (.t 33) (.c (.sc (.bool true))) (.t 38)))])
 (.cut [0,87,2,3,39] (.cond (.t 39)
 (.seq (.reg [0,87] [
 (aO 4 (.mv (kI 310)))])
 .ret)
 .skip)))
 (.seq (.seq (.reg [0,87,2,3] [
 (aO 40 (.fa 0 (.t 3))),(aO 41 (.ld false 1 (.t 40))),(aO 42 (.len (.t 41))),(aO 43 (.mv (kI 0)))])
 (.block 0
 (.loop [0,87,2,3,41,42,43]
 (.seq (.reg [0,87,2,3,41,42,43] [
 (aO 44 (.cmp .lss .i64 (.t 43) (.t 42)))])
 (.seq (.cond (.t 44)
 .skip
 (.exit 0))
 (.seq (.block 1
 (.seq (.reg [0,87,2,3,41,42,43] [
 (aO 45 (.mv (.t 43))),(aO 46 (.ixs 1 (.t 41) (.t 43))),(aO 47 (.ld false 1 (.t 46))),(aO 6 (.mv (.t 45))),(aO 7 (.mv (.t 47)))])
 (.seq (.reg [0,87,2,3,6,7,41,42,43] [
 (aO 48 (.mv (.t 7))),(aO 49 (.cmp .neq .i64 (.t 48) (kI 0))),(aO 50 (.mv (.t 49))),⟨some 51,some (50,true),.mv (.t 7)⟩,⟨some 52,some (50,true),.ld true 5 (.t 2)⟩,⟨some 53,some (50,true),.mv (.t 6)⟩,⟨some 54,some (50,true),.cal 42 [(.t 52),(.t 53)]⟩,⟨some 55,some (50,true),.len (.t 54)⟩,⟨some 56,some (50,true),.cal 41 [(.t 51),(kI 1),(.t 55)]⟩,⟨some 57,some (50,true),.not (.t 56)⟩,(aO 58 (.pick (.t 50) (.t 57) (.c (.sc (.bool false)))))])
 (.cut [0,87,2,3,41,42,43,58] (.cond (.t 58)
 (.seq (.reg [0,87] [
 (aO 4 (.mv (kI 310)))])
 .ret)
 .skip)))))
 (.reg [0,87,2,3,41,42,43] [
 (aO 59 (.ari .add true .i64 (.t 43) (kI 1))),(aO 43 (.mv (.t 59)))])))))))
 (.seq (.seq (.reg [0,87,2,3] [
 (aO 60 (.fa 4 (.t 2))),(aO 61 (.ld false 1 (.t 60))),(aO 62 (.len (.t 61))),(aO 63 (.mv (kI 0)))])
 (.block 2
 (.loop [0,87,3,61,62,63]
 (.seq (.reg [0,87,3,61,62,63] [
 (aO 64 (.cmp .lss .i64 (.t 63) (.t 62)))])
 (.seq (.cond (.t 64)
 .skip
 (.exit 2))
 (.seq (.block 3
 (.seq (.reg [0,87,3,61,62,63] [
 (aO 65 (.mv (.t 63))),(aO 66 (.ixs 1 (.t 61) (.t 63))),(aO 67 (.ld false 1 (.t 66))),(aO 8 (.mv (.t 65))),(aO 9 (.mv (.t 67)))])
 (.seq (.drw [0,87,3,8,9,61,62,63] [
 (eT 68 (.mv (.t 9))),(eT 69 (.fa 1 (.t 3))),(eT 70 (.ld false 1 (.t 69))),(eT 71 (.mv (.t 8))),(eT 72 (.ixs 1 (.t 70) (.t 71))),(eT 73 (.ld false 1 (.t 72))),(eT 74 (.fa 2 (.t 3))),(eT 75 (.ld false 1 (.t 74))),(eT 76 (.mv (.t 8))),(eT 77 (.ixs 1 (.t 75) (.t 76))),(eT 78 (.ld false 1 (.t 77))),(eT 79 (.fa 3 (.t 3))),(eT 80 (.ld false 1 (.t 79))),(eT 81 (.mv (.t 8))),(eT 82 (.ixs 1 (.t 80) (.t 81))),(eT 83 (.ld false 1 (.t 82))),(eF 84 (.cal 43 [(.t 68),(.t 73),(.t 78),(.t 83)])),(eF 85 (.not (.t 84)))])
 (.cond (.t 85)
 (.seq (.reg [0,87] [
 (aO 4 (.mv (kI 310)))])
 .ret)
 .skip))))
 (.reg [0,87,3,61,62,63] [
 (aO 86 (.ari .add true .i64 (.t 63) (kI 1))),(aO 63 (.mv (.t 86)))])))))))
 (.seq (.reg [0,87] [
 (aO 4 (.mv (kI 0)))])
 .ret))))))
def rv18 : List RV := [.tmp 4]
theorem ok18 : fnOk Try.prog ac18 rv18 Try.f18 = true := by kernel_rfl

def ac20 : AC :=
 (.seq (.reg [0,17,0] [
 (aO 1 (.box (.t 0))),(aO 2 (.alc [.nil,.nil,.nil,.nil]))])
 (.seq (.reg [0,17,1,2] [
 (aO 4 (.fa 4 (.t 1))),(aO 5 (.ld false 1 (.t 4))),(aO 6 (.len (.t 5))),(aO 3 (.mv (.t 6)))])
 (.seq (.drw [0,17,1,2,3] [
 (eU 7 (.ld true 5 (.t 1)) [] [11,13,15]),(eU 8 (.cal 40 [(.t 7)]) [] [11,13,15]),(eU 9 (.mks 1 3 8 [zI] (.t 8) (.t 8)) [9] [11,13,15]),(eU 10 (.mv (.t 3)) [] [9,13,15]),(eU 11 (.mks 1 3 8 [zI] (.t 10) (.t 10)) [11] [9,13,15]),(eU 12 (.mv (.t 3)) [] [9,11,15]),(eU 13 (.mks 1 3 8 [zI] (.t 12) (.t 12)) [13] [9,11,15]),(eU 14 (.mv (.t 3)) [] [9,11,13]),(eU 15 (.mks 1 3 8 [zI] (.t 14) (.t 14)) [15] [9,11,13]),(eF 16 (.bld [.nil,.nil,.nil,.nil] [(0,1,(.t 9)),(1,1,(.t 11)),(2,1,(.t 13)),(3,1,(.t 15))])),⟨(aN (.sto 4 (.t 2) (.t 16))),[],[],false⟩])
 .ret)))
def rv20 : List RV := [.cell 2 true 4]
theorem ok20 : fnOk Try.prog ac20 rv20 Try.f20 = true := by kernel_rfl

def ac26 : AC :=
 (.seq (.reg [0,24,0,1] [
 (aO 2 (.box (.t 0))),(aO 3 (.box (.t 1))),(aO 4 (.mv (.c (.nil))))])
 (.seq (.reg [0,24,3] [
 (aO 5 (.mv (.c (.nil))))])
 (.seq (.seq (.reg [0,24,3,5] [
 (aO 8 (.fa 0 (.t 3))),(aO 9 (.ld false 1 (.t 8))),(aO 10 (.len (.t 9))),(aO 11 (.mv (kI 0)))])
 (.block 0
 (.loop [0,24,5,9,10,11]
 (.seq (.reg [0,24,5,9,10,11] [
 (aO 12 (.cmp .lss .i64 (.t 11) (.t 10)))])
 (.seq (.cond (.t 12)
 .skip
 (.exit 0))
 (.seq (.block 1
 (.seq (.reg [0,24,5,9,10,11] [
 (aO 13 (.mv (.t 11))),(aO 14 (.ixs 1 (.t 9) (.t 11))),(aO 15 (.ld false 1 (.t 14))),(aO 6 (.mv (.t 13))),(aO 7 (.mv (.t 15)))])
 (.seq (.reg [0,24,5,6,7,9,10,11] [
 (aO 16 (.mv (.t 7))),(aO 17 (.cmp .neq .i64 (.t 16) (kI 0)))])
 (.cond (.t 17)
 (.reg [0,24,5,6,9,10,11] [
 (aO 18 (.mv (.t 5))),(aO 19 (.mv (.t 6))),(aO 20 (.bsl 1 3 [zI] 1 [(0,(.t 19))])),(aO 21 (.app 1 3 8 (.t 18) (.t 20))),(aO 5 (.mv (.t 21)))])
 .skip))))
 (.reg [0,24,5,9,10,11] [
 (aO 22 (.ari .add true .i64 (.t 11) (kI 1))),(aO 11 (.mv (.t 22)))])))))))
 (.seq (.reg [0,24,5] [
 (aO 23 (.mv (.t 5))),(aO 4 (.mv (.t 23)))])
 .ret))))
def rv26 : List RV := [.tmp 4]
theorem ok26 : fnOk Try.prog ac26 rv26 Try.f26 = true := by kernel_rfl

def ac70 : AC :=
 (.seq (.reg [0,42,0,1] [
 (aO 4 (.mv (.c (.nil))))])
 (.seq (.reg [0,42,0,1] [
 (aO 5 (.mv (.c (.nil))))])
 (.seq (.seq (.reg [0,42,0,1,5] [
 (aO 7 (.mv (.t 0))),(aO 8 (.len (.t 7))),(aO 9 (.mv (.t 1))),(aO 10 (.len (.t 9))),(aO 11 (.mn true (.t 8) (.t 10))),(aO 12 (.mv (kI 0)))])
 (.block 0
 (.loop [0,42,0,1,5,11,12]
 (.seq (.reg [0,42,0,1,5,11,12] [
 (aO 13 (.cmp .lss .i64 (.t 12) (.t 11)))])
 (.seq (.cond (.t 13)
 .skip
 (.exit 0))
 (.seq (.block 1
 (.seq (.reg [0,42,0,1,5,11,12] [
 (aO 14 (.mv (.t 12))),(aO 6 (.mv (.t 14)))])
 (.seq (.drw [0,42,0,1,5,6,11,12] [
 (eT 15 (.mv (.t 6))),(eT 16 (.mv (.t 0))),(eT 17 (.len (.t 16))),(eF 18 (.cmp .geq .i64 (.t 15) (.t 17))),(eF 19 (.mv (.t 18))),⟨⟨some 20,some (19,false),.mv (.t 6)⟩,[],[],true⟩,⟨⟨some 21,some (19,false),.mv (.t 1)⟩,[],[],true⟩,⟨⟨some 22,some (19,false),.len (.t 21)⟩,[],[],true⟩,⟨⟨some 23,some (19,false),.cmp .geq .i64 (.t 20) (.t 22)⟩,[],[],false⟩,(eF 24 (.pick (.t 19) (.c (.sc (.bool true))) (.t 23))),(eF 25 (.mv (.t 24))),⟨⟨some 26,some (25,false),.mv (.t 0)⟩,[],[],true⟩,⟨⟨some 27,some (25,false),.mv (.t 6)⟩,[],[],true⟩,⟨⟨some 28,some (25,false),.ixs 1 (.t 26) (.t 27)⟩,[],[],true⟩,⟨⟨some 29,some (25,false),.ld false 1 (.t 28)⟩,[],[],true⟩,⟨⟨some 30,some (25,false),.mv (.t 1)⟩,[],[],true⟩,⟨⟨some 31,some (25,false),.mv (.t 6)⟩,[],[],true⟩,⟨⟨some 32,some (25,false),.ixs 1 (.t 30) (.t 31)⟩,[],[],true⟩,⟨⟨some 33,some (25,false),.ld false 1 (.t 32)⟩,[],[],true⟩,⟨⟨some 34,some (25,false),.cmp .neq .i64 (.t 29) (.t 33)⟩,[],[],false⟩,(eF 35 (.pick (.t 25) (.c (.sc (.bool true))) (.t 34)))])
 (.cut [0,42,0,1,5,6,11,12,35] (.cond (.t 35)
 (.reg [0,42,0,1,5,6,11,12] [
 (aO 36 (.mv (.t 5))),(aO 37 (.mv (.t 6))),(aO 38 (.bsl 1 3 [zI] 1 [(0,(.t 37))])),(aO 39 (.app 1 3 8 (.t 36) (.t 38))),(aO 5 (.mv (.t 39)))])
 .skip)))))
 (.reg [0,42,0,1,5,11,12] [
 (aO 40 (.ari .add true .i64 (.t 12) (kI 1))),(aO 12 (.mv (.t 40)))])))))))
 (.seq (.reg [0,42,5] [
 (aO 41 (.mv (.t 5))),(aO 4 (.mv (.t 41)))])
 .ret))))
def rv70 : List RV := [.tmp 4]
theorem ok70 : fnOk Try.prog ac70 rv70 Try.f70 = true := by kernel_rfl

def ac47 : AC :=
 (.seq (.reg [0,33,0,1] [
 (aO 2 (.box (.t 0))),(aO 3 (.box (.t 1))),(aO 4 (.mv (.c (.nil)))),(aO 5 (.mv (.c (.nil))))])
 (.seq (.drw [0,33,2,3] [
 (eT 7 (.fa 1 (.t 2))),(eT 8 (.ld false 1 (.t 7))),(eT 9 (.fa 1 (.t 3))),(eT 10 (.ld false 1 (.t 9))),(eT 11 (.cal 70 [(.t 8),(.t 10)])),(eT 12 (.fa 2 (.t 2))),(eT 13 (.ld false 1 (.t 12))),(eT 14 (.fa 2 (.t 3))),(eT 15 (.ld false 1 (.t 14))),(eT 16 (.cal 70 [(.t 13),(.t 15)])),(eT 17 (.fa 3 (.t 2))),(eT 18 (.ld false 1 (.t 17))),(eT 19 (.fa 3 (.t 3))),(eT 20 (.ld false 1 (.t 19))),(eF 21 (.cal 70 [(.t 18),(.t 20)])),(eF 22 (.bsl 1 29 [.nil] 3 [(0,(.t 11)),(1,(.t 16)),(2,(.t 21))])),(eF 23 (.clm 69 [(.t 22)])),(eF 6 (.mv (.t 23)))])
 (.seq (.reg [0,33,2,3,6] [
 (aO 24 (.mv (.t 6))),(aO 25 (.clm 71 [(.t 24)]))])
 (.seq (.reg [0,33,2,3,6] [
 (aO 26 (.fa 0 (.t 2))),(aO 27 (.ld false 1 (.t 26))),(aO 28 (.fa 0 (.t 3))),(aO 29 (.ld false 1 (.t 28))),(aO 30 (.cal 70 [(.t 27),(.t 29)])),(aO 31 (.mv (.t 6))),(aO 32 (.clm 72 [(.t 31)])),(aO 4 (.mv (.t 30))),(aO 5 (.mv (.t 32)))])
 .ret))))
def rv47 : List RV := [.tmp 4,.tmp 5]
theorem ok47 : fnOk Try.prog ac47 rv47 Try.f47 = true := by kernel_rfl

def ac69_500 : AC :=
 (.seq (.reg [500,36,500] [
 (aO 502 (.mv (.c (.nil))))])
 (.seq (.reg [500,36,500] [
 (aO 503 (.mv (kI 0)))])
 (.seq (.seq (.reg [500,36,500,503] [
 (aO 509 (.mv (.t 500))),(aO 510 (.len (.t 509))),(aO 511 (.mv (kI 0)))])
 (.block 0
 (.loop [500,36,500,503,509,510,511]
 (.seq (.reg [500,36,500,503,509,510,511] [
 (aO 512 (.cmp .lss .i64 (.t 511) (.t 510)))])
 (.seq (.cond (.t 512)
 .skip
 (.exit 0))
 (.seq (.block 1
 (.seq (.reg [500,36,500,503,509,510,511] [
 (aO 513 (.ixs 1 (.t 509) (.t 511))),(aO 514 (.ld false 1 (.t 513))),(aO 505 (.mv (.t 514)))])
 (.seq (.reg [500,36,500,503,505,509,510,511] [
 (aO 515 (.mv (.t 503))),(aO 516 (.mv (.t 505))),(aO 517 (.len (.t 516))),(aO 518 (.ari .add true .i64 (.t 515) (.t 517))),(aO 503 (.mv (.t 518)))])
 (.seq (.reg [500,36,500,503,509,510,511] [
 (aO 519 (.mv (.t 503))),(aO 520 (.cmp .lss .i64 (.t 519) (kI 0)))])
 (.cond (.t 520)
 (.reg [500,36,500,503,509,510,511] [
 (aO 521 (.bad)),(aN (.bad))])
 .skip)))))
 (.reg [500,36,500,503,509,510,511] [
 (aO 522 (.ari .add true .i64 (.t 511) (kI 1))),(aO 511 (.mv (.t 522)))])))))))
 (.seq (.reg [500,36,500,503] [
 (aO 523 (.mv (.t 503))),(aO 524 (.clm 82 [(.c (.nil)),(.t 523)])),(aO 506 (.mv (.t 524)))])
 (.seq (.seq (.reg [500,36,500,506] [
 (aO 525 (.mv (.t 500))),(aO 526 (.len (.t 525))),(aO 527 (.mv (kI 0)))])
 (.block 2
 (.loop [500,36,506,525,526,527]
 (.seq (.reg [500,36,506,525,526,527] [
 (aO 528 (.cmp .lss .i64 (.t 527) (.t 526)))])
 (.seq (.cond (.t 528)
 .skip
 (.exit 2))
 (.seq (.block 3
 (.seq (.reg [500,36,506,525,526,527] [
 (aO 529 (.ixs 1 (.t 525) (.t 527))),(aO 530 (.ld false 1 (.t 529))),(aO 508 (.mv (.t 530)))])
 (.reg [500,36,506,508,525,526,527] [
 (aO 531 (.mv (.t 506))),(aO 532 (.mv (.t 508))),(aO 533 (.app 1 3 8 (.t 531) (.t 532))),(aO 506 (.mv (.t 533)))])))
 (.reg [500,36,506,525,526,527] [
 (aO 534 (.ari .add true .i64 (.t 527) (kI 1))),(aO 527 (.mv (.t 534)))])))))))
 (.seq (.reg [500,36,506] [
 (aO 535 (.mv (.t 506))),(aO 502 (.mv (.t 535)))])
 .ret))))))
def rv69_500 : List RV := [.tmp 502]
theorem ok69_500 : fnOkK Try.prog 500 ac69_500 rv69_500 Try.f69 = true := by kernel_rfl

def ac82_600 : AC :=
 (.seq (.reg [600,27,600,601] [
 (aO 604 (.mv (.c (.nil))))])
 (.seq (.seq (.reg [600,27,600,601] [
 (aO 605 (.mv (.t 601))),(aO 606 (.cmp .lss .i64 (.t 605) (kI 0)))])
 (.cond (.t 606)
 (.reg [600,27,600,601] [
 (aO 607 (.bad)),(aN (.bad))])
 .skip))
 (.seq (.seq (.reg [600,27,600,601] [
 (aO 608 (.mv (.t 601))),(aO 609 (.mv (.t 600))),(aO 610 (.xo .cap0 [(.t 609)])),(aO 611 (.mv (.t 600))),(aO 612 (.len (.t 611))),(aO 613 (.ari .sub true .i64 (.t 610) (.t 612))),(aO 614 (.ari .sub true .i64 (.t 608) (.t 613))),(aO 601 (.mv (.t 614)))])
 (.seq (.reg [600,27,600,601] [
 (aO 615 (.mv (.t 601))),(aO 616 (.cmp .gtr .i64 (.t 615) (kI 0)))])
 (.cond (.t 616)
 (.reg [600,27,600,601] [
 (aO 617 (.mv (.t 600))),(aO 618 (.mv (.t 600))),(aO 619 (.xo .cap0 [(.t 618)])),(aO 620 (.slc 1 (.t 617) none (some (.t 619)))),(aO 621 (.mv (.t 601))),(aO 622 (.xo (.apm 1 3 8 [zI]) [(.t 620),(.t 621)])),(aO 623 (.mv (.t 600))),(aO 624 (.len (.t 623))),(aO 625 (.slc 1 (.t 622) none (some (.t 624)))),(aO 600 (.mv (.t 625)))])
 .skip)))
 (.seq (.reg [600,27,600] [
 (aO 626 (.mv (.t 600))),(aO 604 (.mv (.t 626)))])
 .ret))))
def rv82_600 : List RV := [.tmp 604]
theorem ok82_600 : fnOkK Try.prog 600 ac82_600 rv82_600 Try.f82 = true := by kernel_rfl

def ac25 : AC :=
 (.seq (.reg [0,26,0,1] [
 (aO 4 (.mv (.c (.sc (.bool false)))))])
 (.seq (.seq (.reg [0,26,0,1] [
 (aO 6 (.mv (.t 0))),(aO 7 (.len (.t 6))),(aO 8 (.mv (.t 1))),(aO 9 (.len (.t 8))),(aO 10 (.cmp .neq .i64 (.t 7) (.t 9)))])
 (.cond (.t 10)
 (.seq (.reg [0,26] [
 (aO 4 (.mv (.c (.sc (.bool false)))))])
 .ret)
 .skip))
 (.seq (.seq (.reg [0,26,0,1] [
 (aO 5 (.mv (kI 0)))])
 (.block 0
 (.loop [0,26,0,1,5]
 (.seq (.seq (.reg [0,26,0,1,5] [
 (aO 11 (.mv (.t 5))),(aO 12 (.mv (.t 0))),(aO 13 (.len (.t 12))),(aO 14 (.cmp .lss .i64 (.t 11) (.t 13)))])
 (.cond (.t 14)
 .skip
 (.exit 0)))
 (.seq (.block 1
 (.seq (.drw [0,26,0,1,5] [
 (eT 17 (.mv (.t 0))),(eT 18 (.mv (.t 5))),(eT 19 (.ixs 1 (.t 17) (.t 18))),(eT 20 (.ld false 1 (.t 19))),(eT 21 (.mv (.t 1))),(eT 22 (.mv (.t 5))),(eT 23 (.ixs 1 (.t 21) (.t 22))),(eT 24 (.ld false 1 (.t 23))),(eF 25 (.cmp .neq .i64 (.t 20) (.t 24)))])
 (.cond (.t 25)
 (.seq (.reg [0,26] [
 (aO 4 (.mv (.c (.sc (.bool false)))))])
 .ret)
 .skip)))
 (.reg [0,26,0,1,5] [
 (aO 15 (.mv (.t 5))),(aO 16 (.ari .add true .i64 (.t 15) (kI 1))),(aO 5 (.mv (.t 16)))]))))))
 (.seq (.reg [0,26] [
 (aO 4 (.mv (.c (.sc (.bool true)))))])
 .ret))))
def rv25 : List RV := [.tmp 4]
theorem ok25 : fnOk Try.prog ac25 rv25 Try.f25 = true := by kernel_rfl
end Go.Proofs.Ytledbjkolidhkaa.Txt
namespace Go.Vc
open Go Go.RowKit
def evL (st : St) : List Opd -> List PV
 | [] => []
 | x :: r => x.ev st :: evL st r
theorem evL_eq (st : St) (l : List Opd) : l.map (·.ev st) = evL st l := by induction l <;> simp_all [evL]
@[push_cast] theorem evL_nil (st : St) : evL st [] = [] := rfl
@[push_cast] theorem evL_cons (st : St) (x : Opd) (r : List Opd) : evL st (x :: r) = x.ev st :: evL st r := rfl
def boxI : List PV -> List Nat -> Option (List Nat)
 | [],acc => some acc
 | .ptr i 0 :: r,acc => boxI r (acc ++ [i])
 | _ :: _,_ => none
theorem boxI_eq : ∀ (l : List PV) (acc : List Nat),boxI l acc = (boxIds l).map (acc ++ ·)
 | [],acc => by simp [boxI,boxIds]
 | c :: r, acc => by
   cases c with
   | ptr i off =>
     cases off with
     | zero =>
       simp only [boxI,boxIds,boxI_eq r]
       cases boxIds r <;> simp
     | succ n => rfl
   | _ => rfl
@[push_cast] theorem boxI_nil (acc : List Nat) : boxI [] acc = some acc := rfl
@[push_cast] theorem boxI_ptr (i : Nat) (r : List PV) (acc : List Nat) : boxI (.ptr i 0 :: r) acc = boxI r (acc ++ [i]) := rfl
attribute [push_cast] List.nil_append List.cons_append
def mkfV (f : Nat) : Option (List Nat) -> Prop × PV
 | some [] => (True,.sc (.func (.func f) #[] #[]))
 | some ids => (True,.clo f ids)
 | none => (False,.bot)
@[push_cast] theorem mkfV_nil (f : Nat) : mkfV f (some []) = (True,.sc (.func (.func f) #[] #[])) := rfl
@[push_cast] theorem mkfV_cons (f i : Nat) (r : List Nat) : mkfV f (some (i :: r)) = (True,.clo f (i :: r)) := rfl
def mlkT (ok : Bool) (zero : PV) (o : Option PV) : PV := bif ok then (match o with | some v => .tup [v,.sc (.bool true)] | none => .tup [zero,.sc (.bool false)]) else o.getD zero
@[push_cast] theorem mlkT_tn (zero : PV) : mlkT true zero none = .tup [zero,.sc (.bool false)] := rfl
@[push_cast] theorem mlkT_ts (zero v : PV) : mlkT true zero (some v) = .tup [v,.sc (.bool true)] := rfl
@[push_cast] theorem mlkT_fn (zero : PV) : mlkT false zero none = zero := rfl
@[push_cast] theorem mlkT_fs (zero v : PV) : mlkT false zero (some v) = v := rfl
def mlkM (kd : KD) (ok : Bool) (zero : PV) (kv : Value) : Option Mp -> Prop × PV
 | some M => (M.kd = kd /\ kd.has kv = true,mlkT ok zero (mget M.es kv))
 | none => (False,.bot)
def mlkO (kd : KD) (ok : Bool) (zero : PV) (M : Option Mp) : Option Value -> Prop × PV
 | some kv => mlkM kd ok zero kv M
 | none => (False,.bot)
def mlkV (st : St) (kd : KD) (ok : Bool) (zero : PV) : PV -> PV -> Prop × PV
 | .mp id,k => mlkO kd ok zero (lk st.m id) (keyV k)
 | _,_ => (False,.bot)
def keyA : Option (List Value) -> Option Value
 | some l => some (.agg l.toArray)
 | none => none
def keyC (n : Int) : Option (List Value) -> Option (List Value)
 | some l => some (.int .i64 n :: l)
 | none => none
@[push_cast] theorem mlkO_some (kd : KD) (ok : Bool) (zero : PV) (M : Option Mp) (kv : Value) : mlkO kd ok zero M (some kv) = mlkM kd ok zero kv M := rfl
@[push_cast] theorem keyV_agg (cs : List PV) : keyV (.agg cs) = keyA (keyL cs) := by
 show (keyL cs).map _ = _
 cases keyL cs <;> rfl
@[push_cast] theorem keyA_some (l : List Value) : keyA (some l) = some (.agg l.toArray) := rfl
@[push_cast] theorem keyL_nil : keyL [] = some [] := rfl
@[push_cast] theorem keyL_cons (n : Int) (r : List PV) : keyL (.sc (.int .i64 n) :: r) = keyC n (keyL r) := by
 show (keyL r).map _ = _
 cases keyL r <;> rfl
@[push_cast] theorem keyC_some (n : Int) (l : List Value) : keyC n (some l) = some (.int .i64 n :: l) := rfl
@[push_cast] theorem has_st (n : Nat) (l : List Value) : KD.has (.st n) (.agg l.toArray) = i64s n l := rfl
@[push_cast] theorem i64s_nil : i64s 0 [] = true := rfl
@[push_cast] theorem i64s_cons (n : Nat) (m : Int) (r : List Value) : i64s (n + 1) (.int .i64 m :: r) = i64s n r := rfl
@[push_cast] theorem i64s_one (m : Int) : i64s 1 [.int .i64 m] = true := rfl
@[push_cast] theorem i64s_two (m n : Int) : i64s 2 [.int .i64 m,.int .i64 n] = true := rfl
@[push_cast] theorem i64s_three (m n k : Int) : i64s 3 [.int .i64 m,.int .i64 n,.int .i64 k] = true := rfl
@[push_cast] theorem sc_int (k : IntKind) : (KD.sc (.int k) = true) = True := by simp [KD.sc]
@[push_cast] theorem sc_str : (KD.sc .str = true) = True := by simp [KD.sc]
@[push_cast] theorem sc_bol : (KD.sc .bol = true) = True := by simp [KD.sc]
@[push_cast] theorem mlkM_some (kd kd' : KD) (ok : Bool) (zero : PV) (kv : Value) (es : List (Value × PV)) (it : Option (Nat × List (Value × PV) × Option (Value × PV))) : mlkM kd ok zero kv (some ⟨kd',es,it⟩) = (kd' = kd /\ kd.has kv = true,mlkT ok zero (mget es kv)) := rfl
@[push_cast] theorem mlkV_mp (s : List (Nat × PV)) (b : List (Nat × List PV)) (a : List (Nat × Arr)) (m : List (Nat × Mp)) (kd : KD) (ok : Bool) (zero : PV) (id : Nat) (kv : Value) : mlkV ⟨s,b,a,m⟩ kd ok zero (.mp id) (.sc kv) = mlkM kd ok zero kv (lk m id) := rfl
@[push_cast] theorem mlkV_ag (s : List (Nat × PV)) (b : List (Nat × List PV)) (a : List (Nat × Arr)) (m : List (Nat × Mp)) (kd : KD) (ok : Bool) (zero : PV) (id : Nat) (cs : List PV) : mlkV ⟨s,b,a,m⟩ kd ok zero (.mp id) (.agg cs) = mlkO kd ok zero (lk m id) (keyV (.agg cs)) := rfl
@[push_cast] theorem has_int (k l : IntKind) (n : Int) : KD.has (.int k) (.int l n) = (k == l) := rfl
@[push_cast] theorem has_str (s : ByteArray) : KD.has .str (.string s) = true := rfl
@[push_cast] theorem has_bol (b : Bool) : KD.has .bol (.bool b) = true := rfl
@[push_cast] theorem mget_nil (k : Value) : mget [] k = none := rfl
@[push_cast] theorem mput_nil (k : Value) (v : PV) : mput [] k v = [(k,v)] := rfl
def entO (kd : KD) (it : Nat) : Option (Nat × List (Value × PV) × Option (Value × PV)) -> Prop × PV
 | some (it',_,some (k,v)) => (it' = it /\ kd.sc = true,.tup [.sc k,v])
 | _ => (False,.bot)
def entM (it : Nat) : Option Mp -> Prop × PV
 | some M => entO M.kd it M.it
 | none => (False,.bot)
def entV (st : St) : PV -> Prop × PV
 | .itr id it => entM it (lk st.m id)
 | _ => (False,.bot)
@[push_cast] theorem entM_some (it it' : Nat) (kd : KD) (es l : List (Value × PV)) (k : Value) (v : PV) : entM it (some ⟨kd,es,some (it',l,some (k,v))⟩) = (it' = it /\ kd.sc = true,.tup [.sc k,v]) := rfl
@[push_cast] theorem entV_itr (s : List (Nat × PV)) (b : List (Nat × List PV)) (a : List (Nat × Arr)) (m : List (Nat × Mp)) (id it : Nat) : entV ⟨s,b,a,m⟩ (.itr id it) = entM it (lk m id) := rfl
def mlnM : Option Mp -> Prop × PV
 | some M => (True,.int M.es.length)
 | none => (False,.bot)
def mlnV (st : St) : PV -> Prop × PV
 | .mp id => mlnM (lk st.m id)
 | _ => (False,.bot)
@[push_cast] theorem mlnM_some (kd : KD) (es : List (Value × PV)) (it : Option (Nat × List (Value × PV) × Option (Value × PV))) : mlnM (some ⟨kd,es,it⟩) = (True,.int es.length) := rfl
@[push_cast] theorem mlnV_mp (s : List (Nat × PV)) (b : List (Nat × List PV)) (a : List (Nat × Arr)) (m : List (Nat × Mp)) (id : Nat) : mlnV ⟨s,b,a,m⟩ (.mp id) = mlnM (lk m id) := rfl
def pureVB : PV -> Bool
 | .agg cs => pureL cs
 | .sc _ | .nil | .sl .. | .iptr .. => true
 | _ => false
theorem pureVB_eq (v : PV) : pureV v = pureVB v := by cases v <;> first | rfl | simp only [pureV,pureVB,pureL_eq]
@[push_cast] theorem pureVB_agg (cs : List PV) : pureVB (.agg cs) = pureL cs := rfl
@[push_cast] theorem pureVB_sc (v : Value) : pureVB (.sc v) = true := rfl
@[push_cast] theorem pureVB_nil : pureVB .nil = true := rfl
@[push_cast] theorem pureVB_sl (p : Bool) (es : Nat) (xs : List (List PV)) : pureVB (.sl p es xs) = true := rfl
def mupM (s : List (Nat × PV)) (b : List (Nat × List PV)) (a : List (Nat × Arr)) (m : List (Nat × Mp)) (id : Nat) (kd : KD) (kv : Value) (v : PV) : Option Mp -> Prop × St
 | some M => ((M.kd = kd /\ kd.has kv = true) /\ pureVB v = true,⟨s,b,a,up m id ⟨kd,mput M.es kv v,none⟩⟩)
 | none => (False,⟨s,b,a,m⟩)
def mupO (st : St) (kd : KD) (v : PV) (id : Nat) : Option Value -> Prop × St
 | some kv => mupM st.s st.b st.a st.m id kd kv v (lk st.m id)
 | none => (False,st)
def mupH (st : St) (kd : KD) (v : PV) : PV -> PV -> Prop × St
 | .mp id,k => mupO st kd v id (keyV k)
 | _,_ => (False,st)
@[push_cast] theorem mupO_some (s : List (Nat × PV)) (b : List (Nat × List PV)) (a : List (Nat × Arr)) (m : List (Nat × Mp)) (kd : KD) (v : PV) (id : Nat) (kv : Value) : mupO ⟨s,b,a,m⟩ kd v id (some kv) = mupM s b a m id kd kv v (lk m id) := rfl
@[push_cast] theorem mupH_ag (s : List (Nat × PV)) (b : List (Nat × List PV)) (a : List (Nat × Arr)) (m : List (Nat × Mp)) (kd : KD) (v : PV) (id : Nat) (cs : List PV) : mupH ⟨s,b,a,m⟩ kd v (.mp id) (.agg cs) = mupO ⟨s,b,a,m⟩ kd v id (keyV (.agg cs)) := rfl
@[push_cast] theorem mupM_some (s : List (Nat × PV)) (b : List (Nat × List PV)) (a : List (Nat × Arr)) (m : List (Nat × Mp)) (id : Nat) (kd kd' : KD) (kv : Value) (v : PV) (es : List (Value × PV)) (it : Option (Nat × List (Value × PV) × Option (Value × PV))) :
  mupM s b a m id kd kv v (some ⟨kd',es,it⟩) = ((kd' = kd /\ kd.has kv = true) /\ pureVB v = true,⟨s,b,a,up m id ⟨kd,mput es kv v,none⟩⟩) := rfl
@[push_cast] theorem mupH_mp (s : List (Nat × PV)) (b : List (Nat × List PV)) (a : List (Nat × Arr)) (m : List (Nat × Mp)) (kd : KD) (v : PV) (id : Nat) (kv : Value) : mupH ⟨s,b,a,m⟩ kd v (.mp id) (.sc kv) = mupM s b a m id kd kv v (lk m id) := rfl
def rngM (s : List (Nat × PV)) (b : List (Nat × List PV)) (a : List (Nat × Arr)) (m : List (Nat × Mp)) (i id : Nat) : Option Mp -> Prop × St
 | some M => (True,⟨up s i (.itr id i),b,a,up m id { M with it := some (i,M.es,none) }⟩)
 | none => (False,⟨s,b,a,m⟩)
def rngH (st : St) (i : Nat) : PV -> Prop × St
 | .mp id => rngM (killS (isId i) nul st.s) (rm (killB (isId i) nul st.b) i) st.a (killM (isId i) st.m st.m) i id (lk (killM (isId i) st.m st.m) id)
 | _ => (False,st)
@[push_cast] theorem rngM_some (s : List (Nat × PV)) (b : List (Nat × List PV)) (a : List (Nat × Arr)) (m : List (Nat × Mp)) (i id : Nat) (kd : KD) (es : List (Value × PV)) (it : Option (Nat × List (Value × PV) × Option (Value × PV))) :
  rngM s b a m i id (some ⟨kd,es,it⟩) = (True,⟨up s i (.itr id i),b,a,up m id ⟨kd,es,some (i,es,none)⟩⟩) := rfl
@[push_cast] theorem rngH_mp (s : List (Nat × PV)) (b : List (Nat × List PV)) (a : List (Nat × Arr)) (m : List (Nat × Mp)) (i id : Nat) : rngH ⟨s,b,a,m⟩ i (.mp id) = rngM (killS (isId i) nul s) (rm (killB (isId i) nul b) i) a (killM (isId i) m m) i id (lk (killM (isId i) m m) id) := rfl
def clmK (P : Env) (d : Option Nat) (f : Nat) (args : List PV) (r : List AO) (st : St) (K : St -> Prop) : Prop := FnM P f args st fun rv st' => opsK P r (st'.put d rv) K
@[congr] theorem clmK_congr {P : Env} {d : Option Nat} {f : Nat} {args args' : List PV} {r : List AO} {st st' : St} {K : St -> Prop} (h1 : args = args') (h2 : st = st') : clmK P d f args r st K = clmK P d f args' r st' K := by rw [h1,h2]
theorem clm_of {P : Env} {d : Option Nat} {f : Nat} {args : List PV} {r : List AO} {st : St} {K : St -> Prop} {Q : PV -> St -> Prop} (h : FnM P f args st Q) (hk : ∀ rv st',Q rv st' -> opsK P r (st'.put d rv) K) : clmK P d f args r st K := FnM.mono h hk
theorem clm_eq {P : Env} {d : Option Nat} {f : Nat} {args : List PV} {r : List AO} {st : St} {K : St -> Prop} {v : PV} {st1 : St} (h : FnM P f args st (fun rv st' => rv = v /\ st' = st1)) (hk : opsK P r (st1.put d v) K) : clmK P d f args r st K :=
 FnM.mono h fun _ _ ⟨e1,e2⟩ => by subst e1; subst e2; exact hk
def pclK (P : Env) (d : Option Nat) (f : Nat) (args : List PV) (r : List AO) (st : St) (K : St -> Prop) : Prop := funOk P.p f = true /\ ∃ post,FnOK P.p f args post /\ ∀ v,post v -> opsK P r (st.put d v) K
@[congr] theorem pclK_congr {P : Env} {d : Option Nat} {f : Nat} {args args' : List PV} {r : List AO} {st st' : St} {K : St -> Prop} (h1 : args = args') (h2 : st = st') : pclK P d f args r st K = pclK P d f args' r st' K := by rw [h1,h2]
theorem pcl_of {P : Env} {d : Option Nat} {f : Nat} {args : List PV} {r : List AO} {st : St} {K : St -> Prop} {v : PV} (hf : funOk P.p f = true) (hc : FnEq P.p f args v) (h : opsK P r (st.put d v) K) : pclK P d f args r st K :=
 ⟨hf,_,hc,fun u hu => by subst hu; exact h⟩
theorem pcl_sub {P : Env} {d : Option Nat} {f : Nat} {args args' : List PV} {r : List AO} {st : St} {K : St -> Prop} {v : PV} (hf : funOk P.p f = true) (hc : FnEq P.p f args' v) (hs : SubL args args') (h : opsK P r (st.put d v) K) : pclK P d f args r st K := pcl_of hf (FnOK.sub hc hs) h
def ylK (P : Env) (d : Option Nat) (id : Nat) (args : List PV) (r : List AO) (st : St) (K : St -> Prop) : Prop := ∃ K',P.Y id args st K' /\ ∀ st',K' st' -> opsK P r (st'.put d (.sc (.bool true))) K
@[congr] theorem ylK_congr {P : Env} {d : Option Nat} {id : Nat} {args args' : List PV} {r : List AO} {st st' : St} {K : St -> Prop} (h1 : args = args') (h2 : st = st') : ylK P d id args r st K = ylK P d id args' r st' K := by rw [h1,h2]
def clvS (P : Env) (d : Option Nat) (v : PV) (args : List PV) (r : List AO) (st : St) (K : St -> Prop) : Prop := clvK P st d v args fun st' => opsK P r st' K
@[congr] theorem clvS_congr {P : Env} {d : Option Nat} {v v' : PV} {args args' : List PV} {r : List AO} {st st' : St} {K : St -> Prop} (h0 : v = v') (h1 : args = args') (h2 : st = st') : clvS P d v args r st K = clvS P d v' args' r st' K := by rw [h0,h1,h2]
def nxtS (P : Env) (d : Option Nat) (r : List AO) (K : St -> Prop) (st : St) (v : PV) : Prop := nxtK st d v fun st' => opsK P r st' K
@[congr] theorem nxtS_congr {P : Env} {d : Option Nat} {r : List AO} {st st' : St} {K : St -> Prop} {v v' : PV} (h1 : st = st') (h2 : v = v') : nxtS P d r K st v = nxtS P d r K st' v' := by rw [h1,h2]
def rsAL (st : St) : List PV -> List PV
 | [] => []
 | c :: r => c.rsA st :: rsAL st r
theorem rsAL_eq (st : St) (l : List PV) : l.map (PV.rsA st) = rsAL st l := by induction l <;> simp_all [rsAL]
@[push_cast] theorem rsAL_nil (st : St) : rsAL st [] = [] := rfl
@[push_cast] theorem rsAL_cons (st : St) (c : PV) (r : List PV) : rsAL st (c :: r) = c.rsA st :: rsAL st r := rfl
@[push_cast] theorem rsA_pcl (st : St) (f : Nat) (caps : List PV) : (PV.pcl f caps).rsA st = .pcl f caps := rfl
def rsBL (st : St) : List Nat -> List PV
 | [] => []
 | i :: r => rsB st 0 (lk st.b i) :: rsBL st r
@[push_cast] theorem rsBL_nil (st : St) : rsBL st [] = [] := rfl
@[push_cast] theorem rsBL_cons (s : List (Nat × PV)) (b : List (Nat × List PV)) (a : List (Nat × Arr)) (m : List (Nat × Mp)) (i : Nat) (r : List Nat) : rsBL ⟨s,b,a,m⟩ (i :: r) = rsB ⟨s,b,a,m⟩ 0 (lk b i) :: rsBL ⟨s,b,a,m⟩ r := rfl
@[push_cast] theorem rsA_clo (st : St) (f : Nat) (ids : List Nat) : (PV.clo f ids).rsA st = .pcl f (rsBL st ids) := by
 show PV.pcl f (ids.map (rsBox st)) = _
 congr 1
 induction ids with
 | nil => rfl
 | cons i r ih =>
   simp only [List.map_cons,ih,rsBL,rsBox,rs0L_eq]
   cases lk st.b i <;> rfl
section
variable (P : Env) (i : Nat) (d : Option Nat) (r : List AO) (st : St) (K : St -> Prop)
@[push_cast] theorem o_mkf (f : Nat) (caps : List Opd) : opsK P (⟨d,none,.mkf f caps⟩ :: r) st K = qS P d (mkfV f (boxI (evL st caps) [])) r st K := by
 have : aev st (.mkf f caps) = mkfV f (boxI (evL st caps) []) := by
  simp only [aev,boxI_eq,evL_eq]
  cases boxIds (evL st caps) with
  | none => rfl
  | some l => cases l <;> rfl
 simp only [opsK,grdK,opK,isHeavy,Bool.false_eq_true,if_false,qS,this]
@[push_cast] theorem o_mlk (kd : KD) (ok : Bool) (zero : PV) (x k : Opd) : opsK P (⟨d,none,.mlk kd ok zero x k⟩ :: r) st K = qS P d (mlkV st kd ok zero (x.ev st) (k.ev st)) r st K := by
 have : aev st (.mlk kd ok zero x k) = mlkV st kd ok zero (x.ev st) (k.ev st) := by
  simp only [aev]
  generalize x.ev st = u
  generalize k.ev st = v
  cases u <;> first | rfl | (rename_i id; simp only [mlkV]; generalize keyV v = q; cases q <;> first | rfl | (simp only [mlkO]; cases lk st.m id <;> rfl))
 simp only [opsK,grdK,opK,isHeavy,Bool.false_eq_true,if_false,qS,this]
@[push_cast] theorem o_ent (x : Opd) : opsK P (⟨d,none,.ent x⟩ :: r) st K = qS P d (entV st (x.ev st)) r st K := by
 have : aev st (.ent x) = entV st (x.ev st) := by
  simp only [aev]
  generalize x.ev st = u
  cases u <;> rfl
 simp only [opsK,grdK,opK,isHeavy,Bool.false_eq_true,if_false,qS,this]
@[push_cast] theorem o_mln (x : Opd) : opsK P (⟨d,none,.mln x⟩ :: r) st K = qS P d (mlnV st (x.ev st)) r st K := by
 have : aev st (.mln x) = mlnV st (x.ev st) := by
  simp only [aev]
  generalize x.ev st = u
  cases u <;> first | rfl | (simp only [mlnV]; cases lk st.m _ <;> rfl)
 simp only [opsK,grdK,opK,isHeavy,Bool.false_eq_true,if_false,qS,this]
@[push_cast] theorem o_mkm (kd : KD) : opsK P (⟨some i,none,.mkm kd⟩ :: r) st K = opsK P r (st.newMap i ⟨kd,[],none⟩) K := by
 simp only [opsK,grdK,opK,hev,isHeavy,if_true,true_and]
@[push_cast] theorem o_mup (kd : KD) (x k v : Opd) : opsK P (⟨none,none,.mup kd x k v⟩ :: r) st K = hS P (mupH st kd (v.ev st) (x.ev st) (k.ev st)) r K := by
 have : hev st none (.mup kd x k v) = mupH st kd (v.ev st) (x.ev st) (k.ev st) := by
  simp only [hev,pureVB_eq]
  generalize x.ev st = u
  generalize k.ev st = y
  cases u <;> first | rfl | (rename_i id; simp only [mupH]; generalize keyV y = q; cases q <;> first | rfl | (simp only [mupO]; cases lk st.m id <;> rfl))
 simp only [opsK,grdK,opK,isHeavy,if_true,hS,this]
@[push_cast] theorem o_rng (x : Opd) : opsK P (⟨some i,none,.rng x⟩ :: r) st K = hS P (rngH st i (x.ev st)) r K := by
 have : (hev st (some i) (.rng x)).1 = (rngH st i (x.ev st)).1 /\ ((hev st (some i) (.rng x)).1 -> (hev st (some i) (.rng x)).2 = (rngH st i (x.ev st)).2) := by
  simp only [hev]
  generalize x.ev st = u
  cases u <;> first | exact ⟨rfl,fun _ => rfl⟩ | skip
  rename_i id
  have hkm : (st.kill (fun j => j == i) nul).m = killM (isId i) st.m st.m := by
   simp only [St.kill]
   rw [show (fun x : Nat × Mp => !(fun j => j == i) x.1 && !mpTo st.m (fun j => j == i) x.1) = fun x => !isId i x.1 && !mpTo st.m (isId i) x.1 from rfl,killM_eq]
  have hks : (st.kill (fun j => j == i) nul).s = killS (isId i) nul st.s := by simp only [St.kill,killS_eq]; rfl
  have hkb : (st.kill (fun j => j == i) nul).b = killB (isId i) nul st.b := by simp only [St.kill,killB_eq]; rfl
  simp only [hkm,hks,hkb,rngH]
  cases lk (killM (isId i) st.m st.m) id with
  | none => exact ⟨rfl,fun h => h.elim⟩
  | some M => exact ⟨rfl,fun _ => rfl⟩
 simp only [opsK,grdK,opK,isHeavy,if_true,hS]
 exact propext ⟨fun h => ⟨this.1 ▸ h.1,by rw [<- this.2 h.1]; exact h.2⟩,fun h => ⟨this.1 ▸ h.1,by rw [this.2 (this.1 ▸ h.1)]; exact h.2⟩⟩
@[push_cast] theorem o_nxt (x : Opd) : opsK P (⟨d,none,.nxt x⟩ :: r) st K = nxtS P d r K st (x.ev st) := rfl
@[push_cast] theorem o_clm (f : Nat) (args : List Opd) : opsK P (⟨d,none,.clm f args⟩ :: r) st K = clmK P d f (evL st args) r st K := by
 rw [<- evL_eq]; rfl
@[push_cast] theorem o_clv (x : Opd) (args : List Opd) : opsK P (⟨d,none,.clv x args⟩ :: r) st K = clvS P d (x.ev st) (evL st args) r st K := by
 rw [<- evL_eq]; rfl
@[push_cast] theorem o_niq (neg : Bool) (x : Opd) : opsK P (⟨d,none,.niq neg x⟩ :: r) st K = niqK (x.ev st) (fun b => opsK P r (st.put d (.sc (.bool (bif neg then !b else b)))) K) := rfl
end
section
variable (K : Bool -> Prop)
@[push_cast] theorem niqK_nil : niqK .nil K = K true := rfl
@[push_cast] theorem niqK_view (id lo n : Nat) : niqK (.view id lo n) K = K false := rfl
@[push_cast] theorem niqK_cons (p : Bool) (es : Nat) (x : List PV) (xs : List (List PV)) : niqK (.sl p es (x :: xs)) K = K false := rfl
end
section
variable (s : List (Nat × PV)) (b : List (Nat × List PV)) (a : List (Nat × Arr)) (m : List (Nat × Mp)) (d : Option Nat) (K : St -> Prop)
def nxtM (P : Env) (s : List (Nat × PV)) (b : List (Nat × List PV)) (a : List (Nat × Arr)) (m : List (Nat × Mp)) (d : Option Nat) (r : List AO) (id it : Nat) (K : St -> Prop) : Option Mp -> Prop
 | some ⟨kd, es, some (it', left, _)⟩ => (it' = it /\ kd.sc = true) /\ (left = [] -> opsK P r ((⟨s, b, a, m⟩ : St).put d (.tup [.sc (.bool false)])) K) /\
   ∀ (i : Nat) (z : Value × PV),left[i]? = some z -> opsK P r ((⟨s,b,a,up m id ⟨kd,es,some (it',left.eraseIdx i,some z)⟩⟩ : St).put d (.tup [.sc (.bool true),.sc z.1,z.2])) K
 | _ => False
@[push_cast] theorem nxtS_itr (P : Env) (r : List AO) (id it : Nat) : nxtS P d r K ⟨s,b,a,m⟩ (.itr id it) = nxtM P s b a m d r id it K (lk m id) := by
 simp only [nxtS,nxtK]
 cases lk m id with
 | none => rfl
 | some M => obtain ⟨kd,es,i⟩ := M; rcases i with _ | ⟨i,l,c⟩ <;> rfl
end
def ptrs : List Nat -> List PV
 | [] => []
 | i :: r => .ptr i 0 :: ptrs r
theorem ptrs_eq (l : List Nat) : (l.map fun i => PV.ptr i 0) = ptrs l := by induction l <;> simp_all [ptrs]
@[push_cast] theorem ptrs_nil : ptrs [] = [] := rfl
@[push_cast] theorem ptrs_cons (i : Nat) (r : List Nat) : ptrs (i :: r) = .ptr i 0 :: ptrs r := rfl
section
variable (P : Env) (st : St) (d : Option Nat) (args : List PV) (r : List AO) (K : St -> Prop)
@[push_cast] theorem clvS_clo (f : Nat) (ids : List Nat) : clvS P d (.clo f ids) args r st K = clmK P d f (args ++ ptrs ids) r st K := by rw [<- ptrs_eq]; rfl
@[push_cast] theorem clvS_fn (f : Nat) (u v : Array Value) : clvS P d (.sc (.func (.func f) u v)) args r st K = clmK P d f args r st K := rfl
@[push_cast] theorem clvS_yl (id : Nat) : clvS P d (.yl id) args r st K = ylK P d id args r st K := rfl
@[push_cast] theorem clvS_pcl (f : Nat) (caps : List PV) : clvS P d (.pcl f caps) args r st K = pclK P d f (rsAL st args ++ caps) r st K := by rw [<- rsAL_eq]; rfl
end
section
variable (P : Env) (Q : Exit -> St -> Prop) (st : St)
@[push_cast] theorem a_scope (c : AC) : awp P (.scope c) Q st = awp P c Q st := rfl
@[push_cast] theorem a_label : awp P .label Q st = Q .normal st := rfl
end
@[push_cast] theorem cellsOf_clo (f : Nat) (ids : List Nat) : cellsOf (.clo f ids) = [.clo f ids] := rfl
@[push_cast] theorem cellsOk_clo (f : Nat) (ids : List Nat) : cellsOk (.clo f ids) = true := rfl
@[push_cast] theorem flatB_clo (f : Nat) (ids : List Nat) : flatB (.clo f ids) = true := rfl
@[push_cast] theorem cellsOf_mp (i : Nat) : cellsOf (.mp i) = [.mp i] := rfl
@[push_cast] theorem cellsOf_bv (i e n : Nat) : cellsOf (.bv i e n) = [.bv i e n] := rfl
@[push_cast] theorem cellsOk_bv (i e n : Nat) : cellsOk (.bv i e n) = true := rfl
@[push_cast] theorem flatB_bv (i e n : Nat) : flatB (.bv i e n) = true := rfl
@[push_cast] theorem cellsOk_mp (i : Nat) : cellsOk (.mp i) = true := rfl
@[push_cast] theorem flatB_mp (i : Nat) : flatB (.mp i) = true := rfl
@[push_cast] theorem cellsOf_yl (i : Nat) : cellsOf (.yl i) = [.yl i] := rfl
@[push_cast] theorem flatB_yl (i : Nat) : flatB (.yl i) = true := rfl
@[push_cast] theorem cellsOf_itr (i j : Nat) : cellsOf (.itr i j) = [.itr i j] := rfl
@[push_cast] theorem flatB_itr (i j : Nat) : flatB (.itr i j) = true := rfl
@[push_cast] theorem cellsOf_pcl (f : Nat) (cs : List PV) : cellsOf (.pcl f cs) = [.pcl f cs] := rfl
@[push_cast] theorem flatB_pcl (f : Nat) (cs : List PV) : flatB (.pcl f cs) = true := rfl
def lowL (k : Nat) : List (Nat × PV) -> List (Nat × PV)
 | [] => []
 | (i,v) :: r => if i < k then (i,v) :: lowL k r else lowL k r
theorem lowL_eq (k : Nat) (s : List (Nat × PV)) : s.filter (fun x => decide (x.1 < k)) = lowL k s := by
 induction s with
 | nil => rfl
 | cons x r ih =>
   obtain ⟨i,v⟩ := x
   simp only [List.filter_cons,lowL,ih,decide_eq_true_eq]
@[push_cast] theorem lowL_nil (k : Nat) : lowL k [] = [] := rfl
@[push_cast] theorem lowL_cons (k i : Nat) (v : PV) (r : List (Nat × PV)) : lowL k ((i,v) :: r) = if i < k then (i,v) :: lowL k r else lowL k r := rfl
@[push_cast] theorem low_mk (s : List (Nat × PV)) (b : List (Nat × List PV)) (a : List (Nat × Arr)) (m : List (Nat × Mp)) (k : Nat) : St.low ⟨s,b,a,m⟩ k = ⟨lowL k s,b,a,m⟩ := by simp only [St.low,lowL_eq]
@[push_cast] theorem argS_nil (K : Nat) (s : List (Nat × PV)) : argS K [] s = s := rfl
@[push_cast] theorem argS_cons (K : Nat) (c : PV) (r : List PV) (s : List (Nat × PV)) : argS K (c :: r) s = argS (K + 1) r (up s K c) := rfl
@[push_cast] theorem noId_mk (s : List (Nat × PV)) (b : List (Nat × List PV)) (a : List (Nat × Arr)) (m : List (Nat × Mp)) (i : Nat) : St.noId ⟨s,b,a,m⟩ i = ⟨killS (isId i) nul s,rm (killB (isId i) nul b) i,a,killM (isId i) m m⟩ := by
 simp only [St.noId,St.kill,killS_eq,killB_eq]
 rw [show (fun x : Nat × Mp => !(fun j => j == i) x.1 && !mpTo m (fun j => j == i) x.1) = fun x => !isId i x.1 && !mpTo m (isId i) x.1 from rfl,killM_eq]; rfl
@[push_cast] theorem setPs_nil (vs : List PV) (s : List (Nat × PV)) : setPs [] vs s = s := by cases vs <;> rfl
@[push_cast] theorem setPs_cons (p : Nat) (ps : List Nat) (v : PV) (vs : List PV) (s : List (Nat × PV)) : setPs (p :: ps) (v :: vs) s = setPs ps vs (up s p v) := rfl
def midL (k n : Nat) : List (Nat × PV) -> List (Nat × PV)
 | [] => []
 | (i,v) :: r => if k <= i /\ i < k + n then (i,v) :: midL k n r else midL k n r
@[push_cast] theorem midL_nil (k n : Nat) : midL k n [] = [] := rfl
@[push_cast] theorem midL_cons (k n i : Nat) (v : PV) (r : List (Nat × PV)) : midL k n ((i,v) :: r) = if k <= i /\ i < k + n then (i,v) :: midL k n r else midL k n r := rfl
@[push_cast] theorem copyS_nil (K K2 : Nat) (src s : List (Nat × PV)) : copyS K K2 src [] s = s := rfl
@[push_cast] theorem copyS_cons (K K2 i : Nat) (v : PV) (src r s : List (Nat × PV)) : copyS K K2 src ((i,v) :: r) s = copyS K K2 src r (up s (K2 + (i - K)) (getL src i)) := by
 rw [copyS,getL_eq]
def allLt (k : Nat) : List (Nat × PV) -> Bool
 | [] => true
 | (i,_) :: r => if i < k then allLt k r else false
theorem allLt_eq (k : Nat) (s : List (Nat × PV)) : s.all (fun x => decide (x.1 < k)) = allLt k s := by
 induction s with
 | nil => rfl
 | cons x r ih =>
   obtain ⟨i,v⟩ := x
   simp only [List.all_cons,allLt,ih]
   by_cases h : i < k <;> simp [h]
@[push_cast] theorem allLt_nil (k : Nat) : allLt k [] = true := rfl
@[push_cast] theorem allLt_cons (k i : Nat) (v : PV) (r : List (Nat × PV)) : allLt k ((i,v) :: r) = if i < k then allLt k r else false := rfl
@[push_cast] theorem resM_one (st : St) (x : RV) : resM st [x] = x.val st := rfl
@[push_cast] theorem resM_nil (st : St) : resM st [] = (True,.tup []) := by simp [resM]
@[push_cast] theorem resM_two (st : St) (x y : RV) : resM st [x,y] = ((x.val st).1 /\ (y.val st).1,.tup [(x.val st).2,(y.val st).2]) := by simp [resM]
@[push_cast] theorem resM_three (st : St) (x y z : RV) : resM st [x,y,z] = ((x.val st).1 /\ (y.val st).1 /\ (z.val st).1,.tup [(x.val st).2,(y.val st).2,(z.val st).2]) := by simp [resM]
@[push_cast] theorem rv_tmp (st : St) (t : Nat) : RV.val st (.tmp t) = (True,st.get t) := rfl
@[push_cast] theorem retM_r (K : Nat) (rvs : List RV) (Q : PV -> St -> Prop) (st : St) : retM K rvs Q .ret st = ((resM st rvs).1 /\ flatB (resM st rvs).2 = true /\ Q (resM st rvs).2 (st.low K)) := by simp [retM,isEnd]
@[push_cast] theorem retM_n (K : Nat) (rvs : List RV) (Q : PV -> St -> Prop) (st : St) : retM K rvs Q .normal st = ((resM st rvs).1 /\ flatB (resM st rvs).2 = true /\ Q (resM st rvs).2 (st.low K)) := by simp [retM,isEnd]
def bodyK (P : Env) (ass body : AC) (st : St) (K : St -> Prop) : Prop := awp P ass (Exit.thn (awp P body fun e st'' => e = .normal /\ K st'') fun _ _ => False) st
def rngC (P : Env) (ρ : RF) (ps : List Nat) (ass body : AC) (Q : Exit -> St -> Prop) (st : St) (v : PV) : Prop :=
 match v with
 | .clo f ids => (P.noY /\ ids.contains ρ.id = false) /\ FnM ⟨P.p,ρ.K + ρ.n,rngY ρ ps (bodyK P ass body),fun _ _ => False⟩ f (.yl ρ.id :: ids.map fun i => .ptr i 0) (st.noId ρ.id) fun _ st' => Q .normal ((st'.low (ρ.K + ρ.n)).noId ρ.id)
 | _ => False
@[congr] theorem rngC_congr {P : Env} {ρ : RF} {ps : List Nat} {ass body : AC} {Q : Exit -> St -> Prop} {st st' : St} {v v' : PV} (h1 : st = st') (h2 : v = v') : rngC P ρ ps ass body Q st v = rngC P ρ ps ass body Q st' v' := by rw [h1,h2]
@[push_cast] theorem a_rngf (P : Env) (Q : Exit -> St -> Prop) (st : St) (f : Opd) (K n K2 : Nat) (ks : List Nat) (id : Nat) (ps : List Nat) (ass body : AC) :
  awp P (.rngf ⟨f,K,n,K2,ks,id⟩ ps ass body) Q st = (allLt (K + n) st.s = true /\ rngC P ⟨f,K,n,K2,ks,id⟩ ps ass body Q (st.keepS ks) (f.ev (st.keepS ks))) := by
 simp only [awp,allLt_eq]; rfl
theorem fnM_of {E : Env} {f : Nat} {fn : Func} {ac : AC} {rvs : List RV} {args : List PV} {Q : PV -> St -> Prop} {s : List (Nat × PV)} {b : List (Nat × List PV)} {a : List (Nat × Arr)} {m : List (Nat × Mp)} (K : Nat) (hf : E.p.funcs[f]? = some fn) (hok : fnOkK E.p K ac rvs fn = true) (hn : args.length <= fn.ntmps)
  (hlow : allLt K s = true) (hkk : E.kk <= K) (h : awp E ac (retM K rvs Q) ⟨argS K args s,b,a,m⟩) (hpn : ∀ ch st,¬ E.pan ch st := by exact fun _ _ h => h) : FnM E f args ⟨s,b,a,m⟩ Q :=
 FnM.of_awp K hf hok hn (by rw [allLt_eq]; exact hlow) hkk h hpn
def onlyL {α : Type} (ks : List Nat) : List (Nat × α) -> List (Nat × α)
 | [] => []
 | (i,v) :: r => if inL ks i = true then (i,v) :: onlyL ks r else onlyL ks r
@[push_cast] theorem onlyL_nil {α : Type} (ks : List Nat) : onlyL ks ([] : List (Nat × α)) = [] := rfl
@[push_cast] theorem onlyL_cons {α : Type} (ks : List Nat) (i : Nat) (v : α) (r : List (Nat × α)) : onlyL ks ((i,v) :: r) = if inL ks i = true then (i,v) :: onlyL ks r else onlyL ks r := rfl
theorem onlyL_eq {α : Type} (ks : List Nat) (l : List (Nat × α)) : onlyL ks l = l.filter fun x => inL ks x.1 := by
 induction l with
 | nil => rfl
 | cons x r ih =>
   obtain ⟨i,v⟩ := x
   simp only [onlyL,List.filter_cons,ih]
theorem lk_only {α : Type} {ks : List Nat} {l : List (Nat × α)} {i : Nat} {v : α} (h : lk (onlyL ks l) i = some v) : lk l i = some v := by
 rw [onlyL_eq] at h
 exact lk_filter_le l (fun x => inL ks x.1) (fun _ _ => rfl) i v h
def St.only (st : St) (ks bs ar ms : List Nat) : St := ⟨onlyL ks st.s,onlyL bs st.b,onlyL ar st.a,onlyL ms st.m⟩
@[push_cast] theorem only_mk (s : List (Nat × PV)) (b : List (Nat × List PV)) (a : List (Nat × Arr)) (m : List (Nat × Mp)) (ks bs ar ms : List Nat) : St.only ⟨s,b,a,m⟩ ks bs ar ms = ⟨onlyL ks s,onlyL bs b,onlyL ar a,onlyL ms m⟩ := rfl
theorem FnM.only {E : Env} {f : Nat} {args : List PV} {st : St} {Q : PV -> St -> Prop} (ks bs ar ms : List Nat) (h : FnM E f args (st.only ks bs ar ms) Q) : FnM E f args st Q :=
 ⟨h.1,fun w0 Z0 X G Z L w vs h1 h2 h3 => h.2 w0 Z0 X G Z L w vs h1 (h2.forget (fun _ _ h => .inl (lk_only h)) (fun _ _ h => lk_only h) (fun _ _ h => lk_only h) (fun _ _ h => lk_only h)) h3⟩
def St.onlyB (st : St) (bs : List Nat) : St := ⟨st.s,onlyL bs st.b,st.a,st.m⟩
@[push_cast] theorem onlyB_mk (s : List (Nat × PV)) (b : List (Nat × List PV)) (a : List (Nat × Arr)) (m : List (Nat × Mp)) (bs : List Nat) : St.onlyB ⟨s,b,a,m⟩ bs = ⟨s,onlyL bs b,a,m⟩ := rfl
end Go.Vc
attribute [push_cast] ite_true ite_false Bool.false_eq_true Bool.or_false Bool.false_or Bool.or_true Bool.true_or Bool.and_true Bool.true_and Bool.and_false Bool.false_and cond_true cond_false Nat.zero_add Nat.add_zero Nat.zero_mul Nat.mul_zero Nat.succ_ne_self beq_self_eq_true true_and and_true Int.toNat_natCast Int.cast_ofNat_Int decide_true decide_false Nat.zero_le
namespace Go.Vc
theorem sB {p q : Prop} (h : q) (e : p = q := by (simp only [push_cast,reduceIte,reduceEqDiff,reduceAdd,reduceSub,reduceMul,Nat.reduceBEq,reduceLT,reduceLeDiff,reduceCtorEq,reduceToNat,reduceNeg]; exact rfl)) : p := e.mpr h
theorem sC {p : Prop} (h : p := by simp only [push_cast,reduceIte,reduceEqDiff,reduceAdd,reduceSub,reduceMul,Nat.reduceBEq,reduceLT,reduceLeDiff,reduceCtorEq,reduceToNat,reduceNeg]) : p := h
end Go.Vc
namespace Go.Vc
open Go Go.RowKit
def stkC (ls : List (Nat × List (List PV))) : PV := .tup (ls.map fun x => .sl false x.1 x.2)
@[push_cast] theorem toV_stk (pb pa : Nat -> Bool) (ls : List (Nat × List (List PV))) : PV.toV pb pa (stkC ls) = false := by
 show (ls.map fun x => PV.sl false x.1 x.2).any (PV.toA pb pa) = false
 rw [List.any_eq_false]
 intro x hx
 obtain ⟨y,_,rfl⟩ := List.mem_map.1 hx
 simp [PV.toA,PV.to]
theorem Inv.slotG {w0 : World} {Z0 : Zone} {X : Gh} {G : Nat -> Value} {Z : Zone} {L : Lay} {st : St} {w : World} (h : Mem w0 Z0 X G Z L st w) {i : Nat} {v : PV} (hl : lk st.s i = some v) : VR w Z L v (G i) := by
 have := h.slots i v hl
 rwa [show Fr.val ⟨0,0,G,X,none⟩ ⟨#[],[]⟩ i = G i from by unfold Fr.val; rw [if_neg (by simp only; omega)]] at this
theorem Inv.setG {w0 : World} {Z0 : Zone} {X : Gh} {G G' : Nat -> Value} {Z : Zone} {L : Lay} {s s' : List (Nat × PV)} {b : List (Nat × List PV)} {a : List (Nat × Arr)} {m : List (Nat × Mp)} {w : World}
  (h : Mem w0 Z0 X G Z L ⟨s,b,a,m⟩ w) (hs : ∀ i v,lk s' i = some v -> VR w Z L v (G' i)) : Mem w0 Z0 X G' Z L ⟨s',b,a,m⟩ w := by
 refine ⟨h.zt,h.z0,h.zn,h.zb,h.below,h.ownb,h.owna,h.injb,h.inja,h.injx,h.boxes,h.arrs,h.ownm,h.injm,h.maps,h.oth,h.yb,h.size,h.defers,fun i v hl => ?_⟩
 rw [show Fr.val ⟨0,0,G',X,none⟩ ⟨#[],[]⟩ i = G' i from by unfold Fr.val; rw [if_neg (by simp only; omega)]]
 exact hs i v hl
def ptrOf (L : Lay) : PV -> Value
 | .ptr id _ => .pointer (some ⟨L.bx id,0,none⟩)
 | _ => undef
end Go.Vc
