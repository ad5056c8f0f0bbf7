/- Txt VcN VcO: lemmas -/
import Derived.Test.YtdmkfgkmnpohlaaGreatPart06
import Derived.Test.YtdmkfgkmnpohlaaGreatChecked
set_option linter.unusedSimpArgs false
set_option linter.unusedVariables false
namespace Go.Proofs.YtdmkfgkmnpohlaaGreat.Txt
open Go Go.Vc
set_option maxRecDepth 100000
def ac36_r15:AC:=
 (.seq (.reg [0,58,1,7] [
 (aO 55 (.ld false 1 (.t 7))),(aO 56 (.mv (.t 1))),(aO 57 (.clm 69 [(.t 55),(.t 56)])),(aO 4 (.mv (.t 57)))])
 .ret)
def ac36:AC:=
 (.seq (.reg [0,58,0,1] [
 (aO 2 (.box (.t 0))),(aO 4 (.mv (.c (.nil))))])
 (.seq (.reg [0,58,1,2] [
 (aO 9 (.ld true 5 (.t 2))),(aO 10 (.mv (.t 1))),(aO 11 (.cal 50 [(.t 9),(.t 10)])),(aO 8 (.mv (.t 11))),(aO 12 (.ext (.t 8) 0)),(aO 13 (.ext (.t 8) 1)),(aO 5 (.alc [zI,zI,zI,zI])),(aN (.sto 4 (.t 5) (.t 12))),(aO 6 (.mv (.t 13)))])
 (.seq (.seq (.reg [0,58,1,2,5,6] [
 (aO 14 (.mv (.t 6))),(aO 15 (.cmp .neq .i64 (.t 14) (kI 0)))])
 (.cond (.t 15)
 (.seq (.reg [0,58] [
 (aO 4 (.mv (.c (.nil))))])
 .ret)
 .skip))
 (.seq (.reg [0,58,1,2,5] [
 (aO 16 (.ld true 5 (.t 2))),(aO 17 (.bld [zI,zI,zI,zI,.nil,.nil] [(0,5,(.t 16))])),(aO 18 (.box (.t 17))),(aO 7 (.alc [.sc (.pointer none)])),(aN (.sto 1 (.t 7) (.t 18)))])
 (.seq (.seq (.reg [0,58,1,2,5,7] [
 (aO 19 (.fa 0 (.t 5))),(aO 20 (.ld false 1 (.t 19)))])
 (.block 0
 (.seq (.reg [0,58,1,2,5,7,20] [
 (aO 22 (.cmp .eql .i64 (.t 20) (kI 3))),(aO 21 (.mv (.t 22)))])
 (.cond (.t 21)
 (.seq (.reg [0,58,1,5,7] [
 (aO 23 (.ld false 1 (.t 7))),(aO 24 (.fa 1 (.t 5))),(aO 25 (.ld false 1 (.t 24))),(aO 26 (.fa 2 (.t 5))),(aO 27 (.ld false 1 (.t 26))),(aO 28 (.clm 64 [(.t 23),(.t 25),(.t 27)]))])
 (.seq (.reg [0,58,1,5,7] [
 (aO 29 (.fa 3 (.t 5))),(aO 30 (.ld false 1 (.t 29))),(aO 31 (.cmp .eql .i64 (.t 30) (kI 3)))])
 (.cond (.t 31)
 (.reg [0,58,1,5,7] [
 (aO 32 (.ld false 1 (.t 7))),(aO 33 (.fa 1 (.t 5))),(aO 34 (.ld false 1 (.t 33))),(aO 35 (.fa 2 (.t 5))),(aO 36 (.ld false 1 (.t 35))),(aO 37 (.ari .sub true .i64 (.t 36) (kI 1))),(aO 38 (.clm 65 [(.t 32),(kI 1),(.t 34),(.t 37),(kI 0)]))])
 .skip)))
 (.seq (.reg [0,58,1,2,5,7,20] [
 (aO 40 (.cmp .eql .i64 (.t 20) (kI 7))),(aO 39 (.mv (.t 40)))])
 (.cond (.t 39)
 (.reg [0,58,1,2,5,7] [
 (aO 41 (.ld false 1 (.t 7))),(aO 42 (.fa 0 (.t 2))),(aO 43 (.ld false 1 (.t 42))),(aO 44 (.ari .sub true .i64 (.t 43) (kI 1))),(aO 45 (.fa 2 (.t 5))),(aO 46 (.ld false 1 (.t 45))),(aO 47 (.clm 64 [(.t 41),(.t 44),(.t 46)]))])
 (.seq (.seq (.reg [0,58,1,2,5,7,20] [
 (aO 49 (.cmp .eql .i64 (.t 20) (kI 4))),(aO 48 (.mv (.t 49)))])
 (.cond (.t 48)
 .skip
 (.reg [0,58,1,2,5,7,20] [
 (aO 50 (.cmp .eql .i64 (.t 20) (kI 5))),(aO 48 (.mv (.t 50)))])))
 (.cond (.t 48)
 (.reg [0,58,1,2,5,7] [
 (aO 51 (.ld true 5 (.t 2))),(aO 52 (.ld true 4 (.t 5))),(aO 53 (.mkf 67 [(.t 7),(.t 5),(.t 2)])),(aO 54 (.clm 66 [(.t 51),(.t 52),(.t 53)]))])
 .skip))))))))
 ac36_r15)))))
def rv36:List RV:=[.tmp 4]
theorem ok36:fnOk Tryz.prog ac36 rv36 Tryz.f36=true:=by kernel_rfl

def ac50:AC:=
 (.seq (.reg [0,103,0,1] [
 (aO 2 (.box (.t 0))),(aO 4 (.alc [zI,zI,zI,zI])),(aO 5 (.mv (kI 0)))])
 (.seq (.reg [0,103,1,2,4] [
 (aO 10 (.mv (.t 1))),(aO 11 (.ld true 5 (.t 2))),(aO 12 (.cal 78 [(.t 11)])),(aO 13 (.ari .sub true .i64 (.t 10) (.t 12))),(aO 6 (.mv (.t 13)))])
 (.seq (.block 0
 (.seq (.reg [0,103,1,2,4,6] [
 (aO 15 (.mv (.t 1))),(aO 16 (.cmp .lss .i64 (.t 15) (kI 0))),(aO 17 (.mv (.t 16))),⟨some 18,some (17,false),.mv (.t 1)⟩,⟨some 19,some (17,false),.ld true 5 (.t 2)⟩,⟨some 20,some (17,false),.cal 79 [(.t 19)]⟩,⟨some 21,some (17,false),.cmp .geq .i64 (.t 18) (.t 20)⟩,(aO 22 (.pick (.t 17) (.c (.sc (.bool true))) (.t 21))),(aO 14 (.mv (.t 22)))])
 (.cut [0,103,1,2,4,6,14] (.cond (.t 14)
 (.seq (.reg [0,103,4] [
 (aO 23 (.bld [zI,zI,zI,zI] [])),(aN (.sto 4 (.t 4) (.t 23))),(aO 5 (.mv (kI 1)))])
 .ret)
 (.seq (.reg [0,103,1,2,4,6] [
 (aO 25 (.mv (.t 6))),(aO 26 (.fa 3 (.t 2))),(aO 27 (.ld false 1 (.t 26))),(aO 28 (.cmp .geq .i64 (.t 25) (.t 27))),(aO 24 (.mv (.t 28)))])
 (.cond (.t 24)
 (.seq (.drw [0,103,2,4,6] [
 (eT 29 (.fa 0 (.t 2))),(eT 30 (.ld false 1 (.t 29))),(eT 31 (.mv (.t 6))),(eT 32 (.fa 3 (.t 2))),(eT 33 (.ld false 1 (.t 32))),(eT 34 (.ari .sub true .i64 (.t 31) (.t 33))),(eT 35 (.fa 1 (.t 2))),(eT 36 (.ld false 1 (.t 35))),(eT 37 (.dvd .rem true .i64 (.t 34) (.t 36))),(eT 38 (.mv (.t 6))),(eT 39 (.fa 3 (.t 2))),(eT 40 (.ld false 1 (.t 39))),(eT 41 (.ari .sub true .i64 (.t 38) (.t 40))),(eF 42 (.bld [zI,zI,zI,zI] [(0,1,(kI 7)),(1,1,(.t 30)),(2,1,(.t 37)),(3,1,(.t 41))])),⟨(aN (.sto 4 (.t 4) (.t 42))),[],[],false⟩,(eF 5 (.mv (kI 0)))])
 .ret)
 (.seq (.reg [0,103,1,2,4,6] [
 (aO 44 (.mv (.t 6))),(aO 45 (.cmp .geq .i64 (.t 44) (kI 0))),(aO 43 (.mv (.t 45)))])
 (.cond (.t 43)
 (.seq (.reg [0,103,2,4,6] [
 (aO 46 (.mv (.t 6))),(aO 47 (.fa 1 (.t 2))),(aO 48 (.ld false 1 (.t 47))),(aO 49 (.dvd .rem true .i64 (.t 46) (.t 48))),(aO 50 (.mv (.t 6))),(aO 51 (.bld [zI,zI,zI,zI] [(0,1,(kI 6)),(1,1,(kI (-1))),(2,1,(.t 49)),(3,1,(.t 50))])),(aN (.sto 4 (.t 4) (.t 51))),(aO 5 (.mv (kI 0)))])
 .ret)
 .skip))))))))
 (.seq (.drw [0,103,1,2,4] [
 (eT 52 (.mv (.t 1))),(eT 53 (.ld true 5 (.t 2))),(eT 54 (.cal 80 [(.t 53)])),(eT 55 (.dvd .quo true .i64 (.t 52) (.t 54))),(eT 56 (.mv (.t 1))),(eT 57 (.ld true 5 (.t 2))),(eT 58 (.cal 80 [(.t 57)])),(eT 59 (.dvd .rem true .i64 (.t 56) (.t 58))),(eT 7 (.mv (.t 55))),(eF 8 (.mv (.t 59)))])
 (.seq (.drw [0,103,2,4,7,8] [
 (eU 60 (.mv (.t 7)) [] [9]),(eU 61 (.fa 0 (.t 2)) [] [9]),(eU 62 (.ld false 1 (.t 61)) [] [9]),(eU 63 (.dvd .rem true .i64 (.t 60) (.t 62)) [] [9]),(eU 64 (.mv (.t 7)) [] [9]),(eU 65 (.fa 0 (.t 2)) [] [9]),(eU 66 (.ld false 1 (.t 65)) [] [9]),(eU 67 (.dvd .quo true .i64 (.t 64) (.t 66)) [] [9]),(eU 68 (.bld [zI,zI,zI,zI] [(0,1,(kI 1)),(1,1,(.t 63)),(2,1,(.t 67))]) [] [9]),(eU 9 (.alc [zI,zI,zI,zI]) [9] []),⟨(aN (.sto 4 (.t 9) (.t 68))),[],[],false⟩])
 (.seq (.block 1
 (.seq (.reg [0,103,2,4,8,9] [
 (aO 70 (.mv (.t 8))),(aO 71 (.fa 2 (.t 2))),(aO 72 (.ld false 1 (.t 71))),(aO 73 (.ari .add true .i64 (kI 6) (.t 72))),(aO 74 (.cmp .geq .i64 (.t 70) (.t 73))),(aO 69 (.mv (.t 74)))])
 (.cond (.t 69)
 (.drw [0,103,2,4,8,9] [
 (eT 75 (.mv (.t 8))),(eT 76 (.ari .sub true .i64 (.t 75) (kI 2))),(eT 77 (.ari .sub true .i64 (.t 76) (kI 4))),(eT 78 (.fa 2 (.t 2))),(eU 79 (.ld false 1 (.t 78)) [] [9]),(eT 80 (.ari .sub true .i64 (.t 77) (.t 79))),(eT 81 (.fa 0 (.t 9))),⟨(aN (.sto 1 (.t 81) (kI 5))),[],[9],true⟩,(eF 82 (.fa 3 (.t 9))),⟨(aN (.sto 1 (.t 82) (.t 80))),[],[],false⟩])
 (.seq (.reg [0,103,4,8,9] [
 (aO 84 (.mv (.t 8))),(aO 85 (.cmp .geq .i64 (.t 84) (kI 6))),(aO 83 (.mv (.t 85)))])
 (.cond (.t 83)
 (.reg [0,103,4,8,9] [
 (aO 86 (.mv (.t 8))),(aO 87 (.ari .sub true .i64 (.t 86) (kI 2))),(aO 88 (.ari .sub true .i64 (.t 87) (kI 4))),(aO 89 (.fa 0 (.t 9))),(aN (.sto 1 (.t 89) (kI 4))),(aO 90 (.fa 3 (.t 9))),(aN (.sto 1 (.t 90) (.t 88)))])
 (.seq (.reg [0,103,4,8,9] [
 (aO 92 (.mv (.t 8))),(aO 93 (.cmp .geq .i64 (.t 92) (kI 2))),(aO 91 (.mv (.t 93)))])
 (.cond (.t 91)
 (.reg [0,103,4,8,9] [
 (aO 94 (.mv (.t 8))),(aO 95 (.ari .sub true .i64 (.t 94) (kI 2))),(aO 96 (.fa 0 (.t 9))),(aN (.sto 1 (.t 96) (kI 3))),(aO 97 (.fa 3 (.t 9))),(aN (.sto 1 (.t 97) (.t 95)))])
 (.seq (.reg [0,103,4,8,9] [
 (aO 99 (.mv (.t 8))),(aO 100 (.cmp .eql .i64 (.t 99) (kI 1))),(aO 98 (.mv (.t 100)))])
 (.cond (.t 98)
 (.reg [0,103,4,9] [
 (aO 101 (.fa 0 (.t 9))),(aN (.sto 1 (.t 101) (kI 2)))])
 .skip)))))))))
 (.seq (.reg [0,103,4,9] [
 (aO 102 (.ld true 4 (.t 9))),(aN (.sto 4 (.t 4) (.t 102))),(aO 5 (.mv (kI 0)))])
 .ret)))))))
def rv50:List RV:=[.cell 4 true 4,.tmp 5]
theorem ok50:fnOk Tryz.prog ac50 rv50 Tryz.f50=true:=by kernel_rfl

def ac78:AC:=
 (.seq (.reg [0,11,0] [
 (aO 1 (.box (.t 0))),(aO 2 (.mv (kI 0)))])
 (.seq (.drw [0,11,1] [
 (eT 3 (.fa 0 (.t 1))),(eT 4 (.ld false 1 (.t 3))),(eT 5 (.fa 1 (.t 1))),(eT 6 (.ld false 1 (.t 5))),(eT 7 (.ari .mul true .i64 (.t 4) (.t 6))),(eT 8 (.ld true 5 (.t 1))),(eT 9 (.cal 80 [(.t 8)])),(eF 10 (.ari .mul true .i64 (.t 7) (.t 9))),(eF 2 (.mv (.t 10)))])
 .ret))
def rv78:List RV:=[.tmp 2]
theorem ok78:fnOk Tryz.prog ac78 rv78 Tryz.f78=true:=by kernel_rfl

def ac79:AC:=
 (.seq (.reg [0,9,0] [
 (aO 1 (.box (.t 0))),(aO 2 (.mv (kI 0)))])
 (.seq (.drw [0,9,1] [
 (eT 3 (.ld true 5 (.t 1))),(eT 4 (.cal 78 [(.t 3)])),(eT 5 (.fa 3 (.t 1))),(eT 6 (.ld false 1 (.t 5))),(eT 7 (.ari .mul true .i64 (kI 2) (.t 6))),(eF 8 (.ari .add true .i64 (.t 4) (.t 7))),(eF 2 (.mv (.t 8)))])
 .ret))
def rv79:List RV:=[.tmp 2]
theorem ok79:fnOk Tryz.prog ac79 rv79 Tryz.f79=true:=by kernel_rfl

def ac80:AC:=
 (.seq (.reg [0,7,0] [
 (aO 1 (.box (.t 0))),(aO 2 (.mv (kI 0)))])
 (.seq (.reg [0,7,1] [
 (aO 3 (.fa 2 (.t 1))),(aO 4 (.ld false 1 (.t 3))),(aO 5 (.ari .mul true .i64 (kI 2) (.t 4))),(aO 6 (.ari .add true .i64 (kI 6) (.t 5))),(aO 2 (.mv (.t 6)))])
 .ret))
def rv80:List RV:=[.tmp 2]
theorem ok80:fnOk Tryz.prog ac80 rv80 Tryz.f80=true:=by kernel_rfl

def ac83_r18:AC:=
 (.seq (.seq (.reg [0,87,2,3,7] [
 (aO 74 (.ld true 5 (.t 2))),(aO 75 (.mv (.t 7))),(aO 76 (.cal 50 [(.t 74),(.t 75)])),(aO 73 (.mv (.t 76))),(aO 77 (.ext (.t 73) 0)),(aO 78 (.ext (.t 73) 1)),(aO 8 (.alc [zI,zI,zI,zI])),(aN (.sto 4 (.t 8) (.t 77))),(aO 9 (.mv (.t 78)))])
 (.seq (.reg [0,87,3,7,8,9] [
 (aO 79 (.mv (.t 9))),(aO 80 (.cmp .neq .i64 (.t 79) (kI 0))),(aO 81 (.mv (.t 80))),⟨some 82,some (81,false),.ld true 4 (.t 8)⟩,⟨some 83,some (81,false),.ld true 4 (.t 3)⟩,⟨some 84,some (81,false),.eqa true 4 (.t 82) (.t 83)⟩,(aO 85 (.pick (.t 81) (.c (.sc (.bool true))) (.t 84)))])
 (.cut [0,87,7,85] (.cond (.t 85)
 (.seq (.reg [0,87] [
 (aO 4 (.mv (kI 0))),(aO 5 (.mv (kI 1)))])
 .ret)
 .skip))))
 (.seq (.reg [0,87,7] [
 (aO 86 (.mv (.t 7))),(aO 4 (.mv (.t 86))),(aO 5 (.mv (kI 0)))])
 .ret))
def ac83:AC:=
 (.seq (.reg [0,87,0,1] [
 (aO 2 (.box (.t 0))),(aO 3 (.box (.t 1))),(aO 4 (.mv (kI 0))),(aO 5 (.mv (kI 0)))])
 (.seq (.drw [0,87,2,3] [
 (eT 10 (.fa 2 (.t 3))),(eT 11 (.ld false 1 (.t 10))),(eT 12 (.fa 0 (.t 2))),(eT 13 (.ld false 1 (.t 12))),(eT 14 (.ari .mul true .i64 (.t 11) (.t 13))),(eT 15 (.fa 1 (.t 3))),(eT 16 (.ld false 1 (.t 15))),(eT 17 (.ari .add true .i64 (.t 14) (.t 16))),(eT 18 (.ld true 5 (.t 2))),(eT 19 (.cal 80 [(.t 18)])),(eF 20 (.ari .mul true .i64 (.t 17) (.t 19))),(eF 6 (.mv (.t 20)))])
 (.seq (.reg [0,87,2,3,6] [
 (aO 7 (.mv (kI (-1))))])
 (.seq (.seq (.reg [0,87,2,3,6,7] [
 (aO 21 (.fa 0 (.t 3))),(aO 22 (.ld false 1 (.t 21)))])
 (.block 0
 (.seq (.reg [0,87,2,3,6,7,22] [
 (aO 24 (.cmp .eql .i64 (.t 22) (kI 1))),(aO 23 (.mv (.t 24)))])
 (.cond (.t 23)
 (.reg [0,87,2,3,6] [
 (aO 25 (.mv (.t 6))),(aO 7 (.mv (.t 25)))])
 (.seq (.reg [0,87,2,3,6,7,22] [
 (aO 27 (.cmp .eql .i64 (.t 22) (kI 2))),(aO 26 (.mv (.t 27)))])
 (.cond (.t 26)
 (.reg [0,87,2,3,6] [
 (aO 28 (.mv (.t 6))),(aO 29 (.ari .add true .i64 (.t 28) (kI 1))),(aO 7 (.mv (.t 29)))])
 (.seq (.reg [0,87,2,3,6,7,22] [
 (aO 31 (.cmp .eql .i64 (.t 22) (kI 3))),(aO 30 (.mv (.t 31)))])
 (.cond (.t 30)
 (.reg [0,87,2,3,6] [
 (aO 32 (.mv (.t 6))),(aO 33 (.ari .add true .i64 (.t 32) (kI 2))),(aO 34 (.fa 3 (.t 3))),(aO 35 (.ld false 1 (.t 34))),(aO 36 (.ari .add true .i64 (.t 33) (.t 35))),(aO 7 (.mv (.t 36)))])
 (.seq (.reg [0,87,2,3,6,7,22] [
 (aO 38 (.cmp .eql .i64 (.t 22) (kI 4))),(aO 37 (.mv (.t 38)))])
 (.cond (.t 37)
 (.reg [0,87,2,3,6] [
 (aO 39 (.mv (.t 6))),(aO 40 (.ari .add true .i64 (.t 39) (kI 2))),(aO 41 (.ari .add true .i64 (.t 40) (kI 4))),(aO 42 (.fa 3 (.t 3))),(aO 43 (.ld false 1 (.t 42))),(aO 44 (.ari .add true .i64 (.t 41) (.t 43))),(aO 7 (.mv (.t 44)))])
 (.seq (.reg [0,87,2,3,6,7,22] [
 (aO 46 (.cmp .eql .i64 (.t 22) (kI 5))),(aO 45 (.mv (.t 46)))])
 (.cond (.t 45)
 (.reg [0,87,2,3,6] [
 (aO 47 (.mv (.t 6))),(aO 48 (.ari .add true .i64 (.t 47) (kI 2))),(aO 49 (.ari .add true .i64 (.t 48) (kI 4))),(aO 50 (.fa 2 (.t 2))),(aO 51 (.ld false 1 (.t 50))),(aO 52 (.ari .add true .i64 (.t 49) (.t 51))),(aO 53 (.fa 3 (.t 3))),(aO 54 (.ld false 1 (.t 53))),(aO 55 (.ari .add true .i64 (.t 52) (.t 54))),(aO 7 (.mv (.t 55)))])
 (.seq (.reg [0,87,2,3,7,22] [
 (aO 57 (.cmp .eql .i64 (.t 22) (kI 6))),(aO 56 (.mv (.t 57)))])
 (.cond (.t 56)
 (.drw [0,87,2,3] [
 (eT 58 (.ld true 5 (.t 2))),(eT 59 (.cal 78 [(.t 58)])),(eT 60 (.fa 3 (.t 3))),(eT 61 (.ld false 1 (.t 60))),(eF 62 (.ari .add true .i64 (.t 59) (.t 61))),(eF 7 (.mv (.t 62)))])
 (.seq (.reg [0,87,2,3,7,22] [
 (aO 64 (.cmp .eql .i64 (.t 22) (kI 7))),(aO 63 (.mv (.t 64)))])
 (.cond (.t 63)
 (.drw [0,87,2,3] [
 (eT 65 (.ld true 5 (.t 2))),(eT 66 (.cal 78 [(.t 65)])),(eT 67 (.fa 3 (.t 2))),(eT 68 (.ld false 1 (.t 67))),(eT 69 (.ari .add true .i64 (.t 66) (.t 68))),(eT 70 (.fa 3 (.t 3))),(eT 71 (.ld false 1 (.t 70))),(eF 72 (.ari .add true .i64 (.t 69) (.t 71))),(eF 7 (.mv (.t 72)))])
 .skip))))))))))))))))
 ac83_r18))))
def rv83:List RV:=[.tmp 4,.tmp 5]
theorem ok83:fnOk Tryz.prog ac83 rv83 Tryz.f83=true:=by kernel_rfl

def ac64_200:AC:=
 (.seq (.reg [200,21,200,201,202] [
 (aO 207 (.mv (.t 200))),(aO 208 (.nck (.t 207))),(aO 209 (.fa 0 (.t 208))),(aO 210 (.fa 2 (.t 209))),(aO 211 (.ld false 1 (.t 210))),(aO 212 (.mv (kI 0)))])
 (.block 0
 (.loop [200,21,200,201,202,211,212]
 (.seq (.reg [200,21,200,201,202,211,212] [
 (aO 213 (.cmp .lss .i64 (.t 212) (.t 211)))])
 (.seq (.cond (.t 213)
 .skip
 (.exit 0))
 (.seq (.block 1
 (.seq (.reg [200,21,200,201,202,211,212] [
 (aO 214 (.mv (.t 212))),(aO 206 (.mv (.t 214)))])
 (.reg [200,21,200,201,202,206,211,212] [
 (aO 215 (.mv (.t 200))),(aO 216 (.mv (.t 201))),(aO 217 (.mv (.t 202))),(aO 218 (.mv (.t 206))),(aO 219 (.clm 68 [(.t 215),(.t 216),(.t 217),(.t 218)]))])))
 (.reg [200,21,200,201,202,211,212] [
 (aO 220 (.ari .add true .i64 (.t 212) (kI 1))),(aO 212 (.mv (.t 220)))])))))))
def rv64_200:List RV:=[]
theorem ok64_200:qh0 Tryz.prog 200 ac64_200 rv64_200 Tryz.f64=true:=by kernel_rfl

def ac65_400:AC:=
 (.seq (.reg [400,37,400,401,402,403,404] [
 (aO 413 (.mv (.t 400))),(aO 414 (.nck (.t 413))),(aO 415 (.fa 0 (.t 414))),(aO 416 (.ld true 5 (.t 415))),(aO 417 (.mv (.t 401))),(aO 418 (.mv (.t 402))),(aO 419 (.mv (.t 403))),(aO 420 (.mv (.t 404))),(aO 421 (.bld [zI,zI,zI,zI] [(0,1,(.t 417)),(1,1,(.t 418)),(2,1,(.t 419)),(3,1,(.t 420))])),(aO 422 (.cal 83 [(.t 416),(.t 421)])),(aO 412 (.mv (.t 422))),(aO 423 (.ext (.t 412) 0)),(aO 424 (.ext (.t 412) 1)),(aO 410 (.mv (.t 423))),(aO 411 (.mv (.t 424)))])
 (.seq (.reg [400,37,400,410,411] [
 (aO 425 (.mv (.t 411))),(aO 426 (.cmp .eql .i64 (.t 425) (kI 0)))])
 (.cond (.t 426)
 (.reg [400,37,400,410] [
 (aO 427 (.mv (.t 400))),(aO 428 (.mv (.t 400))),(aO 429 (.nck (.t 428))),(aO 430 (.fa 5 (.t 429))),(aO 431 (.ld false 1 (.t 430))),(aO 432 (.mv (.t 410))),(aO 433 (.bsl 1 3 [zI] 1 [(0,(.t 432))])),(aO 434 (.app 1 3 8 (.t 431) (.t 433))),(aO 435 (.nck (.t 427))),(aO 436 (.fa 5 (.t 435))),(aN (.sto 1 (.t 436) (.t 434)))])
 .skip)))
def rv65_400:List RV:=[]
theorem ok65_400:qh0 Tryz.prog 400 ac65_400 rv65_400 Tryz.f65=true:=by kernel_rfl

def ac66_100:AC:=
 (.seq (.reg [100,39,100,101,102] [
 (aO 103 (.box (.t 100))),(aO 104 (.box (.t 101)))])
 (.seq (.reg [100,39,102,103,104] [
 (aO 108 (.mv (.t 102))),(aO 109 (.fa 1 (.t 104))),(aO 110 (.ld false 1 (.t 109))),(aO 111 (.fa 2 (.t 104))),(aO 112 (.ld false 1 (.t 111))),(aO 113 (.clv (.t 108) [(.t 110),(.t 112)]))])
 (.seq (.drw [100,39,102,103,104] [
 (eT 114 (.fa 1 (.t 104))),(eT 115 (.ld false 1 (.t 114))),(eT 116 (.fa 2 (.t 104))),(eT 117 (.ld false 1 (.t 116))),(eT 106 (.mv (.t 115))),(eF 107 (.mv (.t 117)))])
 (.seq (.seq (.reg [100,39,102,103,104,106,107] [
 (aO 118 (.fa 0 (.t 104))),(aO 119 (.ld false 1 (.t 118))),(aO 120 (.cmp .eql .i64 (.t 119) (kI 4)))])
 (.cond (.t 120)
 (.reg [100,39,102,103,106,107] [
 (aO 121 (.mv (.t 106))),(aO 122 (.ari .add true .i64 (.t 121) (kI 1))),(aO 106 (.mv (.t 122)))])
 (.reg [100,39,102,103,106,107] [
 (aO 123 (.mv (.t 107))),(aO 124 (.ari .add true .i64 (.t 123) (kI 1))),(aO 107 (.mv (.t 124)))])))
 (.seq (.reg [100,39,102,103,106,107] [
 (aO 125 (.mv (.t 106))),(aO 126 (.fa 0 (.t 103))),(aO 127 (.ld false 1 (.t 126))),(aO 128 (.cmp .lss .i64 (.t 125) (.t 127))),(aO 129 (.mv (.t 128))),⟨some 130,some (129,true),.mv (.t 107)⟩,⟨some 131,some (129,true),.fa 1 (.t 103)⟩,⟨some 132,some (129,true),.ld false 1 (.t 131)⟩,⟨some 133,some (129,true),.cmp .lss .i64 (.t 130) (.t 132)⟩,(aO 134 (.pick (.t 129) (.t 133) (.c (.sc (.bool false)))))])
 (.cut [100,39,102,106,107,134] (.cond (.t 134)
 (.reg [100,39,102,106,107] [
 (aO 135 (.mv (.t 102))),(aO 136 (.mv (.t 106))),(aO 137 (.mv (.t 107))),(aO 138 (.clv (.t 135) [(.t 136),(.t 137)]))])
 .skip)))))))
def rv66_100:List RV:=[]
theorem ok66_100:qh0 Tryz.prog 100 ac66_100 rv66_100 Tryz.f66=true:=by kernel_rfl

def ac67_150:AC:=
 (.seq (.reg [150,39,150,151,152,153,154] [
 (aO 158 (.ld false 1 (.t 152))),(aO 159 (.mv (.t 150))),(aO 160 (.mv (.t 151))),(aO 161 (.clm 65 [(.t 158),(kI 1),(.t 159),(.t 160),(kI 0)]))])
 (.seq (.reg [150,39,150,151,152,153,154] [
 (aO 162 (.ld false 1 (.t 152))),(aO 163 (.mv (.t 150))),(aO 164 (.mv (.t 151))),(aO 165 (.clm 65 [(.t 162),(kI 2),(.t 163),(.t 164),(kI 0)]))])
 (.seq (.reg [150,39,150,151,152,153,154] [
 (aO 166 (.ld false 1 (.t 152))),(aO 167 (.mv (.t 150))),(aO 168 (.mv (.t 151))),(aO 169 (.fa 3 (.t 153))),(aO 170 (.ld false 1 (.t 169))),(aO 171 (.clm 68 [(.t 166),(.t 167),(.t 168),(.t 170)]))])
 (.seq (.reg [150,39,150,151,152,154] [
 (aO 172 (.mv (.t 151))),(aO 157 (.mv (.t 172)))])
 (.block 0
 (.loop [150,39,150,151,152,154,157]
 (.seq (.seq (.reg [150,39,150,151,152,154,157] [
 (aO 173 (.mv (.t 150))),(aO 174 (.cmp .eql .i64 (.t 173) (kI 0))),(aO 175 (.mv (.t 174))),⟨some 176,some (175,true),.mv (.t 157)⟩,⟨some 177,some (175,true),.fa 3 (.t 154)⟩,⟨some 178,some (175,true),.ld false 1 (.t 177)⟩,⟨some 179,some (175,true),.cmp .lss .i64 (.t 176) (.t 178)⟩,(aO 180 (.pick (.t 175) (.t 179) (.c (.sc (.bool false)))))])
 (.cut [150,39,150,151,152,154,157,180] (.cond (.t 180)
 .skip
 (.exit 0))))
 (.seq (.block 1
 (.reg [150,39,150,151,152,154,157] [
 (aO 185 (.ld false 1 (.t 152))),(aO 186 (.mv (.t 151))),(aO 187 (.mv (.t 157))),(aO 188 (.clm 65 [(.t 185),(kI 6),(kI (-1)),(.t 186),(.t 187)]))]))
 (.reg [150,39,150,151,152,154,157] [
 (aO 181 (.mv (.t 157))),(aO 182 (.fa 1 (.t 154))),(aO 183 (.ld false 1 (.t 182))),(aO 184 (.ari .add true .i64 (.t 181) (.t 183))),(aO 157 (.mv (.t 184)))])))))))))
def rv67_150:List RV:=[]
theorem ok67_150:qh0 Tryz.prog 150 ac67_150 rv67_150 Tryz.f67=true:=by kernel_rfl

def ac68_250:AC:=
 (.seq (.seq (.reg [250,54,250,251,252,253] [
 (aO 258 (.mv (.t 251))),(aO 259 (.cmp .lss .i64 (.t 258) (kI 0))),(aO 260 (.mv (.t 259))),⟨some 261,some (260,false),.mv (.t 251)⟩,⟨some 262,some (260,false),.mv (.t 250)⟩,⟨some 263,some (260,false),.nck (.t 262)⟩,⟨some 264,some (260,false),.fa 0 (.t 263)⟩,⟨some 265,some (260,false),.fa 0 (.t 264)⟩,⟨some 266,some (260,false),.ld false 1 (.t 265)⟩,⟨some 267,some (260,false),.cmp .geq .i64 (.t 261) (.t 266)⟩,(aO 268 (.pick (.t 260) (.c (.sc (.bool true))) (.t 267))),(aO 269 (.mv (.t 268))),⟨some 270,some (269,false),.mv (.t 252)⟩,⟨some 271,some (269,false),.cmp .lss .i64 (.t 270) (kI 0)⟩,(aO 272 (.pick (.t 269) (.c (.sc (.bool true))) (.t 271))),(aO 273 (.mv (.t 272))),⟨some 274,some (273,false),.mv (.t 252)⟩,⟨some 275,some (273,false),.mv (.t 250)⟩,⟨some 276,some (273,false),.nck (.t 275)⟩,⟨some 277,some (273,false),.fa 0 (.t 276)⟩,⟨some 278,some (273,false),.fa 1 (.t 277)⟩,⟨some 279,some (273,false),.ld false 1 (.t 278)⟩,⟨some 280,some (273,false),.cmp .geq .i64 (.t 274) (.t 279)⟩,(aO 281 (.pick (.t 273) (.c (.sc (.bool true))) (.t 280)))])
 (.cut [250,54,250,251,252,253,281] (.cond (.t 281)
 .ret
 .skip)))
 (.seq (.reg [250,54,250,251,252,253] [
 (aO 282 (.mv (.t 250))),(aO 283 (.mv (.t 251))),(aO 284 (.mv (.t 252))),(aO 285 (.mv (.t 253))),(aO 286 (.clm 65 [(.t 282),(kI 4),(.t 283),(.t 284),(.t 285)]))])
 (.seq (.reg [250,54,250,251,252,253] [
 (aO 287 (.mv (.t 250))),(aO 288 (.mv (.t 251))),(aO 289 (.mv (.t 252))),(aO 290 (.mv (.t 253))),(aO 291 (.clm 65 [(.t 287),(kI 5),(.t 288),(.t 289),(.t 290)]))])
 (.seq (.reg [250,54,250,251,252,253] [
 (aO 292 (.mv (.t 250))),(aO 293 (.mv (.t 251))),(aO 294 (.ari .sub true .i64 (.t 293) (kI 1))),(aO 295 (.mv (.t 252))),(aO 296 (.mv (.t 253))),(aO 297 (.clm 65 [(.t 292),(kI 4),(.t 294),(.t 295),(.t 296)]))])
 (.reg [250,54,250,251,252,253] [
 (aO 298 (.mv (.t 250))),(aO 299 (.mv (.t 251))),(aO 300 (.mv (.t 252))),(aO 301 (.ari .sub true .i64 (.t 300) (kI 1))),(aO 302 (.mv (.t 253))),(aO 303 (.clm 65 [(.t 298),(kI 5),(.t 299),(.t 301),(.t 302)]))])))))
def rv68_250:List RV:=[]
theorem ok68_250:qh0 Tryz.prog 250 ac68_250 rv68_250 Tryz.f68=true:=by kernel_rfl

def ac69_100:AC:=
 (.seq (.reg [100,24,100,101] [
 (aO 103 (.box (.t 101))),(aO 104 (.mv (.c (.nil))))])
 (.seq (.reg [100,24,100,103] [
 (aO 105 (.mv (.t 100))),(aO 106 (.nck (.t 105))),(aO 107 (.fa 5 (.t 106))),(aO 108 (.ld false 1 (.t 107))),(aO 109 (.clm 84 [(.t 108)]))])
 (.seq (.reg [100,24,100,103] [
 (aO 110 (.mv (.t 100))),(aO 111 (.mv (.t 100))),(aO 112 (.nck (.t 111))),(aO 113 (.fa 5 (.t 112))),(aO 114 (.ld false 1 (.t 113))),(aO 115 (.clm 85 [(.t 114)])),(aO 116 (.nck (.t 110))),(aO 117 (.fa 5 (.t 116))),(aN (.sto 1 (.t 117) (.t 115)))])
 (.seq (.reg [100,24,100,103] [
 (aO 118 (.mv (.t 100))),(aO 119 (.nck (.t 118))),(aO 120 (.fa 5 (.t 119))),(aO 121 (.ld false 1 (.t 120))),(aO 122 (.mkf 87 [(.t 103)])),(aO 123 (.clm 86 [(.t 121),(.t 122)])),(aO 104 (.mv (.t 123)))])
 .ret))))
def rv69_100:List RV:=[.tmp 104]
theorem ok69_100:qh0 Tryz.prog 100 ac69_100 rv69_100 Tryz.f69=true:=by kernel_rfl

def ac86_150:AC:=
 (.seq (.reg [150,42,150,151] [
 (aO 154 (.mv (.c (.nil))))])
 (.seq (.reg [150,42,150,151] [
 (aO 158 (.mv (.t 150))),(aO 159 (.mv (.t 151))),(aO 160 (.cal 59 [(.t 158),(.t 159)])),(aO 155 (.mv (.t 160)))])
 (.seq (.seq (.reg [150,42,150,151,155] [
 (aO 161 (.mv (.t 155))),(aO 162 (.cmp .eql .i64 (.t 161) (kI (-1))))])
 (.cond (.t 162)
 (.seq (.reg [150,42,150] [
 (aO 163 (.mv (.t 150))),(aO 154 (.mv (.t 163)))])
 .ret)
 .skip))
 (.seq (.seq (.reg [150,42,150,151,155] [
 (aO 164 (.mv (.t 155))),(aO 165 (.ari .add true .i64 (.t 164) (kI 1))),(aO 156 (.mv (.t 165)))])
 (.block 0
 (.loop [150,42,150,151,155,156]
 (.seq (.seq (.reg [150,42,150,151,155,156] [
 (aO 166 (.mv (.t 156))),(aO 167 (.mv (.t 150))),(aO 168 (.len (.t 167))),(aO 169 (.cmp .lss .i64 (.t 166) (.t 168)))])
 (.cond (.t 169)
 .skip
 (.exit 0)))
 (.seq (.block 1
 (.seq (.reg [150,42,150,151,155,156] [
 (aO 172 (.mv (.t 150))),(aO 173 (.mv (.t 156))),(aO 174 (.ixs 1 (.t 172) (.t 173))),(aO 175 (.ld false 1 (.t 174))),(aO 157 (.mv (.t 175)))])
 (.seq (.reg [150,42,150,151,155,156,157] [
 (aO 176 (.mv (.t 151))),(aO 177 (.mv (.t 157))),(aO 178 (.clv (.t 176) [(.t 177)])),(aO 179 (.not (.t 178)))])
 (.cond (.t 179)
 (.seq (.reg [150,42,150,151,155,156,157] [
 (aO 180 (.mv (.t 150))),(aO 181 (.mv (.t 155))),(aO 182 (.mv (.t 157))),(aO 183 (.ixs 1 (.t 180) (.t 181))),(aN (.sto 1 (.t 183) (.t 182)))])
 (.reg [150,42,150,151,155,156] [
 (aO 184 (.mv (.t 155))),(aO 185 (.ari .add true .i64 (.t 184) (kI 1))),(aO 155 (.mv (.t 185)))]))
 .skip))))
 (.reg [150,42,150,151,155,156] [
 (aO 170 (.mv (.t 156))),(aO 171 (.ari .add true .i64 (.t 170) (kI 1))),(aO 156 (.mv (.t 171)))]))))))
 (.seq (.reg [150,42,150,155] [
 (aO 186 (.mv (.t 150))),(aO 187 (.mv (.t 155))),(aO 188 (.slc 1 (.t 186) (some (.t 187)) none)),(aN (.xo (.clr 1 [zI]) [(.t 188)]))])
 (.seq (.reg [150,42,150,155] [
 (aO 189 (.mv (.t 150))),(aO 190 (.mv (.t 155))),(aO 191 (.slc 1 (.t 189) none (some (.t 190)))),(aO 154 (.mv (.t 191)))])
 .ret))))))
def rv86_150:List RV:=[.tmp 154]
theorem ok86_150:qh0 Tryz.prog 150 ac86_150 rv86_150 Tryz.f86=true:=by kernel_rfl

def ac87:AC:=
 (.seq (.reg [0,7,0,1] [
 (aO 3 (.mv (.c (.sc (.bool false)))))])
 (.seq (.reg [0,7,0,1] [
 (aO 4 (.mv (.t 0))),(aO 5 (.ld false 1 (.t 1))),(aO 6 (.cmp .eql .i64 (.t 4) (.t 5))),(aO 3 (.mv (.t 6)))])
 .ret))
def rv87:List RV:=[.tmp 3]
theorem ok87:fnOk Tryz.prog ac87 rv87 Tryz.f87=true:=by kernel_rfl

def ac59:AC:=
 (.seq (.reg [0,19,0,1] [
 (aO 4 (.mv (kI 0)))])
 (.seq (.seq (.reg [0,19,0,1] [
 (aO 6 (.mv (.t 0))),(aO 7 (.len (.t 6))),(aO 8 (.mv (kI 0)))])
 (.block 0
 (.loop [0,19,0,1,7,8]
 (.seq (.reg [0,19,0,1,7,8] [
 (aO 9 (.cmp .lss .i64 (.t 8) (.t 7)))])
 (.seq (.cond (.t 9)
 .skip
 (.exit 0))
 (.seq (.block 1
 (.seq (.reg [0,19,0,1,7,8] [
 (aO 10 (.mv (.t 8))),(aO 5 (.mv (.t 10)))])
 (.seq (.reg [0,19,0,1,5,7,8] [
 (aO 11 (.mv (.t 1))),(aO 12 (.mv (.t 0))),(aO 13 (.mv (.t 5))),(aO 14 (.ixs 1 (.t 12) (.t 13))),(aO 15 (.ld false 1 (.t 14))),(aO 16 (.clv (.t 11) [(.t 15)]))])
 (.cond (.t 16)
 (.seq (.reg [0,19,5] [
 (aO 17 (.mv (.t 5))),(aO 4 (.mv (.t 17)))])
 .ret)
 .skip))))
 (.reg [0,19,0,1,7,8] [
 (aO 18 (.ari .add true .i64 (.t 8) (kI 1))),(aO 8 (.mv (.t 18)))])))))))
 (.seq (.reg [0,19] [
 (aO 4 (.mv (kI (-1))))])
 .ret)))
def rv59:List RV:=[.tmp 4]
theorem ok59:fnOk Tryz.prog ac59 rv59 Tryz.f59=true:=by kernel_rfl

def ac41:AC:=
 (.seq (.reg [0,15,0] [
 (aO 1 (.box (.t 0))),(aO 2 (.mv (kI 0)))])
 (.seq (.drw [0,15,1] [
 (eT 3 (.fa 0 (.t 1))),(eT 4 (.ld false 1 (.t 3))),(eT 5 (.fa 1 (.t 1))),(eT 6 (.ld false 1 (.t 5))),(eT 7 (.ari .mul true .i64 (.t 4) (.t 6))),(eT 8 (.ld true 5 (.t 1))),(eT 9 (.cal 49 [(.t 8)])),(eT 10 (.ari .mul true .i64 (.t 7) (.t 9))),(eT 11 (.fa 3 (.t 1))),(eT 12 (.ld false 1 (.t 11))),(eT 13 (.ari .mul true .i64 (kI 2) (.t 12))),(eF 14 (.ari .add true .i64 (.t 10) (.t 13))),(eF 2 (.mv (.t 14)))])
 .ret))
def rv41:List RV:=[.tmp 2]
theorem ok41:fnOk Tryz.prog ac41 rv41 Tryz.f41=true:=by kernel_rfl

def ac49:AC:=
 (.seq (.reg [0,7,0] [
 (aO 1 (.box (.t 0))),(aO 2 (.mv (kI 0)))])
 (.seq (.reg [0,7,1] [
 (aO 3 (.fa 2 (.t 1))),(aO 4 (.ld false 1 (.t 3))),(aO 5 (.ari .mul true .i64 (kI 2) (.t 4))),(aO 6 (.ari .add true .i64 (kI 6) (.t 5))),(aO 2 (.mv (.t 6)))])
 .ret))
def rv49:List RV:=[.tmp 2]
theorem ok49:fnOk Tryz.prog ac49 rv49 Tryz.f49=true:=by kernel_rfl

def ac48:AC:=
 (.seq (.reg [0,113,0,1] [
 (aO 2 (.box (.t 0))),(aO 4 (.alc [zI,zI,zI,zI,zI]))])
 (.seq (.seq (.reg [0,113,1,2,4] [
 (aO 11 (.mv (.t 1))),(aO 12 (.cmp .lss .i64 (.t 11) (kI 0))),(aO 13 (.mv (.t 12))),⟨some 14,some (13,false),.mv (.t 1)⟩,⟨some 15,some (13,false),.ld true 5 (.t 2)⟩,⟨some 16,some (13,false),.cal 41 [(.t 15)]⟩,⟨some 17,some (13,false),.cmp .geq .i64 (.t 14) (.t 16)⟩,(aO 18 (.pick (.t 13) (.c (.sc (.bool true))) (.t 17)))])
 (.cut [0,113,1,2,4,18] (.cond (.t 18)
 (.seq (.reg [0,113,4] [
 (aO 19 (.bld [zI,zI,zI,zI,zI] [(4,1,(kI 1))])),(aN (.sto 5 (.t 4) (.t 19)))])
 .ret)
 .skip)))
 (.seq (.drw [0,113,1,2,4] [
 (eT 20 (.fa 0 (.t 2))),(eT 21 (.ld false 1 (.t 20))),(eT 22 (.fa 1 (.t 2))),(eT 23 (.ld false 1 (.t 22))),(eT 24 (.ari .mul true .i64 (.t 21) (.t 23))),(eT 25 (.ld true 5 (.t 2))),(eT 26 (.cal 49 [(.t 25)])),(eF 27 (.ari .mul true .i64 (.t 24) (.t 26))),(eF 5 (.mv (.t 27)))])
 (.seq (.seq (.reg [0,113,1,2,4,5] [
 (aO 28 (.mv (.t 1))),(aO 29 (.mv (.t 5))),(aO 30 (.fa 3 (.t 2))),(aO 31 (.ld false 1 (.t 30))),(aO 32 (.ari .add true .i64 (.t 29) (.t 31))),(aO 33 (.cmp .geq .i64 (.t 28) (.t 32)))])
 (.cond (.t 33)
 (.seq (.reg [0,113,1,2,4,5] [
 (aO 34 (.mv (.t 1))),(aO 35 (.mv (.t 5))),(aO 36 (.ari .sub true .i64 (.t 34) (.t 35))),(aO 37 (.fa 3 (.t 2))),(aO 38 (.ld false 1 (.t 37))),(aO 39 (.ari .sub true .i64 (.t 36) (.t 38))),(aO 6 (.mv (.t 39)))])
 (.seq (.drw [0,113,2,4,6] [
 (eT 40 (.fa 0 (.t 2))),(eT 41 (.ld false 1 (.t 40))),(eT 42 (.mv (.t 6))),(eT 43 (.fa 1 (.t 2))),(eT 44 (.ld false 1 (.t 43))),(eT 45 (.dvd .rem true .i64 (.t 42) (.t 44))),(eT 46 (.mv (.t 6))),(eF 47 (.bld [zI,zI,zI,zI] [(0,1,(kI 7)),(1,1,(.t 41)),(2,1,(.t 45)),(3,1,(.t 46))])),(eF 48 (.bld [zI,zI,zI,zI,zI] [(0,4,(.t 47))])),⟨(aN (.sto 5 (.t 4) (.t 48))),[],[],false⟩])
 .ret))
 .skip))
 (.seq (.seq (.reg [0,113,1,2,4,5] [
 (aO 49 (.mv (.t 1))),(aO 50 (.mv (.t 5))),(aO 51 (.cmp .geq .i64 (.t 49) (.t 50)))])
 (.cond (.t 51)
 (.seq (.reg [0,113,1,2,4,5] [
 (aO 52 (.mv (.t 1))),(aO 53 (.mv (.t 5))),(aO 54 (.ari .sub true .i64 (.t 52) (.t 53))),(aO 7 (.mv (.t 54)))])
 (.seq (.reg [0,113,2,4,7] [
 (aO 55 (.mv (.t 7))),(aO 56 (.fa 1 (.t 2))),(aO 57 (.ld false 1 (.t 56))),(aO 58 (.dvd .rem true .i64 (.t 55) (.t 57))),(aO 59 (.mv (.t 7))),(aO 60 (.bld [zI,zI,zI,zI] [(0,1,(kI 6)),(1,1,(kI (-1))),(2,1,(.t 58)),(3,1,(.t 59))])),(aO 61 (.bld [zI,zI,zI,zI,zI] [(0,4,(.t 60))])),(aN (.sto 5 (.t 4) (.t 61)))])
 .ret))
 .skip))
 (.seq (.drw [0,113,1,2,4] [
 (eT 62 (.mv (.t 1))),(eT 63 (.ld true 5 (.t 2))),(eT 64 (.cal 49 [(.t 63)])),(eT 65 (.dvd .quo true .i64 (.t 62) (.t 64))),(eT 66 (.mv (.t 1))),(eT 67 (.ld true 5 (.t 2))),(eT 68 (.cal 49 [(.t 67)])),(eT 69 (.dvd .rem true .i64 (.t 66) (.t 68))),(eT 8 (.mv (.t 65))),(eF 9 (.mv (.t 69)))])
 (.seq (.drw [0,113,2,4,8,9] [
 (eU 70 (.mv (.t 8)) [] [10]),(eU 71 (.fa 0 (.t 2)) [] [10]),(eU 72 (.ld false 1 (.t 71)) [] [10]),(eU 73 (.dvd .rem true .i64 (.t 70) (.t 72)) [] [10]),(eU 74 (.mv (.t 8)) [] [10]),(eU 75 (.fa 0 (.t 2)) [] [10]),(eU 76 (.ld false 1 (.t 75)) [] [10]),(eU 77 (.dvd .quo true .i64 (.t 74) (.t 76)) [] [10]),(eU 78 (.bld [zI,zI,zI,zI] [(1,1,(.t 73)),(2,1,(.t 77))]) [] [10]),(eU 10 (.alc [zI,zI,zI,zI]) [10] []),⟨(aN (.sto 4 (.t 10) (.t 78))),[],[],false⟩])
 (.seq (.block 0
 (.seq (.reg [0,113,2,4,9,10] [
 (aO 87 (.mv (.t 9))),(aO 88 (.cmp .eql .i64 (.t 87) (kI 0))),(aO 86 (.mv (.t 88)))])
 (.cond (.t 86)
 (.reg [0,113,4,10] [
 (aO 89 (.fa 0 (.t 10))),(aN (.sto 1 (.t 89) (kI 1)))])
 (.seq (.reg [0,113,2,4,9,10] [
 (aO 91 (.mv (.t 9))),(aO 92 (.cmp .eql .i64 (.t 91) (kI 1))),(aO 90 (.mv (.t 92)))])
 (.cond (.t 90)
 (.reg [0,113,4,10] [
 (aO 93 (.fa 0 (.t 10))),(aN (.sto 1 (.t 93) (kI 2)))])
 (.seq (.reg [0,113,2,4,9,10] [
 (aO 95 (.mv (.t 9))),(aO 96 (.cmp .lss .i64 (.t 95) (kI 6))),(aO 94 (.mv (.t 96)))])
 (.cond (.t 94)
 (.seq (.reg [0,113,4,9,10] [
 (aO 97 (.fa 0 (.t 10))),(aN (.sto 1 (.t 97) (kI 3)))])
 (.reg [0,113,4,9,10] [
 (aO 98 (.mv (.t 9))),(aO 99 (.ari .sub true .i64 (.t 98) (kI 2))),(aO 100 (.fa 3 (.t 10))),(aN (.sto 1 (.t 100) (.t 99)))]))
 (.seq (.reg [0,113,2,4,9,10] [
 (aO 102 (.mv (.t 9))),(aO 103 (.fa 2 (.t 2))),(aO 104 (.ld false 1 (.t 103))),(aO 105 (.ari .add true .i64 (kI 6) (.t 104))),(aO 106 (.cmp .lss .i64 (.t 102) (.t 105))),(aO 101 (.mv (.t 106)))])
 (.cond (.t 101)
 (.seq (.reg [0,113,4,9,10] [
 (aO 107 (.fa 0 (.t 10))),(aN (.sto 1 (.t 107) (kI 4)))])
 (.reg [0,113,4,9,10] [
 (aO 108 (.mv (.t 9))),(aO 109 (.ari .sub true .i64 (.t 108) (kI 6))),(aO 110 (.fa 3 (.t 10))),(aN (.sto 1 (.t 110) (.t 109)))]))
 (.seq (.reg [0,113,2,4,9,10] [
 (aO 79 (.fa 0 (.t 10))),(aN (.sto 1 (.t 79) (kI 5)))])
 (.reg [0,113,2,4,9,10] [
 (aO 80 (.mv (.t 9))),(aO 81 (.ari .sub true .i64 (.t 80) (kI 6))),(aO 82 (.fa 2 (.t 2))),(aO 83 (.ld false 1 (.t 82))),(aO 84 (.ari .sub true .i64 (.t 81) (.t 83))),(aO 85 (.fa 3 (.t 10))),(aN (.sto 1 (.t 85) (.t 84)))])))))))))))
 (.seq (.reg [0,113,4,10] [
 (aO 111 (.ld true 4 (.t 10))),(aO 112 (.bld [zI,zI,zI,zI,zI] [(0,4,(.t 111))])),(aN (.sto 5 (.t 4) (.t 112)))])
 .ret)))))))))
def rv48:List RV:=[.cell 4 true 5]
theorem ok48:fnOk Tryz.prog ac48 rv48 Tryz.f48=true:=by kernel_rfl

def ac90:AC:=
 (.seq (.reg [0,83,0,1,2,3] [
 (aO 4 (.box (.t 0))),(aO 5 (.box (.t 1))),(aO 8 (.mv (.c (.sc (.bool false)))))])
 (.seq (.seq (.reg [0,83,2,3,4,5] [
 (aO 9 (.mv (.t 2))),(aO 10 (.cmp .lss .i64 (.t 9) (kI 0))),(aO 11 (.mv (.t 10))),⟨some 12,some (11,false),.mv (.t 2)⟩,⟨some 13,some (11,false),.fa 0 (.t 4)⟩,⟨some 14,some (11,false),.ld false 1 (.t 13)⟩,⟨some 15,some (11,false),.cmp .geq .i64 (.t 12) (.t 14)⟩,(aO 16 (.pick (.t 11) (.c (.sc (.bool true))) (.t 15))),(aO 17 (.mv (.t 16))),⟨some 18,some (17,false),.mv (.t 3)⟩,⟨some 19,some (17,false),.cmp .lss .i64 (.t 18) (kI 0)⟩,(aO 20 (.pick (.t 17) (.c (.sc (.bool true))) (.t 19))),(aO 21 (.mv (.t 20))),⟨some 22,some (21,false),.mv (.t 3)⟩,⟨some 23,some (21,false),.fa 1 (.t 4)⟩,⟨some 24,some (21,false),.ld false 1 (.t 23)⟩,⟨some 25,some (21,false),.cmp .geq .i64 (.t 22) (.t 24)⟩,(aO 26 (.pick (.t 21) (.c (.sc (.bool true))) (.t 25)))])
 (.cut [0,83,2,3,5,26] (.cond (.t 26)
 (.seq (.reg [0,83] [
 (aO 8 (.mv (.c (.sc (.bool false)))))])
 .ret)
 .skip)))
 (.seq (.reg [0,83,2,3,5] [
 (aO 27 (.fa 0 (.t 5))),(aO 28 (.ld false 1 (.t 27))),(aO 29 (.cmp .eql .i64 (.t 28) (kI 4))),(aO 30 (.mv (.t 29))),⟨some 31,some (30,false),.fa 0 (.t 5)⟩,⟨some 32,some (30,false),.ld false 1 (.t 31)⟩,⟨some 33,some (30,false),.cmp .eql .i64 (.t 32) (kI 5)⟩,(aO 34 (.pick (.t 30) (.c (.sc (.bool true))) (.t 33))),(aO 35 (.mv (.t 34))),⟨some 36,some (35,true),.fa 1 (.t 5)⟩,⟨some 37,some (35,true),.ld false 1 (.t 36)⟩,⟨some 38,some (35,true),.mv (.t 2)⟩,⟨some 39,some (35,true),.cmp .eql .i64 (.t 37) (.t 38)⟩,(aO 40 (.pick (.t 35) (.t 39) (.c (.sc (.bool false))))),(aO 41 (.mv (.t 40))),⟨some 42,some (41,true),.fa 2 (.t 5)⟩,⟨some 43,some (41,true),.ld false 1 (.t 42)⟩,⟨some 44,some (41,true),.mv (.t 3)⟩,⟨some 45,some (41,true),.cmp .eql .i64 (.t 43) (.t 44)⟩,(aO 46 (.pick (.t 41) (.t 45) (.c (.sc (.bool false))))),(aO 47 (.mv (.t 46))),⟨some 48,some (47,false),.fa 0 (.t 5)⟩,⟨some 49,some (47,false),.ld false 1 (.t 48)⟩,⟨some 50,some (47,false),.cmp .eql .i64 (.t 49) (kI 4)⟩,⟨some 51,some (47,false),.mv (.t 50)⟩,⟨some 52,some (51,true),.fa 1 (.t 5)⟩,⟨some 53,some (51,true),.ld false 1 (.t 52)⟩,⟨some 54,some (51,true),.ari .add true .i64 (.t 53) (kI 1)⟩,⟨some 55,some (51,true),.mv (.t 2)⟩,⟨some 56,some (51,true),.cmp .eql .i64 (.t 54) (.t 55)⟩,⟨some 57,some (47,false),.pick (.t 51) (.t 56) (.c (.sc (.bool false)))⟩,⟨some 58,some (47,false),.mv (.t 57)⟩,⟨some 59,some (58,true),.fa 2 (.t 5)⟩,⟨some 60,some (58,true),.ld false 1 (.t 59)⟩,⟨some 61,some (58,true),.mv (.t 3)⟩,⟨some 62,some (58,true),.cmp .eql .i64 (.t 60) (.t 61)⟩,⟨some 63,some (47,false),.pick (.t 58) (.t 62) (.c (.sc (.bool false)))⟩,(aO 64 (.pick (.t 47) (.c (.sc (.bool true))) (.t 63))),(aO 65 (.mv (.t 64))),⟨some 66,some (65,false),.fa 0 (.t 5)⟩,⟨some 67,some (65,false),.ld false 1 (.t 66)⟩,⟨some 68,some (65,false),.cmp .eql .i64 (.t 67) (kI 5)⟩,⟨some 69,some (65,false),.mv (.t 68)⟩,⟨some 70,some (69,true),.fa 1 (.t 5)⟩,⟨some 71,some (69,true),.ld false 1 (.t 70)⟩,⟨some 72,some (69,true),.mv (.t 2)⟩,⟨some 73,some (69,true),.cmp .eql .i64 (.t 71) (.t 72)⟩,⟨some 74,some (65,false),.pick (.t 69) (.t 73) (.c (.sc (.bool false)))⟩,⟨some 75,some (65,false),.mv (.t 74)⟩,⟨some 76,some (75,true),.fa 2 (.t 5)⟩,⟨some 77,some (75,true),.ld false 1 (.t 76)⟩,⟨some 78,some (75,true),.ari .add true .i64 (.t 77) (kI 1)⟩,⟨some 79,some (75,true),.mv (.t 3)⟩,⟨some 80,some (75,true),.cmp .eql .i64 (.t 78) (.t 79)⟩,⟨some 81,some (65,false),.pick (.t 75) (.t 80) (.c (.sc (.bool false)))⟩,(aO 82 (.pick (.t 65) (.c (.sc (.bool true))) (.t 81))),(aO 8 (.mv (.t 82)))])
 .ret)))
def rv90:List RV:=[.tmp 8]
theorem ok90:fnOk Tryz.prog ac90 rv90 Tryz.f90=true:=by kernel_rfl

def ac91:AC:=
 (.seq (.reg [0,11,0] [
 (aO 1 (.box (.t 0))),(aO 2 (.mv (.c (.sc (.bool false)))))])
 (.seq (.reg [0,11,1] [
 (aO 3 (.fa 0 (.t 1))),(aO 4 (.ld false 1 (.t 3))),(aO 5 (.cmp .eql .i64 (.t 4) (kI 4))),(aO 6 (.mv (.t 5))),⟨some 7,some (6,false),.fa 0 (.t 1)⟩,⟨some 8,some (6,false),.ld false 1 (.t 7)⟩,⟨some 9,some (6,false),.cmp .eql .i64 (.t 8) (kI 5)⟩,(aO 10 (.pick (.t 6) (.c (.sc (.bool true))) (.t 9))),(aO 2 (.mv (.t 10)))])
 .ret))
def rv91:List RV:=[.tmp 2]
theorem ok91:fnOk Tryz.prog ac91 rv91 Tryz.f91=true:=by kernel_rfl

def ac92:AC:=
 (.seq (.reg [0,44,0,1,2] [
 (aO 3 (.box (.t 0))),(aO 4 (.box (.t 1))),(aO 5 (.box (.t 2))),(aO 6 (.mv (.c (.sc (.bool false)))))])
 (.seq (.reg [0,44,3,4,5] [
 (aO 7 (.ld true 5 (.t 3))),(aO 8 (.ld true 4 (.t 5))),(aO 9 (.fa 1 (.t 4))),(aO 10 (.ld false 1 (.t 9))),(aO 11 (.fa 2 (.t 4))),(aO 12 (.ld false 1 (.t 11))),(aO 13 (.cal 90 [(.t 7),(.t 8),(.t 10),(.t 12)])),(aO 14 (.mv (.t 13))),⟨some 15,some (14,false),.fa 0 (.t 4)⟩,⟨some 16,some (14,false),.ld false 1 (.t 15)⟩,⟨some 17,some (14,false),.cmp .eql .i64 (.t 16) (kI 4)⟩,⟨some 18,some (14,false),.mv (.t 17)⟩,⟨some 19,some (18,true),.ld true 5 (.t 3)⟩,⟨some 20,some (18,true),.ld true 4 (.t 5)⟩,⟨some 21,some (18,true),.fa 1 (.t 4)⟩,⟨some 22,some (18,true),.ld false 1 (.t 21)⟩,⟨some 23,some (18,true),.ari .add true .i64 (.t 22) (kI 1)⟩,⟨some 24,some (18,true),.fa 2 (.t 4)⟩,⟨some 25,some (18,true),.ld false 1 (.t 24)⟩,⟨some 26,some (18,true),.cal 90 [(.t 19),(.t 20),(.t 23),(.t 25)]⟩,⟨some 27,some (14,false),.pick (.t 18) (.t 26) (.c (.sc (.bool false)))⟩,(aO 28 (.pick (.t 14) (.c (.sc (.bool true))) (.t 27))),(aO 29 (.mv (.t 28))),⟨some 30,some (29,false),.fa 0 (.t 4)⟩,⟨some 31,some (29,false),.ld false 1 (.t 30)⟩,⟨some 32,some (29,false),.cmp .eql .i64 (.t 31) (kI 5)⟩,⟨some 33,some (29,false),.mv (.t 32)⟩,⟨some 34,some (33,true),.ld true 5 (.t 3)⟩,⟨some 35,some (33,true),.ld true 4 (.t 5)⟩,⟨some 36,some (33,true),.fa 1 (.t 4)⟩,⟨some 37,some (33,true),.ld false 1 (.t 36)⟩,⟨some 38,some (33,true),.fa 2 (.t 4)⟩,⟨some 39,some (33,true),.ld false 1 (.t 38)⟩,⟨some 40,some (33,true),.ari .add true .i64 (.t 39) (kI 1)⟩,⟨some 41,some (33,true),.cal 90 [(.t 34),(.t 35),(.t 37),(.t 40)]⟩,⟨some 42,some (29,false),.pick (.t 33) (.t 41) (.c (.sc (.bool false)))⟩,(aO 43 (.pick (.t 29) (.c (.sc (.bool true))) (.t 42))),(aO 6 (.mv (.t 43)))])
 .ret))
def rv92:List RV:=[.tmp 6]
theorem ok92:fnOk Tryz.prog ac92 rv92 Tryz.f92=true:=by kernel_rfl

def ac45:AC:=
 (.seq (.reg [0,36,0,1] [
 (aO 2 (.box (.t 0))),(aO 4 (.mv (.c (.nil))))])
 (.seq (.reg [0,36,1,2] [
 (aO 8 (.bsl 1 3 [zI] 0 [])),(aO 5 (.mv (.t 8)))])
 (.seq (.reg [0,36,1,2,5] [
 (aO 9 (.ld true 5 (.t 2))),(aO 10 (.mv (.t 1))),(aO 11 (.cal 48 [(.t 9),(.t 10)])),(aO 6 (.alc [zI,zI,zI,zI,zI])),(aN (.sto 5 (.t 6) (.t 11)))])
 (.seq (.seq (.reg [0,36,2,5,6] [
 (aO 7 (.mv (kI 0)))])
 (.block 0
 (.loop [0,36,2,5,6,7]
 (.seq (.seq (.reg [0,36,2,5,6,7] [
 (aO 12 (.mv (.t 7))),(aO 13 (.ld true 5 (.t 2))),(aO 14 (.cal 41 [(.t 13)])),(aO 15 (.cmp .lss .i64 (.t 12) (.t 14))),(aO 16 (.mv (.t 15))),⟨some 17,some (16,true),.fa 4 (.t 6)⟩,⟨some 18,some (16,true),.ld false 1 (.t 17)⟩,⟨some 19,some (16,true),.cmp .eql .i64 (.t 18) (kI 0)⟩,(aO 20 (.pick (.t 16) (.t 19) (.c (.sc (.bool false)))))])
 (.cut [0,36,2,5,6,7,20] (.cond (.t 20)
 .skip
 (.exit 0))))
 (.seq (.block 1
 (.seq (.drw [0,36,2,5,6,7] [
 (eT 23 (.ld true 5 (.t 2))),(eT 24 (.ld true 5 (.t 2))),(eT 25 (.mv (.t 7))),(eT 26 (.cal 48 [(.t 24),(.t 25)])),(eT 27 (.fl true 0 4 (.t 26))),(eT 28 (.fa 0 (.t 6))),(eT 29 (.ld true 4 (.t 28))),(eF 30 (.cal 77 [(.t 23),(.t 27),(.t 29)]))])
 (.cond (.t 30)
 (.reg [0,36,2,5,6,7] [
 (aO 31 (.mv (.t 5))),(aO 32 (.mv (.t 7))),(aO 33 (.bsl 1 3 [zI] 1 [(0,(.t 32))])),(aO 34 (.app 1 3 8 (.t 31) (.t 33))),(aO 5 (.mv (.t 34)))])
 .skip)))
 (.reg [0,36,2,5,6,7] [
 (aO 21 (.mv (.t 7))),(aO 22 (.ari .add true .i64 (.t 21) (kI 1))),(aO 7 (.mv (.t 22)))]))))))
 (.seq (.reg [0,36,5] [
 (aO 35 (.mv (.t 5))),(aO 4 (.mv (.t 35)))])
 .ret)))))
def rv45:List RV:=[.tmp 4]
theorem ok45:fnOk Tryz.prog ac45 rv45 Tryz.f45=true:=by kernel_rfl

def ac46:AC:=
 (.seq (.reg [0,9,0,1] [
 (aO 2 (.box (.t 0))),(aO 4 (.mv (kI 0)))])
 (.seq (.reg [0,9,1,2] [
 (aO 5 (.ld true 5 (.t 2))),(aO 6 (.mv (.t 1))),(aO 7 (.cal 45 [(.t 5),(.t 6)])),(aO 8 (.len (.t 7))),(aO 4 (.mv (.t 8)))])
 .ret))
def rv46:List RV:=[.tmp 4]
theorem ok46:fnOk Tryz.prog ac46 rv46 Tryz.f46=true:=by kernel_rfl

def ac72:AC:=
 (.seq (.reg [0,37,0,1] [
 (aO 4 (.mv (.c (.nil))))])
 (.seq (.reg [0,37,0,1] [
 (aO 8 (.bsl 1 3 [zI] 0 [])),(aO 5 (.mv (.t 8)))])
 (.seq (.seq (.reg [0,37,0,1,5] [
 (aO 6 (.mv (kI 0)))])
 (.block 0
 (.loop [0,37,0,1,5,6]
 (.seq (.seq (.reg [0,37,0,1,5,6] [
 (aO 9 (.mv (.t 6))),(aO 10 (.mv (.t 0))),(aO 11 (.cmp .lss .i64 (.t 9) (.t 10)))])
 (.cond (.t 11)
 .skip
 (.exit 0)))
 (.seq (.block 1
 (.seq (.reg [0,37,0,1,5,6] [
 (aO 7 (.mv (kI 2)))])
 (.seq (.seq (.reg [0,37,0,1,5,6,7] [
 (aO 14 (.mv (.t 6))),(aO 15 (.mv (.t 1))),(aO 16 (.len (.t 15))),(aO 17 (.cmp .lss .i64 (.t 14) (.t 16))),(aO 18 (.mv (.t 17))),⟨some 19,some (18,true),.mv (.t 1)⟩,⟨some 20,some (18,true),.mv (.t 6)⟩,⟨some 21,some (18,true),.ixs 1 (.t 19) (.t 20)⟩,⟨some 22,some (18,true),.ld false 1 (.t 21)⟩,⟨some 23,some (18,true),.dvd .rem true .u8 (.t 22) (.c (.sc (.int .u8 8)))⟩,⟨some 24,some (18,true),.cmp .lss .u8 (.t 23) (.c (.sc (.int .u8 2)))⟩,(aO 25 (.pick (.t 18) (.t 24) (.c (.sc (.bool false)))))])
 (.cut [0,37,0,1,5,6,7,25] (.cond (.t 25)
 (.reg [0,37,0,1,5,6] [
 (aO 26 (.mv (.t 1))),(aO 27 (.mv (.t 6))),(aO 28 (.ixs 1 (.t 26) (.t 27))),(aO 29 (.ld false 1 (.t 28))),(aO 30 (.dvd .rem true .u8 (.t 29) (.c (.sc (.int .u8 8))))),(aO 31 (.cnv true .i64 (.t 30))),(aO 7 (.mv (.t 31)))])
 .skip)))
 (.reg [0,37,0,1,5,6,7] [
 (aO 32 (.mv (.t 5))),(aO 33 (.mv (.t 7))),(aO 34 (.bsl 1 3 [zI] 1 [(0,(.t 33))])),(aO 35 (.app 1 3 8 (.t 32) (.t 34))),(aO 5 (.mv (.t 35)))]))))
 (.reg [0,37,0,1,5,6] [
 (aO 12 (.mv (.t 6))),(aO 13 (.ari .add true .i64 (.t 12) (kI 1))),(aO 6 (.mv (.t 13)))]))))))
 (.seq (.reg [0,37,5] [
 (aO 36 (.mv (.t 5))),(aO 4 (.mv (.t 36)))])
 .ret))))
def rv72:List RV:=[.tmp 4]
theorem ok72:fnOk Tryz.prog ac72 rv72 Tryz.f72=true:=by kernel_rfl

def ac39:AC:=
 (.seq (.reg [0,30,0] [
 (aO 1 (.box (.t 0))),(aO 2 (.alc [zI,zI,zI,zI,.nil]))])
 (.seq (.reg [0,30,1,2] [
 (aO 4 (.fa 0 (.t 1))),(aO 5 (.ld false 1 (.t 4))),(aO 6 (.dvd .rem true .u8 (.t 5) (.c (.sc (.int .u8 4))))),(aO 7 (.cnv true .i64 (.t 6))),(aO 8 (.ari .add true .i64 (kI 2) (.t 7))),(aO 9 (.fa 1 (.t 1))),(aO 10 (.ld false 1 (.t 9))),(aO 11 (.dvd .rem true .u8 (.t 10) (.c (.sc (.int .u8 4))))),(aO 12 (.cnv true .i64 (.t 11))),(aO 13 (.ari .add true .i64 (kI 2) (.t 12))),(aO 14 (.fa 2 (.t 1))),(aO 15 (.ld false 1 (.t 14))),(aO 16 (.dvd .rem true .u8 (.t 15) (.c (.sc (.int .u8 3))))),(aO 17 (.cnv true .i64 (.t 16))),(aO 18 (.ari .add true .i64 (kI 2) (.t 17))),(aO 19 (.bld [zI,zI,zI,zI,.nil] [(0,1,(.t 8)),(1,1,(.t 13)),(2,1,(.t 18)),(3,1,(kI 24))])),(aO 3 (.alc [zI,zI,zI,zI,.nil])),(aN (.sto 5 (.t 3) (.t 19)))])
 (.seq (.reg [0,30,1,2,3] [
 (aO 20 (.fa 0 (.t 3))),(aO 21 (.ld false 1 (.t 20))),(aO 22 (.fa 1 (.t 3))),(aO 23 (.ld false 1 (.t 22))),(aO 24 (.ari .mul true .i64 (.t 21) (.t 23))),(aO 25 (.fa 4 (.t 1))),(aO 26 (.ld false 1 (.t 25))),(aO 27 (.cal 72 [(.t 24),(.t 26)])),(aO 28 (.fa 4 (.t 3))),(aN (.sto 1 (.t 28) (.t 27)))])
 (.seq (.reg [0,30,2,3] [
 (aO 29 (.ld true 5 (.t 3))),(aN (.sto 5 (.t 2) (.t 29)))])
 .ret))))
def rv39:List RV:=[.cell 2 true 5]
theorem ok39:fnOk Tryz.prog ac39 rv39 Tryz.f39=true:=by kernel_rfl

def ac35:AC:=
 (.seq (.reg [0,15,0,1,2] [
 (aO 6 (.mv (.c (.sc (.bool false)))))])
 (.seq (.reg [0,15,0,1,2] [
 (aO 7 (.mv (.t 1))),(aO 8 (.mv (.t 0))),(aO 9 (.cmp .leq .i64 (.t 7) (.t 8))),(aO 10 (.mv (.t 9))),⟨some 11,some (10,true),.mv (.t 0)⟩,⟨some 12,some (10,true),.mv (.t 2)⟩,⟨some 13,some (10,true),.cmp .leq .i64 (.t 11) (.t 12)⟩,(aO 14 (.pick (.t 10) (.t 13) (.c (.sc (.bool false))))),(aO 6 (.mv (.t 14)))])
 .ret))
def rv35:List RV:=[.tmp 6]
theorem ok35:fnOk Tryz.prog ac35 rv35 Tryz.f35=true:=by kernel_rfl
end Go.Proofs.YtdmkfgkmnpohlaaGreat.Txt
namespace Go.Vc
open Go Go.RowKit
def memN:Nat->List Nat->Bool
 |_,[]=>false
 |i,j::l=>if j=i then true else memN i l
theorem qh2(i:Nat)(l:List Nat):l.contains i=memN i l:=by
 induction l with
 |nil=>rfl
 |cons j l ih=>
   rw[List.contains_cons,ih,memN]
   by_cases h:j=i
   ·subst h;simp
   ·have:(i==j)=false:=by simpa using Ne.symm h
    rw[if_neg h,this];rfl
@[push_cast] theorem qh3(i:Nat):memN i []=false:=rfl
@[push_cast] theorem qh4(i j:Nat)(l:List Nat):memN i (j::l)=if j=i then true else memN i l:=rfl
def getL:List (Nat×PV)->Nat->PV
 |[],_=> .bot
 |(k,v)::r,i=>if k=i then v else getL r i
theorem qh5(s:List (Nat×PV))(i:Nat):(lk s i).getD .bot=getL s i:=by
 induction s with
 |nil=>rfl
 |cons x r ih=>
   obtain⟨k,v⟩:=x
   simp only[lk,getL]
   split
   ·rfl
   ·exact ih
@[push_cast] theorem qh6(i:Nat):getL [] i= .bot:=rfl
@[push_cast] theorem qh7(k i:Nat)(v:PV)(r:List (Nat×PV)):getL ((k,v)::r) i=if k=i then v else getL r i:=rfl
@[push_cast] theorem qh8(s:List (Nat×PV))(b:List (Nat×List PV))(a:List (Nat×Arr))(m:List (Nat×Mp))(i:Nat):St.get ⟨s,b,a,m⟩ i=getL s i:=qh5 s i
@[push_cast] theorem ev_t(st:St)(n:Nat):Opd.ev st (.t n)=st.get n:=rfl
@[push_cast] theorem ev_c(st:St)(p:PV):Opd.ev st (.c p)=p:=rfl
@[push_cast] theorem qh9(s:List (Nat×PV))(b:List (Nat×List PV))(a:List (Nat×Arr))(m:List (Nat×Mp))(i:Nat)(v:PV):St.put ⟨s,b,a,m⟩ (some i) v=⟨up s i v,b,a,m⟩:=rfl
@[push_cast] theorem qha(st:St)(v:PV):St.put st none v=st:=rfl
@[push_cast] theorem qhb{α:Type}(i:Nat)(v:α):up [] i v=[(i,v)]:=rfl
@[push_cast] theorem qhc{α:Type}(k i:Nat)(u v:α)(r:List (Nat×α)):up ((k,u)::r) i v=if k=i then(k,v)::r else if i<k then(i,v)::(k,u)::r else(k,u)::up r i v:=rfl
@[push_cast] theorem qhd{α:Type}(i:Nat):rm ([]:List (Nat×α)) i=[]:=rfl
@[push_cast] theorem qhe{α:Type}(k i:Nat)(u:α)(r:List (Nat×α)):rm ((k,u)::r) i=if k=i then rm r i else(k,u)::rm r i:=rfl
@[push_cast] theorem qhf{α:Type}(i:Nat):lk ([]:List (Nat×α)) i=none:=rfl
@[push_cast] theorem qhg{α:Type}(k i:Nat)(u:α)(r:List (Nat×α)):lk ((k,u)::r) i=if k=i then some u else lk r i:=rfl
def qhh(ks:List Nat):List (Nat×PV)->List (Nat×PV)
 |[]=>[]
 |(k,v)::r=>if inK ks k=true then(k,v)::qhh ks r else qhh ks r
@[push_cast] theorem qhi(K n i:Nat)(r:List Nat):inK (K::n::r) i=if i<K then true else if K+n<=i then true else memN i r:=by
 simp only[inK,qh2]
 by_cases h:i<K<;>by_cases h2:K+n<=i<;>simp[h,h2]
theorem qhj(ks:List Nat)(s:List (Nat×PV)):s.filter (fun x=>inK ks x.1)=qhh ks s:=by
 induction s with
 |nil=>rfl
 |cons x r ih=>
   obtain⟨k,v⟩:=x
   simp only[List.filter_cons,qhh]at ih ⊢
   rw[ih]
@[push_cast] theorem qhk(ks:List Nat):qhh ks []=[]:=rfl
@[push_cast] theorem qhl(ks:List Nat)(k:Nat)(v:PV)(r:List (Nat×PV)):qhh ks ((k,v)::r)=if inK ks k=true then(k,v)::qhh ks r else qhh ks r:=rfl
@[push_cast] theorem qhm(s:List (Nat×PV))(b:List (Nat×List PV))(a:List (Nat×Arr))(m:List (Nat×Mp))(ks:List Nat):St.keepS ⟨s,b,a,m⟩ ks=⟨qhh ks s,b,a,m⟩:=by
 simp only[St.keepS,qhj]
section
variable (pb pa:Nat->Bool)
@[push_cast] theorem qhn(i lo n:Nat):PV.to pb pa (.view i lo n)=pa i:=rfl
@[push_cast] theorem qho(i lo n:Nat):PV.to pb pa (.eptr i lo n)=pa i:=rfl
@[push_cast] theorem qhp(i n:Nat):PV.to pb pa (.ptr i n)=pb i:=rfl
@[push_cast] theorem qhq(v:Value):PV.to pb pa (.sc v)=false:=rfl
@[push_cast] theorem qhr:PV.to pb pa .nil=false:=rfl
@[push_cast] theorem qhs:PV.to pb pa .bot=false:=rfl
@[push_cast] theorem qht(p:Bool)(es:Nat)(xs:List (List PV)):PV.to pb pa (.sl p es xs)=false:=rfl
def anyN(pb:Nat->Bool):List Nat->Bool
 |[]=>false
 |i::r=>pb i||anyN pb r
theorem qhu(pb:Nat->Bool)(l:List Nat):l.any pb=anyN pb l:=by induction l<;>simp_all[anyN]
@[push_cast] theorem qhv:anyN pb []=false:=rfl
@[push_cast] theorem qhw(i:Nat)(r:List Nat):anyN pb (i::r)=(pb i||anyN pb r):=rfl
@[push_cast] theorem qhx(f:Nat)(ids:List Nat):PV.to pb pa (.clo f ids)=anyN pb ids:=qhu pb ids
@[push_cast] theorem qhy(ids:List Nat):PV.to pb pa (.cld ids)=anyN pb ids:=qhu pb ids
@[push_cast] theorem qhz(i:Nat):PV.to pb pa (.yl i)=pb i:=rfl
@[push_cast] theorem qhA(i:Nat):PV.to pb pa (.mp i)=pb i:=rfl
@[push_cast] theorem qhB(i e n:Nat):PV.to pb pa (.bv i e n)=pb i:=rfl
@[push_cast] theorem qhC(i j:Nat):PV.to pb pa (.itr i j)=(pb i||pb j):=rfl
@[push_cast] theorem qhD(p:Bool)(cs:List PV)(o:Nat):PV.to pb pa (.iptr p cs o)=false:=rfl
def anyT:List PV->Bool
 |[]=>false
 |c::r=>c.to pb pa||anyT r
def anyA:List PV->Bool
 |[]=>false
 |c::r=>c.toA pb pa||anyA r
theorem qhE(cs:List PV):cs.any (PV.to pb pa)=anyT pb pa cs:=by induction cs<;>simp_all[anyT]
theorem qhF(cs:List PV):cs.any (PV.toA pb pa)=anyA pb pa cs:=by induction cs<;>simp_all[anyA]
@[push_cast] theorem qhG:anyT pb pa []=false:=rfl
@[push_cast] theorem qhH(c:PV)(r:List PV):anyT pb pa (c::r)=(c.to pb pa||anyT pb pa r):=rfl
@[push_cast] theorem qhI:anyA pb pa []=false:=rfl
@[push_cast] theorem qhJ(c:PV)(r:List PV):anyA pb pa (c::r)=(c.toA pb pa||anyA pb pa r):=rfl
@[push_cast] theorem qhK(cs:List PV):PV.toA pb pa (.agg cs)=anyT pb pa cs:=qhE pb pa cs
@[push_cast] theorem qhL(i lo n:Nat):PV.toA pb pa (.view i lo n)=pa i:=rfl
@[push_cast] theorem qhM(i lo n:Nat):PV.toA pb pa (.eptr i lo n)=pa i:=rfl
@[push_cast] theorem qhN(i n:Nat):PV.toA pb pa (.ptr i n)=pb i:=rfl
@[push_cast] theorem qhO(v:Value):PV.toA pb pa (.sc v)=false:=rfl
@[push_cast] theorem qhP:PV.toA pb pa .nil=false:=rfl
@[push_cast] theorem qhQ:PV.toA pb pa .bot=false:=rfl
@[push_cast] theorem qhR(f:Nat)(ids:List Nat):PV.toA pb pa (.clo f ids)=anyN pb ids:=qhu pb ids
@[push_cast] theorem qhS(ids:List Nat):PV.toA pb pa (.cld ids)=anyN pb ids:=qhu pb ids
@[push_cast] theorem qhT(i:Nat):PV.toA pb pa (.yl i)=pb i:=rfl
@[push_cast] theorem qhU(i:Nat):PV.toA pb pa (.mp i)=pb i:=rfl
@[push_cast] theorem qhV(i e n:Nat):PV.toA pb pa (.bv i e n)=pb i:=rfl
@[push_cast] theorem qhW(i j:Nat):PV.toA pb pa (.itr i j)=(pb i||pb j):=rfl
@[push_cast] theorem qhX(p:Bool)(cs:List PV)(o:Nat):PV.toA pb pa (.iptr p cs o)=false:=rfl
@[push_cast] theorem qhY(p:Bool)(es:Nat)(xs:List (List PV)):PV.toA pb pa (.sl p es xs)=false:=rfl
@[push_cast] theorem qhZ(i lo n:Nat):PV.toV pb pa (.view i lo n)=pa i:=rfl
@[push_cast] theorem qi0(i lo n:Nat):PV.toV pb pa (.eptr i lo n)=pa i:=rfl
@[push_cast] theorem qi1(i n:Nat):PV.toV pb pa (.ptr i n)=pb i:=rfl
@[push_cast] theorem qi2(v:Value):PV.toV pb pa (.sc v)=false:=rfl
@[push_cast] theorem qi3:PV.toV pb pa .nil=false:=rfl
@[push_cast] theorem qi4:PV.toV pb pa .bot=false:=rfl
@[push_cast] theorem qi5(f:Nat)(ids:List Nat):PV.toV pb pa (.clo f ids)=anyN pb ids:=qhu pb ids
@[push_cast] theorem qi6(ids:List Nat):PV.toV pb pa (.cld ids)=anyN pb ids:=qhu pb ids
@[push_cast] theorem qi7(i:Nat):PV.toV pb pa (.yl i)=pb i:=rfl
@[push_cast] theorem qi8(i:Nat):PV.toV pb pa (.mp i)=pb i:=rfl
@[push_cast] theorem qi9(i e n:Nat):PV.toV pb pa (.bv i e n)=pb i:=rfl
@[push_cast] theorem qia(i j:Nat):PV.toV pb pa (.itr i j)=(pb i||pb j):=rfl
@[push_cast] theorem qib(p:Bool)(es:Nat)(xs:List (List PV)):PV.toV pb pa (.sl p es xs)=false:=rfl
@[push_cast] theorem qic(p:Bool)(cs:List PV)(o:Nat):PV.toV pb pa (.iptr p cs o)=false:=rfl
@[push_cast] theorem qid(cs:List PV):PV.toV pb pa (.agg cs)=anyT pb pa cs:=qhE pb pa cs
@[push_cast] theorem qie(cs:List PV):PV.toV pb pa (.tup cs)=anyA pb pa cs:=qhF pb pa cs
def refS:List (Nat×PV)->Bool
 |[]=>false
 |(_,v)::r=>v.toV pb pa||refS r
def refB:List (Nat×List PV)->Bool
 |[]=>false
 |(_,v)::r=>anyT pb pa v||refB r
theorem qif(s:List (Nat×PV)):s.any (fun y=>y.2.toV pb pa)=refS pb pa s:=by induction s<;>simp_all[refS]
theorem qig(s:List (Nat×List PV)):s.any (fun y=>y.2.any (PV.to pb pa))=refB pb pa s:=by induction s<;>simp_all[refB,qhE]
@[push_cast] theorem qih:refS pb pa []=false:=rfl
@[push_cast] theorem qii(k:Nat)(v:PV)(r:List (Nat×PV)):refS pb pa ((k,v)::r)=(v.toV pb pa||refS pb pa r):=rfl
@[push_cast] theorem qij:refB pb pa []=false:=rfl
@[push_cast] theorem qik(k:Nat)(v:List PV)(r:List (Nat×List PV)):refB pb pa ((k,v)::r)=(anyT pb pa v||refB pb pa r):=rfl
end
def isId(i:Nat):Nat->Bool:=fun j=>j==i
@[push_cast] theorem qil(i j:Nat):isId i j=(j==i):=rfl
@[push_cast] theorem qim(j:Nat):nul j=false:=rfl
def gcB(s:List (Nat×PV))(b0:List (Nat×List PV)):List (Nat×List PV)->List (Nat×List PV)
 |[]=>[]
 |(k,v)::r=>if(refS (isId k) nul s||refB (isId k) nul b0)=true then(k,v)::gcB s b0 r else gcB s b0 r
def gcA(s:List (Nat×PV))(b:List (Nat×List PV)):List (Nat×Arr)->List (Nat×Arr)
 |[]=>[]
 |(k,v)::r=>if(refS nul (isId k) s||refB nul (isId k) b)=true then(k,v)::gcA s b r else gcA s b r
@[push_cast] theorem qin(s:List (Nat×PV))(b0:List (Nat×List PV)):gcB s b0 []=[]:=rfl
@[push_cast] theorem qio(s:List (Nat×PV))(b0:List (Nat×List PV))(k:Nat)(v:List PV)(r:List (Nat×List PV)):gcB s b0 ((k,v)::r)=if(refS (isId k) nul s||refB (isId k) nul b0)=true then(k,v)::gcB s b0 r else gcB s b0 r:=rfl
@[push_cast] theorem qip(s:List (Nat×PV))(b:List (Nat×List PV)):gcA s b []=[]:=rfl
@[push_cast] theorem qiq(s:List (Nat×PV))(b:List (Nat×List PV))(k:Nat)(v:Arr)(r:List (Nat×Arr)):gcA s b ((k,v)::r)=if(refS nul (isId k) s||refB nul (isId k) b)=true then(k,v)::gcA s b r else gcA s b r:=rfl
theorem qir(s:List (Nat×PV))(b0 b:List (Nat×List PV)):b.filter (fun x=>s.any (fun y=>y.2.toV (fun j=>j==x.1) nul)||b0.any (fun y=>y.2.any (PV.to (fun j=>j==x.1) nul)))=gcB s b0 b:=by
 induction b with
 |nil=>rfl
 |cons x r ih=>
   obtain⟨k,v⟩:=x
   simp only[qif,qig]at ih ⊢
   simp only[List.filter_cons,gcB,ih]
   rfl
theorem qis(s:List (Nat×PV))(b0:List (Nat×List PV))(b:List (Nat×Arr)):b.filter (fun x=>s.any (fun y=>y.2.toV nul (fun j=>j==x.1))||b0.any (fun y=>y.2.any (PV.to nul (fun j=>j==x.1))))=gcA s b0 b:=by
 induction b with
 |nil=>rfl
 |cons x r ih=>
   obtain⟨k,v⟩:=x
   simp only[qif,qig]at ih ⊢
   simp only[List.filter_cons,gcA,ih]
   rfl
def gcM(s:List (Nat×PV))(b:List (Nat×List PV)):List (Nat×Mp)->List (Nat×Mp)
 |[]=>[]
 |(k,v)::r=>if(refS (isId k) nul s||refB (isId k) nul b)=true then(k,v)::gcM s b r else gcM s b r
@[push_cast] theorem qit(s:List (Nat×PV))(b:List (Nat×List PV)):gcM s b []=[]:=rfl
@[push_cast] theorem qiu(s:List (Nat×PV))(b:List (Nat×List PV))(k:Nat)(v:Mp)(r:List (Nat×Mp)):gcM s b ((k,v)::r)=if(refS (isId k) nul s||refB (isId k) nul b)=true then(k,v)::gcM s b r else gcM s b r:=rfl
theorem qiv(s:List (Nat×PV))(b0:List (Nat×List PV))(b:List (Nat×Mp)):b.filter (fun x=>s.any (fun y=>y.2.toV (fun j=>j==x.1) nul)||b0.any (fun y=>y.2.any (PV.to (fun j=>j==x.1) nul)))=gcM s b0 b:=by
 induction b with
 |nil=>rfl
 |cons x r ih=>
   obtain⟨k,v⟩:=x
   simp only[qif,qig]at ih ⊢
   simp only[List.filter_cons,gcM,ih]
   rfl
@[push_cast] theorem qiw(s:List (Nat×PV))(b:List (Nat×List PV))(a:List (Nat×Arr))(m:List (Nat×Mp))(ks:List Nat):St.gc ⟨s,b,a,m⟩ ks=⟨qhh ks s,gcB (qhh ks s) (gcB (qhh ks s) (gcB (qhh ks s) [] b) b) b,gcA (qhh ks s) (gcB (qhh ks s) (gcB (qhh ks s) (gcB (qhh ks s) [] b) b) b) a,gcM (qhh ks s) (gcB (qhh ks s) (gcB (qhh ks s) (gcB (qhh ks s) [] b) b) b) m⟩:=by
 simp only[St.gc,qhj,qir,qis,qiv]
def qix(pb pa:Nat->Bool):List PV->List PV
 |[]=>[]
 |c::r=>(bif c.to pb pa then c.killed pb else c)::qix pb pa r
def qiy(pb pa:Nat->Bool):List (Nat×PV)->List (Nat×PV)
 |[]=>[]
 |(k,v)::r=>(k,bif v.toV pb pa then v.killV pb pa else v)::qiy pb pa r
def qiz(pb pa:Nat->Bool):List (Nat×List PV)->List (Nat×List PV)
 |[]=>[]
 |(k,v)::r=>(k,bif anyT pb pa v then qix pb pa v else v)::qiz pb pa r
section
variable (pb pa:Nat->Bool)
@[push_cast] theorem qiA:qix pb pa []=[]:=rfl
@[push_cast] theorem qiB(c:PV)(r:List PV):qix pb pa (c::r)=(bif c.to pb pa then c.killed pb else c)::qix pb pa r:=rfl
@[push_cast] theorem qiC:qiy pb pa []=[]:=rfl
@[push_cast] theorem qiD(k:Nat)(v:PV)(r:List (Nat×PV)):qiy pb pa ((k,v)::r)=(k,bif v.toV pb pa then v.killV pb pa else v)::qiy pb pa r:=rfl
@[push_cast] theorem qiE:qiz pb pa []=[]:=rfl
@[push_cast] theorem qiF(k:Nat)(v:List PV)(r:List (Nat×List PV)):qiz pb pa ((k,v)::r)=(k,bif anyT pb pa v then qix pb pa v else v)::qiz pb pa r:=rfl
theorem qiG(cs:List PV):cs.map (PV.kill pb pa)=qix pb pa cs:=by induction cs<;>simp_all[qix,PV.kill]
theorem qiH{c:PV}(h:c.to pb pa=false):c.kill pb pa=c:=by simp[PV.kill,h]
theorem qiI{cs:List PV}(h:anyT pb pa cs=false):qix pb pa cs=cs:=by
 induction cs with
 |nil=>rfl
 |cons c r ih=>simp only[anyT,Bool.or_eq_false_iff]at h;simp[qix,h.1,ih h.2]
theorem qiJ{c:PV}(h:c.toA pb pa=false):c.killA pb pa=c:=by
 cases c with
 |agg cs=>simp only[qhK]at h;simp only[PV.killA,qiG,qiI pb pa h]
 |_=>simp only[PV.killA];exact qiH pb pa (by simpa only[PV.toA]using h)
theorem qiK{c:PV}(h:c.toV pb pa=false):c.killV pb pa=c:=by
 cases c with
 |tup cs=>
   simp only[qie]at h
   simp only[PV.killV]
   congr 1
   induction cs with
   |nil=>rfl
   |cons c r ih=>simp only[anyA,Bool.or_eq_false_iff]at h;simp[qiJ pb pa h.1,ih h.2]
 |_=>simp only[PV.killV];exact qiJ pb pa (by simpa only[PV.toV]using h)
@[push_cast] theorem qiL(i lo n:Nat):PV.killV pb pa (.view i lo n)=bif pa i then .bot else .view i lo n:=rfl
@[push_cast] theorem qiM(i lo n:Nat):PV.killV pb pa (.eptr i lo n)=bif pa i then .bot else .eptr i lo n:=rfl
@[push_cast] theorem qiN(i n:Nat):PV.killV pb pa (.ptr i n)=bif pb i then .bot else .ptr i n:=rfl
def filN(pb:Nat->Bool):List Nat->List Nat
 |[]=>[]
 |i::r=>if pb i=true then filN pb r else i::filN pb r
theorem qiO(l:List Nat):(l.filter fun i=> !pb i)=filN pb l:=by
 induction l with
 |nil=>rfl
 |cons i r ih=>simp only[List.filter_cons,filN,ih];cases pb i<;>rfl
@[push_cast] theorem qiP:filN pb []=[]:=rfl
@[push_cast] theorem qiQ(i:Nat)(r:List Nat):filN pb (i::r)=if pb i=true then filN pb r else i::filN pb r:=rfl
@[push_cast] theorem qiR(i lo n:Nat):PV.killed pb (.view i lo n)= .bot:=rfl
@[push_cast] theorem qiS(i lo n:Nat):PV.killed pb (.eptr i lo n)= .bot:=rfl
@[push_cast] theorem qiT(i n:Nat):PV.killed pb (.ptr i n)= .bot:=rfl
@[push_cast] theorem qiU(i:Nat):PV.killed pb (.yl i)= .bot:=rfl
@[push_cast] theorem qiV(i:Nat):PV.killed pb (.mp i)= .bot:=rfl
@[push_cast] theorem qiW(i e n:Nat):PV.killed pb (.bv i e n)= .bot:=rfl
@[push_cast] theorem qiX(f:Nat)(ids:List Nat):PV.killed pb (.clo f ids)= .cld (filN pb ids):=by simp only[PV.killed,qiO]
@[push_cast] theorem qiY(ids:List Nat):PV.killed pb (.cld ids)= .cld (filN pb ids):=by simp only[PV.killed,qiO]
@[push_cast] theorem qiZ(i j:Nat):PV.killed pb (.itr i j)= .cld (filN pb [i,j]):=by simp only[PV.killed,qiO]
@[push_cast] theorem qj0(f:Nat)(ids:List Nat):PV.killV pb pa (.clo f ids)=bif anyN pb ids then .cld (filN pb ids)else .clo f ids:=by simp only[PV.killV,PV.killA,PV.kill,qhx,qiX]
@[push_cast] theorem qj1(ids:List Nat):PV.killV pb pa (.cld ids)=bif anyN pb ids then .cld (filN pb ids)else .cld ids:=by simp only[PV.killV,PV.killA,PV.kill,qhy,qiY]
@[push_cast] theorem qj2(i j:Nat):PV.killV pb pa (.itr i j)=bif (pb i||pb j)then .cld (filN pb [i,j])else .itr i j:=by simp only[PV.killV,PV.killA,PV.kill,qhC,qiZ]
@[push_cast] theorem qj3(i:Nat):PV.killV pb pa (.yl i)=bif pb i then .bot else .yl i:=rfl
@[push_cast] theorem qj4(i:Nat):PV.killV pb pa (.mp i)=bif pb i then .bot else .mp i:=rfl
@[push_cast] theorem qj5(i e n:Nat):PV.killV pb pa (.bv i e n)=bif pb i then .bot else .bv i e n:=rfl
@[push_cast] theorem qj6(cs:List PV):PV.killV pb pa (.agg cs)= .agg (qix pb pa cs):=by simp only[PV.killV,PV.killA,qiG]
theorem qj7(s:List (Nat×PV)):(s.map fun x=>(x.1,x.2.killV pb pa))=qiy pb pa s:=by
 induction s with
 |nil=>rfl
 |cons x r ih=>
   obtain⟨k,v⟩:=x
   simp only[List.map_cons,qiy,ih]
   congr 2
   cases h:v.toV pb pa
   ·simp[qiK pb pa h]
   ·rfl
theorem qj8(s:List (Nat×List PV)):(s.map fun x=>(x.1,x.2.map (PV.kill pb pa)))=qiz pb pa s:=by
 induction s with
 |nil=>rfl
 |cons x r ih=>
   obtain⟨k,v⟩:=x
   simp only[qiG]at ih
   simp only[List.map_cons,qiz,qiG,ih]
   congr 2
   cases h:anyT pb pa v
   ·simp[qiI pb pa h]
   ·rfl
end
def mpO(pb:Nat->Bool):Option Mp->Bool
 |some ⟨_,_,some (.run i _ _)⟩=>pb i
 |_=>false
@[push_cast] theorem qj9(pb:Nat->Bool):mpO pb none=false:=rfl
@[push_cast] theorem qja(pb:Nat->Bool)(kd:KD)(es:List (Value×PV)):mpO pb (some ⟨kd,es,none⟩)=false:=rfl
@[push_cast] theorem qjb(pb:Nat->Bool)(kd:KD)(es:List (Value×PV))(i:Nat)(l:List (Value×PV))(c:Option (Value×PV)):mpO pb (some ⟨kd,es,some (.run i l c)⟩)=pb i:=rfl
theorem qjc(m:List (Nat×Mp))(pb:Nat->Bool)(i:Nat):mpTo m pb i=mpO pb (lk m i):=by
 unfold mpTo
 cases lk m i with
 |none=>rfl
 |some M=>obtain⟨kd,es,it⟩:=M;rcases it with _|(_|_)<;>rfl
def qjd(pb:Nat->Bool)(m0:List (Nat×Mp)):List (Nat×Mp)->List (Nat×Mp)
 |[]=>[]
 |(k,v)::r=>if(pb k||mpO pb (lk m0 k))=true then qjd pb m0 r else(k,v)::qjd pb m0 r
@[push_cast] theorem qje(pb:Nat->Bool)(m0:List (Nat×Mp)):qjd pb m0 []=[]:=rfl
@[push_cast] theorem qjf(pb:Nat->Bool)(m0:List (Nat×Mp))(k:Nat)(v:Mp)(r:List (Nat×Mp)):qjd pb m0 ((k,v)::r)=if(pb k||mpO pb (lk m0 k))=true then qjd pb m0 r else(k,v)::qjd pb m0 r:=rfl
theorem qjg(pb:Nat->Bool)(m0 m:List (Nat×Mp)):(m.filter fun x=> !pb x.1&& !mpTo m0 pb x.1)=qjd pb m0 m:=by
 induction m with
 |nil=>rfl
 |cons x r ih=>
   obtain⟨k,v⟩:=x
   rw[List.filter_cons,qjd,ih,qjc]
   cases pb k<;>cases mpO pb (lk m0 k)<;>rfl
theorem qji(m:List (Nat×Mp)):(m.filter fun x=> !nul x.1&& !mpTo m nul x.1)=m:=List.filter_eq_self.2 fun x _=>by simp[qa9,nul]
@[push_cast] theorem qjj (s : List (Nat × PV)) (b : List (Nat × List PV)) (a : List (Nat × Arr)) (m : List (Nat × Mp)) (i : Nat) (M : Mp) :
  St.newMap ⟨s,b,a,m⟩ i M=⟨up (qiy (isId i) nul s) i (.mp i),rm (qiz (isId i) nul b) i,a,up (qjd (isId i) m m) i M⟩:=by
 simp only[St.newMap,St.kill,qj7,qj8];rw[show(fun x:Nat×Mp=> !(fun j=>j==i) x.1&& !mpTo m (fun j=>j==i) x.1)=fun x=> !isId i x.1&& !mpTo m (isId i) x.1 from rfl,qjg];rfl
@[push_cast] theorem qjk (s : List (Nat × PV)) (b : List (Nat × List PV)) (a : List (Nat × Arr)) (m : List (Nat × Mp)) (i : Nat) (cs : List PV) :
  St.newBox ⟨s,b,a,m⟩ i cs=⟨up (qiy (isId i) nul s) i (.ptr i 0),up (qiz (isId i) nul b) i cs,a,qjd (isId i) m m⟩:=by
 simp only[St.newBox,St.kill,qj7,qj8];rw[show(fun x:Nat×Mp=> !(fun j=>j==i) x.1&& !mpTo m (fun j=>j==i) x.1)=fun x=> !isId i x.1&& !mpTo m (isId i) x.1 from rfl,qjg];rfl
@[push_cast] theorem qjl (s : List (Nat × PV)) (b : List (Nat × List PV)) (a : List (Nat × Arr)) (m : List (Nat × Mp)) (i es : Nat) (cs : List PV) (n : Nat) :
  St.newBx ⟨s,b,a,m⟩ i es cs n=⟨up (qiy (isId i) nul s) i (.bv i es n),up (qiz (isId i) nul b) i cs,a,qjd (isId i) m m⟩:=by
 simp only[St.newBx,St.kill,qj7,qj8];rw[show(fun x:Nat×Mp=> !(fun j=>j==i) x.1&& !mpTo m (fun j=>j==i) x.1)=fun x=> !isId i x.1&& !mpTo m (isId i) x.1 from rfl,qjg];rfl
@[push_cast] theorem qjm (s : List (Nat × PV)) (b : List (Nat × List PV)) (a : List (Nat × Arr)) (m : List (Nat × Mp)) (i : Nat) (A : Arr) :
  St.newArr ⟨s,b,a,m⟩ i A=⟨up (qiy nul (isId i) s) i (.view i 0 A.xs.length),qiz nul (isId i) b,up a i A,m⟩:=by
 simp only[St.newArr,St.kill,qj7,qj8,qji];rfl
@[push_cast] theorem qjn:qbL []=[]:=rfl
@[push_cast] theorem qjo(i lo n:Nat)(r:List PV):qbL (.view i lo n::r)=i::qbL r:=rfl
@[push_cast] theorem qjp(i lo n:Nat)(r:List PV):qbL (.eptr i lo n::r)=i::qbL r:=rfl
@[push_cast] theorem qjq(i n:Nat)(r:List PV):qbL (.ptr i n::r)=qbL r:=rfl
@[push_cast] theorem qjr(v:Value)(r:List PV):qbL (.sc v::r)=qbL r:=rfl
@[push_cast] theorem qjs(r:List PV):qbL (.nil::r)=qbL r:=rfl
@[push_cast] theorem qjt(r:List PV):qbL (.bot::r)=qbL r:=rfl
@[push_cast] theorem qju(p:Bool)(es:Nat)(xs:List (List PV))(r:List PV):qbL (.sl p es xs::r)=qbL r:=rfl
@[push_cast] theorem qjv(p:Bool)(cs:List PV)(o:Nat)(r:List PV):qbL (.iptr p cs o::r)=qbL r:=rfl
@[push_cast] theorem qjw(f:Nat)(ids:List Nat)(r:List PV):qbL (.clo f ids::r)=qbL r:=rfl
@[push_cast] theorem qjx(i:Nat)(r:List PV):qbL (.mp i::r)=qbL r:=rfl
@[push_cast] theorem qjy(i e n:Nat)(r:List PV):qbL (.bv i e n::r)=qbL r:=rfl
@[push_cast] theorem qjz(cs r:List PV):qbL (.agg cs::r)=qbL r:=rfl
@[push_cast] theorem qjA(cs r:List PV):qbL (.tup cs::r)=qbL r:=rfl
def qjB(st:St):List Nat->St
 |[]=>st
 |i::r=>qjB (st.frz i) r
@[push_cast] theorem qjC(st:St)(cs:List PV):st.frzs cs=qjB st (qbL cs):=by
 unfold St.frzs
 generalize qbL cs=l
 induction l generalizing st with
 |nil=>rfl
 |cons i l ih=>exact ih _
@[push_cast] theorem qjD(st:St):qjB st []=st:=rfl
@[push_cast] theorem qjE(st:St)(i:Nat)(r:List Nat):qjB st (i::r)=qjB (st.frz i) r:=rfl
def fzL(id:Nat)(A:Arr):List PV->List PV
 |[]=>[]
 |c::r=>c.fz id A::fzL id A r
def fzS(id:Nat)(A:Arr):List (Nat×PV)->List (Nat×PV)
 |[]=>[]
 |(k,v)::r=>(k,bif v.toV nul (isId id)then v.fzV id A else v)::fzS id A r
def fzB(id:Nat)(A:Arr):List (Nat×List PV)->List (Nat×List PV)
 |[]=>[]
 |(k,v)::r=>(k,bif anyT nul (isId id) v then fzL id A v else v)::fzB id A r
section
variable (id:Nat) (A:Arr)
@[push_cast] theorem qjF:fzL id A []=[]:=rfl
@[push_cast] theorem qjG(c:PV)(r:List PV):fzL id A (c::r)=c.fz id A::fzL id A r:=rfl
@[push_cast] theorem qjH:fzS id A []=[]:=rfl
@[push_cast] theorem qjI(k:Nat)(v:PV)(r:List (Nat×PV)):fzS id A ((k,v)::r)=(k,bif v.toV nul (isId id)then v.fzV id A else v)::fzS id A r:=rfl
@[push_cast] theorem qjJ:fzB id A []=[]:=rfl
@[push_cast] theorem qjK(k:Nat)(v:List PV)(r:List (Nat×List PV)):fzB id A ((k,v)::r)=(k,bif anyT nul (isId id) v then fzL id A v else v)::fzB id A r:=rfl
@[push_cast] theorem qjL(i lo n:Nat):PV.fz id A (.view i lo n)=if i=id then .sl true A.es ((A.xs.drop lo).take n)else .view i lo n:=rfl
@[push_cast] theorem qjM(i j o:Nat):PV.fz id A (.eptr i j o)=if i=id then .iptr true (A.xs.getD j []) o else .eptr i j o:=rfl
@[push_cast] theorem qjN(i n:Nat):PV.fz id A (.ptr i n)= .ptr i n:=rfl
@[push_cast] theorem qjO(v:Value):PV.fz id A (.sc v)= .sc v:=rfl
@[push_cast] theorem qjP:PV.fz id A .nil= .nil:=rfl
@[push_cast] theorem qjQ:PV.fz id A .bot= .bot:=rfl
@[push_cast] theorem qjR(p:Bool)(es:Nat)(xs:List (List PV)):PV.fz id A (.sl p es xs)= .sl p es xs:=rfl
@[push_cast] theorem qjS(p:Bool)(cs:List PV)(o:Nat):PV.fz id A (.iptr p cs o)= .iptr p cs o:=rfl
@[push_cast] theorem qjT(i lo n:Nat):PV.fzV id A (.view i lo n)=if i=id then .sl true A.es ((A.xs.drop lo).take n)else .view i lo n:=rfl
@[push_cast] theorem qjU(i j o:Nat):PV.fzV id A (.eptr i j o)=if i=id then .iptr true (A.xs.getD j []) o else .eptr i j o:=rfl
theorem qjV(cs:List PV):cs.map (PV.fz id A)=fzL id A cs:=by induction cs<;>simp_all[fzL]
@[push_cast] theorem qjW(cs:List PV):PV.fzV id A (.agg cs)= .agg (fzL id A cs):=by simp only[PV.fzV,PV.fzA,qjV]
theorem qjX{c:PV}(h:c.to nul (isId id)=false):c.fz id A=c:=by
 cases c<;>first|rfl|simp_all[PV.fz,PV.to,isId]
theorem qjY{cs:List PV}(h:anyT nul (isId id) cs=false):fzL id A cs=cs:=by
 induction cs with
 |nil=>rfl
 |cons c r ih=>simp only[anyT,Bool.or_eq_false_iff]at h;simp[fzL,qjX id A h.1,ih h.2]
theorem qjZ{c:PV}(h:c.toA nul (isId id)=false):c.fzA id A=c:=by
 cases c with
 |agg cs=>simp only[qhK]at h;simp only[PV.fzA,qjV,qjY id A h]
 |_=>simp only[PV.fzA];exact qjX id A (by simpa only[PV.toA]using h)
theorem qk0{c:PV}(h:c.toV nul (isId id)=false):c.fzV id A=c:=by
 cases c with
 |tup cs=>
   simp only[qie]at h
   simp only[PV.fzV]
   congr 1
   induction cs with
   |nil=>rfl
   |cons c r ih=>simp only[anyA,Bool.or_eq_false_iff]at h;simp[qjZ id A h.1,ih h.2]
 |_=>simp only[PV.fzV];exact qjZ id A (by simpa only[PV.toV]using h)
theorem qk1(s:List (Nat×PV)):(s.map fun x=>(x.1,x.2.fzV id A))=fzS id A s:=by
 induction s with
 |nil=>rfl
 |cons x r ih=>
   obtain⟨k,v⟩:=x
   simp only[List.map_cons,fzS,ih]
   congr 2
   cases h:v.toV nul (isId id)
   ·simp[qk0 id A h]
   ·rfl
theorem qk2(s:List (Nat×List PV)):(s.map fun x=>(x.1,x.2.map (PV.fz id A)))=fzB id A s:=by
 induction s with
 |nil=>rfl
 |cons x r ih=>
   obtain⟨k,v⟩:=x
   simp only[qjV]at ih
   simp only[List.map_cons,fzB,qjV,ih]
   congr 2
   cases h:anyT nul (isId id) v
   ·simp[qjY id A h]
   ·rfl
end
def frzO(s:List (Nat×PV))(b:List (Nat×List PV))(a:List (Nat×Arr))(m:List (Nat×Mp))(i:Nat):Option Arr->St
 |some A=>⟨fzS i A s,fzB i A b,rm a i,m⟩
 |none=>⟨s,b,a,m⟩
@[push_cast] theorem qk3(s:List (Nat×PV))(b:List (Nat×List PV))(a:List (Nat×Arr))(m:List (Nat×Mp))(i:Nat)(A:Arr):frzO s b a m i (some A)=⟨fzS i A s,fzB i A b,rm a i,m⟩:=rfl
@[push_cast] theorem qk4(s:List (Nat×PV))(b:List (Nat×List PV))(a:List (Nat×Arr))(m:List (Nat×Mp))(i:Nat):frzO s b a m i none=⟨s,b,a,m⟩:=rfl
@[push_cast] theorem qk5(s:List (Nat×PV))(b:List (Nat×List PV))(a:List (Nat×Arr))(m:List (Nat×Mp))(i:Nat):St.frz ⟨s,b,a,m⟩ i=frzO s b a m i (lk a i):=by
 unfold St.frz
 cases h:lk a i with
 |none=>rfl
 |some A=>simp only[qk1,qk2];rfl
end Go.Vc
namespace Go.Vc
open Go Go.RowKit
attribute [push_cast] true_and and_true and_self Bool.false_or Bool.or_false Bool.true_or Bool.or_true cond_true cond_false Bool.false_eq_true Option.getD_some Option.getD_none List.length_cons List.length_nil List.append_nil List.nil_append List.cons_append
def rows{α:Type}(f:α->List PV)(l:List α):List (List PV):=l.map f
def intC(x:Int):List PV:=[.sc (.int .i64 x)]
def qk6(x:Int):List PV:=[.sc (.int .u8 x)]
def u64C(x:Int):List PV:=[.sc (.int .u64 x)]
def qk7(x:Bool):List PV:=[.sc (.bool x)]
abbrev ints (l:List Int):List (List PV):=rows intC l
abbrev qk8 (l:List Int):List (List PV):=rows qk6 l
@[push_cast] theorem qk9(x:Int):intC x=[.sc (.int .i64 x)]:=_root_.id rfl
@[push_cast] theorem qka(x:Int):qk6 x=[.sc (.int .u8 x)]:=_root_.id rfl
@[push_cast] theorem qkb(x:Int):u64C x=[.sc (.int .u64 x)]:=_root_.id rfl
@[push_cast] theorem qkc(x:Bool):qk7 x=[.sc (.bool x)]:=_root_.id rfl
section
variable {α:Type} (f:α->List PV) (l m:List α)
@[push_cast] theorem qkd:(rows f l).length=l.length:=by simp[rows]
@[push_cast] theorem qke:rows f l++rows f m=rows f (l++m):=by simp[rows]
@[push_cast] theorem qkf(n:Nat):(rows f l).take n=rows f (l.take n):=by simp[rows]
@[push_cast] theorem qkg(n:Nat):(rows f l).drop n=rows f (l.drop n):=by simp[rows]
theorem qki [Inhabited α]{i:Nat}(h:i<l.length):(rows f l).getD i []=f (l.getD i default):=by
 simp[rows,List.getD_eq_getElem?_getD,h]
@[push_cast] theorem qkj [Inhabited α](i off:Nat)(cs:List PV):(rows f l).set i (spl ((rows f l).getD i []) off cs)=(rows f l).set i (spl (f (l.getD i default)) off cs):=by
 by_cases h:i<l.length
 ·rw[qki f l h]
 ·rw[List.set_eq_of_length_le (by simp[rows];omega),List.set_eq_of_length_le (by simp[rows];omega)]
end
@[push_cast] theorem qkk(l:List Int)(x:Int):rows intC l++[[.sc (.int .i64 x)]]=rows intC (l++[x]):=by simp[rows,intC]
@[push_cast] theorem qkl(l:List Int)(x:Int):rows qk6 l++[[.sc (.int .u8 x)]]=rows qk6 (l++[x]):=by simp[rows,qk6]
@[push_cast] theorem qkm(l:List Int)(x:Int):rows u64C l++[[.sc (.int .u64 x)]]=rows u64C (l++[x]):=by simp[rows,u64C]
@[push_cast] theorem qkn(l:List Bool)(x:Bool):rows qk7 l++[[.sc (.bool x)]]=rows qk7 (l++[x]):=by simp[rows,qk7]
@[push_cast] theorem qko(l:List Int)(i:Nat)(x:Int):(rows intC l).set i [.sc (.int .i64 x)]=rows intC (l.set i x):=by simp[rows,intC,List.map_set]
@[push_cast] theorem qkp(l:List Bool)(i:Nat)(x:Bool):(rows qk7 l).set i [.sc (.bool x)]=rows qk7 (l.set i x):=by simp[rows,qk7,List.map_set]
@[push_cast] theorem qkq(l:List Int)(i:Nat)(x:Int):(rows u64C l).set i [.sc (.int .u64 x)]=rows u64C (l.set i x):=by simp[rows,u64C,List.map_set]
@[push_cast] theorem qkr(n:Nat)(x:Int):List.replicate n [.sc (.int .i64 x)]=rows intC (List.replicate n x):=by simp[rows,intC]
@[push_cast] theorem qks(n:Nat)(x:Bool):List.replicate n [.sc (.bool x)]=rows qk7 (List.replicate n x):=by simp[rows,qk7]
@[push_cast] theorem qkt(n:Nat)(x:Int):List.replicate n [.sc (.int .u64 x)]=rows u64C (List.replicate n x):=by simp[rows,u64C]
@[simp] theorem qku(l:List Int)(P:Prop):(∀x∈rows intC l,∀c∈x,Perm c) ↔ True:=by simp[rows,intC]
@[simp] theorem qkv{α:Type}(f:α->List PV)(l:List α):(∀x∈rows f l,∀c∈x,Perm c) ↔ ∀x∈l,∀c∈f x,Perm c:=by simp[rows]
def nthL:List PV->Nat->PV
 |[],_=> .bot
 |c::r,i=>if i=0 then c else nthL r (i-1)
def qkw:Nat->List PV->List PV
 |_,[]=>[]
 |n,c::r=>if n=0 then c::r else qkw (n-1) r
def qkx:Nat->List PV->List PV
 |_,[]=>[]
 |n,c::r=>if n=0 then[]else c::qkx (n-1) r
theorem qky(cs:List PV)(i:Nat):cs.getD i .bot=nthL cs i:=by
 induction cs generalizing i with
 |nil=>simp[nthL]
 |cons c r ih=>cases i<;>simp[nthL,<- ih]
theorem qkz(n:Nat)(cs:List PV):cs.drop n=qkw n cs:=by
 induction cs generalizing n with
 |nil=>simp[qkw]
 |cons c r ih=>cases n<;>simp[qkw,<- ih]
theorem qkA(n:Nat)(cs:List PV):cs.take n=qkx n cs:=by
 induction cs generalizing n with
 |nil=>simp[qkx]
 |cons c r ih=>cases n<;>simp[qkx,<- ih]
@[push_cast] theorem qkB(i:Nat):nthL [] i= .bot:=_root_.id rfl
@[push_cast] theorem qkC(c:PV)(r:List PV)(i:Nat):nthL (c::r) i=if i=0 then c else nthL r (i-1):=_root_.id rfl
@[push_cast] theorem qkD(n:Nat):qkw n []=[]:=_root_.id rfl
@[push_cast] theorem qkE(n:Nat)(c:PV)(r:List PV):qkw n (c::r)=if n=0 then c::r else qkw (n-1) r:=_root_.id rfl
@[push_cast] theorem qkF(n:Nat):qkx n []=[]:=_root_.id rfl
@[push_cast] theorem qkG(n:Nat)(c:PV)(r:List PV):qkx n (c::r)=if n=0 then[]else c::qkx (n-1) r:=_root_.id rfl
@[push_cast] theorem qkH(sz off:Nat)(cs:List PV):ldc false sz off cs=nthL cs off:=qky cs off
@[push_cast] theorem qkI(sz off:Nat)(cs:List PV):ldc true sz off cs= .agg (qkx sz (qkw off cs)):=by simp only[ldc,cond_true,qkA,qkz]
@[push_cast] theorem qkJ(cs:List PV)(i:Nat):spl cs i []=cs:=by simp[spl]
@[push_cast] theorem qkK(x:PV)(xs:List PV)(i:Nat)(c:PV)(new:List PV):spl (x::xs) i (c::new)=if i=0 then c::spl xs 0 new else x::spl xs (i-1) (c::new):=by
 cases i with
 |zero=>simp[spl]
 |succ i=>
   simp[spl]
   rw[show i+1+(new.length+1)=(i+(new.length+1))+1 from by omega,List.drop_succ_cons]
theorem qkL(x:List PV)(xs:List (List PV))(i:Nat)(v:List PV):(x::xs).set i v=if i=0 then v::xs else x::xs.set (i-1) v:=by cases i<;>simp
theorem qkM(n:Nat)(c:List PV)(r:List (List PV)):(c::r).take n=if n=0 then[]else c::r.take (n-1):=by cases n<;>simp
theorem qkN(n:Nat)(c:List PV)(r:List (List PV)):(c::r).drop n=if n=0 then c::r else r.drop (n-1):=by cases n<;>simp
attribute [push_cast] qkL qkM qkN List.take_nil List.drop_nil
@[push_cast] theorem rep0(z:List PV):List.replicate 0 z=[]:=_root_.id rfl
@[push_cast] theorem rep1(z:List PV):List.replicate 1 z=[z]:=_root_.id rfl
@[push_cast] theorem rep2(z:List PV):List.replicate 2 z=[z,z]:=_root_.id rfl
@[push_cast] theorem rep3(z:List PV):List.replicate 3 z=[z,z,z]:=_root_.id rfl
@[push_cast] theorem rep4(z:List PV):List.replicate 4 z=[z,z,z,z]:=_root_.id rfl
@[push_cast] theorem rep5(z:List PV):List.replicate 5 z=[z,z,z,z,z]:=_root_.id rfl
@[push_cast] theorem rep6(z:List PV):List.replicate 6 z=[z,z,z,z,z,z]:=_root_.id rfl
@[push_cast] theorem qkO(cs:List PV):cellsOf (.agg cs)=cs:=_root_.id rfl
@[push_cast] theorem qkP(v:Value):cellsOf (.sc v)=[.sc v]:=_root_.id rfl
@[push_cast] theorem qkQ:cellsOf .nil=[.nil]:=_root_.id rfl
@[push_cast] theorem qkR(p:Bool)(es:Nat)(xs:List (List PV)):cellsOf (.sl p es xs)=[.sl p es xs]:=_root_.id rfl
@[push_cast] theorem qkS(i lo n:Nat):cellsOf (.view i lo n)=[.view i lo n]:=_root_.id rfl
@[push_cast] theorem qkT(i n:Nat):cellsOf (.ptr i n)=[.ptr i n]:=_root_.id rfl
@[push_cast] theorem qkU(cs:List PV):qas (.agg cs)=true:=_root_.id rfl
@[push_cast] theorem qkV(v:Value):qas (.sc v)=true:=_root_.id rfl
@[push_cast] theorem qkW:qas .nil=true:=_root_.id rfl
@[push_cast] theorem qkX(p:Bool)(es:Nat)(xs:List (List PV)):qas (.sl p es xs)=true:=_root_.id rfl
@[push_cast] theorem qkY(i lo n:Nat):qas (.view i lo n)=true:=_root_.id rfl
@[push_cast] theorem qkZ(i n:Nat):qas (.ptr i n)=true:=_root_.id rfl
def ql0:List PV->Bool
 |[]=>true
 |c::r=>qbM c&&ql0 r
theorem ql1(cs:List PV):cs.all qbM=ql0 cs:=by induction cs<;>simp_all[ql0]
@[push_cast] theorem ql2:ql0 []=true:=_root_.id rfl
@[push_cast] theorem ql3(c:PV)(r:List PV):ql0 (c::r)=(qbM c&&ql0 r):=_root_.id rfl
@[push_cast] theorem ql4(v:Value):qbM (.sc v)=true:=_root_.id rfl
@[push_cast] theorem ql5:qbM .nil=true:=_root_.id rfl
@[push_cast] theorem ql6(p:Bool)(es:Nat)(xs:List (List PV)):qbM (.sl p es xs)=true:=_root_.id rfl
@[push_cast] theorem ql7(p:Bool)(cs:List PV)(o:Nat):qbM (.iptr p cs o)=true:=_root_.id rfl
attribute [push_cast] Bool.true_and Bool.and_true Bool.false_and Bool.and_false
@[push_cast] theorem ql8:ikLo .i64= -9223372036854775808:=_root_.id rfl
@[push_cast] theorem ql9:ikLo .u8=0:=_root_.id rfl
@[push_cast] theorem qla:ikLo .u64=0:=_root_.id rfl
@[push_cast] theorem qlb:ikLo .i32= -2147483648:=_root_.id rfl
@[push_cast] theorem qlc:ikHi .i64=9223372036854775807:=_root_.id rfl
@[push_cast] theorem qld:ikHi .u8=255:=_root_.id rfl
@[push_cast] theorem qle:ikHi .u64=18446744073709551615:=_root_.id rfl
@[push_cast] theorem qlf:ikHi .i32=2147483647:=_root_.id rfl
@[push_cast] theorem qlg(a b:Int):ariF .add a b=a+b:=_root_.id rfl
@[push_cast] theorem qlh(a b:Int):ariF .sub a b=a-b:=_root_.id rfl
@[push_cast] theorem qli(a b:Int):ariF .mul a b=a*b:=_root_.id rfl
@[push_cast] theorem qlj(a b:Int):dvdN .quo a b=a/b:=_root_.id rfl
@[push_cast] theorem qlk(a b:Int):dvdN .rem a b=a%b:=_root_.id rfl
@[push_cast] theorem qll(k:IntKind)(a b:Int):dvdW .quo k a b=k.wrap (a.tdiv b):=_root_.id rfl
@[push_cast] theorem qlm(k:IntKind)(a b:Int):dvdW .rem k a b=a.tmod b:=_root_.id rfl
@[push_cast] theorem qln(a b:Int):cmpF .eql a b=decide (a=b):=by
 show(a==b)=_
 by_cases h:a=b<;>simp[h]
@[push_cast] theorem qlo(a b:Int):cmpF .neq a b=decide (a≠b):=by
 show(a !=b)=_
 by_cases h:a=b<;>simp[h]
@[push_cast] theorem qlp(a b:Int):cmpF .lss a b=decide (a<b):=_root_.id rfl
@[push_cast] theorem qlq(a b:Int):cmpF .leq a b=decide (a<=b):=_root_.id rfl
@[push_cast] theorem qlr(a b:Int):cmpF .gtr a b=decide (b<a):=_root_.id rfl
@[push_cast] theorem qls(a b:Int):cmpF .geq a b=decide (b<=a):=_root_.id rfl
@[push_cast] theorem qlt(k l:IntKind)(a b:Int)(f:IntKind->Int->IntKind->Int->Prop×PV):vc2 (.sc (.int k a)) (.sc (.int l b)) f=f k a l b:=_root_.id rfl
@[push_cast] theorem qlu(k:IntKind)(a:Int)(f:IntKind->Int->Prop×PV):vc1 (.sc (.int k a)) f=f k a:=_root_.id rfl
section
variable (P:Env)
def qS(d:Option Nat)(x:Prop×PV)(r:List AO)(st:St)(K:St->Prop):Prop:=x.1/\opsK P r (st.put d x.2) K
@[push_cast] theorem qlv(d:Option Nat)(p:Prop)(v:PV)(r:List AO)(st:St)(K:St->Prop):qS P d (p,v) r st K=(p/\opsK P r (st.put d v) K):=_root_.id rfl
@[congr] theorem qlw{d:Option Nat}{x x' :Prop×PV}{r:List AO}{st st' :St}{K:St->Prop}(h1:x=x')(h2:st=st'):qS P d x r st K=qS P d x' r st' K:=by rw[h1,h2]
@[congr] theorem qlx{l:List AO}{st st' :St}{K:St->Prop}(h:st=st'):opsK P l st K=opsK P l st' K:=by rw[h]
@[congr] theorem qly{c:AC}{st st' :St}{Q:Exit->St->Prop}(h:st=st'):awp P c Q st=awp P c Q st' :=by rw[h]
@[congr] theorem qlz{v v' :PV}{x y:Prop}(h:v=v'):qcN v x y=qcN v' x y:=by rw[h]
def ariG(op:BinOp)(nw:Bool)(k:IntKind)(k1:IntKind)(a:Int)(k2:IntKind)(b:Int):Prop×PV:=
 bif nw then((k1=k/\k2=k)/\ikLo k<=ariF op a b/\ariF op a b<=ikHi k,.sc (.int k (ariF op a b)))else(k1=k/\k2=k,.sc (.int k (k.wrap (ariF op a b))))
@[push_cast] theorem qlA(op:BinOp)(k k1 k2:IntKind)(a b:Int):ariG op true k k1 a k2 b=((k1=k/\k2=k)/\ikLo k<=ariF op a b/\ariF op a b<=ikHi k,.sc (.int k (ariF op a b))):=_root_.id rfl
@[push_cast] theorem qlB(op:BinOp)(k k1 k2:IntKind)(a b:Int):ariG op false k k1 a k2 b=(k1=k/\k2=k,.sc (.int k (k.wrap (ariF op a b)))):=_root_.id rfl
def dvdG(op:BinOp)(nn:Bool)(k:IntKind)(k1:IntKind)(a:Int)(k2:IntKind)(b:Int):Prop×PV:=
 bif nn then((k1=k/\k2=k)/\0<=a/\a<=ikHi k/\0<b,.sc (.int k (dvdN op a b)))else((k1=k/\k2=k)/\b≠0,.sc (.int k (dvdW op k a b)))
@[push_cast] theorem qlC(op:BinOp)(k k1 k2:IntKind)(a b:Int):dvdG op true k k1 a k2 b=((k1=k/\k2=k)/\0<=a/\a<=ikHi k/\0<b,.sc (.int k (dvdN op a b))):=_root_.id rfl
@[push_cast] theorem qlD(op:BinOp)(k k1 k2:IntKind)(a b:Int):dvdG op false k k1 a k2 b=((k1=k/\k2=k)/\b≠0,.sc (.int k (dvdW op k a b))):=_root_.id rfl
def bitG(op:BinOp)(k:IntKind)(k1:IntKind)(a:Int)(k2:IntKind)(b:Int):Prop×PV:=(k1=k/\k2=k,.sc (.int k (bitF op k a b)))
@[push_cast] theorem qlE(op:BinOp)(k k1 k2:IntKind)(a b:Int):bitG op k k1 a k2 b=(k1=k/\k2=k,.sc (.int k (bitF op k a b))):=_root_.id rfl
def shfG(op:BinOp)(k:IntKind)(k1:IntKind)(a:Int)(_:IntKind)(b:Int):Prop×PV:=(k1=k/\0<=b,.sc (.int k (shfF op k a b)))
@[push_cast] theorem qlF(op:BinOp)(k k1 k2:IntKind)(a b:Int):shfG op k k1 a k2 b=(k1=k/\0<=b,.sc (.int k (shfF op k a b))):=_root_.id rfl
def cmpG(op:BinOp)(k:IntKind)(k1:IntKind)(a:Int)(k2:IntKind)(b:Int):Prop×PV:=(k1=k/\k2=k,.sc (.bool (cmpF op a b)))
@[push_cast] theorem qlG(op:BinOp)(k k1 k2:IntKind)(a b:Int):cmpG op k k1 a k2 b=(k1=k/\k2=k,.sc (.bool (cmpF op a b))):=_root_.id rfl
def mnG(mx:Bool)(k1:IntKind)(a:Int)(k2:IntKind)(b:Int):Prop×PV:=(k1=k2,.sc (.int k1 (bif mx then max a b else min a b)))
@[push_cast] theorem qlH(mx:Bool)(k1 k2:IntKind)(a b:Int):mnG mx k1 a k2 b=(k1=k2,.sc (.int k1 (bif mx then max a b else min a b))):=_root_.id rfl
def negG(k k1:IntKind)(a:Int):Prop×PV:=(k1=k,.sc (.int k (k.wrap (0-a))))
@[push_cast] theorem qlI(k k1:IntKind)(a:Int):negG k k1 a=(k1=k,.sc (.int k (k.wrap (0-a)))):=_root_.id rfl
def cnvG(nw:Bool)(k:IntKind)(_:IntKind)(a:Int):Prop×PV:=bif nw then(ikLo k<=a/\a<=ikHi k,.sc (.int k a))else(True,.sc (.int k (k.wrap a)))
@[push_cast] theorem qlJ(k k1:IntKind)(a:Int):cnvG true k k1 a=(ikLo k<=a/\a<=ikHi k,.sc (.int k a)):=_root_.id rfl
@[push_cast] theorem qlK(k k1:IntKind)(a:Int):cnvG false k k1 a=(True,.sc (.int k (k.wrap a))):=_root_.id rfl
def eqbV(ng:Bool):PV->PV->Prop×PV
 | .sc (.bool a),.sc (.bool b)=>(True,.sc (.bool (bif ng then a !=b else a==b)))
 |_,_=>(False,.bot)
@[push_cast] theorem qlL(ng a b:Bool):eqbV ng (.sc (.bool a)) (.sc (.bool b))=(True,.sc (.bool (bif ng then a !=b else a==b))):=_root_.id rfl
def eqaV(ng:Bool)(n:Nat):PV->PV->Prop×PV
 | .agg cs,.agg ds=>match qat cs ds with|some r=>(cs.length=n/\ds.length=n,.sc (.bool (bif ng then !r else r)))|none=>(False,.bot)
 |_,_=>(False,.bot)
def eqaO(ng:Bool)(n:Nat)(cs ds:List PV):Option Bool->Prop×PV
 |some r=>(cs.length=n/\ds.length=n,.sc (.bool (bif ng then !r else r)))
 |none=>(False,.bot)
@[push_cast] theorem qlM(ng:Bool)(n:Nat)(cs ds:List PV)(r:Bool):eqaO ng n cs ds (some r)=(cs.length=n/\ds.length=n,.sc (.bool (bif ng then !r else r))):=_root_.id rfl
@[push_cast] theorem qlN(ng:Bool)(n:Nat)(cs ds:List PV):eqaV ng n (.agg cs) (.agg ds)=eqaO ng n cs ds (qat cs ds):=by
 show(match qat cs ds with|some r=>_|none=>_)=_
 cases qat cs ds<;>rfl
@[push_cast] theorem qlO:qat [] []=some true:=_root_.id rfl
@[push_cast] theorem qlP(k l:IntKind)(a b:Int)(r s:List PV):qat (.sc (.int k a)::r) (.sc (.int l b)::s)=if k=l then(qat r s).map (decide (a=b)&& ·)else none:=by
 have:(a==b)=decide (a=b):=by by_cases h:a=b<;>simp[h]
 simp only[qat,this]
attribute [push_cast] Option.map_some Option.map_none
def notV:PV->Prop×PV
 | .sc (.bool b)=>(True,.sc (.bool (!b)))
 |_=>(False,.bot)
@[push_cast] theorem qlQ(b:Bool):notV (.sc (.bool b))=(True,.sc (.bool (!b))):=_root_.id rfl
def lenV:PV->Prop×PV
 | .view _ _ n=>(True,.int n)
 | .sl _ _ xs=>(True,.int xs.length)
 | .nil=>(True,.int 0)
 | .bv _ _ n=>(True,.int n)
 |_=>(False,.bot)
@[push_cast] theorem qlR(i e n:Nat):lenV (.bv i e n)=(True,.sc (.int .i64 n)):=_root_.id rfl
@[push_cast] theorem qlS(i lo n:Nat):lenV (.view i lo n)=(True,.sc (.int .i64 n)):=_root_.id rfl
@[push_cast] theorem qlT(p:Bool)(es:Nat)(xs:List (List PV)):lenV (.sl p es xs)=(True,.sc (.int .i64 xs.length)):=_root_.id rfl
@[push_cast] theorem qlU:lenV .nil=(True,.sc (.int .i64 0)):=_root_.id rfl
def faV(off:Nat):PV->Prop×PV
 | .ptr id o=>(True,.ptr id (o+off))
 | .eptr id i o=>(True,.eptr id i (o+off))
 | .iptr p cs o=>(True,.iptr p cs (o+off))
 |_=>(False,.bot)
@[push_cast] theorem qlV(off id o:Nat):faV off (.ptr id o)=(True,.ptr id (o+off)):=_root_.id rfl
@[push_cast] theorem qlW(off id i o:Nat):faV off (.eptr id i o)=(True,.eptr id i (o+off)):=_root_.id rfl
@[push_cast] theorem qlX(off:Nat)(p:Bool)(cs:List PV)(o:Nat):faV off (.iptr p cs o)=(True,.iptr p cs (o+off)):=_root_.id rfl
def flV(agg:Bool)(off sz:Nat):PV->Prop×PV
 | .agg cs=>(off+sz<=cs.length,ldc agg sz off cs)
 |_=>(False,.bot)
@[push_cast] theorem qlY(agg:Bool)(off sz:Nat)(cs:List PV):flV agg off sz (.agg cs)=(off+sz<=cs.length,ldc agg sz off cs):=_root_.id rfl
def ixsA(es id lo n:Nat)(j:Int):Option Arr->Prop×PV
 |some A=>(A.es=es/\0<=j/\j<n,.eptr id (lo+j.toNat) 0)
 |none=>(False,.bot)
def ixsV(st:St)(es:Nat):PV->PV->Prop×PV
 | .view id lo n,.sc (.int _ j)=>ixsA es id lo n j (lk st.a id)
 | .sl p es' xs,.sc (.int _ j)=>(es' =es/\0<=j/\j<xs.length,.iptr p (xs.getD j.toNat []) 0)
 | .bv id es' n,.sc (.int _ j)=>(es' =es/\0<=j/\j<n,.ptr id (j.toNat*es))
 |_,_=>(False,.bot)
@[push_cast] theorem qlZ(st:St)(es id es' n:Nat)(k:IntKind)(j:Int):ixsV st es (.bv id es' n) (.sc (.int k j))=(es' =es/\0<=j/\j<n,.ptr id (j.toNat*es)):=_root_.id rfl
@[push_cast] theorem qm0(es id lo n:Nat)(j:Int)(e t:Nat)(xs:List (List PV)):ixsA es id lo n j (some ⟨e,t,xs⟩)=(e=es/\0<=j/\j<n,.eptr id (lo+j.toNat) 0):=_root_.id rfl
@[push_cast] theorem qm1(s:List (Nat×PV))(b:List (Nat×List PV))(a:List (Nat×Arr))(m:List (Nat×Mp))(es id lo n:Nat)(k:IntKind)(j:Int):ixsV ⟨s,b,a,m⟩ es (.view id lo n) (.sc (.int k j))=ixsA es id lo n j (lk a id):=_root_.id rfl
@[push_cast] theorem qm2(st:St)(es:Nat)(p:Bool)(es' :Nat)(xs:List (List PV))(k:IntKind)(j:Int):ixsV st es (.sl p es' xs) (.sc (.int k j))=(es' =es/\0<=j/\j<xs.length,.iptr p (xs.getD j.toNat []) 0):=_root_.id rfl
def ixaV(n es:Nat):PV->PV->Prop×PV
 | .ptr id o,.sc (.int _ j)=>(0<=j/\j<n,.ptr id (o+j.toNat*es))
 | .eptr id k o,.sc (.int _ j)=>(0<=j/\j<n,.eptr id k (o+j.toNat*es))
 | .iptr p cs o,.sc (.int _ j)=>(0<=j/\j<n,.iptr p cs (o+j.toNat*es))
 |_,_=>(False,.bot)
@[push_cast] theorem qm3(n es id o:Nat)(k:IntKind)(j:Int):ixaV n es (.ptr id o) (.sc (.int k j))=(0<=j/\j<n,.ptr id (o+j.toNat*es)):=_root_.id rfl
@[push_cast] theorem qm4(n es id i o:Nat)(k:IntKind)(j:Int):ixaV n es (.eptr id i o) (.sc (.int k j))=(0<=j/\j<n,.eptr id i (o+j.toNat*es)):=_root_.id rfl
@[push_cast] theorem qm5(n es:Nat)(p:Bool)(cs:List PV)(o:Nat)(k:IntKind)(j:Int):ixaV n es (.iptr p cs o) (.sc (.int k j))=(0<=j/\j<n,.iptr p cs (o+j.toNat*es)):=_root_.id rfl
def ixvV(agg:Bool)(n es:Nat):PV->PV->Prop×PV
 | .agg cs,.sc (.int _ j)=>(0<=j/\j<n/\j.toNat*es+es<=cs.length,ldc agg es (j.toNat*es) cs)
 |_,_=>(False,.bot)
@[push_cast] theorem qm6(agg:Bool)(n es:Nat)(cs:List PV)(k:IntKind)(j:Int):ixvV agg n es (.agg cs) (.sc (.int k j))=(0<=j/\j<n/\j.toNat*es+es<=cs.length,ldc agg es (j.toNat*es) cs):=_root_.id rfl
def extV(i:Nat):PV->Prop×PV
 | .tup cs=>(i<cs.length,cs.getD i .bot)
 |_=>(False,.bot)
@[push_cast] theorem qm7(i:Nat)(cs:List PV):extV i (.tup cs)=(i<cs.length,nthL cs i):=by simp only[extV,qky]
def nckV:PV->Prop×PV
 | .ptr id o=>(True,.ptr id o)
 | .eptr id i o=>(True,.eptr id i o)
 | .iptr p cs o=>(True,.iptr p cs o)
 |_=>(False,.bot)
@[push_cast] theorem qm8(id o:Nat):nckV (.ptr id o)=(True,.ptr id o):=_root_.id rfl
@[push_cast] theorem qm9(id i o:Nat):nckV (.eptr id i o)=(True,.eptr id i o):=_root_.id rfl
@[push_cast] theorem qma(p:Bool)(cs:List PV)(o:Nat):nckV (.iptr p cs o)=(True,.iptr p cs o):=_root_.id rfl
def qmb(c x y:PV):Prop×PV:=match c with| .sc (.bool true)=>(True,x)| .sc (.bool false)=>(True,y)|_=>(False,.bot)
@[push_cast] theorem qmc(x y:PV):qmb (.sc (.bool true)) x y=(True,x):=_root_.id rfl
@[push_cast] theorem qmd(x y:PV):qmb (.sc (.bool false)) x y=(True,y):=_root_.id rfl
def andQ{α:Type}(p:Prop)(q:Prop×α):Prop×α:=(p/\q.1,q.2)
@[push_cast] theorem qme{α:Type}(p a:Prop)(b:α):andQ p (a,b)=(p/\a,b):=_root_.id rfl
@[push_cast] theorem qmf(st:St)(cs:List PV):bldF st [] cs=(True,cs):=_root_.id rfl
@[push_cast] theorem qmg (st : St) (off sz : Nat) (x : Opd) (r : List (Nat × Nat × Opd)) (cs : List PV) :
  bldF st ((off,sz,x)::r) cs=andQ (qas (x.ev st)=true/\(cellsOf (x.ev st)).length=sz/\off+sz<=cs.length) (bldF st r (spl cs off (cellsOf (x.ev st)))):=by
 simp only[bldF,andQ,and_assoc]
def aggQ(q:Prop×List PV):Prop×PV:=(q.1,.agg q.2)
@[push_cast] theorem qmh(p:Prop)(cs:List PV):aggQ (p,cs)=(p,.agg cs):=_root_.id rfl
def rowV(agg:Bool)(sz off:Nat)(cs:List PV):Prop×PV:=(off+sz<=cs.length,ldc agg sz off cs)
def rowE(agg:Bool)(sz i off:Nat)(A:Arr):Prop×PV:=(i<A.xs.length/\off+sz<=A.es,ldc agg sz off (A.xs.getD i []))
def ldB(agg:Bool)(sz off:Nat):Option (List PV)->Prop×PV
 |some cs=>rowV agg sz off cs
 |none=>(False,.bot)
def ldE(agg:Bool)(sz i off:Nat):Option Arr->Prop×PV
 |some A=>rowE agg sz i off A
 |none=>(False,.bot)
def ldV(st:St)(agg:Bool)(sz:Nat):PV->Prop×PV
 | .ptr id off=>ldB agg sz off (lk st.b id)
 | .eptr id i off=>ldE agg sz i off (lk st.a id)
 | .iptr _ cs off=>rowV agg sz off cs
 |_=>(False,.bot)
@[push_cast] theorem qmi(agg:Bool)(sz off:Nat)(cs:List PV):ldB agg sz off (some cs)=rowV agg sz off cs:=_root_.id rfl
@[push_cast] theorem qmj(agg:Bool)(sz i off:Nat)(A:Arr):ldE agg sz i off (some A)=rowE agg sz i off A:=_root_.id rfl
@[push_cast] theorem qmk(s:List (Nat×PV))(b:List (Nat×List PV))(a:List (Nat×Arr))(m:List (Nat×Mp))(agg:Bool)(sz id off:Nat):ldV ⟨s,b,a,m⟩ agg sz (.ptr id off)=ldB agg sz off (lk b id):=_root_.id rfl
@[push_cast] theorem qml(s:List (Nat×PV))(b:List (Nat×List PV))(a:List (Nat×Arr))(m:List (Nat×Mp))(agg:Bool)(sz id i off:Nat):ldV ⟨s,b,a,m⟩ agg sz (.eptr id i off)=ldE agg sz i off (lk a id):=_root_.id rfl
@[push_cast] theorem qmm(st:St)(agg:Bool)(sz:Nat)(p:Bool)(cs:List PV)(off:Nat):ldV st agg sz (.iptr p cs off)=rowV agg sz off cs:=_root_.id rfl
@[push_cast] theorem qmn(agg:Bool)(sz off:Nat)(c:PV)(cs:List PV):rowV agg sz off (c::cs)=(off+sz<=(c::cs).length,ldc agg sz off (c::cs)):=_root_.id rfl
@[push_cast] theorem qmo(agg:Bool)(sz i off es ty:Nat)(x:List PV)(xs:List (List PV)):rowE agg sz i off ⟨es,ty,x::xs⟩=(i<(x::xs).length/\off+sz<=es,ldc agg sz off ((x::xs).getD i [])):=_root_.id rfl
@[push_cast] theorem qmp {α : Type} [Inhabited α] (d : Option Nat) (agg : Bool) (sz off i : Nat) (f : α -> List PV) (l : List α) (r : List AO) (st : St) (K : St -> Prop) (hs : 0 < sz) :
  qS P d (rowV agg sz off ((rows f l).getD i [])) r st K=(i<l.length/\qS P d (rowV agg sz off (f (l.getD i default))) r st K):=by
 by_cases h:i<l.length
 ·rw[qki f l h];simp[h]
 ·have:(rows f l).getD i []=[]:=by simp[rows,List.getD_eq_getElem?_getD,List.getElem?_eq_none (show l.length<=i by omega)]
  rw[this]
  simp only[qS,rowV,List.length_nil,h,false_and,eq_iff_iff,iff_false,not_and]
  intro h2;omega
@[push_cast] theorem qmq {α : Type} [Inhabited α] (d : Option Nat) (agg : Bool) (sz off i es ty : Nat) (f : α -> List PV) (l : List α) (r : List AO) (st : St) (K : St -> Prop) :
  qS P d (rowE agg sz i off ⟨es,ty,rows f l⟩) r st K=((i<l.length/\off+sz<=es)/\opsK P r (st.put d (ldc agg sz off (f (l.getD i default)))) K):=by
 by_cases h:i<l.length
 ·simp only[qS,rowE,qki f l h,qkd]
 ·simp[qS,rowE,h,qkd]
def slcQ(es:Nat)(v:PV)(A:Option Arr)(q:Option (Int×Int)):Prop×PV:=
 match v,A,q with
 | .view id l n,some A,some (p,q)=>(A.es=es/\0<=p/\p<=q/\q<=n,.view id (l+p.toNat) (q.toNat-p.toNat))
 | .sl pm es' xs,_,some (p,q)=>(es' =es/\0<=p/\p<=q/\q<=xs.length,.sl pm es ((xs.take q.toNat).drop p.toNat))
 | .nil,_,some (p,q)=>(p=0/\q=0,.nil)
 |_,_,_=>(False,.bot)
def slcA(st:St):PV->Option Arr
 | .view id _ _=>lk st.a id
 |_=>none
def slcN:PV->Nat
 | .view _ _ n=>n
 | .sl _ _ xs=>xs.length
 |_=>0
@[push_cast] theorem qmr(s:List (Nat×PV))(b:List (Nat×List PV))(a:List (Nat×Arr))(m:List (Nat×Mp))(id l n:Nat):slcA ⟨s,b,a,m⟩ (.view id l n)=lk a id:=_root_.id rfl
@[push_cast] theorem qms(st:St)(p:Bool)(es:Nat)(xs:List (List PV)):slcA st (.sl p es xs)=none:=_root_.id rfl
@[push_cast] theorem qmt(st:St):slcA st .nil=none:=_root_.id rfl
@[push_cast] theorem qmu(id l n:Nat):slcN (.view id l n)=n:=_root_.id rfl
@[push_cast] theorem qmv(p:Bool)(es:Nat)(xs:List (List PV)):slcN (.sl p es xs)=xs.length:=_root_.id rfl
@[push_cast] theorem qmw:slcN .nil=0:=_root_.id rfl
@[push_cast] theorem qmx(es id l n e t:Nat)(xs:List (List PV))(p q:Int):slcQ es (.view id l n) (some ⟨e,t,xs⟩) (some (p,q))=(e=es/\0<=p/\p<=q/\q<=n,.view id (l+p.toNat) (q.toNat-p.toNat)):=_root_.id rfl
@[push_cast] theorem qmy(es:Nat)(pm:Bool)(es' :Nat)(xs:List (List PV))(p q:Int):slcQ es (.sl pm es' xs) none (some (p,q))=(es' =es/\0<=p/\p<=q/\q<=xs.length,.sl pm es ((xs.take q.toNat).drop p.toNat)):=_root_.id rfl
@[push_cast] theorem qmz(es:Nat)(p q:Int):slcQ es .nil none (some (p,q))=(p=0/\q=0,.nil):=_root_.id rfl
def slcI(v:PV):Option Int:=match v with| .sc (.int _ a)=>some a|_=>none
def slcP(a b:Option Int):Option (Int×Int):=match a,b with|some a,some b=>some (a,b)|_,_=>none
@[push_cast] theorem qmA(k:IntKind)(a:Int):slcI (.sc (.int k a))=some a:=_root_.id rfl
@[push_cast] theorem qmB(a b:Int):slcP (some a) (some b)=some (a,b):=_root_.id rfl
@[push_cast] theorem qmC(st:St)(n:Nat):slcB st n none none=some (0,(n:Int)):=_root_.id rfl
@[push_cast] theorem qmD(st:St)(n:Nat)(x:Opd):slcB st n (some x) none=slcP (slcI (x.ev st)) (some (n:Int)):=by
 simp only[slcB,slcI];split<;>simp_all[slcP]
@[push_cast] theorem qmE(st:St)(n:Nat)(x:Opd):slcB st n none (some x)=slcP (some 0) (slcI (x.ev st)):=by
 simp only[slcB,slcI];split<;>simp_all[slcP]
@[push_cast] theorem qmF(st:St)(n:Nat)(x y:Opd):slcB st n (some x) (some y)=slcP (slcI (x.ev st)) (slcI (y.ev st)):=by
 simp only[slcB,slcI]
 generalize x.ev st=u
 generalize y.ev st=v
 cases u with
 | sc u => cases v with
   |sc v=>cases u<;>cases v<;>rfl
   |_=>cases u<;>rfl
 |_=>cases v<;>rfl
variable (d:Option Nat) (r:List AO) (st:St) (K:St->Prop)
@[push_cast] theorem qmG:opsK P [] st K=K st:=_root_.id rfl
@[push_cast] theorem o_mv(x:Opd):opsK P (⟨d,none,.mv x⟩::r) st K=opsK P r (st.put d (x.ev st)) K:=by
 simp only[opsK,grdK,opK,aev,qcH,Bool.false_eq_true,if_false,true_and]
@[push_cast] theorem qmH(op:BinOp)(nw:Bool)(k:IntKind)(x y:Opd):opsK P (⟨d,none,.ari op nw k x y⟩::r) st K=qS P d (vc2 (x.ev st) (y.ev st) (ariG op nw k)) r st K:=_root_.id rfl
@[push_cast] theorem qmI(op:BinOp)(nw:Bool)(k:IntKind)(x y:Opd):opsK P (⟨d,none,.dvd op nw k x y⟩::r) st K=qS P d (vc2 (x.ev st) (y.ev st) (dvdG op nw k)) r st K:=_root_.id rfl
@[push_cast] theorem qmJ(op:BinOp)(k:IntKind)(x y:Opd):opsK P (⟨d,none,.bit op k x y⟩::r) st K=qS P d (vc2 (x.ev st) (y.ev st) (bitG op k)) r st K:=_root_.id rfl
@[push_cast] theorem qmK(op:BinOp)(k:IntKind)(x y:Opd):opsK P (⟨d,none,.shf op k x y⟩::r) st K=qS P d (vc2 (x.ev st) (y.ev st) (shfG op k)) r st K:=_root_.id rfl
@[push_cast] theorem qmL(op:BinOp)(k:IntKind)(x y:Opd):opsK P (⟨d,none,.cmp op k x y⟩::r) st K=qS P d (vc2 (x.ev st) (y.ev st) (cmpG op k)) r st K:=_root_.id rfl
@[push_cast] theorem o_mn(mx:Bool)(x y:Opd):opsK P (⟨d,none,.mn mx x y⟩::r) st K=qS P d (vc2 (x.ev st) (y.ev st) (mnG mx)) r st K:=_root_.id rfl
@[push_cast] theorem qmN(nw:Bool)(k:IntKind)(x:Opd):opsK P (⟨d,none,.cnv nw k x⟩::r) st K=qS P d (vc1 (x.ev st) (cnvG nw k)) r st K:=_root_.id rfl
@[push_cast] theorem qmO(ng:Bool)(x y:Opd):opsK P (⟨d,none,.eqb ng x y⟩::r) st K=qS P d (eqbV ng (x.ev st) (y.ev st)) r st K:=_root_.id rfl
@[push_cast] theorem qmP(ng:Bool)(n:Nat)(x y:Opd):opsK P (⟨d,none,.eqa ng n x y⟩::r) st K=qS P d (eqaV ng n (x.ev st) (y.ev st)) r st K:=_root_.id rfl
@[push_cast] theorem qmQ(x:Opd):opsK P (⟨d,none,.not x⟩::r) st K=qS P d (notV (x.ev st)) r st K:=_root_.id rfl
@[push_cast] theorem qmR(x:Opd):opsK P (⟨d,none,.len x⟩::r) st K=qS P d (lenV (x.ev st)) r st K:=_root_.id rfl
@[push_cast] theorem o_fa(off:Nat)(x:Opd):opsK P (⟨d,none,.fa off x⟩::r) st K=qS P d (faV off (x.ev st)) r st K:=_root_.id rfl
@[push_cast] theorem o_fl(agg:Bool)(off sz:Nat)(x:Opd):opsK P (⟨d,none,.fl agg off sz x⟩::r) st K=qS P d (flV agg off sz (x.ev st)) r st K:=_root_.id rfl
@[push_cast] theorem qmT(es:Nat)(x i:Opd):opsK P (⟨d,none,.ixs es x i⟩::r) st K=qS P d (ixsV st es (x.ev st) (i.ev st)) r st K:=_root_.id rfl
@[push_cast] theorem qmU(n es:Nat)(x i:Opd):opsK P (⟨d,none,.ixa n es x i⟩::r) st K=qS P d (ixaV n es (x.ev st) (i.ev st)) r st K:=_root_.id rfl
@[push_cast] theorem qmW(x:Opd)(i:Nat):opsK P (⟨d,none,.ext x i⟩::r) st K=qS P d (extV i (x.ev st)) r st K:=_root_.id rfl
@[push_cast] theorem qmX(x:Opd):opsK P (⟨d,none,.nck x⟩::r) st K=qS P d (nckV (x.ev st)) r st K:=_root_.id rfl
@[push_cast] theorem qmY(c x y:Opd):opsK P (⟨d,none,.pick c x y⟩::r) st K=qS P d (qmb (c.ev st) (x.ev st) (y.ev st)) r st K:=_root_.id rfl
@[push_cast] theorem qmZ(zero:List PV)(parts:List (Nat×Nat×Opd)):opsK P (⟨d,none,.bld zero parts⟩::r) st K=qS P d (aggQ (bldF st parts zero)) r st K:=_root_.id rfl
@[push_cast] theorem o_ld(agg:Bool)(sz:Nat)(x:Opd):opsK P (⟨d,none,.ld agg sz x⟩::r) st K=qS P d (ldV st agg sz (x.ev st)) r st K:=_root_.id rfl
@[push_cast] theorem qn0(es:Nat)(x:Opd)(lo hi:Option Opd):opsK P (⟨d,none,.slc es x lo hi⟩::r) st K=qS P d (slcQ es (x.ev st) (slcA st (x.ev st)) (slcB st (slcN (x.ev st)) lo hi)) r st K:=by
 have:aev st (.slc es x lo hi)=slcQ es (x.ev st) (slcA st (x.ev st)) (slcB st (slcN (x.ev st)) lo hi):=by
  simp only[aev]
  cases hx:x.ev st with
  |view id l n=>
    simp only[slcA,slcN]
    cases lk st.a id<;>cases slcB st n lo hi<;>rfl
  |sl pm es' xs=>simp only[slcA,slcN];cases slcB st xs.length lo hi<;>rfl
  |nil=>simp only[slcA,slcN];cases slcB st 0 lo hi<;>rfl
  |_=>rfl
 simp only[opsK,grdK,opK,qcH,Bool.false_eq_true,if_false,this,qS]
end
end Go.Vc
