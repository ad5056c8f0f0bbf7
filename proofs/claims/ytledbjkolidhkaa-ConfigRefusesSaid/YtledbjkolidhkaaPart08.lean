/- Txt VcZm VcZn: lemmas for PLocal -/
import Derived.Test.YtledbjkolidhkaaPart06
import Derived.Test.YtledbjkolidhkaaChecked
import Derived.Test.YtledbjkolidhkaaPart07
set_option linter.unusedSimpArgs false
set_option linter.unusedVariables false
namespace Go.Proofs.Ytledbjkolidhkaa.Txt
open Go Go.Vc
set_option maxRecDepth 100000
def ac42_r15 : AC :=
 (.seq (.reg [0, 58, 1, 7] [
 ⟨some 55, none, .ld false 1 (.t 7)⟩, ⟨some 56, none, .mv (.t 1)⟩, ⟨some 57, none, .clm 67 [(.t 55), (.t 56)]⟩, ⟨some 4, none, .mv (.t 57)⟩])
 .ret)
def ac42 : AC :=
 (.seq (.reg [0, 58, 0, 1] [
 ⟨some 2, none, .box (.t 0)⟩, ⟨some 4, none, .mv (.c (.nil))⟩])
 (.seq (.reg [0, 58, 1, 2] [
 ⟨some 9, none, .ld true 5 (.t 2)⟩, ⟨some 10, none, .mv (.t 1)⟩, ⟨some 11, none, .cal 61 [(.t 9), (.t 10)]⟩, ⟨some 8, none, .mv (.t 11)⟩, ⟨some 12, none, .ext (.t 8) 0⟩, ⟨some 13, none, .ext (.t 8) 1⟩, ⟨some 5, none, .alc [.sc (.int .i64 0), .sc (.int .i64 0), .sc (.int .i64 0), .sc (.int .i64 0)]⟩, ⟨none, none, .sto 4 (.t 5) (.t 12)⟩, ⟨some 6, none, .mv (.t 13)⟩])
 (.seq (.seq (.reg [0, 58, 1, 2, 5, 6] [
 ⟨some 14, none, .mv (.t 6)⟩, ⟨some 15, none, .cmp .neq .i64 (.t 14) (.c (.sc (.int .i64 0)))⟩])
 (.cond (.t 15)
 (.seq (.reg [0, 58] [
 ⟨some 4, none, .mv (.c (.nil))⟩])
 .ret)
 .skip))
 (.seq (.reg [0, 58, 1, 2, 5] [
 ⟨some 16, none, .ld true 5 (.t 2)⟩, ⟨some 17, none, .bld [.sc (.int .i64 0), .sc (.int .i64 0), .sc (.int .i64 0), .sc (.int .i64 0), .nil, .nil] [(0, 5, (.t 16))]⟩, ⟨some 18, none, .box (.t 17)⟩, ⟨some 7, none, .alc [.sc (.pointer none)]⟩, ⟨none, none, .sto 1 (.t 7) (.t 18)⟩])
 (.seq (.seq (.reg [0, 58, 1, 2, 5, 7] [
 ⟨some 19, none, .fa 0 (.t 5)⟩, ⟨some 20, none, .ld false 1 (.t 19)⟩])
 (.block 0
 (.seq (.reg [0, 58, 1, 2, 5, 7, 20] [
 ⟨some 22, none, .cmp .eql .i64 (.t 20) (.c (.sc (.int .i64 3)))⟩, ⟨some 21, none, .mv (.t 22)⟩])
 (.cond (.t 21)
 (.seq (.reg [0, 58, 1, 5, 7] [
 ⟨some 23, none, .ld false 1 (.t 7)⟩, ⟨some 24, none, .fa 1 (.t 5)⟩, ⟨some 25, none, .ld false 1 (.t 24)⟩, ⟨some 26, none, .fa 2 (.t 5)⟩, ⟨some 27, none, .ld false 1 (.t 26)⟩, ⟨some 28, none, .clm 62 [(.t 23), (.t 25), (.t 27)]⟩])
 (.seq (.reg [0, 58, 1, 5, 7] [
 ⟨some 29, none, .fa 3 (.t 5)⟩, ⟨some 30, none, .ld false 1 (.t 29)⟩, ⟨some 31, none, .cmp .eql .i64 (.t 30) (.c (.sc (.int .i64 3)))⟩])
 (.cond (.t 31)
 (.reg [0, 58, 1, 5, 7] [
 ⟨some 32, none, .ld false 1 (.t 7)⟩, ⟨some 33, none, .fa 1 (.t 5)⟩, ⟨some 34, none, .ld false 1 (.t 33)⟩, ⟨some 35, none, .fa 2 (.t 5)⟩, ⟨some 36, none, .ld false 1 (.t 35)⟩, ⟨some 37, none, .ari .sub true .i64 (.t 36) (.c (.sc (.int .i64 1)))⟩, ⟨some 38, none, .clm 63 [(.t 32), (.c (.sc (.int .i64 1))), (.t 34), (.t 37), (.c (.sc (.int .i64 0)))]⟩])
 .skip)))
 (.seq (.reg [0, 58, 1, 2, 5, 7, 20] [
 ⟨some 40, none, .cmp .eql .i64 (.t 20) (.c (.sc (.int .i64 7)))⟩, ⟨some 39, none, .mv (.t 40)⟩])
 (.cond (.t 39)
 (.reg [0, 58, 1, 2, 5, 7] [
 ⟨some 41, none, .ld false 1 (.t 7)⟩, ⟨some 42, none, .fa 0 (.t 2)⟩, ⟨some 43, none, .ld false 1 (.t 42)⟩, ⟨some 44, none, .ari .sub true .i64 (.t 43) (.c (.sc (.int .i64 1)))⟩, ⟨some 45, none, .fa 2 (.t 5)⟩, ⟨some 46, none, .ld false 1 (.t 45)⟩, ⟨some 47, none, .clm 62 [(.t 41), (.t 44), (.t 46)]⟩])
 (.seq (.seq (.reg [0, 58, 1, 2, 5, 7, 20] [
 ⟨some 49, none, .cmp .eql .i64 (.t 20) (.c (.sc (.int .i64 4)))⟩, ⟨some 48, none, .mv (.t 49)⟩])
 (.cond (.t 48)
 .skip
 (.reg [0, 58, 1, 2, 5, 7, 20] [
 ⟨some 50, none, .cmp .eql .i64 (.t 20) (.c (.sc (.int .i64 5)))⟩, ⟨some 48, none, .mv (.t 50)⟩])))
 (.cond (.t 48)
 (.reg [0, 58, 1, 2, 5, 7] [
 ⟨some 51, none, .ld true 5 (.t 2)⟩, ⟨some 52, none, .ld true 4 (.t 5)⟩, ⟨some 53, none, .mkf 65 [(.t 7), (.t 5), (.t 2)]⟩, ⟨some 54, none, .clm 64 [(.t 51), (.t 52), (.t 53)]⟩])
 .skip))))))))
 ac42_r15)))))
def rv42 : List RV := [.tmp 4]
theorem ok42 : fnOk Try.prog ac42 rv42 Try.f42 = true := by kernel_rfl

def ac61 : AC :=
 (.seq (.reg [0, 103, 0, 1] [
 ⟨some 2, none, .box (.t 0)⟩, ⟨some 4, none, .alc [.sc (.int .i64 0), .sc (.int .i64 0), .sc (.int .i64 0), .sc (.int .i64 0)]⟩, ⟨some 5, none, .mv (.c (.sc (.int .i64 0)))⟩])
 (.seq (.reg [0, 103, 1, 2, 4] [
 ⟨some 10, none, .mv (.t 1)⟩, ⟨some 11, none, .ld true 5 (.t 2)⟩, ⟨some 12, none, .cal 60 [(.t 11)]⟩, ⟨some 13, none, .ari .sub true .i64 (.t 10) (.t 12)⟩, ⟨some 6, none, .mv (.t 13)⟩])
 (.seq (.block 0
 (.seq (.reg [0, 103, 1, 2, 4, 6] [
 ⟨some 15, none, .mv (.t 1)⟩, ⟨some 16, none, .cmp .lss .i64 (.t 15) (.c (.sc (.int .i64 0)))⟩, ⟨some 17, none, .mv (.t 16)⟩, ⟨some 18, some (17, false), .mv (.t 1)⟩, ⟨some 19, some (17, false), .ld true 5 (.t 2)⟩, ⟨some 20, some (17, false), .cal 40 [(.t 19)]⟩, ⟨some 21, some (17, false), .cmp .geq .i64 (.t 18) (.t 20)⟩, ⟨some 22, none, .pick (.t 17) (.c (.sc (.bool true))) (.t 21)⟩, ⟨some 14, none, .mv (.t 22)⟩])
 (.cut [0, 103, 1, 2, 4, 6, 14] (.cond (.t 14)
 (.seq (.reg [0, 103, 4] [
 ⟨some 23, none, .bld [.sc (.int .i64 0), .sc (.int .i64 0), .sc (.int .i64 0), .sc (.int .i64 0)] []⟩, ⟨none, none, .sto 4 (.t 4) (.t 23)⟩, ⟨some 5, none, .mv (.c (.sc (.int .i64 1)))⟩])
 .ret)
 (.seq (.reg [0, 103, 1, 2, 4, 6] [
 ⟨some 25, none, .mv (.t 6)⟩, ⟨some 26, none, .fa 3 (.t 2)⟩, ⟨some 27, none, .ld false 1 (.t 26)⟩, ⟨some 28, none, .cmp .geq .i64 (.t 25) (.t 27)⟩, ⟨some 24, none, .mv (.t 28)⟩])
 (.cond (.t 24)
 (.seq (.drw [0, 103, 2, 4, 6] [
 ⟨⟨some 29, none, .fa 0 (.t 2)⟩, [], [], true⟩, ⟨⟨some 30, none, .ld false 1 (.t 29)⟩, [], [], true⟩, ⟨⟨some 31, none, .mv (.t 6)⟩, [], [], true⟩, ⟨⟨some 32, none, .fa 3 (.t 2)⟩, [], [], true⟩, ⟨⟨some 33, none, .ld false 1 (.t 32)⟩, [], [], true⟩, ⟨⟨some 34, none, .ari .sub true .i64 (.t 31) (.t 33)⟩, [], [], true⟩, ⟨⟨some 35, none, .fa 1 (.t 2)⟩, [], [], true⟩, ⟨⟨some 36, none, .ld false 1 (.t 35)⟩, [], [], true⟩, ⟨⟨some 37, none, .dvd .rem true .i64 (.t 34) (.t 36)⟩, [], [], true⟩, ⟨⟨some 38, none, .mv (.t 6)⟩, [], [], true⟩, ⟨⟨some 39, none, .fa 3 (.t 2)⟩, [], [], true⟩, ⟨⟨some 40, none, .ld false 1 (.t 39)⟩, [], [], true⟩, ⟨⟨some 41, none, .ari .sub true .i64 (.t 38) (.t 40)⟩, [], [], true⟩, ⟨⟨some 42, none, .bld [.sc (.int .i64 0), .sc (.int .i64 0), .sc (.int .i64 0), .sc (.int .i64 0)] [(0, 1, (.c (.sc (.int .i64 7)))), (1, 1, (.t 30)), (2, 1, (.t 37)), (3, 1, (.t 41))]⟩, [], [], false⟩, ⟨⟨none, none, .sto 4 (.t 4) (.t 42)⟩, [], [], false⟩, ⟨⟨some 5, none, .mv (.c (.sc (.int .i64 0)))⟩, [], [], false⟩])
 .ret)
 (.seq (.reg [0, 103, 1, 2, 4, 6] [
 ⟨some 44, none, .mv (.t 6)⟩, ⟨some 45, none, .cmp .geq .i64 (.t 44) (.c (.sc (.int .i64 0)))⟩, ⟨some 43, none, .mv (.t 45)⟩])
 (.cond (.t 43)
 (.seq (.reg [0, 103, 2, 4, 6] [
 ⟨some 46, none, .mv (.t 6)⟩, ⟨some 47, none, .fa 1 (.t 2)⟩, ⟨some 48, none, .ld false 1 (.t 47)⟩, ⟨some 49, none, .dvd .rem true .i64 (.t 46) (.t 48)⟩, ⟨some 50, none, .mv (.t 6)⟩, ⟨some 51, none, .bld [.sc (.int .i64 0), .sc (.int .i64 0), .sc (.int .i64 0), .sc (.int .i64 0)] [(0, 1, (.c (.sc (.int .i64 6)))), (1, 1, (.c (.sc (.int .i64 (-1))))), (2, 1, (.t 49)), (3, 1, (.t 50))]⟩, ⟨none, none, .sto 4 (.t 4) (.t 51)⟩, ⟨some 5, none, .mv (.c (.sc (.int .i64 0)))⟩])
 .ret)
 .skip))))))))
 (.seq (.drw [0, 103, 1, 2, 4] [
 ⟨⟨some 52, none, .mv (.t 1)⟩, [], [], true⟩, ⟨⟨some 53, none, .ld true 5 (.t 2)⟩, [], [], true⟩, ⟨⟨some 54, none, .cal 78 [(.t 53)]⟩, [], [], true⟩, ⟨⟨some 55, none, .dvd .quo true .i64 (.t 52) (.t 54)⟩, [], [], true⟩, ⟨⟨some 56, none, .mv (.t 1)⟩, [], [], true⟩, ⟨⟨some 57, none, .ld true 5 (.t 2)⟩, [], [], true⟩, ⟨⟨some 58, none, .cal 78 [(.t 57)]⟩, [], [], true⟩, ⟨⟨some 59, none, .dvd .rem true .i64 (.t 56) (.t 58)⟩, [], [], true⟩, ⟨⟨some 7, none, .mv (.t 55)⟩, [], [], true⟩, ⟨⟨some 8, none, .mv (.t 59)⟩, [], [], false⟩])
 (.seq (.drw [0, 103, 2, 4, 7, 8] [
 ⟨⟨some 60, none, .mv (.t 7)⟩, [], [9], true⟩, ⟨⟨some 61, none, .fa 0 (.t 2)⟩, [], [9], true⟩, ⟨⟨some 62, none, .ld false 1 (.t 61)⟩, [], [9], true⟩, ⟨⟨some 63, none, .dvd .rem true .i64 (.t 60) (.t 62)⟩, [], [9], true⟩, ⟨⟨some 64, none, .mv (.t 7)⟩, [], [9], true⟩, ⟨⟨some 65, none, .fa 0 (.t 2)⟩, [], [9], true⟩, ⟨⟨some 66, none, .ld false 1 (.t 65)⟩, [], [9], true⟩, ⟨⟨some 67, none, .dvd .quo true .i64 (.t 64) (.t 66)⟩, [], [9], true⟩, ⟨⟨some 68, none, .bld [.sc (.int .i64 0), .sc (.int .i64 0), .sc (.int .i64 0), .sc (.int .i64 0)] [(0, 1, (.c (.sc (.int .i64 1)))), (1, 1, (.t 63)), (2, 1, (.t 67))]⟩, [], [9], true⟩, ⟨⟨some 9, none, .alc [.sc (.int .i64 0), .sc (.int .i64 0), .sc (.int .i64 0), .sc (.int .i64 0)]⟩, [9], [], true⟩, ⟨⟨none, none, .sto 4 (.t 9) (.t 68)⟩, [], [], false⟩])
 (.seq (.block 1
 (.seq (.reg [0, 103, 2, 4, 8, 9] [
 ⟨some 70, none, .mv (.t 8)⟩, ⟨some 71, none, .fa 2 (.t 2)⟩, ⟨some 72, none, .ld false 1 (.t 71)⟩, ⟨some 73, none, .ari .add true .i64 (.c (.sc (.int .i64 6))) (.t 72)⟩, ⟨some 74, none, .cmp .geq .i64 (.t 70) (.t 73)⟩, ⟨some 69, none, .mv (.t 74)⟩])
 (.cond (.t 69)
 (.drw [0, 103, 2, 4, 8, 9] [
 ⟨⟨some 75, none, .mv (.t 8)⟩, [], [], true⟩, ⟨⟨some 76, none, .ari .sub true .i64 (.t 75) (.c (.sc (.int .i64 2)))⟩, [], [], true⟩, ⟨⟨some 77, none, .ari .sub true .i64 (.t 76) (.c (.sc (.int .i64 4)))⟩, [], [], true⟩, ⟨⟨some 78, none, .fa 2 (.t 2)⟩, [], [], true⟩, ⟨⟨some 79, none, .ld false 1 (.t 78)⟩, [], [9], true⟩, ⟨⟨some 80, none, .ari .sub true .i64 (.t 77) (.t 79)⟩, [], [], true⟩, ⟨⟨some 81, none, .fa 0 (.t 9)⟩, [], [], true⟩, ⟨⟨none, none, .sto 1 (.t 81) (.c (.sc (.int .i64 5)))⟩, [], [9], true⟩, ⟨⟨some 82, none, .fa 3 (.t 9)⟩, [], [], false⟩, ⟨⟨none, none, .sto 1 (.t 82) (.t 80)⟩, [], [], false⟩])
 (.seq (.reg [0, 103, 4, 8, 9] [
 ⟨some 84, none, .mv (.t 8)⟩, ⟨some 85, none, .cmp .geq .i64 (.t 84) (.c (.sc (.int .i64 6)))⟩, ⟨some 83, none, .mv (.t 85)⟩])
 (.cond (.t 83)
 (.reg [0, 103, 4, 8, 9] [
 ⟨some 86, none, .mv (.t 8)⟩, ⟨some 87, none, .ari .sub true .i64 (.t 86) (.c (.sc (.int .i64 2)))⟩, ⟨some 88, none, .ari .sub true .i64 (.t 87) (.c (.sc (.int .i64 4)))⟩, ⟨some 89, none, .fa 0 (.t 9)⟩, ⟨none, none, .sto 1 (.t 89) (.c (.sc (.int .i64 4)))⟩, ⟨some 90, none, .fa 3 (.t 9)⟩, ⟨none, none, .sto 1 (.t 90) (.t 88)⟩])
 (.seq (.reg [0, 103, 4, 8, 9] [
 ⟨some 92, none, .mv (.t 8)⟩, ⟨some 93, none, .cmp .geq .i64 (.t 92) (.c (.sc (.int .i64 2)))⟩, ⟨some 91, none, .mv (.t 93)⟩])
 (.cond (.t 91)
 (.reg [0, 103, 4, 8, 9] [
 ⟨some 94, none, .mv (.t 8)⟩, ⟨some 95, none, .ari .sub true .i64 (.t 94) (.c (.sc (.int .i64 2)))⟩, ⟨some 96, none, .fa 0 (.t 9)⟩, ⟨none, none, .sto 1 (.t 96) (.c (.sc (.int .i64 3)))⟩, ⟨some 97, none, .fa 3 (.t 9)⟩, ⟨none, none, .sto 1 (.t 97) (.t 95)⟩])
 (.seq (.reg [0, 103, 4, 8, 9] [
 ⟨some 99, none, .mv (.t 8)⟩, ⟨some 100, none, .cmp .eql .i64 (.t 99) (.c (.sc (.int .i64 1)))⟩, ⟨some 98, none, .mv (.t 100)⟩])
 (.cond (.t 98)
 (.reg [0, 103, 4, 9] [
 ⟨some 101, none, .fa 0 (.t 9)⟩, ⟨none, none, .sto 1 (.t 101) (.c (.sc (.int .i64 2)))⟩])
 .skip)))))))))
 (.seq (.reg [0, 103, 4, 9] [
 ⟨some 102, none, .ld true 4 (.t 9)⟩, ⟨none, none, .sto 4 (.t 4) (.t 102)⟩, ⟨some 5, none, .mv (.c (.sc (.int .i64 0)))⟩])
 .ret)))))))
def rv61 : List RV := [.cell 4 true 4, .tmp 5]
theorem ok61 : fnOk Try.prog ac61 rv61 Try.f61 = true := by kernel_rfl

def ac60 : AC :=
 (.seq (.reg [0, 11, 0] [
 ⟨some 1, none, .box (.t 0)⟩, ⟨some 2, none, .mv (.c (.sc (.int .i64 0)))⟩])
 (.seq (.drw [0, 11, 1] [
 ⟨⟨some 3, none, .fa 0 (.t 1)⟩, [], [], true⟩, ⟨⟨some 4, none, .ld false 1 (.t 3)⟩, [], [], true⟩, ⟨⟨some 5, none, .fa 1 (.t 1)⟩, [], [], true⟩, ⟨⟨some 6, none, .ld false 1 (.t 5)⟩, [], [], true⟩, ⟨⟨some 7, none, .ari .mul true .i64 (.t 4) (.t 6)⟩, [], [], true⟩, ⟨⟨some 8, none, .ld true 5 (.t 1)⟩, [], [], true⟩, ⟨⟨some 9, none, .cal 78 [(.t 8)]⟩, [], [], true⟩, ⟨⟨some 10, none, .ari .mul true .i64 (.t 7) (.t 9)⟩, [], [], false⟩, ⟨⟨some 2, none, .mv (.t 10)⟩, [], [], false⟩])
 .ret))
def rv60 : List RV := [.tmp 2]
theorem ok60 : fnOk Try.prog ac60 rv60 Try.f60 = true := by kernel_rfl

def ac40 : AC :=
 (.seq (.reg [0, 9, 0] [
 ⟨some 1, none, .box (.t 0)⟩, ⟨some 2, none, .mv (.c (.sc (.int .i64 0)))⟩])
 (.seq (.drw [0, 9, 1] [
 ⟨⟨some 3, none, .ld true 5 (.t 1)⟩, [], [], true⟩, ⟨⟨some 4, none, .cal 60 [(.t 3)]⟩, [], [], true⟩, ⟨⟨some 5, none, .fa 3 (.t 1)⟩, [], [], true⟩, ⟨⟨some 6, none, .ld false 1 (.t 5)⟩, [], [], true⟩, ⟨⟨some 7, none, .ari .mul true .i64 (.c (.sc (.int .i64 2))) (.t 6)⟩, [], [], true⟩, ⟨⟨some 8, none, .ari .add true .i64 (.t 4) (.t 7)⟩, [], [], false⟩, ⟨⟨some 2, none, .mv (.t 8)⟩, [], [], false⟩])
 .ret))
def rv40 : List RV := [.tmp 2]
theorem ok40 : fnOk Try.prog ac40 rv40 Try.f40 = true := by kernel_rfl

def ac78 : AC :=
 (.seq (.reg [0, 7, 0] [
 ⟨some 1, none, .box (.t 0)⟩, ⟨some 2, none, .mv (.c (.sc (.int .i64 0)))⟩])
 (.seq (.reg [0, 7, 1] [
 ⟨some 3, none, .fa 2 (.t 1)⟩, ⟨some 4, none, .ld false 1 (.t 3)⟩, ⟨some 5, none, .ari .mul true .i64 (.c (.sc (.int .i64 2))) (.t 4)⟩, ⟨some 6, none, .ari .add true .i64 (.c (.sc (.int .i64 6))) (.t 5)⟩, ⟨some 2, none, .mv (.t 6)⟩])
 .ret))
def rv78 : List RV := [.tmp 2]
theorem ok78 : fnOk Try.prog ac78 rv78 Try.f78 = true := by kernel_rfl

def ac79_r18 : AC :=
 (.seq (.seq (.reg [0, 87, 2, 3, 7] [
 ⟨some 74, none, .ld true 5 (.t 2)⟩, ⟨some 75, none, .mv (.t 7)⟩, ⟨some 76, none, .cal 61 [(.t 74), (.t 75)]⟩, ⟨some 73, none, .mv (.t 76)⟩, ⟨some 77, none, .ext (.t 73) 0⟩, ⟨some 78, none, .ext (.t 73) 1⟩, ⟨some 8, none, .alc [.sc (.int .i64 0), .sc (.int .i64 0), .sc (.int .i64 0), .sc (.int .i64 0)]⟩, ⟨none, none, .sto 4 (.t 8) (.t 77)⟩, ⟨some 9, none, .mv (.t 78)⟩])
 (.seq (.reg [0, 87, 3, 7, 8, 9] [
 ⟨some 79, none, .mv (.t 9)⟩, ⟨some 80, none, .cmp .neq .i64 (.t 79) (.c (.sc (.int .i64 0)))⟩, ⟨some 81, none, .mv (.t 80)⟩, ⟨some 82, some (81, false), .ld true 4 (.t 8)⟩, ⟨some 83, some (81, false), .ld true 4 (.t 3)⟩, ⟨some 84, some (81, false), .eqa true 4 (.t 82) (.t 83)⟩, ⟨some 85, none, .pick (.t 81) (.c (.sc (.bool true))) (.t 84)⟩])
 (.cut [0, 87, 7, 85] (.cond (.t 85)
 (.seq (.reg [0, 87] [
 ⟨some 4, none, .mv (.c (.sc (.int .i64 0)))⟩, ⟨some 5, none, .mv (.c (.sc (.int .i64 1)))⟩])
 .ret)
 .skip))))
 (.seq (.reg [0, 87, 7] [
 ⟨some 86, none, .mv (.t 7)⟩, ⟨some 4, none, .mv (.t 86)⟩, ⟨some 5, none, .mv (.c (.sc (.int .i64 0)))⟩])
 .ret))
def ac79 : AC :=
 (.seq (.reg [0, 87, 0, 1] [
 ⟨some 2, none, .box (.t 0)⟩, ⟨some 3, none, .box (.t 1)⟩, ⟨some 4, none, .mv (.c (.sc (.int .i64 0)))⟩, ⟨some 5, none, .mv (.c (.sc (.int .i64 0)))⟩])
 (.seq (.drw [0, 87, 2, 3] [
 ⟨⟨some 10, none, .fa 2 (.t 3)⟩, [], [], true⟩, ⟨⟨some 11, none, .ld false 1 (.t 10)⟩, [], [], true⟩, ⟨⟨some 12, none, .fa 0 (.t 2)⟩, [], [], true⟩, ⟨⟨some 13, none, .ld false 1 (.t 12)⟩, [], [], true⟩, ⟨⟨some 14, none, .ari .mul true .i64 (.t 11) (.t 13)⟩, [], [], true⟩, ⟨⟨some 15, none, .fa 1 (.t 3)⟩, [], [], true⟩, ⟨⟨some 16, none, .ld false 1 (.t 15)⟩, [], [], true⟩, ⟨⟨some 17, none, .ari .add true .i64 (.t 14) (.t 16)⟩, [], [], true⟩, ⟨⟨some 18, none, .ld true 5 (.t 2)⟩, [], [], true⟩, ⟨⟨some 19, none, .cal 78 [(.t 18)]⟩, [], [], true⟩, ⟨⟨some 20, none, .ari .mul true .i64 (.t 17) (.t 19)⟩, [], [], false⟩, ⟨⟨some 6, none, .mv (.t 20)⟩, [], [], false⟩])
 (.seq (.reg [0, 87, 2, 3, 6] [
 ⟨some 7, none, .mv (.c (.sc (.int .i64 (-1))))⟩])
 (.seq (.seq (.reg [0, 87, 2, 3, 6, 7] [
 ⟨some 21, none, .fa 0 (.t 3)⟩, ⟨some 22, none, .ld false 1 (.t 21)⟩])
 (.block 0
 (.seq (.reg [0, 87, 2, 3, 6, 7, 22] [
 ⟨some 24, none, .cmp .eql .i64 (.t 22) (.c (.sc (.int .i64 1)))⟩, ⟨some 23, none, .mv (.t 24)⟩])
 (.cond (.t 23)
 (.reg [0, 87, 2, 3, 6] [
 ⟨some 25, none, .mv (.t 6)⟩, ⟨some 7, none, .mv (.t 25)⟩])
 (.seq (.reg [0, 87, 2, 3, 6, 7, 22] [
 ⟨some 27, none, .cmp .eql .i64 (.t 22) (.c (.sc (.int .i64 2)))⟩, ⟨some 26, none, .mv (.t 27)⟩])
 (.cond (.t 26)
 (.reg [0, 87, 2, 3, 6] [
 ⟨some 28, none, .mv (.t 6)⟩, ⟨some 29, none, .ari .add true .i64 (.t 28) (.c (.sc (.int .i64 1)))⟩, ⟨some 7, none, .mv (.t 29)⟩])
 (.seq (.reg [0, 87, 2, 3, 6, 7, 22] [
 ⟨some 31, none, .cmp .eql .i64 (.t 22) (.c (.sc (.int .i64 3)))⟩, ⟨some 30, none, .mv (.t 31)⟩])
 (.cond (.t 30)
 (.reg [0, 87, 2, 3, 6] [
 ⟨some 32, none, .mv (.t 6)⟩, ⟨some 33, none, .ari .add true .i64 (.t 32) (.c (.sc (.int .i64 2)))⟩, ⟨some 34, none, .fa 3 (.t 3)⟩, ⟨some 35, none, .ld false 1 (.t 34)⟩, ⟨some 36, none, .ari .add true .i64 (.t 33) (.t 35)⟩, ⟨some 7, none, .mv (.t 36)⟩])
 (.seq (.reg [0, 87, 2, 3, 6, 7, 22] [
 ⟨some 38, none, .cmp .eql .i64 (.t 22) (.c (.sc (.int .i64 4)))⟩, ⟨some 37, none, .mv (.t 38)⟩])
 (.cond (.t 37)
 (.reg [0, 87, 2, 3, 6] [
 ⟨some 39, none, .mv (.t 6)⟩, ⟨some 40, none, .ari .add true .i64 (.t 39) (.c (.sc (.int .i64 2)))⟩, ⟨some 41, none, .ari .add true .i64 (.t 40) (.c (.sc (.int .i64 4)))⟩, ⟨some 42, none, .fa 3 (.t 3)⟩, ⟨some 43, none, .ld false 1 (.t 42)⟩, ⟨some 44, none, .ari .add true .i64 (.t 41) (.t 43)⟩, ⟨some 7, none, .mv (.t 44)⟩])
 (.seq (.reg [0, 87, 2, 3, 6, 7, 22] [
 ⟨some 46, none, .cmp .eql .i64 (.t 22) (.c (.sc (.int .i64 5)))⟩, ⟨some 45, none, .mv (.t 46)⟩])
 (.cond (.t 45)
 (.reg [0, 87, 2, 3, 6] [
 ⟨some 47, none, .mv (.t 6)⟩, ⟨some 48, none, .ari .add true .i64 (.t 47) (.c (.sc (.int .i64 2)))⟩, ⟨some 49, none, .ari .add true .i64 (.t 48) (.c (.sc (.int .i64 4)))⟩, ⟨some 50, none, .fa 2 (.t 2)⟩, ⟨some 51, none, .ld false 1 (.t 50)⟩, ⟨some 52, none, .ari .add true .i64 (.t 49) (.t 51)⟩, ⟨some 53, none, .fa 3 (.t 3)⟩, ⟨some 54, none, .ld false 1 (.t 53)⟩, ⟨some 55, none, .ari .add true .i64 (.t 52) (.t 54)⟩, ⟨some 7, none, .mv (.t 55)⟩])
 (.seq (.reg [0, 87, 2, 3, 7, 22] [
 ⟨some 57, none, .cmp .eql .i64 (.t 22) (.c (.sc (.int .i64 6)))⟩, ⟨some 56, none, .mv (.t 57)⟩])
 (.cond (.t 56)
 (.drw [0, 87, 2, 3] [
 ⟨⟨some 58, none, .ld true 5 (.t 2)⟩, [], [], true⟩, ⟨⟨some 59, none, .cal 60 [(.t 58)]⟩, [], [], true⟩, ⟨⟨some 60, none, .fa 3 (.t 3)⟩, [], [], true⟩, ⟨⟨some 61, none, .ld false 1 (.t 60)⟩, [], [], true⟩, ⟨⟨some 62, none, .ari .add true .i64 (.t 59) (.t 61)⟩, [], [], false⟩, ⟨⟨some 7, none, .mv (.t 62)⟩, [], [], false⟩])
 (.seq (.reg [0, 87, 2, 3, 7, 22] [
 ⟨some 64, none, .cmp .eql .i64 (.t 22) (.c (.sc (.int .i64 7)))⟩, ⟨some 63, none, .mv (.t 64)⟩])
 (.cond (.t 63)
 (.drw [0, 87, 2, 3] [
 ⟨⟨some 65, none, .ld true 5 (.t 2)⟩, [], [], true⟩, ⟨⟨some 66, none, .cal 60 [(.t 65)]⟩, [], [], true⟩, ⟨⟨some 67, none, .fa 3 (.t 2)⟩, [], [], true⟩, ⟨⟨some 68, none, .ld false 1 (.t 67)⟩, [], [], true⟩, ⟨⟨some 69, none, .ari .add true .i64 (.t 66) (.t 68)⟩, [], [], true⟩, ⟨⟨some 70, none, .fa 3 (.t 3)⟩, [], [], true⟩, ⟨⟨some 71, none, .ld false 1 (.t 70)⟩, [], [], true⟩, ⟨⟨some 72, none, .ari .add true .i64 (.t 69) (.t 71)⟩, [], [], false⟩, ⟨⟨some 7, none, .mv (.t 72)⟩, [], [], false⟩])
 .skip))))))))))))))))
 ac79_r18))))
def rv79 : List RV := [.tmp 4, .tmp 5]
theorem ok79 : fnOk Try.prog ac79 rv79 Try.f79 = true := by kernel_rfl

def ac62_200 : AC :=
 (.seq (.reg [200, 21, 200, 201, 202] [
 ⟨some 207, none, .mv (.t 200)⟩, ⟨some 208, none, .nck (.t 207)⟩, ⟨some 209, none, .fa 0 (.t 208)⟩, ⟨some 210, none, .fa 2 (.t 209)⟩, ⟨some 211, none, .ld false 1 (.t 210)⟩, ⟨some 212, none, .mv (.c (.sc (.int .i64 0)))⟩])
 (.block 0
 (.loop [200, 21, 200, 201, 202, 211, 212]
 (.seq (.reg [200, 21, 200, 201, 202, 211, 212] [
 ⟨some 213, none, .cmp .lss .i64 (.t 212) (.t 211)⟩])
 (.seq (.cond (.t 213)
 .skip
 (.exit 0))
 (.seq (.block 1
 (.seq (.reg [200, 21, 200, 201, 202, 211, 212] [
 ⟨some 214, none, .mv (.t 212)⟩, ⟨some 206, none, .mv (.t 214)⟩])
 (.reg [200, 21, 200, 201, 202, 206, 211, 212] [
 ⟨some 215, none, .mv (.t 200)⟩, ⟨some 216, none, .mv (.t 201)⟩, ⟨some 217, none, .mv (.t 202)⟩, ⟨some 218, none, .mv (.t 206)⟩, ⟨some 219, none, .clm 66 [(.t 215), (.t 216), (.t 217), (.t 218)]⟩])))
 (.reg [200, 21, 200, 201, 202, 211, 212] [
 ⟨some 220, none, .ari .add true .i64 (.t 212) (.c (.sc (.int .i64 1)))⟩, ⟨some 212, none, .mv (.t 220)⟩])))))))
def rv62_200 : List RV := []
theorem ok62_200 : fnOkK Try.prog 200 ac62_200 rv62_200 Try.f62 = true := by kernel_rfl

def ac63_400 : AC :=
 (.seq (.reg [400, 37, 400, 401, 402, 403, 404] [
 ⟨some 413, none, .mv (.t 400)⟩, ⟨some 414, none, .nck (.t 413)⟩, ⟨some 415, none, .fa 0 (.t 414)⟩, ⟨some 416, none, .ld true 5 (.t 415)⟩, ⟨some 417, none, .mv (.t 401)⟩, ⟨some 418, none, .mv (.t 402)⟩, ⟨some 419, none, .mv (.t 403)⟩, ⟨some 420, none, .mv (.t 404)⟩, ⟨some 421, none, .bld [.sc (.int .i64 0), .sc (.int .i64 0), .sc (.int .i64 0), .sc (.int .i64 0)] [(0, 1, (.t 417)), (1, 1, (.t 418)), (2, 1, (.t 419)), (3, 1, (.t 420))]⟩, ⟨some 422, none, .cal 79 [(.t 416), (.t 421)]⟩, ⟨some 412, none, .mv (.t 422)⟩, ⟨some 423, none, .ext (.t 412) 0⟩, ⟨some 424, none, .ext (.t 412) 1⟩, ⟨some 410, none, .mv (.t 423)⟩, ⟨some 411, none, .mv (.t 424)⟩])
 (.seq (.reg [400, 37, 400, 410, 411] [
 ⟨some 425, none, .mv (.t 411)⟩, ⟨some 426, none, .cmp .eql .i64 (.t 425) (.c (.sc (.int .i64 0)))⟩])
 (.cond (.t 426)
 (.reg [400, 37, 400, 410] [
 ⟨some 427, none, .mv (.t 400)⟩, ⟨some 428, none, .mv (.t 400)⟩, ⟨some 429, none, .nck (.t 428)⟩, ⟨some 430, none, .fa 5 (.t 429)⟩, ⟨some 431, none, .ld false 1 (.t 430)⟩, ⟨some 432, none, .mv (.t 410)⟩, ⟨some 433, none, .bsl 1 3 [.sc (.int .i64 0)] 1 [(0, (.t 432))]⟩, ⟨some 434, none, .app 1 3 8 (.t 431) (.t 433)⟩, ⟨some 435, none, .nck (.t 427)⟩, ⟨some 436, none, .fa 5 (.t 435)⟩, ⟨none, none, .sto 1 (.t 436) (.t 434)⟩])
 .skip)))
def rv63_400 : List RV := []
theorem ok63_400 : fnOkK Try.prog 400 ac63_400 rv63_400 Try.f63 = true := by kernel_rfl

def ac64_100 : AC :=
 (.seq (.reg [100, 39, 100, 101, 102] [
 ⟨some 103, none, .box (.t 100)⟩, ⟨some 104, none, .box (.t 101)⟩])
 (.seq (.reg [100, 39, 102, 103, 104] [
 ⟨some 108, none, .mv (.t 102)⟩, ⟨some 109, none, .fa 1 (.t 104)⟩, ⟨some 110, none, .ld false 1 (.t 109)⟩, ⟨some 111, none, .fa 2 (.t 104)⟩, ⟨some 112, none, .ld false 1 (.t 111)⟩, ⟨some 113, none, .clv (.t 108) [(.t 110), (.t 112)]⟩])
 (.seq (.drw [100, 39, 102, 103, 104] [
 ⟨⟨some 114, none, .fa 1 (.t 104)⟩, [], [], true⟩, ⟨⟨some 115, none, .ld false 1 (.t 114)⟩, [], [], true⟩, ⟨⟨some 116, none, .fa 2 (.t 104)⟩, [], [], true⟩, ⟨⟨some 117, none, .ld false 1 (.t 116)⟩, [], [], true⟩, ⟨⟨some 106, none, .mv (.t 115)⟩, [], [], true⟩, ⟨⟨some 107, none, .mv (.t 117)⟩, [], [], false⟩])
 (.seq (.seq (.reg [100, 39, 102, 103, 104, 106, 107] [
 ⟨some 118, none, .fa 0 (.t 104)⟩, ⟨some 119, none, .ld false 1 (.t 118)⟩, ⟨some 120, none, .cmp .eql .i64 (.t 119) (.c (.sc (.int .i64 4)))⟩])
 (.cond (.t 120)
 (.reg [100, 39, 102, 103, 106, 107] [
 ⟨some 121, none, .mv (.t 106)⟩, ⟨some 122, none, .ari .add true .i64 (.t 121) (.c (.sc (.int .i64 1)))⟩, ⟨some 106, none, .mv (.t 122)⟩])
 (.reg [100, 39, 102, 103, 106, 107] [
 ⟨some 123, none, .mv (.t 107)⟩, ⟨some 124, none, .ari .add true .i64 (.t 123) (.c (.sc (.int .i64 1)))⟩, ⟨some 107, none, .mv (.t 124)⟩])))
 (.seq (.reg [100, 39, 102, 103, 106, 107] [
 ⟨some 125, none, .mv (.t 106)⟩, ⟨some 126, none, .fa 0 (.t 103)⟩, ⟨some 127, none, .ld false 1 (.t 126)⟩, ⟨some 128, none, .cmp .lss .i64 (.t 125) (.t 127)⟩, ⟨some 129, none, .mv (.t 128)⟩, ⟨some 130, some (129, true), .mv (.t 107)⟩, ⟨some 131, some (129, true), .fa 1 (.t 103)⟩, ⟨some 132, some (129, true), .ld false 1 (.t 131)⟩, ⟨some 133, some (129, true), .cmp .lss .i64 (.t 130) (.t 132)⟩, ⟨some 134, none, .pick (.t 129) (.t 133) (.c (.sc (.bool false)))⟩])
 (.cut [100, 39, 102, 106, 107, 134] (.cond (.t 134)
 (.reg [100, 39, 102, 106, 107] [
 ⟨some 135, none, .mv (.t 102)⟩, ⟨some 136, none, .mv (.t 106)⟩, ⟨some 137, none, .mv (.t 107)⟩, ⟨some 138, none, .clv (.t 135) [(.t 136), (.t 137)]⟩])
 .skip)))))))
def rv64_100 : List RV := []
theorem ok64_100 : fnOkK Try.prog 100 ac64_100 rv64_100 Try.f64 = true := by kernel_rfl

def ac65_150 : AC :=
 (.seq (.reg [150, 39, 150, 151, 152, 153, 154] [
 ⟨some 158, none, .ld false 1 (.t 152)⟩, ⟨some 159, none, .mv (.t 150)⟩, ⟨some 160, none, .mv (.t 151)⟩, ⟨some 161, none, .clm 63 [(.t 158), (.c (.sc (.int .i64 1))), (.t 159), (.t 160), (.c (.sc (.int .i64 0)))]⟩])
 (.seq (.reg [150, 39, 150, 151, 152, 153, 154] [
 ⟨some 162, none, .ld false 1 (.t 152)⟩, ⟨some 163, none, .mv (.t 150)⟩, ⟨some 164, none, .mv (.t 151)⟩, ⟨some 165, none, .clm 63 [(.t 162), (.c (.sc (.int .i64 2))), (.t 163), (.t 164), (.c (.sc (.int .i64 0)))]⟩])
 (.seq (.reg [150, 39, 150, 151, 152, 153, 154] [
 ⟨some 166, none, .ld false 1 (.t 152)⟩, ⟨some 167, none, .mv (.t 150)⟩, ⟨some 168, none, .mv (.t 151)⟩, ⟨some 169, none, .fa 3 (.t 153)⟩, ⟨some 170, none, .ld false 1 (.t 169)⟩, ⟨some 171, none, .clm 66 [(.t 166), (.t 167), (.t 168), (.t 170)]⟩])
 (.seq (.reg [150, 39, 150, 151, 152, 154] [
 ⟨some 172, none, .mv (.t 151)⟩, ⟨some 157, none, .mv (.t 172)⟩])
 (.block 0
 (.loop [150, 39, 150, 151, 152, 154, 157]
 (.seq (.seq (.reg [150, 39, 150, 151, 152, 154, 157] [
 ⟨some 173, none, .mv (.t 150)⟩, ⟨some 174, none, .cmp .eql .i64 (.t 173) (.c (.sc (.int .i64 0)))⟩, ⟨some 175, none, .mv (.t 174)⟩, ⟨some 176, some (175, true), .mv (.t 157)⟩, ⟨some 177, some (175, true), .fa 3 (.t 154)⟩, ⟨some 178, some (175, true), .ld false 1 (.t 177)⟩, ⟨some 179, some (175, true), .cmp .lss .i64 (.t 176) (.t 178)⟩, ⟨some 180, none, .pick (.t 175) (.t 179) (.c (.sc (.bool false)))⟩])
 (.cut [150, 39, 150, 151, 152, 154, 157, 180] (.cond (.t 180)
 .skip
 (.exit 0))))
 (.seq (.block 1
 (.reg [150, 39, 150, 151, 152, 154, 157] [
 ⟨some 185, none, .ld false 1 (.t 152)⟩, ⟨some 186, none, .mv (.t 151)⟩, ⟨some 187, none, .mv (.t 157)⟩, ⟨some 188, none, .clm 63 [(.t 185), (.c (.sc (.int .i64 6))), (.c (.sc (.int .i64 (-1)))), (.t 186), (.t 187)]⟩]))
 (.reg [150, 39, 150, 151, 152, 154, 157] [
 ⟨some 181, none, .mv (.t 157)⟩, ⟨some 182, none, .fa 1 (.t 154)⟩, ⟨some 183, none, .ld false 1 (.t 182)⟩, ⟨some 184, none, .ari .add true .i64 (.t 181) (.t 183)⟩, ⟨some 157, none, .mv (.t 184)⟩])))))))))
def rv65_150 : List RV := []
theorem ok65_150 : fnOkK Try.prog 150 ac65_150 rv65_150 Try.f65 = true := by kernel_rfl

def ac66_250 : AC :=
 (.seq (.seq (.reg [250, 54, 250, 251, 252, 253] [
 ⟨some 258, none, .mv (.t 251)⟩, ⟨some 259, none, .cmp .lss .i64 (.t 258) (.c (.sc (.int .i64 0)))⟩, ⟨some 260, none, .mv (.t 259)⟩, ⟨some 261, some (260, false), .mv (.t 251)⟩, ⟨some 262, some (260, false), .mv (.t 250)⟩, ⟨some 263, some (260, false), .nck (.t 262)⟩, ⟨some 264, some (260, false), .fa 0 (.t 263)⟩, ⟨some 265, some (260, false), .fa 0 (.t 264)⟩, ⟨some 266, some (260, false), .ld false 1 (.t 265)⟩, ⟨some 267, some (260, false), .cmp .geq .i64 (.t 261) (.t 266)⟩, ⟨some 268, none, .pick (.t 260) (.c (.sc (.bool true))) (.t 267)⟩, ⟨some 269, none, .mv (.t 268)⟩, ⟨some 270, some (269, false), .mv (.t 252)⟩, ⟨some 271, some (269, false), .cmp .lss .i64 (.t 270) (.c (.sc (.int .i64 0)))⟩, ⟨some 272, none, .pick (.t 269) (.c (.sc (.bool true))) (.t 271)⟩, ⟨some 273, none, .mv (.t 272)⟩, ⟨some 274, some (273, false), .mv (.t 252)⟩, ⟨some 275, some (273, false), .mv (.t 250)⟩, ⟨some 276, some (273, false), .nck (.t 275)⟩, ⟨some 277, some (273, false), .fa 0 (.t 276)⟩, ⟨some 278, some (273, false), .fa 1 (.t 277)⟩, ⟨some 279, some (273, false), .ld false 1 (.t 278)⟩, ⟨some 280, some (273, false), .cmp .geq .i64 (.t 274) (.t 279)⟩, ⟨some 281, none, .pick (.t 273) (.c (.sc (.bool true))) (.t 280)⟩])
 (.cut [250, 54, 250, 251, 252, 253, 281] (.cond (.t 281)
 .ret
 .skip)))
 (.seq (.reg [250, 54, 250, 251, 252, 253] [
 ⟨some 282, none, .mv (.t 250)⟩, ⟨some 283, none, .mv (.t 251)⟩, ⟨some 284, none, .mv (.t 252)⟩, ⟨some 285, none, .mv (.t 253)⟩, ⟨some 286, none, .clm 63 [(.t 282), (.c (.sc (.int .i64 4))), (.t 283), (.t 284), (.t 285)]⟩])
 (.seq (.reg [250, 54, 250, 251, 252, 253] [
 ⟨some 287, none, .mv (.t 250)⟩, ⟨some 288, none, .mv (.t 251)⟩, ⟨some 289, none, .mv (.t 252)⟩, ⟨some 290, none, .mv (.t 253)⟩, ⟨some 291, none, .clm 63 [(.t 287), (.c (.sc (.int .i64 5))), (.t 288), (.t 289), (.t 290)]⟩])
 (.seq (.reg [250, 54, 250, 251, 252, 253] [
 ⟨some 292, none, .mv (.t 250)⟩, ⟨some 293, none, .mv (.t 251)⟩, ⟨some 294, none, .ari .sub true .i64 (.t 293) (.c (.sc (.int .i64 1)))⟩, ⟨some 295, none, .mv (.t 252)⟩, ⟨some 296, none, .mv (.t 253)⟩, ⟨some 297, none, .clm 63 [(.t 292), (.c (.sc (.int .i64 4))), (.t 294), (.t 295), (.t 296)]⟩])
 (.reg [250, 54, 250, 251, 252, 253] [
 ⟨some 298, none, .mv (.t 250)⟩, ⟨some 299, none, .mv (.t 251)⟩, ⟨some 300, none, .mv (.t 252)⟩, ⟨some 301, none, .ari .sub true .i64 (.t 300) (.c (.sc (.int .i64 1)))⟩, ⟨some 302, none, .mv (.t 253)⟩, ⟨some 303, none, .clm 63 [(.t 298), (.c (.sc (.int .i64 5))), (.t 299), (.t 301), (.t 302)]⟩])))))
def rv66_250 : List RV := []
theorem ok66_250 : fnOkK Try.prog 250 ac66_250 rv66_250 Try.f66 = true := by kernel_rfl

def ac67_100 : AC :=
 (.seq (.reg [100, 24, 100, 101] [
 ⟨some 103, none, .box (.t 101)⟩, ⟨some 104, none, .mv (.c (.nil))⟩])
 (.seq (.reg [100, 24, 100, 103] [
 ⟨some 105, none, .mv (.t 100)⟩, ⟨some 106, none, .nck (.t 105)⟩, ⟨some 107, none, .fa 5 (.t 106)⟩, ⟨some 108, none, .ld false 1 (.t 107)⟩, ⟨some 109, none, .clm 71 [(.t 108)]⟩])
 (.seq (.reg [100, 24, 100, 103] [
 ⟨some 110, none, .mv (.t 100)⟩, ⟨some 111, none, .mv (.t 100)⟩, ⟨some 112, none, .nck (.t 111)⟩, ⟨some 113, none, .fa 5 (.t 112)⟩, ⟨some 114, none, .ld false 1 (.t 113)⟩, ⟨some 115, none, .clm 72 [(.t 114)]⟩, ⟨some 116, none, .nck (.t 110)⟩, ⟨some 117, none, .fa 5 (.t 116)⟩, ⟨none, none, .sto 1 (.t 117) (.t 115)⟩])
 (.seq (.reg [100, 24, 100, 103] [
 ⟨some 118, none, .mv (.t 100)⟩, ⟨some 119, none, .nck (.t 118)⟩, ⟨some 120, none, .fa 5 (.t 119)⟩, ⟨some 121, none, .ld false 1 (.t 120)⟩, ⟨some 122, none, .mkf 81 [(.t 103)]⟩, ⟨some 123, none, .clm 80 [(.t 121), (.t 122)]⟩, ⟨some 104, none, .mv (.t 123)⟩])
 .ret))))
def rv67_100 : List RV := [.tmp 104]
theorem ok67_100 : fnOkK Try.prog 100 ac67_100 rv67_100 Try.f67 = true := by kernel_rfl

def ac80_150 : AC :=
 (.seq (.reg [150, 42, 150, 151] [
 ⟨some 154, none, .mv (.c (.nil))⟩])
 (.seq (.reg [150, 42, 150, 151] [
 ⟨some 158, none, .mv (.t 150)⟩, ⟨some 159, none, .mv (.t 151)⟩, ⟨some 160, none, .cal 87 [(.t 158), (.t 159)]⟩, ⟨some 155, none, .mv (.t 160)⟩])
 (.seq (.seq (.reg [150, 42, 150, 151, 155] [
 ⟨some 161, none, .mv (.t 155)⟩, ⟨some 162, none, .cmp .eql .i64 (.t 161) (.c (.sc (.int .i64 (-1))))⟩])
 (.cond (.t 162)
 (.seq (.reg [150, 42, 150] [
 ⟨some 163, none, .mv (.t 150)⟩, ⟨some 154, none, .mv (.t 163)⟩])
 .ret)
 .skip))
 (.seq (.seq (.reg [150, 42, 150, 151, 155] [
 ⟨some 164, none, .mv (.t 155)⟩, ⟨some 165, none, .ari .add true .i64 (.t 164) (.c (.sc (.int .i64 1)))⟩, ⟨some 156, none, .mv (.t 165)⟩])
 (.block 0
 (.loop [150, 42, 150, 151, 155, 156]
 (.seq (.seq (.reg [150, 42, 150, 151, 155, 156] [
 ⟨some 166, none, .mv (.t 156)⟩, ⟨some 167, none, .mv (.t 150)⟩, ⟨some 168, none, .len (.t 167)⟩, ⟨some 169, none, .cmp .lss .i64 (.t 166) (.t 168)⟩])
 (.cond (.t 169)
 .skip
 (.exit 0)))
 (.seq (.block 1
 (.seq (.reg [150, 42, 150, 151, 155, 156] [
 ⟨some 172, none, .mv (.t 150)⟩, ⟨some 173, none, .mv (.t 156)⟩, ⟨some 174, none, .ixs 1 (.t 172) (.t 173)⟩, ⟨some 175, none, .ld false 1 (.t 174)⟩, ⟨some 157, none, .mv (.t 175)⟩])
 (.seq (.reg [150, 42, 150, 151, 155, 156, 157] [
 ⟨some 176, none, .mv (.t 151)⟩, ⟨some 177, none, .mv (.t 157)⟩, ⟨some 178, none, .clv (.t 176) [(.t 177)]⟩, ⟨some 179, none, .not (.t 178)⟩])
 (.cond (.t 179)
 (.seq (.reg [150, 42, 150, 151, 155, 156, 157] [
 ⟨some 180, none, .mv (.t 150)⟩, ⟨some 181, none, .mv (.t 155)⟩, ⟨some 182, none, .mv (.t 157)⟩, ⟨some 183, none, .ixs 1 (.t 180) (.t 181)⟩, ⟨none, none, .sto 1 (.t 183) (.t 182)⟩])
 (.reg [150, 42, 150, 151, 155, 156] [
 ⟨some 184, none, .mv (.t 155)⟩, ⟨some 185, none, .ari .add true .i64 (.t 184) (.c (.sc (.int .i64 1)))⟩, ⟨some 155, none, .mv (.t 185)⟩]))
 .skip))))
 (.reg [150, 42, 150, 151, 155, 156] [
 ⟨some 170, none, .mv (.t 156)⟩, ⟨some 171, none, .ari .add true .i64 (.t 170) (.c (.sc (.int .i64 1)))⟩, ⟨some 156, none, .mv (.t 171)⟩]))))))
 (.seq (.reg [150, 42, 150, 155] [
 ⟨some 186, none, .mv (.t 150)⟩, ⟨some 187, none, .mv (.t 155)⟩, ⟨some 188, none, .slc 1 (.t 186) (some (.t 187)) none⟩, ⟨none, none, .xo (.clr 1 [.sc (.int .i64 0)]) [(.t 188)]⟩])
 (.seq (.reg [150, 42, 150, 155] [
 ⟨some 189, none, .mv (.t 150)⟩, ⟨some 190, none, .mv (.t 155)⟩, ⟨some 191, none, .slc 1 (.t 189) none (some (.t 190))⟩, ⟨some 154, none, .mv (.t 191)⟩])
 .ret))))))
def rv80_150 : List RV := [.tmp 154]
theorem ok80_150 : fnOkK Try.prog 150 ac80_150 rv80_150 Try.f80 = true := by kernel_rfl

def ac81 : AC :=
 (.seq (.reg [0, 7, 0, 1] [
 ⟨some 3, none, .mv (.c (.sc (.bool false)))⟩])
 (.seq (.reg [0, 7, 0, 1] [
 ⟨some 4, none, .mv (.t 0)⟩, ⟨some 5, none, .ld false 1 (.t 1)⟩, ⟨some 6, none, .cmp .eql .i64 (.t 4) (.t 5)⟩, ⟨some 3, none, .mv (.t 6)⟩])
 .ret))
def rv81 : List RV := [.tmp 3]
theorem ok81 : fnOk Try.prog ac81 rv81 Try.f81 = true := by kernel_rfl

def ac87 : AC :=
 (.seq (.reg [0, 19, 0, 1] [
 ⟨some 4, none, .mv (.c (.sc (.int .i64 0)))⟩])
 (.seq (.seq (.reg [0, 19, 0, 1] [
 ⟨some 6, none, .mv (.t 0)⟩, ⟨some 7, none, .len (.t 6)⟩, ⟨some 8, none, .mv (.c (.sc (.int .i64 0)))⟩])
 (.block 0
 (.loop [0, 19, 0, 1, 7, 8]
 (.seq (.reg [0, 19, 0, 1, 7, 8] [
 ⟨some 9, none, .cmp .lss .i64 (.t 8) (.t 7)⟩])
 (.seq (.cond (.t 9)
 .skip
 (.exit 0))
 (.seq (.block 1
 (.seq (.reg [0, 19, 0, 1, 7, 8] [
 ⟨some 10, none, .mv (.t 8)⟩, ⟨some 5, none, .mv (.t 10)⟩])
 (.seq (.reg [0, 19, 0, 1, 5, 7, 8] [
 ⟨some 11, none, .mv (.t 1)⟩, ⟨some 12, none, .mv (.t 0)⟩, ⟨some 13, none, .mv (.t 5)⟩, ⟨some 14, none, .ixs 1 (.t 12) (.t 13)⟩, ⟨some 15, none, .ld false 1 (.t 14)⟩, ⟨some 16, none, .clv (.t 11) [(.t 15)]⟩])
 (.cond (.t 16)
 (.seq (.reg [0, 19, 5] [
 ⟨some 17, none, .mv (.t 5)⟩, ⟨some 4, none, .mv (.t 17)⟩])
 .ret)
 .skip))))
 (.reg [0, 19, 0, 1, 7, 8] [
 ⟨some 18, none, .ari .add true .i64 (.t 8) (.c (.sc (.int .i64 1)))⟩, ⟨some 8, none, .mv (.t 18)⟩])))))))
 (.seq (.reg [0, 19] [
 ⟨some 4, none, .mv (.c (.sc (.int .i64 (-1))))⟩])
 .ret)))
def rv87 : List RV := [.tmp 4]
theorem ok87 : fnOk Try.prog ac87 rv87 Try.f87 = true := by kernel_rfl

def ac22 : AC :=
 (.seq (.reg [0, 15, 0] [
 ⟨some 1, none, .box (.t 0)⟩, ⟨some 2, none, .mv (.c (.sc (.int .i64 0)))⟩])
 (.seq (.drw [0, 15, 1] [
 ⟨⟨some 3, none, .fa 0 (.t 1)⟩, [], [], true⟩, ⟨⟨some 4, none, .ld false 1 (.t 3)⟩, [], [], true⟩, ⟨⟨some 5, none, .fa 1 (.t 1)⟩, [], [], true⟩, ⟨⟨some 6, none, .ld false 1 (.t 5)⟩, [], [], true⟩, ⟨⟨some 7, none, .ari .mul true .i64 (.t 4) (.t 6)⟩, [], [], true⟩, ⟨⟨some 8, none, .ld true 5 (.t 1)⟩, [], [], true⟩, ⟨⟨some 9, none, .cal 45 [(.t 8)]⟩, [], [], true⟩, ⟨⟨some 10, none, .ari .mul true .i64 (.t 7) (.t 9)⟩, [], [], true⟩, ⟨⟨some 11, none, .fa 3 (.t 1)⟩, [], [], true⟩, ⟨⟨some 12, none, .ld false 1 (.t 11)⟩, [], [], true⟩, ⟨⟨some 13, none, .ari .mul true .i64 (.c (.sc (.int .i64 2))) (.t 12)⟩, [], [], true⟩, ⟨⟨some 14, none, .ari .add true .i64 (.t 10) (.t 13)⟩, [], [], false⟩, ⟨⟨some 2, none, .mv (.t 14)⟩, [], [], false⟩])
 .ret))
def rv22 : List RV := [.tmp 2]
theorem ok22 : fnOk Try.prog ac22 rv22 Try.f22 = true := by kernel_rfl

def ac45 : AC :=
 (.seq (.reg [0, 7, 0] [
 ⟨some 1, none, .box (.t 0)⟩, ⟨some 2, none, .mv (.c (.sc (.int .i64 0)))⟩])
 (.seq (.reg [0, 7, 1] [
 ⟨some 3, none, .fa 2 (.t 1)⟩, ⟨some 4, none, .ld false 1 (.t 3)⟩, ⟨some 5, none, .ari .mul true .i64 (.c (.sc (.int .i64 2))) (.t 4)⟩, ⟨some 6, none, .ari .add true .i64 (.c (.sc (.int .i64 6))) (.t 5)⟩, ⟨some 2, none, .mv (.t 6)⟩])
 .ret))
def rv45 : List RV := [.tmp 2]
theorem ok45 : fnOk Try.prog ac45 rv45 Try.f45 = true := by kernel_rfl

def ac50 : AC :=
 (.seq (.reg [0, 113, 0, 1] [
 ⟨some 2, none, .box (.t 0)⟩, ⟨some 4, none, .alc [.sc (.int .i64 0), .sc (.int .i64 0), .sc (.int .i64 0), .sc (.int .i64 0), .sc (.int .i64 0)]⟩])
 (.seq (.seq (.reg [0, 113, 1, 2, 4] [
 ⟨some 11, none, .mv (.t 1)⟩, ⟨some 12, none, .cmp .lss .i64 (.t 11) (.c (.sc (.int .i64 0)))⟩, ⟨some 13, none, .mv (.t 12)⟩, ⟨some 14, some (13, false), .mv (.t 1)⟩, ⟨some 15, some (13, false), .ld true 5 (.t 2)⟩, ⟨some 16, some (13, false), .cal 22 [(.t 15)]⟩, ⟨some 17, some (13, false), .cmp .geq .i64 (.t 14) (.t 16)⟩, ⟨some 18, none, .pick (.t 13) (.c (.sc (.bool true))) (.t 17)⟩])
 (.cut [0, 113, 1, 2, 4, 18] (.cond (.t 18)
 (.seq (.reg [0, 113, 4] [
 ⟨some 19, none, .bld [.sc (.int .i64 0), .sc (.int .i64 0), .sc (.int .i64 0), .sc (.int .i64 0), .sc (.int .i64 0)] [(4, 1, (.c (.sc (.int .i64 1))))]⟩, ⟨none, none, .sto 5 (.t 4) (.t 19)⟩])
 .ret)
 .skip)))
 (.seq (.drw [0, 113, 1, 2, 4] [
 ⟨⟨some 20, none, .fa 0 (.t 2)⟩, [], [], true⟩, ⟨⟨some 21, none, .ld false 1 (.t 20)⟩, [], [], true⟩, ⟨⟨some 22, none, .fa 1 (.t 2)⟩, [], [], true⟩, ⟨⟨some 23, none, .ld false 1 (.t 22)⟩, [], [], true⟩, ⟨⟨some 24, none, .ari .mul true .i64 (.t 21) (.t 23)⟩, [], [], true⟩, ⟨⟨some 25, none, .ld true 5 (.t 2)⟩, [], [], true⟩, ⟨⟨some 26, none, .cal 45 [(.t 25)]⟩, [], [], true⟩, ⟨⟨some 27, none, .ari .mul true .i64 (.t 24) (.t 26)⟩, [], [], false⟩, ⟨⟨some 5, none, .mv (.t 27)⟩, [], [], false⟩])
 (.seq (.seq (.reg [0, 113, 1, 2, 4, 5] [
 ⟨some 28, none, .mv (.t 1)⟩, ⟨some 29, none, .mv (.t 5)⟩, ⟨some 30, none, .fa 3 (.t 2)⟩, ⟨some 31, none, .ld false 1 (.t 30)⟩, ⟨some 32, none, .ari .add true .i64 (.t 29) (.t 31)⟩, ⟨some 33, none, .cmp .geq .i64 (.t 28) (.t 32)⟩])
 (.cond (.t 33)
 (.seq (.reg [0, 113, 1, 2, 4, 5] [
 ⟨some 34, none, .mv (.t 1)⟩, ⟨some 35, none, .mv (.t 5)⟩, ⟨some 36, none, .ari .sub true .i64 (.t 34) (.t 35)⟩, ⟨some 37, none, .fa 3 (.t 2)⟩, ⟨some 38, none, .ld false 1 (.t 37)⟩, ⟨some 39, none, .ari .sub true .i64 (.t 36) (.t 38)⟩, ⟨some 6, none, .mv (.t 39)⟩])
 (.seq (.drw [0, 113, 2, 4, 6] [
 ⟨⟨some 40, none, .fa 0 (.t 2)⟩, [], [], true⟩, ⟨⟨some 41, none, .ld false 1 (.t 40)⟩, [], [], true⟩, ⟨⟨some 42, none, .mv (.t 6)⟩, [], [], true⟩, ⟨⟨some 43, none, .fa 1 (.t 2)⟩, [], [], true⟩, ⟨⟨some 44, none, .ld false 1 (.t 43)⟩, [], [], true⟩, ⟨⟨some 45, none, .dvd .rem true .i64 (.t 42) (.t 44)⟩, [], [], true⟩, ⟨⟨some 46, none, .mv (.t 6)⟩, [], [], true⟩, ⟨⟨some 47, none, .bld [.sc (.int .i64 0), .sc (.int .i64 0), .sc (.int .i64 0), .sc (.int .i64 0)] [(0, 1, (.c (.sc (.int .i64 7)))), (1, 1, (.t 41)), (2, 1, (.t 45)), (3, 1, (.t 46))]⟩, [], [], false⟩, ⟨⟨some 48, none, .bld [.sc (.int .i64 0), .sc (.int .i64 0), .sc (.int .i64 0), .sc (.int .i64 0), .sc (.int .i64 0)] [(0, 4, (.t 47))]⟩, [], [], false⟩, ⟨⟨none, none, .sto 5 (.t 4) (.t 48)⟩, [], [], false⟩])
 .ret))
 .skip))
 (.seq (.seq (.reg [0, 113, 1, 2, 4, 5] [
 ⟨some 49, none, .mv (.t 1)⟩, ⟨some 50, none, .mv (.t 5)⟩, ⟨some 51, none, .cmp .geq .i64 (.t 49) (.t 50)⟩])
 (.cond (.t 51)
 (.seq (.reg [0, 113, 1, 2, 4, 5] [
 ⟨some 52, none, .mv (.t 1)⟩, ⟨some 53, none, .mv (.t 5)⟩, ⟨some 54, none, .ari .sub true .i64 (.t 52) (.t 53)⟩, ⟨some 7, none, .mv (.t 54)⟩])
 (.seq (.reg [0, 113, 2, 4, 7] [
 ⟨some 55, none, .mv (.t 7)⟩, ⟨some 56, none, .fa 1 (.t 2)⟩, ⟨some 57, none, .ld false 1 (.t 56)⟩, ⟨some 58, none, .dvd .rem true .i64 (.t 55) (.t 57)⟩, ⟨some 59, none, .mv (.t 7)⟩, ⟨some 60, none, .bld [.sc (.int .i64 0), .sc (.int .i64 0), .sc (.int .i64 0), .sc (.int .i64 0)] [(0, 1, (.c (.sc (.int .i64 6)))), (1, 1, (.c (.sc (.int .i64 (-1))))), (2, 1, (.t 58)), (3, 1, (.t 59))]⟩, ⟨some 61, none, .bld [.sc (.int .i64 0), .sc (.int .i64 0), .sc (.int .i64 0), .sc (.int .i64 0), .sc (.int .i64 0)] [(0, 4, (.t 60))]⟩, ⟨none, none, .sto 5 (.t 4) (.t 61)⟩])
 .ret))
 .skip))
 (.seq (.drw [0, 113, 1, 2, 4] [
 ⟨⟨some 62, none, .mv (.t 1)⟩, [], [], true⟩, ⟨⟨some 63, none, .ld true 5 (.t 2)⟩, [], [], true⟩, ⟨⟨some 64, none, .cal 45 [(.t 63)]⟩, [], [], true⟩, ⟨⟨some 65, none, .dvd .quo true .i64 (.t 62) (.t 64)⟩, [], [], true⟩, ⟨⟨some 66, none, .mv (.t 1)⟩, [], [], true⟩, ⟨⟨some 67, none, .ld true 5 (.t 2)⟩, [], [], true⟩, ⟨⟨some 68, none, .cal 45 [(.t 67)]⟩, [], [], true⟩, ⟨⟨some 69, none, .dvd .rem true .i64 (.t 66) (.t 68)⟩, [], [], true⟩, ⟨⟨some 8, none, .mv (.t 65)⟩, [], [], true⟩, ⟨⟨some 9, none, .mv (.t 69)⟩, [], [], false⟩])
 (.seq (.drw [0, 113, 2, 4, 8, 9] [
 ⟨⟨some 70, none, .mv (.t 8)⟩, [], [10], true⟩, ⟨⟨some 71, none, .fa 0 (.t 2)⟩, [], [10], true⟩, ⟨⟨some 72, none, .ld false 1 (.t 71)⟩, [], [10], true⟩, ⟨⟨some 73, none, .dvd .rem true .i64 (.t 70) (.t 72)⟩, [], [10], true⟩, ⟨⟨some 74, none, .mv (.t 8)⟩, [], [10], true⟩, ⟨⟨some 75, none, .fa 0 (.t 2)⟩, [], [10], true⟩, ⟨⟨some 76, none, .ld false 1 (.t 75)⟩, [], [10], true⟩, ⟨⟨some 77, none, .dvd .quo true .i64 (.t 74) (.t 76)⟩, [], [10], true⟩, ⟨⟨some 78, none, .bld [.sc (.int .i64 0), .sc (.int .i64 0), .sc (.int .i64 0), .sc (.int .i64 0)] [(1, 1, (.t 73)), (2, 1, (.t 77))]⟩, [], [10], true⟩, ⟨⟨some 10, none, .alc [.sc (.int .i64 0), .sc (.int .i64 0), .sc (.int .i64 0), .sc (.int .i64 0)]⟩, [10], [], true⟩, ⟨⟨none, none, .sto 4 (.t 10) (.t 78)⟩, [], [], false⟩])
 (.seq (.block 0
 (.seq (.reg [0, 113, 2, 4, 9, 10] [
 ⟨some 87, none, .mv (.t 9)⟩, ⟨some 88, none, .cmp .eql .i64 (.t 87) (.c (.sc (.int .i64 0)))⟩, ⟨some 86, none, .mv (.t 88)⟩])
 (.cond (.t 86)
 (.reg [0, 113, 4, 10] [
 ⟨some 89, none, .fa 0 (.t 10)⟩, ⟨none, none, .sto 1 (.t 89) (.c (.sc (.int .i64 1)))⟩])
 (.seq (.reg [0, 113, 2, 4, 9, 10] [
 ⟨some 91, none, .mv (.t 9)⟩, ⟨some 92, none, .cmp .eql .i64 (.t 91) (.c (.sc (.int .i64 1)))⟩, ⟨some 90, none, .mv (.t 92)⟩])
 (.cond (.t 90)
 (.reg [0, 113, 4, 10] [
 ⟨some 93, none, .fa 0 (.t 10)⟩, ⟨none, none, .sto 1 (.t 93) (.c (.sc (.int .i64 2)))⟩])
 (.seq (.reg [0, 113, 2, 4, 9, 10] [
 ⟨some 95, none, .mv (.t 9)⟩, ⟨some 96, none, .cmp .lss .i64 (.t 95) (.c (.sc (.int .i64 6)))⟩, ⟨some 94, none, .mv (.t 96)⟩])
 (.cond (.t 94)
 (.seq (.reg [0, 113, 4, 9, 10] [
 ⟨some 97, none, .fa 0 (.t 10)⟩, ⟨none, none, .sto 1 (.t 97) (.c (.sc (.int .i64 3)))⟩])
 (.reg [0, 113, 4, 9, 10] [
 ⟨some 98, none, .mv (.t 9)⟩, ⟨some 99, none, .ari .sub true .i64 (.t 98) (.c (.sc (.int .i64 2)))⟩, ⟨some 100, none, .fa 3 (.t 10)⟩, ⟨none, none, .sto 1 (.t 100) (.t 99)⟩]))
 (.seq (.reg [0, 113, 2, 4, 9, 10] [
 ⟨some 102, none, .mv (.t 9)⟩, ⟨some 103, none, .fa 2 (.t 2)⟩, ⟨some 104, none, .ld false 1 (.t 103)⟩, ⟨some 105, none, .ari .add true .i64 (.c (.sc (.int .i64 6))) (.t 104)⟩, ⟨some 106, none, .cmp .lss .i64 (.t 102) (.t 105)⟩, ⟨some 101, none, .mv (.t 106)⟩])
 (.cond (.t 101)
 (.seq (.reg [0, 113, 4, 9, 10] [
 ⟨some 107, none, .fa 0 (.t 10)⟩, ⟨none, none, .sto 1 (.t 107) (.c (.sc (.int .i64 4)))⟩])
 (.reg [0, 113, 4, 9, 10] [
 ⟨some 108, none, .mv (.t 9)⟩, ⟨some 109, none, .ari .sub true .i64 (.t 108) (.c (.sc (.int .i64 6)))⟩, ⟨some 110, none, .fa 3 (.t 10)⟩, ⟨none, none, .sto 1 (.t 110) (.t 109)⟩]))
 (.seq (.reg [0, 113, 2, 4, 9, 10] [
 ⟨some 79, none, .fa 0 (.t 10)⟩, ⟨none, none, .sto 1 (.t 79) (.c (.sc (.int .i64 5)))⟩])
 (.reg [0, 113, 2, 4, 9, 10] [
 ⟨some 80, none, .mv (.t 9)⟩, ⟨some 81, none, .ari .sub true .i64 (.t 80) (.c (.sc (.int .i64 6)))⟩, ⟨some 82, none, .fa 2 (.t 2)⟩, ⟨some 83, none, .ld false 1 (.t 82)⟩, ⟨some 84, none, .ari .sub true .i64 (.t 81) (.t 83)⟩, ⟨some 85, none, .fa 3 (.t 10)⟩, ⟨none, none, .sto 1 (.t 85) (.t 84)⟩])))))))))))
 (.seq (.reg [0, 113, 4, 10] [
 ⟨some 111, none, .ld true 4 (.t 10)⟩, ⟨some 112, none, .bld [.sc (.int .i64 0), .sc (.int .i64 0), .sc (.int .i64 0), .sc (.int .i64 0), .sc (.int .i64 0)] [(0, 4, (.t 111))]⟩, ⟨none, none, .sto 5 (.t 4) (.t 112)⟩])
 .ret)))))))))
def rv50 : List RV := [.cell 4 true 5]
theorem ok50 : fnOk Try.prog ac50 rv50 Try.f50 = true := by kernel_rfl

def ac73 : AC :=
 (.seq (.reg [0, 83, 0, 1, 2, 3] [
 ⟨some 4, none, .box (.t 0)⟩, ⟨some 5, none, .box (.t 1)⟩, ⟨some 8, none, .mv (.c (.sc (.bool false)))⟩])
 (.seq (.seq (.reg [0, 83, 2, 3, 4, 5] [
 ⟨some 9, none, .mv (.t 2)⟩, ⟨some 10, none, .cmp .lss .i64 (.t 9) (.c (.sc (.int .i64 0)))⟩, ⟨some 11, none, .mv (.t 10)⟩, ⟨some 12, some (11, false), .mv (.t 2)⟩, ⟨some 13, some (11, false), .fa 0 (.t 4)⟩, ⟨some 14, some (11, false), .ld false 1 (.t 13)⟩, ⟨some 15, some (11, false), .cmp .geq .i64 (.t 12) (.t 14)⟩, ⟨some 16, none, .pick (.t 11) (.c (.sc (.bool true))) (.t 15)⟩, ⟨some 17, none, .mv (.t 16)⟩, ⟨some 18, some (17, false), .mv (.t 3)⟩, ⟨some 19, some (17, false), .cmp .lss .i64 (.t 18) (.c (.sc (.int .i64 0)))⟩, ⟨some 20, none, .pick (.t 17) (.c (.sc (.bool true))) (.t 19)⟩, ⟨some 21, none, .mv (.t 20)⟩, ⟨some 22, some (21, false), .mv (.t 3)⟩, ⟨some 23, some (21, false), .fa 1 (.t 4)⟩, ⟨some 24, some (21, false), .ld false 1 (.t 23)⟩, ⟨some 25, some (21, false), .cmp .geq .i64 (.t 22) (.t 24)⟩, ⟨some 26, none, .pick (.t 21) (.c (.sc (.bool true))) (.t 25)⟩])
 (.cut [0, 83, 2, 3, 5, 26] (.cond (.t 26)
 (.seq (.reg [0, 83] [
 ⟨some 8, none, .mv (.c (.sc (.bool false)))⟩])
 .ret)
 .skip)))
 (.seq (.reg [0, 83, 2, 3, 5] [
 ⟨some 27, none, .fa 0 (.t 5)⟩, ⟨some 28, none, .ld false 1 (.t 27)⟩, ⟨some 29, none, .cmp .eql .i64 (.t 28) (.c (.sc (.int .i64 4)))⟩, ⟨some 30, none, .mv (.t 29)⟩, ⟨some 31, some (30, false), .fa 0 (.t 5)⟩, ⟨some 32, some (30, false), .ld false 1 (.t 31)⟩, ⟨some 33, some (30, false), .cmp .eql .i64 (.t 32) (.c (.sc (.int .i64 5)))⟩, ⟨some 34, none, .pick (.t 30) (.c (.sc (.bool true))) (.t 33)⟩, ⟨some 35, none, .mv (.t 34)⟩, ⟨some 36, some (35, true), .fa 1 (.t 5)⟩, ⟨some 37, some (35, true), .ld false 1 (.t 36)⟩, ⟨some 38, some (35, true), .mv (.t 2)⟩, ⟨some 39, some (35, true), .cmp .eql .i64 (.t 37) (.t 38)⟩, ⟨some 40, none, .pick (.t 35) (.t 39) (.c (.sc (.bool false)))⟩, ⟨some 41, none, .mv (.t 40)⟩, ⟨some 42, some (41, true), .fa 2 (.t 5)⟩, ⟨some 43, some (41, true), .ld false 1 (.t 42)⟩, ⟨some 44, some (41, true), .mv (.t 3)⟩, ⟨some 45, some (41, true), .cmp .eql .i64 (.t 43) (.t 44)⟩, ⟨some 46, none, .pick (.t 41) (.t 45) (.c (.sc (.bool false)))⟩, ⟨some 47, none, .mv (.t 46)⟩, ⟨some 48, some (47, false), .fa 0 (.t 5)⟩, ⟨some 49, some (47, false), .ld false 1 (.t 48)⟩, ⟨some 50, some (47, false), .cmp .eql .i64 (.t 49) (.c (.sc (.int .i64 4)))⟩, ⟨some 51, some (47, false), .mv (.t 50)⟩, ⟨some 52, some (51, true), .fa 1 (.t 5)⟩, ⟨some 53, some (51, true), .ld false 1 (.t 52)⟩, ⟨some 54, some (51, true), .ari .add true .i64 (.t 53) (.c (.sc (.int .i64 1)))⟩, ⟨some 55, some (51, true), .mv (.t 2)⟩, ⟨some 56, some (51, true), .cmp .eql .i64 (.t 54) (.t 55)⟩, ⟨some 57, some (47, false), .pick (.t 51) (.t 56) (.c (.sc (.bool false)))⟩, ⟨some 58, some (47, false), .mv (.t 57)⟩, ⟨some 59, some (58, true), .fa 2 (.t 5)⟩, ⟨some 60, some (58, true), .ld false 1 (.t 59)⟩, ⟨some 61, some (58, true), .mv (.t 3)⟩, ⟨some 62, some (58, true), .cmp .eql .i64 (.t 60) (.t 61)⟩, ⟨some 63, some (47, false), .pick (.t 58) (.t 62) (.c (.sc (.bool false)))⟩, ⟨some 64, none, .pick (.t 47) (.c (.sc (.bool true))) (.t 63)⟩, ⟨some 65, none, .mv (.t 64)⟩, ⟨some 66, some (65, false), .fa 0 (.t 5)⟩, ⟨some 67, some (65, false), .ld false 1 (.t 66)⟩, ⟨some 68, some (65, false), .cmp .eql .i64 (.t 67) (.c (.sc (.int .i64 5)))⟩, ⟨some 69, some (65, false), .mv (.t 68)⟩, ⟨some 70, some (69, true), .fa 1 (.t 5)⟩, ⟨some 71, some (69, true), .ld false 1 (.t 70)⟩, ⟨some 72, some (69, true), .mv (.t 2)⟩, ⟨some 73, some (69, true), .cmp .eql .i64 (.t 71) (.t 72)⟩, ⟨some 74, some (65, false), .pick (.t 69) (.t 73) (.c (.sc (.bool false)))⟩, ⟨some 75, some (65, false), .mv (.t 74)⟩, ⟨some 76, some (75, true), .fa 2 (.t 5)⟩, ⟨some 77, some (75, true), .ld false 1 (.t 76)⟩, ⟨some 78, some (75, true), .ari .add true .i64 (.t 77) (.c (.sc (.int .i64 1)))⟩, ⟨some 79, some (75, true), .mv (.t 3)⟩, ⟨some 80, some (75, true), .cmp .eql .i64 (.t 78) (.t 79)⟩, ⟨some 81, some (65, false), .pick (.t 75) (.t 80) (.c (.sc (.bool false)))⟩, ⟨some 82, none, .pick (.t 65) (.c (.sc (.bool true))) (.t 81)⟩, ⟨some 8, none, .mv (.t 82)⟩])
 .ret)))
def rv73 : List RV := [.tmp 8]
theorem ok73 : fnOk Try.prog ac73 rv73 Try.f73 = true := by kernel_rfl

def ac74 : AC :=
 (.seq (.reg [0, 11, 0] [
 ⟨some 1, none, .box (.t 0)⟩, ⟨some 2, none, .mv (.c (.sc (.bool false)))⟩])
 (.seq (.reg [0, 11, 1] [
 ⟨some 3, none, .fa 0 (.t 1)⟩, ⟨some 4, none, .ld false 1 (.t 3)⟩, ⟨some 5, none, .cmp .eql .i64 (.t 4) (.c (.sc (.int .i64 4)))⟩, ⟨some 6, none, .mv (.t 5)⟩, ⟨some 7, some (6, false), .fa 0 (.t 1)⟩, ⟨some 8, some (6, false), .ld false 1 (.t 7)⟩, ⟨some 9, some (6, false), .cmp .eql .i64 (.t 8) (.c (.sc (.int .i64 5)))⟩, ⟨some 10, none, .pick (.t 6) (.c (.sc (.bool true))) (.t 9)⟩, ⟨some 2, none, .mv (.t 10)⟩])
 .ret))
def rv74 : List RV := [.tmp 2]
theorem ok74 : fnOk Try.prog ac74 rv74 Try.f74 = true := by kernel_rfl

def ac75 : AC :=
 (.seq (.reg [0, 44, 0, 1, 2] [
 ⟨some 3, none, .box (.t 0)⟩, ⟨some 4, none, .box (.t 1)⟩, ⟨some 5, none, .box (.t 2)⟩, ⟨some 6, none, .mv (.c (.sc (.bool false)))⟩])
 (.seq (.reg [0, 44, 3, 4, 5] [
 ⟨some 7, none, .ld true 5 (.t 3)⟩, ⟨some 8, none, .ld true 4 (.t 5)⟩, ⟨some 9, none, .fa 1 (.t 4)⟩, ⟨some 10, none, .ld false 1 (.t 9)⟩, ⟨some 11, none, .fa 2 (.t 4)⟩, ⟨some 12, none, .ld false 1 (.t 11)⟩, ⟨some 13, none, .cal 73 [(.t 7), (.t 8), (.t 10), (.t 12)]⟩, ⟨some 14, none, .mv (.t 13)⟩, ⟨some 15, some (14, false), .fa 0 (.t 4)⟩, ⟨some 16, some (14, false), .ld false 1 (.t 15)⟩, ⟨some 17, some (14, false), .cmp .eql .i64 (.t 16) (.c (.sc (.int .i64 4)))⟩, ⟨some 18, some (14, false), .mv (.t 17)⟩, ⟨some 19, some (18, true), .ld true 5 (.t 3)⟩, ⟨some 20, some (18, true), .ld true 4 (.t 5)⟩, ⟨some 21, some (18, true), .fa 1 (.t 4)⟩, ⟨some 22, some (18, true), .ld false 1 (.t 21)⟩, ⟨some 23, some (18, true), .ari .add true .i64 (.t 22) (.c (.sc (.int .i64 1)))⟩, ⟨some 24, some (18, true), .fa 2 (.t 4)⟩, ⟨some 25, some (18, true), .ld false 1 (.t 24)⟩, ⟨some 26, some (18, true), .cal 73 [(.t 19), (.t 20), (.t 23), (.t 25)]⟩, ⟨some 27, some (14, false), .pick (.t 18) (.t 26) (.c (.sc (.bool false)))⟩, ⟨some 28, none, .pick (.t 14) (.c (.sc (.bool true))) (.t 27)⟩, ⟨some 29, none, .mv (.t 28)⟩, ⟨some 30, some (29, false), .fa 0 (.t 4)⟩, ⟨some 31, some (29, false), .ld false 1 (.t 30)⟩, ⟨some 32, some (29, false), .cmp .eql .i64 (.t 31) (.c (.sc (.int .i64 5)))⟩, ⟨some 33, some (29, false), .mv (.t 32)⟩, ⟨some 34, some (33, true), .ld true 5 (.t 3)⟩, ⟨some 35, some (33, true), .ld true 4 (.t 5)⟩, ⟨some 36, some (33, true), .fa 1 (.t 4)⟩, ⟨some 37, some (33, true), .ld false 1 (.t 36)⟩, ⟨some 38, some (33, true), .fa 2 (.t 4)⟩, ⟨some 39, some (33, true), .ld false 1 (.t 38)⟩, ⟨some 40, some (33, true), .ari .add true .i64 (.t 39) (.c (.sc (.int .i64 1)))⟩, ⟨some 41, some (33, true), .cal 73 [(.t 34), (.t 35), (.t 37), (.t 40)]⟩, ⟨some 42, some (29, false), .pick (.t 33) (.t 41) (.c (.sc (.bool false)))⟩, ⟨some 43, none, .pick (.t 29) (.c (.sc (.bool true))) (.t 42)⟩, ⟨some 6, none, .mv (.t 43)⟩])
 .ret))
def rv75 : List RV := [.tmp 6]
theorem ok75 : fnOk Try.prog ac75 rv75 Try.f75 = true := by kernel_rfl

def ac31 : AC :=
 (.seq (.reg [0, 36, 0, 1] [
 ⟨some 2, none, .box (.t 0)⟩, ⟨some 4, none, .mv (.c (.nil))⟩])
 (.seq (.reg [0, 36, 1, 2] [
 ⟨some 8, none, .bsl 1 3 [.sc (.int .i64 0)] 0 []⟩, ⟨some 5, none, .mv (.t 8)⟩])
 (.seq (.reg [0, 36, 1, 2, 5] [
 ⟨some 9, none, .ld true 5 (.t 2)⟩, ⟨some 10, none, .mv (.t 1)⟩, ⟨some 11, none, .cal 50 [(.t 9), (.t 10)]⟩, ⟨some 6, none, .alc [.sc (.int .i64 0), .sc (.int .i64 0), .sc (.int .i64 0), .sc (.int .i64 0), .sc (.int .i64 0)]⟩, ⟨none, none, .sto 5 (.t 6) (.t 11)⟩])
 (.seq (.seq (.reg [0, 36, 2, 5, 6] [
 ⟨some 7, none, .mv (.c (.sc (.int .i64 0)))⟩])
 (.block 0
 (.loop [0, 36, 2, 5, 6, 7]
 (.seq (.seq (.reg [0, 36, 2, 5, 6, 7] [
 ⟨some 12, none, .mv (.t 7)⟩, ⟨some 13, none, .ld true 5 (.t 2)⟩, ⟨some 14, none, .cal 22 [(.t 13)]⟩, ⟨some 15, none, .cmp .lss .i64 (.t 12) (.t 14)⟩, ⟨some 16, none, .mv (.t 15)⟩, ⟨some 17, some (16, true), .fa 4 (.t 6)⟩, ⟨some 18, some (16, true), .ld false 1 (.t 17)⟩, ⟨some 19, some (16, true), .cmp .eql .i64 (.t 18) (.c (.sc (.int .i64 0)))⟩, ⟨some 20, none, .pick (.t 16) (.t 19) (.c (.sc (.bool false)))⟩])
 (.cut [0, 36, 2, 5, 6, 7, 20] (.cond (.t 20)
 .skip
 (.exit 0))))
 (.seq (.block 1
 (.seq (.drw [0, 36, 2, 5, 6, 7] [
 ⟨⟨some 23, none, .ld true 5 (.t 2)⟩, [], [], true⟩, ⟨⟨some 24, none, .ld true 5 (.t 2)⟩, [], [], true⟩, ⟨⟨some 25, none, .mv (.t 7)⟩, [], [], true⟩, ⟨⟨some 26, none, .cal 50 [(.t 24), (.t 25)]⟩, [], [], true⟩, ⟨⟨some 27, none, .fl true 0 4 (.t 26)⟩, [], [], true⟩, ⟨⟨some 28, none, .fa 0 (.t 6)⟩, [], [], true⟩, ⟨⟨some 29, none, .ld true 4 (.t 28)⟩, [], [], true⟩, ⟨⟨some 30, none, .cal 51 [(.t 23), (.t 27), (.t 29)]⟩, [], [], false⟩])
 (.cond (.t 30)
 (.reg [0, 36, 2, 5, 6, 7] [
 ⟨some 31, none, .mv (.t 5)⟩, ⟨some 32, none, .mv (.t 7)⟩, ⟨some 33, none, .bsl 1 3 [.sc (.int .i64 0)] 1 [(0, (.t 32))]⟩, ⟨some 34, none, .app 1 3 8 (.t 31) (.t 33)⟩, ⟨some 5, none, .mv (.t 34)⟩])
 .skip)))
 (.reg [0, 36, 2, 5, 6, 7] [
 ⟨some 21, none, .mv (.t 7)⟩, ⟨some 22, none, .ari .add true .i64 (.t 21) (.c (.sc (.int .i64 1)))⟩, ⟨some 7, none, .mv (.t 22)⟩]))))))
 (.seq (.reg [0, 36, 5] [
 ⟨some 35, none, .mv (.t 5)⟩, ⟨some 4, none, .mv (.t 35)⟩])
 .ret)))))
def rv31 : List RV := [.tmp 4]
theorem ok31 : fnOk Try.prog ac31 rv31 Try.f31 = true := by kernel_rfl

def ac39 : AC :=
 (.seq (.reg [0, 9, 0, 1] [
 ⟨some 2, none, .box (.t 0)⟩, ⟨some 4, none, .mv (.c (.sc (.int .i64 0)))⟩])
 (.seq (.reg [0, 9, 1, 2] [
 ⟨some 5, none, .ld true 5 (.t 2)⟩, ⟨some 6, none, .mv (.t 1)⟩, ⟨some 7, none, .cal 31 [(.t 5), (.t 6)]⟩, ⟨some 8, none, .len (.t 7)⟩, ⟨some 4, none, .mv (.t 8)⟩])
 .ret))
def rv39 : List RV := [.tmp 4]
theorem ok39 : fnOk Try.prog ac39 rv39 Try.f39 = true := by kernel_rfl

def ac49 : AC :=
 (.seq (.reg [0, 37, 0, 1] [
 ⟨some 4, none, .mv (.c (.nil))⟩])
 (.seq (.reg [0, 37, 0, 1] [
 ⟨some 8, none, .bsl 1 3 [.sc (.int .i64 0)] 0 []⟩, ⟨some 5, none, .mv (.t 8)⟩])
 (.seq (.seq (.reg [0, 37, 0, 1, 5] [
 ⟨some 6, none, .mv (.c (.sc (.int .i64 0)))⟩])
 (.block 0
 (.loop [0, 37, 0, 1, 5, 6]
 (.seq (.seq (.reg [0, 37, 0, 1, 5, 6] [
 ⟨some 9, none, .mv (.t 6)⟩, ⟨some 10, none, .mv (.t 0)⟩, ⟨some 11, none, .cmp .lss .i64 (.t 9) (.t 10)⟩])
 (.cond (.t 11)
 .skip
 (.exit 0)))
 (.seq (.block 1
 (.seq (.reg [0, 37, 0, 1, 5, 6] [
 ⟨some 7, none, .mv (.c (.sc (.int .i64 2)))⟩])
 (.seq (.seq (.reg [0, 37, 0, 1, 5, 6, 7] [
 ⟨some 14, none, .mv (.t 6)⟩, ⟨some 15, none, .mv (.t 1)⟩, ⟨some 16, none, .len (.t 15)⟩, ⟨some 17, none, .cmp .lss .i64 (.t 14) (.t 16)⟩, ⟨some 18, none, .mv (.t 17)⟩, ⟨some 19, some (18, true), .mv (.t 1)⟩, ⟨some 20, some (18, true), .mv (.t 6)⟩, ⟨some 21, some (18, true), .ixs 1 (.t 19) (.t 20)⟩, ⟨some 22, some (18, true), .ld false 1 (.t 21)⟩, ⟨some 23, some (18, true), .dvd .rem true .u8 (.t 22) (.c (.sc (.int .u8 8)))⟩, ⟨some 24, some (18, true), .cmp .lss .u8 (.t 23) (.c (.sc (.int .u8 2)))⟩, ⟨some 25, none, .pick (.t 18) (.t 24) (.c (.sc (.bool false)))⟩])
 (.cut [0, 37, 0, 1, 5, 6, 7, 25] (.cond (.t 25)
 (.reg [0, 37, 0, 1, 5, 6] [
 ⟨some 26, none, .mv (.t 1)⟩, ⟨some 27, none, .mv (.t 6)⟩, ⟨some 28, none, .ixs 1 (.t 26) (.t 27)⟩, ⟨some 29, none, .ld false 1 (.t 28)⟩, ⟨some 30, none, .dvd .rem true .u8 (.t 29) (.c (.sc (.int .u8 8)))⟩, ⟨some 31, none, .cnv true .i64 (.t 30)⟩, ⟨some 7, none, .mv (.t 31)⟩])
 .skip)))
 (.reg [0, 37, 0, 1, 5, 6, 7] [
 ⟨some 32, none, .mv (.t 5)⟩, ⟨some 33, none, .mv (.t 7)⟩, ⟨some 34, none, .bsl 1 3 [.sc (.int .i64 0)] 1 [(0, (.t 33))]⟩, ⟨some 35, none, .app 1 3 8 (.t 32) (.t 34)⟩, ⟨some 5, none, .mv (.t 35)⟩]))))
 (.reg [0, 37, 0, 1, 5, 6] [
 ⟨some 12, none, .mv (.t 6)⟩, ⟨some 13, none, .ari .add true .i64 (.t 12) (.c (.sc (.int .i64 1)))⟩, ⟨some 6, none, .mv (.t 13)⟩]))))))
 (.seq (.reg [0, 37, 5] [
 ⟨some 36, none, .mv (.t 5)⟩, ⟨some 4, none, .mv (.t 36)⟩])
 .ret))))
def rv49 : List RV := [.tmp 4]
theorem ok49 : fnOk Try.prog ac49 rv49 Try.f49 = true := by kernel_rfl

def ac30 : AC :=
 (.seq (.reg [0, 30, 0] [
 ⟨some 1, none, .box (.t 0)⟩, ⟨some 2, none, .alc [.sc (.int .i64 0), .sc (.int .i64 0), .sc (.int .i64 0), .sc (.int .i64 0), .nil]⟩])
 (.seq (.reg [0, 30, 1, 2] [
 ⟨some 4, none, .fa 0 (.t 1)⟩, ⟨some 5, none, .ld false 1 (.t 4)⟩, ⟨some 6, none, .dvd .rem true .u8 (.t 5) (.c (.sc (.int .u8 4)))⟩, ⟨some 7, none, .cnv true .i64 (.t 6)⟩, ⟨some 8, none, .ari .add true .i64 (.c (.sc (.int .i64 2))) (.t 7)⟩, ⟨some 9, none, .fa 1 (.t 1)⟩, ⟨some 10, none, .ld false 1 (.t 9)⟩, ⟨some 11, none, .dvd .rem true .u8 (.t 10) (.c (.sc (.int .u8 4)))⟩, ⟨some 12, none, .cnv true .i64 (.t 11)⟩, ⟨some 13, none, .ari .add true .i64 (.c (.sc (.int .i64 2))) (.t 12)⟩, ⟨some 14, none, .fa 2 (.t 1)⟩, ⟨some 15, none, .ld false 1 (.t 14)⟩, ⟨some 16, none, .dvd .rem true .u8 (.t 15) (.c (.sc (.int .u8 3)))⟩, ⟨some 17, none, .cnv true .i64 (.t 16)⟩, ⟨some 18, none, .ari .add true .i64 (.c (.sc (.int .i64 2))) (.t 17)⟩, ⟨some 19, none, .bld [.sc (.int .i64 0), .sc (.int .i64 0), .sc (.int .i64 0), .sc (.int .i64 0), .nil] [(0, 1, (.t 8)), (1, 1, (.t 13)), (2, 1, (.t 18)), (3, 1, (.c (.sc (.int .i64 24))))]⟩, ⟨some 3, none, .alc [.sc (.int .i64 0), .sc (.int .i64 0), .sc (.int .i64 0), .sc (.int .i64 0), .nil]⟩, ⟨none, none, .sto 5 (.t 3) (.t 19)⟩])
 (.seq (.reg [0, 30, 1, 2, 3] [
 ⟨some 20, none, .fa 0 (.t 3)⟩, ⟨some 21, none, .ld false 1 (.t 20)⟩, ⟨some 22, none, .fa 1 (.t 3)⟩, ⟨some 23, none, .ld false 1 (.t 22)⟩, ⟨some 24, none, .ari .mul true .i64 (.t 21) (.t 23)⟩, ⟨some 25, none, .fa 4 (.t 1)⟩, ⟨some 26, none, .ld false 1 (.t 25)⟩, ⟨some 27, none, .cal 49 [(.t 24), (.t 26)]⟩, ⟨some 28, none, .fa 4 (.t 3)⟩, ⟨none, none, .sto 1 (.t 28) (.t 27)⟩])
 (.seq (.reg [0, 30, 2, 3] [
 ⟨some 29, none, .ld true 5 (.t 3)⟩, ⟨none, none, .sto 5 (.t 2) (.t 29)⟩])
 .ret))))
def rv30 : List RV := [.cell 2 true 5]
theorem ok30 : fnOk Try.prog ac30 rv30 Try.f30 = true := by kernel_rfl

def ac41 : AC :=
 (.seq (.reg [0, 15, 0, 1, 2] [
 ⟨some 6, none, .mv (.c (.sc (.bool false)))⟩])
 (.seq (.reg [0, 15, 0, 1, 2] [
 ⟨some 7, none, .mv (.t 1)⟩, ⟨some 8, none, .mv (.t 0)⟩, ⟨some 9, none, .cmp .leq .i64 (.t 7) (.t 8)⟩, ⟨some 10, none, .mv (.t 9)⟩, ⟨some 11, some (10, true), .mv (.t 0)⟩, ⟨some 12, some (10, true), .mv (.t 2)⟩, ⟨some 13, some (10, true), .cmp .leq .i64 (.t 11) (.t 12)⟩, ⟨some 14, none, .pick (.t 10) (.t 13) (.c (.sc (.bool false)))⟩, ⟨some 6, none, .mv (.t 14)⟩])
 .ret))
def rv41 : List RV := [.tmp 6]
theorem ok41 : fnOk Try.prog ac41 rv41 Try.f41 = true := by kernel_rfl

def ac68 : AC :=
 (.seq (.reg [0, 14, 0, 1] [
 ⟨some 4, none, .mv (.c (.sc (.bool false)))⟩])
 (.seq (.seq (.reg [0, 14, 0, 1] [
 ⟨some 5, none, .mv (.t 0)⟩])
 (.block 0
 (.seq (.reg [0, 14, 1, 5] [
 ⟨some 7, none, .cmp .eql .i64 (.t 5) (.c (.sc (.int .i64 0)))⟩, ⟨some 6, none, .mv (.t 7)⟩])
 (.cond (.t 6)
 (.seq (.reg [0, 14, 1] [
 ⟨some 8, none, .mv (.t 1)⟩, ⟨some 9, none, .cmp .eql .i64 (.t 8) (.c (.sc (.int .i64 0)))⟩, ⟨some 4, none, .mv (.t 9)⟩])
 .ret)
 (.seq (.reg [0, 14, 1, 5] [
 ⟨some 11, none, .cmp .eql .i64 (.t 5) (.c (.sc (.int .i64 1)))⟩, ⟨some 10, none, .mv (.t 11)⟩])
 (.cond (.t 10)
 (.seq (.reg [0, 14, 1] [
 ⟨some 12, none, .mv (.t 1)⟩, ⟨some 13, none, .cmp .neq .i64 (.t 12) (.c (.sc (.int .i64 3)))⟩, ⟨some 4, none, .mv (.t 13)⟩])
 .ret)
 .skip))))))
 (.seq (.reg [0, 14] [
 ⟨some 4, none, .mv (.c (.sc (.bool true)))⟩])
 .ret)))
def rv68 : List RV := [.tmp 4]
theorem ok68 : fnOk Try.prog ac68 rv68 Try.f68 = true := by kernel_rfl

def ac18 : AC :=
 (.seq (.reg [0, 87, 0, 1] [
 ⟨some 2, none, .box (.t 0)⟩, ⟨some 3, none, .box (.t 1)⟩, ⟨some 4, none, .mv (.c (.sc (.int .i64 0)))⟩])
 (.seq (.reg [0, 87, 2, 3] [
 ⟨some 10, none, .fa 4 (.t 2)⟩, ⟨some 11, none, .ld false 1 (.t 10)⟩, ⟨some 12, none, .len (.t 11)⟩, ⟨some 5, none, .mv (.t 12)⟩])
 (.seq (.seq (.drw [0, 87, 2, 3, 5] [
 ⟨⟨some 13, none, .fa 0 (.t 3)⟩, [], [], true⟩, ⟨⟨some 14, none, .ld false 1 (.t 13)⟩, [], [], true⟩, ⟨⟨some 15, none, .len (.t 14)⟩, [], [], true⟩, ⟨⟨some 16, none, .ld true 5 (.t 2)⟩, [], [], true⟩, ⟨⟨some 17, none, .cal 40 [(.t 16)]⟩, [], [], true⟩, ⟨⟨some 18, none, .cmp .neq .i64 (.t 15) (.t 17)⟩, [], [], false⟩, ⟨⟨some 19, none, .mv (.t 18)⟩, [], [], false⟩, ⟨⟨some 20, some (19, false), .fa 1 (.t 3)⟩, [], [], true⟩, ⟨⟨some 21, some (19, false), .ld false 1 (.t 20)⟩, [], [], true⟩, ⟨⟨some 22, some (19, false), .len (.t 21)⟩, [], [], true⟩, ⟨⟨some 23, some (19, false), .mv (.t 5)⟩, [], [], true⟩, ⟨⟨some 24, some (19, false), .cmp .neq .i64 (.t 22) (.t 23)⟩, [], [], false⟩, ⟨⟨some 25, none, .pick (.t 19) (.c (.sc (.bool true))) (.t 24)⟩, [], [], false⟩, ⟨⟨some 26, none, .mv (.t 25)⟩, [], [], false⟩, ⟨⟨some 27, some (26, false), .fa 2 (.t 3)⟩, [], [], true⟩, ⟨⟨some 28, some (26, false), .ld false 1 (.t 27)⟩, [], [], true⟩, ⟨⟨some 29, some (26, false), .len (.t 28)⟩, [], [], true⟩, ⟨⟨some 30, some (26, false), .mv (.t 5)⟩, [], [], true⟩, ⟨⟨some 31, some (26, false), .cmp .neq .i64 (.t 29) (.t 30)⟩, [], [], false⟩, ⟨⟨some 32, none, .pick (.t 26) (.c (.sc (.bool true))) (.t 31)⟩, [], [], false⟩, ⟨⟨some 33, none, .mv (.t 32)⟩, [], [], false⟩, ⟨⟨some 34, some (33, false), .fa 3 (.t 3)⟩, [], [], true⟩, ⟨⟨some 35, some (33, false), .ld false 1 (.t 34)⟩, [], [], true⟩, ⟨⟨some 36, some (33, false), .len (.t 35)⟩, [], [], true⟩, ⟨⟨some 37, some (33, false), .mv (.t 5)⟩, [], [], true⟩, ⟨⟨some 38, some (33, false), .cmp .neq .i64 (.t 36) (.t 37)⟩, [], [], false⟩, ⟨⟨some 39, none, .pick (.t 33) (.c (.sc (.bool true))) (.t 38)⟩, [], [], false⟩])
 (.cut [0, 87, 2, 3, 39] (.cond (.t 39)
 (.seq (.reg [0, 87] [
 ⟨some 4, none, .mv (.c (.sc (.int .i64 310)))⟩])
 .ret)
 .skip)))
 (.seq (.seq (.reg [0, 87, 2, 3] [
 ⟨some 40, none, .fa 0 (.t 3)⟩, ⟨some 41, none, .ld false 1 (.t 40)⟩, ⟨some 42, none, .len (.t 41)⟩, ⟨some 43, none, .mv (.c (.sc (.int .i64 0)))⟩])
 (.block 0
 (.loop [0, 87, 2, 3, 41, 42, 43]
 (.seq (.reg [0, 87, 2, 3, 41, 42, 43] [
 ⟨some 44, none, .cmp .lss .i64 (.t 43) (.t 42)⟩])
 (.seq (.cond (.t 44)
 .skip
 (.exit 0))
 (.seq (.block 1
 (.seq (.reg [0, 87, 2, 3, 41, 42, 43] [
 ⟨some 45, none, .mv (.t 43)⟩, ⟨some 46, none, .ixs 1 (.t 41) (.t 43)⟩, ⟨some 47, none, .ld false 1 (.t 46)⟩, ⟨some 6, none, .mv (.t 45)⟩, ⟨some 7, none, .mv (.t 47)⟩])
 (.seq (.reg [0, 87, 2, 3, 6, 7, 41, 42, 43] [
 ⟨some 48, none, .mv (.t 7)⟩, ⟨some 49, none, .cmp .neq .i64 (.t 48) (.c (.sc (.int .i64 0)))⟩, ⟨some 50, none, .mv (.t 49)⟩, ⟨some 51, some (50, true), .mv (.t 7)⟩, ⟨some 52, some (50, true), .ld true 5 (.t 2)⟩, ⟨some 53, some (50, true), .mv (.t 6)⟩, ⟨some 54, some (50, true), .cal 42 [(.t 52), (.t 53)]⟩, ⟨some 55, some (50, true), .len (.t 54)⟩, ⟨some 56, some (50, true), .cal 41 [(.t 51), (.c (.sc (.int .i64 1))), (.t 55)]⟩, ⟨some 57, some (50, true), .not (.t 56)⟩, ⟨some 58, none, .pick (.t 50) (.t 57) (.c (.sc (.bool false)))⟩])
 (.cut [0, 87, 2, 3, 41, 42, 43, 58] (.cond (.t 58)
 (.seq (.reg [0, 87] [
 ⟨some 4, none, .mv (.c (.sc (.int .i64 310)))⟩])
 .ret)
 .skip)))))
 (.reg [0, 87, 2, 3, 41, 42, 43] [
 ⟨some 59, none, .ari .add true .i64 (.t 43) (.c (.sc (.int .i64 1)))⟩, ⟨some 43, none, .mv (.t 59)⟩])))))))
 (.seq (.seq (.reg [0, 87, 2, 3] [
 ⟨some 60, none, .fa 4 (.t 2)⟩, ⟨some 61, none, .ld false 1 (.t 60)⟩, ⟨some 62, none, .len (.t 61)⟩, ⟨some 63, none, .mv (.c (.sc (.int .i64 0)))⟩])
 (.block 2
 (.loop [0, 87, 3, 61, 62, 63]
 (.seq (.reg [0, 87, 3, 61, 62, 63] [
 ⟨some 64, none, .cmp .lss .i64 (.t 63) (.t 62)⟩])
 (.seq (.cond (.t 64)
 .skip
 (.exit 2))
 (.seq (.block 3
 (.seq (.reg [0, 87, 3, 61, 62, 63] [
 ⟨some 65, none, .mv (.t 63)⟩, ⟨some 66, none, .ixs 1 (.t 61) (.t 63)⟩, ⟨some 67, none, .ld false 1 (.t 66)⟩, ⟨some 8, none, .mv (.t 65)⟩, ⟨some 9, none, .mv (.t 67)⟩])
 (.seq (.drw [0, 87, 3, 8, 9, 61, 62, 63] [
 ⟨⟨some 68, none, .mv (.t 9)⟩, [], [], true⟩, ⟨⟨some 69, none, .fa 1 (.t 3)⟩, [], [], true⟩, ⟨⟨some 70, none, .ld false 1 (.t 69)⟩, [], [], true⟩, ⟨⟨some 71, none, .mv (.t 8)⟩, [], [], true⟩, ⟨⟨some 72, none, .ixs 1 (.t 70) (.t 71)⟩, [], [], true⟩, ⟨⟨some 73, none, .ld false 1 (.t 72)⟩, [], [], true⟩, ⟨⟨some 74, none, .fa 2 (.t 3)⟩, [], [], true⟩, ⟨⟨some 75, none, .ld false 1 (.t 74)⟩, [], [], true⟩, ⟨⟨some 76, none, .mv (.t 8)⟩, [], [], true⟩, ⟨⟨some 77, none, .ixs 1 (.t 75) (.t 76)⟩, [], [], true⟩, ⟨⟨some 78, none, .ld false 1 (.t 77)⟩, [], [], true⟩, ⟨⟨some 79, none, .fa 3 (.t 3)⟩, [], [], true⟩, ⟨⟨some 80, none, .ld false 1 (.t 79)⟩, [], [], true⟩, ⟨⟨some 81, none, .mv (.t 8)⟩, [], [], true⟩, ⟨⟨some 82, none, .ixs 1 (.t 80) (.t 81)⟩, [], [], true⟩, ⟨⟨some 83, none, .ld false 1 (.t 82)⟩, [], [], true⟩, ⟨⟨some 84, none, .cal 43 [(.t 68), (.t 73), (.t 78), (.t 83)]⟩, [], [], false⟩, ⟨⟨some 85, none, .not (.t 84)⟩, [], [], false⟩])
 (.cond (.t 85)
 (.seq (.reg [0, 87] [
 ⟨some 4, none, .mv (.c (.sc (.int .i64 310)))⟩])
 .ret)
 .skip))))
 (.reg [0, 87, 3, 61, 62, 63] [
 ⟨some 86, none, .ari .add true .i64 (.t 63) (.c (.sc (.int .i64 1)))⟩, ⟨some 63, none, .mv (.t 86)⟩])))))))
 (.seq (.reg [0, 87] [
 ⟨some 4, none, .mv (.c (.sc (.int .i64 0)))⟩])
 .ret))))))
def rv18 : List RV := [.tmp 4]
theorem ok18 : fnOk Try.prog ac18 rv18 Try.f18 = true := by kernel_rfl

def ac20 : AC :=
 (.seq (.reg [0, 17, 0] [
 ⟨some 1, none, .box (.t 0)⟩, ⟨some 2, none, .alc [.nil, .nil, .nil, .nil]⟩])
 (.seq (.reg [0, 17, 1, 2] [
 ⟨some 4, none, .fa 4 (.t 1)⟩, ⟨some 5, none, .ld false 1 (.t 4)⟩, ⟨some 6, none, .len (.t 5)⟩, ⟨some 3, none, .mv (.t 6)⟩])
 (.seq (.drw [0, 17, 1, 2, 3] [
 ⟨⟨some 7, none, .ld true 5 (.t 1)⟩, [], [11, 13, 15], true⟩, ⟨⟨some 8, none, .cal 40 [(.t 7)]⟩, [], [11, 13, 15], true⟩, ⟨⟨some 9, none, .mks 1 3 8 [.sc (.int .i64 0)] (.t 8) (.t 8)⟩, [9], [11, 13, 15], true⟩, ⟨⟨some 10, none, .mv (.t 3)⟩, [], [9, 13, 15], true⟩, ⟨⟨some 11, none, .mks 1 3 8 [.sc (.int .i64 0)] (.t 10) (.t 10)⟩, [11], [9, 13, 15], true⟩, ⟨⟨some 12, none, .mv (.t 3)⟩, [], [9, 11, 15], true⟩, ⟨⟨some 13, none, .mks 1 3 8 [.sc (.int .i64 0)] (.t 12) (.t 12)⟩, [13], [9, 11, 15], true⟩, ⟨⟨some 14, none, .mv (.t 3)⟩, [], [9, 11, 13], true⟩, ⟨⟨some 15, none, .mks 1 3 8 [.sc (.int .i64 0)] (.t 14) (.t 14)⟩, [15], [9, 11, 13], true⟩, ⟨⟨some 16, none, .bld [.nil, .nil, .nil, .nil] [(0, 1, (.t 9)), (1, 1, (.t 11)), (2, 1, (.t 13)), (3, 1, (.t 15))]⟩, [], [], false⟩, ⟨⟨none, none, .sto 4 (.t 2) (.t 16)⟩, [], [], false⟩])
 .ret)))
def rv20 : List RV := [.cell 2 true 4]
theorem ok20 : fnOk Try.prog ac20 rv20 Try.f20 = true := by kernel_rfl

def ac26 : AC :=
 (.seq (.reg [0, 24, 0, 1] [
 ⟨some 2, none, .box (.t 0)⟩, ⟨some 3, none, .box (.t 1)⟩, ⟨some 4, none, .mv (.c (.nil))⟩])
 (.seq (.reg [0, 24, 3] [
 ⟨some 5, none, .mv (.c (.nil))⟩])
 (.seq (.seq (.reg [0, 24, 3, 5] [
 ⟨some 8, none, .fa 0 (.t 3)⟩, ⟨some 9, none, .ld false 1 (.t 8)⟩, ⟨some 10, none, .len (.t 9)⟩, ⟨some 11, none, .mv (.c (.sc (.int .i64 0)))⟩])
 (.block 0
 (.loop [0, 24, 5, 9, 10, 11]
 (.seq (.reg [0, 24, 5, 9, 10, 11] [
 ⟨some 12, none, .cmp .lss .i64 (.t 11) (.t 10)⟩])
 (.seq (.cond (.t 12)
 .skip
 (.exit 0))
 (.seq (.block 1
 (.seq (.reg [0, 24, 5, 9, 10, 11] [
 ⟨some 13, none, .mv (.t 11)⟩, ⟨some 14, none, .ixs 1 (.t 9) (.t 11)⟩, ⟨some 15, none, .ld false 1 (.t 14)⟩, ⟨some 6, none, .mv (.t 13)⟩, ⟨some 7, none, .mv (.t 15)⟩])
 (.seq (.reg [0, 24, 5, 6, 7, 9, 10, 11] [
 ⟨some 16, none, .mv (.t 7)⟩, ⟨some 17, none, .cmp .neq .i64 (.t 16) (.c (.sc (.int .i64 0)))⟩])
 (.cond (.t 17)
 (.reg [0, 24, 5, 6, 9, 10, 11] [
 ⟨some 18, none, .mv (.t 5)⟩, ⟨some 19, none, .mv (.t 6)⟩, ⟨some 20, none, .bsl 1 3 [.sc (.int .i64 0)] 1 [(0, (.t 19))]⟩, ⟨some 21, none, .app 1 3 8 (.t 18) (.t 20)⟩, ⟨some 5, none, .mv (.t 21)⟩])
 .skip))))
 (.reg [0, 24, 5, 9, 10, 11] [
 ⟨some 22, none, .ari .add true .i64 (.t 11) (.c (.sc (.int .i64 1)))⟩, ⟨some 11, none, .mv (.t 22)⟩])))))))
 (.seq (.reg [0, 24, 5] [
 ⟨some 23, none, .mv (.t 5)⟩, ⟨some 4, none, .mv (.t 23)⟩])
 .ret))))
def rv26 : List RV := [.tmp 4]
theorem ok26 : fnOk Try.prog ac26 rv26 Try.f26 = true := by kernel_rfl

def ac70 : AC :=
 (.seq (.reg [0, 42, 0, 1] [
 ⟨some 4, none, .mv (.c (.nil))⟩])
 (.seq (.reg [0, 42, 0, 1] [
 ⟨some 5, none, .mv (.c (.nil))⟩])
 (.seq (.seq (.reg [0, 42, 0, 1, 5] [
 ⟨some 7, none, .mv (.t 0)⟩, ⟨some 8, none, .len (.t 7)⟩, ⟨some 9, none, .mv (.t 1)⟩, ⟨some 10, none, .len (.t 9)⟩, ⟨some 11, none, .mn true (.t 8) (.t 10)⟩, ⟨some 12, none, .mv (.c (.sc (.int .i64 0)))⟩])
 (.block 0
 (.loop [0, 42, 0, 1, 5, 11, 12]
 (.seq (.reg [0, 42, 0, 1, 5, 11, 12] [
 ⟨some 13, none, .cmp .lss .i64 (.t 12) (.t 11)⟩])
 (.seq (.cond (.t 13)
 .skip
 (.exit 0))
 (.seq (.block 1
 (.seq (.reg [0, 42, 0, 1, 5, 11, 12] [
 ⟨some 14, none, .mv (.t 12)⟩, ⟨some 6, none, .mv (.t 14)⟩])
 (.seq (.drw [0, 42, 0, 1, 5, 6, 11, 12] [
 ⟨⟨some 15, none, .mv (.t 6)⟩, [], [], true⟩, ⟨⟨some 16, none, .mv (.t 0)⟩, [], [], true⟩, ⟨⟨some 17, none, .len (.t 16)⟩, [], [], true⟩, ⟨⟨some 18, none, .cmp .geq .i64 (.t 15) (.t 17)⟩, [], [], false⟩, ⟨⟨some 19, none, .mv (.t 18)⟩, [], [], false⟩, ⟨⟨some 20, some (19, false), .mv (.t 6)⟩, [], [], true⟩, ⟨⟨some 21, some (19, false), .mv (.t 1)⟩, [], [], true⟩, ⟨⟨some 22, some (19, false), .len (.t 21)⟩, [], [], true⟩, ⟨⟨some 23, some (19, false), .cmp .geq .i64 (.t 20) (.t 22)⟩, [], [], false⟩, ⟨⟨some 24, none, .pick (.t 19) (.c (.sc (.bool true))) (.t 23)⟩, [], [], false⟩, ⟨⟨some 25, none, .mv (.t 24)⟩, [], [], false⟩, ⟨⟨some 26, some (25, false), .mv (.t 0)⟩, [], [], true⟩, ⟨⟨some 27, some (25, false), .mv (.t 6)⟩, [], [], true⟩, ⟨⟨some 28, some (25, false), .ixs 1 (.t 26) (.t 27)⟩, [], [], true⟩, ⟨⟨some 29, some (25, false), .ld false 1 (.t 28)⟩, [], [], true⟩, ⟨⟨some 30, some (25, false), .mv (.t 1)⟩, [], [], true⟩, ⟨⟨some 31, some (25, false), .mv (.t 6)⟩, [], [], true⟩, ⟨⟨some 32, some (25, false), .ixs 1 (.t 30) (.t 31)⟩, [], [], true⟩, ⟨⟨some 33, some (25, false), .ld false 1 (.t 32)⟩, [], [], true⟩, ⟨⟨some 34, some (25, false), .cmp .neq .i64 (.t 29) (.t 33)⟩, [], [], false⟩, ⟨⟨some 35, none, .pick (.t 25) (.c (.sc (.bool true))) (.t 34)⟩, [], [], false⟩])
 (.cut [0, 42, 0, 1, 5, 6, 11, 12, 35] (.cond (.t 35)
 (.reg [0, 42, 0, 1, 5, 6, 11, 12] [
 ⟨some 36, none, .mv (.t 5)⟩, ⟨some 37, none, .mv (.t 6)⟩, ⟨some 38, none, .bsl 1 3 [.sc (.int .i64 0)] 1 [(0, (.t 37))]⟩, ⟨some 39, none, .app 1 3 8 (.t 36) (.t 38)⟩, ⟨some 5, none, .mv (.t 39)⟩])
 .skip)))))
 (.reg [0, 42, 0, 1, 5, 11, 12] [
 ⟨some 40, none, .ari .add true .i64 (.t 12) (.c (.sc (.int .i64 1)))⟩, ⟨some 12, none, .mv (.t 40)⟩])))))))
 (.seq (.reg [0, 42, 5] [
 ⟨some 41, none, .mv (.t 5)⟩, ⟨some 4, none, .mv (.t 41)⟩])
 .ret))))
def rv70 : List RV := [.tmp 4]
theorem ok70 : fnOk Try.prog ac70 rv70 Try.f70 = true := by kernel_rfl

def ac47 : AC :=
 (.seq (.reg [0, 33, 0, 1] [
 ⟨some 2, none, .box (.t 0)⟩, ⟨some 3, none, .box (.t 1)⟩, ⟨some 4, none, .mv (.c (.nil))⟩, ⟨some 5, none, .mv (.c (.nil))⟩])
 (.seq (.drw [0, 33, 2, 3] [
 ⟨⟨some 7, none, .fa 1 (.t 2)⟩, [], [], true⟩, ⟨⟨some 8, none, .ld false 1 (.t 7)⟩, [], [], true⟩, ⟨⟨some 9, none, .fa 1 (.t 3)⟩, [], [], true⟩, ⟨⟨some 10, none, .ld false 1 (.t 9)⟩, [], [], true⟩, ⟨⟨some 11, none, .cal 70 [(.t 8), (.t 10)]⟩, [], [], true⟩, ⟨⟨some 12, none, .fa 2 (.t 2)⟩, [], [], true⟩, ⟨⟨some 13, none, .ld false 1 (.t 12)⟩, [], [], true⟩, ⟨⟨some 14, none, .fa 2 (.t 3)⟩, [], [], true⟩, ⟨⟨some 15, none, .ld false 1 (.t 14)⟩, [], [], true⟩, ⟨⟨some 16, none, .cal 70 [(.t 13), (.t 15)]⟩, [], [], true⟩, ⟨⟨some 17, none, .fa 3 (.t 2)⟩, [], [], true⟩, ⟨⟨some 18, none, .ld false 1 (.t 17)⟩, [], [], true⟩, ⟨⟨some 19, none, .fa 3 (.t 3)⟩, [], [], true⟩, ⟨⟨some 20, none, .ld false 1 (.t 19)⟩, [], [], true⟩, ⟨⟨some 21, none, .cal 70 [(.t 18), (.t 20)]⟩, [], [], false⟩, ⟨⟨some 22, none, .bsl 1 29 [.nil] 3 [(0, (.t 11)), (1, (.t 16)), (2, (.t 21))]⟩, [], [], false⟩, ⟨⟨some 23, none, .clm 69 [(.t 22)]⟩, [], [], false⟩, ⟨⟨some 6, none, .mv (.t 23)⟩, [], [], false⟩])
 (.seq (.reg [0, 33, 2, 3, 6] [
 ⟨some 24, none, .mv (.t 6)⟩, ⟨some 25, none, .clm 71 [(.t 24)]⟩])
 (.seq (.reg [0, 33, 2, 3, 6] [
 ⟨some 26, none, .fa 0 (.t 2)⟩, ⟨some 27, none, .ld false 1 (.t 26)⟩, ⟨some 28, none, .fa 0 (.t 3)⟩, ⟨some 29, none, .ld false 1 (.t 28)⟩, ⟨some 30, none, .cal 70 [(.t 27), (.t 29)]⟩, ⟨some 31, none, .mv (.t 6)⟩, ⟨some 32, none, .clm 72 [(.t 31)]⟩, ⟨some 4, none, .mv (.t 30)⟩, ⟨some 5, none, .mv (.t 32)⟩])
 .ret))))
def rv47 : List RV := [.tmp 4, .tmp 5]
theorem ok47 : fnOk Try.prog ac47 rv47 Try.f47 = true := by kernel_rfl

def ac69_500 : AC :=
 (.seq (.reg [500, 36, 500] [
 ⟨some 502, none, .mv (.c (.nil))⟩])
 (.seq (.reg [500, 36, 500] [
 ⟨some 503, none, .mv (.c (.sc (.int .i64 0)))⟩])
 (.seq (.seq (.reg [500, 36, 500, 503] [
 ⟨some 509, none, .mv (.t 500)⟩, ⟨some 510, none, .len (.t 509)⟩, ⟨some 511, none, .mv (.c (.sc (.int .i64 0)))⟩])
 (.block 0
 (.loop [500, 36, 500, 503, 509, 510, 511]
 (.seq (.reg [500, 36, 500, 503, 509, 510, 511] [
 ⟨some 512, none, .cmp .lss .i64 (.t 511) (.t 510)⟩])
 (.seq (.cond (.t 512)
 .skip
 (.exit 0))
 (.seq (.block 1
 (.seq (.reg [500, 36, 500, 503, 509, 510, 511] [
 ⟨some 513, none, .ixs 1 (.t 509) (.t 511)⟩, ⟨some 514, none, .ld false 1 (.t 513)⟩, ⟨some 505, none, .mv (.t 514)⟩])
 (.seq (.reg [500, 36, 500, 503, 505, 509, 510, 511] [
 ⟨some 515, none, .mv (.t 503)⟩, ⟨some 516, none, .mv (.t 505)⟩, ⟨some 517, none, .len (.t 516)⟩, ⟨some 518, none, .ari .add true .i64 (.t 515) (.t 517)⟩, ⟨some 503, none, .mv (.t 518)⟩])
 (.seq (.reg [500, 36, 500, 503, 509, 510, 511] [
 ⟨some 519, none, .mv (.t 503)⟩, ⟨some 520, none, .cmp .lss .i64 (.t 519) (.c (.sc (.int .i64 0)))⟩])
 (.cond (.t 520)
 (.reg [500, 36, 500, 503, 509, 510, 511] [
 ⟨some 521, none, .bad⟩, ⟨none, none, .bad⟩])
 .skip)))))
 (.reg [500, 36, 500, 503, 509, 510, 511] [
 ⟨some 522, none, .ari .add true .i64 (.t 511) (.c (.sc (.int .i64 1)))⟩, ⟨some 511, none, .mv (.t 522)⟩])))))))
 (.seq (.reg [500, 36, 500, 503] [
 ⟨some 523, none, .mv (.t 503)⟩, ⟨some 524, none, .clm 82 [(.c (.nil)), (.t 523)]⟩, ⟨some 506, none, .mv (.t 524)⟩])
 (.seq (.seq (.reg [500, 36, 500, 506] [
 ⟨some 525, none, .mv (.t 500)⟩, ⟨some 526, none, .len (.t 525)⟩, ⟨some 527, none, .mv (.c (.sc (.int .i64 0)))⟩])
 (.block 2
 (.loop [500, 36, 506, 525, 526, 527]
 (.seq (.reg [500, 36, 506, 525, 526, 527] [
 ⟨some 528, none, .cmp .lss .i64 (.t 527) (.t 526)⟩])
 (.seq (.cond (.t 528)
 .skip
 (.exit 2))
 (.seq (.block 3
 (.seq (.reg [500, 36, 506, 525, 526, 527] [
 ⟨some 529, none, .ixs 1 (.t 525) (.t 527)⟩, ⟨some 530, none, .ld false 1 (.t 529)⟩, ⟨some 508, none, .mv (.t 530)⟩])
 (.reg [500, 36, 506, 508, 525, 526, 527] [
 ⟨some 531, none, .mv (.t 506)⟩, ⟨some 532, none, .mv (.t 508)⟩, ⟨some 533, none, .app 1 3 8 (.t 531) (.t 532)⟩, ⟨some 506, none, .mv (.t 533)⟩])))
 (.reg [500, 36, 506, 525, 526, 527] [
 ⟨some 534, none, .ari .add true .i64 (.t 527) (.c (.sc (.int .i64 1)))⟩, ⟨some 527, none, .mv (.t 534)⟩])))))))
 (.seq (.reg [500, 36, 506] [
 ⟨some 535, none, .mv (.t 506)⟩, ⟨some 502, none, .mv (.t 535)⟩])
 .ret))))))
def rv69_500 : List RV := [.tmp 502]
theorem ok69_500 : fnOkK Try.prog 500 ac69_500 rv69_500 Try.f69 = true := by kernel_rfl

def ac82_600 : AC :=
 (.seq (.reg [600, 27, 600, 601] [
 ⟨some 604, none, .mv (.c (.nil))⟩])
 (.seq (.seq (.reg [600, 27, 600, 601] [
 ⟨some 605, none, .mv (.t 601)⟩, ⟨some 606, none, .cmp .lss .i64 (.t 605) (.c (.sc (.int .i64 0)))⟩])
 (.cond (.t 606)
 (.reg [600, 27, 600, 601] [
 ⟨some 607, none, .bad⟩, ⟨none, none, .bad⟩])
 .skip))
 (.seq (.seq (.reg [600, 27, 600, 601] [
 ⟨some 608, none, .mv (.t 601)⟩, ⟨some 609, none, .mv (.t 600)⟩, ⟨some 610, none, .xo .cap0 [(.t 609)]⟩, ⟨some 611, none, .mv (.t 600)⟩, ⟨some 612, none, .len (.t 611)⟩, ⟨some 613, none, .ari .sub true .i64 (.t 610) (.t 612)⟩, ⟨some 614, none, .ari .sub true .i64 (.t 608) (.t 613)⟩, ⟨some 601, none, .mv (.t 614)⟩])
 (.seq (.reg [600, 27, 600, 601] [
 ⟨some 615, none, .mv (.t 601)⟩, ⟨some 616, none, .cmp .gtr .i64 (.t 615) (.c (.sc (.int .i64 0)))⟩])
 (.cond (.t 616)
 (.reg [600, 27, 600, 601] [
 ⟨some 617, none, .mv (.t 600)⟩, ⟨some 618, none, .mv (.t 600)⟩, ⟨some 619, none, .xo .cap0 [(.t 618)]⟩, ⟨some 620, none, .slc 1 (.t 617) none (some (.t 619))⟩, ⟨some 621, none, .mv (.t 601)⟩, ⟨some 622, none, .xo (.apm 1 3 8 [.sc (.int .i64 0)]) [(.t 620), (.t 621)]⟩, ⟨some 623, none, .mv (.t 600)⟩, ⟨some 624, none, .len (.t 623)⟩, ⟨some 625, none, .slc 1 (.t 622) none (some (.t 624))⟩, ⟨some 600, none, .mv (.t 625)⟩])
 .skip)))
 (.seq (.reg [600, 27, 600] [
 ⟨some 626, none, .mv (.t 600)⟩, ⟨some 604, none, .mv (.t 626)⟩])
 .ret))))
def rv82_600 : List RV := [.tmp 604]
theorem ok82_600 : fnOkK Try.prog 600 ac82_600 rv82_600 Try.f82 = true := by kernel_rfl

def ac25 : AC :=
 (.seq (.reg [0, 26, 0, 1] [
 ⟨some 4, none, .mv (.c (.sc (.bool false)))⟩])
 (.seq (.seq (.reg [0, 26, 0, 1] [
 ⟨some 6, none, .mv (.t 0)⟩, ⟨some 7, none, .len (.t 6)⟩, ⟨some 8, none, .mv (.t 1)⟩, ⟨some 9, none, .len (.t 8)⟩, ⟨some 10, none, .cmp .neq .i64 (.t 7) (.t 9)⟩])
 (.cond (.t 10)
 (.seq (.reg [0, 26] [
 ⟨some 4, none, .mv (.c (.sc (.bool false)))⟩])
 .ret)
 .skip))
 (.seq (.seq (.reg [0, 26, 0, 1] [
 ⟨some 5, none, .mv (.c (.sc (.int .i64 0)))⟩])
 (.block 0
 (.loop [0, 26, 0, 1, 5]
 (.seq (.seq (.reg [0, 26, 0, 1, 5] [
 ⟨some 11, none, .mv (.t 5)⟩, ⟨some 12, none, .mv (.t 0)⟩, ⟨some 13, none, .len (.t 12)⟩, ⟨some 14, none, .cmp .lss .i64 (.t 11) (.t 13)⟩])
 (.cond (.t 14)
 .skip
 (.exit 0)))
 (.seq (.block 1
 (.seq (.drw [0, 26, 0, 1, 5] [
 ⟨⟨some 17, none, .mv (.t 0)⟩, [], [], true⟩, ⟨⟨some 18, none, .mv (.t 5)⟩, [], [], true⟩, ⟨⟨some 19, none, .ixs 1 (.t 17) (.t 18)⟩, [], [], true⟩, ⟨⟨some 20, none, .ld false 1 (.t 19)⟩, [], [], true⟩, ⟨⟨some 21, none, .mv (.t 1)⟩, [], [], true⟩, ⟨⟨some 22, none, .mv (.t 5)⟩, [], [], true⟩, ⟨⟨some 23, none, .ixs 1 (.t 21) (.t 22)⟩, [], [], true⟩, ⟨⟨some 24, none, .ld false 1 (.t 23)⟩, [], [], true⟩, ⟨⟨some 25, none, .cmp .neq .i64 (.t 20) (.t 24)⟩, [], [], false⟩])
 (.cond (.t 25)
 (.seq (.reg [0, 26] [
 ⟨some 4, none, .mv (.c (.sc (.bool false)))⟩])
 .ret)
 .skip)))
 (.reg [0, 26, 0, 1, 5] [
 ⟨some 15, none, .mv (.t 5)⟩, ⟨some 16, none, .ari .add true .i64 (.t 15) (.c (.sc (.int .i64 1)))⟩, ⟨some 5, none, .mv (.t 16)⟩]))))))
 (.seq (.reg [0, 26] [
 ⟨some 4, none, .mv (.c (.sc (.bool true)))⟩])
 .ret))))
def rv25 : List RV := [.tmp 4]
theorem ok25 : fnOk Try.prog ac25 rv25 Try.f25 = true := by kernel_rfl
end Go.Proofs.Ytledbjkolidhkaa.Txt
namespace Go.Vc
open Go Go.RowKit
def evL (st : St) : List Opd → List PV
  | [] => []
  | x :: r => x.ev st :: evL st r
theorem evL_eq (st : St) (l : List Opd) : l.map (·.ev st) = evL st l := by induction l <;> simp_all [evL]
@[push_cast] theorem evL_nil (st : St) : evL st [] = [] := rfl
@[push_cast] theorem evL_cons (st : St) (x : Opd) (r : List Opd) : evL st (x :: r) = x.ev st :: evL st r := rfl
def boxI : List PV → List Nat → Option (List Nat)
  | [], acc => some acc
  | .ptr i 0 :: r, acc => boxI r (acc ++ [i])
  | _ :: _, _ => none
theorem boxI_eq : ∀ (l : List PV) (acc : List Nat), boxI l acc = (boxIds l).map (acc ++ ·)
  | [], acc => by simp [boxI, boxIds]
  | c :: r, acc => by
    cases c with
    | ptr i off =>
      cases off with
      | zero =>
        simp only [boxI, boxIds, boxI_eq r]
        cases boxIds r <;> simp
      | succ n => rfl
    | _ => rfl
@[push_cast] theorem boxI_nil (acc : List Nat) : boxI [] acc = some acc := rfl
@[push_cast] theorem boxI_ptr (i : Nat) (r : List PV) (acc : List Nat) : boxI (.ptr i 0 :: r) acc = boxI r (acc ++ [i]) := rfl
attribute [push_cast] List.nil_append List.cons_append
def mkfV (f : Nat) : Option (List Nat) → Prop × PV
  | some [] => (True, .sc (.func (.func f) #[] #[]))
  | some ids => (True, .clo f ids)
  | none => (False, .bot)
@[push_cast] theorem mkfV_nil (f : Nat) : mkfV f (some []) = (True, .sc (.func (.func f) #[] #[])) := rfl
@[push_cast] theorem mkfV_cons (f i : Nat) (r : List Nat) : mkfV f (some (i :: r)) = (True, .clo f (i :: r)) := rfl
def mlkT (ok : Bool) (zero : PV) (o : Option PV) : PV := bif ok then (match o with | some v => .tup [v, .sc (.bool true)] | none => .tup [zero, .sc (.bool false)]) else o.getD zero
@[push_cast] theorem mlkT_tn (zero : PV) : mlkT true zero none = .tup [zero, .sc (.bool false)] := rfl
@[push_cast] theorem mlkT_ts (zero v : PV) : mlkT true zero (some v) = .tup [v, .sc (.bool true)] := rfl
@[push_cast] theorem mlkT_fn (zero : PV) : mlkT false zero none = zero := rfl
@[push_cast] theorem mlkT_fs (zero v : PV) : mlkT false zero (some v) = v := rfl
def mlkM (kd : KD) (ok : Bool) (zero : PV) (kv : Value) : Option Mp → Prop × PV
  | some M => (M.kd = kd ∧ kd.has kv = true, mlkT ok zero (mget M.es kv))
  | none => (False, .bot)
def mlkV (st : St) (kd : KD) (ok : Bool) (zero : PV) : PV → PV → Prop × PV
  | .mp id, .sc kv => mlkM kd ok zero kv (lk st.m id)
  | _, _ => (False, .bot)
@[push_cast] theorem mlkM_some (kd kd' : KD) (ok : Bool) (zero : PV) (kv : Value) (es : List (Value × PV)) (it : Option (Nat × List (Value × PV) × Option (Value × PV))) : mlkM kd ok zero kv (some ⟨kd', es, it⟩) = (kd' = kd ∧ kd.has kv = true, mlkT ok zero (mget es kv)) := rfl
@[push_cast] theorem mlkV_mp (s : List (Nat × PV)) (b : List (Nat × List PV)) (a : List (Nat × Arr)) (m : List (Nat × Mp)) (kd : KD) (ok : Bool) (zero : PV) (id : Nat) (kv : Value) : mlkV ⟨s, b, a, m⟩ kd ok zero (.mp id) (.sc kv) = mlkM kd ok zero kv (lk m id) := rfl
@[push_cast] theorem has_int (k l : IntKind) (n : Int) : KD.has (.int k) (.int l n) = (k == l) := rfl
@[push_cast] theorem has_str (s : ByteArray) : KD.has .str (.string s) = true := rfl
@[push_cast] theorem has_bol (b : Bool) : KD.has .bol (.bool b) = true := rfl
@[push_cast] theorem mget_nil (k : Value) : mget [] k = none := rfl
@[push_cast] theorem mput_nil (k : Value) (v : PV) : mput [] k v = [(k, v)] := rfl
def entO (it : Nat) : Option (Nat × List (Value × PV) × Option (Value × PV)) → Prop × PV
  | some (it', _, some (k, v)) => (it' = it, .tup [.sc k, v])
  | _ => (False, .bot)
def entM (it : Nat) : Option Mp → Prop × PV
  | some M => entO it M.it
  | none => (False, .bot)
def entV (st : St) : PV → Prop × PV
  | .itr id it => entM it (lk st.m id)
  | _ => (False, .bot)
@[push_cast] theorem entM_some (it it' : Nat) (kd : KD) (es l : List (Value × PV)) (k : Value) (v : PV) : entM it (some ⟨kd, es, some (it', l, some (k, v))⟩) = (it' = it, .tup [.sc k, v]) := rfl
@[push_cast] theorem entV_itr (s : List (Nat × PV)) (b : List (Nat × List PV)) (a : List (Nat × Arr)) (m : List (Nat × Mp)) (id it : Nat) : entV ⟨s, b, a, m⟩ (.itr id it) = entM it (lk m id) := rfl
def mlnM : Option Mp → Prop × PV
  | some M => (True, .int M.es.length)
  | none => (False, .bot)
def mlnV (st : St) : PV → Prop × PV
  | .mp id => mlnM (lk st.m id)
  | _ => (False, .bot)
@[push_cast] theorem mlnM_some (kd : KD) (es : List (Value × PV)) (it : Option (Nat × List (Value × PV) × Option (Value × PV))) : mlnM (some ⟨kd, es, it⟩) = (True, .int es.length) := rfl
@[push_cast] theorem mlnV_mp (s : List (Nat × PV)) (b : List (Nat × List PV)) (a : List (Nat × Arr)) (m : List (Nat × Mp)) (id : Nat) : mlnV ⟨s, b, a, m⟩ (.mp id) = mlnM (lk m id) := rfl
def pureVB : PV → Bool
  | .agg cs => pureL cs
  | .sc _ | .nil | .sl .. | .iptr .. => true
  | _ => false
theorem pureVB_eq (v : PV) : pureV v = pureVB v := by cases v <;> first | rfl | simp only [pureV, pureVB, pureL_eq]
@[push_cast] theorem pureVB_agg (cs : List PV) : pureVB (.agg cs) = pureL cs := rfl
@[push_cast] theorem pureVB_sc (v : Value) : pureVB (.sc v) = true := rfl
@[push_cast] theorem pureVB_nil : pureVB .nil = true := rfl
@[push_cast] theorem pureVB_sl (p : Bool) (es : Nat) (xs : List (List PV)) : pureVB (.sl p es xs) = true := rfl
def mupM (s : List (Nat × PV)) (b : List (Nat × List PV)) (a : List (Nat × Arr)) (m : List (Nat × Mp)) (id : Nat) (kd : KD) (kv : Value) (v : PV) : Option Mp → Prop × St
  | some M => ((M.kd = kd ∧ kd.has kv = true) ∧ pureVB v = true, ⟨s, b, a, up m id ⟨kd, mput M.es kv v, none⟩⟩)
  | none => (False, ⟨s, b, a, m⟩)
def mupH (st : St) (kd : KD) (v : PV) : PV → PV → Prop × St
  | .mp id, .sc kv => mupM st.s st.b st.a st.m id kd kv v (lk st.m id)
  | _, _ => (False, st)
@[push_cast] theorem mupM_some (s : List (Nat × PV)) (b : List (Nat × List PV)) (a : List (Nat × Arr)) (m : List (Nat × Mp)) (id : Nat) (kd kd' : KD) (kv : Value) (v : PV) (es : List (Value × PV)) (it : Option (Nat × List (Value × PV) × Option (Value × PV))) :
    mupM s b a m id kd kv v (some ⟨kd', es, it⟩) = ((kd' = kd ∧ kd.has kv = true) ∧ pureVB v = true, ⟨s, b, a, up m id ⟨kd, mput es kv v, none⟩⟩) := rfl
@[push_cast] theorem mupH_mp (s : List (Nat × PV)) (b : List (Nat × List PV)) (a : List (Nat × Arr)) (m : List (Nat × Mp)) (kd : KD) (v : PV) (id : Nat) (kv : Value) : mupH ⟨s, b, a, m⟩ kd v (.mp id) (.sc kv) = mupM s b a m id kd kv v (lk m id) := rfl
def rngM (s : List (Nat × PV)) (b : List (Nat × List PV)) (a : List (Nat × Arr)) (m : List (Nat × Mp)) (i id : Nat) : Option Mp → Prop × St
  | some M => (True, ⟨up s i (.itr id i), b, a, up m id { M with it := some (i, M.es, none) }⟩)
  | none => (False, ⟨s, b, a, m⟩)
def rngH (st : St) (i : Nat) : PV → Prop × St
  | .mp id => rngM (killS (isId i) nul st.s) (rm (killB (isId i) nul st.b) i) st.a (killM (isId i) st.m st.m) i id (lk (killM (isId i) st.m st.m) id)
  | _ => (False, st)
@[push_cast] theorem rngM_some (s : List (Nat × PV)) (b : List (Nat × List PV)) (a : List (Nat × Arr)) (m : List (Nat × Mp)) (i id : Nat) (kd : KD) (es : List (Value × PV)) (it : Option (Nat × List (Value × PV) × Option (Value × PV))) :
    rngM s b a m i id (some ⟨kd, es, it⟩) = (True, ⟨up s i (.itr id i), b, a, up m id ⟨kd, es, some (i, es, none)⟩⟩) := rfl
@[push_cast] theorem rngH_mp (s : List (Nat × PV)) (b : List (Nat × List PV)) (a : List (Nat × Arr)) (m : List (Nat × Mp)) (i id : Nat) : rngH ⟨s, b, a, m⟩ i (.mp id) = rngM (killS (isId i) nul s) (rm (killB (isId i) nul b) i) a (killM (isId i) m m) i id (lk (killM (isId i) m m) id) := rfl
def clmK (P : Env) (d : Option Nat) (f : Nat) (args : List PV) (r : List AO) (st : St) (K : St → Prop) : Prop := FnM P f args st fun rv st' => opsK P r (st'.put d rv) K
@[congr] theorem clmK_congr {P : Env} {d : Option Nat} {f : Nat} {args args' : List PV} {r : List AO} {st st' : St} {K : St → Prop} (h1 : args = args') (h2 : st = st') : clmK P d f args r st K = clmK P d f args' r st' K := by rw [h1, h2]
theorem clm_of {P : Env} {d : Option Nat} {f : Nat} {args : List PV} {r : List AO} {st : St} {K : St → Prop} {Q : PV → St → Prop} (h : FnM P f args st Q) (hk : ∀ rv st', Q rv st' → opsK P r (st'.put d rv) K) : clmK P d f args r st K := FnM.mono h hk
theorem clm_eq {P : Env} {d : Option Nat} {f : Nat} {args : List PV} {r : List AO} {st : St} {K : St → Prop} {v : PV} {st1 : St} (h : FnM P f args st (fun rv st' => rv = v ∧ st' = st1)) (hk : opsK P r (st1.put d v) K) : clmK P d f args r st K :=
  FnM.mono h fun _ _ ⟨e1, e2⟩ => by subst e1; subst e2; exact hk
def pclK (P : Env) (d : Option Nat) (f : Nat) (args : List PV) (r : List AO) (st : St) (K : St → Prop) : Prop := funOk P.p f = true ∧ ∃ post, FnOK P.p f args post ∧ ∀ v, post v → opsK P r (st.put d v) K
@[congr] theorem pclK_congr {P : Env} {d : Option Nat} {f : Nat} {args args' : List PV} {r : List AO} {st st' : St} {K : St → Prop} (h1 : args = args') (h2 : st = st') : pclK P d f args r st K = pclK P d f args' r st' K := by rw [h1, h2]
theorem pcl_of {P : Env} {d : Option Nat} {f : Nat} {args : List PV} {r : List AO} {st : St} {K : St → Prop} {v : PV} (hf : funOk P.p f = true) (hc : FnEq P.p f args v) (h : opsK P r (st.put d v) K) : pclK P d f args r st K :=
  ⟨hf, _, hc, fun u hu => by subst hu; exact h⟩
theorem pcl_sub {P : Env} {d : Option Nat} {f : Nat} {args args' : List PV} {r : List AO} {st : St} {K : St → Prop} {v : PV} (hf : funOk P.p f = true) (hc : FnEq P.p f args' v) (hs : SubL args args') (h : opsK P r (st.put d v) K) : pclK P d f args r st K := pcl_of hf (FnOK.sub hc hs) h
def ylK (P : Env) (d : Option Nat) (id : Nat) (args : List PV) (r : List AO) (st : St) (K : St → Prop) : Prop := ∃ K', P.Y id args st K' ∧ ∀ st', K' st' → opsK P r (st'.put d (.sc (.bool true))) K
@[congr] theorem ylK_congr {P : Env} {d : Option Nat} {id : Nat} {args args' : List PV} {r : List AO} {st st' : St} {K : St → Prop} (h1 : args = args') (h2 : st = st') : ylK P d id args r st K = ylK P d id args' r st' K := by rw [h1, h2]
def clvS (P : Env) (d : Option Nat) (v : PV) (args : List PV) (r : List AO) (st : St) (K : St → Prop) : Prop := clvK P st d v args fun st' => opsK P r st' K
@[congr] theorem clvS_congr {P : Env} {d : Option Nat} {v v' : PV} {args args' : List PV} {r : List AO} {st st' : St} {K : St → Prop} (h0 : v = v') (h1 : args = args') (h2 : st = st') : clvS P d v args r st K = clvS P d v' args' r st' K := by rw [h0, h1, h2]
def nxtS (P : Env) (d : Option Nat) (r : List AO) (K : St → Prop) (st : St) (v : PV) : Prop := nxtK st d v fun st' => opsK P r st' K
@[congr] theorem nxtS_congr {P : Env} {d : Option Nat} {r : List AO} {st st' : St} {K : St → Prop} {v v' : PV} (h1 : st = st') (h2 : v = v') : nxtS P d r K st v = nxtS P d r K st' v' := by rw [h1, h2]
def rsAL (st : St) : List PV → List PV
  | [] => []
  | c :: r => c.rsA st :: rsAL st r
theorem rsAL_eq (st : St) (l : List PV) : l.map (PV.rsA st) = rsAL st l := by induction l <;> simp_all [rsAL]
@[push_cast] theorem rsAL_nil (st : St) : rsAL st [] = [] := rfl
@[push_cast] theorem rsAL_cons (st : St) (c : PV) (r : List PV) : rsAL st (c :: r) = c.rsA st :: rsAL st r := rfl
@[push_cast] theorem rsA_pcl (st : St) (f : Nat) (caps : List PV) : (PV.pcl f caps).rsA st = .pcl f caps := rfl
def rsBL (st : St) : List Nat → List PV
  | [] => []
  | i :: r => rsB st 0 (lk st.b i) :: rsBL st r
@[push_cast] theorem rsBL_nil (st : St) : rsBL st [] = [] := rfl
@[push_cast] theorem rsBL_cons (s : List (Nat × PV)) (b : List (Nat × List PV)) (a : List (Nat × Arr)) (m : List (Nat × Mp)) (i : Nat) (r : List Nat) : rsBL ⟨s, b, a, m⟩ (i :: r) = rsB ⟨s, b, a, m⟩ 0 (lk b i) :: rsBL ⟨s, b, a, m⟩ r := rfl
@[push_cast] theorem rsA_clo (st : St) (f : Nat) (ids : List Nat) : (PV.clo f ids).rsA st = .pcl f (rsBL st ids) := by
  show PV.pcl f (ids.map (rsBox st)) = _
  congr 1
  induction ids with
  | nil => rfl
  | cons i r ih =>
    simp only [List.map_cons, ih, rsBL, rsBox, rs0L_eq]
    cases lk st.b i <;> rfl
section
variable (P : Env) (i : Nat) (d : Option Nat) (r : List AO) (st : St) (K : St → Prop)
@[push_cast] theorem o_mkf (f : Nat) (caps : List Opd) : opsK P (⟨d, none, .mkf f caps⟩ :: r) st K = qS P d (mkfV f (boxI (evL st caps) [])) r st K := by
  have : aev st (.mkf f caps) = mkfV f (boxI (evL st caps) []) := by
    simp only [aev, boxI_eq, evL_eq]
    cases boxIds (evL st caps) with
    | none => rfl
    | some l => cases l <;> rfl
  simp only [opsK, grdK, opK, isHeavy, Bool.false_eq_true, if_false, qS, this]
@[push_cast] theorem o_mlk (kd : KD) (ok : Bool) (zero : PV) (x k : Opd) : opsK P (⟨d, none, .mlk kd ok zero x k⟩ :: r) st K = qS P d (mlkV st kd ok zero (x.ev st) (k.ev st)) r st K := by
  have : aev st (.mlk kd ok zero x k) = mlkV st kd ok zero (x.ev st) (k.ev st) := by
    simp only [aev]
    generalize x.ev st = u
    generalize k.ev st = v
    cases u <;> first | (cases v <;> first | rfl | (simp only [mlkV]; cases lk st.m _ <;> rfl)) | rfl
  simp only [opsK, grdK, opK, isHeavy, Bool.false_eq_true, if_false, qS, this]
@[push_cast] theorem o_ent (x : Opd) : opsK P (⟨d, none, .ent x⟩ :: r) st K = qS P d (entV st (x.ev st)) r st K := by
  have : aev st (.ent x) = entV st (x.ev st) := by
    simp only [aev]
    generalize x.ev st = u
    cases u <;> rfl
  simp only [opsK, grdK, opK, isHeavy, Bool.false_eq_true, if_false, qS, this]
@[push_cast] theorem o_mln (x : Opd) : opsK P (⟨d, none, .mln x⟩ :: r) st K = qS P d (mlnV st (x.ev st)) r st K := by
  have : aev st (.mln x) = mlnV st (x.ev st) := by
    simp only [aev]
    generalize x.ev st = u
    cases u <;> first | rfl | (simp only [mlnV]; cases lk st.m _ <;> rfl)
  simp only [opsK, grdK, opK, isHeavy, Bool.false_eq_true, if_false, qS, this]
@[push_cast] theorem o_mkm (kd : KD) : opsK P (⟨some i, none, .mkm kd⟩ :: r) st K = opsK P r (st.newMap i ⟨kd, [], none⟩) K := by
  simp only [opsK, grdK, opK, hev, isHeavy, if_true, true_and]
@[push_cast] theorem o_mup (kd : KD) (x k v : Opd) : opsK P (⟨none, none, .mup kd x k v⟩ :: r) st K = hS P (mupH st kd (v.ev st) (x.ev st) (k.ev st)) r K := by
  have : hev st none (.mup kd x k v) = mupH st kd (v.ev st) (x.ev st) (k.ev st) := by
    simp only [hev, pureVB_eq]
    generalize x.ev st = u
    generalize k.ev st = q
    cases u <;> first | rfl | (cases q <;> rfl)
  simp only [opsK, grdK, opK, isHeavy, if_true, hS, this]
@[push_cast] theorem o_rng (x : Opd) : opsK P (⟨some i, none, .rng x⟩ :: r) st K = hS P (rngH st i (x.ev st)) r K := by
  have : (hev st (some i) (.rng x)).1 = (rngH st i (x.ev st)).1 ∧ ((hev st (some i) (.rng x)).1 → (hev st (some i) (.rng x)).2 = (rngH st i (x.ev st)).2) := by
    simp only [hev]
    generalize x.ev st = u
    cases u <;> first | exact ⟨rfl, fun _ => rfl⟩ | skip
    rename_i id
    have hkm : (st.kill (fun j => j == i) nul).m = killM (isId i) st.m st.m := by
      simp only [St.kill]
      rw [show (fun x : Nat × Mp => !(fun j => j == i) x.1 && !mpTo st.m (fun j => j == i) x.1) = fun x => !isId i x.1 && !mpTo st.m (isId i) x.1 from rfl, killM_eq]
    have hks : (st.kill (fun j => j == i) nul).s = killS (isId i) nul st.s := by simp only [St.kill, killS_eq]; rfl
    have hkb : (st.kill (fun j => j == i) nul).b = killB (isId i) nul st.b := by simp only [St.kill, killB_eq]; rfl
    simp only [hkm, hks, hkb, rngH]
    cases lk (killM (isId i) st.m st.m) id with
    | none => exact ⟨rfl, fun h => h.elim⟩
    | some M => exact ⟨rfl, fun _ => rfl⟩
  simp only [opsK, grdK, opK, isHeavy, if_true, hS]
  exact propext ⟨fun h => ⟨this.1 ▸ h.1, by rw [← this.2 h.1]; exact h.2⟩, fun h => ⟨this.1 ▸ h.1, by rw [this.2 (this.1 ▸ h.1)]; exact h.2⟩⟩
@[push_cast] theorem o_nxt (x : Opd) : opsK P (⟨d, none, .nxt x⟩ :: r) st K = nxtS P d r K st (x.ev st) := rfl
@[push_cast] theorem o_clm (f : Nat) (args : List Opd) : opsK P (⟨d, none, .clm f args⟩ :: r) st K = clmK P d f (evL st args) r st K := by
  rw [← evL_eq]; rfl
@[push_cast] theorem o_clv (x : Opd) (args : List Opd) : opsK P (⟨d, none, .clv x args⟩ :: r) st K = clvS P d (x.ev st) (evL st args) r st K := by
  rw [← evL_eq]; rfl
@[push_cast] theorem o_niq (neg : Bool) (x : Opd) : opsK P (⟨d, none, .niq neg x⟩ :: r) st K = niqK (x.ev st) (fun b => opsK P r (st.put d (.sc (.bool (bif neg then !b else b)))) K) := rfl
end
section
variable (K : Bool → Prop)
@[push_cast] theorem niqK_nil : niqK .nil K = K true := rfl
@[push_cast] theorem niqK_view (id lo n : Nat) : niqK (.view id lo n) K = K false := rfl
@[push_cast] theorem niqK_cons (p : Bool) (es : Nat) (x : List PV) (xs : List (List PV)) : niqK (.sl p es (x :: xs)) K = K false := rfl
end
section
variable (s : List (Nat × PV)) (b : List (Nat × List PV)) (a : List (Nat × Arr)) (m : List (Nat × Mp)) (d : Option Nat) (K : St → Prop)
def nxtM (P : Env) (s : List (Nat × PV)) (b : List (Nat × List PV)) (a : List (Nat × Arr)) (m : List (Nat × Mp)) (d : Option Nat) (r : List AO) (id it : Nat) (K : St → Prop) : Option Mp → Prop
  | some ⟨kd, es, some (it', left, _)⟩ => it' = it ∧ (left = [] → opsK P r ((⟨s, b, a, m⟩ : St).put d (.tup [.sc (.bool false)])) K) ∧
      ∀ (i : Nat) (z : Value × PV), left[i]? = some z → opsK P r ((⟨s, b, a, up m id ⟨kd, es, some (it', left.eraseIdx i, some z)⟩⟩ : St).put d (.tup [.sc (.bool true), .sc z.1, z.2])) K
  | _ => False
@[push_cast] theorem nxtS_itr (P : Env) (r : List AO) (id it : Nat) : nxtS P d r K ⟨s, b, a, m⟩ (.itr id it) = nxtM P s b a m d r id it K (lk m id) := by
  simp only [nxtS, nxtK]
  cases lk m id with
  | none => rfl
  | some M => obtain ⟨kd, es, i⟩ := M; rcases i with _ | ⟨i, l, c⟩ <;> rfl
end
def ptrs : List Nat → List PV
  | [] => []
  | i :: r => .ptr i 0 :: ptrs r
theorem ptrs_eq (l : List Nat) : (l.map fun i => PV.ptr i 0) = ptrs l := by induction l <;> simp_all [ptrs]
@[push_cast] theorem ptrs_nil : ptrs [] = [] := rfl
@[push_cast] theorem ptrs_cons (i : Nat) (r : List Nat) : ptrs (i :: r) = .ptr i 0 :: ptrs r := rfl
section
variable (P : Env) (st : St) (d : Option Nat) (args : List PV) (r : List AO) (K : St → Prop)
@[push_cast] theorem clvS_clo (f : Nat) (ids : List Nat) : clvS P d (.clo f ids) args r st K = clmK P d f (args ++ ptrs ids) r st K := by rw [← ptrs_eq]; rfl
@[push_cast] theorem clvS_fn (f : Nat) (u v : Array Value) : clvS P d (.sc (.func (.func f) u v)) args r st K = clmK P d f args r st K := rfl
@[push_cast] theorem clvS_yl (id : Nat) : clvS P d (.yl id) args r st K = ylK P d id args r st K := rfl
@[push_cast] theorem clvS_pcl (f : Nat) (caps : List PV) : clvS P d (.pcl f caps) args r st K = pclK P d f (rsAL st args ++ caps) r st K := by rw [← rsAL_eq]; rfl
end
section
variable (P : Env) (Q : Exit → St → Prop) (st : St)
@[push_cast] theorem a_scope (c : AC) : awp P (.scope c) Q st = awp P c Q st := rfl
@[push_cast] theorem a_label : awp P .label Q st = Q .normal st := rfl
end
@[push_cast] theorem cellsOf_clo (f : Nat) (ids : List Nat) : cellsOf (.clo f ids) = [.clo f ids] := rfl
@[push_cast] theorem cellsOk_clo (f : Nat) (ids : List Nat) : cellsOk (.clo f ids) = true := rfl
@[push_cast] theorem flatB_clo (f : Nat) (ids : List Nat) : flatB (.clo f ids) = true := rfl
@[push_cast] theorem cellsOf_mp (i : Nat) : cellsOf (.mp i) = [.mp i] := rfl
@[push_cast] theorem cellsOf_bv (i e n : Nat) : cellsOf (.bv i e n) = [.bv i e n] := rfl
@[push_cast] theorem cellsOk_bv (i e n : Nat) : cellsOk (.bv i e n) = true := rfl
@[push_cast] theorem flatB_bv (i e n : Nat) : flatB (.bv i e n) = true := rfl
@[push_cast] theorem cellsOk_mp (i : Nat) : cellsOk (.mp i) = true := rfl
@[push_cast] theorem flatB_mp (i : Nat) : flatB (.mp i) = true := rfl
@[push_cast] theorem cellsOf_yl (i : Nat) : cellsOf (.yl i) = [.yl i] := rfl
@[push_cast] theorem flatB_yl (i : Nat) : flatB (.yl i) = true := rfl
@[push_cast] theorem cellsOf_itr (i j : Nat) : cellsOf (.itr i j) = [.itr i j] := rfl
@[push_cast] theorem flatB_itr (i j : Nat) : flatB (.itr i j) = true := rfl
@[push_cast] theorem cellsOf_pcl (f : Nat) (cs : List PV) : cellsOf (.pcl f cs) = [.pcl f cs] := rfl
@[push_cast] theorem flatB_pcl (f : Nat) (cs : List PV) : flatB (.pcl f cs) = true := rfl
def lowL (k : Nat) : List (Nat × PV) → List (Nat × PV)
  | [] => []
  | (i, v) :: r => if i < k then (i, v) :: lowL k r else lowL k r
theorem lowL_eq (k : Nat) (s : List (Nat × PV)) : s.filter (fun x => decide (x.1 < k)) = lowL k s := by
  induction s with
  | nil => rfl
  | cons x r ih =>
    obtain ⟨i, v⟩ := x
    simp only [List.filter_cons, lowL, ih, decide_eq_true_eq]
@[push_cast] theorem lowL_nil (k : Nat) : lowL k [] = [] := rfl
@[push_cast] theorem lowL_cons (k i : Nat) (v : PV) (r : List (Nat × PV)) : lowL k ((i, v) :: r) = if i < k then (i, v) :: lowL k r else lowL k r := rfl
@[push_cast] theorem low_mk (s : List (Nat × PV)) (b : List (Nat × List PV)) (a : List (Nat × Arr)) (m : List (Nat × Mp)) (k : Nat) : St.low ⟨s, b, a, m⟩ k = ⟨lowL k s, b, a, m⟩ := by simp only [St.low, lowL_eq]
@[push_cast] theorem argS_nil (K : Nat) (s : List (Nat × PV)) : argS K [] s = s := rfl
@[push_cast] theorem argS_cons (K : Nat) (c : PV) (r : List PV) (s : List (Nat × PV)) : argS K (c :: r) s = argS (K + 1) r (up s K c) := rfl
@[push_cast] theorem noId_mk (s : List (Nat × PV)) (b : List (Nat × List PV)) (a : List (Nat × Arr)) (m : List (Nat × Mp)) (i : Nat) : St.noId ⟨s, b, a, m⟩ i = ⟨killS (isId i) nul s, rm (killB (isId i) nul b) i, a, killM (isId i) m m⟩ := by
  simp only [St.noId, St.kill, killS_eq, killB_eq]
  rw [show (fun x : Nat × Mp => !(fun j => j == i) x.1 && !mpTo m (fun j => j == i) x.1) = fun x => !isId i x.1 && !mpTo m (isId i) x.1 from rfl, killM_eq]; rfl
@[push_cast] theorem setPs_nil (vs : List PV) (s : List (Nat × PV)) : setPs [] vs s = s := by cases vs <;> rfl
@[push_cast] theorem setPs_cons (p : Nat) (ps : List Nat) (v : PV) (vs : List PV) (s : List (Nat × PV)) : setPs (p :: ps) (v :: vs) s = setPs ps vs (up s p v) := rfl
def midL (k n : Nat) : List (Nat × PV) → List (Nat × PV)
  | [] => []
  | (i, v) :: r => if k ≤ i ∧ i < k + n then (i, v) :: midL k n r else midL k n r
@[push_cast] theorem midL_nil (k n : Nat) : midL k n [] = [] := rfl
@[push_cast] theorem midL_cons (k n i : Nat) (v : PV) (r : List (Nat × PV)) : midL k n ((i, v) :: r) = if k ≤ i ∧ i < k + n then (i, v) :: midL k n r else midL k n r := rfl
@[push_cast] theorem copyS_nil (K K2 : Nat) (src s : List (Nat × PV)) : copyS K K2 src [] s = s := rfl
@[push_cast] theorem copyS_cons (K K2 i : Nat) (v : PV) (src r s : List (Nat × PV)) : copyS K K2 src ((i, v) :: r) s = copyS K K2 src r (up s (K2 + (i - K)) (getL src i)) := by
  rw [copyS, getL_eq]
def allLt (k : Nat) : List (Nat × PV) → Bool
  | [] => true
  | (i, _) :: r => if i < k then allLt k r else false
theorem allLt_eq (k : Nat) (s : List (Nat × PV)) : s.all (fun x => decide (x.1 < k)) = allLt k s := by
  induction s with
  | nil => rfl
  | cons x r ih =>
    obtain ⟨i, v⟩ := x
    simp only [List.all_cons, allLt, ih]
    by_cases h : i < k <;> simp [h]
@[push_cast] theorem allLt_nil (k : Nat) : allLt k [] = true := rfl
@[push_cast] theorem allLt_cons (k i : Nat) (v : PV) (r : List (Nat × PV)) : allLt k ((i, v) :: r) = if i < k then allLt k r else false := rfl
@[push_cast] theorem resM_one (st : St) (x : RV) : resM st [x] = x.val st := rfl
@[push_cast] theorem resM_nil (st : St) : resM st [] = (True, .tup []) := by simp [resM]
@[push_cast] theorem resM_two (st : St) (x y : RV) : resM st [x, y] = ((x.val st).1 ∧ (y.val st).1, .tup [(x.val st).2, (y.val st).2]) := by simp [resM]
@[push_cast] theorem resM_three (st : St) (x y z : RV) : resM st [x, y, z] = ((x.val st).1 ∧ (y.val st).1 ∧ (z.val st).1, .tup [(x.val st).2, (y.val st).2, (z.val st).2]) := by simp [resM]
@[push_cast] theorem rv_tmp (st : St) (t : Nat) : RV.val st (.tmp t) = (True, st.get t) := rfl
@[push_cast] theorem retM_r (K : Nat) (rvs : List RV) (Q : PV → St → Prop) (st : St) : retM K rvs Q .ret st = ((resM st rvs).1 ∧ flatB (resM st rvs).2 = true ∧ Q (resM st rvs).2 (st.low K)) := by simp [retM, isEnd]
@[push_cast] theorem retM_n (K : Nat) (rvs : List RV) (Q : PV → St → Prop) (st : St) : retM K rvs Q .normal st = ((resM st rvs).1 ∧ flatB (resM st rvs).2 = true ∧ Q (resM st rvs).2 (st.low K)) := by simp [retM, isEnd]
def bodyK (P : Env) (ass body : AC) (st : St) (K : St → Prop) : Prop := awp P ass (Exit.thn (awp P body fun e st'' => e = .normal ∧ K st'') fun _ _ => False) st
def rngC (P : Env) (ρ : RF) (ps : List Nat) (ass body : AC) (Q : Exit → St → Prop) (st : St) (v : PV) : Prop :=
  match v with
  | .clo f ids => (P.noY ∧ ids.contains ρ.id = false) ∧ FnM ⟨P.p, ρ.K + ρ.n, rngY ρ ps (bodyK P ass body), fun _ _ => False⟩ f (.yl ρ.id :: ids.map fun i => .ptr i 0) (st.noId ρ.id) fun _ st' => Q .normal ((st'.low (ρ.K + ρ.n)).noId ρ.id)
  | _ => False
@[congr] theorem rngC_congr {P : Env} {ρ : RF} {ps : List Nat} {ass body : AC} {Q : Exit → St → Prop} {st st' : St} {v v' : PV} (h1 : st = st') (h2 : v = v') : rngC P ρ ps ass body Q st v = rngC P ρ ps ass body Q st' v' := by rw [h1, h2]
@[push_cast] theorem a_rngf (P : Env) (Q : Exit → St → Prop) (st : St) (f : Opd) (K n K2 : Nat) (ks : List Nat) (id : Nat) (ps : List Nat) (ass body : AC) :
    awp P (.rngf ⟨f, K, n, K2, ks, id⟩ ps ass body) Q st = (allLt (K + n) st.s = true ∧ rngC P ⟨f, K, n, K2, ks, id⟩ ps ass body Q (st.keepS ks) (f.ev (st.keepS ks))) := by
  simp only [awp, allLt_eq]; rfl
theorem fnM_of {E : Env} {f : Nat} {fn : Func} {ac : AC} {rvs : List RV} {args : List PV} {Q : PV → St → Prop} {s : List (Nat × PV)} {b : List (Nat × List PV)} {a : List (Nat × Arr)} {m : List (Nat × Mp)} (K : Nat) (hf : E.p.funcs[f]? = some fn) (hok : fnOkK E.p K ac rvs fn = true) (hn : args.length ≤ fn.ntmps)
    (hlow : allLt K s = true) (hkk : E.kk ≤ K) (h : awp E ac (retM K rvs Q) ⟨argS K args s, b, a, m⟩) (hpn : ∀ ch st, ¬ E.pan ch st := by exact fun _ _ h => h) : FnM E f args ⟨s, b, a, m⟩ Q :=
  FnM.of_awp K hf hok hn (by rw [allLt_eq]; exact hlow) hkk h hpn
def onlyL {α : Type} (ks : List Nat) : List (Nat × α) → List (Nat × α)
  | [] => []
  | (i, v) :: r => if inL ks i = true then (i, v) :: onlyL ks r else onlyL ks r
@[push_cast] theorem onlyL_nil {α : Type} (ks : List Nat) : onlyL ks ([] : List (Nat × α)) = [] := rfl
@[push_cast] theorem onlyL_cons {α : Type} (ks : List Nat) (i : Nat) (v : α) (r : List (Nat × α)) : onlyL ks ((i, v) :: r) = if inL ks i = true then (i, v) :: onlyL ks r else onlyL ks r := rfl
theorem onlyL_eq {α : Type} (ks : List Nat) (l : List (Nat × α)) : onlyL ks l = l.filter fun x => inL ks x.1 := by
  induction l with
  | nil => rfl
  | cons x r ih =>
    obtain ⟨i, v⟩ := x
    simp only [onlyL, List.filter_cons, ih]
theorem lk_only {α : Type} {ks : List Nat} {l : List (Nat × α)} {i : Nat} {v : α} (h : lk (onlyL ks l) i = some v) : lk l i = some v := by
  rw [onlyL_eq] at h
  exact lk_filter_le l (fun x => inL ks x.1) (fun _ _ => rfl) i v h
def St.only (st : St) (ks bs ar ms : List Nat) : St := ⟨onlyL ks st.s, onlyL bs st.b, onlyL ar st.a, onlyL ms st.m⟩
@[push_cast] theorem only_mk (s : List (Nat × PV)) (b : List (Nat × List PV)) (a : List (Nat × Arr)) (m : List (Nat × Mp)) (ks bs ar ms : List Nat) : St.only ⟨s, b, a, m⟩ ks bs ar ms = ⟨onlyL ks s, onlyL bs b, onlyL ar a, onlyL ms m⟩ := rfl
theorem FnM.only {E : Env} {f : Nat} {args : List PV} {st : St} {Q : PV → St → Prop} (ks bs ar ms : List Nat) (h : FnM E f args (st.only ks bs ar ms) Q) : FnM E f args st Q :=
  ⟨h.1, fun w0 Z0 X G Z L w vs h1 h2 h3 => h.2 w0 Z0 X G Z L w vs h1 (h2.forget (fun _ _ h => .inl (lk_only h)) (fun _ _ h => lk_only h) (fun _ _ h => lk_only h) (fun _ _ h => lk_only h)) h3⟩
def St.onlyB (st : St) (bs : List Nat) : St := ⟨st.s, onlyL bs st.b, st.a, st.m⟩
@[push_cast] theorem onlyB_mk (s : List (Nat × PV)) (b : List (Nat × List PV)) (a : List (Nat × Arr)) (m : List (Nat × Mp)) (bs : List Nat) : St.onlyB ⟨s, b, a, m⟩ bs = ⟨s, onlyL bs b, a, m⟩ := rfl
end Go.Vc
attribute [push_cast] ite_true ite_false Bool.false_eq_true Bool.or_false Bool.false_or Bool.or_true Bool.true_or Bool.and_true Bool.true_and Bool.and_false Bool.false_and cond_true cond_false Nat.zero_add Nat.add_zero Nat.zero_mul Nat.mul_zero Nat.succ_ne_self beq_self_eq_true true_and and_true Int.toNat_natCast Int.cast_ofNat_Int decide_true decide_false Nat.zero_le
namespace Go.Vc
open Go Go.RowKit
def stkC (ls : List (Nat × List (List PV))) : PV := .tup (ls.map fun x => .sl false x.1 x.2)
@[push_cast] theorem toV_stk (pb pa : Nat → Bool) (ls : List (Nat × List (List PV))) : PV.toV pb pa (stkC ls) = false := by
  show (ls.map fun x => PV.sl false x.1 x.2).any (PV.toA pb pa) = false
  rw [List.any_eq_false]
  intro x hx
  obtain ⟨y, _, rfl⟩ := List.mem_map.1 hx
  simp [PV.toA, PV.to]
theorem Inv.slotG {w0 : World} {Z0 : Zone} {X : Gh} {G : Nat → Value} {Z : Zone} {L : Lay} {st : St} {w : World} (h : Mem w0 Z0 X G Z L st w) {i : Nat} {v : PV} (hl : lk st.s i = some v) : VR w Z L v (G i) := by
  have := h.slots i v hl
  rwa [show Fr.val ⟨0, 0, G, X, none⟩ ⟨#[], []⟩ i = G i from by unfold Fr.val; rw [if_neg (by simp only; omega)]] at this
theorem Inv.setG {w0 : World} {Z0 : Zone} {X : Gh} {G G' : Nat → Value} {Z : Zone} {L : Lay} {s s' : List (Nat × PV)} {b : List (Nat × List PV)} {a : List (Nat × Arr)} {m : List (Nat × Mp)} {w : World}
    (h : Mem w0 Z0 X G Z L ⟨s, b, a, m⟩ w) (hs : ∀ i v, lk s' i = some v → VR w Z L v (G' i)) : Mem w0 Z0 X G' Z L ⟨s', b, a, m⟩ w := by
  refine ⟨h.zt, h.z0, h.zn, h.zb, h.below, h.ownb, h.owna, h.injb, h.inja, h.injx, h.boxes, h.arrs, h.ownm, h.injm, h.maps, h.oth, h.yb, h.size, h.defers, fun i v hl => ?_⟩
  rw [show Fr.val ⟨0, 0, G', X, none⟩ ⟨#[], []⟩ i = G' i from by unfold Fr.val; rw [if_neg (by simp only; omega)]]
  exact hs i v hl
def ptrOf (L : Lay) : PV → Value
  | .ptr id _ => .pointer (some ⟨L.bx id, 0, none⟩)
  | _ => undef
end Go.Vc
