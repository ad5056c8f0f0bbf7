/- TxtG T U TxtI V: lemmas for PLocal -/
import Derived.Test.YtledbjkolidhkaaPart06
import Derived.Test.YtledbjkolidhkaaChecked
import Derived.Test.YtledbjkolidhkaaPart11
set_option linter.unusedSimpArgs false
set_option linter.unusedVariables false
namespace Go.Proofs.Ytledbjkolidhkaa.Txt
open Go Go.Vc
set_option maxRecDepth 100000
def ac13 : AC :=
 (.seq (.reg [0, 18, 0] [
 ⟨some 1, none, .box (.t 0)⟩, ⟨some 2, none, .alc [.nil, .nil, .nil, .nil, .sc (.int .i64 0)]⟩])
 (.seq (.reg [0, 18, 1, 2] [
 ⟨some 6, none, .fa 5 (.t 1)⟩, ⟨some 7, none, .ld true 4 (.t 6)⟩, ⟨some 8, none, .fa 0 (.t 1)⟩, ⟨some 9, none, .ld true 5 (.t 8)⟩, ⟨some 10, none, .fa 9 (.t 1)⟩, ⟨some 11, none, .ld true 2 (.t 10)⟩, ⟨some 12, none, .cal 36 [(.t 7), (.t 9), (.t 11)]⟩, ⟨some 5, none, .mv (.t 12)⟩, ⟨some 13, none, .ext (.t 5) 0⟩, ⟨some 14, none, .ext (.t 5) 1⟩, ⟨some 3, none, .alc [.nil, .nil, .nil, .nil]⟩, ⟨none, none, .sto 4 (.t 3) (.t 13)⟩, ⟨some 4, none, .mv (.t 14)⟩])
 (.seq (.reg [0, 18, 2, 3, 4] [
 ⟨some 15, none, .ld true 4 (.t 3)⟩, ⟨some 16, none, .mv (.t 4)⟩, ⟨some 17, none, .bld [.nil, .nil, .nil, .nil, .sc (.int .i64 0)] [(0, 4, (.t 15)), (4, 1, (.t 16))]⟩, ⟨none, none, .sto 5 (.t 2) (.t 17)⟩])
 .ret)))
def rv13 : List RV := [.cell 2 true 5]
theorem ok13 : fnOk Try.prog ac13 rv13 Try.f13 = true := by kernel_rfl

def ac15 : AC :=
 (.seq (.reg [0, 31, 0, 1] [
 ⟨some 2, none, .box (.t 0)⟩, ⟨some 3, none, .box (.t 1)⟩, ⟨some 4, none, .mv (.c (.sc (.bool false)))⟩])
 (.seq (.reg [0, 31, 2, 3] [
 ⟨some 5, none, .fa 0 (.t 2)⟩, ⟨some 6, none, .ld false 1 (.t 5)⟩, ⟨some 7, none, .fa 0 (.t 3)⟩, ⟨some 8, none, .ld false 1 (.t 7)⟩, ⟨some 9, none, .cal 25 [(.t 6), (.t 8)]⟩, ⟨some 10, none, .mv (.t 9)⟩, ⟨some 11, some (10, true), .fa 1 (.t 2)⟩, ⟨some 12, some (10, true), .ld false 1 (.t 11)⟩, ⟨some 13, some (10, true), .fa 1 (.t 3)⟩, ⟨some 14, some (10, true), .ld false 1 (.t 13)⟩, ⟨some 15, some (10, true), .cal 25 [(.t 12), (.t 14)]⟩, ⟨some 16, none, .pick (.t 10) (.t 15) (.c (.sc (.bool false)))⟩, ⟨some 17, none, .mv (.t 16)⟩, ⟨some 18, some (17, true), .fa 2 (.t 2)⟩, ⟨some 19, some (17, true), .ld false 1 (.t 18)⟩, ⟨some 20, some (17, true), .fa 2 (.t 3)⟩, ⟨some 21, some (17, true), .ld false 1 (.t 20)⟩, ⟨some 22, some (17, true), .cal 25 [(.t 19), (.t 21)]⟩, ⟨some 23, none, .pick (.t 17) (.t 22) (.c (.sc (.bool false)))⟩, ⟨some 24, none, .mv (.t 23)⟩, ⟨some 25, some (24, true), .fa 3 (.t 2)⟩, ⟨some 26, some (24, true), .ld false 1 (.t 25)⟩, ⟨some 27, some (24, true), .fa 3 (.t 3)⟩, ⟨some 28, some (24, true), .ld false 1 (.t 27)⟩, ⟨some 29, some (24, true), .cal 25 [(.t 26), (.t 28)]⟩, ⟨some 30, none, .pick (.t 24) (.t 29) (.c (.sc (.bool false)))⟩, ⟨some 4, none, .mv (.t 30)⟩])
 .ret))
def rv15 : List RV := [.tmp 4]
theorem ok15 : fnOk Try.prog ac15 rv15 Try.f15 = true := by kernel_rfl

def ac19 : AC :=
 (.seq (.reg [0, 82, 0, 1] [
 ⟨some 2, none, .box (.t 0)⟩, ⟨some 3, none, .box (.t 1)⟩, ⟨some 4, none, .mv (.c (.sc (.int .i64 0)))⟩])
 (.seq (.reg [0, 82, 2, 3] [
 ⟨some 8, none, .fa 0 (.t 2)⟩, ⟨some 9, none, .ld false 1 (.t 8)⟩, ⟨some 10, none, .fa 1 (.t 2)⟩, ⟨some 11, none, .ld false 1 (.t 10)⟩, ⟨some 12, none, .ari .mul true .i64 (.t 9) (.t 11)⟩, ⟨some 5, none, .mv (.t 12)⟩])
 (.seq (.seq (.drw [0, 82, 2, 3, 5] [
 ⟨⟨some 13, none, .fa 0 (.t 3)⟩, [], [], true⟩, ⟨⟨some 14, none, .ld false 1 (.t 13)⟩, [], [], true⟩, ⟨⟨some 15, none, .len (.t 14)⟩, [], [], true⟩, ⟨⟨some 16, none, .ld true 5 (.t 2)⟩, [], [], true⟩, ⟨⟨some 17, none, .cal 22 [(.t 16)]⟩, [], [], true⟩, ⟨⟨some 18, none, .cmp .neq .i64 (.t 15) (.t 17)⟩, [], [], false⟩, ⟨⟨some 19, none, .mv (.t 18)⟩, [], [], false⟩, ⟨⟨some 20, some (19, false), .fa 1 (.t 3)⟩, [], [], true⟩, ⟨⟨some 21, some (19, false), .ld false 1 (.t 20)⟩, [], [], true⟩, ⟨⟨some 22, some (19, false), .len (.t 21)⟩, [], [], true⟩, ⟨⟨some 23, some (19, false), .mv (.t 5)⟩, [], [], true⟩, ⟨⟨some 24, some (19, false), .cmp .neq .i64 (.t 22) (.t 23)⟩, [], [], false⟩, ⟨⟨some 25, none, .pick (.t 19) (.c (.sc (.bool true))) (.t 24)⟩, [], [], false⟩, ⟨⟨some 26, none, .mv (.t 25)⟩, [], [], false⟩, ⟨⟨some 27, some (26, false), .fa 2 (.t 3)⟩, [], [], true⟩, ⟨⟨some 28, some (26, false), .ld false 1 (.t 27)⟩, [], [], true⟩, ⟨⟨some 29, some (26, false), .len (.t 28)⟩, [], [], true⟩, ⟨⟨some 30, some (26, false), .mv (.t 5)⟩, [], [], true⟩, ⟨⟨some 31, some (26, false), .cmp .neq .i64 (.t 29) (.t 30)⟩, [], [], false⟩, ⟨⟨some 32, none, .pick (.t 26) (.c (.sc (.bool true))) (.t 31)⟩, [], [], false⟩, ⟨⟨some 33, none, .mv (.t 32)⟩, [], [], false⟩, ⟨⟨some 34, some (33, false), .fa 3 (.t 3)⟩, [], [], true⟩, ⟨⟨some 35, some (33, false), .ld false 1 (.t 34)⟩, [], [], true⟩, ⟨⟨some 36, some (33, false), .len (.t 35)⟩, [], [], true⟩, ⟨⟨some 37, some (33, false), .mv (.t 5)⟩, [], [], true⟩, ⟨⟨some 38, some (33, false), .cmp .neq .i64 (.t 36) (.t 37)⟩, [], [], false⟩, ⟨⟨some 39, none, .pick (.t 33) (.c (.sc (.bool true))) (.t 38)⟩, [], [], false⟩])
 (.cut [0, 82, 2, 3, 5, 39] (.cond (.t 39)
 (.seq (.reg [0, 82] [
 ⟨some 4, none, .mv (.c (.sc (.int .i64 310)))⟩])
 .ret)
 .skip)))
 (.seq (.seq (.reg [0, 82, 2, 3, 5] [
 ⟨some 6, none, .mv (.c (.sc (.int .i64 0)))⟩])
 (.block 0
 (.loop [0, 82, 2, 3, 5, 6]
 (.seq (.seq (.reg [0, 82, 2, 3, 5, 6] [
 ⟨some 40, none, .mv (.t 6)⟩, ⟨some 41, none, .fa 0 (.t 3)⟩, ⟨some 42, none, .ld false 1 (.t 41)⟩, ⟨some 43, none, .len (.t 42)⟩, ⟨some 44, none, .cmp .lss .i64 (.t 40) (.t 43)⟩])
 (.cond (.t 44)
 .skip
 (.exit 0)))
 (.seq (.block 1
 (.seq (.drw [0, 82, 2, 3, 5, 6] [
 ⟨⟨some 47, none, .fa 0 (.t 3)⟩, [], [], true⟩, ⟨⟨some 48, none, .ld false 1 (.t 47)⟩, [], [], true⟩, ⟨⟨some 49, none, .mv (.t 6)⟩, [], [], true⟩, ⟨⟨some 50, none, .ixs 1 (.t 48) (.t 49)⟩, [], [], false⟩, ⟨⟨some 51, none, .ld false 1 (.t 50)⟩, [], [], false⟩, ⟨⟨some 52, none, .cmp .neq .i64 (.t 51) (.c (.sc (.int .i64 0)))⟩, [], [], false⟩, ⟨⟨some 53, none, .mv (.t 52)⟩, [], [], false⟩, ⟨⟨some 54, some (53, true), .fa 0 (.t 3)⟩, [], [], true⟩, ⟨⟨some 55, some (53, true), .ld false 1 (.t 54)⟩, [], [], true⟩, ⟨⟨some 56, some (53, true), .mv (.t 6)⟩, [], [], true⟩, ⟨⟨some 57, some (53, true), .ixs 1 (.t 55) (.t 56)⟩, [], [], false⟩, ⟨⟨some 58, some (53, true), .ld false 1 (.t 57)⟩, [], [], false⟩, ⟨⟨some 59, some (53, true), .cmp .lss .i64 (.t 58) (.c (.sc (.int .i64 0)))⟩, [], [], false⟩, ⟨⟨some 60, some (53, true), .mv (.t 59)⟩, [], [], false⟩, ⟨⟨some 61, some (60, false), .fa 0 (.t 3)⟩, [], [], true⟩, ⟨⟨some 62, some (60, false), .ld false 1 (.t 61)⟩, [], [], true⟩, ⟨⟨some 63, some (60, false), .mv (.t 6)⟩, [], [], true⟩, ⟨⟨some 64, some (60, false), .ixs 1 (.t 62) (.t 63)⟩, [], [], true⟩, ⟨⟨some 65, some (60, false), .ld false 1 (.t 64)⟩, [], [], true⟩, ⟨⟨some 66, some (60, false), .ld true 5 (.t 2)⟩, [], [], true⟩, ⟨⟨some 67, some (60, false), .mv (.t 6)⟩, [], [], true⟩, ⟨⟨some 68, some (60, false), .cal 39 [(.t 66), (.t 67)]⟩, [], [], true⟩, ⟨⟨some 69, some (60, false), .cmp .gtr .i64 (.t 65) (.t 68)⟩, [], [], false⟩, ⟨⟨some 70, some (53, true), .pick (.t 60) (.c (.sc (.bool true))) (.t 69)⟩, [], [], false⟩, ⟨⟨some 71, none, .pick (.t 53) (.t 70) (.c (.sc (.bool false)))⟩, [], [], false⟩])
 (.cut [0, 82, 2, 3, 5, 6, 71] (.cond (.t 71)
 (.seq (.reg [0, 82] [
 ⟨some 4, none, .mv (.c (.sc (.int .i64 310)))⟩])
 .ret)
 .skip))))
 (.reg [0, 82, 2, 3, 5, 6] [
 ⟨some 45, none, .mv (.t 6)⟩, ⟨some 46, none, .ari .add true .i64 (.t 45) (.c (.sc (.int .i64 1)))⟩, ⟨some 6, none, .mv (.t 46)⟩]))))))
 (.seq (.seq (.reg [0, 82, 2, 3, 5] [
 ⟨some 7, none, .mv (.c (.sc (.int .i64 0)))⟩])
 (.block 2
 (.loop [0, 82, 2, 3, 5, 7]
 (.seq (.seq (.reg [0, 82, 2, 3, 5, 7] [
 ⟨some 72, none, .mv (.t 7)⟩, ⟨some 73, none, .mv (.t 5)⟩, ⟨some 74, none, .cmp .lss .i64 (.t 72) (.t 73)⟩])
 (.cond (.t 74)
 .skip
 (.exit 2)))
 (.seq (.block 3
 (.seq (.reg [0, 82, 2, 3, 5, 7] [
 ⟨some 77, none, .ld true 5 (.t 2)⟩, ⟨some 78, none, .ld true 4 (.t 3)⟩, ⟨some 79, none, .mv (.t 7)⟩, ⟨some 80, none, .cal 44 [(.t 77), (.t 78), (.t 79)]⟩, ⟨some 81, none, .not (.t 80)⟩])
 (.cond (.t 81)
 (.seq (.reg [0, 82] [
 ⟨some 4, none, .mv (.c (.sc (.int .i64 310)))⟩])
 .ret)
 .skip)))
 (.reg [0, 82, 2, 3, 5, 7] [
 ⟨some 75, none, .mv (.t 7)⟩, ⟨some 76, none, .ari .add true .i64 (.t 75) (.c (.sc (.int .i64 1)))⟩, ⟨some 7, none, .mv (.t 76)⟩]))))))
 (.seq (.reg [0, 82] [
 ⟨some 4, none, .mv (.c (.sc (.int .i64 0)))⟩])
 .ret))))))
def rv19 : List RV := [.tmp 4]
theorem ok19 : fnOk Try.prog ac19 rv19 Try.f19 = true := by kernel_rfl

def ac21 : AC :=
 (.seq (.reg [0, 19, 0] [
 ⟨some 1, none, .box (.t 0)⟩, ⟨some 2, none, .alc [.nil, .nil, .nil, .nil]⟩])
 (.seq (.reg [0, 19, 1, 2] [
 ⟨some 4, none, .fa 0 (.t 1)⟩, ⟨some 5, none, .ld false 1 (.t 4)⟩, ⟨some 6, none, .fa 1 (.t 1)⟩, ⟨some 7, none, .ld false 1 (.t 6)⟩, ⟨some 8, none, .ari .mul true .i64 (.t 5) (.t 7)⟩, ⟨some 3, none, .mv (.t 8)⟩])
 (.seq (.drw [0, 19, 1, 2, 3] [
 ⟨⟨some 9, none, .ld true 5 (.t 1)⟩, [], [13, 15, 17], true⟩, ⟨⟨some 10, none, .cal 22 [(.t 9)]⟩, [], [13, 15, 17], true⟩, ⟨⟨some 11, none, .mks 1 3 8 [.sc (.int .i64 0)] (.t 10) (.t 10)⟩, [11], [13, 15, 17], true⟩, ⟨⟨some 12, none, .mv (.t 3)⟩, [], [11, 15, 17], true⟩, ⟨⟨some 13, none, .mks 1 3 8 [.sc (.int .i64 0)] (.t 12) (.t 12)⟩, [13], [11, 15, 17], true⟩, ⟨⟨some 14, none, .mv (.t 3)⟩, [], [11, 13, 17], true⟩, ⟨⟨some 15, none, .mks 1 3 8 [.sc (.int .i64 0)] (.t 14) (.t 14)⟩, [15], [11, 13, 17], true⟩, ⟨⟨some 16, none, .mv (.t 3)⟩, [], [11, 13, 15], true⟩, ⟨⟨some 17, none, .mks 1 3 8 [.sc (.int .i64 0)] (.t 16) (.t 16)⟩, [17], [11, 13, 15], true⟩, ⟨⟨some 18, none, .bld [.nil, .nil, .nil, .nil] [(0, 1, (.t 11)), (1, 1, (.t 13)), (2, 1, (.t 15)), (3, 1, (.t 17))]⟩, [], [], false⟩, ⟨⟨none, none, .sto 4 (.t 2) (.t 18)⟩, [], [], false⟩])
 .ret)))
def rv21 : List RV := [.cell 2 true 4]
theorem ok21 : fnOk Try.prog ac21 rv21 Try.f21 = true := by kernel_rfl

def ac23 : AC :=
 (.seq (.reg [0, 19, 0, 1, 2] [
 ⟨some 3, none, .box (.t 0)⟩, ⟨some 4, none, .box (.t 1)⟩, ⟨some 6, none, .alc [.sc (.int .i64 0), .sc (.int .i64 0)]⟩])
 (.seq (.reg [0, 19, 2, 3, 4, 6] [
 ⟨some 10, none, .ld true 5 (.t 3)⟩, ⟨some 11, none, .ld true 4 (.t 4)⟩, ⟨some 12, none, .mv (.t 2)⟩, ⟨some 13, none, .cal 46 [(.t 10), (.t 11), (.t 12)]⟩, ⟨some 9, none, .mv (.t 13)⟩, ⟨some 14, none, .ext (.t 9) 0⟩, ⟨some 15, none, .ext (.t 9) 1⟩, ⟨some 7, none, .mv (.t 14)⟩, ⟨some 8, none, .mv (.t 15)⟩])
 (.seq (.reg [0, 19, 6, 7, 8] [
 ⟨some 16, none, .mv (.t 7)⟩, ⟨some 17, none, .mv (.t 8)⟩, ⟨some 18, none, .bld [.sc (.int .i64 0), .sc (.int .i64 0)] [(0, 1, (.t 16)), (1, 1, (.t 17))]⟩, ⟨none, none, .sto 2 (.t 6) (.t 18)⟩])
 .ret)))
def rv23 : List RV := [.cell 6 true 2]
theorem ok23 : fnOk Try.prog ac23 rv23 Try.f23 = true := by kernel_rfl

def ac28 : AC :=
 (.seq (.reg [0, 16, 0, 1] [
 ⟨some 2, none, .box (.t 0)⟩, ⟨some 3, none, .box (.t 1)⟩, ⟨some 4, none, .alc [.nil, .nil]⟩])
 (.seq (.reg [0, 16, 2, 3, 4] [
 ⟨some 8, none, .ld true 4 (.t 2)⟩, ⟨some 9, none, .ld true 4 (.t 3)⟩, ⟨some 10, none, .cal 47 [(.t 8), (.t 9)]⟩, ⟨some 7, none, .mv (.t 10)⟩, ⟨some 11, none, .ext (.t 7) 0⟩, ⟨some 12, none, .ext (.t 7) 1⟩, ⟨some 5, none, .mv (.t 11)⟩, ⟨some 6, none, .mv (.t 12)⟩])
 (.seq (.reg [0, 16, 4, 5, 6] [
 ⟨some 13, none, .mv (.t 5)⟩, ⟨some 14, none, .mv (.t 6)⟩, ⟨some 15, none, .bld [.nil, .nil] [(0, 1, (.t 13)), (1, 1, (.t 14))]⟩, ⟨none, none, .sto 2 (.t 4) (.t 15)⟩])
 .ret)))
def rv28 : List RV := [.cell 4 true 2]
theorem ok28 : fnOk Try.prog ac28 rv28 Try.f28 = true := by kernel_rfl

def ac33 : AC :=
 (.seq (.reg [0, 3] [
 ⟨some 0, none, .alc [.sc (.int .i64 0), .sc (.int .i64 0), .sc (.int .i64 0), .sc (.int .i64 0), .nil]⟩])
 (.seq (.reg [0, 3, 0] [
 ⟨some 1, none, .bsl 1 3 [.sc (.int .i64 0)] 2 [(0, (.c (.sc (.int .i64 1)))), (1, (.c (.sc (.int .i64 2))))]⟩, ⟨some 2, none, .bld [.sc (.int .i64 0), .sc (.int .i64 0), .sc (.int .i64 0), .sc (.int .i64 0), .nil] [(0, 1, (.c (.sc (.int .i64 2)))), (1, 1, (.c (.sc (.int .i64 1)))), (2, 1, (.c (.sc (.int .i64 1)))), (3, 1, (.c (.sc (.int .i64 1)))), (4, 1, (.t 1))]⟩, ⟨none, none, .sto 5 (.t 0) (.t 2)⟩])
 .ret))
def rv33 : List RV := [.cell 0 true 5]
theorem ok33 : fnOk Try.prog ac33 rv33 Try.f33 = true := by kernel_rfl

def ac34 : AC :=
 (.seq (.reg [0, 103, 0, 1] [
 ⟨some 2, none, .box (.t 0)⟩, ⟨some 4, none, .alc [.sc (.int .i64 0), .sc (.int .i64 0), .sc (.int .i64 0), .sc (.int .i64 0), .nil, .nil, .nil, .nil, .nil, .nil, .nil]⟩])
 (.seq (.seq (.reg [0, 103, 1, 2, 4] [
 ⟨some 5, none, .mv (.c (.sc (.int .i64 0)))⟩])
 (.block 0
 (.loop [0, 103, 1, 2, 4, 5]
 (.seq (.seq (.reg [0, 103, 1, 2, 4, 5] [
 ⟨some 8, none, .mv (.t 5)⟩, ⟨some 9, none, .mv (.t 1)⟩, ⟨some 10, none, .len (.t 9)⟩, ⟨some 11, none, .cmp .lss .i64 (.t 8) (.t 10)⟩, ⟨some 12, none, .mv (.t 11)⟩, ⟨some 13, some (12, true), .mv (.t 5)⟩, ⟨some 14, some (12, true), .cmp .lss .i64 (.t 13) (.c (.sc (.int .i64 12)))⟩, ⟨some 15, none, .pick (.t 12) (.t 14) (.c (.sc (.bool false)))⟩])
 (.cut [0, 103, 1, 2, 4, 5, 15] (.cond (.t 15)
 .skip
 (.exit 0))))
 (.seq (.block 1
 (.seq (.drw [0, 103, 1, 2, 4, 5] [
 ⟨⟨some 18, none, .mv (.t 1)⟩, [], [], true⟩, ⟨⟨some 19, none, .mv (.t 5)⟩, [], [], true⟩, ⟨⟨some 20, none, .ixs 3 (.t 18) (.t 19)⟩, [], [], true⟩, ⟨⟨some 21, none, .ixa 3 1 (.t 20) (.c (.sc (.int .i64 0)))⟩, [], [], true⟩, ⟨⟨some 22, none, .ld false 1 (.t 21)⟩, [], [], true⟩, ⟨⟨some 23, none, .cnv true .i64 (.t 22)⟩, [], [], true⟩, ⟨⟨some 24, none, .fa 0 (.t 2)⟩, [], [], true⟩, ⟨⟨some 25, none, .fa 0 (.t 24)⟩, [], [], true⟩, ⟨⟨some 26, none, .ld false 1 (.t 25)⟩, [], [], true⟩, ⟨⟨some 27, none, .fa 0 (.t 2)⟩, [], [], true⟩, ⟨⟨some 28, none, .fa 1 (.t 27)⟩, [], [], true⟩, ⟨⟨some 29, none, .ld false 1 (.t 28)⟩, [], [], true⟩, ⟨⟨some 30, none, .ari .mul true .i64 (.t 26) (.t 29)⟩, [], [], true⟩, ⟨⟨some 31, none, .dvd .rem true .i64 (.t 23) (.t 30)⟩, [], [], false⟩, ⟨⟨some 6, none, .mv (.t 31)⟩, [], [], false⟩])
 (.seq (.drw [0, 103, 1, 2, 4, 5, 6] [
 ⟨⟨some 32, none, .mv (.t 1)⟩, [], [7], true⟩, ⟨⟨some 33, none, .mv (.t 5)⟩, [], [7], true⟩, ⟨⟨some 34, none, .ixs 3 (.t 32) (.t 33)⟩, [], [7], true⟩, ⟨⟨some 35, none, .ixa 3 1 (.t 34) (.c (.sc (.int .i64 1)))⟩, [], [7], true⟩, ⟨⟨some 36, none, .ld false 1 (.t 35)⟩, [], [7], true⟩, ⟨⟨some 37, none, .cnv true .i64 (.t 36)⟩, [], [7], true⟩, ⟨⟨some 38, none, .ari .mul true .i64 (.c (.sc (.int .i64 256))) (.t 37)⟩, [], [7], true⟩, ⟨⟨some 39, none, .mv (.t 1)⟩, [], [7], true⟩, ⟨⟨some 40, none, .mv (.t 5)⟩, [], [7], true⟩, ⟨⟨some 41, none, .ixs 3 (.t 39) (.t 40)⟩, [], [7], true⟩, ⟨⟨some 42, none, .ixa 3 1 (.t 41) (.c (.sc (.int .i64 2)))⟩, [], [7], true⟩, ⟨⟨some 43, none, .ld false 1 (.t 42)⟩, [], [7], true⟩, ⟨⟨some 44, none, .cnv true .i64 (.t 43)⟩, [], [7], true⟩, ⟨⟨some 45, none, .ari .add true .i64 (.t 38) (.t 44)⟩, [], [7], true⟩, ⟨⟨some 46, none, .bld [.nil, .sc (.int .i64 0), .sc (.int .i64 0), .sc (.int .i64 0), .sc (.int .u64 0)] [(1, 1, (.t 45)), (2, 1, (.c (.sc (.int .i64 (-1))))), (3, 1, (.c (.sc (.int .i64 (-1)))))]⟩, [], [7], true⟩, ⟨⟨some 7, none, .alc [.nil, .sc (.int .i64 0), .sc (.int .i64 0), .sc (.int .i64 0), .sc (.int .u64 0)]⟩, [7], [], true⟩, ⟨⟨none, none, .sto 5 (.t 7) (.t 46)⟩, [], [], false⟩])
 (.seq (.seq (.reg [0, 103, 1, 2, 4, 5, 6, 7] [
 ⟨some 47, none, .mv (.t 1)⟩, ⟨some 48, none, .mv (.t 5)⟩, ⟨some 49, none, .ixs 3 (.t 47) (.t 48)⟩, ⟨some 50, none, .ixa 3 1 (.t 49) (.c (.sc (.int .i64 1)))⟩, ⟨some 51, none, .ld false 1 (.t 50)⟩, ⟨some 52, none, .dvd .rem true .u8 (.t 51) (.c (.sc (.int .u8 3)))⟩])
 (.block 2
 (.seq (.reg [0, 103, 1, 2, 4, 5, 6, 7, 52] [
 ⟨some 54, none, .cmp .eql .u8 (.t 52) (.c (.sc (.int .u8 1)))⟩, ⟨some 53, none, .mv (.t 54)⟩])
 (.cond (.t 53)
 (.reg [0, 103, 1, 2, 4, 5, 6, 7] [
 ⟨some 55, none, .mv (.t 1)⟩, ⟨some 56, none, .mv (.t 5)⟩, ⟨some 57, none, .ixs 3 (.t 55) (.t 56)⟩, ⟨some 58, none, .ixa 3 1 (.t 57) (.c (.sc (.int .i64 2)))⟩, ⟨some 59, none, .ld false 1 (.t 58)⟩, ⟨some 60, none, .dvd .rem true .u8 (.t 59) (.c (.sc (.int .u8 24)))⟩, ⟨some 61, none, .cnv true .i64 (.t 60)⟩, ⟨some 62, none, .fa 3 (.t 7)⟩, ⟨none, none, .sto 1 (.t 62) (.t 61)⟩])
 (.seq (.reg [0, 103, 1, 2, 4, 5, 6, 7, 52] [
 ⟨some 64, none, .cmp .eql .u8 (.t 52) (.c (.sc (.int .u8 2)))⟩, ⟨some 63, none, .mv (.t 64)⟩])
 (.cond (.t 63)
 (.reg [0, 103, 1, 2, 4, 5, 6, 7] [
 ⟨some 65, none, .mv (.t 1)⟩, ⟨some 66, none, .mv (.t 5)⟩, ⟨some 67, none, .ixs 3 (.t 65) (.t 66)⟩, ⟨some 68, none, .ixa 3 1 (.t 67) (.c (.sc (.int .i64 2)))⟩, ⟨some 69, none, .ld false 1 (.t 68)⟩, ⟨some 70, none, .dvd .rem true .u8 (.t 69) (.c (.sc (.int .u8 16)))⟩, ⟨some 71, none, .cnv true .i64 (.t 70)⟩, ⟨some 72, none, .fa 2 (.t 7)⟩, ⟨none, none, .sto 1 (.t 72) (.t 71)⟩])
 .skip))))))
 (.seq (.reg [0, 103, 1, 2, 4, 5, 6, 7] [
 ⟨some 73, none, .fa 9 (.t 2)⟩, ⟨some 74, none, .fa 0 (.t 73)⟩, ⟨some 75, none, .ld false 1 (.t 74)⟩, ⟨some 76, none, .mv (.t 6)⟩, ⟨some 77, none, .cal 38 [(.t 75), (.t 76)]⟩, ⟨some 78, none, .cmp .lss .i64 (.t 77) (.c (.sc (.int .i64 0)))⟩, ⟨some 79, none, .mv (.t 78)⟩, ⟨some 80, some (79, true), .fa 0 (.t 2)⟩, ⟨some 81, some (79, true), .ld true 5 (.t 80)⟩, ⟨some 82, some (79, true), .ld true 5 (.t 7)⟩, ⟨some 83, some (79, true), .mv (.t 6)⟩, ⟨some 84, some (79, true), .cal 52 [(.t 81), (.t 82), (.t 83)]⟩, ⟨some 85, none, .pick (.t 79) (.t 84) (.c (.sc (.bool false)))⟩])
 (.cut [0, 103, 1, 2, 4, 5, 6, 7, 85] (.cond (.t 85)
 (.seq (.reg [0, 103, 1, 2, 4, 5, 6, 7] [
 ⟨some 86, none, .fa 5 (.t 2)⟩, ⟨some 87, none, .fa 1 (.t 86)⟩, ⟨some 88, none, .ld false 1 (.t 87)⟩, ⟨some 89, none, .ld true 5 (.t 7)⟩, ⟨some 90, none, .bsl 5 76 [.nil, .sc (.int .i64 0), .sc (.int .i64 0), .sc (.int .i64 0), .sc (.int .u64 0)] 1 [(0, (.t 89))]⟩, ⟨some 91, none, .app 5 76 56 (.t 88) (.t 90)⟩, ⟨some 92, none, .fa 5 (.t 2)⟩, ⟨some 93, none, .fa 1 (.t 92)⟩, ⟨none, none, .sto 1 (.t 93) (.t 91)⟩])
 (.reg [0, 103, 1, 2, 4, 5, 6] [
 ⟨some 94, none, .fa 9 (.t 2)⟩, ⟨some 95, none, .fa 0 (.t 94)⟩, ⟨some 96, none, .ld false 1 (.t 95)⟩, ⟨some 97, none, .mv (.t 6)⟩, ⟨some 98, none, .bsl 1 3 [.sc (.int .i64 0)] 1 [(0, (.t 97))]⟩, ⟨some 99, none, .app 1 3 8 (.t 96) (.t 98)⟩, ⟨some 100, none, .fa 9 (.t 2)⟩, ⟨some 101, none, .fa 0 (.t 100)⟩, ⟨none, none, .sto 1 (.t 101) (.t 99)⟩]))
 .skip)))))))
 (.reg [0, 103, 1, 2, 4, 5] [
 ⟨some 16, none, .mv (.t 5)⟩, ⟨some 17, none, .ari .add true .i64 (.t 16) (.c (.sc (.int .i64 1)))⟩, ⟨some 5, none, .mv (.t 17)⟩]))))))
 (.seq (.reg [0, 103, 2, 4] [
 ⟨some 102, none, .ld true 11 (.t 2)⟩, ⟨none, none, .sto 11 (.t 4) (.t 102)⟩])
 .ret)))
def rv34 : List RV := [.cell 4 true 11]
theorem ok34 : fnOk Try.prog ac34 rv34 Try.f34 = true := by kernel_rfl

def ac35 : AC :=
 (.seq (.reg [0, 120, 0, 1, 2] [
 ⟨some 3, none, .box (.t 0)⟩, ⟨some 6, none, .alc [.sc (.int .i64 0), .nil, .nil]⟩])
 (.seq (.reg [0, 120, 1, 2, 3, 6] [
 ⟨some 14, none, .ld true 5 (.t 3)⟩, ⟨some 15, none, .cal 53 [(.t 14)]⟩, ⟨some 7, none, .mv (.t 15)⟩])
 (.seq (.reg [0, 120, 1, 2, 3, 6, 7] [
 ⟨some 16, none, .bld [.sc (.int .i64 0), .nil, .nil] []⟩, ⟨some 8, none, .alc [.sc (.int .i64 0), .nil, .nil]⟩, ⟨none, none, .sto 3 (.t 8) (.t 16)⟩])
 (.seq (.seq (.reg [0, 120, 1, 2, 3, 6, 7, 8] [
 ⟨some 9, none, .mv (.c (.sc (.int .i64 0)))⟩])
 (.block 0
 (.loop [0, 120, 1, 2, 3, 6, 7, 8, 9]
 (.seq (.seq (.reg [0, 120, 1, 2, 3, 6, 7, 8, 9] [
 ⟨some 17, none, .mv (.t 9)⟩, ⟨some 18, none, .mv (.t 2)⟩, ⟨some 19, none, .len (.t 18)⟩, ⟨some 20, none, .cmp .lss .i64 (.t 17) (.t 19)⟩, ⟨some 21, none, .mv (.t 20)⟩, ⟨some 22, some (21, true), .mv (.t 9)⟩, ⟨some 23, some (21, true), .cmp .lss .i64 (.t 22) (.c (.sc (.int .i64 16)))⟩, ⟨some 24, none, .pick (.t 21) (.t 23) (.c (.sc (.bool false)))⟩])
 (.cut [0, 120, 1, 2, 3, 6, 7, 8, 9, 24] (.cond (.t 24)
 .skip
 (.exit 0))))
 (.seq (.block 1
 (.seq (.seq (.reg [0, 120, 1, 2, 3, 6, 7, 8, 9] [
 ⟨some 27, none, .fa 1 (.t 8)⟩, ⟨some 28, none, .ld false 1 (.t 27)⟩, ⟨some 29, none, .len (.t 28)⟩, ⟨some 30, none, .cmp .eql .i64 (.t 29) (.c (.sc (.int .i64 0)))⟩])
 (.cond (.t 30)
 (.seq (.reg [0, 120, 1, 2, 3, 6, 7, 8, 9] [
 ⟨some 31, none, .mv (.t 7)⟩, ⟨some 32, none, .mv (.t 2)⟩, ⟨some 33, none, .mv (.t 9)⟩, ⟨some 34, none, .ixs 1 (.t 32) (.t 33)⟩, ⟨some 35, none, .ld false 1 (.t 34)⟩, ⟨some 36, none, .cnv true .i64 (.t 35)⟩, ⟨some 37, none, .mv (.t 7)⟩, ⟨some 38, none, .len (.t 37)⟩, ⟨some 39, none, .dvd .rem true .i64 (.t 36) (.t 38)⟩, ⟨some 40, none, .ixs 1 (.t 31) (.t 39)⟩, ⟨some 41, none, .ld false 1 (.t 40)⟩, ⟨some 10, none, .mv (.t 41)⟩])
 (.seq (.seq (.reg [0, 120, 1, 2, 3, 6, 7, 8, 9, 10] [
 ⟨some 42, none, .mv (.t 1)⟩, ⟨some 43, none, .mv (.t 10)⟩, ⟨some 44, none, .ixs 1 (.t 42) (.t 43)⟩, ⟨some 45, none, .ld false 1 (.t 44)⟩, ⟨some 46, none, .not (.t 45)⟩])
 (.cond (.t 46)
 (.seq (.reg [0, 120, 1, 2, 3, 6, 7, 8, 9, 10] [
 ⟨some 47, none, .fa 1 (.t 8)⟩, ⟨some 48, none, .ld false 1 (.t 47)⟩, ⟨some 49, none, .mv (.t 10)⟩, ⟨some 50, none, .bsl 1 3 [.sc (.int .i64 0)] 1 [(0, (.t 49))]⟩, ⟨some 51, none, .app 1 3 8 (.t 48) (.t 50)⟩, ⟨some 52, none, .fa 1 (.t 8)⟩, ⟨none, none, .sto 1 (.t 52) (.t 51)⟩])
 (.reg [0, 120, 1, 2, 3, 6, 7, 8, 9] [
 ⟨some 53, none, .fa 2 (.t 8)⟩, ⟨some 54, none, .ld false 1 (.t 53)⟩, ⟨some 55, none, .bsl 1 3 [.sc (.int .i64 0)] 1 [(0, (.c (.sc (.int .i64 (-1)))))]⟩, ⟨some 56, none, .app 1 3 8 (.t 54) (.t 55)⟩, ⟨some 57, none, .fa 2 (.t 8)⟩, ⟨none, none, .sto 1 (.t 57) (.t 56)⟩]))
 .skip))
 (.exit 1)))
 .skip))
 (.seq (.drw [0, 120, 1, 2, 3, 6, 7, 8, 9] [
 ⟨⟨some 58, none, .fa 1 (.t 8)⟩, [], [], true⟩, ⟨⟨some 59, none, .ld false 1 (.t 58)⟩, [], [], true⟩, ⟨⟨some 60, none, .len (.t 59)⟩, [], [], true⟩, ⟨⟨some 61, none, .ari .sub true .i64 (.t 60) (.c (.sc (.int .i64 1)))⟩, [], [], true⟩, ⟨⟨some 62, none, .mv (.t 2)⟩, [], [], true⟩, ⟨⟨some 63, none, .mv (.t 9)⟩, [], [], true⟩, ⟨⟨some 64, none, .ixs 1 (.t 62) (.t 63)⟩, [], [], true⟩, ⟨⟨some 65, none, .ld false 1 (.t 64)⟩, [], [], true⟩, ⟨⟨some 66, none, .dvd .quo true .u8 (.t 65) (.c (.sc (.int .u8 64)))⟩, [], [], true⟩, ⟨⟨some 67, none, .cnv true .i64 (.t 66)⟩, [], [], true⟩, ⟨⟨some 68, none, .fa 1 (.t 8)⟩, [], [], true⟩, ⟨⟨some 69, none, .ld false 1 (.t 68)⟩, [], [], true⟩, ⟨⟨some 70, none, .len (.t 69)⟩, [], [], true⟩, ⟨⟨some 71, none, .dvd .rem true .i64 (.t 67) (.t 70)⟩, [], [], true⟩, ⟨⟨some 72, none, .ari .sub true .i64 (.t 61) (.t 71)⟩, [], [], false⟩, ⟨⟨some 11, none, .mv (.t 72)⟩, [], [], false⟩])
 (.seq (.drw [0, 120, 1, 2, 3, 6, 7, 8, 9, 11] [
 ⟨⟨some 73, none, .ld true 5 (.t 3)⟩, [], [], true⟩, ⟨⟨some 74, none, .fa 1 (.t 8)⟩, [], [], true⟩, ⟨⟨some 75, none, .ld false 1 (.t 74)⟩, [], [], true⟩, ⟨⟨some 76, none, .mv (.t 11)⟩, [], [], true⟩, ⟨⟨some 77, none, .ixs 1 (.t 75) (.t 76)⟩, [], [], true⟩, ⟨⟨some 78, none, .ld false 1 (.t 77)⟩, [], [], true⟩, ⟨⟨some 79, none, .cal 54 [(.t 73), (.t 78)]⟩, [], [], false⟩, ⟨⟨some 12, none, .mv (.t 79)⟩, [], [], false⟩])
 (.seq (.seq (.reg [0, 120, 1, 2, 3, 6, 7, 8, 9, 11, 12] [
 ⟨some 80, none, .mv (.t 12)⟩, ⟨some 81, none, .len (.t 80)⟩, ⟨some 82, none, .cmp .eql .i64 (.t 81) (.c (.sc (.int .i64 0)))⟩])
 (.cond (.t 82)
 (.exit 1)
 .skip))
 (.seq (.reg [0, 120, 1, 2, 3, 6, 7, 8, 9, 11, 12] [
 ⟨some 83, none, .mv (.t 12)⟩, ⟨some 84, none, .mv (.t 2)⟩, ⟨some 85, none, .mv (.t 9)⟩, ⟨some 86, none, .ixs 1 (.t 84) (.t 85)⟩, ⟨some 87, none, .ld false 1 (.t 86)⟩, ⟨some 88, none, .dvd .rem true .u8 (.t 87) (.c (.sc (.int .u8 64)))⟩, ⟨some 89, none, .cnv true .i64 (.t 88)⟩, ⟨some 90, none, .mv (.t 12)⟩, ⟨some 91, none, .len (.t 90)⟩, ⟨some 92, none, .dvd .rem true .i64 (.t 89) (.t 91)⟩, ⟨some 93, none, .ixs 1 (.t 83) (.t 92)⟩, ⟨some 94, none, .ld false 1 (.t 93)⟩, ⟨some 13, none, .mv (.t 94)⟩])
 (.seq (.reg [0, 120, 1, 2, 3, 6, 7, 8, 9, 11, 13] [
 ⟨some 95, none, .mv (.t 1)⟩, ⟨some 96, none, .mv (.t 13)⟩, ⟨some 97, none, .ixs 1 (.t 95) (.t 96)⟩, ⟨some 98, none, .ld false 1 (.t 97)⟩, ⟨some 99, none, .not (.t 98)⟩, ⟨some 100, none, .mv (.t 99)⟩, ⟨some 101, some (100, true), .fa 1 (.t 8)⟩, ⟨some 102, some (100, true), .ld false 1 (.t 101)⟩, ⟨some 103, some (100, true), .mv (.t 13)⟩, ⟨some 104, some (100, true), .cal 38 [(.t 102), (.t 103)]⟩, ⟨some 105, some (100, true), .cmp .lss .i64 (.t 104) (.c (.sc (.int .i64 0)))⟩, ⟨some 106, none, .pick (.t 100) (.t 105) (.c (.sc (.bool false)))⟩])
 (.cut [0, 120, 1, 2, 3, 6, 7, 8, 9, 11, 13, 106] (.cond (.t 106)
 (.seq (.reg [0, 120, 1, 2, 3, 6, 7, 8, 9, 11, 13] [
 ⟨some 107, none, .fa 1 (.t 8)⟩, ⟨some 108, none, .ld false 1 (.t 107)⟩, ⟨some 109, none, .mv (.t 13)⟩, ⟨some 110, none, .bsl 1 3 [.sc (.int .i64 0)] 1 [(0, (.t 109))]⟩, ⟨some 111, none, .app 1 3 8 (.t 108) (.t 110)⟩, ⟨some 112, none, .fa 1 (.t 8)⟩, ⟨none, none, .sto 1 (.t 112) (.t 111)⟩])
 (.reg [0, 120, 1, 2, 3, 6, 7, 8, 9, 11] [
 ⟨some 113, none, .fa 2 (.t 8)⟩, ⟨some 114, none, .ld false 1 (.t 113)⟩, ⟨some 115, none, .mv (.t 11)⟩, ⟨some 116, none, .bsl 1 3 [.sc (.int .i64 0)] 1 [(0, (.t 115))]⟩, ⟨some 117, none, .app 1 3 8 (.t 114) (.t 116)⟩, ⟨some 118, none, .fa 2 (.t 8)⟩, ⟨none, none, .sto 1 (.t 118) (.t 117)⟩]))
 .skip)))))))))
 (.reg [0, 120, 1, 2, 3, 6, 7, 8, 9] [
 ⟨some 25, none, .mv (.t 9)⟩, ⟨some 26, none, .ari .add true .i64 (.t 25) (.c (.sc (.int .i64 1)))⟩, ⟨some 9, none, .mv (.t 26)⟩]))))))
 (.seq (.reg [0, 120, 6, 8] [
 ⟨some 119, none, .ld true 3 (.t 8)⟩, ⟨none, none, .sto 3 (.t 6) (.t 119)⟩])
 .ret)))))
def rv35 : List RV := [.cell 6 true 3]
theorem ok35 : fnOk Try.prog ac35 rv35 Try.f35 = true := by kernel_rfl

def ac38 : AC :=
 (.seq (.reg [0, 19, 0, 1] [
 ⟨some 4, none, .mv (.c (.sc (.int .i64 0)))⟩])
 (.seq (.seq (.reg [0, 19, 0, 1] [
 ⟨some 5, none, .mv (.c (.sc (.int .i64 0)))⟩])
 (.block 0
 (.loop [0, 19, 0, 1, 5]
 (.seq (.seq (.reg [0, 19, 0, 1, 5] [
 ⟨some 6, none, .mv (.t 5)⟩, ⟨some 7, none, .mv (.t 0)⟩, ⟨some 8, none, .len (.t 7)⟩, ⟨some 9, none, .cmp .lss .i64 (.t 6) (.t 8)⟩])
 (.cond (.t 9)
 .skip
 (.exit 0)))
 (.seq (.block 1
 (.seq (.reg [0, 19, 0, 1, 5] [
 ⟨some 12, none, .mv (.t 0)⟩, ⟨some 13, none, .mv (.t 5)⟩, ⟨some 14, none, .ixs 1 (.t 12) (.t 13)⟩, ⟨some 15, none, .ld false 1 (.t 14)⟩, ⟨some 16, none, .mv (.t 1)⟩, ⟨some 17, none, .cmp .eql .i64 (.t 15) (.t 16)⟩])
 (.cond (.t 17)
 (.seq (.reg [0, 19, 5] [
 ⟨some 18, none, .mv (.t 5)⟩, ⟨some 4, none, .mv (.t 18)⟩])
 .ret)
 .skip)))
 (.reg [0, 19, 0, 1, 5] [
 ⟨some 10, none, .mv (.t 5)⟩, ⟨some 11, none, .ari .add true .i64 (.t 10) (.c (.sc (.int .i64 1)))⟩, ⟨some 5, none, .mv (.t 11)⟩]))))))
 (.seq (.reg [0, 19] [
 ⟨some 4, none, .mv (.c (.sc (.int .i64 (-1))))⟩])
 .ret)))
def rv38 : List RV := [.tmp 4]
theorem ok38 : fnOk Try.prog ac38 rv38 Try.f38 = true := by kernel_rfl

def ac44 : AC :=
 (.seq (.reg [0, 109, 0, 1, 2] [
 ⟨some 3, none, .box (.t 0)⟩, ⟨some 4, none, .box (.t 1)⟩, ⟨some 6, none, .mv (.c (.sc (.bool false)))⟩])
 (.seq (.reg [0, 109, 2, 3, 4] [
 ⟨some 10, none, .fa 1 (.t 4)⟩, ⟨some 11, none, .ld false 1 (.t 10)⟩, ⟨some 12, none, .mv (.t 2)⟩, ⟨some 13, none, .ixs 1 (.t 11) (.t 12)⟩, ⟨some 14, none, .ld false 1 (.t 13)⟩, ⟨some 7, none, .mv (.t 14)⟩])
 (.seq (.seq (.reg [0, 109, 2, 3, 4, 7] [
 ⟨some 15, none, .mv (.t 7)⟩, ⟨some 16, none, .cmp .lss .i64 (.t 15) (.c (.sc (.int .i64 0)))⟩, ⟨some 17, none, .mv (.t 16)⟩, ⟨some 18, some (17, false), .mv (.t 7)⟩, ⟨some 19, some (17, false), .cmp .gtr .i64 (.t 18) (.c (.sc (.int .i64 3)))⟩, ⟨some 20, none, .pick (.t 17) (.c (.sc (.bool true))) (.t 19)⟩, ⟨some 21, none, .mv (.t 20)⟩, ⟨some 22, some (21, false), .fa 4 (.t 3)⟩, ⟨some 23, some (21, false), .ld false 1 (.t 22)⟩, ⟨some 24, some (21, false), .mv (.t 2)⟩, ⟨some 25, some (21, false), .ixs 1 (.t 23) (.t 24)⟩, ⟨some 26, some (21, false), .ld false 1 (.t 25)⟩, ⟨some 27, some (21, false), .cmp .eql .i64 (.t 26) (.c (.sc (.int .i64 0)))⟩, ⟨some 28, some (21, false), .mv (.t 27)⟩, ⟨some 29, some (28, true), .mv (.t 7)⟩, ⟨some 30, some (28, true), .cmp .neq .i64 (.t 29) (.c (.sc (.int .i64 0)))⟩, ⟨some 31, some (21, false), .pick (.t 28) (.t 30) (.c (.sc (.bool false)))⟩, ⟨some 32, none, .pick (.t 21) (.c (.sc (.bool true))) (.t 31)⟩, ⟨some 33, none, .mv (.t 32)⟩, ⟨some 34, some (33, false), .fa 4 (.t 3)⟩, ⟨some 35, some (33, false), .ld false 1 (.t 34)⟩, ⟨some 36, some (33, false), .mv (.t 2)⟩, ⟨some 37, some (33, false), .ixs 1 (.t 35) (.t 36)⟩, ⟨some 38, some (33, false), .ld false 1 (.t 37)⟩, ⟨some 39, some (33, false), .cmp .eql .i64 (.t 38) (.c (.sc (.int .i64 1)))⟩, ⟨some 40, some (33, false), .mv (.t 39)⟩, ⟨some 41, some (40, true), .mv (.t 7)⟩, ⟨some 42, some (40, true), .cmp .eql .i64 (.t 41) (.c (.sc (.int .i64 3)))⟩, ⟨some 43, some (33, false), .pick (.t 40) (.t 42) (.c (.sc (.bool false)))⟩, ⟨some 44, none, .pick (.t 33) (.c (.sc (.bool true))) (.t 43)⟩])
 (.cut [0, 109, 2, 4, 7, 44] (.cond (.t 44)
 (.seq (.reg [0, 109] [
 ⟨some 6, none, .mv (.c (.sc (.bool false)))⟩])
 .ret)
 .skip)))
 (.seq (.reg [0, 109, 2, 4, 7] [
 ⟨some 45, none, .mv (.t 7)⟩, ⟨some 46, none, .cmp .eql .i64 (.t 45) (.c (.sc (.int .i64 1)))⟩, ⟨some 47, none, .mv (.t 46)⟩, ⟨some 48, some (47, false), .mv (.t 7)⟩, ⟨some 49, some (47, false), .cmp .eql .i64 (.t 48) (.c (.sc (.int .i64 2)))⟩, ⟨some 50, none, .pick (.t 47) (.c (.sc (.bool true))) (.t 49)⟩, ⟨some 51, none, .mv (.t 7)⟩, ⟨some 52, none, .cmp .eql .i64 (.t 51) (.c (.sc (.int .i64 2)))⟩, ⟨some 53, none, .mv (.t 52)⟩, ⟨some 54, some (53, false), .mv (.t 7)⟩, ⟨some 55, some (53, false), .cmp .eql .i64 (.t 54) (.c (.sc (.int .i64 3)))⟩, ⟨some 56, none, .pick (.t 53) (.c (.sc (.bool true))) (.t 55)⟩, ⟨some 8, none, .mv (.t 50)⟩, ⟨some 9, none, .mv (.t 56)⟩])
 (.cut [0, 109, 2, 4, 8, 9] (.seq (.reg [0, 109, 2, 4, 8, 9] [
 ⟨some 57, none, .fa 2 (.t 4)⟩, ⟨some 58, none, .ld false 1 (.t 57)⟩, ⟨some 59, none, .mv (.t 2)⟩, ⟨some 60, none, .ixs 1 (.t 58) (.t 59)⟩, ⟨some 61, none, .ld false 1 (.t 60)⟩, ⟨some 62, none, .cmp .geq .i64 (.t 61) (.c (.sc (.int .i64 0)))⟩, ⟨some 63, none, .mv (.t 62)⟩, ⟨some 64, some (63, true), .fa 2 (.t 4)⟩, ⟨some 65, some (63, true), .ld false 1 (.t 64)⟩, ⟨some 66, some (63, true), .mv (.t 2)⟩, ⟨some 67, some (63, true), .ixs 1 (.t 65) (.t 66)⟩, ⟨some 68, some (63, true), .ld false 1 (.t 67)⟩, ⟨some 69, some (63, true), .cmp .leq .i64 (.t 68) (.c (.sc (.int .i64 65535)))⟩, ⟨some 70, none, .pick (.t 63) (.t 69) (.c (.sc (.bool false)))⟩, ⟨some 71, none, .mv (.t 70)⟩, ⟨some 72, some (71, true), .mv (.t 8)⟩, ⟨some 73, some (71, true), .mv (.t 72)⟩, ⟨some 74, some (73, false), .fa 2 (.t 4)⟩, ⟨some 75, some (73, false), .ld false 1 (.t 74)⟩, ⟨some 76, some (73, false), .mv (.t 2)⟩, ⟨some 77, some (73, false), .ixs 1 (.t 75) (.t 76)⟩, ⟨some 78, some (73, false), .ld false 1 (.t 77)⟩, ⟨some 79, some (73, false), .cmp .eql .i64 (.t 78) (.c (.sc (.int .i64 0)))⟩, ⟨some 80, some (71, true), .pick (.t 73) (.c (.sc (.bool true))) (.t 79)⟩, ⟨some 81, none, .pick (.t 71) (.t 80) (.c (.sc (.bool false)))⟩, ⟨some 82, none, .mv (.t 81)⟩, ⟨some 83, some (82, true), .fa 3 (.t 4)⟩, ⟨some 84, some (82, true), .ld false 1 (.t 83)⟩, ⟨some 85, some (82, true), .mv (.t 2)⟩, ⟨some 86, some (82, true), .ixs 1 (.t 84) (.t 85)⟩, ⟨some 87, some (82, true), .ld false 1 (.t 86)⟩, ⟨some 88, some (82, true), .cmp .geq .i64 (.t 87) (.c (.sc (.int .i64 0)))⟩, ⟨some 89, none, .pick (.t 82) (.t 88) (.c (.sc (.bool false)))⟩, ⟨some 90, none, .mv (.t 89)⟩, ⟨some 91, some (90, true), .fa 3 (.t 4)⟩, ⟨some 92, some (90, true), .ld false 1 (.t 91)⟩, ⟨some 93, some (90, true), .mv (.t 2)⟩, ⟨some 94, some (90, true), .ixs 1 (.t 92) (.t 93)⟩, ⟨some 95, some (90, true), .ld false 1 (.t 94)⟩, ⟨some 96, some (90, true), .cmp .leq .i64 (.t 95) (.c (.sc (.int .i64 255)))⟩, ⟨some 97, none, .pick (.t 90) (.t 96) (.c (.sc (.bool false)))⟩, ⟨some 98, none, .mv (.t 97)⟩, ⟨some 99, some (98, true), .mv (.t 9)⟩, ⟨some 100, some (98, true), .mv (.t 99)⟩, ⟨some 101, some (100, false), .fa 3 (.t 4)⟩, ⟨some 102, some (100, false), .ld false 1 (.t 101)⟩, ⟨some 103, some (100, false), .mv (.t 2)⟩, ⟨some 104, some (100, false), .ixs 1 (.t 102) (.t 103)⟩, ⟨some 105, some (100, false), .ld false 1 (.t 104)⟩, ⟨some 106, some (100, false), .cmp .eql .i64 (.t 105) (.c (.sc (.int .i64 0)))⟩, ⟨some 107, some (98, true), .pick (.t 100) (.c (.sc (.bool true))) (.t 106)⟩, ⟨some 108, none, .pick (.t 98) (.t 107) (.c (.sc (.bool false)))⟩, ⟨some 6, none, .mv (.t 108)⟩])
 .ret))))))
def rv44 : List RV := [.tmp 6]
theorem ok44 : fnOk Try.prog ac44 rv44 Try.f44 = true := by kernel_rfl

def ac46 : AC :=
 (.seq (.reg [0, 48, 0, 1, 2] [
 ⟨some 3, none, .box (.t 0)⟩, ⟨some 4, none, .box (.t 1)⟩, ⟨some 6, none, .mv (.c (.sc (.int .i64 0)))⟩, ⟨some 7, none, .mv (.c (.sc (.int .i64 0)))⟩])
 (.seq (.seq (.reg [0, 48, 2, 3, 4] [
 ⟨some 10, none, .mv (.t 2)⟩, ⟨some 11, none, .fa 0 (.t 4)⟩, ⟨some 12, none, .ld false 1 (.t 11)⟩, ⟨some 13, none, .len (.t 12)⟩, ⟨some 14, none, .ari .sub true .i64 (.t 13) (.c (.sc (.int .i64 1)))⟩, ⟨some 15, none, .cal 41 [(.t 10), (.c (.sc (.int .i64 0))), (.t 14)]⟩, ⟨some 16, none, .not (.t 15)⟩])
 (.cond (.t 16)
 (.seq (.reg [0, 48] [
 ⟨some 6, none, .mv (.c (.sc (.int .i64 0)))⟩, ⟨some 7, none, .mv (.c (.sc (.int .i64 4)))⟩])
 .ret)
 .skip))
 (.seq (.seq (.reg [0, 48, 2, 3, 4] [
 ⟨some 17, none, .mkm (.int .i64)⟩, ⟨some 8, none, .mv (.t 17)⟩])
 (.block 0
 (.loop [0, 48, 2, 3, 4, 8]
 (.seq (.seq (.reg [0, 48, 2, 3, 4, 8] [
 ⟨some 18, none, .mv (.t 8)⟩, ⟨some 19, none, .mv (.t 2)⟩, ⟨some 20, none, .mlk (.int .i64) false (.sc (.bool false)) (.t 18) (.t 19)⟩, ⟨some 21, none, .not (.t 20)⟩])
 (.cond (.t 21)
 .skip
 (.exit 0)))
 (.block 1
 (.seq (.reg [0, 48, 2, 3, 4, 8] [
 ⟨some 22, none, .mv (.t 8)⟩, ⟨some 23, none, .mv (.t 2)⟩, ⟨none, none, .mup (.int .i64) (.t 22) (.t 23) (.c (.sc (.bool true)))⟩])
 (.seq (.reg [0, 48, 2, 3, 4, 8] [
 ⟨some 24, none, .ld true 5 (.t 3)⟩, ⟨some 25, none, .mv (.t 2)⟩, ⟨some 26, none, .cal 42 [(.t 24), (.t 25)]⟩, ⟨some 9, none, .mv (.t 26)⟩])
 (.seq (.block 2
 (.seq (.reg [0, 48, 2, 3, 4, 8, 9] [
 ⟨some 28, none, .mv (.t 9)⟩, ⟨some 29, none, .len (.t 28)⟩, ⟨some 30, none, .cmp .eql .i64 (.t 29) (.c (.sc (.int .i64 0)))⟩, ⟨some 27, none, .mv (.t 30)⟩])
 (.cond (.t 27)
 (.seq (.reg [0, 48, 2] [
 ⟨some 31, none, .mv (.t 2)⟩, ⟨some 6, none, .mv (.t 31)⟩, ⟨some 7, none, .mv (.c (.sc (.int .i64 0)))⟩])
 .ret)
 (.seq (.reg [0, 48, 2, 3, 4, 8, 9] [
 ⟨some 33, none, .fa 0 (.t 4)⟩, ⟨some 34, none, .ld false 1 (.t 33)⟩, ⟨some 35, none, .mv (.t 2)⟩, ⟨some 36, none, .ixs 1 (.t 34) (.t 35)⟩, ⟨some 37, none, .ld false 1 (.t 36)⟩, ⟨some 38, none, .cmp .eql .i64 (.t 37) (.c (.sc (.int .i64 0)))⟩, ⟨some 32, none, .mv (.t 38)⟩])
 (.cond (.t 32)
 (.seq (.reg [0, 48] [
 ⟨some 6, none, .mv (.c (.sc (.int .i64 0)))⟩, ⟨some 7, none, .mv (.c (.sc (.int .i64 4)))⟩])
 .ret)
 .skip)))))
 (.reg [0, 48, 2, 3, 4, 8, 9] [
 ⟨some 39, none, .mv (.t 9)⟩, ⟨some 40, none, .fa 0 (.t 4)⟩, ⟨some 41, none, .ld false 1 (.t 40)⟩, ⟨some 42, none, .mv (.t 2)⟩, ⟨some 43, none, .ixs 1 (.t 41) (.t 42)⟩, ⟨some 44, none, .ld false 1 (.t 43)⟩, ⟨some 45, none, .ari .sub true .i64 (.t 44) (.c (.sc (.int .i64 1)))⟩, ⟨some 46, none, .ixs 1 (.t 39) (.t 45)⟩, ⟨some 47, none, .ld false 1 (.t 46)⟩, ⟨some 2, none, .mv (.t 47)⟩])))))))))
 (.seq (.reg [0, 48] [
 ⟨some 6, none, .mv (.c (.sc (.int .i64 0)))⟩, ⟨some 7, none, .mv (.c (.sc (.int .i64 50)))⟩])
 .ret))))
def rv46 : List RV := [.tmp 6, .tmp 7]
theorem ok46 : fnOk Try.prog ac46 rv46 Try.f46 = true := by kernel_rfl

def ac52 : AC :=
 (.seq (.reg [0, 77, 0, 1, 2] [
 ⟨some 3, none, .box (.t 0)⟩, ⟨some 4, none, .box (.t 1)⟩, ⟨some 6, none, .mv (.c (.sc (.bool false)))⟩])
 (.seq (.seq (.reg [0, 77, 2, 3, 4] [
 ⟨some 7, none, .mv (.t 2)⟩, ⟨some 8, none, .cmp .lss .i64 (.t 7) (.c (.sc (.int .i64 0)))⟩, ⟨some 9, none, .mv (.t 8)⟩, ⟨some 10, some (9, false), .mv (.t 2)⟩, ⟨some 11, some (9, false), .fa 0 (.t 3)⟩, ⟨some 12, some (9, false), .ld false 1 (.t 11)⟩, ⟨some 13, some (9, false), .fa 1 (.t 3)⟩, ⟨some 14, some (9, false), .ld false 1 (.t 13)⟩, ⟨some 15, some (9, false), .ari .mul true .i64 (.t 12) (.t 14)⟩, ⟨some 16, some (9, false), .cmp .geq .i64 (.t 10) (.t 15)⟩, ⟨some 17, none, .pick (.t 9) (.c (.sc (.bool true))) (.t 16)⟩, ⟨some 18, none, .mv (.t 17)⟩, ⟨some 19, some (18, false), .fa 4 (.t 3)⟩, ⟨some 20, some (18, false), .ld false 1 (.t 19)⟩, ⟨some 21, some (18, false), .mv (.t 2)⟩, ⟨some 22, some (18, false), .ixs 1 (.t 20) (.t 21)⟩, ⟨some 23, some (18, false), .ld false 1 (.t 22)⟩, ⟨some 24, some (18, false), .cmp .eql .i64 (.t 23) (.c (.sc (.int .i64 0)))⟩, ⟨some 25, none, .pick (.t 18) (.c (.sc (.bool true))) (.t 24)⟩, ⟨some 26, none, .mv (.t 25)⟩, ⟨some 27, some (26, false), .fa 4 (.t 3)⟩, ⟨some 28, some (26, false), .ld false 1 (.t 27)⟩, ⟨some 29, some (26, false), .mv (.t 2)⟩, ⟨some 30, some (26, false), .ixs 1 (.t 28) (.t 29)⟩, ⟨some 31, some (26, false), .ld false 1 (.t 30)⟩, ⟨some 32, some (26, false), .cmp .eql .i64 (.t 31) (.c (.sc (.int .i64 1)))⟩, ⟨some 33, some (26, false), .mv (.t 32)⟩, ⟨some 34, some (33, true), .fa 2 (.t 4)⟩, ⟨some 35, some (33, true), .ld false 1 (.t 34)⟩, ⟨some 36, some (33, true), .cmp .neq .i64 (.t 35) (.c (.sc (.int .i64 (-1))))⟩, ⟨some 37, some (26, false), .pick (.t 33) (.t 36) (.c (.sc (.bool false)))⟩, ⟨some 38, none, .pick (.t 26) (.c (.sc (.bool true))) (.t 37)⟩])
 (.cut [0, 77, 4, 38] (.cond (.t 38)
 (.seq (.reg [0, 77] [
 ⟨some 6, none, .mv (.c (.sc (.bool false)))⟩])
 .ret)
 .skip)))
 (.seq (.reg [0, 77, 4] [
 ⟨some 39, none, .fa 1 (.t 4)⟩, ⟨some 40, none, .ld false 1 (.t 39)⟩, ⟨some 41, none, .cmp .geq .i64 (.t 40) (.c (.sc (.int .i64 0)))⟩, ⟨some 42, none, .mv (.t 41)⟩, ⟨some 43, some (42, true), .fa 1 (.t 4)⟩, ⟨some 44, some (42, true), .ld false 1 (.t 43)⟩, ⟨some 45, some (42, true), .cmp .leq .i64 (.t 44) (.c (.sc (.int .i64 65535)))⟩, ⟨some 46, none, .pick (.t 42) (.t 45) (.c (.sc (.bool false)))⟩, ⟨some 47, none, .mv (.t 46)⟩, ⟨some 48, some (47, true), .fa 2 (.t 4)⟩, ⟨some 49, some (47, true), .ld false 1 (.t 48)⟩, ⟨some 50, some (47, true), .cmp .geq .i64 (.t 49) (.c (.sc (.int .i64 (-1))))⟩, ⟨some 51, none, .pick (.t 47) (.t 50) (.c (.sc (.bool false)))⟩, ⟨some 52, none, .mv (.t 51)⟩, ⟨some 53, some (52, true), .fa 2 (.t 4)⟩, ⟨some 54, some (52, true), .ld false 1 (.t 53)⟩, ⟨some 55, some (52, true), .cmp .leq .i64 (.t 54) (.c (.sc (.int .i64 255)))⟩, ⟨some 56, none, .pick (.t 52) (.t 55) (.c (.sc (.bool false)))⟩, ⟨some 57, none, .mv (.t 56)⟩, ⟨some 58, some (57, true), .fa 3 (.t 4)⟩, ⟨some 59, some (57, true), .ld false 1 (.t 58)⟩, ⟨some 60, some (57, true), .cmp .geq .i64 (.t 59) (.c (.sc (.int .i64 (-1))))⟩, ⟨some 61, none, .pick (.t 57) (.t 60) (.c (.sc (.bool false)))⟩, ⟨some 62, none, .mv (.t 61)⟩, ⟨some 63, some (62, true), .fa 3 (.t 4)⟩, ⟨some 64, some (62, true), .ld false 1 (.t 63)⟩, ⟨some 65, some (62, true), .cmp .leq .i64 (.t 64) (.c (.sc (.int .i64 255)))⟩, ⟨some 66, none, .pick (.t 62) (.t 65) (.c (.sc (.bool false)))⟩, ⟨some 67, none, .mv (.t 66)⟩, ⟨some 68, some (67, true), .fa 2 (.t 4)⟩, ⟨some 69, some (67, true), .ld false 1 (.t 68)⟩, ⟨some 70, some (67, true), .cmp .eql .i64 (.t 69) (.c (.sc (.int .i64 (-1))))⟩, ⟨some 71, some (67, true), .mv (.t 70)⟩, ⟨some 72, some (71, false), .fa 3 (.t 4)⟩, ⟨some 73, some (71, false), .ld false 1 (.t 72)⟩, ⟨some 74, some (71, false), .cmp .eql .i64 (.t 73) (.c (.sc (.int .i64 (-1))))⟩, ⟨some 75, some (67, true), .pick (.t 71) (.c (.sc (.bool true))) (.t 74)⟩, ⟨some 76, none, .pick (.t 67) (.t 75) (.c (.sc (.bool false)))⟩, ⟨some 6, none, .mv (.t 76)⟩])
 .ret)))
def rv52 : List RV := [.tmp 6]
theorem ok52 : fnOk Try.prog ac52 rv52 Try.f52 = true := by kernel_rfl

def ac53 : AC :=
 (.seq (.reg [0, 33, 0] [
 ⟨some 1, none, .box (.t 0)⟩, ⟨some 2, none, .mv (.c (.nil))⟩])
 (.seq (.reg [0, 33, 1] [
 ⟨some 6, none, .bsl 1 3 [.sc (.int .i64 0)] 0 []⟩, ⟨some 3, none, .mv (.t 6)⟩])
 (.seq (.seq (.reg [0, 33, 1, 3] [
 ⟨some 4, none, .mv (.c (.sc (.int .i64 0)))⟩])
 (.block 0
 (.loop [0, 33, 1, 3, 4]
 (.seq (.seq (.reg [0, 33, 1, 3, 4] [
 ⟨some 7, none, .mv (.t 4)⟩, ⟨some 8, none, .ld true 5 (.t 1)⟩, ⟨some 9, none, .cal 22 [(.t 8)]⟩, ⟨some 10, none, .cmp .lss .i64 (.t 7) (.t 9)⟩])
 (.cond (.t 10)
 .skip
 (.exit 0)))
 (.seq (.block 1
 (.seq (.reg [0, 33, 1, 3, 4] [
 ⟨some 13, none, .ld true 5 (.t 1)⟩, ⟨some 14, none, .mv (.t 4)⟩, ⟨some 15, none, .cal 50 [(.t 13), (.t 14)]⟩, ⟨some 16, none, .fl true 0 4 (.t 15)⟩, ⟨some 17, none, .fl false 0 1 (.t 16)⟩, ⟨some 5, none, .mv (.t 17)⟩])
 (.seq (.reg [0, 33, 1, 3, 4, 5] [
 ⟨some 18, none, .mv (.t 5)⟩, ⟨some 19, none, .cmp .eql .i64 (.t 18) (.c (.sc (.int .i64 1)))⟩, ⟨some 20, none, .mv (.t 19)⟩, ⟨some 21, some (20, false), .mv (.t 5)⟩, ⟨some 22, some (20, false), .cmp .eql .i64 (.t 21) (.c (.sc (.int .i64 2)))⟩, ⟨some 23, none, .pick (.t 20) (.c (.sc (.bool true))) (.t 22)⟩, ⟨some 24, none, .mv (.t 23)⟩, ⟨some 25, some (24, false), .mv (.t 5)⟩, ⟨some 26, some (24, false), .cmp .eql .i64 (.t 25) (.c (.sc (.int .i64 6)))⟩, ⟨some 27, none, .pick (.t 24) (.c (.sc (.bool true))) (.t 26)⟩])
 (.cut [0, 33, 1, 3, 4, 27] (.cond (.t 27)
 (.reg [0, 33, 1, 3, 4] [
 ⟨some 28, none, .mv (.t 3)⟩, ⟨some 29, none, .mv (.t 4)⟩, ⟨some 30, none, .bsl 1 3 [.sc (.int .i64 0)] 1 [(0, (.t 29))]⟩, ⟨some 31, none, .app 1 3 8 (.t 28) (.t 30)⟩, ⟨some 3, none, .mv (.t 31)⟩])
 .skip)))))
 (.reg [0, 33, 1, 3, 4] [
 ⟨some 11, none, .mv (.t 4)⟩, ⟨some 12, none, .ari .add true .i64 (.t 11) (.c (.sc (.int .i64 1)))⟩, ⟨some 4, none, .mv (.t 12)⟩]))))))
 (.seq (.reg [0, 33, 3] [
 ⟨some 32, none, .mv (.t 3)⟩, ⟨some 2, none, .mv (.t 32)⟩])
 .ret))))
def rv53 : List RV := [.tmp 2]
theorem ok53 : fnOk Try.prog ac53 rv53 Try.f53 = true := by kernel_rfl

def ac54 : AC :=
 (.seq (.reg [0, 36, 0, 1] [
 ⟨some 2, none, .box (.t 0)⟩, ⟨some 4, none, .mv (.c (.nil))⟩])
 (.seq (.reg [0, 36, 1, 2] [
 ⟨some 8, none, .bsl 1 3 [.sc (.int .i64 0)] 0 []⟩, ⟨some 5, none, .mv (.t 8)⟩])
 (.seq (.reg [0, 36, 1, 2, 5] [
 ⟨some 9, none, .ld true 5 (.t 2)⟩, ⟨some 10, none, .mv (.t 1)⟩, ⟨some 11, none, .cal 50 [(.t 9), (.t 10)]⟩, ⟨some 6, none, .alc [.sc (.int .i64 0), .sc (.int .i64 0), .sc (.int .i64 0), .sc (.int .i64 0), .sc (.int .i64 0)]⟩, ⟨none, none, .sto 5 (.t 6) (.t 11)⟩])
 (.seq (.seq (.reg [0, 36, 2, 5, 6] [
 ⟨some 7, none, .mv (.c (.sc (.int .i64 0)))⟩])
 (.block 0
 (.loop [0, 36, 2, 5, 6, 7]
 (.seq (.seq (.reg [0, 36, 2, 5, 6, 7] [
 ⟨some 12, none, .mv (.t 7)⟩, ⟨some 13, none, .ld true 5 (.t 2)⟩, ⟨some 14, none, .cal 22 [(.t 13)]⟩, ⟨some 15, none, .cmp .lss .i64 (.t 12) (.t 14)⟩, ⟨some 16, none, .mv (.t 15)⟩, ⟨some 17, some (16, true), .fa 4 (.t 6)⟩, ⟨some 18, some (16, true), .ld false 1 (.t 17)⟩, ⟨some 19, some (16, true), .cmp .eql .i64 (.t 18) (.c (.sc (.int .i64 0)))⟩, ⟨some 20, none, .pick (.t 16) (.t 19) (.c (.sc (.bool false)))⟩])
 (.cut [0, 36, 2, 5, 6, 7, 20] (.cond (.t 20)
 .skip
 (.exit 0))))
 (.seq (.block 1
 (.seq (.drw [0, 36, 2, 5, 6, 7] [
 ⟨⟨some 23, none, .ld true 5 (.t 2)⟩, [], [], true⟩, ⟨⟨some 24, none, .fa 0 (.t 6)⟩, [], [], true⟩, ⟨⟨some 25, none, .ld true 4 (.t 24)⟩, [], [], true⟩, ⟨⟨some 26, none, .ld true 5 (.t 2)⟩, [], [], true⟩, ⟨⟨some 27, none, .mv (.t 7)⟩, [], [], true⟩, ⟨⟨some 28, none, .cal 50 [(.t 26), (.t 27)]⟩, [], [], true⟩, ⟨⟨some 29, none, .fl true 0 4 (.t 28)⟩, [], [], true⟩, ⟨⟨some 30, none, .cal 51 [(.t 23), (.t 25), (.t 29)]⟩, [], [], false⟩])
 (.cond (.t 30)
 (.reg [0, 36, 2, 5, 6, 7] [
 ⟨some 31, none, .mv (.t 5)⟩, ⟨some 32, none, .mv (.t 7)⟩, ⟨some 33, none, .bsl 1 3 [.sc (.int .i64 0)] 1 [(0, (.t 32))]⟩, ⟨some 34, none, .app 1 3 8 (.t 31) (.t 33)⟩, ⟨some 5, none, .mv (.t 34)⟩])
 .skip)))
 (.reg [0, 36, 2, 5, 6, 7] [
 ⟨some 21, none, .mv (.t 7)⟩, ⟨some 22, none, .ari .add true .i64 (.t 21) (.c (.sc (.int .i64 1)))⟩, ⟨some 7, none, .mv (.t 22)⟩]))))))
 (.seq (.reg [0, 36, 5] [
 ⟨some 35, none, .mv (.t 5)⟩, ⟨some 4, none, .mv (.t 35)⟩])
 .ret)))))
def rv54 : List RV := [.tmp 4]
theorem ok54 : fnOk Try.prog ac54 rv54 Try.f54 = true := by kernel_rfl

def ac11 : AC :=
 (.seq (.reg [0, 71, 0] [
 ⟨some 1, none, .box (.t 0)⟩, ⟨some 2, none, .alc [.sc (.int .i64 0), .sc (.int .i64 0), .sc (.int .i64 0), .sc (.int .i64 0), .nil, .nil, .nil, .nil, .nil, .nil, .nil]⟩])
 (.seq (.reg [0, 71, 1, 2] [
 ⟨some 9, none, .fa 0 (.t 1)⟩, ⟨some 10, none, .ld true 5 (.t 9)⟩, ⟨some 11, none, .cal 30 [(.t 10)]⟩, ⟨some 3, none, .alc [.sc (.int .i64 0), .sc (.int .i64 0), .sc (.int .i64 0), .sc (.int .i64 0), .nil]⟩, ⟨none, none, .sto 5 (.t 3) (.t 11)⟩])
 (.seq (.reg [0, 71, 1, 2, 3] [
 ⟨some 12, none, .fa 3 (.t 3)⟩, ⟨none, none, .sto 1 (.t 12) (.c (.sc (.int .i64 4)))⟩])
 (.seq (.reg [0, 71, 1, 2, 3] [
 ⟨some 13, none, .ld true 5 (.t 3)⟩, ⟨some 14, none, .bld [.sc (.int .i64 0), .sc (.int .i64 0), .sc (.int .i64 0), .sc (.int .i64 0), .nil, .nil, .nil, .nil, .nil, .nil, .nil] [(0, 5, (.t 13))]⟩, ⟨some 15, none, .fa 5 (.t 1)⟩, ⟨some 16, none, .ld false 1 (.t 15)⟩, ⟨some 17, none, .cal 34 [(.t 14), (.t 16)]⟩, ⟨some 4, none, .alc [.sc (.int .i64 0), .sc (.int .i64 0), .sc (.int .i64 0), .sc (.int .i64 0), .nil, .nil, .nil, .nil, .nil, .nil, .nil]⟩, ⟨none, none, .sto 11 (.t 4) (.t 17)⟩])
 (.seq (.reg [0, 71, 1, 2, 4] [
 ⟨some 18, none, .fa 0 (.t 4)⟩, ⟨some 19, none, .ld true 5 (.t 18)⟩, ⟨some 20, none, .cal 22 [(.t 19)]⟩, ⟨some 21, none, .mks 1 4 1 [.sc (.bool false)] (.t 20) (.t 20)⟩, ⟨some 5, none, .mv (.t 21)⟩])
 (.seq (.seq (.reg [0, 71, 1, 2, 4, 5] [
 ⟨some 6, none, .mv (.c (.sc (.int .i64 0)))⟩])
 (.block 0
 (.loop [0, 71, 1, 2, 4, 5, 6]
 (.seq (.seq (.reg [0, 71, 1, 2, 4, 5, 6] [
 ⟨some 22, none, .mv (.t 6)⟩, ⟨some 23, none, .fa 6 (.t 1)⟩, ⟨some 24, none, .ld false 1 (.t 23)⟩, ⟨some 25, none, .len (.t 24)⟩, ⟨some 26, none, .cmp .lss .i64 (.t 22) (.t 25)⟩, ⟨some 27, none, .mv (.t 26)⟩, ⟨some 28, some (27, true), .mv (.t 6)⟩, ⟨some 29, some (27, true), .cmp .lss .i64 (.t 28) (.c (.sc (.int .i64 5)))⟩, ⟨some 30, none, .pick (.t 27) (.t 29) (.c (.sc (.bool false)))⟩])
 (.cut [0, 71, 1, 2, 4, 5, 6, 30] (.cond (.t 30)
 .skip
 (.exit 0))))
 (.seq (.block 1
 (.seq (.drw [0, 71, 1, 2, 4, 5, 6] [
 ⟨⟨some 33, none, .fa 0 (.t 4)⟩, [], [7], true⟩, ⟨⟨some 34, none, .ld true 5 (.t 33)⟩, [], [7], true⟩, ⟨⟨some 35, none, .mv (.t 5)⟩, [], [7], true⟩, ⟨⟨some 36, none, .fa 6 (.t 1)⟩, [], [7], true⟩, ⟨⟨some 37, none, .ld false 1 (.t 36)⟩, [], [7], true⟩, ⟨⟨some 38, none, .mv (.t 6)⟩, [], [7], true⟩, ⟨⟨some 39, none, .ixs 1 (.t 37) (.t 38)⟩, [], [7], true⟩, ⟨⟨some 40, none, .ld false 1 (.t 39)⟩, [], [7], true⟩, ⟨⟨some 41, none, .cal 35 [(.t 34), (.t 35), (.t 40)]⟩, [], [7], true⟩, ⟨⟨some 7, none, .alc [.sc (.int .i64 0), .nil, .nil]⟩, [7], [], true⟩, ⟨⟨none, none, .sto 3 (.t 7) (.t 41)⟩, [], [], false⟩])
 (.seq (.seq (.reg [0, 71, 1, 2, 4, 5, 6, 7] [
 ⟨some 42, none, .fa 1 (.t 7)⟩, ⟨some 43, none, .ld false 1 (.t 42)⟩, ⟨some 44, none, .len (.t 43)⟩, ⟨some 45, none, .cmp .eql .i64 (.t 44) (.c (.sc (.int .i64 0)))⟩])
 (.cond (.t 45)
 (.exit 1)
 .skip))
 (.seq (.reg [0, 71, 1, 2, 4, 5, 6, 7] [
 ⟨some 46, none, .mv (.t 6)⟩, ⟨some 47, none, .fa 0 (.t 7)⟩, ⟨none, none, .sto 1 (.t 47) (.t 46)⟩])
 (.seq (.seq (.reg [0, 71, 1, 2, 4, 5, 6, 7] [
 ⟨some 8, none, .mv (.c (.sc (.int .i64 0)))⟩])
 (.block 2
 (.loop [0, 71, 1, 2, 4, 5, 6, 7, 8]
 (.seq (.seq (.reg [0, 71, 1, 2, 4, 5, 6, 7, 8] [
 ⟨some 48, none, .mv (.t 8)⟩, ⟨some 49, none, .fa 1 (.t 7)⟩, ⟨some 50, none, .ld false 1 (.t 49)⟩, ⟨some 51, none, .len (.t 50)⟩, ⟨some 52, none, .cmp .lss .i64 (.t 48) (.t 51)⟩])
 (.cond (.t 52)
 .skip
 (.exit 2)))
 (.seq (.block 3
 (.reg [0, 71, 1, 2, 4, 5, 6, 7, 8] [
 ⟨some 55, none, .mv (.t 5)⟩, ⟨some 56, none, .fa 1 (.t 7)⟩, ⟨some 57, none, .ld false 1 (.t 56)⟩, ⟨some 58, none, .mv (.t 8)⟩, ⟨some 59, none, .ixs 1 (.t 57) (.t 58)⟩, ⟨some 60, none, .ld false 1 (.t 59)⟩, ⟨some 61, none, .ixs 1 (.t 55) (.t 60)⟩, ⟨none, none, .sto 1 (.t 61) (.c (.sc (.bool true)))⟩]))
 (.reg [0, 71, 1, 2, 4, 5, 6, 7, 8] [
 ⟨some 53, none, .mv (.t 8)⟩, ⟨some 54, none, .ari .add true .i64 (.t 53) (.c (.sc (.int .i64 1)))⟩, ⟨some 8, none, .mv (.t 54)⟩]))))))
 (.reg [0, 71, 1, 2, 4, 5, 6, 7] [
 ⟨some 62, none, .fa 9 (.t 4)⟩, ⟨some 63, none, .fa 1 (.t 62)⟩, ⟨some 64, none, .ld false 1 (.t 63)⟩, ⟨some 65, none, .ld true 3 (.t 7)⟩, ⟨some 66, none, .bsl 3 72 [.sc (.int .i64 0), .nil, .nil] 1 [(0, (.t 65))]⟩, ⟨some 67, none, .app 3 72 56 (.t 64) (.t 66)⟩, ⟨some 68, none, .fa 9 (.t 4)⟩, ⟨some 69, none, .fa 1 (.t 68)⟩, ⟨none, none, .sto 1 (.t 69) (.t 67)⟩]))))))
 (.reg [0, 71, 1, 2, 4, 5, 6] [
 ⟨some 31, none, .mv (.t 6)⟩, ⟨some 32, none, .ari .add true .i64 (.t 31) (.c (.sc (.int .i64 1)))⟩, ⟨some 6, none, .mv (.t 32)⟩]))))))
 (.seq (.reg [0, 71, 2, 4] [
 ⟨some 70, none, .ld true 11 (.t 4)⟩, ⟨none, none, .sto 11 (.t 2) (.t 70)⟩])
 .ret)))))))
def rv11 : List RV := [.cell 2 true 11]
theorem ok11 : fnOk Try.prog ac11 rv11 Try.f11 = true := by kernel_rfl

def ac9 : AC :=
 (.seq (.reg [0, 143] [
 ⟨some 0, none, .mv (.c (.sc (.bool false)))⟩])
 (.seq (.reg [0, 143] [
 ⟨some 5, none, .cal 33 []⟩, ⟨some 6, none, .bsl 1 3 [.sc (.int .i64 0)] 3 [(0, (.c (.sc (.int .i64 0)))), (1, (.c (.sc (.int .i64 6)))), (2, (.c (.sc (.int .i64 10))))]⟩, ⟨some 7, none, .bsl 1 3 [.sc (.int .i64 0)] 3 [(0, (.c (.sc (.int .i64 (-1))))), (1, (.c (.sc (.int .i64 0)))), (2, (.c (.sc (.int .i64 1))))]⟩, ⟨some 8, none, .bld [.sc (.int .i64 0), .nil, .nil] [(1, 1, (.t 6)), (2, 1, (.t 7))]⟩, ⟨some 9, none, .bsl 3 72 [.sc (.int .i64 0), .nil, .nil] 1 [(0, (.t 8))]⟩, ⟨some 10, none, .bld [.nil, .nil] [(1, 1, (.t 9))]⟩, ⟨some 11, none, .bld [.sc (.int .i64 0), .sc (.int .i64 0), .sc (.int .i64 0), .sc (.int .i64 0), .nil, .nil, .nil, .nil, .nil, .nil, .nil] [(0, 5, (.t 5)), (9, 2, (.t 10))]⟩, ⟨some 1, none, .alc [.sc (.int .i64 0), .sc (.int .i64 0), .sc (.int .i64 0), .sc (.int .i64 0), .nil, .nil, .nil, .nil, .nil, .nil, .nil]⟩, ⟨none, none, .sto 11 (.t 1) (.t 11)⟩])
 (.seq (.reg [0, 143, 1] [
 ⟨some 12, none, .ld true 11 (.t 1)⟩, ⟨some 13, none, .cal 13 [(.t 12)]⟩, ⟨some 2, none, .alc [.nil, .nil, .nil, .nil, .sc (.int .i64 0)]⟩, ⟨none, none, .sto 5 (.t 2) (.t 13)⟩])
 (.seq (.seq (.reg [0, 143, 1, 2] [
 ⟨some 14, none, .fa 4 (.t 2)⟩, ⟨some 15, none, .ld false 1 (.t 14)⟩, ⟨some 16, none, .cmp .neq .i64 (.t 15) (.c (.sc (.int .i64 0)))⟩, ⟨some 17, none, .mv (.t 16)⟩, ⟨some 18, some (17, false), .fa 0 (.t 1)⟩, ⟨some 19, some (17, false), .ld true 5 (.t 18)⟩, ⟨some 20, some (17, false), .fa 0 (.t 2)⟩, ⟨some 21, some (17, false), .ld true 4 (.t 20)⟩, ⟨some 22, some (17, false), .cal 19 [(.t 19), (.t 21)]⟩, ⟨some 23, some (17, false), .cmp .neq .i64 (.t 22) (.c (.sc (.int .i64 0)))⟩, ⟨some 24, none, .pick (.t 17) (.c (.sc (.bool true))) (.t 23)⟩, ⟨some 25, none, .mv (.t 24)⟩, ⟨some 26, some (25, false), .fa 0 (.t 2)⟩, ⟨some 27, some (25, false), .fa 0 (.t 26)⟩, ⟨some 28, some (25, false), .ld false 1 (.t 27)⟩, ⟨some 29, some (25, false), .len (.t 28)⟩, ⟨some 30, some (25, false), .cmp .neq .i64 (.t 29) (.c (.sc (.int .i64 18)))⟩, ⟨some 31, none, .pick (.t 25) (.c (.sc (.bool true))) (.t 30)⟩, ⟨some 32, none, .mv (.t 31)⟩, ⟨some 33, some (32, false), .fa 0 (.t 2)⟩, ⟨some 34, some (32, false), .fa 0 (.t 33)⟩, ⟨some 35, some (32, false), .ld false 1 (.t 34)⟩, ⟨some 36, some (32, false), .ixs 1 (.t 35) (.c (.sc (.int .i64 6)))⟩, ⟨some 37, some (32, false), .ld false 1 (.t 36)⟩, ⟨some 38, some (32, false), .cmp .neq .i64 (.t 37) (.c (.sc (.int .i64 1)))⟩, ⟨some 39, none, .pick (.t 32) (.c (.sc (.bool true))) (.t 38)⟩, ⟨some 40, none, .mv (.t 39)⟩, ⟨some 41, some (40, false), .fa 0 (.t 2)⟩, ⟨some 42, some (40, false), .fa 0 (.t 41)⟩, ⟨some 43, some (40, false), .ld false 1 (.t 42)⟩, ⟨some 44, some (40, false), .ixs 1 (.t 43) (.c (.sc (.int .i64 10)))⟩, ⟨some 45, some (40, false), .ld false 1 (.t 44)⟩, ⟨some 46, some (40, false), .cmp .neq .i64 (.t 45) (.c (.sc (.int .i64 1)))⟩, ⟨some 47, none, .pick (.t 40) (.c (.sc (.bool true))) (.t 46)⟩, ⟨some 48, none, .mv (.t 47)⟩, ⟨some 49, some (48, false), .fa 0 (.t 1)⟩, ⟨some 50, some (48, false), .ld true 5 (.t 49)⟩, ⟨some 51, some (48, false), .fa 0 (.t 2)⟩, ⟨some 52, some (48, false), .ld true 4 (.t 51)⟩, ⟨some 53, some (48, false), .cal 18 [(.t 50), (.t 52)]⟩, ⟨some 54, some (48, false), .cmp .neq .i64 (.t 53) (.c (.sc (.int .i64 0)))⟩, ⟨some 55, none, .pick (.t 48) (.c (.sc (.bool true))) (.t 54)⟩, ⟨some 56, none, .mv (.t 55)⟩, ⟨some 57, some (56, false), .fa 0 (.t 1)⟩, ⟨some 58, some (56, false), .ld true 5 (.t 57)⟩, ⟨some 59, some (56, false), .fa 0 (.t 2)⟩, ⟨some 60, some (56, false), .ld true 4 (.t 59)⟩, ⟨some 61, some (56, false), .cal 26 [(.t 58), (.t 60)]⟩, ⟨some 62, some (56, false), .bsl 1 3 [.sc (.int .i64 0)] 2 [(0, (.c (.sc (.int .i64 6)))), (1, (.c (.sc (.int .i64 10))))]⟩, ⟨some 63, some (56, false), .cal 25 [(.t 61), (.t 62)]⟩, ⟨some 64, some (56, false), .not (.t 63)⟩, ⟨some 65, none, .pick (.t 56) (.c (.sc (.bool true))) (.t 64)⟩, ⟨some 66, none, .mv (.t 65)⟩, ⟨some 67, some (66, false), .fa 0 (.t 1)⟩, ⟨some 68, some (66, false), .ld true 5 (.t 67)⟩, ⟨some 69, some (66, false), .fa 0 (.t 2)⟩, ⟨some 70, some (66, false), .ld true 4 (.t 69)⟩, ⟨some 71, some (66, false), .cal 23 [(.t 68), (.t 70), (.c (.sc (.int .i64 10)))]⟩, ⟨some 72, some (66, false), .bld [.sc (.int .i64 0), .sc (.int .i64 0)] []⟩, ⟨some 73, some (66, false), .eqa true 2 (.t 71) (.t 72)⟩, ⟨some 74, none, .pick (.t 66) (.c (.sc (.bool true))) (.t 73)⟩, ⟨some 75, none, .mv (.t 74)⟩, ⟨some 76, some (75, false), .fa 0 (.t 1)⟩, ⟨some 77, some (75, false), .ld true 5 (.t 76)⟩, ⟨some 78, some (75, false), .fa 0 (.t 2)⟩, ⟨some 79, some (75, false), .ld true 4 (.t 78)⟩, ⟨some 80, some (75, false), .cal 23 [(.t 77), (.t 79), (.c (.sc (.int .i64 11)))]⟩, ⟨some 81, some (75, false), .fl false 1 1 (.t 80)⟩, ⟨some 82, some (75, false), .cmp .neq .i64 (.t 81) (.c (.sc (.int .i64 4)))⟩, ⟨some 83, none, .pick (.t 75) (.c (.sc (.bool true))) (.t 82)⟩])
 (.cut [0, 143, 1, 2, 83] (.cond (.t 83)
 (.seq (.reg [0, 143] [
 ⟨some 0, none, .mv (.c (.sc (.bool false)))⟩])
 .ret)
 .skip)))
 (.seq (.reg [0, 143, 1, 2] [
 ⟨some 84, none, .fa 0 (.t 2)⟩, ⟨some 85, none, .ld true 4 (.t 84)⟩, ⟨some 3, none, .alc [.nil, .nil, .nil, .nil]⟩, ⟨none, none, .sto 4 (.t 3) (.t 85)⟩])
 (.seq (.reg [0, 143, 1, 2, 3] [
 ⟨some 86, none, .bsl 1 3 [.sc (.int .i64 0)] 0 []⟩, ⟨some 87, none, .fa 0 (.t 2)⟩, ⟨some 88, none, .fa 0 (.t 87)⟩, ⟨some 89, none, .ld false 1 (.t 88)⟩, ⟨some 90, none, .app 1 3 8 (.t 86) (.t 89)⟩, ⟨some 91, none, .fa 0 (.t 3)⟩, ⟨none, none, .sto 1 (.t 91) (.t 90)⟩])
 (.seq (.reg [0, 143, 1, 2, 3] [
 ⟨some 92, none, .fa 0 (.t 3)⟩, ⟨some 93, none, .ld false 1 (.t 92)⟩, ⟨some 94, none, .ixs 1 (.t 93) (.c (.sc (.int .i64 6)))⟩, ⟨none, none, .sto 1 (.t 94) (.c (.sc (.int .i64 6)))⟩])
 (.seq (.reg [0, 143, 1, 2, 3] [
 ⟨some 95, none, .fa 0 (.t 3)⟩, ⟨some 96, none, .ld false 1 (.t 95)⟩, ⟨some 97, none, .ixs 1 (.t 96) (.c (.sc (.int .i64 14)))⟩, ⟨none, none, .sto 1 (.t 97) (.c (.sc (.int .i64 1)))⟩])
 (.seq (.reg [0, 143, 1, 2, 3] [
 ⟨some 98, none, .ld true 4 (.t 3)⟩, ⟨some 99, none, .fa 0 (.t 2)⟩, ⟨some 100, none, .ld true 4 (.t 99)⟩, ⟨some 101, none, .cal 28 [(.t 98), (.t 100)]⟩, ⟨some 4, none, .alc [.nil, .nil]⟩, ⟨none, none, .sto 2 (.t 4) (.t 101)⟩])
 (.seq (.drw [0, 143, 1, 3, 4] [
 ⟨⟨some 102, none, .fa 0 (.t 1)⟩, [], [], true⟩, ⟨⟨some 103, none, .ld true 5 (.t 102)⟩, [], [], true⟩, ⟨⟨some 104, none, .ld true 4 (.t 3)⟩, [], [], true⟩, ⟨⟨some 105, none, .cal 23 [(.t 103), (.t 104), (.c (.sc (.int .i64 10)))]⟩, [], [], false⟩, ⟨⟨some 106, none, .fl false 1 1 (.t 105)⟩, [], [], false⟩, ⟨⟨some 107, none, .cmp .eql .i64 (.t 106) (.c (.sc (.int .i64 50)))⟩, [], [], false⟩, ⟨⟨some 108, none, .mv (.t 107)⟩, [], [], false⟩, ⟨⟨some 109, some (108, true), .fa 0 (.t 1)⟩, [], [], true⟩, ⟨⟨some 110, some (108, true), .ld true 5 (.t 109)⟩, [], [], true⟩, ⟨⟨some 111, some (108, true), .ld true 4 (.t 3)⟩, [], [], true⟩, ⟨⟨some 112, some (108, true), .cal 18 [(.t 110), (.t 111)]⟩, [], [], false⟩, ⟨⟨some 113, some (108, true), .cmp .eql .i64 (.t 112) (.c (.sc (.int .i64 0)))⟩, [], [], false⟩, ⟨⟨some 114, none, .pick (.t 108) (.t 113) (.c (.sc (.bool false)))⟩, [], [], false⟩, ⟨⟨some 115, none, .mv (.t 114)⟩, [], [], false⟩, ⟨⟨some 116, some (115, true), .fa 0 (.t 4)⟩, [], [118], true⟩, ⟨⟨some 117, some (115, true), .ld false 1 (.t 116)⟩, [], [118], true⟩, ⟨⟨some 118, some (115, true), .bsl 1 3 [.sc (.int .i64 0)] 2 [(0, (.c (.sc (.int .i64 6)))), (1, (.c (.sc (.int .i64 14))))]⟩, [118], [], true⟩, ⟨⟨some 119, some (115, true), .cal 25 [(.t 117), (.t 118)]⟩, [], [], false⟩, ⟨⟨some 120, none, .pick (.t 115) (.t 119) (.c (.sc (.bool false)))⟩, [], [], false⟩, ⟨⟨some 121, none, .mv (.t 120)⟩, [], [], false⟩, ⟨⟨some 122, some (121, true), .fa 1 (.t 4)⟩, [], [], false⟩, ⟨⟨some 123, some (121, true), .ld false 1 (.t 122)⟩, [], [], false⟩, ⟨⟨some 124, some (121, true), .len (.t 123)⟩, [], [], false⟩, ⟨⟨some 125, some (121, true), .cmp .eql .i64 (.t 124) (.c (.sc (.int .i64 0)))⟩, [], [], false⟩, ⟨⟨some 126, none, .pick (.t 121) (.t 125) (.c (.sc (.bool false)))⟩, [], [], false⟩, ⟨⟨some 127, none, .mv (.t 126)⟩, [], [], false⟩, ⟨⟨some 128, some (127, true), .fa 0 (.t 1)⟩, [], [], true⟩, ⟨⟨some 129, some (127, true), .ld true 5 (.t 128)⟩, [], [], true⟩, ⟨⟨some 130, some (127, true), .cal 20 [(.t 129)]⟩, [], [], true⟩, ⟨⟨some 131, some (127, true), .fa 0 (.t 1)⟩, [], [], true⟩, ⟨⟨some 132, some (127, true), .ld true 5 (.t 131)⟩, [], [], true⟩, ⟨⟨some 133, some (127, true), .cal 21 [(.t 132)]⟩, [], [], false⟩, ⟨⟨some 134, some (127, true), .cal 15 [(.t 130), (.t 133)]⟩, [], [], false⟩, ⟨⟨some 135, none, .pick (.t 127) (.t 134) (.c (.sc (.bool false)))⟩, [], [], false⟩, ⟨⟨some 136, none, .mv (.t 135)⟩, [], [], false⟩, ⟨⟨some 137, some (136, true), .fa 0 (.t 1)⟩, [], [], true⟩, ⟨⟨some 138, some (136, true), .ld true 5 (.t 137)⟩, [], [], true⟩, ⟨⟨some 139, some (136, true), .bld [.nil, .nil, .nil, .nil] []⟩, [], [], true⟩, ⟨⟨some 140, some (136, true), .cal 18 [(.t 138), (.t 139)]⟩, [], [], false⟩, ⟨⟨some 141, some (136, true), .cmp .eql .i64 (.t 140) (.c (.sc (.int .i64 310)))⟩, [], [], false⟩, ⟨⟨some 142, none, .pick (.t 136) (.t 141) (.c (.sc (.bool false)))⟩, [], [], false⟩, ⟨⟨some 0, none, .mv (.t 142)⟩, [], [], false⟩])
 .ret))))))))))
def rv9 : List RV := [.tmp 0]
theorem ok9 : fnOk Try.prog ac9 rv9 Try.f9 = true := by kernel_rfl
end Go.Proofs.Ytledbjkolidhkaa.Txt
namespace Go.Proofs.Ytledbjkolidhkaa
open Go Go.Vc Txt
theorem nodup_sub : ∀ {l m : List Int}, l.Nodup → (∀ x ∈ l, x ∈ m) → l.length ≤ m.length
  | [], _, _, _ => by simp
  | x :: l, m, hn, h => by
    rw [List.nodup_cons] at hn
    have hx := h x (by simp)
    have := nodup_sub (l := l) (m := m.erase x) hn.2 fun y hy => by
      have hne : y ≠ x := fun e => hn.1 (e ▸ hy)
      exact (List.mem_erase_of_ne hne).2 (h y (by simp [hy]))
    rw [List.length_erase_of_mem hx] at this
    have := List.length_pos_of_mem hx
    simp only [List.length_cons]
    omega
theorem nodup_rng {l : List Int} {n : Nat} (h : l.Nodup) (hr : ∀ x ∈ l, 0 ≤ x ∧ x < n) : l.length ≤ n := by
  have := nodup_sub (m := (List.range n).map Int.ofNat) h fun x hx => by
    obtain ⟨a, b⟩ := hr x hx
    exact List.mem_map.2 ⟨x.toNat, by simp; omega, by simp; omega⟩
  simpa using this
theorem ints_ok (a b : List Int) (ha : (a.length : Int) ≤ 1000000) (hb : (b.length : Int) ≤ 1000000) : FnEq Try.prog 25 [.sl false 1 (ints a), .sl false 1 (ints b)] (.bool (decide (a = b))) := by
  refine FnEq.of_awp Try.func25 ok25 (by show 2 ≤ _; decide) (by simp only [push_cast, reduceIte, Nat.reduceEqDiff, Nat.reduceAdd, Nat.reduceSub, Nat.reduceMul, Nat.reduceBEq, Nat.reduceLT, Nat.reduceLeDiff, reduceCtorEq, Int.reduceToNat, Int.reduceNeg] <;> first | exact fun _ _ => trivial | simp) ?_
  simp only [ac25, rv25, push_cast, reduceIte, Nat.reduceEqDiff, Nat.reduceAdd, Nat.reduceSub, Nat.reduceMul, Nat.reduceBEq, Nat.reduceLT, Nat.reduceLeDiff, reduceCtorEq, Int.reduceToNat, Int.reduceNeg]
  refine cond_dec (fun h => ?_) fun h => ?_
  · rw [decide_eq_false]; intro e; exact h (by rw [e])
  have hab : a.length = b.length := by omega
  refine loop_of (fun m st => ∃ k : Nat, k ≤ a.length ∧ m = a.length - k ∧ a.take k = b.take k ∧ st = ⟨[(0, .sl false 1 (ints a)), (1, .sl false 1 (ints b)), (5, .int k)], [], [], []⟩) a.length ?_ ?_
  · refine ⟨0, by omega, by omega, by simp, ?_⟩
    simp only [push_cast, reduceIte, Nat.reduceEqDiff, Nat.reduceAdd, Nat.reduceSub, Nat.reduceMul, Nat.reduceBEq, Nat.reduceLT, Nat.reduceLeDiff, reduceCtorEq, Int.reduceToNat, Int.reduceNeg]
  · rintro m st ⟨k, hk, rfl, h1, rfl⟩
    simp only [push_cast, reduceIte, Nat.reduceEqDiff, Nat.reduceAdd, Nat.reduceSub, Nat.reduceMul, Nat.reduceBEq, Nat.reduceLT, Nat.reduceLeDiff, reduceCtorEq, Int.reduceToNat, Int.reduceNeg]
    refine cond_dec (fun h2 => ?_) fun h2 => ?_
    · have ka : k < a.length := by omega
      have kb : k < b.length := by omega
      have ga : a.getD k default = a[k] := by simp [ka]
      have gb : b.getD k default = b[k] := by simp [kb]
      rw [ga, gb]
      refine ⟨⟨by omega, by omega⟩, ka, ⟨by omega, by omega⟩, kb, cond_dec (fun h3 => ?_) fun h3 => ?_⟩
      · rw [decide_eq_false]; intro e; subst e; exact h3 rfl
      · refine ⟨⟨by omega, by omega⟩, _, ?_, k + 1, by omega, rfl, ?_, ?_⟩
        · omega
        · rw [List.take_succ_eq_append_getElem ka, List.take_succ_eq_append_getElem kb, h1, Classical.not_not.1 h3]
        · simp
    · rw [List.take_of_length_le (by omega), List.take_of_length_le (by omega)] at h1
      rw [decide_eq_true h1]
theorem blank_ok (g : Grid) (hg : GOk g) : FnEq Try.prog 20 [.agg (gridC false g)] (.agg (cfgC true (blankF g))) := by
  have h1 := hg.count
  have h2 := hg.wh
  have h3 := hg.kind
  refine FnEq.of_awp Try.func20 ok20 (by show 1 ≤ _; decide) (by simp only [push_cast, reduceIte, Nat.reduceEqDiff, Nat.reduceAdd, Nat.reduceSub, Nat.reduceMul, Nat.reduceBEq, Nat.reduceLT, Nat.reduceLeDiff, reduceCtorEq, Int.reduceToNat, Int.reduceNeg] <;> first | exact fun _ _ => trivial | simp) ?_
  simp only [ac20, rv20, push_cast, reduceIte, Nat.reduceEqDiff, Nat.reduceAdd, Nat.reduceSub, Nat.reduceMul, Nat.reduceBEq, Nat.reduceLT, Nat.reduceLeDiff, reduceCtorEq, Int.reduceToNat, Int.reduceNeg]
  refine dcal_sub (ccount_ok g hg) (by simp only [push_cast, reduceIte, Nat.reduceEqDiff, Nat.reduceAdd, Nat.reduceSub, Nat.reduceMul, Nat.reduceBEq, Nat.reduceLT, Nat.reduceLeDiff, reduceCtorEq, Int.reduceToNat, Int.reduceNeg]) rfl ?_
  simp only [push_cast, reduceIte, Nat.reduceEqDiff, Nat.reduceAdd, Nat.reduceSub, Nat.reduceMul, Nat.reduceBEq, Nat.reduceLT, Nat.reduceLeDiff, reduceCtorEq, Int.reduceToNat, Int.reduceNeg]
  refine ⟨by omega, by omega, by omega, by omega, ?_⟩
  simp only [blankF, push_cast, reduceIte, Nat.reduceEqDiff, Nat.reduceAdd, Nat.reduceSub, Nat.reduceMul, Nat.reduceBEq, Nat.reduceLT, Nat.reduceLeDiff, reduceCtorEq, Int.reduceToNat, Int.reduceNeg]
  exact ⟨fun _ _ => trivial, fun _ _ => trivial⟩
theorem rblank_ok (g : Grid) (hg : GOk g) : FnEq Try.prog 21 [.agg (gridC false g)] (.agg (cfgC true (blankF g))) := by
  have h1 := hg.count
  have h2 := hg.wh
  have h3 := hg.kind
  refine FnEq.of_awp Try.func21 ok21 (by show 1 ≤ _; decide) (by simp only [push_cast, reduceIte, Nat.reduceEqDiff, Nat.reduceAdd, Nat.reduceSub, Nat.reduceMul, Nat.reduceBEq, Nat.reduceLT, Nat.reduceLeDiff, reduceCtorEq, Int.reduceToNat, Int.reduceNeg] <;> first | exact fun _ _ => trivial | simp) ?_
  simp only [ac21, rv21, push_cast, reduceIte, Nat.reduceEqDiff, Nat.reduceAdd, Nat.reduceSub, Nat.reduceMul, Nat.reduceBEq, Nat.reduceLT, Nat.reduceLeDiff, reduceCtorEq, Int.reduceToNat, Int.reduceNeg]
  refine ⟨by omega, ?_⟩
  refine dcal_sub (rcount_ok g hg) (by simp only [push_cast, reduceIte, Nat.reduceEqDiff, Nat.reduceAdd, Nat.reduceSub, Nat.reduceMul, Nat.reduceBEq, Nat.reduceLT, Nat.reduceLeDiff, reduceCtorEq, Int.reduceToNat, Int.reduceNeg]) rfl ?_
  simp only [push_cast, reduceIte, Nat.reduceEqDiff, Nat.reduceAdd, Nat.reduceSub, Nat.reduceMul, Nat.reduceBEq, Nat.reduceLT, Nat.reduceLeDiff, reduceCtorEq, Int.reduceToNat, Int.reduceNeg]
  refine ⟨by omega, by omega, by omega, by omega, ?_⟩
  rw [show (g.w * g.h).toNat = g.kind.length by omega]
  simp only [blankF, push_cast, reduceIte, Nat.reduceEqDiff, Nat.reduceAdd, Nat.reduceSub, Nat.reduceMul, Nat.reduceBEq, Nat.reduceLT, Nat.reduceLeDiff, reduceCtorEq, Int.reduceToNat, Int.reduceNeg]
  exact ⟨fun _ _ => trivial, fun _ _ => trivial⟩
theorem rdrv_ok (g : Grid) (hg : GOk g) (n : Int) (hn : -1000000000 ≤ n ∧ n ≤ 1000000000) : FnEq Try.prog 39 [.agg (gridC false g), .int n] (.int (driversF g n).length) := by
  refine FnEq.of_awp Try.func39 ok39 (by show 2 ≤ _; decide) (by simp only [push_cast, reduceIte, Nat.reduceEqDiff, Nat.reduceAdd, Nat.reduceSub, Nat.reduceMul, Nat.reduceBEq, Nat.reduceLT, Nat.reduceLeDiff, reduceCtorEq, Int.reduceToNat, Int.reduceNeg] <;> first | exact fun _ _ => trivial | simp) ?_
  simp only [ac39, rv39, push_cast, reduceIte, Nat.reduceEqDiff, Nat.reduceAdd, Nat.reduceSub, Nat.reduceMul, Nat.reduceBEq, Nat.reduceLT, Nat.reduceLeDiff, reduceCtorEq, Int.reduceToNat, Int.reduceNeg]
  refine cal_sub (rdrivers_ok g hg n hn) (by simp only [push_cast, reduceIte, Nat.reduceEqDiff, Nat.reduceAdd, Nat.reduceSub, Nat.reduceMul, Nat.reduceBEq, Nat.reduceLT, Nat.reduceLeDiff, reduceCtorEq, Int.reduceToNat, Int.reduceNeg]) ?_
  simp only [push_cast, reduceIte, Nat.reduceEqDiff, Nat.reduceAdd, Nat.reduceSub, Nat.reduceMul, Nat.reduceBEq, Nat.reduceLT, Nat.reduceLeDiff, reduceCtorEq, Int.reduceToNat, Int.reduceNeg]
  rw [drivers_eq hg]
def idxF (p : Nat → Bool) : Nat → List Int
  | 0 => []
  | k + 1 => idxF p k ++ if p k then [(k : Int)] else []
theorem idxF_len (p : Nat → Bool) : ∀ k, (idxF p k).length ≤ k
  | 0 => Nat.le_refl _
  | k + 1 => by have := idxF_len p k; rw [idxF, List.length_append]; split <;> simp <;> omega
def lvN (id : Nat) : List Int → PV
  | [] => .nil
  | x :: l => .view id 0 (x :: l).length
def laN (id : Nat) : List Int → List (Nat × Arr)
  | [] => []
  | x :: l => [(id, ⟨1, 3, ints (x :: l)⟩)]
@[push_cast] theorem lvN_nil (id : Nat) : lvN id [] = .nil := rfl
@[push_cast] theorem lvN_cons (id : Nat) (x : Int) (l : List Int) : lvN id (x :: l) = .view id 0 (l.length + 1) := rfl
@[push_cast] theorem laN_nil (id : Nat) : laN id [] = [] := rfl
@[push_cast] theorem laN_cons (id : Nat) (x : Int) (l : List Int) : laN id (x :: l) = [(id, ⟨1, 3, ints (x :: l)⟩)] := rfl
def usedF (sel : List Int) : List Int := idxF (fun i => decide (sel.getD i 0 ≠ 0)) sel.length
theorem used_ok (g : Grid) (c : Cfg) (hl : (c.sel.length : Int) ≤ 1000000) : FnEq Try.prog 26 [.agg (gridC false g), .agg (cfgC false c)] (.sl true 1 (ints (usedF c.sel))) := by
  refine FnEq.of_awp Try.func26 ok26 (by show 2 ≤ _; decide) (by simp only [push_cast, reduceIte, Nat.reduceEqDiff, Nat.reduceAdd, Nat.reduceSub, Nat.reduceMul, Nat.reduceBEq, Nat.reduceLT, Nat.reduceLeDiff, reduceCtorEq, Int.reduceToNat, Int.reduceNeg] <;> first | exact fun _ _ => trivial | simp) ?_
  simp only [ac26, rv26, push_cast, reduceIte, Nat.reduceEqDiff, Nat.reduceAdd, Nat.reduceSub, Nat.reduceMul, Nat.reduceBEq, Nat.reduceLT, Nat.reduceLeDiff, reduceCtorEq, Int.reduceToNat, Int.reduceNeg]
  refine loop_of (fun m st => ∃ k : Nat, k ≤ c.sel.length ∧ m = c.sel.length - k ∧ st = ⟨[(5, lvN 21 (idxF (fun i => decide (c.sel.getD i 0 ≠ 0)) k)), (9, .sl false 1 (ints c.sel)), (10, .int c.sel.length), (11, .int k)], [], laN 21 (idxF (fun i => decide (c.sel.getD i 0 ≠ 0)) k), []⟩) c.sel.length ?_ ?_
  · refine ⟨0, by omega, by omega, ?_⟩
    simp only [idxF, lvN, laN, push_cast, reduceIte, Nat.reduceEqDiff, Nat.reduceAdd, Nat.reduceSub, Nat.reduceMul, Nat.reduceBEq, Nat.reduceLT, Nat.reduceLeDiff, reduceCtorEq, Int.reduceToNat, Int.reduceNeg]
  rintro m st ⟨k, hk, rfl, rfl⟩
  have hlen := idxF_len (fun i => decide (c.sel.getD i 0 ≠ 0)) k
  have hq : usedF c.sel = idxF (fun i => decide (c.sel.getD i 0 ≠ 0)) c.sel.length := rfl
  generalize hl0 : idxF (fun i => decide (c.sel.getD i 0 ≠ 0)) k = l0 at hlen ⊢
  have hs : idxF (fun i => decide (c.sel.getD i 0 ≠ 0)) (k + 1) = l0 ++ if (fun i => decide (c.sel.getD i 0 ≠ 0)) k = true then [(k : Int)] else [] := by rw [idxF, hl0]
  simp only [decide_eq_true_eq] at hs
  cases l0 with
  | nil =>
    simp only [push_cast, reduceIte, Nat.reduceEqDiff, Nat.reduceAdd, Nat.reduceSub, Nat.reduceMul, Nat.reduceBEq, Nat.reduceLT, Nat.reduceLeDiff, reduceCtorEq, Int.reduceToNat, Int.reduceNeg]
    refine cond_dec (fun h => ⟨by omega, by omega, cond_dec (fun h2 => ?_) fun h2 => ?_⟩) fun h => ?_
    · refine ⟨by simp, ?_⟩
      simp only [rows_one, push_cast, reduceIte, Nat.reduceEqDiff, Nat.reduceAdd, Nat.reduceSub, Nat.reduceMul, Nat.reduceBEq, Nat.reduceLT, Nat.reduceLeDiff, reduceCtorEq, Int.reduceToNat, Int.reduceNeg]
      refine ⟨by omega, _, ?_, k + 1, by omega, rfl, ?_⟩
      · omega
      · rw [hs, if_pos (show c.sel.getD k 0 ≠ 0 from h2)]
        simp only [List.nil_append, push_cast, reduceIte, Nat.reduceEqDiff, Nat.reduceAdd, Nat.reduceSub, Nat.reduceMul, Nat.reduceBEq, Nat.reduceLT, Nat.reduceLeDiff, reduceCtorEq, Int.reduceToNat, Int.reduceNeg]
        simp [rows_one]
        rfl
    · refine ⟨by omega, _, ?_, k + 1, by omega, rfl, ?_⟩
      · omega
      · rw [hs, if_neg (show ¬ c.sel.getD k 0 ≠ 0 from h2)]
        simp only [List.append_nil, push_cast, reduceIte, Nat.reduceEqDiff, Nat.reduceAdd, Nat.reduceSub, Nat.reduceMul, Nat.reduceBEq, Nat.reduceLT, Nat.reduceLeDiff, reduceCtorEq, Int.reduceToNat, Int.reduceNeg]
    · rw [hq, show c.sel.length = k by omega, hl0]
  | cons x l1 =>
    simp only [List.length_cons] at hlen
    simp only [push_cast, reduceIte, Nat.reduceEqDiff, Nat.reduceAdd, Nat.reduceSub, Nat.reduceMul, Nat.reduceBEq, Nat.reduceLT, Nat.reduceLeDiff, reduceCtorEq, Int.reduceToNat, Int.reduceNeg]
    refine cond_dec (fun h => ⟨by omega, by omega, cond_dec (fun h2 => ?_) fun h2 => ?_⟩) fun h => ?_
    · refine ⟨by simp, ⟨by omega, by omega⟩, by omega, _, ?_, k + 1, by omega, rfl, ?_⟩
      · omega
      · rw [hs, if_pos (show c.sel.getD k 0 ≠ 0 from h2)]
        simp only [List.cons_append, List.length_append, List.length_cons, List.length_nil, push_cast, reduceIte, Nat.reduceEqDiff, Nat.reduceAdd, Nat.reduceSub, Nat.reduceMul, Nat.reduceBEq, Nat.reduceLT, Nat.reduceLeDiff, reduceCtorEq, Int.reduceToNat, Int.reduceNeg]
    · refine ⟨by omega, _, ?_, k + 1, by omega, rfl, ?_⟩
      · omega
      · rw [hs, if_neg (show ¬ c.sel.getD k 0 ≠ 0 from h2)]
        simp only [List.append_nil, push_cast, reduceIte, Nat.reduceEqDiff, Nat.reduceAdd, Nat.reduceSub, Nat.reduceMul, Nat.reduceBEq, Nat.reduceLT, Nat.reduceLeDiff, reduceCtorEq, Int.reduceToNat, Int.reduceNeg]
    · rw [hq, show c.sel.length = k by omega, hl0, List.take_of_length_le (by simp)]
      exact ⟨fun _ _ => trivial, .refl _⟩
end Go.Proofs.Ytledbjkolidhkaa
namespace Go.Proofs.Ytledbjkolidhkaa
open Go Go.Vc Txt
def unF (a b : List Int) (i : Nat) : Bool := decide (a.length ≤ i ∨ b.length ≤ i ∨ a.getD i 0 ≠ b.getD i 0)
def unlikeF (a b : List Int) : List Int := idxF (unF a b) (max a.length b.length)
theorem unlike_ok (a b : List Int) (ha : (a.length : Int) ≤ 1000000) (hb : (b.length : Int) ≤ 1000000) : FnEq Try.prog 70 [.sl false 1 (ints a), .sl false 1 (ints b)] (.sl true 1 (ints (unlikeF a b))) := by
  obtain ⟨n, hn⟩ : ∃ n, n = max a.length b.length := ⟨_, rfl⟩
  refine FnEq.of_awp Try.func70 ok70 (by show 2 ≤ _; decide) (by simp only [push_cast, reduceIte, Nat.reduceEqDiff, Nat.reduceAdd, Nat.reduceSub, Nat.reduceMul, Nat.reduceBEq, Nat.reduceLT, Nat.reduceLeDiff, reduceCtorEq, Int.reduceToNat, Int.reduceNeg] <;> first | exact fun _ _ => trivial | simp) ?_
  simp only [ac70, rv70, push_cast, reduceIte, Nat.reduceEqDiff, Nat.reduceAdd, Nat.reduceSub, Nat.reduceMul, Nat.reduceBEq, Nat.reduceLT, Nat.reduceLeDiff, reduceCtorEq, Int.reduceToNat, Int.reduceNeg]
  refine loop_of (fun m st => ∃ k : Nat, k ≤ n ∧ m = n - k ∧ st = ⟨[(0, .sl false 1 (ints a)), (1, .sl false 1 (ints b)), (5, lvN 39 (idxF (unF a b) k)), (11, .int n), (12, .int k)], [], laN 39 (idxF (unF a b) k), []⟩) n ?_ ?_
  · refine ⟨0, by omega, by omega, ?_⟩
    simp only [idxF, push_cast, reduceIte, Nat.reduceEqDiff, Nat.reduceAdd, Nat.reduceSub, Nat.reduceMul, Nat.reduceBEq, Nat.reduceLT, Nat.reduceLeDiff, reduceCtorEq, Int.reduceToNat, Int.reduceNeg]
    rw [show max (a.length : Int) b.length = (n : Int) by omega]
  rintro m st ⟨k, hk, rfl, rfl⟩
  have hlen := idxF_len (unF a b) k
  have hq : unlikeF a b = idxF (unF a b) n := by rw [hn]; rfl
  generalize hl0 : idxF (unF a b) k = l0 at hlen ⊢
  have hs : idxF (unF a b) (k + 1) = l0 ++ if unF a b k = true then [(k : Int)] else [] := by rw [idxF, hl0]
  simp only [push_cast, reduceIte, Nat.reduceEqDiff, Nat.reduceAdd, Nat.reduceSub, Nat.reduceMul, Nat.reduceBEq, Nat.reduceLT, Nat.reduceLeDiff, reduceCtorEq, Int.reduceToNat, Int.reduceNeg]
  refine cond_dec (fun h => ?_) fun h => ?_
  · refine dcut_of ⟨[(0, .sl false 1 (ints a)), (1, .sl false 1 (ints b)), (5, lvN 39 l0), (6, .int k), (11, .int n), (12, .int k), (35, .bool (unF a b k))], [], laN 39 l0, []⟩ ?_ ?_
    · have hu : unF a b k = decide (a.length ≤ k ∨ b.length ≤ k ∨ a.getD k default ≠ b.getD k default) := rfl
      refine dgrd_decf rfl (fun h1 => ?_) fun h1 => ?_ <;> simp only [push_cast, reduceIte, Nat.reduceEqDiff, Nat.reduceAdd, Nat.reduceSub, Nat.reduceMul, Nat.reduceBEq, Nat.reduceLT, Nat.reduceLeDiff, reduceCtorEq, Int.reduceToNat, Int.reduceNeg]
      · rw [hu, decide_eq_true (.inl (by omega))]
      · refine dgrd_decf rfl (fun h2 => ?_) fun h2 => ?_ <;> simp only [push_cast, reduceIte, Nat.reduceEqDiff, Nat.reduceAdd, Nat.reduceSub, Nat.reduceMul, Nat.reduceBEq, Nat.reduceLT, Nat.reduceLeDiff, reduceCtorEq, Int.reduceToNat, Int.reduceNeg]
        · rw [hu, decide_eq_true (.inr (.inl (by omega)))]
        · refine ⟨by omega, by omega, by omega, by omega, ?_⟩
          rw [hu, show decide (a.getD k default ≠ b.getD k default) = decide (a.length ≤ k ∨ b.length ≤ k ∨ a.getD k default ≠ b.getD k default) from by
            rw [decide_eq_decide]
            exact ⟨fun h => .inr (.inr h), fun h => h.elim (fun h => by omega) fun h => h.elim (fun h => by omega) _root_.id⟩]
    generalize hp : unF a b k = p at hs ⊢
    cases l0 with
    | nil =>
      simp only [push_cast, reduceIte, Nat.reduceEqDiff, Nat.reduceAdd, Nat.reduceSub, Nat.reduceMul, Nat.reduceBEq, Nat.reduceLT, Nat.reduceLeDiff, reduceCtorEq, Int.reduceToNat, Int.reduceNeg]
      refine cond_of (fun h2 => ?_) fun h2 => ?_
      · refine ⟨by simp, ?_⟩
        simp only [rows_one, push_cast, reduceIte, Nat.reduceEqDiff, Nat.reduceAdd, Nat.reduceSub, Nat.reduceMul, Nat.reduceBEq, Nat.reduceLT, Nat.reduceLeDiff, reduceCtorEq, Int.reduceToNat, Int.reduceNeg]
        refine ⟨by omega, _, ?_, k + 1, by omega, rfl, ?_⟩
        · omega
        · rw [hs, if_pos h2]
          simp only [List.nil_append, push_cast, reduceIte, Nat.reduceEqDiff, Nat.reduceAdd, Nat.reduceSub, Nat.reduceMul, Nat.reduceBEq, Nat.reduceLT, Nat.reduceLeDiff, reduceCtorEq, Int.reduceToNat, Int.reduceNeg]
          simp [rows_one]
          rfl
      · refine ⟨by omega, _, ?_, k + 1, by omega, rfl, ?_⟩
        · omega
        · rw [hs, if_neg (by rw [h2]; decide)]
          simp only [List.append_nil, push_cast, reduceIte, Nat.reduceEqDiff, Nat.reduceAdd, Nat.reduceSub, Nat.reduceMul, Nat.reduceBEq, Nat.reduceLT, Nat.reduceLeDiff, reduceCtorEq, Int.reduceToNat, Int.reduceNeg]
    | cons x l1 =>
      simp only [List.length_cons] at hlen
      simp only [push_cast, reduceIte, Nat.reduceEqDiff, Nat.reduceAdd, Nat.reduceSub, Nat.reduceMul, Nat.reduceBEq, Nat.reduceLT, Nat.reduceLeDiff, reduceCtorEq, Int.reduceToNat, Int.reduceNeg]
      refine cond_of (fun h2 => ?_) fun h2 => ?_
      · refine ⟨by simp, ⟨by omega, by omega⟩, by omega, _, ?_, k + 1, by omega, rfl, ?_⟩
        · omega
        · rw [hs, if_pos h2]
          simp only [List.cons_append, List.length_append, List.length_cons, List.length_nil, push_cast, reduceIte, Nat.reduceEqDiff, Nat.reduceAdd, Nat.reduceSub, Nat.reduceMul, Nat.reduceBEq, Nat.reduceLT, Nat.reduceLeDiff, reduceCtorEq, Int.reduceToNat, Int.reduceNeg]
      · refine ⟨by omega, _, ?_, k + 1, by omega, rfl, ?_⟩
        · omega
        · rw [hs, if_neg (by rw [h2]; decide)]
          simp only [List.append_nil, push_cast, reduceIte, Nat.reduceEqDiff, Nat.reduceAdd, Nat.reduceSub, Nat.reduceMul, Nat.reduceBEq, Nat.reduceLT, Nat.reduceLeDiff, reduceCtorEq, Int.reduceToNat, Int.reduceNeg]
  · rw [hq, show n = k by omega, hl0]
    cases l0 with
    | nil => simp only [push_cast, reduceIte, Nat.reduceEqDiff, Nat.reduceAdd, Nat.reduceSub, Nat.reduceMul, Nat.reduceBEq, Nat.reduceLT, Nat.reduceLeDiff, reduceCtorEq, Int.reduceToNat, Int.reduceNeg]
    | cons x l1 =>
      simp only [push_cast, reduceIte, Nat.reduceEqDiff, Nat.reduceAdd, Nat.reduceSub, Nat.reduceMul, Nat.reduceBEq, Nat.reduceLT, Nat.reduceLeDiff, reduceCtorEq, Int.reduceToNat, Int.reduceNeg]
      rw [List.take_of_length_le (by simp)]
      exact ⟨fun _ _ => trivial, .refl _⟩
end Go.Proofs.Ytledbjkolidhkaa
namespace Go.Vc
theorem Inv.trim {w0 : World} {Z0 : Zone} {N : Fr} {Z : Zone} {L : Lay} {st : St} {a : Act} {w : World} (h : Inv w0 Z0 N Z L st a w) {id : Nat} {A : Arr} (hA : lk st.a id = some A) (m : Nat) (hm : m ≤ A.xs.length) (hno : st.noTo nul (fun j => j == id) = true) :
    Inv w0 Z0 N Z { L with al := fun j => if j = id then m else L.al j } { st with a := up st.a id { A with xs := A.xs.take m } } a w := by
  have hl : LSame L { L with al := fun j => if j = id then m else L.al j } nul (fun j => j == id) := ⟨fun _ _ => rfl, fun _ _ => rfl, fun _ _ => rfl, fun _ _ => rfl, fun j hj => by simp only [beq_eq_false_iff_ne] at hj; simp [hj], fun _ _ => rfl⟩
  have hk : Kept Z w w := ⟨fun _ _ _ => rfl⟩
  have hR := Rest.keep (pb := nul) (pa := fun j => j == id) h.rest hk (fun _ _ h => h) (fun _ _ _ _ _ hp => hp) (fun _ _ _ _ => rfl) (Nat.le_refl _) hl (m' := st.m) (fun i M hM => ⟨hM, rfl, by unfold Mp.to; split <;> rfl⟩)
  refine ⟨h.zt, h.z0, h.zn, h.zb, h.below, h.ownb, fun i B hi => ?_, h.injb, fun i j x y hx hy he => ?_, fun i j x y hx hy he => ?_, fun i cs hi => ?_, fun i B hi => ?_, hR.1, hR.2.1, hR.2.2.1, h.oth, h.yb, h.size, h.defers, fun i v hi => ?_⟩
  · rw [lk_up] at hi
    split at hi
    · rename_i e; subst e; exact h.owna id A hA
    · exact h.owna i B hi
  · rw [lk_up] at hx hy
    have key : ∀ k z, (if id = k then some ({ A with xs := A.xs.take m } : Arr) else lk st.a k) = some z → ∃ z', lk st.a k = some z' := fun k z hz => by
      split at hz
      · rename_i e; subst e; exact ⟨A, hA⟩
      · exact ⟨z, hz⟩
    obtain ⟨x', hx'⟩ := key i x hx
    obtain ⟨y', hy'⟩ := key j y hy
    exact h.inja i j x' y' hx' hy' he
  · rw [lk_up] at hy
    split at hy
    · rename_i e; subst e; exact h.injx i id x A hx hA he
    · exact h.injx i j x y hx hy he
  · exact (h.boxes i cs hi).keep hk (fun _ _ h => h) rfl hl rfl (St.noTo_box hno hi)
  · rw [lk_up] at hi
    split at hi
    · rename_i e
      cases hi
      subst e
      obtain ⟨cur, hX⟩ := h.arrs id A hA
      refine ⟨cur, hX.pos, hX.ae, ?_, hX.blk, hX.size, ?_, hX.max, fun r hr => hX.rows r (List.mem_of_mem_take hr), fun p q r c hp hq => ?_⟩
      · simp; omega
      · exact Nat.le_trans (by simp; omega) hX.fits
      · rw [List.getElem?_take] at hp
        split at hp
        · exact hX.cell p q r c hp hq
        · cases hp
    · rename_i e
      obtain ⟨c, hX⟩ := h.arrs i B hi
      exact ⟨c, hX.keep hk (fun _ _ h => h) rfl hl (by simpa using Ne.symm e)⟩
  · exact (h.slots i v hi).keep hk (fun _ _ h => h) hl (St.noTo_slot hno hi)
end Go.Vc
namespace Go.Proofs.Ytledbjkolidhkaa
open Go Go.Vc Txt
end Go.Proofs.Ytledbjkolidhkaa
namespace Go.Vc
theorem FnM.trimA {E : Env} {f : Nat} {args : List PV} {st : St} {Q : PV → St → Prop} (id m : Nat) (h : FnM E f args st fun r st' => r = .view id 0 m ∧ ∃ A, lk st'.a id = some A ∧ m ≤ A.xs.length ∧ st'.noTo nul (fun j => j == id) = true ∧ Q r { st' with a := up st'.a id { A with xs := A.xs.take m } }) : FnM E f args st Q :=
  ⟨h.1, fun w0 Z0 X G Z L w vs h1 h2 h3 => (h.2 w0 Z0 X G Z L w vs h1 h2 h3).mono fun _ _ ⟨v, r, st', Z', L', e1, ⟨e2, A, e3, e4, e5, e6⟩, e7, e8⟩ => by
    subst e2
    obtain ⟨ad, cap', c1, c2, c3, c4, c5, c6⟩ := e8
    exact ⟨v, _, _, Z', _, e1, e6, e7.trim e3 m e4 e5, ad, cap', c1, c2, c3, by simp, c5, c6⟩⟩
end Go.Vc
namespace Go.Proofs.Ytledbjkolidhkaa
open Go Go.Vc Txt
def ccB (c d : Cfg) : List (Nat × List PV) := [(2, cfgC false c), (3, cfgC false d)]
def lsC (l : List Int) : List PV := [.sl true 1 (ints l)]
@[push_cast] theorem lsC_eq (l : List Int) : lsC l = [.sl true 1 (ints l)] := rfl
def ccA (ls : List (List Int)) : Arr := ⟨1, 29, rows lsC ls⟩
theorem grow_ok (c d : Cfg) (ls : List (List Int)) (q : Nat) (n : Nat) (hn : 0 < n) (hl : (n : Int) ≤ 10000000) : FnM (Env.of Try.prog) 82 [.nil, .int n] ⟨[(0, .ptr 2 0), (1, .ptr 3 0), (500, .view 22 0 q), (503, .int n), (523, .int n)], ccB c d, [(22, ccA ls)], []⟩
    (fun r st' => r = .view 622 0 0 ∧ st' = ⟨[(0, .ptr 2 0), (1, .ptr 3 0), (500, .view 22 0 q), (503, .int n), (523, .int n)], ccB c d, [(22, ccA ls), (622, ⟨1, 3, []⟩)], []⟩) := by
  refine FnM.trimA 622 0 ?_
  simp only [ccB, ccA, push_cast, reduceIte, Nat.reduceEqDiff, Nat.reduceAdd, Nat.reduceSub, Nat.reduceMul, Nat.reduceBEq, Nat.reduceLT, Nat.reduceLeDiff, reduceCtorEq, Int.reduceToNat, Int.reduceNeg]
  refine fnM_of 600 Try.func82 ok82_600 (by show 2 ≤ _; decide) rfl (by show 0 ≤ 600; decide) ?_
  simp only [ac82_600, rv82_600, push_cast, reduceIte, Nat.reduceEqDiff, Nat.reduceAdd, Nat.reduceSub, Nat.reduceMul, Nat.reduceBEq, Nat.reduceLT, Nat.reduceLeDiff, reduceCtorEq, Int.reduceToNat, Int.reduceNeg]
  refine cond_dec (fun h => by omega) fun _ => ?_
  refine ⟨by omega, by omega, ?_⟩
  refine cond_dec (fun _ => ?_) fun h => by omega
  refine ⟨by omega, by omega, by omega, by simp, rfl, _, rfl, rfl, ?_⟩
  simp only [List.take_zero, push_cast, reduceIte, Nat.reduceEqDiff, Nat.reduceAdd, Nat.reduceSub, Nat.reduceMul, Nat.reduceBEq, Nat.reduceLT, Nat.reduceLeDiff, reduceCtorEq, Int.reduceToNat, Int.reduceNeg]
theorem grow0_ok (c d : Cfg) (ls : List (List Int)) (q : Nat) : FnM (Env.of Try.prog) 82 [.nil, .int 0] ⟨[(0, .ptr 2 0), (1, .ptr 3 0), (500, .view 22 0 q), (503, .int 0), (523, .int 0)], ccB c d, [(22, ccA ls)], []⟩
    (fun r st' => r = .nil ∧ st' = ⟨[(0, .ptr 2 0), (1, .ptr 3 0), (500, .view 22 0 q), (503, .int 0), (523, .int 0)], ccB c d, [(22, ccA ls)], []⟩) := by
  simp only [ccB, ccA, push_cast, reduceIte, Nat.reduceEqDiff, Nat.reduceAdd, Nat.reduceSub, Nat.reduceMul, Nat.reduceBEq, Nat.reduceLT, Nat.reduceLeDiff, reduceCtorEq, Int.reduceToNat, Int.reduceNeg]
  refine fnM_of 600 Try.func82 ok82_600 (by show 2 ≤ _; decide) rfl (by show 0 ≤ 600; decide) ?_
  simp only [ac82_600, rv82_600, push_cast, reduceIte, Nat.reduceEqDiff, Nat.reduceAdd, Nat.reduceSub, Nat.reduceMul, Nat.reduceBEq, Nat.reduceLT, Nat.reduceLeDiff, reduceCtorEq, Int.reduceToNat, Int.reduceNeg]
  refine cond_dec (p := (0 : Int) < 0) (fun h => by omega) fun _ => ?_
  refine ⟨by omega, by omega, ?_⟩
  refine cond_dec (fun h => by omega) fun _ => ?_
  trivial
def ccR (ls : List (List Int)) (r : PV) (a : List (Nat × Arr)) : Prop :=
  (r = .nil ∧ ls.flatten = [] ∧ a = [(22, ccA ls)]) ∨ (ls.flatten ≠ [] ∧ r = .view 622 0 ls.flatten.length ∧ a = [(22, ccA ls), (622, ⟨1, 3, ints ls.flatten⟩)])
def ccP : List (Nat × PV) := [(0, .ptr 2 0), (1, .ptr 3 0)]
theorem flat_take (ls : List (List Int)) (k : Nat) (hk : k < ls.length) : (ls.take (k + 1)).flatten = (ls.take k).flatten ++ ls.getD k default := by
  rw [List.take_succ_eq_append_getElem hk, List.flatten_append]
  simp [hk]
theorem concat_ok (c d : Cfg) (ls : List (List Int)) (h3 : ls.length ≤ 3) (hb : ∀ l ∈ ls, (l.length : Int) ≤ 1000000) : FnM (Env.of Try.prog) 69 [.view 22 0 ls.length] ⟨ccP, ccB c d, [(22, ccA ls)], []⟩
    (fun r st' => ∃ a, st' = ⟨ccP, ccB c d, a, []⟩ ∧ ccR ls r a) := by
  have hbd : ∀ k, k ≤ ls.length → ((ls.take k).flatten.length : Int) ≤ k * 1000000 := by
    intro k
    induction k with
    | zero => intro _; simp
    | succ k ih =>
      intro hk
      have h1 := ih (by omega)
      have h2 := hb (ls.getD k default) (by simp [show k < ls.length by omega])
      rw [flat_take ls k (by omega), List.length_append]
      omega
  simp only [ccP, ccB, ccA, push_cast, reduceIte, Nat.reduceEqDiff, Nat.reduceAdd, Nat.reduceSub, Nat.reduceMul, Nat.reduceBEq, Nat.reduceLT, Nat.reduceLeDiff, reduceCtorEq, Int.reduceToNat, Int.reduceNeg]
  refine fnM_of 500 Try.func69 ok69_500 (by show 1 ≤ _; decide) rfl (by show 0 ≤ 500; decide) ?_
  simp only [ac69_500, rv69_500, push_cast, reduceIte, Nat.reduceEqDiff, Nat.reduceAdd, Nat.reduceSub, Nat.reduceMul, Nat.reduceBEq, Nat.reduceLT, Nat.reduceLeDiff, reduceCtorEq, Int.reduceToNat, Int.reduceNeg]
  refine loop_of (fun m st => ∃ k : Nat, k ≤ ls.length ∧ m = ls.length - k ∧ st = ⟨ccP ++ [(500, .view 22 0 ls.length), (503, .int ((ls.take k).flatten.length : Nat)), (509, .view 22 0 ls.length), (510, .int ls.length), (511, .int k)], ccB c d, [(22, ccA ls)], []⟩) ls.length ?_ ?_
  · refine ⟨0, by omega, by omega, ?_⟩
    simp only [ccP, ccB, ccA, List.cons_append, List.nil_append, List.take_zero, List.flatten_nil, List.length_nil, push_cast, reduceIte, Nat.reduceEqDiff, Nat.reduceAdd, Nat.reduceSub, Nat.reduceMul, Nat.reduceBEq, Nat.reduceLT, Nat.reduceLeDiff, reduceCtorEq, Int.reduceToNat, Int.reduceNeg]
  rintro m st ⟨k, hk, rfl, rfl⟩
  have h1 := hbd k hk
  simp only [ccP, ccB, ccA, List.cons_append, List.nil_append, push_cast, reduceIte, Nat.reduceEqDiff, Nat.reduceAdd, Nat.reduceSub, Nat.reduceMul, Nat.reduceBEq, Nat.reduceLT, Nat.reduceLeDiff, reduceCtorEq, Int.reduceToNat, Int.reduceNeg]
  refine cond_dec (fun h => ⟨by omega, by omega, ?_⟩) fun h => ?_
  · have h2 := hb (ls.getD k default) (by simp [show k < ls.length by omega])
    have h5 := flat_take ls k (by omega)
    refine ⟨by omega, ?_⟩
    refine cond_dec (fun h => by omega) fun _ => ?_
    refine ⟨by omega, _, ?_, k + 1, by omega, rfl, ?_⟩
    · omega
    · rw [h5, List.length_append]
      simp only [ccP, ccB, ccA, List.cons_append, List.nil_append, push_cast, reduceIte, Nat.reduceEqDiff, Nat.reduceAdd, Nat.reduceSub, Nat.reduceMul, Nat.reduceBEq, Nat.reduceLT, Nat.reduceLeDiff, reduceCtorEq, Int.reduceToNat, Int.reduceNeg]
  · rw [List.take_of_length_le (by omega)] at h1 ⊢
    by_cases hF : ls.flatten = []
    · have hall : ∀ k, ls.getD k default = [] := fun k => by
        by_cases hk : k < ls.length
        · have := List.flatten_eq_nil_iff.1 hF ls[k] (List.getElem_mem hk)
          simp [hk, this]
        · rw [List.getD_eq_getElem?_getD, List.getElem?_eq_none (by omega)]; rfl
      rw [hF]
      simp only [List.length_nil]
      refine clm_eq (grow0_ok c d ls ls.length) ?_
      simp only [ccB, ccA, push_cast, reduceIte, Nat.reduceEqDiff, Nat.reduceAdd, Nat.reduceSub, Nat.reduceMul, Nat.reduceBEq, Nat.reduceLT, Nat.reduceLeDiff, reduceCtorEq, Int.reduceToNat, Int.reduceNeg]
      refine loop_of (fun m st => ∃ k : Nat, k ≤ ls.length ∧ m = ls.length - k ∧ st = ⟨ccP ++ [(506, .nil), (525, .view 22 0 ls.length), (526, .int ls.length), (527, .int k)], ccB c d, [(22, ccA ls)], []⟩) ls.length ?_ ?_
      · refine ⟨0, by omega, by omega, ?_⟩
        simp only [ccP, ccB, ccA, List.cons_append, List.nil_append, push_cast, reduceIte, Nat.reduceEqDiff, Nat.reduceAdd, Nat.reduceSub, Nat.reduceMul, Nat.reduceBEq, Nat.reduceLT, Nat.reduceLeDiff, reduceCtorEq, Int.reduceToNat, Int.reduceNeg]
      rintro m st ⟨k, hk, rfl, rfl⟩
      simp only [ccP, ccB, ccA, List.cons_append, List.nil_append, push_cast, reduceIte, Nat.reduceEqDiff, Nat.reduceAdd, Nat.reduceSub, Nat.reduceMul, Nat.reduceBEq, Nat.reduceLT, Nat.reduceLeDiff, reduceCtorEq, Int.reduceToNat, Int.reduceNeg]
      refine cond_dec (fun h => ⟨by omega, by omega, ?_⟩) fun h => ?_
      · rw [hall k]
        simp only [show ints [] = [] from rfl, push_cast, reduceIte, Nat.reduceEqDiff, Nat.reduceAdd, Nat.reduceSub, Nat.reduceMul, Nat.reduceBEq, Nat.reduceLT, Nat.reduceLeDiff, reduceCtorEq, Int.reduceToNat, Int.reduceNeg]
        refine ⟨by omega, _, ?_, k + 1, by omega, rfl, ?_⟩
        · omega
        · simp only [ccP, ccB, ccA, List.cons_append, List.nil_append, push_cast, reduceIte, Nat.reduceEqDiff, Nat.reduceAdd, Nat.reduceSub, Nat.reduceMul, Nat.reduceBEq, Nat.reduceLT, Nat.reduceLeDiff, reduceCtorEq, Int.reduceToNat, Int.reduceNeg]
      · exact ⟨_, rfl, .inl ⟨rfl, hF, rfl⟩⟩
    · have hpos := List.length_pos_iff.2 hF
      refine clm_eq (grow_ok c d ls ls.length ls.flatten.length hpos (by omega)) ?_
      simp only [ccB, ccA, push_cast, reduceIte, Nat.reduceEqDiff, Nat.reduceAdd, Nat.reduceSub, Nat.reduceMul, Nat.reduceBEq, Nat.reduceLT, Nat.reduceLeDiff, reduceCtorEq, Int.reduceToNat, Int.reduceNeg]
      refine loop_of (fun m st => ∃ k : Nat, k ≤ ls.length ∧ m = ls.length - k ∧ st = ⟨ccP ++ [(506, .view 622 0 (ls.take k).flatten.length), (525, .view 22 0 ls.length), (526, .int ls.length), (527, .int k)], ccB c d, [(22, ccA ls), (622, ⟨1, 3, ints (ls.take k).flatten⟩)], []⟩) ls.length ?_ ?_
      · refine ⟨0, by omega, by omega, ?_⟩
        simp only [ccP, ccB, ccA, List.cons_append, List.nil_append, List.take_zero, List.flatten_nil, List.length_nil, push_cast, reduceIte, Nat.reduceEqDiff, Nat.reduceAdd, Nat.reduceSub, Nat.reduceMul, Nat.reduceBEq, Nat.reduceLT, Nat.reduceLeDiff, reduceCtorEq, Int.reduceToNat, Int.reduceNeg]
        rfl
      rintro m st ⟨k, hk, rfl, rfl⟩
      have h1 := hbd k hk
      simp only [ccP, ccB, ccA, List.cons_append, List.nil_append, push_cast, reduceIte, Nat.reduceEqDiff, Nat.reduceAdd, Nat.reduceSub, Nat.reduceMul, Nat.reduceBEq, Nat.reduceLT, Nat.reduceLeDiff, reduceCtorEq, Int.reduceToNat, Int.reduceNeg]
      refine cond_dec (fun h => ⟨by omega, by omega, ?_⟩) fun h => ?_
      · have h2 := hb (ls.getD k default) (by simp [show k < ls.length by omega])
        have h5 := flat_take ls k (by omega)
        refine ⟨⟨by omega, by omega⟩, by omega, _, ?_, k + 1, by omega, rfl, ?_⟩
        · omega
        · rw [h5, List.length_append]
          simp only [ccP, ccB, ccA, List.cons_append, List.nil_append, push_cast, reduceIte, Nat.reduceEqDiff, Nat.reduceAdd, Nat.reduceSub, Nat.reduceMul, Nat.reduceBEq, Nat.reduceLT, Nat.reduceLeDiff, reduceCtorEq, Int.reduceToNat, Int.reduceNeg]
      · rw [List.take_of_length_le (by omega)]
        exact ⟨rfl, _, rfl, .inr ⟨hF, rfl, rfl⟩⟩
def tilesF (c d : Cfg) : List Int := unlikeF c.mode d.mode ++ unlikeF c.tab d.tab ++ unlikeF c.ram d.ram
def differF (c d : Cfg) : List Int × List Int := (unlikeF c.sel d.sel, Go.Lib.compact (sortF (tilesF c d)))
structure CfgSm (c : Cfg) : Prop where
  sel : (c.sel.length : Int) ≤ 1000000
  mode : (c.mode.length : Int) ≤ 1000000
  tab : (c.tab.length : Int) ≤ 1000000
  ram : (c.ram.length : Int) ≤ 1000000
theorem unlikeF_len (a b : List Int) (ha : (a.length : Int) ≤ 1000000) (hb : (b.length : Int) ≤ 1000000) : ((unlikeF a b).length : Int) ≤ 1000000 := by
  have := idxF_len (unF a b) (max a.length b.length)
  rw [unlikeF]
  omega
set_option maxHeartbeats 2000000 in
theorem differ_ok (c d : Cfg) (hc : CfgSm c) (hd : CfgSm d) : FnEq Try.prog 47 [.agg (cfgC false c), .agg (cfgC false d)] (.tup [.sl true 1 (ints (differF c d).1), .sl true 1 (ints (differF c d).2)]) := by
  have u0 := unlike_ok c.sel d.sel hc.sel hd.sel
  have u1 := unlike_ok c.mode d.mode hc.mode hd.mode
  have u2 := unlike_ok c.tab d.tab hc.tab hd.tab
  have u3 := unlike_ok c.ram d.ram hc.ram hd.ram
  have l1 := unlikeF_len c.mode d.mode hc.mode hd.mode
  have l2 := unlikeF_len c.tab d.tab hc.tab hd.tab
  have l3 := unlikeF_len c.ram d.ram hc.ram hd.ram
  refine FnEq.of_awp Try.func47 ok47 (by show 2 ≤ _; decide) (by simp only [push_cast, reduceIte, Nat.reduceEqDiff, Nat.reduceAdd, Nat.reduceSub, Nat.reduceMul, Nat.reduceBEq, Nat.reduceLT, Nat.reduceLeDiff, reduceCtorEq, Int.reduceToNat, Int.reduceNeg] <;> first | exact fun _ _ => trivial | simp) ?_
  simp only [ac47, rv47, push_cast, reduceIte, Nat.reduceEqDiff, Nat.reduceAdd, Nat.reduceSub, Nat.reduceMul, Nat.reduceBEq, Nat.reduceLT, Nat.reduceLeDiff, reduceCtorEq, Int.reduceToNat, Int.reduceNeg]
  refine dcal_eq u1 (u := []) rfl ?_
  simp only [push_cast, reduceIte, Nat.reduceEqDiff, Nat.reduceAdd, Nat.reduceSub, Nat.reduceMul, Nat.reduceBEq, Nat.reduceLT, Nat.reduceLeDiff, reduceCtorEq, Int.reduceToNat, Int.reduceNeg]
  refine dcal_eq u2 (u := []) rfl ?_
  simp only [push_cast, reduceIte, Nat.reduceEqDiff, Nat.reduceAdd, Nat.reduceSub, Nat.reduceMul, Nat.reduceBEq, Nat.reduceLT, Nat.reduceLeDiff, reduceCtorEq, Int.reduceToNat, Int.reduceNeg]
  refine cal_eq u3 ?_
  simp only [push_cast, reduceIte, Nat.reduceEqDiff, Nat.reduceAdd, Nat.reduceSub, Nat.reduceMul, Nat.reduceBEq, Nat.reduceLT, Nat.reduceLeDiff, reduceCtorEq, Int.reduceToNat, Int.reduceNeg]
  obtain ⟨ls, hls⟩ : ∃ ls, ls = [unlikeF c.mode d.mode, unlikeF c.tab d.tab, unlikeF c.ram d.ram] := ⟨_, rfl⟩
  have hfl : ls.flatten = tilesF c d := by rw [hls]; simp [tilesF]
  have hln : ((tilesF c d).length : Int) ≤ 3000000 := by rw [tilesF]; simp only [List.length_append]; omega
  have hcc := concat_ok c d ls (by rw [hls]; exact Nat.le_refl 3) (fun l hl => by rw [hls] at hl; simp at hl; rcases hl with rfl | rfl | rfl <;> assumption)
  have hfr : FnM (Env.of Try.prog) 69 [.view 22 0 3] ⟨[(2, .ptr 2 0), (3, .ptr 3 0), (7, .ptr 2 1), (8, .sl false 1 (ints c.mode)), (9, .ptr 3 1), (10, .sl false 1 (ints d.mode)), (11, .sl true 1 (ints (unlikeF c.mode d.mode))), (12, .ptr 2 2),
      (13, .sl false 1 (ints c.tab)), (14, .ptr 3 2), (15, .sl false 1 (ints d.tab)), (16, .sl true 1 (ints (unlikeF c.tab d.tab))), (17, .ptr 2 3), (18, .sl false 1 (ints c.ram)), (19, .ptr 3 3), (20, .sl false 1 (ints d.ram)), (21, .sl true 1 (ints (unlikeF c.ram d.ram))), (22, .view 22 0 3)], ccB c d, [(22, ccA ls)], []⟩
      (fun r st' => ∃ a, st' = ⟨[(2, .ptr 2 0), (3, .ptr 3 0)], ccB c d, a, []⟩ ∧ ccR ls r a) := by
    refine FnM.frame ccP [(2, .ptr 2 0), (3, .ptr 3 0)] rfl rfl (by simp only [ccP, push_cast, reduceIte, Nat.reduceEqDiff, Nat.reduceAdd, Nat.reduceSub, Nat.reduceMul, Nat.reduceBEq, Nat.reduceLT, Nat.reduceLeDiff, reduceCtorEq, Int.reduceToNat, Int.reduceNeg]) ?_
    rw [show (3 : Nat) = ls.length by rw [hls]; rfl]
    refine FnM.mono hcc ?_
    rintro r st' ⟨a, rfl, h⟩
    exact ⟨_, _, _, rfl, a, rfl, h⟩
  rw [hls] at hfr
  refine clm_of hfr ?_
  rintro r st' ⟨a, rfl, h⟩
  rw [← hls] at h
  rcases h with ⟨rfl, h1, rfl⟩ | ⟨h1, rfl, rfl⟩
  · simp only [ccB, ccA, push_cast, reduceIte, Nat.reduceEqDiff, Nat.reduceAdd, Nat.reduceSub, Nat.reduceMul, Nat.reduceBEq, Nat.reduceLT, Nat.reduceLeDiff, reduceCtorEq, Int.reduceToNat, Int.reduceNeg]
    refine clm_eq sort_nil ?_
    simp only [push_cast, reduceIte, Nat.reduceEqDiff, Nat.reduceAdd, Nat.reduceSub, Nat.reduceMul, Nat.reduceBEq, Nat.reduceLT, Nat.reduceLeDiff, reduceCtorEq, Int.reduceToNat, Int.reduceNeg]
    refine cal_eq u0 ?_
    simp only [push_cast, reduceIte, Nat.reduceEqDiff, Nat.reduceAdd, Nat.reduceSub, Nat.reduceMul, Nat.reduceBEq, Nat.reduceLT, Nat.reduceLeDiff, reduceCtorEq, Int.reduceToNat, Int.reduceNeg]
    refine clm_eq compact_nil ?_
    simp only [differF, ← hfl, h1, push_cast, reduceIte, Nat.reduceEqDiff, Nat.reduceAdd, Nat.reduceSub, Nat.reduceMul, Nat.reduceBEq, Nat.reduceLT, Nat.reduceLeDiff, reduceCtorEq, Int.reduceToNat, Int.reduceNeg]
    refine ⟨fun _ _ => trivial, ?_⟩
    rw [sortF, List.mergeSort_nil]
    rfl
  · simp only [ccB, ccA, hfl, push_cast, reduceIte, Nat.reduceEqDiff, Nat.reduceAdd, Nat.reduceSub, Nat.reduceMul, Nat.reduceBEq, Nat.reduceLT, Nat.reduceLeDiff, reduceCtorEq, Int.reduceToNat, Int.reduceNeg]
    refine clm_eq (sort_ok (id := 622) (ty := 3) rfl (by omega)) ?_
    simp only [push_cast, reduceIte, Nat.reduceEqDiff, Nat.reduceAdd, Nat.reduceSub, Nat.reduceMul, Nat.reduceBEq, Nat.reduceLT, Nat.reduceLeDiff, reduceCtorEq, Int.reduceToNat, Int.reduceNeg]
    refine cal_eq u0 ?_
    simp only [push_cast, reduceIte, Nat.reduceEqDiff, Nat.reduceAdd, Nat.reduceSub, Nat.reduceMul, Nat.reduceBEq, Nat.reduceLT, Nat.reduceLeDiff, reduceCtorEq, Int.reduceToNat, Int.reduceNeg]
    have hsl : (sortF (tilesF c d)).length = (tilesF c d).length := by rw [sortF, List.length_mergeSort]
    refine clm_eq (compact_at (id := 622) (ty := 3) hsl.symm rfl (by rw [hsl]; omega)) ?_
    simp only [differF, push_cast, reduceIte, Nat.reduceEqDiff, Nat.reduceAdd, Nat.reduceSub, Nat.reduceMul, Nat.reduceBEq, Nat.reduceLT, Nat.reduceLeDiff, reduceCtorEq, Int.reduceToNat, Int.reduceNeg]
    rw [List.take_left]
    first
      | exact ⟨⟨fun _ _ => trivial, fun _ _ => trivial⟩, .refl _, .refl _⟩
      | exact ⟨⟨fun _ _ => trivial, fun _ _ => trivial⟩, .refl _⟩
end Go.Proofs.Ytledbjkolidhkaa
namespace Go.Proofs.Ytledbjkolidhkaa.Txt
open Go Go.Vc
set_option maxRecDepth 100000
def ac43b_r6 : AC :=
 (.seq (.reg [0, 40, 0, 1, 2, 3, 9, 10] [
 ⟨some 23, none, .mv (.t 1)⟩, ⟨some 24, none, .cal 41 [(.t 23), (.c (.sc (.int .i64 0))), (.c (.sc (.int .i64 3)))]⟩, ⟨some 25, none, .mv (.t 24)⟩, ⟨some 26, some (25, true), .mv (.t 0)⟩, ⟨some 27, some (25, true), .mv (.t 1)⟩, ⟨some 28, some (25, true), .cal 68 [(.t 26), (.t 27)]⟩, ⟨some 29, none, .pick (.t 25) (.t 28) (.c (.sc (.bool false)))⟩, ⟨some 30, none, .mv (.t 29)⟩, ⟨some 31, some (30, true), .mv (.t 2)⟩, ⟨some 32, some (30, true), .mv (.t 9)⟩, ⟨some 33, some (30, true), .cal 41 [(.t 31), (.c (.sc (.int .i64 0))), (.t 32)]⟩, ⟨some 34, none, .pick (.t 30) (.t 33) (.c (.sc (.bool false)))⟩, ⟨some 35, none, .mv (.t 34)⟩, ⟨some 36, some (35, true), .mv (.t 3)⟩, ⟨some 37, some (35, true), .mv (.t 10)⟩, ⟨some 38, some (35, true), .cal 41 [(.t 36), (.c (.sc (.int .i64 0))), (.t 37)]⟩, ⟨some 39, none, .pick (.t 35) (.t 38) (.c (.sc (.bool false)))⟩, ⟨some 8, none, .mv (.t 39)⟩])
 .ret)
def ac43b : AC :=
 (.seq (.reg [0, 40, 0, 1, 2, 3] [
 ⟨some 8, none, .mv (.c (.sc (.bool false)))⟩])
 (.seq (.reg [0, 40, 0, 1, 2, 3] [
 ⟨some 9, none, .mv (.c (.sc (.int .i64 0)))⟩, ⟨some 10, none, .mv (.c (.sc (.int .i64 0)))⟩])
 (.seq (.seq (.reg [0, 40, 0, 1, 2, 3, 9, 10] [
 ⟨some 11, none, .mv (.t 1)⟩, ⟨some 12, none, .cmp .eql .i64 (.t 11) (.c (.sc (.int .i64 1)))⟩, ⟨some 13, none, .mv (.t 12)⟩, ⟨some 14, some (13, false), .mv (.t 1)⟩, ⟨some 15, some (13, false), .cmp .eql .i64 (.t 14) (.c (.sc (.int .i64 2)))⟩, ⟨some 16, none, .pick (.t 13) (.c (.sc (.bool true))) (.t 15)⟩])
 (.cut [0, 40, 0, 1, 2, 3, 9, 10, 16] (.cond (.t 16)
 (.reg [0, 40, 0, 1, 2, 3, 10] [
 ⟨some 9, none, .mv (.c (.sc (.int .i64 65535)))⟩])
 .skip)))
 (.seq (.seq (.reg [0, 40, 0, 1, 2, 3, 9, 10] [
 ⟨some 17, none, .mv (.t 1)⟩, ⟨some 18, none, .cmp .eql .i64 (.t 17) (.c (.sc (.int .i64 2)))⟩, ⟨some 19, none, .mv (.t 18)⟩, ⟨some 20, some (19, false), .mv (.t 1)⟩, ⟨some 21, some (19, false), .cmp .eql .i64 (.t 20) (.c (.sc (.int .i64 3)))⟩, ⟨some 22, none, .pick (.t 19) (.c (.sc (.bool true))) (.t 21)⟩])
 (.cut [0, 40, 0, 1, 2, 3, 9, 10, 22] (.cond (.t 22)
 (.reg [0, 40, 0, 1, 2, 3, 9] [
 ⟨some 10, none, .mv (.c (.sc (.int .i64 255)))⟩])
 .skip)))
 ac43b_r6))))
def rv43b : List RV := [.tmp 8]
theorem ok43b : fnOk Try.prog ac43b rv43b Try.f43 = true := by kernel_rfl
end Go.Proofs.Ytledbjkolidhkaa.Txt
namespace Go.Proofs.Ytledbjkolidhkaa
open Go Go.Vc Txt
def TileOk (k m t r : Int) : Prop := (0 ≤ m ∧ m ≤ 3) ∧ holdsF k m = true ∧ (0 ≤ t ∧ t ≤ if m = 1 ∨ m = 2 then 65535 else 0) ∧ (0 ≤ r ∧ r ≤ if m = 2 ∨ m = 3 then 255 else 0)
instance (k m t r : Int) : Decidable (TileOk k m t r) := by unfold TileOk; infer_instance
set_option maxHeartbeats 2000000 in
theorem vtile_ok (k m t r : Int) : FnEq Try.prog 43 [.int k, .int m, .int t, .int r] (.bool (decide (TileOk k m t r))) := by
  have key : ∀ T R : Int, (T = if m = 1 ∨ m = 2 then 65535 else 0) → (R = if m = 2 ∨ m = 3 then 255 else 0) → (TileOk k m t r ↔ (0 ≤ m ∧ m ≤ 3) ∧ holdsF k m = true ∧ (0 ≤ t ∧ t ≤ T) ∧ (0 ≤ r ∧ r ≤ R)) := fun T R hT hR => by rw [TileOk, hT, hR]
  have fin : ∀ T R : Int, (T = if m = 1 ∨ m = 2 then 65535 else 0) → (R = if m = 2 ∨ m = 3 then 255 else 0) → ∀ {st : St}, st.keepS [0, 40, 0, 1, 2, 3, 9, 10] = ⟨[(0, .int k), (1, .int m), (2, .int t), (3, .int r), (9, .int T), (10, .int R)], [], [], []⟩ →
      awp (Env.of Try.prog) ac43b_r6 (retK rv43b fun x => Sub x (.bool (decide (TileOk k m t r)))) st := by
    intro T R hT hR st hst
    have hk := key T R hT hR
    simp only [ac43b_r6, rv43b, push_cast, reduceIte, Nat.reduceEqDiff, Nat.reduceAdd, Nat.reduceSub, Nat.reduceMul, Nat.reduceBEq, Nat.reduceLT, Nat.reduceLeDiff, reduceCtorEq, Int.reduceToNat, Int.reduceNeg, hst]
    refine cal_eq (within_ok _ _ _) ?_
    simp only [push_cast, reduceIte, Nat.reduceEqDiff, Nat.reduceAdd, Nat.reduceSub, Nat.reduceMul, Nat.reduceBEq, Nat.reduceLT, Nat.reduceLeDiff, reduceCtorEq, Int.reduceToNat, Int.reduceNeg]
    refine grd_dec rfl (fun w1 => ?_) fun w1 => ?_ <;> simp only [push_cast, reduceIte, Nat.reduceEqDiff, Nat.reduceAdd, Nat.reduceSub, Nat.reduceMul, Nat.reduceBEq, Nat.reduceLT, Nat.reduceLeDiff, reduceCtorEq, Int.reduceToNat, Int.reduceNeg]
    rotate_left
    · rw [decide_eq_false fun h => w1 (hk.1 h).1]
    refine cal_eq (holds_ok _ _) ?_
    simp only [push_cast, reduceIte, Nat.reduceEqDiff, Nat.reduceAdd, Nat.reduceSub, Nat.reduceMul, Nat.reduceBEq, Nat.reduceLT, Nat.reduceLeDiff, reduceCtorEq, Int.reduceToNat, Int.reduceNeg]
    refine grd_b rfl (fun w2 => ?_) fun w2 => ?_ <;> simp only [push_cast, reduceIte, Nat.reduceEqDiff, Nat.reduceAdd, Nat.reduceSub, Nat.reduceMul, Nat.reduceBEq, Nat.reduceLT, Nat.reduceLeDiff, reduceCtorEq, Int.reduceToNat, Int.reduceNeg]
    rotate_left
    · rw [decide_eq_false fun h => by have := (hk.1 h).2.1; rw [w2] at this; cases this]
    refine cal_eq (within_ok _ _ _) ?_
    simp only [push_cast, reduceIte, Nat.reduceEqDiff, Nat.reduceAdd, Nat.reduceSub, Nat.reduceMul, Nat.reduceBEq, Nat.reduceLT, Nat.reduceLeDiff, reduceCtorEq, Int.reduceToNat, Int.reduceNeg]
    refine grd_dec rfl (fun w3 => ?_) fun w3 => ?_ <;> simp only [push_cast, reduceIte, Nat.reduceEqDiff, Nat.reduceAdd, Nat.reduceSub, Nat.reduceMul, Nat.reduceBEq, Nat.reduceLT, Nat.reduceLeDiff, reduceCtorEq, Int.reduceToNat, Int.reduceNeg]
    rotate_left
    · rw [decide_eq_false fun h => w3 (hk.1 h).2.2.1]
    refine cal_eq (within_ok _ _ _) ?_
    simp only [push_cast, reduceIte, Nat.reduceEqDiff, Nat.reduceAdd, Nat.reduceSub, Nat.reduceMul, Nat.reduceBEq, Nat.reduceLT, Nat.reduceLeDiff, reduceCtorEq, Int.reduceToNat, Int.reduceNeg]
    rw [decide_eq_decide.2 (show (0 ≤ r ∧ r ≤ R) ↔ TileOk k m t r from ⟨fun h => hk.2 ⟨w1, w2, w3, h⟩, fun h => (hk.1 h).2.2.2⟩)]
  refine FnEq.of_awp Try.func43 ok43b (by show 4 ≤ _; decide) (by simp only [push_cast, reduceIte, Nat.reduceEqDiff, Nat.reduceAdd, Nat.reduceSub, Nat.reduceMul, Nat.reduceBEq, Nat.reduceLT, Nat.reduceLeDiff, reduceCtorEq, Int.reduceToNat, Int.reduceNeg] <;> first | exact fun _ _ => trivial | simp) ?_
  simp only [ac43b, push_cast, reduceIte, Nat.reduceEqDiff, Nat.reduceAdd, Nat.reduceSub, Nat.reduceMul, Nat.reduceBEq, Nat.reduceLT, Nat.reduceLeDiff, reduceCtorEq, Int.reduceToNat, Int.reduceNeg]
  cases e1 : decide (m = 1) <;> cases e2 : decide (m = 2) <;> cases e3 : decide (m = 3)
  all_goals have h1 := e1
  all_goals have h2 := e2
  all_goals have h3 := e3
  all_goals simp only [decide_eq_true_eq, decide_eq_false_iff_not] at h1 h2 h3
  all_goals first | (exfalso; omega) | skip
  all_goals simp only [e1, e2, e3, push_cast, reduceIte, Nat.reduceEqDiff, Nat.reduceAdd, Nat.reduceSub, Nat.reduceMul, Nat.reduceBEq, Nat.reduceLT, Nat.reduceLeDiff, reduceCtorEq, Int.reduceToNat, Int.reduceNeg]
  · refine fin 0 0 (by rw [if_neg (by omega)]) (by rw [if_neg (by omega)]) ?_
    simp only [push_cast, reduceIte, Nat.reduceEqDiff, Nat.reduceAdd, Nat.reduceSub, Nat.reduceMul, Nat.reduceBEq, Nat.reduceLT, Nat.reduceLeDiff, reduceCtorEq, Int.reduceToNat, Int.reduceNeg]
  · refine fin 0 255 (by rw [if_neg (by omega)]) (by rw [if_pos (by omega)]) ?_
    simp only [push_cast, reduceIte, Nat.reduceEqDiff, Nat.reduceAdd, Nat.reduceSub, Nat.reduceMul, Nat.reduceBEq, Nat.reduceLT, Nat.reduceLeDiff, reduceCtorEq, Int.reduceToNat, Int.reduceNeg]
  · refine fin 65535 255 (by rw [if_pos (by omega)]) (by rw [if_pos (by omega)]) ?_
    simp only [push_cast, reduceIte, Nat.reduceEqDiff, Nat.reduceAdd, Nat.reduceSub, Nat.reduceMul, Nat.reduceBEq, Nat.reduceLT, Nat.reduceLeDiff, reduceCtorEq, Int.reduceToNat, Int.reduceNeg]
  · refine fin 65535 0 (by rw [if_pos (by omega)]) (by rw [if_neg (by omega)]) ?_
    simp only [push_cast, reduceIte, Nat.reduceEqDiff, Nat.reduceAdd, Nat.reduceSub, Nat.reduceMul, Nat.reduceBEq, Nat.reduceLT, Nat.reduceLeDiff, reduceCtorEq, Int.reduceToNat, Int.reduceNeg]
end Go.Proofs.Ytledbjkolidhkaa
