/- TxtG T U TxtI V W X Y: lemmas for PDiffers -/
import Derived.Test.YtledbjkolidhkabPart06
import Derived.Test.YtledbjkolidhkabChecked
import Derived.Test.YtledbjkolidhkabPart11
set_option linter.unusedSimpArgs false
set_option linter.unusedVariables false
namespace Go.Proofs.Ytledbjkolidhkab.Txt
open Go Go.Vc
set_option maxRecDepth 100000
def ac12 : AC :=
 (.seq (.reg [0, 18, 0] [
 ⟨some 1, none, .box (.t 0)⟩, ⟨some 2, none, .alc [.nil, .nil, .nil, .nil, .sc (.int .i64 0)]⟩])
 (.seq (.reg [0, 18, 1, 2] [
 ⟨some 6, none, .fa 5 (.t 1)⟩, ⟨some 7, none, .ld true 4 (.t 6)⟩, ⟨some 8, none, .fa 0 (.t 1)⟩, ⟨some 9, none, .ld true 5 (.t 8)⟩, ⟨some 10, none, .fa 9 (.t 1)⟩, ⟨some 11, none, .ld true 2 (.t 10)⟩, ⟨some 12, none, .cal 22 [(.t 7), (.t 9), (.t 11)]⟩, ⟨some 5, none, .mv (.t 12)⟩, ⟨some 13, none, .ext (.t 5) 0⟩, ⟨some 14, none, .ext (.t 5) 1⟩, ⟨some 3, none, .alc [.nil, .nil, .nil, .nil]⟩, ⟨none, none, .sto 4 (.t 3) (.t 13)⟩, ⟨some 4, none, .mv (.t 14)⟩])
 (.seq (.reg [0, 18, 2, 3, 4] [
 ⟨some 15, none, .ld true 4 (.t 3)⟩, ⟨some 16, none, .mv (.t 4)⟩, ⟨some 17, none, .bld [.nil, .nil, .nil, .nil, .sc (.int .i64 0)] [(0, 4, (.t 15)), (4, 1, (.t 16))]⟩, ⟨none, none, .sto 5 (.t 2) (.t 17)⟩])
 .ret)))
def rv12 : List RV := [.cell 2 true 5]
theorem ok12 : fnOk Try.prog ac12 rv12 Try.f12 = true := by kernel_rfl

def ac9 : AC :=
 (.seq (.reg [0, 31, 0, 1] [
 ⟨some 2, none, .box (.t 0)⟩, ⟨some 3, none, .box (.t 1)⟩, ⟨some 4, none, .mv (.c (.sc (.bool false)))⟩])
 (.seq (.reg [0, 31, 2, 3] [
 ⟨some 5, none, .fa 0 (.t 2)⟩, ⟨some 6, none, .ld false 1 (.t 5)⟩, ⟨some 7, none, .fa 0 (.t 3)⟩, ⟨some 8, none, .ld false 1 (.t 7)⟩, ⟨some 9, none, .cal 10 [(.t 6), (.t 8)]⟩, ⟨some 10, none, .mv (.t 9)⟩, ⟨some 11, some (10, true), .fa 1 (.t 2)⟩, ⟨some 12, some (10, true), .ld false 1 (.t 11)⟩, ⟨some 13, some (10, true), .fa 1 (.t 3)⟩, ⟨some 14, some (10, true), .ld false 1 (.t 13)⟩, ⟨some 15, some (10, true), .cal 10 [(.t 12), (.t 14)]⟩, ⟨some 16, none, .pick (.t 10) (.t 15) (.c (.sc (.bool false)))⟩, ⟨some 17, none, .mv (.t 16)⟩, ⟨some 18, some (17, true), .fa 2 (.t 2)⟩, ⟨some 19, some (17, true), .ld false 1 (.t 18)⟩, ⟨some 20, some (17, true), .fa 2 (.t 3)⟩, ⟨some 21, some (17, true), .ld false 1 (.t 20)⟩, ⟨some 22, some (17, true), .cal 10 [(.t 19), (.t 21)]⟩, ⟨some 23, none, .pick (.t 17) (.t 22) (.c (.sc (.bool false)))⟩, ⟨some 24, none, .mv (.t 23)⟩, ⟨some 25, some (24, true), .fa 3 (.t 2)⟩, ⟨some 26, some (24, true), .ld false 1 (.t 25)⟩, ⟨some 27, some (24, true), .fa 3 (.t 3)⟩, ⟨some 28, some (24, true), .ld false 1 (.t 27)⟩, ⟨some 29, some (24, true), .cal 10 [(.t 26), (.t 28)]⟩, ⟨some 30, none, .pick (.t 24) (.t 29) (.c (.sc (.bool false)))⟩, ⟨some 4, none, .mv (.t 30)⟩])
 .ret))
def rv9 : List RV := [.tmp 4]
theorem ok9 : fnOk Try.prog ac9 rv9 Try.f9 = true := by kernel_rfl

def ac13 : AC :=
 (.seq (.reg [0, 82, 0, 1] [
 ⟨some 2, none, .box (.t 0)⟩, ⟨some 3, none, .box (.t 1)⟩, ⟨some 4, none, .mv (.c (.sc (.int .i64 0)))⟩])
 (.seq (.reg [0, 82, 2, 3] [
 ⟨some 8, none, .fa 0 (.t 2)⟩, ⟨some 9, none, .ld false 1 (.t 8)⟩, ⟨some 10, none, .fa 1 (.t 2)⟩, ⟨some 11, none, .ld false 1 (.t 10)⟩, ⟨some 12, none, .ari .mul true .i64 (.t 9) (.t 11)⟩, ⟨some 5, none, .mv (.t 12)⟩])
 (.seq (.seq (.drw [0, 82, 2, 3, 5] [
 ⟨⟨some 13, none, .fa 0 (.t 3)⟩, [], [], true⟩, ⟨⟨some 14, none, .ld false 1 (.t 13)⟩, [], [], true⟩, ⟨⟨some 15, none, .len (.t 14)⟩, [], [], true⟩, ⟨⟨some 16, none, .ld true 5 (.t 2)⟩, [], [], true⟩, ⟨⟨some 17, none, .cal 23 [(.t 16)]⟩, [], [], true⟩, ⟨⟨some 18, none, .cmp .neq .i64 (.t 15) (.t 17)⟩, [], [], false⟩, ⟨⟨some 19, none, .mv (.t 18)⟩, [], [], false⟩, ⟨⟨some 20, some (19, false), .fa 1 (.t 3)⟩, [], [], true⟩, ⟨⟨some 21, some (19, false), .ld false 1 (.t 20)⟩, [], [], true⟩, ⟨⟨some 22, some (19, false), .len (.t 21)⟩, [], [], true⟩, ⟨⟨some 23, some (19, false), .mv (.t 5)⟩, [], [], true⟩, ⟨⟨some 24, some (19, false), .cmp .neq .i64 (.t 22) (.t 23)⟩, [], [], false⟩, ⟨⟨some 25, none, .pick (.t 19) (.c (.sc (.bool true))) (.t 24)⟩, [], [], false⟩, ⟨⟨some 26, none, .mv (.t 25)⟩, [], [], false⟩, ⟨⟨some 27, some (26, false), .fa 2 (.t 3)⟩, [], [], true⟩, ⟨⟨some 28, some (26, false), .ld false 1 (.t 27)⟩, [], [], true⟩, ⟨⟨some 29, some (26, false), .len (.t 28)⟩, [], [], true⟩, ⟨⟨some 30, some (26, false), .mv (.t 5)⟩, [], [], true⟩, ⟨⟨some 31, some (26, false), .cmp .neq .i64 (.t 29) (.t 30)⟩, [], [], false⟩, ⟨⟨some 32, none, .pick (.t 26) (.c (.sc (.bool true))) (.t 31)⟩, [], [], false⟩, ⟨⟨some 33, none, .mv (.t 32)⟩, [], [], false⟩, ⟨⟨some 34, some (33, false), .fa 3 (.t 3)⟩, [], [], true⟩, ⟨⟨some 35, some (33, false), .ld false 1 (.t 34)⟩, [], [], true⟩, ⟨⟨some 36, some (33, false), .len (.t 35)⟩, [], [], true⟩, ⟨⟨some 37, some (33, false), .mv (.t 5)⟩, [], [], true⟩, ⟨⟨some 38, some (33, false), .cmp .neq .i64 (.t 36) (.t 37)⟩, [], [], false⟩, ⟨⟨some 39, none, .pick (.t 33) (.c (.sc (.bool true))) (.t 38)⟩, [], [], false⟩])
 (.cut [0, 82, 2, 3, 5, 39] (.cond (.t 39)
 (.seq (.reg [0, 82] [
 ⟨some 4, none, .mv (.c (.sc (.int .i64 310)))⟩])
 .ret)
 .skip)))
 (.seq (.seq (.reg [0, 82, 2, 3, 5] [
 ⟨some 6, none, .mv (.c (.sc (.int .i64 0)))⟩])
 (.block 0
 (.loop [0, 82, 2, 3, 5, 6]
 (.seq (.seq (.reg [0, 82, 2, 3, 5, 6] [
 ⟨some 40, none, .mv (.t 6)⟩, ⟨some 41, none, .fa 0 (.t 3)⟩, ⟨some 42, none, .ld false 1 (.t 41)⟩, ⟨some 43, none, .len (.t 42)⟩, ⟨some 44, none, .cmp .lss .i64 (.t 40) (.t 43)⟩])
 (.cond (.t 44)
 .skip
 (.exit 0)))
 (.seq (.block 1
 (.seq (.drw [0, 82, 2, 3, 5, 6] [
 ⟨⟨some 47, none, .fa 0 (.t 3)⟩, [], [], true⟩, ⟨⟨some 48, none, .ld false 1 (.t 47)⟩, [], [], true⟩, ⟨⟨some 49, none, .mv (.t 6)⟩, [], [], true⟩, ⟨⟨some 50, none, .ixs 1 (.t 48) (.t 49)⟩, [], [], false⟩, ⟨⟨some 51, none, .ld false 1 (.t 50)⟩, [], [], false⟩, ⟨⟨some 52, none, .cmp .neq .i64 (.t 51) (.c (.sc (.int .i64 0)))⟩, [], [], false⟩, ⟨⟨some 53, none, .mv (.t 52)⟩, [], [], false⟩, ⟨⟨some 54, some (53, true), .fa 0 (.t 3)⟩, [], [], true⟩, ⟨⟨some 55, some (53, true), .ld false 1 (.t 54)⟩, [], [], true⟩, ⟨⟨some 56, some (53, true), .mv (.t 6)⟩, [], [], true⟩, ⟨⟨some 57, some (53, true), .ixs 1 (.t 55) (.t 56)⟩, [], [], false⟩, ⟨⟨some 58, some (53, true), .ld false 1 (.t 57)⟩, [], [], false⟩, ⟨⟨some 59, some (53, true), .cmp .lss .i64 (.t 58) (.c (.sc (.int .i64 0)))⟩, [], [], false⟩, ⟨⟨some 60, some (53, true), .mv (.t 59)⟩, [], [], false⟩, ⟨⟨some 61, some (60, false), .fa 0 (.t 3)⟩, [], [], true⟩, ⟨⟨some 62, some (60, false), .ld false 1 (.t 61)⟩, [], [], true⟩, ⟨⟨some 63, some (60, false), .mv (.t 6)⟩, [], [], true⟩, ⟨⟨some 64, some (60, false), .ixs 1 (.t 62) (.t 63)⟩, [], [], true⟩, ⟨⟨some 65, some (60, false), .ld false 1 (.t 64)⟩, [], [], true⟩, ⟨⟨some 66, some (60, false), .ld true 5 (.t 2)⟩, [], [], true⟩, ⟨⟨some 67, some (60, false), .mv (.t 6)⟩, [], [], true⟩, ⟨⟨some 68, some (60, false), .cal 20 [(.t 66), (.t 67)]⟩, [], [], true⟩, ⟨⟨some 69, some (60, false), .cmp .gtr .i64 (.t 65) (.t 68)⟩, [], [], false⟩, ⟨⟨some 70, some (53, true), .pick (.t 60) (.c (.sc (.bool true))) (.t 69)⟩, [], [], false⟩, ⟨⟨some 71, none, .pick (.t 53) (.t 70) (.c (.sc (.bool false)))⟩, [], [], false⟩])
 (.cut [0, 82, 2, 3, 5, 6, 71] (.cond (.t 71)
 (.seq (.reg [0, 82] [
 ⟨some 4, none, .mv (.c (.sc (.int .i64 310)))⟩])
 .ret)
 .skip))))
 (.reg [0, 82, 2, 3, 5, 6] [
 ⟨some 45, none, .mv (.t 6)⟩, ⟨some 46, none, .ari .add true .i64 (.t 45) (.c (.sc (.int .i64 1)))⟩, ⟨some 6, none, .mv (.t 46)⟩]))))))
 (.seq (.seq (.reg [0, 82, 2, 3, 5] [
 ⟨some 7, none, .mv (.c (.sc (.int .i64 0)))⟩])
 (.block 2
 (.loop [0, 82, 2, 3, 5, 7]
 (.seq (.seq (.reg [0, 82, 2, 3, 5, 7] [
 ⟨some 72, none, .mv (.t 7)⟩, ⟨some 73, none, .mv (.t 5)⟩, ⟨some 74, none, .cmp .lss .i64 (.t 72) (.t 73)⟩])
 (.cond (.t 74)
 .skip
 (.exit 2)))
 (.seq (.block 3
 (.seq (.reg [0, 82, 2, 3, 5, 7] [
 ⟨some 77, none, .ld true 5 (.t 2)⟩, ⟨some 78, none, .ld true 4 (.t 3)⟩, ⟨some 79, none, .mv (.t 7)⟩, ⟨some 80, none, .cal 24 [(.t 77), (.t 78), (.t 79)]⟩, ⟨some 81, none, .not (.t 80)⟩])
 (.cond (.t 81)
 (.seq (.reg [0, 82] [
 ⟨some 4, none, .mv (.c (.sc (.int .i64 310)))⟩])
 .ret)
 .skip)))
 (.reg [0, 82, 2, 3, 5, 7] [
 ⟨some 75, none, .mv (.t 7)⟩, ⟨some 76, none, .ari .add true .i64 (.t 75) (.c (.sc (.int .i64 1)))⟩, ⟨some 7, none, .mv (.t 76)⟩]))))))
 (.seq (.reg [0, 82] [
 ⟨some 4, none, .mv (.c (.sc (.int .i64 0)))⟩])
 .ret))))))
def rv13 : List RV := [.tmp 4]
theorem ok13 : fnOk Try.prog ac13 rv13 Try.f13 = true := by kernel_rfl

def ac18 : AC :=
 (.seq (.reg [0, 19, 0] [
 ⟨some 1, none, .box (.t 0)⟩, ⟨some 2, none, .alc [.nil, .nil, .nil, .nil]⟩])
 (.seq (.reg [0, 19, 1, 2] [
 ⟨some 4, none, .fa 0 (.t 1)⟩, ⟨some 5, none, .ld false 1 (.t 4)⟩, ⟨some 6, none, .fa 1 (.t 1)⟩, ⟨some 7, none, .ld false 1 (.t 6)⟩, ⟨some 8, none, .ari .mul true .i64 (.t 5) (.t 7)⟩, ⟨some 3, none, .mv (.t 8)⟩])
 (.seq (.drw [0, 19, 1, 2, 3] [
 ⟨⟨some 9, none, .ld true 5 (.t 1)⟩, [], [13, 15, 17], true⟩, ⟨⟨some 10, none, .cal 23 [(.t 9)]⟩, [], [13, 15, 17], true⟩, ⟨⟨some 11, none, .mks 1 3 8 [.sc (.int .i64 0)] (.t 10) (.t 10)⟩, [11], [13, 15, 17], true⟩, ⟨⟨some 12, none, .mv (.t 3)⟩, [], [11, 15, 17], true⟩, ⟨⟨some 13, none, .mks 1 3 8 [.sc (.int .i64 0)] (.t 12) (.t 12)⟩, [13], [11, 15, 17], true⟩, ⟨⟨some 14, none, .mv (.t 3)⟩, [], [11, 13, 17], true⟩, ⟨⟨some 15, none, .mks 1 3 8 [.sc (.int .i64 0)] (.t 14) (.t 14)⟩, [15], [11, 13, 17], true⟩, ⟨⟨some 16, none, .mv (.t 3)⟩, [], [11, 13, 15], true⟩, ⟨⟨some 17, none, .mks 1 3 8 [.sc (.int .i64 0)] (.t 16) (.t 16)⟩, [17], [11, 13, 15], true⟩, ⟨⟨some 18, none, .bld [.nil, .nil, .nil, .nil] [(0, 1, (.t 11)), (1, 1, (.t 13)), (2, 1, (.t 15)), (3, 1, (.t 17))]⟩, [], [], false⟩, ⟨⟨none, none, .sto 4 (.t 2) (.t 18)⟩, [], [], false⟩])
 .ret)))
def rv18 : List RV := [.cell 2 true 4]
theorem ok18 : fnOk Try.prog ac18 rv18 Try.f18 = true := by kernel_rfl

def ac16 : AC :=
 (.seq (.reg [0, 19, 0, 1, 2] [
 ⟨some 3, none, .box (.t 0)⟩, ⟨some 4, none, .box (.t 1)⟩, ⟨some 6, none, .alc [.sc (.int .i64 0), .sc (.int .i64 0)]⟩])
 (.seq (.reg [0, 19, 2, 3, 4, 6] [
 ⟨some 10, none, .ld true 5 (.t 3)⟩, ⟨some 11, none, .ld true 4 (.t 4)⟩, ⟨some 12, none, .mv (.t 2)⟩, ⟨some 13, none, .cal 29 [(.t 10), (.t 11), (.t 12)]⟩, ⟨some 9, none, .mv (.t 13)⟩, ⟨some 14, none, .ext (.t 9) 0⟩, ⟨some 15, none, .ext (.t 9) 1⟩, ⟨some 7, none, .mv (.t 14)⟩, ⟨some 8, none, .mv (.t 15)⟩])
 (.seq (.reg [0, 19, 6, 7, 8] [
 ⟨some 16, none, .mv (.t 7)⟩, ⟨some 17, none, .mv (.t 8)⟩, ⟨some 18, none, .bld [.sc (.int .i64 0), .sc (.int .i64 0)] [(0, 1, (.t 16)), (1, 1, (.t 17))]⟩, ⟨none, none, .sto 2 (.t 6) (.t 18)⟩])
 .ret)))
def rv16 : List RV := [.cell 6 true 2]
theorem ok16 : fnOk Try.prog ac16 rv16 Try.f16 = true := by kernel_rfl

def ac8 : AC :=
 (.seq (.reg [0, 16, 0, 1] [
 ⟨some 2, none, .box (.t 0)⟩, ⟨some 3, none, .box (.t 1)⟩, ⟨some 4, none, .alc [.nil, .nil]⟩])
 (.seq (.reg [0, 16, 2, 3, 4] [
 ⟨some 8, none, .ld true 4 (.t 2)⟩, ⟨some 9, none, .ld true 4 (.t 3)⟩, ⟨some 10, none, .cal 21 [(.t 8), (.t 9)]⟩, ⟨some 7, none, .mv (.t 10)⟩, ⟨some 11, none, .ext (.t 7) 0⟩, ⟨some 12, none, .ext (.t 7) 1⟩, ⟨some 5, none, .mv (.t 11)⟩, ⟨some 6, none, .mv (.t 12)⟩])
 (.seq (.reg [0, 16, 4, 5, 6] [
 ⟨some 13, none, .mv (.t 5)⟩, ⟨some 14, none, .mv (.t 6)⟩, ⟨some 15, none, .bld [.nil, .nil] [(0, 1, (.t 13)), (1, 1, (.t 14))]⟩, ⟨none, none, .sto 2 (.t 4) (.t 15)⟩])
 .ret)))
def rv8 : List RV := [.cell 4 true 2]
theorem ok8 : fnOk Try.prog ac8 rv8 Try.f8 = true := by kernel_rfl

def ac11 : AC :=
 (.seq (.reg [0, 3] [
 ⟨some 0, none, .alc [.sc (.int .i64 0), .sc (.int .i64 0), .sc (.int .i64 0), .sc (.int .i64 0), .nil]⟩])
 (.seq (.reg [0, 3, 0] [
 ⟨some 1, none, .bsl 1 3 [.sc (.int .i64 0)] 2 [(0, (.c (.sc (.int .i64 1)))), (1, (.c (.sc (.int .i64 2))))]⟩, ⟨some 2, none, .bld [.sc (.int .i64 0), .sc (.int .i64 0), .sc (.int .i64 0), .sc (.int .i64 0), .nil] [(0, 1, (.c (.sc (.int .i64 2)))), (1, 1, (.c (.sc (.int .i64 1)))), (2, 1, (.c (.sc (.int .i64 1)))), (3, 1, (.c (.sc (.int .i64 1)))), (4, 1, (.t 1))]⟩, ⟨none, none, .sto 5 (.t 0) (.t 2)⟩])
 .ret))
def rv11 : List RV := [.cell 0 true 5]
theorem ok11 : fnOk Try.prog ac11 rv11 Try.f11 = true := by kernel_rfl

def ac24 : AC :=
 (.seq (.reg [0, 109, 0, 1, 2] [
 ⟨some 3, none, .box (.t 0)⟩, ⟨some 4, none, .box (.t 1)⟩, ⟨some 6, none, .mv (.c (.sc (.bool false)))⟩])
 (.seq (.reg [0, 109, 2, 3, 4] [
 ⟨some 10, none, .fa 1 (.t 4)⟩, ⟨some 11, none, .ld false 1 (.t 10)⟩, ⟨some 12, none, .mv (.t 2)⟩, ⟨some 13, none, .ixs 1 (.t 11) (.t 12)⟩, ⟨some 14, none, .ld false 1 (.t 13)⟩, ⟨some 7, none, .mv (.t 14)⟩])
 (.seq (.seq (.reg [0, 109, 2, 3, 4, 7] [
 ⟨some 15, none, .mv (.t 7)⟩, ⟨some 16, none, .cmp .lss .i64 (.t 15) (.c (.sc (.int .i64 0)))⟩, ⟨some 17, none, .mv (.t 16)⟩, ⟨some 18, some (17, false), .mv (.t 7)⟩, ⟨some 19, some (17, false), .cmp .gtr .i64 (.t 18) (.c (.sc (.int .i64 3)))⟩, ⟨some 20, none, .pick (.t 17) (.c (.sc (.bool true))) (.t 19)⟩, ⟨some 21, none, .mv (.t 20)⟩, ⟨some 22, some (21, false), .fa 4 (.t 3)⟩, ⟨some 23, some (21, false), .ld false 1 (.t 22)⟩, ⟨some 24, some (21, false), .mv (.t 2)⟩, ⟨some 25, some (21, false), .ixs 1 (.t 23) (.t 24)⟩, ⟨some 26, some (21, false), .ld false 1 (.t 25)⟩, ⟨some 27, some (21, false), .cmp .eql .i64 (.t 26) (.c (.sc (.int .i64 0)))⟩, ⟨some 28, some (21, false), .mv (.t 27)⟩, ⟨some 29, some (28, true), .mv (.t 7)⟩, ⟨some 30, some (28, true), .cmp .neq .i64 (.t 29) (.c (.sc (.int .i64 0)))⟩, ⟨some 31, some (21, false), .pick (.t 28) (.t 30) (.c (.sc (.bool false)))⟩, ⟨some 32, none, .pick (.t 21) (.c (.sc (.bool true))) (.t 31)⟩, ⟨some 33, none, .mv (.t 32)⟩, ⟨some 34, some (33, false), .fa 4 (.t 3)⟩, ⟨some 35, some (33, false), .ld false 1 (.t 34)⟩, ⟨some 36, some (33, false), .mv (.t 2)⟩, ⟨some 37, some (33, false), .ixs 1 (.t 35) (.t 36)⟩, ⟨some 38, some (33, false), .ld false 1 (.t 37)⟩, ⟨some 39, some (33, false), .cmp .eql .i64 (.t 38) (.c (.sc (.int .i64 1)))⟩, ⟨some 40, some (33, false), .mv (.t 39)⟩, ⟨some 41, some (40, true), .mv (.t 7)⟩, ⟨some 42, some (40, true), .cmp .eql .i64 (.t 41) (.c (.sc (.int .i64 3)))⟩, ⟨some 43, some (33, false), .pick (.t 40) (.t 42) (.c (.sc (.bool false)))⟩, ⟨some 44, none, .pick (.t 33) (.c (.sc (.bool true))) (.t 43)⟩])
 (.cut [0, 109, 2, 4, 7, 44] (.cond (.t 44)
 (.seq (.reg [0, 109] [
 ⟨some 6, none, .mv (.c (.sc (.bool false)))⟩])
 .ret)
 .skip)))
 (.seq (.reg [0, 109, 2, 4, 7] [
 ⟨some 45, none, .mv (.t 7)⟩, ⟨some 46, none, .cmp .eql .i64 (.t 45) (.c (.sc (.int .i64 1)))⟩, ⟨some 47, none, .mv (.t 46)⟩, ⟨some 48, some (47, false), .mv (.t 7)⟩, ⟨some 49, some (47, false), .cmp .eql .i64 (.t 48) (.c (.sc (.int .i64 2)))⟩, ⟨some 50, none, .pick (.t 47) (.c (.sc (.bool true))) (.t 49)⟩, ⟨some 51, none, .mv (.t 7)⟩, ⟨some 52, none, .cmp .eql .i64 (.t 51) (.c (.sc (.int .i64 2)))⟩, ⟨some 53, none, .mv (.t 52)⟩, ⟨some 54, some (53, false), .mv (.t 7)⟩, ⟨some 55, some (53, false), .cmp .eql .i64 (.t 54) (.c (.sc (.int .i64 3)))⟩, ⟨some 56, none, .pick (.t 53) (.c (.sc (.bool true))) (.t 55)⟩, ⟨some 8, none, .mv (.t 50)⟩, ⟨some 9, none, .mv (.t 56)⟩])
 (.cut [0, 109, 2, 4, 8, 9] (.seq (.reg [0, 109, 2, 4, 8, 9] [
 ⟨some 57, none, .fa 2 (.t 4)⟩, ⟨some 58, none, .ld false 1 (.t 57)⟩, ⟨some 59, none, .mv (.t 2)⟩, ⟨some 60, none, .ixs 1 (.t 58) (.t 59)⟩, ⟨some 61, none, .ld false 1 (.t 60)⟩, ⟨some 62, none, .cmp .geq .i64 (.t 61) (.c (.sc (.int .i64 0)))⟩, ⟨some 63, none, .mv (.t 62)⟩, ⟨some 64, some (63, true), .fa 2 (.t 4)⟩, ⟨some 65, some (63, true), .ld false 1 (.t 64)⟩, ⟨some 66, some (63, true), .mv (.t 2)⟩, ⟨some 67, some (63, true), .ixs 1 (.t 65) (.t 66)⟩, ⟨some 68, some (63, true), .ld false 1 (.t 67)⟩, ⟨some 69, some (63, true), .cmp .leq .i64 (.t 68) (.c (.sc (.int .i64 65535)))⟩, ⟨some 70, none, .pick (.t 63) (.t 69) (.c (.sc (.bool false)))⟩, ⟨some 71, none, .mv (.t 70)⟩, ⟨some 72, some (71, true), .mv (.t 8)⟩, ⟨some 73, some (71, true), .mv (.t 72)⟩, ⟨some 74, some (73, false), .fa 2 (.t 4)⟩, ⟨some 75, some (73, false), .ld false 1 (.t 74)⟩, ⟨some 76, some (73, false), .mv (.t 2)⟩, ⟨some 77, some (73, false), .ixs 1 (.t 75) (.t 76)⟩, ⟨some 78, some (73, false), .ld false 1 (.t 77)⟩, ⟨some 79, some (73, false), .cmp .eql .i64 (.t 78) (.c (.sc (.int .i64 0)))⟩, ⟨some 80, some (71, true), .pick (.t 73) (.c (.sc (.bool true))) (.t 79)⟩, ⟨some 81, none, .pick (.t 71) (.t 80) (.c (.sc (.bool false)))⟩, ⟨some 82, none, .mv (.t 81)⟩, ⟨some 83, some (82, true), .fa 3 (.t 4)⟩, ⟨some 84, some (82, true), .ld false 1 (.t 83)⟩, ⟨some 85, some (82, true), .mv (.t 2)⟩, ⟨some 86, some (82, true), .ixs 1 (.t 84) (.t 85)⟩, ⟨some 87, some (82, true), .ld false 1 (.t 86)⟩, ⟨some 88, some (82, true), .cmp .geq .i64 (.t 87) (.c (.sc (.int .i64 0)))⟩, ⟨some 89, none, .pick (.t 82) (.t 88) (.c (.sc (.bool false)))⟩, ⟨some 90, none, .mv (.t 89)⟩, ⟨some 91, some (90, true), .fa 3 (.t 4)⟩, ⟨some 92, some (90, true), .ld false 1 (.t 91)⟩, ⟨some 93, some (90, true), .mv (.t 2)⟩, ⟨some 94, some (90, true), .ixs 1 (.t 92) (.t 93)⟩, ⟨some 95, some (90, true), .ld false 1 (.t 94)⟩, ⟨some 96, some (90, true), .cmp .leq .i64 (.t 95) (.c (.sc (.int .i64 255)))⟩, ⟨some 97, none, .pick (.t 90) (.t 96) (.c (.sc (.bool false)))⟩, ⟨some 98, none, .mv (.t 97)⟩, ⟨some 99, some (98, true), .mv (.t 9)⟩, ⟨some 100, some (98, true), .mv (.t 99)⟩, ⟨some 101, some (100, false), .fa 3 (.t 4)⟩, ⟨some 102, some (100, false), .ld false 1 (.t 101)⟩, ⟨some 103, some (100, false), .mv (.t 2)⟩, ⟨some 104, some (100, false), .ixs 1 (.t 102) (.t 103)⟩, ⟨some 105, some (100, false), .ld false 1 (.t 104)⟩, ⟨some 106, some (100, false), .cmp .eql .i64 (.t 105) (.c (.sc (.int .i64 0)))⟩, ⟨some 107, some (98, true), .pick (.t 100) (.c (.sc (.bool true))) (.t 106)⟩, ⟨some 108, none, .pick (.t 98) (.t 107) (.c (.sc (.bool false)))⟩, ⟨some 6, none, .mv (.t 108)⟩])
 .ret))))))
def rv24 : List RV := [.tmp 6]
theorem ok24 : fnOk Try.prog ac24 rv24 Try.f24 = true := by kernel_rfl

def ac29 : AC :=
 (.seq (.reg [0, 48, 0, 1, 2] [
 ⟨some 3, none, .box (.t 0)⟩, ⟨some 4, none, .box (.t 1)⟩, ⟨some 6, none, .mv (.c (.sc (.int .i64 0)))⟩, ⟨some 7, none, .mv (.c (.sc (.int .i64 0)))⟩])
 (.seq (.seq (.reg [0, 48, 2, 3, 4] [
 ⟨some 10, none, .mv (.t 2)⟩, ⟨some 11, none, .fa 0 (.t 4)⟩, ⟨some 12, none, .ld false 1 (.t 11)⟩, ⟨some 13, none, .len (.t 12)⟩, ⟨some 14, none, .ari .sub true .i64 (.t 13) (.c (.sc (.int .i64 1)))⟩, ⟨some 15, none, .cal 26 [(.t 10), (.c (.sc (.int .i64 0))), (.t 14)]⟩, ⟨some 16, none, .not (.t 15)⟩])
 (.cond (.t 16)
 (.seq (.reg [0, 48] [
 ⟨some 6, none, .mv (.c (.sc (.int .i64 0)))⟩, ⟨some 7, none, .mv (.c (.sc (.int .i64 4)))⟩])
 .ret)
 .skip))
 (.seq (.seq (.reg [0, 48, 2, 3, 4] [
 ⟨some 17, none, .mkm (.int .i64)⟩, ⟨some 8, none, .mv (.t 17)⟩])
 (.block 0
 (.loop [0, 48, 2, 3, 4, 8]
 (.seq (.seq (.reg [0, 48, 2, 3, 4, 8] [
 ⟨some 18, none, .mv (.t 8)⟩, ⟨some 19, none, .mv (.t 2)⟩, ⟨some 20, none, .mlk (.int .i64) false (.sc (.bool false)) (.t 18) (.t 19)⟩, ⟨some 21, none, .not (.t 20)⟩])
 (.cond (.t 21)
 .skip
 (.exit 0)))
 (.block 1
 (.seq (.reg [0, 48, 2, 3, 4, 8] [
 ⟨some 22, none, .mv (.t 8)⟩, ⟨some 23, none, .mv (.t 2)⟩, ⟨none, none, .mup (.int .i64) (.t 22) (.t 23) (.c (.sc (.bool true)))⟩])
 (.seq (.reg [0, 48, 2, 3, 4, 8] [
 ⟨some 24, none, .ld true 5 (.t 3)⟩, ⟨some 25, none, .mv (.t 2)⟩, ⟨some 26, none, .cal 27 [(.t 24), (.t 25)]⟩, ⟨some 9, none, .mv (.t 26)⟩])
 (.seq (.block 2
 (.seq (.reg [0, 48, 2, 3, 4, 8, 9] [
 ⟨some 28, none, .mv (.t 9)⟩, ⟨some 29, none, .len (.t 28)⟩, ⟨some 30, none, .cmp .eql .i64 (.t 29) (.c (.sc (.int .i64 0)))⟩, ⟨some 27, none, .mv (.t 30)⟩])
 (.cond (.t 27)
 (.seq (.reg [0, 48, 2] [
 ⟨some 31, none, .mv (.t 2)⟩, ⟨some 6, none, .mv (.t 31)⟩, ⟨some 7, none, .mv (.c (.sc (.int .i64 0)))⟩])
 .ret)
 (.seq (.reg [0, 48, 2, 3, 4, 8, 9] [
 ⟨some 33, none, .fa 0 (.t 4)⟩, ⟨some 34, none, .ld false 1 (.t 33)⟩, ⟨some 35, none, .mv (.t 2)⟩, ⟨some 36, none, .ixs 1 (.t 34) (.t 35)⟩, ⟨some 37, none, .ld false 1 (.t 36)⟩, ⟨some 38, none, .cmp .eql .i64 (.t 37) (.c (.sc (.int .i64 0)))⟩, ⟨some 32, none, .mv (.t 38)⟩])
 (.cond (.t 32)
 (.seq (.reg [0, 48] [
 ⟨some 6, none, .mv (.c (.sc (.int .i64 0)))⟩, ⟨some 7, none, .mv (.c (.sc (.int .i64 4)))⟩])
 .ret)
 .skip)))))
 (.reg [0, 48, 2, 3, 4, 8, 9] [
 ⟨some 39, none, .mv (.t 9)⟩, ⟨some 40, none, .fa 0 (.t 4)⟩, ⟨some 41, none, .ld false 1 (.t 40)⟩, ⟨some 42, none, .mv (.t 2)⟩, ⟨some 43, none, .ixs 1 (.t 41) (.t 42)⟩, ⟨some 44, none, .ld false 1 (.t 43)⟩, ⟨some 45, none, .ari .sub true .i64 (.t 44) (.c (.sc (.int .i64 1)))⟩, ⟨some 46, none, .ixs 1 (.t 39) (.t 45)⟩, ⟨some 47, none, .ld false 1 (.t 46)⟩, ⟨some 2, none, .mv (.t 47)⟩])))))))))
 (.seq (.reg [0, 48] [
 ⟨some 6, none, .mv (.c (.sc (.int .i64 0)))⟩, ⟨some 7, none, .mv (.c (.sc (.int .i64 50)))⟩])
 .ret))))
def rv29 : List RV := [.tmp 6, .tmp 7]
theorem ok29 : fnOk Try.prog ac29 rv29 Try.f29 = true := by kernel_rfl

def ac4 : AC :=
 (.seq (.reg [0, 143] [
 ⟨some 0, none, .mv (.c (.sc (.bool false)))⟩])
 (.seq (.reg [0, 143] [
 ⟨some 5, none, .cal 11 []⟩, ⟨some 6, none, .bsl 1 3 [.sc (.int .i64 0)] 3 [(0, (.c (.sc (.int .i64 0)))), (1, (.c (.sc (.int .i64 6)))), (2, (.c (.sc (.int .i64 10))))]⟩, ⟨some 7, none, .bsl 1 3 [.sc (.int .i64 0)] 3 [(0, (.c (.sc (.int .i64 (-1))))), (1, (.c (.sc (.int .i64 0)))), (2, (.c (.sc (.int .i64 1))))]⟩, ⟨some 8, none, .bld [.sc (.int .i64 0), .nil, .nil] [(1, 1, (.t 6)), (2, 1, (.t 7))]⟩, ⟨some 9, none, .bsl 3 49 [.sc (.int .i64 0), .nil, .nil] 1 [(0, (.t 8))]⟩, ⟨some 10, none, .bld [.nil, .nil] [(1, 1, (.t 9))]⟩, ⟨some 11, none, .bld [.sc (.int .i64 0), .sc (.int .i64 0), .sc (.int .i64 0), .sc (.int .i64 0), .nil, .nil, .nil, .nil, .nil, .nil, .nil] [(0, 5, (.t 5)), (9, 2, (.t 10))]⟩, ⟨some 1, none, .alc [.sc (.int .i64 0), .sc (.int .i64 0), .sc (.int .i64 0), .sc (.int .i64 0), .nil, .nil, .nil, .nil, .nil, .nil, .nil]⟩, ⟨none, none, .sto 11 (.t 1) (.t 11)⟩])
 (.seq (.reg [0, 143, 1] [
 ⟨some 12, none, .ld true 11 (.t 1)⟩, ⟨some 13, none, .cal 12 [(.t 12)]⟩, ⟨some 2, none, .alc [.nil, .nil, .nil, .nil, .sc (.int .i64 0)]⟩, ⟨none, none, .sto 5 (.t 2) (.t 13)⟩])
 (.seq (.seq (.reg [0, 143, 1, 2] [
 ⟨some 14, none, .fa 4 (.t 2)⟩, ⟨some 15, none, .ld false 1 (.t 14)⟩, ⟨some 16, none, .cmp .neq .i64 (.t 15) (.c (.sc (.int .i64 0)))⟩, ⟨some 17, none, .mv (.t 16)⟩, ⟨some 18, some (17, false), .fa 0 (.t 1)⟩, ⟨some 19, some (17, false), .ld true 5 (.t 18)⟩, ⟨some 20, some (17, false), .fa 0 (.t 2)⟩, ⟨some 21, some (17, false), .ld true 4 (.t 20)⟩, ⟨some 22, some (17, false), .cal 13 [(.t 19), (.t 21)]⟩, ⟨some 23, some (17, false), .cmp .neq .i64 (.t 22) (.c (.sc (.int .i64 0)))⟩, ⟨some 24, none, .pick (.t 17) (.c (.sc (.bool true))) (.t 23)⟩, ⟨some 25, none, .mv (.t 24)⟩, ⟨some 26, some (25, false), .fa 0 (.t 2)⟩, ⟨some 27, some (25, false), .fa 0 (.t 26)⟩, ⟨some 28, some (25, false), .ld false 1 (.t 27)⟩, ⟨some 29, some (25, false), .len (.t 28)⟩, ⟨some 30, some (25, false), .cmp .neq .i64 (.t 29) (.c (.sc (.int .i64 18)))⟩, ⟨some 31, none, .pick (.t 25) (.c (.sc (.bool true))) (.t 30)⟩, ⟨some 32, none, .mv (.t 31)⟩, ⟨some 33, some (32, false), .fa 0 (.t 2)⟩, ⟨some 34, some (32, false), .fa 0 (.t 33)⟩, ⟨some 35, some (32, false), .ld false 1 (.t 34)⟩, ⟨some 36, some (32, false), .ixs 1 (.t 35) (.c (.sc (.int .i64 6)))⟩, ⟨some 37, some (32, false), .ld false 1 (.t 36)⟩, ⟨some 38, some (32, false), .cmp .neq .i64 (.t 37) (.c (.sc (.int .i64 1)))⟩, ⟨some 39, none, .pick (.t 32) (.c (.sc (.bool true))) (.t 38)⟩, ⟨some 40, none, .mv (.t 39)⟩, ⟨some 41, some (40, false), .fa 0 (.t 2)⟩, ⟨some 42, some (40, false), .fa 0 (.t 41)⟩, ⟨some 43, some (40, false), .ld false 1 (.t 42)⟩, ⟨some 44, some (40, false), .ixs 1 (.t 43) (.c (.sc (.int .i64 10)))⟩, ⟨some 45, some (40, false), .ld false 1 (.t 44)⟩, ⟨some 46, some (40, false), .cmp .neq .i64 (.t 45) (.c (.sc (.int .i64 1)))⟩, ⟨some 47, none, .pick (.t 40) (.c (.sc (.bool true))) (.t 46)⟩, ⟨some 48, none, .mv (.t 47)⟩, ⟨some 49, some (48, false), .fa 0 (.t 1)⟩, ⟨some 50, some (48, false), .ld true 5 (.t 49)⟩, ⟨some 51, some (48, false), .fa 0 (.t 2)⟩, ⟨some 52, some (48, false), .ld true 4 (.t 51)⟩, ⟨some 53, some (48, false), .cal 14 [(.t 50), (.t 52)]⟩, ⟨some 54, some (48, false), .cmp .neq .i64 (.t 53) (.c (.sc (.int .i64 0)))⟩, ⟨some 55, none, .pick (.t 48) (.c (.sc (.bool true))) (.t 54)⟩, ⟨some 56, none, .mv (.t 55)⟩, ⟨some 57, some (56, false), .fa 0 (.t 1)⟩, ⟨some 58, some (56, false), .ld true 5 (.t 57)⟩, ⟨some 59, some (56, false), .fa 0 (.t 2)⟩, ⟨some 60, some (56, false), .ld true 4 (.t 59)⟩, ⟨some 61, some (56, false), .cal 15 [(.t 58), (.t 60)]⟩, ⟨some 62, some (56, false), .bsl 1 3 [.sc (.int .i64 0)] 2 [(0, (.c (.sc (.int .i64 6)))), (1, (.c (.sc (.int .i64 10))))]⟩, ⟨some 63, some (56, false), .cal 10 [(.t 61), (.t 62)]⟩, ⟨some 64, some (56, false), .not (.t 63)⟩, ⟨some 65, none, .pick (.t 56) (.c (.sc (.bool true))) (.t 64)⟩, ⟨some 66, none, .mv (.t 65)⟩, ⟨some 67, some (66, false), .fa 0 (.t 1)⟩, ⟨some 68, some (66, false), .ld true 5 (.t 67)⟩, ⟨some 69, some (66, false), .fa 0 (.t 2)⟩, ⟨some 70, some (66, false), .ld true 4 (.t 69)⟩, ⟨some 71, some (66, false), .cal 16 [(.t 68), (.t 70), (.c (.sc (.int .i64 10)))]⟩, ⟨some 72, some (66, false), .bld [.sc (.int .i64 0), .sc (.int .i64 0)] []⟩, ⟨some 73, some (66, false), .eqa true 2 (.t 71) (.t 72)⟩, ⟨some 74, none, .pick (.t 66) (.c (.sc (.bool true))) (.t 73)⟩, ⟨some 75, none, .mv (.t 74)⟩, ⟨some 76, some (75, false), .fa 0 (.t 1)⟩, ⟨some 77, some (75, false), .ld true 5 (.t 76)⟩, ⟨some 78, some (75, false), .fa 0 (.t 2)⟩, ⟨some 79, some (75, false), .ld true 4 (.t 78)⟩, ⟨some 80, some (75, false), .cal 16 [(.t 77), (.t 79), (.c (.sc (.int .i64 11)))]⟩, ⟨some 81, some (75, false), .fl false 1 1 (.t 80)⟩, ⟨some 82, some (75, false), .cmp .neq .i64 (.t 81) (.c (.sc (.int .i64 4)))⟩, ⟨some 83, none, .pick (.t 75) (.c (.sc (.bool true))) (.t 82)⟩])
 (.cut [0, 143, 1, 2, 83] (.cond (.t 83)
 (.seq (.reg [0, 143] [
 ⟨some 0, none, .mv (.c (.sc (.bool false)))⟩])
 .ret)
 .skip)))
 (.seq (.reg [0, 143, 1, 2] [
 ⟨some 84, none, .fa 0 (.t 2)⟩, ⟨some 85, none, .ld true 4 (.t 84)⟩, ⟨some 3, none, .alc [.nil, .nil, .nil, .nil]⟩, ⟨none, none, .sto 4 (.t 3) (.t 85)⟩])
 (.seq (.reg [0, 143, 1, 2, 3] [
 ⟨some 86, none, .bsl 1 3 [.sc (.int .i64 0)] 0 []⟩, ⟨some 87, none, .fa 0 (.t 2)⟩, ⟨some 88, none, .fa 0 (.t 87)⟩, ⟨some 89, none, .ld false 1 (.t 88)⟩, ⟨some 90, none, .app 1 3 8 (.t 86) (.t 89)⟩, ⟨some 91, none, .fa 0 (.t 3)⟩, ⟨none, none, .sto 1 (.t 91) (.t 90)⟩])
 (.seq (.reg [0, 143, 1, 2, 3] [
 ⟨some 92, none, .fa 0 (.t 3)⟩, ⟨some 93, none, .ld false 1 (.t 92)⟩, ⟨some 94, none, .ixs 1 (.t 93) (.c (.sc (.int .i64 6)))⟩, ⟨none, none, .sto 1 (.t 94) (.c (.sc (.int .i64 6)))⟩])
 (.seq (.reg [0, 143, 1, 2, 3] [
 ⟨some 95, none, .fa 0 (.t 3)⟩, ⟨some 96, none, .ld false 1 (.t 95)⟩, ⟨some 97, none, .ixs 1 (.t 96) (.c (.sc (.int .i64 14)))⟩, ⟨none, none, .sto 1 (.t 97) (.c (.sc (.int .i64 1)))⟩])
 (.seq (.reg [0, 143, 1, 2, 3] [
 ⟨some 98, none, .ld true 4 (.t 3)⟩, ⟨some 99, none, .fa 0 (.t 2)⟩, ⟨some 100, none, .ld true 4 (.t 99)⟩, ⟨some 101, none, .cal 8 [(.t 98), (.t 100)]⟩, ⟨some 4, none, .alc [.nil, .nil]⟩, ⟨none, none, .sto 2 (.t 4) (.t 101)⟩])
 (.seq (.drw [0, 143, 1, 3, 4] [
 ⟨⟨some 102, none, .fa 0 (.t 1)⟩, [], [], true⟩, ⟨⟨some 103, none, .ld true 5 (.t 102)⟩, [], [], true⟩, ⟨⟨some 104, none, .ld true 4 (.t 3)⟩, [], [], true⟩, ⟨⟨some 105, none, .cal 16 [(.t 103), (.t 104), (.c (.sc (.int .i64 10)))]⟩, [], [], false⟩, ⟨⟨some 106, none, .fl false 1 1 (.t 105)⟩, [], [], false⟩, ⟨⟨some 107, none, .cmp .eql .i64 (.t 106) (.c (.sc (.int .i64 50)))⟩, [], [], false⟩, ⟨⟨some 108, none, .mv (.t 107)⟩, [], [], false⟩, ⟨⟨some 109, some (108, true), .fa 0 (.t 1)⟩, [], [], true⟩, ⟨⟨some 110, some (108, true), .ld true 5 (.t 109)⟩, [], [], true⟩, ⟨⟨some 111, some (108, true), .ld true 4 (.t 3)⟩, [], [], true⟩, ⟨⟨some 112, some (108, true), .cal 14 [(.t 110), (.t 111)]⟩, [], [], false⟩, ⟨⟨some 113, some (108, true), .cmp .eql .i64 (.t 112) (.c (.sc (.int .i64 0)))⟩, [], [], false⟩, ⟨⟨some 114, none, .pick (.t 108) (.t 113) (.c (.sc (.bool false)))⟩, [], [], false⟩, ⟨⟨some 115, none, .mv (.t 114)⟩, [], [], false⟩, ⟨⟨some 116, some (115, true), .fa 0 (.t 4)⟩, [], [118], true⟩, ⟨⟨some 117, some (115, true), .ld false 1 (.t 116)⟩, [], [118], true⟩, ⟨⟨some 118, some (115, true), .bsl 1 3 [.sc (.int .i64 0)] 2 [(0, (.c (.sc (.int .i64 6)))), (1, (.c (.sc (.int .i64 14))))]⟩, [118], [], true⟩, ⟨⟨some 119, some (115, true), .cal 10 [(.t 117), (.t 118)]⟩, [], [], false⟩, ⟨⟨some 120, none, .pick (.t 115) (.t 119) (.c (.sc (.bool false)))⟩, [], [], false⟩, ⟨⟨some 121, none, .mv (.t 120)⟩, [], [], false⟩, ⟨⟨some 122, some (121, true), .fa 1 (.t 4)⟩, [], [], false⟩, ⟨⟨some 123, some (121, true), .ld false 1 (.t 122)⟩, [], [], false⟩, ⟨⟨some 124, some (121, true), .len (.t 123)⟩, [], [], false⟩, ⟨⟨some 125, some (121, true), .cmp .eql .i64 (.t 124) (.c (.sc (.int .i64 0)))⟩, [], [], false⟩, ⟨⟨some 126, none, .pick (.t 121) (.t 125) (.c (.sc (.bool false)))⟩, [], [], false⟩, ⟨⟨some 127, none, .mv (.t 126)⟩, [], [], false⟩, ⟨⟨some 128, some (127, true), .fa 0 (.t 1)⟩, [], [], true⟩, ⟨⟨some 129, some (127, true), .ld true 5 (.t 128)⟩, [], [], true⟩, ⟨⟨some 130, some (127, true), .cal 17 [(.t 129)]⟩, [], [], true⟩, ⟨⟨some 131, some (127, true), .fa 0 (.t 1)⟩, [], [], true⟩, ⟨⟨some 132, some (127, true), .ld true 5 (.t 131)⟩, [], [], true⟩, ⟨⟨some 133, some (127, true), .cal 18 [(.t 132)]⟩, [], [], false⟩, ⟨⟨some 134, some (127, true), .cal 9 [(.t 130), (.t 133)]⟩, [], [], false⟩, ⟨⟨some 135, none, .pick (.t 127) (.t 134) (.c (.sc (.bool false)))⟩, [], [], false⟩, ⟨⟨some 136, none, .mv (.t 135)⟩, [], [], false⟩, ⟨⟨some 137, some (136, true), .fa 0 (.t 1)⟩, [], [], true⟩, ⟨⟨some 138, some (136, true), .ld true 5 (.t 137)⟩, [], [], true⟩, ⟨⟨some 139, some (136, true), .bld [.nil, .nil, .nil, .nil] []⟩, [], [], true⟩, ⟨⟨some 140, some (136, true), .cal 14 [(.t 138), (.t 139)]⟩, [], [], false⟩, ⟨⟨some 141, some (136, true), .cmp .eql .i64 (.t 140) (.c (.sc (.int .i64 310)))⟩, [], [], false⟩, ⟨⟨some 142, none, .pick (.t 136) (.t 141) (.c (.sc (.bool false)))⟩, [], [], false⟩, ⟨⟨some 0, none, .mv (.t 142)⟩, [], [], false⟩])
 .ret))))))))))
def rv4 : List RV := [.tmp 0]
theorem ok4 : fnOk Try.prog ac4 rv4 Try.f4 = true := by kernel_rfl
end Go.Proofs.Ytledbjkolidhkab.Txt
namespace Go.Proofs.Ytledbjkolidhkab
open Go Go.Vc Txt
theorem nodup_sub : ∀ {l m : List Int}, l.Nodup → (∀ x ∈ l, x ∈ m) → l.length ≤ m.length
  | [], _, _, _ => by simp
  | x :: l, m, hn, h => by
    rw [List.nodup_cons] at hn
    have hx := h x (by simp)
    have := nodup_sub (l := l) (m := m.erase x) hn.2 fun y hy => by
      have hne : y ≠ x := fun e => hn.1 (e ▸ hy)
      exact (List.mem_erase_of_ne hne).2 (h y (by simp [hy]))
    rw [List.length_erase_of_mem hx] at this
    have := List.length_pos_of_mem hx
    simp only [List.length_cons]
    omega
theorem nodup_rng {l : List Int} {n : Nat} (h : l.Nodup) (hr : ∀ x ∈ l, 0 ≤ x ∧ x < n) : l.length ≤ n := by
  have := nodup_sub (m := (List.range n).map Int.ofNat) h fun x hx => by
    obtain ⟨a, b⟩ := hr x hx
    exact List.mem_map.2 ⟨x.toNat, by simp; omega, by simp; omega⟩
  simpa using this
theorem ints_ok (a b : List Int) (ha : (a.length : Int) ≤ 1000000) (hb : (b.length : Int) ≤ 1000000) : FnEq Try.prog 10 [.sl false 1 (ints a), .sl false 1 (ints b)] (.bool (decide (a = b))) := by
  refine FnEq.of_awp Try.func10 ok10 (by show 2 ≤ _; decide) (by simp only [push_cast, reduceIte, Nat.reduceEqDiff, Nat.reduceAdd, Nat.reduceSub, Nat.reduceMul, Nat.reduceBEq, Nat.reduceLT, Nat.reduceLeDiff, reduceCtorEq, Int.reduceToNat, Int.reduceNeg] <;> first | exact fun _ _ => trivial | simp) ?_
  simp only [ac10, rv10, push_cast, reduceIte, Nat.reduceEqDiff, Nat.reduceAdd, Nat.reduceSub, Nat.reduceMul, Nat.reduceBEq, Nat.reduceLT, Nat.reduceLeDiff, reduceCtorEq, Int.reduceToNat, Int.reduceNeg]
  refine cond_dec (fun h => ?_) fun h => ?_
  · rw [decide_eq_false]; intro e; exact h (by rw [e])
  have hab : a.length = b.length := by omega
  refine loop_of (fun m st => ∃ k : Nat, k ≤ a.length ∧ m = a.length - k ∧ a.take k = b.take k ∧ st = ⟨[(0, .sl false 1 (ints a)), (1, .sl false 1 (ints b)), (5, .int k)], [], [], []⟩) a.length ?_ ?_
  · refine ⟨0, by omega, by omega, by simp, ?_⟩
    simp only [push_cast, reduceIte, Nat.reduceEqDiff, Nat.reduceAdd, Nat.reduceSub, Nat.reduceMul, Nat.reduceBEq, Nat.reduceLT, Nat.reduceLeDiff, reduceCtorEq, Int.reduceToNat, Int.reduceNeg]
  · rintro m st ⟨k, hk, rfl, h1, rfl⟩
    simp only [push_cast, reduceIte, Nat.reduceEqDiff, Nat.reduceAdd, Nat.reduceSub, Nat.reduceMul, Nat.reduceBEq, Nat.reduceLT, Nat.reduceLeDiff, reduceCtorEq, Int.reduceToNat, Int.reduceNeg]
    refine cond_dec (fun h2 => ?_) fun h2 => ?_
    · have ka : k < a.length := by omega
      have kb : k < b.length := by omega
      have ga : a.getD k default = a[k] := by simp [ka]
      have gb : b.getD k default = b[k] := by simp [kb]
      rw [ga, gb]
      refine ⟨⟨by omega, by omega⟩, ka, ⟨by omega, by omega⟩, kb, cond_dec (fun h3 => ?_) fun h3 => ?_⟩
      · rw [decide_eq_false]; intro e; subst e; exact h3 rfl
      · refine ⟨⟨by omega, by omega⟩, _, ?_, k + 1, by omega, rfl, ?_, ?_⟩
        · omega
        · rw [List.take_succ_eq_append_getElem ka, List.take_succ_eq_append_getElem kb, h1, Classical.not_not.1 h3]
        · simp
    · rw [List.take_of_length_le (by omega), List.take_of_length_le (by omega)] at h1
      rw [decide_eq_true h1]
theorem blank_ok (g : Grid) (hg : GOk g) : FnEq Try.prog 17 [.agg (gridC false g)] (.agg (cfgC true (blankF g))) := by
  have h1 := hg.count
  have h2 := hg.wh
  have h3 := hg.kind
  refine FnEq.of_awp Try.func17 ok17 (by show 1 ≤ _; decide) (by simp only [push_cast, reduceIte, Nat.reduceEqDiff, Nat.reduceAdd, Nat.reduceSub, Nat.reduceMul, Nat.reduceBEq, Nat.reduceLT, Nat.reduceLeDiff, reduceCtorEq, Int.reduceToNat, Int.reduceNeg] <;> first | exact fun _ _ => trivial | simp) ?_
  simp only [ac17, rv17, push_cast, reduceIte, Nat.reduceEqDiff, Nat.reduceAdd, Nat.reduceSub, Nat.reduceMul, Nat.reduceBEq, Nat.reduceLT, Nat.reduceLeDiff, reduceCtorEq, Int.reduceToNat, Int.reduceNeg]
  refine dcal_sub (ccount_ok g hg) (by simp only [push_cast, reduceIte, Nat.reduceEqDiff, Nat.reduceAdd, Nat.reduceSub, Nat.reduceMul, Nat.reduceBEq, Nat.reduceLT, Nat.reduceLeDiff, reduceCtorEq, Int.reduceToNat, Int.reduceNeg]) rfl ?_
  simp only [push_cast, reduceIte, Nat.reduceEqDiff, Nat.reduceAdd, Nat.reduceSub, Nat.reduceMul, Nat.reduceBEq, Nat.reduceLT, Nat.reduceLeDiff, reduceCtorEq, Int.reduceToNat, Int.reduceNeg]
  refine ⟨by omega, by omega, by omega, by omega, ?_⟩
  simp only [blankF, push_cast, reduceIte, Nat.reduceEqDiff, Nat.reduceAdd, Nat.reduceSub, Nat.reduceMul, Nat.reduceBEq, Nat.reduceLT, Nat.reduceLeDiff, reduceCtorEq, Int.reduceToNat, Int.reduceNeg]
  exact ⟨fun _ _ => trivial, fun _ _ => trivial⟩
theorem rblank_ok (g : Grid) (hg : GOk g) : FnEq Try.prog 18 [.agg (gridC false g)] (.agg (cfgC true (blankF g))) := by
  have h1 := hg.count
  have h2 := hg.wh
  have h3 := hg.kind
  refine FnEq.of_awp Try.func18 ok18 (by show 1 ≤ _; decide) (by simp only [push_cast, reduceIte, Nat.reduceEqDiff, Nat.reduceAdd, Nat.reduceSub, Nat.reduceMul, Nat.reduceBEq, Nat.reduceLT, Nat.reduceLeDiff, reduceCtorEq, Int.reduceToNat, Int.reduceNeg] <;> first | exact fun _ _ => trivial | simp) ?_
  simp only [ac18, rv18, push_cast, reduceIte, Nat.reduceEqDiff, Nat.reduceAdd, Nat.reduceSub, Nat.reduceMul, Nat.reduceBEq, Nat.reduceLT, Nat.reduceLeDiff, reduceCtorEq, Int.reduceToNat, Int.reduceNeg]
  refine ⟨by omega, ?_⟩
  refine dcal_sub (rcount_ok g hg) (by simp only [push_cast, reduceIte, Nat.reduceEqDiff, Nat.reduceAdd, Nat.reduceSub, Nat.reduceMul, Nat.reduceBEq, Nat.reduceLT, Nat.reduceLeDiff, reduceCtorEq, Int.reduceToNat, Int.reduceNeg]) rfl ?_
  simp only [push_cast, reduceIte, Nat.reduceEqDiff, Nat.reduceAdd, Nat.reduceSub, Nat.reduceMul, Nat.reduceBEq, Nat.reduceLT, Nat.reduceLeDiff, reduceCtorEq, Int.reduceToNat, Int.reduceNeg]
  refine ⟨by omega, by omega, by omega, by omega, ?_⟩
  rw [show (g.w * g.h).toNat = g.kind.length by omega]
  simp only [blankF, push_cast, reduceIte, Nat.reduceEqDiff, Nat.reduceAdd, Nat.reduceSub, Nat.reduceMul, Nat.reduceBEq, Nat.reduceLT, Nat.reduceLeDiff, reduceCtorEq, Int.reduceToNat, Int.reduceNeg]
  exact ⟨fun _ _ => trivial, fun _ _ => trivial⟩
theorem rdrv_ok (g : Grid) (hg : GOk g) (n : Int) (hn : -1000000000 ≤ n ∧ n ≤ 1000000000) : FnEq Try.prog 20 [.agg (gridC false g), .int n] (.int (driversF g n).length) := by
  refine FnEq.of_awp Try.func20 ok20 (by show 2 ≤ _; decide) (by simp only [push_cast, reduceIte, Nat.reduceEqDiff, Nat.reduceAdd, Nat.reduceSub, Nat.reduceMul, Nat.reduceBEq, Nat.reduceLT, Nat.reduceLeDiff, reduceCtorEq, Int.reduceToNat, Int.reduceNeg] <;> first | exact fun _ _ => trivial | simp) ?_
  simp only [ac20, rv20, push_cast, reduceIte, Nat.reduceEqDiff, Nat.reduceAdd, Nat.reduceSub, Nat.reduceMul, Nat.reduceBEq, Nat.reduceLT, Nat.reduceLeDiff, reduceCtorEq, Int.reduceToNat, Int.reduceNeg]
  refine cal_sub (rdrivers_ok g hg n hn) (by simp only [push_cast, reduceIte, Nat.reduceEqDiff, Nat.reduceAdd, Nat.reduceSub, Nat.reduceMul, Nat.reduceBEq, Nat.reduceLT, Nat.reduceLeDiff, reduceCtorEq, Int.reduceToNat, Int.reduceNeg]) ?_
  simp only [push_cast, reduceIte, Nat.reduceEqDiff, Nat.reduceAdd, Nat.reduceSub, Nat.reduceMul, Nat.reduceBEq, Nat.reduceLT, Nat.reduceLeDiff, reduceCtorEq, Int.reduceToNat, Int.reduceNeg]
  rw [drivers_eq hg]
def idxF (p : Nat → Bool) : Nat → List Int
  | 0 => []
  | k + 1 => idxF p k ++ if p k then [(k : Int)] else []
theorem idxF_len (p : Nat → Bool) : ∀ k, (idxF p k).length ≤ k
  | 0 => Nat.le_refl _
  | k + 1 => by have := idxF_len p k; rw [idxF, List.length_append]; split <;> simp <;> omega
def lvN (id : Nat) : List Int → PV
  | [] => .nil
  | x :: l => .view id 0 (x :: l).length
def laN (id : Nat) : List Int → List (Nat × Arr)
  | [] => []
  | x :: l => [(id, ⟨1, 3, ints (x :: l)⟩)]
@[push_cast] theorem lvN_nil (id : Nat) : lvN id [] = .nil := rfl
@[push_cast] theorem lvN_cons (id : Nat) (x : Int) (l : List Int) : lvN id (x :: l) = .view id 0 (l.length + 1) := rfl
@[push_cast] theorem laN_nil (id : Nat) : laN id [] = [] := rfl
@[push_cast] theorem laN_cons (id : Nat) (x : Int) (l : List Int) : laN id (x :: l) = [(id, ⟨1, 3, ints (x :: l)⟩)] := rfl
def usedF (sel : List Int) : List Int := idxF (fun i => decide (sel.getD i 0 ≠ 0)) sel.length
theorem used_ok (g : Grid) (c : Cfg) (hl : (c.sel.length : Int) ≤ 1000000) : FnEq Try.prog 15 [.agg (gridC false g), .agg (cfgC false c)] (.sl true 1 (ints (usedF c.sel))) := by
  refine FnEq.of_awp Try.func15 ok15 (by show 2 ≤ _; decide) (by simp only [push_cast, reduceIte, Nat.reduceEqDiff, Nat.reduceAdd, Nat.reduceSub, Nat.reduceMul, Nat.reduceBEq, Nat.reduceLT, Nat.reduceLeDiff, reduceCtorEq, Int.reduceToNat, Int.reduceNeg] <;> first | exact fun _ _ => trivial | simp) ?_
  simp only [ac15, rv15, push_cast, reduceIte, Nat.reduceEqDiff, Nat.reduceAdd, Nat.reduceSub, Nat.reduceMul, Nat.reduceBEq, Nat.reduceLT, Nat.reduceLeDiff, reduceCtorEq, Int.reduceToNat, Int.reduceNeg]
  refine loop_of (fun m st => ∃ k : Nat, k ≤ c.sel.length ∧ m = c.sel.length - k ∧ st = ⟨[(5, lvN 21 (idxF (fun i => decide (c.sel.getD i 0 ≠ 0)) k)), (9, .sl false 1 (ints c.sel)), (10, .int c.sel.length), (11, .int k)], [], laN 21 (idxF (fun i => decide (c.sel.getD i 0 ≠ 0)) k), []⟩) c.sel.length ?_ ?_
  · refine ⟨0, by omega, by omega, ?_⟩
    simp only [idxF, lvN, laN, push_cast, reduceIte, Nat.reduceEqDiff, Nat.reduceAdd, Nat.reduceSub, Nat.reduceMul, Nat.reduceBEq, Nat.reduceLT, Nat.reduceLeDiff, reduceCtorEq, Int.reduceToNat, Int.reduceNeg]
  rintro m st ⟨k, hk, rfl, rfl⟩
  have hlen := idxF_len (fun i => decide (c.sel.getD i 0 ≠ 0)) k
  have hq : usedF c.sel = idxF (fun i => decide (c.sel.getD i 0 ≠ 0)) c.sel.length := rfl
  generalize hl0 : idxF (fun i => decide (c.sel.getD i 0 ≠ 0)) k = l0 at hlen ⊢
  have hs : idxF (fun i => decide (c.sel.getD i 0 ≠ 0)) (k + 1) = l0 ++ if (fun i => decide (c.sel.getD i 0 ≠ 0)) k = true then [(k : Int)] else [] := by rw [idxF, hl0]
  simp only [decide_eq_true_eq] at hs
  cases l0 with
  | nil =>
    simp only [push_cast, reduceIte, Nat.reduceEqDiff, Nat.reduceAdd, Nat.reduceSub, Nat.reduceMul, Nat.reduceBEq, Nat.reduceLT, Nat.reduceLeDiff, reduceCtorEq, Int.reduceToNat, Int.reduceNeg]
    refine cond_dec (fun h => ⟨by omega, by omega, cond_dec (fun h2 => ?_) fun h2 => ?_⟩) fun h => ?_
    · refine ⟨by simp, ?_⟩
      simp only [rows_one, push_cast, reduceIte, Nat.reduceEqDiff, Nat.reduceAdd, Nat.reduceSub, Nat.reduceMul, Nat.reduceBEq, Nat.reduceLT, Nat.reduceLeDiff, reduceCtorEq, Int.reduceToNat, Int.reduceNeg]
      refine ⟨by omega, _, ?_, k + 1, by omega, rfl, ?_⟩
      · omega
      · rw [hs, if_pos (show c.sel.getD k 0 ≠ 0 from h2)]
        simp only [List.nil_append, push_cast, reduceIte, Nat.reduceEqDiff, Nat.reduceAdd, Nat.reduceSub, Nat.reduceMul, Nat.reduceBEq, Nat.reduceLT, Nat.reduceLeDiff, reduceCtorEq, Int.reduceToNat, Int.reduceNeg]
        simp [rows_one]
        rfl
    · refine ⟨by omega, _, ?_, k + 1, by omega, rfl, ?_⟩
      · omega
      · rw [hs, if_neg (show ¬ c.sel.getD k 0 ≠ 0 from h2)]
        simp only [List.append_nil, push_cast, reduceIte, Nat.reduceEqDiff, Nat.reduceAdd, Nat.reduceSub, Nat.reduceMul, Nat.reduceBEq, Nat.reduceLT, Nat.reduceLeDiff, reduceCtorEq, Int.reduceToNat, Int.reduceNeg]
    · rw [hq, show c.sel.length = k by omega, hl0]
  | cons x l1 =>
    simp only [List.length_cons] at hlen
    simp only [push_cast, reduceIte, Nat.reduceEqDiff, Nat.reduceAdd, Nat.reduceSub, Nat.reduceMul, Nat.reduceBEq, Nat.reduceLT, Nat.reduceLeDiff, reduceCtorEq, Int.reduceToNat, Int.reduceNeg]
    refine cond_dec (fun h => ⟨by omega, by omega, cond_dec (fun h2 => ?_) fun h2 => ?_⟩) fun h => ?_
    · refine ⟨by simp, ⟨by omega, by omega⟩, by omega, _, ?_, k + 1, by omega, rfl, ?_⟩
      · omega
      · rw [hs, if_pos (show c.sel.getD k 0 ≠ 0 from h2)]
        simp only [List.cons_append, List.length_append, List.length_cons, List.length_nil, push_cast, reduceIte, Nat.reduceEqDiff, Nat.reduceAdd, Nat.reduceSub, Nat.reduceMul, Nat.reduceBEq, Nat.reduceLT, Nat.reduceLeDiff, reduceCtorEq, Int.reduceToNat, Int.reduceNeg]
    · refine ⟨by omega, _, ?_, k + 1, by omega, rfl, ?_⟩
      · omega
      · rw [hs, if_neg (show ¬ c.sel.getD k 0 ≠ 0 from h2)]
        simp only [List.append_nil, push_cast, reduceIte, Nat.reduceEqDiff, Nat.reduceAdd, Nat.reduceSub, Nat.reduceMul, Nat.reduceBEq, Nat.reduceLT, Nat.reduceLeDiff, reduceCtorEq, Int.reduceToNat, Int.reduceNeg]
    · rw [hq, show c.sel.length = k by omega, hl0, List.take_of_length_le (by simp)]
      exact ⟨fun _ _ => trivial, .refl _⟩
end Go.Proofs.Ytledbjkolidhkab
namespace Go.Proofs.Ytledbjkolidhkab
open Go Go.Vc Txt
def unF (a b : List Int) (i : Nat) : Bool := decide (a.length ≤ i ∨ b.length ≤ i ∨ a.getD i 0 ≠ b.getD i 0)
def unlikeF (a b : List Int) : List Int := idxF (unF a b) (max a.length b.length)
theorem unlike_ok (a b : List Int) (ha : (a.length : Int) ≤ 1000000) (hb : (b.length : Int) ≤ 1000000) : FnEq Try.prog 32 [.sl false 1 (ints a), .sl false 1 (ints b)] (.sl true 1 (ints (unlikeF a b))) := by
  obtain ⟨n, hn⟩ : ∃ n, n = max a.length b.length := ⟨_, rfl⟩
  refine FnEq.of_awp Try.func32 ok32 (by show 2 ≤ _; decide) (by simp only [push_cast, reduceIte, Nat.reduceEqDiff, Nat.reduceAdd, Nat.reduceSub, Nat.reduceMul, Nat.reduceBEq, Nat.reduceLT, Nat.reduceLeDiff, reduceCtorEq, Int.reduceToNat, Int.reduceNeg] <;> first | exact fun _ _ => trivial | simp) ?_
  simp only [ac32, rv32, push_cast, reduceIte, Nat.reduceEqDiff, Nat.reduceAdd, Nat.reduceSub, Nat.reduceMul, Nat.reduceBEq, Nat.reduceLT, Nat.reduceLeDiff, reduceCtorEq, Int.reduceToNat, Int.reduceNeg]
  refine loop_of (fun m st => ∃ k : Nat, k ≤ n ∧ m = n - k ∧ st = ⟨[(0, .sl false 1 (ints a)), (1, .sl false 1 (ints b)), (5, lvN 39 (idxF (unF a b) k)), (11, .int n), (12, .int k)], [], laN 39 (idxF (unF a b) k), []⟩) n ?_ ?_
  · refine ⟨0, by omega, by omega, ?_⟩
    simp only [idxF, push_cast, reduceIte, Nat.reduceEqDiff, Nat.reduceAdd, Nat.reduceSub, Nat.reduceMul, Nat.reduceBEq, Nat.reduceLT, Nat.reduceLeDiff, reduceCtorEq, Int.reduceToNat, Int.reduceNeg]
    rw [show max (a.length : Int) b.length = (n : Int) by omega]
  rintro m st ⟨k, hk, rfl, rfl⟩
  have hlen := idxF_len (unF a b) k
  have hq : unlikeF a b = idxF (unF a b) n := by rw [hn]; rfl
  generalize hl0 : idxF (unF a b) k = l0 at hlen ⊢
  have hs : idxF (unF a b) (k + 1) = l0 ++ if unF a b k = true then [(k : Int)] else [] := by rw [idxF, hl0]
  simp only [push_cast, reduceIte, Nat.reduceEqDiff, Nat.reduceAdd, Nat.reduceSub, Nat.reduceMul, Nat.reduceBEq, Nat.reduceLT, Nat.reduceLeDiff, reduceCtorEq, Int.reduceToNat, Int.reduceNeg]
  refine cond_dec (fun h => ?_) fun h => ?_
  · refine dcut_of ⟨[(0, .sl false 1 (ints a)), (1, .sl false 1 (ints b)), (5, lvN 39 l0), (6, .int k), (11, .int n), (12, .int k), (35, .bool (unF a b k))], [], laN 39 l0, []⟩ ?_ ?_
    · have hu : unF a b k = decide (a.length ≤ k ∨ b.length ≤ k ∨ a.getD k default ≠ b.getD k default) := rfl
      refine dgrd_decf rfl (fun h1 => ?_) fun h1 => ?_ <;> simp only [push_cast, reduceIte, Nat.reduceEqDiff, Nat.reduceAdd, Nat.reduceSub, Nat.reduceMul, Nat.reduceBEq, Nat.reduceLT, Nat.reduceLeDiff, reduceCtorEq, Int.reduceToNat, Int.reduceNeg]
      · rw [hu, decide_eq_true (.inl (by omega))]
      · refine dgrd_decf rfl (fun h2 => ?_) fun h2 => ?_ <;> simp only [push_cast, reduceIte, Nat.reduceEqDiff, Nat.reduceAdd, Nat.reduceSub, Nat.reduceMul, Nat.reduceBEq, Nat.reduceLT, Nat.reduceLeDiff, reduceCtorEq, Int.reduceToNat, Int.reduceNeg]
        · rw [hu, decide_eq_true (.inr (.inl (by omega)))]
        · refine ⟨by omega, by omega, by omega, by omega, ?_⟩
          rw [hu, show decide (a.getD k default ≠ b.getD k default) = decide (a.length ≤ k ∨ b.length ≤ k ∨ a.getD k default ≠ b.getD k default) from by
            rw [decide_eq_decide]
            exact ⟨fun h => .inr (.inr h), fun h => h.elim (fun h => by omega) fun h => h.elim (fun h => by omega) _root_.id⟩]
    generalize hp : unF a b k = p at hs ⊢
    cases l0 with
    | nil =>
      simp only [push_cast, reduceIte, Nat.reduceEqDiff, Nat.reduceAdd, Nat.reduceSub, Nat.reduceMul, Nat.reduceBEq, Nat.reduceLT, Nat.reduceLeDiff, reduceCtorEq, Int.reduceToNat, Int.reduceNeg]
      refine cond_of (fun h2 => ?_) fun h2 => ?_
      · refine ⟨by simp, ?_⟩
        simp only [rows_one, push_cast, reduceIte, Nat.reduceEqDiff, Nat.reduceAdd, Nat.reduceSub, Nat.reduceMul, Nat.reduceBEq, Nat.reduceLT, Nat.reduceLeDiff, reduceCtorEq, Int.reduceToNat, Int.reduceNeg]
        refine ⟨by omega, _, ?_, k + 1, by omega, rfl, ?_⟩
        · omega
        · rw [hs, if_pos h2]
          simp only [List.nil_append, push_cast, reduceIte, Nat.reduceEqDiff, Nat.reduceAdd, Nat.reduceSub, Nat.reduceMul, Nat.reduceBEq, Nat.reduceLT, Nat.reduceLeDiff, reduceCtorEq, Int.reduceToNat, Int.reduceNeg]
          simp [rows_one]
          rfl
      · refine ⟨by omega, _, ?_, k + 1, by omega, rfl, ?_⟩
        · omega
        · rw [hs, if_neg (by rw [h2]; decide)]
          simp only [List.append_nil, push_cast, reduceIte, Nat.reduceEqDiff, Nat.reduceAdd, Nat.reduceSub, Nat.reduceMul, Nat.reduceBEq, Nat.reduceLT, Nat.reduceLeDiff, reduceCtorEq, Int.reduceToNat, Int.reduceNeg]
    | cons x l1 =>
      simp only [List.length_cons] at hlen
      simp only [push_cast, reduceIte, Nat.reduceEqDiff, Nat.reduceAdd, Nat.reduceSub, Nat.reduceMul, Nat.reduceBEq, Nat.reduceLT, Nat.reduceLeDiff, reduceCtorEq, Int.reduceToNat, Int.reduceNeg]
      refine cond_of (fun h2 => ?_) fun h2 => ?_
      · refine ⟨by simp, ⟨by omega, by omega⟩, by omega, _, ?_, k + 1, by omega, rfl, ?_⟩
        · omega
        · rw [hs, if_pos h2]
          simp only [List.cons_append, List.length_append, List.length_cons, List.length_nil, push_cast, reduceIte, Nat.reduceEqDiff, Nat.reduceAdd, Nat.reduceSub, Nat.reduceMul, Nat.reduceBEq, Nat.reduceLT, Nat.reduceLeDiff, reduceCtorEq, Int.reduceToNat, Int.reduceNeg]
      · refine ⟨by omega, _, ?_, k + 1, by omega, rfl, ?_⟩
        · omega
        · rw [hs, if_neg (by rw [h2]; decide)]
          simp only [List.append_nil, push_cast, reduceIte, Nat.reduceEqDiff, Nat.reduceAdd, Nat.reduceSub, Nat.reduceMul, Nat.reduceBEq, Nat.reduceLT, Nat.reduceLeDiff, reduceCtorEq, Int.reduceToNat, Int.reduceNeg]
  · rw [hq, show n = k by omega, hl0]
    cases l0 with
    | nil => simp only [push_cast, reduceIte, Nat.reduceEqDiff, Nat.reduceAdd, Nat.reduceSub, Nat.reduceMul, Nat.reduceBEq, Nat.reduceLT, Nat.reduceLeDiff, reduceCtorEq, Int.reduceToNat, Int.reduceNeg]
    | cons x l1 =>
      simp only [push_cast, reduceIte, Nat.reduceEqDiff, Nat.reduceAdd, Nat.reduceSub, Nat.reduceMul, Nat.reduceBEq, Nat.reduceLT, Nat.reduceLeDiff, reduceCtorEq, Int.reduceToNat, Int.reduceNeg]
      rw [List.take_of_length_le (by simp)]
      exact ⟨fun _ _ => trivial, .refl _⟩
end Go.Proofs.Ytledbjkolidhkab
namespace Go.Vc
theorem Inv.trim {w0 : World} {Z0 : Zone} {N : Fr} {Z : Zone} {L : Lay} {st : St} {a : Act} {w : World} (h : Inv w0 Z0 N Z L st a w) {id : Nat} {A : Arr} (hA : lk st.a id = some A) (m : Nat) (hm : m ≤ A.xs.length) (hno : st.noTo nul (fun j => j == id) = true) :
    Inv w0 Z0 N Z { L with al := fun j => if j = id then m else L.al j } { st with a := up st.a id { A with xs := A.xs.take m } } a w := by
  have hl : LSame L { L with al := fun j => if j = id then m else L.al j } nul (fun j => j == id) := ⟨fun _ _ => rfl, fun _ _ => rfl, fun _ _ => rfl, fun _ _ => rfl, fun j hj => by simp only [beq_eq_false_iff_ne] at hj; simp [hj], fun _ _ => rfl⟩
  have hk : Kept Z w w := ⟨fun _ _ _ => rfl⟩
  have hR := Rest.keep (pb := nul) (pa := fun j => j == id) h.rest hk (fun _ _ h => h) (fun _ _ _ _ _ hp => hp) (fun _ _ _ _ => rfl) (Nat.le_refl _) hl (m' := st.m) (fun i M hM => ⟨hM, rfl, by unfold Mp.to; split <;> rfl⟩)
  refine ⟨h.zt, h.z0, h.zn, h.zb, h.below, h.ownb, fun i B hi => ?_, h.injb, fun i j x y hx hy he => ?_, fun i j x y hx hy he => ?_, fun i cs hi => ?_, fun i B hi => ?_, hR.1, hR.2.1, hR.2.2.1, h.oth, h.yb, h.size, h.defers, fun i v hi => ?_⟩
  · rw [lk_up] at hi
    split at hi
    · rename_i e; subst e; exact h.owna id A hA
    · exact h.owna i B hi
  · rw [lk_up] at hx hy
    have key : ∀ k z, (if id = k then some ({ A with xs := A.xs.take m } : Arr) else lk st.a k) = some z → ∃ z', lk st.a k = some z' := fun k z hz => by
      split at hz
      · rename_i e; subst e; exact ⟨A, hA⟩
      · exact ⟨z, hz⟩
    obtain ⟨x', hx'⟩ := key i x hx
    obtain ⟨y', hy'⟩ := key j y hy
    exact h.inja i j x' y' hx' hy' he
  · rw [lk_up] at hy
    split at hy
    · rename_i e; subst e; exact h.injx i id x A hx hA he
    · exact h.injx i j x y hx hy he
  · exact (h.boxes i cs hi).keep hk (fun _ _ h => h) rfl hl rfl (St.noTo_box hno hi)
  · rw [lk_up] at hi
    split at hi
    · rename_i e
      cases hi
      subst e
      obtain ⟨cur, hX⟩ := h.arrs id A hA
      refine ⟨cur, hX.pos, hX.ae, ?_, hX.blk, hX.size, ?_, hX.max, fun r hr => hX.rows r (List.mem_of_mem_take hr), fun p q r c hp hq => ?_⟩
      · simp; omega
      · exact Nat.le_trans (by simp; omega) hX.fits
      · rw [List.getElem?_take] at hp
        split at hp
        · exact hX.cell p q r c hp hq
        · cases hp
    · rename_i e
      obtain ⟨c, hX⟩ := h.arrs i B hi
      exact ⟨c, hX.keep hk (fun _ _ h => h) rfl hl (by simpa using Ne.symm e)⟩
  · exact (h.slots i v hi).keep hk (fun _ _ h => h) hl (St.noTo_slot hno hi)
end Go.Vc
namespace Go.Proofs.Ytledbjkolidhkab
open Go Go.Vc Txt
end Go.Proofs.Ytledbjkolidhkab
namespace Go.Vc
theorem FnM.trimA {E : Env} {f : Nat} {args : List PV} {st : St} {Q : PV → St → Prop} (id m : Nat) (h : FnM E f args st fun r st' => r = .view id 0 m ∧ ∃ A, lk st'.a id = some A ∧ m ≤ A.xs.length ∧ st'.noTo nul (fun j => j == id) = true ∧ Q r { st' with a := up st'.a id { A with xs := A.xs.take m } }) : FnM E f args st Q :=
  ⟨h.1, fun w0 Z0 X G Z L w vs h1 h2 h3 => (h.2 w0 Z0 X G Z L w vs h1 h2 h3).mono fun _ _ ⟨v, r, st', Z', L', e1, ⟨e2, A, e3, e4, e5, e6⟩, e7, e8⟩ => by
    subst e2
    obtain ⟨ad, cap', c1, c2, c3, c4, c5, c6⟩ := e8
    exact ⟨v, _, _, Z', _, e1, e6, e7.trim e3 m e4 e5, ad, cap', c1, c2, c3, by simp, c5, c6⟩⟩
end Go.Vc
namespace Go.Proofs.Ytledbjkolidhkab
open Go Go.Vc Txt
def ccB (c d : Cfg) : List (Nat × List PV) := [(2, cfgC false c), (3, cfgC false d)]
def lsC (l : List Int) : List PV := [.sl true 1 (ints l)]
@[push_cast] theorem lsC_eq (l : List Int) : lsC l = [.sl true 1 (ints l)] := rfl
def ccA (ls : List (List Int)) : Arr := ⟨1, 25, rows lsC ls⟩
theorem grow_ok (c d : Cfg) (ls : List (List Int)) (q : Nat) (n : Nat) (hn : 0 < n) (hl : (n : Int) ≤ 10000000) : FnM (Env.of Try.prog) 51 [.nil, .int n] ⟨[(0, .ptr 2 0), (1, .ptr 3 0), (500, .view 22 0 q), (503, .int n), (523, .int n)], ccB c d, [(22, ccA ls)], []⟩
    (fun r st' => r = .view 622 0 0 ∧ st' = ⟨[(0, .ptr 2 0), (1, .ptr 3 0), (500, .view 22 0 q), (503, .int n), (523, .int n)], ccB c d, [(22, ccA ls), (622, ⟨1, 3, []⟩)], []⟩) := by
  refine FnM.trimA 622 0 ?_
  simp only [ccB, ccA, push_cast, reduceIte, Nat.reduceEqDiff, Nat.reduceAdd, Nat.reduceSub, Nat.reduceMul, Nat.reduceBEq, Nat.reduceLT, Nat.reduceLeDiff, reduceCtorEq, Int.reduceToNat, Int.reduceNeg]
  refine fnM_of 600 Try.func51 ok51_600 (by show 2 ≤ _; decide) rfl (by show 0 ≤ 600; decide) ?_
  simp only [ac51_600, rv51_600, push_cast, reduceIte, Nat.reduceEqDiff, Nat.reduceAdd, Nat.reduceSub, Nat.reduceMul, Nat.reduceBEq, Nat.reduceLT, Nat.reduceLeDiff, reduceCtorEq, Int.reduceToNat, Int.reduceNeg]
  refine cond_dec (fun h => by omega) fun _ => ?_
  refine ⟨by omega, by omega, ?_⟩
  refine cond_dec (fun _ => ?_) fun h => by omega
  refine ⟨by omega, by omega, by omega, by simp, rfl, _, rfl, rfl, ?_⟩
  simp only [List.take_zero, push_cast, reduceIte, Nat.reduceEqDiff, Nat.reduceAdd, Nat.reduceSub, Nat.reduceMul, Nat.reduceBEq, Nat.reduceLT, Nat.reduceLeDiff, reduceCtorEq, Int.reduceToNat, Int.reduceNeg]
theorem grow0_ok (c d : Cfg) (ls : List (List Int)) (q : Nat) : FnM (Env.of Try.prog) 51 [.nil, .int 0] ⟨[(0, .ptr 2 0), (1, .ptr 3 0), (500, .view 22 0 q), (503, .int 0), (523, .int 0)], ccB c d, [(22, ccA ls)], []⟩
    (fun r st' => r = .nil ∧ st' = ⟨[(0, .ptr 2 0), (1, .ptr 3 0), (500, .view 22 0 q), (503, .int 0), (523, .int 0)], ccB c d, [(22, ccA ls)], []⟩) := by
  simp only [ccB, ccA, push_cast, reduceIte, Nat.reduceEqDiff, Nat.reduceAdd, Nat.reduceSub, Nat.reduceMul, Nat.reduceBEq, Nat.reduceLT, Nat.reduceLeDiff, reduceCtorEq, Int.reduceToNat, Int.reduceNeg]
  refine fnM_of 600 Try.func51 ok51_600 (by show 2 ≤ _; decide) rfl (by show 0 ≤ 600; decide) ?_
  simp only [ac51_600, rv51_600, push_cast, reduceIte, Nat.reduceEqDiff, Nat.reduceAdd, Nat.reduceSub, Nat.reduceMul, Nat.reduceBEq, Nat.reduceLT, Nat.reduceLeDiff, reduceCtorEq, Int.reduceToNat, Int.reduceNeg]
  refine cond_dec (p := (0 : Int) < 0) (fun h => by omega) fun _ => ?_
  refine ⟨by omega, by omega, ?_⟩
  refine cond_dec (fun h => by omega) fun _ => ?_
  trivial
def ccR (ls : List (List Int)) (r : PV) (a : List (Nat × Arr)) : Prop :=
  (r = .nil ∧ ls.flatten = [] ∧ a = [(22, ccA ls)]) ∨ (ls.flatten ≠ [] ∧ r = .view 622 0 ls.flatten.length ∧ a = [(22, ccA ls), (622, ⟨1, 3, ints ls.flatten⟩)])
def ccP : List (Nat × PV) := [(0, .ptr 2 0), (1, .ptr 3 0)]
theorem flat_take (ls : List (List Int)) (k : Nat) (hk : k < ls.length) : (ls.take (k + 1)).flatten = (ls.take k).flatten ++ ls.getD k default := by
  rw [List.take_succ_eq_append_getElem hk, List.flatten_append]
  simp [hk]
theorem concat_ok (c d : Cfg) (ls : List (List Int)) (h3 : ls.length ≤ 3) (hb : ∀ l ∈ ls, (l.length : Int) ≤ 1000000) : FnM (Env.of Try.prog) 31 [.view 22 0 ls.length] ⟨ccP, ccB c d, [(22, ccA ls)], []⟩
    (fun r st' => ∃ a, st' = ⟨ccP, ccB c d, a, []⟩ ∧ ccR ls r a) := by
  have hbd : ∀ k, k ≤ ls.length → ((ls.take k).flatten.length : Int) ≤ k * 1000000 := by
    intro k
    induction k with
    | zero => intro _; simp
    | succ k ih =>
      intro hk
      have h1 := ih (by omega)
      have h2 := hb (ls.getD k default) (by simp [show k < ls.length by omega])
      rw [flat_take ls k (by omega), List.length_append]
      omega
  simp only [ccP, ccB, ccA, push_cast, reduceIte, Nat.reduceEqDiff, Nat.reduceAdd, Nat.reduceSub, Nat.reduceMul, Nat.reduceBEq, Nat.reduceLT, Nat.reduceLeDiff, reduceCtorEq, Int.reduceToNat, Int.reduceNeg]
  refine fnM_of 500 Try.func31 ok31_500 (by show 1 ≤ _; decide) rfl (by show 0 ≤ 500; decide) ?_
  simp only [ac31_500, rv31_500, push_cast, reduceIte, Nat.reduceEqDiff, Nat.reduceAdd, Nat.reduceSub, Nat.reduceMul, Nat.reduceBEq, Nat.reduceLT, Nat.reduceLeDiff, reduceCtorEq, Int.reduceToNat, Int.reduceNeg]
  refine loop_of (fun m st => ∃ k : Nat, k ≤ ls.length ∧ m = ls.length - k ∧ st = ⟨ccP ++ [(500, .view 22 0 ls.length), (503, .int ((ls.take k).flatten.length : Nat)), (509, .view 22 0 ls.length), (510, .int ls.length), (511, .int k)], ccB c d, [(22, ccA ls)], []⟩) ls.length ?_ ?_
  · refine ⟨0, by omega, by omega, ?_⟩
    simp only [ccP, ccB, ccA, List.cons_append, List.nil_append, List.take_zero, List.flatten_nil, List.length_nil, push_cast, reduceIte, Nat.reduceEqDiff, Nat.reduceAdd, Nat.reduceSub, Nat.reduceMul, Nat.reduceBEq, Nat.reduceLT, Nat.reduceLeDiff, reduceCtorEq, Int.reduceToNat, Int.reduceNeg]
  rintro m st ⟨k, hk, rfl, rfl⟩
  have h1 := hbd k hk
  simp only [ccP, ccB, ccA, List.cons_append, List.nil_append, push_cast, reduceIte, Nat.reduceEqDiff, Nat.reduceAdd, Nat.reduceSub, Nat.reduceMul, Nat.reduceBEq, Nat.reduceLT, Nat.reduceLeDiff, reduceCtorEq, Int.reduceToNat, Int.reduceNeg]
  refine cond_dec (fun h => ⟨by omega, by omega, ?_⟩) fun h => ?_
  · have h2 := hb (ls.getD k default) (by simp [show k < ls.length by omega])
    have h5 := flat_take ls k (by omega)
    refine ⟨by omega, ?_⟩
    refine cond_dec (fun h => by omega) fun _ => ?_
    refine ⟨by omega, _, ?_, k + 1, by omega, rfl, ?_⟩
    · omega
    · rw [h5, List.length_append]
      simp only [ccP, ccB, ccA, List.cons_append, List.nil_append, push_cast, reduceIte, Nat.reduceEqDiff, Nat.reduceAdd, Nat.reduceSub, Nat.reduceMul, Nat.reduceBEq, Nat.reduceLT, Nat.reduceLeDiff, reduceCtorEq, Int.reduceToNat, Int.reduceNeg]
  · rw [List.take_of_length_le (by omega)] at h1 ⊢
    by_cases hF : ls.flatten = []
    · have hall : ∀ k, ls.getD k default = [] := fun k => by
        by_cases hk : k < ls.length
        · have := List.flatten_eq_nil_iff.1 hF ls[k] (List.getElem_mem hk)
          simp [hk, this]
        · rw [List.getD_eq_getElem?_getD, List.getElem?_eq_none (by omega)]; rfl
      rw [hF]
      simp only [List.length_nil]
      refine clm_eq (grow0_ok c d ls ls.length) ?_
      simp only [ccB, ccA, push_cast, reduceIte, Nat.reduceEqDiff, Nat.reduceAdd, Nat.reduceSub, Nat.reduceMul, Nat.reduceBEq, Nat.reduceLT, Nat.reduceLeDiff, reduceCtorEq, Int.reduceToNat, Int.reduceNeg]
      refine loop_of (fun m st => ∃ k : Nat, k ≤ ls.length ∧ m = ls.length - k ∧ st = ⟨ccP ++ [(506, .nil), (525, .view 22 0 ls.length), (526, .int ls.length), (527, .int k)], ccB c d, [(22, ccA ls)], []⟩) ls.length ?_ ?_
      · refine ⟨0, by omega, by omega, ?_⟩
        simp only [ccP, ccB, ccA, List.cons_append, List.nil_append, push_cast, reduceIte, Nat.reduceEqDiff, Nat.reduceAdd, Nat.reduceSub, Nat.reduceMul, Nat.reduceBEq, Nat.reduceLT, Nat.reduceLeDiff, reduceCtorEq, Int.reduceToNat, Int.reduceNeg]
      rintro m st ⟨k, hk, rfl, rfl⟩
      simp only [ccP, ccB, ccA, List.cons_append, List.nil_append, push_cast, reduceIte, Nat.reduceEqDiff, Nat.reduceAdd, Nat.reduceSub, Nat.reduceMul, Nat.reduceBEq, Nat.reduceLT, Nat.reduceLeDiff, reduceCtorEq, Int.reduceToNat, Int.reduceNeg]
      refine cond_dec (fun h => ⟨by omega, by omega, ?_⟩) fun h => ?_
      · rw [hall k]
        simp only [show ints [] = [] from rfl, push_cast, reduceIte, Nat.reduceEqDiff, Nat.reduceAdd, Nat.reduceSub, Nat.reduceMul, Nat.reduceBEq, Nat.reduceLT, Nat.reduceLeDiff, reduceCtorEq, Int.reduceToNat, Int.reduceNeg]
        refine ⟨by omega, _, ?_, k + 1, by omega, rfl, ?_⟩
        · omega
        · simp only [ccP, ccB, ccA, List.cons_append, List.nil_append, push_cast, reduceIte, Nat.reduceEqDiff, Nat.reduceAdd, Nat.reduceSub, Nat.reduceMul, Nat.reduceBEq, Nat.reduceLT, Nat.reduceLeDiff, reduceCtorEq, Int.reduceToNat, Int.reduceNeg]
      · exact ⟨_, rfl, .inl ⟨rfl, hF, rfl⟩⟩
    · have hpos := List.length_pos_iff.2 hF
      refine clm_eq (grow_ok c d ls ls.length ls.flatten.length hpos (by omega)) ?_
      simp only [ccB, ccA, push_cast, reduceIte, Nat.reduceEqDiff, Nat.reduceAdd, Nat.reduceSub, Nat.reduceMul, Nat.reduceBEq, Nat.reduceLT, Nat.reduceLeDiff, reduceCtorEq, Int.reduceToNat, Int.reduceNeg]
      refine loop_of (fun m st => ∃ k : Nat, k ≤ ls.length ∧ m = ls.length - k ∧ st = ⟨ccP ++ [(506, .view 622 0 (ls.take k).flatten.length), (525, .view 22 0 ls.length), (526, .int ls.length), (527, .int k)], ccB c d, [(22, ccA ls), (622, ⟨1, 3, ints (ls.take k).flatten⟩)], []⟩) ls.length ?_ ?_
      · refine ⟨0, by omega, by omega, ?_⟩
        simp only [ccP, ccB, ccA, List.cons_append, List.nil_append, List.take_zero, List.flatten_nil, List.length_nil, push_cast, reduceIte, Nat.reduceEqDiff, Nat.reduceAdd, Nat.reduceSub, Nat.reduceMul, Nat.reduceBEq, Nat.reduceLT, Nat.reduceLeDiff, reduceCtorEq, Int.reduceToNat, Int.reduceNeg]
        rfl
      rintro m st ⟨k, hk, rfl, rfl⟩
      have h1 := hbd k hk
      simp only [ccP, ccB, ccA, List.cons_append, List.nil_append, push_cast, reduceIte, Nat.reduceEqDiff, Nat.reduceAdd, Nat.reduceSub, Nat.reduceMul, Nat.reduceBEq, Nat.reduceLT, Nat.reduceLeDiff, reduceCtorEq, Int.reduceToNat, Int.reduceNeg]
      refine cond_dec (fun h => ⟨by omega, by omega, ?_⟩) fun h => ?_
      · have h2 := hb (ls.getD k default) (by simp [show k < ls.length by omega])
        have h5 := flat_take ls k (by omega)
        refine ⟨⟨by omega, by omega⟩, by omega, _, ?_, k + 1, by omega, rfl, ?_⟩
        · omega
        · rw [h5, List.length_append]
          simp only [ccP, ccB, ccA, List.cons_append, List.nil_append, push_cast, reduceIte, Nat.reduceEqDiff, Nat.reduceAdd, Nat.reduceSub, Nat.reduceMul, Nat.reduceBEq, Nat.reduceLT, Nat.reduceLeDiff, reduceCtorEq, Int.reduceToNat, Int.reduceNeg]
      · rw [List.take_of_length_le (by omega)]
        exact ⟨rfl, _, rfl, .inr ⟨hF, rfl, rfl⟩⟩
def tilesF (c d : Cfg) : List Int := unlikeF c.mode d.mode ++ unlikeF c.tab d.tab ++ unlikeF c.ram d.ram
def differF (c d : Cfg) : List Int × List Int := (unlikeF c.sel d.sel, Go.Lib.compact (sortF (tilesF c d)))
structure CfgSm (c : Cfg) : Prop where
  sel : (c.sel.length : Int) ≤ 1000000
  mode : (c.mode.length : Int) ≤ 1000000
  tab : (c.tab.length : Int) ≤ 1000000
  ram : (c.ram.length : Int) ≤ 1000000
theorem unlikeF_len (a b : List Int) (ha : (a.length : Int) ≤ 1000000) (hb : (b.length : Int) ≤ 1000000) : ((unlikeF a b).length : Int) ≤ 1000000 := by
  have := idxF_len (unF a b) (max a.length b.length)
  rw [unlikeF]
  omega
set_option maxHeartbeats 2000000 in
theorem differ_ok (c d : Cfg) (hc : CfgSm c) (hd : CfgSm d) : FnEq Try.prog 21 [.agg (cfgC false c), .agg (cfgC false d)] (.tup [.sl true 1 (ints (differF c d).1), .sl true 1 (ints (differF c d).2)]) := by
  have u0 := unlike_ok c.sel d.sel hc.sel hd.sel
  have u1 := unlike_ok c.mode d.mode hc.mode hd.mode
  have u2 := unlike_ok c.tab d.tab hc.tab hd.tab
  have u3 := unlike_ok c.ram d.ram hc.ram hd.ram
  have l1 := unlikeF_len c.mode d.mode hc.mode hd.mode
  have l2 := unlikeF_len c.tab d.tab hc.tab hd.tab
  have l3 := unlikeF_len c.ram d.ram hc.ram hd.ram
  refine FnEq.of_awp Try.func21 ok21 (by show 2 ≤ _; decide) (by simp only [push_cast, reduceIte, Nat.reduceEqDiff, Nat.reduceAdd, Nat.reduceSub, Nat.reduceMul, Nat.reduceBEq, Nat.reduceLT, Nat.reduceLeDiff, reduceCtorEq, Int.reduceToNat, Int.reduceNeg] <;> first | exact fun _ _ => trivial | simp) ?_
  simp only [ac21, rv21, push_cast, reduceIte, Nat.reduceEqDiff, Nat.reduceAdd, Nat.reduceSub, Nat.reduceMul, Nat.reduceBEq, Nat.reduceLT, Nat.reduceLeDiff, reduceCtorEq, Int.reduceToNat, Int.reduceNeg]
  refine dcal_eq u1 (u := []) rfl ?_
  simp only [push_cast, reduceIte, Nat.reduceEqDiff, Nat.reduceAdd, Nat.reduceSub, Nat.reduceMul, Nat.reduceBEq, Nat.reduceLT, Nat.reduceLeDiff, reduceCtorEq, Int.reduceToNat, Int.reduceNeg]
  refine dcal_eq u2 (u := []) rfl ?_
  simp only [push_cast, reduceIte, Nat.reduceEqDiff, Nat.reduceAdd, Nat.reduceSub, Nat.reduceMul, Nat.reduceBEq, Nat.reduceLT, Nat.reduceLeDiff, reduceCtorEq, Int.reduceToNat, Int.reduceNeg]
  refine cal_eq u3 ?_
  simp only [push_cast, reduceIte, Nat.reduceEqDiff, Nat.reduceAdd, Nat.reduceSub, Nat.reduceMul, Nat.reduceBEq, Nat.reduceLT, Nat.reduceLeDiff, reduceCtorEq, Int.reduceToNat, Int.reduceNeg]
  obtain ⟨ls, hls⟩ : ∃ ls, ls = [unlikeF c.mode d.mode, unlikeF c.tab d.tab, unlikeF c.ram d.ram] := ⟨_, rfl⟩
  have hfl : ls.flatten = tilesF c d := by rw [hls]; simp [tilesF]
  have hln : ((tilesF c d).length : Int) ≤ 3000000 := by rw [tilesF]; simp only [List.length_append]; omega
  have hcc := concat_ok c d ls (by rw [hls]; exact Nat.le_refl 3) (fun l hl => by rw [hls] at hl; simp at hl; rcases hl with rfl | rfl | rfl <;> assumption)
  have hfr : FnM (Env.of Try.prog) 31 [.view 22 0 3] ⟨[(2, .ptr 2 0), (3, .ptr 3 0), (7, .ptr 2 1), (8, .sl false 1 (ints c.mode)), (9, .ptr 3 1), (10, .sl false 1 (ints d.mode)), (11, .sl true 1 (ints (unlikeF c.mode d.mode))), (12, .ptr 2 2),
      (13, .sl false 1 (ints c.tab)), (14, .ptr 3 2), (15, .sl false 1 (ints d.tab)), (16, .sl true 1 (ints (unlikeF c.tab d.tab))), (17, .ptr 2 3), (18, .sl false 1 (ints c.ram)), (19, .ptr 3 3), (20, .sl false 1 (ints d.ram)), (21, .sl true 1 (ints (unlikeF c.ram d.ram))), (22, .view 22 0 3)], ccB c d, [(22, ccA ls)], []⟩
      (fun r st' => ∃ a, st' = ⟨[(2, .ptr 2 0), (3, .ptr 3 0)], ccB c d, a, []⟩ ∧ ccR ls r a) := by
    refine FnM.frame ccP [(2, .ptr 2 0), (3, .ptr 3 0)] rfl rfl (by simp only [ccP, push_cast, reduceIte, Nat.reduceEqDiff, Nat.reduceAdd, Nat.reduceSub, Nat.reduceMul, Nat.reduceBEq, Nat.reduceLT, Nat.reduceLeDiff, reduceCtorEq, Int.reduceToNat, Int.reduceNeg]) ?_
    rw [show (3 : Nat) = ls.length by rw [hls]; rfl]
    refine FnM.mono hcc ?_
    rintro r st' ⟨a, rfl, h⟩
    exact ⟨_, _, _, rfl, a, rfl, h⟩
  rw [hls] at hfr
  refine clm_of hfr ?_
  rintro r st' ⟨a, rfl, h⟩
  rw [← hls] at h
  rcases h with ⟨rfl, h1, rfl⟩ | ⟨h1, rfl, rfl⟩
  · simp only [ccB, ccA, push_cast, reduceIte, Nat.reduceEqDiff, Nat.reduceAdd, Nat.reduceSub, Nat.reduceMul, Nat.reduceBEq, Nat.reduceLT, Nat.reduceLeDiff, reduceCtorEq, Int.reduceToNat, Int.reduceNeg]
    refine clm_eq sort_nil ?_
    simp only [push_cast, reduceIte, Nat.reduceEqDiff, Nat.reduceAdd, Nat.reduceSub, Nat.reduceMul, Nat.reduceBEq, Nat.reduceLT, Nat.reduceLeDiff, reduceCtorEq, Int.reduceToNat, Int.reduceNeg]
    refine cal_eq u0 ?_
    simp only [push_cast, reduceIte, Nat.reduceEqDiff, Nat.reduceAdd, Nat.reduceSub, Nat.reduceMul, Nat.reduceBEq, Nat.reduceLT, Nat.reduceLeDiff, reduceCtorEq, Int.reduceToNat, Int.reduceNeg]
    refine clm_eq compact_nil ?_
    simp only [differF, ← hfl, h1, push_cast, reduceIte, Nat.reduceEqDiff, Nat.reduceAdd, Nat.reduceSub, Nat.reduceMul, Nat.reduceBEq, Nat.reduceLT, Nat.reduceLeDiff, reduceCtorEq, Int.reduceToNat, Int.reduceNeg]
    refine ⟨fun _ _ => trivial, ?_⟩
    rw [sortF, List.mergeSort_nil]
    rfl
  · simp only [ccB, ccA, hfl, push_cast, reduceIte, Nat.reduceEqDiff, Nat.reduceAdd, Nat.reduceSub, Nat.reduceMul, Nat.reduceBEq, Nat.reduceLT, Nat.reduceLeDiff, reduceCtorEq, Int.reduceToNat, Int.reduceNeg]
    refine clm_eq (sort_ok (id := 622) (ty := 3) rfl (by omega)) ?_
    simp only [push_cast, reduceIte, Nat.reduceEqDiff, Nat.reduceAdd, Nat.reduceSub, Nat.reduceMul, Nat.reduceBEq, Nat.reduceLT, Nat.reduceLeDiff, reduceCtorEq, Int.reduceToNat, Int.reduceNeg]
    refine cal_eq u0 ?_
    simp only [push_cast, reduceIte, Nat.reduceEqDiff, Nat.reduceAdd, Nat.reduceSub, Nat.reduceMul, Nat.reduceBEq, Nat.reduceLT, Nat.reduceLeDiff, reduceCtorEq, Int.reduceToNat, Int.reduceNeg]
    have hsl : (sortF (tilesF c d)).length = (tilesF c d).length := by rw [sortF, List.length_mergeSort]
    refine clm_eq (compact_at (id := 622) (ty := 3) hsl.symm rfl (by rw [hsl]; omega)) ?_
    simp only [differF, push_cast, reduceIte, Nat.reduceEqDiff, Nat.reduceAdd, Nat.reduceSub, Nat.reduceMul, Nat.reduceBEq, Nat.reduceLT, Nat.reduceLeDiff, reduceCtorEq, Int.reduceToNat, Int.reduceNeg]
    rw [List.take_left]
    first
      | exact ⟨⟨fun _ _ => trivial, fun _ _ => trivial⟩, .refl _, .refl _⟩
      | exact ⟨⟨fun _ _ => trivial, fun _ _ => trivial⟩, .refl _⟩
end Go.Proofs.Ytledbjkolidhkab
namespace Go.Proofs.Ytledbjkolidhkab.Txt
open Go Go.Vc
set_option maxRecDepth 100000
def ac28b_r6 : AC :=
 (.seq (.reg [0, 40, 0, 1, 2, 3, 9, 10] [
 ⟨some 23, none, .mv (.t 1)⟩, ⟨some 24, none, .cal 26 [(.t 23), (.c (.sc (.int .i64 0))), (.c (.sc (.int .i64 3)))]⟩, ⟨some 25, none, .mv (.t 24)⟩, ⟨some 26, some (25, true), .mv (.t 0)⟩, ⟨some 27, some (25, true), .mv (.t 1)⟩, ⟨some 28, some (25, true), .cal 48 [(.t 26), (.t 27)]⟩, ⟨some 29, none, .pick (.t 25) (.t 28) (.c (.sc (.bool false)))⟩, ⟨some 30, none, .mv (.t 29)⟩, ⟨some 31, some (30, true), .mv (.t 2)⟩, ⟨some 32, some (30, true), .mv (.t 9)⟩, ⟨some 33, some (30, true), .cal 26 [(.t 31), (.c (.sc (.int .i64 0))), (.t 32)]⟩, ⟨some 34, none, .pick (.t 30) (.t 33) (.c (.sc (.bool false)))⟩, ⟨some 35, none, .mv (.t 34)⟩, ⟨some 36, some (35, true), .mv (.t 3)⟩, ⟨some 37, some (35, true), .mv (.t 10)⟩, ⟨some 38, some (35, true), .cal 26 [(.t 36), (.c (.sc (.int .i64 0))), (.t 37)]⟩, ⟨some 39, none, .pick (.t 35) (.t 38) (.c (.sc (.bool false)))⟩, ⟨some 8, none, .mv (.t 39)⟩])
 .ret)
def ac28b : AC :=
 (.seq (.reg [0, 40, 0, 1, 2, 3] [
 ⟨some 8, none, .mv (.c (.sc (.bool false)))⟩])
 (.seq (.reg [0, 40, 0, 1, 2, 3] [
 ⟨some 9, none, .mv (.c (.sc (.int .i64 0)))⟩, ⟨some 10, none, .mv (.c (.sc (.int .i64 0)))⟩])
 (.seq (.seq (.reg [0, 40, 0, 1, 2, 3, 9, 10] [
 ⟨some 11, none, .mv (.t 1)⟩, ⟨some 12, none, .cmp .eql .i64 (.t 11) (.c (.sc (.int .i64 1)))⟩, ⟨some 13, none, .mv (.t 12)⟩, ⟨some 14, some (13, false), .mv (.t 1)⟩, ⟨some 15, some (13, false), .cmp .eql .i64 (.t 14) (.c (.sc (.int .i64 2)))⟩, ⟨some 16, none, .pick (.t 13) (.c (.sc (.bool true))) (.t 15)⟩])
 (.cut [0, 40, 0, 1, 2, 3, 9, 10, 16] (.cond (.t 16)
 (.reg [0, 40, 0, 1, 2, 3, 10] [
 ⟨some 9, none, .mv (.c (.sc (.int .i64 65535)))⟩])
 .skip)))
 (.seq (.seq (.reg [0, 40, 0, 1, 2, 3, 9, 10] [
 ⟨some 17, none, .mv (.t 1)⟩, ⟨some 18, none, .cmp .eql .i64 (.t 17) (.c (.sc (.int .i64 2)))⟩, ⟨some 19, none, .mv (.t 18)⟩, ⟨some 20, some (19, false), .mv (.t 1)⟩, ⟨some 21, some (19, false), .cmp .eql .i64 (.t 20) (.c (.sc (.int .i64 3)))⟩, ⟨some 22, none, .pick (.t 19) (.c (.sc (.bool true))) (.t 21)⟩])
 (.cut [0, 40, 0, 1, 2, 3, 9, 10, 22] (.cond (.t 22)
 (.reg [0, 40, 0, 1, 2, 3, 9] [
 ⟨some 10, none, .mv (.c (.sc (.int .i64 255)))⟩])
 .skip)))
 ac28b_r6))))
def rv28b : List RV := [.tmp 8]
theorem ok28b : fnOk Try.prog ac28b rv28b Try.f28 = true := by kernel_rfl
end Go.Proofs.Ytledbjkolidhkab.Txt
namespace Go.Proofs.Ytledbjkolidhkab
open Go Go.Vc Txt
def TileOk (k m t r : Int) : Prop := (0 ≤ m ∧ m ≤ 3) ∧ holdsF k m = true ∧ (0 ≤ t ∧ t ≤ if m = 1 ∨ m = 2 then 65535 else 0) ∧ (0 ≤ r ∧ r ≤ if m = 2 ∨ m = 3 then 255 else 0)
instance (k m t r : Int) : Decidable (TileOk k m t r) := by unfold TileOk; infer_instance
set_option maxHeartbeats 2000000 in
theorem vtile_ok (k m t r : Int) : FnEq Try.prog 28 [.int k, .int m, .int t, .int r] (.bool (decide (TileOk k m t r))) := by
  have key : ∀ T R : Int, (T = if m = 1 ∨ m = 2 then 65535 else 0) → (R = if m = 2 ∨ m = 3 then 255 else 0) → (TileOk k m t r ↔ (0 ≤ m ∧ m ≤ 3) ∧ holdsF k m = true ∧ (0 ≤ t ∧ t ≤ T) ∧ (0 ≤ r ∧ r ≤ R)) := fun T R hT hR => by rw [TileOk, hT, hR]
  have fin : ∀ T R : Int, (T = if m = 1 ∨ m = 2 then 65535 else 0) → (R = if m = 2 ∨ m = 3 then 255 else 0) → ∀ {st : St}, st.keepS [0, 40, 0, 1, 2, 3, 9, 10] = ⟨[(0, .int k), (1, .int m), (2, .int t), (3, .int r), (9, .int T), (10, .int R)], [], [], []⟩ →
      awp (Env.of Try.prog) ac28b_r6 (retK rv28b fun x => Sub x (.bool (decide (TileOk k m t r)))) st := by
    intro T R hT hR st hst
    have hk := key T R hT hR
    simp only [ac28b_r6, rv28b, push_cast, reduceIte, Nat.reduceEqDiff, Nat.reduceAdd, Nat.reduceSub, Nat.reduceMul, Nat.reduceBEq, Nat.reduceLT, Nat.reduceLeDiff, reduceCtorEq, Int.reduceToNat, Int.reduceNeg, hst]
    refine cal_eq (within_ok _ _ _) ?_
    simp only [push_cast, reduceIte, Nat.reduceEqDiff, Nat.reduceAdd, Nat.reduceSub, Nat.reduceMul, Nat.reduceBEq, Nat.reduceLT, Nat.reduceLeDiff, reduceCtorEq, Int.reduceToNat, Int.reduceNeg]
    refine grd_dec rfl (fun w1 => ?_) fun w1 => ?_ <;> simp only [push_cast, reduceIte, Nat.reduceEqDiff, Nat.reduceAdd, Nat.reduceSub, Nat.reduceMul, Nat.reduceBEq, Nat.reduceLT, Nat.reduceLeDiff, reduceCtorEq, Int.reduceToNat, Int.reduceNeg]
    rotate_left
    · rw [decide_eq_false fun h => w1 (hk.1 h).1]
    refine cal_eq (holds_ok _ _) ?_
    simp only [push_cast, reduceIte, Nat.reduceEqDiff, Nat.reduceAdd, Nat.reduceSub, Nat.reduceMul, Nat.reduceBEq, Nat.reduceLT, Nat.reduceLeDiff, reduceCtorEq, Int.reduceToNat, Int.reduceNeg]
    refine grd_b rfl (fun w2 => ?_) fun w2 => ?_ <;> simp only [push_cast, reduceIte, Nat.reduceEqDiff, Nat.reduceAdd, Nat.reduceSub, Nat.reduceMul, Nat.reduceBEq, Nat.reduceLT, Nat.reduceLeDiff, reduceCtorEq, Int.reduceToNat, Int.reduceNeg]
    rotate_left
    · rw [decide_eq_false fun h => by have := (hk.1 h).2.1; rw [w2] at this; cases this]
    refine cal_eq (within_ok _ _ _) ?_
    simp only [push_cast, reduceIte, Nat.reduceEqDiff, Nat.reduceAdd, Nat.reduceSub, Nat.reduceMul, Nat.reduceBEq, Nat.reduceLT, Nat.reduceLeDiff, reduceCtorEq, Int.reduceToNat, Int.reduceNeg]
    refine grd_dec rfl (fun w3 => ?_) fun w3 => ?_ <;> simp only [push_cast, reduceIte, Nat.reduceEqDiff, Nat.reduceAdd, Nat.reduceSub, Nat.reduceMul, Nat.reduceBEq, Nat.reduceLT, Nat.reduceLeDiff, reduceCtorEq, Int.reduceToNat, Int.reduceNeg]
    rotate_left
    · rw [decide_eq_false fun h => w3 (hk.1 h).2.2.1]
    refine cal_eq (within_ok _ _ _) ?_
    simp only [push_cast, reduceIte, Nat.reduceEqDiff, Nat.reduceAdd, Nat.reduceSub, Nat.reduceMul, Nat.reduceBEq, Nat.reduceLT, Nat.reduceLeDiff, reduceCtorEq, Int.reduceToNat, Int.reduceNeg]
    rw [decide_eq_decide.2 (show (0 ≤ r ∧ r ≤ R) ↔ TileOk k m t r from ⟨fun h => hk.2 ⟨w1, w2, w3, h⟩, fun h => (hk.1 h).2.2.2⟩)]
  refine FnEq.of_awp Try.func28 ok28b (by show 4 ≤ _; decide) (by simp only [push_cast, reduceIte, Nat.reduceEqDiff, Nat.reduceAdd, Nat.reduceSub, Nat.reduceMul, Nat.reduceBEq, Nat.reduceLT, Nat.reduceLeDiff, reduceCtorEq, Int.reduceToNat, Int.reduceNeg] <;> first | exact fun _ _ => trivial | simp) ?_
  simp only [ac28b, push_cast, reduceIte, Nat.reduceEqDiff, Nat.reduceAdd, Nat.reduceSub, Nat.reduceMul, Nat.reduceBEq, Nat.reduceLT, Nat.reduceLeDiff, reduceCtorEq, Int.reduceToNat, Int.reduceNeg]
  cases e1 : decide (m = 1) <;> cases e2 : decide (m = 2) <;> cases e3 : decide (m = 3)
  all_goals have h1 := e1
  all_goals have h2 := e2
  all_goals have h3 := e3
  all_goals simp only [decide_eq_true_eq, decide_eq_false_iff_not] at h1 h2 h3
  all_goals first | (exfalso; omega) | skip
  all_goals simp only [e1, e2, e3, push_cast, reduceIte, Nat.reduceEqDiff, Nat.reduceAdd, Nat.reduceSub, Nat.reduceMul, Nat.reduceBEq, Nat.reduceLT, Nat.reduceLeDiff, reduceCtorEq, Int.reduceToNat, Int.reduceNeg]
  · refine fin 0 0 (by rw [if_neg (by omega)]) (by rw [if_neg (by omega)]) ?_
    simp only [push_cast, reduceIte, Nat.reduceEqDiff, Nat.reduceAdd, Nat.reduceSub, Nat.reduceMul, Nat.reduceBEq, Nat.reduceLT, Nat.reduceLeDiff, reduceCtorEq, Int.reduceToNat, Int.reduceNeg]
  · refine fin 0 255 (by rw [if_neg (by omega)]) (by rw [if_pos (by omega)]) ?_
    simp only [push_cast, reduceIte, Nat.reduceEqDiff, Nat.reduceAdd, Nat.reduceSub, Nat.reduceMul, Nat.reduceBEq, Nat.reduceLT, Nat.reduceLeDiff, reduceCtorEq, Int.reduceToNat, Int.reduceNeg]
  · refine fin 65535 255 (by rw [if_pos (by omega)]) (by rw [if_pos (by omega)]) ?_
    simp only [push_cast, reduceIte, Nat.reduceEqDiff, Nat.reduceAdd, Nat.reduceSub, Nat.reduceMul, Nat.reduceBEq, Nat.reduceLT, Nat.reduceLeDiff, reduceCtorEq, Int.reduceToNat, Int.reduceNeg]
  · refine fin 65535 0 (by rw [if_pos (by omega)]) (by rw [if_neg (by omega)]) ?_
    simp only [push_cast, reduceIte, Nat.reduceEqDiff, Nat.reduceAdd, Nat.reduceSub, Nat.reduceMul, Nat.reduceBEq, Nat.reduceLT, Nat.reduceLeDiff, reduceCtorEq, Int.reduceToNat, Int.reduceNeg]
end Go.Proofs.Ytledbjkolidhkab
namespace Go.Proofs.Ytledbjkolidhkab
open Go Go.Vc Txt
set_option maxHeartbeats 4000000 in
theorem rtile_ok (g : Grid) (c : Cfg) (t : Int) (ht : 0 ≤ t ∧ t < g.kind.length) (h1 : t < c.mode.length) (h2 : t < c.tab.length) (h3 : t < c.ram.length) :
    FnEq Try.prog 24 [.agg (gridC false g), .agg (cfgC false c), .int t] (.bool (decide (TileOk (g.kind.getD t.toNat default) (c.mode.getD t.toNat default) (c.tab.getD t.toNat default) (c.ram.getD t.toNat default)))) := by
  refine FnEq.of_awp Try.func24 ok24 (by show 3 ≤ _; decide) (by simp only [push_cast, reduceIte, Nat.reduceEqDiff, Nat.reduceAdd, Nat.reduceSub, Nat.reduceMul, Nat.reduceBEq, Nat.reduceLT, Nat.reduceLeDiff, reduceCtorEq, Int.reduceToNat, Int.reduceNeg] <;> first | exact fun _ _ => trivial | simp) ?_
  simp only [ac24, rv24, push_cast, reduceIte, Nat.reduceEqDiff, Nat.reduceAdd, Nat.reduceSub, Nat.reduceMul, Nat.reduceBEq, Nat.reduceLT, Nat.reduceLeDiff, reduceCtorEq, Int.reduceToNat, Int.reduceNeg]
  refine ⟨by omega, by omega, ?_⟩
  generalize hm : c.mode.getD t.toNat default = m
  generalize hk : g.kind.getD t.toNat default = k
  generalize ha : c.tab.getD t.toNat default = a
  generalize hr : c.ram.getD t.toNat default = r
  obtain ⟨B, hB⟩ : ∃ B, B = decide (m < 0 ∨ 3 < m ∨ (k = 0 ∧ m ≠ 0) ∨ (k = 1 ∧ m = 3)) := ⟨_, rfl⟩
  refine cut_of ⟨[(2, .int t), (4, .ptr 4 0), (7, .int m), (44, .bool B)], [(3, gridC false g), (4, cfgC false c)], [], []⟩ ?_ ?_
  · repeat' (first
      | (refine grd_dec rfl (fun _ => ?_) fun _ => ?_ <;> simp only [hk, push_cast, reduceIte, Nat.reduceEqDiff, Nat.reduceAdd, Nat.reduceSub, Nat.reduceMul, Nat.reduceBEq, Nat.reduceLT, Nat.reduceLeDiff, reduceCtorEq, Int.reduceToNat, Int.reduceNeg])
      | (refine grd_decf rfl (fun _ => ?_) fun _ => ?_ <;> simp only [hk, push_cast, reduceIte, Nat.reduceEqDiff, Nat.reduceAdd, Nat.reduceSub, Nat.reduceMul, Nat.reduceBEq, Nat.reduceLT, Nat.reduceLeDiff, reduceCtorEq, Int.reduceToNat, Int.reduceNeg])
      | (refine And.intro (by omega) ?_))
    all_goals first
      | (rw [show B = true from by rw [hB]; exact decide_eq_true (by omega)]; done)
      | (rw [show B = false from by rw [hB]; exact decide_eq_false (by omega)]; done)
      | (rw [show B = decide (m = 3) from by rw [hB, decide_eq_decide]; omega]; done)
      | (rw [show B = decide (¬ m = 0) from by rw [hB, decide_eq_decide]; omega]; done)
  simp only [push_cast, reduceIte, Nat.reduceEqDiff, Nat.reduceAdd, Nat.reduceSub, Nat.reduceMul, Nat.reduceBEq, Nat.reduceLT, Nat.reduceLeDiff, reduceCtorEq, Int.reduceToNat, Int.reduceNeg]
  refine cond_of (fun e => ?_) fun e => ?_
  · rw [hB, decide_eq_true_eq] at e
    rw [decide_eq_false fun h => ?_]
    have h1 := h.1
    have h2 := h.2.1
    unfold holdsF at h2
    by_cases k0 : k = 0
    · rw [if_pos k0] at h2
      simp at h2
      omega
    · rw [if_neg k0] at h2
      by_cases k1 : k = 1
      · rw [if_pos k1] at h2
        simp at h2
        omega
      · omega
  · rw [hB, decide_eq_false_iff_not] at e
    have hh : holdsF k m = true := by
      unfold holdsF
      split
      · simp; omega
      · split
        · simp; omega
        · rfl
    obtain ⟨T1, hT1⟩ : ∃ T1, T1 = decide (m = 1 ∨ m = 2) := ⟨_, rfl⟩
    obtain ⟨R1, hR1⟩ : ∃ R1, R1 = decide (m = 2 ∨ m = 3) := ⟨_, rfl⟩
    refine cut_of ⟨[(2, .int t), (4, .ptr 4 0), (8, .bool T1), (9, .bool R1)], [(3, gridC false g), (4, cfgC false c)], [], []⟩ ?_ ?_
    · repeat' (first
        | (refine grd_dec rfl (fun _ => ?_) fun _ => ?_ <;> simp only [push_cast, reduceIte, Nat.reduceEqDiff, Nat.reduceAdd, Nat.reduceSub, Nat.reduceMul, Nat.reduceBEq, Nat.reduceLT, Nat.reduceLeDiff, reduceCtorEq, Int.reduceToNat, Int.reduceNeg])
        | (refine grd_decf rfl (fun _ => ?_) fun _ => ?_ <;> simp only [push_cast, reduceIte, Nat.reduceEqDiff, Nat.reduceAdd, Nat.reduceSub, Nat.reduceMul, Nat.reduceBEq, Nat.reduceLT, Nat.reduceLeDiff, reduceCtorEq, Int.reduceToNat, Int.reduceNeg]))
      all_goals
        first
          | (rw [show T1 = true from by rw [hT1]; exact decide_eq_true (by omega), show R1 = true from by rw [hR1]; exact decide_eq_true (by omega)]; done)
          | (rw [show T1 = true from by rw [hT1]; exact decide_eq_true (by omega), show R1 = false from by rw [hR1]; exact decide_eq_false (by omega)]; done)
          | (rw [show T1 = true from by rw [hT1]; exact decide_eq_true (by omega), show R1 = decide (m = 3) from by rw [hR1, decide_eq_decide]; omega]; done)
          | (rw [show T1 = false from by rw [hT1]; exact decide_eq_false (by omega), show R1 = true from by rw [hR1]; exact decide_eq_true (by omega)]; done)
          | (rw [show T1 = false from by rw [hT1]; exact decide_eq_false (by omega), show R1 = false from by rw [hR1]; exact decide_eq_false (by omega)]; done)
          | (rw [show T1 = false from by rw [hT1]; exact decide_eq_false (by omega), show R1 = decide (m = 3) from by rw [hR1, decide_eq_decide]; omega]; done)
          | (rw [show T1 = decide (m = 2) from by rw [hT1, decide_eq_decide]; omega, show R1 = true from by rw [hR1]; exact decide_eq_true (by omega)]; done)
          | (rw [show T1 = decide (m = 2) from by rw [hT1, decide_eq_decide]; omega, show R1 = false from by rw [hR1]; exact decide_eq_false (by omega)]; done)
          | (rw [show T1 = decide (m = 2) from by rw [hT1, decide_eq_decide]; omega, show R1 = decide (m = 3) from by rw [hR1, decide_eq_decide]; omega]; done)
    have hT : TileOk k m a r ↔ 0 ≤ a ∧ a ≤ 65535 ∧ (T1 = true ∨ a = 0) ∧ 0 ≤ r ∧ r ≤ 255 ∧ (R1 = true ∨ r = 0) := by
      rw [hT1, hR1, decide_eq_true_eq, decide_eq_true_eq, TileOk]
      constructor
      · rintro ⟨_, _, q1, q2⟩
        split at q1 <;> split at q2 <;> omega
      · intro q
        refine ⟨by omega, hh, ?_, ?_⟩
        · split <;> omega
        · split <;> omega
    clear hT1 hR1 e hh hB
    cases T1 <;> cases R1 <;> simp only [Bool.false_eq_true, eq_self, false_or, true_or, true_and, and_true] at hT <;> simp only [push_cast, reduceIte, Nat.reduceEqDiff, Nat.reduceAdd, Nat.reduceSub, Nat.reduceMul, Nat.reduceBEq, Nat.reduceLT, Nat.reduceLeDiff, reduceCtorEq, Int.reduceToNat, Int.reduceNeg]
    all_goals repeat' (first
      | (refine grd_dec rfl (fun _ => ?_) fun _ => ?_ <;> simp only [ha, hr, push_cast, reduceIte, Nat.reduceEqDiff, Nat.reduceAdd, Nat.reduceSub, Nat.reduceMul, Nat.reduceBEq, Nat.reduceLT, Nat.reduceLeDiff, reduceCtorEq, Int.reduceToNat, Int.reduceNeg])
      | (refine grd_decf rfl (fun _ => ?_) fun _ => ?_ <;> simp only [ha, hr, push_cast, reduceIte, Nat.reduceEqDiff, Nat.reduceAdd, Nat.reduceSub, Nat.reduceMul, Nat.reduceBEq, Nat.reduceLT, Nat.reduceLeDiff, reduceCtorEq, Int.reduceToNat, Int.reduceNeg])
      | (refine And.intro (by omega) ?_))
    all_goals
      first
        | (rw [decide_eq_false fun h => by have := hT.1 h; omega]; done)
        | (rw [decide_eq_true (hT.2 (by omega))]; done)
        | (rw [show decide (TileOk k m a r) = decide (r = 0) from by rw [decide_eq_decide, hT]; omega]; done)
        | (rw [show decide (TileOk k m a r) = decide (r ≤ 255) from by rw [decide_eq_decide, hT]; omega]; done)
def ValidF (g : Grid) (c : Cfg) : Prop := (c.sel.length = (countF g).toNat ∧ c.mode.length = g.kind.length ∧ c.tab.length = g.kind.length ∧ c.ram.length = g.kind.length) ∧
  (∀ i, i < c.sel.length → c.sel.getD i 0 ≠ 0 → 1 ≤ c.sel.getD i 0 ∧ c.sel.getD i 0 ≤ (driversF g i).length) ∧ ∀ t, t < g.kind.length → TileOk (g.kind.getD t 0) (c.mode.getD t 0) (c.tab.getD t 0) (c.ram.getD t 0)
open Classical in
noncomputable def validE (g : Grid) (c : Cfg) : Int := if ValidF g c then 0 else 310
end Go.Proofs.Ytledbjkolidhkab
namespace Go.Proofs.Ytledbjkolidhkab
open Go Go.Vc Txt
theorem not_dec {p : Prop} [Decidable p] (h : (!decide p) = true) : ¬ p := by simpa using h
theorem not_dec' {p : Prop} [Decidable p] (h : (!decide p) = false) : p := by simpa using h
def LensOk (g : Grid) (c : Cfg) : Prop := c.sel.length = (countF g).toNat ∧ c.mode.length = g.kind.length ∧ c.tab.length = g.kind.length ∧ c.ram.length = g.kind.length
instance (g : Grid) (c : Cfg) : Decidable (LensOk g c) := by unfold LensOk; infer_instance
def SelAt (g : Grid) (c : Cfg) (i : Nat) : Prop := c.sel.getD i 0 ≠ 0 → 1 ≤ c.sel.getD i 0 ∧ c.sel.getD i 0 ≤ (driversF g i).length
def TileAt (g : Grid) (c : Cfg) (t : Nat) : Prop := TileOk (g.kind.getD t 0) (c.mode.getD t 0) (c.tab.getD t 0) (c.ram.getD t 0)
instance (g : Grid) (c : Cfg) (i : Nat) : Decidable (SelAt g c i) := by unfold SelAt; infer_instance
instance (g : Grid) (c : Cfg) (t : Nat) : Decidable (TileAt g c t) := by unfold TileAt; infer_instance
theorem validE_yes {g : Grid} {c : Cfg} (h1 : LensOk g c) (h2 : ∀ i, i < c.sel.length → SelAt g c i) (h3 : ∀ t, t < g.kind.length → TileAt g c t) : validE g c = 0 := if_pos ⟨h1, h2, h3⟩
theorem validE_len {g : Grid} {c : Cfg} (h : ¬ LensOk g c) : validE g c = 310 := if_neg fun e => h e.1
theorem validE_sel {g : Grid} {c : Cfg} {i : Nat} (hi : i < c.sel.length) (h : ¬ SelAt g c i) : validE g c = 310 := if_neg fun e => h (e.2.1 i hi)
theorem validE_tile {g : Grid} {c : Cfg} {t : Nat} (ht : t < g.kind.length) (h : ¬ TileAt g c t) : validE g c = 310 := if_neg fun e => h (e.2.2 t ht)
set_option maxHeartbeats 4000000 in
theorem valid_ok (g : Grid) (hg : GOk g) (c : Cfg) (hs : CfgSm c) : FnEq Try.prog 14 [.agg (gridC false g), .agg (cfgC false c)] (.int (validE g c)) := by
  have hc := hg.count
  have hk := hg.kind
  have hw := hg.wh
  have s1 := hs.sel
  have s2 := hs.mode
  have s3 := hs.tab
  have s4 := hs.ram
  refine FnEq.of_awp Try.func14 ok14 (by show 2 ≤ _; decide) (by simp only [push_cast, reduceIte, Nat.reduceEqDiff, Nat.reduceAdd, Nat.reduceSub, Nat.reduceMul, Nat.reduceBEq, Nat.reduceLT, Nat.reduceLeDiff, reduceCtorEq, Int.reduceToNat, Int.reduceNeg] <;> first | exact fun _ _ => trivial | simp) ?_
  simp only [ac14, rv14, push_cast, reduceIte, Nat.reduceEqDiff, Nat.reduceAdd, Nat.reduceSub, Nat.reduceMul, Nat.reduceBEq, Nat.reduceLT, Nat.reduceLeDiff, reduceCtorEq, Int.reduceToNat, Int.reduceNeg]
  refine dcal_sub (ccount_ok g hg) (by simp only [push_cast, reduceIte, Nat.reduceEqDiff, Nat.reduceAdd, Nat.reduceSub, Nat.reduceMul, Nat.reduceBEq, Nat.reduceLT, Nat.reduceLeDiff, reduceCtorEq, Int.reduceToNat, Int.reduceNeg]) rfl ?_
  simp only [push_cast, reduceIte, Nat.reduceEqDiff, Nat.reduceAdd, Nat.reduceSub, Nat.reduceMul, Nat.reduceBEq, Nat.reduceLT, Nat.reduceLeDiff, reduceCtorEq, Int.reduceToNat, Int.reduceNeg]
  obtain ⟨B, hB⟩ : ∃ B, B = decide (¬ LensOk g c) := ⟨_, rfl⟩
  refine dcut_of ⟨[(2, .ptr 2 0), (3, .ptr 3 0), (39, .bool B)], [(2, gridC false g), (3, cfgC false c)], [], []⟩ ?_ ?_
  · unfold LensOk at hB
    repeat' (first
      | (refine dgrd_decf rfl (fun _ => ?_) fun _ => ?_ <;> simp only [push_cast, reduceIte, Nat.reduceEqDiff, Nat.reduceAdd, Nat.reduceSub, Nat.reduceMul, Nat.reduceBEq, Nat.reduceLT, Nat.reduceLeDiff, reduceCtorEq, Int.reduceToNat, Int.reduceNeg])
      | (refine dgrd_dec rfl (fun _ => ?_) fun _ => ?_ <;> simp only [push_cast, reduceIte, Nat.reduceEqDiff, Nat.reduceAdd, Nat.reduceSub, Nat.reduceMul, Nat.reduceBEq, Nat.reduceLT, Nat.reduceLeDiff, reduceCtorEq, Int.reduceToNat, Int.reduceNeg]))
    all_goals first
      | (rw [show B = true from by rw [hB]; exact decide_eq_true (by omega)]; done)
      | (rw [show B = decide ((c.ram.length : Int) ≠ g.kind.length) from by rw [hB, decide_eq_decide]; omega]; done)
  simp only [push_cast, reduceIte, Nat.reduceEqDiff, Nat.reduceAdd, Nat.reduceSub, Nat.reduceMul, Nat.reduceBEq, Nat.reduceLT, Nat.reduceLeDiff, reduceCtorEq, Int.reduceToNat, Int.reduceNeg]
  refine cond_of (fun e => ?_) fun e => ?_
  · rw [hB, decide_eq_true_eq] at e
    rw [validE_len e]
  rw [hB, decide_eq_false_iff_not, Classical.not_not] at e
  have el := e
  obtain ⟨q1, q2, q3, q4⟩ := e
  refine loop_of (fun m st => ∃ k : Nat, k ≤ c.sel.length ∧ m = c.sel.length - k ∧ (∀ i, i < k → SelAt g c i) ∧ st = ⟨[(2, .ptr 2 0), (3, .ptr 3 0), (41, .sl false 1 (ints c.sel)), (42, .int c.sel.length), (43, .int k)], [(2, gridC false g), (3, cfgC false c)], [], []⟩) c.sel.length ?_ ?_
  · refine ⟨0, by omega, by omega, fun i hi => by omega, ?_⟩
    simp only [push_cast, reduceIte, Nat.reduceEqDiff, Nat.reduceAdd, Nat.reduceSub, Nat.reduceMul, Nat.reduceBEq, Nat.reduceLT, Nat.reduceLeDiff, reduceCtorEq, Int.reduceToNat, Int.reduceNeg]
  rintro m st ⟨k, hk, rfl, hP, rfl⟩
  simp only [push_cast, reduceIte, Nat.reduceEqDiff, Nat.reduceAdd, Nat.reduceSub, Nat.reduceMul, Nat.reduceBEq, Nat.reduceLT, Nat.reduceLeDiff, reduceCtorEq, Int.reduceToNat, Int.reduceNeg]
  refine cond_dec (fun h => ⟨by omega, by omega, ?_⟩) fun h => ?_
  · have next : SelAt g c k → ∀ i, i < k + 1 → SelAt g c i := fun hs i hi => by
      by_cases e : i = k
      · rw [e]; exact hs
      · exact hP i (by omega)
    have hdl := driversF_len g hg k
    refine grd_dec rfl (fun h2 => ?_) fun h2 => ?_ <;> simp only [push_cast, reduceIte, Nat.reduceEqDiff, Nat.reduceAdd, Nat.reduceSub, Nat.reduceMul, Nat.reduceBEq, Nat.reduceLT, Nat.reduceLeDiff, reduceCtorEq, Int.reduceToNat, Int.reduceNeg]
    · refine cal_sub (drivers_ok g hg k (by omega)) (by simp only [push_cast, reduceIte, Nat.reduceEqDiff, Nat.reduceAdd, Nat.reduceSub, Nat.reduceMul, Nat.reduceBEq, Nat.reduceLT, Nat.reduceLeDiff, reduceCtorEq, Int.reduceToNat, Int.reduceNeg]) ?_
      simp only [push_cast, reduceIte, Nat.reduceEqDiff, Nat.reduceAdd, Nat.reduceSub, Nat.reduceMul, Nat.reduceBEq, Nat.reduceLT, Nat.reduceLeDiff, reduceCtorEq, Int.reduceToNat, Int.reduceNeg]
      refine cal_eq (within_ok _ _ _) ?_
      simp only [push_cast, reduceIte, Nat.reduceEqDiff, Nat.reduceAdd, Nat.reduceSub, Nat.reduceMul, Nat.reduceBEq, Nat.reduceLT, Nat.reduceLeDiff, reduceCtorEq, Int.reduceToNat, Int.reduceNeg]
      refine cond_of (fun h3 => ?_) fun h3 => ?_
      · have h3 : ¬ (1 ≤ c.sel.getD k 0 ∧ c.sel.getD k 0 ≤ (driversF g k).length) := not_dec h3
        rw [validE_sel (i := k) (by omega) (fun hs => h3 (hs h2))]
      · have h3 : 1 ≤ c.sel.getD k 0 ∧ c.sel.getD k 0 ≤ (driversF g k).length := not_dec' h3
        refine ⟨by omega, _, ?_, k + 1, by omega, rfl, next (fun _ => h3), ?_⟩
        · omega
        · simp only [push_cast, reduceIte, Nat.reduceEqDiff, Nat.reduceAdd, Nat.reduceSub, Nat.reduceMul, Nat.reduceBEq, Nat.reduceLT, Nat.reduceLeDiff, reduceCtorEq, Int.reduceToNat, Int.reduceNeg]
    · refine ⟨by omega, _, ?_, k + 1, by omega, rfl, next (fun h3 => absurd h3 h2), ?_⟩
      · omega
      · simp only [push_cast, reduceIte, Nat.reduceEqDiff, Nat.reduceAdd, Nat.reduceSub, Nat.reduceMul, Nat.reduceBEq, Nat.reduceLT, Nat.reduceLeDiff, reduceCtorEq, Int.reduceToNat, Int.reduceNeg]
  have hsel : ∀ i, i < c.sel.length → SelAt g c i := fun i hi => hP i (by omega)
  refine loop_of (fun m st => ∃ k : Nat, k ≤ g.kind.length ∧ m = g.kind.length - k ∧ (∀ i, i < k → TileAt g c i) ∧ st = ⟨[(3, .ptr 3 0), (61, .sl false 1 (ints g.kind)), (62, .int g.kind.length), (63, .int k)], [(3, cfgC false c)], [], []⟩) g.kind.length ?_ ?_
  · refine ⟨0, by omega, by omega, fun i hi => by omega, ?_⟩
    simp only [push_cast, reduceIte, Nat.reduceEqDiff, Nat.reduceAdd, Nat.reduceSub, Nat.reduceMul, Nat.reduceBEq, Nat.reduceLT, Nat.reduceLeDiff, reduceCtorEq, Int.reduceToNat, Int.reduceNeg]
  rintro m st ⟨k, hk, rfl, hP, rfl⟩
  simp only [push_cast, reduceIte, Nat.reduceEqDiff, Nat.reduceAdd, Nat.reduceSub, Nat.reduceMul, Nat.reduceBEq, Nat.reduceLT, Nat.reduceLeDiff, reduceCtorEq, Int.reduceToNat, Int.reduceNeg]
  refine cond_dec (fun h => ⟨by omega, by omega, ?_⟩) fun h => ?_
  · refine ⟨by omega, by omega, by omega, by omega, by omega, by omega, ?_⟩
    refine cal_eq (vtile_ok _ _ _ _) ?_
    simp only [push_cast, reduceIte, Nat.reduceEqDiff, Nat.reduceAdd, Nat.reduceSub, Nat.reduceMul, Nat.reduceBEq, Nat.reduceLT, Nat.reduceLeDiff, reduceCtorEq, Int.reduceToNat, Int.reduceNeg]
    refine cond_of (fun h3 => ?_) fun h3 => ?_
    · have h3 : ¬ TileAt g c k := not_dec h3
      rw [validE_tile (t := k) (by omega) h3]
    · have h3 : TileAt g c k := not_dec' h3
      refine ⟨by omega, _, ?_, k + 1, by omega, rfl, ?_, ?_⟩
      · omega
      · intro i hi
        by_cases e : i = k
        · rw [e]; exact h3
        · exact hP i (by omega)
      · simp only [push_cast, reduceIte, Nat.reduceEqDiff, Nat.reduceAdd, Nat.reduceSub, Nat.reduceMul, Nat.reduceBEq, Nat.reduceLT, Nat.reduceLeDiff, reduceCtorEq, Int.reduceToNat, Int.reduceNeg]
  · rw [validE_yes el hsel fun t ht => hP t (by omega)]
end Go.Proofs.Ytledbjkolidhkab
namespace Go.Proofs.Ytledbjkolidhkab
open Go Go.Vc Txt
set_option maxHeartbeats 4000000 in
theorem rvalid_ok (g : Grid) (hg : GOk g) (c : Cfg) (hs : CfgSm c) : FnEq Try.prog 13 [.agg (gridC false g), .agg (cfgC false c)] (.int (validE g c)) := by
  have hc := hg.count
  have hk := hg.kind
  have hw := hg.wh
  have s1 := hs.sel
  have s2 := hs.mode
  have s3 := hs.tab
  have s4 := hs.ram
  refine FnEq.of_awp Try.func13 ok13 (by show 2 ≤ _; decide) (by simp only [push_cast, reduceIte, Nat.reduceEqDiff, Nat.reduceAdd, Nat.reduceSub, Nat.reduceMul, Nat.reduceBEq, Nat.reduceLT, Nat.reduceLeDiff, reduceCtorEq, Int.reduceToNat, Int.reduceNeg] <;> first | exact fun _ _ => trivial | simp) ?_
  simp only [ac13, rv13, push_cast, reduceIte, Nat.reduceEqDiff, Nat.reduceAdd, Nat.reduceSub, Nat.reduceMul, Nat.reduceBEq, Nat.reduceLT, Nat.reduceLeDiff, reduceCtorEq, Int.reduceToNat, Int.reduceNeg]
  refine ⟨by omega, ?_⟩
  rw [show g.w * g.h = (g.kind.length : Int) by omega]
  refine dcal_sub (rcount_ok g hg) (by simp only [push_cast, reduceIte, Nat.reduceEqDiff, Nat.reduceAdd, Nat.reduceSub, Nat.reduceMul, Nat.reduceBEq, Nat.reduceLT, Nat.reduceLeDiff, reduceCtorEq, Int.reduceToNat, Int.reduceNeg]) rfl ?_
  simp only [push_cast, reduceIte, Nat.reduceEqDiff, Nat.reduceAdd, Nat.reduceSub, Nat.reduceMul, Nat.reduceBEq, Nat.reduceLT, Nat.reduceLeDiff, reduceCtorEq, Int.reduceToNat, Int.reduceNeg]
  obtain ⟨B, hB⟩ : ∃ B, B = decide (¬ LensOk g c) := ⟨_, rfl⟩
  refine dcut_of ⟨[(2, .ptr 2 0), (3, .ptr 3 0), (5, .int g.kind.length), (39, .bool B)], [(2, gridC false g), (3, cfgC false c)], [], []⟩ ?_ ?_
  · unfold LensOk at hB
    repeat' (first
      | (refine dgrd_decf rfl (fun _ => ?_) fun _ => ?_ <;> simp only [push_cast, reduceIte, Nat.reduceEqDiff, Nat.reduceAdd, Nat.reduceSub, Nat.reduceMul, Nat.reduceBEq, Nat.reduceLT, Nat.reduceLeDiff, reduceCtorEq, Int.reduceToNat, Int.reduceNeg])
      | (refine dgrd_dec rfl (fun _ => ?_) fun _ => ?_ <;> simp only [push_cast, reduceIte, Nat.reduceEqDiff, Nat.reduceAdd, Nat.reduceSub, Nat.reduceMul, Nat.reduceBEq, Nat.reduceLT, Nat.reduceLeDiff, reduceCtorEq, Int.reduceToNat, Int.reduceNeg]))
    all_goals first
      | (rw [show B = true from by rw [hB]; exact decide_eq_true (by omega)]; done)
      | (rw [show B = decide ((c.ram.length : Int) ≠ g.kind.length) from by rw [hB, decide_eq_decide]; omega]; done)
  simp only [push_cast, reduceIte, Nat.reduceEqDiff, Nat.reduceAdd, Nat.reduceSub, Nat.reduceMul, Nat.reduceBEq, Nat.reduceLT, Nat.reduceLeDiff, reduceCtorEq, Int.reduceToNat, Int.reduceNeg]
  refine cond_of (fun e => ?_) fun e => ?_
  · rw [hB, decide_eq_true_eq] at e
    rw [validE_len e]
  rw [hB, decide_eq_false_iff_not, Classical.not_not] at e
  have el := e
  obtain ⟨q1, q2, q3, q4⟩ := e
  refine loop_of (fun m st => ∃ k : Nat, k ≤ c.sel.length ∧ m = c.sel.length - k ∧ (∀ i, i < k → SelAt g c i) ∧ st = ⟨[(2, .ptr 2 0), (3, .ptr 3 0), (5, .int g.kind.length), (6, .int k)], [(2, gridC false g), (3, cfgC false c)], [], []⟩) c.sel.length ?_ ?_
  · refine ⟨0, by omega, by omega, fun i hi => by omega, ?_⟩
    simp only [push_cast, reduceIte, Nat.reduceEqDiff, Nat.reduceAdd, Nat.reduceSub, Nat.reduceMul, Nat.reduceBEq, Nat.reduceLT, Nat.reduceLeDiff, reduceCtorEq, Int.reduceToNat, Int.reduceNeg]
  rintro m st ⟨k, hk, rfl, hP, rfl⟩
  simp only [push_cast, reduceIte, Nat.reduceEqDiff, Nat.reduceAdd, Nat.reduceSub, Nat.reduceMul, Nat.reduceBEq, Nat.reduceLT, Nat.reduceLeDiff, reduceCtorEq, Int.reduceToNat, Int.reduceNeg]
  refine cond_dec (fun h => ⟨by omega, by omega, ?_⟩) fun h => ?_
  · have next : SelAt g c k → ∀ i, i < k + 1 → SelAt g c i := fun hs i hi => by
      by_cases e : i = k
      · rw [e]; exact hs
      · exact hP i (by omega)
    have hdl := driversF_len g hg k
    have hdef : c.sel.getD k default = c.sel.getD k 0 := rfl
    rw [hdef]
    generalize hx : c.sel.getD k 0 = x
    obtain ⟨D, hD⟩ : ∃ D, D = decide (¬ SelAt g c k) := ⟨_, rfl⟩
    have hSA : SelAt g c k ↔ (x ≠ 0 → 1 ≤ x ∧ x ≤ (driversF g k).length) := by rw [SelAt, hx]
    refine dcut_of ⟨[(2, .ptr 2 0), (3, .ptr 3 0), (5, .int g.kind.length), (6, .int k), (71, .bool D)], [(2, gridC false g), (3, cfgC false c)], [], []⟩ ?_ ?_
    · refine dgrd_dec rfl (fun _ => ?_) fun _ => ?_ <;> simp only [hdef, hx, push_cast, reduceIte, Nat.reduceEqDiff, Nat.reduceAdd, Nat.reduceSub, Nat.reduceMul, Nat.reduceBEq, Nat.reduceLT, Nat.reduceLeDiff, reduceCtorEq, Int.reduceToNat, Int.reduceNeg]
      · refine ⟨by omega, by omega, ?_⟩
        refine dgrd_decf rfl (fun _ => ?_) fun _ => ?_ <;> simp only [hdef, hx, push_cast, reduceIte, Nat.reduceEqDiff, Nat.reduceAdd, Nat.reduceSub, Nat.reduceMul, Nat.reduceBEq, Nat.reduceLT, Nat.reduceLeDiff, reduceCtorEq, Int.reduceToNat, Int.reduceNeg]
        · rw [show D = true from by rw [hD]; exact decide_eq_true (by rw [hSA]; omega)]
        · refine ⟨by omega, by omega, ?_⟩
          refine dcal_eq (rdrv_ok g hg k (by omega)) (u := []) rfl ?_
          simp only [hdef, hx, push_cast, reduceIte, Nat.reduceEqDiff, Nat.reduceAdd, Nat.reduceSub, Nat.reduceMul, Nat.reduceBEq, Nat.reduceLT, Nat.reduceLeDiff, reduceCtorEq, Int.reduceToNat, Int.reduceNeg]
          rw [show D = decide (((driversF g k).length : Int) < x) from by rw [hD, decide_eq_decide, hSA]; omega]
      · rw [show D = false from by rw [hD]; exact decide_eq_false (by rw [hSA]; omega)]
    simp only [push_cast, reduceIte, Nat.reduceEqDiff, Nat.reduceAdd, Nat.reduceSub, Nat.reduceMul, Nat.reduceBEq, Nat.reduceLT, Nat.reduceLeDiff, reduceCtorEq, Int.reduceToNat, Int.reduceNeg]
    refine cond_of (fun h3 => ?_) fun h3 => ?_
    · rw [hD, decide_eq_true_eq] at h3
      rw [validE_sel (i := k) (by omega) h3]
    · rw [hD, decide_eq_false_iff_not, Classical.not_not] at h3
      refine ⟨by omega, _, ?_, k + 1, by omega, rfl, next h3, ?_⟩
      · omega
      · simp only [push_cast, reduceIte, Nat.reduceEqDiff, Nat.reduceAdd, Nat.reduceSub, Nat.reduceMul, Nat.reduceBEq, Nat.reduceLT, Nat.reduceLeDiff, reduceCtorEq, Int.reduceToNat, Int.reduceNeg]
  have hsel : ∀ i, i < c.sel.length → SelAt g c i := fun i hi => hP i (by omega)
  refine loop_of (fun m st => ∃ k : Nat, k ≤ g.kind.length ∧ m = g.kind.length - k ∧ (∀ i, i < k → TileAt g c i) ∧ st = ⟨[(2, .ptr 2 0), (3, .ptr 3 0), (5, .int g.kind.length), (7, .int k)], [(2, gridC false g), (3, cfgC false c)], [], []⟩) g.kind.length ?_ ?_
  · refine ⟨0, by omega, by omega, fun i hi => by omega, ?_⟩
    simp only [push_cast, reduceIte, Nat.reduceEqDiff, Nat.reduceAdd, Nat.reduceSub, Nat.reduceMul, Nat.reduceBEq, Nat.reduceLT, Nat.reduceLeDiff, reduceCtorEq, Int.reduceToNat, Int.reduceNeg]
  rintro m st ⟨k, hk, rfl, hP, rfl⟩
  simp only [push_cast, reduceIte, Nat.reduceEqDiff, Nat.reduceAdd, Nat.reduceSub, Nat.reduceMul, Nat.reduceBEq, Nat.reduceLT, Nat.reduceLeDiff, reduceCtorEq, Int.reduceToNat, Int.reduceNeg]
  refine cond_dec (fun h => ?_) fun h => ?_
  · refine cal_sub (rtile_ok g c k (by omega) (by omega) (by omega) (by omega)) (by simp only [push_cast, reduceIte, Nat.reduceEqDiff, Nat.reduceAdd, Nat.reduceSub, Nat.reduceMul, Nat.reduceBEq, Nat.reduceLT, Nat.reduceLeDiff, reduceCtorEq, Int.reduceToNat, Int.reduceNeg]) ?_
    simp only [push_cast, reduceIte, Nat.reduceEqDiff, Nat.reduceAdd, Nat.reduceSub, Nat.reduceMul, Nat.reduceBEq, Nat.reduceLT, Nat.reduceLeDiff, reduceCtorEq, Int.reduceToNat, Int.reduceNeg]
    refine cond_of (fun h3 => ?_) fun h3 => ?_
    · have h3 : ¬ TileAt g c k := not_dec h3
      rw [validE_tile (t := k) (by omega) h3]
    · have h3 : TileAt g c k := not_dec' h3
      refine ⟨by omega, _, ?_, k + 1, by omega, rfl, ?_, ?_⟩
      · omega
      · intro i hi
        by_cases e : i = k
        · rw [e]; exact h3
        · exact hP i (by omega)
      · simp only [push_cast, reduceIte, Nat.reduceEqDiff, Nat.reduceAdd, Nat.reduceSub, Nat.reduceMul, Nat.reduceBEq, Nat.reduceLT, Nat.reduceLeDiff, reduceCtorEq, Int.reduceToNat, Int.reduceNeg]
  · rw [validE_yes el hsel fun t ht => hP t (by omega)]
end Go.Proofs.Ytledbjkolidhkab
