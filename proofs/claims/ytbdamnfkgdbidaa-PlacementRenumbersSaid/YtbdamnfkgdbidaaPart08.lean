/- Txt: lemmas for PRenumbers -/
import Derived.Test.YtbdamnfkgdbidaaPart05
import Derived.Test.YtbdamnfkgdbidaaChecked
set_option linter.unusedSimpArgs false
set_option linter.unusedVariables false
namespace Go.Proofs.Ytbdamnfkgdbidaa.Txt
open Go Go.Vc
set_option maxRecDepth 100000
def ac8 : AC :=
 (.seq (.reg [0, 92, 0, 1, 2] [
 ⟨some 3, none, .box (.t 0)⟩, ⟨some 4, none, .box (.t 1)⟩, ⟨some 5, none, .box (.t 2)⟩, ⟨some 6, none, .mv (.c (.sc (.bool false)))⟩])
 (.seq (.reg [0, 92, 3, 4, 5] [
 ⟨some 14, none, .cal 9 []⟩, ⟨some 7, none, .mv (.t 14)⟩])
 (.seq (.seq (.reg [0, 92, 3, 4, 5, 7] [
 ⟨some 15, none, .mv (.t 7)⟩, ⟨some 16, none, .not (.t 15)⟩, ⟨some 17, none, .mv (.t 16)⟩, ⟨some 18, some (17, false), .ld true 3 (.t 3)⟩, ⟨some 19, some (17, false), .ld true 5 (.t 4)⟩, ⟨some 20, some (17, false), .ld true 8 (.t 5)⟩, ⟨some 21, some (17, false), .cal 10 [(.t 18), (.t 19), (.t 20)]⟩, ⟨some 22, some (17, false), .not (.t 21)⟩, ⟨some 23, none, .pick (.t 17) (.c (.sc (.bool true))) (.t 22)⟩])
 (.cut [0, 92, 3, 4, 5, 7, 23] (.cond (.t 23)
 (.seq (.reg [0, 92, 7] [
 ⟨some 24, none, .mv (.t 7)⟩, ⟨some 6, none, .mv (.t 24)⟩])
 .ret)
 .skip)))
 (.seq (.reg [0, 92, 3, 4, 5, 7] [
 ⟨some 25, none, .ld true 3 (.t 3)⟩, ⟨some 26, none, .ld true 5 (.t 4)⟩, ⟨some 27, none, .ld true 8 (.t 5)⟩, ⟨some 28, none, .cal 11 [(.t 25), (.t 26), (.t 27)]⟩, ⟨some 8, none, .alc [.nil, .nil, .nil, .nil, .sc (.int .i64 0), .sc (.int .i64 0), .sc (.int .i64 0), .sc (.int .i64 0), .nil, .nil, .nil]⟩, ⟨none, none, .sto 11 (.t 8) (.t 28)⟩])
 (.seq (.reg [0, 92, 5, 7, 8] [
 ⟨some 29, none, .ld true 11 (.t 8)⟩, ⟨some 30, none, .fa 1 (.t 5)⟩, ⟨some 31, none, .ld false 1 (.t 30)⟩, ⟨some 32, none, .cal 14 [(.t 29), (.t 31)]⟩, ⟨some 9, none, .mv (.t 32)⟩])
 (.seq (.reg [0, 92, 5, 7, 8, 9] [
 ⟨some 33, none, .mv (.t 9)⟩, ⟨some 34, none, .len (.t 33)⟩, ⟨some 35, none, .fa 2 (.t 5)⟩, ⟨some 36, none, .ld false 1 (.t 35)⟩, ⟨some 37, none, .cal 32 [(.t 34), (.t 36)]⟩, ⟨some 10, none, .mv (.t 37)⟩])
 (.seq (.reg [0, 92, 7, 8, 9, 10] [
 ⟨some 38, none, .ld true 11 (.t 8)⟩, ⟨some 11, none, .alc [.nil, .nil, .nil, .nil, .sc (.int .i64 0), .sc (.int .i64 0), .sc (.int .i64 0), .sc (.int .i64 0), .nil, .nil, .nil]⟩, ⟨none, none, .sto 11 (.t 11) (.t 38)⟩])
 (.seq (.reg [0, 92, 7, 8, 9, 10, 11] [
 ⟨some 39, none, .fa 0 (.t 8)⟩, ⟨some 40, none, .ld true 4 (.t 39)⟩, ⟨some 41, none, .mv (.t 10)⟩, ⟨some 42, none, .cal 33 [(.t 40), (.t 41)]⟩, ⟨some 43, none, .fa 0 (.t 11)⟩, ⟨none, none, .sto 4 (.t 43) (.t 42)⟩])
 (.seq (.reg [0, 92, 7, 8, 9, 10, 11] [
 ⟨some 44, none, .mv (.t 9)⟩, ⟨some 45, none, .len (.t 44)⟩, ⟨some 46, none, .mks 1 3 8 [.sc (.int .i64 0)] (.t 45) (.t 45)⟩, ⟨some 12, none, .mv (.t 46)⟩])
 (.seq (.seq (.reg [0, 92, 7, 8, 9, 10, 11, 12] [
 ⟨some 13, none, .mv (.c (.sc (.int .i64 0)))⟩])
 (.block 0
 (.loop [0, 92, 7, 8, 9, 10, 11, 12, 13]
 (.seq (.seq (.reg [0, 92, 7, 8, 9, 10, 11, 12, 13] [
 ⟨some 47, none, .mv (.t 13)⟩, ⟨some 48, none, .mv (.t 9)⟩, ⟨some 49, none, .len (.t 48)⟩, ⟨some 50, none, .cmp .lss .i64 (.t 47) (.t 49)⟩])
 (.cond (.t 50)
 .skip
 (.exit 0)))
 (.seq (.block 1
 (.drw [0, 92, 7, 8, 9, 10, 11, 12, 13] [
 ⟨⟨some 53, none, .mv (.t 12)⟩, [], [], true⟩, ⟨⟨some 54, none, .mv (.t 10)⟩, [], [], true⟩, ⟨⟨some 55, none, .mv (.t 13)⟩, [], [], true⟩, ⟨⟨some 56, none, .ixs 1 (.t 54) (.t 55)⟩, [], [], true⟩, ⟨⟨some 57, none, .ld false 1 (.t 56)⟩, [], [], true⟩, ⟨⟨some 58, none, .mv (.t 9)⟩, [], [], true⟩, ⟨⟨some 59, none, .mv (.t 13)⟩, [], [], true⟩, ⟨⟨some 60, none, .ixs 1 (.t 58) (.t 59)⟩, [], [], true⟩, ⟨⟨some 61, none, .ld false 1 (.t 60)⟩, [], [], true⟩, ⟨⟨some 62, none, .ixs 1 (.t 53) (.t 57)⟩, [], [], false⟩, ⟨⟨none, none, .sto 1 (.t 62) (.t 61)⟩, [], [], false⟩]))
 (.reg [0, 92, 7, 8, 9, 10, 11, 12, 13] [
 ⟨some 51, none, .mv (.t 13)⟩, ⟨some 52, none, .ari .add true .i64 (.t 51) (.c (.sc (.int .i64 1)))⟩, ⟨some 13, none, .mv (.t 52)⟩]))))))
 (.seq (.drw [0, 92, 7, 8, 9, 11, 12] [
 ⟨⟨some 63, none, .fa 0 (.t 8)⟩, [], [], false⟩, ⟨⟨some 64, none, .ld true 4 (.t 63)⟩, [], [], false⟩, ⟨⟨some 65, none, .cal 34 [(.t 64)]⟩, [], [], false⟩, ⟨⟨some 66, none, .mv (.t 65)⟩, [], [], false⟩, ⟨⟨some 67, some (66, true), .fa 0 (.t 11)⟩, [], [], false⟩, ⟨⟨some 68, some (66, true), .ld true 4 (.t 67)⟩, [], [], false⟩, ⟨⟨some 69, some (66, true), .cal 34 [(.t 68)]⟩, [], [], false⟩, ⟨⟨some 70, none, .pick (.t 66) (.t 69) (.c (.sc (.bool false)))⟩, [], [], false⟩, ⟨⟨some 71, none, .mv (.t 70)⟩, [], [], false⟩, ⟨⟨some 72, some (71, true), .ld true 11 (.t 8)⟩, [], [], true⟩, ⟨⟨some 73, some (71, true), .mv (.t 9)⟩, [], [], true⟩, ⟨⟨some 74, some (71, true), .cal 15 [(.t 72), (.t 73)]⟩, [], [], true⟩, ⟨⟨some 75, some (71, true), .ld true 11 (.t 11)⟩, [], [], true⟩, ⟨⟨some 76, some (71, true), .mv (.t 12)⟩, [], [], true⟩, ⟨⟨some 77, some (71, true), .cal 15 [(.t 75), (.t 76)]⟩, [], [], false⟩, ⟨⟨some 78, some (71, true), .cmp .eql .i64 (.t 74) (.t 77)⟩, [], [], false⟩, ⟨⟨some 79, none, .pick (.t 71) (.t 78) (.c (.sc (.bool false)))⟩, [], [], false⟩, ⟨⟨some 80, none, .mv (.t 79)⟩, [], [], false⟩, ⟨⟨some 81, some (80, true), .ld true 11 (.t 8)⟩, [], [], true⟩, ⟨⟨some 82, some (80, true), .mv (.t 9)⟩, [], [], true⟩, ⟨⟨some 83, some (80, true), .cal 17 [(.t 81), (.t 82)]⟩, [], [], true⟩, ⟨⟨some 84, some (80, true), .ld true 11 (.t 11)⟩, [], [], true⟩, ⟨⟨some 85, some (80, true), .mv (.t 12)⟩, [], [], true⟩, ⟨⟨some 86, some (80, true), .cal 17 [(.t 84), (.t 85)]⟩, [], [], false⟩, ⟨⟨some 87, some (80, true), .eqa false 2 (.t 83) (.t 86)⟩, [], [], false⟩, ⟨⟨some 88, none, .pick (.t 80) (.t 87) (.c (.sc (.bool false)))⟩, [], [], false⟩, ⟨⟨some 89, none, .mv (.t 88)⟩, [], [], false⟩, ⟨⟨some 90, some (89, true), .mv (.t 7)⟩, [], [], false⟩, ⟨⟨some 91, none, .pick (.t 89) (.t 90) (.c (.sc (.bool false)))⟩, [], [], false⟩, ⟨⟨some 6, none, .mv (.t 91)⟩, [], [], false⟩])
 .ret)))))))))))
def rv8 : List RV := [.tmp 6]
theorem ok8 : fnOk Try.prog ac8 rv8 Try.f8 = true := by kernel_rfl

def ac9 : AC :=
 (.seq (.reg [0, 91] [
 ⟨some 0, none, .mv (.c (.sc (.bool false)))⟩])
 (.seq (.reg [0, 91] [
 ⟨some 4, none, .cal 35 [(.c (.sc (.bool false)))]⟩, ⟨some 1, none, .alc [.nil, .nil, .nil, .nil, .sc (.int .i64 0), .sc (.int .i64 0), .sc (.int .i64 0), .sc (.int .i64 0), .nil, .nil, .nil]⟩, ⟨none, none, .sto 11 (.t 1) (.t 4)⟩])
 (.seq (.reg [0, 91, 1] [
 ⟨some 5, none, .cal 35 [(.c (.sc (.bool true)))]⟩, ⟨some 2, none, .alc [.nil, .nil, .nil, .nil, .sc (.int .i64 0), .sc (.int .i64 0), .sc (.int .i64 0), .sc (.int .i64 0), .nil, .nil, .nil]⟩, ⟨none, none, .sto 11 (.t 2) (.t 5)⟩])
 (.seq (.seq (.reg [0, 91, 1, 2] [
 ⟨some 6, none, .ld true 11 (.t 1)⟩, ⟨some 7, none, .bsl 1 3 [.sc (.int .i64 0)] 1 [(0, (.c (.sc (.int .i64 0))))]⟩, ⟨some 8, none, .cal 17 [(.t 6), (.t 7)]⟩, ⟨some 9, none, .bld [.sc (.int .i64 0), .sc (.int .i64 0)] [(0, 1, (.c (.sc (.int .i64 4))))]⟩, ⟨some 10, none, .eqa true 2 (.t 8) (.t 9)⟩, ⟨some 11, none, .mv (.t 10)⟩, ⟨some 12, some (11, false), .ld true 11 (.t 1)⟩, ⟨some 13, some (11, false), .bsl 1 3 [.sc (.int .i64 0)] 1 [(0, (.c (.sc (.int .i64 2))))]⟩, ⟨some 14, some (11, false), .cal 17 [(.t 12), (.t 13)]⟩, ⟨some 15, some (11, false), .bld [.sc (.int .i64 0), .sc (.int .i64 0)] [(0, 1, (.c (.sc (.int .i64 4))))]⟩, ⟨some 16, some (11, false), .eqa true 2 (.t 14) (.t 15)⟩, ⟨some 17, none, .pick (.t 11) (.c (.sc (.bool true))) (.t 16)⟩, ⟨some 18, none, .mv (.t 17)⟩, ⟨some 19, some (18, false), .ld true 11 (.t 2)⟩, ⟨some 20, some (18, false), .bsl 1 3 [.sc (.int .i64 0)] 2 [(0, (.c (.sc (.int .i64 0)))), (1, (.c (.sc (.int .i64 1))))]⟩, ⟨some 21, some (18, false), .cal 17 [(.t 19), (.t 20)]⟩, ⟨some 22, some (18, false), .bld [.sc (.int .i64 0), .sc (.int .i64 0)] [(0, 1, (.c (.sc (.int .i64 5))))]⟩, ⟨some 23, some (18, false), .eqa true 2 (.t 21) (.t 22)⟩, ⟨some 24, none, .pick (.t 18) (.c (.sc (.bool true))) (.t 23)⟩, ⟨some 25, none, .mv (.t 24)⟩, ⟨some 26, some (25, false), .ld true 11 (.t 2)⟩, ⟨some 27, some (25, false), .bld [.nil, .nil, .sc (.int .i64 0)] []⟩, ⟨some 28, some (25, false), .cal 23 [(.t 26), (.t 27)]⟩, ⟨some 29, some (25, false), .bsl 1 3 [.sc (.int .i64 0)] 2 [(0, (.c (.sc (.int .i64 0)))), (1, (.c (.sc (.int .i64 1))))]⟩, ⟨some 30, some (25, false), .bld [.nil, .sc (.int .i64 0), .sc (.int .i64 0)] [(0, 1, (.t 29))]⟩, ⟨some 31, some (25, false), .cal 19 [(.t 28), (.t 30)]⟩, ⟨some 32, some (25, false), .not (.t 31)⟩, ⟨some 33, none, .pick (.t 25) (.c (.sc (.bool true))) (.t 32)⟩])
 (.cut [0, 91, 2, 33] (.cond (.t 33)
 (.seq (.reg [0, 91] [
 ⟨some 0, none, .mv (.c (.sc (.bool false)))⟩])
 .ret)
 .skip)))
 (.seq (.reg [0, 91, 2] [
 ⟨some 34, none, .bsl 1 3 [.sc (.int .i64 0)] 2 [(0, (.c (.sc (.int .i64 (-1))))), (1, (.c (.sc (.int .i64 2))))]⟩, ⟨some 35, none, .bld [.nil, .nil, .sc (.int .i64 0)] [(1, 1, (.t 34))]⟩, ⟨some 3, none, .alc [.nil, .nil, .sc (.int .i64 0)]⟩, ⟨none, none, .sto 3 (.t 3) (.t 35)⟩])
 (.seq (.seq (.reg [0, 91, 2, 3] [
 ⟨some 36, none, .ld true 11 (.t 2)⟩, ⟨some 37, none, .ld true 3 (.t 3)⟩, ⟨some 38, none, .cal 23 [(.t 36), (.t 37)]⟩, ⟨some 39, none, .bsl 1 3 [.sc (.int .i64 0)] 2 [(0, (.c (.sc (.int .i64 0)))), (1, (.c (.sc (.int .i64 2))))]⟩, ⟨some 40, none, .bld [.nil, .sc (.int .i64 0), .sc (.int .i64 0)] [(0, 1, (.t 39))]⟩, ⟨some 41, none, .cal 19 [(.t 38), (.t 40)]⟩, ⟨some 42, none, .not (.t 41)⟩])
 (.cond (.t 42)
 (.seq (.reg [0, 91] [
 ⟨some 0, none, .mv (.c (.sc (.bool false)))⟩])
 .ret)
 .skip))
 (.seq (.reg [0, 91, 2, 3] [
 ⟨some 43, none, .fa 2 (.t 3)⟩, ⟨none, none, .sto 1 (.t 43) (.c (.sc (.int .i64 1)))⟩])
 (.seq (.reg [0, 91, 2, 3] [
 ⟨some 44, none, .ld true 11 (.t 2)⟩, ⟨some 45, none, .ld true 3 (.t 3)⟩, ⟨some 46, none, .cal 23 [(.t 44), (.t 45)]⟩, ⟨some 47, none, .bsl 1 3 [.sc (.int .i64 0)] 2 [(0, (.c (.sc (.int .i64 1)))), (1, (.c (.sc (.int .i64 2))))]⟩, ⟨some 48, none, .bld [.nil, .sc (.int .i64 0), .sc (.int .i64 0)] [(0, 1, (.t 47))]⟩, ⟨some 49, none, .cal 19 [(.t 46), (.t 48)]⟩, ⟨some 50, none, .mv (.t 49)⟩, ⟨some 51, some (50, true), .ld true 11 (.t 2)⟩, ⟨some 52, some (50, true), .bsl 1 3 [.sc (.int .i64 0)] 2 [(0, (.c (.sc (.int .i64 0)))), (1, (.c (.sc (.int .i64 2))))]⟩, ⟨some 53, some (50, true), .bsl 1 3 [.sc (.int .i64 0)] 1 [(0, (.c (.sc (.int .i64 1))))]⟩, ⟨some 54, some (50, true), .bld [.nil, .nil, .sc (.int .i64 0)] [(0, 1, (.t 52)), (1, 1, (.t 53)), (2, 1, (.c (.sc (.int .i64 9))))]⟩, ⟨some 55, some (50, true), .cal 20 [(.t 51), (.t 54)]⟩, ⟨some 56, some (50, true), .bsl 1 3 [.sc (.int .i64 0)] 2 [(0, (.c (.sc (.int .i64 1)))), (1, (.c (.sc (.int .i64 2))))]⟩, ⟨some 57, some (50, true), .bld [.nil, .sc (.int .i64 0), .sc (.int .i64 0)] [(0, 1, (.t 56)), (1, 1, (.c (.sc (.int .i64 1))))]⟩, ⟨some 58, some (50, true), .cal 19 [(.t 55), (.t 57)]⟩, ⟨some 59, none, .pick (.t 50) (.t 58) (.c (.sc (.bool false)))⟩, ⟨some 60, none, .mv (.t 59)⟩, ⟨some 61, some (60, true), .ld true 11 (.t 2)⟩, ⟨some 62, some (60, true), .bsl 1 3 [.sc (.int .i64 0)] 2 [(0, (.c (.sc (.int .i64 0)))), (1, (.c (.sc (.int .i64 0))))]⟩, ⟨some 63, some (60, true), .cal 15 [(.t 61), (.t 62)]⟩, ⟨some 64, some (60, true), .cmp .eql .i64 (.t 63) (.c (.sc (.int .i64 290)))⟩, ⟨some 65, none, .pick (.t 60) (.t 64) (.c (.sc (.bool false)))⟩, ⟨some 66, none, .mv (.t 65)⟩, ⟨some 67, some (66, true), .ld true 11 (.t 2)⟩, ⟨some 68, some (66, true), .bsl 1 3 [.sc (.int .i64 0)] 2 [(0, (.c (.sc (.int .i64 2)))), (1, (.c (.sc (.int .i64 0))))]⟩, ⟨some 69, some (66, true), .cal 15 [(.t 67), (.t 68)]⟩, ⟨some 70, some (66, true), .cmp .eql .i64 (.t 69) (.c (.sc (.int .i64 0)))⟩, ⟨some 71, none, .pick (.t 66) (.t 70) (.c (.sc (.bool false)))⟩, ⟨some 72, none, .mv (.t 71)⟩, ⟨some 73, some (72, true), .fa 0 (.t 2)⟩, ⟨some 74, some (72, true), .ld true 4 (.t 73)⟩, ⟨some 75, some (72, true), .fa 4 (.t 2)⟩, ⟨some 76, some (72, true), .ld true 5 (.t 75)⟩, ⟨some 77, some (72, true), .fa 9 (.t 2)⟩, ⟨some 78, some (72, true), .ld true 2 (.t 77)⟩, ⟨some 79, some (72, true), .cal 12 [(.t 74), (.t 76), (.t 78), (.c (.sc (.int .i64 1))), (.c (.sc (.int .i64 2)))]⟩, ⟨some 80, none, .pick (.t 72) (.t 79) (.c (.sc (.bool false)))⟩, ⟨some 81, none, .mv (.t 80)⟩, ⟨some 82, some (81, true), .fa 0 (.t 2)⟩, ⟨some 83, some (81, true), .ld true 4 (.t 82)⟩, ⟨some 84, some (81, true), .fa 4 (.t 2)⟩, ⟨some 85, some (81, true), .ld true 5 (.t 84)⟩, ⟨some 86, some (81, true), .bsl 1 3 [.sc (.int .i64 0)] 1 [(0, (.c (.sc (.int .i64 2))))]⟩, ⟨some 87, some (81, true), .bld [.nil, .nil] [(0, 1, (.t 86))]⟩, ⟨some 88, some (81, true), .cal 12 [(.t 83), (.t 85), (.t 87), (.c (.sc (.int .i64 1))), (.c (.sc (.int .i64 2)))]⟩, ⟨some 89, some (81, true), .not (.t 88)⟩, ⟨some 90, none, .pick (.t 81) (.t 89) (.c (.sc (.bool false)))⟩, ⟨some 0, none, .mv (.t 90)⟩])
 .ret))))))))
def rv9 : List RV := [.tmp 0]
theorem ok9 : fnOk Try.prog ac9 rv9 Try.f9 = true := by kernel_rfl

def ac10 : AC :=
 (.seq (.reg [0, 47, 0, 1, 2] [
 ⟨some 3, none, .box (.t 0)⟩, ⟨some 4, none, .box (.t 1)⟩, ⟨some 5, none, .box (.t 2)⟩, ⟨some 6, none, .mv (.c (.sc (.bool false)))⟩])
 (.seq (.reg [0, 47, 3, 4, 5] [
 ⟨some 7, none, .fa 2 (.t 3)⟩, ⟨some 8, none, .ld false 1 (.t 7)⟩, ⟨some 9, none, .len (.t 8)⟩, ⟨some 10, none, .cmp .leq .i64 (.t 9) (.c (.sc (.int .i64 9)))⟩, ⟨some 11, none, .mv (.t 10)⟩, ⟨some 12, some (11, true), .fa 4 (.t 4)⟩, ⟨some 13, some (11, true), .ld false 1 (.t 12)⟩, ⟨some 14, some (11, true), .len (.t 13)⟩, ⟨some 15, some (11, true), .cmp .leq .i64 (.t 14) (.c (.sc (.int .i64 40)))⟩, ⟨some 16, none, .pick (.t 11) (.t 15) (.c (.sc (.bool false)))⟩, ⟨some 17, none, .mv (.t 16)⟩, ⟨some 18, some (17, true), .fa 0 (.t 5)⟩, ⟨some 19, some (17, true), .ld false 1 (.t 18)⟩, ⟨some 20, some (17, true), .len (.t 19)⟩, ⟨some 21, some (17, true), .cmp .leq .i64 (.t 20) (.c (.sc (.int .i64 12)))⟩, ⟨some 22, none, .pick (.t 17) (.t 21) (.c (.sc (.bool false)))⟩, ⟨some 23, none, .mv (.t 22)⟩, ⟨some 24, some (23, true), .fa 1 (.t 5)⟩, ⟨some 25, some (23, true), .ld false 1 (.t 24)⟩, ⟨some 26, some (23, true), .len (.t 25)⟩, ⟨some 27, some (23, true), .cmp .leq .i64 (.t 26) (.c (.sc (.int .i64 40)))⟩, ⟨some 28, none, .pick (.t 23) (.t 27) (.c (.sc (.bool false)))⟩, ⟨some 29, none, .mv (.t 28)⟩, ⟨some 30, some (29, true), .fa 2 (.t 5)⟩, ⟨some 31, some (29, true), .ld false 1 (.t 30)⟩, ⟨some 32, some (29, true), .len (.t 31)⟩, ⟨some 33, some (29, true), .cmp .leq .i64 (.t 32) (.c (.sc (.int .i64 40)))⟩, ⟨some 34, none, .pick (.t 29) (.t 33) (.c (.sc (.bool false)))⟩, ⟨some 35, none, .mv (.t 34)⟩, ⟨some 36, some (35, true), .fa 3 (.t 5)⟩, ⟨some 37, some (35, true), .ld false 1 (.t 36)⟩, ⟨some 38, some (35, true), .len (.t 37)⟩, ⟨some 39, some (35, true), .cmp .leq .i64 (.t 38) (.c (.sc (.int .i64 40)))⟩, ⟨some 40, none, .pick (.t 35) (.t 39) (.c (.sc (.bool false)))⟩, ⟨some 41, none, .mv (.t 40)⟩, ⟨some 42, some (41, true), .fa 4 (.t 5)⟩, ⟨some 43, some (41, true), .ld false 1 (.t 42)⟩, ⟨some 44, some (41, true), .len (.t 43)⟩, ⟨some 45, some (41, true), .cmp .leq .i64 (.t 44) (.c (.sc (.int .i64 40)))⟩, ⟨some 46, none, .pick (.t 41) (.t 45) (.c (.sc (.bool false)))⟩, ⟨some 6, none, .mv (.t 46)⟩])
 .ret))
def rv10 : List RV := [.tmp 6]
theorem ok10 : fnOk Try.prog ac10 rv10 Try.f10 = true := by kernel_rfl

def ac11 : AC :=
 (.seq (.reg [0, 20, 0, 1, 2] [
 ⟨some 3, none, .box (.t 0)⟩, ⟨some 4, none, .box (.t 1)⟩, ⟨some 5, none, .box (.t 2)⟩, ⟨some 6, none, .alc [.nil, .nil, .nil, .nil, .sc (.int .i64 0), .sc (.int .i64 0), .sc (.int .i64 0), .sc (.int .i64 0), .nil, .nil, .nil]⟩])
 (.seq (.drw [0, 20, 3, 4, 5, 6] [
 ⟨⟨some 8, none, .ld true 3 (.t 3)⟩, [], [7], true⟩, ⟨⟨some 9, none, .cal 29 [(.t 8)]⟩, [], [7], true⟩, ⟨⟨some 10, none, .ld true 5 (.t 4)⟩, [], [7], true⟩, ⟨⟨some 11, none, .cal 30 [(.t 10)]⟩, [], [7], true⟩, ⟨⟨some 12, none, .bld [.nil, .nil, .nil, .nil, .sc (.int .i64 0), .sc (.int .i64 0), .sc (.int .i64 0), .sc (.int .i64 0), .nil, .nil, .nil] [(0, 4, (.t 9)), (4, 5, (.t 11))]⟩, [], [7], true⟩, ⟨⟨some 7, none, .alc [.nil, .nil, .nil, .nil, .sc (.int .i64 0), .sc (.int .i64 0), .sc (.int .i64 0), .sc (.int .i64 0), .nil, .nil, .nil]⟩, [7], [], true⟩, ⟨⟨none, none, .sto 11 (.t 7) (.t 12)⟩, [], [], false⟩])
 (.seq (.reg [0, 20, 5, 6, 7] [
 ⟨some 13, none, .fa 4 (.t 7)⟩, ⟨some 14, none, .ld true 5 (.t 13)⟩, ⟨some 15, none, .fa 0 (.t 5)⟩, ⟨some 16, none, .ld false 1 (.t 15)⟩, ⟨some 17, none, .cal 36 [(.t 14), (.t 16)]⟩, ⟨some 18, none, .fa 9 (.t 7)⟩, ⟨none, none, .sto 2 (.t 18) (.t 17)⟩])
 (.seq (.reg [0, 20, 6, 7] [
 ⟨some 19, none, .ld true 11 (.t 7)⟩, ⟨none, none, .sto 11 (.t 6) (.t 19)⟩])
 .ret))))
def rv11 : List RV := [.cell 6 true 11]
theorem ok11 : fnOk Try.prog ac11 rv11 Try.f11 = true := by kernel_rfl

def ac12 : AC :=
 (.seq (.reg [0, 18, 0, 1, 2, 3, 4] [
 ⟨some 5, none, .box (.t 0)⟩, ⟨some 6, none, .box (.t 1)⟩, ⟨some 7, none, .box (.t 2)⟩, ⟨some 10, none, .mv (.c (.sc (.bool false)))⟩])
 (.seq (.reg [0, 18, 3, 4, 5, 6, 7] [
 ⟨some 11, none, .ld true 4 (.t 5)⟩, ⟨some 12, none, .ld true 5 (.t 6)⟩, ⟨some 13, none, .ld true 2 (.t 7)⟩, ⟨some 14, none, .bld [.nil, .nil, .nil, .nil, .sc (.int .i64 0), .sc (.int .i64 0), .sc (.int .i64 0), .sc (.int .i64 0), .nil, .nil, .nil] [(0, 4, (.t 11)), (4, 5, (.t 12)), (9, 2, (.t 13))]⟩, ⟨some 15, none, .mv (.t 3)⟩, ⟨some 16, none, .mv (.t 4)⟩, ⟨some 17, none, .cal 37 [(.t 14), (.t 15), (.t 16)]⟩, ⟨some 10, none, .mv (.t 17)⟩])
 .ret))
def rv12 : List RV := [.tmp 10]
theorem ok12 : fnOk Try.prog ac12 rv12 Try.f12 = true := by kernel_rfl

def ac15 : AC :=
 (.seq (.reg [0, 13, 0, 1] [
 ⟨some 2, none, .box (.t 0)⟩, ⟨some 4, none, .mv (.c (.sc (.int .i64 0)))⟩])
 (.seq (.reg [0, 13, 1, 2] [
 ⟨some 5, none, .fa 0 (.t 2)⟩, ⟨some 6, none, .ld true 4 (.t 5)⟩, ⟨some 7, none, .fa 4 (.t 2)⟩, ⟨some 8, none, .ld true 5 (.t 7)⟩, ⟨some 9, none, .fa 9 (.t 2)⟩, ⟨some 10, none, .ld true 2 (.t 9)⟩, ⟨some 11, none, .mv (.t 1)⟩, ⟨some 12, none, .cal 38 [(.t 6), (.t 8), (.t 10), (.t 11)]⟩, ⟨some 4, none, .mv (.t 12)⟩])
 .ret))
def rv15 : List RV := [.tmp 4]
theorem ok15 : fnOk Try.prog ac15 rv15 Try.f15 = true := by kernel_rfl

def ac17 : AC :=
 (.seq (.reg [0, 19, 0, 1] [
 ⟨some 2, none, .box (.t 0)⟩, ⟨some 4, none, .alc [.sc (.int .i64 0), .sc (.int .i64 0)]⟩])
 (.seq (.reg [0, 19, 1, 2, 4] [
 ⟨some 8, none, .fa 0 (.t 2)⟩, ⟨some 9, none, .ld true 4 (.t 8)⟩, ⟨some 10, none, .fa 4 (.t 2)⟩, ⟨some 11, none, .ld true 5 (.t 10)⟩, ⟨some 12, none, .mv (.t 1)⟩, ⟨some 13, none, .cal 41 [(.t 9), (.t 11), (.t 12)]⟩, ⟨some 7, none, .mv (.t 13)⟩, ⟨some 14, none, .ext (.t 7) 0⟩, ⟨some 15, none, .ext (.t 7) 1⟩, ⟨some 5, none, .mv (.t 14)⟩, ⟨some 6, none, .mv (.t 15)⟩])
 (.seq (.reg [0, 19, 4, 5, 6] [
 ⟨some 16, none, .mv (.t 5)⟩, ⟨some 17, none, .mv (.t 6)⟩, ⟨some 18, none, .bld [.sc (.int .i64 0), .sc (.int .i64 0)] [(0, 1, (.t 16)), (1, 1, (.t 17))]⟩, ⟨none, none, .sto 2 (.t 4) (.t 18)⟩])
 .ret)))
def rv17 : List RV := [.cell 4 true 2]
theorem ok17 : fnOk Try.prog ac17 rv17 Try.f17 = true := by kernel_rfl

def ac19 : AC :=
 (.seq (.reg [0, 24, 0, 1] [
 ⟨some 2, none, .box (.t 0)⟩, ⟨some 3, none, .box (.t 1)⟩, ⟨some 4, none, .mv (.c (.sc (.bool false)))⟩])
 (.seq (.reg [0, 24, 2, 3] [
 ⟨some 5, none, .fa 2 (.t 2)⟩, ⟨some 6, none, .ld false 1 (.t 5)⟩, ⟨some 7, none, .fa 2 (.t 3)⟩, ⟨some 8, none, .ld false 1 (.t 7)⟩, ⟨some 9, none, .cmp .eql .i64 (.t 6) (.t 8)⟩, ⟨some 10, none, .mv (.t 9)⟩, ⟨some 11, some (10, true), .fa 1 (.t 2)⟩, ⟨some 12, some (10, true), .ld false 1 (.t 11)⟩, ⟨some 13, some (10, true), .fa 1 (.t 3)⟩, ⟨some 14, some (10, true), .ld false 1 (.t 13)⟩, ⟨some 15, some (10, true), .cmp .eql .i64 (.t 12) (.t 14)⟩, ⟨some 16, none, .pick (.t 10) (.t 15) (.c (.sc (.bool false)))⟩, ⟨some 17, none, .mv (.t 16)⟩, ⟨some 18, some (17, true), .fa 0 (.t 2)⟩, ⟨some 19, some (17, true), .ld false 1 (.t 18)⟩, ⟨some 20, some (17, true), .fa 0 (.t 3)⟩, ⟨some 21, some (17, true), .ld false 1 (.t 20)⟩, ⟨some 22, some (17, true), .cal 43 [(.t 19), (.t 21)]⟩, ⟨some 23, none, .pick (.t 17) (.t 22) (.c (.sc (.bool false)))⟩, ⟨some 4, none, .mv (.t 23)⟩])
 .ret))
def rv19 : List RV := [.tmp 4]
theorem ok19 : fnOk Try.prog ac19 rv19 Try.f19 = true := by kernel_rfl

def ac20 : AC :=
 (.seq (.reg [0, 29, 0, 1] [
 ⟨some 2, none, .box (.t 0)⟩, ⟨some 3, none, .box (.t 1)⟩, ⟨some 4, none, .alc [.nil, .sc (.int .i64 0), .sc (.int .i64 0)]⟩])
 (.seq (.reg [0, 29, 2, 3, 4] [
 ⟨some 9, none, .fa 0 (.t 2)⟩, ⟨some 10, none, .ld true 4 (.t 9)⟩, ⟨some 11, none, .fa 4 (.t 2)⟩, ⟨some 12, none, .ld true 5 (.t 11)⟩, ⟨some 13, none, .fa 9 (.t 2)⟩, ⟨some 14, none, .ld true 2 (.t 13)⟩, ⟨some 15, none, .fa 0 (.t 3)⟩, ⟨some 16, none, .ld false 1 (.t 15)⟩, ⟨some 17, none, .fa 1 (.t 3)⟩, ⟨some 18, none, .ld false 1 (.t 17)⟩, ⟨some 19, none, .fa 2 (.t 3)⟩, ⟨some 20, none, .ld false 1 (.t 19)⟩, ⟨some 21, none, .cal 44 [(.t 10), (.t 12), (.t 14), (.t 16), (.t 18), (.t 20)]⟩, ⟨some 8, none, .mv (.t 21)⟩, ⟨some 22, none, .ext (.t 8) 0⟩, ⟨some 23, none, .ext (.t 8) 1⟩, ⟨some 24, none, .ext (.t 8) 2⟩, ⟨some 5, none, .mv (.t 22)⟩, ⟨some 6, none, .mv (.t 23)⟩, ⟨some 7, none, .mv (.t 24)⟩])
 (.seq (.reg [0, 29, 4, 5, 6, 7] [
 ⟨some 25, none, .mv (.t 5)⟩, ⟨some 26, none, .mv (.t 6)⟩, ⟨some 27, none, .mv (.t 7)⟩, ⟨some 28, none, .bld [.nil, .sc (.int .i64 0), .sc (.int .i64 0)] [(0, 1, (.t 25)), (1, 1, (.t 26)), (2, 1, (.t 27))]⟩, ⟨none, none, .sto 3 (.t 4) (.t 28)⟩])
 .ret)))
def rv20 : List RV := [.cell 4 true 3]
theorem ok20 : fnOk Try.prog ac20 rv20 Try.f20 = true := by kernel_rfl

def ac23 : AC :=
 (.seq (.reg [0, 24, 0, 1] [
 ⟨some 2, none, .box (.t 0)⟩, ⟨some 3, none, .box (.t 1)⟩, ⟨some 4, none, .alc [.nil, .sc (.int .i64 0), .sc (.int .i64 0)]⟩])
 (.seq (.reg [0, 24, 2, 3, 4] [
 ⟨some 8, none, .fa 0 (.t 2)⟩, ⟨some 9, none, .ld true 4 (.t 8)⟩, ⟨some 10, none, .fa 4 (.t 2)⟩, ⟨some 11, none, .ld true 5 (.t 10)⟩, ⟨some 12, none, .fa 9 (.t 2)⟩, ⟨some 13, none, .ld true 2 (.t 12)⟩, ⟨some 14, none, .fa 1 (.t 3)⟩, ⟨some 15, none, .ld false 1 (.t 14)⟩, ⟨some 16, none, .fa 2 (.t 3)⟩, ⟨some 17, none, .ld false 1 (.t 16)⟩, ⟨some 18, none, .cal 46 [(.t 9), (.t 11), (.t 13), (.t 15), (.t 17)]⟩, ⟨some 7, none, .mv (.t 18)⟩, ⟨some 19, none, .ext (.t 7) 0⟩, ⟨some 20, none, .ext (.t 7) 1⟩, ⟨some 5, none, .mv (.t 19)⟩, ⟨some 6, none, .mv (.t 20)⟩])
 (.seq (.reg [0, 24, 4, 5, 6] [
 ⟨some 21, none, .mv (.t 5)⟩, ⟨some 22, none, .mv (.t 6)⟩, ⟨some 23, none, .bld [.nil, .sc (.int .i64 0), .sc (.int .i64 0)] [(0, 1, (.t 21)), (2, 1, (.t 22))]⟩, ⟨none, none, .sto 3 (.t 4) (.t 23)⟩])
 .ret)))
def rv23 : List RV := [.cell 4 true 3]
theorem ok23 : fnOk Try.prog ac23 rv23 Try.f23 = true := by kernel_rfl

def ac26 : AC :=
 (.seq (.reg [0, 18, 0, 1] [
 ⟨some 4, none, .mv (.c (.sc (.bool false)))⟩])
 (.seq (.seq (.reg [0, 18, 0, 1] [
 ⟨some 5, none, .mv (.c (.sc (.int .i64 0)))⟩])
 (.block 0
 (.loop [0, 18, 0, 1, 5]
 (.seq (.seq (.reg [0, 18, 0, 1, 5] [
 ⟨some 6, none, .mv (.t 5)⟩, ⟨some 7, none, .mv (.t 0)⟩, ⟨some 8, none, .len (.t 7)⟩, ⟨some 9, none, .cmp .lss .i64 (.t 6) (.t 8)⟩])
 (.cond (.t 9)
 .skip
 (.exit 0)))
 (.seq (.block 1
 (.seq (.reg [0, 18, 0, 1, 5] [
 ⟨some 12, none, .mv (.t 0)⟩, ⟨some 13, none, .mv (.t 5)⟩, ⟨some 14, none, .ixs 1 (.t 12) (.t 13)⟩, ⟨some 15, none, .ld false 1 (.t 14)⟩, ⟨some 16, none, .mv (.t 1)⟩, ⟨some 17, none, .cmp .eql .i64 (.t 15) (.t 16)⟩])
 (.cond (.t 17)
 (.seq (.reg [0, 18] [
 ⟨some 4, none, .mv (.c (.sc (.bool true)))⟩])
 .ret)
 .skip)))
 (.reg [0, 18, 0, 1, 5] [
 ⟨some 10, none, .mv (.t 5)⟩, ⟨some 11, none, .ari .add true .i64 (.t 10) (.c (.sc (.int .i64 1)))⟩, ⟨some 5, none, .mv (.t 11)⟩]))))))
 (.seq (.reg [0, 18] [
 ⟨some 4, none, .mv (.c (.sc (.bool false)))⟩])
 .ret)))
def rv26 : List RV := [.tmp 4]
theorem ok26 : fnOk Try.prog ac26 rv26 Try.f26 = true := by kernel_rfl

def ac30 : AC :=
 (.seq (.reg [0, 30, 0] [
 ⟨some 1, none, .box (.t 0)⟩, ⟨some 2, none, .alc [.sc (.int .i64 0), .sc (.int .i64 0), .sc (.int .i64 0), .sc (.int .i64 0), .nil]⟩])
 (.seq (.reg [0, 30, 1, 2] [
 ⟨some 4, none, .fa 0 (.t 1)⟩, ⟨some 5, none, .ld false 1 (.t 4)⟩, ⟨some 6, none, .dvd .rem true .u8 (.t 5) (.c (.sc (.int .u8 4)))⟩, ⟨some 7, none, .cnv true .i64 (.t 6)⟩, ⟨some 8, none, .ari .add true .i64 (.c (.sc (.int .i64 2))) (.t 7)⟩, ⟨some 9, none, .fa 1 (.t 1)⟩, ⟨some 10, none, .ld false 1 (.t 9)⟩, ⟨some 11, none, .dvd .rem true .u8 (.t 10) (.c (.sc (.int .u8 4)))⟩, ⟨some 12, none, .cnv true .i64 (.t 11)⟩, ⟨some 13, none, .ari .add true .i64 (.c (.sc (.int .i64 2))) (.t 12)⟩, ⟨some 14, none, .fa 2 (.t 1)⟩, ⟨some 15, none, .ld false 1 (.t 14)⟩, ⟨some 16, none, .dvd .rem true .u8 (.t 15) (.c (.sc (.int .u8 3)))⟩, ⟨some 17, none, .cnv true .i64 (.t 16)⟩, ⟨some 18, none, .ari .add true .i64 (.c (.sc (.int .i64 2))) (.t 17)⟩, ⟨some 19, none, .bld [.sc (.int .i64 0), .sc (.int .i64 0), .sc (.int .i64 0), .sc (.int .i64 0), .nil] [(0, 1, (.t 8)), (1, 1, (.t 13)), (2, 1, (.t 18)), (3, 1, (.c (.sc (.int .i64 24))))]⟩, ⟨some 3, none, .alc [.sc (.int .i64 0), .sc (.int .i64 0), .sc (.int .i64 0), .sc (.int .i64 0), .nil]⟩, ⟨none, none, .sto 5 (.t 3) (.t 19)⟩])
 (.seq (.reg [0, 30, 1, 2, 3] [
 ⟨some 20, none, .fa 0 (.t 3)⟩, ⟨some 21, none, .ld false 1 (.t 20)⟩, ⟨some 22, none, .fa 1 (.t 3)⟩, ⟨some 23, none, .ld false 1 (.t 22)⟩, ⟨some 24, none, .ari .mul true .i64 (.t 21) (.t 23)⟩, ⟨some 25, none, .fa 4 (.t 1)⟩, ⟨some 26, none, .ld false 1 (.t 25)⟩, ⟨some 27, none, .cal 49 [(.t 24), (.t 26)]⟩, ⟨some 28, none, .fa 4 (.t 3)⟩, ⟨none, none, .sto 1 (.t 28) (.t 27)⟩])
 (.seq (.reg [0, 30, 2, 3] [
 ⟨some 29, none, .ld true 5 (.t 3)⟩, ⟨none, none, .sto 5 (.t 2) (.t 29)⟩])
 .ret))))
def rv30 : List RV := [.cell 2 true 5]
theorem ok30 : fnOk Try.prog ac30 rv30 Try.f30 = true := by kernel_rfl

def ac31 : AC :=
 (.seq (.reg [0, 7, 0] [
 ⟨some 1, none, .box (.t 0)⟩, ⟨some 2, none, .mv (.c (.sc (.int .i64 0)))⟩])
 (.seq (.reg [0, 7, 1] [
 ⟨some 3, none, .fa 2 (.t 1)⟩, ⟨some 4, none, .ld false 1 (.t 3)⟩, ⟨some 5, none, .ari .mul true .i64 (.c (.sc (.int .i64 2))) (.t 4)⟩, ⟨some 6, none, .ari .add true .i64 (.c (.sc (.int .i64 6))) (.t 5)⟩, ⟨some 2, none, .mv (.t 6)⟩])
 .ret))
def rv31 : List RV := [.tmp 2]
theorem ok31 : fnOk Try.prog ac31 rv31 Try.f31 = true := by kernel_rfl

def ac32 : AC :=
 (.seq (.reg [0, 8, 0, 1] [
 ⟨some 4, none, .mv (.c (.nil))⟩])
 (.seq (.reg [0, 8, 0, 1] [
 ⟨some 5, none, .mv (.t 0)⟩, ⟨some 6, none, .mv (.t 1)⟩, ⟨some 7, none, .cal 50 [(.t 5), (.t 6)]⟩, ⟨some 4, none, .mv (.t 7)⟩])
 .ret))
def rv32 : List RV := [.tmp 4]
theorem ok32 : fnOk Try.prog ac32 rv32 Try.f32 = true := by kernel_rfl

def ac33 : AC :=
 (.seq (.reg [0, 82, 0, 1] [
 ⟨some 2, none, .box (.t 0)⟩, ⟨some 4, none, .alc [.nil, .nil, .nil, .nil]⟩])
 (.seq (.drw [0, 82, 1, 2, 4] [
 ⟨⟨some 11, none, .fa 0 (.t 2)⟩, [], [5, 18], true⟩, ⟨⟨some 12, none, .ld false 1 (.t 11)⟩, [], [5, 18], true⟩, ⟨⟨some 13, none, .fa 2 (.t 2)⟩, [], [5, 18], true⟩, ⟨⟨some 14, none, .ld false 1 (.t 13)⟩, [], [5, 18], true⟩, ⟨⟨some 15, none, .fa 1 (.t 2)⟩, [], [5], true⟩, ⟨⟨some 16, none, .ld false 1 (.t 15)⟩, [], [5], true⟩, ⟨⟨some 17, none, .len (.t 16)⟩, [], [5], true⟩, ⟨⟨some 18, none, .mks 5 71 56 [.nil, .sc (.int .i64 0), .sc (.int .i64 0), .sc (.int .i64 0), .sc (.int .u64 0)] (.t 17) (.t 17)⟩, [18], [5], true⟩, ⟨⟨some 19, none, .bld [.nil, .nil, .nil, .nil] [(0, 1, (.t 12)), (2, 1, (.t 14)), (1, 1, (.t 18))]⟩, [], [5], true⟩, ⟨⟨some 5, none, .alc [.nil, .nil, .nil, .nil]⟩, [5], [18], true⟩, ⟨⟨none, none, .sto 4 (.t 5) (.t 19)⟩, [], [], false⟩])
 (.seq (.seq (.reg [0, 82, 1, 2, 4, 5] [
 ⟨some 6, none, .mv (.c (.sc (.int .i64 0)))⟩])
 (.block 0
 (.loop [0, 82, 1, 2, 4, 5, 6]
 (.seq (.seq (.reg [0, 82, 1, 2, 4, 5, 6] [
 ⟨some 20, none, .mv (.t 6)⟩, ⟨some 21, none, .fa 1 (.t 2)⟩, ⟨some 22, none, .ld false 1 (.t 21)⟩, ⟨some 23, none, .len (.t 22)⟩, ⟨some 24, none, .cmp .lss .i64 (.t 20) (.t 23)⟩])
 (.cond (.t 24)
 .skip
 (.exit 0)))
 (.seq (.block 1
 (.seq (.reg [0, 82, 1, 2, 4, 5, 6] [
 ⟨some 27, none, .fa 1 (.t 2)⟩, ⟨some 28, none, .ld false 1 (.t 27)⟩, ⟨some 29, none, .mv (.t 6)⟩, ⟨some 30, none, .ixs 5 (.t 28) (.t 29)⟩, ⟨some 31, none, .ld true 5 (.t 30)⟩, ⟨some 7, none, .alc [.nil, .sc (.int .i64 0), .sc (.int .i64 0), .sc (.int .i64 0), .sc (.int .u64 0)]⟩, ⟨none, none, .sto 5 (.t 7) (.t 31)⟩])
 (.seq (.reg [0, 82, 1, 2, 4, 5, 6, 7] [
 ⟨some 32, none, .bsl 1 3 [.sc (.int .i64 0)] 0 []⟩, ⟨some 8, none, .mv (.t 32)⟩])
 (.seq (.seq (.reg [0, 82, 1, 2, 4, 5, 6, 7, 8] [
 ⟨some 9, none, .mv (.c (.sc (.int .i64 0)))⟩])
 (.block 2
 (.loop [0, 82, 1, 2, 4, 5, 6, 7, 8, 9]
 (.seq (.seq (.reg [0, 82, 1, 2, 4, 5, 6, 7, 8, 9] [
 ⟨some 33, none, .mv (.t 9)⟩, ⟨some 34, none, .fa 0 (.t 7)⟩, ⟨some 35, none, .ld false 1 (.t 34)⟩, ⟨some 36, none, .len (.t 35)⟩, ⟨some 37, none, .cmp .lss .i64 (.t 33) (.t 36)⟩])
 (.cond (.t 37)
 .skip
 (.exit 2)))
 (.seq (.block 3
 (.drw [0, 82, 1, 2, 4, 5, 6, 7, 8, 9] [
 ⟨⟨some 40, none, .mv (.t 8)⟩, [], [49], true⟩, ⟨⟨some 41, none, .ld true 4 (.t 2)⟩, [], [], true⟩, ⟨⟨some 42, none, .fa 0 (.t 7)⟩, [], [], true⟩, ⟨⟨some 43, none, .ld false 1 (.t 42)⟩, [], [], true⟩, ⟨⟨some 44, none, .mv (.t 9)⟩, [], [], true⟩, ⟨⟨some 45, none, .ixs 1 (.t 43) (.t 44)⟩, [], [], true⟩, ⟨⟨some 46, none, .ld false 1 (.t 45)⟩, [], [], true⟩, ⟨⟨some 47, none, .mv (.t 1)⟩, [], [], true⟩, ⟨⟨some 48, none, .cal 51 [(.t 41), (.t 46), (.t 47)]⟩, [], [], true⟩, ⟨⟨some 49, none, .bsl 1 3 [.sc (.int .i64 0)] 1 [(0, (.t 48))]⟩, [49], [], true⟩, ⟨⟨some 50, none, .app 1 3 8 (.t 40) (.t 49)⟩, [], [], false⟩, ⟨⟨some 8, none, .mv (.t 50)⟩, [], [], false⟩]))
 (.reg [0, 82, 1, 2, 4, 5, 6, 7, 8, 9] [
 ⟨some 38, none, .mv (.t 9)⟩, ⟨some 39, none, .ari .add true .i64 (.t 38) (.c (.sc (.int .i64 1)))⟩, ⟨some 9, none, .mv (.t 39)⟩]))))))
 (.seq (.reg [0, 82, 1, 2, 4, 5, 6, 7, 8] [
 ⟨some 51, none, .mv (.t 8)⟩, ⟨some 52, none, .fa 0 (.t 7)⟩, ⟨none, none, .sto 1 (.t 52) (.t 51)⟩])
 (.drw [0, 82, 1, 2, 4, 5, 6, 7] [
 ⟨⟨some 53, none, .fa 1 (.t 5)⟩, [], [], true⟩, ⟨⟨some 54, none, .ld false 1 (.t 53)⟩, [], [], true⟩, ⟨⟨some 55, none, .mv (.t 1)⟩, [], [], true⟩, ⟨⟨some 56, none, .mv (.t 6)⟩, [], [], true⟩, ⟨⟨some 57, none, .ixs 1 (.t 55) (.t 56)⟩, [], [], true⟩, ⟨⟨some 58, none, .ld false 1 (.t 57)⟩, [], [], true⟩, ⟨⟨some 59, none, .ld true 5 (.t 7)⟩, [], [], true⟩, ⟨⟨some 60, none, .ixs 5 (.t 54) (.t 58)⟩, [], [], false⟩, ⟨⟨none, none, .sto 5 (.t 60) (.t 59)⟩, [], [], false⟩]))))))
 (.reg [0, 82, 1, 2, 4, 5, 6] [
 ⟨some 25, none, .mv (.t 6)⟩, ⟨some 26, none, .ari .add true .i64 (.t 25) (.c (.sc (.int .i64 1)))⟩, ⟨some 6, none, .mv (.t 26)⟩]))))))
 (.seq (.seq (.reg [0, 82, 1, 2, 4, 5] [
 ⟨some 10, none, .mv (.c (.sc (.int .i64 0)))⟩])
 (.block 4
 (.loop [0, 82, 1, 2, 4, 5, 10]
 (.seq (.seq (.reg [0, 82, 1, 2, 4, 5, 10] [
 ⟨some 61, none, .mv (.t 10)⟩, ⟨some 62, none, .fa 3 (.t 2)⟩, ⟨some 63, none, .ld false 1 (.t 62)⟩, ⟨some 64, none, .len (.t 63)⟩, ⟨some 65, none, .cmp .lss .i64 (.t 61) (.t 64)⟩])
 (.cond (.t 65)
 .skip
 (.exit 4)))
 (.seq (.block 5
 (.drw [0, 82, 1, 2, 4, 5, 10] [
 ⟨⟨some 68, none, .fa 3 (.t 5)⟩, [], [78], true⟩, ⟨⟨some 69, none, .ld false 1 (.t 68)⟩, [], [78], true⟩, ⟨⟨some 70, none, .ld true 4 (.t 2)⟩, [], [], true⟩, ⟨⟨some 71, none, .fa 3 (.t 2)⟩, [], [], true⟩, ⟨⟨some 72, none, .ld false 1 (.t 71)⟩, [], [], true⟩, ⟨⟨some 73, none, .mv (.t 10)⟩, [], [], true⟩, ⟨⟨some 74, none, .ixs 1 (.t 72) (.t 73)⟩, [], [], true⟩, ⟨⟨some 75, none, .ld false 1 (.t 74)⟩, [], [], true⟩, ⟨⟨some 76, none, .mv (.t 1)⟩, [], [], true⟩, ⟨⟨some 77, none, .cal 51 [(.t 70), (.t 75), (.t 76)]⟩, [], [], true⟩, ⟨⟨some 78, none, .bsl 1 3 [.sc (.int .i64 0)] 1 [(0, (.t 77))]⟩, [78], [], true⟩, ⟨⟨some 79, none, .app 1 3 8 (.t 69) (.t 78)⟩, [], [], false⟩, ⟨⟨some 80, none, .fa 3 (.t 5)⟩, [], [], false⟩, ⟨⟨none, none, .sto 1 (.t 80) (.t 79)⟩, [], [], false⟩]))
 (.reg [0, 82, 1, 2, 4, 5, 10] [
 ⟨some 66, none, .mv (.t 10)⟩, ⟨some 67, none, .ari .add true .i64 (.t 66) (.c (.sc (.int .i64 1)))⟩, ⟨some 10, none, .mv (.t 67)⟩]))))))
 (.seq (.reg [0, 82, 4, 5] [
 ⟨some 81, none, .ld true 4 (.t 5)⟩, ⟨none, none, .sto 4 (.t 4) (.t 81)⟩])
 .ret)))))
def rv33 : List RV := [.cell 4 true 4]
theorem ok33 : fnOk Try.prog ac33 rv33 Try.f33 = true := by kernel_rfl

def ac34 : AC :=
 (.seq (.reg [0, 72, 0] [
 ⟨some 1, none, .box (.t 0)⟩, ⟨some 2, none, .mv (.c (.sc (.bool false)))⟩])
 (.seq (.reg [0, 72, 1] [
 ⟨some 8, none, .ld true 4 (.t 1)⟩, ⟨some 9, none, .bld [.nil, .nil, .nil, .nil] [(0, 4, (.t 8))]⟩, ⟨some 3, none, .alc [.nil, .nil, .nil, .nil]⟩, ⟨none, none, .sto 4 (.t 3) (.t 9)⟩])
 (.seq (.reg [0, 72, 1, 3] [
 ⟨some 10, none, .mkf 52 [(.t 3)]⟩, ⟨some 4, none, .mv (.t 10)⟩])
 (.seq (.seq (.reg [0, 72, 1, 3, 4] [
 ⟨some 11, none, .fa 1 (.t 1)⟩, ⟨some 12, none, .ld false 1 (.t 11)⟩, ⟨some 13, none, .len (.t 12)⟩, ⟨some 14, none, .cmp .gtr .i64 (.t 13) (.c (.sc (.int .i64 600)))⟩, ⟨some 15, none, .mv (.t 14)⟩, ⟨some 16, some (15, false), .fa 3 (.t 1)⟩, ⟨some 17, some (15, false), .ld false 1 (.t 16)⟩, ⟨some 18, some (15, false), .len (.t 17)⟩, ⟨some 19, some (15, false), .fa 2 (.t 1)⟩, ⟨some 20, some (15, false), .ld false 1 (.t 19)⟩, ⟨some 21, some (15, false), .len (.t 20)⟩, ⟨some 22, some (15, false), .cmp .neq .i64 (.t 18) (.t 21)⟩, ⟨some 23, none, .pick (.t 15) (.c (.sc (.bool true))) (.t 22)⟩, ⟨some 24, none, .mv (.t 23)⟩, ⟨some 25, some (24, false), .fa 3 (.t 1)⟩, ⟨some 26, some (24, false), .ld false 1 (.t 25)⟩, ⟨some 27, some (24, false), .mv (.t 4)⟩, ⟨some 28, some (24, false), .cal 54 [(.t 26), (.t 27)]⟩, ⟨some 29, none, .pick (.t 24) (.c (.sc (.bool true))) (.t 28)⟩])
 (.cut [0, 72, 1, 3, 4, 29] (.cond (.t 29)
 (.seq (.reg [0, 72] [
 ⟨some 2, none, .mv (.c (.sc (.bool false)))⟩])
 .ret)
 .skip)))
 (.seq (.seq (.reg [0, 72, 1, 3, 4] [
 ⟨some 30, none, .fa 0 (.t 1)⟩, ⟨some 31, none, .ld false 1 (.t 30)⟩, ⟨some 32, none, .cal 55 [(.t 31), (.c (.sc (.func (.func 56) #[] #[])))]⟩, ⟨some 33, none, .mv (.t 32)⟩, ⟨some 34, some (33, false), .fa 2 (.t 1)⟩, ⟨some 35, some (33, false), .ld false 1 (.t 34)⟩, ⟨some 36, some (33, false), .cal 55 [(.t 35), (.c (.sc (.func (.func 58) #[] #[])))]⟩, ⟨some 37, none, .pick (.t 33) (.c (.sc (.bool true))) (.t 36)⟩])
 (.cut [0, 72, 1, 3, 4, 37] (.cond (.t 37)
 (.seq (.reg [0, 72] [
 ⟨some 2, none, .mv (.c (.sc (.bool false)))⟩])
 .ret)
 .skip)))
 (.seq (.reg [0, 72, 1, 3, 4] [
 ⟨some 38, none, .mkm (.int .i64)⟩, ⟨some 5, none, .mv (.t 38)⟩])
 (.seq (.seq (.reg [0, 72, 1, 3, 4, 5] [
 ⟨some 39, none, .fa 1 (.t 1)⟩, ⟨some 40, none, .ld false 1 (.t 39)⟩, ⟨some 41, none, .len (.t 40)⟩, ⟨some 42, none, .mv (.c (.sc (.int .i64 0)))⟩])
 (.block 0
 (.loop [0, 72, 3, 4, 5, 40, 41, 42]
 (.seq (.reg [0, 72, 3, 4, 5, 40, 41, 42] [
 ⟨some 43, none, .cmp .lss .i64 (.t 42) (.t 41)⟩])
 (.seq (.cond (.t 43)
 .skip
 (.exit 0))
 (.seq (.block 1
 (.seq (.reg [0, 72, 3, 4, 5, 40, 41, 42] [
 ⟨some 44, none, .ixs 5 (.t 40) (.t 42)⟩, ⟨some 45, none, .ld true 5 (.t 44)⟩, ⟨some 7, none, .alc [.nil, .sc (.int .i64 0), .sc (.int .i64 0), .sc (.int .i64 0), .sc (.int .u64 0)]⟩, ⟨none, none, .sto 5 (.t 7) (.t 45)⟩])
 (.seq (.seq (.reg [0, 72, 3, 4, 5, 7, 40, 41, 42] [
 ⟨some 46, none, .ld true 5 (.t 7)⟩, ⟨some 47, none, .cal 59 [(.t 46)]⟩, ⟨some 48, none, .not (.t 47)⟩, ⟨some 49, none, .mv (.t 48)⟩, ⟨some 50, some (49, false), .fa 0 (.t 7)⟩, ⟨some 51, some (49, false), .ld false 1 (.t 50)⟩, ⟨some 52, some (49, false), .mv (.t 4)⟩, ⟨some 53, some (49, false), .cal 54 [(.t 51), (.t 52)]⟩, ⟨some 54, none, .pick (.t 49) (.c (.sc (.bool true))) (.t 53)⟩, ⟨some 55, none, .mv (.t 54)⟩, ⟨some 56, some (55, false), .fa 3 (.t 7)⟩, ⟨some 57, some (55, false), .ld false 1 (.t 56)⟩, ⟨some 58, some (55, false), .cmp .geq .i64 (.t 57) (.c (.sc (.int .i64 0)))⟩, ⟨some 59, some (55, false), .mv (.t 58)⟩, ⟨some 60, some (59, true), .mv (.t 5)⟩, ⟨some 61, some (59, true), .fa 3 (.t 7)⟩, ⟨some 62, some (59, true), .ld false 1 (.t 61)⟩, ⟨some 63, some (59, true), .mlk (.int .i64) false (.sc (.bool false)) (.t 60) (.t 62)⟩, ⟨some 64, some (55, false), .pick (.t 59) (.t 63) (.c (.sc (.bool false)))⟩, ⟨some 65, none, .pick (.t 55) (.c (.sc (.bool true))) (.t 64)⟩])
 (.cut [0, 72, 3, 4, 5, 7, 40, 41, 42, 65] (.cond (.t 65)
 (.seq (.reg [0, 72] [
 ⟨some 2, none, .mv (.c (.sc (.bool false)))⟩])
 .ret)
 .skip)))
 (.reg [0, 72, 3, 4, 5, 7, 40, 41, 42] [
 ⟨some 66, none, .mv (.t 5)⟩, ⟨some 67, none, .fa 3 (.t 7)⟩, ⟨some 68, none, .ld false 1 (.t 67)⟩, ⟨none, none, .mup (.int .i64) (.t 66) (.t 68) (.c (.sc (.bool true)))⟩]))))
 (.reg [0, 72, 3, 4, 5, 40, 41, 42] [
 ⟨some 69, none, .ari .add true .i64 (.t 42) (.c (.sc (.int .i64 1)))⟩, ⟨some 42, none, .mv (.t 69)⟩])))))))
 (.seq (.reg [0, 72, 3] [
 ⟨some 70, none, .ld true 4 (.t 3)⟩, ⟨some 71, none, .cal 60 [(.t 70), (.c (.sc (.func (.func 61) #[] #[])))]⟩, ⟨some 2, none, .mv (.t 71)⟩])
 .ret))))))))
def rv34 : List RV := [.tmp 2]
theorem ok34 : fnOk Try.prog ac34 rv34 Try.f34 = true := by kernel_rfl

def ac35 : AC :=
 (.seq (.reg [0, 23, 0] [
 ⟨some 2, none, .alc [.nil, .nil, .nil, .nil, .sc (.int .i64 0), .sc (.int .i64 0), .sc (.int .i64 0), .sc (.int .i64 0), .nil, .nil, .nil]⟩])
 (.seq (.reg [0, 23, 0, 2] [
 ⟨some 4, none, .bld [.sc (.int .i64 0), .sc (.int .i64 0), .sc (.int .i64 0)] [(0, 1, (.c (.sc (.int .i64 3))))]⟩, ⟨some 5, none, .bsl 3 93 [.sc (.int .i64 0), .sc (.int .i64 0), .sc (.int .i64 0)] 1 [(0, (.t 4))]⟩, ⟨some 6, none, .bsl 1 3 [.sc (.int .i64 0)] 1 [(0, (.c (.sc (.int .i64 0))))]⟩, ⟨some 7, none, .bld [.nil, .sc (.int .i64 0), .sc (.int .i64 0), .sc (.int .i64 0), .sc (.int .u64 0)] [(0, 1, (.t 6)), (1, 1, (.c (.sc (.int .i64 1)))), (2, 1, (.c (.sc (.int .i64 (-1))))), (3, 1, (.c (.sc (.int .i64 (-1)))))]⟩, ⟨some 8, none, .bsl 5 71 [.nil, .sc (.int .i64 0), .sc (.int .i64 0), .sc (.int .i64 0), .sc (.int .u64 0)] 1 [(0, (.t 7))]⟩, ⟨some 9, none, .bld [.sc (.int .i64 0), .sc (.int .i64 0), .sc (.int .i64 0)] [(0, 1, (.c (.sc (.int .i64 5))))]⟩, ⟨some 10, none, .bsl 3 93 [.sc (.int .i64 0), .sc (.int .i64 0), .sc (.int .i64 0)] 1 [(0, (.t 9))]⟩, ⟨some 11, none, .bsl 1 3 [.sc (.int .i64 0)] 1 [(0, (.c (.sc (.int .i64 1))))]⟩, ⟨some 12, none, .bld [.nil, .nil, .nil, .nil] [(0, 1, (.t 5)), (1, 1, (.t 8)), (2, 1, (.t 10)), (3, 1, (.t 11))]⟩, ⟨some 3, none, .alc [.nil, .nil, .nil, .nil]⟩, ⟨none, none, .sto 4 (.t 3) (.t 12)⟩])
 (.seq (.seq (.reg [0, 23, 0, 2, 3] [
 ⟨some 13, none, .mv (.t 0)⟩])
 (.cond (.t 13)
 (.reg [0, 23, 2, 3] [
 ⟨some 14, none, .bsl 1 3 [.sc (.int .i64 0)] 2 [(0, (.c (.sc (.int .i64 0)))), (1, (.c (.sc (.int .i64 3))))]⟩, ⟨some 15, none, .bld [.nil, .sc (.int .i64 0), .sc (.int .i64 0), .sc (.int .i64 0), .sc (.int .u64 0)] [(0, 1, (.t 14)), (1, 1, (.c (.sc (.int .i64 1)))), (2, 1, (.c (.sc (.int .i64 (-1))))), (3, 1, (.c (.sc (.int .i64 (-1)))))]⟩, ⟨some 16, none, .bld [.nil, .sc (.int .i64 0), .sc (.int .i64 0), .sc (.int .i64 0), .sc (.int .u64 0)] [(2, 1, (.c (.sc (.int .i64 (-1))))), (3, 1, (.c (.sc (.int .i64 (-1)))))]⟩, ⟨some 17, none, .bsl 5 71 [.nil, .sc (.int .i64 0), .sc (.int .i64 0), .sc (.int .i64 0), .sc (.int .u64 0)] 2 [(0, (.t 15)), (1, (.t 16))]⟩, ⟨some 18, none, .fa 1 (.t 3)⟩, ⟨none, none, .sto 1 (.t 18) (.t 17)⟩])
 .skip))
 (.seq (.reg [0, 23, 2, 3] [
 ⟨some 19, none, .ld true 4 (.t 3)⟩, ⟨some 20, none, .bsl 1 3 [.sc (.int .i64 0)] 3 [(0, (.c (.sc (.int .i64 2)))), (1, (.c (.sc (.int .i64 2)))), (2, (.c (.sc (.int .i64 2))))]⟩, ⟨some 21, none, .bld [.sc (.int .i64 0), .sc (.int .i64 0), .sc (.int .i64 0), .sc (.int .i64 0), .nil] [(0, 1, (.c (.sc (.int .i64 3)))), (1, 1, (.c (.sc (.int .i64 1)))), (2, 1, (.c (.sc (.int .i64 1)))), (3, 1, (.c (.sc (.int .i64 1)))), (4, 1, (.t 20))]⟩, ⟨some 22, none, .bld [.nil, .nil, .nil, .nil, .sc (.int .i64 0), .sc (.int .i64 0), .sc (.int .i64 0), .sc (.int .i64 0), .nil, .nil, .nil] [(0, 4, (.t 19)), (4, 5, (.t 21))]⟩, ⟨none, none, .sto 11 (.t 2) (.t 22)⟩])
 .ret))))
def rv35 : List RV := [.cell 2 true 11]
theorem ok35 : fnOk Try.prog ac35 rv35 Try.f35 = true := by kernel_rfl

def ac36 : AC :=
 (.seq (.reg [0, 59, 0, 1] [
 ⟨some 2, none, .box (.t 0)⟩, ⟨some 4, none, .alc [.nil, .nil]⟩])
 (.seq (.reg [0, 59, 1, 2, 4] [
 ⟨some 8, none, .bld [.nil, .nil] []⟩, ⟨some 5, none, .alc [.nil, .nil]⟩, ⟨none, none, .sto 2 (.t 5) (.t 8)⟩])
 (.seq (.seq (.reg [0, 59, 1, 2, 4, 5] [
 ⟨some 6, none, .mv (.c (.sc (.int .i64 0)))⟩])
 (.block 0
 (.wk (.loop [0, 59, 1, 2, 4, 5, 6]
 (.seq (.seq (.reg [0, 59, 1, 2, 4, 5, 6] [
 ⟨some 9, none, .mv (.t 6)⟩, ⟨some 10, none, .ari .add true .i64 (.t 9) (.c (.sc (.int .i64 1)))⟩, ⟨some 11, none, .mv (.t 1)⟩, ⟨some 12, none, .len (.t 11)⟩, ⟨some 13, none, .cmp .lss .i64 (.t 10) (.t 12)⟩, ⟨some 14, none, .mv (.t 13)⟩, ⟨some 15, some (14, true), .mv (.t 6)⟩, ⟨some 16, some (14, true), .cmp .lss .i64 (.t 15) (.c (.sc (.int .i64 12)))⟩, ⟨some 17, none, .pick (.t 14) (.t 16) (.c (.sc (.bool false)))⟩])
 (.cut [0, 59, 1, 2, 4, 5, 6, 17] (.cond (.t 17)
 .skip
 (.exit 0))))
 (.seq (.block 1
 (.seq (.drw [0, 59, 1, 2, 4, 5, 6] [
 ⟨⟨some 20, none, .mv (.t 1)⟩, [], [], true⟩, ⟨⟨some 21, none, .mv (.t 6)⟩, [], [], true⟩, ⟨⟨some 22, none, .ixs 1 (.t 20) (.t 21)⟩, [], [], true⟩, ⟨⟨some 23, none, .ld false 1 (.t 22)⟩, [], [], true⟩, ⟨⟨some 24, none, .cnv true .i64 (.t 23)⟩, [], [], true⟩, ⟨⟨some 25, none, .ari .mul true .i64 (.c (.sc (.int .i64 256))) (.t 24)⟩, [], [], true⟩, ⟨⟨some 26, none, .mv (.t 1)⟩, [], [], true⟩, ⟨⟨some 27, none, .mv (.t 6)⟩, [], [], true⟩, ⟨⟨some 28, none, .ari .add true .i64 (.t 27) (.c (.sc (.int .i64 1)))⟩, [], [], true⟩, ⟨⟨some 29, none, .ixs 1 (.t 26) (.t 28)⟩, [], [], true⟩, ⟨⟨some 30, none, .ld false 1 (.t 29)⟩, [], [], true⟩, ⟨⟨some 31, none, .cnv true .i64 (.t 30)⟩, [], [], true⟩, ⟨⟨some 32, none, .ari .add true .i64 (.t 25) (.t 31)⟩, [], [], false⟩, ⟨⟨some 7, none, .mv (.t 32)⟩, [], [], false⟩])
 (.seq (.reg [0, 59, 1, 2, 4, 5, 6, 7] [
 ⟨some 33, none, .mv (.t 1)⟩, ⟨some 34, none, .mv (.t 6)⟩, ⟨some 35, none, .ixs 1 (.t 33) (.t 34)⟩, ⟨some 36, none, .ld false 1 (.t 35)⟩, ⟨some 37, none, .dvd .rem true .u8 (.t 36) (.c (.sc (.int .u8 4)))⟩, ⟨some 38, none, .cmp .eql .u8 (.t 37) (.c (.sc (.int .u8 1)))⟩])
 (.cond (.t 38)
 (.drw [0, 59, 1, 2, 4, 5, 6, 7] [
 ⟨⟨some 39, none, .fa 0 (.t 5)⟩, [], [], true⟩, ⟨⟨some 40, none, .ld false 1 (.t 39)⟩, [], [], true⟩, ⟨⟨some 41, none, .mv (.t 7)⟩, [], [], true⟩, ⟨⟨some 42, none, .fa 0 (.t 2)⟩, [], [], true⟩, ⟨⟨some 43, none, .ld false 1 (.t 42)⟩, [], [], true⟩, ⟨⟨some 44, none, .fa 1 (.t 2)⟩, [], [], true⟩, ⟨⟨some 45, none, .ld false 1 (.t 44)⟩, [], [], true⟩, ⟨⟨some 46, none, .ari .mul true .i64 (.t 43) (.t 45)⟩, [], [], true⟩, ⟨⟨some 47, none, .dvd .rem true .i64 (.t 41) (.t 46)⟩, [], [], true⟩, ⟨⟨some 48, none, .cal 62 [(.t 40), (.t 47)]⟩, [], [], false⟩, ⟨⟨some 49, none, .fa 0 (.t 5)⟩, [], [], false⟩, ⟨⟨none, none, .sto 1 (.t 49) (.t 48)⟩, [], [], false⟩])
 (.drw [0, 59, 1, 2, 4, 5, 6, 7] [
 ⟨⟨some 50, none, .fa 1 (.t 5)⟩, [], [], true⟩, ⟨⟨some 51, none, .ld false 1 (.t 50)⟩, [], [], true⟩, ⟨⟨some 52, none, .mv (.t 7)⟩, [], [], true⟩, ⟨⟨some 53, none, .ld true 5 (.t 2)⟩, [], [], true⟩, ⟨⟨some 54, none, .cal 63 [(.t 53)]⟩, [], [], true⟩, ⟨⟨some 55, none, .dvd .rem true .i64 (.t 52) (.t 54)⟩, [], [], true⟩, ⟨⟨some 56, none, .cal 62 [(.t 51), (.t 55)]⟩, [], [], false⟩, ⟨⟨some 57, none, .fa 1 (.t 5)⟩, [], [], false⟩, ⟨⟨none, none, .sto 1 (.t 57) (.t 56)⟩, [], [], false⟩])))))
 (.reg [0, 59, 1, 2, 4, 5, 6] [
 ⟨some 18, none, .mv (.t 6)⟩, ⟨some 19, none, .ari .add true .i64 (.t 18) (.c (.sc (.int .i64 2)))⟩, ⟨some 6, none, .mv (.t 19)⟩])))))))
 (.seq (.reg [0, 59, 4, 5] [
 ⟨some 58, none, .ld true 2 (.t 5)⟩, ⟨none, none, .sto 2 (.t 4) (.t 58)⟩])
 .ret))))
def rv36 : List RV := [.cell 4 true 2]
theorem ok36 : fnOk Try.prog ac36 rv36 Try.f36 = true := by kernel_rfl

def ac37 : AC :=
 (.seq (.reg [0, 75, 0, 1, 2] [
 ⟨some 3, none, .box (.t 0)⟩, ⟨some 6, none, .mv (.c (.sc (.bool false)))⟩])
 (.seq (.seq (.reg [0, 75, 1, 2, 3] [
 ⟨some 10, none, .mv (.t 1)⟩, ⟨some 11, none, .cmp .lss .i64 (.t 10) (.c (.sc (.int .i64 0)))⟩, ⟨some 12, none, .mv (.t 11)⟩, ⟨some 13, some (12, false), .mv (.t 1)⟩, ⟨some 14, some (12, false), .fa 0 (.t 3)⟩, ⟨some 15, some (12, false), .fa 1 (.t 14)⟩, ⟨some 16, some (12, false), .ld false 1 (.t 15)⟩, ⟨some 17, some (12, false), .len (.t 16)⟩, ⟨some 18, some (12, false), .cmp .geq .i64 (.t 13) (.t 17)⟩, ⟨some 19, none, .pick (.t 12) (.c (.sc (.bool true))) (.t 18)⟩, ⟨some 20, none, .mv (.t 19)⟩, ⟨some 21, some (20, false), .mv (.t 2)⟩, ⟨some 22, some (20, false), .cmp .lss .i64 (.t 21) (.c (.sc (.int .i64 0)))⟩, ⟨some 23, none, .pick (.t 20) (.c (.sc (.bool true))) (.t 22)⟩, ⟨some 24, none, .mv (.t 23)⟩, ⟨some 25, some (24, false), .mv (.t 2)⟩, ⟨some 26, some (24, false), .fa 4 (.t 3)⟩, ⟨some 27, some (24, false), .fa 4 (.t 26)⟩, ⟨some 28, some (24, false), .ld false 1 (.t 27)⟩, ⟨some 29, some (24, false), .len (.t 28)⟩, ⟨some 30, some (24, false), .cmp .geq .i64 (.t 25) (.t 29)⟩, ⟨some 31, none, .pick (.t 24) (.c (.sc (.bool true))) (.t 30)⟩])
 (.cut [0, 75, 1, 2, 3, 31] (.cond (.t 31)
 (.seq (.reg [0, 75] [
 ⟨some 6, none, .mv (.c (.sc (.bool false)))⟩])
 .ret)
 .skip)))
 (.seq (.drw [0, 75, 1, 2, 3] [
 ⟨⟨some 32, none, .fa 0 (.t 3)⟩, [], [7], true⟩, ⟨⟨some 33, none, .fa 1 (.t 32)⟩, [], [7], true⟩, ⟨⟨some 34, none, .ld false 1 (.t 33)⟩, [], [7], true⟩, ⟨⟨some 35, none, .mv (.t 1)⟩, [], [7], true⟩, ⟨⟨some 36, none, .ixs 5 (.t 34) (.t 35)⟩, [], [7], true⟩, ⟨⟨some 37, none, .ld true 5 (.t 36)⟩, [], [7], true⟩, ⟨⟨some 38, none, .fa 4 (.t 3)⟩, [], [7], true⟩, ⟨⟨some 39, none, .fa 4 (.t 38)⟩, [], [7], true⟩, ⟨⟨some 40, none, .ld false 1 (.t 39)⟩, [], [7], true⟩, ⟨⟨some 41, none, .mv (.t 2)⟩, [], [7], true⟩, ⟨⟨some 42, none, .ixs 1 (.t 40) (.t 41)⟩, [], [7], true⟩, ⟨⟨some 43, none, .ld false 1 (.t 42)⟩, [], [7], true⟩, ⟨⟨some 7, none, .alc [.nil, .sc (.int .i64 0), .sc (.int .i64 0), .sc (.int .i64 0), .sc (.int .u64 0)]⟩, [7], [], true⟩, ⟨⟨none, none, .sto 5 (.t 7) (.t 37)⟩, [], [7], true⟩, ⟨⟨some 8, none, .mv (.t 43)⟩, [], [], false⟩])
 (.seq (.seq (.reg [0, 75, 2, 3, 7, 8] [
 ⟨some 44, none, .mv (.t 8)⟩, ⟨some 45, none, .cmp .eql .i64 (.t 44) (.c (.sc (.int .i64 0)))⟩, ⟨some 46, none, .mv (.t 45)⟩, ⟨some 47, some (46, false), .mv (.t 8)⟩, ⟨some 48, some (46, false), .cmp .neq .i64 (.t 47) (.c (.sc (.int .i64 2)))⟩, ⟨some 49, some (46, false), .mv (.t 48)⟩, ⟨some 50, some (49, true), .fa 2 (.t 7)⟩, ⟨some 51, some (49, true), .ld false 1 (.t 50)⟩, ⟨some 52, some (49, true), .cmp .neq .i64 (.t 51) (.c (.sc (.int .i64 (-1))))⟩, ⟨some 53, some (46, false), .pick (.t 49) (.t 52) (.c (.sc (.bool false)))⟩, ⟨some 54, none, .pick (.t 46) (.c (.sc (.bool true))) (.t 53)⟩, ⟨some 55, none, .mv (.t 54)⟩, ⟨some 56, some (55, false), .fa 9 (.t 3)⟩, ⟨some 57, some (55, false), .fa 0 (.t 56)⟩, ⟨some 58, some (55, false), .ld false 1 (.t 57)⟩, ⟨some 59, some (55, false), .mv (.t 2)⟩, ⟨some 60, some (55, false), .cal 64 [(.t 58), (.t 59)]⟩, ⟨some 61, none, .pick (.t 55) (.c (.sc (.bool true))) (.t 60)⟩])
 (.cut [0, 75, 2, 3, 7, 61] (.cond (.t 61)
 (.seq (.reg [0, 75] [
 ⟨some 6, none, .mv (.c (.sc (.bool false)))⟩])
 .ret)
 .skip)))
 (.seq (.reg [0, 75, 2, 3, 7] [
 ⟨some 62, none, .mv (.t 2)⟩, ⟨some 63, none, .fa 4 (.t 3)⟩, ⟨some 64, none, .fa 2 (.t 63)⟩, ⟨some 65, none, .ld false 1 (.t 64)⟩, ⟨some 66, none, .ari .mul true .i64 (.c (.sc (.int .i64 2))) (.t 65)⟩, ⟨some 67, none, .ari .add true .i64 (.c (.sc (.int .i64 6))) (.t 66)⟩, ⟨some 68, none, .ari .mul true .i64 (.t 62) (.t 67)⟩, ⟨some 9, none, .alc [.sc (.int .i64 0)]⟩, ⟨none, none, .sto 1 (.t 9) (.t 68)⟩])
 (.seq (.reg [0, 75, 3, 7, 9] [
 ⟨some 69, none, .fa 9 (.t 3)⟩, ⟨some 70, none, .fa 1 (.t 69)⟩, ⟨some 71, none, .ld false 1 (.t 70)⟩, ⟨some 72, none, .mkf 65 [(.t 9), (.t 7)]⟩, ⟨some 73, none, .cal 54 [(.t 71), (.t 72)]⟩, ⟨some 74, none, .not (.t 73)⟩, ⟨some 6, none, .mv (.t 74)⟩])
 .ret))))))
def rv37 : List RV := [.tmp 6]
theorem ok37 : fnOk Try.prog ac37 rv37 Try.f37 = true := by kernel_rfl

def ac38 : AC :=
 (.seq (.reg [0, 38, 0, 1, 2, 3] [
 ⟨some 4, none, .box (.t 0)⟩, ⟨some 5, none, .box (.t 1)⟩, ⟨some 6, none, .box (.t 2)⟩, ⟨some 8, none, .mv (.c (.sc (.int .i64 0)))⟩])
 (.seq (.reg [0, 38, 3, 4, 5, 6] [
 ⟨some 12, none, .ld true 4 (.t 4)⟩, ⟨some 13, none, .ld true 5 (.t 5)⟩, ⟨some 14, none, .ld true 2 (.t 6)⟩, ⟨some 15, none, .bld [.nil, .nil, .nil, .nil, .sc (.int .i64 0), .sc (.int .i64 0), .sc (.int .i64 0), .sc (.int .i64 0), .nil, .nil, .nil] [(0, 4, (.t 12)), (4, 5, (.t 13)), (9, 2, (.t 14))]⟩, ⟨some 9, none, .alc [.nil, .nil, .nil, .nil, .sc (.int .i64 0), .sc (.int .i64 0), .sc (.int .i64 0), .sc (.int .i64 0), .nil, .nil, .nil]⟩, ⟨none, none, .sto 11 (.t 9) (.t 15)⟩])
 (.seq (.seq (.reg [0, 38, 3, 9] [
 ⟨some 16, none, .ld true 11 (.t 9)⟩, ⟨some 17, none, .cal 66 [(.t 16)]⟩, ⟨some 18, none, .not (.t 17)⟩, ⟨some 19, none, .mv (.t 18)⟩, ⟨some 20, some (19, false), .ld true 11 (.t 9)⟩, ⟨some 21, some (19, false), .mv (.t 3)⟩, ⟨some 22, some (19, false), .cal 67 [(.t 20), (.t 21)]⟩, ⟨some 23, some (19, false), .not (.t 22)⟩, ⟨some 24, none, .pick (.t 19) (.c (.sc (.bool true))) (.t 23)⟩])
 (.cut [0, 38, 3, 9, 24] (.cond (.t 24)
 (.seq (.reg [0, 38] [
 ⟨some 8, none, .mv (.c (.sc (.int .i64 290)))⟩])
 .ret)
 .skip)))
 (.seq (.seq (.reg [0, 38, 3, 9] [
 ⟨some 25, none, .mv (.t 3)⟩, ⟨some 26, none, .len (.t 25)⟩, ⟨some 27, none, .mv (.c (.sc (.int .i64 0)))⟩])
 (.block 0
 (.loop [0, 38, 9, 25, 26, 27]
 (.seq (.reg [0, 38, 9, 25, 26, 27] [
 ⟨some 28, none, .cmp .lss .i64 (.t 27) (.t 26)⟩])
 (.seq (.cond (.t 28)
 .skip
 (.exit 0))
 (.seq (.block 1
 (.seq (.reg [0, 38, 9, 25, 26, 27] [
 ⟨some 29, none, .mv (.t 27)⟩, ⟨some 30, none, .ixs 1 (.t 25) (.t 27)⟩, ⟨some 31, none, .ld false 1 (.t 30)⟩, ⟨some 10, none, .mv (.t 29)⟩, ⟨some 11, none, .mv (.t 31)⟩])
 (.seq (.reg [0, 38, 9, 10, 11, 25, 26, 27] [
 ⟨some 32, none, .ld true 11 (.t 9)⟩, ⟨some 33, none, .mv (.t 10)⟩, ⟨some 34, none, .mv (.t 11)⟩, ⟨some 35, none, .cal 37 [(.t 32), (.t 33), (.t 34)]⟩, ⟨some 36, none, .not (.t 35)⟩])
 (.cond (.t 36)
 (.seq (.reg [0, 38] [
 ⟨some 8, none, .mv (.c (.sc (.int .i64 290)))⟩])
 .ret)
 .skip))))
 (.reg [0, 38, 9, 25, 26, 27] [
 ⟨some 37, none, .ari .add true .i64 (.t 27) (.c (.sc (.int .i64 1)))⟩, ⟨some 27, none, .mv (.t 37)⟩])))))))
 (.seq (.reg [0, 38] [
 ⟨some 8, none, .mv (.c (.sc (.int .i64 0)))⟩])
 .ret)))))
def rv38 : List RV := [.tmp 8]
theorem ok38 : fnOk Try.prog ac38 rv38 Try.f38 = true := by kernel_rfl

def ac41 : AC :=
 (.seq (.reg [0, 19, 0, 1, 2] [
 ⟨some 3, none, .box (.t 0)⟩, ⟨some 4, none, .box (.t 1)⟩, ⟨some 6, none, .mv (.c (.sc (.int .i64 0)))⟩, ⟨some 7, none, .mv (.c (.sc (.int .i64 0)))⟩])
 (.seq (.reg [0, 19, 2, 3, 4] [
 ⟨some 9, none, .ld true 4 (.t 3)⟩, ⟨some 10, none, .ld true 5 (.t 4)⟩, ⟨some 11, none, .bld [.nil, .nil, .nil, .nil, .sc (.int .i64 0), .sc (.int .i64 0), .sc (.int .i64 0), .sc (.int .i64 0), .nil, .nil, .nil] [(0, 4, (.t 9)), (4, 5, (.t 10))]⟩, ⟨some 8, none, .alc [.nil, .nil, .nil, .nil, .sc (.int .i64 0), .sc (.int .i64 0), .sc (.int .i64 0), .sc (.int .i64 0), .nil, .nil, .nil]⟩, ⟨none, none, .sto 11 (.t 8) (.t 11)⟩])
 (.seq (.seq (.reg [0, 19, 2, 8] [
 ⟨some 12, none, .ld true 11 (.t 8)⟩, ⟨some 13, none, .mv (.t 2)⟩, ⟨some 14, none, .cal 67 [(.t 12), (.t 13)]⟩, ⟨some 15, none, .not (.t 14)⟩])
 (.cond (.t 15)
 (.seq (.reg [0, 19] [
 ⟨some 6, none, .mv (.c (.sc (.int .i64 0)))⟩, ⟨some 7, none, .mv (.c (.sc (.int .i64 290)))⟩])
 .ret)
 .skip))
 (.seq (.reg [0, 19, 2, 8] [
 ⟨some 16, none, .ld true 11 (.t 8)⟩, ⟨some 17, none, .mv (.t 2)⟩, ⟨some 18, none, .cal 68 [(.t 16), (.t 17)]⟩, ⟨some 6, none, .mv (.t 18)⟩, ⟨some 7, none, .mv (.c (.sc (.int .i64 0)))⟩])
 .ret))))
def rv41 : List RV := [.tmp 6, .tmp 7]
theorem ok41 : fnOk Try.prog ac41 rv41 Try.f41 = true := by kernel_rfl

def ac43 : AC :=
 (.seq (.reg [0, 26, 0, 1] [
 ⟨some 4, none, .mv (.c (.sc (.bool false)))⟩])
 (.seq (.seq (.reg [0, 26, 0, 1] [
 ⟨some 6, none, .mv (.t 0)⟩, ⟨some 7, none, .len (.t 6)⟩, ⟨some 8, none, .mv (.t 1)⟩, ⟨some 9, none, .len (.t 8)⟩, ⟨some 10, none, .cmp .neq .i64 (.t 7) (.t 9)⟩])
 (.cond (.t 10)
 (.seq (.reg [0, 26] [
 ⟨some 4, none, .mv (.c (.sc (.bool false)))⟩])
 .ret)
 .skip))
 (.seq (.seq (.reg [0, 26, 0, 1] [
 ⟨some 5, none, .mv (.c (.sc (.int .i64 0)))⟩])
 (.block 0
 (.loop [0, 26, 0, 1, 5]
 (.seq (.seq (.reg [0, 26, 0, 1, 5] [
 ⟨some 11, none, .mv (.t 5)⟩, ⟨some 12, none, .mv (.t 0)⟩, ⟨some 13, none, .len (.t 12)⟩, ⟨some 14, none, .cmp .lss .i64 (.t 11) (.t 13)⟩])
 (.cond (.t 14)
 .skip
 (.exit 0)))
 (.seq (.block 1
 (.seq (.drw [0, 26, 0, 1, 5] [
 ⟨⟨some 17, none, .mv (.t 0)⟩, [], [], true⟩, ⟨⟨some 18, none, .mv (.t 5)⟩, [], [], true⟩, ⟨⟨some 19, none, .ixs 1 (.t 17) (.t 18)⟩, [], [], true⟩, ⟨⟨some 20, none, .ld false 1 (.t 19)⟩, [], [], true⟩, ⟨⟨some 21, none, .mv (.t 1)⟩, [], [], true⟩, ⟨⟨some 22, none, .mv (.t 5)⟩, [], [], true⟩, ⟨⟨some 23, none, .ixs 1 (.t 21) (.t 22)⟩, [], [], true⟩, ⟨⟨some 24, none, .ld false 1 (.t 23)⟩, [], [], true⟩, ⟨⟨some 25, none, .cmp .neq .i64 (.t 20) (.t 24)⟩, [], [], false⟩])
 (.cond (.t 25)
 (.seq (.reg [0, 26] [
 ⟨some 4, none, .mv (.c (.sc (.bool false)))⟩])
 .ret)
 .skip)))
 (.reg [0, 26, 0, 1, 5] [
 ⟨some 15, none, .mv (.t 5)⟩, ⟨some 16, none, .ari .add true .i64 (.t 15) (.c (.sc (.int .i64 1)))⟩, ⟨some 5, none, .mv (.t 16)⟩]))))))
 (.seq (.reg [0, 26] [
 ⟨some 4, none, .mv (.c (.sc (.bool true)))⟩])
 .ret))))
def rv43 : List RV := [.tmp 4]
theorem ok43 : fnOk Try.prog ac43 rv43 Try.f43 = true := by kernel_rfl

def ac44 : AC :=
 (.seq (.reg [0, 44, 0, 1, 2, 3, 4, 5] [
 ⟨some 6, none, .box (.t 0)⟩, ⟨some 7, none, .box (.t 1)⟩, ⟨some 8, none, .box (.t 2)⟩, ⟨some 12, none, .mv (.c (.nil))⟩, ⟨some 13, none, .mv (.c (.sc (.int .i64 0)))⟩, ⟨some 14, none, .mv (.c (.sc (.int .i64 0)))⟩])
 (.seq (.seq (.reg [0, 44, 3, 4, 5, 6, 7, 8] [
 ⟨some 18, none, .mv (.t 5)⟩, ⟨some 19, none, .cmp .lss .i64 (.t 18) (.c (.sc (.int .i64 0)))⟩, ⟨some 20, none, .mv (.t 19)⟩, ⟨some 21, some (20, false), .mv (.t 5)⟩, ⟨some 22, some (20, false), .cmp .gtr .i64 (.t 21) (.c (.sc (.int .i64 1000)))⟩, ⟨some 23, none, .pick (.t 20) (.c (.sc (.bool true))) (.t 22)⟩])
 (.cut [0, 44, 3, 4, 5, 6, 7, 8, 23] (.cond (.t 23)
 (.seq (.reg [0, 44] [
 ⟨some 12, none, .mv (.c (.nil))⟩, ⟨some 13, none, .mv (.c (.sc (.int .i64 0)))⟩, ⟨some 14, none, .mv (.c (.sc (.int .i64 1)))⟩])
 .ret)
 .skip)))
 (.seq (.seq (.reg [0, 44, 3, 4, 5, 6, 7, 8] [
 ⟨some 24, none, .ld true 4 (.t 6)⟩, ⟨some 25, none, .ld true 5 (.t 7)⟩, ⟨some 26, none, .ld true 2 (.t 8)⟩, ⟨some 27, none, .mv (.t 3)⟩, ⟨some 28, none, .cal 38 [(.t 24), (.t 25), (.t 26), (.t 27)]⟩, ⟨some 15, none, .mv (.t 28)⟩])
 (.seq (.reg [0, 44, 3, 4, 5, 6, 7, 8, 15] [
 ⟨some 29, none, .mv (.t 15)⟩, ⟨some 30, none, .cmp .neq .i64 (.t 29) (.c (.sc (.int .i64 0)))⟩])
 (.cond (.t 30)
 (.seq (.reg [0, 44, 15] [
 ⟨some 31, none, .mv (.t 15)⟩, ⟨some 12, none, .mv (.c (.nil))⟩, ⟨some 13, none, .mv (.c (.sc (.int .i64 0)))⟩, ⟨some 14, none, .mv (.t 31)⟩])
 .ret)
 .skip)))
 (.seq (.reg [0, 44, 3, 4, 5, 6, 7, 8] [
 ⟨some 32, none, .mv (.t 3)⟩, ⟨some 33, none, .clm 71 [(.t 32)]⟩, ⟨some 16, none, .mv (.t 33)⟩])
 (.seq (.reg [0, 44, 4, 5, 6, 7, 8, 16] [
 ⟨some 34, none, .ld true 4 (.t 6)⟩, ⟨some 35, none, .ld true 5 (.t 7)⟩, ⟨some 36, none, .ld true 2 (.t 8)⟩, ⟨some 37, none, .bld [.nil, .nil, .nil, .nil, .sc (.int .i64 0), .sc (.int .i64 0), .sc (.int .i64 0), .sc (.int .i64 0), .nil, .nil, .nil] [(0, 4, (.t 34)), (4, 5, (.t 35)), (9, 2, (.t 36))]⟩, ⟨some 38, none, .mv (.t 16)⟩, ⟨some 39, none, .mv (.t 4)⟩, ⟨some 40, none, .mv (.t 5)⟩, ⟨some 41, none, .clm 72 [(.t 37), (.t 38), (.t 39), (.t 40)]⟩, ⟨some 17, none, .mv (.t 41)⟩])
 (.seq (.reg [0, 44, 16, 17] [
 ⟨some 42, none, .mv (.t 16)⟩, ⟨some 43, none, .mv (.t 17)⟩, ⟨some 12, none, .mv (.t 42)⟩, ⟨some 13, none, .mv (.t 43)⟩, ⟨some 14, none, .mv (.c (.sc (.int .i64 0)))⟩])
 .ret))))))
def rv44 : List RV := [.tmp 12, .tmp 13, .tmp 14]
theorem ok44 : fnOk Try.prog ac44 rv44 Try.f44 = true := by kernel_rfl

def ac48 : AC :=
 (.seq (.reg [0, 40, 0] [
 ⟨some 1, none, .box (.t 0)⟩, ⟨some 2, none, .mv (.c (.nil))⟩])
 (.seq (.reg [0, 40, 1] [
 ⟨some 7, none, .ld true 4 (.t 1)⟩, ⟨some 8, none, .cal 74 [(.t 7)]⟩, ⟨some 3, none, .mv (.t 8)⟩])
 (.seq (.reg [0, 40, 1, 3] [
 ⟨some 9, none, .bsl 1 69 [.sc (.int .u64 0)] 0 []⟩, ⟨some 4, none, .mv (.t 9)⟩])
 (.seq (.seq (.reg [0, 40, 1, 3, 4] [
 ⟨some 5, none, .mv (.c (.sc (.int .i64 0)))⟩])
 (.block 0
 (.loop [0, 40, 1, 3, 4, 5]
 (.seq (.seq (.reg [0, 40, 1, 3, 4, 5] [
 ⟨some 10, none, .mv (.t 5)⟩, ⟨some 11, none, .fa 1 (.t 1)⟩, ⟨some 12, none, .ld false 1 (.t 11)⟩, ⟨some 13, none, .len (.t 12)⟩, ⟨some 14, none, .cmp .lss .i64 (.t 10) (.t 13)⟩])
 (.cond (.t 14)
 .skip
 (.exit 0)))
 (.seq (.block 1
 (.seq (.reg [0, 40, 1, 3, 4, 5] [
 ⟨some 17, none, .fa 0 (.t 1)⟩, ⟨some 18, none, .ld false 1 (.t 17)⟩, ⟨some 19, none, .len (.t 18)⟩, ⟨some 20, none, .mv (.t 5)⟩, ⟨some 21, none, .ari .mul true .i64 (.c (.sc (.int .i64 2))) (.t 20)⟩, ⟨some 22, none, .ari .add true .i64 (.t 19) (.t 21)⟩, ⟨some 6, none, .mv (.t 22)⟩])
 (.seq (.seq (.reg [0, 40, 1, 3, 4, 5, 6] [
 ⟨some 23, none, .fa 1 (.t 1)⟩, ⟨some 24, none, .ld false 1 (.t 23)⟩, ⟨some 25, none, .mv (.t 5)⟩, ⟨some 26, none, .ixs 5 (.t 24) (.t 25)⟩, ⟨some 27, none, .fa 3 (.t 26)⟩, ⟨some 28, none, .ld false 1 (.t 27)⟩, ⟨some 29, none, .cmp .geq .i64 (.t 28) (.c (.sc (.int .i64 0)))⟩])
 (.cond (.t 29)
 (.reg [0, 40, 1, 3, 4, 5, 6] [
 ⟨some 30, none, .mv (.t 6)⟩, ⟨some 31, none, .ari .add true .i64 (.t 30) (.c (.sc (.int .i64 1)))⟩, ⟨some 6, none, .mv (.t 31)⟩])
 .skip))
 (.reg [0, 40, 1, 3, 4, 5, 6] [
 ⟨some 32, none, .mv (.t 4)⟩, ⟨some 33, none, .mv (.t 3)⟩, ⟨some 34, none, .mv (.t 6)⟩, ⟨some 35, none, .ixs 1 (.t 33) (.t 34)⟩, ⟨some 36, none, .ld false 1 (.t 35)⟩, ⟨some 37, none, .bsl 1 69 [.sc (.int .u64 0)] 1 [(0, (.t 36))]⟩, ⟨some 38, none, .app 1 69 8 (.t 32) (.t 37)⟩, ⟨some 4, none, .mv (.t 38)⟩]))))
 (.reg [0, 40, 1, 3, 4, 5] [
 ⟨some 15, none, .mv (.t 5)⟩, ⟨some 16, none, .ari .add true .i64 (.t 15) (.c (.sc (.int .i64 1)))⟩, ⟨some 5, none, .mv (.t 16)⟩]))))))
 (.seq (.reg [0, 40, 4] [
 ⟨some 39, none, .mv (.t 4)⟩, ⟨some 2, none, .mv (.t 39)⟩])
 .ret)))))
def rv48 : List RV := [.tmp 2]
theorem ok48 : fnOk Try.prog ac48 rv48 Try.f48 = true := by kernel_rfl

def ac49 : AC :=
 (.seq (.reg [0, 37, 0, 1] [
 ⟨some 4, none, .mv (.c (.nil))⟩])
 (.seq (.reg [0, 37, 0, 1] [
 ⟨some 8, none, .bsl 1 3 [.sc (.int .i64 0)] 0 []⟩, ⟨some 5, none, .mv (.t 8)⟩])
 (.seq (.seq (.reg [0, 37, 0, 1, 5] [
 ⟨some 6, none, .mv (.c (.sc (.int .i64 0)))⟩])
 (.block 0
 (.loop [0, 37, 0, 1, 5, 6]
 (.seq (.seq (.reg [0, 37, 0, 1, 5, 6] [
 ⟨some 9, none, .mv (.t 6)⟩, ⟨some 10, none, .mv (.t 0)⟩, ⟨some 11, none, .cmp .lss .i64 (.t 9) (.t 10)⟩])
 (.cond (.t 11)
 .skip
 (.exit 0)))
 (.seq (.block 1
 (.seq (.reg [0, 37, 0, 1, 5, 6] [
 ⟨some 7, none, .mv (.c (.sc (.int .i64 2)))⟩])
 (.seq (.seq (.reg [0, 37, 0, 1, 5, 6, 7] [
 ⟨some 14, none, .mv (.t 6)⟩, ⟨some 15, none, .mv (.t 1)⟩, ⟨some 16, none, .len (.t 15)⟩, ⟨some 17, none, .cmp .lss .i64 (.t 14) (.t 16)⟩, ⟨some 18, none, .mv (.t 17)⟩, ⟨some 19, some (18, true), .mv (.t 1)⟩, ⟨some 20, some (18, true), .mv (.t 6)⟩, ⟨some 21, some (18, true), .ixs 1 (.t 19) (.t 20)⟩, ⟨some 22, some (18, true), .ld false 1 (.t 21)⟩, ⟨some 23, some (18, true), .dvd .rem true .u8 (.t 22) (.c (.sc (.int .u8 8)))⟩, ⟨some 24, some (18, true), .cmp .lss .u8 (.t 23) (.c (.sc (.int .u8 2)))⟩, ⟨some 25, none, .pick (.t 18) (.t 24) (.c (.sc (.bool false)))⟩])
 (.cut [0, 37, 0, 1, 5, 6, 7, 25] (.cond (.t 25)
 (.reg [0, 37, 0, 1, 5, 6] [
 ⟨some 26, none, .mv (.t 1)⟩, ⟨some 27, none, .mv (.t 6)⟩, ⟨some 28, none, .ixs 1 (.t 26) (.t 27)⟩, ⟨some 29, none, .ld false 1 (.t 28)⟩, ⟨some 30, none, .dvd .rem true .u8 (.t 29) (.c (.sc (.int .u8 8)))⟩, ⟨some 31, none, .cnv true .i64 (.t 30)⟩, ⟨some 7, none, .mv (.t 31)⟩])
 .skip)))
 (.reg [0, 37, 0, 1, 5, 6, 7] [
 ⟨some 32, none, .mv (.t 5)⟩, ⟨some 33, none, .mv (.t 7)⟩, ⟨some 34, none, .bsl 1 3 [.sc (.int .i64 0)] 1 [(0, (.t 33))]⟩, ⟨some 35, none, .app 1 3 8 (.t 32) (.t 34)⟩, ⟨some 5, none, .mv (.t 35)⟩]))))
 (.reg [0, 37, 0, 1, 5, 6] [
 ⟨some 12, none, .mv (.t 6)⟩, ⟨some 13, none, .ari .add true .i64 (.t 12) (.c (.sc (.int .i64 1)))⟩, ⟨some 6, none, .mv (.t 13)⟩]))))))
 (.seq (.reg [0, 37, 5] [
 ⟨some 36, none, .mv (.t 5)⟩, ⟨some 4, none, .mv (.t 36)⟩])
 .ret))))
def rv49 : List RV := [.tmp 4]
theorem ok49 : fnOk Try.prog ac49 rv49 Try.f49 = true := by kernel_rfl

def ac51 : AC :=
 (.seq (.reg [0, 31, 0, 1, 2] [
 ⟨some 3, none, .box (.t 0)⟩, ⟨some 6, none, .mv (.c (.sc (.int .i64 0)))⟩])
 (.seq (.seq (.reg [0, 31, 1, 2, 3] [
 ⟨some 7, none, .mv (.t 1)⟩, ⟨some 8, none, .fa 0 (.t 3)⟩, ⟨some 9, none, .ld false 1 (.t 8)⟩, ⟨some 10, none, .len (.t 9)⟩, ⟨some 11, none, .cmp .lss .i64 (.t 7) (.t 10)⟩])
 (.cond (.t 11)
 (.seq (.reg [0, 31, 1] [
 ⟨some 12, none, .mv (.t 1)⟩, ⟨some 6, none, .mv (.t 12)⟩])
 .ret)
 .skip))
 (.seq (.drw [0, 31, 1, 2, 3] [
 ⟨⟨some 13, none, .fa 0 (.t 3)⟩, [], [], true⟩, ⟨⟨some 14, none, .ld false 1 (.t 13)⟩, [], [], true⟩, ⟨⟨some 15, none, .len (.t 14)⟩, [], [], true⟩, ⟨⟨some 16, none, .mv (.t 2)⟩, [], [], true⟩, ⟨⟨some 17, none, .ld true 4 (.t 3)⟩, [], [], true⟩, ⟨⟨some 18, none, .mv (.t 1)⟩, [], [], true⟩, ⟨⟨some 19, none, .cal 75 [(.t 17), (.t 18)]⟩, [], [], true⟩, ⟨⟨some 20, none, .ixs 1 (.t 16) (.t 19)⟩, [], [], true⟩, ⟨⟨some 21, none, .ld false 1 (.t 20)⟩, [], [], true⟩, ⟨⟨some 22, none, .ari .mul true .i64 (.c (.sc (.int .i64 2))) (.t 21)⟩, [], [], true⟩, ⟨⟨some 23, none, .ari .add true .i64 (.t 15) (.t 22)⟩, [], [], true⟩, ⟨⟨some 24, none, .mv (.t 1)⟩, [], [], true⟩, ⟨⟨some 25, none, .fa 0 (.t 3)⟩, [], [], true⟩, ⟨⟨some 26, none, .ld false 1 (.t 25)⟩, [], [], true⟩, ⟨⟨some 27, none, .len (.t 26)⟩, [], [], true⟩, ⟨⟨some 28, none, .ari .sub true .i64 (.t 24) (.t 27)⟩, [], [], true⟩, ⟨⟨some 29, none, .dvd .rem true .i64 (.t 28) (.c (.sc (.int .i64 2)))⟩, [], [], true⟩, ⟨⟨some 30, none, .ari .add true .i64 (.t 23) (.t 29)⟩, [], [], false⟩, ⟨⟨some 6, none, .mv (.t 30)⟩, [], [], false⟩])
 .ret)))
def rv51 : List RV := [.tmp 6]
theorem ok51 : fnOk Try.prog ac51 rv51 Try.f51 = true := by kernel_rfl

def ac52 : AC :=
 (.seq (.reg [0, 8, 0, 1] [
 ⟨some 3, none, .mv (.c (.sc (.bool false)))⟩])
 (.seq (.reg [0, 8, 0, 1] [
 ⟨some 4, none, .ld true 4 (.t 1)⟩, ⟨some 5, none, .mv (.t 0)⟩, ⟨some 6, none, .cal 53 [(.t 4), (.t 5)]⟩, ⟨some 7, none, .not (.t 6)⟩, ⟨some 3, none, .mv (.t 7)⟩])
 .ret))
def rv52 : List RV := [.tmp 3]
theorem ok52 : fnOk Try.prog ac52 rv52 Try.f52 = true := by kernel_rfl

def ac53 : AC :=
 (.seq (.reg [0, 33, 0, 1] [
 ⟨some 2, none, .box (.t 0)⟩, ⟨some 4, none, .mv (.c (.sc (.bool false)))⟩])
 (.seq (.seq (.reg [0, 33, 1, 2] [
 ⟨some 7, none, .mv (.t 1)⟩, ⟨some 8, none, .cmp .lss .i64 (.t 7) (.c (.sc (.int .i64 0)))⟩, ⟨some 9, none, .mv (.t 8)⟩, ⟨some 10, some (9, false), .mv (.t 1)⟩, ⟨some 11, some (9, false), .ld true 4 (.t 2)⟩, ⟨some 12, some (9, false), .cal 76 [(.t 11)]⟩, ⟨some 13, some (9, false), .cmp .geq .i64 (.t 10) (.t 12)⟩, ⟨some 14, none, .pick (.t 9) (.c (.sc (.bool true))) (.t 13)⟩])
 (.cut [0, 33, 1, 2, 14] (.cond (.t 14)
 (.seq (.reg [0, 33] [
 ⟨some 4, none, .mv (.c (.sc (.bool false)))⟩])
 .ret)
 .skip)))
 (.seq (.reg [0, 33, 1, 2] [
 ⟨some 16, none, .ld true 4 (.t 2)⟩, ⟨some 17, none, .mv (.t 1)⟩, ⟨some 18, none, .cal 77 [(.t 16), (.t 17)]⟩, ⟨some 15, none, .mv (.t 18)⟩, ⟨some 19, none, .ext (.t 15) 0⟩, ⟨some 20, none, .ext (.t 15) 1⟩, ⟨some 5, none, .mv (.t 19)⟩, ⟨some 6, none, .mv (.t 20)⟩])
 (.seq (.reg [0, 33, 2, 5, 6] [
 ⟨some 21, none, .mv (.t 6)⟩, ⟨some 22, none, .not (.t 21)⟩, ⟨some 23, none, .mv (.t 22)⟩, ⟨some 24, some (23, false), .fa 0 (.t 2)⟩, ⟨some 25, some (23, false), .fa 1 (.t 24)⟩, ⟨some 26, some (23, false), .ld false 1 (.t 25)⟩, ⟨some 27, some (23, false), .mv (.t 5)⟩, ⟨some 28, some (23, false), .ixs 5 (.t 26) (.t 27)⟩, ⟨some 29, some (23, false), .fa 3 (.t 28)⟩, ⟨some 30, some (23, false), .ld false 1 (.t 29)⟩, ⟨some 31, some (23, false), .cmp .geq .i64 (.t 30) (.c (.sc (.int .i64 0)))⟩, ⟨some 32, none, .pick (.t 23) (.c (.sc (.bool true))) (.t 31)⟩, ⟨some 4, none, .mv (.t 32)⟩])
 .ret))))
def rv53 : List RV := [.tmp 4]
theorem ok53 : fnOk Try.prog ac53 rv53 Try.f53 = true := by kernel_rfl

def ac54 : AC :=
 (.seq (.reg [0, 9, 0, 1] [
 ⟨some 4, none, .mv (.c (.sc (.bool false)))⟩])
 (.seq (.reg [0, 9, 0, 1] [
 ⟨some 5, none, .mv (.t 0)⟩, ⟨some 6, none, .mv (.t 1)⟩, ⟨some 7, none, .cal 78 [(.t 5), (.t 6)]⟩, ⟨some 8, none, .cmp .geq .i64 (.t 7) (.c (.sc (.int .i64 0)))⟩, ⟨some 4, none, .mv (.t 8)⟩])
 .ret))
def rv54 : List RV := [.tmp 4]
theorem ok54 : fnOk Try.prog ac54 rv54 Try.f54 = true := by kernel_rfl

def ac55 : AC :=
 (.seq (.reg [0, 9, 0, 1] [
 ⟨some 4, none, .mv (.c (.sc (.bool false)))⟩])
 (.seq (.reg [0, 9, 0, 1] [
 ⟨some 5, none, .mv (.t 0)⟩, ⟨some 6, none, .mv (.t 1)⟩, ⟨some 7, none, .cal 79 [(.t 5), (.t 6)]⟩, ⟨some 8, none, .cmp .geq .i64 (.t 7) (.c (.sc (.int .i64 0)))⟩, ⟨some 4, none, .mv (.t 8)⟩])
 .ret))
def rv55 : List RV := [.tmp 4]
theorem ok55 : fnOk Try.prog ac55 rv55 Try.f55 = true := by kernel_rfl

def ac56 : AC :=
 (.seq (.reg [0, 6, 0] [
 ⟨some 1, none, .box (.t 0)⟩, ⟨some 2, none, .mv (.c (.sc (.bool false)))⟩])
 (.seq (.reg [0, 6, 1] [
 ⟨some 3, none, .ld true 3 (.t 1)⟩, ⟨some 4, none, .cal 57 [(.t 3), (.c (.sc (.int .i64 2))), (.c (.sc (.int .i64 4)))]⟩, ⟨some 5, none, .not (.t 4)⟩, ⟨some 2, none, .mv (.t 5)⟩])
 .ret))
def rv56 : List RV := [.tmp 2]
theorem ok56 : fnOk Try.prog ac56 rv56 Try.f56 = true := by kernel_rfl

def ac57 : AC :=
 (.seq (.reg [0, 32, 0, 1, 2] [
 ⟨some 3, none, .box (.t 0)⟩, ⟨some 6, none, .mv (.c (.sc (.bool false)))⟩])
 (.seq (.reg [0, 32, 1, 2, 3] [
 ⟨some 7, none, .fa 0 (.t 3)⟩, ⟨some 8, none, .ld false 1 (.t 7)⟩, ⟨some 9, none, .mv (.t 1)⟩, ⟨some 10, none, .cmp .geq .i64 (.t 8) (.t 9)⟩, ⟨some 11, none, .mv (.t 10)⟩, ⟨some 12, some (11, true), .fa 0 (.t 3)⟩, ⟨some 13, some (11, true), .ld false 1 (.t 12)⟩, ⟨some 14, some (11, true), .mv (.t 2)⟩, ⟨some 15, some (11, true), .cmp .leq .i64 (.t 13) (.t 14)⟩, ⟨some 16, none, .pick (.t 11) (.t 15) (.c (.sc (.bool false)))⟩, ⟨some 17, none, .mv (.t 16)⟩, ⟨some 18, some (17, true), .fa 1 (.t 3)⟩, ⟨some 19, some (17, true), .ld false 1 (.t 18)⟩, ⟨some 20, some (17, true), .cmp .geq .i64 (.t 19) (.c (.sc (.int .i64 0)))⟩, ⟨some 21, none, .pick (.t 17) (.t 20) (.c (.sc (.bool false)))⟩, ⟨some 22, none, .mv (.t 21)⟩, ⟨some 23, some (22, true), .fa 2 (.t 3)⟩, ⟨some 24, some (22, true), .ld false 1 (.t 23)⟩, ⟨some 25, some (22, true), .cmp .geq .i64 (.t 24) (.c (.sc (.int .i64 0)))⟩, ⟨some 26, none, .pick (.t 22) (.t 25) (.c (.sc (.bool false)))⟩, ⟨some 27, none, .mv (.t 26)⟩, ⟨some 28, some (27, true), .fa 2 (.t 3)⟩, ⟨some 29, some (27, true), .ld false 1 (.t 28)⟩, ⟨some 30, some (27, true), .cmp .lss .i64 (.t 29) (.c (.sc (.int .i64 8)))⟩, ⟨some 31, none, .pick (.t 27) (.t 30) (.c (.sc (.bool false)))⟩, ⟨some 6, none, .mv (.t 31)⟩])
 .ret))
def rv57 : List RV := [.tmp 6]
theorem ok57 : fnOk Try.prog ac57 rv57 Try.f57 = true := by kernel_rfl

def ac58 : AC :=
 (.seq (.reg [0, 6, 0] [
 ⟨some 1, none, .box (.t 0)⟩, ⟨some 2, none, .mv (.c (.sc (.bool false)))⟩])
 (.seq (.reg [0, 6, 1] [
 ⟨some 3, none, .ld true 3 (.t 1)⟩, ⟨some 4, none, .cal 57 [(.t 3), (.c (.sc (.int .i64 5))), (.c (.sc (.int .i64 10)))]⟩, ⟨some 5, none, .not (.t 4)⟩, ⟨some 2, none, .mv (.t 5)⟩])
 .ret))
def rv58 : List RV := [.tmp 2]
theorem ok58 : fnOk Try.prog ac58 rv58 Try.f58 = true := by kernel_rfl

def ac59 : AC :=
 (.seq (.reg [0, 48, 0] [
 ⟨some 1, none, .box (.t 0)⟩, ⟨some 2, none, .mv (.c (.sc (.bool false)))⟩])
 (.seq (.reg [0, 48, 1] [
 ⟨some 4, none, .fa 0 (.t 1)⟩, ⟨some 5, none, .ld false 1 (.t 4)⟩, ⟨some 6, none, .len (.t 5)⟩, ⟨some 3, none, .mv (.t 6)⟩])
 (.seq (.seq (.drw [0, 48, 1, 3] [
 ⟨⟨some 7, none, .mv (.t 3)⟩, [], [], false⟩, ⟨⟨some 8, none, .cmp .gtr .i64 (.t 7) (.c (.sc (.int .i64 4)))⟩, [], [], false⟩, ⟨⟨some 9, none, .mv (.t 8)⟩, [], [], false⟩, ⟨⟨some 10, some (9, false), .fa 2 (.t 1)⟩, [], [], false⟩, ⟨⟨some 11, some (9, false), .ld false 1 (.t 10)⟩, [], [], false⟩, ⟨⟨some 12, some (9, false), .cal 80 [(.t 11), (.c (.sc (.int .i64 (-1)))), (.c (.sc (.int .i64 63)))]⟩, [], [], false⟩, ⟨⟨some 13, some (9, false), .not (.t 12)⟩, [], [], false⟩, ⟨⟨some 14, none, .pick (.t 9) (.c (.sc (.bool true))) (.t 13)⟩, [], [], false⟩, ⟨⟨some 15, none, .mv (.t 14)⟩, [], [], false⟩, ⟨⟨some 16, some (15, false), .fa 3 (.t 1)⟩, [], [], false⟩, ⟨⟨some 17, some (15, false), .ld false 1 (.t 16)⟩, [], [], false⟩, ⟨⟨some 18, some (15, false), .cal 80 [(.t 17), (.c (.sc (.int .i64 (-1)))), (.c (.sc (.int .i64 255)))]⟩, [], [], false⟩, ⟨⟨some 19, some (15, false), .not (.t 18)⟩, [], [], false⟩, ⟨⟨some 20, none, .pick (.t 15) (.c (.sc (.bool true))) (.t 19)⟩, [], [], false⟩, ⟨⟨some 21, none, .mv (.t 20)⟩, [], [], false⟩, ⟨⟨some 22, some (21, false), .fa 1 (.t 1)⟩, [], [], true⟩, ⟨⟨some 23, some (21, false), .ld false 1 (.t 22)⟩, [], [], true⟩, ⟨⟨some 24, some (21, false), .mv (.t 3)⟩, [], [], true⟩, ⟨⟨some 25, some (21, false), .shf .shl .u64 (.c (.sc (.int .u64 1))) (.t 24)⟩, [], [], true⟩, ⟨⟨some 26, some (21, false), .shf .shl .i64 (.c (.sc (.int .i64 1))) (.t 25)⟩, [], [], true⟩, ⟨⟨some 27, some (21, false), .ari .sub true .i64 (.t 26) (.c (.sc (.int .i64 1)))⟩, [], [], true⟩, ⟨⟨some 28, some (21, false), .cal 80 [(.t 23), (.c (.sc (.int .i64 0))), (.t 27)]⟩, [], [], false⟩, ⟨⟨some 29, some (21, false), .not (.t 28)⟩, [], [], false⟩, ⟨⟨some 30, none, .pick (.t 21) (.c (.sc (.bool true))) (.t 29)⟩, [], [], false⟩])
 (.cut [0, 48, 1, 3, 30] (.cond (.t 30)
 (.seq (.reg [0, 48] [
 ⟨some 2, none, .mv (.c (.sc (.bool false)))⟩])
 .ret)
 .skip)))
 (.seq (.reg [0, 48, 1, 3] [
 ⟨some 31, none, .fa 2 (.t 1)⟩, ⟨some 32, none, .ld false 1 (.t 31)⟩, ⟨some 33, none, .cmp .lss .i64 (.t 32) (.c (.sc (.int .i64 0)))⟩, ⟨some 34, none, .mv (.t 33)⟩, ⟨some 35, some (34, false), .fa 3 (.t 1)⟩, ⟨some 36, some (34, false), .ld false 1 (.t 35)⟩, ⟨some 37, some (34, false), .cmp .lss .i64 (.t 36) (.c (.sc (.int .i64 0)))⟩, ⟨some 38, some (34, false), .mv (.t 37)⟩, ⟨some 39, some (38, true), .mv (.t 3)⟩, ⟨some 40, some (38, true), .cmp .leq .i64 (.t 39) (.c (.sc (.int .i64 3)))⟩, ⟨some 41, some (34, false), .pick (.t 38) (.t 40) (.c (.sc (.bool false)))⟩, ⟨some 42, some (34, false), .mv (.t 41)⟩, ⟨some 43, some (42, true), .fa 1 (.t 1)⟩, ⟨some 44, some (42, true), .ld false 1 (.t 43)⟩, ⟨some 45, some (42, true), .cmp .eql .i64 (.t 44) (.c (.sc (.int .i64 0)))⟩, ⟨some 46, some (34, false), .pick (.t 42) (.t 45) (.c (.sc (.bool false)))⟩, ⟨some 47, none, .pick (.t 34) (.c (.sc (.bool true))) (.t 46)⟩, ⟨some 2, none, .mv (.t 47)⟩])
 .ret))))
def rv59 : List RV := [.tmp 2]
theorem ok59 : fnOk Try.prog ac59 rv59 Try.f59 = true := by kernel_rfl

def ac60 : AC :=
 (.seq (.reg [0, 26, 0, 1] [
 ⟨some 2, none, .box (.t 0)⟩, ⟨some 3, none, .box (.t 1)⟩, ⟨some 4, none, .mv (.c (.sc (.bool false)))⟩])
 (.seq (.reg [0, 26, 2, 3] [
 ⟨some 8, none, .fa 0 (.t 2)⟩, ⟨some 9, none, .fa 1 (.t 8)⟩, ⟨some 10, none, .ld false 1 (.t 9)⟩, ⟨some 11, none, .len (.t 10)⟩, ⟨some 12, none, .mks 1 3 8 [.sc (.int .i64 0)] (.t 11) (.t 11)⟩, ⟨some 5, none, .alc [.nil]⟩, ⟨none, none, .sto 1 (.t 5) (.t 12)⟩])
 (.seq (.reg [0, 26, 2, 3, 5] [
 ⟨some 6, none, .alc [.sc .nilFunc]⟩])
 (.seq (.reg [0, 26, 2, 3, 5, 6] [
 ⟨some 13, none, .mkf 81 [(.t 5), (.t 2), (.t 6), (.t 3)]⟩, ⟨none, none, .sto 1 (.t 6) (.t 13)⟩])
 (.seq (.seq (.reg [0, 26, 2, 6] [
 ⟨some 14, none, .fa 0 (.t 2)⟩, ⟨some 15, none, .fa 1 (.t 14)⟩, ⟨some 16, none, .ld false 1 (.t 15)⟩, ⟨some 17, none, .len (.t 16)⟩, ⟨some 18, none, .mv (.c (.sc (.int .i64 0)))⟩])
 (.block 0
 (.loop [0, 26, 6, 17, 18]
 (.seq (.reg [0, 26, 6, 17, 18] [
 ⟨some 19, none, .cmp .lss .i64 (.t 18) (.t 17)⟩])
 (.seq (.cond (.t 19)
 .skip
 (.exit 0))
 (.seq (.block 1
 (.seq (.reg [0, 26, 6, 17, 18] [
 ⟨some 20, none, .mv (.t 18)⟩, ⟨some 7, none, .mv (.t 20)⟩])
 (.seq (.reg [0, 26, 6, 7, 17, 18] [
 ⟨some 21, none, .ld false 1 (.t 6)⟩, ⟨some 22, none, .mv (.t 7)⟩, ⟨some 23, none, .clv (.t 21) [(.t 22)]⟩, ⟨some 24, none, .not (.t 23)⟩])
 (.cond (.t 24)
 (.seq (.reg [0, 26] [
 ⟨some 4, none, .mv (.c (.sc (.bool false)))⟩])
 .ret)
 .skip))))
 (.reg [0, 26, 6, 17, 18] [
 ⟨some 25, none, .ari .add true .i64 (.t 18) (.c (.sc (.int .i64 1)))⟩, ⟨some 18, none, .mv (.t 25)⟩])))))))
 (.seq (.reg [0, 26] [
 ⟨some 4, none, .mv (.c (.sc (.bool true)))⟩])
 .ret))))))
def rv60 : List RV := [.tmp 4]
theorem ok60 : fnOk Try.prog ac60 rv60 Try.f60 = true := by kernel_rfl

def ac61 : AC :=
 .skip
def rv61 : List RV := []
theorem ok61 : fnOk Try.prog ac61 rv61 Try.f61 = true := by kernel_rfl

def ac62 : AC :=
 (.seq (.reg [0, 45, 0, 1] [
 ⟨some 4, none, .mv (.c (.nil))⟩])
 (.seq (.reg [0, 45, 0, 1] [
 ⟨some 5, none, .mv (.c (.sc (.int .i64 0)))⟩])
 (.seq (.block 0
 (.loop [0, 45, 0, 1, 5]
 (.seq (.seq (.reg [0, 45, 0, 1, 5] [
 ⟨some 6, none, .mv (.t 5)⟩, ⟨some 7, none, .mv (.t 0)⟩, ⟨some 8, none, .len (.t 7)⟩, ⟨some 9, none, .cmp .lss .i64 (.t 6) (.t 8)⟩, ⟨some 10, none, .mv (.t 9)⟩, ⟨some 11, some (10, true), .mv (.t 0)⟩, ⟨some 12, some (10, true), .mv (.t 5)⟩, ⟨some 13, some (10, true), .ixs 1 (.t 11) (.t 12)⟩, ⟨some 14, some (10, true), .ld false 1 (.t 13)⟩, ⟨some 15, some (10, true), .mv (.t 1)⟩, ⟨some 16, some (10, true), .cmp .lss .i64 (.t 14) (.t 15)⟩, ⟨some 17, none, .pick (.t 10) (.t 16) (.c (.sc (.bool false)))⟩])
 (.cut [0, 45, 0, 1, 5, 17] (.cond (.t 17)
 .skip
 (.exit 0))))
 (.block 1
 (.reg [0, 45, 0, 1, 5] [
 ⟨some 18, none, .mv (.t 5)⟩, ⟨some 19, none, .ari .add true .i64 (.t 18) (.c (.sc (.int .i64 1)))⟩, ⟨some 5, none, .mv (.t 19)⟩])))))
 (.seq (.seq (.reg [0, 45, 0, 1, 5] [
 ⟨some 20, none, .mv (.t 5)⟩, ⟨some 21, none, .mv (.t 0)⟩, ⟨some 22, none, .len (.t 21)⟩, ⟨some 23, none, .cmp .lss .i64 (.t 20) (.t 22)⟩, ⟨some 24, none, .mv (.t 23)⟩, ⟨some 25, some (24, true), .mv (.t 0)⟩, ⟨some 26, some (24, true), .mv (.t 5)⟩, ⟨some 27, some (24, true), .ixs 1 (.t 25) (.t 26)⟩, ⟨some 28, some (24, true), .ld false 1 (.t 27)⟩, ⟨some 29, some (24, true), .mv (.t 1)⟩, ⟨some 30, some (24, true), .cmp .eql .i64 (.t 28) (.t 29)⟩, ⟨some 31, none, .pick (.t 24) (.t 30) (.c (.sc (.bool false)))⟩])
 (.cut [0, 45, 0, 1, 5, 31] (.cond (.t 31)
 (.seq (.reg [0, 45, 0] [
 ⟨some 32, none, .mv (.t 0)⟩, ⟨some 4, none, .mv (.t 32)⟩])
 .ret)
 .skip)))
 (.seq (.drw [0, 45, 0, 1, 5] [
 ⟨⟨some 33, none, .bsl 1 3 [.sc (.int .i64 0)] 0 []⟩, [33], [39], true⟩, ⟨⟨some 34, none, .mv (.t 0)⟩, [], [33, 39], true⟩, ⟨⟨some 35, none, .mv (.t 5)⟩, [], [33, 39], true⟩, ⟨⟨some 36, none, .slc 1 (.t 34) none (some (.t 35))⟩, [], [33, 39], true⟩, ⟨⟨some 37, none, .app 1 3 8 (.t 33) (.t 36)⟩, [37, 33], [39], true⟩, ⟨⟨some 38, none, .mv (.t 1)⟩, [], [33, 37], true⟩, ⟨⟨some 39, none, .bsl 1 3 [.sc (.int .i64 0)] 1 [(0, (.t 38))]⟩, [39], [33, 37], true⟩, ⟨⟨some 40, none, .app 1 3 8 (.t 37) (.t 39)⟩, [40, 37, 33], [], true⟩, ⟨⟨some 41, none, .mv (.t 0)⟩, [], [33, 37, 39, 40], true⟩, ⟨⟨some 42, none, .mv (.t 5)⟩, [], [33, 37, 39, 40], true⟩, ⟨⟨some 43, none, .slc 1 (.t 41) (some (.t 42)) none⟩, [], [33, 37, 39, 40], true⟩, ⟨⟨some 44, none, .app 1 3 8 (.t 40) (.t 43)⟩, [], [], false⟩, ⟨⟨some 4, none, .mv (.t 44)⟩, [], [], false⟩])
 .ret)))))
def rv62 : List RV := [.tmp 4]
theorem ok62 : fnOk Try.prog ac62 rv62 Try.f62 = true := by kernel_rfl

def ac63 : AC :=
 (.seq (.reg [0, 15, 0] [
 ⟨some 1, none, .box (.t 0)⟩, ⟨some 2, none, .mv (.c (.sc (.int .i64 0)))⟩])
 (.seq (.drw [0, 15, 1] [
 ⟨⟨some 3, none, .fa 0 (.t 1)⟩, [], [], true⟩, ⟨⟨some 4, none, .ld false 1 (.t 3)⟩, [], [], true⟩, ⟨⟨some 5, none, .fa 1 (.t 1)⟩, [], [], true⟩, ⟨⟨some 6, none, .ld false 1 (.t 5)⟩, [], [], true⟩, ⟨⟨some 7, none, .ari .mul true .i64 (.t 4) (.t 6)⟩, [], [], true⟩, ⟨⟨some 8, none, .ld true 5 (.t 1)⟩, [], [], true⟩, ⟨⟨some 9, none, .cal 31 [(.t 8)]⟩, [], [], true⟩, ⟨⟨some 10, none, .ari .mul true .i64 (.t 7) (.t 9)⟩, [], [], true⟩, ⟨⟨some 11, none, .fa 3 (.t 1)⟩, [], [], true⟩, ⟨⟨some 12, none, .ld false 1 (.t 11)⟩, [], [], true⟩, ⟨⟨some 13, none, .ari .mul true .i64 (.c (.sc (.int .i64 2))) (.t 12)⟩, [], [], true⟩, ⟨⟨some 14, none, .ari .add true .i64 (.t 10) (.t 13)⟩, [], [], false⟩, ⟨⟨some 2, none, .mv (.t 14)⟩, [], [], false⟩])
 .ret))
def rv63 : List RV := [.tmp 2]
theorem ok63 : fnOk Try.prog ac63 rv63 Try.f63 = true := by kernel_rfl

def ac64 : AC :=
 (.seq (.reg [0, 9, 0, 1] [
 ⟨some 4, none, .mv (.c (.sc (.bool false)))⟩])
 (.seq (.reg [0, 9, 0, 1] [
 ⟨some 5, none, .mv (.t 0)⟩, ⟨some 6, none, .mv (.t 1)⟩, ⟨some 7, none, .cal 82 [(.t 5), (.t 6)]⟩, ⟨some 8, none, .cmp .geq .i64 (.t 7) (.c (.sc (.int .i64 0)))⟩, ⟨some 4, none, .mv (.t 8)⟩])
 .ret))
def rv64 : List RV := [.tmp 4]
theorem ok64 : fnOk Try.prog ac64 rv64 Try.f64 = true := by kernel_rfl

def ac65 : AC :=
 (.seq (.reg [0, 32, 0, 1, 2] [
 ⟨some 4, none, .mv (.c (.sc (.bool false)))⟩])
 (.seq (.reg [0, 32, 0, 1, 2] [
 ⟨some 6, none, .mv (.t 0)⟩, ⟨some 7, none, .ld false 1 (.t 1)⟩, ⟨some 8, none, .ari .sub false .i64 (.t 6) (.t 7)⟩, ⟨some 5, none, .mv (.t 8)⟩])
 (.seq (.reg [0, 32, 2, 5] [
 ⟨some 9, none, .mv (.t 5)⟩, ⟨some 10, none, .cmp .eql .i64 (.t 9) (.c (.sc (.int .i64 0)))⟩, ⟨some 11, none, .mv (.t 10)⟩, ⟨some 12, some (11, false), .mv (.t 5)⟩, ⟨some 13, some (11, false), .cmp .eql .i64 (.t 12) (.c (.sc (.int .i64 1)))⟩, ⟨some 14, some (11, false), .mv (.t 13)⟩, ⟨some 15, some (14, true), .fa 3 (.t 2)⟩, ⟨some 16, some (14, true), .ld false 1 (.t 15)⟩, ⟨some 17, some (14, true), .cmp .neq .i64 (.t 16) (.c (.sc (.int .i64 (-1))))⟩, ⟨some 18, some (11, false), .pick (.t 14) (.t 17) (.c (.sc (.bool false)))⟩, ⟨some 19, none, .pick (.t 11) (.c (.sc (.bool true))) (.t 18)⟩, ⟨some 20, none, .mv (.t 19)⟩, ⟨some 21, some (20, false), .mv (.t 5)⟩, ⟨some 22, some (20, false), .cmp .geq .i64 (.t 21) (.c (.sc (.int .i64 2)))⟩, ⟨some 23, some (20, false), .mv (.t 22)⟩, ⟨some 24, some (23, true), .mv (.t 5)⟩, ⟨some 25, some (23, true), .fa 0 (.t 2)⟩, ⟨some 26, some (23, true), .ld false 1 (.t 25)⟩, ⟨some 27, some (23, true), .len (.t 26)⟩, ⟨some 28, some (23, true), .ari .add false .i64 (.c (.sc (.int .i64 2))) (.t 27)⟩, ⟨some 29, some (23, true), .cmp .lss .i64 (.t 24) (.t 28)⟩, ⟨some 30, some (20, false), .pick (.t 23) (.t 29) (.c (.sc (.bool false)))⟩, ⟨some 31, none, .pick (.t 20) (.c (.sc (.bool true))) (.t 30)⟩, ⟨some 4, none, .mv (.t 31)⟩])
 .ret)))
def rv65 : List RV := [.tmp 4]
theorem ok65 : fnOk Try.prog ac65 rv65 Try.f65 = true := by kernel_rfl

def ac66 : AC :=
 (.seq (.reg [0, 16, 0] [
 ⟨some 1, none, .box (.t 0)⟩, ⟨some 2, none, .mv (.c (.sc (.bool false)))⟩])
 (.seq (.reg [0, 16, 1] [
 ⟨some 3, none, .fa 0 (.t 1)⟩, ⟨some 4, none, .fa 0 (.t 3)⟩, ⟨some 5, none, .ld false 1 (.t 4)⟩, ⟨some 6, none, .len (.t 5)⟩, ⟨some 7, none, .fa 0 (.t 1)⟩, ⟨some 8, none, .fa 2 (.t 7)⟩, ⟨some 9, none, .ld false 1 (.t 8)⟩, ⟨some 10, none, .len (.t 9)⟩, ⟨some 11, none, .mn true (.t 6) (.t 10)⟩, ⟨some 12, none, .fa 4 (.t 1)⟩, ⟨some 13, none, .fa 3 (.t 12)⟩, ⟨some 14, none, .ld false 1 (.t 13)⟩, ⟨some 15, none, .cmp .leq .i64 (.t 11) (.t 14)⟩, ⟨some 2, none, .mv (.t 15)⟩])
 .ret))
def rv66 : List RV := [.tmp 2]
theorem ok66 : fnOk Try.prog ac66 rv66 Try.f66 = true := by kernel_rfl

def ac67 : AC :=
 (.seq (.reg [0, 44, 0, 1] [
 ⟨some 2, none, .box (.t 0)⟩, ⟨some 4, none, .mv (.c (.sc (.bool false)))⟩])
 (.seq (.reg [0, 44, 1, 2] [
 ⟨some 8, none, .fa 4 (.t 2)⟩, ⟨some 9, none, .fa 4 (.t 8)⟩, ⟨some 10, none, .ld false 1 (.t 9)⟩, ⟨some 11, none, .len (.t 10)⟩, ⟨some 12, none, .mks 1 4 1 [.sc (.bool false)] (.t 11) (.t 11)⟩, ⟨some 5, none, .mv (.t 12)⟩])
 (.seq (.seq (.reg [0, 44, 1, 2, 5] [
 ⟨some 13, none, .mv (.t 1)⟩, ⟨some 14, none, .len (.t 13)⟩, ⟨some 15, none, .mv (.c (.sc (.int .i64 0)))⟩])
 (.block 0
 (.loop [0, 44, 1, 2, 5, 13, 14, 15]
 (.seq (.reg [0, 44, 1, 2, 5, 13, 14, 15] [
 ⟨some 16, none, .cmp .lss .i64 (.t 15) (.t 14)⟩])
 (.seq (.cond (.t 16)
 .skip
 (.exit 0))
 (.seq (.block 1
 (.seq (.reg [0, 44, 1, 2, 5, 13, 14, 15] [
 ⟨some 17, none, .ixs 1 (.t 13) (.t 15)⟩, ⟨some 18, none, .ld false 1 (.t 17)⟩, ⟨some 7, none, .mv (.t 18)⟩])
 (.seq (.seq (.reg [0, 44, 1, 2, 5, 7, 13, 14, 15] [
 ⟨some 19, none, .mv (.t 7)⟩, ⟨some 20, none, .cmp .lss .i64 (.t 19) (.c (.sc (.int .i64 0)))⟩, ⟨some 21, none, .mv (.t 20)⟩, ⟨some 22, some (21, false), .mv (.t 7)⟩, ⟨some 23, some (21, false), .mv (.t 5)⟩, ⟨some 24, some (21, false), .len (.t 23)⟩, ⟨some 25, some (21, false), .cmp .geq .i64 (.t 22) (.t 24)⟩, ⟨some 26, none, .pick (.t 21) (.c (.sc (.bool true))) (.t 25)⟩, ⟨some 27, none, .mv (.t 26)⟩, ⟨some 28, some (27, false), .mv (.t 5)⟩, ⟨some 29, some (27, false), .mv (.t 7)⟩, ⟨some 30, some (27, false), .ixs 1 (.t 28) (.t 29)⟩, ⟨some 31, some (27, false), .ld false 1 (.t 30)⟩, ⟨some 32, none, .pick (.t 27) (.c (.sc (.bool true))) (.t 31)⟩])
 (.cut [0, 44, 1, 2, 5, 7, 13, 14, 15, 32] (.cond (.t 32)
 (.seq (.reg [0, 44] [
 ⟨some 4, none, .mv (.c (.sc (.bool false)))⟩])
 .ret)
 .skip)))
 (.reg [0, 44, 1, 2, 5, 7, 13, 14, 15] [
 ⟨some 33, none, .mv (.t 5)⟩, ⟨some 34, none, .mv (.t 7)⟩, ⟨some 35, none, .ixs 1 (.t 33) (.t 34)⟩, ⟨none, none, .sto 1 (.t 35) (.c (.sc (.bool true)))⟩]))))
 (.reg [0, 44, 1, 2, 5, 13, 14, 15] [
 ⟨some 36, none, .ari .add true .i64 (.t 15) (.c (.sc (.int .i64 1)))⟩, ⟨some 15, none, .mv (.t 36)⟩])))))))
 (.seq (.reg [0, 44, 1, 2] [
 ⟨some 37, none, .mv (.t 1)⟩, ⟨some 38, none, .len (.t 37)⟩, ⟨some 39, none, .fa 0 (.t 2)⟩, ⟨some 40, none, .fa 1 (.t 39)⟩, ⟨some 41, none, .ld false 1 (.t 40)⟩, ⟨some 42, none, .len (.t 41)⟩, ⟨some 43, none, .cmp .eql .i64 (.t 38) (.t 42)⟩, ⟨some 4, none, .mv (.t 43)⟩])
 .ret))))
def rv67 : List RV := [.tmp 4]
theorem ok67 : fnOk Try.prog ac67 rv67 Try.f67 = true := by kernel_rfl

def ac68 : AC :=
 (.seq (.reg [0, 88, 0, 1] [
 ⟨some 2, none, .box (.t 0)⟩, ⟨some 3, none, .box (.t 1)⟩, ⟨some 4, none, .mv (.c (.sc (.int .i64 0)))⟩])
 (.seq (.reg [0, 88, 2, 3] [
 ⟨some 16, none, .mkm (.int .i64)⟩, ⟨some 5, none, .alc [.sc (.map none)]⟩, ⟨none, none, .sto 1 (.t 5) (.t 16)⟩])
 (.seq (.seq (.reg [0, 88, 2, 3, 5] [
 ⟨some 17, none, .ld true 11 (.t 2)⟩, ⟨some 18, none, .ld false 1 (.t 3)⟩, ⟨some 19, none, .clm 83 [(.t 17), (.t 18)]⟩])
 (.block 0
 (.rngf ⟨(.t 19), 0, 88, 1000, [0, 88, 2, 3, 5, 19], 999⟩ [1020, 1021]
 (.seq (.reg [1000, 88, 1002, 1003, 1005, 1020, 1021] [
 ⟨some 1006, none, .mv (.t 1020)⟩])
 (.reg [1000, 88, 1002, 1003, 1005, 1006, 1021] [
 ⟨some 1007, none, .alc [.sc (.int .i64 0), .sc (.int .i64 0)]⟩, ⟨none, none, .sto 2 (.t 1007) (.t 1021)⟩]))
 (.block 1
 (.seq (.reg [1000, 88, 1002, 1003, 1005, 1006, 1007] [
 ⟨some 1023, none, .ld false 1 (.t 1005)⟩, ⟨some 1024, none, .mv (.t 1006)⟩, ⟨some 1025, none, .mlk (.int .i64) true (.agg [.sc (.int .i64 0), .sc (.int .i64 0), .sc (.int .i64 0), .sc (.int .i64 0)]) (.t 1023) (.t 1024)⟩, ⟨some 1022, none, .mv (.t 1025)⟩, ⟨some 1026, none, .ext (.t 1022) 0⟩, ⟨some 1027, none, .ext (.t 1022) 1⟩, ⟨some 1008, none, .alc [.sc (.int .i64 0), .sc (.int .i64 0), .sc (.int .i64 0), .sc (.int .i64 0)]⟩, ⟨none, none, .sto 4 (.t 1008) (.t 1026)⟩, ⟨some 1009, none, .mv (.t 1027)⟩])
 (.seq (.seq (.reg [1000, 88, 1002, 1003, 1005, 1006, 1007, 1008, 1009] [
 ⟨some 1028, none, .mv (.t 1009)⟩, ⟨some 1029, none, .not (.t 1028)⟩])
 (.cond (.t 1029)
 (.seq (.reg [1000, 88, 1002, 1003, 1005, 1006, 1007, 1008] [
 ⟨some 1030, none, .ld true 11 (.t 1002)⟩, ⟨some 1031, none, .ld false 1 (.t 1003)⟩, ⟨some 1032, none, .mv (.t 1006)⟩, ⟨some 1033, none, .cal 84 [(.t 1030), (.t 1031), (.t 1032)]⟩, ⟨some 1010, none, .alc [.sc (.int .i64 0), .sc (.int .i64 0)]⟩, ⟨none, none, .sto 2 (.t 1010) (.t 1033)⟩])
 (.reg [1000, 88, 1005, 1006, 1007, 1008, 1010] [
 ⟨some 1034, none, .ld true 2 (.t 1010)⟩, ⟨some 1035, none, .ld true 2 (.t 1010)⟩, ⟨some 1036, none, .bld [.sc (.int .i64 0), .sc (.int .i64 0), .sc (.int .i64 0), .sc (.int .i64 0)] [(0, 2, (.t 1034)), (2, 2, (.t 1035))]⟩, ⟨none, none, .sto 4 (.t 1008) (.t 1036)⟩]))
 .skip))
 (.seq (.seq (.reg [1000, 88, 1005, 1006, 1007, 1008] [
 ⟨some 1037, none, .ld true 2 (.t 1007)⟩, ⟨some 1038, none, .mv (.c (.sc (.int .i64 0)))⟩])
 (.block 2
 (.loop [1000, 88, 1005, 1006, 1008, 1037, 1038]
 (.seq (.reg [1000, 88, 1005, 1006, 1008, 1037, 1038] [
 ⟨some 1039, none, .cmp .lss .i64 (.t 1038) (.c (.sc (.int .i64 2)))⟩])
 (.seq (.cond (.t 1039)
 .skip
 (.exit 2))
 (.seq (.block 3
 (.seq (.reg [1000, 88, 1005, 1006, 1008, 1037, 1038] [
 ⟨some 1040, none, .mv (.t 1038)⟩, ⟨some 1041, none, .ixv false 2 1 (.t 1037) (.t 1038)⟩, ⟨some 1011, none, .mv (.t 1040)⟩, ⟨some 1012, none, .mv (.t 1041)⟩])
 (.drw [1000, 88, 1005, 1006, 1008, 1011, 1012, 1037, 1038] [
 ⟨⟨some 1042, none, .mv (.t 1011)⟩, [], [], true⟩, ⟨⟨some 1043, none, .mv (.t 1011)⟩, [], [], true⟩, ⟨⟨some 1044, none, .mv (.t 1011)⟩, [], [], true⟩, ⟨⟨some 1045, none, .fa 0 (.t 1008)⟩, [], [], true⟩, ⟨⟨some 1046, none, .ixa 2 1 (.t 1045) (.t 1044)⟩, [], [], true⟩, ⟨⟨some 1047, none, .ld false 1 (.t 1046)⟩, [], [], true⟩, ⟨⟨some 1048, none, .mv (.t 1012)⟩, [], [], true⟩, ⟨⟨some 1049, none, .mn false (.t 1047) (.t 1048)⟩, [], [], true⟩, ⟨⟨some 1050, none, .mv (.t 1011)⟩, [], [], true⟩, ⟨⟨some 1051, none, .fa 2 (.t 1008)⟩, [], [], true⟩, ⟨⟨some 1052, none, .ixa 2 1 (.t 1051) (.t 1050)⟩, [], [], true⟩, ⟨⟨some 1053, none, .ld false 1 (.t 1052)⟩, [], [], true⟩, ⟨⟨some 1054, none, .mv (.t 1012)⟩, [], [], true⟩, ⟨⟨some 1055, none, .mn true (.t 1053) (.t 1054)⟩, [], [], true⟩, ⟨⟨some 1056, none, .fa 0 (.t 1008)⟩, [], [], true⟩, ⟨⟨some 1057, none, .ixa 2 1 (.t 1056) (.t 1042)⟩, [], [], true⟩, ⟨⟨none, none, .sto 1 (.t 1057) (.t 1049)⟩, [], [], true⟩, ⟨⟨some 1058, none, .fa 2 (.t 1008)⟩, [], [], true⟩, ⟨⟨some 1059, none, .ixa 2 1 (.t 1058) (.t 1043)⟩, [], [], false⟩, ⟨⟨none, none, .sto 1 (.t 1059) (.t 1055)⟩, [], [], false⟩])))
 (.reg [1000, 88, 1005, 1006, 1008, 1037, 1038] [
 ⟨some 1060, none, .ari .add true .i64 (.t 1038) (.c (.sc (.int .i64 1)))⟩, ⟨some 1038, none, .mv (.t 1060)⟩])))))))
 (.reg [1000, 88, 1005, 1006, 1008] [
 ⟨some 1061, none, .ld false 1 (.t 1005)⟩, ⟨some 1062, none, .mv (.t 1006)⟩, ⟨some 1063, none, .ld true 4 (.t 1008)⟩, ⟨none, none, .mup (.int .i64) (.t 1061) (.t 1062) (.t 1063)⟩]))))))))
 (.seq (.reg [0, 88, 5] [
 ⟨some 13, none, .mv (.c (.sc (.int .i64 0)))⟩])
 (.seq (.seq (.reg [0, 88, 5, 13] [
 ⟨some 64, none, .ld false 1 (.t 5)⟩, ⟨some 65, none, .rng (.t 64)⟩])
 (.block 4
 (.loop [0, 88, 13, 65]
 (.seq (.reg [0, 88, 13, 65] [
 ⟨some 66, none, .nxt (.t 65)⟩, ⟨some 67, none, .ext (.t 66) 0⟩])
 (.seq (.cond (.t 67)
 .skip
 (.exit 4))
 (.block 5
 (.seq (.reg [0, 88, 13, 65] [
 ⟨some 68, none, .ent (.t 65)⟩, ⟨some 69, none, .ext (.t 68) 1⟩, ⟨some 15, none, .alc [.sc (.int .i64 0), .sc (.int .i64 0), .sc (.int .i64 0), .sc (.int .i64 0)]⟩, ⟨none, none, .sto 4 (.t 15) (.t 69)⟩])
 (.reg [0, 88, 13, 15, 65] [
 ⟨some 70, none, .mv (.t 13)⟩, ⟨some 71, none, .fa 2 (.t 15)⟩, ⟨some 72, none, .ixa 2 1 (.t 71) (.c (.sc (.int .i64 0)))⟩, ⟨some 73, none, .ld false 1 (.t 72)⟩, ⟨some 74, none, .fa 0 (.t 15)⟩, ⟨some 75, none, .ixa 2 1 (.t 74) (.c (.sc (.int .i64 0)))⟩, ⟨some 76, none, .ld false 1 (.t 75)⟩, ⟨some 77, none, .ari .sub true .i64 (.t 73) (.t 76)⟩, ⟨some 78, none, .fa 2 (.t 15)⟩, ⟨some 79, none, .ixa 2 1 (.t 78) (.c (.sc (.int .i64 1)))⟩, ⟨some 80, none, .ld false 1 (.t 79)⟩, ⟨some 81, none, .ari .add true .i64 (.t 77) (.t 80)⟩, ⟨some 82, none, .fa 0 (.t 15)⟩, ⟨some 83, none, .ixa 2 1 (.t 82) (.c (.sc (.int .i64 1)))⟩, ⟨some 84, none, .ld false 1 (.t 83)⟩, ⟨some 85, none, .ari .sub true .i64 (.t 81) (.t 84)⟩, ⟨some 86, none, .ari .add true .i64 (.t 70) (.t 85)⟩, ⟨some 13, none, .mv (.t 86)⟩]))))))))
 (.seq (.reg [0, 88, 13] [
 ⟨some 87, none, .mv (.t 13)⟩, ⟨some 4, none, .mv (.t 87)⟩])
 .ret))))))
def rv68 : List RV := [.tmp 4]
theorem ok68 : fnOk Try.prog ac68 rv68 Try.f68 = true := by kernel_rfl

def ac69 : AC :=
 (.seq (.reg [0, 11, 0] [
 ⟨some 1, none, .box (.t 0)⟩, ⟨some 2, none, .mv (.c (.sc (.int .i64 0)))⟩])
 (.seq (.reg [0, 11, 1] [
 ⟨some 3, none, .fa 0 (.t 1)⟩, ⟨some 4, none, .ld false 1 (.t 3)⟩, ⟨some 5, none, .len (.t 4)⟩, ⟨some 6, none, .fa 1 (.t 1)⟩, ⟨some 7, none, .ld false 1 (.t 6)⟩, ⟨some 8, none, .len (.t 7)⟩, ⟨some 9, none, .ari .mul true .i64 (.c (.sc (.int .i64 2))) (.t 8)⟩, ⟨some 10, none, .ari .add true .i64 (.t 5) (.t 9)⟩, ⟨some 2, none, .mv (.t 10)⟩])
 .ret))
def rv69 : List RV := [.tmp 2]
theorem ok69 : fnOk Try.prog ac69 rv69 Try.f69 = true := by kernel_rfl

def ac75 : AC :=
 (.seq (.reg [0, 16, 0, 1] [
 ⟨some 2, none, .box (.t 0)⟩, ⟨some 4, none, .mv (.c (.sc (.int .i64 0)))⟩])
 (.seq (.seq (.reg [0, 16, 1, 2] [
 ⟨some 5, none, .mv (.t 1)⟩, ⟨some 6, none, .fa 0 (.t 2)⟩, ⟨some 7, none, .ld false 1 (.t 6)⟩, ⟨some 8, none, .len (.t 7)⟩, ⟨some 9, none, .cmp .lss .i64 (.t 5) (.t 8)⟩])
 (.cond (.t 9)
 (.seq (.reg [0, 16] [
 ⟨some 4, none, .mv (.c (.sc (.int .i64 (-1))))⟩])
 .ret)
 .skip))
 (.seq (.reg [0, 16, 1, 2] [
 ⟨some 10, none, .mv (.t 1)⟩, ⟨some 11, none, .fa 0 (.t 2)⟩, ⟨some 12, none, .ld false 1 (.t 11)⟩, ⟨some 13, none, .len (.t 12)⟩, ⟨some 14, none, .ari .sub true .i64 (.t 10) (.t 13)⟩, ⟨some 15, none, .dvd .quo true .i64 (.t 14) (.c (.sc (.int .i64 2)))⟩, ⟨some 4, none, .mv (.t 15)⟩])
 .ret)))
def rv75 : List RV := [.tmp 4]
theorem ok75 : fnOk Try.prog ac75 rv75 Try.f75 = true := by kernel_rfl

def ac76 : AC :=
 (.seq (.reg [0, 13, 0] [
 ⟨some 1, none, .box (.t 0)⟩, ⟨some 2, none, .mv (.c (.sc (.int .i64 0)))⟩])
 (.seq (.reg [0, 13, 1] [
 ⟨some 3, none, .fa 0 (.t 1)⟩, ⟨some 4, none, .fa 0 (.t 3)⟩, ⟨some 5, none, .ld false 1 (.t 4)⟩, ⟨some 6, none, .len (.t 5)⟩, ⟨some 7, none, .fa 0 (.t 1)⟩, ⟨some 8, none, .fa 1 (.t 7)⟩, ⟨some 9, none, .ld false 1 (.t 8)⟩, ⟨some 10, none, .len (.t 9)⟩, ⟨some 11, none, .ari .mul true .i64 (.c (.sc (.int .i64 2))) (.t 10)⟩, ⟨some 12, none, .ari .add true .i64 (.t 6) (.t 11)⟩, ⟨some 2, none, .mv (.t 12)⟩])
 .ret))
def rv76 : List RV := [.tmp 2]
theorem ok76 : fnOk Try.prog ac76 rv76 Try.f76 = true := by kernel_rfl

def ac77 : AC :=
 (.seq (.reg [0, 27, 0, 1] [
 ⟨some 2, none, .box (.t 0)⟩, ⟨some 4, none, .mv (.c (.sc (.int .i64 0)))⟩, ⟨some 5, none, .mv (.c (.sc (.bool false)))⟩])
 (.seq (.seq (.reg [0, 27, 1, 2] [
 ⟨some 6, none, .mv (.t 1)⟩, ⟨some 7, none, .fa 0 (.t 2)⟩, ⟨some 8, none, .fa 0 (.t 7)⟩, ⟨some 9, none, .ld false 1 (.t 8)⟩, ⟨some 10, none, .len (.t 9)⟩, ⟨some 11, none, .cmp .lss .i64 (.t 6) (.t 10)⟩])
 (.cond (.t 11)
 (.seq (.reg [0, 27] [
 ⟨some 4, none, .mv (.c (.sc (.int .i64 (-1))))⟩, ⟨some 5, none, .mv (.c (.sc (.bool false)))⟩])
 .ret)
 .skip))
 (.seq (.drw [0, 27, 1, 2] [
 ⟨⟨some 12, none, .mv (.t 1)⟩, [], [], true⟩, ⟨⟨some 13, none, .fa 0 (.t 2)⟩, [], [], true⟩, ⟨⟨some 14, none, .fa 0 (.t 13)⟩, [], [], true⟩, ⟨⟨some 15, none, .ld false 1 (.t 14)⟩, [], [], true⟩, ⟨⟨some 16, none, .len (.t 15)⟩, [], [], true⟩, ⟨⟨some 17, none, .ari .sub true .i64 (.t 12) (.t 16)⟩, [], [], true⟩, ⟨⟨some 18, none, .dvd .quo true .i64 (.t 17) (.c (.sc (.int .i64 2)))⟩, [], [], true⟩, ⟨⟨some 19, none, .mv (.t 1)⟩, [], [], true⟩, ⟨⟨some 20, none, .fa 0 (.t 2)⟩, [], [], true⟩, ⟨⟨some 21, none, .fa 0 (.t 20)⟩, [], [], true⟩, ⟨⟨some 22, none, .ld false 1 (.t 21)⟩, [], [], true⟩, ⟨⟨some 23, none, .len (.t 22)⟩, [], [], true⟩, ⟨⟨some 24, none, .ari .sub true .i64 (.t 19) (.t 23)⟩, [], [], true⟩, ⟨⟨some 25, none, .dvd .rem true .i64 (.t 24) (.c (.sc (.int .i64 2)))⟩, [], [], true⟩, ⟨⟨some 26, none, .cmp .eql .i64 (.t 25) (.c (.sc (.int .i64 1)))⟩, [], [], true⟩, ⟨⟨some 4, none, .mv (.t 18)⟩, [], [], true⟩, ⟨⟨some 5, none, .mv (.t 26)⟩, [], [], false⟩])
 .ret)))
def rv77 : List RV := [.tmp 4, .tmp 5]
theorem ok77 : fnOk Try.prog ac77 rv77 Try.f77 = true := by kernel_rfl

def ac78 : AC :=
 (.seq (.reg [0, 19, 0, 1] [
 ⟨some 4, none, .mv (.c (.sc (.int .i64 0)))⟩])
 (.seq (.seq (.reg [0, 19, 0, 1] [
 ⟨some 6, none, .mv (.t 0)⟩, ⟨some 7, none, .len (.t 6)⟩, ⟨some 8, none, .mv (.c (.sc (.int .i64 0)))⟩])
 (.block 0
 (.loop [0, 19, 0, 1, 7, 8]
 (.seq (.reg [0, 19, 0, 1, 7, 8] [
 ⟨some 9, none, .cmp .lss .i64 (.t 8) (.t 7)⟩])
 (.seq (.cond (.t 9)
 .skip
 (.exit 0))
 (.seq (.block 1
 (.seq (.reg [0, 19, 0, 1, 7, 8] [
 ⟨some 10, none, .mv (.t 8)⟩, ⟨some 5, none, .mv (.t 10)⟩])
 (.seq (.reg [0, 19, 0, 1, 5, 7, 8] [
 ⟨some 11, none, .mv (.t 1)⟩, ⟨some 12, none, .mv (.t 0)⟩, ⟨some 13, none, .mv (.t 5)⟩, ⟨some 14, none, .ixs 1 (.t 12) (.t 13)⟩, ⟨some 15, none, .ld false 1 (.t 14)⟩, ⟨some 16, none, .clv (.t 11) [(.t 15)]⟩])
 (.cond (.t 16)
 (.seq (.reg [0, 19, 5] [
 ⟨some 17, none, .mv (.t 5)⟩, ⟨some 4, none, .mv (.t 17)⟩])
 .ret)
 .skip))))
 (.reg [0, 19, 0, 1, 7, 8] [
 ⟨some 18, none, .ari .add true .i64 (.t 8) (.c (.sc (.int .i64 1)))⟩, ⟨some 8, none, .mv (.t 18)⟩])))))))
 (.seq (.reg [0, 19] [
 ⟨some 4, none, .mv (.c (.sc (.int .i64 (-1))))⟩])
 .ret)))
def rv78 : List RV := [.tmp 4]
theorem ok78 : fnOk Try.prog ac78 rv78 Try.f78 = true := by kernel_rfl

def ac79 : AC :=
 (.seq (.reg [0, 19, 0, 1] [
 ⟨some 4, none, .mv (.c (.sc (.int .i64 0)))⟩])
 (.seq (.seq (.reg [0, 19, 0, 1] [
 ⟨some 6, none, .mv (.t 0)⟩, ⟨some 7, none, .len (.t 6)⟩, ⟨some 8, none, .mv (.c (.sc (.int .i64 0)))⟩])
 (.block 0
 (.loop [0, 19, 0, 1, 7, 8]
 (.seq (.reg [0, 19, 0, 1, 7, 8] [
 ⟨some 9, none, .cmp .lss .i64 (.t 8) (.t 7)⟩])
 (.seq (.cond (.t 9)
 .skip
 (.exit 0))
 (.seq (.block 1
 (.seq (.reg [0, 19, 0, 1, 7, 8] [
 ⟨some 10, none, .mv (.t 8)⟩, ⟨some 5, none, .mv (.t 10)⟩])
 (.seq (.reg [0, 19, 0, 1, 5, 7, 8] [
 ⟨some 11, none, .mv (.t 1)⟩, ⟨some 12, none, .mv (.t 0)⟩, ⟨some 13, none, .mv (.t 5)⟩, ⟨some 14, none, .ixs 3 (.t 12) (.t 13)⟩, ⟨some 15, none, .ld true 3 (.t 14)⟩, ⟨some 16, none, .clv (.t 11) [(.t 15)]⟩])
 (.cond (.t 16)
 (.seq (.reg [0, 19, 5] [
 ⟨some 17, none, .mv (.t 5)⟩, ⟨some 4, none, .mv (.t 17)⟩])
 .ret)
 .skip))))
 (.reg [0, 19, 0, 1, 7, 8] [
 ⟨some 18, none, .ari .add true .i64 (.t 8) (.c (.sc (.int .i64 1)))⟩, ⟨some 8, none, .mv (.t 18)⟩])))))))
 (.seq (.reg [0, 19] [
 ⟨some 4, none, .mv (.c (.sc (.int .i64 (-1))))⟩])
 .ret)))
def rv79 : List RV := [.tmp 4]
theorem ok79 : fnOk Try.prog ac79 rv79 Try.f79 = true := by kernel_rfl

def ac80 : AC :=
 (.seq (.reg [0, 15, 0, 1, 2] [
 ⟨some 6, none, .mv (.c (.sc (.bool false)))⟩])
 (.seq (.reg [0, 15, 0, 1, 2] [
 ⟨some 7, none, .mv (.t 0)⟩, ⟨some 8, none, .mv (.t 1)⟩, ⟨some 9, none, .cmp .geq .i64 (.t 7) (.t 8)⟩, ⟨some 10, none, .mv (.t 9)⟩, ⟨some 11, some (10, true), .mv (.t 0)⟩, ⟨some 12, some (10, true), .mv (.t 2)⟩, ⟨some 13, some (10, true), .cmp .leq .i64 (.t 11) (.t 12)⟩, ⟨some 14, none, .pick (.t 10) (.t 13) (.c (.sc (.bool false)))⟩, ⟨some 6, none, .mv (.t 14)⟩])
 .ret))
def rv80 : List RV := [.tmp 6]
theorem ok80 : fnOk Try.prog ac80 rv80 Try.f80 = true := by kernel_rfl

def ac82 : AC :=
 (.seq (.reg [0, 19, 0, 1] [
 ⟨some 4, none, .mv (.c (.sc (.int .i64 0)))⟩])
 (.seq (.seq (.reg [0, 19, 0, 1] [
 ⟨some 6, none, .mv (.t 0)⟩, ⟨some 7, none, .len (.t 6)⟩, ⟨some 8, none, .mv (.c (.sc (.int .i64 0)))⟩])
 (.block 0
 (.loop [0, 19, 0, 1, 7, 8]
 (.seq (.reg [0, 19, 0, 1, 7, 8] [
 ⟨some 9, none, .cmp .lss .i64 (.t 8) (.t 7)⟩])
 (.seq (.cond (.t 9)
 .skip
 (.exit 0))
 (.seq (.block 1
 (.seq (.reg [0, 19, 0, 1, 7, 8] [
 ⟨some 10, none, .mv (.t 8)⟩, ⟨some 5, none, .mv (.t 10)⟩])
 (.seq (.reg [0, 19, 0, 1, 5, 7, 8] [
 ⟨some 11, none, .mv (.t 1)⟩, ⟨some 12, none, .mv (.t 0)⟩, ⟨some 13, none, .mv (.t 5)⟩, ⟨some 14, none, .ixs 1 (.t 12) (.t 13)⟩, ⟨some 15, none, .ld false 1 (.t 14)⟩, ⟨some 16, none, .cmp .eql .i64 (.t 11) (.t 15)⟩])
 (.cond (.t 16)
 (.seq (.reg [0, 19, 5] [
 ⟨some 17, none, .mv (.t 5)⟩, ⟨some 4, none, .mv (.t 17)⟩])
 .ret)
 .skip))))
 (.reg [0, 19, 0, 1, 7, 8] [
 ⟨some 18, none, .ari .add true .i64 (.t 8) (.c (.sc (.int .i64 1)))⟩, ⟨some 8, none, .mv (.t 18)⟩])))))))
 (.seq (.reg [0, 19] [
 ⟨some 4, none, .mv (.c (.sc (.int .i64 (-1))))⟩])
 .ret)))
def rv82 : List RV := [.tmp 4]
theorem ok82 : fnOk Try.prog ac82 rv82 Try.f82 = true := by kernel_rfl

def ac84 : AC :=
 (.seq (.reg [0, 29, 0, 1, 2] [
 ⟨some 3, none, .box (.t 0)⟩, ⟨some 6, none, .alc [.sc (.int .i64 0), .sc (.int .i64 0)]⟩])
 (.seq (.seq (.reg [0, 29, 1, 2, 3, 6] [
 ⟨some 8, none, .mv (.t 2)⟩, ⟨some 9, none, .fa 0 (.t 3)⟩, ⟨some 10, none, .fa 0 (.t 9)⟩, ⟨some 11, none, .ld false 1 (.t 10)⟩, ⟨some 12, none, .len (.t 11)⟩, ⟨some 13, none, .ari .sub true .i64 (.t 8) (.t 12)⟩, ⟨some 7, none, .mv (.t 13)⟩])
 (.seq (.reg [0, 29, 1, 2, 3, 6, 7] [
 ⟨some 14, none, .mv (.t 7)⟩, ⟨some 15, none, .cmp .geq .i64 (.t 14) (.c (.sc (.int .i64 0)))⟩])
 (.cond (.t 15)
 (.seq (.drw [0, 29, 1, 3, 6, 7] [
 ⟨⟨some 16, none, .ld true 11 (.t 3)⟩, [], [], true⟩, ⟨⟨some 17, none, .mv (.t 1)⟩, [], [], true⟩, ⟨⟨some 18, none, .mv (.t 7)⟩, [], [], true⟩, ⟨⟨some 19, none, .dvd .quo true .i64 (.t 18) (.c (.sc (.int .i64 2)))⟩, [], [], true⟩, ⟨⟨some 20, none, .ixs 1 (.t 17) (.t 19)⟩, [], [], true⟩, ⟨⟨some 21, none, .ld false 1 (.t 20)⟩, [], [], true⟩, ⟨⟨some 22, none, .cal 91 [(.t 16), (.t 21)]⟩, [], [], false⟩, ⟨⟨none, none, .sto 2 (.t 6) (.t 22)⟩, [], [], false⟩])
 .ret)
 .skip)))
 (.seq (.reg [0, 29, 2, 3, 6] [
 ⟨some 23, none, .mv (.t 2)⟩, ⟨some 24, none, .fa 4 (.t 3)⟩, ⟨some 25, none, .fa 1 (.t 24)⟩, ⟨some 26, none, .ld false 1 (.t 25)⟩, ⟨some 27, none, .dvd .rem true .i64 (.t 23) (.t 26)⟩, ⟨some 28, none, .bld [.sc (.int .i64 0), .sc (.int .i64 0)] [(0, 1, (.c (.sc (.int .i64 (-1))))), (1, 1, (.t 27))]⟩, ⟨none, none, .sto 2 (.t 6) (.t 28)⟩])
 .ret)))
def rv84 : List RV := [.cell 6 true 2]
theorem ok84 : fnOk Try.prog ac84 rv84 Try.f84 = true := by kernel_rfl

def ac87 : AC :=
 (.seq (.reg [0, 30, 0, 1] [
 ⟨some 4, none, .mv (.c (.sc (.int .u64 0)))⟩, ⟨some 5, none, .mv (.c (.sc (.int .u64 0)))⟩])
 (.seq (.cond (.c (.sc (.bool false)))
 (.seq (.reg [0, 30, 0, 1] [
 ⟨some 11, none, .mv (.t 0)⟩, ⟨some 12, none, .cnv true .u32 (.t 11)⟩, ⟨some 13, none, .mv (.t 1)⟩, ⟨some 14, none, .cnv true .u32 (.t 13)⟩, ⟨some 15, none, .cal 94 [(.t 12), (.t 14)]⟩, ⟨some 10, none, .mv (.t 15)⟩, ⟨some 16, none, .ext (.t 10) 0⟩, ⟨some 17, none, .ext (.t 10) 1⟩, ⟨some 6, none, .mv (.t 16)⟩, ⟨some 7, none, .mv (.t 17)⟩])
 (.seq (.reg [0, 30, 6, 7] [
 ⟨some 18, none, .mv (.t 6)⟩, ⟨some 19, none, .cnv true .u64 (.t 18)⟩, ⟨some 20, none, .mv (.t 7)⟩, ⟨some 21, none, .cnv true .u64 (.t 20)⟩, ⟨some 4, none, .mv (.t 19)⟩, ⟨some 5, none, .mv (.t 21)⟩])
 .ret))
 .skip)
 (.seq (.reg [0, 30, 0, 1] [
 ⟨some 23, none, .mv (.t 0)⟩, ⟨some 24, none, .mv (.t 1)⟩, ⟨some 25, none, .cal 95 [(.t 23), (.t 24)]⟩, ⟨some 22, none, .mv (.t 25)⟩, ⟨some 26, none, .ext (.t 22) 0⟩, ⟨some 27, none, .ext (.t 22) 1⟩, ⟨some 8, none, .mv (.t 26)⟩, ⟨some 9, none, .mv (.t 27)⟩])
 (.seq (.reg [0, 30, 8, 9] [
 ⟨some 28, none, .mv (.t 8)⟩, ⟨some 29, none, .mv (.t 9)⟩, ⟨some 4, none, .mv (.t 28)⟩, ⟨some 5, none, .mv (.t 29)⟩])
 .ret))))
def rv87 : List RV := [.tmp 4, .tmp 5]
theorem ok87 : fnOk Try.prog ac87 rv87 Try.f87 = true := by kernel_rfl

def ac89 : AC :=
 (.seq (.reg [0, 52, 0] [
 ⟨some 1, none, .box (.t 0)⟩, ⟨some 2, none, .mv (.c (.nil))⟩])
 (.seq (.reg [0, 52, 1] [
 ⟨some 7, none, .bsl 1 3 [.sc (.int .i64 0)] 0 []⟩, ⟨some 3, none, .mv (.t 7)⟩])
 (.seq (.reg [0, 52, 1, 3] [
 ⟨some 8, none, .fa 1 (.t 1)⟩, ⟨some 9, none, .ld false 1 (.t 8)⟩, ⟨some 10, none, .len (.t 9)⟩, ⟨some 11, none, .mks 1 4 1 [.sc (.bool false)] (.t 10) (.t 10)⟩, ⟨some 4, none, .mv (.t 11)⟩])
 (.seq (.seq (.reg [0, 52, 1, 3, 4] [
 ⟨some 5, none, .mv (.c (.sc (.int .i64 0)))⟩])
 (.block 0
 (.loop [0, 52, 1, 3, 4, 5]
 (.seq (.seq (.reg [0, 52, 1, 3, 4, 5] [
 ⟨some 12, none, .mv (.t 5)⟩, ⟨some 13, none, .fa 1 (.t 1)⟩, ⟨some 14, none, .ld false 1 (.t 13)⟩, ⟨some 15, none, .len (.t 14)⟩, ⟨some 16, none, .cmp .lss .i64 (.t 12) (.t 15)⟩])
 (.cond (.t 16)
 .skip
 (.exit 0)))
 (.seq (.block 1
 (.seq (.seq (.reg [0, 52, 1, 3, 4, 5] [
 ⟨some 6, none, .mv (.c (.sc (.int .i64 0)))⟩])
 (.block 2
 (.loop [0, 52, 1, 3, 4, 5, 6]
 (.seq (.seq (.reg [0, 52, 1, 3, 4, 5, 6] [
 ⟨some 19, none, .mv (.t 6)⟩, ⟨some 20, none, .fa 1 (.t 1)⟩, ⟨some 21, none, .ld false 1 (.t 20)⟩, ⟨some 22, none, .len (.t 21)⟩, ⟨some 23, none, .cmp .lss .i64 (.t 19) (.t 22)⟩])
 (.cond (.t 23)
 .skip
 (.exit 2)))
 (.seq (.block 3
 (.seq (.reg [0, 52, 1, 3, 4, 5, 6] [
 ⟨some 26, none, .mv (.t 4)⟩, ⟨some 27, none, .mv (.t 6)⟩, ⟨some 28, none, .ixs 1 (.t 26) (.t 27)⟩, ⟨some 29, none, .ld false 1 (.t 28)⟩, ⟨some 30, none, .not (.t 29)⟩, ⟨some 31, none, .mv (.t 30)⟩, ⟨some 32, some (31, true), .ld true 4 (.t 1)⟩, ⟨some 33, some (31, true), .mv (.t 6)⟩, ⟨some 34, some (31, true), .mv (.t 4)⟩, ⟨some 35, some (31, true), .cal 97 [(.t 32), (.t 33), (.t 34)]⟩, ⟨some 36, none, .pick (.t 31) (.t 35) (.c (.sc (.bool false)))⟩])
 (.cut [0, 52, 1, 3, 4, 5, 6, 36] (.cond (.t 36)
 (.seq (.reg [0, 52, 1, 3, 4, 5, 6] [
 ⟨some 37, none, .mv (.t 4)⟩, ⟨some 38, none, .mv (.t 6)⟩, ⟨some 39, none, .ixs 1 (.t 37) (.t 38)⟩, ⟨none, none, .sto 1 (.t 39) (.c (.sc (.bool true)))⟩])
 (.reg [0, 52, 1, 3, 4, 5, 6] [
 ⟨some 40, none, .mv (.t 3)⟩, ⟨some 41, none, .mv (.t 6)⟩, ⟨some 42, none, .bsl 1 3 [.sc (.int .i64 0)] 1 [(0, (.t 41))]⟩, ⟨some 43, none, .app 1 3 8 (.t 40) (.t 42)⟩, ⟨some 3, none, .mv (.t 43)⟩]))
 .skip))))
 (.reg [0, 52, 1, 3, 4, 5, 6] [
 ⟨some 24, none, .mv (.t 6)⟩, ⟨some 25, none, .ari .add true .i64 (.t 24) (.c (.sc (.int .i64 1)))⟩, ⟨some 6, none, .mv (.t 25)⟩]))))))
 (.seq (.reg [0, 52, 1, 3, 4, 5] [
 ⟨some 44, none, .mv (.t 3)⟩, ⟨some 45, none, .len (.t 44)⟩, ⟨some 46, none, .fa 1 (.t 1)⟩, ⟨some 47, none, .ld false 1 (.t 46)⟩, ⟨some 48, none, .len (.t 47)⟩, ⟨some 49, none, .cmp .eql .i64 (.t 45) (.t 48)⟩])
 (.cond (.t 49)
 (.seq (.reg [0, 52, 3] [
 ⟨some 50, none, .mv (.t 3)⟩, ⟨some 2, none, .mv (.t 50)⟩])
 .ret)
 .skip))))
 (.reg [0, 52, 1, 3, 4, 5] [
 ⟨some 17, none, .mv (.t 5)⟩, ⟨some 18, none, .ari .add true .i64 (.t 17) (.c (.sc (.int .i64 1)))⟩, ⟨some 5, none, .mv (.t 18)⟩]))))))
 (.seq (.reg [0, 52, 3] [
 ⟨some 51, none, .mv (.t 3)⟩, ⟨some 2, none, .mv (.t 51)⟩])
 .ret)))))
def rv89 : List RV := [.tmp 2]
theorem ok89 : fnOk Try.prog ac89 rv89 Try.f89 = true := by kernel_rfl

def ac91 : AC :=
 (.seq (.reg [0, 16, 0, 1] [
 ⟨some 2, none, .box (.t 0)⟩, ⟨some 4, none, .alc [.sc (.int .i64 0), .sc (.int .i64 0)]⟩])
 (.seq (.drw [0, 16, 1, 2, 4] [
 ⟨⟨some 5, none, .mv (.t 1)⟩, [], [], true⟩, ⟨⟨some 6, none, .fa 4 (.t 2)⟩, [], [], true⟩, ⟨⟨some 7, none, .fa 0 (.t 6)⟩, [], [], true⟩, ⟨⟨some 8, none, .ld false 1 (.t 7)⟩, [], [], true⟩, ⟨⟨some 9, none, .dvd .rem true .i64 (.t 5) (.t 8)⟩, [], [], true⟩, ⟨⟨some 10, none, .mv (.t 1)⟩, [], [], true⟩, ⟨⟨some 11, none, .fa 4 (.t 2)⟩, [], [], true⟩, ⟨⟨some 12, none, .fa 0 (.t 11)⟩, [], [], true⟩, ⟨⟨some 13, none, .ld false 1 (.t 12)⟩, [], [], true⟩, ⟨⟨some 14, none, .dvd .quo true .i64 (.t 10) (.t 13)⟩, [], [], true⟩, ⟨⟨some 15, none, .bld [.sc (.int .i64 0), .sc (.int .i64 0)] [(0, 1, (.t 9)), (1, 1, (.t 14))]⟩, [], [], false⟩, ⟨⟨none, none, .sto 2 (.t 4) (.t 15)⟩, [], [], false⟩])
 .ret))
def rv91 : List RV := [.cell 4 true 2]
theorem ok91 : fnOk Try.prog ac91 rv91 Try.f91 = true := by kernel_rfl

def ac95 : AC :=
 (.seq (.reg [0, 51, 0, 1] [
 ⟨some 4, none, .mv (.c (.sc (.int .u64 0)))⟩, ⟨some 5, none, .mv (.c (.sc (.int .u64 0)))⟩])
 (.seq (.reg [0, 51, 0, 1] [
 ⟨some 14, none, .mv (.t 0)⟩, ⟨some 15, none, .bit .and .u64 (.t 14) (.c (.sc (.int .u64 4294967295)))⟩, ⟨some 6, none, .mv (.t 15)⟩])
 (.seq (.reg [0, 51, 0, 1, 6] [
 ⟨some 16, none, .mv (.t 0)⟩, ⟨some 17, none, .shf .shr .u64 (.t 16) (.c (.sc (.int .u64 32)))⟩, ⟨some 7, none, .mv (.t 17)⟩])
 (.seq (.reg [0, 51, 0, 1, 6, 7] [
 ⟨some 18, none, .mv (.t 1)⟩, ⟨some 19, none, .bit .and .u64 (.t 18) (.c (.sc (.int .u64 4294967295)))⟩, ⟨some 8, none, .mv (.t 19)⟩])
 (.seq (.reg [0, 51, 0, 1, 6, 7, 8] [
 ⟨some 20, none, .mv (.t 1)⟩, ⟨some 21, none, .shf .shr .u64 (.t 20) (.c (.sc (.int .u64 32)))⟩, ⟨some 9, none, .mv (.t 21)⟩])
 (.seq (.reg [0, 51, 0, 1, 6, 7, 8, 9] [
 ⟨some 22, none, .mv (.t 6)⟩, ⟨some 23, none, .mv (.t 8)⟩, ⟨some 24, none, .ari .mul false .u64 (.t 22) (.t 23)⟩, ⟨some 10, none, .mv (.t 24)⟩])
 (.seq (.reg [0, 51, 0, 1, 6, 7, 8, 9, 10] [
 ⟨some 25, none, .mv (.t 7)⟩, ⟨some 26, none, .mv (.t 8)⟩, ⟨some 27, none, .ari .mul false .u64 (.t 25) (.t 26)⟩, ⟨some 28, none, .mv (.t 10)⟩, ⟨some 29, none, .shf .shr .u64 (.t 28) (.c (.sc (.int .u64 32)))⟩, ⟨some 30, none, .ari .add false .u64 (.t 27) (.t 29)⟩, ⟨some 11, none, .mv (.t 30)⟩])
 (.seq (.reg [0, 51, 0, 1, 6, 7, 9, 11] [
 ⟨some 31, none, .mv (.t 11)⟩, ⟨some 32, none, .bit .and .u64 (.t 31) (.c (.sc (.int .u64 4294967295)))⟩, ⟨some 12, none, .mv (.t 32)⟩])
 (.seq (.reg [0, 51, 0, 1, 6, 7, 9, 11, 12] [
 ⟨some 33, none, .mv (.t 11)⟩, ⟨some 34, none, .shf .shr .u64 (.t 33) (.c (.sc (.int .u64 32)))⟩, ⟨some 13, none, .mv (.t 34)⟩])
 (.seq (.reg [0, 51, 0, 1, 6, 7, 9, 12, 13] [
 ⟨some 35, none, .mv (.t 12)⟩, ⟨some 36, none, .mv (.t 6)⟩, ⟨some 37, none, .mv (.t 9)⟩, ⟨some 38, none, .ari .mul false .u64 (.t 36) (.t 37)⟩, ⟨some 39, none, .ari .add false .u64 (.t 35) (.t 38)⟩, ⟨some 12, none, .mv (.t 39)⟩])
 (.seq (.reg [0, 51, 0, 1, 7, 9, 12, 13] [
 ⟨some 40, none, .mv (.t 7)⟩, ⟨some 41, none, .mv (.t 9)⟩, ⟨some 42, none, .ari .mul false .u64 (.t 40) (.t 41)⟩, ⟨some 43, none, .mv (.t 13)⟩, ⟨some 44, none, .ari .add false .u64 (.t 42) (.t 43)⟩, ⟨some 45, none, .mv (.t 12)⟩, ⟨some 46, none, .shf .shr .u64 (.t 45) (.c (.sc (.int .u64 32)))⟩, ⟨some 47, none, .ari .add false .u64 (.t 44) (.t 46)⟩, ⟨some 4, none, .mv (.t 47)⟩])
 (.seq (.reg [0, 51, 0, 1, 4] [
 ⟨some 48, none, .mv (.t 0)⟩, ⟨some 49, none, .mv (.t 1)⟩, ⟨some 50, none, .ari .mul false .u64 (.t 48) (.t 49)⟩, ⟨some 5, none, .mv (.t 50)⟩])
 .ret))))))))))))
def rv95 : List RV := [.tmp 4, .tmp 5]
theorem ok95 : fnOk Try.prog ac95 rv95 Try.f95 = true := by kernel_rfl

def ac96 : AC :=
 (.seq (.reg [0, 17, 0, 1] [
 ⟨some 4, none, .mv (.c (.sc (.int .u64 0)))⟩])
 (.seq (.reg [0, 17, 0, 1] [
 ⟨some 7, none, .mv (.t 0)⟩, ⟨some 8, none, .mv (.t 1)⟩, ⟨some 9, none, .bit .xor .u64 (.t 7) (.t 8)⟩, ⟨some 10, none, .ari .mul false .u64 (.t 9) (.c (.sc (.int .u64 15485907386658061715)))⟩, ⟨some 5, none, .mv (.t 10)⟩])
 (.seq (.reg [0, 17, 5] [
 ⟨some 11, none, .mv (.t 5)⟩, ⟨some 12, none, .mv (.t 5)⟩, ⟨some 13, none, .shf .shr .u64 (.t 12) (.c (.sc (.int .u64 32)))⟩, ⟨some 14, none, .bit .xor .u64 (.t 11) (.t 13)⟩, ⟨some 6, none, .mv (.t 14)⟩])
 (.seq (.reg [0, 17, 6] [
 ⟨some 15, none, .mv (.t 6)⟩, ⟨some 16, none, .ari .mul false .u64 (.t 15) (.c (.sc (.int .u64 11562461410679940143)))⟩, ⟨some 4, none, .mv (.t 16)⟩])
 .ret))))
def rv96 : List RV := [.tmp 4]
theorem ok96 : fnOk Try.prog ac96 rv96 Try.f96 = true := by kernel_rfl

def ac97 : AC :=
 (.seq (.reg [0, 48, 0, 1, 2] [
 ⟨some 3, none, .box (.t 0)⟩, ⟨some 6, none, .mv (.c (.sc (.bool false)))⟩])
 (.seq (.seq (.reg [0, 48, 1, 2, 3] [
 ⟨some 7, none, .mv (.c (.sc (.int .i64 0)))⟩])
 (.block 0
 (.loop [0, 48, 1, 2, 3, 7]
 (.seq (.seq (.reg [0, 48, 1, 2, 3, 7] [
 ⟨some 9, none, .mv (.t 7)⟩, ⟨some 10, none, .fa 1 (.t 3)⟩, ⟨some 11, none, .ld false 1 (.t 10)⟩, ⟨some 12, none, .mv (.t 1)⟩, ⟨some 13, none, .ixs 5 (.t 11) (.t 12)⟩, ⟨some 14, none, .fa 0 (.t 13)⟩, ⟨some 15, none, .ld false 1 (.t 14)⟩, ⟨some 16, none, .len (.t 15)⟩, ⟨some 17, none, .cmp .lss .i64 (.t 9) (.t 16)⟩])
 (.cond (.t 17)
 .skip
 (.exit 0)))
 (.seq (.block 1
 (.seq (.reg [0, 48, 1, 2, 3, 7] [
 ⟨some 20, none, .fa 1 (.t 3)⟩, ⟨some 21, none, .ld false 1 (.t 20)⟩, ⟨some 22, none, .mv (.t 1)⟩, ⟨some 23, none, .ixs 5 (.t 21) (.t 22)⟩, ⟨some 24, none, .fa 0 (.t 23)⟩, ⟨some 25, none, .ld false 1 (.t 24)⟩, ⟨some 26, none, .mv (.t 7)⟩, ⟨some 27, none, .ixs 1 (.t 25) (.t 26)⟩, ⟨some 28, none, .ld false 1 (.t 27)⟩, ⟨some 8, none, .mv (.t 28)⟩])
 (.seq (.reg [0, 48, 1, 2, 3, 7, 8] [
 ⟨some 29, none, .ld true 4 (.t 3)⟩, ⟨some 30, none, .mv (.t 8)⟩, ⟨some 31, none, .cal 75 [(.t 29), (.t 30)]⟩, ⟨some 32, none, .cmp .geq .i64 (.t 31) (.c (.sc (.int .i64 0)))⟩, ⟨some 33, none, .mv (.t 32)⟩, ⟨some 34, some (33, true), .ld true 4 (.t 3)⟩, ⟨some 35, some (33, true), .mv (.t 8)⟩, ⟨some 36, some (33, true), .cal 98 [(.t 34), (.t 35)]⟩, ⟨some 37, some (33, true), .not (.t 36)⟩, ⟨some 38, none, .pick (.t 33) (.t 37) (.c (.sc (.bool false)))⟩, ⟨some 39, none, .mv (.t 38)⟩, ⟨some 40, some (39, true), .mv (.t 2)⟩, ⟨some 41, some (39, true), .ld true 4 (.t 3)⟩, ⟨some 42, some (39, true), .mv (.t 8)⟩, ⟨some 43, some (39, true), .cal 75 [(.t 41), (.t 42)]⟩, ⟨some 44, some (39, true), .ixs 1 (.t 40) (.t 43)⟩, ⟨some 45, some (39, true), .ld false 1 (.t 44)⟩, ⟨some 46, some (39, true), .not (.t 45)⟩, ⟨some 47, none, .pick (.t 39) (.t 46) (.c (.sc (.bool false)))⟩])
 (.cut [0, 48, 1, 2, 3, 7, 47] (.cond (.t 47)
 (.seq (.reg [0, 48] [
 ⟨some 6, none, .mv (.c (.sc (.bool false)))⟩])
 .ret)
 .skip)))))
 (.reg [0, 48, 1, 2, 3, 7] [
 ⟨some 18, none, .mv (.t 7)⟩, ⟨some 19, none, .ari .add true .i64 (.t 18) (.c (.sc (.int .i64 1)))⟩, ⟨some 7, none, .mv (.t 19)⟩]))))))
 (.seq (.reg [0, 48] [
 ⟨some 6, none, .mv (.c (.sc (.bool true)))⟩])
 .ret)))
def rv97 : List RV := [.tmp 6]
theorem ok97 : fnOk Try.prog ac97 rv97 Try.f97 = true := by kernel_rfl

def ac98 : AC :=
 (.seq (.reg [0, 19, 0, 1] [
 ⟨some 2, none, .box (.t 0)⟩, ⟨some 4, none, .mv (.c (.sc (.bool false)))⟩])
 (.seq (.reg [0, 19, 1, 2] [
 ⟨some 5, none, .mv (.t 1)⟩, ⟨some 6, none, .fa 0 (.t 2)⟩, ⟨some 7, none, .ld false 1 (.t 6)⟩, ⟨some 8, none, .len (.t 7)⟩, ⟨some 9, none, .cmp .geq .i64 (.t 5) (.t 8)⟩, ⟨some 10, none, .mv (.t 9)⟩, ⟨some 11, some (10, true), .mv (.t 1)⟩, ⟨some 12, some (10, true), .fa 0 (.t 2)⟩, ⟨some 13, some (10, true), .ld false 1 (.t 12)⟩, ⟨some 14, some (10, true), .len (.t 13)⟩, ⟨some 15, some (10, true), .ari .sub true .i64 (.t 11) (.t 14)⟩, ⟨some 16, some (10, true), .dvd .rem true .i64 (.t 15) (.c (.sc (.int .i64 2)))⟩, ⟨some 17, some (10, true), .cmp .eql .i64 (.t 16) (.c (.sc (.int .i64 1)))⟩, ⟨some 18, none, .pick (.t 10) (.t 17) (.c (.sc (.bool false)))⟩, ⟨some 4, none, .mv (.t 18)⟩])
 .ret))
def rv98 : List RV := [.tmp 4]
theorem ok98 : fnOk Try.prog ac98 rv98 Try.f98 = true := by kernel_rfl

def ac71_700 : AC :=
 (.seq (.reg [700, 8, 700] [
 ⟨some 702, none, .mv (.c (.nil))⟩])
 (.seq (.seq (.reg [700, 8, 700] [
 ⟨some 703, none, .mv (.t 700)⟩, ⟨some 704, none, .niq false (.t 703)⟩])
 (.cond (.t 704)
 (.seq (.reg [700, 8] [
 ⟨some 702, none, .mv (.c (.nil))⟩])
 .ret)
 .skip))
 (.seq (.reg [700, 8, 700] [
 ⟨some 705, none, .bsl 1 3 [.sc (.int .i64 0)] 0 []⟩, ⟨some 706, none, .mv (.t 700)⟩, ⟨some 707, none, .app 1 3 8 (.t 705) (.t 706)⟩, ⟨some 702, none, .mv (.t 707)⟩])
 .ret)))
def rv71_700 : List RV := [.tmp 702]
theorem ok71_700 : fnOkK Try.prog 700 ac71_700 rv71_700 Try.f71 = true := by kernel_rfl

def ac73_675 : AC :=
 (.seq (.reg [675, 48, 675, 676] [
 ⟨some 679, none, .mv (.c (.nil))⟩])
 (.seq (.seq (.reg [675, 48, 675, 676] [
 ⟨some 684, none, .mv (.t 676)⟩, ⟨some 685, none, .cmp .lss .i64 (.t 684) (.c (.sc (.int .i64 0)))⟩])
 (.cond (.t 685)
 (.reg [675, 48, 675, 676] [
 ⟨some 686, none, .bad⟩, ⟨none, none, .bad⟩])
 .skip))
 (.seq (.reg [675, 48, 675, 676] [
 ⟨some 688, none, .mv (.t 675)⟩, ⟨some 689, none, .len (.t 688)⟩, ⟨some 690, none, .cnv true .u64 (.t 689)⟩, ⟨some 691, none, .mv (.t 676)⟩, ⟨some 692, none, .cnv true .u64 (.t 691)⟩, ⟨some 693, none, .cal 87 [(.t 690), (.t 692)]⟩, ⟨some 687, none, .mv (.t 693)⟩, ⟨some 694, none, .ext (.t 687) 0⟩, ⟨some 695, none, .ext (.t 687) 1⟩, ⟨some 680, none, .mv (.t 694)⟩, ⟨some 681, none, .mv (.t 695)⟩])
 (.seq (.seq (.reg [675, 48, 675, 680, 681] [
 ⟨some 696, none, .mv (.t 680)⟩, ⟨some 697, none, .cmp .gtr .u64 (.t 696) (.c (.sc (.int .u64 0)))⟩, ⟨some 698, none, .mv (.t 697)⟩, ⟨some 699, some (698, false), .mv (.t 681)⟩, ⟨some 700, some (698, false), .cmp .gtr .u64 (.t 699) (.c (.sc (.int .u64 9223372036854775807)))⟩, ⟨some 701, none, .pick (.t 698) (.c (.sc (.bool true))) (.t 700)⟩])
 (.cut [675, 48, 675, 681, 701] (.cond (.t 701)
 (.reg [675, 48, 675, 681] [
 ⟨some 702, none, .bad⟩, ⟨none, none, .bad⟩])
 .skip)))
 (.seq (.reg [675, 48, 675, 681] [
 ⟨some 703, none, .mv (.t 681)⟩, ⟨some 704, none, .cnv true .i64 (.t 703)⟩, ⟨some 705, none, .mks 1 3 8 [.sc (.int .i64 0)] (.t 704) (.t 704)⟩, ⟨some 682, none, .mv (.t 705)⟩])
 (.seq (.reg [675, 48, 675, 682] [
 ⟨some 706, none, .mv (.t 682)⟩, ⟨some 707, none, .mv (.t 675)⟩, ⟨some 708, none, .cpy 1 (.t 706) (.t 707)⟩, ⟨some 683, none, .mv (.t 708)⟩])
 (.seq (.block 0
 (.loop [675, 48, 682, 683]
 (.seq (.seq (.reg [675, 48, 682, 683] [
 ⟨some 709, none, .mv (.t 683)⟩, ⟨some 710, none, .mv (.t 682)⟩, ⟨some 711, none, .len (.t 710)⟩, ⟨some 712, none, .cmp .lss .i64 (.t 709) (.t 711)⟩])
 (.cond (.t 712)
 .skip
 (.exit 0)))
 (.block 1
 (.drw [675, 48, 682, 683] [
 ⟨⟨some 713, none, .mv (.t 683)⟩, [], [], true⟩, ⟨⟨some 714, none, .mv (.t 682)⟩, [], [], true⟩, ⟨⟨some 715, none, .mv (.t 683)⟩, [], [], true⟩, ⟨⟨some 716, none, .slc 1 (.t 714) (some (.t 715)) none⟩, [], [], true⟩, ⟨⟨some 717, none, .mv (.t 682)⟩, [], [], true⟩, ⟨⟨some 718, none, .mv (.t 683)⟩, [], [], true⟩, ⟨⟨some 719, none, .slc 1 (.t 717) none (some (.t 718))⟩, [], [], true⟩, ⟨⟨some 720, none, .cpy 1 (.t 716) (.t 719)⟩, [], [], true⟩, ⟨⟨some 721, none, .ari .add true .i64 (.t 713) (.t 720)⟩, [], [], false⟩, ⟨⟨some 683, none, .mv (.t 721)⟩, [], [], false⟩])))))
 (.seq (.reg [675, 48, 682] [
 ⟨some 722, none, .mv (.t 682)⟩, ⟨some 679, none, .mv (.t 722)⟩])
 .ret))))))))
def rv73_675 : List RV := [.tmp 679]
theorem ok73_675 : fnOkK Try.prog 675 ac73_675 rv73_675 Try.f73 = true := by kernel_rfl

def ac83_100 : AC :=
 (.seq (.reg [100, 6, 100, 101] [
 ⟨some 102, none, .box (.t 100)⟩, ⟨some 103, none, .box (.t 101)⟩, ⟨some 104, none, .mv (.c (.sc .nilFunc))⟩])
 (.seq (.reg [100, 6, 102, 103] [
 ⟨some 105, none, .mkf 90 [(.t 102), (.t 103)]⟩, ⟨some 104, none, .mv (.t 105)⟩])
 .ret))
def rv83_100 : List RV := [.tmp 104]
theorem ok83_100 : fnOkK Try.prog 100 ac83_100 rv83_100 Try.f83 = true := by kernel_rfl

def ac90_200 : AC :=
 (.seq (.seq (.reg [200, 61, 200, 201, 202] [
 ⟨some 210, none, .fa 0 (.t 201)⟩, ⟨some 211, none, .fa 1 (.t 210)⟩, ⟨some 212, none, .ld false 1 (.t 211)⟩, ⟨some 213, none, .len (.t 212)⟩, ⟨some 214, none, .mv (.c (.sc (.int .i64 0)))⟩])
 (.block 0
 (.loop [200, 61, 200, 201, 202, 212, 213, 214]
 (.seq (.reg [200, 61, 200, 201, 202, 212, 213, 214] [
 ⟨some 215, none, .cmp .lss .i64 (.t 214) (.t 213)⟩])
 (.seq (.cond (.t 215)
 .skip
 (.exit 0))
 (.seq (.block 1
 (.seq (.reg [200, 61, 200, 201, 202, 212, 213, 214] [
 ⟨some 216, none, .mv (.t 214)⟩, ⟨some 217, none, .ixs 5 (.t 212) (.t 214)⟩, ⟨some 218, none, .ld true 5 (.t 217)⟩, ⟨some 205, none, .alc [.nil, .sc (.int .i64 0), .sc (.int .i64 0), .sc (.int .i64 0), .sc (.int .u64 0)]⟩, ⟨some 204, none, .mv (.t 216)⟩, ⟨none, none, .sto 5 (.t 205) (.t 218)⟩])
 (.seq (.reg [200, 61, 200, 201, 202, 204, 205, 212, 213, 214] [
 ⟨some 219, none, .fa 0 (.t 205)⟩, ⟨some 220, none, .ld false 1 (.t 219)⟩, ⟨some 221, none, .len (.t 220)⟩, ⟨some 222, none, .mv (.c (.sc (.int .i64 0)))⟩])
 (.block 2
 (.loop [200, 61, 200, 201, 202, 204, 212, 213, 214, 220, 221, 222]
 (.seq (.reg [200, 61, 200, 201, 202, 204, 212, 213, 214, 220, 221, 222] [
 ⟨some 223, none, .cmp .lss .i64 (.t 222) (.t 221)⟩])
 (.seq (.cond (.t 223)
 .skip
 (.exit 2))
 (.seq (.block 3
 (.seq (.reg [200, 61, 200, 201, 202, 204, 212, 213, 214, 220, 221, 222] [
 ⟨some 224, none, .ixs 1 (.t 220) (.t 222)⟩, ⟨some 225, none, .ld false 1 (.t 224)⟩, ⟨some 207, none, .mv (.t 225)⟩])
 (.seq (.drw [200, 61, 200, 201, 202, 204, 207, 212, 213, 214, 220, 221, 222] [
 ⟨⟨some 226, none, .mv (.t 200)⟩, [], [], true⟩, ⟨⟨some 227, none, .mv (.t 207)⟩, [], [], true⟩, ⟨⟨some 228, none, .ld true 11 (.t 201)⟩, [], [], true⟩, ⟨⟨some 229, none, .ld false 1 (.t 202)⟩, [], [], true⟩, ⟨⟨some 230, none, .mv (.t 204)⟩, [], [], true⟩, ⟨⟨some 231, none, .ixs 1 (.t 229) (.t 230)⟩, [], [], true⟩, ⟨⟨some 232, none, .ld false 1 (.t 231)⟩, [], [], true⟩, ⟨⟨some 233, none, .cal 91 [(.t 228), (.t 232)]⟩, [], [], true⟩, ⟨⟨some 234, none, .clv (.t 226) [(.t 227), (.t 233)]⟩, [], [], false⟩, ⟨⟨some 235, none, .not (.t 234)⟩, [], [], false⟩])
 (.cond (.t 235)
 .ret
 .skip))))
 (.reg [200, 61, 200, 201, 202, 204, 212, 213, 214, 220, 221, 222] [
 ⟨some 236, none, .ari .add true .i64 (.t 222) (.c (.sc (.int .i64 1)))⟩, ⟨some 222, none, .mv (.t 236)⟩])))))))))
 (.reg [200, 61, 200, 201, 202, 212, 213, 214] [
 ⟨some 237, none, .ari .add true .i64 (.t 214) (.c (.sc (.int .i64 1)))⟩, ⟨some 214, none, .mv (.t 237)⟩])))))))
 (.seq (.reg [200, 61, 200, 201] [
 ⟨some 238, none, .fa 0 (.t 201)⟩, ⟨some 239, none, .fa 3 (.t 238)⟩, ⟨some 240, none, .ld false 1 (.t 239)⟩, ⟨some 241, none, .len (.t 240)⟩, ⟨some 242, none, .mv (.c (.sc (.int .i64 0)))⟩])
 (.block 4
 (.loop [200, 61, 200, 201, 240, 241, 242]
 (.seq (.reg [200, 61, 200, 201, 240, 241, 242] [
 ⟨some 243, none, .cmp .lss .i64 (.t 242) (.t 241)⟩])
 (.seq (.cond (.t 243)
 .skip
 (.exit 4))
 (.seq (.block 5
 (.seq (.reg [200, 61, 200, 201, 240, 241, 242] [
 ⟨some 244, none, .mv (.t 242)⟩, ⟨some 245, none, .ixs 1 (.t 240) (.t 242)⟩, ⟨some 246, none, .ld false 1 (.t 245)⟩, ⟨some 208, none, .mv (.t 244)⟩, ⟨some 209, none, .mv (.t 246)⟩])
 (.seq (.drw [200, 61, 200, 201, 208, 209, 240, 241, 242] [
 ⟨⟨some 247, none, .mv (.t 200)⟩, [], [], true⟩, ⟨⟨some 248, none, .mv (.t 209)⟩, [], [], true⟩, ⟨⟨some 249, none, .fa 4 (.t 201)⟩, [], [], true⟩, ⟨⟨some 250, none, .fa 0 (.t 249)⟩, [], [], true⟩, ⟨⟨some 251, none, .ld false 1 (.t 250)⟩, [], [], true⟩, ⟨⟨some 252, none, .mv (.t 208)⟩, [], [], true⟩, ⟨⟨some 253, none, .fa 4 (.t 201)⟩, [], [], true⟩, ⟨⟨some 254, none, .fa 1 (.t 253)⟩, [], [], true⟩, ⟨⟨some 255, none, .ld false 1 (.t 254)⟩, [], [], true⟩, ⟨⟨some 256, none, .dvd .rem true .i64 (.t 252) (.t 255)⟩, [], [], true⟩, ⟨⟨some 257, none, .bld [.sc (.int .i64 0), .sc (.int .i64 0)] [(0, 1, (.t 251)), (1, 1, (.t 256))]⟩, [], [], true⟩, ⟨⟨some 258, none, .clv (.t 247) [(.t 248), (.t 257)]⟩, [], [], false⟩, ⟨⟨some 259, none, .not (.t 258)⟩, [], [], false⟩])
 (.cond (.t 259)
 .ret
 .skip))))
 (.reg [200, 61, 200, 201, 240, 241, 242] [
 ⟨some 260, none, .ari .add true .i64 (.t 242) (.c (.sc (.int .i64 1)))⟩, ⟨some 242, none, .mv (.t 260)⟩]))))))))
def rv90_200 : List RV := []
theorem ok90_200 : fnOkK Try.prog 200 ac90_200 rv90_200 Try.f90 = true := by kernel_rfl

def ac72_300 : AC :=
 (.seq (.reg [300, 65, 300, 301, 302, 303] [
 ⟨some 304, none, .box (.t 300)⟩, ⟨some 308, none, .mv (.c (.sc (.int .i64 0)))⟩])
 (.scope
 (.seq (.reg [300, 65, 301, 302, 303, 304] [
 ⟨some 309, none, .mv (.c (.sc (.int .i64 0)))⟩])
 (.seq (.reg [300, 65, 301, 302, 303, 304, 309] [
 ⟨some 317, none, .ld true 11 (.t 304)⟩, ⟨some 318, none, .mv (.t 301)⟩, ⟨some 319, none, .cal 68 [(.t 317), (.t 318)]⟩, ⟨some 310, none, .mv (.t 319)⟩])
 (.seq .label
 (.seq (.seq (.reg [300, 65, 301, 302, 303, 304, 309, 310] [
 ⟨some 320, none, .mv (.t 303)⟩, ⟨some 321, none, .mv (.c (.sc (.int .i64 0)))⟩])
 (.block 0
 (.loop [300, 65, 301, 302, 304, 309, 310, 320, 321]
 (.seq (.reg [300, 65, 301, 302, 304, 309, 310, 320, 321] [
 ⟨some 322, none, .cmp .lss .i64 (.t 321) (.t 320)⟩])
 (.seq (.cond (.t 322)
 .skip
 (.exit 0))
 (.seq (.block 1
 (.seq (.reg [300, 65, 301, 302, 304, 309, 310, 320, 321] [
 ⟨some 323, none, .mv (.t 309)⟩, ⟨some 311, none, .mv (.t 323)⟩])
 (.seq (.seq (.reg [300, 65, 301, 302, 304, 309, 310, 311, 320, 321] [
 ⟨some 324, none, .mv (.t 301)⟩, ⟨some 325, none, .len (.t 324)⟩, ⟨some 326, none, .mv (.c (.sc (.int .i64 0)))⟩])
 (.block 2
 (.loop [300, 65, 301, 302, 304, 309, 310, 311, 320, 321, 325, 326]
 (.seq (.reg [300, 65, 301, 302, 304, 309, 310, 311, 320, 321, 325, 326] [
 ⟨some 327, none, .cmp .lss .i64 (.t 326) (.t 325)⟩])
 (.seq (.cond (.t 327)
 .skip
 (.exit 2))
 (.seq (.block 3
 (.seq (.reg [300, 65, 301, 302, 304, 309, 310, 311, 320, 321, 325, 326] [
 ⟨some 328, none, .mv (.t 326)⟩, ⟨some 312, none, .mv (.t 328)⟩])
 (.seq (.reg [300, 65, 301, 302, 304, 309, 310, 311, 312, 320, 321, 325, 326] [
 ⟨some 329, none, .fa 4 (.t 304)⟩, ⟨some 330, none, .fa 4 (.t 329)⟩, ⟨some 331, none, .ld false 1 (.t 330)⟩, ⟨some 332, none, .len (.t 331)⟩, ⟨some 333, none, .mv (.c (.sc (.int .i64 0)))⟩])
 (.block 4
 (.loop [300, 65, 301, 302, 304, 309, 310, 311, 312, 320, 321, 325, 326, 332, 333]
 (.seq (.reg [300, 65, 301, 302, 304, 309, 310, 311, 312, 320, 321, 325, 326, 332, 333] [
 ⟨some 334, none, .cmp .lss .i64 (.t 333) (.t 332)⟩])
 (.seq (.cond (.t 334)
 .skip
 (.exit 4))
 (.seq (.block 5
 (.seq (.reg [300, 65, 301, 302, 304, 309, 310, 311, 312, 320, 321, 325, 326, 332, 333] [
 ⟨some 335, none, .mv (.t 333)⟩, ⟨some 313, none, .mv (.t 335)⟩])
 (.seq (.reg [300, 65, 301, 302, 304, 309, 310, 311, 312, 313, 320, 321, 325, 326, 332, 333] [
 ⟨some 337, none, .ld true 11 (.t 304)⟩, ⟨some 338, none, .mv (.t 301)⟩, ⟨some 339, none, .mv (.t 302)⟩, ⟨some 340, none, .mv (.t 312)⟩, ⟨some 341, none, .mv (.t 313)⟩, ⟨some 342, none, .clm 86 [(.t 337), (.t 338), (.t 339), (.t 340), (.t 341)]⟩, ⟨some 336, none, .mv (.t 342)⟩, ⟨some 343, none, .ext (.t 336) 0⟩, ⟨some 344, none, .ext (.t 336) 1⟩, ⟨some 314, none, .mv (.t 343)⟩, ⟨some 315, none, .mv (.t 344)⟩])
 (.seq (.seq (.reg [300, 65, 301, 302, 304, 309, 310, 311, 312, 314, 315, 320, 321, 325, 326, 332, 333] [
 ⟨some 345, none, .mv (.t 315)⟩, ⟨some 346, none, .not (.t 345)⟩])
 (.cond (.t 346)
 (.exit 5)
 .skip))
 (.seq (.reg [300, 65, 301, 302, 304, 309, 310, 311, 312, 314, 320, 321, 325, 326, 332, 333] [
 ⟨some 347, none, .ld true 11 (.t 304)⟩, ⟨some 348, none, .mv (.t 301)⟩, ⟨some 349, none, .cal 68 [(.t 347), (.t 348)]⟩, ⟨some 316, none, .mv (.t 349)⟩])
 (.seq (.reg [300, 65, 301, 302, 304, 309, 310, 311, 312, 314, 316, 320, 321, 325, 326, 332, 333] [
 ⟨some 350, none, .mv (.t 316)⟩, ⟨some 351, none, .mv (.t 310)⟩, ⟨some 352, none, .cmp .lss .i64 (.t 350) (.t 351)⟩])
 (.cond (.t 352)
 (.seq (.reg [300, 65, 301, 302, 304, 309, 311, 312, 316, 320, 321, 325, 326, 332, 333] [
 ⟨some 353, none, .mv (.t 316)⟩, ⟨some 310, none, .mv (.t 353)⟩])
 (.reg [300, 65, 301, 302, 304, 309, 310, 311, 312, 320, 321, 325, 326, 332, 333] [
 ⟨some 354, none, .mv (.t 309)⟩, ⟨some 355, none, .ari .add true .i64 (.t 354) (.c (.sc (.int .i64 1)))⟩, ⟨some 309, none, .mv (.t 355)⟩]))
 (.reg [300, 65, 301, 302, 304, 309, 310, 311, 312, 314, 320, 321, 325, 326, 332, 333] [
 ⟨some 356, none, .mv (.t 314)⟩, ⟨some 357, none, .clv (.t 356) []⟩]))))))))
 (.reg [300, 65, 301, 302, 304, 309, 310, 311, 312, 320, 321, 325, 326, 332, 333] [
 ⟨some 358, none, .ari .add true .i64 (.t 333) (.c (.sc (.int .i64 1)))⟩, ⟨some 333, none, .mv (.t 358)⟩])))))))))
 (.reg [300, 65, 301, 302, 304, 309, 310, 311, 320, 321, 325, 326] [
 ⟨some 359, none, .ari .add true .i64 (.t 326) (.c (.sc (.int .i64 1)))⟩, ⟨some 326, none, .mv (.t 359)⟩])))))))
 (.seq (.reg [300, 65, 301, 302, 304, 309, 310, 311, 320, 321] [
 ⟨some 360, none, .mv (.t 309)⟩, ⟨some 361, none, .mv (.t 311)⟩, ⟨some 362, none, .cmp .eql .i64 (.t 360) (.t 361)⟩])
 (.cond (.t 362)
 (.exit 0)
 .skip)))))
 (.reg [300, 65, 301, 302, 304, 309, 310, 320, 321] [
 ⟨some 363, none, .ari .add true .i64 (.t 321) (.c (.sc (.int .i64 1)))⟩, ⟨some 321, none, .mv (.t 363)⟩])))))))
 (.seq (.reg [300, 65, 309] [
 ⟨some 364, none, .mv (.t 309)⟩, ⟨some 308, none, .mv (.t 364)⟩])
 .ret)))))))
def rv72_300 : List RV := [.tmp 308]
theorem ok72_300 : fnOkK Try.prog 300 ac72_300 rv72_300 Try.f72 = true := by kernel_rfl

def ac86_400 : AC :=
 (.seq (.reg [400, 57, 400, 401, 402, 403, 404] [
 ⟨some 405, none, .box (.t 400)⟩, ⟨some 406, none, .box (.t 401)⟩, ⟨some 408, none, .box (.t 403)⟩, ⟨some 409, none, .box (.t 404)⟩, ⟨some 410, none, .mv (.c (.sc .nilFunc))⟩, ⟨some 411, none, .mv (.c (.sc (.bool false)))⟩])
 (.seq (.reg [400, 57, 402, 405, 406, 408, 409] [
 ⟨some 415, none, .ld false 1 (.t 406)⟩, ⟨some 416, none, .ld false 1 (.t 408)⟩, ⟨some 417, none, .ixs 1 (.t 415) (.t 416)⟩, ⟨some 418, none, .ld false 1 (.t 417)⟩, ⟨some 412, none, .alc [.sc (.int .i64 0)]⟩, ⟨none, none, .sto 1 (.t 412) (.t 418)⟩])
 (.seq (.seq (.reg [400, 57, 402, 405, 406, 408, 409, 412] [
 ⟨some 419, none, .ld false 1 (.t 412)⟩, ⟨some 420, none, .ld false 1 (.t 409)⟩, ⟨some 421, none, .cmp .eql .i64 (.t 419) (.t 420)⟩, ⟨some 422, none, .mv (.t 421)⟩, ⟨some 423, some (422, false), .mv (.t 402)⟩, ⟨some 424, some (422, false), .ld false 1 (.t 408)⟩, ⟨some 425, some (422, false), .cal 64 [(.t 423), (.t 424)]⟩, ⟨some 426, none, .pick (.t 422) (.c (.sc (.bool true))) (.t 425)⟩, ⟨some 427, none, .mv (.t 426)⟩, ⟨some 428, some (427, false), .ld true 11 (.t 405)⟩, ⟨some 429, some (427, false), .ld false 1 (.t 408)⟩, ⟨some 430, some (427, false), .ld false 1 (.t 409)⟩, ⟨some 431, some (427, false), .cal 37 [(.t 428), (.t 429), (.t 430)]⟩, ⟨some 432, some (427, false), .not (.t 431)⟩, ⟨some 433, none, .pick (.t 427) (.c (.sc (.bool true))) (.t 432)⟩])
 (.cut [400, 57, 402, 405, 406, 408, 409, 412, 433] (.cond (.t 433)
 (.seq (.reg [400, 57] [
 ⟨some 410, none, .mv (.c (.sc .nilFunc))⟩, ⟨some 411, none, .mv (.c (.sc (.bool false)))⟩])
 .ret)
 .skip)))
 (.seq (.reg [400, 57, 402, 405, 406, 408, 409, 412] [
 ⟨some 434, none, .ld false 1 (.t 406)⟩, ⟨some 435, none, .ld false 1 (.t 409)⟩, ⟨some 436, none, .cal 82 [(.t 434), (.t 435)]⟩, ⟨some 413, none, .alc [.sc (.int .i64 0)]⟩, ⟨none, none, .sto 1 (.t 413) (.t 436)⟩])
 (.seq (.seq (.reg [400, 57, 402, 405, 406, 408, 409, 412, 413] [
 ⟨some 437, none, .ld false 1 (.t 413)⟩, ⟨some 438, none, .cmp .geq .i64 (.t 437) (.c (.sc (.int .i64 0)))⟩, ⟨some 439, none, .mv (.t 438)⟩, ⟨some 440, some (439, true), .mv (.t 402)⟩, ⟨some 441, some (439, true), .ld false 1 (.t 413)⟩, ⟨some 442, some (439, true), .cal 64 [(.t 440), (.t 441)]⟩, ⟨some 443, some (439, true), .mv (.t 442)⟩, ⟨some 444, some (443, false), .ld true 11 (.t 405)⟩, ⟨some 445, some (443, false), .ld false 1 (.t 413)⟩, ⟨some 446, some (443, false), .ld false 1 (.t 412)⟩, ⟨some 447, some (443, false), .cal 37 [(.t 444), (.t 445), (.t 446)]⟩, ⟨some 448, some (443, false), .not (.t 447)⟩, ⟨some 449, some (439, true), .pick (.t 443) (.c (.sc (.bool true))) (.t 448)⟩, ⟨some 450, none, .pick (.t 439) (.t 449) (.c (.sc (.bool false)))⟩])
 (.cut [400, 57, 406, 408, 409, 412, 413, 450] (.cond (.t 450)
 (.seq (.reg [400, 57] [
 ⟨some 410, none, .mv (.c (.sc .nilFunc))⟩, ⟨some 411, none, .mv (.c (.sc (.bool false)))⟩])
 .ret)
 .skip)))
 (.seq (.reg [400, 57, 406, 408, 409, 412, 413] [
 ⟨some 451, none, .mkf 92 [(.t 406), (.t 408), (.t 413)]⟩, ⟨some 414, none, .alc [.sc .nilFunc]⟩, ⟨none, none, .sto 1 (.t 414) (.t 451)⟩])
 (.seq (.reg [400, 57, 409, 412, 414] [
 ⟨some 452, none, .ld false 1 (.t 414)⟩, ⟨some 453, none, .ld false 1 (.t 409)⟩, ⟨some 454, none, .ld false 1 (.t 412)⟩, ⟨some 455, none, .clv (.t 452) [(.t 453), (.t 454)]⟩])
 (.seq (.reg [400, 57, 409, 412, 414] [
 ⟨some 456, none, .mkf 93 [(.t 414), (.t 412), (.t 409)]⟩, ⟨some 410, none, .mv (.t 456)⟩, ⟨some 411, none, .mv (.c (.sc (.bool true)))⟩])
 .ret))))))))
def rv86_400 : List RV := [.tmp 410, .tmp 411]
theorem ok86_400 : fnOkK Try.prog 400 ac86_400 rv86_400 Try.f86 = true := by kernel_rfl

def ac92_500 : AC :=
 (.seq (.reg [500, 17, 500, 501, 502, 503, 504] [
 ⟨some 507, none, .ld false 1 (.t 502)⟩, ⟨some 508, none, .ld false 1 (.t 503)⟩, ⟨some 509, none, .mv (.t 500)⟩, ⟨some 510, none, .ixs 1 (.t 507) (.t 508)⟩, ⟨none, none, .sto 1 (.t 510) (.t 509)⟩])
 (.seq (.reg [500, 17, 501, 502, 504] [
 ⟨some 511, none, .ld false 1 (.t 504)⟩, ⟨some 512, none, .cmp .geq .i64 (.t 511) (.c (.sc (.int .i64 0)))⟩])
 (.cond (.t 512)
 (.reg [500, 17, 501, 502, 504] [
 ⟨some 513, none, .ld false 1 (.t 502)⟩, ⟨some 514, none, .ld false 1 (.t 504)⟩, ⟨some 515, none, .mv (.t 501)⟩, ⟨some 516, none, .ixs 1 (.t 513) (.t 514)⟩, ⟨none, none, .sto 1 (.t 516) (.t 515)⟩])
 .skip)))
def rv92_500 : List RV := []
theorem ok92_500 : fnOkK Try.prog 500 ac92_500 rv92_500 Try.f92 = true := by kernel_rfl

def ac93_600 : AC :=
 (.reg [600, 7, 600, 601, 602] [
 ⟨some 603, none, .ld false 1 (.t 600)⟩, ⟨some 604, none, .ld false 1 (.t 601)⟩, ⟨some 605, none, .ld false 1 (.t 602)⟩, ⟨some 606, none, .clv (.t 603) [(.t 604), (.t 605)]⟩])
def rv93_600 : List RV := []
theorem ok93_600 : fnOkK Try.prog 600 ac93_600 rv93_600 Try.f93 = true := by kernel_rfl
end Go.Proofs.Ytbdamnfkgdbidaa.Txt
