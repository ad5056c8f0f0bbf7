/- TxtB T Q U V: lemmas for PMatches -/
import Derived.Test.YtbdamnfkgdbidaaPart05
import Derived.Test.YtbdamnfkgdbidaaChecked
import Derived.Test.YtbdamnfkgdbidaaPart10
set_option linter.unusedSimpArgs false
set_option linter.unusedVariables false
namespace Go.Proofs.Ytbdamnfkgdbidaa.Txt
open Go Go.Vc
set_option maxRecDepth 100000
def ac46b_r17 : AC :=
 (.seq (.seq (.reg [0, 141, 4, 5, 6, 12, 13, 14] [
 ⟨some 81, none, .bsl 1 4 [.sc (.bool false)] 2 [(0, (.c (.sc (.bool true)))), (1, (.c (.sc (.bool false))))]⟩, ⟨some 82, none, .len (.t 81)⟩, ⟨some 83, none, .mv (.c (.sc (.int .i64 0)))⟩])
 (.block 2
 (.loop [0, 141, 4, 5, 6, 12, 13, 14, 81, 82, 83]
 (.seq (.reg [0, 141, 4, 5, 6, 12, 13, 14, 81, 82, 83] [
 ⟨some 84, none, .cmp .lss .i64 (.t 83) (.t 82)⟩])
 (.seq (.cond (.t 84)
 .skip
 (.exit 2))
 (.seq (.block 3
 (.seq (.reg [0, 141, 4, 5, 6, 12, 13, 14, 81, 82, 83] [
 ⟨some 85, none, .ixs 1 (.t 81) (.t 83)⟩, ⟨some 86, none, .ld false 1 (.t 85)⟩, ⟨some 18, none, .mv (.t 86)⟩])
 (.seq (.reg [0, 141, 4, 5, 6, 12, 13, 14, 18, 81, 82, 83] [
 ⟨some 87, none, .fa 1 (.t 5)⟩, ⟨some 88, none, .ld false 1 (.t 87)⟩, ⟨some 89, none, .len (.t 88)⟩, ⟨some 90, none, .mv (.c (.sc (.int .i64 0)))⟩])
 (.block 4
 (.loop [0, 141, 4, 5, 6, 12, 13, 14, 18, 81, 82, 83, 88, 89, 90]
 (.seq (.reg [0, 141, 4, 5, 6, 12, 13, 14, 18, 81, 82, 83, 88, 89, 90] [
 ⟨some 91, none, .cmp .lss .i64 (.t 90) (.t 89)⟩])
 (.seq (.cond (.t 91)
 .skip
 (.exit 4))
 (.seq (.block 5
 (.seq (.reg [0, 141, 4, 5, 6, 12, 13, 14, 18, 81, 82, 83, 88, 89, 90] [
 ⟨some 92, none, .mv (.t 90)⟩, ⟨some 93, none, .ixs 5 (.t 88) (.t 90)⟩, ⟨some 94, none, .ld true 5 (.t 93)⟩, ⟨some 20, none, .alc [.nil, .sc (.int .i64 0), .sc (.int .i64 0), .sc (.int .i64 0), .sc (.int .u64 0)]⟩, ⟨some 19, none, .mv (.t 92)⟩, ⟨none, none, .sto 5 (.t 20) (.t 94)⟩])
 (.seq (.seq (.reg [0, 141, 4, 5, 6, 12, 13, 14, 18, 19, 20, 81, 82, 83, 88, 89, 90] [
 ⟨some 95, none, .mv (.t 13)⟩, ⟨some 96, none, .mv (.t 19)⟩, ⟨some 97, none, .ixs 1 (.t 95) (.t 96)⟩, ⟨some 98, none, .ld false 1 (.t 97)⟩, ⟨some 99, none, .cmp .geq .i64 (.t 98) (.c (.sc (.int .i64 0)))⟩, ⟨some 100, none, .mv (.t 99)⟩, ⟨some 101, some (100, false), .fa 2 (.t 20)⟩, ⟨some 102, some (100, false), .ld false 1 (.t 101)⟩, ⟨some 103, some (100, false), .cmp .neq .i64 (.t 102) (.c (.sc (.int .i64 (-1))))⟩, ⟨some 104, some (100, false), .mv (.t 18)⟩, ⟨some 105, some (100, false), .eqb true (.t 103) (.t 104)⟩, ⟨some 106, none, .pick (.t 100) (.c (.sc (.bool true))) (.t 105)⟩])
 (.cut [0, 141, 4, 5, 6, 12, 13, 14, 18, 19, 81, 82, 83, 88, 89, 90, 106] (.cond (.t 106)
 (.exit 5)
 .skip)))
 (.seq (.seq (.reg [0, 141, 4, 5, 6, 12, 13, 14, 18, 19, 81, 82, 83, 88, 89, 90] [
 ⟨some 107, none, .fa 4 (.t 6)⟩, ⟨some 108, none, .ld false 1 (.t 107)⟩, ⟨some 109, none, .len (.t 108)⟩, ⟨some 110, none, .mv (.c (.sc (.int .i64 0)))⟩])
 (.block 6
 (.loop [0, 141, 4, 5, 6, 12, 13, 14, 18, 19, 81, 82, 83, 88, 89, 90, 109, 110]
 (.seq (.reg [0, 141, 4, 5, 6, 12, 13, 14, 18, 19, 81, 82, 83, 88, 89, 90, 109, 110] [
 ⟨some 111, none, .cmp .lss .i64 (.t 110) (.t 109)⟩])
 (.seq (.cond (.t 111)
 .skip
 (.exit 6))
 (.seq (.block 7
 (.seq (.reg [0, 141, 4, 5, 6, 12, 13, 14, 18, 19, 81, 82, 83, 88, 89, 90, 109, 110] [
 ⟨some 112, none, .mv (.t 110)⟩, ⟨some 21, none, .mv (.t 112)⟩])
 (.seq (.reg [0, 141, 4, 5, 6, 12, 13, 14, 18, 19, 21, 81, 82, 83, 88, 89, 90, 109, 110] [
 ⟨some 113, none, .ld true 11 (.t 12)⟩, ⟨some 114, none, .mv (.t 19)⟩, ⟨some 115, none, .mv (.t 21)⟩, ⟨some 116, none, .cal 37 [(.t 113), (.t 114), (.t 115)]⟩, ⟨some 117, none, .mv (.t 116)⟩, ⟨some 118, some (117, true), .mv (.t 13)⟩, ⟨some 119, some (117, true), .mv (.t 21)⟩, ⟨some 120, some (117, true), .cal 64 [(.t 118), (.t 119)]⟩, ⟨some 121, some (117, true), .not (.t 120)⟩, ⟨some 122, none, .pick (.t 117) (.t 121) (.c (.sc (.bool false)))⟩])
 (.cut [0, 141, 4, 5, 6, 12, 13, 14, 18, 19, 21, 81, 82, 83, 88, 89, 90, 109, 110, 122] (.cond (.t 122)
 (.seq (.reg [0, 141, 4, 5, 6, 12, 13, 14, 18, 19, 21, 81, 82, 83, 88, 89, 90] [
 ⟨some 123, none, .mv (.t 13)⟩, ⟨some 124, none, .mv (.t 19)⟩, ⟨some 125, none, .mv (.t 21)⟩, ⟨some 126, none, .ixs 1 (.t 123) (.t 124)⟩, ⟨none, none, .sto 1 (.t 126) (.t 125)⟩])
 (.exit 6))
 .skip)))))
 (.reg [0, 141, 4, 5, 6, 12, 13, 14, 18, 19, 81, 82, 83, 88, 89, 90, 109, 110] [
 ⟨some 127, none, .ari .add true .i64 (.t 110) (.c (.sc (.int .i64 1)))⟩, ⟨some 110, none, .mv (.t 127)⟩])))))))
 (.seq (.reg [0, 141, 4, 5, 6, 12, 13, 14, 18, 19, 81, 82, 83, 88, 89, 90] [
 ⟨some 128, none, .mv (.t 13)⟩, ⟨some 129, none, .mv (.t 19)⟩, ⟨some 130, none, .ixs 1 (.t 128) (.t 129)⟩, ⟨some 131, none, .ld false 1 (.t 130)⟩, ⟨some 132, none, .cmp .lss .i64 (.t 131) (.c (.sc (.int .i64 0)))⟩])
 (.cond (.t 132)
 (.seq (.reg [0, 141] [
 ⟨some 10, none, .mv (.c (.nil))⟩, ⟨some 11, none, .mv (.c (.sc (.int .i64 4)))⟩])
 .ret)
 .skip))))))
 (.reg [0, 141, 4, 5, 6, 12, 13, 14, 18, 81, 82, 83, 88, 89, 90] [
 ⟨some 133, none, .ari .add true .i64 (.t 90) (.c (.sc (.int .i64 1)))⟩, ⟨some 90, none, .mv (.t 133)⟩])))))))))
 (.reg [0, 141, 4, 5, 6, 12, 13, 14, 81, 82, 83] [
 ⟨some 134, none, .ari .add true .i64 (.t 83) (.c (.sc (.int .i64 1)))⟩, ⟨some 83, none, .mv (.t 134)⟩])))))))
 (.seq (.reg [0, 141, 4, 12, 13, 14] [
 ⟨some 135, none, .ld true 11 (.t 12)⟩, ⟨some 136, none, .mv (.t 13)⟩, ⟨some 137, none, .mv (.t 14)⟩, ⟨some 138, none, .mv (.t 4)⟩, ⟨some 139, none, .clm 72 [(.t 135), (.t 136), (.t 137), (.t 138)]⟩])
 (.seq (.reg [0, 141, 13] [
 ⟨some 140, none, .mv (.t 13)⟩, ⟨some 10, none, .mv (.t 140)⟩, ⟨some 11, none, .mv (.c (.sc (.int .i64 0)))⟩])
 .ret)))
def ac46b : AC :=
 (.seq (.reg [0, 141, 0, 1, 2, 3, 4] [
 ⟨some 5, none, .box (.t 0)⟩, ⟨some 6, none, .box (.t 1)⟩, ⟨some 7, none, .box (.t 2)⟩, ⟨some 10, none, .mv (.c (.nil))⟩, ⟨some 11, none, .mv (.c (.sc (.int .i64 0)))⟩])
 (.seq (.seq (.reg [0, 141, 3, 4, 5, 6, 7] [
 ⟨some 22, none, .mv (.t 4)⟩, ⟨some 23, none, .cmp .lss .i64 (.t 22) (.c (.sc (.int .i64 0)))⟩, ⟨some 24, none, .mv (.t 23)⟩, ⟨some 25, some (24, false), .mv (.t 4)⟩, ⟨some 26, some (24, false), .cmp .gtr .i64 (.t 25) (.c (.sc (.int .i64 1000)))⟩, ⟨some 27, none, .pick (.t 24) (.c (.sc (.bool true))) (.t 26)⟩, ⟨some 28, none, .mv (.t 27)⟩, ⟨some 29, some (28, false), .mv (.t 3)⟩, ⟨some 30, some (28, false), .len (.t 29)⟩, ⟨some 31, some (28, false), .cmp .neq .i64 (.t 30) (.c (.sc (.int .i64 0)))⟩, ⟨some 32, some (28, false), .mv (.t 31)⟩, ⟨some 33, some (32, true), .mv (.t 3)⟩, ⟨some 34, some (32, true), .len (.t 33)⟩, ⟨some 35, some (32, true), .fa 1 (.t 5)⟩, ⟨some 36, some (32, true), .ld false 1 (.t 35)⟩, ⟨some 37, some (32, true), .len (.t 36)⟩, ⟨some 38, some (32, true), .cmp .neq .i64 (.t 34) (.t 37)⟩, ⟨some 39, some (28, false), .pick (.t 32) (.t 38) (.c (.sc (.bool false)))⟩, ⟨some 40, none, .pick (.t 28) (.c (.sc (.bool true))) (.t 39)⟩])
 (.cut [0, 141, 3, 4, 5, 6, 7, 40] (.cond (.t 40)
 (.seq (.reg [0, 141] [
 ⟨some 10, none, .mv (.c (.nil))⟩, ⟨some 11, none, .mv (.c (.sc (.int .i64 1)))⟩])
 .ret)
 .skip)))
 (.seq (.reg [0, 141, 3, 4, 5, 6, 7] [
 ⟨some 41, none, .ld true 4 (.t 5)⟩, ⟨some 42, none, .ld true 5 (.t 6)⟩, ⟨some 43, none, .ld true 2 (.t 7)⟩, ⟨some 44, none, .bld [.nil, .nil, .nil, .nil, .sc (.int .i64 0), .sc (.int .i64 0), .sc (.int .i64 0), .sc (.int .i64 0), .nil, .nil, .nil] [(0, 4, (.t 41)), (4, 5, (.t 42)), (9, 2, (.t 43))]⟩, ⟨some 12, none, .alc [.nil, .nil, .nil, .nil, .sc (.int .i64 0), .sc (.int .i64 0), .sc (.int .i64 0), .sc (.int .i64 0), .nil, .nil, .nil]⟩, ⟨none, none, .sto 11 (.t 12) (.t 44)⟩])
 (.seq (.seq (.reg [0, 141, 3, 4, 5, 6, 12] [
 ⟨some 45, none, .ld true 11 (.t 12)⟩, ⟨some 46, none, .cal 66 [(.t 45)]⟩, ⟨some 47, none, .not (.t 46)⟩])
 (.cond (.t 47)
 (.seq (.reg [0, 141] [
 ⟨some 10, none, .mv (.c (.nil))⟩, ⟨some 11, none, .mv (.c (.sc (.int .i64 290)))⟩])
 .ret)
 .skip))
 (.seq (.reg [0, 141, 3, 4, 5, 6, 12] [
 ⟨some 48, none, .bsl 1 3 [.sc (.int .i64 0)] 1 [(0, (.c (.sc (.int .i64 (-1)))))]⟩, ⟨some 49, none, .fa 1 (.t 5)⟩, ⟨some 50, none, .ld false 1 (.t 49)⟩, ⟨some 51, none, .len (.t 50)⟩, ⟨some 52, none, .clm 73 [(.t 48), (.t 51)]⟩, ⟨some 13, none, .mv (.t 52)⟩])
 (.seq (.reg [0, 141, 3, 4, 5, 6, 12, 13] [
 ⟨some 14, none, .mv (.c (.nil))⟩])
 (.seq (.seq (.reg [0, 141, 3, 4, 5, 6, 12, 13, 14] [
 ⟨some 53, none, .mv (.t 3)⟩, ⟨some 54, none, .len (.t 53)⟩, ⟨some 55, none, .mv (.c (.sc (.int .i64 0)))⟩])
 (.block 0
 (.loop [0, 141, 4, 5, 6, 12, 13, 14, 53, 54, 55]
 (.seq (.reg [0, 141, 4, 5, 6, 12, 13, 14, 53, 54, 55] [
 ⟨some 56, none, .cmp .lss .i64 (.t 55) (.t 54)⟩])
 (.seq (.cond (.t 56)
 .skip
 (.exit 0))
 (.seq (.block 1
 (.seq (.reg [0, 141, 4, 5, 6, 12, 13, 14, 53, 54, 55] [
 ⟨some 57, none, .mv (.t 55)⟩, ⟨some 58, none, .ixs 1 (.t 53) (.t 55)⟩, ⟨some 59, none, .ld false 1 (.t 58)⟩, ⟨some 15, none, .mv (.t 57)⟩, ⟨some 16, none, .mv (.t 59)⟩])
 (.seq (.seq (.reg [0, 141, 4, 5, 6, 12, 13, 14, 15, 16, 53, 54, 55] [
 ⟨some 60, none, .mv (.t 16)⟩, ⟨some 61, none, .cmp .eql .i64 (.t 60) (.c (.sc (.int .i64 (-1))))⟩])
 (.cond (.t 61)
 (.exit 1)
 .skip))
 (.seq (.seq (.reg [0, 141, 4, 5, 6, 12, 13, 14, 15, 16, 53, 54, 55] [
 ⟨some 62, none, .ld true 11 (.t 12)⟩, ⟨some 63, none, .mv (.t 15)⟩, ⟨some 64, none, .mv (.t 16)⟩, ⟨some 65, none, .cal 37 [(.t 62), (.t 63), (.t 64)]⟩, ⟨some 66, none, .not (.t 65)⟩, ⟨some 67, none, .mv (.t 66)⟩, ⟨some 68, some (67, false), .mv (.t 13)⟩, ⟨some 69, some (67, false), .mv (.t 16)⟩, ⟨some 70, some (67, false), .cal 64 [(.t 68), (.t 69)]⟩, ⟨some 71, none, .pick (.t 67) (.c (.sc (.bool true))) (.t 70)⟩])
 (.cut [0, 141, 4, 5, 6, 12, 13, 14, 15, 16, 53, 54, 55, 71] (.cond (.t 71)
 (.seq (.reg [0, 141] [
 ⟨some 10, none, .mv (.c (.nil))⟩, ⟨some 11, none, .mv (.c (.sc (.int .i64 290)))⟩])
 .ret)
 .skip)))
 (.seq (.reg [0, 141, 4, 5, 6, 12, 13, 14, 15, 16, 53, 54, 55] [
 ⟨some 72, none, .mv (.t 13)⟩, ⟨some 73, none, .mv (.t 15)⟩, ⟨some 74, none, .mv (.t 16)⟩, ⟨some 75, none, .ixs 1 (.t 72) (.t 73)⟩, ⟨none, none, .sto 1 (.t 75) (.t 74)⟩])
 (.reg [0, 141, 4, 5, 6, 12, 13, 14, 15, 53, 54, 55] [
 ⟨some 76, none, .mv (.t 14)⟩, ⟨some 77, none, .mv (.t 15)⟩, ⟨some 78, none, .bsl 1 3 [.sc (.int .i64 0)] 1 [(0, (.t 77))]⟩, ⟨some 79, none, .app 1 3 8 (.t 76) (.t 78)⟩, ⟨some 14, none, .mv (.t 79)⟩]))))))
 (.reg [0, 141, 4, 5, 6, 12, 13, 14, 53, 54, 55] [
 ⟨some 80, none, .ari .add true .i64 (.t 55) (.c (.sc (.int .i64 1)))⟩, ⟨some 55, none, .mv (.t 80)⟩])))))))
 (.frz [14] (.wk ac46b_r17)))))))))
def rv46b : List RV := [.tmp 10, .tmp 11]
theorem ok46b : fnOk Try.prog ac46b rv46b Try.f46 = true := by kernel_rfl

def ac88b : AC :=
 (.seq (.reg [0, 23, 0] [
 ⟨some 2, none, .mv (.c (.sc (.int .u64 0)))⟩])
 (.seq (.reg [0, 23, 0] [
 ⟨some 3, none, .mv (.c (.sc (.int .u64 512970876019)))⟩])
 (.seq (.seq (.reg [0, 23, 0, 3] [
 ⟨some 4, none, .mv (.c (.sc (.int .i64 0)))⟩])
 (.block 0
 (.loop [0, 23, 0, 3, 4]
 (.seq (.seq (.reg [0, 23, 0, 3, 4] [
 ⟨some 5, none, .mv (.t 4)⟩, ⟨some 6, none, .mv (.t 0)⟩, ⟨some 7, none, .len (.t 6)⟩, ⟨some 8, none, .cmp .lss .i64 (.t 5) (.t 7)⟩])
 (.cond (.t 8)
 .skip
 (.exit 0)))
 (.seq (.block 1
 (.reg [0, 23, 0, 3, 4] [
 ⟨some 11, none, .mv (.t 3)⟩, ⟨some 12, none, .mv (.t 0)⟩, ⟨some 13, none, .mv (.t 4)⟩, ⟨some 14, none, .ixs 1 (.t 12) (.t 13)⟩, ⟨some 15, none, .ld false 1 (.t 14)⟩, ⟨some 16, none, .cnv false .u64 (.t 15)⟩, ⟨some 17, none, .cal 96 [(.t 11), (.t 16)]⟩, ⟨some 3, none, .mv (.t 17)⟩]))
 (.reg [0, 23, 0, 3, 4] [
 ⟨some 9, none, .mv (.t 4)⟩, ⟨some 10, none, .ari .add true .i64 (.t 9) (.c (.sc (.int .i64 1)))⟩, ⟨some 4, none, .mv (.t 10)⟩]))))))
 (.seq (.reg [0, 23, 0, 3] [
 ⟨some 18, none, .mv (.t 3)⟩, ⟨some 19, none, .mv (.t 0)⟩, ⟨some 20, none, .len (.t 19)⟩, ⟨some 21, none, .cnv false .u64 (.t 20)⟩, ⟨some 22, none, .cal 96 [(.t 18), (.t 21)]⟩, ⟨some 2, none, .mv (.t 22)⟩])
 .ret))))
def rv88b : List RV := [.tmp 2]
theorem ok88b : fnOk Try.prog ac88b rv88b Try.f88 = true := by kernel_rfl

def ac74b : AC :=
 (.seq (.reg [0, 148, 0] [
 ⟨some 1, none, .box (.t 0)⟩, ⟨some 2, none, .mv (.c (.nil))⟩])
 (.seq (.reg [0, 148, 1] [
 ⟨some 11, none, .ld true 4 (.t 1)⟩, ⟨some 12, none, .cal 69 [(.t 11)]⟩, ⟨some 13, none, .mks 1 69 8 [.sc (.int .u64 0)] (.t 12) (.t 12)⟩, ⟨some 3, none, .mv (.t 13)⟩])
 (.seq (.seq (.reg [0, 148, 1, 3] [
 ⟨some 4, none, .mv (.c (.sc (.int .i64 0)))⟩])
 (.block 0
 (.loop [0, 148, 1, 3, 4]
 (.seq (.seq (.reg [0, 148, 1, 3, 4] [
 ⟨some 14, none, .mv (.t 4)⟩, ⟨some 15, none, .fa 0 (.t 1)⟩, ⟨some 16, none, .ld false 1 (.t 15)⟩, ⟨some 17, none, .len (.t 16)⟩, ⟨some 18, none, .cmp .lss .i64 (.t 14) (.t 17)⟩])
 (.cond (.t 18)
 .skip
 (.exit 0)))
 (.seq (.block 1
 (.drw [0, 148, 1, 3, 4] [
 ⟨⟨some 21, none, .mv (.t 3)⟩, [], [41], true⟩, ⟨⟨some 22, none, .mv (.t 4)⟩, [], [41], true⟩, ⟨⟨some 23, none, .fa 0 (.t 1)⟩, [], [], true⟩, ⟨⟨some 24, none, .ld false 1 (.t 23)⟩, [], [], true⟩, ⟨⟨some 25, none, .mv (.t 4)⟩, [], [], true⟩, ⟨⟨some 26, none, .ixs 3 (.t 24) (.t 25)⟩, [], [], true⟩, ⟨⟨some 27, none, .fa 0 (.t 26)⟩, [], [], true⟩, ⟨⟨some 28, none, .ld false 1 (.t 27)⟩, [], [], true⟩, ⟨⟨some 29, none, .fa 0 (.t 1)⟩, [], [], true⟩, ⟨⟨some 30, none, .ld false 1 (.t 29)⟩, [], [], true⟩, ⟨⟨some 31, none, .mv (.t 4)⟩, [], [], true⟩, ⟨⟨some 32, none, .ixs 3 (.t 30) (.t 31)⟩, [], [], true⟩, ⟨⟨some 33, none, .fa 1 (.t 32)⟩, [], [], true⟩, ⟨⟨some 34, none, .ld false 1 (.t 33)⟩, [], [], true⟩, ⟨⟨some 35, none, .fa 0 (.t 1)⟩, [], [], true⟩, ⟨⟨some 36, none, .ld false 1 (.t 35)⟩, [], [], true⟩, ⟨⟨some 37, none, .mv (.t 4)⟩, [], [], true⟩, ⟨⟨some 38, none, .ixs 3 (.t 36) (.t 37)⟩, [], [], true⟩, ⟨⟨some 39, none, .fa 2 (.t 38)⟩, [], [], true⟩, ⟨⟨some 40, none, .ld false 1 (.t 39)⟩, [], [], true⟩, ⟨⟨some 41, none, .bsl 1 3 [.sc (.int .i64 0)] 4 [(0, (.c (.sc (.int .i64 2)))), (1, (.t 28)), (2, (.t 34)), (3, (.t 40))]⟩, [41], [], true⟩, ⟨⟨some 42, none, .cal 88 [(.t 41)]⟩, [], [], true⟩, ⟨⟨some 43, none, .ixs 1 (.t 21) (.t 22)⟩, [], [], false⟩, ⟨⟨none, none, .sto 1 (.t 43) (.t 42)⟩, [], [], false⟩]))
 (.reg [0, 148, 1, 3, 4] [
 ⟨some 19, none, .mv (.t 4)⟩, ⟨some 20, none, .ari .add true .i64 (.t 19) (.c (.sc (.int .i64 1)))⟩, ⟨some 4, none, .mv (.t 20)⟩]))))))
 (.seq (.seq (.reg [0, 148, 1, 3] [
 ⟨some 5, none, .mv (.c (.sc (.int .i64 0)))⟩])
 (.block 2
 (.loop [0, 148, 1, 3, 5]
 (.seq (.seq (.reg [0, 148, 1, 3, 5] [
 ⟨some 44, none, .mv (.t 5)⟩, ⟨some 45, none, .fa 1 (.t 1)⟩, ⟨some 46, none, .ld false 1 (.t 45)⟩, ⟨some 47, none, .len (.t 46)⟩, ⟨some 48, none, .cmp .lss .i64 (.t 44) (.t 47)⟩])
 (.cond (.t 48)
 .skip
 (.exit 2)))
 (.seq (.block 3
 (.seq (.reg [0, 148, 1, 3, 5] [
 ⟨some 51, none, .fa 1 (.t 1)⟩, ⟨some 52, none, .ld false 1 (.t 51)⟩, ⟨some 53, none, .mv (.t 5)⟩, ⟨some 54, none, .ixs 5 (.t 52) (.t 53)⟩, ⟨some 55, none, .fa 3 (.t 54)⟩, ⟨some 56, none, .ld false 1 (.t 55)⟩, ⟨some 57, none, .cmp .geq .i64 (.t 56) (.c (.sc (.int .i64 0)))⟩])
 (.cond (.t 57)
 (.seq (.drw [0, 148, 1, 3, 5] [
 ⟨⟨some 58, none, .mv (.t 3)⟩, [], [71], true⟩, ⟨⟨some 59, none, .fa 0 (.t 1)⟩, [], [71], true⟩, ⟨⟨some 60, none, .ld false 1 (.t 59)⟩, [], [71], true⟩, ⟨⟨some 61, none, .len (.t 60)⟩, [], [71], true⟩, ⟨⟨some 62, none, .mv (.t 5)⟩, [], [71], true⟩, ⟨⟨some 63, none, .ari .mul true .i64 (.c (.sc (.int .i64 2))) (.t 62)⟩, [], [71], true⟩, ⟨⟨some 64, none, .ari .add true .i64 (.t 61) (.t 63)⟩, [], [71], true⟩, ⟨⟨some 65, none, .fa 1 (.t 1)⟩, [], [], true⟩, ⟨⟨some 66, none, .ld false 1 (.t 65)⟩, [], [], true⟩, ⟨⟨some 67, none, .mv (.t 5)⟩, [], [], true⟩, ⟨⟨some 68, none, .ixs 5 (.t 66) (.t 67)⟩, [], [], true⟩, ⟨⟨some 69, none, .fa 3 (.t 68)⟩, [], [], true⟩, ⟨⟨some 70, none, .ld false 1 (.t 69)⟩, [], [], true⟩, ⟨⟨some 71, none, .bsl 1 3 [.sc (.int .i64 0)] 2 [(0, (.c (.sc (.int .i64 3)))), (1, (.t 70))]⟩, [71], [], true⟩, ⟨⟨some 72, none, .cal 88 [(.t 71)]⟩, [], [], true⟩, ⟨⟨some 73, none, .ixs 1 (.t 58) (.t 64)⟩, [], [], false⟩, ⟨⟨none, none, .sto 1 (.t 73) (.t 72)⟩, [], [], false⟩])
 (.drw [0, 148, 1, 3, 5] [
 ⟨⟨some 74, none, .mv (.t 3)⟩, [], [88], true⟩, ⟨⟨some 75, none, .fa 0 (.t 1)⟩, [], [88], true⟩, ⟨⟨some 76, none, .ld false 1 (.t 75)⟩, [], [88], true⟩, ⟨⟨some 77, none, .len (.t 76)⟩, [], [88], true⟩, ⟨⟨some 78, none, .mv (.t 5)⟩, [], [88], true⟩, ⟨⟨some 79, none, .ari .mul true .i64 (.c (.sc (.int .i64 2))) (.t 78)⟩, [], [88], true⟩, ⟨⟨some 80, none, .ari .add true .i64 (.t 77) (.t 79)⟩, [], [88], true⟩, ⟨⟨some 81, none, .ari .add true .i64 (.t 80) (.c (.sc (.int .i64 1)))⟩, [], [88], true⟩, ⟨⟨some 82, none, .fa 1 (.t 1)⟩, [], [], true⟩, ⟨⟨some 83, none, .ld false 1 (.t 82)⟩, [], [], true⟩, ⟨⟨some 84, none, .mv (.t 5)⟩, [], [], true⟩, ⟨⟨some 85, none, .ixs 5 (.t 83) (.t 84)⟩, [], [], true⟩, ⟨⟨some 86, none, .fa 3 (.t 85)⟩, [], [], true⟩, ⟨⟨some 87, none, .ld false 1 (.t 86)⟩, [], [], true⟩, ⟨⟨some 88, none, .bsl 1 3 [.sc (.int .i64 0)] 2 [(0, (.c (.sc (.int .i64 1)))), (1, (.t 87))]⟩, [88], [], true⟩, ⟨⟨some 89, none, .cal 88 [(.t 88)]⟩, [], [], true⟩, ⟨⟨some 90, none, .ixs 1 (.t 74) (.t 81)⟩, [], [], false⟩, ⟨⟨none, none, .sto 1 (.t 90) (.t 89)⟩, [], [], false⟩]))
 .skip)))
 (.reg [0, 148, 1, 3, 5] [
 ⟨some 49, none, .mv (.t 5)⟩, ⟨some 50, none, .ari .add true .i64 (.t 49) (.c (.sc (.int .i64 1)))⟩, ⟨some 5, none, .mv (.t 50)⟩]))))))
 (.seq (.reg [0, 148, 1, 3] [
 ⟨some 91, none, .ld true 4 (.t 1)⟩, ⟨some 92, none, .cal 89 [(.t 91)]⟩, ⟨some 6, none, .mv (.t 92)⟩])
 (.seq (.seq (.reg [0, 148, 1, 3, 6] [
 ⟨some 7, none, .mv (.c (.sc (.int .i64 0)))⟩])
 (.block 4
 (.loop [0, 148, 1, 3, 6, 7]
 (.seq (.seq (.reg [0, 148, 1, 3, 6, 7] [
 ⟨some 93, none, .mv (.t 7)⟩, ⟨some 94, none, .mv (.t 6)⟩, ⟨some 95, none, .len (.t 94)⟩, ⟨some 96, none, .cmp .lss .i64 (.t 93) (.t 95)⟩])
 (.cond (.t 96)
 .skip
 (.exit 4)))
 (.seq (.block 5
 (.seq (.drw [0, 148, 1, 3, 6, 7] [
 ⟨⟨some 99, none, .fa 1 (.t 1)⟩, [], [8], true⟩, ⟨⟨some 100, none, .ld false 1 (.t 99)⟩, [], [8], true⟩, ⟨⟨some 101, none, .mv (.t 6)⟩, [], [8], true⟩, ⟨⟨some 102, none, .mv (.t 7)⟩, [], [8], true⟩, ⟨⟨some 103, none, .ixs 1 (.t 101) (.t 102)⟩, [], [8], true⟩, ⟨⟨some 104, none, .ld false 1 (.t 103)⟩, [], [8], true⟩, ⟨⟨some 105, none, .ixs 5 (.t 100) (.t 104)⟩, [], [8], true⟩, ⟨⟨some 106, none, .ld true 5 (.t 105)⟩, [], [8], true⟩, ⟨⟨some 8, none, .alc [.nil, .sc (.int .i64 0), .sc (.int .i64 0), .sc (.int .i64 0), .sc (.int .u64 0)]⟩, [8], [], true⟩, ⟨⟨none, none, .sto 5 (.t 8) (.t 106)⟩, [], [], false⟩])
 (.seq (.seq (.reg [0, 148, 1, 3, 6, 7, 8] [
 ⟨some 107, none, .fa 3 (.t 8)⟩, ⟨some 108, none, .ld false 1 (.t 107)⟩, ⟨some 109, none, .cmp .geq .i64 (.t 108) (.c (.sc (.int .i64 0)))⟩])
 (.cond (.t 109)
 (.exit 5)
 .skip))
 (.seq (.reg [0, 148, 1, 3, 6, 7, 8] [
 ⟨some 110, none, .fa 1 (.t 8)⟩, ⟨some 111, none, .ld false 1 (.t 110)⟩, ⟨some 112, none, .fa 2 (.t 8)⟩, ⟨some 113, none, .ld false 1 (.t 112)⟩, ⟨some 114, none, .bsl 1 3 [.sc (.int .i64 0)] 3 [(0, (.c (.sc (.int .i64 4)))), (1, (.t 111)), (2, (.t 113))]⟩, ⟨some 9, none, .mv (.t 114)⟩])
 (.seq (.seq (.reg [0, 148, 1, 3, 6, 7, 8, 9] [
 ⟨some 10, none, .mv (.c (.sc (.int .i64 0)))⟩])
 (.block 6
 (.loop [0, 148, 1, 3, 6, 7, 8, 9, 10]
 (.seq (.seq (.reg [0, 148, 1, 3, 6, 7, 8, 9, 10] [
 ⟨some 115, none, .mv (.t 10)⟩, ⟨some 116, none, .fa 0 (.t 8)⟩, ⟨some 117, none, .ld false 1 (.t 116)⟩, ⟨some 118, none, .len (.t 117)⟩, ⟨some 119, none, .cmp .lss .i64 (.t 115) (.t 118)⟩])
 (.cond (.t 119)
 .skip
 (.exit 6)))
 (.seq (.block 7
 (.reg [0, 148, 1, 3, 6, 7, 8, 9, 10] [
 ⟨some 122, none, .mv (.t 9)⟩, ⟨some 123, none, .mv (.t 3)⟩, ⟨some 124, none, .fa 0 (.t 8)⟩, ⟨some 125, none, .ld false 1 (.t 124)⟩, ⟨some 126, none, .mv (.t 10)⟩, ⟨some 127, none, .ixs 1 (.t 125) (.t 126)⟩, ⟨some 128, none, .ld false 1 (.t 127)⟩, ⟨some 129, none, .ixs 1 (.t 123) (.t 128)⟩, ⟨some 130, none, .ld false 1 (.t 129)⟩, ⟨some 131, none, .cnv false .i64 (.t 130)⟩, ⟨some 132, none, .bsl 1 3 [.sc (.int .i64 0)] 1 [(0, (.t 131))]⟩, ⟨some 133, none, .app 1 3 8 (.t 122) (.t 132)⟩, ⟨some 9, none, .mv (.t 133)⟩]))
 (.reg [0, 148, 1, 3, 6, 7, 8, 9, 10] [
 ⟨some 120, none, .mv (.t 10)⟩, ⟨some 121, none, .ari .add true .i64 (.t 120) (.c (.sc (.int .i64 1)))⟩, ⟨some 10, none, .mv (.t 121)⟩]))))))
 (.drw [0, 148, 1, 3, 6, 7, 9] [
 ⟨⟨some 134, none, .mv (.t 3)⟩, [], [], true⟩, ⟨⟨some 135, none, .fa 0 (.t 1)⟩, [], [], true⟩, ⟨⟨some 136, none, .ld false 1 (.t 135)⟩, [], [], true⟩, ⟨⟨some 137, none, .len (.t 136)⟩, [], [], true⟩, ⟨⟨some 138, none, .mv (.t 6)⟩, [], [], true⟩, ⟨⟨some 139, none, .mv (.t 7)⟩, [], [], true⟩, ⟨⟨some 140, none, .ixs 1 (.t 138) (.t 139)⟩, [], [], true⟩, ⟨⟨some 141, none, .ld false 1 (.t 140)⟩, [], [], true⟩, ⟨⟨some 142, none, .ari .mul true .i64 (.c (.sc (.int .i64 2))) (.t 141)⟩, [], [], true⟩, ⟨⟨some 143, none, .ari .add true .i64 (.t 137) (.t 142)⟩, [], [], true⟩, ⟨⟨some 144, none, .mv (.t 9)⟩, [], [], true⟩, ⟨⟨some 145, none, .cal 88 [(.t 144)]⟩, [], [], true⟩, ⟨⟨some 146, none, .ixs 1 (.t 134) (.t 143)⟩, [], [], false⟩, ⟨⟨none, none, .sto 1 (.t 146) (.t 145)⟩, [], [], false⟩]))))))
 (.reg [0, 148, 1, 3, 6, 7] [
 ⟨some 97, none, .mv (.t 7)⟩, ⟨some 98, none, .ari .add true .i64 (.t 97) (.c (.sc (.int .i64 1)))⟩, ⟨some 7, none, .mv (.t 98)⟩]))))))
 (.seq (.reg [0, 148, 3] [
 ⟨some 147, none, .mv (.t 3)⟩, ⟨some 2, none, .mv (.t 147)⟩])
 .ret)))))))
def rv74b : List RV := [.tmp 2]
theorem ok74b : fnOk Try.prog ac74b rv74b Try.f74 = true := by kernel_rfl

def ac29b_r31 : AC :=
 (.seq (.seq (.reg [0, 219, 1, 2, 3, 5, 6, 9, 11, 12, 13, 14] [
 ⟨some 15, none, .mv (.c (.sc (.int .i64 0)))⟩])
 (.block 8
 (.loop [0, 219, 1, 2, 3, 5, 6, 9, 11, 12, 13, 14, 15]
 (.seq (.seq (.reg [0, 219, 1, 2, 3, 5, 6, 9, 11, 12, 13, 14, 15] [
 ⟨some 110, none, .mv (.t 15)⟩, ⟨some 111, none, .mv (.t 14)⟩, ⟨some 112, none, .cmp .lss .i64 (.t 110) (.t 111)⟩])
 (.cond (.t 112)
 .skip
 (.exit 8)))
 (.seq (.block 9
 (.drw [0, 219, 1, 2, 3, 5, 6, 9, 11, 12, 13, 14, 15] [
 ⟨⟨some 115, none, .fa 0 (.t 13)⟩, [], [132], true⟩, ⟨⟨some 116, none, .ld false 1 (.t 115)⟩, [], [132], true⟩, ⟨⟨some 117, none, .mv (.t 9)⟩, [], [], true⟩, ⟨⟨some 118, none, .mv (.t 9)⟩, [], [], true⟩, ⟨⟨some 119, none, .len (.t 118)⟩, [], [], true⟩, ⟨⟨some 120, none, .ari .sub true .i64 (.t 119) (.c (.sc (.int .i64 1)))⟩, [], [], true⟩, ⟨⟨some 121, none, .mv (.t 15)⟩, [], [], true⟩, ⟨⟨some 122, none, .ari .add true .i64 (.c (.sc (.int .i64 2))) (.t 121)⟩, [], [], true⟩, ⟨⟨some 123, none, .ixa 6 1 (.t 12) (.t 122)⟩, [], [], true⟩, ⟨⟨some 124, none, .ld false 1 (.t 123)⟩, [], [], true⟩, ⟨⟨some 125, none, .cnv true .i64 (.t 124)⟩, [], [], true⟩, ⟨⟨some 126, none, .mv (.t 9)⟩, [], [], true⟩, ⟨⟨some 127, none, .len (.t 126)⟩, [], [], true⟩, ⟨⟨some 128, none, .dvd .rem true .i64 (.t 125) (.t 127)⟩, [], [], true⟩, ⟨⟨some 129, none, .ari .sub true .i64 (.t 120) (.t 128)⟩, [], [], true⟩, ⟨⟨some 130, none, .ixs 1 (.t 117) (.t 129)⟩, [], [], true⟩, ⟨⟨some 131, none, .ld false 1 (.t 130)⟩, [], [], true⟩, ⟨⟨some 132, none, .bsl 1 3 [.sc (.int .i64 0)] 1 [(0, (.t 131))]⟩, [132], [], true⟩, ⟨⟨some 133, none, .app 1 3 8 (.t 116) (.t 132)⟩, [], [], false⟩, ⟨⟨some 134, none, .fa 0 (.t 13)⟩, [], [], false⟩, ⟨⟨none, none, .sto 1 (.t 134) (.t 133)⟩, [], [], false⟩]))
 (.reg [0, 219, 1, 2, 3, 5, 6, 9, 11, 12, 13, 14, 15] [
 ⟨some 113, none, .mv (.t 15)⟩, ⟨some 114, none, .ari .add true .i64 (.t 113) (.c (.sc (.int .i64 1)))⟩, ⟨some 15, none, .mv (.t 114)⟩]))))))
 (.seq (.seq (.reg [0, 219, 1, 2, 3, 5, 6, 9, 11, 12, 13, 14] [
 ⟨some 135, none, .fa 2 (.t 13)⟩, ⟨some 136, none, .ld false 1 (.t 135)⟩, ⟨some 137, none, .cmp .eql .i64 (.t 136) (.c (.sc (.int .i64 (-1))))⟩])
 (.cond (.t 137)
 (.reg [0, 219, 1, 2, 3, 5, 6, 9, 11, 12, 13, 14] [
 ⟨some 138, none, .ixa 6 1 (.t 12) (.c (.sc (.int .i64 5)))⟩, ⟨some 139, none, .ld false 1 (.t 138)⟩, ⟨some 140, none, .cnv true .i64 (.t 139)⟩, ⟨some 141, none, .ari .mul true .i64 (.c (.sc (.int .i64 257))) (.t 140)⟩, ⟨some 142, none, .ixa 6 1 (.t 12) (.c (.sc (.int .i64 1)))⟩, ⟨some 143, none, .ld false 1 (.t 142)⟩, ⟨some 144, none, .cnv true .i64 (.t 143)⟩, ⟨some 145, none, .ari .add true .i64 (.t 141) (.t 144)⟩, ⟨some 146, none, .mv (.t 14)⟩, ⟨some 147, none, .cnv true .u64 (.t 146)⟩, ⟨some 148, none, .shf .shl .u64 (.c (.sc (.int .u64 1))) (.t 147)⟩, ⟨some 149, none, .shf .shl .i64 (.c (.sc (.int .i64 1))) (.t 148)⟩, ⟨some 150, none, .dvd .rem true .i64 (.t 145) (.t 149)⟩, ⟨some 151, none, .fa 1 (.t 13)⟩, ⟨none, none, .sto 1 (.t 151) (.t 150)⟩])
 .skip))
 (.seq (.reg [0, 219, 1, 2, 3, 5, 6, 9, 11, 13] [
 ⟨some 152, none, .fa 1 (.t 3)⟩, ⟨some 153, none, .ld false 1 (.t 152)⟩, ⟨some 154, none, .ld true 5 (.t 13)⟩, ⟨some 155, none, .bsl 5 71 [.nil, .sc (.int .i64 0), .sc (.int .i64 0), .sc (.int .i64 0), .sc (.int .u64 0)] 1 [(0, (.t 154))]⟩, ⟨some 156, none, .app 5 71 56 (.t 153) (.t 155)⟩, ⟨some 157, none, .fa 1 (.t 3)⟩, ⟨none, none, .sto 1 (.t 157) (.t 156)⟩])
 (.reg [0, 219, 1, 2, 3, 5, 6, 9, 11] [
 ⟨some 158, none, .mv (.t 9)⟩, ⟨some 159, none, .mv (.t 5)⟩, ⟨some 160, none, .mv (.t 11)⟩, ⟨some 161, none, .ari .mul true .i64 (.c (.sc (.int .i64 2))) (.t 160)⟩, ⟨some 162, none, .ari .add true .i64 (.t 159) (.t 161)⟩, ⟨some 163, none, .bsl 1 3 [.sc (.int .i64 0)] 1 [(0, (.t 162))]⟩, ⟨some 164, none, .app 1 3 8 (.t 158) (.t 163)⟩, ⟨some 9, none, .mv (.t 164)⟩]))))
def ac29b_r39 : AC :=
 (.seq (.seq (.reg [0, 219, 1, 2, 3, 6, 9] [
 ⟨some 16, none, .mv (.c (.sc (.int .i64 0)))⟩])
 (.block 10
 (.loop [0, 219, 1, 2, 3, 6, 9, 16]
 (.seq (.seq (.reg [0, 219, 1, 2, 3, 6, 9, 16] [
 ⟨some 165, none, .mv (.t 16)⟩, ⟨some 166, none, .fa 1 (.t 1)⟩, ⟨some 167, none, .ld false 1 (.t 166)⟩, ⟨some 168, none, .dvd .rem true .u8 (.t 167) (.c (.sc (.int .u8 4)))⟩, ⟨some 169, none, .cnv true .i64 (.t 168)⟩, ⟨some 170, none, .cmp .leq .i64 (.t 165) (.t 169)⟩])
 (.cond (.t 170)
 .skip
 (.exit 10)))
 (.seq (.block 11
 (.seq (.reg [0, 219, 1, 2, 3, 6, 9, 16] [
 ⟨some 173, none, .fa 2 (.t 3)⟩, ⟨some 174, none, .ld false 1 (.t 173)⟩, ⟨some 175, none, .mv (.t 16)⟩, ⟨some 176, none, .bld [.sc (.int .i64 0), .sc (.int .i64 0), .sc (.int .i64 0)] [(0, 1, (.c (.sc (.int .i64 5)))), (1, 1, (.t 175))]⟩, ⟨some 177, none, .bsl 3 93 [.sc (.int .i64 0), .sc (.int .i64 0), .sc (.int .i64 0)] 1 [(0, (.t 176))]⟩, ⟨some 178, none, .app 3 93 24 (.t 174) (.t 177)⟩, ⟨some 179, none, .fa 2 (.t 3)⟩, ⟨none, none, .sto 1 (.t 179) (.t 178)⟩])
 (.drw [0, 219, 1, 2, 3, 6, 9, 16] [
 ⟨⟨some 180, none, .fa 3 (.t 3)⟩, [], [199], true⟩, ⟨⟨some 181, none, .ld false 1 (.t 180)⟩, [], [199], true⟩, ⟨⟨some 182, none, .mv (.t 9)⟩, [], [], true⟩, ⟨⟨some 183, none, .mv (.t 9)⟩, [], [], true⟩, ⟨⟨some 184, none, .len (.t 183)⟩, [], [], true⟩, ⟨⟨some 185, none, .ari .sub true .i64 (.t 184) (.c (.sc (.int .i64 1)))⟩, [], [], true⟩, ⟨⟨some 186, none, .fa 1 (.t 1)⟩, [], [], true⟩, ⟨⟨some 187, none, .ld false 1 (.t 186)⟩, [], [], true⟩, ⟨⟨some 188, none, .dvd .quo true .u8 (.t 187) (.c (.sc (.int .u8 4)))⟩, [], [], true⟩, ⟨⟨some 189, none, .cnv true .i64 (.t 188)⟩, [], [], true⟩, ⟨⟨some 190, none, .mv (.t 16)⟩, [], [], true⟩, ⟨⟨some 191, none, .ari .mul true .i64 (.c (.sc (.int .i64 3))) (.t 190)⟩, [], [], true⟩, ⟨⟨some 192, none, .ari .add true .i64 (.t 189) (.t 191)⟩, [], [], true⟩, ⟨⟨some 193, none, .mv (.t 9)⟩, [], [], true⟩, ⟨⟨some 194, none, .len (.t 193)⟩, [], [], true⟩, ⟨⟨some 195, none, .dvd .rem true .i64 (.t 192) (.t 194)⟩, [], [], true⟩, ⟨⟨some 196, none, .ari .sub true .i64 (.t 185) (.t 195)⟩, [], [], true⟩, ⟨⟨some 197, none, .ixs 1 (.t 182) (.t 196)⟩, [], [], true⟩, ⟨⟨some 198, none, .ld false 1 (.t 197)⟩, [], [], true⟩, ⟨⟨some 199, none, .bsl 1 3 [.sc (.int .i64 0)] 1 [(0, (.t 198))]⟩, [199], [], true⟩, ⟨⟨some 200, none, .app 1 3 8 (.t 181) (.t 199)⟩, [], [], false⟩, ⟨⟨some 201, none, .fa 3 (.t 3)⟩, [], [], false⟩, ⟨⟨none, none, .sto 1 (.t 201) (.t 200)⟩, [], [], false⟩])))
 (.reg [0, 219, 1, 2, 3, 6, 9, 16] [
 ⟨some 171, none, .mv (.t 16)⟩, ⟨some 172, none, .ari .add true .i64 (.t 171) (.c (.sc (.int .i64 1)))⟩, ⟨some 16, none, .mv (.t 172)⟩]))))))
 (.seq (.reg [0, 219, 2, 3, 6] [
 ⟨some 202, none, .ld true 4 (.t 3)⟩, ⟨some 203, none, .cal 48 [(.t 202)]⟩, ⟨some 17, none, .mv (.t 203)⟩])
 (.seq (.seq (.reg [0, 219, 2, 3, 6, 17] [
 ⟨some 18, none, .mv (.c (.sc (.int .i64 0)))⟩])
 (.block 12
 (.loop [0, 219, 2, 3, 6, 17, 18]
 (.seq (.seq (.reg [0, 219, 2, 3, 6, 17, 18] [
 ⟨some 204, none, .mv (.t 18)⟩, ⟨some 205, none, .mv (.t 6)⟩, ⟨some 206, none, .cmp .lss .i64 (.t 204) (.t 205)⟩])
 (.cond (.t 206)
 .skip
 (.exit 12)))
 (.seq (.block 13
 (.drw [0, 219, 2, 3, 6, 17, 18] [
 ⟨⟨some 209, none, .fa 1 (.t 3)⟩, [], [], true⟩, ⟨⟨some 210, none, .ld false 1 (.t 209)⟩, [], [], true⟩, ⟨⟨some 211, none, .mv (.t 18)⟩, [], [], true⟩, ⟨⟨some 212, none, .mv (.t 17)⟩, [], [], true⟩, ⟨⟨some 213, none, .mv (.t 18)⟩, [], [], true⟩, ⟨⟨some 214, none, .ixs 1 (.t 212) (.t 213)⟩, [], [], true⟩, ⟨⟨some 215, none, .ld false 1 (.t 214)⟩, [], [], true⟩, ⟨⟨some 216, none, .ixs 5 (.t 210) (.t 211)⟩, [], [], false⟩, ⟨⟨some 217, none, .fa 4 (.t 216)⟩, [], [], false⟩, ⟨⟨none, none, .sto 1 (.t 217) (.t 215)⟩, [], [], false⟩]))
 (.reg [0, 219, 2, 3, 6, 17, 18] [
 ⟨some 207, none, .mv (.t 18)⟩, ⟨some 208, none, .ari .add true .i64 (.t 207) (.c (.sc (.int .i64 1)))⟩, ⟨some 18, none, .mv (.t 208)⟩]))))))
 (.seq (.reg [0, 219, 2, 3] [
 ⟨some 218, none, .ld true 4 (.t 3)⟩, ⟨none, none, .sto 4 (.t 2) (.t 218)⟩])
 .ret))))
def ac29b_r20 : AC :=
 (.seq (.seq (.reg [0, 219, 1, 2, 3, 5, 6, 9] [
 ⟨some 11, none, .mv (.c (.sc (.int .i64 0)))⟩])
 (.block 6
 (.loop [0, 219, 1, 2, 3, 5, 6, 9, 11]
 (.seq (.seq (.reg [0, 219, 1, 2, 3, 5, 6, 9, 11] [
 ⟨some 77, none, .mv (.t 11)⟩, ⟨some 78, none, .mv (.t 6)⟩, ⟨some 79, none, .cmp .lss .i64 (.t 77) (.t 78)⟩])
 (.cond (.t 79)
 .skip
 (.exit 6)))
 (.seq (.block 7
 (.seq (.reg [0, 219, 1, 2, 3, 5, 6, 9, 11] [
 ⟨some 82, none, .fa 2 (.t 1)⟩, ⟨some 83, none, .ld false 1 (.t 82)⟩, ⟨some 84, none, .mv (.t 11)⟩, ⟨some 85, none, .ixs 6 (.t 83) (.t 84)⟩, ⟨some 86, none, .ld true 6 (.t 85)⟩, ⟨some 12, none, .alc [.sc (.int .u8 0), .sc (.int .u8 0), .sc (.int .u8 0), .sc (.int .u8 0), .sc (.int .u8 0), .sc (.int .u8 0)]⟩, ⟨none, none, .sto 6 (.t 12) (.t 86)⟩])
 (.seq (.reg [0, 219, 1, 2, 3, 5, 6, 9, 11, 12] [
 ⟨some 87, none, .bld [.nil, .sc (.int .i64 0), .sc (.int .i64 0), .sc (.int .i64 0), .sc (.int .u64 0)] [(2, 1, (.c (.sc (.int .i64 (-1))))), (3, 1, (.c (.sc (.int .i64 (-1)))))]⟩, ⟨some 13, none, .alc [.nil, .sc (.int .i64 0), .sc (.int .i64 0), .sc (.int .i64 0), .sc (.int .u64 0)]⟩, ⟨none, none, .sto 5 (.t 13) (.t 87)⟩])
 (.seq (.reg [0, 219, 1, 2, 3, 5, 6, 9, 11, 12, 13] [
 ⟨some 88, none, .ixa 6 1 (.t 12) (.c (.sc (.int .i64 1)))⟩, ⟨some 89, none, .ld false 1 (.t 88)⟩, ⟨some 90, none, .dvd .rem true .u8 (.t 89) (.c (.sc (.int .u8 5)))⟩, ⟨some 91, none, .cnv true .i64 (.t 90)⟩, ⟨some 14, none, .mv (.t 91)⟩])
 (.seq (.seq (.reg [0, 219, 1, 2, 3, 5, 6, 9, 11, 12, 13, 14] [
 ⟨some 92, none, .ixa 6 1 (.t 12) (.c (.sc (.int .i64 0)))⟩, ⟨some 93, none, .ld false 1 (.t 92)⟩, ⟨some 94, none, .dvd .rem true .u8 (.t 93) (.c (.sc (.int .u8 4)))⟩, ⟨some 95, none, .cmp .eql .u8 (.t 94) (.c (.sc (.int .u8 1)))⟩])
 (.cond (.t 95)
 (.reg [0, 219, 1, 2, 3, 5, 6, 9, 11, 12, 13, 14] [
 ⟨some 96, none, .mv (.t 11)⟩, ⟨some 97, none, .fa 3 (.t 13)⟩, ⟨none, none, .sto 1 (.t 97) (.t 96)⟩])
 .skip))
 (.seq (.seq (.reg [0, 219, 1, 2, 3, 5, 6, 9, 11, 12, 13, 14] [
 ⟨some 98, none, .ixa 6 1 (.t 12) (.c (.sc (.int .i64 0)))⟩, ⟨some 99, none, .ld false 1 (.t 98)⟩, ⟨some 100, none, .dvd .rem true .u8 (.t 99) (.c (.sc (.int .u8 4)))⟩, ⟨some 101, none, .cmp .eql .u8 (.t 100) (.c (.sc (.int .u8 2)))⟩])
 (.cond (.t 101)
 (.seq (.reg [0, 219, 1, 2, 3, 5, 6, 9, 11, 12, 13, 14] [
 ⟨some 102, none, .ixa 6 1 (.t 12) (.c (.sc (.int .i64 0)))⟩, ⟨some 103, none, .ld false 1 (.t 102)⟩, ⟨some 104, none, .dvd .quo true .u8 (.t 103) (.c (.sc (.int .u8 4)))⟩, ⟨some 105, none, .dvd .rem true .u8 (.t 104) (.c (.sc (.int .u8 16)))⟩, ⟨some 106, none, .cnv true .i64 (.t 105)⟩, ⟨some 107, none, .fa 2 (.t 13)⟩, ⟨none, none, .sto 1 (.t 107) (.t 106)⟩])
 (.reg [0, 219, 1, 2, 3, 5, 6, 9, 11, 12, 13, 14] [
 ⟨some 108, none, .mv (.t 14)⟩, ⟨some 109, none, .mn false (.t 108) (.c (.sc (.int .i64 3)))⟩, ⟨some 14, none, .mv (.t 109)⟩]))
 .skip))
 ac29b_r31))))))
 (.reg [0, 219, 1, 2, 3, 5, 6, 9, 11] [
 ⟨some 80, none, .mv (.t 11)⟩, ⟨some 81, none, .ari .add true .i64 (.t 80) (.c (.sc (.int .i64 1)))⟩, ⟨some 11, none, .mv (.t 81)⟩]))))))
 (.frz [] (.wk ac29b_r39)))
def ac29b : AC :=
 (.seq (.reg [0, 219, 0] [
 ⟨some 1, none, .box (.t 0)⟩, ⟨some 2, none, .alc [.nil, .nil, .nil, .nil]⟩])
 (.seq (.reg [0, 219, 1, 2] [
 ⟨some 19, none, .bld [.nil, .nil, .nil, .nil] []⟩, ⟨some 3, none, .alc [.nil, .nil, .nil, .nil]⟩, ⟨none, none, .sto 4 (.t 3) (.t 19)⟩])
 (.seq (.seq (.reg [0, 219, 1, 2, 3] [
 ⟨some 4, none, .mv (.c (.sc (.int .i64 0)))⟩])
 (.block 0
 (.loop [0, 219, 1, 2, 3, 4]
 (.seq (.seq (.reg [0, 219, 1, 2, 3, 4] [
 ⟨some 20, none, .mv (.t 4)⟩, ⟨some 21, none, .fa 0 (.t 1)⟩, ⟨some 22, none, .ld false 1 (.t 21)⟩, ⟨some 23, none, .dvd .rem true .u8 (.t 22) (.c (.sc (.int .u8 4)))⟩, ⟨some 24, none, .cnv true .i64 (.t 23)⟩, ⟨some 25, none, .cmp .leq .i64 (.t 20) (.t 24)⟩])
 (.cond (.t 25)
 .skip
 (.exit 0)))
 (.seq (.block 1
 (.reg [0, 219, 1, 2, 3, 4] [
 ⟨some 28, none, .fa 0 (.t 3)⟩, ⟨some 29, none, .ld false 1 (.t 28)⟩, ⟨some 30, none, .mv (.t 4)⟩, ⟨some 31, none, .bld [.sc (.int .i64 0), .sc (.int .i64 0), .sc (.int .i64 0)] [(0, 1, (.c (.sc (.int .i64 3)))), (1, 1, (.t 30))]⟩, ⟨some 32, none, .bsl 3 93 [.sc (.int .i64 0), .sc (.int .i64 0), .sc (.int .i64 0)] 1 [(0, (.t 31))]⟩, ⟨some 33, none, .app 3 93 24 (.t 29) (.t 32)⟩, ⟨some 34, none, .fa 0 (.t 3)⟩, ⟨none, none, .sto 1 (.t 34) (.t 33)⟩]))
 (.reg [0, 219, 1, 2, 3, 4] [
 ⟨some 26, none, .mv (.t 4)⟩, ⟨some 27, none, .ari .add true .i64 (.t 26) (.c (.sc (.int .i64 1)))⟩, ⟨some 4, none, .mv (.t 27)⟩]))))))
 (.seq (.reg [0, 219, 1, 2, 3] [
 ⟨some 35, none, .fa 0 (.t 3)⟩, ⟨some 36, none, .ld false 1 (.t 35)⟩, ⟨some 37, none, .len (.t 36)⟩, ⟨some 5, none, .mv (.t 37)⟩])
 (.seq (.reg [0, 219, 1, 2, 3, 5] [
 ⟨some 38, none, .fa 2 (.t 1)⟩, ⟨some 39, none, .ld false 1 (.t 38)⟩, ⟨some 40, none, .len (.t 39)⟩, ⟨some 41, none, .mn false (.t 40) (.c (.sc (.int .i64 9)))⟩, ⟨some 6, none, .mv (.t 41)⟩])
 (.seq (.reg [0, 219, 1, 2, 3, 5, 6] [
 ⟨some 42, none, .bsl 1 3 [.sc (.int .i64 0)] 0 []⟩, ⟨some 7, none, .mv (.t 42)⟩])
 (.seq (.seq (.reg [0, 219, 1, 2, 3, 5, 6, 7] [
 ⟨some 8, none, .mv (.c (.sc (.int .i64 0)))⟩])
 (.block 2
 (.loop [0, 219, 1, 2, 3, 5, 6, 7, 8]
 (.seq (.seq (.reg [0, 219, 1, 2, 3, 5, 6, 7, 8] [
 ⟨some 43, none, .mv (.t 8)⟩, ⟨some 44, none, .mv (.t 6)⟩, ⟨some 45, none, .cmp .lss .i64 (.t 43) (.t 44)⟩])
 (.cond (.t 45)
 .skip
 (.exit 2)))
 (.seq (.block 3
 (.seq (.reg [0, 219, 1, 2, 3, 5, 6, 7, 8] [
 ⟨some 48, none, .fa 2 (.t 1)⟩, ⟨some 49, none, .ld false 1 (.t 48)⟩, ⟨some 50, none, .mv (.t 8)⟩, ⟨some 51, none, .ixs 6 (.t 49) (.t 50)⟩, ⟨some 52, none, .ixa 6 1 (.t 51) (.c (.sc (.int .i64 0)))⟩, ⟨some 53, none, .ld false 1 (.t 52)⟩, ⟨some 54, none, .dvd .rem true .u8 (.t 53) (.c (.sc (.int .u8 4)))⟩, ⟨some 55, none, .cmp .eql .u8 (.t 54) (.c (.sc (.int .u8 1)))⟩])
 (.cond (.t 55)
 (.reg [0, 219, 1, 2, 3, 5, 6, 7, 8] [
 ⟨some 56, none, .mv (.t 7)⟩, ⟨some 57, none, .mv (.t 5)⟩, ⟨some 58, none, .mv (.t 8)⟩, ⟨some 59, none, .ari .mul true .i64 (.c (.sc (.int .i64 2))) (.t 58)⟩, ⟨some 60, none, .ari .add true .i64 (.t 57) (.t 59)⟩, ⟨some 61, none, .ari .add true .i64 (.t 60) (.c (.sc (.int .i64 1)))⟩, ⟨some 62, none, .bsl 1 3 [.sc (.int .i64 0)] 1 [(0, (.t 61))]⟩, ⟨some 63, none, .app 1 3 8 (.t 56) (.t 62)⟩, ⟨some 7, none, .mv (.t 63)⟩])
 .skip)))
 (.reg [0, 219, 1, 2, 3, 5, 6, 7, 8] [
 ⟨some 46, none, .mv (.t 8)⟩, ⟨some 47, none, .ari .add true .i64 (.t 46) (.c (.sc (.int .i64 1)))⟩, ⟨some 8, none, .mv (.t 47)⟩]))))))
 (.seq (.reg [0, 219, 1, 2, 3, 5, 6, 7] [
 ⟨some 64, none, .bsl 1 3 [.sc (.int .i64 0)] 0 []⟩, ⟨some 9, none, .mv (.t 64)⟩])
 (.seq (.seq (.reg [0, 219, 1, 2, 3, 5, 6, 7, 9] [
 ⟨some 10, none, .mv (.c (.sc (.int .i64 0)))⟩])
 (.block 4
 (.loop [0, 219, 1, 2, 3, 5, 6, 7, 9, 10]
 (.seq (.seq (.reg [0, 219, 1, 2, 3, 5, 6, 7, 9, 10] [
 ⟨some 65, none, .mv (.t 10)⟩, ⟨some 66, none, .mv (.t 5)⟩, ⟨some 67, none, .cmp .lss .i64 (.t 65) (.t 66)⟩])
 (.cond (.t 67)
 .skip
 (.exit 4)))
 (.seq (.block 5
 (.reg [0, 219, 1, 2, 3, 5, 6, 7, 9, 10] [
 ⟨some 70, none, .mv (.t 9)⟩, ⟨some 71, none, .mv (.t 10)⟩, ⟨some 72, none, .bsl 1 3 [.sc (.int .i64 0)] 1 [(0, (.t 71))]⟩, ⟨some 73, none, .app 1 3 8 (.t 70) (.t 72)⟩, ⟨some 9, none, .mv (.t 73)⟩]))
 (.reg [0, 219, 1, 2, 3, 5, 6, 7, 9, 10] [
 ⟨some 68, none, .mv (.t 10)⟩, ⟨some 69, none, .ari .add true .i64 (.t 68) (.c (.sc (.int .i64 1)))⟩, ⟨some 10, none, .mv (.t 69)⟩]))))))
 (.seq (.reg [0, 219, 1, 2, 3, 5, 6, 7, 9] [
 ⟨some 74, none, .mv (.t 9)⟩, ⟨some 75, none, .mv (.t 7)⟩, ⟨some 76, none, .app 1 3 8 (.t 74) (.t 75)⟩, ⟨some 9, none, .mv (.t 76)⟩])
 ac29b_r20))))))))))
def rv29b : List RV := [.cell 2 true 4]
theorem ok29b : fnOk Try.prog ac29b rv29b Try.f29 = true := by kernel_rfl
end Go.Proofs.Ytbdamnfkgdbidaa.Txt
namespace Go.Proofs.Ytbdamnfkgdbidaa
open Go Go.Vc Txt
@[push_cast] theorem appN_rows {α : Type} (f : α → List PV) (x : α) (l : List α) (st : St) (i es ty by_ : Nat) (p : Prop) :
    appN st i es ty by_ p (rows f (x :: l)) = ((0 < es ∧ p) ∧ (l.length + 1) * by_ ≤ 140737488355328 ∧ l.length + 1 ≤ 9223372036854775807, st.newArr i ⟨es, ty, rows f (x :: l)⟩) := by
  simp [rows, appN]
def tailF (j : Job) (kept a : List Int) (passes : Int) : List Int × Int :=
  match fillAll j [true, false] a with
  | none => ([], 4)
  | some a' => ((improveF j kept a' passes.toNat).1, 0)
def placeF (j : Job) (fixed : List Int) (passes : Int) : List Int × Int :=
  if passes < 0 ∨ 1000 < passes ∨ ((fixed.length : Int) ≠ 0 ∧ (fixed.length : Int) ≠ j.p.blocks.length) then ([], 1)
  else if ¬ Fits j then ([], 290)
  else match keepF j fixed 0 (List.replicate j.p.blocks.length (-1), []) with
    | none => ([], 290)
    | some s => tailF j s.2 s.1 passes
theorem findT_some {j : Job} {a : List Int} {b t : Nat} (ht : t < j.g.kind.length) (h1 : suitsR j b t = true) (h2 : (t : Int) ∉ a) (h3 : ∀ u : Nat, u < t → ¬ (suitsR j b u = true ∧ (u : Int) ∉ a)) : findT j a b = some t := by
  unfold findT
  rw [List.find?_range_eq_some]
  refine ⟨by simp [h1, h2], by simpa using ht, fun u hu => ?_⟩
  have := h3 u hu
  cases hc : suitsR j b u <;> simp_all
theorem findT_none {j : Job} {a : List Int} {b : Nat} (h3 : ∀ u : Nat, u < j.g.kind.length → ¬ (suitsR j b u = true ∧ (u : Int) ∉ a)) : findT j a b = none := by
  unfold findT
  rw [List.find?_eq_none]
  intro u hu
  have := h3 u (by simpa using hu)
  cases hc : suitsR j b u <;> simp_all
theorem place_fill (j : Job) (hj : j.Ok) (fixed kept a : List Int) (passes : Int) (hp : 0 ≤ passes ∧ passes ≤ 1000) (hk : kept.length ≤ 1000000) (ha : Part j a) :
    awp (Env.of Try.prog) ac46b_r17 (retK [RV.tmp 10, RV.tmp 11] fun x => Sub x (.tup [.sl true 1 (ints (tailF j kept a passes).1), .int (tailF j kept a passes).2]))
      ⟨[(4, .int passes), (5, .ptr 5 0), (6, .ptr 6 0), (12, .ptr 12 0), (13, .view 705 0 j.p.blocks.length), (14, .sl false 1 (ints kept)), (53, .sl false 1 (ints fixed)), (54, .int fixed.length), (55, .int fixed.length), (56, .bool false)], [(5, packedC false j.p), (6, gridC false j.g), (12, jobC false j)], [(705, ⟨1, 3, ints a⟩)], []⟩ := by
  simp only [ac46b_r17, push_cast, reduceIte, Nat.reduceEqDiff, Nat.reduceAdd, Nat.reduceSub, Nat.reduceMul, Nat.reduceBEq, Nat.reduceLT, Nat.reduceLeDiff, reduceCtorEq, Int.reduceToNat, Int.reduceNeg]
  refine ⟨by decide, ?_⟩
  rw [show ((List.replicate 2 false).set 0 true).set 1 false = [true, false] from rfl]
  simp only [push_cast, reduceIte, Nat.reduceEqDiff, Nat.reduceAdd, Nat.reduceSub, Nat.reduceMul, Nat.reduceBEq, Nat.reduceLT, Nat.reduceLeDiff, reduceCtorEq, Int.reduceToNat, Int.reduceNeg]
  have hnb := hj.nb
  refine loop_of (fun m st => ∃ (r : Nat) (a' : List Int), r ≤ 2 ∧ m = 2 - r ∧ Part j a' ∧ fillAll j ([true, false].drop r) a' = fillAll j [true, false] a ∧
    st = ⟨[(4, .int passes), (5, .ptr 5 0), (6, .ptr 6 0), (12, .ptr 12 0), (13, .view 705 0 j.p.blocks.length), (14, .sl false 1 (ints kept)), (81, .view 81 0 2), (82, .int 2), (83, .int r)], [(5, packedC false j.p), (6, gridC false j.g), (12, jobC false j)], [(81, ⟨1, 4, rows boolC [true, false]⟩), (705, ⟨1, 3, ints a'⟩)], []⟩) 2 ?_ ?_
  · refine ⟨0, a, by omega, rfl, ha, rfl, ?_⟩
    simp only [push_cast, reduceIte, Nat.reduceEqDiff, Nat.reduceAdd, Nat.reduceSub, Nat.reduceMul, Nat.reduceBEq, Nat.reduceLT, Nat.reduceLeDiff, reduceCtorEq, Int.reduceToNat, Int.reduceNeg] <;> rfl
  · rintro m st ⟨r, a', hr, rfl, ha', hF, rfl⟩
    simp only [push_cast, reduceIte, Nat.reduceEqDiff, Nat.reduceAdd, Nat.reduceSub, Nat.reduceMul, Nat.reduceBEq, Nat.reduceLT, Nat.reduceLeDiff, reduceCtorEq, Int.reduceToNat, Int.reduceNeg]
    refine cond_dec (fun h1 => ?_) fun h1 => ?_
    · have hr2 : r < 2 := by omega
      refine ⟨by omega, hr2, ?_⟩
      have hdr : [true, false].drop r = [true, false].getD r default :: [true, false].drop (r + 1) := by
        have : r = 0 ∨ r = 1 := by omega
        rcases this with rfl | rfl <;> rfl
      rw [hdr] at hF
      generalize [true, false].getD r default = rd at hF ⊢
      have hF : (match fillF j rd j.p.blocks.length 0 a' with | none => none | some a'' => fillAll j ([true, false].drop (r + 1)) a'') = fillAll j [true, false] a := hF
      refine loop_of (fun m st => ∃ (k : Nat) (a1 : List Int), k ≤ j.p.blocks.length ∧ m = j.p.blocks.length - k ∧ Part j a1 ∧ fillF j rd (j.p.blocks.length - k) k a1 = fillF j rd j.p.blocks.length 0 a' ∧
        st = ⟨[(4, .int passes), (5, .ptr 5 0), (6, .ptr 6 0), (12, .ptr 12 0), (13, .view 705 0 j.p.blocks.length), (14, .sl false 1 (ints kept)), (18, .bool rd), (81, .view 81 0 2), (82, .int 2), (83, .int r), (88, .sl false 5 (rows (blockC false) j.p.blocks)), (89, .int j.p.blocks.length), (90, .int k)],
          [(5, packedC false j.p), (6, gridC false j.g), (12, jobC false j)], [(81, ⟨1, 4, rows boolC [true, false]⟩), (705, ⟨1, 3, ints a1⟩)], []⟩) j.p.blocks.length ?_ ?_
      · refine ⟨0, a', by omega, by omega, ha', by simp, ?_⟩
        simp only [push_cast, reduceIte, Nat.reduceEqDiff, Nat.reduceAdd, Nat.reduceSub, Nat.reduceMul, Nat.reduceBEq, Nat.reduceLT, Nat.reduceLeDiff, reduceCtorEq, Int.reduceToNat, Int.reduceNeg]
      · rintro m st ⟨k, a1, hk, rfl, ha1, hG, rfl⟩
        simp only [push_cast, reduceIte, Nat.reduceEqDiff, Nat.reduceAdd, Nat.reduceSub, Nat.reduceMul, Nat.reduceBEq, Nat.reduceLT, Nat.reduceLeDiff, reduceCtorEq, Int.reduceToNat, Int.reduceNeg]
        refine cond_dec (fun h2 => ?_) fun h2 => ?_
        · have hk' : k < j.p.blocks.length := by omega
          have hal := ha1.len
          obtain ⟨q, hq⟩ : ∃ q, j.p.blocks.length - k = q + 1 := ⟨j.p.blocks.length - k - 1, by omega⟩
          rw [hq] at hG
          simp only [fillF] at hG
          refine ⟨by omega, by omega, by omega, by omega, ?_⟩
          refine cut_of ⟨[(4, .int passes), (5, .ptr 5 0), (6, .ptr 6 0), (12, .ptr 12 0), (13, .view 705 0 j.p.blocks.length), (14, .sl false 1 (ints kept)), (18, .bool rd), (19, .int k), (81, .view 81 0 2), (82, .int 2), (83, .int r), (88, .sl false 5 (rows (blockC false) j.p.blocks)), (89, .int j.p.blocks.length), (90, .int k), (106, .bool (decide (0 ≤ a1.getD k default ∨ decide ((j.p.blocks.getD k default).ram ≠ -1) ≠ rd)))],
            [(5, packedC false j.p), (6, gridC false j.g), (12, jobC false j), (20, blockC false (j.p.blocks.getD k default))], [(81, ⟨1, 4, rows boolC [true, false]⟩), (705, ⟨1, 3, ints a1⟩)], []⟩ ?_ ?_
          · refine grd_decf rfl (fun h3 => ?_) (fun h3 => ?_) <;> simp only [push_cast, reduceIte, Nat.reduceEqDiff, Nat.reduceAdd, Nat.reduceSub, Nat.reduceMul, Nat.reduceBEq, Nat.reduceLT, Nat.reduceLeDiff, reduceCtorEq, Int.reduceToNat, Int.reduceNeg]
            · rw [decide_eq_true (Or.inl h3)]
            · have e : decide (0 ≤ a1.getD k default ∨ decide ((j.p.blocks.getD k default).ram ≠ -1) ≠ rd) = (decide ((j.p.blocks.getD k default).ram ≠ -1) != rd) := by
                rw [Bool.eq_iff_iff, decide_eq_true_iff, bne_iff_ne]
                exact ⟨fun h => h.resolve_left h3, .inr⟩
              rw [e]
          simp only [push_cast, reduceIte, Nat.reduceEqDiff, Nat.reduceAdd, Nat.reduceSub, Nat.reduceMul, Nat.reduceBEq, Nat.reduceLT, Nat.reduceLeDiff, reduceCtorEq, Int.reduceToNat, Int.reduceNeg]
          refine cond_dec (fun h3 => ?_) fun h3 => ?_
          · have hst : fillStep j rd a1 k = some a1 := by unfold fillStep; rw [if_pos h3]
            rw [hst] at hG
            simp only at hG
            refine ⟨⟨by omega, by omega⟩, _, ?_, k + 1, a1, by omega, rfl, ha1, by rw [show j.p.blocks.length - (k + 1) = q by omega]; exact hG, ?_⟩
            · omega
            · simp
          · have hneg : ¬ 0 ≤ a1.getD k default := fun hh => h3 (.inl hh)
            have hT : (j.g.kind.length : Int) ≤ 1000000 := by have := hj.kind; have := hj.wh; omega
            refine loop_of (fun m st => ∃ (t : Nat), t ≤ j.g.kind.length ∧ m = j.g.kind.length - t ∧ (∀ u : Nat, u < t → ¬ (suitsR j k u = true ∧ (u : Int) ∉ a1)) ∧
              st = ⟨[(4, .int passes), (5, .ptr 5 0), (6, .ptr 6 0), (12, .ptr 12 0), (13, .view 705 0 j.p.blocks.length), (14, .sl false 1 (ints kept)), (18, .bool rd), (19, .int k), (81, .view 81 0 2), (82, .int 2), (83, .int r), (88, .sl false 5 (rows (blockC false) j.p.blocks)), (89, .int j.p.blocks.length), (90, .int k), (109, .int j.g.kind.length), (110, .int t)],
                [(5, packedC false j.p), (6, gridC false j.g), (12, jobC false j)], [(81, ⟨1, 4, rows boolC [true, false]⟩), (705, ⟨1, 3, ints a1⟩)], []⟩) j.g.kind.length ?_ ?_
            · refine ⟨0, by omega, by omega, fun u hu => absurd hu (by omega), ?_⟩
              simp only [push_cast, reduceIte, Nat.reduceEqDiff, Nat.reduceAdd, Nat.reduceSub, Nat.reduceMul, Nat.reduceBEq, Nat.reduceLT, Nat.reduceLeDiff, reduceCtorEq, Int.reduceToNat, Int.reduceNeg]
            · rintro m st ⟨t, ht, rfl, hno, rfl⟩
              simp only [push_cast, reduceIte, Nat.reduceEqDiff, Nat.reduceAdd, Nat.reduceSub, Nat.reduceMul, Nat.reduceBEq, Nat.reduceLT, Nat.reduceLeDiff, reduceCtorEq, Int.reduceToNat, Int.reduceNeg]
              refine cond_dec (fun h4 => ?_) fun h4 => ?_
              · have ht' : t < j.g.kind.length := by omega
                refine cal_sub (psuits_ok j hj k t) (by simp only [push_cast, reduceIte, Nat.reduceEqDiff, Nat.reduceAdd, Nat.reduceSub, Nat.reduceMul, Nat.reduceBEq, Nat.reduceLT, Nat.reduceLeDiff, reduceCtorEq, Int.reduceToNat, Int.reduceNeg]) ?_
                refine cut_of ⟨[(4, .int passes), (5, .ptr 5 0), (6, .ptr 6 0), (12, .ptr 12 0), (13, .view 705 0 j.p.blocks.length), (14, .sl false 1 (ints kept)), (18, .bool rd), (19, .int k), (21, .int t), (81, .view 81 0 2), (82, .int 2), (83, .int r), (88, .sl false 5 (rows (blockC false) j.p.blocks)), (89, .int j.p.blocks.length), (90, .int k), (109, .int j.g.kind.length), (110, .int t), (122, .bool (decide (suitsR j k t = true ∧ (t : Int) ∉ a1)))],
                  [(5, packedC false j.p), (6, gridC false j.g), (12, jobC false j)], [(81, ⟨1, 4, rows boolC [true, false]⟩), (705, ⟨1, 3, ints a1⟩)], []⟩ ?_ ?_
                · cases hsu : suitsR j k t <;> simp only [push_cast, reduceIte, Nat.reduceEqDiff, Nat.reduceAdd, Nat.reduceSub, Nat.reduceMul, Nat.reduceBEq, Nat.reduceLT, Nat.reduceLeDiff, reduceCtorEq, Int.reduceToNat, Int.reduceNeg]
                  · simp
                  · rw [List.take_of_length_le (by omega)]
                    refine cal_sub (contains_ok a1 t (by omega)) (by simp only [push_cast, reduceIte, Nat.reduceEqDiff, Nat.reduceAdd, Nat.reduceSub, Nat.reduceMul, Nat.reduceBEq, Nat.reduceLT, Nat.reduceLeDiff, reduceCtorEq, Int.reduceToNat, Int.reduceNeg]) ?_
                    simp only [push_cast, reduceIte, Nat.reduceEqDiff, Nat.reduceAdd, Nat.reduceSub, Nat.reduceMul, Nat.reduceBEq, Nat.reduceLT, Nat.reduceLeDiff, reduceCtorEq, Int.reduceToNat, Int.reduceNeg]
                    simp
                simp only [push_cast, reduceIte, Nat.reduceEqDiff, Nat.reduceAdd, Nat.reduceSub, Nat.reduceMul, Nat.reduceBEq, Nat.reduceLT, Nat.reduceLeDiff, reduceCtorEq, Int.reduceToNat, Int.reduceNeg]
                refine cond_dec (fun h5 => ?_) fun h5 => ?_
                · have hst : fillStep j rd a1 k = some (a1.set k t) := by unfold fillStep; rw [if_neg h3, findT_some ht' h5.1 h5.2 hno]
                  rw [hst] at hG
                  simp only at hG
                  have hpt := part_set ha1 h5.1 h5.2
                  have hgt : (a1.set k (t : Int)).getD k default = t := by simp [List.getD_eq_getElem?_getD, show k < a1.length by omega]
                  refine ⟨by omega, by omega, by omega, by rw [List.length_set]; omega, cond_dec (fun h6 => absurd h6 (by rw [hgt]; omega)) fun _ => ?_⟩
                  refine ⟨⟨by omega, by omega⟩, _, ?_, k + 1, a1.set k t, by omega, rfl, hpt, by rw [show j.p.blocks.length - (k + 1) = q by omega]; exact hG, ?_⟩
                  · omega
                  · simp
                · refine ⟨⟨by omega, by omega⟩, _, ?_, t + 1, by omega, rfl, fun u hu => ?_, ?_⟩
                  · omega
                  · by_cases e : u = t
                    · subst e; exact h5
                    · exact hno u (by omega)
                  · simp
              · have hst : fillStep j rd a1 k = none := by unfold fillStep; rw [if_neg h3, findT_none fun u hu => hno u (by omega)]
                rw [hst] at hG
                simp only at hG
                rw [← hG] at hF
                simp only at hF
                refine ⟨by omega, by omega, cond_dec (fun _ => ?_) fun h6 => absurd h6 (by omega)⟩
                unfold tailF
                rw [← hF]
                exact ⟨rfl, rfl⟩
        · have hk2 : k = j.p.blocks.length := by omega
          subst hk2
          rw [Nat.sub_self] at hG
          simp only [fillF] at hG
          rw [← hG] at hF
          refine ⟨⟨by omega, by omega⟩, _, ?_, r + 1, a1, by omega, rfl, ha1, hF, ?_⟩
          · omega
          · simp
    · have hr2 : r = 2 := by omega
      subst hr2
      have hA : fillAll j [true, false] a = some a' := hF.symm.trans (by simp [fillAll])
      obtain ⟨hpl, _⟩ := fillAll_pl hA ha
      obtain ⟨pn, rfl⟩ : ∃ pn : Nat, passes = pn := ⟨passes.toNat, by omega⟩
      refine clm_of (FnM.only [13] [] [705] [] (Pl.improve_ok (Env.of Try.prog) rfl (by show 0 ≤ 300; decide) j hj kept a' (by omega) j.p.blocks.length pn hpl.1 (by omega) hpl)) ?_
      rintro rv _ ⟨rfl, rfl⟩
      simp only [push_cast, reduceIte, Nat.reduceEqDiff, Nat.reduceAdd, Nat.reduceSub, Nat.reduceMul, Nat.reduceBEq, Nat.reduceLT, Nat.reduceLeDiff, reduceCtorEq, Int.reduceToNat, Int.reduceNeg, tailF, hA]
      rw [List.take_of_length_le (Nat.le_of_eq ((improveF_ok hpl pn).len.trans hpl.1))]
      exact ⟨fun _ _ => trivial, .refl _⟩
theorem place_exp (j : Job) (hj : j.Ok) (fixed : List Int) (passes : Int) (hl : (fixed.length : Int) ≤ 1000000) :
    FnEq Try.prog 46 [.agg (packedC false j.p), .agg (gridC false j.g), .agg (badC false j.bad), .sl false 1 (ints fixed), .int passes]
      (.tup [.sl true 1 (ints (placeF j fixed passes).1), .int (placeF j fixed passes).2]) := by
  refine FnEq.of_awp Try.func46 ok46b (by show 5 ≤ _; decide) (by simp only [push_cast, reduceIte, Nat.reduceEqDiff, Nat.reduceAdd, Nat.reduceSub, Nat.reduceMul, Nat.reduceBEq, Nat.reduceLT, Nat.reduceLeDiff, reduceCtorEq, Int.reduceToNat, Int.reduceNeg] <;> first | exact fun _ _ => trivial | simp) ?_
  simp only [ac46b, rv46b, push_cast, reduceIte, Nat.reduceEqDiff, Nat.reduceAdd, Nat.reduceSub, Nat.reduceMul, Nat.reduceBEq, Nat.reduceLT, Nat.reduceLeDiff, reduceCtorEq, Int.reduceToNat, Int.reduceNeg]
  refine cut_of ⟨[(3, .sl false 1 (ints fixed)), (4, .int passes), (5, .ptr 5 0), (6, .ptr 6 0), (7, .ptr 7 0), (40, .bool (decide (passes < 0 ∨ 1000 < passes ∨ ((fixed.length : Int) ≠ 0 ∧ (fixed.length : Int) ≠ j.p.blocks.length))))], [(5, packedC false j.p), (6, gridC false j.g), (7, badC false j.bad)], [], []⟩ ?_ ?_
  · (repeat' (first | (refine grd_dec rfl (fun _ => ?_) fun _ => ?_ <;> simp only [push_cast, reduceIte, Nat.reduceEqDiff, Nat.reduceAdd, Nat.reduceSub, Nat.reduceMul, Nat.reduceBEq, Nat.reduceLT, Nat.reduceLeDiff, reduceCtorEq, Int.reduceToNat, Int.reduceNeg]) | (refine grd_decf rfl (fun _ => ?_) fun _ => ?_ <;> simp only [push_cast, reduceIte, Nat.reduceEqDiff, Nat.reduceAdd, Nat.reduceSub, Nat.reduceMul, Nat.reduceBEq, Nat.reduceLT, Nat.reduceLeDiff, reduceCtorEq, Int.reduceToNat, Int.reduceNeg])))
    all_goals simp [*]
    · rename_i h1; intro h2 h3; subst h3; exact h1 (by simp)
  simp only [push_cast, reduceIte, Nat.reduceEqDiff, Nat.reduceAdd, Nat.reduceSub, Nat.reduceMul, Nat.reduceBEq, Nat.reduceLT, Nat.reduceLeDiff, reduceCtorEq, Int.reduceToNat, Int.reduceNeg]
  refine cond_dec (fun h => ?_) fun h => ?_
  · rw [placeF, if_pos h]
    simp only [push_cast, reduceIte, Nat.reduceEqDiff, Nat.reduceAdd, Nat.reduceSub, Nat.reduceMul, Nat.reduceBEq, Nat.reduceLT, Nat.reduceLeDiff, reduceCtorEq, Int.reduceToNat, Int.reduceNeg]
    done
  rw [placeF, if_neg h]
  refine cal_sub (pfits_ok j (by have := hj.ins; omega) (by have := hj.outs; omega)) (by simp only [push_cast, reduceIte, Nat.reduceEqDiff, Nat.reduceAdd, Nat.reduceSub, Nat.reduceMul, Nat.reduceBEq, Nat.reduceLT, Nat.reduceLeDiff, reduceCtorEq, Int.reduceToNat, Int.reduceNeg]) ?_
  simp only [push_cast, reduceIte, Nat.reduceEqDiff, Nat.reduceAdd, Nat.reduceSub, Nat.reduceMul, Nat.reduceBEq, Nat.reduceLT, Nat.reduceLeDiff, reduceCtorEq, Int.reduceToNat, Int.reduceNeg]
  refine cond_of (fun hf => ?_) fun hf => ?_
  · rw [if_pos (by simpa using hf)]
    exact ⟨rfl, rfl⟩
  rw [if_neg (by simpa using hf)]
  have hnb := hj.nb
  refine ⟨by decide, ?_⟩
  rw [show (List.replicate 1 (0 : Int)).set 0 (-1) = [-1] from rfl]
  refine clm_of (FnM.only [3, 4, 5, 6, 12] [5, 6, 12] [48] [] (repeat_ok (Env.of Try.prog) rfl (by show 0 ≤ 675; decide) fixed passes j j.p.blocks.length (by omega))) ?_
  rintro rv _ ⟨rfl, rfl⟩
  simp only [push_cast, reduceIte, Nat.reduceEqDiff, Nat.reduceAdd, Nat.reduceSub, Nat.reduceMul, Nat.reduceBEq, Nat.reduceLT, Nat.reduceLeDiff, reduceCtorEq, Int.reduceToNat, Int.reduceNeg]
  have hlen : fixed.length = 0 ∨ fixed.length = j.p.blocks.length := by omega
  refine loop_of (fun m st => ∃ (k : Nat) (s : List Int × List Int), k ≤ fixed.length ∧ m = fixed.length - k ∧ Part j s.1 ∧ s.2.length ≤ k ∧
    keepF j (fixed.drop k) k s = keepF j fixed 0 (List.replicate j.p.blocks.length (-1), []) ∧
    ((s.2 = [] ∧ st = ⟨[(4, .int passes), (5, .ptr 5 0), (6, .ptr 6 0), (12, .ptr 12 0), (13, .view 705 0 j.p.blocks.length), (14, .nil), (53, .sl false 1 (ints fixed)), (54, .int fixed.length), (55, .int k)],
        [(5, packedC false j.p), (6, gridC false j.g), (12, jobC false j)], [(705, ⟨1, 3, ints s.1⟩)], []⟩) ∨
     (s.2 ≠ [] ∧ st = ⟨[(4, .int passes), (5, .ptr 5 0), (6, .ptr 6 0), (12, .ptr 12 0), (13, .view 705 0 j.p.blocks.length), (14, .view 79 0 s.2.length), (53, .sl false 1 (ints fixed)), (54, .int fixed.length), (55, .int k)],
        [(5, packedC false j.p), (6, gridC false j.g), (12, jobC false j)], [(79, ⟨1, 3, ints s.2⟩), (705, ⟨1, 3, ints s.1⟩)], []⟩))) fixed.length ?_ ?_
  · refine ⟨0, (List.replicate j.p.blocks.length (-1), []), by omega, by omega, part_init j, by simp, by simp, .inl ⟨rfl, ?_⟩⟩
    simp only [push_cast, reduceIte, Nat.reduceEqDiff, Nat.reduceAdd, Nat.reduceSub, Nat.reduceMul, Nat.reduceBEq, Nat.reduceLT, Nat.reduceLeDiff, reduceCtorEq, Int.reduceToNat, Int.reduceNeg]
  · rintro m st ⟨k, s, hk, rfl, hpart, hs2, hF, ⟨hs0, rfl⟩ | ⟨hs0, rfl⟩⟩
    · simp only [push_cast, reduceIte, Nat.reduceEqDiff, Nat.reduceAdd, Nat.reduceSub, Nat.reduceMul, Nat.reduceBEq, Nat.reduceLT, Nat.reduceLeDiff, reduceCtorEq, Int.reduceToNat, Int.reduceNeg]
      refine cond_dec (fun h1 => ?_) fun h1 => ?_
      · have hk' : k < fixed.length := by omega
        have hg : fixed.getD k default = fixed[k] := by simp [hk']
        rw [hg]
        have hd : fixed.drop k = fixed[k] :: fixed.drop (k + 1) := List.drop_eq_getElem_cons hk'
        rw [hd] at hF
        simp only [keepF] at hF
        generalize hx : fixed[k] = x at hF ⊢
        refine ⟨by omega, by omega, ?_⟩
        refine cond_dec (fun h2 => ?_) fun h2 => ?_
        · rw [if_pos h2] at hF
          refine ⟨⟨by omega, by omega⟩, _, ?_, k + 1, s, by omega, rfl, hpart, by omega, hF, .inl ⟨hs0, ?_⟩⟩
          · omega
          · simp
        · rw [if_neg h2] at hF
          have hsl := hpart.len
          refine cal_sub (psuits_ok j hj k x) (by simp only [push_cast, reduceIte, Nat.reduceEqDiff, Nat.reduceAdd, Nat.reduceSub, Nat.reduceMul, Nat.reduceBEq, Nat.reduceLT, Nat.reduceLeDiff, reduceCtorEq, Int.reduceToNat, Int.reduceNeg]) ?_
          refine cut_of ⟨[(4, .int passes), (5, .ptr 5 0), (6, .ptr 6 0), (12, .ptr 12 0), (13, .view 705 0 j.p.blocks.length), (14, .nil), (15, .int k), (16, .int x), (53, .sl false 1 (ints fixed)), (54, .int fixed.length), (55, .int k), (71, .bool (decide (suitsR j k x = false ∨ x ∈ s.1)))],
            [(5, packedC false j.p), (6, gridC false j.g), (12, jobC false j)], [(705, ⟨1, 3, ints s.1⟩)], []⟩ ?_ ?_
          · cases hsu : suitsR j k x <;> simp only [push_cast, reduceIte, Nat.reduceEqDiff, Nat.reduceAdd, Nat.reduceSub, Nat.reduceMul, Nat.reduceBEq, Nat.reduceLT, Nat.reduceLeDiff, reduceCtorEq, Int.reduceToNat, Int.reduceNeg]
            · simp
            · rw [List.take_of_length_le (by omega)]
              refine cal_sub (contains_ok s.1 x (by omega)) (by simp only [push_cast, reduceIte, Nat.reduceEqDiff, Nat.reduceAdd, Nat.reduceSub, Nat.reduceMul, Nat.reduceBEq, Nat.reduceLT, Nat.reduceLeDiff, reduceCtorEq, Int.reduceToNat, Int.reduceNeg]) ?_
              simp only [push_cast, reduceIte, Nat.reduceEqDiff, Nat.reduceAdd, Nat.reduceSub, Nat.reduceMul, Nat.reduceBEq, Nat.reduceLT, Nat.reduceLeDiff, reduceCtorEq, Int.reduceToNat, Int.reduceNeg]
              simp
          simp only [push_cast, reduceIte, Nat.reduceEqDiff, Nat.reduceAdd, Nat.reduceSub, Nat.reduceMul, Nat.reduceBEq, Nat.reduceLT, Nat.reduceLeDiff, reduceCtorEq, Int.reduceToNat, Int.reduceNeg]
          refine cond_dec (fun h3 => ?_) fun h3 => ?_
          · rw [if_pos h3] at hF
            rw [← hF]
            exact ⟨rfl, rfl⟩
          · rw [if_neg h3] at hF
            have hsu : suitsR j k x = true := by cases hc : suitsR j k x <;> simp_all
            rw [show (List.replicate 1 (0 : Int)).set 0 (k : Int) = [(k : Int)] from rfl]
            simp only [push_cast, reduceIte, Nat.reduceEqDiff, Nat.reduceAdd, Nat.reduceSub, Nat.reduceMul, Nat.reduceBEq, Nat.reduceLT, Nat.reduceLeDiff, reduceCtorEq, Int.reduceToNat, Int.reduceNeg, show List.take 1 [(k : Int)] = [(k : Int)] from rfl]
            refine ⟨by omega, by omega, by decide, ⟨by omega, by omega⟩, _, ?_, k + 1, (s.1.set k x, s.2 ++ [(k : Int)]), by omega, rfl, part_set hpart hsu (fun hh => h3 (.inr hh)), by simp; omega, hF, .inr ⟨by simp, ?_⟩⟩
            · omega
            · simp [hs0]
      · have hkl : k = fixed.length := by omega
        rw [hkl, List.drop_length] at hF
        rw [← hF, hkl]
        simp only [keepF]
        rw [show decide (((fixed.length : Nat) : Int) < (fixed.length : Int)) = false by simp]
        refine wk_of ⟨[(4, .int passes), (5, .ptr 5 0), (6, .ptr 6 0), (12, .ptr 12 0), (13, .view 705 0 j.p.blocks.length), (14, .sl false 1 (ints s.2)), (53, .sl false 1 (ints fixed)), (54, .int fixed.length), (55, .int fixed.length), (56, .bool false)], [(5, packedC false j.p), (6, gridC false j.g), (12, jobC false j)], [(705, ⟨1, 3, ints s.1⟩)], []⟩ ?_ (place_fill j hj fixed s.2 s.1 passes (by omega) (by omega) hpart)
        simp only [push_cast, reduceIte, Nat.reduceEqDiff, Nat.reduceAdd, Nat.reduceSub, Nat.reduceMul, Nat.reduceBEq, Nat.reduceLT, Nat.reduceLeDiff, reduceCtorEq, Int.reduceToNat, Int.reduceNeg]
        exact hs0
    · simp only [push_cast, reduceIte, Nat.reduceEqDiff, Nat.reduceAdd, Nat.reduceSub, Nat.reduceMul, Nat.reduceBEq, Nat.reduceLT, Nat.reduceLeDiff, reduceCtorEq, Int.reduceToNat, Int.reduceNeg]
      refine cond_dec (fun h1 => ?_) fun h1 => ?_
      · have hk' : k < fixed.length := by omega
        have hg : fixed.getD k default = fixed[k] := by simp [hk']
        rw [hg]
        have hd : fixed.drop k = fixed[k] :: fixed.drop (k + 1) := List.drop_eq_getElem_cons hk'
        rw [hd] at hF
        simp only [keepF] at hF
        generalize hx : fixed[k] = x at hF ⊢
        refine ⟨by omega, by omega, ?_⟩
        refine cond_dec (fun h2 => ?_) fun h2 => ?_
        · rw [if_pos h2] at hF
          refine ⟨⟨by omega, by omega⟩, _, ?_, k + 1, s, by omega, rfl, hpart, by omega, hF, .inr ⟨hs0, ?_⟩⟩
          · omega
          · simp
        · rw [if_neg h2] at hF
          have hsl := hpart.len
          refine cal_sub (psuits_ok j hj k x) (by simp only [push_cast, reduceIte, Nat.reduceEqDiff, Nat.reduceAdd, Nat.reduceSub, Nat.reduceMul, Nat.reduceBEq, Nat.reduceLT, Nat.reduceLeDiff, reduceCtorEq, Int.reduceToNat, Int.reduceNeg]) ?_
          refine cut_of ⟨[(4, .int passes), (5, .ptr 5 0), (6, .ptr 6 0), (12, .ptr 12 0), (13, .view 705 0 j.p.blocks.length), (14, .view 79 0 s.2.length), (15, .int k), (16, .int x), (53, .sl false 1 (ints fixed)), (54, .int fixed.length), (55, .int k), (71, .bool (decide (suitsR j k x = false ∨ x ∈ s.1)))],
            [(5, packedC false j.p), (6, gridC false j.g), (12, jobC false j)], [(79, ⟨1, 3, ints s.2⟩), (705, ⟨1, 3, ints s.1⟩)], []⟩ ?_ ?_
          · cases hsu : suitsR j k x <;> simp only [push_cast, reduceIte, Nat.reduceEqDiff, Nat.reduceAdd, Nat.reduceSub, Nat.reduceMul, Nat.reduceBEq, Nat.reduceLT, Nat.reduceLeDiff, reduceCtorEq, Int.reduceToNat, Int.reduceNeg]
            · simp
            · rw [List.take_of_length_le (by omega)]
              refine cal_sub (contains_ok s.1 x (by omega)) (by simp only [push_cast, reduceIte, Nat.reduceEqDiff, Nat.reduceAdd, Nat.reduceSub, Nat.reduceMul, Nat.reduceBEq, Nat.reduceLT, Nat.reduceLeDiff, reduceCtorEq, Int.reduceToNat, Int.reduceNeg]) ?_
              simp only [push_cast, reduceIte, Nat.reduceEqDiff, Nat.reduceAdd, Nat.reduceSub, Nat.reduceMul, Nat.reduceBEq, Nat.reduceLT, Nat.reduceLeDiff, reduceCtorEq, Int.reduceToNat, Int.reduceNeg]
              simp
          simp only [push_cast, reduceIte, Nat.reduceEqDiff, Nat.reduceAdd, Nat.reduceSub, Nat.reduceMul, Nat.reduceBEq, Nat.reduceLT, Nat.reduceLeDiff, reduceCtorEq, Int.reduceToNat, Int.reduceNeg]
          refine cond_dec (fun h3 => ?_) fun h3 => ?_
          · rw [if_pos h3] at hF
            rw [← hF]
            exact ⟨rfl, rfl⟩
          · rw [if_neg h3] at hF
            have hsu : suitsR j k x = true := by cases hc : suitsR j k x <;> simp_all
            rw [show (List.replicate 1 (0 : Int)).set 0 (k : Int) = [(k : Int)] from rfl]
            simp only [push_cast, reduceIte, Nat.reduceEqDiff, Nat.reduceAdd, Nat.reduceSub, Nat.reduceMul, Nat.reduceBEq, Nat.reduceLT, Nat.reduceLeDiff, reduceCtorEq, Int.reduceToNat, Int.reduceNeg, show List.take 1 [(k : Int)] = [(k : Int)] from rfl]
            refine ⟨by omega, by omega, by decide, ⟨by omega, by omega⟩, ⟨by omega, by omega⟩, _, ?_, k + 1, (s.1.set k x, s.2 ++ [(k : Int)]), by omega, rfl, part_set hpart hsu (fun hh => h3 (.inr hh)), by simp; omega, hF, .inr ⟨by simp, ?_⟩⟩
            · omega
            · simp
      · have hkl : k = fixed.length := by omega
        rw [hkl, List.drop_length] at hF
        rw [← hF, hkl]
        simp only [keepF]
        rw [show decide (((fixed.length : Nat) : Int) < (fixed.length : Int)) = false by simp]
        refine wk_of ⟨[(4, .int passes), (5, .ptr 5 0), (6, .ptr 6 0), (12, .ptr 12 0), (13, .view 705 0 j.p.blocks.length), (14, .sl false 1 (ints s.2)), (53, .sl false 1 (ints fixed)), (54, .int fixed.length), (55, .int fixed.length), (56, .bool false)], [(5, packedC false j.p), (6, gridC false j.g), (12, jobC false j)], [(705, ⟨1, 3, ints s.1⟩)], []⟩ ?_ (place_fill j hj fixed s.2 s.1 passes (by omega) (by omega) hpart)
        rw [List.take_length]
        simp only [push_cast, reduceIte, Nat.reduceEqDiff, Nat.reduceAdd, Nat.reduceSub, Nat.reduceMul, Nat.reduceBEq, Nat.reduceLT, Nat.reduceLeDiff, reduceCtorEq, Int.reduceToNat, Int.reduceNeg]
        done
theorem lplaced_ok (j : Job) (hj : j.Ok) (z : Start) (hl : (z.fixed.length : Int) ≤ 1000000) :
    FnEq Try.prog 23 [.agg (jobC false j), .agg (startC false z)] (.agg (placedC true ((placeF j z.fixed z.passes).1, 0, (placeF j z.fixed z.passes).2))) := by
  refine FnEq.of_awp Try.func23 ok23 (by show 2 ≤ _; decide) (by simp only [push_cast, reduceIte, Nat.reduceEqDiff, Nat.reduceAdd, Nat.reduceSub, Nat.reduceMul, Nat.reduceBEq, Nat.reduceLT, Nat.reduceLeDiff, reduceCtorEq, Int.reduceToNat, Int.reduceNeg] <;> first | exact fun _ _ => trivial | simp) ?_
  simp only [ac23, rv23, push_cast, reduceIte, Nat.reduceEqDiff, Nat.reduceAdd, Nat.reduceSub, Nat.reduceMul, Nat.reduceBEq, Nat.reduceLT, Nat.reduceLeDiff, reduceCtorEq, Int.reduceToNat, Int.reduceNeg]
  refine cal_sub (place_exp j hj z.fixed z.passes hl) (by simp only [push_cast, reduceIte, Nat.reduceEqDiff, Nat.reduceAdd, Nat.reduceSub, Nat.reduceMul, Nat.reduceBEq, Nat.reduceLT, Nat.reduceLeDiff, reduceCtorEq, Int.reduceToNat, Int.reduceNeg]) ?_
  simp only [push_cast, reduceIte, Nat.reduceEqDiff, Nat.reduceAdd, Nat.reduceSub, Nat.reduceMul, Nat.reduceBEq, Nat.reduceLT, Nat.reduceLeDiff, reduceCtorEq, Int.reduceToNat, Int.reduceNeg]
  exact fun _ _ => trivial
end Go.Proofs.Ytbdamnfkgdbidaa
namespace Go.Proofs.Ytbdamnfkgdbidaa
open Go Go.Vc Txt
theorem ints_ok (a b : List Int) (ha : (a.length : Int) ≤ 1000000) (hb : (b.length : Int) ≤ 1000000) : FnEq Try.prog 43 [.sl false 1 (ints a), .sl false 1 (ints b)] (.bool (decide (a = b))) := by
  refine FnEq.of_awp Try.func43 ok43 (by show 2 ≤ _; decide) (by simp only [push_cast, reduceIte, Nat.reduceEqDiff, Nat.reduceAdd, Nat.reduceSub, Nat.reduceMul, Nat.reduceBEq, Nat.reduceLT, Nat.reduceLeDiff, reduceCtorEq, Int.reduceToNat, Int.reduceNeg] <;> first | exact fun _ _ => trivial | simp) ?_
  simp only [ac43, rv43, push_cast, reduceIte, Nat.reduceEqDiff, Nat.reduceAdd, Nat.reduceSub, Nat.reduceMul, Nat.reduceBEq, Nat.reduceLT, Nat.reduceLeDiff, reduceCtorEq, Int.reduceToNat, Int.reduceNeg]
  refine cond_dec (fun h => ?_) fun h => ?_
  · rw [decide_eq_false]; intro e; exact h (by rw [e])
  have hab : a.length = b.length := by omega
  refine loop_of (fun m st => ∃ k : Nat, k ≤ a.length ∧ m = a.length - k ∧ a.take k = b.take k ∧ st = ⟨[(0, .sl false 1 (ints a)), (1, .sl false 1 (ints b)), (5, .int k)], [], [], []⟩) a.length ?_ ?_
  · refine ⟨0, by omega, by omega, by simp, ?_⟩
    simp only [push_cast, reduceIte, Nat.reduceEqDiff, Nat.reduceAdd, Nat.reduceSub, Nat.reduceMul, Nat.reduceBEq, Nat.reduceLT, Nat.reduceLeDiff, reduceCtorEq, Int.reduceToNat, Int.reduceNeg]
  · rintro m st ⟨k, hk, rfl, h1, rfl⟩
    simp only [push_cast, reduceIte, Nat.reduceEqDiff, Nat.reduceAdd, Nat.reduceSub, Nat.reduceMul, Nat.reduceBEq, Nat.reduceLT, Nat.reduceLeDiff, reduceCtorEq, Int.reduceToNat, Int.reduceNeg]
    refine cond_dec (fun h2 => ?_) fun h2 => ?_
    · have ka : k < a.length := by omega
      have kb : k < b.length := by omega
      have ga : a.getD k default = a[k] := by simp [ka]
      have gb : b.getD k default = b[k] := by simp [kb]
      rw [ga, gb]
      refine ⟨⟨by omega, by omega⟩, ka, ⟨by omega, by omega⟩, kb, cond_dec (fun h3 => ?_) fun h3 => ?_⟩
      · rw [decide_eq_false]; intro e; subst e; exact h3 rfl
      · refine ⟨⟨by omega, by omega⟩, _, ?_, k + 1, by omega, rfl, ?_, ?_⟩
        · omega
        · rw [List.take_succ_eq_append_getElem ka, List.take_succ_eq_append_getElem kb, h1, Classical.not_not.1 h3]
        · simp
    · rw [List.take_of_length_le (by omega), List.take_of_length_le (by omega)] at h1
      rw [decide_eq_true h1]
theorem same_ok (a b : List Int × Int × Int) (ha : (a.1.length : Int) ≤ 1000000) (hb : (b.1.length : Int) ≤ 1000000) : FnEq Try.prog 19 [.agg (placedC false a), .agg (placedC false b)] (.bool (decide (a = b))) := by
  refine FnEq.of_awp Try.func19 ok19 (by show 2 ≤ _; decide) (by simp only [push_cast, reduceIte, Nat.reduceEqDiff, Nat.reduceAdd, Nat.reduceSub, Nat.reduceMul, Nat.reduceBEq, Nat.reduceLT, Nat.reduceLeDiff, reduceCtorEq, Int.reduceToNat, Int.reduceNeg] <;> first | exact fun _ _ => trivial | simp) ?_
  simp only [ac19, rv19, push_cast, reduceIte, Nat.reduceEqDiff, Nat.reduceAdd, Nat.reduceSub, Nat.reduceMul, Nat.reduceBEq, Nat.reduceLT, Nat.reduceLeDiff, reduceCtorEq, Int.reduceToNat, Int.reduceNeg]
  obtain ⟨a1, a2, a3⟩ := a
  obtain ⟨b1, b2, b3⟩ := b
  have key : ∀ p : Bool, p = (decide (a3 = b3) && decide (a2 = b2) && decide (a1 = b1)) → p = decide ((a1, a2, a3) = (b1, b2, b3)) := fun p hp => by
    rw [hp, Bool.eq_iff_iff]
    simp [Prod.ext_iff]
    constructor
    · rintro ⟨⟨h1, h2⟩, h3⟩; exact ⟨h3, h2, h1⟩
    · rintro ⟨h3, h2, h1⟩; exact ⟨⟨h1, h2⟩, h3⟩
  refine grd_dec rfl (fun h => ?_) fun h => ?_ <;> simp only [push_cast, reduceIte, Nat.reduceEqDiff, Nat.reduceAdd, Nat.reduceSub, Nat.reduceMul, Nat.reduceBEq, Nat.reduceLT, Nat.reduceLeDiff, reduceCtorEq, Int.reduceToNat, Int.reduceNeg]
  · refine grd_dec rfl (fun h1 => ?_) fun h1 => ?_ <;> simp only [push_cast, reduceIte, Nat.reduceEqDiff, Nat.reduceAdd, Nat.reduceSub, Nat.reduceMul, Nat.reduceBEq, Nat.reduceLT, Nat.reduceLeDiff, reduceCtorEq, Int.reduceToNat, Int.reduceNeg]
    · refine cal_sub (ints_ok a1 b1 ha hb) (by simp only [push_cast, reduceIte, Nat.reduceEqDiff, Nat.reduceAdd, Nat.reduceSub, Nat.reduceMul, Nat.reduceBEq, Nat.reduceLT, Nat.reduceLeDiff, reduceCtorEq, Int.reduceToNat, Int.reduceNeg]) ?_
      simp only [push_cast, reduceIte, Nat.reduceEqDiff, Nat.reduceAdd, Nat.reduceSub, Nat.reduceMul, Nat.reduceBEq, Nat.reduceLT, Nat.reduceLeDiff, reduceCtorEq, Int.reduceToNat, Int.reduceNeg]
      exact congrArg Value.bool (key _ (by rw [decide_eq_true (p := a3 = b3) h, decide_eq_true (p := a2 = b2) h1]; rfl))
    · exact congrArg Value.bool (key _ (by rw [decide_eq_true (p := a3 = b3) h, decide_eq_false (p := a2 = b2) h1]; rfl))
  · exact congrArg Value.bool (key _ (by rw [decide_eq_false (p := a3 = b3) h]; rfl))
end Go.Proofs.Ytbdamnfkgdbidaa
namespace Go.Proofs.Ytbdamnfkgdbidaa
open Go Go.Vc Txt
theorem ints12_ok (a b : List Int) (ha : (a.length : Int) ≤ 1000000) (hb : (b.length : Int) ≤ 1000000) : FnEq Try.prog 25 [.sl false 1 (ints a), .sl false 1 (ints b)] (.bool (decide (a = b))) := by
  refine FnEq.of_awp Try.func25 ok25 (by show 2 ≤ _; decide) (by simp only [push_cast, reduceIte, Nat.reduceEqDiff, Nat.reduceAdd, Nat.reduceSub, Nat.reduceMul, Nat.reduceBEq, Nat.reduceLT, Nat.reduceLeDiff, reduceCtorEq, Int.reduceToNat, Int.reduceNeg] <;> first | exact fun _ _ => trivial | simp) ?_
  simp only [ac25, rv25, push_cast, reduceIte, Nat.reduceEqDiff, Nat.reduceAdd, Nat.reduceSub, Nat.reduceMul, Nat.reduceBEq, Nat.reduceLT, Nat.reduceLeDiff, reduceCtorEq, Int.reduceToNat, Int.reduceNeg]
  refine cond_dec (fun h => ?_) fun h => ?_
  · rw [decide_eq_false]; intro e; exact h (by rw [e])
  have hab : a.length = b.length := by omega
  refine loop_of (fun m st => ∃ k : Nat, k ≤ a.length ∧ m = a.length - k ∧ a.take k = b.take k ∧ st = ⟨[(0, .sl false 1 (ints a)), (1, .sl false 1 (ints b)), (5, .int k)], [], [], []⟩) a.length ?_ ?_
  · refine ⟨0, by omega, by omega, by simp, ?_⟩
    simp only [push_cast, reduceIte, Nat.reduceEqDiff, Nat.reduceAdd, Nat.reduceSub, Nat.reduceMul, Nat.reduceBEq, Nat.reduceLT, Nat.reduceLeDiff, reduceCtorEq, Int.reduceToNat, Int.reduceNeg]
  · rintro m st ⟨k, hk, rfl, h1, rfl⟩
    simp only [push_cast, reduceIte, Nat.reduceEqDiff, Nat.reduceAdd, Nat.reduceSub, Nat.reduceMul, Nat.reduceBEq, Nat.reduceLT, Nat.reduceLeDiff, reduceCtorEq, Int.reduceToNat, Int.reduceNeg]
    refine cond_dec (fun h2 => ?_) fun h2 => ?_
    · have ka : k < a.length := by omega
      have kb : k < b.length := by omega
      have ga : a.getD k default = a[k] := by simp [ka]
      have gb : b.getD k default = b[k] := by simp [kb]
      rw [ga, gb]
      refine ⟨⟨by omega, by omega⟩, ka, ⟨by omega, by omega⟩, kb, cond_dec (fun h3 => ?_) fun h3 => ?_⟩
      · rw [decide_eq_false]; intro e; subst e; exact h3 rfl
      · refine ⟨⟨by omega, by omega⟩, _, ?_, k + 1, by omega, rfl, ?_, ?_⟩
        · omega
        · rw [List.take_succ_eq_append_getElem ka, List.take_succ_eq_append_getElem kb, h1, Classical.not_not.1 h3]
        · simp
    · rw [List.take_of_length_le (by omega), List.take_of_length_le (by omega)] at h1
      rw [decide_eq_true h1]
def exP (two : Bool) : Packed := ⟨[⟨3, 0, 0⟩], bif two then [⟨[0, 3], 1, -1, -1, 0⟩, ⟨[], 0, -1, -1, 0⟩] else [⟨[0], 1, -1, -1, 0⟩], [⟨5, 0, 0⟩], [1]⟩
def exJ (two : Bool) : Job := ⟨exP two, ⟨3, 1, 1, 1, [2, 2, 2]⟩, ⟨[], []⟩⟩
theorem exJ_ok (two : Bool) : (exJ two).Ok := by
  cases two <;> constructor <;> decide
theorem row_ok (two : Bool) : FnEq Try.prog 35 [.bool two] (.agg (jobC true (exJ two))) := by
  refine FnEq.of_awp Try.func35 ok35 (by show 1 ≤ _; decide) (by simp only [push_cast, reduceIte, Nat.reduceEqDiff, Nat.reduceAdd, Nat.reduceSub, Nat.reduceMul, Nat.reduceBEq, Nat.reduceLT, Nat.reduceLeDiff, reduceCtorEq, Int.reduceToNat, Int.reduceNeg] <;> first | exact fun _ _ => trivial | simp) ?_
  simp only [ac35, rv35, push_cast, reduceIte, Nat.reduceEqDiff, Nat.reduceAdd, Nat.reduceSub, Nat.reduceMul, Nat.reduceBEq, Nat.reduceLT, Nat.reduceLeDiff, reduceCtorEq, Int.reduceToNat, Int.reduceNeg]
  cases two
  all_goals
    simp only [push_cast, reduceIte, Nat.reduceEqDiff, Nat.reduceAdd, Nat.reduceSub, Nat.reduceMul, Nat.reduceBEq, Nat.reduceLT, Nat.reduceLeDiff, reduceCtorEq, Int.reduceToNat, Int.reduceNeg]
    and_intros <;> first | exact .refl _ | decide | (exact fun _ _ => trivial) | (intro x hx; cases hx; done) | exact Sub.slR 5 (fun _ => rfl) ⟨⟨.refl _, .refl _, .refl _, .refl _, .refl _, trivial⟩, ⟨.nil true 1, .refl _, .refl _, .refl _, .refl _, trivial⟩, trivial⟩
theorem blockC_sub (b : Block) : SubL (blockC true b) (blockC false b) := ⟨.slp _ _ _ _ (fun h => by cases h), .refl _, .refl _, .refl _, .refl _, trivial⟩
theorem jobC_sub (j : Job) : SubL (jobC true j) (jobC false j) :=
  ⟨.slp _ _ _ _ (fun h => by cases h), Sub.slR 5 (fun h => by cases h) (SubR.map _ _ _ fun b _ => blockC_sub b), .slp _ _ _ _ (fun h => by cases h), .slp _ _ _ _ (fun h => by cases h), .refl _, .refl _, .refl _, .refl _, .slp _ _ _ _ (fun h => by cases h), .slp _ _ _ _ (fun h => by cases h), .slp _ _ _ _ (fun h => by cases h), trivial⟩
theorem ex_cost1 : cost1F (exJ false) [0] = (4, 0) := by decide
theorem ex_cost2 : cost1F (exJ false) [2] = (4, 0) := by decide
theorem ex_cost3 : cost1F (exJ true) [0, 1] = (5, 0) := by decide
theorem ex_place1 : placeF (exJ true) [] 0 = ([0, 1], 0) := by decide
theorem ex_place2 : placeF (exJ true) [-1, 2] 0 = ([0, 2], 0) := by decide
theorem ex_place3 : placeF (exJ true) [-1, 2] 1 = ([1, 2], 0) := by decide
theorem ex_imp : improvedF (exJ true) [0, 2] [1] 9 = ([1, 2], 1, 0) := by decide
theorem ex_check1 : checkF (exJ true) [0, 0] = 290 := by decide
theorem ex_check2 : checkF (exJ true) [2, 0] = 0 := by decide
theorem ex_suits1 : suitsR (exJ true) 1 2 = true := by decide
def exB : Job := ⟨exP true, ⟨3, 1, 1, 1, [2, 2, 2]⟩, ⟨[2], []⟩⟩
theorem exB_ok : exB.Ok := by constructor <;> decide
theorem ex_suits2 : suitsR exB 1 2 = false := by decide
theorem packedC_sub (p : Packed) : SubL (packedC true p) (packedC false p) :=
  ⟨.slp _ _ _ _ (fun h => by cases h), Sub.slR 5 (fun h => by cases h) (SubR.map _ _ _ fun b _ => blockC_sub b), .slp _ _ _ _ (fun h => by cases h), .slp _ _ _ _ (fun h => by cases h), trivial⟩
theorem gridC_sub (g : Grid) : SubL (gridC true g) (gridC false g) := ⟨.refl _, .refl _, .refl _, .refl _, .slp _ _ _ _ (fun h => by cases h), trivial⟩
theorem badC_sub (b : Bad) : SubL (badC true b) (badC false b) := ⟨.slp _ _ _ _ (fun h => by cases h), .slp _ _ _ _ (fun h => by cases h), trivial⟩
theorem examples_ok : FnEq Try.prog 9 [] (.bool true) := by
  refine FnEq.of_awp Try.func9 ok9 (by show 0 ≤ _; decide) (by simp only [push_cast, reduceIte, Nat.reduceEqDiff, Nat.reduceAdd, Nat.reduceSub, Nat.reduceMul, Nat.reduceBEq, Nat.reduceLT, Nat.reduceLeDiff, reduceCtorEq, Int.reduceToNat, Int.reduceNeg] <;> first | exact fun _ _ => trivial | simp) ?_
  simp only [ac9, rv9, push_cast, reduceIte, Nat.reduceEqDiff, Nat.reduceAdd, Nat.reduceSub, Nat.reduceMul, Nat.reduceBEq, Nat.reduceLT, Nat.reduceLeDiff, reduceCtorEq, Int.reduceToNat, Int.reduceNeg]
  refine cal_sub (row_ok false) (by simp only [push_cast, reduceIte, Nat.reduceEqDiff, Nat.reduceAdd, Nat.reduceSub, Nat.reduceMul, Nat.reduceBEq, Nat.reduceLT, Nat.reduceLeDiff, reduceCtorEq, Int.reduceToNat, Int.reduceNeg]) ?_
  simp only [push_cast, reduceIte, Nat.reduceEqDiff, Nat.reduceAdd, Nat.reduceSub, Nat.reduceMul, Nat.reduceBEq, Nat.reduceLT, Nat.reduceLeDiff, reduceCtorEq, Int.reduceToNat, Int.reduceNeg]
  refine cal_sub (row_ok true) (by simp only [push_cast, reduceIte, Nat.reduceEqDiff, Nat.reduceAdd, Nat.reduceSub, Nat.reduceMul, Nat.reduceBEq, Nat.reduceLT, Nat.reduceLeDiff, reduceCtorEq, Int.reduceToNat, Int.reduceNeg]) ?_
  simp only [push_cast, reduceIte, Nat.reduceEqDiff, Nat.reduceAdd, Nat.reduceSub, Nat.reduceMul, Nat.reduceBEq, Nat.reduceLT, Nat.reduceLeDiff, reduceCtorEq, Int.reduceToNat, Int.reduceNeg]
  refine ⟨by decide, ?_⟩
  refine cal_sub (lcost_ok (exJ false) (exJ_ok false) [0] (by decide)) ⟨Sub.aggL (jobC_sub _), .slp _ _ _ _ (fun h => by cases h), trivial⟩ ?_
  rw [ex_cost1]
  simp only [push_cast, reduceIte, Nat.reduceEqDiff, Nat.reduceAdd, Nat.reduceSub, Nat.reduceMul, Nat.reduceBEq, Nat.reduceLT, Nat.reduceLeDiff, reduceCtorEq, Int.reduceToNat, Int.reduceNeg]
  refine ⟨by decide, ?_⟩
  refine cal_sub (lcost_ok (exJ false) (exJ_ok false) [2] (by decide)) ⟨Sub.aggL (jobC_sub _), .slp _ _ _ _ (fun h => by cases h), trivial⟩ ?_
  rw [ex_cost2]
  simp only [push_cast, reduceIte, Nat.reduceEqDiff, Nat.reduceAdd, Nat.reduceSub, Nat.reduceMul, Nat.reduceBEq, Nat.reduceLT, Nat.reduceLeDiff, reduceCtorEq, Int.reduceToNat, Int.reduceNeg]
  refine ⟨by decide, ?_⟩
  refine cal_sub (lcost_ok (exJ true) (exJ_ok true) [0, 1] (by decide)) ⟨Sub.aggL (jobC_sub _), .slp _ _ _ _ (fun h => by cases h), trivial⟩ ?_
  rw [ex_cost3]
  simp only [push_cast, reduceIte, Nat.reduceEqDiff, Nat.reduceAdd, Nat.reduceSub, Nat.reduceMul, Nat.reduceBEq, Nat.reduceLT, Nat.reduceLeDiff, reduceCtorEq, Int.reduceToNat, Int.reduceNeg]
  refine cal_sub (lplaced_ok (exJ true) (exJ_ok true) ⟨[], [], 0⟩ (by decide)) ⟨Sub.aggL (jobC_sub _), Sub.aggL ⟨.nil _ _, .nil _ _, .refl _, trivial⟩, trivial⟩ ?_
  simp only [push_cast, reduceIte, Nat.reduceEqDiff, Nat.reduceAdd, Nat.reduceSub, Nat.reduceMul, Nat.reduceBEq, Nat.reduceLT, Nat.reduceLeDiff, reduceCtorEq, Int.reduceToNat, Int.reduceNeg]
  refine ⟨by decide, ?_⟩
  have e1 : decide (((placeF (exJ true) [] 0).1, (0 : Int), (placeF (exJ true) [] 0).2) = ([0, 1], 0, 0)) = true := by rw [ex_place1]; decide
  refine cal_sub (same_ok ((placeF (exJ true) [] 0).1, 0, (placeF (exJ true) [] 0).2) ([0, 1], 0, 0) (by rw [ex_place1]; decide) (by decide)) ⟨Sub.aggL ⟨.slp _ _ _ _ (fun h => by cases h), .refl _, .refl _, trivial⟩, Sub.aggL ⟨.slp _ _ _ _ (fun h => by cases h), .refl _, .refl _, trivial⟩, trivial⟩ ?_
  rw [e1]
  simp only [push_cast, reduceIte, Nat.reduceEqDiff, Nat.reduceAdd, Nat.reduceSub, Nat.reduceMul, Nat.reduceBEq, Nat.reduceLT, Nat.reduceLeDiff, reduceCtorEq, Int.reduceToNat, Int.reduceNeg]
  refine ⟨by decide, ?_⟩
  refine cal_sub (lplaced_ok (exJ true) (exJ_ok true) ⟨[], [-1, 2], 0⟩ (by decide)) ⟨Sub.aggL (jobC_sub _), Sub.aggL ⟨.nil _ _, .slp _ _ _ _ (fun h => by cases h), .refl _, trivial⟩, trivial⟩ ?_
  simp only [push_cast, reduceIte, Nat.reduceEqDiff, Nat.reduceAdd, Nat.reduceSub, Nat.reduceMul, Nat.reduceBEq, Nat.reduceLT, Nat.reduceLeDiff, reduceCtorEq, Int.reduceToNat, Int.reduceNeg]
  refine ⟨by decide, ?_⟩
  have e2 : decide (((placeF (exJ true) [-1, 2] 0).1, (0 : Int), (placeF (exJ true) [-1, 2] 0).2) = ([0, 2], 0, 0)) = true := by rw [ex_place2]; decide
  refine cal_sub (same_ok ((placeF (exJ true) [-1, 2] 0).1, 0, (placeF (exJ true) [-1, 2] 0).2) ([0, 2], 0, 0) (by rw [ex_place2]; decide) (by decide)) ⟨Sub.aggL ⟨.slp _ _ _ _ (fun h => by cases h), .refl _, .refl _, trivial⟩, Sub.aggL ⟨.slp _ _ _ _ (fun h => by cases h), .refl _, .refl _, trivial⟩, trivial⟩ ?_
  rw [e2]
  simp only [push_cast, reduceIte, Nat.reduceEqDiff, Nat.reduceAdd, Nat.reduceSub, Nat.reduceMul, Nat.reduceBEq, Nat.reduceLT, Nat.reduceLeDiff, reduceCtorEq, Int.reduceToNat, Int.reduceNeg]
  refine cal_sub (lplaced_ok (exJ true) (exJ_ok true) ⟨[], [-1, 2], 1⟩ (by decide)) ⟨Sub.aggL (jobC_sub _), Sub.aggL ⟨.nil _ _, .slp _ _ _ _ (fun h => by cases h), .refl _, trivial⟩, trivial⟩ ?_
  simp only [push_cast, reduceIte, Nat.reduceEqDiff, Nat.reduceAdd, Nat.reduceSub, Nat.reduceMul, Nat.reduceBEq, Nat.reduceLT, Nat.reduceLeDiff, reduceCtorEq, Int.reduceToNat, Int.reduceNeg]
  refine ⟨by decide, ?_⟩
  have e3 : decide (((placeF (exJ true) [-1, 2] 1).1, (0 : Int), (placeF (exJ true) [-1, 2] 1).2) = ([1, 2], 0, 0)) = true := by rw [ex_place3]; decide
  refine cal_sub (same_ok ((placeF (exJ true) [-1, 2] 1).1, 0, (placeF (exJ true) [-1, 2] 1).2) ([1, 2], 0, 0) (by rw [ex_place3]; decide) (by decide)) ⟨Sub.aggL ⟨.slp _ _ _ _ (fun h => by cases h), .refl _, .refl _, trivial⟩, Sub.aggL ⟨.slp _ _ _ _ (fun h => by cases h), .refl _, .refl _, trivial⟩, trivial⟩ ?_
  rw [e3]
  simp only [push_cast, reduceIte, Nat.reduceEqDiff, Nat.reduceAdd, Nat.reduceSub, Nat.reduceMul, Nat.reduceBEq, Nat.reduceLT, Nat.reduceLeDiff, reduceCtorEq, Int.reduceToNat, Int.reduceNeg]
  refine ⟨by decide, by decide, ?_⟩
  refine cal_sub (limproved_ok (exJ true) (exJ_ok true) ⟨[0, 2], [1], 9⟩ (by decide) (by decide)) ⟨Sub.aggL (jobC_sub _), Sub.aggL ⟨.slp _ _ _ _ (fun h => by cases h), .slp _ _ _ _ (fun h => by cases h), .refl _, trivial⟩, trivial⟩ ?_
  simp only [push_cast, reduceIte, Nat.reduceEqDiff, Nat.reduceAdd, Nat.reduceSub, Nat.reduceMul, Nat.reduceBEq, Nat.reduceLT, Nat.reduceLeDiff, reduceCtorEq, Int.reduceToNat, Int.reduceNeg]
  refine ⟨by decide, ?_⟩
  have e4 : decide (improvedF (exJ true) [0, 2] [1] 9 = ([1, 2], 1, 0)) = true := by rw [ex_imp]; decide
  refine cal_sub (same_ok (improvedF (exJ true) [0, 2] [1] 9) ([1, 2], 1, 0) (by rw [ex_imp]; decide) (by decide)) ⟨Sub.aggL ⟨.slp _ _ _ _ (fun h => by cases h), .refl _, .refl _, trivial⟩, Sub.aggL ⟨.slp _ _ _ _ (fun h => by cases h), .refl _, .refl _, trivial⟩, trivial⟩ ?_
  rw [e4]
  simp only [push_cast, reduceIte, Nat.reduceEqDiff, Nat.reduceAdd, Nat.reduceSub, Nat.reduceMul, Nat.reduceBEq, Nat.reduceLT, Nat.reduceLeDiff, reduceCtorEq, Int.reduceToNat, Int.reduceNeg]
  refine ⟨by decide, ?_⟩
  refine cal_sub (lcheck_ok (exJ true) (exJ_ok true) [0, 0] (by decide)) ⟨Sub.aggL (jobC_sub _), .slp _ _ _ _ (fun h => by cases h), trivial⟩ ?_
  rw [ex_check1]
  simp only [push_cast, reduceIte, Nat.reduceEqDiff, Nat.reduceAdd, Nat.reduceSub, Nat.reduceMul, Nat.reduceBEq, Nat.reduceLT, Nat.reduceLeDiff, reduceCtorEq, Int.reduceToNat, Int.reduceNeg]
  refine ⟨by decide, ?_⟩
  refine cal_sub (lcheck_ok (exJ true) (exJ_ok true) [2, 0] (by decide)) ⟨Sub.aggL (jobC_sub _), .slp _ _ _ _ (fun h => by cases h), trivial⟩ ?_
  rw [ex_check2]
  simp only [push_cast, reduceIte, Nat.reduceEqDiff, Nat.reduceAdd, Nat.reduceSub, Nat.reduceMul, Nat.reduceBEq, Nat.reduceLT, Nat.reduceLeDiff, reduceCtorEq, Int.reduceToNat, Int.reduceNeg]
  refine cal_sub (suits_exp (exJ true) (exJ_ok true) 1 2) ⟨Sub.aggL (packedC_sub _), Sub.aggL (gridC_sub _), Sub.aggL (badC_sub _), .refl _, .refl _, trivial⟩ ?_
  rw [ex_suits1]
  simp only [push_cast, reduceIte, Nat.reduceEqDiff, Nat.reduceAdd, Nat.reduceSub, Nat.reduceMul, Nat.reduceBEq, Nat.reduceLT, Nat.reduceLeDiff, reduceCtorEq, Int.reduceToNat, Int.reduceNeg]
  refine ⟨by decide, ?_⟩
  refine cal_sub (suits_exp exB exB_ok 1 2) ⟨Sub.aggL (packedC_sub _), Sub.aggL (gridC_sub _), Sub.aggL ⟨.slp _ _ _ _ (fun h => by cases h), .nil _ _, trivial⟩, .refl _, .refl _, trivial⟩ ?_
  rw [ex_suits2]
  simp only [push_cast, reduceIte, Nat.reduceEqDiff, Nat.reduceAdd, Nat.reduceSub, Nat.reduceMul, Nat.reduceBEq, Nat.reduceLT, Nat.reduceLeDiff, reduceCtorEq, Int.reduceToNat, Int.reduceNeg]
end Go.Proofs.Ytbdamnfkgdbidaa
namespace Go.Proofs.Ytbdamnfkgdbidaa
open Go Go.Vc Txt
theorem cutE_of {P : Env} {ops : List AO} {st : St} {ks : List Nat} {c : AC} {Q : Exit → St → Prop} (S : St → Prop) (h1 : opsK P ops st (fun st' => S (st'.keepS ks))) (h2 : ∀ st1, S st1 → awp P c Q st1) : opsK P ops st (fun st' => awp P (.cut ks c) Q st') := by
  have mono : ∀ (l : List AO) (st : St) (K K' : St → Prop), (∀ s, K s → K' s) → opsK P l st K → opsK P l st K' := by
    intro l
    induction l with
    | nil => exact fun st K K' h hk => h st hk
    | cons o r ih => exact fun st K K' h hk => grdK_mono (opK_mono fun s hs => ih s K K' h hs) (ih _ K K' h) hk
  exact mono ops st _ _ (fun s hs => h2 _ hs) h1
def isU64 (v : PV) : Prop := ∃ x : Int, v = .sc (.int .u64 x)
theorem step_ok (h w : Int) : FnOK Try.prog 96 [.sc (.int .u64 h), .sc (.int .u64 w)] isU64 := by
  refine FnOK.of_awp Try.func96 ok96 (by show 2 ≤ _; decide) ?_
  simp only [ac96, rv96, push_cast, reduceIte, Nat.reduceEqDiff, Nat.reduceAdd, Nat.reduceSub, Nat.reduceMul, Nat.reduceBEq, Nat.reduceLT, Nat.reduceLeDiff, reduceCtorEq, Int.reduceToNat, Int.reduceNeg]
  exact ⟨by omega, _, rfl⟩
theorem words_ok (l : List Int) (hl : (l.length : Int) ≤ 1000000) : FnOK Try.prog 88 [.sl false 1 (ints l)] isU64 := by
  refine FnOK.of_awp Try.func88 ok88b (by show 1 ≤ _; decide) ?_
  simp only [ac88b, rv88b, push_cast, reduceIte, Nat.reduceEqDiff, Nat.reduceAdd, Nat.reduceSub, Nat.reduceMul, Nat.reduceBEq, Nat.reduceLT, Nat.reduceLeDiff, reduceCtorEq, Int.reduceToNat, Int.reduceNeg]
  refine loop_of (fun m st => ∃ (k : Nat) (h : Int), k ≤ l.length ∧ m = l.length - k ∧ st = ⟨[(0, .sl false 1 (ints l)), (3, .sc (.int .u64 h)), (4, .int k)], [], [], []⟩) l.length ?_ ?_
  · refine ⟨0, 512970876019, by omega, by omega, ?_⟩
    simp only [push_cast, reduceIte, Nat.reduceEqDiff, Nat.reduceAdd, Nat.reduceSub, Nat.reduceMul, Nat.reduceBEq, Nat.reduceLT, Nat.reduceLeDiff, reduceCtorEq, Int.reduceToNat, Int.reduceNeg]
  · rintro m st ⟨k, h, hk, rfl, rfl⟩
    simp only [push_cast, reduceIte, Nat.reduceEqDiff, Nat.reduceAdd, Nat.reduceSub, Nat.reduceMul, Nat.reduceBEq, Nat.reduceLT, Nat.reduceLeDiff, reduceCtorEq, Int.reduceToNat, Int.reduceNeg]
    refine cond_dec (fun h1 => ?_) fun h1 => ?_
    · refine ⟨⟨by omega, by omega⟩, by omega, ?_⟩
      refine cal_subO (step_ok h (IntKind.wrap .u64 (l.getD k default))) (by simp only [push_cast, reduceIte, Nat.reduceEqDiff, Nat.reduceAdd, Nat.reduceSub, Nat.reduceMul, Nat.reduceBEq, Nat.reduceLT, Nat.reduceLeDiff, reduceCtorEq, Int.reduceToNat, Int.reduceNeg]) ?_
      rintro _ ⟨x, rfl⟩
      simp only [push_cast, reduceIte, Nat.reduceEqDiff, Nat.reduceAdd, Nat.reduceSub, Nat.reduceMul, Nat.reduceBEq, Nat.reduceLT, Nat.reduceLeDiff, reduceCtorEq, Int.reduceToNat, Int.reduceNeg]
      refine ⟨⟨by omega, by omega⟩, _, ?_, k + 1, x, by omega, rfl, ?_⟩
      · omega
      · simp
    · refine cal_subO (step_ok h (IntKind.wrap .u64 l.length)) (by simp only [push_cast, reduceIte, Nat.reduceEqDiff, Nat.reduceAdd, Nat.reduceSub, Nat.reduceMul, Nat.reduceBEq, Nat.reduceLT, Nat.reduceLeDiff, reduceCtorEq, Int.reduceToNat, Int.reduceNeg]) ?_
      rintro _ ⟨x, rfl⟩
      simp only [push_cast, reduceIte, Nat.reduceEqDiff, Nat.reduceAdd, Nat.reduceSub, Nat.reduceMul, Nat.reduceBEq, Nat.reduceLT, Nat.reduceLeDiff, reduceCtorEq, Int.reduceToNat, Int.reduceNeg]
      exact ⟨x, rfl⟩
theorem signals_ok (p : Packed) (h1 : (p.ins.length : Int) ≤ 1000000) (h2 : (p.blocks.length : Int) ≤ 1000000) : FnEq Try.prog 69 [.agg (packedC false p)] (.int (p.ins.length + 2 * p.blocks.length)) := by
  refine FnEq.of_awp Try.func69 ok69 (by show 1 ≤ _; decide) (by simp only [push_cast, reduceIte, Nat.reduceEqDiff, Nat.reduceAdd, Nat.reduceSub, Nat.reduceMul, Nat.reduceBEq, Nat.reduceLT, Nat.reduceLeDiff, reduceCtorEq, Int.reduceToNat, Int.reduceNeg] <;> first | exact fun _ _ => trivial | simp) ?_
  simp only [ac69, rv69, push_cast, reduceIte, Nat.reduceEqDiff, Nat.reduceAdd, Nat.reduceSub, Nat.reduceMul, Nat.reduceBEq, Nat.reduceLT, Nat.reduceLeDiff, reduceCtorEq, Int.reduceToNat, Int.reduceNeg]
  refine ⟨⟨by omega, by omega⟩, by omega, by omega⟩
theorem block_ok (p : Packed) (s : Int) (h1 : (p.ins.length : Int) ≤ 1000000) (hs : 0 ≤ s ∧ s ≤ 4000000) : FnEq Try.prog 75 [.agg (packedC false p), .int s] (.int (if s < p.ins.length then -1 else (s - p.ins.length) / 2)) := by
  refine FnEq.of_awp Try.func75 ok75 (by show 2 ≤ _; decide) (by simp only [push_cast, reduceIte, Nat.reduceEqDiff, Nat.reduceAdd, Nat.reduceSub, Nat.reduceMul, Nat.reduceBEq, Nat.reduceLT, Nat.reduceLeDiff, reduceCtorEq, Int.reduceToNat, Int.reduceNeg] <;> first | exact fun _ _ => trivial | simp) ?_
  simp only [ac75, rv75, push_cast, reduceIte, Nat.reduceEqDiff, Nat.reduceAdd, Nat.reduceSub, Nat.reduceMul, Nat.reduceBEq, Nat.reduceLT, Nat.reduceLeDiff, reduceCtorEq, Int.reduceToNat, Int.reduceNeg]
  refine cond_dec (fun h => ?_) fun h => ?_
  · rw [if_pos h]
  · rw [if_neg h]
    exact ⟨⟨by omega, by omega⟩, ⟨by omega, by omega⟩, rfl⟩
theorem flip_ok (p : Packed) (s : Int) (h1 : (p.ins.length : Int) ≤ 1000000) (hs : 0 ≤ s ∧ s ≤ 4000000) : FnEq Try.prog 98 [.agg (packedC false p), .int s] (.bool (decide ((p.ins.length : Int) ≤ s ∧ (s - p.ins.length) % 2 = 1))) := by
  refine FnEq.of_awp Try.func98 ok98 (by show 2 ≤ _; decide) (by simp only [push_cast, reduceIte, Nat.reduceEqDiff, Nat.reduceAdd, Nat.reduceSub, Nat.reduceMul, Nat.reduceBEq, Nat.reduceLT, Nat.reduceLeDiff, reduceCtorEq, Int.reduceToNat, Int.reduceNeg] <;> first | exact fun _ _ => trivial | simp) ?_
  simp only [ac98, rv98, push_cast, reduceIte, Nat.reduceEqDiff, Nat.reduceAdd, Nat.reduceSub, Nat.reduceMul, Nat.reduceBEq, Nat.reduceLT, Nat.reduceLeDiff, reduceCtorEq, Int.reduceToNat, Int.reduceNeg]
  refine grd_dec rfl (fun h => ?_) fun h => ?_ <;> simp only [push_cast, reduceIte, Nat.reduceEqDiff, Nat.reduceAdd, Nat.reduceSub, Nat.reduceMul, Nat.reduceBEq, Nat.reduceLT, Nat.reduceLeDiff, reduceCtorEq, Int.reduceToNat, Int.reduceNeg]
  · refine ⟨⟨by omega, by omega⟩, ⟨by omega, by omega⟩, ?_⟩
    refine congrArg Value.bool (decide_eq_decide.2 ?_)
    constructor
    · exact fun h2 => ⟨h, h2⟩
    · exact fun h2 => h2.2
  · rw [decide_eq_false]
    exact fun h2 => h h2.1
structure Packed.Ok (p : Packed) : Prop where
  ins : (p.ins.length : Int) ≤ 1000
  nb : (p.blocks.length : Int) ≤ 1000
  nin : ∀ b ∈ p.blocks, (b.ins.length : Int) ≤ 1000
  sb : ∀ b ∈ p.blocks, ∀ s ∈ b.ins, 0 ≤ s ∧ s < p.ins.length + 2 * p.blocks.length
theorem ready_ok (p : Packed) (hp : p.Ok) (b : Nat) (hb : b < p.blocks.length) (dn : List Bool) (hd : dn.length = p.blocks.length) :
    FnOK Try.prog 97 [.agg (packedC false p), .int b, .sl false 1 (rows boolC dn)] (fun v => ∃ x : Bool, v = .bool x) := by
  refine FnOK.of_awp Try.func97 ok97 (by show 3 ≤ _; decide) ?_
  simp only [ac97, rv97, push_cast, reduceIte, Nat.reduceEqDiff, Nat.reduceAdd, Nat.reduceSub, Nat.reduceMul, Nat.reduceBEq, Nat.reduceLT, Nat.reduceLeDiff, reduceCtorEq, Int.reduceToNat, Int.reduceNeg]
  have h1 := hp.ins
  have h2 := hp.nb
  have hg : p.blocks.getD b default = p.blocks[b] := by simp [hb]
  have hbm : p.blocks[b] ∈ p.blocks := List.getElem_mem hb
  have h3 := hp.nin _ hbm
  refine loop_of (fun m st => ∃ (k : Nat), k ≤ p.blocks[b].ins.length ∧ m = p.blocks[b].ins.length - k ∧
    st = ⟨[(1, .int b), (2, .sl false 1 (rows boolC dn)), (3, .ptr 3 0), (7, .int k)], [(3, packedC false p)], [], []⟩) p.blocks[b].ins.length ?_ ?_
  · refine ⟨0, by omega, by omega, ?_⟩
    simp only [push_cast, reduceIte, Nat.reduceEqDiff, Nat.reduceAdd, Nat.reduceSub, Nat.reduceMul, Nat.reduceBEq, Nat.reduceLT, Nat.reduceLeDiff, reduceCtorEq, Int.reduceToNat, Int.reduceNeg]
  · rintro m st ⟨k, hk, rfl, rfl⟩
    simp only [push_cast, reduceIte, Nat.reduceEqDiff, Nat.reduceAdd, Nat.reduceSub, Nat.reduceMul, Nat.reduceBEq, Nat.reduceLT, Nat.reduceLeDiff, reduceCtorEq, Int.reduceToNat, Int.reduceNeg]
    rw [hg]
    refine ⟨⟨by omega, by omega⟩, by omega, ?_⟩
    refine cond_dec (fun h4 => ?_) fun h4 => ?_
    · have hk' : k < p.blocks[b].ins.length := by omega
      have hgs : p.blocks[b].ins.getD k default = p.blocks[b].ins[k] := by simp [hk']
      rw [hgs]
      have hs := hp.sb _ hbm _ (List.getElem_mem hk')
      generalize p.blocks[b].ins[k] = s at hs ⊢
      refine ⟨⟨by omega, by omega⟩, by omega, ⟨by omega, by omega⟩, hk', ?_⟩
      obtain ⟨q, hq⟩ : ∃ q, q = (if s < p.ins.length then (-1 : Int) else (s - p.ins.length) / 2) := ⟨_, rfl⟩
      have hq1 : (s < p.ins.length → q = -1) ∧ (¬ s < p.ins.length → 0 ≤ q ∧ q < p.blocks.length) := by rw [hq]; split <;> omega
      refine cal_sub (block_ok p s (by omega) (by omega)) (by simp only [push_cast, reduceIte, Nat.reduceEqDiff, Nat.reduceAdd, Nat.reduceSub, Nat.reduceMul, Nat.reduceBEq, Nat.reduceLT, Nat.reduceLeDiff, reduceCtorEq, Int.reduceToNat, Int.reduceNeg]) ?_
      rw [← hq]
      refine cut_of ⟨[(1, .int b), (2, .sl false 1 (rows boolC dn)), (3, .ptr 3 0), (7, .int k), (47, .bool (decide (0 ≤ q) && !decide ((p.ins.length : Int) ≤ s ∧ (s - p.ins.length) % 2 = 1) && !dn.getD q.toNat default))], [(3, packedC false p)], [], []⟩ ?_ ?_
      · simp only [push_cast, reduceIte, Nat.reduceEqDiff, Nat.reduceAdd, Nat.reduceSub, Nat.reduceMul, Nat.reduceBEq, Nat.reduceLT, Nat.reduceLeDiff, reduceCtorEq, Int.reduceToNat, Int.reduceNeg]
        refine grd_dec rfl (fun h5 => ?_) fun h5 => ?_ <;> simp only [push_cast, reduceIte, Nat.reduceEqDiff, Nat.reduceAdd, Nat.reduceSub, Nat.reduceMul, Nat.reduceBEq, Nat.reduceLT, Nat.reduceLeDiff, reduceCtorEq, Int.reduceToNat, Int.reduceNeg]
        · refine cal_sub (flip_ok p s (by omega) (by omega)) (by simp only [push_cast, reduceIte, Nat.reduceEqDiff, Nat.reduceAdd, Nat.reduceSub, Nat.reduceMul, Nat.reduceBEq, Nat.reduceLT, Nat.reduceLeDiff, reduceCtorEq, Int.reduceToNat, Int.reduceNeg]) ?_
          rw [decide_eq_true h5]
          cases decide ((p.ins.length : Int) ≤ s ∧ (s - p.ins.length) % 2 = 1) <;> simp only [push_cast, reduceIte, Nat.reduceEqDiff, Nat.reduceAdd, Nat.reduceSub, Nat.reduceMul, Nat.reduceBEq, Nat.reduceLT, Nat.reduceLeDiff, reduceCtorEq, Int.reduceToNat, Int.reduceNeg]
          · refine cal_sub (block_ok p s (by omega) (by omega)) (by simp only [push_cast, reduceIte, Nat.reduceEqDiff, Nat.reduceAdd, Nat.reduceSub, Nat.reduceMul, Nat.reduceBEq, Nat.reduceLT, Nat.reduceLeDiff, reduceCtorEq, Int.reduceToNat, Int.reduceNeg]) ?_
            rw [← hq]
            simp only [push_cast, reduceIte, Nat.reduceEqDiff, Nat.reduceAdd, Nat.reduceSub, Nat.reduceMul, Nat.reduceBEq, Nat.reduceLT, Nat.reduceLeDiff, reduceCtorEq, Int.reduceToNat, Int.reduceNeg]
            refine ⟨⟨by omega, by omega⟩, by omega⟩
        · rw [decide_eq_false h5]
          rfl
      simp only [push_cast, reduceIte, Nat.reduceEqDiff, Nat.reduceAdd, Nat.reduceSub, Nat.reduceMul, Nat.reduceBEq, Nat.reduceLT, Nat.reduceLeDiff, reduceCtorEq, Int.reduceToNat, Int.reduceNeg]
      refine cond_of (fun h5 => ?_) fun h5 => ?_
      · exact ⟨_, rfl⟩
      · refine ⟨⟨by omega, by omega⟩, _, ?_, k + 1, by omega, rfl, ?_⟩
        · omega
        · simp
    · exact ⟨_, rfl⟩
theorem order_ok (p : Packed) (hp : p.Ok) :
    FnOK Try.prog 89 [.agg (packedC false p)] (fun v => ∃ l : List Int, v = .sl true 1 (ints l) ∧ (l.length : Int) ≤ 1000000 ∧ ∀ x ∈ l, 0 ≤ x ∧ x < p.blocks.length) := by
  refine FnOK.of_awp Try.func89 ok89 (by show 1 ≤ _; decide) ?_
  simp only [ac89, rv89, push_cast, reduceIte, Nat.reduceEqDiff, Nat.reduceAdd, Nat.reduceSub, Nat.reduceMul, Nat.reduceBEq, Nat.reduceLT, Nat.reduceLeDiff, reduceCtorEq, Int.reduceToNat, Int.reduceNeg]
  have h1 := hp.ins
  have h2 := hp.nb
  refine ⟨⟨by omega, by omega, by omega, by omega⟩, ?_⟩
  obtain ⟨n, hn⟩ : ∃ n, n = p.blocks.length := ⟨_, rfl⟩
  rw [← hn] at h2 ⊢
  have hnn : n * n ≤ 1000000 := Nat.mul_le_mul (show n ≤ 1000 by omega) (show n ≤ 1000 by omega)
  refine loop_of (fun m st => ∃ (r : Nat) (l : List Int) (dn : List Bool), r ≤ n ∧ m = n - r ∧ l.length ≤ r * n ∧ (∀ x ∈ l, 0 ≤ x ∧ x < n) ∧ dn.length = n ∧
    st = ⟨[(1, .ptr 1 0), (3, .view 7 0 l.length), (4, .view 11 0 n), (5, .int r)], [(1, packedC false p)], [(7, ⟨1, 3, ints l⟩), (11, ⟨1, 4, rows boolC dn⟩)], []⟩) n ?_ ?_
  · refine ⟨0, [], List.replicate n false, by omega, by omega, by simp, by simp, by simp, ?_⟩
    simp only [push_cast, reduceIte, Nat.reduceEqDiff, Nat.reduceAdd, Nat.reduceSub, Nat.reduceMul, Nat.reduceBEq, Nat.reduceLT, Nat.reduceLeDiff, reduceCtorEq, Int.reduceToNat, Int.reduceNeg]
    simp
    done
  · rintro m st ⟨r, l, dn, hr, rfl, hl, hlb, hdn, rfl⟩
    have hrn : r * n ≤ n * n := Nat.mul_le_mul_right n hr
    have hrs : (r + 1) * n = r * n + n := Nat.succ_mul r n
    simp only [push_cast, reduceIte, Nat.reduceEqDiff, Nat.reduceAdd, Nat.reduceSub, Nat.reduceMul, Nat.reduceBEq, Nat.reduceLT, Nat.reduceLeDiff, reduceCtorEq, Int.reduceToNat, Int.reduceNeg]
    rw [← hn]
    refine cond_dec (fun h3 => ?_) fun h3 => ?_
    · refine loop_of (fun m st => ∃ (b : Nat) (l : List Int) (dn : List Bool), b ≤ n ∧ m = n - b ∧ l.length ≤ r * n + b ∧ (∀ x ∈ l, 0 ≤ x ∧ x < n) ∧ dn.length = n ∧
        st = ⟨[(1, .ptr 1 0), (3, .view 7 0 l.length), (4, .view 11 0 n), (5, .int r), (6, .int b)], [(1, packedC false p)], [(7, ⟨1, 3, ints l⟩), (11, ⟨1, 4, rows boolC dn⟩)], []⟩) n ?_ ?_
      · refine ⟨0, l, dn, by omega, by omega, by omega, hlb, hdn, ?_⟩
        simp only [push_cast, reduceIte, Nat.reduceEqDiff, Nat.reduceAdd, Nat.reduceSub, Nat.reduceMul, Nat.reduceBEq, Nat.reduceLT, Nat.reduceLeDiff, reduceCtorEq, Int.reduceToNat, Int.reduceNeg]
      · clear hl hlb hdn
        rintro m st ⟨b, l, dn, hb, rfl, hl, hlb, hdn, rfl⟩
        simp only [push_cast, reduceIte, Nat.reduceEqDiff, Nat.reduceAdd, Nat.reduceSub, Nat.reduceMul, Nat.reduceBEq, Nat.reduceLT, Nat.reduceLeDiff, reduceCtorEq, Int.reduceToNat, Int.reduceNeg]
        rw [← hn]
        refine cond_dec (fun h4 => ?_) fun h4 => ?_
        · refine ⟨by omega, by omega, ?_⟩
          refine cutE_of (fun st1 => ∃ x : Bool, st1 = ⟨[(1, .ptr 1 0), (3, .view 7 0 l.length), (4, .view 11 0 n), (5, .int r), (6, .int b), (36, .bool x)], [(1, packedC false p)], [(7, ⟨1, 3, ints l⟩), (11, ⟨1, 4, rows boolC dn⟩)], []⟩) ?_ ?_
          · cases hx : dn.getD b default <;> simp only [push_cast, reduceIte, Nat.reduceEqDiff, Nat.reduceAdd, Nat.reduceSub, Nat.reduceMul, Nat.reduceBEq, Nat.reduceLT, Nat.reduceLeDiff, reduceCtorEq, Int.reduceToNat, Int.reduceNeg]
            · rw [List.take_of_length_le (by omega)]
              refine cal_subO (ready_ok p hp b (by omega) dn (by omega)) (by simp only [push_cast, reduceIte, Nat.reduceEqDiff, Nat.reduceAdd, Nat.reduceSub, Nat.reduceMul, Nat.reduceBEq, Nat.reduceLT, Nat.reduceLeDiff, reduceCtorEq, Int.reduceToNat, Int.reduceNeg]) ?_
              rintro _ ⟨x, rfl⟩
              simp only [push_cast, reduceIte, Nat.reduceEqDiff, Nat.reduceAdd, Nat.reduceSub, Nat.reduceMul, Nat.reduceBEq, Nat.reduceLT, Nat.reduceLeDiff, reduceCtorEq, Int.reduceToNat, Int.reduceNeg]
              exact ⟨x, rfl⟩
            · exact ⟨false, rfl⟩
          · rintro st1 ⟨x, rfl⟩
            simp only [push_cast, reduceIte, Nat.reduceEqDiff, Nat.reduceAdd, Nat.reduceSub, Nat.reduceMul, Nat.reduceBEq, Nat.reduceLT, Nat.reduceLeDiff, reduceCtorEq, Int.reduceToNat, Int.reduceNeg]
            refine cond_of (fun h5 => ?_) fun h5 => ?_
            · rw [show (List.replicate 1 (0 : Int)).set 0 (b : Int) = [(b : Int)] from rfl]
              simp only [push_cast, reduceIte, Nat.reduceEqDiff, Nat.reduceAdd, Nat.reduceSub, Nat.reduceMul, Nat.reduceBEq, Nat.reduceLT, Nat.reduceLeDiff, reduceCtorEq, Int.reduceToNat, Int.reduceNeg, show List.take 1 [(b : Int)] = [(b : Int)] from rfl]
              refine ⟨by omega, by omega, by decide, ⟨by omega, by omega⟩, ⟨by omega, by omega⟩, _, ?_, b + 1, l ++ [(b : Int)], dn.set b true, by omega, rfl, by simp; omega, fun y hy => ?_, by simpa using hdn, ?_⟩
              · omega
              · rcases List.mem_append.1 hy with hy | hy
                · exact hlb y hy
                · rw [List.mem_singleton.1 hy]; omega
              · simp
            · refine ⟨⟨by omega, by omega⟩, _, ?_, b + 1, l, dn, by omega, rfl, by omega, hlb, hdn, ?_⟩
              · omega
              · simp
        · have hbn : b = n := by omega
          subst hbn
          refine cond_dec (fun h5 => ?_) fun h5 => ?_
          · rw [List.take_length]
            exact ⟨fun _ _ => trivial, l, rfl, by omega, hlb⟩
          · refine ⟨⟨by omega, by omega⟩, _, ?_, r + 1, l, dn, by omega, rfl, by omega, hlb, hdn, ?_⟩
            · omega
            · simp
    · rw [List.take_length]
      exact ⟨fun _ _ => trivial, l, rfl, by omega, hlb⟩
end Go.Proofs.Ytbdamnfkgdbidaa
