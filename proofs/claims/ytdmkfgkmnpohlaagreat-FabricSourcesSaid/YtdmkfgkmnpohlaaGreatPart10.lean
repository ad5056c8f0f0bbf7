/- TxtB M N VcZp VcZq O P FX TxtR GA: lemmas -/
import Derived.Test.YtdmkfgkmnpohlaaGreatPart06
import Derived.Test.YtdmkfgkmnpohlaaGreatChecked
import Derived.Test.YtdmkfgkmnpohlaaGreatPart09
import Derived.Recover
set_option linter.unusedSimpArgs false
set_option linter.unusedVariables false
open Nat (reduceEqDiff reduceAdd reduceSub reduceMul reduceLT reduceLeDiff)
open Int (reduceToNat reduceNeg)
namespace Go.Proofs.YtdmkfgkmnpohlaaGreat.Txt
open Go Go.Vc
set_option maxRecDepth 100000
def ac77b_r10:AC:=
 (.seq (.seq (.reg [0,107,3,4,5] [
 (aO 62 (.ld true 4 (.t 5))),(aO 63 (.cal 91 [(.t 62)]))])
 (.cond (.t 63)
 (.seq (.reg [0,107,3,4,5] [
 (aO 64 (.ld true 4 (.t 4))),(aO 65 (.ld true 4 (.t 5))),(aO 66 (.eqa true 4 (.t 64) (.t 65))),(aO 67 (.mv (.t 66))),⟨some 68,some (67,true),.fa 3 (.t 4)⟩,⟨some 69,some (67,true),.ld false 1 (.t 68)⟩,⟨some 70,some (67,true),.fa 3 (.t 5)⟩,⟨some 71,some (67,true),.ld false 1 (.t 70)⟩,⟨some 72,some (67,true),.cmp .eql .i64 (.t 69) (.t 71)⟩,(aO 73 (.pick (.t 67) (.t 72) (.c (.sc (.bool false))))),(aO 74 (.mv (.t 73))),⟨some 75,some (74,true),.ld true 5 (.t 3)⟩,⟨some 76,some (74,true),.ld true 4 (.t 4)⟩,⟨some 77,some (74,true),.ld true 4 (.t 5)⟩,⟨some 78,some (74,true),.cal 92 [(.t 75),(.t 76),(.t 77)]⟩,(aO 79 (.pick (.t 74) (.t 78) (.c (.sc (.bool false))))),(aO 6 (.mv (.t 79)))])
 .ret)
 .skip))
 (.seq (.reg [0,107,3,4,5] [
 (aO 80 (.fa 0 (.t 5))),(aO 81 (.ld false 1 (.t 80))),(aO 82 (.cmp .eql .i64 (.t 81) (kI 3))),(aO 83 (.mv (.t 82))),⟨some 84,some (83,true),.ld true 5 (.t 3)⟩,⟨some 85,some (83,true),.ld true 4 (.t 4)⟩,⟨some 86,some (83,true),.fa 1 (.t 5)⟩,⟨some 87,some (83,true),.ld false 1 (.t 86)⟩,⟨some 88,some (83,true),.fa 2 (.t 5)⟩,⟨some 89,some (83,true),.ld false 1 (.t 88)⟩,⟨some 90,some (83,true),.cal 90 [(.t 84),(.t 85),(.t 87),(.t 89)]⟩,(aO 91 (.pick (.t 83) (.t 90) (.c (.sc (.bool false))))),(aO 92 (.mv (.t 91))),⟨some 93,some (92,false),.fa 0 (.t 5)⟩,⟨some 94,some (92,false),.ld false 1 (.t 93)⟩,⟨some 95,some (92,false),.cmp .eql .i64 (.t 94) (kI 7)⟩,⟨some 96,some (92,false),.mv (.t 95)⟩,⟨some 97,some (96,true),.ld true 5 (.t 3)⟩,⟨some 98,some (96,true),.ld true 4 (.t 4)⟩,⟨some 99,some (96,true),.fa 0 (.t 3)⟩,⟨some 100,some (96,true),.ld false 1 (.t 99)⟩,⟨some 101,some (96,true),.ari .sub true .i64 (.t 100) (kI 1)⟩,⟨some 102,some (96,true),.fa 2 (.t 5)⟩,⟨some 103,some (96,true),.ld false 1 (.t 102)⟩,⟨some 104,some (96,true),.cal 90 [(.t 97),(.t 98),(.t 101),(.t 103)]⟩,⟨some 105,some (92,false),.pick (.t 96) (.t 104) (.c (.sc (.bool false)))⟩,(aO 106 (.pick (.t 92) (.c (.sc (.bool true))) (.t 105))),(aO 6 (.mv (.t 106)))])
 .ret))
def ac77b:AC:=
 (.seq (.reg [0,107,0,1,2] [
 (aO 3 (.box (.t 0))),(aO 4 (.box (.t 1))),(aO 5 (.box (.t 2))),(aO 6 (.mv (.c (.sc (.bool false)))))])
 (.seq (.seq (.reg [0,107,3,4,5] [
 (aO 7 (.fa 0 (.t 4))),(aO 8 (.ld false 1 (.t 7)))])
 (.block 0
 (.seq (.reg [0,107,3,4,5,8] [
 (aO 10 (.cmp .eql .i64 (.t 8) (kI 1))),(aO 9 (.mv (.t 10)))])
 (.cond (.t 9)
 (.seq (.reg [0,107,3,4,5] [
 (aO 11 (.ld true 5 (.t 3))),(aO 12 (.ld true 4 (.t 5))),(aO 13 (.fa 1 (.t 4))),(aO 14 (.ld false 1 (.t 13))),(aO 15 (.fa 2 (.t 4))),(aO 16 (.ld false 1 (.t 15))),(aO 17 (.cal 90 [(.t 11),(.t 12),(.t 14),(.t 16)])),(aO 18 (.mv (.t 17))),⟨some 19,some (18,false),.fa 0 (.t 5)⟩,⟨some 20,some (18,false),.ld false 1 (.t 19)⟩,⟨some 21,some (18,false),.cmp .eql .i64 (.t 20) (kI 3)⟩,⟨some 22,some (18,false),.mv (.t 21)⟩,⟨some 23,some (22,true),.fa 3 (.t 5)⟩,⟨some 24,some (22,true),.ld false 1 (.t 23)⟩,⟨some 25,some (22,true),.cmp .eql .i64 (.t 24) (kI 3)⟩,⟨some 26,some (18,false),.pick (.t 22) (.t 25) (.c (.sc (.bool false)))⟩,⟨some 27,some (18,false),.mv (.t 26)⟩,⟨some 28,some (27,true),.fa 1 (.t 5)⟩,⟨some 29,some (27,true),.ld false 1 (.t 28)⟩,⟨some 30,some (27,true),.fa 1 (.t 4)⟩,⟨some 31,some (27,true),.ld false 1 (.t 30)⟩,⟨some 32,some (27,true),.cmp .eql .i64 (.t 29) (.t 31)⟩,⟨some 33,some (18,false),.pick (.t 27) (.t 32) (.c (.sc (.bool false)))⟩,⟨some 34,some (18,false),.mv (.t 33)⟩,⟨some 35,some (34,true),.fa 2 (.t 5)⟩,⟨some 36,some (34,true),.ld false 1 (.t 35)⟩,⟨some 37,some (34,true),.fa 2 (.t 4)⟩,⟨some 38,some (34,true),.ld false 1 (.t 37)⟩,⟨some 39,some (34,true),.ari .add true .i64 (.t 38) (kI 1)⟩,⟨some 40,some (34,true),.cmp .eql .i64 (.t 36) (.t 39)⟩,⟨some 41,some (18,false),.pick (.t 34) (.t 40) (.c (.sc (.bool false)))⟩,(aO 42 (.pick (.t 18) (.c (.sc (.bool true))) (.t 41))),(aO 6 (.mv (.t 42)))])
 .ret)
 (.seq (.reg [0,107,3,4,5,8] [
 (aO 44 (.cmp .eql .i64 (.t 8) (kI 2))),(aO 43 (.mv (.t 44)))])
 (.cond (.t 43)
 (.seq (.reg [0,107,3,4,5] [
 (aO 45 (.ld true 5 (.t 3))),(aO 46 (.ld true 4 (.t 5))),(aO 47 (.fa 1 (.t 4))),(aO 48 (.ld false 1 (.t 47))),(aO 49 (.fa 2 (.t 4))),(aO 50 (.ld false 1 (.t 49))),(aO 51 (.cal 90 [(.t 45),(.t 46),(.t 48),(.t 50)])),(aO 6 (.mv (.t 51)))])
 .ret)
 (.seq (.reg [0,107,3,4,5,8] [
 (aO 53 (.cmp .eql .i64 (.t 8) (kI 6))),(aO 52 (.mv (.t 53)))])
 (.cond (.t 52)
 (.seq (.reg [0,107,3,4,5] [
 (aO 54 (.ld true 5 (.t 3))),(aO 55 (.ld true 4 (.t 5))),(aO 56 (.fa 2 (.t 4))),(aO 57 (.ld false 1 (.t 56))),(aO 58 (.cal 90 [(.t 54),(.t 55),(kI 0),(.t 57)])),(aO 6 (.mv (.t 58)))])
 .ret)
 (.seq (.seq (.reg [0,107,3,4,5,8] [
 (aO 60 (.cmp .eql .i64 (.t 8) (kI 4))),(aO 59 (.mv (.t 60)))])
 (.cond (.t 59)
 .skip
 (.reg [0,107,3,4,5,8] [
 (aO 61 (.cmp .eql .i64 (.t 8) (kI 5))),(aO 59 (.mv (.t 61)))])))
 (.cond (.t 59)
 ac77b_r10
 .skip))))))))))
 (.seq (.reg [0,107] [
 (aO 6 (.mv (.c (.sc (.bool false)))))])
 .ret)))
def rv77b:List RV:=[.tmp 6]
theorem ok77b:fnOk Tryz.prog ac77b rv77b Tryz.f77=true:=by kernel_rfl
end Go.Proofs.YtdmkfgkmnpohlaaGreat.Txt
namespace Go.Proofs.YtdmkfgkmnpohlaaGreat
open Go Go.Vc Txt
def Meet(g:Grid)(a b:Spot):Prop:=Adj g b a.x a.y\/(a.kind=4/\Adj g b (a.x+1) a.y)\/(a.kind=5/\Adj g b a.x (a.y+1))
instance (g:Grid) (a b:Spot):Decidable (Meet g a b):=by unfold Meet;infer_instance
theorem qvS(s:Spot):FnEq Tryz.prog 91 [.agg (quz s)] (.bool (decide (s.kind=4\/s.kind=5))):=by
 obtain⟨k,x,y,i⟩:=s
 refine FnEq.of_awp Tryz.func91 ok91 (by show 1<=_;decide) (by simp only[push_cast,reduceIte,reduceEqDiff,reduceAdd,reduceSub,reduceMul,Nat.reduceBEq,reduceLT,reduceLeDiff,reduceCtorEq,reduceToNat,reduceNeg]<;>first|exact fun _ _=>trivial|simp) ?_
 simp only[ac91,rv91,push_cast,reduceIte,reduceEqDiff,reduceAdd,reduceSub,reduceMul,Nat.reduceBEq,reduceLT,reduceLeDiff,reduceCtorEq,reduceToNat,reduceNeg]
 refine qrr rfl (fun h=> ?_) fun h=> ?_<;>simp only[push_cast,reduceIte,reduceEqDiff,reduceAdd,reduceSub,reduceMul,Nat.reduceBEq,reduceLT,reduceLeDiff,reduceCtorEq,reduceToNat,reduceNeg]
 ·simp[h]
 ·simp[h]
theorem qvT(g:Grid)(a b:Spot)(ha:SOk a)(hb:SOk b):FnEq Tryz.prog 92 [.agg (quy false g),.agg (quz a),.agg (quz b)] (.bool (decide (Meet g a b))):=by
 have hx:=ha.x
 have hy:=ha.y
 have c1:=qvR g b hb a.x a.y
 have c2:=qvR g b hb (a.x+1) a.y
 have c3:=qvR g b hb a.x (a.y+1)
 obtain⟨k,x,y,i⟩:=a
 simp only at hx hy c1 c2 c3
 refine FnEq.of_awp Tryz.func92 ok92 (by show 3<=_;decide) (by simp only[push_cast,reduceIte,reduceEqDiff,reduceAdd,reduceSub,reduceMul,Nat.reduceBEq,reduceLT,reduceLeDiff,reduceCtorEq,reduceToNat,reduceNeg]<;>first|exact fun _ _=>trivial|simp) ?_
 simp only[ac92,rv92,push_cast,reduceIte,reduceEqDiff,reduceAdd,reduceSub,reduceMul,Nat.reduceBEq,reduceLT,reduceLeDiff,reduceCtorEq,reduceToNat,reduceNeg]
 by_cases h1:Adj g b x y
 ·rw[decide_eq_true h1]at c1
  refine qrm c1 sC ?_
  refine sB ?_
  rw[decide_eq_true (show Meet g ⟨k,x,y,i⟩ b from .inl h1)]
 ·rw[decide_eq_false h1]at c1
  refine qrm c1 sC ?_
  refine sB ?_
  refine qrq rfl (fun h4=> ?_) fun h4=> ?_<;>simp only[push_cast,reduceIte,reduceEqDiff,reduceAdd,reduceSub,reduceMul,Nat.reduceBEq,reduceLT,reduceLeDiff,reduceCtorEq,reduceToNat,reduceNeg]
  ·refine⟨by omega,?_⟩
   by_cases h2:Adj g b (x+1) y
   ·rw[decide_eq_true h2]at c2
    refine qrm c2 sC ?_
    refine sB ?_
    rw[decide_eq_true (show Meet g ⟨k,x,y,i⟩ b from .inr (.inl ⟨h4,h2⟩))]
   ·rw[decide_eq_false h2]at c2
    refine qrm c2 sC ?_
    refine sB ?_
    refine qrq rfl (fun h5=>absurd (h4.symm.trans h5) (by decide)) fun _=> ?_
    refine sB ?_
    rw[decide_eq_false (show ¬Meet g ⟨k,x,y,i⟩ b from fun h=>h.elim h1 fun h=>h.elim (fun h=>h2 h.2) fun h=>absurd (h4.symm.trans h.1) (by decide))]
  ·refine qrq rfl (fun h5=> ?_) fun h5=> ?_<;>simp only[push_cast,reduceIte,reduceEqDiff,reduceAdd,reduceSub,reduceMul,Nat.reduceBEq,reduceLT,reduceLeDiff,reduceCtorEq,reduceToNat,reduceNeg]
   ·refine⟨by omega,?_⟩
    refine qrm c3 sC ?_
    refine sB ?_
    rw[show decide (Adj g b x (y+1))=decide (Meet g ⟨k,x,y,i⟩ b)from by
     rw[decide_eq_decide]
     exact⟨fun h=> .inr (.inr ⟨h5,h⟩),fun h=>h.elim (fun h=>absurd h h1) fun h=>h.elim (fun h=>absurd h.1 h4) fun h=>h.2⟩]
   ·rw[decide_eq_false (show ¬Meet g ⟨k,x,y,i⟩ b from fun h=>h.elim h1 fun h=>h.elim (fun h=>h4 h.1) fun h=>h5 h.1)]
def CanD(g:Grid)(a b:Spot):Prop:=
 if a.kind=1 then Adj g b a.x a.y\/(b.kind=3/\b.i=3/\b.x=a.x/\b.y=a.y+1)
 else if a.kind=2 then Adj g b a.x a.y
 else if a.kind=6 then Adj g b 0 a.y
 else if a.kind=4\/a.kind=5 then
  (if b.kind=4\/b.kind=5 then a≠b/\a.i=b.i/\Meet g a b else(b.kind=3/\Adj g a b.x b.y)\/(b.kind=7/\Adj g a (g.w-1) b.y))
 else False
instance (g:Grid) (a b:Spot):Decidable (CanD g a b):=by unfold CanD;infer_instance
theorem qvU (g : Grid) (hg : GOk g) (a b : Spot) (ha : SOk a) (hb : SOk b) (hk : a.kind = 4 \/ a.kind = 5) (st : St) (hst : st.keepS [0, 107, 3, 4, 5] = ⟨[(3, .ptr 3 0), (4, .ptr 4 0), (5, .ptr 5 0)], [(3, quy false g), (4, quz a), (5, quz b)], [], []⟩) :
  awp (Env.of Tryz.prog) ac77b_r10 (retK [RV.tmp 6] fun v=>Sub v (.bool (decide (CanD g a b)))) st:=by
 have hw:=hg.w
 have c3:=qvS b
 have c4:=qvT g a b ha hb
 have c5:=qvR g a ha b.x b.y
 have c6:=qvR g a ha (g.w-1) b.y
 have hC:CanD g a b ↔ (if b.kind=4\/b.kind=5 then a≠b/\a.i=b.i/\Meet g a b else(b.kind=3/\Adj g a b.x b.y)\/(b.kind=7/\Adj g a (g.w-1) b.y)):=by
  rw[CanD,if_neg (by omega),if_neg (by omega),if_neg (by omega),if_pos hk]
 simp only[ac77b_r10,push_cast,reduceIte,reduceEqDiff,reduceAdd,reduceSub,reduceMul,Nat.reduceBEq,reduceLT,reduceLeDiff,reduceCtorEq,reduceToNat,reduceNeg,hst]
 by_cases hb4:b.kind=4\/b.kind=5
 ·rw[if_pos hb4]at hC
  rw[decide_eq_true hb4]at c3
  refine qrm c3 sC ?_
  refine sB ?_
  rw[quS a b]
  by_cases hab:a=b
  ·rw[decide_eq_true hab]
   simp only[Bool.not_true,push_cast,reduceIte,reduceEqDiff,reduceAdd,reduceSub,reduceMul,Nat.reduceBEq,reduceLT,reduceLeDiff,reduceCtorEq,reduceToNat,reduceNeg]
   rw[decide_eq_false (show ¬CanD g a b from fun h=>(hC.1 h).1 hab)]
  ·rw[decide_eq_false hab]
   simp only[Bool.not_false,push_cast,reduceIte,reduceEqDiff,reduceAdd,reduceSub,reduceMul,Nat.reduceBEq,reduceLT,reduceLeDiff,reduceCtorEq,reduceToNat,reduceNeg]
   refine qrq rfl (fun hi=> ?_) fun hi=> ?_<;>simp only[push_cast,reduceIte,reduceEqDiff,reduceAdd,reduceSub,reduceMul,Nat.reduceBEq,reduceLT,reduceLeDiff,reduceCtorEq,reduceToNat,reduceNeg]
   ·refine qrm c4 sC ?_
    refine sB ?_
    rw[show decide (Meet g a b)=decide (CanD g a b)from by rw[decide_eq_decide,hC];exact⟨fun h=>⟨hab,hi,h⟩,fun h=>h.2.2⟩]
   ·rw[decide_eq_false (show ¬CanD g a b from fun h=>hi (hC.1 h).2.1)]
 ·rw[if_neg hb4]at hC
  rw[decide_eq_false hb4]at c3
  refine qrm c3 sC ?_
  refine sB ?_
  refine qrq rfl (fun h3=> ?_) fun h3=> ?_<;>simp only[push_cast,reduceIte,reduceEqDiff,reduceAdd,reduceSub,reduceMul,Nat.reduceBEq,reduceLT,reduceLeDiff,reduceCtorEq,reduceToNat,reduceNeg]
  ·by_cases h5:Adj g a b.x b.y
   ·rw[decide_eq_true h5]at c5
    refine qrm c5 sC ?_
    refine sB ?_
    rw[decide_eq_true (hC.2 (.inl ⟨h3,h5⟩))]
   ·rw[decide_eq_false h5]at c5
    refine qrm c5 sC ?_
    refine sB ?_
    refine qrq rfl (fun h7=>absurd (h3.symm.trans h7) (by decide)) fun h7=> ?_
    refine sB ?_
    rw[decide_eq_false (show ¬CanD g a b from fun h=>(hC.1 h).elim (fun h=>h5 h.2) fun h=>h7 h.1)]
  ·refine qrq rfl (fun h7=> ?_) fun h7=> ?_<;>simp only[push_cast,reduceIte,reduceEqDiff,reduceAdd,reduceSub,reduceMul,Nat.reduceBEq,reduceLT,reduceLeDiff,reduceCtorEq,reduceToNat,reduceNeg]
   ·refine⟨by omega,?_⟩
    refine qrm c6 sC ?_
    refine sB ?_
    rw[show decide (Adj g a (g.w-1) b.y)=decide (CanD g a b)from by rw[decide_eq_decide,hC];exact⟨fun h=> .inr ⟨h7,h⟩,fun h=>h.elim (fun h=>absurd h.1 h3) fun h=>h.2⟩]
   ·rw[decide_eq_false (show ¬CanD g a b from fun h=>(hC.1 h).elim (fun h=>h3 h.1) fun h=>h7 h.1)]
set_option maxHeartbeats 2000000 in
theorem qvV(g:Grid)(hg:GOk g)(a b:Spot)(ha:SOk a)(hb:SOk b):FnEq Tryz.prog 77 [.agg (quy false g),.agg (quz a),.agg (quz b)] (.bool (decide (CanD g a b))):=by
 have hx:=ha.x
 have hy:=ha.y
 have hw:=hg.w
 have c1:=qvR g b hb a.x a.y
 have c2:=qvR g b hb 0 a.y
 have c3:=qvS b
 have c4:=qvT g a b ha hb
 have c5:=qvR g a ha b.x b.y
 have c6:=qvR g a ha (g.w-1) b.y
 refine FnEq.of_awp Tryz.func77 ok77b (by show 3<=_;decide) (by simp only[push_cast,reduceIte,reduceEqDiff,reduceAdd,reduceSub,reduceMul,Nat.reduceBEq,reduceLT,reduceLeDiff,reduceCtorEq,reduceToNat,reduceNeg]<;>first|exact fun _ _=>trivial|simp) ?_
 simp only[ac77b,rv77b,push_cast,reduceIte,reduceEqDiff,reduceAdd,reduceSub,reduceMul,Nat.reduceBEq,reduceLT,reduceLeDiff,reduceCtorEq,reduceToNat,reduceNeg]
 refine qnR (fun k1=> ?_) fun k1=> ?_
 ·have hC:CanD g a b ↔ Adj g b a.x a.y\/(b.kind=3/\b.i=3/\b.x=a.x/\b.y=a.y+1):=by rw[CanD,if_pos k1]
  by_cases h1:Adj g b a.x a.y
  ·rw[decide_eq_true h1]at c1
   refine qrm c1 sC ?_
   refine sB ?_
   rw[decide_eq_true (hC.2 (.inl h1))]
  ·rw[decide_eq_false h1]at c1
   refine qrm c1 sC ?_
   refine sB ?_
   have hC:CanD g a b ↔ (b.kind=3/\b.i=3/\b.x=a.x/\b.y=a.y+1):=hC.trans ⟨fun h=>h.elim (fun h=>absurd h h1) (fun h=>h),.inr⟩
   refine qrq rfl (fun g1=> ?_) fun g1=> ?_<;>simp only[push_cast,reduceIte,reduceEqDiff,reduceAdd,reduceSub,reduceMul,Nat.reduceBEq,reduceLT,reduceLeDiff,reduceCtorEq,reduceToNat,reduceNeg]
   ·refine qrq rfl (fun g2=> ?_) fun g2=> ?_<;>simp only[push_cast,reduceIte,reduceEqDiff,reduceAdd,reduceSub,reduceMul,Nat.reduceBEq,reduceLT,reduceLeDiff,reduceCtorEq,reduceToNat,reduceNeg]
    ·refine qrq rfl (fun g3=> ?_) fun g3=> ?_<;>simp only[push_cast,reduceIte,reduceEqDiff,reduceAdd,reduceSub,reduceMul,Nat.reduceBEq,reduceLT,reduceLeDiff,reduceCtorEq,reduceToNat,reduceNeg]
     ·refine⟨by omega,?_⟩
      rw[show decide (b.y=a.y+1)=decide (CanD g a b)from by rw[decide_eq_decide,hC];exact⟨fun h=>⟨g1,g2,g3,h⟩,fun h=>h.2.2.2⟩]
     ·rw[decide_eq_false (show ¬CanD g a b from fun h=>g3 (hC.1 h).2.2.1)]
    ·rw[decide_eq_false (show ¬CanD g a b from fun h=>g2 (hC.1 h).2.1)]
   ·rw[decide_eq_false (show ¬CanD g a b from fun h=>g1 (hC.1 h).1)]
 refine qnR (fun k2=> ?_) fun k2=> ?_
 ·refine qrm c1 sC ?_
  refine sB ?_
  rw[show decide (Adj g b a.x a.y)=decide (CanD g a b)from by rw[decide_eq_decide,CanD,if_neg k1,if_pos k2]]
 refine qnR (fun k6=> ?_) fun k6=> ?_
 ·refine qrm c2 sC ?_
  refine sB ?_
  rw[show decide (Adj g b 0 a.y)=decide (CanD g a b)from by rw[decide_eq_decide,CanD,if_neg k1,if_neg k2,if_pos k6]]
 refine qnR (fun k4=>qnR (fun _=> ?_) fun h=>absurd k4 h) fun k4=> ?_
 ·exact qvU g hg a b ha hb (.inl k4) _ sC
 refine qnR (fun k5=> ?_) fun k5=> ?_
 ·exact qvU g hg a b ha hb (.inr k5) _ sC
 ·rw[decide_eq_false (show ¬CanD g a b from fun h=>by rw[CanD,if_neg k1,if_neg k2,if_neg k6,if_neg (fun h=>h.elim k4 k5)]at h;exact h)]
def qvW(p:Spot×Int):List PV:=[.int p.1.kind,.int p.1.x,.int p.1.y,.int p.1.i,.int p.2]
@[push_cast] theorem qvX(p:Spot×Int):qvW p=[.int p.1.kind,.int p.1.x,.int p.1.y,.int p.1.i,.int p.2]:=rfl
theorem qvY(g:Grid)(hg:GOk g)(n:Int)(hn: -1000000000<=n/\n<=1000000000):FnEq Tryz.prog 48 [.agg (quy false g),.int n] (.agg (qvW (quK g n))):=by
 have h1:=hg.all
 have h2:=hg.each
 have h3:=hg.count
 have h4:=hg.pads
 have hw:=hg.w
 have hh:=hg.h
 have ht:=hg.tracks
 have h5:=hg.wh
 have hc:quD g=allI g+2*g.pads:=rfl
 have e:g.w*g.h*quC g=allI g:=rfl
 refine FnEq.of_awp Tryz.func48 ok48 (by show 2<=_;decide) (by simp only[push_cast,reduceIte,reduceEqDiff,reduceAdd,reduceSub,reduceMul,Nat.reduceBEq,reduceLT,reduceLeDiff,reduceCtorEq,reduceToNat,reduceNeg]<;>first|exact fun _ _=>trivial|simp) ?_
 simp only[ac48,rv48,push_cast,reduceIte,reduceEqDiff,reduceAdd,reduceSub,reduceMul,Nat.reduceBEq,reduceLT,reduceLeDiff,reduceCtorEq,reduceToNat,reduceNeg]
 refine qry ⟨[(1,.int n),(2,.ptr 2 0),(4,.ptr 4 0),(18,.bool (decide (n<0\/quD g<=n)))],[(2,quy false g),(4,[.int 0,.int 0,.int 0,.int 0,.int 0])],[],[]⟩ ?_ ?_
 ·refine qrr rfl (fun h=> ?_) fun h=> ?_<;>simp only[push_cast,reduceIte,reduceEqDiff,reduceAdd,reduceSub,reduceMul,Nat.reduceBEq,reduceLT,reduceLeDiff,reduceCtorEq,reduceToNat,reduceNeg]
  ·rw[decide_eq_true (show n<0\/quD g<=n from .inl h)]
  ·refine qrm (quI g hg) sC ?_
   refine sB ?_
   rw[show decide (quD g<=n)=decide (n<0\/quD g<=n)from by rw[decide_eq_decide];omega]
 refine sB ?_
 refine qnR (fun h=> ?_) fun h=> ?_
 ·rw[quK,if_pos h]
  exact sC
 have hE:quK g n=(quJ g n,0):=by rw[quK,if_neg h]
 rw[hE]
 refine⟨by omega,?_⟩
 refine qro (quH g hg) sC rfl ?_
 refine sB ?_
 rw[e]
 refine⟨by omega,by omega,?_⟩
 refine qnR (fun h6=> ?_) fun h6=> ?_
 ·rw[quJ,if_pos h6]
  exact⟨by omega,by omega,by omega,rfl,rfl,rfl,rfl⟩
 refine qnR (fun h7=> ?_) fun h7=> ?_
 ·rw[quJ,if_neg h6,if_pos h7]
  exact⟨by omega,by omega,rfl,rfl,rfl,rfl⟩
 have hd:quJ g n=(if 6+g.tracks<=n%quC g then⟨5,n/quC g%g.w,n/quC g/g.w,n%quC g-6-g.tracks⟩else if 6<=n%quC g then⟨4,n/quC g%g.w,n/quC g/g.w,n%quC g-6⟩else if 2<=n%quC g then⟨3,n/quC g%g.w,n/quC g/g.w,n%quC g-2⟩else if n%quC g=1 then⟨2,n/quC g%g.w,n/quC g/g.w,0⟩else⟨1,n/quC g%g.w,n/quC g/g.w,0⟩):=by rw[quJ,if_neg h6,if_neg h7]
 have e1:0<=n/quC g/\n/quC g<=n:=⟨Int.ediv_nonneg (by omega) (by omega),Int.ediv_le_self _ (by omega)⟩
 have e2:=Int.emod_nonneg n (show quC g≠0 by omega)
 have e3:=Int.emod_lt_of_pos n (show 0<quC g by omega)
 have e4:quC g=6+2*g.tracks:=rfl
 refine qro (quH g hg) sC rfl ?_
 refine sB ?_
 refine⟨by omega,?_⟩
 refine qro (quH g hg) sC rfl ?_
 refine sB ?_
 refine⟨by omega,by omega,by omega,?_⟩
 refine qnR (fun k0=> ?_) fun k0=> ?_
 ·rw[hd,if_neg (show ¬6+g.tracks<=n%quC g by omega),if_neg (show ¬6<=n%quC g by omega),if_neg (show ¬2<=n%quC g by omega),if_neg (show ¬n%quC g=1 by omega)]
  exact⟨rfl,rfl,rfl,rfl⟩
 refine qnR (fun k1=> ?_) fun k1=> ?_
 ·rw[hd,if_neg (show ¬6+g.tracks<=n%quC g by omega),if_neg (show ¬6<=n%quC g by omega),if_neg (show ¬2<=n%quC g by omega),if_pos k1]
  exact⟨rfl,rfl,rfl,rfl⟩
 refine qnR (fun k2=> ?_) fun k2=> ?_
 ·rw[hd,if_neg (show ¬6+g.tracks<=n%quC g by omega),if_neg (show ¬6<=n%quC g by omega),if_pos (show 2<=n%quC g by omega)]
  exact⟨by omega,rfl,rfl,rfl,rfl⟩
 refine⟨by omega,?_⟩
 refine qnR (fun k3=> ?_) fun k3=> ?_
 ·rw[hd,if_neg (show ¬6+g.tracks<=n%quC g by omega),if_pos (show 6<=n%quC g by omega)]
  exact⟨by omega,rfl,rfl,rfl,rfl⟩
 ·rw[hd,if_pos (show 6+g.tracks<=n%quC g by omega)]
  exact⟨by omega,by omega,rfl,rfl,rfl,rfl⟩
def qvZ(g:Grid)(s:Spot):Nat->List Int
 |0=>[]
 |k+1=>qvZ g s k++if CanD g (quJ g k) s then[(k:Int)]else[]
def rdrF(g:Grid)(n:Int):List Int:=if(quK g n).2=0 then qvZ g (quK g n).1 (quD g).toNat else[]
theorem qw0(g:Grid)(s:Spot): ∀k,(qvZ g s k).length<=k
 |0=>Nat.le_refl _
 |k+1=>by have:=qw0 g s k;rw[qvZ,List.length_append];split<;>simp<;>omega
theorem qw1(g:Grid)(hg:GOk g)(n:Int)(hn: -1000000000<=n/\n<=1000000000):FnEq Tryz.prog 45 [.agg (quy false g),.int n] (.sl true 1 (ints (rdrF g n))):=by
 have h3:=hg.count
 have hD:=qvY g hg n hn
 obtain⟨c,hc⟩: ∃c:Nat,quD g=c:=⟨(quD g).toNat,by omega⟩
 have hct:(quD g).toNat=c:=by omega
 refine FnEq.of_awp Tryz.func45 ok45 (by show 2<=_;decide) (by simp only[push_cast,reduceIte,reduceEqDiff,reduceAdd,reduceSub,reduceMul,Nat.reduceBEq,reduceLT,reduceLeDiff,reduceCtorEq,reduceToNat,reduceNeg]<;>first|exact fun _ _=>trivial|simp) ?_
 simp only[ac45,rv45,push_cast,reduceIte,reduceEqDiff,reduceAdd,reduceSub,reduceMul,Nat.reduceBEq,reduceLT,reduceLeDiff,reduceCtorEq,reduceToNat,reduceNeg]
 by_cases hE:n<0\/quD g<=n
 ·have e:quK g n=(⟨0,0,0,0⟩,1):=by rw[quK,if_pos hE]
  have e2:rdrF g n=[]:=by rw[rdrF,e];rfl
  rw[e2]
  rw[e]at hD
  refine qrm hD sC ?_
  refine sB ?_
  refine qoH (fun m st=>m=0/\st=⟨[(2,.ptr 2 0),(5,.view 8 0 0),(6,.ptr 6 0),(7,.int 0)],[(2,quy false g),(6,[.int 0,.int 0,.int 0,.int 0,.int 1])],[(8,⟨1,3,ints []⟩)],[]⟩) 0 ?_ ?_
  ·refine⟨rfl,?_⟩
   refine sB ?_
   rfl
  ·rintro m st ⟨rfl,rfl⟩
   refine sB ?_
   refine qrm (quI g hg) sC ?_
   refine sB ?_
   refine qrq rfl (fun _=> ?_) fun h=>absurd (by omega) h
   refine sB ?_
   refine qnR (fun h=>absurd h (by decide)) fun _=> ?_
   simp
 ·have e:quK g n=(quJ g n,0):=by rw[quK,if_neg hE]
  obtain⟨r1,_⟩:=qvN hg hE
  have e2:rdrF g n=qvZ g (quJ g n) c:=by rw[rdrF,e,hct];rfl
  rw[e2]
  rw[e]at hD
  refine qrm hD sC ?_
  refine sB ?_
  generalize quJ g n=s at r1 ⊢
  refine qoH (fun m st=> ∃k:Nat,k<=c/\m=c-k/\st=⟨[(2,.ptr 2 0),(5,.view 8 0 (qvZ g s k).length),(6,.ptr 6 0),(7,.int k)],[(2,quy false g),(6,[.int s.kind,.int s.x,.int s.y,.int s.i,.int 0])],[(8,⟨1,3,ints (qvZ g s k)⟩)],[]⟩) c ?_ ?_
  ·refine⟨0,by omega,by omega,?_⟩
   refine sB ?_
   rfl
  ·rintro m st ⟨k,hk,rfl,rfl⟩
   have hlen:=qw0 g s k
   refine sB ?_
   refine qrm (quI g hg) sC ?_
   refine sB ?_
   refine qry ⟨[(2,.ptr 2 0),(5,.view 8 0 (qvZ g s k).length),(6,.ptr 6 0),(7,.int k),(20,.bool (decide (k<c)))],[(2,quy false g),(6,[.int s.kind,.int s.x,.int s.y,.int s.i,.int 0])],[(8,⟨1,3,ints (qvZ g s k)⟩)],[]⟩ ?_ ?_
   ·refine qrq rfl (fun h=> ?_) fun h=> ?_<;>simp only[push_cast,reduceIte,reduceEqDiff,reduceAdd,reduceSub,reduceMul,Nat.reduceBEq,reduceLT,reduceLeDiff,reduceCtorEq,reduceToNat,reduceNeg]
    ·rw[decide_eq_true (show k<c by omega)]
    ·rw[decide_eq_false (show ¬k<c by omega)]
   refine sB ?_
   refine qnR (fun h=> ?_) fun h=> ?_
   ·have hk2: ¬((k:Int)<0\/quD g<=k):=by omega
    have ek:quK g k=(quJ g k,0):=by rw[quK,if_neg hk2]
    have hDk:=qvY g hg k (by omega)
    rw[ek]at hDk
    obtain⟨q1,_⟩:=qvN hg hk2
    refine qro hDk sC rfl ?_
    refine sB ?_
    refine qrm (qvV g hg (quJ g k) s q1 r1) sC ?_
    refine sB ?_
    have hs:qvZ g s (k+1)=qvZ g s k++if CanD g (quJ g k) s then[(k:Int)]else[]:=rfl
    refine qnR (fun h2=> ?_) fun h2=> ?_
    ·rw[if_pos h2]at hs
     refine⟨by simp,by omega,by omega,_,?_,k+1,by omega,rfl,?_⟩
     ·omega
     ·rw[hs]
      simp
    ·rw[if_neg h2,List.append_nil]at hs
     refine⟨by omega,_,?_,k+1,by omega,rfl,?_⟩
     ·omega
     ·rw[hs]
      simp
   ·rw[show k=c from by omega]
    exact⟨fun _ _=>trivial,.refl _⟩
end Go.Proofs.YtdmkfgkmnpohlaaGreat
namespace Go.Vc
open Go Go.RowKit
section
variable {P:Env} {st:St} {K K' :St->Prop}
theorem qw2(hk: ∀s,K s->K' s): ∀(l:List AO) (st:St),opsK P l st K->opsK P l st K'
 |[],st,h=>hk st h
 |_::r,st,h=>qfB (qfA fun s hs=>qw2 hk r s hs) (qw2 hk r _) h
theorem qw3(hk: ∀s,K s->K' s): ∀(l:List DO) (st:St),dsK P l st K->dsK P l st K'
 |[],st,h=>hk st h
 | x :: r, st, h => by
   have hr:=fun s hs=>qw3 hk r s hs
   unfold dsK at h ⊢
   unfold dopG at h ⊢
   split
   ·rename_i hs
    rw[if_pos hs]at h
    refine⟨h.1,qfB (fun hd=> ?_) (hr _) h.2⟩
    unfold dopK at hd ⊢
    split
    ·rename_i hop
     rw[hop]at hd
     obtain⟨post,a,b,c⟩:=hd
     exact⟨post,a,b,fun r hr' =>⟨(c r hr').1,hr _ (c r hr').2⟩⟩
    ·rename_i hop
     rw[hop]at hd
     simp only at hd ⊢
     split at hd
     ·obtain⟨h0,post,a,b,c⟩:=hd
      exact⟨h0,post,a,b,fun q hq=>⟨(c q hq).1,hr _ (c q hq).2⟩⟩
     ·exact hd.elim
    ·rename_i hop hop3
     have hd:qcK st x.t x.u x.o.op/\opK P x.o st (fun st' =>qcM x st' /\dsK P r st' K):=by
      split at hd
      ·rename_i hop2;exact absurd hop2 (hop _ _)
      ·rename_i hop2;exact absurd hop2 (hop3 _ _)
      ·exact hd
     exact⟨hd.1,qfA (fun s hs=>⟨hs.1,hr s hs.2⟩) hd.2⟩
   ·rename_i hs
    rw[if_neg hs]at h
    exact qfB (qfA hr) (hr _) h
theorem qw4{ops:List XO}(hk: ∀s,K s->K' s): ∀(n:Nat) (dn:List Nat) (st:St),allK P ops n dn st K->allK P ops n dn st K'
 |0,_,st,h=>⟨h.1,hk st h.2⟩
 |n+1,dn,st,h=>⟨fun e=>hk st (h.1 e),fun x hx hr=>qfB (qfA fun s hs=>qw4 hk n _ s hs) (qw4 hk n _ _) (h.2 x hx hr)⟩
theorem Exit.thn_mono{next:St->Prop}{Q Q' :Exit->St->Prop}(hq: ∀e st,Q e st->Q' e st): ∀e st,Exit.thn next Q e st->Exit.thn next Q' e st:=fun e st h=>by
 cases e<;>first|exact h|exact hq _ _ h
theorem Exit.thn_mono2{next next' :St->Prop}{Q Q' :Exit->St->Prop}(hn: ∀st,next st->next' st)(hq: ∀e st,Q e st->Q' e st): ∀e st,Exit.thn next Q e st->Exit.thn next' Q' e st:=fun e st h=>by
 cases e<;>first|exact hn _ h|exact hq _ _ h
theorem Exit.inB_mono{i:Nat}{Q Q' :Exit->St->Prop}(hq: ∀e st,Q e st->Q' e st): ∀e st,Exit.inB i Q e st->Exit.inB i Q' e st:=fun e st h=>by
 cases e<;>first|exact hq _ _ h|skip
 simp only[Exit.inB]at h ⊢
 split<;>rename_i hi
 ·rw[if_pos hi]at h;exact hq _ _ h
 ·rw[if_neg hi]at h;exact hq _ _ h
theorem qw5: ∀(ac:AC) {Q Q' :Exit->St->Prop},(∀e st,Q e st->Q' e st)-> ∀st,awp P ac Q st->awp P ac Q' st:=by
 intro ac
 induction ac with
 |skip=>exact fun hq st h=>hq _ _ h
 |label=>exact fun hq st h=>hq _ _ h
 |ret=>exact fun hq st h=>hq _ _ h
 |exit i=>exact fun hq st h=>hq _ _ h
 |reg keep ops=>exact fun hq st h=>qw2 (hq _) ops _ h
 |rgs segs=>
   intro Q Q' hq st h
   have key: ∀(r:List (List Nat×List AO)) (st:St),segK P r st (Q .normal)->segK P r st (Q' .normal):=by
    intro r
    induction r with
    |nil=>exact fun st h=>hq _ _ h
    |cons x r ih=>exact fun st h=>qw2 (fun s hs=>ih s hs) x.2 _ h
   exact key segs st h
 |drw keep ops=>exact fun hq st h=>qw3 (hq _) ops _ h
 |dra keep ops=>exact fun hq st h=>qw4 (hq _) _ _ _ h
 |seq a b iha ihb=>exact fun hq st h=>iha (Exit.thn_mono2 (fun s=>ihb hq s) hq) st h
 |cond c x y ihx ihy=>
   intro Q Q' hq st h
   simp only[awp,qcN]at h ⊢
   split at h
   ·exact⟨fun e=>ihx hq st (h.1 e),fun e=>ihy hq st (h.2 e)⟩
   ·exact h.elim
 |block i b ih=>exact fun hq st h=>ih (Exit.inB_mono hq) st h
 |loop ks b ih=>exact fun hq st ⟨I,n0,h0,hr⟩=>⟨I,n0,h0,fun n st' hi=>ih (Exit.thn_mono hq) st' (hr n st' hi)⟩
 |frz ts c ih=>exact fun hq st h=>ih hq _ h
 |obs t c ih=>
   refine fun hq st h=> ?_
   replace h:obsK st t (fun st' =>awp P c _ st'):=h
   show obsK st t (fun st' =>awp P c _ st')
   unfold obsK at h ⊢
   split at h
   ·split at h
    ·exact fun l c' hl=>ih hq _ (h l c' hl)
    ·exact h.elim
   ·exact h.elim
 |cut ks c ih=>exact fun hq st h=>ih hq _ h
 |scope c ih=>exact fun hq st h=>ih hq _ h
 |wk c ih=>exact fun hq st ⟨s0,h1,h2⟩=>⟨s0,h1,ih hq _ h2⟩
 |rngf ρ ps ass body iha ihb=>
   intro Q Q' hq st h
   refine⟨h.1,?_⟩
   have h2:=h.2
   unfold rngK at h2 ⊢
   split at h2
   ·exact⟨h2.1,FnM.mono h2.2 fun _ _ hh=>hq _ _ hh⟩
   ·exact h2.elim
end
section
variable {w0:World} {Z0:Zone} {N:Fr} {Z:Zone} {L:Lay} {st:St} {a:Act} {w:World} {P:Program}
theorem qw6 {F : Fence} {n : Nat} {fn : Func} {tmps : Array Value} {R : Ending -> World -> Prop} {ds : List Deferred} {u : FrameMode} (hu : u ≠ .run) : ∀ (l : List Nat) (w : World), l.Nodup -> (∀ D ∈ l, w.heap[D]? = some (.deferred (some []))) ->
  LeavesInM F n P fn tmps R ds u (qgX w l)->LeavesInM F n P fn tmps R (l.map mark++ds) u w
 |[],_,_,_,h=>h
 | D :: l, w, hn, hd, h => by
   rw[List.nodup_cons]at hn
   refine⟨hu,.inl ⟨D,_,rfl,run_takeDeferred (hd D (by simp)),qw6 hu l _ hn.2 (fun D' hD' => ?_) h⟩⟩
   have hne:D' ≠D:=fun e=>hn.1 (by rw[<- e];exact hD')
   rw[World.putObj_heap_other hne]
   exact hd D' (List.mem_cons_of_mem _ hD')
theorem Inv.noDm(h:Inv w0 Z0 N Z L st a w):Inv w0 Z0 { N with dm:=none } Z L st a w:=⟨h.zt,h.z0,h.zn,h.zb,h.below,h.ownb,h.owna,h.injb,h.inja,h.injx,h.boxes,h.arrs,h.ownm,h.injm,h.maps,h.oth,h.yb,h.size,fun _ e=>(by cases e),h.slots⟩
theorem Inv.leave2 (h : Inv w0 Z0 N Z L st a w) {x : Bool × List Deferred} (hdm : N.dm = some x) {F : Fence} {n : Nat} {fn : Func} {R : Ending -> World -> Prop} {u : FrameMode} (hu : u ≠ .run)
  (hR: ∀w',Inv w0 Z0 { N with dm:=none } Z L st a w' ->LeavesInM F n P fn a.tmps R x.2 u w'):LeavesInM F n P fn a.tmps R a.defers u w:=by
 obtain⟨l,h1,h2,h3⟩:=h.defers x hdm
 rw[h1.1]
 exact qw6 hu l w h2.1 (fun D hD=>(h3 D hD).1) (hR _ (Inv.shut rfl l h.noDm h2 h3))
def xQ(E:Env)(Q:Exit->St->Prop):Exit->St->Prop
 | .panic ch,st=>E.pan ch st
 |e,st=>Q e st
theorem qw7(K:Nat){X:Gh}{G:Nat->Value}{n:Nat}{dm:Option (Bool×List Deferred)}(hI:Inv w0 Z0 ⟨n,K,G,X,dm⟩ Z L st a w):Mem w0 Z0 X G Z L (st.low K) w:=by
 have hT:=hI.low K
 refine⟨hT.zt,hT.z0,hT.zn,hT.zb,hT.below,hT.ownb,hT.owna,hT.injb,hT.inja,hT.injx,hT.boxes,hT.arrs,hT.ownm,hT.injm,hT.maps,hT.oth,hT.yb,rfl,fun _ e=>(by cases e),fun i v hi=> ?_⟩
 have h8:=hT.slots i v hi
 have h9:=(qgK hi).2
 unfold Fr.val at h8 ⊢
 rw[if_neg (by simp only;omega)]at h8
 rw[if_neg (by simp)]
 exact h8
theorem qw8 (K : Nat) {X : Gh} {G : Nat -> Value} {args : List PV} {vs : Array Value} {m : Nat} (hm : Mem w0 Z0 X G Z L st w) (ha : ArgsR w Z L args vs) (hn : args.length <= m) (hlow : st.s.all (fun x => decide (x.1 < K)) = true) {ex : Bool} :
  Inv w0 Z0 ⟨m,K,G,X,some (ex,[])⟩ Z L { st with s:=argS K args st.s } { tmps:=vs++Array.replicate (m-vs.size) undef,defers:=[] } w:=by
 have hsize:(vs++Array.replicate (m-vs.size) undef).size=m:=by have:=ha.1;simp;omega
 refine⟨hm.zt,hm.z0,hm.zn,hm.zb,hm.below,hm.ownb,hm.owna,hm.injb,hm.inja,hm.injx,hm.boxes,hm.arrs,hm.ownm,hm.injm,hm.maps,hm.oth,hm.yb,hsize,fun dd e=>⟨[],⟨by cases e;rfl,fun _=>rfl⟩,⟨.nil,fun D hD=>by cases hD⟩,fun D hD=>by cases hD⟩,fun i v hl=> ?_⟩
 rw[qgZ]at hl
 unfold Fr.val
 split at hl
 ·rename_i hin
  rw[if_pos ⟨hin.1,by simp only;omega⟩]
  have:=ha.2 _ v hl
  have hlt:i-K<vs.size:=by rw[ha.1];exact(List.getElem?_eq_some_iff.1 hl).1
  have e:(vs++Array.replicate (m-vs.size) undef).getD (i-K) undef=vs.getD (i-K) undef:=by
   simp only[Array.getD_eq_getD_getElem?,Array.getElem?_append_left hlt]
  simp only at e ⊢
  rw[e];exact this
 ·have hi:i<K:=by
   have:=List.all_eq_true.1 hlow _ (qa7 hl)
   simpa using this
  rw[if_neg (by simp only;omega)]
  have:=hm.slots i v hl
  have e:(⟨0,0,G,X,none⟩:Fr).val ⟨#[],[]⟩ i=G i:=by simp[Fr.val]
  rwa [e]at this
theorem FnX.of_awp {E : Env} {f : Nat} {fn : Func} {ac : AC} {rvs : List RV} {args : List PV} {Q : PV -> St -> Prop} (K : Nat) (hf : E.p.funcs[f]? = some fn) (hok : qh0 E.p K ac rvs fn = true) (hn : args.length <= fn.ntmps)
  (hlow:st.s.all (fun x=>decide (x.1<K))=true) (hkk:E.kk<=K) (hpl: ∀ch st,E.pan ch st->E.pan ch (st.low K)) (h:awp E ac (retM K rvs Q) { st with s:=argS K args st.s }):FnX E f args st Q:=by
 simp only[qh0,Bool.and_eq_true]at hok
 obtain⟨⟨hb,hr⟩,hname⟩:=hok
 split at hb
 ·rename_i c hc
  refine⟨by simp[qcG,hf,hc];simpa using hname,fun w0 Z0 X G Z L w vs hE hm ha=> ?_⟩
  have hinit:=qw8 K hm ha hn hlow (ex:=false)
  have h' :=qw5 (Q' :=xQ E (retM K rvs Q)) ac (fun e st hh=>by cases e<;>first|exact hh|(simp[retM,qgO]at hh)) _ h
  refine callsIn_wide (n:=0)|>.1 (callsIn_of_wp_marks hf hc trivial ?_)
  refine wpIn_mono (qgM (P:=E) (w0:=w0) (Z0:=Z0) ac (N:=⟨fn.ntmps,K,G,X,some (false,[])⟩) (ro:=none) (n:=0) hE hkk c (xQ E (retM K rvs Q)) _ _ w (.inr ⟨rfl,fun dd e=>by cases e;rfl⟩) (fun l st hh=>by simp[xQ,retM,qgO]at hh) (fun ch st hh=>hh) hb h' ⟨_,_,hinit⟩) ?_
  rintro e a' w' ⟨st',hq,Z',L',hI⟩
  have hend: ∀e,retM K rvs Q e st' ->LeavesInM Fence.wide 0 E.p fn a'.tmps (fun e w' =>(∃v r st' Z' L',e= .returned v/\Q r st' /\Mem w0 Z0 X G Z' L' st' w' /\VR w' Z' L' r v)\/(∃ch st' Z' L',e= .panicked ch/\E.pan ch st' /\Mem w0 Z0 X G Z' L' st' w')) a'.defers .returning w' :=by
   rintro e ⟨he,h1,hfl,h3⟩
   have hnt' : ∀cs ds,(resM st' rvs).2= .tup cs-> .tup ds∉cs:=fun cs ds e hm=>by rw[e]at hfl;have:=List.all_eq_true.1 hfl _ hm;simp[qgP]at this
   refine hI.leave2 rfl (by simp) fun w2 hI3=> ?_
   obtain⟨v,hrun,hvr⟩:=qh1 hI3 hr h1 hnt'
   exact⟨v,hrun,.inl ⟨v,_,st'.low K,Z',L',rfl,h3,qw7 K hI3,hvr⟩⟩
  cases e<;>first|exact hend _ hq|(simp[xQ,retM,qgO]at hq;done)|skip
  rename_i ch
  have hq:E.pan ch st' :=hq
  show LeavesInM _ _ _ _ _ _ _ _ _
  exact hI.leave2 rfl (by simp) fun w2 hI3=> .inr ⟨ch,st'.low K,Z',L',rfl,hpl ch st' hq,qw7 K hI3⟩
 ·cases hb
theorem qw9 {n f : Nat} {fn : Func} {c : Code} {args : Array Value} {u : FrameMode} {R : Ending -> FrameMode -> World -> Prop}
  (hf:P.funcs[f]? =some fn) (hb:fn.body=some c)
  (h: ∀(c₀:Frame) (cs:List Frame),c₀.mode=u->c.wpS P (bodyPostS P fn c₀ cs R) { tmps:=args++Array.replicate (fn.ntmps-args.size) undef,defers:=[] } (c₀::cs) w):
  CallsDIn Fence.wide n P f args u w R:=by
 refine⟨trivial,fun c₀ cs hu _=> ?_⟩
 let b:Frame:= { (default:Frame)with fn:=f,kind:= .deferred }
 have henter : Frame.enter P f args .deferred =
   b.at { tmps:=args++Array.replicate (fn.ntmps-args.size) undef,defers:=[] } [.code c]:=by
  simp[Frame.enter,Frame.at,hf,hb,b]
 obtain⟨e,a',cs',w',hq,harr⟩:=h c₀ cs hu b [] rfl rfl
 rw[<- henter]at harr
 cases e with
 |normal=>
   obtain⟨hd,u',rfl,v,hr,hR⟩:=hq
   exact⟨.returned v,u',w',_,hR,comesIn_wide.2 (Steps.trans harr (.one step_end)),rfl,rfl,rfl,hd,fn,hf,hr⟩
 |ret=>
   obtain⟨hd,u',rfl,v,hr,hR⟩:=hq
   obtain⟨todo,hs⟩:=harr
   exact⟨.returned v,u',w',_,hR,comesIn_wide.2 hs,rfl,rfl,rfl,hd,fn,hf,hr⟩
 |panic chain=>
   obtain⟨hd,u',rfl,hR⟩:=hq
   obtain⟨todo,hs⟩:=harr
   exact⟨.panicked chain,u',w',_,hR,comesIn_wide.2 hs,rfl,rfl,rfl,hd,fn,hf⟩
 |exit id=>exact hq.elim
 |goto l=>exact hq.elim
 |outgrown=>
   obtain⟨u',hR⟩:=hq
   exact⟨.outgrown,u',w',b,hR,comesIn_wide.2 (harr.resolve_left (by simp[b])),rfl,rfl,trivial⟩
def capV(L:Lay)(ids:List Nat):Array Value:=(ids.map fun i=>Value.pointer (some ⟨L.bx i,0,none⟩)).toArray
def FnD(P:Program)(g:Nat)(ids:List Nat)(u u' :FrameMode)(st:St)(Q:St->Prop):Prop:=
 ∀(w0:World) (Z0:Zone) (X:Gh) (G:Nat->Value) (Z:Zone) (L:Lay) (w:World),Mem w0 Z0 X G Z L st w->
  CallsDIn Fence.wide 0 P g (capV L ids) u w fun e u1 w' =>(∃v,e= .returned v)/\u1=u' /\ ∃st' Z' L',Q st' /\Mem w0 Z0 X G Z' L' st' w'
def rcvd:FrameMode->Value->FrameMode->Prop
 | .returning,v,u' =>v= .nilIface/\u' = .returning
 | .panicking [⟨x,false,false⟩],v,u' =>v=x/\u' = .panicking [⟨x,true,false⟩]
 |_,_,_=>False
def qwa(P:Program)(K:Nat)(ac:AC)(d:Nat)(fn:Func):Bool:=
 (match fn.body with
 | some (.seq (.region _ os false) c) => (match os.toList with
   |[o]=>o.guard.isNone&&o.dst==some d&&(match o.op with| .call c=>(match c.callee with| .builtin .recover=>true|_=>false)&&c.args.isEmpty|_=>false)
   |_=>false)&&qdj ac&&chk P ⟨K,fn.ntmps⟩ ac c
 |_=>false)&&qgN P ⟨K,fn.ntmps⟩ [] fn.results.toList&&decide (d<fn.ntmps)
theorem FnD.of_awp {g : Nat} {fn : Func} {ac : AC} {d : Nat} {ids : List Nat} {u u' : FrameMode} {v : Value} {Q : St -> Prop} (K : Nat) (hf : P.funcs[g]? = some fn) (hok : qwa P K ac d fn = true) (hn : ids.length <= fn.ntmps)
  (hlow:st.s.all (fun x=>decide (x.1<K))=true) (hr:rcvd u v u') (hv:scOk v=true)
  (h:awp (Env.of P) ac (fun e st' =>qgO e=true/\Q (st'.low K)) { st with s:=up (argS K (ids.map fun i=> .ptr i 0) st.s) (K+d) (.sc v) }):FnD P g ids u u' st Q:=by
 intro w0 Z0 X G Z L w hm
 simp only[qwa,Bool.and_eq_true,decide_eq_true_eq]at hok
 obtain⟨⟨hb,hres⟩,hd⟩:=hok
 split at hb
 ·rename_i id os c hc
  simp only[Bool.and_eq_true]at hb
  obtain⟨⟨ho,hnr⟩,hck⟩:=hb
  split at ho
  ·rename_i o hos
   simp only[Bool.and_eq_true,beq_iff_eq,Option.isNone_iff_eq_none]at ho
   obtain⟨⟨hgd,hdst⟩,hop⟩:=ho
   have hos' :os= #[o]:=by
    have:os=os.toList.toArray:=by simp
    rw[this,hos]
   subst hos'
   have ha:ArgsR w Z L (ids.map fun i=>PV.ptr i 0) (capV L ids):=qga ids
   have hinit:=qw8 K hm ha (by simpa using hn) hlow (ex:=true)
   have hput:=hinit.put (d:=some (K+d)) (d' :=some d) ⟨rfl,hd⟩ (v:= .sc v) (u:=v) (TR.sc v hv)
   have hexec: ∀ρ:Operand->Value,(execOp ρ o).run P w= .ok .recover w:=fun ρ=>by
    split at hop
    ·rename_i cl hcl
     simp only[Bool.and_eq_true]at hop
     obtain⟨h1,h2⟩:=hop
     split at h1
     ·rename_i hcal
      simp[execOp,hcl,resolve,hcal,invoke,builtin]
     ·cases h1
    ·cases hop
   refine qw9 hf hc fun c₀ cs hu=>wpS_seq (wpS_region ?_)
   have hw: ∀y,Region.wanted o y=true:=fun y=>by simp[Region.wanted,hgd]
   obtain⟨cs',hcs',hgo⟩: ∃cs',(∃u1,u1=u' /\cs' = { c₀ with mode:=u1 } ::cs)/\((recoverD (c₀::cs)=some (v,cs'))\/(recoverD (c₀::cs)=none/\v= .nilIface/\cs' =c₀::cs)):=by
    subst hu
    unfold rcvd at hr
    split at hr
    ·rename_i hmode
     obtain⟨rfl,rfl⟩:=hr
     refine⟨c₀::cs,⟨_,rfl,by rw[<- hmode]⟩,.inr ⟨by simp[recoverD,hmode],rfl,rfl⟩⟩
    ·rename_i x hmode
     obtain⟨rfl,rfl⟩:=hr
     refine⟨_,⟨_,rfl,rfl⟩,.inl (by simp[recoverD,hmode])⟩
    ·exact hr.elim
   have key : c.wpS P (bodyPostS P fn c₀ cs fun e u1 w' => (∃ v, e = .returned v) /\ u1 = u' /\ ∃ st' Z' L', Q st' /\ Mem w0 Z0 X G Z' L' st' w')
     (({ tmps:=capV L ids++Array.replicate (fn.ntmps-(capV L ids).size) undef,defers:=[] } :Act).put (some d) v) cs' w:=by
    refine wpS_of_wp (wpIn_wide (n:=0)|>.1 ?_)
    refine wpIn_mono (qgM (P:=Env.of P) (w0:=w0) (Z0:=Z0) ac (N:=⟨fn.ntmps,K,G,X,some (true,[])⟩) (ro:=none) (n:=0) (EnvOK.of P _ _ _ _) (Nat.zero_le _) c _ _ _ w (.inl hnr) (fun l st hh=>by simp[qgO]at hh) (fun ch st hh=>hh.elim) hck h ⟨_,_,hput⟩) ?_
    rintro e a' w' ⟨st',⟨he,hQ⟩,Z',L',hI⟩
    obtain⟨l,⟨hl,hex⟩,_⟩:=hI.defers _ rfl
    have hl0:=hex rfl
    subst hl0
    obtain⟨v',hrun,_⟩:=qh1 hI (rvs:=[]) hres (by intro r hr;cases hr) (by intro cs ds e hm;cases e;cases hm)
    obtain⟨u1,rfl,rfl⟩:=hcs'
    have fin:a'.defers=[]/\ ∃u',(({ c₀ with mode:=u1 } ::cs:List Frame)= { c₀ with mode:=u' } ::cs)/\ ∃v,(results fn a'.tmps).run P w' = .ok v w' /\((∃v',Ending.returned v= .returned v')/\u' =u1/\ ∃st' Z' L',Q st' /\Mem w0 Z0 X G Z' L' st' w'):=
     ⟨hl,u1,rfl,v',hrun,⟨_,rfl⟩,rfl,st'.low K,Z',L',hQ,qw7 K hI⟩
    cases e<;>first|exact fin|(simp[qgO]at he)
   show wpOpsS P #[o] _ [0] _ _ _
   simp only[wpOpsS,List.getElem?_toArray,List.getElem?_cons_zero,hw,if_true,hexec]
   rcases hgo with hgo|⟨hgo,rfl,rfl⟩
   ·simp only[hgo,hdst]
    exact key
   ·simp only[hgo,hdst]
    exact key
  ·cases ho
 ·cases hb
end
end Go.Vc
namespace Go.Vc
open Go Go.RowKit
section
variable (P:Env) (r:List AO) (st:St) (K:St->Prop) (d:Option Nat)
def mxO:Option Int->Option PV
 |some m=>some (.sc (.int .i64 m))
 |none=>none
@[push_cast] theorem qwb(m:Int):mxO (some m)=some (.sc (.int .i64 m)):=rfl
def pfV(P:Env)(d:Option Nat)(r:List AO)(st:St)(K:St->Prop):Option PV->Prop
 |some v=>opsK P r (st.put d v) K
 |none=>False
@[push_cast] theorem qwc(v:PV):pfV P d r st K (some v)=opsK P r (st.put d v) K:=rfl
@[push_cast] theorem qwd(b:Bool)(n:Int):mxL b n []=some n:=rfl
@[push_cast] theorem qwe(b:Bool)(n m:Int)(r:List PV):mxL b n (.sc (.int .i64 m)::r)=mxL b (bif b then max n m else min n m) r:=rfl
@[push_cast] theorem qwf(b:Bool)(n:Int)(r:List PV):mxF b (.sc (.int .i64 n)::r)=mxO (mxL b n r):=by
 show(mxL b n r).map _=_
 cases mxL b n r<;>rfl
@[push_cast] theorem qwg(ng:Bool):xfF (.ieq ng) (.sc .nilIface)=some (.sc (.bool (!ng))):=rfl
@[push_cast] theorem qwh(ng:Bool)(t:Nat)(v:Value):xfF (.ieq ng) (.sc (.iface t v))=some (.sc (.bool ng)):=rfl
@[push_cast] theorem qwi(t:Nat):xfF (.mki t) (.agg [])=some (.sc (.iface t (.agg #[]))):=rfl
@[push_cast] theorem qwj(t:Nat)(k:IntKind)(n:Int):xfF (.mki t) (.sc (.int k n))=some (.sc (.iface t (.int k n))):=rfl
@[push_cast] theorem qwk(t:Nat):xfF (.tas t) (.sc (.iface t (.agg #[])))=some (.tup [.agg [],.sc (.bool true)]):=by simp[xfF]
def clxK(P:Env)(d:Option Nat)(f:Nat)(args:List PV)(r:List AO)(st:St)(K:St->Prop):Prop:=FnX P f args st fun rv st' =>opsK P r (st'.put d rv) K
@[congr] theorem qwl{P:Env}{d:Option Nat}{f:Nat}{args args' :List PV}{r:List AO}{st st' :St}{K:St->Prop}(h1:args=args')(h2:st=st'):clxK P d f args r st K=clxK P d f args' r st' K:=by rw[h1,h2]
@[push_cast] theorem qwo(t:Nat)(v:Value):panK P st (.sc (.iface t v))=P.pan [{ v:= .iface t v,recovered:=false }] st:=rfl
end
def FnPX(P:Program)(f:Nat)(args:List PV)(post:PV->Prop)(panv:List PanicEntry->Prop):Prop:=qcG P f=true/\
 ∀(w:World) (Z:Zone),(∀b,Z true b->Z false b)->(∀p b,Z p b->b<w.heap.size)-> ∀vs:Array Value,vs.size=args.length->(∀j c,args[j]? =some c->TV w Z c (vs.getD j undef))->
  Calls P f vs w fun e w' =>(∃v r,e= .returned v/\post r/\TV w' (fun p b=>p=true/\(Z true b\/(w.heap.size<=b/\b<w'.heap.size))) r v/\Below w.heap.size w w')\/(∃ch,e= .panicked ch/\panv ch/\Below w.heap.size w w')
theorem FnPX.of_awp {P : Program} {f : Nat} {fn : Func} {ac : AC} {rvs : List RV} {args : List PV} {post : PV -> Prop} {panv : List PanicEntry -> Prop} (hf : P.funcs[f]? = some fn) (hok : fnOk P ac rvs fn = true) (hg : qcG P f = true) (hn : args.length <= fn.ntmps)
  (h:awp ⟨P,0,fun _ _ _ _=>False,fun ch _=>panv ch⟩ ac (retK rvs post) ⟨slots0 args,[],[],[]⟩):FnPX P f args post panv:=by
 refine⟨hg,fun w Z zt zb vs hsz hrel=> ?_⟩
 simp only[fnOk,Bool.and_eq_true]at hok
 obtain⟨hb,hr⟩:=hok
 split at hb
 ·rename_i c hc
  have hsize:(vs++Array.replicate (fn.ntmps-vs.size) undef).size=fn.ntmps:=by simp;omega
  have hinit:Inv w Z ⟨fn.ntmps,0,fun _=>undef,⟨[],fun _=>0⟩,some (false,[])⟩ Z L00 ⟨slots0 args,[],[],[]⟩ { tmps:=vs++Array.replicate (fn.ntmps-vs.size) undef,defers:=[] } w:=by
   refine⟨zt,fun _ _ h=>h,fun _ _ h=> .inl h,zb,Below.refl _ _,?_,?_,?_,?_,?_,?_,?_,?_,?_,?_,fun x hx=>(by cases hx),fun _=>rfl,hsize,fun dd e=>⟨[],⟨by cases e;rfl,fun _=>rfl⟩,⟨.nil,fun D hD=>by cases hD⟩,fun D hD=>by cases hD⟩,?_⟩
   ·intro id cs hl;simp[lk]at hl
   ·intro id cs hl;simp[lk]at hl
   ·intro i j x y hl;simp[lk]at hl
   ·intro i j x y hl;simp[lk]at hl
   ·intro i j x y hl;simp[lk]at hl
   ·intro id cs hl;simp[lk]at hl
   ·intro id cs hl;simp[lk]at hl
   ·intro id cs hl;simp[lk]at hl
   ·intro i j x y hl;simp[lk]at hl
   ·intro id cs hl;simp[lk]at hl
   ·intro i v hl
    simp only[qgW]at hl
    have hi:i<vs.size:=by rw[hsz];exact(List.getElem?_eq_some_iff.1 hl).1
    have:=hrel i v hl
    have e:(vs++Array.replicate (fn.ntmps-vs.size) undef).getD i undef=vs.getD i undef:=by
     simp only[Array.getD_eq_getD_getElem?,Array.getElem?_append_left hi]
    unfold Fr.val
    rw[if_pos ⟨Nat.zero_le _,by simp only;omega⟩]
    simp only[Nat.sub_zero]at e ⊢
    rw[e]
    exact this.vr _
  have h' :=qw5 (Q' :=xQ ⟨P,0,fun _ _ _ _=>False,fun ch _=>panv ch⟩ (retK rvs post)) ac (fun e st hh=>by cases e<;>first|exact hh|(simp[retK,qgO]at hh)) _ h
  refine callsIn_wide (n:=0)|>.1 (callsIn_of_wp_marks hf hc trivial ?_)
  have hE2:EnvOK ⟨P,0,fun _ _ _ _=>False,fun ch _=>panv ch⟩ w Z ⟨[],fun _=>0⟩ fun _=>undef:=fun _ _ _ _ _ _ _ _ _ _ _ _ _ h=>h.elim
  refine wpIn_mono (qgM (P:=⟨P,0,fun _ _ _ _=>False,fun ch _=>panv ch⟩) (w0:=w) (Z0:=Z) ac (N:=⟨fn.ntmps,0,fun _=>undef,⟨[],fun _=>0⟩,some (false,[])⟩) (ro:=none) (n:=0) hE2 (Nat.le_refl _) c (xQ _ (retK rvs post)) _ _ w (.inr ⟨rfl,fun dd e=>by cases e;rfl⟩) (fun l st hh=>by simp[xQ,retK,qgO]at hh) (fun ch st hh=>hh) hb h' ⟨_,_,hinit⟩) ?_
  rintro e a' w' ⟨st',hq,Z',L',hI⟩
  have hend: ∀e,retK rvs post e st' ->LeavesInM Fence.wide 0 P fn a'.tmps (fun e w' =>(∃v r,e= .returned v/\post r/\TV w' (fun p b=>p=true/\(Z true b\/(w.heap.size<=b/\b<w'.heap.size))) r v/\Below w.heap.size w w')\/(∃ch,e= .panicked ch/\panv ch/\Below w.heap.size w w')) a'.defers .returning w' :=by
   rintro e ⟨he,h1,hfl,h2,h3⟩
   have hnt' : ∀cs ds,(resV st' rvs).2= .tup cs-> .tup ds∉cs:=fun cs ds e hm=>by rw[e]at hfl;have:=List.all_eq_true.1 hfl _ hm;simp[qgP]at this
   refine hI.leave2 rfl (by simp) fun w2 hI3=> ?_
   obtain⟨Z2,v,hI2,hrun,hvr⟩:=qgV hI3 hr h1 hnt'
   have htv:TV w2 (fun p b=>p=true/\(Z true b\/(w.heap.size<=b/\b<w2.heap.size))) (resV st' rvs).2 v:=by
    refine(VR.perm hvr h2).zone ?_
    rintro p b ⟨rfl,hb'⟩
    exact⟨rfl,(hI2.zn true b hb').imp (fun e=>e) (fun e=>⟨e,hI2.zb true b hb'⟩)⟩
   exact⟨v,hrun,.inl ⟨v,_,rfl,h3,htv,hI3.below⟩⟩
  cases e<;>first|exact hend _ hq|(simp[xQ,retK,qgO]at hq;done)|skip
  rename_i ch
  exact hI.leave2 rfl (by simp) fun w2 hI3=> .inr ⟨ch,rfl,hq,hI3.below⟩
 ·cases hb
@[push_cast] theorem qws(st:St)(t:Nat)(agg:Bool)(sz:Nat):RV.val st (.cell t agg sz)=rvC st agg sz (st.get t):=qp7 st t agg sz
theorem FnD.mono{P:Program}{g:Nat}{ids:List Nat}{u u' :FrameMode}{st:St}{Q Q' :St->Prop}(h:FnD P g ids u u' st Q)(hq: ∀st',Q st' ->Q' st'):FnD P g ids u u' st Q' :=
 fun w0 Z0 X G Z L w hM=>CallsDIn.mono (h w0 Z0 X G Z L w hM) fun _ _ _ ⟨e1,e2,st',Z',L',e3,e4⟩=>⟨e1,e2,st',Z',L',hq st' e3,e4⟩
theorem FnD.sub {P : Program} {g : Nat} {ids : List Nat} {u u' : FrameMode} {st : St} {Q : St -> Prop} (st1 : St) (h : FnD P g ids u u' st1 Q) (hs : ∀ i v, lk st1.s i = some v -> lk st.s i = some v) (hb : ∀ i v, lk st1.b i = some v -> lk st.b i = some v)
  (ha: ∀i v,lk st1.a i=some v->lk st.a i=some v) (hm: ∀i v,lk st1.m i=some v->lk st.m i=some v):FnD P g ids u u' st Q:=
 fun w0 Z0 X G Z L w hM=>h w0 Z0 X G Z L w (hM.forget (fun i v hl=> .inl (hs i v hl)) hb ha hm)
section
variable {P:Env} {ops:List XO} {n:Nat} {dn:List Nat} {st:St} {K:St->Prop}
theorem qwu(hc:qcJ ops dn=true)(h:K st):allK P ops 0 dn st K:=⟨hc,h⟩
theorem qwv(hc:qcJ ops dn=false)(hg:ops.all (fun x=>x.o.g.isNone)=true)(h: ∀x∈ops,rdyB dn x=true->opsK P [x.o] st fun st' =>allK P ops n (x.i::dn) st' K):allK P ops (n+1) dn st K:=by
 refine⟨fun e=>(by rw[hc]at e;cases e),fun x hx hr=> ?_⟩
 have h1:=h x hx hr
 have h2:x.o.g=none:=by simpa using List.all_eq_true.1 hg x hx
 simp only[opsK,h2,grdK]at h1 ⊢
 exact h1
@[push_cast] theorem qww(P:Env)(keep:List Nat)(ops:List XO)(Q:Exit->St->Prop)(st:St):awp P (.dra keep ops) Q st=allK P ops ops.length [] (st.keepS keep) (Q .normal):=rfl
end
end Go.Vc
namespace Go.Proofs.YtdmkfgkmnpohlaaGreat
open Go Go.Vc Txt
theorem qwx(n lo hi:Int):FnEq Tryz.prog 35 [.int n,.int lo,.int hi] (.bool (decide (lo<=n/\n<=hi))):=by
 refine FnEq.of_awp Tryz.func35 ok35 (by show 3<=_;decide) (by simp only[push_cast,reduceIte,reduceEqDiff,reduceAdd,reduceSub,reduceMul,Nat.reduceBEq,reduceLT,reduceLeDiff,reduceCtorEq,reduceToNat,reduceNeg]<;>first|exact fun _ _=>trivial|simp) ?_
 simp only[ac35,rv35,push_cast,reduceIte,reduceEqDiff,reduceAdd,reduceSub,reduceMul,Nat.reduceBEq,reduceLT,reduceLeDiff,reduceCtorEq,reduceToNat,reduceNeg]
 (repeat' (first|(refine qrq rfl (fun _=> ?_) fun _=> ?_<;>simp only[push_cast,reduceIte,reduceEqDiff,reduceAdd,reduceSub,reduceMul,Nat.reduceBEq,reduceLT,reduceLeDiff,reduceCtorEq,reduceToNat,reduceNeg])|(refine qrr rfl (fun _=> ?_) fun _=> ?_<;>simp only[push_cast,reduceIte,reduceEqDiff,reduceAdd,reduceSub,reduceMul,Nat.reduceBEq,reduceLT,reduceLeDiff,reduceCtorEq,reduceToNat,reduceNeg])))
 all_goals (refine congrArg Value.bool ?_;first|rfl|(rw[decide_eq_decide];omega)|(rw[eq_comm,decide_eq_true_iff];omega)|(rw[eq_comm,decide_eq_false_iff_not];omega)|(simp[*];done))
def qwy(k m:Int):Bool:=if k=0 then decide (m=0)else if k=1 then decide (m≠3)else true
theorem qwz(l:List Int)(x:Int)(hs:l.Pairwise (· <= ·))(hl:l.length<4611686018427387904):FnEq Tryz.prog 30 [.sl false 1 (ints l),.int x] (.tup [.int ((l.countP (· <x):Nat):Int),.bool (l.contains x)]):=by
 intro w Z zt zb vs hsz hrel
 have h0:TR w Z (.sl false 1 (ints l)) (vs.getD 0 undef):=hrel 0 _ rfl
 have h1:TR w Z (.int x) (vs.getD 1 undef):=hrel 1 _ rfl
 have e1:vs.getD 1 undef= .int .i64 x:=by generalize vs.getD 1 undef=u at h1;cases h1;rfl
 have hv:vs= #[vs.getD 0 undef,.int .i64 x]:=by
  rw[<- e1]
  have hs2:vs.size=2:=hsz
  apply Array.ext
  ·simpa using hs2
  ·intro i h7 h8
   have:i=0\/i=1:=by simp at h8;omega
   rcases this with rfl|rfl<;>simp[Array.getD_eq_getD_getElem?,Array.getElem?_eq_getElem h7]
 have tv: ∀(w' :World) (p:Nat) (b:Bool),TV w' (fun p b=>p=true/\(Z true b\/(w.heap.size<=b/\b<w'.heap.size))) (.tup [.int (p:Int),.bool b]) (.tuple #[.int .i64 (p:Int),.bool b]):=fun w' p b=>
  ⟨_,rfl,rfl,fun j c hj=>by
   rcases j with _|_|j
   ·cases hj;exact TR.sc (.int .i64 p) rfl
   ·cases hj;exact TR.sc (.bool b) rfl
   ·simp at hj⟩
 generalize hu:vs.getD 0 undef=u at h0 hv
 rw[hv]
 generalize hL:ints l=L at h0
 cases h0 with
 |sl0 _ _ ad cap hcap=>
   have hl0:l=[]:=by rw[quh]at hL;simpa using hL
   subst hl0
   refine(Tryz.slices_BinarySearch_int_empty ad cap x w).mono ?_
   rintro e w' ⟨rfl,rfl⟩
   exact⟨_,_,rfl,rfl,tv w' 0 false,RowKit.Below.refl _ _⟩
 |sl _ _ _ b o cap g g0 g1 g2 g3 g4 g5 g6 g7=>
   have hlen:L.length=l.length:=by rw[<- hL,quh];simp
   have hcell: ∀j,j<l.length->w.cell? ⟨b,o+j,none⟩=some (.int .i64 (l.getD j 0)):=fun j hj=>by
    have h8:=g6 j 0 (by omega) (by omega)
    have h9:=g7 j 0 [.sc (.int .i64 (l.getD j 0))] (.sc (.int .i64 (l.getD j 0))) (by rw[<- hL,quh];simp[hj]) rfl
    have e9:g j 0= .int .i64 (l.getD j 0):=by generalize g j 0=u at h9;cases h9;rfl
    rw[<- e9]
    simpa using h8.1
   have:=Tryz.slices_BinarySearch_int b o l.length cap l x w (Nat.le_refl _) hl hcell (by simpa using hs)
   rw[hlen]
   refine this.mono ?_
   rintro e w' ⟨rfl,q,rfl⟩
   rw[List.take_length]
   exact⟨_,_,rfl,rfl,tv _ _ _,(RowKit.Below.refl _ _).trans ⟨rfl,rfl,rfl,Nat.le_refl _,fun _ _=>rfl⟩⟩
structure Wire where
 kind:Int
 i:Int
 bit:Int
 deriving DecidableEq,Inhabited
structure Block where
 ins:List Int
 table:Int
 ram:Int
 reg:Int
 key:Int
 deriving DecidableEq,Inhabited
structure Packed where
 ins:List Wire
 blocks:List Block
 out:List Wire
 drive:List Int
 deriving DecidableEq,Inhabited
structure Route where
 sig:Int
 nodes:List Int
 frm:List Int
 deriving DecidableEq,Inhabited
structure Layout where
 pos:List Int
 routes:List Route
 deriving DecidableEq,Inhabited
structure Cfg where
 sel:List Int
 mode:List Int
 tab:List Int
 ram:List Int
 deriving DecidableEq,Inhabited
def qwA(w:Wire):List PV:=[.int w.kind,.int w.i,.int w.bit]
def qwB(q:Bool)(b:Block):List PV:=[.sl q 1 (ints b.ins),.int b.table,.int b.ram,.int b.reg,.sc (.int .u64 b.key)]
def qwC(q:Bool)(p:Packed):List PV:=[.sl q 3 (rows qwA p.ins),.sl q 5 (rows (qwB q) p.blocks),.sl q 3 (rows qwA p.out),.sl q 1 (ints p.drive)]
def qwD(q:Bool)(r:Route):List PV:=[.int r.sig,.sl q 1 (ints r.nodes),.sl q 1 (ints r.frm)]
def layC(q:Bool)(l:Layout):List PV:=[.sl q 1 (ints l.pos),.sl q 3 (rows (qwD q) l.routes)]
def cfgC(q:Bool)(c:Cfg):List PV:=[.sl q 1 (ints c.sel),.sl q 1 (ints c.mode),.sl q 1 (ints c.tab),.sl q 1 (ints c.ram)]
@[push_cast] theorem qwE(w:Wire):qwA w=[.int w.kind,.int w.i,.int w.bit]:=rfl
@[push_cast] theorem qwF(q:Bool)(b:Block):qwB q b=[.sl q 1 (ints b.ins),.int b.table,.int b.ram,.int b.reg,.sc (.int .u64 b.key)]:=rfl
@[push_cast] theorem qwG(q:Bool)(p:Packed):qwC q p=[.sl q 3 (rows qwA p.ins),.sl q 5 (rows (qwB q) p.blocks),.sl q 3 (rows qwA p.out),.sl q 1 (ints p.drive)]:=rfl
@[push_cast] theorem qwH(q:Bool)(r:Route):qwD q r=[.int r.sig,.sl q 1 (ints r.nodes),.sl q 1 (ints r.frm)]:=rfl
@[push_cast] theorem qwI(q:Bool)(l:Layout):layC q l=[.sl q 1 (ints l.pos),.sl q 3 (rows (qwD q) l.routes)]:=rfl
@[push_cast] theorem qwJ(q:Bool)(c:Cfg):cfgC q c=[.sl q 1 (ints c.sel),.sl q 1 (ints c.mode),.sl q 1 (ints c.tab),.sl q 1 (ints c.ram)]:=rfl
def cfg0:Cfg:=⟨[],[],[],[]⟩
def qwK{α β:Type}(f:α->β->Option α):α->List β->Option α
 |a,[]=>some a
 |a,x::r=>(f a x).bind fun b=>qwK f b r
theorem qwL{α β:Type}(f:α->β->Option α): ∀(l1 l2:List β) (a:α),qwK f a (l1++l2)=(qwK f a l1).bind fun b=>qwK f b l2
 |[],l2,a=>rfl
 | x :: r, l2, a => by
   simp only[List.cons_append,qwK]
   cases f a x with
   |none=>rfl
   |some b=>exact qwL f r l2 b
def qwM(g:Grid):Cfg:=⟨List.replicate (quD g).toNat 0,List.replicate g.kind.length 0,List.replicate g.kind.length 0,List.replicate g.kind.length 0⟩
def qwN(b:Block):Prop:=(-1<=b.ram/\b.ram<=255)/\(-1<=b.reg/\b.reg<=255)/\(0<=b.table/\b.table<=65535)/\min b.ram b.reg= -1
instance (b:Block):Decidable (qwN b):=by unfold qwN;infer_instance
def qwO(c:Cfg)(b:Block)(t:Nat):Cfg:=
 if 0<=b.ram then { c with mode:=c.mode.set t 3,ram:=c.ram.set t b.ram }
 else if 0<=b.reg then { c with mode:=c.mode.set t 2,tab:=c.tab.set t b.table,ram:=c.ram.set t b.reg }
 else { c with mode:=c.mode.set t 1,tab:=c.tab.set t b.table }
def qwP(g:Grid)(c:Cfg)(x:Block×Int):Option Cfg:=
 if(0<=x.2/\x.2<=(g.kind.length:Int)-1)/\c.mode.getD x.2.toNat 0=0 then
  if qwN x.1 then
   if qwy (g.kind.getD x.2.toNat 0) ((qwO c x.1 x.2.toNat).mode.getD x.2.toNat 0)=true then some (qwO c x.1 x.2.toNat)else none
  else none
 else none
def qwQ(g:Grid)(a:List Int×List Int)(i:Nat)(node f x:Int):Option (List Int×List Int):=
 if(0<=node/\node<=(a.1.length:Int)-1)/\node∉a.2 then
  if i=0 then if qvM g node=[]then some (a.1,a.2++[node])else none
  else if 0<=f/\f<=(i:Int)-1 then
   if x∈qvM g node then some (a.1.set node.toNat (1+((qvM g node).countP (· <x):Nat)),a.2++[node])else none
  else none
 else none
def qwR(g:Grid)(r:Route)(a:List Int×List Int)(i:Nat):Option (List Int×List Int):=qwQ g a i (r.nodes.getD i 0) (r.frm.getD i 0) (r.nodes.getD (r.frm.getD i 0).toNat 0)
def qwS(g:Grid)(a:List Int×List Int)(r:Route):Option (List Int×List Int):=
 if r.nodes≠[]/\r.frm.length=r.nodes.length/\r.frm.getD 0 0= -1 then qwK (qwR g r) a (List.range r.nodes.length)else none
def encO(p:Packed)(g:Grid)(l:Layout):Option Cfg:=
 if l.pos.length=p.blocks.length then
  (qwK (qwP g) (qwM g) (p.blocks.zip l.pos)).bind fun c=>(qwK (qwS g) (c.sel,[]) l.routes).map fun a=> { c with sel:=a.1 }
 else none
def encF(p:Packed)(g:Grid)(l:Layout):Cfg×Int:=match encO p g l with|some c=>(c,0)|none=>(cfg0,350)
def encA(c:Cfg):List (Nat×Arr):=[(109,⟨1,3,ints c.sel⟩),(111,⟨1,3,ints c.mode⟩),(113,⟨1,3,ints c.tab⟩),(115,⟨1,3,ints c.ram⟩)]
structure PSt where
 regs:List Int
 mems:List (List Int)
def bitB(x b:Int):Bool:=decide (Vc.bitF .and .i64 (shfF .shr .i64 x b) 1=1)
def qwT(l:List Int)(i b:Int):Bool:=if i<l.length then bitB (l.getD i.toNat 0) b else false
def atN(l:List Bool):Nat->Int
 |0=>0
 |k+1=>if l.getD k false=true then Vc.bitF .or .i64 (atN l k) (shfF .shl .i64 1 k)else atN l k
def qwU(t:Int)(p:List Bool):Bool:=bitB t (atN p p.length)
def ramF(s:PSt)(r:Int)(p:List Bool):Bool:=if r/8<s.mems.length then qwT (s.mems.getD (r/8).toNat []) (atN p 3) (r%8)else false
def qwV(c:Cfg)(s:PSt)(t:Nat)(p:List Bool):Bool:=
 if c.mode.getD t 0=1\/c.mode.getD t 0=2 then qwU (c.tab.getD t 0) p else if c.mode.getD t 0=3 then ramF s (c.ram.getD t 0) p else false
def qwW(c:Cfg)(s:PSt)(t:Nat):Bool:=if c.mode.getD t 0=2 then qwT s.regs (c.ram.getD t 0/8) (c.ram.getD t 0%8)else false
def memC(q:Bool)(l:List Int):List PV:=[.sl q 1 (ints l)]
def pstC(q:Bool)(s:PSt):List PV:=[.sl q 1 (ints s.regs),.sl q 1 (rows (memC q) s.mems)]
@[push_cast] theorem qwX(q:Bool)(l:List Int):memC q l=[.sl q 1 (ints l)]:=rfl
@[push_cast] theorem qwY(q:Bool)(s:PSt):pstC q s=[.sl q 1 (ints s.regs),.sl q 1 (rows (memC q) s.mems)]:=rfl
theorem qwZ: ∀(a b c d:Bool) (k:Fin 5),0<=atN [a,b,c,d] k:=by decide+kernel
theorem qx0{p:List Bool}(hp:p.length=4){k:Nat}(hk:k<=4):0<=atN p k:=by
 match p,hp with
 |[a,b,c,d],_=>exact qwZ a b c d ⟨k,by omega⟩
end Go.Proofs.YtdmkfgkmnpohlaaGreat
namespace Go.Proofs.YtdmkfgkmnpohlaaGreat.Txt
open Go Go.Vc
set_option maxRecDepth 100000
def ac55:AC:=
 (.seq (.reg [0,21,0,1,2] [
 (aO 6 (.mv (.c (.sc (.bool false)))))])
 (.seq (.reg [0,21,0,1,2] [
 (aO 7 (.mv (.t 1))),(aO 8 (.mv (.t 0))),(aO 9 (.len (.t 8))),(aO 10 (.cmp .lss .i64 (.t 7) (.t 9))),(aO 11 (.mv (.t 10))),⟨some 12,some (11,true),.mv (.t 0)⟩,⟨some 13,some (11,true),.mv (.t 1)⟩,⟨some 14,some (11,true),.ixs 1 (.t 12) (.t 13)⟩,⟨some 15,some (11,true),.ld false 1 (.t 14)⟩,⟨some 16,some (11,true),.mv (.t 2)⟩,⟨some 17,some (11,true),.shf .shr .i64 (.t 15) (.t 16)⟩,⟨some 18,some (11,true),.bit .and .i64 (.t 17) (kI 1)⟩,⟨some 19,some (11,true),.cmp .eql .i64 (.t 18) (kI 1)⟩,(aO 20 (.pick (.t 11) (.t 19) (.c (.sc (.bool false))))),(aO 6 (.mv (.t 20)))])
 .ret))
def rv55:List RV:=[.tmp 6]
theorem ok55:fnOk Tryz.prog ac55 rv55 Tryz.f55=true:=by kernel_rfl

def ac81:AC:=
 (.seq (.reg [0,29,0,1] [
 (aO 4 (.mv (.c (.sc (.bool false)))))])
 (.seq (.seq (.reg [0,29,0,1] [
 (aO 8 (.mv (.t 1))),(aO 9 (.len (.t 8))),(aO 10 (.cmp .gtr .i64 (.t 9) (kI 5)))])
 (.cond (.t 10)
 (.seq (.reg [0,29] [
 (aO 4 (.mv (.c (.sc (.bool false)))))])
 .ret)
 .skip))
 (.seq (.reg [0,29,0,1] [
 (aO 5 (.mv (kI 0)))])
 (.seq (.seq (.reg [0,29,0,1,5] [
 (aO 11 (.mv (.t 1))),(aO 12 (.len (.t 11))),(aO 13 (.mv (kI 0)))])
 (.block 0
 (.loop [0,29,0,5,11,12,13]
 (.seq (.reg [0,29,0,5,11,12,13] [
 (aO 14 (.cmp .lss .i64 (.t 13) (.t 12)))])
 (.seq (.cond (.t 14)
 .skip
 (.exit 0))
 (.seq (.block 1
 (.seq (.reg [0,29,0,5,11,12,13] [
 (aO 15 (.mv (.t 13))),(aO 16 (.ixs 1 (.t 11) (.t 13))),(aO 17 (.ld false 1 (.t 16))),(aO 6 (.mv (.t 15))),(aO 7 (.mv (.t 17)))])
 (.seq (.reg [0,29,0,5,6,7,11,12,13] [
 (aO 18 (.mv (.t 7)))])
 (.cond (.t 18)
 (.reg [0,29,0,5,6,11,12,13] [
 (aO 19 (.mv (.t 5))),(aO 20 (.mv (.t 6))),(aO 21 (.shf .shl .i64 (kI 1) (.t 20))),(aO 22 (.bit .or .i64 (.t 19) (.t 21))),(aO 5 (.mv (.t 22)))])
 .skip))))
 (.reg [0,29,0,5,11,12,13] [
 (aO 23 (.ari .add true .i64 (.t 13) (kI 1))),(aO 13 (.mv (.t 23)))])))))))
 (.seq (.reg [0,29,0,5] [
 (aO 24 (.mv (.t 0))),(aO 25 (.mv (.t 5))),(aO 26 (.shf .shr .i64 (.t 24) (.t 25))),(aO 27 (.bit .and .i64 (.t 26) (kI 1))),(aO 28 (.cmp .eql .i64 (.t 27) (kI 1))),(aO 4 (.mv (.t 28)))])
 .ret)))))
def rv81:List RV:=[.tmp 4]
theorem ok81:fnOk Tryz.prog ac81 rv81 Tryz.f81=true:=by kernel_rfl

def ac53:AC:=
 (.seq (.reg [0,17,0,1,2] [
 (aO 6 (.mv (.c (.sc (.bool false)))))])
 (.seq (.reg [0,17,0,1,2] [
 (aO 7 (.mv (.t 0))),(aO 8 (.nck (.t 7))),(aO 9 (.fa 0 (.t 8))),(aO 10 (.fa 2 (.t 9))),(aO 11 (.ld false 1 (.t 10))),(aO 12 (.mv (.t 1))),(aO 13 (.ixs 1 (.t 11) (.t 12))),(aO 14 (.ld false 1 (.t 13))),(aO 15 (.mv (.t 2))),(aO 16 (.cal 81 [(.t 14),(.t 15)])),(aO 6 (.mv (.t 16)))])
 .ret))
def rv53:List RV:=[.tmp 6]
theorem ok53:fnOk Tryz.prog ac53 rv53 Tryz.f53=true:=by kernel_rfl

def ac51:AC:=
 (.seq (.reg [0,5] [
 (aO 4 (.mv (.c (.sc (.bool false)))))])
 (.seq (.reg [0,5] [
 (aO 4 (.mv (.c (.sc (.bool false)))))])
 .ret))
def rv51:List RV:=[.tmp 4]
theorem ok51:fnOk Tryz.prog ac51 rv51 Tryz.f51=true:=by kernel_rfl

def ac52:AC:=
 (.seq (.reg [0,7] [
 (aO 6 (.mv (.c (.sc (.bool false)))))])
 (.seq (.reg [0,7] [
 (aO 6 (.mv (.c (.sc (.bool false)))))])
 .ret))
def rv52:List RV:=[.tmp 6]
theorem ok52:fnOk Tryz.prog ac52 rv52 Tryz.f52=true:=by kernel_rfl

def ac54:AC:=
 (.seq (.reg [0,29,0,1] [
 (aO 4 (.mv (.c (.sc (.bool false)))))])
 (.seq (.drw [0,29,0,1] [
 (eT 5 (.mv (.t 0))),(eT 6 (.nck (.t 5))),(eT 7 (.fa 7 (.t 6))),(eT 8 (.fa 0 (.t 7))),(eT 9 (.ld false 1 (.t 8))),(eT 10 (.mv (.t 0))),(eT 11 (.nck (.t 10))),(eT 12 (.fa 0 (.t 11))),(eT 13 (.fa 3 (.t 12))),(eT 14 (.ld false 1 (.t 13))),(eT 15 (.mv (.t 1))),(eT 16 (.ixs 1 (.t 14) (.t 15))),(eT 17 (.ld false 1 (.t 16))),(eT 18 (.dvd .quo true .i64 (.t 17) (kI 8))),(eT 19 (.mv (.t 0))),(eT 20 (.nck (.t 19))),(eT 21 (.fa 0 (.t 20))),(eT 22 (.fa 3 (.t 21))),(eT 23 (.ld false 1 (.t 22))),(eT 24 (.mv (.t 1))),(eT 25 (.ixs 1 (.t 23) (.t 24))),(eT 26 (.ld false 1 (.t 25))),(eT 27 (.dvd .rem true .i64 (.t 26) (kI 8))),(eF 28 (.cal 55 [(.t 9),(.t 18),(.t 27)])),(eF 4 (.mv (.t 28)))])
 .ret))
def rv54:List RV:=[.tmp 4]
theorem ok54:fnOk Tryz.prog ac54 rv54 Tryz.f54=true:=by kernel_rfl

def ac56:AC:=
 (.seq (.reg [0,63,0,1,2] [
 (aO 6 (.mv (.c (.sc (.bool false)))))])
 (.seq (.reg [0,63,0,1,2] [
 (aO 11 (.mv (.t 0))),(aO 12 (.nck (.t 11))),(aO 13 (.fa 0 (.t 12))),(aO 14 (.fa 3 (.t 13))),(aO 15 (.ld false 1 (.t 14))),(aO 16 (.mv (.t 1))),(aO 17 (.ixs 1 (.t 15) (.t 16))),(aO 18 (.ld false 1 (.t 17))),(aO 19 (.dvd .quo true .i64 (.t 18) (kI 8))),(aO 7 (.mv (.t 19))),(aO 8 (.mv (kI 0)))])
 (.seq (.seq (.reg [0,63,0,1,2,7,8] [
 (aO 20 (.mv (.t 2))),(aO 21 (.slc 1 (.t 20) none (some (kI 3)))),(aO 22 (.len (.t 21))),(aO 23 (.mv (kI 0)))])
 (.block 0
 (.loop [0,63,0,1,7,8,21,22,23]
 (.seq (.reg [0,63,0,1,7,8,21,22,23] [
 (aO 24 (.cmp .lss .i64 (.t 23) (.t 22)))])
 (.seq (.cond (.t 24)
 .skip
 (.exit 0))
 (.seq (.block 1
 (.seq (.reg [0,63,0,1,7,8,21,22,23] [
 (aO 25 (.mv (.t 23))),(aO 26 (.ixs 1 (.t 21) (.t 23))),(aO 27 (.ld false 1 (.t 26))),(aO 9 (.mv (.t 25))),(aO 10 (.mv (.t 27)))])
 (.seq (.reg [0,63,0,1,7,8,9,10,21,22,23] [
 (aO 28 (.mv (.t 10)))])
 (.cond (.t 28)
 (.reg [0,63,0,1,7,8,9,21,22,23] [
 (aO 29 (.mv (.t 8))),(aO 30 (.mv (.t 9))),(aO 31 (.shf .shl .i64 (kI 1) (.t 30))),(aO 32 (.bit .or .i64 (.t 29) (.t 31))),(aO 8 (.mv (.t 32)))])
 .skip))))
 (.reg [0,63,0,1,7,8,21,22,23] [
 (aO 33 (.ari .add true .i64 (.t 23) (kI 1))),(aO 23 (.mv (.t 33)))])))))))
 (.seq (.drw [0,63,0,1,7,8] [
 (eT 34 (.mv (.t 7))),(eT 35 (.mv (.t 0))),(eT 36 (.nck (.t 35))),(eT 37 (.fa 7 (.t 36))),(eT 38 (.fa 1 (.t 37))),(eT 39 (.ld false 1 (.t 38))),(eT 40 (.len (.t 39))),(eF 41 (.cmp .lss .i64 (.t 34) (.t 40))),(eF 42 (.mv (.t 41))),⟨⟨some 43,some (42,true),.mv (.t 0)⟩,[],[],true⟩,⟨⟨some 44,some (42,true),.nck (.t 43)⟩,[],[],true⟩,⟨⟨some 45,some (42,true),.fa 7 (.t 44)⟩,[],[],true⟩,⟨⟨some 46,some (42,true),.fa 1 (.t 45)⟩,[],[],true⟩,⟨⟨some 47,some (42,true),.ld false 1 (.t 46)⟩,[],[],true⟩,⟨⟨some 48,some (42,true),.mv (.t 7)⟩,[],[],true⟩,⟨⟨some 49,some (42,true),.ixs 1 (.t 47) (.t 48)⟩,[],[],true⟩,⟨⟨some 50,some (42,true),.ld false 1 (.t 49)⟩,[],[],true⟩,⟨⟨some 51,some (42,true),.mv (.t 8)⟩,[],[],true⟩,⟨⟨some 52,some (42,true),.mv (.t 0)⟩,[],[],true⟩,⟨⟨some 53,some (42,true),.nck (.t 52)⟩,[],[],true⟩,⟨⟨some 54,some (42,true),.fa 0 (.t 53)⟩,[],[],true⟩,⟨⟨some 55,some (42,true),.fa 3 (.t 54)⟩,[],[],true⟩,⟨⟨some 56,some (42,true),.ld false 1 (.t 55)⟩,[],[],true⟩,⟨⟨some 57,some (42,true),.mv (.t 1)⟩,[],[],true⟩,⟨⟨some 58,some (42,true),.ixs 1 (.t 56) (.t 57)⟩,[],[],true⟩,⟨⟨some 59,some (42,true),.ld false 1 (.t 58)⟩,[],[],true⟩,⟨⟨some 60,some (42,true),.dvd .rem true .i64 (.t 59) (kI 8)⟩,[],[],true⟩,⟨⟨some 61,some (42,true),.cal 55 [(.t 50),(.t 51),(.t 60)]⟩,[],[],false⟩,(eF 62 (.pick (.t 42) (.t 61) (.c (.sc (.bool false))))),(eF 6 (.mv (.t 62)))])
 .ret))))
def rv56:List RV:=[.tmp 6]
theorem ok56:fnOk Tryz.prog ac56 rv56 Tryz.f56=true:=by kernel_rfl

def ac28:AC:=
 (.seq (.reg [0,10] [
 (aO 0 (.alc [.sc .nilFunc,.sc .nilFunc,zI,.sc .nilFunc,.sc .nilFunc,zI,.sc .nilFunc,.sc .nilFunc,zI,.sc .nilFunc,.sc .nilFunc,zI]))])
 (.seq (.reg [0,10,0] [
 (aO 1 (.mv (.c (.sc (.func (.func 51) #[] #[])))))])
 (.seq (.reg [0,10,0,1] [
 (aO 2 (.mv (.t 1))),(aO 3 (.bld [.sc .nilFunc,.sc .nilFunc,zI] [(0,1,(.c (.sc (.func (.func 52) #[] #[])))),(1,1,(.t 2)),(2,1,(kI 0))])),(aO 4 (.mv (.t 1))),(aO 5 (.bld [.sc .nilFunc,.sc .nilFunc,zI] [(0,1,(.c (.sc (.func (.func 53) #[] #[])))),(1,1,(.t 4)),(2,1,(kI 4))])),(aO 6 (.bld [.sc .nilFunc,.sc .nilFunc,zI] [(0,1,(.c (.sc (.func (.func 53) #[] #[])))),(1,1,(.c (.sc (.func (.func 54) #[] #[])))),(2,1,(kI 4))])),(aO 7 (.mv (.t 1))),(aO 8 (.bld [.sc .nilFunc,.sc .nilFunc,zI] [(0,1,(.c (.sc (.func (.func 56) #[] #[])))),(1,1,(.t 7)),(2,1,(kI 3))])),(aO 9 (.bld [.sc .nilFunc,.sc .nilFunc,zI,.sc .nilFunc,.sc .nilFunc,zI,.sc .nilFunc,.sc .nilFunc,zI,.sc .nilFunc,.sc .nilFunc,zI] [(0,3,(.t 3)),(3,3,(.t 5)),(6,3,(.t 6)),(9,3,(.t 8))])),(aN (.sto 12 (.t 0) (.t 9)))])
 .ret)))
def rv28:List RV:=[.cell 0 true 12]
theorem ok28:fnOk Tryz.prog ac28 rv28 Tryz.f28=true:=by kernel_rfl

def ac14:AC:=
 (.seq (.reg [0,26,0,1] [
 (aO 4 (.mv (.c (.sc (.bool false)))))])
 (.seq (.seq (.reg [0,26,0,1] [
 (aO 6 (.mv (.t 0))),(aO 7 (.len (.t 6))),(aO 8 (.mv (.t 1))),(aO 9 (.len (.t 8))),(aO 10 (.cmp .neq .i64 (.t 7) (.t 9)))])
 (.cond (.t 10)
 (.seq (.reg [0,26] [
 (aO 4 (.mv (.c (.sc (.bool false)))))])
 .ret)
 .skip))
 (.seq (.seq (.reg [0,26,0,1] [
 (aO 5 (.mv (kI 0)))])
 (.block 0
 (.loop [0,26,0,1,5]
 (.seq (.seq (.reg [0,26,0,1,5] [
 (aO 11 (.mv (.t 5))),(aO 12 (.mv (.t 0))),(aO 13 (.len (.t 12))),(aO 14 (.cmp .lss .i64 (.t 11) (.t 13)))])
 (.cond (.t 14)
 .skip
 (.exit 0)))
 (.seq (.block 1
 (.seq (.drw [0,26,0,1,5] [
 (eT 17 (.mv (.t 0))),(eT 18 (.mv (.t 5))),(eT 19 (.ixs 1 (.t 17) (.t 18))),(eT 20 (.ld false 1 (.t 19))),(eT 21 (.mv (.t 1))),(eT 22 (.mv (.t 5))),(eT 23 (.ixs 1 (.t 21) (.t 22))),(eT 24 (.ld false 1 (.t 23))),(eF 25 (.eqb true (.t 20) (.t 24)))])
 (.cond (.t 25)
 (.seq (.reg [0,26] [
 (aO 4 (.mv (.c (.sc (.bool false)))))])
 .ret)
 .skip)))
 (.reg [0,26,0,1,5] [
 (aO 15 (.mv (.t 5))),(aO 16 (.ari .add true .i64 (.t 15) (kI 1))),(aO 5 (.mv (.t 16)))]))))))
 (.seq (.reg [0,26] [
 (aO 4 (.mv (.c (.sc (.bool true)))))])
 .ret))))
def rv14:List RV:=[.tmp 4]
theorem ok14:fnOk Tryz.prog ac14 rv14 Tryz.f14=true:=by kernel_rfl

def ac21:AC:=
 (.seq (.reg [0,26,0,1] [
 (aO 4 (.mv (.c (.sc (.bool false)))))])
 (.seq (.seq (.reg [0,26,0,1] [
 (aO 6 (.mv (.t 0))),(aO 7 (.len (.t 6))),(aO 8 (.mv (.t 1))),(aO 9 (.len (.t 8))),(aO 10 (.cmp .neq .i64 (.t 7) (.t 9)))])
 (.cond (.t 10)
 (.seq (.reg [0,26] [
 (aO 4 (.mv (.c (.sc (.bool false)))))])
 .ret)
 .skip))
 (.seq (.seq (.reg [0,26,0,1] [
 (aO 5 (.mv (kI 0)))])
 (.block 0
 (.loop [0,26,0,1,5]
 (.seq (.seq (.reg [0,26,0,1,5] [
 (aO 11 (.mv (.t 5))),(aO 12 (.mv (.t 0))),(aO 13 (.len (.t 12))),(aO 14 (.cmp .lss .i64 (.t 11) (.t 13)))])
 (.cond (.t 14)
 .skip
 (.exit 0)))
 (.seq (.block 1
 (.seq (.drw [0,26,0,1,5] [
 (eT 17 (.mv (.t 0))),(eT 18 (.mv (.t 5))),(eT 19 (.ixs 1 (.t 17) (.t 18))),(eT 20 (.ld false 1 (.t 19))),(eT 21 (.mv (.t 1))),(eT 22 (.mv (.t 5))),(eT 23 (.ixs 1 (.t 21) (.t 22))),(eT 24 (.ld false 1 (.t 23))),(eF 25 (.cmp .neq .i64 (.t 20) (.t 24)))])
 (.cond (.t 25)
 (.seq (.reg [0,26] [
 (aO 4 (.mv (.c (.sc (.bool false)))))])
 .ret)
 .skip)))
 (.reg [0,26,0,1,5] [
 (aO 15 (.mv (.t 5))),(aO 16 (.ari .add true .i64 (.t 15) (kI 1))),(aO 5 (.mv (.t 16)))]))))))
 (.seq (.reg [0,26] [
 (aO 4 (.mv (.c (.sc (.bool true)))))])
 .ret))))
def rv21:List RV:=[.tmp 4]
theorem ok21:fnOk Tryz.prog ac21 rv21 Tryz.f21=true:=by kernel_rfl

def ac12:AC:=
 (.seq (.reg [0,29,0,1] [
 (aO 4 (.mv (.c (.nil))))])
 (.seq (.reg [0,29,0,1] [
 (aO 7 (.bsl 1 4 [.sc (.bool false)] 0 [])),(aO 5 (.mv (.t 7)))])
 (.seq (.seq (.reg [0,29,0,1,5] [
 (aO 6 (.mv (kI 0)))])
 (.block 0
 (.loop [0,29,0,1,5,6]
 (.seq (.seq (.reg [0,29,0,1,5,6] [
 (aO 8 (.mv (.t 6))),(aO 9 (.mv (.t 0))),(aO 10 (.cmp .lss .i64 (.t 8) (.t 9)))])
 (.cond (.t 10)
 .skip
 (.exit 0)))
 (.seq (.block 1
 (.reg [0,29,0,1,5,6] [
 (aO 13 (.mv (.t 5))),(aO 14 (.mv (.t 6))),(aO 15 (.mv (.t 1))),(aO 16 (.len (.t 15))),(aO 17 (.cmp .lss .i64 (.t 14) (.t 16))),(aO 18 (.mv (.t 17))),⟨some 19,some (18,true),.mv (.t 1)⟩,⟨some 20,some (18,true),.mv (.t 6)⟩,⟨some 21,some (18,true),.ixs 1 (.t 19) (.t 20)⟩,⟨some 22,some (18,true),.ld false 1 (.t 21)⟩,⟨some 23,some (18,true),.dvd .rem true .u8 (.t 22) (.c (.sc (.int .u8 2)))⟩,⟨some 24,some (18,true),.cmp .eql .u8 (.t 23) (.c (.sc (.int .u8 1)))⟩,(aO 25 (.pick (.t 18) (.t 24) (.c (.sc (.bool false))))),(aO 26 (.bsl 1 4 [.sc (.bool false)] 1 [(0,(.t 25))])),(aO 27 (.app 1 4 1 (.t 13) (.t 26))),(aO 5 (.mv (.t 27)))]))
 (.reg [0,29,0,1,5,6] [
 (aO 11 (.mv (.t 6))),(aO 12 (.ari .add true .i64 (.t 11) (kI 1))),(aO 6 (.mv (.t 12)))]))))))
 (.seq (.reg [0,29,5] [
 (aO 28 (.mv (.t 5))),(aO 4 (.mv (.t 28)))])
 .ret))))
def rv12:List RV:=[.tmp 4]
theorem ok12:fnOk Tryz.prog ac12 rv12 Tryz.f12=true:=by kernel_rfl

def ac62:AC:=
 (.seq (.reg [0,26,0,1] [
 (aO 4 (.mv (.c (.sc (.bool false)))))])
 (.seq (.seq (.reg [0,26,0,1] [
 (aO 6 (.mv (.t 0))),(aO 7 (.len (.t 6))),(aO 8 (.mv (.t 1))),(aO 9 (.len (.t 8))),(aO 10 (.cmp .neq .i64 (.t 7) (.t 9)))])
 (.cond (.t 10)
 (.seq (.reg [0,26] [
 (aO 4 (.mv (.c (.sc (.bool false)))))])
 .ret)
 .skip))
 (.seq (.seq (.reg [0,26,0,1] [
 (aO 11 (.mv (.t 0))),(aO 12 (.len (.t 11))),(aO 13 (.mv (kI 0)))])
 (.block 0
 (.loop [0,26,0,1,12,13]
 (.seq (.reg [0,26,0,1,12,13] [
 (aO 14 (.cmp .lss .i64 (.t 13) (.t 12)))])
 (.seq (.cond (.t 14)
 .skip
 (.exit 0))
 (.seq (.block 1
 (.seq (.reg [0,26,0,1,12,13] [
 (aO 15 (.mv (.t 13))),(aO 5 (.mv (.t 15)))])
 (.seq (.drw [0,26,0,1,5,12,13] [
 (eT 16 (.mv (.t 0))),(eT 17 (.mv (.t 5))),(eT 18 (.ixs 1 (.t 16) (.t 17))),(eT 19 (.ld false 1 (.t 18))),(eT 20 (.mv (.t 1))),(eT 21 (.mv (.t 5))),(eT 22 (.ixs 1 (.t 20) (.t 21))),(eT 23 (.ld false 1 (.t 22))),(eF 24 (.eqb true (.t 19) (.t 23)))])
 (.cond (.t 24)
 (.seq (.reg [0,26] [
 (aO 4 (.mv (.c (.sc (.bool false)))))])
 .ret)
 .skip))))
 (.reg [0,26,0,1,12,13] [
 (aO 25 (.ari .add true .i64 (.t 13) (kI 1))),(aO 13 (.mv (.t 25)))])))))))
 (.seq (.reg [0,26] [
 (aO 4 (.mv (.c (.sc (.bool true)))))])
 .ret))))
def rv62:List RV:=[.tmp 4]
theorem ok62:fnOk Tryz.prog ac62 rv62 Tryz.f62=true:=by kernel_rfl

def ac63:AC:=
 (.seq (.reg [0,124,0,1] [
 (aO 4 (.mv (.c (.nil))))])
 (.seq (.reg [0,124,0,1] [
 (aO 12 (.cal 28 [])),(aO 5 (.alc [.sc .nilFunc,.sc .nilFunc,zI,.sc .nilFunc,.sc .nilFunc,zI,.sc .nilFunc,.sc .nilFunc,zI,.sc .nilFunc,.sc .nilFunc,zI])),(aN (.sto 12 (.t 5) (.t 12)))])
 (.seq (.reg [0,124,0,1,5] [
 (aO 13 (.mv (.t 1))),(aO 14 (.len (.t 13))),(aO 15 (.mks 1 4 1 [.sc (.bool false)] (.t 14) (.t 14))),(aO 6 (.mv (.t 15)))])
 (.seq (.seq (.reg [0,124,0,1,5,6] [
 (aO 16 (.mv (.t 0))),(aO 17 (.nck (.t 16))),(aO 18 (.fa 4 (.t 17))),(aO 19 (.ld false 1 (.t 18))),(aO 20 (.len (.t 19))),(aO 21 (.mv (kI 0)))])
 (.block 0
 (.loop [0,124,0,1,5,6,19,20,21]
 (.seq (.reg [0,124,0,1,5,6,19,20,21] [
 (aO 22 (.cmp .lss .i64 (.t 21) (.t 20)))])
 (.seq (.cond (.t 22)
 .skip
 (.exit 0))
 (.seq (.block 1
 (.seq (.reg [0,124,0,1,5,6,19,20,21] [
 (aO 23 (.mv (.t 21))),(aO 24 (.ixs 4 (.t 19) (.t 21))),(aO 25 (.ld true 4 (.t 24))),(aO 8 (.alc [zI,zI,zI,zI])),(aO 7 (.mv (.t 23))),(aN (.sto 4 (.t 8) (.t 25)))])
 (.seq (.reg [0,124,0,1,5,6,7,8,19,20,21] [
 (aO 26 (.fa 0 (.t 8))),(aO 27 (.ld false 1 (.t 26)))])
 (.block 2
 (.seq (.reg [0,124,0,1,5,6,7,8,19,20,21,27] [
 (aO 52 (.cmp .eql .i64 (.t 27) (kI 6))),(aO 51 (.mv (.t 52)))])
 (.cond (.t 51)
 (.drw [0,124,0,1,5,6,7,8,19,20,21] [
 (eT 53 (.mv (.t 6))),(eT 54 (.mv (.t 7))),(eT 55 (.fa 3 (.t 8))),(eT 56 (.ld false 1 (.t 55))),(eT 57 (.mv (.t 0))),(eT 58 (.nck (.t 57))),(eT 59 (.fa 9 (.t 58))),(eT 60 (.ld false 1 (.t 59))),(eT 61 (.len (.t 60))),(eT 62 (.cmp .lss .i64 (.t 56) (.t 61))),(eT 63 (.mv (.t 62))),⟨⟨some 64,some (63,true),.mv (.t 0)⟩,[],[],true⟩,⟨⟨some 65,some (63,true),.nck (.t 64)⟩,[],[],true⟩,⟨⟨some 66,some (63,true),.fa 9 (.t 65)⟩,[],[],true⟩,⟨⟨some 67,some (63,true),.ld false 1 (.t 66)⟩,[],[],true⟩,⟨⟨some 68,some (63,true),.fa 3 (.t 8)⟩,[],[],true⟩,⟨⟨some 69,some (63,true),.ld false 1 (.t 68)⟩,[],[],true⟩,⟨⟨some 70,some (63,true),.ixs 1 (.t 67) (.t 69)⟩,[],[],true⟩,⟨⟨some 71,some (63,true),.ld false 1 (.t 70)⟩,[],[],true⟩,(eT 72 (.pick (.t 63) (.t 71) (.c (.sc (.bool false))))),(eF 73 (.ixs 1 (.t 53) (.t 54))),⟨(aN (.sto 1 (.t 73) (.t 72))),[],[],false⟩])
 (.seq (.seq (.reg [0,124,0,1,5,6,7,19,20,21,27] [
 (aO 75 (.cmp .eql .i64 (.t 27) (kI 1))),(aO 74 (.mv (.t 75)))])
 (.cond (.t 74)
 .skip
 (.reg [0,124,0,1,5,6,7,19,20,21,27] [
 (aO 76 (.cmp .eql .i64 (.t 27) (kI 2))),(aO 74 (.mv (.t 76)))])))
 (.cond (.t 74)
 .skip
 (.rgs [
 ([0,124,0,1,5,6,7,19,20,21],[
 (aO 28 (.mv (.t 6))),(aO 29 (.mv (.t 7))),(aO 30 (.mv (.t 0))),(aO 31 (.nck (.t 30))),(aO 32 (.fa 6 (.t 31))),(aO 33 (.ld false 1 (.t 32))),(aO 34 (.mv (.t 7))),(aO 35 (.ixs 1 (.t 33) (.t 34))),(aO 36 (.ld false 1 (.t 35))),(aO 37 (.cmp .geq .i64 (.t 36) (kI 0))),(aO 38 (.mv (.t 37))),⟨some 39,some (38,true),.mv (.t 1)⟩]),([0,124,0,1,5,6,7,19,20,21,28,29,38,39],[
 ⟨some 40,some (38,true),.mv (.t 0)⟩,⟨some 41,some (38,true),.nck (.t 40)⟩,⟨some 42,some (38,true),.fa 6 (.t 41)⟩,⟨some 43,some (38,true),.ld false 1 (.t 42)⟩,⟨some 44,some (38,true),.mv (.t 7)⟩,⟨some 45,some (38,true),.ixs 1 (.t 43) (.t 44)⟩,⟨some 46,some (38,true),.ld false 1 (.t 45)⟩,⟨some 47,some (38,true),.ixs 1 (.t 39) (.t 46)⟩,⟨some 48,some (38,true),.ld false 1 (.t 47)⟩,(aO 49 (.pick (.t 38) (.t 48) (.c (.sc (.bool false))))),(aO 50 (.ixs 1 (.t 28) (.t 29))),(aN (.sto 1 (.t 50) (.t 49)))])])))))))))
 (.reg [0,124,0,1,5,6,19,20,21] [
 (aO 77 (.ari .add true .i64 (.t 21) (kI 1))),(aO 21 (.mv (.t 77)))])))))))
 (.seq (.seq (.reg [0,124,0,1,5,6] [
 (aO 78 (.mv (.t 0))),(aO 79 (.nck (.t 78))),(aO 80 (.fa 5 (.t 79))),(aO 81 (.ld false 1 (.t 80))),(aO 82 (.len (.t 81))),(aO 83 (.mv (kI 0)))])
 (.block 3
 (.loop [0,124,0,1,5,6,81,82,83]
 (.seq (.reg [0,124,0,1,5,6,81,82,83] [
 (aO 84 (.cmp .lss .i64 (.t 83) (.t 82)))])
 (.seq (.cond (.t 84)
 .skip
 (.exit 3))
 (.seq (.block 4
 (.seq (.reg [0,124,0,1,5,6,81,82,83] [
 (aO 85 (.mv (.t 83))),(aO 86 (.ixs 1 (.t 81) (.t 83))),(aO 87 (.ld false 1 (.t 86))),(aO 9 (.mv (.t 85))),(aO 10 (.mv (.t 87)))])
 (.seq (.reg [0,124,0,1,5,6,9,10,81,82,83] [
 (aO 88 (.mv (.t 0))),(aO 89 (.nck (.t 88))),(aO 90 (.fa 0 (.t 89))),(aO 91 (.fa 1 (.t 90))),(aO 92 (.ld false 1 (.t 91))),(aO 93 (.mv (.t 9))),(aO 94 (.ixs 1 (.t 92) (.t 93))),(aO 95 (.ld false 1 (.t 94))),(aO 96 (.ixa 4 3 (.t 5) (.t 95))),(aO 97 (.ld true 3 (.t 96))),(aO 11 (.alc [.sc .nilFunc,.sc .nilFunc,zI])),(aN (.sto 3 (.t 11) (.t 97)))])
 (.drw [0,124,0,1,5,6,9,10,11,81,82,83] [
 (eT 98 (.mv (.t 6))),(eT 99 (.mv (.t 10))),(eT 100 (.mv (.t 6))),(eT 101 (.mv (.t 10))),(eT 102 (.ari .add true .i64 (.t 101) (kI 1))),(eT 103 (.fa 0 (.t 11))),(eT 104 (.ld false 1 (.t 103))),(eT 105 (.mv (.t 0))),(eT 106 (.mv (.t 9))),(eT 107 (.mv (.t 1))),(eT 108 (.mv (.t 10))),(eT 109 (.ari .add true .i64 (.t 108) (kI 2))),(eT 110 (.mv (.t 10))),(eT 111 (.ari .add true .i64 (.t 110) (kI 2))),(eT 112 (.ari .add true .i64 (.t 111) (kI 4))),(eT 113 (.slc 1 (.t 107) (some (.t 109)) (some (.t 112)))),(eT 114 (.clv (.t 104) [(.t 105),(.t 106),(.t 113)])),(eT 115 (.fa 1 (.t 11))),(eT 116 (.ld false 1 (.t 115))),(eT 117 (.mv (.t 0))),(eT 118 (.mv (.t 9))),(eT 119 (.clv (.t 116) [(.t 117),(.t 118)])),(eT 120 (.ixs 1 (.t 98) (.t 99))),⟨(aN (.sto 1 (.t 120) (.t 114))),[],[],true⟩,(eF 121 (.ixs 1 (.t 100) (.t 102))),⟨(aN (.sto 1 (.t 121) (.t 119))),[],[],false⟩]))))
 (.reg [0,124,0,1,5,6,81,82,83] [
 (aO 122 (.ari .add true .i64 (.t 83) (kI 1))),(aO 83 (.mv (.t 122)))])))))))
 (.seq (.reg [0,124,6] [
 (aO 123 (.mv (.t 6))),(aO 4 (.mv (.t 123)))])
 .ret))))))
def rv63:List RV:=[.tmp 4]
theorem ok63:fnOk Tryz.prog ac63 rv63 Tryz.f63=true:=by kernel_rfl

def ac26:AC:=
 (.seq (.reg [0,57,0,1] [
 (aO 2 (.box (.t 0))),(aO 4 (.mv (.c (.nil))))])
 (.seq (.seq (.reg [0,57,1,2] [
 (aO 6 (.fa 0 (.t 2))),(aO 7 (.ld true 5 (.t 6))),(aO 8 (.mv (.t 1))),(aO 9 (.cal 48 [(.t 7),(.t 8)])),(aO 10 (.fl true 0 4 (.t 9))),(aO 11 (.fl false 0 1 (.t 10))),(aO 12 (.cmp .eql .i64 (.t 11) (kI 1)))])
 (.cond (.t 12)
 (.seq (.drw [0,57,1,2] [
 (eT 13 (.fa 5 (.t 2))),(eT 14 (.fa 1 (.t 13))),(eT 15 (.ld false 1 (.t 14))),(eT 16 (.mv (.t 1))),(eT 17 (.fa 0 (.t 2))),(eT 18 (.ld true 5 (.t 17))),(eT 19 (.cal 49 [(.t 18)])),(eT 20 (.dvd .quo true .i64 (.t 16) (.t 19))),(eF 21 (.ixs 1 (.t 15) (.t 20))),(eF 22 (.ld false 1 (.t 21))),(eF 5 (.mv (.t 22)))])
 (.seq (.seq (.reg [0,57,1,5] [
 (aO 23 (.mv (.t 5)))])
 (.block 0
 (.seq (.seq (.reg [0,57,1,23] [
 (aO 25 (.cmp .eql .i64 (.t 23) (kI 1))),(aO 24 (.mv (.t 25)))])
 (.cond (.t 24)
 .skip
 (.reg [0,57,1,23] [
 (aO 26 (.cmp .eql .i64 (.t 23) (kI 2))),(aO 24 (.mv (.t 26)))])))
 (.cond (.t 24)
 (.seq (.reg [0,57,1] [
 (aO 27 (.mv (.t 1))),(aO 28 (.ari .add true .i64 (.t 27) (kI 2))),(aO 29 (.mv (.t 1))),(aO 30 (.ari .add true .i64 (.t 29) (kI 3))),(aO 31 (.mv (.t 1))),(aO 32 (.ari .add true .i64 (.t 31) (kI 4))),(aO 33 (.mv (.t 1))),(aO 34 (.ari .add true .i64 (.t 33) (kI 5))),(aO 35 (.bsl 1 3 [zI] 4 [(0,(.t 28)),(1,(.t 30)),(2,(.t 32)),(3,(.t 34))])),(aO 4 (.mv (.t 35)))])
 .ret)
 (.seq (.reg [0,57,1,23] [
 (aO 37 (.cmp .eql .i64 (.t 23) (kI 3))),(aO 36 (.mv (.t 37)))])
 (.cond (.t 36)
 (.seq (.reg [0,57,1] [
 (aO 38 (.mv (.t 1))),(aO 39 (.ari .add true .i64 (.t 38) (kI 2))),(aO 40 (.mv (.t 1))),(aO 41 (.ari .add true .i64 (.t 40) (kI 3))),(aO 42 (.mv (.t 1))),(aO 43 (.ari .add true .i64 (.t 42) (kI 4))),(aO 44 (.bsl 1 3 [zI] 3 [(0,(.t 39)),(1,(.t 41)),(2,(.t 43))])),(aO 4 (.mv (.t 44)))])
 .ret)
 .skip))))))
 (.seq (.reg [0,57] [
 (aO 4 (.mv (.c (.nil))))])
 .ret)))
 .skip))
 (.seq (.seq (.reg [0,57,1,2] [
 (aO 45 (.fa 9 (.t 2))),(aO 46 (.ld false 1 (.t 45))),(aO 47 (.mv (.t 1))),(aO 48 (.ixs 1 (.t 46) (.t 47))),(aO 49 (.ld false 1 (.t 48))),(aO 50 (.cmp .geq .i64 (.t 49) (kI 0)))])
 (.cond (.t 50)
 (.seq (.reg [0,57,1,2] [
 (aO 51 (.fa 9 (.t 2))),(aO 52 (.ld false 1 (.t 51))),(aO 53 (.mv (.t 1))),(aO 54 (.ixs 1 (.t 52) (.t 53))),(aO 55 (.ld false 1 (.t 54))),(aO 56 (.bsl 1 3 [zI] 1 [(0,(.t 55))])),(aO 4 (.mv (.t 56)))])
 .ret)
 .skip))
 (.seq (.reg [0,57] [
 (aO 4 (.mv (.c (.nil))))])
 .ret))))
def rv26:List RV:=[.tmp 4]
theorem ok26:fnOk Tryz.prog ac26 rv26 Tryz.f26=true:=by kernel_rfl

def ac9:AC:=
 (.seq (.reg [0,61,0] [
 (aO 1 (.box (.t 0))),(aO 2 (.mv (.c (.sc (.bool false)))))])
 (.seq (.reg [0,61,1] [
 (aO 10 (.fa 5 (.t 1))),(aO 11 (.fa 0 (.t 10))),(aO 12 (.ld false 1 (.t 11))),(aO 13 (.len (.t 12))),(aO 14 (.mks 1 4 1 [.sc (.bool false)] (.t 13) (.t 13))),(aO 3 (.mv (.t 14)))])
 (.seq (.reg [0,61,1,3] [
 (aO 15 (.mv (.t 3))),(aO 16 (.len (.t 15))),(aO 4 (.mv (.t 16)))])
 (.seq (.seq (.reg [0,61,1,3,4] [
 (aO 5 (.mv (kI 0)))])
 (.block 0
 (.loop [0,61,1,3,4,5]
 (.seq (.seq (.reg [0,61,1,3,4,5] [
 (aO 17 (.mv (.t 5))),(aO 18 (.mv (.t 3))),(aO 19 (.len (.t 18))),(aO 20 (.cmp .leq .i64 (.t 17) (.t 19)))])
 (.cond (.t 20)
 .skip
 (.exit 0)))
 (.seq (.block 1
 (.seq (.reg [0,61,1,3,4,5] [
 (aO 6 (.mv (kI 0)))])
 (.block 2
 (.loop [0,61,1,3,4,5,6]
 (.seq (.seq (.reg [0,61,1,3,4,5,6] [
 (aO 23 (.mv (.t 6))),(aO 24 (.mv (.t 3))),(aO 25 (.len (.t 24))),(aO 26 (.cmp .lss .i64 (.t 23) (.t 25)))])
 (.cond (.t 26)
 .skip
 (.exit 2)))
 (.seq (.block 3
 (.seq (.reg [0,61,1,3,4,5,6] [
 (aO 29 (.ld true 13 (.t 1))),(aO 30 (.mv (.t 6))),(aO 31 (.cal 26 [(.t 29),(.t 30)])),(aO 7 (.mv (.t 31)))])
 (.seq (.reg [0,61,1,3,4,5,6,7] [
 (aO 32 (.mv (.t 3))),(aO 33 (.mv (.t 6))),(aO 34 (.ixs 1 (.t 32) (.t 33))),(aO 35 (.ld false 1 (.t 34))),(aO 36 (.not (.t 35))),(aO 8 (.mv (.t 36)))])
 (.seq (.seq (.reg [0,61,1,3,4,5,6,7,8] [
 (aO 9 (.mv (kI 0)))])
 (.block 4
 (.loop [0,61,1,3,4,5,6,7,8,9]
 (.seq (.seq (.reg [0,61,1,3,4,5,6,7,8,9] [
 (aO 37 (.mv (.t 9))),(aO 38 (.mv (.t 7))),(aO 39 (.len (.t 38))),(aO 40 (.cmp .lss .i64 (.t 37) (.t 39)))])
 (.cond (.t 40)
 .skip
 (.exit 4)))
 (.seq (.block 5
 (.reg [0,61,1,3,4,5,6,7,8,9] [
 (aO 43 (.mv (.t 8))),(aO 44 (.mv (.t 43))),⟨some 45,some (44,true),.mv (.t 3)⟩,⟨some 46,some (44,true),.mv (.t 7)⟩,⟨some 47,some (44,true),.mv (.t 9)⟩,⟨some 48,some (44,true),.ixs 1 (.t 46) (.t 47)⟩,⟨some 49,some (44,true),.ld false 1 (.t 48)⟩,⟨some 50,some (44,true),.ixs 1 (.t 45) (.t 49)⟩,⟨some 51,some (44,true),.ld false 1 (.t 50)⟩,(aO 52 (.pick (.t 44) (.t 51) (.c (.sc (.bool false))))),(aO 8 (.mv (.t 52)))]))
 (.reg [0,61,1,3,4,5,6,7,8,9] [
 (aO 41 (.mv (.t 9))),(aO 42 (.ari .add true .i64 (.t 41) (kI 1))),(aO 9 (.mv (.t 42)))]))))))
 (.seq (.reg [0,61,1,3,4,5,6,8] [
 (aO 53 (.mv (.t 8)))])
 (.cond (.t 53)
 (.seq (.reg [0,61,1,3,4,5,6] [
 (aO 54 (.mv (.t 3))),(aO 55 (.mv (.t 6))),(aO 56 (.ixs 1 (.t 54) (.t 55))),(aN (.sto 1 (.t 56) (.c (.sc (.bool true)))))])
 (.reg [0,61,1,3,4,5,6] [
 (aO 57 (.mv (.t 4))),(aO 58 (.ari .sub true .i64 (.t 57) (kI 1))),(aO 4 (.mv (.t 58)))]))
 .skip))))))
 (.reg [0,61,1,3,4,5,6] [
 (aO 27 (.mv (.t 6))),(aO 28 (.ari .add true .i64 (.t 27) (kI 1))),(aO 6 (.mv (.t 28)))])))))))
 (.reg [0,61,1,3,4,5] [
 (aO 21 (.mv (.t 5))),(aO 22 (.ari .add true .i64 (.t 21) (kI 1))),(aO 5 (.mv (.t 22)))]))))))
 (.seq (.reg [0,61,4] [
 (aO 59 (.mv (.t 4))),(aO 60 (.cmp .gtr .i64 (.t 59) (kI 0))),(aO 2 (.mv (.t 60)))])
 .ret)))))
def rv9:List RV:=[.tmp 2]
theorem ok9:fnOk Tryz.prog ac9 rv9 Tryz.f9=true:=by kernel_rfl

def ac47:AC:=
 (.seq (.reg [0,38,0,1] [
 (aO 2 (.box (.t 0))),(aO 3 (.box (.t 1))),(aO 4 (.mv (.c (.nil))))])
 (.seq (.reg [0,38,2,3] [
 (aO 8 (.bsl 1 3 [zI] 0 [])),(aO 5 (.mv (.t 8)))])
 (.seq (.seq (.reg [0,38,2,3,5] [
 (aO 6 (.mv (kI 0)))])
 (.block 0
 (.loop [0,38,2,3,5,6]
 (.seq (.seq (.reg [0,38,2,3,5,6] [
 (aO 9 (.mv (.t 6))),(aO 10 (.fa 0 (.t 3))),(aO 11 (.ld false 1 (.t 10))),(aO 12 (.len (.t 11))),(aO 13 (.cmp .lss .i64 (.t 9) (.t 12)))])
 (.cond (.t 13)
 .skip
 (.exit 0)))
 (.seq (.block 1
 (.seq (.reg [0,38,2,3,5,6] [
 (aO 7 (.mv (kI (-1))))])
 (.seq (.seq (.reg [0,38,2,3,5,6,7] [
 (aO 16 (.fa 0 (.t 3))),(aO 17 (.ld false 1 (.t 16))),(aO 18 (.mv (.t 6))),(aO 19 (.ixs 1 (.t 17) (.t 18))),(aO 20 (.ld false 1 (.t 19))),(aO 21 (.cmp .gtr .i64 (.t 20) (kI 0)))])
 (.cond (.t 21)
 (.drw [0,38,2,3,5,6] [
 (eT 22 (.ld true 5 (.t 2))),(eT 23 (.mv (.t 6))),(eT 24 (.cal 45 [(.t 22),(.t 23)])),(eT 25 (.fa 0 (.t 3))),(eT 26 (.ld false 1 (.t 25))),(eT 27 (.mv (.t 6))),(eT 28 (.ixs 1 (.t 26) (.t 27))),(eT 29 (.ld false 1 (.t 28))),(eT 30 (.ari .sub true .i64 (.t 29) (kI 1))),(eF 31 (.ixs 1 (.t 24) (.t 30))),(eF 32 (.ld false 1 (.t 31))),(eF 7 (.mv (.t 32)))])
 .skip))
 (.reg [0,38,2,3,5,6,7] [
 (aO 33 (.mv (.t 5))),(aO 34 (.mv (.t 7))),(aO 35 (.bsl 1 3 [zI] 1 [(0,(.t 34))])),(aO 36 (.app 1 3 8 (.t 33) (.t 35))),(aO 5 (.mv (.t 36)))]))))
 (.reg [0,38,2,3,5,6] [
 (aO 14 (.mv (.t 6))),(aO 15 (.ari .add true .i64 (.t 14) (kI 1))),(aO 6 (.mv (.t 15)))]))))))
 (.seq (.reg [0,38,5] [
 (aO 37 (.mv (.t 5))),(aO 4 (.mv (.t 37)))])
 .ret))))
def rv47:List RV:=[.tmp 4]
theorem ok47:fnOk Tryz.prog ac47 rv47 Tryz.f47=true:=by kernel_rfl

def ac25:AC:=
 (.seq (.reg [0,11,0,1] [
 (aO 2 (.box (.t 0))),(aO 3 (.box (.t 1))),(aO 4 (.alc [zI,zI,zI,zI,.nil,.nil,.nil,.nil,.nil,.nil,.nil,.nil,.nil]))])
 (.seq (.drw [0,11,2,3,4] [
 (eT 5 (.ld true 5 (.t 2))),(eT 6 (.ld true 4 (.t 3))),(eT 7 (.ld true 5 (.t 2))),(eT 8 (.ld true 4 (.t 3))),(eT 9 (.cal 47 [(.t 7),(.t 8)])),(eF 10 (.bld [zI,zI,zI,zI,.nil,.nil,.nil,.nil,.nil,.nil,.nil,.nil,.nil] [(0,5,(.t 5)),(5,4,(.t 6)),(9,1,(.t 9))])),⟨(aN (.sto 13 (.t 4) (.t 10))),[],[],false⟩])
 .ret))
def rv25:List RV:=[.cell 4 true 13]
theorem ok25:fnOk Tryz.prog ac25 rv25 Tryz.f25=true:=by kernel_rfl

def ac16:AC:=
 (.seq (.reg [0,12,0,1,2] [
 (aO 3 (.box (.t 0))),(aO 4 (.box (.t 1))),(aO 6 (.alc [zI,zI,zI,zI,.nil,.nil,.nil,.nil,.nil,.nil,.nil,.nil,.nil]))])
 (.seq (.reg [0,12,2,3,4,6] [
 (aO 7 (.ld true 2 (.t 4))),(aO 8 (.fa 10 (.t 3))),(aN (.sto 2 (.t 8) (.t 7)))])
 (.seq (.reg [0,12,2,3,6] [
 (aO 9 (.mv (.t 2))),(aO 10 (.fa 12 (.t 3))),(aN (.sto 1 (.t 10) (.t 9)))])
 (.seq (.reg [0,12,3,6] [
 (aO 11 (.ld true 13 (.t 3))),(aN (.sto 13 (.t 6) (.t 11)))])
 .ret))))
def rv16:List RV:=[.cell 6 true 13]
theorem ok16:fnOk Tryz.prog ac16 rv16 Tryz.f16=true:=by kernel_rfl

def ac11:AC:=
 (.seq (.reg [0,12,0] [
 (aO 1 (.box (.t 0))),(aO 2 (.mv (.c (.nil))))])
 (.seq (.reg [0,12,1] [
 (aO 3 (.fa 0 (.t 1))),(aO 4 (.ld true 5 (.t 3))),(aO 5 (.fa 5 (.t 1))),(aO 6 (.ld true 4 (.t 5))),(aO 7 (.fa 10 (.t 1))),(aO 8 (.ld true 2 (.t 7))),(aO 9 (.fa 12 (.t 1))),(aO 10 (.ld false 1 (.t 9))),(aO 11 (.cal 32 [(.t 4),(.t 6),(.t 8),(.t 10)])),(aO 2 (.mv (.t 11)))])
 .ret))
def rv11:List RV:=[.tmp 2]
theorem ok11:fnOk Tryz.prog ac11 rv11 Tryz.f11=true:=by kernel_rfl

def ac13:AC:=
 (.seq (.reg [0,15,0,1] [
 (aO 2 (.box (.t 0))),(aO 4 (.mv (.c (.sc (.bool false)))))])
 (.seq (.reg [0,15,1,2] [
 (aO 5 (.fa 0 (.t 2))),(aO 6 (.ld true 5 (.t 5))),(aO 7 (.fa 5 (.t 2))),(aO 8 (.ld true 4 (.t 7))),(aO 9 (.fa 10 (.t 2))),(aO 10 (.ld true 2 (.t 9))),(aO 11 (.fa 12 (.t 2))),(aO 12 (.ld false 1 (.t 11))),(aO 13 (.mv (.t 1))),(aO 14 (.cal 33 [(.t 6),(.t 8),(.t 10),(.t 12),(.t 13)])),(aO 4 (.mv (.t 14)))])
 .ret))
def rv13:List RV:=[.tmp 4]
theorem ok13:fnOk Tryz.prog ac13 rv13 Tryz.f13=true:=by kernel_rfl

def ac15:AC:=
 (.seq (.reg [0,15,0,1] [
 (aO 2 (.box (.t 0))),(aO 4 (.mv (.c (.nil))))])
 (.seq (.reg [0,15,1,2] [
 (aO 5 (.fa 0 (.t 2))),(aO 6 (.ld true 5 (.t 5))),(aO 7 (.fa 5 (.t 2))),(aO 8 (.ld true 4 (.t 7))),(aO 9 (.fa 10 (.t 2))),(aO 10 (.ld true 2 (.t 9))),(aO 11 (.fa 12 (.t 2))),(aO 12 (.ld false 1 (.t 11))),(aO 13 (.mv (.t 1))),(aO 14 (.cal 34 [(.t 6),(.t 8),(.t 10),(.t 12),(.t 13)])),(aO 4 (.mv (.t 14)))])
 .ret))
def rv15:List RV:=[.tmp 4]
theorem ok15:fnOk Tryz.prog ac15 rv15 Tryz.f15=true:=by kernel_rfl
end Go.Proofs.YtdmkfgkmnpohlaaGreat.Txt
namespace Go.Proofs.YtdmkfgkmnpohlaaGreat
open Go Go.Vc Txt
theorem qx2(l:List Int)(i b:Int)(hi:0<=i)(hb:0<=b):FnEq Tryz.prog 55 [.sl false 1 (ints l),.int i,.int b] (.bool (qwT l i b)):=by
 have e0: ∀(l:List Int) (j:Nat),l.getD j default=l.getD j 0:=fun _ _=>rfl
 refine FnEq.of_awp Tryz.func55 ok55 (by show 3<=_;decide) (by simp only[push_cast,reduceIte,reduceEqDiff,reduceAdd,reduceSub,reduceMul,Nat.reduceBEq,reduceLT,reduceLeDiff,reduceCtorEq,reduceToNat,reduceNeg]<;>first|exact fun _ _=>trivial|simp) ?_
 simp only[ac55,rv55,push_cast,reduceIte,reduceEqDiff,reduceAdd,reduceSub,reduceMul,Nat.reduceBEq,reduceLT,reduceLeDiff,reduceCtorEq,reduceToNat,reduceNeg]
 unfold qwT bitB
 refine qrq rfl (fun h=> ?_) fun h=> ?_<;>simp only[e0,push_cast,reduceIte,reduceEqDiff,reduceAdd,reduceSub,reduceMul,Nat.reduceBEq,reduceLT,reduceLeDiff,reduceCtorEq,reduceToNat,reduceNeg]
 ·rw[if_pos h]
  exact⟨by omega,by omega,by omega,rfl⟩
 ·rw[if_neg h]
theorem qx3(t:Int)(p:List Bool)(hp:p.length=4):FnEq Tryz.prog 81 [.int t,.sl false 1 (rows qk7 p)] (.bool (qwU t p)):=by
 have e0: ∀(l:List Bool) (j:Nat),l.getD j default=l.getD j false:=fun _ _=>rfl
 refine FnEq.of_awp Tryz.func81 ok81 (by show 2<=_;decide) (by simp only[push_cast,reduceIte,reduceEqDiff,reduceAdd,reduceSub,reduceMul,Nat.reduceBEq,reduceLT,reduceLeDiff,reduceCtorEq,reduceToNat,reduceNeg]<;>first|exact fun _ _=>trivial|simp) ?_
 simp only[ac81,rv81,push_cast,reduceIte,reduceEqDiff,reduceAdd,reduceSub,reduceMul,Nat.reduceBEq,reduceLT,reduceLeDiff,reduceCtorEq,reduceToNat,reduceNeg]
 rw[hp]
 refine qnR (fun h=>absurd h (by decide)) fun _=> ?_
 refine qoH (fun m st=> ∃k:Nat,k<=4/\m=4-k/\st=⟨[(0,.int t),(5,.int (atN p k)),(11,.sl false 1 (rows qk7 p)),(12,.int 4),(13,.int k)],[],[],[]⟩) 4 ?_ ?_
 ·refine⟨0,by omega,by omega,?_⟩
  simp only[atN,push_cast,reduceIte,reduceEqDiff,reduceAdd,reduceSub,reduceMul,Nat.reduceBEq,reduceLT,reduceLeDiff,reduceCtorEq,reduceToNat,reduceNeg]
  try rfl
 rintro m st ⟨k,hk,rfl,rfl⟩
 simp only[e0,push_cast,reduceIte,reduceEqDiff,reduceAdd,reduceSub,reduceMul,Nat.reduceBEq,reduceLT,reduceLeDiff,reduceCtorEq,reduceToNat,reduceNeg]
 refine qnR (fun h=> ?_) fun h=> ?_
 ·refine⟨by omega,by omega,?_⟩
  refine qnQ (fun e=> ?_) fun e=> ?_
  ·refine⟨by omega,by omega,_,?_,k+1,by omega,rfl,?_⟩
   ·omega
   ·rw[atN,if_pos e]
    simp
  ·refine⟨by omega,_,?_,k+1,by omega,rfl,?_⟩
   ·omega
   ·rw[atN,if_neg (by rw[e];decide)]
    simp
 ·have hk4:k=4:=by omega
  subst hk4
  refine⟨qx0 hp (by omega),?_⟩
  rw[qwU,hp,bitB]
theorem qx4(a b:List Int)(ha:(a.length:Int)<=1000000):FnEq Tryz.prog 21 [.sl false 1 (ints a),.sl false 1 (ints b)] (.bool (decide (a=b))):=by
 refine FnEq.of_awp Tryz.func21 ok21 (by show 2<=_;decide) (by simp only[push_cast,reduceIte,reduceEqDiff,reduceAdd,reduceSub,reduceMul,Nat.reduceBEq,reduceLT,reduceLeDiff,reduceCtorEq,reduceToNat,reduceNeg]<;>first|exact fun _ _=>trivial|simp) ?_
 simp only[ac21,rv21,push_cast,reduceIte,reduceEqDiff,reduceAdd,reduceSub,reduceMul,Nat.reduceBEq,reduceLT,reduceLeDiff,reduceCtorEq,reduceToNat,reduceNeg]
 refine qnR (fun h=> ?_) fun h=> ?_
 ·rw[decide_eq_false];intro e;exact h (by rw[e])
 have hab:a.length=b.length:=by omega
 refine qoH (fun m st=> ∃k:Nat,k<=a.length/\m=a.length-k/\a.take k=b.take k/\st=⟨[(0,.sl false 1 (ints a)),(1,.sl false 1 (ints b)),(5,.int k)],[],[],[]⟩) a.length ?_ ?_
 ·refine⟨0,by omega,by omega,by simp,?_⟩
  exact sC
 ·rintro m st ⟨k,hk,rfl,h1,rfl⟩
  refine sB ?_
  refine qnR (fun h2=> ?_) fun h2=> ?_
  ·have ka:k<a.length:=by omega
   have kb:k<b.length:=by omega
   have ga:a.getD k default=a[k]:=by simp[ka]
   have gb:b.getD k default=b[k]:=by simp[kb]
   rw[ga,gb]
   refine⟨⟨by omega,by omega⟩,ka,⟨by omega,by omega⟩,kb,qnR (fun h3=> ?_) fun h3=> ?_⟩
   ·rw[decide_eq_false];intro e;subst e;exact h3 rfl
   ·refine⟨by omega,_,?_,k+1,by omega,rfl,?_,?_⟩
    ·omega
    ·rw[List.take_succ_eq_append_getElem ka,List.take_succ_eq_append_getElem kb,h1,Classical.not_not.1 h3]
    ·simp
  ·rw[List.take_of_length_le (by omega),List.take_of_length_le (by omega)]at h1
   rw[decide_eq_true h1]
theorem qx5(a b:List Bool)(ha:(a.length:Int)<=1000000):FnEq Tryz.prog 14 [.sl false 1 (rows qk7 a),.sl false 1 (rows qk7 b)] (.bool (decide (a=b))):=by
 refine FnEq.of_awp Tryz.func14 ok14 (by show 2<=_;decide) (by simp only[push_cast,reduceIte,reduceEqDiff,reduceAdd,reduceSub,reduceMul,Nat.reduceBEq,reduceLT,reduceLeDiff,reduceCtorEq,reduceToNat,reduceNeg]<;>first|exact fun _ _=>trivial|simp) ?_
 simp only[ac14,rv14,push_cast,reduceIte,reduceEqDiff,reduceAdd,reduceSub,reduceMul,Nat.reduceBEq,reduceLT,reduceLeDiff,reduceCtorEq,reduceToNat,reduceNeg]
 refine qnR (fun h=> ?_) fun h=> ?_
 ·rw[decide_eq_false];intro e;exact h (by rw[e])
 have hab:a.length=b.length:=by omega
 refine qoH (fun m st=> ∃k:Nat,k<=a.length/\m=a.length-k/\a.take k=b.take k/\st=⟨[(0,.sl false 1 (rows qk7 a)),(1,.sl false 1 (rows qk7 b)),(5,.int k)],[],[],[]⟩) a.length ?_ ?_
 ·refine⟨0,by omega,by omega,by simp,?_⟩
  exact sC
 ·rintro m st ⟨k,hk,rfl,h1,rfl⟩
  refine sB ?_
  refine qnR (fun h2=> ?_) fun h2=> ?_
  ·have ka:k<a.length:=by omega
   have kb:k<b.length:=by omega
   have ga:a.getD k default=a[k]:=by simp[ka]
   have gb:b.getD k default=b[k]:=by simp[kb]
   rw[ga,gb]
   refine⟨by omega,by omega,by omega,by omega,qnQ (fun h3=> ?_) fun h3=> ?_⟩
   ·rw[decide_eq_false];intro e;subst e;simp at h3
   ·refine⟨by omega,_,?_,k+1,by omega,rfl,?_,?_⟩
    ·omega
    ·rw[List.take_succ_eq_append_getElem ka,List.take_succ_eq_append_getElem kb,h1,show a[k]=b[k]by simpa using h3]
    ·simp
  ·rw[List.take_of_length_le (by omega),List.take_of_length_le (by omega)]at h1
   rw[decide_eq_true h1]
theorem qx6(a b:List Bool)(ha:(a.length:Int)<=1000000):FnEq Tryz.prog 62 [.sl false 1 (rows qk7 a),.sl false 1 (rows qk7 b)] (.bool (decide (a=b))):=by
 refine FnEq.of_awp Tryz.func62 ok62 (by show 2<=_;decide) (by simp only[push_cast,reduceIte,reduceEqDiff,reduceAdd,reduceSub,reduceMul,Nat.reduceBEq,reduceLT,reduceLeDiff,reduceCtorEq,reduceToNat,reduceNeg]<;>first|exact fun _ _=>trivial|simp) ?_
 simp only[ac62,rv62,push_cast,reduceIte,reduceEqDiff,reduceAdd,reduceSub,reduceMul,Nat.reduceBEq,reduceLT,reduceLeDiff,reduceCtorEq,reduceToNat,reduceNeg]
 refine qnR (fun h=> ?_) fun h=> ?_
 ·rw[decide_eq_false];intro e;exact h (by rw[e])
 have hab:a.length=b.length:=by omega
 refine qoH (fun m st=> ∃k:Nat,k<=a.length/\m=a.length-k/\a.take k=b.take k/\st=⟨[(0,.sl false 1 (rows qk7 a)),(1,.sl false 1 (rows qk7 b)),(12,.int a.length),(13,.int k)],[],[],[]⟩) a.length ?_ ?_
 ·refine⟨0,by omega,by omega,by simp,?_⟩
  exact sC
 ·rintro m st ⟨k,hk,rfl,h1,rfl⟩
  refine sB ?_
  refine qnR (fun h2=> ?_) fun h2=> ?_
  ·have ka:k<a.length:=by omega
   have kb:k<b.length:=by omega
   have ga:a.getD k default=a[k]:=by simp[ka]
   have gb:b.getD k default=b[k]:=by simp[kb]
   rw[ga,gb]
   refine⟨by omega,by omega,by omega,by omega,qnQ (fun h3=> ?_) fun h3=> ?_⟩
   ·rw[decide_eq_false];intro e;subst e;simp at h3
   ·refine⟨by omega,_,?_,k+1,by omega,rfl,?_,?_⟩
    ·omega
    ·rw[List.take_succ_eq_append_getElem ka,List.take_succ_eq_append_getElem kb,h1,show a[k]=b[k]by simpa using h3]
    ·simp
  ·rw[List.take_of_length_le (by omega),List.take_of_length_le (by omega)]at h1
   rw[decide_eq_true h1]
def qx7(n:Nat)(l:List Int):List Bool:=(List.range n).map fun i=>if i<l.length then decide (l.getD i 0%2=1)else false
theorem qx8(n:Nat)(hn:(n:Int)<=1000000)(l:List Int)(hl:(l.length:Int)<=9223372036854775807)(hb: ∀x∈l,0<=x/\x<=255):FnEq Tryz.prog 12 [.int n,.sl false 1 (qk8 l)] (.sl true 1 (rows qk7 (qx7 n l))):=by
 have e0: ∀(l:List Int) (j:Nat),l.getD j default=l.getD j 0:=fun _ _=>rfl
 refine FnEq.of_awp Tryz.func12 ok12 (by show 2<=_;decide) (by simp only[push_cast,reduceIte,reduceEqDiff,reduceAdd,reduceSub,reduceMul,Nat.reduceBEq,reduceLT,reduceLeDiff,reduceCtorEq,reduceToNat,reduceNeg]<;>first|exact fun _ _=>trivial|simp) ?_
 simp only[ac12,rv12,push_cast,reduceIte,reduceEqDiff,reduceAdd,reduceSub,reduceMul,Nat.reduceBEq,reduceLT,reduceLeDiff,reduceCtorEq,reduceToNat,reduceNeg]
 refine qoH (fun m st=> ∃k:Nat,k<=n/\m=n-k/\st=⟨[(0,.int n),(1,.sl false 1 (qk8 l)),(5,.view 7 0 k),(6,.int k)],[],[(7,⟨1,4,rows qk7 (qx7 k l)⟩)],[]⟩) n ?_ ?_
 ·refine⟨0,by omega,by omega,?_⟩
  refine sB ?_
  rfl
 rintro m st ⟨k,hk,rfl,rfl⟩
 simp only[e0,push_cast,reduceIte,reduceEqDiff,reduceAdd,reduceSub,reduceMul,Nat.reduceBEq,reduceLT,reduceLeDiff,reduceCtorEq,reduceToNat,reduceNeg]
 have hs:qx7 (k+1) l=qx7 k l++[if k<l.length then decide (l.getD k 0%2=1)else false]:=by simp[qx7,List.range_succ]
 have hL:(qx7 k l).length=k:=by simp[qx7]
 refine qnR (fun h=> ?_) fun h=> ?_
 ·refine qrq rfl (fun h1=> ?_) fun h1=> ?_<;>simp only[e0,push_cast,reduceIte,reduceEqDiff,reduceAdd,reduceSub,reduceMul,Nat.reduceBEq,reduceLT,reduceLeDiff,reduceCtorEq,reduceToNat,reduceNeg]
  ·have h1' :k<l.length:=by omega
   have hx:=hb _ (show l.getD k 0∈l by simp[List.getD_eq_getElem?_getD,h1'])
   rw[if_pos h1']at hs
   refine⟨by omega,by omega,by omega,by simp,by omega,by omega,_,?_,k+1,by omega,rfl,?_⟩
   ·omega
   ·rw[hs]
    simp
  ·have h1' : ¬k<l.length:=by omega
   rw[if_neg h1']at hs
   refine⟨by simp,by omega,by omega,_,?_,k+1,by omega,rfl,?_⟩
   ·omega
   ·rw[hs]
    simp
 ·rw[show n=k by omega,List.take_of_length_le (by omega)]
  exact⟨fun _ _=>trivial,.refl _⟩
end Go.Proofs.YtdmkfgkmnpohlaaGreat
