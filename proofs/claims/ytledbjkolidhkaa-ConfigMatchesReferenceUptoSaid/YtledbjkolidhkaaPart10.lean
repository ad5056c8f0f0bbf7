/- TxtB M N VcZp TxtE VcZq O P Q: lemmas -/
import Derived.Test.YtledbjkolidhkaaPart06
import Derived.Test.YtledbjkolidhkaaChecked
import Derived.Test.YtledbjkolidhkaaPart09
import Derived.Recover
set_option linter.unusedSimpArgs false
set_option linter.unusedVariables false
open Nat (reduceEqDiff reduceAdd reduceSub reduceMul reduceLT reduceLeDiff)
open Int (reduceToNat reduceNeg)
namespace Go.Proofs.Ytledbjkolidhkaa.Txt
open Go Go.Vc
set_option maxRecDepth 100000
def ac51b_r10 : AC :=
 (.seq (.seq (.reg [0,107,3,4,5] [
 (aO 62 (.ld true 4 (.t 5))),(aO 63 (.cal 74 [(.t 62)]))])
 (.cond (.t 63)
 (.seq (.reg [0,107,3,4,5] [
 (aO 64 (.ld true 4 (.t 4))),(aO 65 (.ld true 4 (.t 5))),(aO 66 (.eqa true 4 (.t 64) (.t 65))),(aO 67 (.mv (.t 66))),⟨some 68,some (67,true),.fa 3 (.t 4)⟩,⟨some 69,some (67,true),.ld false 1 (.t 68)⟩,⟨some 70,some (67,true),.fa 3 (.t 5)⟩,⟨some 71,some (67,true),.ld false 1 (.t 70)⟩,⟨some 72,some (67,true),.cmp .eql .i64 (.t 69) (.t 71)⟩,(aO 73 (.pick (.t 67) (.t 72) (.c (.sc (.bool false))))),(aO 74 (.mv (.t 73))),⟨some 75,some (74,true),.ld true 5 (.t 3)⟩,⟨some 76,some (74,true),.ld true 4 (.t 4)⟩,⟨some 77,some (74,true),.ld true 4 (.t 5)⟩,⟨some 78,some (74,true),.cal 75 [(.t 75),(.t 76),(.t 77)]⟩,(aO 79 (.pick (.t 74) (.t 78) (.c (.sc (.bool false))))),(aO 6 (.mv (.t 79)))])
 .ret)
 .skip))
 (.seq (.reg [0,107,3,4,5] [
 (aO 80 (.fa 0 (.t 5))),(aO 81 (.ld false 1 (.t 80))),(aO 82 (.cmp .eql .i64 (.t 81) (kI 3))),(aO 83 (.mv (.t 82))),⟨some 84,some (83,true),.ld true 5 (.t 3)⟩,⟨some 85,some (83,true),.ld true 4 (.t 4)⟩,⟨some 86,some (83,true),.fa 1 (.t 5)⟩,⟨some 87,some (83,true),.ld false 1 (.t 86)⟩,⟨some 88,some (83,true),.fa 2 (.t 5)⟩,⟨some 89,some (83,true),.ld false 1 (.t 88)⟩,⟨some 90,some (83,true),.cal 73 [(.t 84),(.t 85),(.t 87),(.t 89)]⟩,(aO 91 (.pick (.t 83) (.t 90) (.c (.sc (.bool false))))),(aO 92 (.mv (.t 91))),⟨some 93,some (92,false),.fa 0 (.t 5)⟩,⟨some 94,some (92,false),.ld false 1 (.t 93)⟩,⟨some 95,some (92,false),.cmp .eql .i64 (.t 94) (kI 7)⟩,⟨some 96,some (92,false),.mv (.t 95)⟩,⟨some 97,some (96,true),.ld true 5 (.t 3)⟩,⟨some 98,some (96,true),.ld true 4 (.t 4)⟩,⟨some 99,some (96,true),.fa 0 (.t 3)⟩,⟨some 100,some (96,true),.ld false 1 (.t 99)⟩,⟨some 101,some (96,true),.ari .sub true .i64 (.t 100) (kI 1)⟩,⟨some 102,some (96,true),.fa 2 (.t 5)⟩,⟨some 103,some (96,true),.ld false 1 (.t 102)⟩,⟨some 104,some (96,true),.cal 73 [(.t 97),(.t 98),(.t 101),(.t 103)]⟩,⟨some 105,some (92,false),.pick (.t 96) (.t 104) (.c (.sc (.bool false)))⟩,(aO 106 (.pick (.t 92) (.c (.sc (.bool true))) (.t 105))),(aO 6 (.mv (.t 106)))])
 .ret))
def ac51b : AC :=
 (.seq (.reg [0,107,0,1,2] [
 (aO 3 (.box (.t 0))),(aO 4 (.box (.t 1))),(aO 5 (.box (.t 2))),(aO 6 (.mv (.c (.sc (.bool false)))))])
 (.seq (.seq (.reg [0,107,3,4,5] [
 (aO 7 (.fa 0 (.t 4))),(aO 8 (.ld false 1 (.t 7)))])
 (.block 0
 (.seq (.reg [0,107,3,4,5,8] [
 (aO 10 (.cmp .eql .i64 (.t 8) (kI 1))),(aO 9 (.mv (.t 10)))])
 (.cond (.t 9)
 (.seq (.reg [0,107,3,4,5] [
 (aO 11 (.ld true 5 (.t 3))),(aO 12 (.ld true 4 (.t 5))),(aO 13 (.fa 1 (.t 4))),(aO 14 (.ld false 1 (.t 13))),(aO 15 (.fa 2 (.t 4))),(aO 16 (.ld false 1 (.t 15))),(aO 17 (.cal 73 [(.t 11),(.t 12),(.t 14),(.t 16)])),(aO 18 (.mv (.t 17))),⟨some 19,some (18,false),.fa 0 (.t 5)⟩,⟨some 20,some (18,false),.ld false 1 (.t 19)⟩,⟨some 21,some (18,false),.cmp .eql .i64 (.t 20) (kI 3)⟩,⟨some 22,some (18,false),.mv (.t 21)⟩,⟨some 23,some (22,true),.fa 3 (.t 5)⟩,⟨some 24,some (22,true),.ld false 1 (.t 23)⟩,⟨some 25,some (22,true),.cmp .eql .i64 (.t 24) (kI 3)⟩,⟨some 26,some (18,false),.pick (.t 22) (.t 25) (.c (.sc (.bool false)))⟩,⟨some 27,some (18,false),.mv (.t 26)⟩,⟨some 28,some (27,true),.fa 1 (.t 5)⟩,⟨some 29,some (27,true),.ld false 1 (.t 28)⟩,⟨some 30,some (27,true),.fa 1 (.t 4)⟩,⟨some 31,some (27,true),.ld false 1 (.t 30)⟩,⟨some 32,some (27,true),.cmp .eql .i64 (.t 29) (.t 31)⟩,⟨some 33,some (18,false),.pick (.t 27) (.t 32) (.c (.sc (.bool false)))⟩,⟨some 34,some (18,false),.mv (.t 33)⟩,⟨some 35,some (34,true),.fa 2 (.t 5)⟩,⟨some 36,some (34,true),.ld false 1 (.t 35)⟩,⟨some 37,some (34,true),.fa 2 (.t 4)⟩,⟨some 38,some (34,true),.ld false 1 (.t 37)⟩,⟨some 39,some (34,true),.ari .add true .i64 (.t 38) (kI 1)⟩,⟨some 40,some (34,true),.cmp .eql .i64 (.t 36) (.t 39)⟩,⟨some 41,some (18,false),.pick (.t 34) (.t 40) (.c (.sc (.bool false)))⟩,(aO 42 (.pick (.t 18) (.c (.sc (.bool true))) (.t 41))),(aO 6 (.mv (.t 42)))])
 .ret)
 (.seq (.reg [0,107,3,4,5,8] [
 (aO 44 (.cmp .eql .i64 (.t 8) (kI 2))),(aO 43 (.mv (.t 44)))])
 (.cond (.t 43)
 (.seq (.reg [0,107,3,4,5] [
 (aO 45 (.ld true 5 (.t 3))),(aO 46 (.ld true 4 (.t 5))),(aO 47 (.fa 1 (.t 4))),(aO 48 (.ld false 1 (.t 47))),(aO 49 (.fa 2 (.t 4))),(aO 50 (.ld false 1 (.t 49))),(aO 51 (.cal 73 [(.t 45),(.t 46),(.t 48),(.t 50)])),(aO 6 (.mv (.t 51)))])
 .ret)
 (.seq (.reg [0,107,3,4,5,8] [
 (aO 53 (.cmp .eql .i64 (.t 8) (kI 6))),(aO 52 (.mv (.t 53)))])
 (.cond (.t 52)
 (.seq (.reg [0,107,3,4,5] [
 (aO 54 (.ld true 5 (.t 3))),(aO 55 (.ld true 4 (.t 5))),(aO 56 (.fa 2 (.t 4))),(aO 57 (.ld false 1 (.t 56))),(aO 58 (.cal 73 [(.t 54),(.t 55),(kI 0),(.t 57)])),(aO 6 (.mv (.t 58)))])
 .ret)
 (.seq (.seq (.reg [0,107,3,4,5,8] [
 (aO 60 (.cmp .eql .i64 (.t 8) (kI 4))),(aO 59 (.mv (.t 60)))])
 (.cond (.t 59)
 .skip
 (.reg [0,107,3,4,5,8] [
 (aO 61 (.cmp .eql .i64 (.t 8) (kI 5))),(aO 59 (.mv (.t 61)))])))
 (.cond (.t 59)
 ac51b_r10
 .skip))))))))))
 (.seq (.reg [0,107] [
 (aO 6 (.mv (.c (.sc (.bool false)))))])
 .ret)))
def rv51b : List RV := [.tmp 6]
theorem ok51b : fnOk Try.prog ac51b rv51b Try.f51 = true := by kernel_rfl
end Go.Proofs.Ytledbjkolidhkaa.Txt
namespace Go.Proofs.Ytledbjkolidhkaa
open Go Go.Vc Txt
def Meet (g : Grid) (a b : Spot) : Prop := Adj g b a.x a.y \/ (a.kind = 4 /\ Adj g b (a.x + 1) a.y) \/ (a.kind = 5 /\ Adj g b a.x (a.y + 1))
instance (g : Grid) (a b : Spot) : Decidable (Meet g a b) := by unfold Meet; infer_instance
theorem wire_ok (s : Spot) : FnEq Try.prog 74 [.agg (spotC s)] (.bool (decide (s.kind = 4 \/ s.kind = 5))) := by
 obtain ⟨k,x,y,i⟩ := s
 refine FnEq.of_awp Try.func74 ok74 (by show 1 <= _; decide) (by simp only [push_cast,reduceIte,reduceEqDiff,reduceAdd,reduceSub,reduceMul,Nat.reduceBEq,reduceLT,reduceLeDiff,reduceCtorEq,reduceToNat,reduceNeg] <;> first | exact fun _ _ => trivial | simp) ?_
 simp only [ac74,rv74,push_cast,reduceIte,reduceEqDiff,reduceAdd,reduceSub,reduceMul,Nat.reduceBEq,reduceLT,reduceLeDiff,reduceCtorEq,reduceToNat,reduceNeg]
 refine grd_decf rfl (fun h => ?_) fun h => ?_ <;> refine sB ?_
 ·simp [h]
 ·simp [h]
theorem meet_ok (g : Grid) (a b : Spot) (ha : SOk a) (hb : SOk b) : FnEq Try.prog 75 [.agg (gridC false g),.agg (spotC a),.agg (spotC b)] (.bool (decide (Meet g a b))) := by
 have hx := ha.x
 have hy := ha.y
 have c1 := adj_ok g b hb a.x a.y
 have c2 := adj_ok g b hb (a.x + 1) a.y
 have c3 := adj_ok g b hb a.x (a.y + 1)
 obtain ⟨k,x,y,i⟩ := a
 simp only at hx hy c1 c2 c3
 refine FnEq.of_awp Try.func75 ok75 (by show 3 <= _; decide) (by simp only [push_cast,reduceIte,reduceEqDiff,reduceAdd,reduceSub,reduceMul,Nat.reduceBEq,reduceLT,reduceLeDiff,reduceCtorEq,reduceToNat,reduceNeg] <;> first | exact fun _ _ => trivial | simp) ?_
 simp only [ac75,rv75,push_cast,reduceIte,reduceEqDiff,reduceAdd,reduceSub,reduceMul,Nat.reduceBEq,reduceLT,reduceLeDiff,reduceCtorEq,reduceToNat,reduceNeg]
 by_cases h1 : Adj g b x y
 ·rw [decide_eq_true h1] at c1
  refine cal_sub c1 sC ?_
  refine sB ?_
  rw [decide_eq_true (show Meet g ⟨k,x,y,i⟩ b from .inl h1)]
 ·rw [decide_eq_false h1] at c1
  refine cal_sub c1 sC ?_
  refine sB ?_
  refine grd_dec rfl (fun h4 => ?_) fun h4 => ?_ <;> refine sB ?_
  ·refine ⟨by omega,?_⟩
   by_cases h2 : Adj g b (x + 1) y
   ·rw [decide_eq_true h2] at c2
    refine cal_sub c2 sC ?_
    refine sB ?_
    rw [decide_eq_true (show Meet g ⟨k,x,y,i⟩ b from .inr (.inl ⟨h4,h2⟩))]
   ·rw [decide_eq_false h2] at c2
    refine cal_sub c2 sC ?_
    refine sB ?_
    refine grd_dec rfl (fun h5 => absurd (h4.symm.trans h5) (by decide)) fun _ => ?_
    refine sB ?_
    rw [decide_eq_false (show ¬ Meet g ⟨k,x,y,i⟩ b from fun h => h.elim h1 fun h => h.elim (fun h => h2 h.2) fun h => absurd (h4.symm.trans h.1) (by decide))]
  ·refine grd_dec rfl (fun h5 => ?_) fun h5 => ?_ <;> refine sB ?_
   ·refine ⟨by omega,?_⟩
    refine cal_sub c3 sC ?_
    refine sB ?_
    rw [show decide (Adj g b x (y + 1)) = decide (Meet g ⟨k,x,y,i⟩ b) from by
     rw [decide_eq_decide]
     exact ⟨fun h => .inr (.inr ⟨h5,h⟩),fun h => h.elim (fun h => absurd h h1) fun h => h.elim (fun h => absurd h.1 h4) fun h => h.2⟩]
   ·rw [decide_eq_false (show ¬ Meet g ⟨k,x,y,i⟩ b from fun h => h.elim h1 fun h => h.elim (fun h => h4 h.1) fun h => h5 h.1)]
def CanD (g : Grid) (a b : Spot) : Prop :=
 if a.kind = 1 then Adj g b a.x a.y \/ (b.kind = 3 /\ b.i = 3 /\ b.x = a.x /\ b.y = a.y + 1)
 else if a.kind = 2 then Adj g b a.x a.y
 else if a.kind = 6 then Adj g b 0 a.y
 else if a.kind = 4 \/ a.kind = 5 then
  (if b.kind = 4 \/ b.kind = 5 then a ≠ b /\ a.i = b.i /\ Meet g a b else (b.kind = 3 /\ Adj g a b.x b.y) \/ (b.kind = 7 /\ Adj g a (g.w - 1) b.y))
 else False
instance (g : Grid) (a b : Spot) : Decidable (CanD g a b) := by unfold CanD; infer_instance
theorem can_wire (g : Grid) (hg : GOk g) (a b : Spot) (ha : SOk a) (hb : SOk b) (hk : a.kind = 4 \/ a.kind = 5) (st : St) (hst : st.keepS [0, 107, 3, 4, 5] = ⟨[(3, .ptr 3 0), (4, .ptr 4 0), (5, .ptr 5 0)], [(3, gridC false g), (4, spotC a), (5, spotC b)], [], []⟩) :
  awp (Env.of Try.prog) ac51b_r10 (retK [RV.tmp 6] fun v => Sub v (.bool (decide (CanD g a b)))) st := by
 have hw := hg.w
 have c3 := wire_ok b
 have c4 := meet_ok g a b ha hb
 have c5 := adj_ok g a ha b.x b.y
 have c6 := adj_ok g a ha (g.w - 1) b.y
 have hC : CanD g a b ↔ (if b.kind = 4 \/ b.kind = 5 then a ≠ b /\ a.i = b.i /\ Meet g a b else (b.kind = 3 /\ Adj g a b.x b.y) \/ (b.kind = 7 /\ Adj g a (g.w - 1) b.y)) := by
  rw [CanD,if_neg (by omega),if_neg (by omega),if_neg (by omega),if_pos hk]
 simp only [ac51b_r10,push_cast,reduceIte,reduceEqDiff,reduceAdd,reduceSub,reduceMul,Nat.reduceBEq,reduceLT,reduceLeDiff,reduceCtorEq,reduceToNat,reduceNeg,hst]
 by_cases hb4 : b.kind = 4 \/ b.kind = 5
 ·rw [if_pos hb4] at hC
  rw [decide_eq_true hb4] at c3
  refine cal_sub c3 sC ?_
  refine sB ?_
  rw [spot_eqb a b]
  by_cases hab : a = b
  ·rw [decide_eq_true hab]
   simp only [Bool.not_true,push_cast,reduceIte,reduceEqDiff,reduceAdd,reduceSub,reduceMul,Nat.reduceBEq,reduceLT,reduceLeDiff,reduceCtorEq,reduceToNat,reduceNeg]
   rw [decide_eq_false (show ¬ CanD g a b from fun h => (hC.1 h).1 hab)]
  ·rw [decide_eq_false hab]
   simp only [Bool.not_false,push_cast,reduceIte,reduceEqDiff,reduceAdd,reduceSub,reduceMul,Nat.reduceBEq,reduceLT,reduceLeDiff,reduceCtorEq,reduceToNat,reduceNeg]
   refine grd_dec rfl (fun hi => ?_) fun hi => ?_ <;> refine sB ?_
   ·refine cal_sub c4 sC ?_
    refine sB ?_
    rw [show decide (Meet g a b) = decide (CanD g a b) from by rw [decide_eq_decide,hC]; exact ⟨fun h => ⟨hab,hi,h⟩,fun h => h.2.2⟩]
   ·rw [decide_eq_false (show ¬ CanD g a b from fun h => hi (hC.1 h).2.1)]
 ·rw [if_neg hb4] at hC
  rw [decide_eq_false hb4] at c3
  refine cal_sub c3 sC ?_
  refine sB ?_
  refine grd_dec rfl (fun h3 => ?_) fun h3 => ?_ <;> refine sB ?_
  ·by_cases h5 : Adj g a b.x b.y
   ·rw [decide_eq_true h5] at c5
    refine cal_sub c5 sC ?_
    refine sB ?_
    rw [decide_eq_true (hC.2 (.inl ⟨h3,h5⟩))]
   ·rw [decide_eq_false h5] at c5
    refine cal_sub c5 sC ?_
    refine sB ?_
    refine grd_dec rfl (fun h7 => absurd (h3.symm.trans h7) (by decide)) fun h7 => ?_
    refine sB ?_
    rw [decide_eq_false (show ¬ CanD g a b from fun h => (hC.1 h).elim (fun h => h5 h.2) fun h => h7 h.1)]
  ·refine grd_dec rfl (fun h7 => ?_) fun h7 => ?_ <;> refine sB ?_
   ·refine ⟨by omega,?_⟩
    refine cal_sub c6 sC ?_
    refine sB ?_
    rw [show decide (Adj g a (g.w - 1) b.y) = decide (CanD g a b) from by rw [decide_eq_decide,hC]; exact ⟨fun h => .inr ⟨h7,h⟩,fun h => h.elim (fun h => absurd h.1 h3) fun h => h.2⟩]
   ·rw [decide_eq_false (show ¬ CanD g a b from fun h => (hC.1 h).elim (fun h => h3 h.1) fun h => h7 h.1)]
set_option maxHeartbeats 2000000 in
theorem can_ok (g : Grid) (hg : GOk g) (a b : Spot) (ha : SOk a) (hb : SOk b) : FnEq Try.prog 51 [.agg (gridC false g),.agg (spotC a),.agg (spotC b)] (.bool (decide (CanD g a b))) := by
 have hx := ha.x
 have hy := ha.y
 have hw := hg.w
 have c1 := adj_ok g b hb a.x a.y
 have c2 := adj_ok g b hb 0 a.y
 have c3 := wire_ok b
 have c4 := meet_ok g a b ha hb
 have c5 := adj_ok g a ha b.x b.y
 have c6 := adj_ok g a ha (g.w - 1) b.y
 refine FnEq.of_awp Try.func51 ok51b (by show 3 <= _; decide) (by simp only [push_cast,reduceIte,reduceEqDiff,reduceAdd,reduceSub,reduceMul,Nat.reduceBEq,reduceLT,reduceLeDiff,reduceCtorEq,reduceToNat,reduceNeg] <;> first | exact fun _ _ => trivial | simp) ?_
 simp only [ac51b,rv51b,push_cast,reduceIte,reduceEqDiff,reduceAdd,reduceSub,reduceMul,Nat.reduceBEq,reduceLT,reduceLeDiff,reduceCtorEq,reduceToNat,reduceNeg]
 refine cond_dec (fun k1 => ?_) fun k1 => ?_
 ·have hC : CanD g a b ↔ Adj g b a.x a.y \/ (b.kind = 3 /\ b.i = 3 /\ b.x = a.x /\ b.y = a.y + 1) := by rw [CanD,if_pos k1]
  by_cases h1 : Adj g b a.x a.y
  ·rw [decide_eq_true h1] at c1
   refine cal_sub c1 sC ?_
   refine sB ?_
   rw [decide_eq_true (hC.2 (.inl h1))]
  ·rw [decide_eq_false h1] at c1
   refine cal_sub c1 sC ?_
   refine sB ?_
   have hC : CanD g a b ↔ (b.kind = 3 /\ b.i = 3 /\ b.x = a.x /\ b.y = a.y + 1) := hC.trans ⟨fun h => h.elim (fun h => absurd h h1) (fun h => h),.inr⟩
   refine grd_dec rfl (fun g1 => ?_) fun g1 => ?_ <;> refine sB ?_
   ·refine grd_dec rfl (fun g2 => ?_) fun g2 => ?_ <;> refine sB ?_
    ·refine grd_dec rfl (fun g3 => ?_) fun g3 => ?_ <;> refine sB ?_
     ·refine ⟨by omega,?_⟩
      rw [show decide (b.y = a.y + 1) = decide (CanD g a b) from by rw [decide_eq_decide,hC]; exact ⟨fun h => ⟨g1,g2,g3,h⟩,fun h => h.2.2.2⟩]
     ·rw [decide_eq_false (show ¬ CanD g a b from fun h => g3 (hC.1 h).2.2.1)]
    ·rw [decide_eq_false (show ¬ CanD g a b from fun h => g2 (hC.1 h).2.1)]
   ·rw [decide_eq_false (show ¬ CanD g a b from fun h => g1 (hC.1 h).1)]
 refine cond_dec (fun k2 => ?_) fun k2 => ?_
 ·refine cal_sub c1 sC ?_
  refine sB ?_
  rw [show decide (Adj g b a.x a.y) = decide (CanD g a b) from by rw [decide_eq_decide,CanD,if_neg k1,if_pos k2]]
 refine cond_dec (fun k6 => ?_) fun k6 => ?_
 ·refine cal_sub c2 sC ?_
  refine sB ?_
  rw [show decide (Adj g b 0 a.y) = decide (CanD g a b) from by rw [decide_eq_decide,CanD,if_neg k1,if_neg k2,if_pos k6]]
 refine cond_dec (fun k4 => cond_dec (fun _ => ?_) fun h => absurd k4 h) fun k4 => ?_
 ·exact can_wire g hg a b ha hb (.inl k4) _ sC
 refine cond_dec (fun k5 => ?_) fun k5 => ?_
 ·exact can_wire g hg a b ha hb (.inr k5) _ sC
 ·rw [decide_eq_false (show ¬ CanD g a b from fun h => by rw [CanD,if_neg k1,if_neg k2,if_neg k6,if_neg (fun h => h.elim k4 k5)] at h; exact h)]
def spottedC (p : Spot × Int) : List PV := [.int p.1.kind,.int p.1.x,.int p.1.y,.int p.1.i,.int p.2]
@[push_cast] theorem spottedC_eq (p : Spot × Int) : spottedC p = [.int p.1.kind,.int p.1.x,.int p.1.y,.int p.1.i,.int p.2] := rfl
theorem rdesc_ok (g : Grid) (hg : GOk g) (n : Int) (hn : -1000000000 <= n /\ n <= 1000000000) : FnEq Try.prog 50 [.agg (gridC false g),.int n] (.agg (spottedC (descE g n))) := by
 have h1 := hg.all
 have h2 := hg.each
 have h3 := hg.count
 have h4 := hg.pads
 have hw := hg.w
 have hh := hg.h
 have ht := hg.tracks
 have h5 := hg.wh
 have hc : countF g = allI g + 2 * g.pads := rfl
 have e : g.w * g.h * eachI g = allI g := rfl
 refine FnEq.of_awp Try.func50 ok50 (by show 2 <= _; decide) (by simp only [push_cast,reduceIte,reduceEqDiff,reduceAdd,reduceSub,reduceMul,Nat.reduceBEq,reduceLT,reduceLeDiff,reduceCtorEq,reduceToNat,reduceNeg] <;> first | exact fun _ _ => trivial | simp) ?_
 simp only [ac50,rv50,push_cast,reduceIte,reduceEqDiff,reduceAdd,reduceSub,reduceMul,Nat.reduceBEq,reduceLT,reduceLeDiff,reduceCtorEq,reduceToNat,reduceNeg]
 refine cut_of ⟨[(1,.int n),(2,.ptr 2 0),(4,.ptr 4 0),(18,.bool (decide (n < 0 \/ countF g <= n)))],[(2,gridC false g),(4,[.int 0,.int 0,.int 0,.int 0,.int 0])],[],[]⟩ ?_ ?_
 ·refine grd_decf rfl (fun h => ?_) fun h => ?_ <;> refine sB ?_
  ·rw [decide_eq_true (show n < 0 \/ countF g <= n from .inl h)]
  ·refine cal_sub (rcount_ok g hg) sC ?_
   refine sB ?_
   rw [show decide (countF g <= n) = decide (n < 0 \/ countF g <= n) from by rw [decide_eq_decide]; omega]
 refine sB ?_
 refine cond_dec (fun h => ?_) fun h => ?_
 ·rw [descE,if_pos h]
  exact sC
 have hE : descE g n = (descF g n,0) := by rw [descE,if_neg h]
 rw [hE]
 refine ⟨by omega,?_⟩
 refine dcal_sub (reach_ok g hg) sC rfl ?_
 refine sB ?_
 rw [e]
 refine ⟨by omega,by omega,?_⟩
 refine cond_dec (fun h6 => ?_) fun h6 => ?_
 ·rw [descF,if_pos h6]
  exact ⟨by omega,by omega,by omega,rfl,rfl,rfl,rfl⟩
 refine cond_dec (fun h7 => ?_) fun h7 => ?_
 ·rw [descF,if_neg h6,if_pos h7]
  exact ⟨by omega,by omega,rfl,rfl,rfl,rfl⟩
 have hd : descF g n = (if 6 + g.tracks <= n % eachI g then ⟨5,n / eachI g % g.w,n / eachI g / g.w,n % eachI g - 6 - g.tracks⟩ else if 6 <= n % eachI g then ⟨4,n / eachI g % g.w,n / eachI g / g.w,n % eachI g - 6⟩ else if 2 <= n % eachI g then ⟨3,n / eachI g % g.w,n / eachI g / g.w,n % eachI g - 2⟩ else if n % eachI g = 1 then ⟨2,n / eachI g % g.w,n / eachI g / g.w,0⟩ else ⟨1,n / eachI g % g.w,n / eachI g / g.w,0⟩) := by rw [descF,if_neg h6,if_neg h7]
 have e1 : 0 <= n / eachI g /\ n / eachI g <= n := ⟨Int.ediv_nonneg (by omega) (by omega),Int.ediv_le_self _ (by omega)⟩
 have e2 := Int.emod_nonneg n (show eachI g ≠ 0 by omega)
 have e3 := Int.emod_lt_of_pos n (show 0 < eachI g by omega)
 have e4 : eachI g = 6 + 2 * g.tracks := rfl
 refine dcal_sub (reach_ok g hg) sC rfl ?_
 refine sB ?_
 refine ⟨by omega,?_⟩
 refine dcal_sub (reach_ok g hg) sC rfl ?_
 refine sB ?_
 refine ⟨by omega,by omega,by omega,?_⟩
 refine cond_dec (fun k0 => ?_) fun k0 => ?_
 ·rw [hd,if_neg (show ¬ 6 + g.tracks <= n % eachI g by omega),if_neg (show ¬ 6 <= n % eachI g by omega),if_neg (show ¬ 2 <= n % eachI g by omega),if_neg (show ¬ n % eachI g = 1 by omega)]
  exact ⟨rfl,rfl,rfl,rfl⟩
 refine cond_dec (fun k1 => ?_) fun k1 => ?_
 ·rw [hd,if_neg (show ¬ 6 + g.tracks <= n % eachI g by omega),if_neg (show ¬ 6 <= n % eachI g by omega),if_neg (show ¬ 2 <= n % eachI g by omega),if_pos k1]
  exact ⟨rfl,rfl,rfl,rfl⟩
 refine cond_dec (fun k2 => ?_) fun k2 => ?_
 ·rw [hd,if_neg (show ¬ 6 + g.tracks <= n % eachI g by omega),if_neg (show ¬ 6 <= n % eachI g by omega),if_pos (show 2 <= n % eachI g by omega)]
  exact ⟨by omega,rfl,rfl,rfl,rfl⟩
 refine ⟨by omega,?_⟩
 refine cond_dec (fun k3 => ?_) fun k3 => ?_
 ·rw [hd,if_neg (show ¬ 6 + g.tracks <= n % eachI g by omega),if_pos (show 6 <= n % eachI g by omega)]
  exact ⟨by omega,rfl,rfl,rfl,rfl⟩
 ·rw [hd,if_pos (show 6 + g.tracks <= n % eachI g by omega)]
  exact ⟨by omega,by omega,rfl,rfl,rfl,rfl⟩
def candN (g : Grid) (s : Spot) : Nat -> List Int
 | 0 => []
 | k + 1 => candN g s k ++ if CanD g (descF g k) s then [(k : Int)] else []
def rdrF (g : Grid) (n : Int) : List Int := if (descE g n).2 = 0 then candN g (descE g n).1 (countF g).toNat else []
theorem candN_len (g : Grid) (s : Spot) : ∀ k,(candN g s k).length <= k
 | 0 => Nat.le_refl _
 | k + 1 => by have := candN_len g s k; rw [candN,List.length_append]; split <;> simp <;> omega
theorem rdrivers_ok (g : Grid) (hg : GOk g) (n : Int) (hn : -1000000000 <= n /\ n <= 1000000000) : FnEq Try.prog 31 [.agg (gridC false g),.int n] (.sl true 1 (ints (rdrF g n))) := by
 have h3 := hg.count
 have hD := rdesc_ok g hg n hn
 obtain ⟨c,hc⟩ : ∃ c : Nat,countF g = c := ⟨(countF g).toNat,by omega⟩
 have hct : (countF g).toNat = c := by omega
 refine FnEq.of_awp Try.func31 ok31 (by show 2 <= _; decide) (by simp only [push_cast,reduceIte,reduceEqDiff,reduceAdd,reduceSub,reduceMul,Nat.reduceBEq,reduceLT,reduceLeDiff,reduceCtorEq,reduceToNat,reduceNeg] <;> first | exact fun _ _ => trivial | simp) ?_
 simp only [ac31,rv31,push_cast,reduceIte,reduceEqDiff,reduceAdd,reduceSub,reduceMul,Nat.reduceBEq,reduceLT,reduceLeDiff,reduceCtorEq,reduceToNat,reduceNeg]
 by_cases hE : n < 0 \/ countF g <= n
 ·have e : descE g n = (⟨0,0,0,0⟩,1) := by rw [descE,if_pos hE]
  have e2 : rdrF g n = [] := by rw [rdrF,e]; rfl
  rw [e2]
  rw [e] at hD
  refine cal_sub hD sC ?_
  refine sB ?_
  refine loop_of (fun m st => m = 0 /\ st = ⟨[(2,.ptr 2 0),(5,.view 8 0 0),(6,.ptr 6 0),(7,.int 0)],[(2,gridC false g),(6,[.int 0,.int 0,.int 0,.int 0,.int 1])],[(8,⟨1,3,ints []⟩)],[]⟩) 0 ?_ ?_
  ·refine ⟨rfl,?_⟩
   refine sB ?_
   rfl
  ·rintro m st ⟨rfl,rfl⟩
   refine sB ?_
   refine cal_sub (rcount_ok g hg) sC ?_
   refine sB ?_
   refine grd_dec rfl (fun _ => ?_) fun h => absurd (by omega) h
   refine sB ?_
   refine cond_dec (fun h => absurd h (by decide)) fun _ => ?_
   simp
 ·have e : descE g n = (descF g n,0) := by rw [descE,if_neg hE]
  obtain ⟨r1,_⟩ := desc_rng hg hE
  have e2 : rdrF g n = candN g (descF g n) c := by rw [rdrF,e,hct]; rfl
  rw [e2]
  rw [e] at hD
  refine cal_sub hD sC ?_
  refine sB ?_
  generalize descF g n = s at r1 ⊢
  refine loop_of (fun m st => ∃ k : Nat,k <= c /\ m = c - k /\ st = ⟨[(2,.ptr 2 0),(5,.view 8 0 (candN g s k).length),(6,.ptr 6 0),(7,.int k)],[(2,gridC false g),(6,[.int s.kind,.int s.x,.int s.y,.int s.i,.int 0])],[(8,⟨1,3,ints (candN g s k)⟩)],[]⟩) c ?_ ?_
  ·refine ⟨0,by omega,by omega,?_⟩
   refine sB ?_
   rfl
  ·rintro m st ⟨k,hk,rfl,rfl⟩
   have hlen := candN_len g s k
   refine sB ?_
   refine cal_sub (rcount_ok g hg) sC ?_
   refine sB ?_
   refine cut_of ⟨[(2,.ptr 2 0),(5,.view 8 0 (candN g s k).length),(6,.ptr 6 0),(7,.int k),(20,.bool (decide (k < c)))],[(2,gridC false g),(6,[.int s.kind,.int s.x,.int s.y,.int s.i,.int 0])],[(8,⟨1,3,ints (candN g s k)⟩)],[]⟩ ?_ ?_
   ·refine grd_dec rfl (fun h => ?_) fun h => ?_ <;> refine sB ?_
    ·rw [decide_eq_true (show k < c by omega)]
    ·rw [decide_eq_false (show ¬ k < c by omega)]
   refine sB ?_
   refine cond_dec (fun h => ?_) fun h => ?_
   ·have hk2 : ¬ ((k : Int) < 0 \/ countF g <= k) := by omega
    have ek : descE g k = (descF g k,0) := by rw [descE,if_neg hk2]
    have hDk := rdesc_ok g hg k (by omega)
    rw [ek] at hDk
    obtain ⟨q1,_⟩ := desc_rng hg hk2
    refine dcal_sub hDk sC rfl ?_
    refine sB ?_
    refine cal_sub (can_ok g hg (descF g k) s q1 r1) sC ?_
    refine sB ?_
    have hs : candN g s (k + 1) = candN g s k ++ if CanD g (descF g k) s then [(k : Int)] else [] := rfl
    refine cond_dec (fun h2 => ?_) fun h2 => ?_
    ·rw [if_pos h2] at hs
     refine ⟨by simp,by omega,by omega,_,?_,k + 1,by omega,rfl,?_⟩
     ·omega
     ·rw [hs]
      simp
    ·rw [if_neg h2,List.append_nil] at hs
     refine ⟨by omega,_,?_,k + 1,by omega,rfl,?_⟩
     ·omega
     ·rw [hs]
      simp
   ·rw [show k = c from by omega]
    exact ⟨fun _ _ => trivial,.refl _⟩
end Go.Proofs.Ytledbjkolidhkaa
namespace Go.Vc
open Go Go.RowKit
section
variable {P : Env} {st : St} {K K' : St -> Prop}
theorem opsK_mono (hk : ∀ s,K s -> K' s) : ∀ (l : List AO) (st : St),opsK P l st K -> opsK P l st K'
 | [],st,h => hk st h
 | _ :: r,st,h => grdK_mono (opK_mono fun s hs => opsK_mono hk r s hs) (opsK_mono hk r _) h
theorem dsK_mono (hk : ∀ s,K s -> K' s) : ∀ (l : List DO) (st : St),dsK P l st K -> dsK P l st K'
 | [],st,h => hk st h
 | x :: r, st, h => by
   have hr := fun s hs => dsK_mono hk r s hs
   unfold dsK at h ⊢
   unfold dopG at h ⊢
   split
   ·rename_i hs
    rw [if_pos hs] at h
    refine ⟨h.1,grdK_mono (fun hd => ?_) (hr _) h.2⟩
    unfold dopK at hd ⊢
    split
    ·rename_i hop
     rw [hop] at hd
     obtain ⟨post,a,b,c⟩ := hd
     exact ⟨post,a,b,fun r hr' => ⟨(c r hr').1,hr _ (c r hr').2⟩⟩
    ·rename_i hop
     rw [hop] at hd
     simp only at hd ⊢
     split at hd
     ·obtain ⟨h0,post,a,b,c⟩ := hd
      exact ⟨h0,post,a,b,fun q hq => ⟨(c q hq).1,hr _ (c q hq).2⟩⟩
     ·exact hd.elim
    ·rename_i hop hop3
     have hd : sideOK st x.t x.u x.o.op /\ opK P x.o st (fun st' => postOK x st' /\ dsK P r st' K) := by
      split at hd
      ·rename_i hop2; exact absurd hop2 (hop _ _)
      ·rename_i hop2; exact absurd hop2 (hop3 _ _)
      ·exact hd
     exact ⟨hd.1,opK_mono (fun s hs => ⟨hs.1,hr s hs.2⟩) hd.2⟩
   ·rename_i hs
    rw [if_neg hs] at h
    exact grdK_mono (opK_mono hr) (hr _) h
theorem allK_mono {ops : List XO} (hk : ∀ s,K s -> K' s) : ∀ (n : Nat) (dn : List Nat) (st : St),allK P ops n dn st K -> allK P ops n dn st K'
 | 0,_,st,h => ⟨h.1,hk st h.2⟩
 | n + 1,dn,st,h => ⟨fun e => hk st (h.1 e),fun x hx hr => grdK_mono (opK_mono fun s hs => allK_mono hk n _ s hs) (allK_mono hk n _ _) (h.2 x hx hr)⟩
theorem Exit.thn_mono {next : St -> Prop} {Q Q' : Exit -> St -> Prop} (hq : ∀ e st,Q e st -> Q' e st) : ∀ e st,Exit.thn next Q e st -> Exit.thn next Q' e st := fun e st h => by
 cases e <;> first | exact h | exact hq _ _ h
theorem Exit.thn_mono2 {next next' : St -> Prop} {Q Q' : Exit -> St -> Prop} (hn : ∀ st,next st -> next' st) (hq : ∀ e st,Q e st -> Q' e st) : ∀ e st,Exit.thn next Q e st -> Exit.thn next' Q' e st := fun e st h => by
 cases e <;> first | exact hn _ h | exact hq _ _ h
theorem Exit.inB_mono {i : Nat} {Q Q' : Exit -> St -> Prop} (hq : ∀ e st,Q e st -> Q' e st) : ∀ e st,Exit.inB i Q e st -> Exit.inB i Q' e st := fun e st h => by
 cases e <;> first | exact hq _ _ h | skip
 simp only [Exit.inB] at h ⊢
 split <;> rename_i hi
 ·rw [if_pos hi] at h; exact hq _ _ h
 ·rw [if_neg hi] at h; exact hq _ _ h
theorem awp_mono : ∀ (ac : AC) {Q Q' : Exit -> St -> Prop},(∀ e st,Q e st -> Q' e st) -> ∀ st,awp P ac Q st -> awp P ac Q' st := by
 intro ac
 induction ac with
 | skip => exact fun hq st h => hq _ _ h
 | label => exact fun hq st h => hq _ _ h
 | ret => exact fun hq st h => hq _ _ h
 | exit i => exact fun hq st h => hq _ _ h
 | reg keep ops => exact fun hq st h => opsK_mono (hq _) ops _ h
 | rgs segs =>
   intro Q Q' hq st h
   have key : ∀ (r : List (List Nat × List AO)) (st : St),segK P r st (Q .normal) -> segK P r st (Q' .normal) := by
    intro r
    induction r with
    | nil => exact fun st h => hq _ _ h
    | cons x r ih => exact fun st h => opsK_mono (fun s hs => ih s hs) x.2 _ h
   exact key segs st h
 | drw keep ops => exact fun hq st h => dsK_mono (hq _) ops _ h
 | dra keep ops => exact fun hq st h => allK_mono (hq _) _ _ _ h
 | seq a b iha ihb => exact fun hq st h => iha (Exit.thn_mono2 (fun s => ihb hq s) hq) st h
 | cond c x y ihx ihy =>
   intro Q Q' hq st h
   simp only [awp,condK] at h ⊢
   split at h
   ·exact ⟨fun e => ihx hq st (h.1 e),fun e => ihy hq st (h.2 e)⟩
   ·exact h.elim
 | block i b ih => exact fun hq st h => ih (Exit.inB_mono hq) st h
 | loop ks b ih => exact fun hq st ⟨I,n0,h0,hr⟩ => ⟨I,n0,h0,fun n st' hi => ih (Exit.thn_mono hq) st' (hr n st' hi)⟩
 | frz ts c ih => exact fun hq st h => ih hq _ h
 | cut ks c ih => exact fun hq st h => ih hq _ h
 | scope c ih => exact fun hq st h => ih hq _ h
 | wk c ih => exact fun hq st ⟨s0,h1,h2⟩ => ⟨s0,h1,ih hq _ h2⟩
 | rngf ρ ps ass body iha ihb =>
   intro Q Q' hq st h
   refine ⟨h.1,?_⟩
   have h2 := h.2
   unfold rngK at h2 ⊢
   split at h2
   ·exact ⟨h2.1,FnM.mono h2.2 fun _ _ hh => hq _ _ hh⟩
   ·exact h2.elim
end
section
variable {w0 : World} {Z0 : Zone} {N : Fr} {Z : Zone} {L : Lay} {st : St} {a : Act} {w : World} {P : Program}
theorem leaves_marks2 {F : Fence} {n : Nat} {fn : Func} {tmps : Array Value} {R : Ending -> World -> Prop} {ds : List Deferred} {u : FrameMode} (hu : u ≠ .run) : ∀ (l : List Nat) (w : World), l.Nodup -> (∀ D ∈ l, w.heap[D]? = some (.deferred (some []))) ->
  LeavesInM F n P fn tmps R ds u (shutW w l) -> LeavesInM F n P fn tmps R (l.map mark ++ ds) u w
 | [],_,_,_,h => h
 | D :: l, w, hn, hd, h => by
   rw [List.nodup_cons] at hn
   refine ⟨hu,.inl ⟨D,_,rfl,run_takeDeferred (hd D (by simp)),leaves_marks2 hu l _ hn.2 (fun D' hD' => ?_) h⟩⟩
   have hne : D' ≠ D := fun e => hn.1 (by rw [<- e]; exact hD')
   rw [World.putObj_heap_other hne]
   exact hd D' (List.mem_cons_of_mem _ hD')
theorem Inv.noDm (h : Inv w0 Z0 N Z L st a w) : Inv w0 Z0 { N with dm := none } Z L st a w := ⟨h.zt,h.z0,h.zn,h.zb,h.below,h.ownb,h.owna,h.injb,h.inja,h.injx,h.boxes,h.arrs,h.ownm,h.injm,h.maps,h.oth,h.yb,h.size,fun _ e => (by cases e),h.slots⟩
theorem Inv.leave2 (h : Inv w0 Z0 N Z L st a w) {x : Bool × List Deferred} (hdm : N.dm = some x) {F : Fence} {n : Nat} {fn : Func} {R : Ending -> World -> Prop} {u : FrameMode} (hu : u ≠ .run)
  (hR : ∀ w',Inv w0 Z0 { N with dm := none } Z L st a w' -> LeavesInM F n P fn a.tmps R x.2 u w') : LeavesInM F n P fn a.tmps R a.defers u w := by
 obtain ⟨l,h1,h2,h3⟩ := h.defers x hdm
 rw [h1.1]
 exact leaves_marks2 hu l w h2.1 (fun D hD => (h3 D hD).1) (hR _ (Inv.shut rfl l h.noDm h2 h3))
def xQ (E : Env) (Q : Exit -> St -> Prop) : Exit -> St -> Prop
 | .panic ch,st => E.pan ch st
 | e,st => Q e st
theorem mem_low (K : Nat) {X : Gh} {G : Nat -> Value} {n : Nat} {dm : Option (Bool × List Deferred)} (hI : Inv w0 Z0 ⟨n,K,G,X,dm⟩ Z L st a w) : Mem w0 Z0 X G Z L (st.low K) w := by
 have hT := hI.low K
 refine ⟨hT.zt,hT.z0,hT.zn,hT.zb,hT.below,hT.ownb,hT.owna,hT.injb,hT.inja,hT.injx,hT.boxes,hT.arrs,hT.ownm,hT.injm,hT.maps,hT.oth,hT.yb,rfl,fun _ e => (by cases e),fun i v hi => ?_⟩
 have h8 := hT.slots i v hi
 have h9 := (lk_low hi).2
 unfold Fr.val at h8 ⊢
 rw [if_neg (by simp only; omega)] at h8
 rw [if_neg (by simp)]
 exact h8
theorem inv_enter (K : Nat) {X : Gh} {G : Nat -> Value} {args : List PV} {vs : Array Value} {m : Nat} (hm : Mem w0 Z0 X G Z L st w) (ha : ArgsR w Z L args vs) (hn : args.length <= m) (hlow : st.s.all (fun x => decide (x.1 < K)) = true) {ex : Bool} :
  Inv w0 Z0 ⟨m,K,G,X,some (ex,[])⟩ Z L { st with s := argS K args st.s } { tmps := vs ++ Array.replicate (m - vs.size) undef,defers := [] } w := by
 have hsize : (vs ++ Array.replicate (m - vs.size) undef).size = m := by have := ha.1; simp; omega
 refine ⟨hm.zt,hm.z0,hm.zn,hm.zb,hm.below,hm.ownb,hm.owna,hm.injb,hm.inja,hm.injx,hm.boxes,hm.arrs,hm.ownm,hm.injm,hm.maps,hm.oth,hm.yb,hsize,fun dd e => ⟨[],⟨by cases e; rfl,fun _ => rfl⟩,⟨.nil,fun D hD => by cases hD⟩,fun D hD => by cases hD⟩,fun i v hl => ?_⟩
 rw [lk_argS] at hl
 unfold Fr.val
 split at hl
 ·rename_i hin
  rw [if_pos ⟨hin.1,by simp only; omega⟩]
  have := ha.2 _ v hl
  have hlt : i - K < vs.size := by rw [ha.1]; exact (List.getElem?_eq_some_iff.1 hl).1
  have e : (vs ++ Array.replicate (m - vs.size) undef).getD (i - K) undef = vs.getD (i - K) undef := by
   simp only [Array.getD_eq_getD_getElem?,Array.getElem?_append_left hlt]
  simp only at e ⊢
  rw [e]; exact this
 ·have hi : i < K := by
   have := List.all_eq_true.1 hlow _ (lk_mem hl)
   simpa using this
  rw [if_neg (by simp only; omega)]
  have := hm.slots i v hl
  have e : (⟨0,0,G,X,none⟩ : Fr).val ⟨#[],[]⟩ i = G i := by simp [Fr.val]
  rwa [e] at this
theorem FnX.of_awp {E : Env} {f : Nat} {fn : Func} {ac : AC} {rvs : List RV} {args : List PV} {Q : PV -> St -> Prop} (K : Nat) (hf : E.p.funcs[f]? = some fn) (hok : fnOkK E.p K ac rvs fn = true) (hn : args.length <= fn.ntmps)
  (hlow : st.s.all (fun x => decide (x.1 < K)) = true) (hkk : E.kk <= K) (hpl : ∀ ch st,E.pan ch st -> E.pan ch (st.low K)) (h : awp E ac (retM K rvs Q) { st with s := argS K args st.s }) : FnX E f args st Q := by
 simp only [fnOkK,Bool.and_eq_true] at hok
 obtain ⟨⟨hb,hr⟩,hname⟩ := hok
 split at hb
 ·rename_i c hc
  refine ⟨by simp [funOk,hf,hc]; simpa using hname,fun w0 Z0 X G Z L w vs hE hm ha => ?_⟩
  have hinit := inv_enter K hm ha hn hlow (ex := false)
  have h' := awp_mono (Q' := xQ E (retM K rvs Q)) ac (fun e st hh => by cases e <;> first | exact hh | (simp [retM,isEnd] at hh)) _ h
  refine callsIn_wide (n := 0) |>.1 (callsIn_of_wp_marks hf hc trivial ?_)
  refine wpIn_mono (awp_sound (P := E) (w0 := w0) (Z0 := Z0) ac (N := ⟨fn.ntmps,K,G,X,some (false,[])⟩) (ro := none) (n := 0) hE hkk c (xQ E (retM K rvs Q)) _ _ w (.inr ⟨rfl,fun dd e => by cases e; rfl⟩) (fun l st hh => by simp [xQ,retM,isEnd] at hh) (fun ch st hh => hh) hb h' ⟨_,_,hinit⟩) ?_
  rintro e a' w' ⟨st',hq,Z',L',hI⟩
  have hend : ∀ e,retM K rvs Q e st' -> LeavesInM Fence.wide 0 E.p fn a'.tmps (fun e w' => (∃ v r st' Z' L',e = .returned v /\ Q r st' /\ Mem w0 Z0 X G Z' L' st' w' /\ VR w' Z' L' r v) \/ (∃ ch st' Z' L',e = .panicked ch /\ E.pan ch st' /\ Mem w0 Z0 X G Z' L' st' w')) a'.defers .returning w' := by
   rintro e ⟨he,h1,hfl,h3⟩
   have hnt' : ∀ cs ds,(resM st' rvs).2 = .tup cs -> .tup ds ∉ cs := fun cs ds e hm => by rw [e] at hfl; have := List.all_eq_true.1 hfl _ hm; simp [isTup] at this
   refine hI.leave2 rfl (by simp) fun w2 hI3 => ?_
   obtain ⟨v,hrun,hvr⟩ := resM_run hI3 hr h1 hnt'
   exact ⟨v,hrun,.inl ⟨v,_,st'.low K,Z',L',rfl,h3,mem_low K hI3,hvr⟩⟩
  cases e <;> first | exact hend _ hq | (simp [xQ,retM,isEnd] at hq; done) | skip
  rename_i ch
  have hq : E.pan ch st' := hq
  show LeavesInM _ _ _ _ _ _ _ _ _
  exact hI.leave2 rfl (by simp) fun w2 hI3 => .inr ⟨ch,st'.low K,Z',L',rfl,hpl ch st' hq,mem_low K hI3⟩
 ·cases hb
theorem callsDIn_wpS {n f : Nat} {fn : Func} {c : Code} {args : Array Value} {u : FrameMode} {R : Ending -> FrameMode -> World -> Prop}
  (hf : P.funcs[f]? = some fn) (hb : fn.body = some c)
  (h : ∀ (c₀ : Frame) (cs : List Frame),c₀.mode = u -> c.wpS P (bodyPostS P fn c₀ cs R) { tmps := args ++ Array.replicate (fn.ntmps - args.size) undef,defers := [] } (c₀ :: cs) w) :
  CallsDIn Fence.wide n P f args u w R := by
 refine ⟨trivial,fun c₀ cs hu _ => ?_⟩
 let b : Frame := { (default : Frame) with fn := f,kind := .deferred }
 have henter : Frame.enter P f args .deferred =
   b.at { tmps := args ++ Array.replicate (fn.ntmps - args.size) undef,defers := [] } [.code c] := by
  simp [Frame.enter,Frame.at,hf,hb,b]
 obtain ⟨e,a',cs',w',hq,harr⟩ := h c₀ cs hu b [] rfl rfl
 rw [<- henter] at harr
 cases e with
 | normal =>
   obtain ⟨hd,u',rfl,v,hr,hR⟩ := hq
   exact ⟨.returned v,u',w',_,hR,comesIn_wide.2 (Steps.trans harr (.one step_end)),rfl,rfl,rfl,hd,fn,hf,hr⟩
 | ret =>
   obtain ⟨hd,u',rfl,v,hr,hR⟩ := hq
   obtain ⟨todo,hs⟩ := harr
   exact ⟨.returned v,u',w',_,hR,comesIn_wide.2 hs,rfl,rfl,rfl,hd,fn,hf,hr⟩
 | panic chain =>
   obtain ⟨hd,u',rfl,hR⟩ := hq
   obtain ⟨todo,hs⟩ := harr
   exact ⟨.panicked chain,u',w',_,hR,comesIn_wide.2 hs,rfl,rfl,rfl,hd,fn,hf⟩
 | exit id => exact hq.elim
 | goto l => exact hq.elim
 | outgrown =>
   obtain ⟨u',hR⟩ := hq
   exact ⟨.outgrown,u',w',b,hR,comesIn_wide.2 (harr.resolve_left (by simp [b])),rfl,rfl,trivial⟩
def capV (L : Lay) (ids : List Nat) : Array Value := (ids.map fun i => Value.pointer (some ⟨L.bx i,0,none⟩)).toArray
def FnD (P : Program) (g : Nat) (ids : List Nat) (u u' : FrameMode) (st : St) (Q : St -> Prop) : Prop :=
 ∀ (w0 : World) (Z0 : Zone) (X : Gh) (G : Nat -> Value) (Z : Zone) (L : Lay) (w : World),Mem w0 Z0 X G Z L st w ->
  CallsDIn Fence.wide 0 P g (capV L ids) u w fun e u1 w' => (∃ v,e = .returned v) /\ u1 = u' /\ ∃ st' Z' L',Q st' /\ Mem w0 Z0 X G Z' L' st' w'
def rcvd : FrameMode -> Value -> FrameMode -> Prop
 | .returning,v,u' => v = .nilIface /\ u' = .returning
 | .panicking [⟨x,false,false⟩],v,u' => v = x /\ u' = .panicking [⟨x,true,false⟩]
 | _,_,_ => False
def rcvOk (P : Program) (K : Nat) (ac : AC) (d : Nat) (fn : Func) : Bool :=
 (match fn.body with
 | some (.seq (.region _ os false) c) => (match os.toList with
   | [o] => o.guard.isNone && o.dst == some d && (match o.op with | .call c => (match c.callee with | .builtin .recover => true | _ => false) && c.args.isEmpty | _ => false)
   | _ => false) && noRng ac && chk P ⟨K,fn.ntmps⟩ ac c
 | _ => false) && rvsOk P ⟨K,fn.ntmps⟩ [] fn.results.toList && decide (d < fn.ntmps)
theorem FnD.of_awp {g : Nat} {fn : Func} {ac : AC} {d : Nat} {ids : List Nat} {u u' : FrameMode} {v : Value} {Q : St -> Prop} (K : Nat) (hf : P.funcs[g]? = some fn) (hok : rcvOk P K ac d fn = true) (hn : ids.length <= fn.ntmps)
  (hlow : st.s.all (fun x => decide (x.1 < K)) = true) (hr : rcvd u v u') (hv : scOk v = true)
  (h : awp (Env.of P) ac (fun e st' => isEnd e = true /\ Q (st'.low K)) { st with s := up (argS K (ids.map fun i => .ptr i 0) st.s) (K + d) (.sc v) }) : FnD P g ids u u' st Q := by
 intro w0 Z0 X G Z L w hm
 simp only [rcvOk,Bool.and_eq_true,decide_eq_true_eq] at hok
 obtain ⟨⟨hb,hres⟩,hd⟩ := hok
 split at hb
 ·rename_i id os c hc
  simp only [Bool.and_eq_true] at hb
  obtain ⟨⟨ho,hnr⟩,hck⟩ := hb
  split at ho
  ·rename_i o hos
   simp only [Bool.and_eq_true,beq_iff_eq,Option.isNone_iff_eq_none] at ho
   obtain ⟨⟨hgd,hdst⟩,hop⟩ := ho
   have hos' : os = #[o] := by
    have : os = os.toList.toArray := by simp
    rw [this,hos]
   subst hos'
   have ha : ArgsR w Z L (ids.map fun i => PV.ptr i 0) (capV L ids) := args_caps ids
   have hinit := inv_enter K hm ha (by simpa using hn) hlow (ex := true)
   have hput := hinit.put (d := some (K + d)) (d' := some d) ⟨rfl,hd⟩ (v := .sc v) (u := v) (TR.sc v hv)
   have hexec : ∀ ρ : Operand -> Value,(execOp ρ o).run P w = .ok .recover w := fun ρ => by
    split at hop
    ·rename_i cl hcl
     simp only [Bool.and_eq_true] at hop
     obtain ⟨h1,h2⟩ := hop
     split at h1
     ·rename_i hcal
      simp [execOp,hcl,resolve,hcal,invoke,builtin]
     ·cases h1
    ·cases hop
   refine callsDIn_wpS hf hc fun c₀ cs hu => wpS_seq (wpS_region ?_)
   have hw : ∀ y,Region.wanted o y = true := fun y => by simp [Region.wanted,hgd]
   obtain ⟨cs',hcs',hgo⟩ : ∃ cs',(∃ u1,u1 = u' /\ cs' = { c₀ with mode := u1 } :: cs) /\ ((recoverD (c₀ :: cs) = some (v,cs')) \/ (recoverD (c₀ :: cs) = none /\ v = .nilIface /\ cs' = c₀ :: cs)) := by
    subst hu
    unfold rcvd at hr
    split at hr
    ·rename_i hmode
     obtain ⟨rfl,rfl⟩ := hr
     refine ⟨c₀ :: cs,⟨_,rfl,by rw [<- hmode]⟩,.inr ⟨by simp [recoverD,hmode],rfl,rfl⟩⟩
    ·rename_i x hmode
     obtain ⟨rfl,rfl⟩ := hr
     refine ⟨_,⟨_,rfl,rfl⟩,.inl (by simp [recoverD,hmode])⟩
    ·exact hr.elim
   have key : c.wpS P (bodyPostS P fn c₀ cs fun e u1 w' => (∃ v, e = .returned v) /\ u1 = u' /\ ∃ st' Z' L', Q st' /\ Mem w0 Z0 X G Z' L' st' w')
     (({ tmps := capV L ids ++ Array.replicate (fn.ntmps - (capV L ids).size) undef,defers := [] } : Act).put (some d) v) cs' w := by
    refine wpS_of_wp (wpIn_wide (n := 0) |>.1 ?_)
    refine wpIn_mono (awp_sound (P := Env.of P) (w0 := w0) (Z0 := Z0) ac (N := ⟨fn.ntmps,K,G,X,some (true,[])⟩) (ro := none) (n := 0) (EnvOK.of P _ _ _ _) (Nat.zero_le _) c _ _ _ w (.inl hnr) (fun l st hh => by simp [isEnd] at hh) (fun ch st hh => hh.elim) hck h ⟨_,_,hput⟩) ?_
    rintro e a' w' ⟨st',⟨he,hQ⟩,Z',L',hI⟩
    obtain ⟨l,⟨hl,hex⟩,_⟩ := hI.defers _ rfl
    have hl0 := hex rfl
    subst hl0
    obtain ⟨v',hrun,_⟩ := resM_run hI (rvs := []) hres (by intro r hr; cases hr) (by intro cs ds e hm; cases e; cases hm)
    obtain ⟨u1,rfl,rfl⟩ := hcs'
    have fin : a'.defers = [] /\ ∃ u',(({ c₀ with mode := u1 } :: cs : List Frame) = { c₀ with mode := u' } :: cs) /\ ∃ v,(results fn a'.tmps).run P w' = .ok v w' /\ ((∃ v',Ending.returned v = .returned v') /\ u' = u1 /\ ∃ st' Z' L',Q st' /\ Mem w0 Z0 X G Z' L' st' w') :=
     ⟨hl,u1,rfl,v',hrun,⟨_,rfl⟩,rfl,st'.low K,Z',L',hQ,mem_low K hI⟩
    cases e <;> first | exact fin | (simp [isEnd] at he)
   show wpOpsS P #[o] _ [0] _ _ _
   simp only [wpOpsS,List.getElem?_toArray,List.getElem?_cons_zero,hw,if_true,hexec]
   rcases hgo with hgo | ⟨hgo,rfl,rfl⟩
   ·simp only [hgo,hdst]
    exact key
   ·simp only [hgo,hdst]
    exact key
  ·cases ho
 ·cases hb
def dfrC (κ : Sh) (t : Nat) : Op -> Bool
 | .defer c => c.args.isEmpty && (match c.callee with | .value y => opdOk κ (.t t) y | _ => false)
 | _ => false
def dfOk (P : Program) (a0 : AC) (t g : Nat) (ts : List Nat) (a2 : AC) (rvs : List RV) (fn : Func) : Bool :=
 (match fn.body with
 | some (.seq c0 (.seq (.region _ os false) c2)) => noRng a0 && noRng a2 && chk P ⟨0, fn.ntmps⟩ a0 c0 && chk P ⟨0, fn.ntmps⟩ a2 c2 && (match os.toList with
   | [o1,o2] => o1.guard.isNone && o2.guard.isNone && okAny P ⟨0,fn.ntmps⟩ (.mkf g (ts.map Opd.t)) (some t) o1.dst o1.op && o2.dst.isNone && dfrC ⟨0,fn.ntmps⟩ t o2.op
   | _ => false)
 | _ => false) && rvsOk P ⟨0,fn.ntmps⟩ rvs fn.results.toList && funOk P g
def dfrK (P : Program) (g : Nat) (ids : List Nat) (n : Nat) (rvs : List RV) (post : PV -> Prop) : Exit -> St -> Prop := fun e st => isEnd e = true /\ lk st.s n = some (.clo g ids) /\ FnD P g ids .returning .returning st fun st' => retK rvs post .ret st'
theorem FnOK.of_dfr {f : Nat} {fn : Func} {a0 a2 : AC} {t g : Nat} {ts : List Nat} {rvs : List RV} {args : List PV} {post : PV -> Prop} {ids : List Nat} {pan : List PanicEntry -> St -> Prop}
  (hf : P.funcs[f]? = some fn) (hok : dfOk P a0 t g ts a2 rvs fn = true) (hn : args.length <= fn.ntmps)
  (hpan : ∀ ch st,pan ch st -> lk st.s fn.ntmps = some (.clo g ids) /\ ∃ u',settle u' = .returning /\ FnD P g ids (.panicking ch) u' st fun st' => retK rvs post .ret st')
  (h : awp (Env.of P) a0 (fun e st => e = .normal /\ opsK (Env.of P) [⟨some t,none,.mkf g (ts.map Opd.t)⟩] st fun st' => lk st'.s t = some (.clo g ids) /\ st'.s.all (fun x => decide (x.1 < fn.ntmps)) = true /\
   awp ⟨P,0,fun _ _ _ _ => False,pan⟩ a2 (dfrK P g ids fn.ntmps rvs post) { st' with s := up st'.s fn.ntmps (.clo g ids) }) ⟨slots0 args,[],[],[]⟩) : FnOK P f args post := by
 intro w Z zt zb vs hsz hrel
 simp only [dfOk,Bool.and_eq_true] at hok
 obtain ⟨⟨hb,hr⟩,hg⟩ := hok
 split at hb
 ·rename_i c0 id os c2 hc
  simp only [Bool.and_eq_true] at hb
  obtain ⟨⟨⟨⟨hn0,hn2⟩,hc0⟩,hc2⟩,ho⟩ := hb
  split at ho
  ·rename_i o1 o2 hos
   simp only [Bool.and_eq_true,Option.isNone_iff_eq_none] at ho
   obtain ⟨⟨⟨⟨hg1,hg2⟩,hk1⟩,hd2⟩,hk2⟩ := ho
   have hsize : (vs ++ Array.replicate (fn.ntmps - vs.size) undef).size = fn.ntmps := by simp; omega
   have hinit : Inv w Z ⟨fn.ntmps,0,fun _ => undef,⟨[],fun _ => 0⟩,some (true,[])⟩ Z L00 ⟨slots0 args,[],[],[]⟩ { tmps := vs ++ Array.replicate (fn.ntmps - vs.size) undef,defers := [] } w := by
    refine ⟨zt,fun _ _ h => h,fun _ _ h => .inl h,zb,Below.refl _ _,?_,?_,?_,?_,?_,?_,?_,?_,?_,?_,fun x hx => (by cases hx),fun _ => rfl,hsize,fun dd e => ⟨[],⟨by cases e; rfl,fun _ => rfl⟩,⟨.nil,fun D hD => by cases hD⟩,fun D hD => by cases hD⟩,?_⟩
    ·intro id cs hl; simp [lk] at hl
    ·intro id cs hl; simp [lk] at hl
    ·intro i j x y hl; simp [lk] at hl
    ·intro i j x y hl; simp [lk] at hl
    ·intro i j x y hl; simp [lk] at hl
    ·intro id cs hl; simp [lk] at hl
    ·intro id cs hl; simp [lk] at hl
    ·intro id cs hl; simp [lk] at hl
    ·intro i j x y hl; simp [lk] at hl
    ·intro id cs hl; simp [lk] at hl
    ·intro i v hl
     simp only [lk_slots0] at hl
     have hi : i < vs.size := by rw [hsz]; exact (List.getElem?_eq_some_iff.1 hl).1
     have := hrel i v hl
     have e : (vs ++ Array.replicate (fn.ntmps - vs.size) undef).getD i undef = vs.getD i undef := by
      simp only [Array.getD_eq_getD_getElem?,Array.getElem?_append_left hi]
     unfold Fr.val
     rw [if_pos ⟨Nat.zero_le _,by simp only; omega⟩]
     simp only [Nat.sub_zero] at e ⊢
     rw [e]
     exact this.vr _
   refine callsIn_wide (n := 0) |>.1 (callsIn_of_wp_marks hf hc trivial ?_)
   refine wpIn_seq (wpIn_mono (awp_sound (P := Env.of P) (w0 := w) (Z0 := Z) a0 (N := ⟨fn.ntmps,0,fun _ => undef,⟨[],fun _ => 0⟩,some (true,[])⟩) (ro := none) (n := 0) (EnvOK.of P _ _ _ _) (Nat.le_refl _) c0 _ _ _ w (.inl hn0) (fun l st hh => by cases hh.1) (fun ch st hh => hh.elim) hc0 h ⟨_,_,hinit⟩) ?_)
   rintro e a1 w1 ⟨st1,⟨rfl,h1⟩,Z1,L1,hI1⟩
   refine wpIn_seq (wpIn_region_list ?_)
   rw [hos]
   have hw1 : ∀ y,Region.wanted o1 y = true := fun y => by simp [Region.wanted,hg1]
   have hw2 : ∀ y,Region.wanted o2 y = true := fun y => by simp [Region.wanted,hg2]
   unfold wpListIn
   rw [if_pos (hw1 _)]
   have h1' : opK (Env.of P) ⟨some t,none,.mkf g (ts.map Opd.t)⟩ st1 (fun st' => lk st'.s t = some (.clo g ids) /\ st'.s.all (fun x => decide (x.1 < fn.ntmps)) = true /\
    awp ⟨P,0,fun _ _ _ _ => False,pan⟩ a2 (dfrK P g ids fn.ntmps rvs post) { st' with s := up st'.s fn.ntmps (.clo g ids) }) := h1
   refine Oper.wpIn_mono ?_ (opK_wp (ro := none) (P := Env.of P) (EnvOK.of P _ _ _ _) (Nat.le_refl _) hI1 (ao := ⟨some t,none,.mkf g (ts.map Opd.t)⟩) hk1 h1' (fun ch a w hh => by obtain ⟨_,hh,_⟩ := hh; exact hh.elim))
   rintro a3 w3 ⟨st3,⟨hl3,hall,h3⟩,Z3,L3,hI3⟩
   unfold wpListIn
   rw [if_pos (hw2 _)]
   have hv3 : ∃ c,o2.op = .defer c /\ c.args = #[] /\ ∃ y,c.callee = .value y /\ a3.eval y = .func (.func g) #[] (capV L3 ids) := by
    unfold dfrC at hk2
    split at hk2
    ·rename_i c hc
     simp only [Bool.and_eq_true] at hk2
     obtain ⟨h5,h6⟩ := hk2
     split at h6
     ·rename_i y hy
      refine ⟨c,hc,by simpa using h5,y,hy,?_⟩
      have h7 := hI3.ev h6
      have h8 : Opd.ev st3 (.t t) = .clo g ids := by simp [Opd.ev,St.get,hl3]
      rw [h8] at h7
      exact h7
     ·cases h6
    ·cases hk2
   obtain ⟨cl,hop,hargs,y,hy,hev⟩ := hv3
   have hexec : (execOp a3.eval o2).run P w3 = .ok (.defer { target := .fn (.func g) (capV L3 ids),args := #[] }) w3 := by
    simp [execOp,hop,resolve,hy,hev,hargs,Deferred.ofValue]
   have hsem : o2.semAt none a3.eval = execOp a3.eval o2 := rfl
   refine ⟨fun _ _ => trivial,?_⟩
   show o2.uponIn Fence.wide 0 P a3 _ _ ((o2.semAt none a3.eval).run P w3)
   rw [hsem,hexec,Oper.uponIn_defer,hd2]
   unfold wpListIn
   obtain ⟨l3,⟨hdl,hex⟩,_⟩ := hI3.defers _ rfl
   have hl0 := hex rfl
   subst hl0
   have hdl : a3.defers = [] := hdl
   obtain ⟨D,hD⟩ : ∃ D : Deferred,D = { target := .fn (.func g) (capV L3 ids),args := #[] } := ⟨_,rfl⟩
   rw [<- hD]
   obtain ⟨N2,hN2⟩ : ∃ N2 : Fr,N2 = ⟨fn.ntmps,0,fun i => if i = fn.ntmps then .func (.func g) #[] (capV L3 ids) else undef,⟨[],fun _ => 0⟩,some (true,[D])⟩ := ⟨_,rfl⟩
   have hI4 : Inv w Z N2 Z3 L3 { st3 with s := up st3.s fn.ntmps (.clo g ids) } { tmps := a3.tmps,defers := D :: a3.defers } w3 := by
    rw [hN2]
    refine ⟨hI3.zt,hI3.z0,hI3.zn,hI3.zb,hI3.below,hI3.ownb,hI3.owna,hI3.injb,hI3.inja,hI3.injx,hI3.boxes,hI3.arrs,hI3.ownm,hI3.injm,hI3.maps,hI3.oth,hI3.yb,hI3.size,fun dd e => ⟨[],⟨by cases e; rw [hdl]; rfl,fun _ => rfl⟩,⟨.nil,fun D hD => by cases hD⟩,fun D hD => by cases hD⟩,fun i v hi => ?_⟩
    rw [lk_up] at hi
    unfold Fr.val
    split at hi
    ·rename_i e
     cases hi
     rw [if_neg (by simp only; omega)]
     simp only [<- e,if_true]
     show _ = _
     rfl
    ·have hlt : i < fn.ntmps := by
      have := List.all_eq_true.1 hall _ (lk_mem hi)
      simpa using this
     have h8 := hI3.slots i v hi
     unfold Fr.val at h8
     rw [if_pos ⟨Nat.zero_le _,by simp only; omega⟩] at h8 ⊢
     exact h8
   have hend : ∀ (u u' : FrameMode) (st5 : St) (a5 : Act) (w5 : World) (Z5 : Zone) (L5 : Lay), u ≠ .run -> settle u' = .returning -> Inv w Z N2 Z5 L5 st5 a5 w5 -> lk st5.s fn.ntmps = some (.clo g ids) -> FnD P g ids u u' st5 (fun st' => retK rvs post .ret st') ->
     LeavesInM Fence.wide 0 P fn a5.tmps (fun e w' => ∃ v r,e = .returned v /\ post r /\ TV w' (fun p b => p = true /\ (Z true b \/ (w.heap.size <= b /\ b < w'.heap.size))) r v /\ Below w.heap.size w w') a5.defers u w5 := by
    intro u u' st5 a5 w5 Z5 L5 hu hu' hI5 hl5 hfd
    refine hI5.leave2 (by rw [hN2]) hu fun w6 hI6 => ?_
    have hcap : capV L5 ids = capV L3 ids := by
     have h8 := hI6.slots _ _ hl5
     rw [hN2] at h8
     unfold Fr.val at h8
     rw [if_neg (by simp only; omega)] at h8
     simp only [if_true] at h8
     have h9 : Value.func (.func g) #[] (capV L3 ids) = .func (.func g) #[] (capV L5 ids) := h8
     injection h9 with _ _ h9
     exact h9.symm
    refine ⟨hu,.inr ⟨fun h => (by simp [Fence.wide] at h),.func g,capV L3 ids,g,capV L3 ids,by rw [hD],?_,fun _ _ => trivial,?_⟩⟩
    ·rw [hD]
     have := funOk_spec (P := Env.of P) (w := w6) hg (capV L3 ids)
     simp [invoke,this]
    ·obtain ⟨lm,_,hmem⟩ := hI6.mem
     have hcall := hfd w Z _ _ Z5 L5 w6 hmem
     rw [hcap] at hcall
     refine CallsDIn.mono hcall ?_
     rintro e u1 w7 ⟨⟨v,rfl⟩,rfl,st7,Z7,L7,⟨_,r1,hfl,r2,r3⟩,hm7⟩
     simp only [hu']
     have hI7 : Inv w Z { N2 with dm := none } Z7 L7 st7 a5 w7 := Inv.back (N := { N2 with dm := none }) hm7 hI6.size (fun _ e => by cases e)
     have hr' : rvsOk P ({ N2 with dm := none } : Fr).sh rvs fn.results.toList = true := by rw [hN2]; exact hr
     have hnt' : ∀ cs ds,(resV st7 rvs).2 = .tup cs -> .tup ds ∉ cs := fun cs ds e hm => by rw [e] at hfl; have := List.all_eq_true.1 hfl _ hm; simp [isTup] at this
     obtain ⟨Z8,v8,hI8,hrun,hvr⟩ := resV_run hI7 hr' r1 hnt'
     have htv : TV w7 (fun p b => p = true /\ (Z true b \/ (w.heap.size <= b /\ b < w7.heap.size))) (resV st7 rvs).2 v8 := by
      refine (VR.perm hvr r2).zone ?_
      rintro p b ⟨rfl,hb'⟩
      exact ⟨rfl,(hI8.zn true b hb').imp (fun e => e) (fun e => ⟨e,hI8.zb true b hb'⟩)⟩
     exact ⟨v8,hrun,v8,_,rfl,r3,htv,hI8.below⟩
   have hE2 : EnvOK ⟨P,0,fun _ _ _ _ => False,pan⟩ w Z N2.X N2.G := fun _ _ _ _ _ _ _ _ _ _ _ _ _ h => h.elim
   have h3' := awp_mono (Q' := xQ ⟨P,0,fun _ _ _ _ => False,pan⟩ (dfrK P g ids fn.ntmps rvs post)) a2 (fun e st hh => by cases e <;> first | exact hh | (simp [dfrK,isEnd] at hh)) _ h3
   refine wpIn_mono (awp_sound (P := ⟨P,0,fun _ _ _ _ => False,pan⟩) (w0 := w) (Z0 := Z) a2 (N := N2) (ro := none) (n := 0) hE2 (Nat.zero_le _) c2 (xQ _ _) _ _ _ (.inl hn2) (fun l st hh => by simp [xQ,dfrK,isEnd] at hh) (fun ch st hh => hh) (by rw [hN2]; exact hc2) h3' ⟨_,_,hI4⟩) ?_
   rintro e a5 w5 ⟨st5,hq,Z5,L5,hI5⟩
   cases e <;> first | exact hend .returning .returning st5 a5 w5 Z5 L5 (by simp) rfl hI5 hq.2.1 hq.2.2 | (simp [xQ,dfrK,isEnd] at hq; done) | skip
   rename_i ch
   obtain ⟨hl5,u',hu',hfd⟩ := hpan ch st5 hq
   exact hend (.panicking ch) u' st5 a5 w5 Z5 L5 (by simp) hu' hI5 hl5 hfd
  ·cases ho
 ·cases hb
end
end Go.Vc
namespace Go.Proofs.Ytledbjkolidhkaa.Txt
open Go Go.Vc
set_option maxRecDepth 100000
def ac20_100 : AC :=
 (.seq (.reg [100,17,100] [
 (aO 101 (.box (.t 100))),(aO 102 (.alc [.nil,.nil,.nil,.nil]))])
 (.seq (.reg [100,17,101,102] [
 (aO 104 (.fa 4 (.t 101))),(aO 105 (.ld false 1 (.t 104))),(aO 106 (.len (.t 105))),(aO 103 (.mv (.t 106)))])
 (.seq (.drw [100,17,101,102,103] [
 (eU 107 (.ld true 5 (.t 101)) [] [111,113,115]),(eU 108 (.cal 40 [(.t 107)]) [] [111,113,115]),(eU 109 (.mks 1 3 8 [zI] (.t 108) (.t 108)) [109] [111,113,115]),(eU 110 (.mv (.t 103)) [] [109,113,115]),(eU 111 (.mks 1 3 8 [zI] (.t 110) (.t 110)) [111] [109,113,115]),(eU 112 (.mv (.t 103)) [] [109,111,115]),(eU 113 (.mks 1 3 8 [zI] (.t 112) (.t 112)) [113] [109,111,115]),(eU 114 (.mv (.t 103)) [] [109,111,113]),(eU 115 (.mks 1 3 8 [zI] (.t 114) (.t 114)) [115] [109,111,113]),(eF 116 (.bld [.nil,.nil,.nil,.nil] [(0,1,(.t 109)),(1,1,(.t 111)),(2,1,(.t 113)),(3,1,(.t 115))])),⟨(aN (.sto 4 (.t 102) (.t 116))),[],[],false⟩])
 .ret)))
def rv20_100 : List RV := [.cell 102 true 4]
theorem ok20_100 : fnOkK Try.prog 100 ac20_100 rv20_100 Try.f20 = true := by kernel_rfl

def ac56 : AC :=
 (.seq (.reg [0,6,0] [
 (aO 2 (.mv (.t 0))),(aO 3 (.not (.t 2)))])
 (.cond (.t 3)
 (.reg [0,6] [
 (aO 4 (.bld [] [])),(aO 5 (.xo (.pf (.mki 115)) [(.t 4)])),(aN (.pan (.t 5)))])
 .skip))
def rv56 : List RV := []
theorem ok56 : fnOk Try.prog ac56 rv56 Try.f56 = true := by kernel_rfl

def ac76_300 : AC :=
 (.seq (.reg [300,28,300,301] [
 (aO 304 (.mv (.t 301))),(aO 305 (.mv (.t 300))),(aO 306 (.nck (.t 305))),(aO 307 (.fa 5 (.t 306))),(aO 308 (.fa 0 (.t 307))),(aO 309 (.ld false 1 (.t 308))),(aO 310 (.len (.t 309))),(aO 311 (.ari .sub true .i64 (.t 310) (kI 1))),(aO 312 (.cal 41 [(.t 304),(kI 0),(.t 311)])),(aO 313 (.mv (.t 312))),⟨some 314,some (313,true),.mv (.t 300)⟩,⟨some 315,some (313,true),.nck (.t 314)⟩,⟨some 316,some (313,true),.fa 9 (.t 315)⟩,⟨some 317,some (313,true),.ld false 1 (.t 316)⟩,⟨some 318,some (313,true),.mv (.t 301)⟩,⟨some 319,some (313,true),.mlk (.int .i64) false (.sc (.bool false)) (.t 317) (.t 318)⟩,⟨some 320,some (313,true),.not (.t 319)⟩,(aO 321 (.pick (.t 313) (.t 320) (.c (.sc (.bool false))))),(aO 322 (.clx 56 [(.t 321)]))])
 (.cut [300,28,300,301] (.reg [300,28,300,301] [
 (aO 323 (.mv (.t 300))),(aO 324 (.nck (.t 323))),(aO 325 (.fa 9 (.t 324))),(aO 326 (.ld false 1 (.t 325))),(aO 327 (.mv (.t 301))),(aN (.mup (.int .i64) (.t 326) (.t 327) (.c (.sc (.bool true)))))])))
def rv76_300 : List RV := []
theorem ok76_300 : fnOkK Try.prog 300 ac76_300 rv76_300 Try.f76 = true := by kernel_rfl

def ac57_100_q5 : AC :=
 (.drw [100,132,100,102,104] [
 (eT 169 (.mv (.t 100))),(eT 170 (.nck (.t 169))),(eT 171 (.fa 5 (.t 170))),(eT 172 (.fa 1 (.t 171))),(eT 173 (.ld false 1 (.t 172))),(eT 174 (.mv (.t 102))),(eT 175 (.mv (.t 100))),(eT 176 (.nck (.t 175))),(eT 177 (.fa 5 (.t 176))),(eT 178 (.fa 3 (.t 177))),(eT 179 (.ld false 1 (.t 178))),(eT 180 (.mv (.t 102))),(eT 181 (.fa 2 (.t 104))),(eU 182 (.ld false 1 (.t 181)) [] [111]),(eT 183 (.ixs 1 (.t 173) (.t 174))),⟨(aN (.sto 1 (.t 183) (kI 3))),[],[111],true⟩,(eF 184 (.ixs 1 (.t 179) (.t 180))),⟨(aN (.sto 1 (.t 184) (.t 182))),[],[],false⟩])
def ac57_100_q7 : AC :=
 (.drw [100,132,100,102,104] [
 (eT 189 (.mv (.t 100))),(eT 190 (.nck (.t 189))),(eT 191 (.fa 5 (.t 190))),(eT 192 (.fa 1 (.t 191))),(eT 193 (.ld false 1 (.t 192))),(eT 194 (.mv (.t 102))),(eT 195 (.mv (.t 100))),(eT 196 (.nck (.t 195))),(eT 197 (.fa 5 (.t 196))),(eT 198 (.fa 2 (.t 197))),(eT 199 (.ld false 1 (.t 198))),(eT 200 (.mv (.t 102))),(eT 201 (.mv (.t 100))),(eT 202 (.nck (.t 201))),(eT 203 (.fa 5 (.t 202))),(eT 204 (.fa 3 (.t 203))),(eT 205 (.ld false 1 (.t 204))),(eT 206 (.mv (.t 102))),(eT 207 (.fa 1 (.t 104))),(eU 208 (.ld false 1 (.t 207)) [] [111]),(eT 209 (.fa 3 (.t 104))),(eU 210 (.ld false 1 (.t 209)) [] [111,113]),(eT 211 (.ixs 1 (.t 193) (.t 194))),⟨(aN (.sto 1 (.t 211) (kI 2))),[],[111],true⟩,(eT 212 (.ixs 1 (.t 199) (.t 200))),⟨(aN (.sto 1 (.t 212) (.t 208))),[],[113],true⟩,(eF 213 (.ixs 1 (.t 205) (.t 206))),⟨(aN (.sto 1 (.t 213) (.t 210))),[],[],false⟩])
def ac57_100_q3 : AC :=
 (.drw [100,132,100,102,104] [
 (eT 149 (.mv (.t 100))),(eT 150 (.nck (.t 149))),(eT 151 (.fa 5 (.t 150))),(eT 152 (.fa 1 (.t 151))),(eT 153 (.ld false 1 (.t 152))),(eT 154 (.mv (.t 102))),(eT 155 (.mv (.t 100))),(eT 156 (.nck (.t 155))),(eT 157 (.fa 5 (.t 156))),(eT 158 (.fa 2 (.t 157))),(eT 159 (.ld false 1 (.t 158))),(eT 160 (.mv (.t 102))),(eT 161 (.fa 1 (.t 104))),(eU 162 (.ld false 1 (.t 161)) [] [111]),(eT 163 (.ixs 1 (.t 153) (.t 154))),⟨(aN (.sto 1 (.t 163) (kI 1))),[],[111],true⟩,(eF 164 (.ixs 1 (.t 159) (.t 160))),⟨(aN (.sto 1 (.t 164) (.t 162))),[],[],false⟩])
def ac57_100_q8 : AC :=
 (.drw [100,132,100,102] [
 (eT 214 (.mv (.t 100))),(eT 215 (.nck (.t 214))),(eT 216 (.fa 0 (.t 215))),(eT 217 (.fa 4 (.t 216))),(eT 218 (.ld false 1 (.t 217))),(eT 219 (.mv (.t 102))),(eT 220 (.ixs 1 (.t 218) (.t 219))),(eT 221 (.ld false 1 (.t 220))),(eT 222 (.mv (.t 100))),(eT 223 (.nck (.t 222))),(eT 224 (.fa 5 (.t 223))),(eT 225 (.fa 1 (.t 224))),(eT 226 (.ld false 1 (.t 225))),(eT 227 (.mv (.t 102))),(eT 228 (.ixs 1 (.t 226) (.t 227))),(eT 229 (.ld false 1 (.t 228))),(eF 230 (.cal 68 [(.t 221),(.t 229)])),(eF 231 (.clx 56 [(.t 230)]))])
def ac57_100 : AC :=
 (.seq (.reg [100,132,100,101,102] [
 (aO 104 (.box (.t 101)))])
 (.seq (.reg [100,132,100,102,104] [
 (aO 106 (.mv (.t 102))),(aO 107 (.mv (.t 100))),(aO 108 (.nck (.t 107))),(aO 109 (.fa 0 (.t 108))),(aO 110 (.fa 4 (.t 109))),(aO 111 (.ld false 1 (.t 110))),(aO 112 (.len (.t 111))),(aO 113 (.ari .sub true .i64 (.t 112) (kI 1))),(aO 114 (.cal 41 [(.t 106),(kI 0),(.t 113)])),(aO 115 (.mv (.t 114))),⟨some 116,some (115,true),.mv (.t 100)⟩,⟨some 117,some (115,true),.nck (.t 116)⟩,⟨some 118,some (115,true),.fa 5 (.t 117)⟩,⟨some 119,some (115,true),.fa 1 (.t 118)⟩,⟨some 120,some (115,true),.ld false 1 (.t 119)⟩,⟨some 121,some (115,true),.mv (.t 102)⟩,⟨some 122,some (115,true),.ixs 1 (.t 120) (.t 121)⟩,⟨some 123,some (115,true),.ld false 1 (.t 122)⟩,⟨some 124,some (115,true),.cmp .eql .i64 (.t 123) (kI 0)⟩,(aO 125 (.pick (.t 115) (.t 124) (.c (.sc (.bool false))))),(aO 126 (.clx 56 [(.t 125)]))])
 (.cut [100,132,100,102,104] (.seq (.reg [100,132,100,102,104] [
 (aO 127 (.fa 2 (.t 104))),(aO 128 (.ld false 1 (.t 127))),(aO 129 (.cal 41 [(.t 128),(kI (-1)),(kI 255)])),(aO 130 (.mv (.t 129))),⟨some 131,some (130,true),.fa 3 (.t 104)⟩,⟨some 132,some (130,true),.ld false 1 (.t 131)⟩,⟨some 133,some (130,true),.cal 41 [(.t 132),(kI (-1)),(kI 255)]⟩,(aO 134 (.pick (.t 130) (.t 133) (.c (.sc (.bool false))))),(aO 135 (.mv (.t 134))),⟨some 136,some (135,true),.fa 1 (.t 104)⟩,⟨some 137,some (135,true),.ld false 1 (.t 136)⟩,⟨some 138,some (135,true),.cal 41 [(.t 137),(kI 0),(kI 65535)]⟩,(aO 139 (.pick (.t 135) (.t 138) (.c (.sc (.bool false))))),(aO 140 (.mv (.t 139))),⟨some 141,some (140,true),.fa 2 (.t 104)⟩,⟨some 142,some (140,true),.ld false 1 (.t 141)⟩,⟨some 143,some (140,true),.fa 3 (.t 104)⟩,⟨some 144,some (140,true),.ld false 1 (.t 143)⟩,⟨some 145,some (140,true),.mn false (.t 142) (.t 144)⟩,⟨some 146,some (140,true),.cmp .eql .i64 (.t 145) (kI (-1))⟩,(aO 147 (.pick (.t 140) (.t 146) (.c (.sc (.bool false))))),(aO 148 (.clx 56 [(.t 147)]))])
 (.cut [100,132,100,102,104] (.seq (.block 0
 (.seq (.reg [100,132,100,102,104] [
 (aO 166 (.fa 2 (.t 104))),(aO 167 (.ld false 1 (.t 166))),(aO 168 (.cmp .geq .i64 (.t 167) (kI 0))),(aO 165 (.mv (.t 168)))])
 (.cond (.t 165)
 ac57_100_q5
 (.seq (.reg [100,132,100,102,104] [
 (aO 186 (.fa 3 (.t 104))),(aO 187 (.ld false 1 (.t 186))),(aO 188 (.cmp .geq .i64 (.t 187) (kI 0))),(aO 185 (.mv (.t 188)))])
 (.cond (.t 185)
 ac57_100_q7
 ac57_100_q3)))))
 ac57_100_q8))))))
def rv57_100 : List RV := []
theorem ok57_100 : fnOkK Try.prog 100 ac57_100 rv57_100 Try.f57 = true := by kernel_rfl

def ac58_100_q10 : AC :=
 (.drw [100,88,100,103,104,105,106,131,132,133] [
 (eT 163 (.mv (.t 106))),(eT 164 (.fa 1 (.t 103))),(eT 165 (.ld false 1 (.t 164))),(eT 166 (.fa 2 (.t 103))),(eT 167 (.ld false 1 (.t 166))),(eT 168 (.mv (.t 104))),(eT 169 (.ixs 1 (.t 167) (.t 168))),(eT 170 (.ld false 1 (.t 169))),(eT 171 (.ixs 1 (.t 165) (.t 170))),(eT 172 (.ld false 1 (.t 171))),(eF 173 (.cal 77 [(.t 163),(.t 172)])),(eF 162 (.mv (.t 173))),(eT 174 (.ext (.t 162) 0)),(eT 175 (.ext (.t 162) 1)),(eT 107 (.mv (.t 174))),(eF 108 (.mv (.t 175)))])
def ac58_100 : AC :=
 (.seq (.reg [100,88,100,101] [
 (aO 103 (.box (.t 101)))])
 (.seq (.reg [100,88,100,103] [
 (aO 109 (.fa 1 (.t 103))),(aO 110 (.ld false 1 (.t 109))),(aO 111 (.len (.t 110))),(aO 112 (.cmp .gtr .i64 (.t 111) (kI 0))),(aO 113 (.mv (.t 112))),⟨some 114,some (113,true),.fa 2 (.t 103)⟩,⟨some 115,some (113,true),.ld false 1 (.t 114)⟩,⟨some 116,some (113,true),.len (.t 115)⟩,⟨some 117,some (113,true),.fa 1 (.t 103)⟩,⟨some 118,some (113,true),.ld false 1 (.t 117)⟩,⟨some 119,some (113,true),.len (.t 118)⟩,⟨some 120,some (113,true),.cmp .eql .i64 (.t 116) (.t 119)⟩,(aO 121 (.pick (.t 113) (.t 120) (.c (.sc (.bool false))))),(aO 122 (.mv (.t 121))),⟨some 123,some (122,true),.fa 2 (.t 103)⟩,⟨some 124,some (122,true),.ld false 1 (.t 123)⟩,⟨some 125,some (122,true),.ixs 1 (.t 124) (kI 0)⟩,⟨some 126,some (122,true),.ld false 1 (.t 125)⟩,⟨some 127,some (122,true),.cmp .eql .i64 (.t 126) (kI (-1))⟩,(aO 128 (.pick (.t 122) (.t 127) (.c (.sc (.bool false))))),(aO 129 (.clx 56 [(.t 128)]))])
 (.cut [100,88,100,103] (.seq (.reg [100,88,100,103] [
 (aO 130 (.fa 1 (.t 103))),(aO 131 (.ld false 1 (.t 130))),(aO 132 (.len (.t 131))),(aO 133 (.mv (kI 0)))])
 (.block 0
 (.loop [100,88,100,103,131,132,133]
 (.seq (.reg [100,88,100,103,131,132,133] [
 (aO 134 (.cmp .lss .i64 (.t 133) (.t 132)))])
 (.seq (.cond (.t 134)
 .skip
 (.exit 0))
 (.seq (.block 1
 (.seq (.reg [100,88,100,103,131,132,133] [
 (aO 135 (.mv (.t 133))),(aO 136 (.ixs 1 (.t 131) (.t 133))),(aO 137 (.ld false 1 (.t 136))),(aO 104 (.mv (.t 135))),(aO 105 (.mv (.t 137)))])
 (.seq (.reg [100,88,100,103,104,105,131,132,133] [
 (aO 138 (.mv (.t 100))),(aO 139 (.mv (.t 105))),(aO 140 (.clx 76 [(.t 138),(.t 139)]))])
 (.seq (.reg [100,88,100,103,104,105,131,132,133] [
 (aO 141 (.mv (.t 100))),(aO 142 (.nck (.t 141))),(aO 143 (.fa 0 (.t 142))),(aO 144 (.ld true 5 (.t 143))),(aO 145 (.mv (.t 105))),(aO 146 (.cal 42 [(.t 144),(.t 145)])),(aO 106 (.mv (.t 146)))])
 (.seq (.seq (.reg [100,88,100,103,104,105,106,131,132,133] [
 (aO 147 (.mv (.t 104))),(aO 148 (.cmp .eql .i64 (.t 147) (kI 0)))])
 (.cond (.t 148)
 (.seq (.reg [100,88,100,103,106,131,132,133] [
 (aO 149 (.mv (.t 106))),(aO 150 (.len (.t 149))),(aO 151 (.cmp .eql .i64 (.t 150) (kI 0))),(aO 152 (.clx 56 [(.t 151)]))])
 (.exit 1))
 .skip))
 (.seq (.reg [100,88,100,103,104,105,106,131,132,133] [
 (aO 153 (.fa 2 (.t 103))),(aO 154 (.ld false 1 (.t 153))),(aO 155 (.mv (.t 104))),(aO 156 (.ixs 1 (.t 154) (.t 155))),(aO 157 (.ld false 1 (.t 156))),(aO 158 (.mv (.t 104))),(aO 159 (.ari .sub true .i64 (.t 158) (kI 1))),(aO 160 (.cal 41 [(.t 157),(kI 0),(.t 159)])),(aO 161 (.clx 56 [(.t 160)]))])
 (.seq ac58_100_q10
 (.seq (.reg [100,88,100,103,105,107,108,131,132,133] [
 (aO 176 (.mv (.t 108))),(aO 177 (.clx 56 [(.t 176)]))])
 (.reg [100,88,100,103,105,107,131,132,133] [
 (aO 178 (.mv (.t 100))),(aO 179 (.nck (.t 178))),(aO 180 (.fa 5 (.t 179))),(aO 181 (.fa 0 (.t 180))),(aO 182 (.ld false 1 (.t 181))),(aO 183 (.mv (.t 105))),(aO 184 (.mv (.t 107))),(aO 185 (.ari .add true .i64 (kI 1) (.t 184))),(aO 186 (.ixs 1 (.t 182) (.t 183))),(aN (.sto 1 (.t 186) (.t 185)))])))))))))
 (.reg [100,88,100,103,131,132,133] [
 (aO 187 (.ari .add true .i64 (.t 133) (kI 1))),(aO 133 (.mv (.t 187)))]))))))))))
def rv58_100 : List RV := []
theorem ok58_100 : fnOkK Try.prog 100 ac58_100 rv58_100 Try.f58 = true := by kernel_rfl

def ac55_700 : AC :=
 (.block 0
 (.seq (.reg [700,12,700,701,705] [
 (aO 707 (.xo (.pf (.ieq false)) [(.t 705)]))])
 (.cond (.t 707)
 (.reg [700,12,705] [
 (aO 702 (.mv (.t 705)))])
 (.seq (.reg [700,12,700,701,705] [
 (aO 708 (.xo (.pf (.tas 115)) [(.t 705)])),(aO 709 (.ext (.t 708) 1)),(aO 710 (.ext (.t 708) 0))])
 (.cond (.t 709)
 (.seq (.reg [700,12,700,701,710] [
 (aO 703 (.alc [])),(aN (.sto 0 (.t 703) (.t 710)))])
 (.reg [700,12,700,701] [
 (aO 711 (.bld [.nil,.nil,.nil,.nil] [])),(aN (.sto 4 (.t 700) (.t 711))),(aN (.sto 1 (.t 701) (kI 350)))]))
 (.seq (.reg [700,12,705] [
 (aO 704 (.mv (.t 705)))])
 (.reg [700,12,704] [
 (aO 706 (.mv (.t 704))),(aN (.pan (.t 706)))])))))))
theorem ok55_700 : rcvOk Try.prog 700 ac55_700 5 Try.f55 = true := by kernel_rfl

def xs36_2 : List XO := [⟨0,[],(aO 14 (.ld true 5 (.t 4)))⟩,⟨1,[],(aO 15 (.ld true 5 (.t 4)))⟩,⟨2,[1],(aO 16 (.clm 20 [(.t 15)]))⟩,⟨3,[],(aO 17 (.mkm (.int .i64)))⟩,⟨4,[0,2,3],(aO 18 (.bld [zI,zI,zI,zI,.nil,.nil,.nil,.nil,.nil,.sc (.map none)] [(0,5,(.t 14)),(5,4,(.t 16)),(9,1,(.t 17))]))⟩,⟨5,[4],(aO 19 (.box (.t 18)))⟩,⟨6,[0,1,2,3,4,5],(aO 8 (.mv (.t 19)))⟩]
theorem xs36_2_all {p : XO -> Prop} : (∀ x ∈ xs36_2,p x) ↔ p ⟨0,[],(aO 14 (.ld true 5 (.t 4)))⟩ /\ p ⟨1,[],(aO 15 (.ld true 5 (.t 4)))⟩ /\ p ⟨2,[1],(aO 16 (.clm 20 [(.t 15)]))⟩ /\ p ⟨3,[],(aO 17 (.mkm (.int .i64)))⟩ /\ p ⟨4,[0,2,3],(aO 18 (.bld [zI,zI,zI,zI,.nil,.nil,.nil,.nil,.nil,.sc (.map none)] [(0,5,(.t 14)),(5,4,(.t 16)),(9,1,(.t 17))]))⟩ /\ p ⟨5,[4],(aO 19 (.box (.t 18)))⟩ /\ p ⟨6,[0,1,2,3,4,5],(aO 8 (.mv (.t 19)))⟩ := by simp only [xs36_2,List.forall_mem_cons,List.not_mem_nil,false_implies,implies_true,and_true]
def ac36 : AC :=
 (.reg [0,60,0,1,2] [
 (aO 3 (.box (.t 0))),(aO 4 (.box (.t 1))),(aO 5 (.box (.t 2))),(aO 6 (.alc [.nil,.nil,.nil,.nil])),(aO 7 (.alc [zI]))])
def ac36b : AC :=
 (.seq (.dra [0,60,3,4,5,6,7] xs36_2)
 (.seq (.reg [0,60,3,5,6,7,8] [
 (aO 20 (.fa 0 (.t 5))),(aO 21 (.ld false 1 (.t 20))),(aO 22 (.len (.t 21))),(aO 23 (.fa 1 (.t 3))),(aO 24 (.ld false 1 (.t 23))),(aO 25 (.len (.t 24))),(aO 26 (.cmp .eql .i64 (.t 22) (.t 25))),(aO 27 (.clx 56 [(.t 26)]))])
 (.seq (.seq (.reg [0,60,3,5,6,7,8] [
 (aO 28 (.fa 0 (.t 5))),(aO 29 (.ld false 1 (.t 28))),(aO 30 (.len (.t 29))),(aO 31 (.mv (kI 0)))])
 (.block 0
 (.loop [0,60,3,5,6,7,8,29,30,31]
 (.seq (.reg [0,60,3,5,6,7,8,29,30,31] [
 (aO 32 (.cmp .lss .i64 (.t 31) (.t 30)))])
 (.seq (.cond (.t 32)
 .skip
 (.exit 0))
 (.seq (.block 1
 (.seq (.reg [0,60,3,5,6,7,8,29,30,31] [
 (aO 33 (.mv (.t 31))),(aO 34 (.ixs 1 (.t 29) (.t 31))),(aO 35 (.ld false 1 (.t 34))),(aO 9 (.mv (.t 33))),(aO 10 (.mv (.t 35)))])
 (.reg [0,60,3,5,6,7,8,9,10,29,30,31] [
 (aO 36 (.mv (.t 8))),(aO 37 (.fa 1 (.t 3))),(aO 38 (.ld false 1 (.t 37))),(aO 39 (.mv (.t 9))),(aO 40 (.ixs 5 (.t 38) (.t 39))),(aO 41 (.ld true 5 (.t 40))),(aO 42 (.mv (.t 10))),(aO 43 (.clx 57 [(.t 36),(.t 41),(.t 42)]))])))
 (.reg [0,60,3,5,6,7,8,29,30,31] [
 (aO 44 (.ari .add true .i64 (.t 31) (kI 1))),(aO 31 (.mv (.t 44)))])))))))
 (.seq (.seq (.reg [0,60,5,6,7,8] [
 (aO 45 (.fa 1 (.t 5))),(aO 46 (.ld false 1 (.t 45))),(aO 47 (.len (.t 46))),(aO 48 (.mv (kI 0)))])
 (.block 2
 (.loop [0,60,6,7,8,46,47,48]
 (.seq (.reg [0,60,6,7,8,46,47,48] [
 (aO 49 (.cmp .lss .i64 (.t 48) (.t 47)))])
 (.seq (.cond (.t 49)
 .skip
 (.exit 2))
 (.seq (.block 3
 (.seq (.reg [0,60,6,7,8,46,47,48] [
 (aO 50 (.ixs 3 (.t 46) (.t 48))),(aO 51 (.ld true 3 (.t 50))),(aO 12 (.alc [zI,.nil,.nil])),(aN (.sto 3 (.t 12) (.t 51)))])
 (.reg [0,60,6,7,8,12,46,47,48] [
 (aO 52 (.mv (.t 8))),(aO 53 (.ld true 3 (.t 12))),(aO 54 (.clx 58 [(.t 52),(.t 53)]))])))
 (.reg [0,60,6,7,8,46,47,48] [
 (aO 55 (.ari .add true .i64 (.t 48) (kI 1))),(aO 48 (.mv (.t 55)))])))))))
 (.seq (.reg [0,60,6,7,8] [
 (aO 56 (.mv (.t 8))),(aO 57 (.nck (.t 56))),(aO 58 (.fa 5 (.t 57))),(aO 59 (.ld true 4 (.t 58))),(aN (.sto 4 (.t 6) (.t 59))),(aN (.sto 1 (.t 7) (kI 0)))])
 .ret)))))
def rv36 : List RV := [.cell 6 true 4,.cell 7 false 1]
theorem ok36 : dfOk Try.prog ac36 13 55 [6,7] ac36b rv36 Try.f36 = true := by kernel_rfl
end Go.Proofs.Ytledbjkolidhkaa.Txt
namespace Go.Vc
open Go Go.RowKit
section
variable (P : Env) (r : List AO) (st : St) (K : St -> Prop) (d : Option Nat)
def mxO : Option Int -> Option PV
 | some m => some (.sc (.int .i64 m))
 | none => none
@[push_cast] theorem mxO_some (m : Int) : mxO (some m) = some (.sc (.int .i64 m)) := rfl
def pfV (P : Env) (d : Option Nat) (r : List AO) (st : St) (K : St -> Prop) : Option PV -> Prop
 | some v => opsK P r (st.put d v) K
 | none => False
@[push_cast] theorem pfV_some (v : PV) : pfV P d r st K (some v) = opsK P r (st.put d v) K := rfl
@[push_cast] theorem o_pf (g : XF) (x : Opd) : opsK P (⟨d,none,.xo (.pf g) [x]⟩ :: r) st K = pfV P d r st K (xfF g (x.ev st)) := by
 show xoK st d (.pf g) [x.ev st] (fun st' => opsK P r st' K) = _
 generalize x.ev st = u
 have : ∀ K' : St -> Prop,xoK st d (.pf g) [u] K' = pfK st d K' (xfF g u) := fun K' => by cases d <;> rfl
 rw [this]
 cases xfF g u <;> rfl
@[push_cast] theorem o_mx (b : Bool) (args : List Opd) : opsK P (⟨d,none,.xo (.mx b) args⟩ :: r) st K = pfV P d r st K (mxF b (evL st args)) := by
 rw [<- evL_eq]
 show xoK st d (.mx b) (args.map (·.ev st)) (fun st' => opsK P r st' K) = _
 generalize args.map (·.ev st) = u
 have : ∀ K' : St -> Prop,xoK st d (.mx b) u K' = pfK st d K' (mxF b u) := fun K' => by cases d <;> rfl
 rw [this]
 cases mxF b u <;> rfl
@[push_cast] theorem mxL_nil (b : Bool) (n : Int) : mxL b n [] = some n := rfl
@[push_cast] theorem mxL_cons (b : Bool) (n m : Int) (r : List PV) : mxL b n (.sc (.int .i64 m) :: r) = mxL b (bif b then max n m else min n m) r := rfl
@[push_cast] theorem mxF_cons (b : Bool) (n : Int) (r : List PV) : mxF b (.sc (.int .i64 n) :: r) = mxO (mxL b n r) := by
 show (mxL b n r).map _ = _
 cases mxL b n r <;> rfl
@[push_cast] theorem xf_ieq0 (ng : Bool) : xfF (.ieq ng) (.sc .nilIface) = some (.sc (.bool (!ng))) := rfl
@[push_cast] theorem xf_ieq1 (ng : Bool) (t : Nat) (v : Value) : xfF (.ieq ng) (.sc (.iface t v)) = some (.sc (.bool ng)) := rfl
@[push_cast] theorem xf_mki0 (t : Nat) : xfF (.mki t) (.agg []) = some (.sc (.iface t (.agg #[]))) := rfl
@[push_cast] theorem xf_mki1 (t : Nat) (k : IntKind) (n : Int) : xfF (.mki t) (.sc (.int k n)) = some (.sc (.iface t (.int k n))) := rfl
@[push_cast] theorem xf_tas (t : Nat) : xfF (.tas t) (.sc (.iface t (.agg #[]))) = some (.tup [.agg [],.sc (.bool true)]) := by simp [xfF]
def clxK (P : Env) (d : Option Nat) (f : Nat) (args : List PV) (r : List AO) (st : St) (K : St -> Prop) : Prop := FnX P f args st fun rv st' => opsK P r (st'.put d rv) K
@[congr] theorem clxK_congr {P : Env} {d : Option Nat} {f : Nat} {args args' : List PV} {r : List AO} {st st' : St} {K : St -> Prop} (h1 : args = args') (h2 : st = st') : clxK P d f args r st K = clxK P d f args' r st' K := by rw [h1,h2]
@[push_cast] theorem o_clx (f : Nat) (args : List Opd) : opsK P (⟨d,none,.clx f args⟩ :: r) st K = clxK P d f (evL st args) r st K := by
 rw [<- evL_eq]; rfl
@[push_cast] theorem o_pan (x : Opd) : opsK P (⟨none,none,.pan x⟩ :: r) st K = panK P st (x.ev st) := rfl
@[push_cast] theorem panK_iface (t : Nat) (v : Value) : panK P st (.sc (.iface t v)) = P.pan [{ v := .iface t v,recovered := false }] st := rfl
end
theorem clx_of {P : Env} {d : Option Nat} {f : Nat} {args : List PV} {r : List AO} {st : St} {K : St -> Prop} {Q : PV -> St -> Prop} (h : FnX P f args st Q) (hk : ∀ rv st',Q rv st' -> opsK P r (st'.put d rv) K) : clxK P d f args r st K := FnX.mono h hk
theorem fnX_of {E : Env} {f : Nat} {fn : Func} {ac : AC} {rvs : List RV} {args : List PV} {Q : PV -> St -> Prop} {s : List (Nat × PV)} {b : List (Nat × List PV)} {a : List (Nat × Arr)} {m : List (Nat × Mp)} (K : Nat) (hf : E.p.funcs[f]? = some fn) (hok : fnOkK E.p K ac rvs fn = true) (hn : args.length <= fn.ntmps)
  (hlow : allLt K s = true) (hkk : E.kk <= K) (hpl : ∀ ch st,E.pan ch st -> E.pan ch (st.low K)) (h : awp E ac (retM K rvs Q) ⟨argS K args s,b,a,m⟩) : FnX E f args ⟨s,b,a,m⟩ Q :=
 FnX.of_awp K hf hok hn (by rw [allLt_eq]; exact hlow) hkk hpl h
def FnPX (P : Program) (f : Nat) (args : List PV) (post : PV -> Prop) (panv : List PanicEntry -> Prop) : Prop := funOk P f = true /\
 ∀ (w : World) (Z : Zone),(∀ b,Z true b -> Z false b) -> (∀ p b,Z p b -> b < w.heap.size) -> ∀ vs : Array Value,vs.size = args.length -> (∀ j c,args[j]? = some c -> TV w Z c (vs.getD j undef)) ->
  Calls P f vs w fun e w' => (∃ v r,e = .returned v /\ post r /\ TV w' (fun p b => p = true /\ (Z true b \/ (w.heap.size <= b /\ b < w'.heap.size))) r v /\ Below w.heap.size w w') \/ (∃ ch,e = .panicked ch /\ panv ch /\ Below w.heap.size w w')
theorem FnPX.of_awp {P : Program} {f : Nat} {fn : Func} {ac : AC} {rvs : List RV} {args : List PV} {post : PV -> Prop} {panv : List PanicEntry -> Prop} (hf : P.funcs[f]? = some fn) (hok : fnOk P ac rvs fn = true) (hg : funOk P f = true) (hn : args.length <= fn.ntmps)
  (h : awp ⟨P,0,fun _ _ _ _ => False,fun ch _ => panv ch⟩ ac (retK rvs post) ⟨slots0 args,[],[],[]⟩) : FnPX P f args post panv := by
 refine ⟨hg,fun w Z zt zb vs hsz hrel => ?_⟩
 simp only [fnOk,Bool.and_eq_true] at hok
 obtain ⟨hb,hr⟩ := hok
 split at hb
 ·rename_i c hc
  have hsize : (vs ++ Array.replicate (fn.ntmps - vs.size) undef).size = fn.ntmps := by simp; omega
  have hinit : Inv w Z ⟨fn.ntmps,0,fun _ => undef,⟨[],fun _ => 0⟩,some (false,[])⟩ Z L00 ⟨slots0 args,[],[],[]⟩ { tmps := vs ++ Array.replicate (fn.ntmps - vs.size) undef,defers := [] } w := by
   refine ⟨zt,fun _ _ h => h,fun _ _ h => .inl h,zb,Below.refl _ _,?_,?_,?_,?_,?_,?_,?_,?_,?_,?_,fun x hx => (by cases hx),fun _ => rfl,hsize,fun dd e => ⟨[],⟨by cases e; rfl,fun _ => rfl⟩,⟨.nil,fun D hD => by cases hD⟩,fun D hD => by cases hD⟩,?_⟩
   ·intro id cs hl; simp [lk] at hl
   ·intro id cs hl; simp [lk] at hl
   ·intro i j x y hl; simp [lk] at hl
   ·intro i j x y hl; simp [lk] at hl
   ·intro i j x y hl; simp [lk] at hl
   ·intro id cs hl; simp [lk] at hl
   ·intro id cs hl; simp [lk] at hl
   ·intro id cs hl; simp [lk] at hl
   ·intro i j x y hl; simp [lk] at hl
   ·intro id cs hl; simp [lk] at hl
   ·intro i v hl
    simp only [lk_slots0] at hl
    have hi : i < vs.size := by rw [hsz]; exact (List.getElem?_eq_some_iff.1 hl).1
    have := hrel i v hl
    have e : (vs ++ Array.replicate (fn.ntmps - vs.size) undef).getD i undef = vs.getD i undef := by
     simp only [Array.getD_eq_getD_getElem?,Array.getElem?_append_left hi]
    unfold Fr.val
    rw [if_pos ⟨Nat.zero_le _,by simp only; omega⟩]
    simp only [Nat.sub_zero] at e ⊢
    rw [e]
    exact this.vr _
  have h' := awp_mono (Q' := xQ ⟨P,0,fun _ _ _ _ => False,fun ch _ => panv ch⟩ (retK rvs post)) ac (fun e st hh => by cases e <;> first | exact hh | (simp [retK,isEnd] at hh)) _ h
  refine callsIn_wide (n := 0) |>.1 (callsIn_of_wp_marks hf hc trivial ?_)
  have hE2 : EnvOK ⟨P,0,fun _ _ _ _ => False,fun ch _ => panv ch⟩ w Z ⟨[],fun _ => 0⟩ fun _ => undef := fun _ _ _ _ _ _ _ _ _ _ _ _ _ h => h.elim
  refine wpIn_mono (awp_sound (P := ⟨P,0,fun _ _ _ _ => False,fun ch _ => panv ch⟩) (w0 := w) (Z0 := Z) ac (N := ⟨fn.ntmps,0,fun _ => undef,⟨[],fun _ => 0⟩,some (false,[])⟩) (ro := none) (n := 0) hE2 (Nat.le_refl _) c (xQ _ (retK rvs post)) _ _ w (.inr ⟨rfl,fun dd e => by cases e; rfl⟩) (fun l st hh => by simp [xQ,retK,isEnd] at hh) (fun ch st hh => hh) hb h' ⟨_,_,hinit⟩) ?_
  rintro e a' w' ⟨st',hq,Z',L',hI⟩
  have hend : ∀ e,retK rvs post e st' -> LeavesInM Fence.wide 0 P fn a'.tmps (fun e w' => (∃ v r,e = .returned v /\ post r /\ TV w' (fun p b => p = true /\ (Z true b \/ (w.heap.size <= b /\ b < w'.heap.size))) r v /\ Below w.heap.size w w') \/ (∃ ch,e = .panicked ch /\ panv ch /\ Below w.heap.size w w')) a'.defers .returning w' := by
   rintro e ⟨he,h1,hfl,h2,h3⟩
   have hnt' : ∀ cs ds,(resV st' rvs).2 = .tup cs -> .tup ds ∉ cs := fun cs ds e hm => by rw [e] at hfl; have := List.all_eq_true.1 hfl _ hm; simp [isTup] at this
   refine hI.leave2 rfl (by simp) fun w2 hI3 => ?_
   obtain ⟨Z2,v,hI2,hrun,hvr⟩ := resV_run hI3 hr h1 hnt'
   have htv : TV w2 (fun p b => p = true /\ (Z true b \/ (w.heap.size <= b /\ b < w2.heap.size))) (resV st' rvs).2 v := by
    refine (VR.perm hvr h2).zone ?_
    rintro p b ⟨rfl,hb'⟩
    exact ⟨rfl,(hI2.zn true b hb').imp (fun e => e) (fun e => ⟨e,hI2.zb true b hb'⟩)⟩
   exact ⟨v,hrun,.inl ⟨v,_,rfl,h3,htv,hI3.below⟩⟩
  cases e <;> first | exact hend _ hq | (simp [xQ,retK,isEnd] at hq; done) | skip
  rename_i ch
  exact hI.leave2 rfl (by simp) fun w2 hI3 => .inr ⟨ch,rfl,hq,hI3.below⟩
 ·cases hb
theorem FnX.of_px {E : Env} {f : Nat} {args : List PV} {st : St} {post : PV -> Prop} {panv : List PanicEntry -> Prop} {Q : PV -> St -> Prop} (hc : FnPX E.p f (args.map (PV.rsA st)) post panv) (hq : ∀ r,post r -> Q r st) (hp : ∀ ch,panv ch -> E.pan ch st) : FnX E f args st Q := by
 refine ⟨hc.1,fun w0 Z0 X G Z L w vs _ h ha => ?_⟩
 refine (hc.2 w (calleeZ Z L st) ?_ ?_ vs (by simpa using ha.1) ?_).mono ?_
 ·rintro b (h1 | ⟨h1,_⟩)
  ·exact .inl (h.zt b h1)
  ·cases h1
 ·rintro p b (h1 | ⟨_,⟨id,A,h1,rfl⟩ | ⟨id,cs,h1,rfl⟩⟩)
  ·exact h.zb p b h1
  ·exact (h.owna id A h1).2.1
  ·exact (h.ownb id cs h1).2.1
 ·intro j cc hj
  rw [List.getElem?_map] at hj
  obtain ⟨x,h1,rfl⟩ := Option.map_eq_some_iff.1 hj
  exact (VR.rsA h (ha.2 j x h1)).tv
 ·have hmv : ∀ w', Below w.heap.size w w' -> Mem w0 Z0 X G (fun p b => Z p b \/ (w.heap.size <= b /\ b < w'.heap.size)) L st w' := fun w' h3 => h.move (fun _ _ h => .inl h) (fun b hb => hb.imp (h.zt b) (fun e => e))
   (fun p b hb => hb.imp (fun e => e) (fun e => e.1)) (fun p b hb => hb.elim (fun e => Nat.lt_of_lt_of_le (h.zb p b e) h3.size) (fun e => e.2)) h3
  rintro e w' (⟨v,r,rfl,h1,h2,h3⟩ | ⟨ch,rfl,h1,h3⟩)
  ·refine .inl ⟨v,r,st,_,L,rfl,hq r h1,hmv w' h3,TV.vr L (h2.zone ?_)⟩
   rintro p b ⟨rfl,hb | hb⟩
   ·rcases hb with hb | ⟨hb,_⟩
    ·exact .inl hb
    ·cases hb
   ·exact .inr hb
  ·exact .inr ⟨ch,st,_,L,rfl,hp ch h1,hmv w' h3⟩
@[push_cast] theorem rv_cell (st : St) (t : Nat) (agg : Bool) (sz : Nat) : RV.val st (.cell t agg sz) = rvC st agg sz (st.get t) := rvW_cell st t agg sz
theorem FnD.mono {P : Program} {g : Nat} {ids : List Nat} {u u' : FrameMode} {st : St} {Q Q' : St -> Prop} (h : FnD P g ids u u' st Q) (hq : ∀ st',Q st' -> Q' st') : FnD P g ids u u' st Q' :=
 fun w0 Z0 X G Z L w hM => CallsDIn.mono (h w0 Z0 X G Z L w hM) fun _ _ _ ⟨e1,e2,st',Z',L',e3,e4⟩ => ⟨e1,e2,st',Z',L',hq st' e3,e4⟩
theorem FnD.sub {P : Program} {g : Nat} {ids : List Nat} {u u' : FrameMode} {st : St} {Q : St -> Prop} (st1 : St) (h : FnD P g ids u u' st1 Q) (hs : ∀ i v, lk st1.s i = some v -> lk st.s i = some v) (hb : ∀ i v, lk st1.b i = some v -> lk st.b i = some v)
  (ha : ∀ i v,lk st1.a i = some v -> lk st.a i = some v) (hm : ∀ i v,lk st1.m i = some v -> lk st.m i = some v) : FnD P g ids u u' st Q :=
 fun w0 Z0 X G Z L w hM => h w0 Z0 X G Z L w (hM.forget (fun i v hl => .inl (hs i v hl)) hb ha hm)
def subL {α : Type} (l : List (Nat × α)) : List (Nat × α) -> Prop
 | [] => True
 | (i,v) :: r => lk l i = some v /\ subL l r
theorem subL_lk {α : Type} {l : List (Nat × α)} : ∀ {r : List (Nat × α)},subL l r -> ∀ i v,lk r i = some v -> lk l i = some v
 | [],_,i,v,hl => by cases hl
 | (k, u) :: r, h, i, v, hl => by
   simp only [lk] at hl
   split at hl
   ·rename_i e; cases hl; subst e; exact h.1
   ·exact subL_lk h.2 i v hl
section
variable {P : Env} {ops : List XO} {n : Nat} {dn : List Nat} {st : St} {K : St -> Prop}
theorem allK_nil (hc : allDn ops dn = true) (h : K st) : allK P ops 0 dn st K := ⟨hc,h⟩
theorem allK_cons (hc : allDn ops dn = false) (hg : ops.all (fun x => x.o.g.isNone) = true) (h : ∀ x ∈ ops,rdyB dn x = true -> opsK P [x.o] st fun st' => allK P ops n (x.i :: dn) st' K) : allK P ops (n + 1) dn st K := by
 refine ⟨fun e => (by rw [hc] at e; cases e),fun x hx hr => ?_⟩
 have h1 := h x hx hr
 have h2 : x.o.g = none := by simpa using List.all_eq_true.1 hg x hx
 simp only [opsK,h2,grdK] at h1 ⊢
 exact h1
@[push_cast] theorem a_dra (P : Env) (keep : List Nat) (ops : List XO) (Q : Exit -> St -> Prop) (st : St) : awp P (.dra keep ops) Q st = allK P ops ops.length [] (st.keepS keep) (Q .normal) := rfl
end
end Go.Vc
namespace Go.Proofs.Ytledbjkolidhkaa
open Go Go.Vc Txt
theorem within_ok (n lo hi : Int) : FnEq Try.prog 41 [.int n,.int lo,.int hi] (.bool (decide (lo <= n /\ n <= hi))) := by
 refine FnEq.of_awp Try.func41 ok41 (by show 3 <= _; decide) (by simp only [push_cast,reduceIte,reduceEqDiff,reduceAdd,reduceSub,reduceMul,Nat.reduceBEq,reduceLT,reduceLeDiff,reduceCtorEq,reduceToNat,reduceNeg] <;> first | exact fun _ _ => trivial | simp) ?_
 simp only [ac41,rv41,push_cast,reduceIte,reduceEqDiff,reduceAdd,reduceSub,reduceMul,Nat.reduceBEq,reduceLT,reduceLeDiff,reduceCtorEq,reduceToNat,reduceNeg]
 (repeat' (first | (refine grd_dec rfl (fun _ => ?_) fun _ => ?_ <;> simp only [push_cast,reduceIte,reduceEqDiff,reduceAdd,reduceSub,reduceMul,Nat.reduceBEq,reduceLT,reduceLeDiff,reduceCtorEq,reduceToNat,reduceNeg]) | (refine grd_decf rfl (fun _ => ?_) fun _ => ?_ <;> simp only [push_cast,reduceIte,reduceEqDiff,reduceAdd,reduceSub,reduceMul,Nat.reduceBEq,reduceLT,reduceLeDiff,reduceCtorEq,reduceToNat,reduceNeg])))
 all_goals (refine congrArg Value.bool ?_; first | rfl | (rw [decide_eq_decide]; omega) | (rw [eq_comm,decide_eq_true_iff]; omega) | (rw [eq_comm,decide_eq_false_iff_not]; omega) | (simp [*]; done))
def holdsF (k m : Int) : Bool := if k = 0 then decide (m = 0) else if k = 1 then decide (m ≠ 3) else true
theorem holds_ok (k m : Int) : FnEq Try.prog 68 [.int k,.int m] (.bool (holdsF k m)) := by
 refine FnEq.of_awp Try.func68 ok68 (by show 2 <= _; decide) (by simp only [push_cast,reduceIte,reduceEqDiff,reduceAdd,reduceSub,reduceMul,Nat.reduceBEq,reduceLT,reduceLeDiff,reduceCtorEq,reduceToNat,reduceNeg] <;> first | exact fun _ _ => trivial | simp) ?_
 simp only [ac68,rv68,push_cast,reduceIte,reduceEqDiff,reduceAdd,reduceSub,reduceMul,Nat.reduceBEq,reduceLT,reduceLeDiff,reduceCtorEq,reduceToNat,reduceNeg]
 refine cond_dec (fun h => ?_) fun h => ?_
 ·rw [holdsF,if_pos h]
 ·refine cond_dec (fun h2 => ?_) fun h2 => ?_
  ·rw [holdsF,if_neg h,if_pos h2]
  ·rw [holdsF,if_neg h,if_neg h2]
def unfitE : List PanicEntry := [{ v := .iface 115 (.agg #[]),recovered := false }]
theorem must_ok (b : Bool) : FnPX Try.prog 56 [.bool b] (fun r => b = true /\ r = .tup []) (fun ch => b = false /\ ch = unfitE) := by
 refine FnPX.of_awp Try.func56 ok56 (by kernel_rfl) (by show 1 <= _; decide) ?_
 simp only [ac56,rv56,push_cast,reduceIte,reduceEqDiff,reduceAdd,reduceSub,reduceMul,Nat.reduceBEq,reduceLT,reduceLeDiff,reduceCtorEq,reduceToNat,reduceNeg]
 exact ⟨fun h => ⟨by simpa using h,rfl⟩,fun h => by simpa using h⟩
theorem must_clx {pan : List PanicEntry -> St -> Prop} {d : Option Nat} {b : Bool} {r : List AO} {st : St} {K : St -> Prop} (h2 : b = false -> pan unfitE st) (h1 : b = true -> opsK ⟨Try.prog, 0, fun _ _ _ _ => False, pan⟩ r (st.put d (.tup [])) K) :
  clxK ⟨Try.prog,0,fun _ _ _ _ => False,pan⟩ d 56 [.sc (.bool b)] r st K :=
 clx_of (FnX.of_px (E := ⟨Try.prog,0,fun _ _ _ _ => False,pan⟩) (must_ok b) (Q := fun r st' => b = true /\ r = .tup [] /\ st' = st) (fun r h => ⟨h.1,h.2,rfl⟩) (fun ch h => by rw [h.2]; exact h2 h.1)) fun rv st' h => by
  obtain ⟨e1,rfl,rfl⟩ := h
  exact h1 e1
theorem must_dec {pan : List PanicEntry -> St -> Prop} {d : Option Nat} {p : Prop} [Decidable p] {r : List AO} {st : St} {K : St -> Prop} (h2 : ¬ p -> pan unfitE st) (h1 : p -> opsK ⟨Try.prog, 0, fun _ _ _ _ => False, pan⟩ r (st.put d (.tup [])) K) :
  clxK ⟨Try.prog,0,fun _ _ _ _ => False,pan⟩ d 56 [.sc (.bool (decide p))] r st K :=
 must_clx (fun e => h2 (of_decide_eq_false e)) (fun e => h1 (of_decide_eq_true e))
theorem bsearch_ok (l : List Int) (x : Int) (hs : l.Pairwise (· <= ·)) (hl : l.length < 4611686018427387904) : FnEq Try.prog 77 [.sl false 1 (ints l),.int x] (.tup [.int ((l.countP (· < x) : Nat) : Int),.bool (l.contains x)]) := by
 intro w Z zt zb vs hsz hrel
 have h0 : TR w Z (.sl false 1 (ints l)) (vs.getD 0 undef) := hrel 0 _ rfl
 have h1 : TR w Z (.int x) (vs.getD 1 undef) := hrel 1 _ rfl
 have e1 : vs.getD 1 undef = .int .i64 x := by generalize vs.getD 1 undef = u at h1; cases h1; rfl
 have hv : vs = #[vs.getD 0 undef,.int .i64 x] := by
  rw [<- e1]
  have hs2 : vs.size = 2 := hsz
  apply Array.ext
  ·simpa using hs2
  ·intro i h7 h8
   have : i = 0 \/ i = 1 := by simp at h8; omega
   rcases this with rfl | rfl <;> simp [Array.getD_eq_getD_getElem?,Array.getElem?_eq_getElem h7]
 have tv : ∀ (w' : World) (p : Nat) (b : Bool),TV w' (fun p b => p = true /\ (Z true b \/ (w.heap.size <= b /\ b < w'.heap.size))) (.tup [.int (p : Int),.bool b]) (.tuple #[.int .i64 (p : Int),.bool b]) := fun w' p b =>
  ⟨_,rfl,rfl,fun j c hj => by
   rcases j with _ | _ | j
   ·cases hj; exact TR.sc (.int .i64 p) rfl
   ·cases hj; exact TR.sc (.bool b) rfl
   ·simp at hj⟩
 generalize hu : vs.getD 0 undef = u at h0 hv
 rw [hv]
 generalize hL : ints l = L at h0
 cases h0 with
 | sl0 _ _ ad cap hcap =>
   have hl0 : l = [] := by rw [ints_map] at hL; simpa using hL
   subst hl0
   refine (Try.slices_BinarySearch_int_empty ad cap x w).mono ?_
   rintro e w' ⟨rfl,rfl⟩
   exact ⟨_,_,rfl,rfl,tv w' 0 false,RowKit.Below.refl _ _⟩
 | sl _ _ _ b o cap g g0 g1 g2 g3 g4 g5 g6 g7 =>
   have hlen : L.length = l.length := by rw [<- hL,ints_map]; simp
   have hcell : ∀ j,j < l.length -> w.cell? ⟨b,o + j,none⟩ = some (.int .i64 (l.getD j 0)) := fun j hj => by
    have h8 := g6 j 0 (by omega) (by omega)
    have h9 := g7 j 0 [.sc (.int .i64 (l.getD j 0))] (.sc (.int .i64 (l.getD j 0))) (by rw [<- hL,ints_map]; simp [hj]) rfl
    have e9 : g j 0 = .int .i64 (l.getD j 0) := by generalize g j 0 = u at h9; cases h9; rfl
    rw [<- e9]
    simpa using h8.1
   have := Try.slices_BinarySearch_int b o l.length cap l x w (Nat.le_refl _) hl hcell (by simpa using hs)
   rw [hlen]
   refine this.mono ?_
   rintro e w' ⟨rfl,q,rfl⟩
   rw [List.take_length]
   exact ⟨_,_,rfl,rfl,tv _ _ _,(RowKit.Below.refl _ _).trans ⟨rfl,rfl,rfl,Nat.le_refl _,fun _ _ => rfl⟩⟩
def encP : List (Nat × PV) := [(6,.ptr 6 0),(7,.ptr 7 0)]
theorem clos0_ok {b : List (Nat × List PV)} {a : List (Nat × Arr)} {m : List (Nat × Mp)} : FnD Try.prog 55 [6,7] .returning .returning ⟨encP,b,a,m⟩ (fun st' => st' = ⟨encP,b,a,m⟩) := by
 refine FnD.of_awp (d := 5) (v := .nilIface) 700 Try.func55 ok55_700 (by show 2 <= _; decide) rfl ⟨rfl,rfl⟩ rfl ?_
 simp only [ac55_700,encP,List.map_cons,List.map_nil,push_cast,reduceIte,reduceEqDiff,reduceAdd,reduceSub,reduceMul,Nat.reduceBEq,reduceLT,reduceLeDiff,reduceCtorEq,reduceToNat,reduceNeg]
 exact rfl
theorem clos1_ok : FnD Try.prog 55 [6, 7] (.panicking unfitE) (.panicking [{ v := .iface 115 (.agg #[]), recovered := true }]) ⟨encP, [(6, [.nil, .nil, .nil, .nil]), (7, [.int 0])], [], []⟩
  (fun st' => st' = ⟨encP,[(6,[.nil,.nil,.nil,.nil]),(7,[.int 350]),(703,[])],[],[]⟩) := by
 refine FnD.of_awp (d := 5) (v := .iface 115 (.agg #[])) 700 Try.func55 ok55_700 (by show 2 <= _; decide) rfl ⟨rfl,rfl⟩ rfl ?_
 simp only [ac55_700,encP,List.map_cons,List.map_nil,push_cast,reduceIte,reduceEqDiff,reduceAdd,reduceSub,reduceMul,Nat.reduceBEq,reduceLT,reduceLeDiff,reduceCtorEq,reduceToNat,reduceNeg]
 exact rfl
structure Wire where
 kind : Int
 i : Int
 bit : Int
 deriving DecidableEq,Inhabited
structure Block where
 ins : List Int
 table : Int
 ram : Int
 reg : Int
 key : Int
 deriving DecidableEq,Inhabited
structure Packed where
 ins : List Wire
 blocks : List Block
 out : List Wire
 drive : List Int
 deriving DecidableEq,Inhabited
structure Route where
 sig : Int
 nodes : List Int
 frm : List Int
 deriving DecidableEq,Inhabited
structure Layout where
 pos : List Int
 routes : List Route
 deriving DecidableEq,Inhabited
structure Cfg where
 sel : List Int
 mode : List Int
 tab : List Int
 ram : List Int
 deriving DecidableEq,Inhabited
def wireC (w : Wire) : List PV := [.int w.kind,.int w.i,.int w.bit]
def blockC (q : Bool) (b : Block) : List PV := [.sl q 1 (ints b.ins),.int b.table,.int b.ram,.int b.reg,.sc (.int .u64 b.key)]
def packC (q : Bool) (p : Packed) : List PV := [.sl q 3 (rows wireC p.ins),.sl q 5 (rows (blockC q) p.blocks),.sl q 3 (rows wireC p.out),.sl q 1 (ints p.drive)]
def routeC (q : Bool) (r : Route) : List PV := [.int r.sig,.sl q 1 (ints r.nodes),.sl q 1 (ints r.frm)]
def layC (q : Bool) (l : Layout) : List PV := [.sl q 1 (ints l.pos),.sl q 3 (rows (routeC q) l.routes)]
def cfgC (q : Bool) (c : Cfg) : List PV := [.sl q 1 (ints c.sel),.sl q 1 (ints c.mode),.sl q 1 (ints c.tab),.sl q 1 (ints c.ram)]
@[push_cast] theorem wireC_eq (w : Wire) : wireC w = [.int w.kind,.int w.i,.int w.bit] := rfl
@[push_cast] theorem blockC_eq (q : Bool) (b : Block) : blockC q b = [.sl q 1 (ints b.ins),.int b.table,.int b.ram,.int b.reg,.sc (.int .u64 b.key)] := rfl
@[push_cast] theorem packC_eq (q : Bool) (p : Packed) : packC q p = [.sl q 3 (rows wireC p.ins),.sl q 5 (rows (blockC q) p.blocks),.sl q 3 (rows wireC p.out),.sl q 1 (ints p.drive)] := rfl
@[push_cast] theorem routeC_eq (q : Bool) (r : Route) : routeC q r = [.int r.sig,.sl q 1 (ints r.nodes),.sl q 1 (ints r.frm)] := rfl
@[push_cast] theorem layC_eq (q : Bool) (l : Layout) : layC q l = [.sl q 1 (ints l.pos),.sl q 3 (rows (routeC q) l.routes)] := rfl
@[push_cast] theorem cfgC_eq (q : Bool) (c : Cfg) : cfgC q c = [.sl q 1 (ints c.sel),.sl q 1 (ints c.mode),.sl q 1 (ints c.tab),.sl q 1 (ints c.ram)] := rfl
def cfg0 : Cfg := ⟨[],[],[],[]⟩
def panE (bad : Prop) : List PanicEntry -> St -> Prop := fun ch st => (ch = unfitE /\ bad) /\ (lk st.s 6 = some (.ptr 6 0) /\ lk st.s 7 = some (.ptr 7 0) /\ lk st.s 60 = some (.clo 55 [6,7])) /\ lk st.b 6 = some [.nil,.nil,.nil,.nil] /\ lk st.b 7 = some [.int 0]
def encV (r : Cfg × Int) : PV := .tup [.agg (cfgC true r.1),.int r.2]
theorem enc_pan {bad : Prop} {r : Cfg × Int} (hb : bad -> r = (cfg0, 350)) (ch : List PanicEntry) (st : St) (h : panE bad ch st) :
  lk st.s 60 = some (.clo 55 [6,7]) /\ ∃ u',settle u' = .returning /\ FnD Try.prog 55 [6,7] (.panicking ch) u' st fun st' => retK rv36 (fun x => Sub x (encV r)) .ret st' := by
 obtain ⟨⟨rfl,h1⟩,⟨h2,h3,h4⟩,h5,h6⟩ := h
 refine ⟨h4,_,?_,FnD.sub _ (FnD.mono clos1_ok ?_) (subL_lk (r := encP) ⟨h2,h3,trivial⟩) (subL_lk (α := List PV) (r := [(6,[.nil,.nil,.nil,.nil]),(7,[.int 0])]) ⟨h5,h6,trivial⟩) (fun i v hl => by cases hl) (fun i v hl => by cases hl)⟩
 ·rfl
 ·rintro st' rfl
  rw [hb h1]
  simp only [encP,encV,cfg0,rv36,push_cast,reduceIte,reduceEqDiff,reduceAdd,reduceSub,reduceMul,Nat.reduceBEq,reduceLT,reduceLeDiff,reduceCtorEq,reduceToNat,reduceNeg]
def foldO {α β : Type} (f : α -> β -> Option α) : α -> List β -> Option α
 | a,[] => some a
 | a,x :: r => (f a x).bind fun b => foldO f b r
theorem foldO_append {α β : Type} (f : α -> β -> Option α) : ∀ (l1 l2 : List β) (a : α),foldO f a (l1 ++ l2) = (foldO f a l1).bind fun b => foldO f b l2
 | [],l2,a => rfl
 | x :: r, l2, a => by
   simp only [List.cons_append,foldO]
   cases f a x with
   | none => rfl
   | some b => exact foldO_append f r l2 b
def blankF (g : Grid) : Cfg := ⟨List.replicate (countF g).toNat 0,List.replicate g.kind.length 0,List.replicate g.kind.length 0,List.replicate g.kind.length 0⟩
def BlockOk (b : Block) : Prop := (-1 <= b.ram /\ b.ram <= 255) /\ (-1 <= b.reg /\ b.reg <= 255) /\ (0 <= b.table /\ b.table <= 65535) /\ min b.ram b.reg = -1
instance (b : Block) : Decidable (BlockOk b) := by unfold BlockOk; infer_instance
def blockSet (c : Cfg) (b : Block) (t : Nat) : Cfg :=
 if 0 <= b.ram then { c with mode := c.mode.set t 3,ram := c.ram.set t b.ram }
 else if 0 <= b.reg then { c with mode := c.mode.set t 2,tab := c.tab.set t b.table,ram := c.ram.set t b.reg }
 else { c with mode := c.mode.set t 1,tab := c.tab.set t b.table }
def blockF (g : Grid) (c : Cfg) (x : Block × Int) : Option Cfg :=
 if (0 <= x.2 /\ x.2 <= (g.kind.length : Int) - 1) /\ c.mode.getD x.2.toNat 0 = 0 then
  if BlockOk x.1 then
   if holdsF (g.kind.getD x.2.toNat 0) ((blockSet c x.1 x.2.toNat).mode.getD x.2.toNat 0) = true then some (blockSet c x.1 x.2.toNat) else none
  else none
 else none
def stepN (g : Grid) (a : List Int × List Int) (i : Nat) (node f x : Int) : Option (List Int × List Int) :=
 if (0 <= node /\ node <= (a.1.length : Int) - 1) /\ node ∉ a.2 then
  if i = 0 then if driversF g node = [] then some (a.1,a.2 ++ [node]) else none
  else if 0 <= f /\ f <= (i : Int) - 1 then
   if x ∈ driversF g node then some (a.1.set node.toNat (1 + ((driversF g node).countP (· < x) : Nat)),a.2 ++ [node]) else none
  else none
 else none
def stepF (g : Grid) (r : Route) (a : List Int × List Int) (i : Nat) : Option (List Int × List Int) := stepN g a i (r.nodes.getD i 0) (r.frm.getD i 0) (r.nodes.getD (r.frm.getD i 0).toNat 0)
def routeF (g : Grid) (a : List Int × List Int) (r : Route) : Option (List Int × List Int) :=
 if r.nodes ≠ [] /\ r.frm.length = r.nodes.length /\ r.frm.getD 0 0 = -1 then foldO (stepF g r) a (List.range r.nodes.length) else none
def encO (p : Packed) (g : Grid) (l : Layout) : Option Cfg :=
 if l.pos.length = p.blocks.length then
  (foldO (blockF g) (blankF g) (p.blocks.zip l.pos)).bind fun c => (foldO (routeF g) (c.sel,[]) l.routes).map fun a => { c with sel := a.1 }
 else none
def encF (p : Packed) (g : Grid) (l : Layout) : Cfg × Int := match encO p g l with | some c => (c,0) | none => (cfg0,350)
def encA (c : Cfg) : List (Nat × Arr) := [(109,⟨1,3,ints c.sel⟩),(111,⟨1,3,ints c.mode⟩),(113,⟨1,3,ints c.tab⟩),(115,⟨1,3,ints c.ram⟩)]
def encB (p : Packed) (g : Grid) (l : Layout) : List (Nat × List PV) := [(3,packC false p),(4,gridC false g),(5,layC false l),(6,[.nil,.nil,.nil,.nil]),(7,[.int 0])]
def bSt (p : Packed) (g : Grid) (l : Layout) (q r : Bool) : St :=
 ⟨[(3,.ptr 3 0),(4,.ptr 4 0),(5,.ptr 5 0),(6,.ptr 6 0),(7,.ptr 7 0)] ++ (if q then [(14,.agg (gridC false g))] else []) ++ [(15,.agg (gridC false g))] ++ (if r then [(17,.mp 17)] else []) ++ [(60,.clo 55 [6,7])],
  encB p g l,[],if r then [(17,⟨.int .i64,[],none⟩)] else []⟩
theorem blankm_ok (p : Packed) (g : Grid) (hg : GOk g) (l : Layout) (q r : Bool) : FnM (Env.of Try.prog) 20 [.agg (gridC false g)] (bSt p g l q r) (fun v st' =>
  v = .agg [.view 109 0 (countF g).toNat,.view 111 0 g.kind.length,.view 113 0 g.kind.length,.view 115 0 g.kind.length] /\ st' = { bSt p g l q r with a := encA (blankF g) }) := by
 have h1 := hg.count
 have h2 := hg.wh
 have h3 := hg.kind
 refine FnM.dropB 101 (FnM.dropB 102 ?_)
 cases q <;> cases r <;> simp only [bSt,encB,List.cons_append,List.nil_append,push_cast,reduceIte,reduceEqDiff,reduceAdd,reduceSub,reduceMul,Nat.reduceBEq,reduceLT,reduceLeDiff,reduceCtorEq,reduceToNat,reduceNeg]
 all_goals
  refine fnM_of 100 Try.func20 ok20_100 (by show 1 <= _; decide) rfl (by decide) ?_
  simp only [ac20_100,rv20_100,push_cast,reduceIte,reduceEqDiff,reduceAdd,reduceSub,reduceMul,Nat.reduceBEq,reduceLT,reduceLeDiff,reduceCtorEq,reduceToNat,reduceNeg]
  refine dcal_sub (ccount_ok g hg) sC rfl ?_
  refine sB ?_
  refine ⟨by omega,by omega,by omega,by omega,?_,?_⟩
  ·simp
  ·simp only [encA,blankF,List.length_replicate,push_cast,reduceIte,reduceEqDiff,reduceAdd,reduceSub,reduceMul,Nat.reduceBEq,reduceLT,reduceLeDiff,reduceCtorEq,reduceToNat,reduceNeg]
def wrC (g : Grid) : List PV := gridC false g ++ [.view 109 0 (countF g).toNat,.view 111 0 g.kind.length,.view 113 0 g.kind.length,.view 115 0 g.kind.length,.mp 17]
@[push_cast] theorem wrC_eq (g : Grid) : wrC g = [.int g.w,.int g.h,.int g.tracks,.int g.pads,.sl false 1 (ints g.kind),.view 109 0 (countF g).toNat,.view 111 0 g.kind.length,.view 113 0 g.kind.length,.view 115 0 g.kind.length,.mp 17] := rfl
@[push_cast] theorem encA_eq (c : Cfg) : encA c = [(109,⟨1,3,ints c.sel⟩),(111,⟨1,3,ints c.mode⟩),(113,⟨1,3,ints c.tab⟩),(115,⟨1,3,ints c.ram⟩)] := rfl
structure CfgOk (g : Grid) (c : Cfg) : Prop where
 sel : c.sel.length = (countF g).toNat
 mode : c.mode.length = g.kind.length
 tab : c.tab.length = g.kind.length
 ram : c.ram.length = g.kind.length
theorem lk_lowL (k i : Nat) (h : i < k) : ∀ l : List (Nat × PV),lk (l.filter fun x => decide (x.1 < k)) i = lk l i
 | [] => rfl
 | (j, v) :: r => by
   by_cases e : j < k
   ·rw [List.filter_cons_of_pos (by simpa using e)]
    simp only [lk]
    split
    ·rfl
    ·exact lk_lowL k i h r
   ·rw [List.filter_cons_of_neg (by simpa using e)]
    simp only [lk]
    rw [if_neg (by omega)]
    exact lk_lowL k i h r
theorem panE_low {bad : Prop} {K : Nat} (hK : 61 <= K) (ch : List PanicEntry) (st : St) (h : panE bad ch st) : panE bad ch (st.low K) := by
 obtain ⟨h1,⟨h2,h3,h4⟩,h5,h6⟩ := h
 refine ⟨h1,⟨?_,?_,?_⟩,h5,h6⟩
 ·exact (lk_lowL K 6 (by omega) _).trans h2
 ·exact (lk_lowL K 7 (by omega) _).trans h3
 ·exact (lk_lowL K 60 (by omega) _).trans h4
end Go.Proofs.Ytledbjkolidhkaa
namespace Go.Vc
theorem FnX.dropB {E : Env} {f : Nat} {args : List PV} {st : St} {Q : PV -> St -> Prop} (i : Nat) (h : FnX E f args st fun r st' => Q r { st' with b := rm st'.b i }) : FnX E f args st Q :=
 ⟨h.1,fun w0 Z0 X G Z L w vs h1 h2 h3 => (h.2 w0 Z0 X G Z L w vs h1 h2 h3).mono fun _ _ h => h.imp (fun ⟨v,r,st',Z',L',e1,e2,e3,e4⟩ => ⟨v,r,_,Z',L',e1,e2,e3.rmBox i,e4⟩) id⟩
end Go.Vc
namespace Go.Proofs.Ytledbjkolidhkaa
open Go Go.Vc Txt
def bkB (p : Packed) (g : Grid) (l : Layout) : List (Nat × List PV) := [(3,packC false p),(5,layC false l),(6,[.nil,.nil,.nil,.nil]),(7,[.int 0]),(19,wrC g)]
def bkS (p : Packed) (l : Layout) (k : Nat) : List (Nat × PV) := [(3,.ptr 3 0),(5,.ptr 5 0),(6,.ptr 6 0),(7,.ptr 7 0),(8,.ptr 19 0),(9,.int k),(10,.int (l.pos.getD k default)),(29,.sl false 1 (ints l.pos)),(30,.int l.pos.length),(31,.int k),(36,.ptr 19 0),(37,.ptr 3 1),
 (38,.sl false 5 (rows (blockC false) p.blocks)),(39,.int k),(40,.iptr false ((rows (blockC false) p.blocks).getD k []) 0),(41,.agg (blockC false (p.blocks.getD k default))),(42,.int (l.pos.getD k default)),(60,.clo 55 [6,7])]
def bkM : List (Nat × Mp) := [(17,⟨.int .i64,[],none⟩)]
def bkB2 (p : Packed) (g : Grid) (l : Layout) (b : Block) : List (Nat × List PV) := bkB p g l ++ [(104,blockC false b)]
def bkS2 (p : Packed) (l : Layout) (k : Nat) (t : Int) : List (Nat × PV) := bkS p l k ++ [(100,.ptr 19 0),(102,.int t)]
set_option maxRecDepth 20000 in
theorem blk8 (bad : Prop) (p : Packed) (g : Grid) (l : Layout) (k : Nat) (c : Cfg) (hc : CfgOk g c) (b : Block) (t : Int) (ht : 0 <= t /\ t <= (g.kind.length : Int) - 1) (hbad : ¬ holdsF (g.kind.getD t.toNat 0) (c.mode.getD t.toNat 0) = true -> bad)
  {Q : PV -> St -> Prop} (hQ : holdsF (g.kind.getD t.toNat 0) (c.mode.getD t.toNat 0) = true -> Q (.tup []) ⟨bkS p l k,bkB2 p g l b,encA c,bkM⟩) {st : St} (hst : st.keepS [100,132,100,102] = ⟨bkS2 p l k t,bkB2 p g l b,encA c,bkM⟩) :
  awp ⟨Try.prog,0,fun _ _ _ _ => False,panE bad⟩ ac57_100_q8 (retM 100 [] Q) st := by
 have hcm := hc.mode
 rw [ac57_100_q8,a_drw,hst]
 simp only [bkS,bkS2,bkB,bkB2,bkM,List.cons_append,List.nil_append,push_cast,reduceIte,reduceEqDiff,reduceAdd,reduceSub,reduceMul,Nat.reduceBEq,reduceLT,reduceLeDiff,reduceCtorEq,reduceToNat,reduceNeg] at hQ ⊢
 refine ⟨by omega,by omega,by omega,by omega,?_⟩
 refine cal_eq (holds_ok _ _) ?_
 refine sB ?_
 refine must_clx (fun h => ⟨⟨rfl,hbad (Bool.eq_false_iff.1 h)⟩,⟨rfl,rfl,rfl⟩,rfl,rfl⟩) fun h => ?_
 refine sB ?_
 exact hQ h
set_option maxHeartbeats 4000000 in
set_option maxRecDepth 20000 in
theorem block_q (bad : Prop) (p : Packed) (g : Grid) (hg : GOk g) (l : Layout) (k : Nat) (c : Cfg) (hc : CfgOk g c) (b : Block) (t : Int) (hbad : blockF g c (b, t) = none -> bad)
  {Q : PV -> St -> Prop} (hQ : ∀ c',blockF g c (b,t) = some c' -> Q (.tup []) ⟨bkS p l k,bkB2 p g l b,encA c',bkM⟩) : FnX ⟨Try.prog,0,fun _ _ _ _ => False,panE bad⟩ 57 [.ptr 19 0,.agg (blockC false b),.int t] ⟨bkS p l k,bkB p g l,encA c,bkM⟩ Q := by
 have h1 := hg.count
 have h2 := hg.wh
 have h3 := hg.kind
 simp only [bkS,bkB,bkM,push_cast,reduceIte,reduceEqDiff,reduceAdd,reduceSub,reduceMul,Nat.reduceBEq,reduceLT,reduceLeDiff,reduceCtorEq,reduceToNat,reduceNeg]
 refine fnX_of 100 Try.func57 ok57_100 (by show 3 <= _; decide) rfl (Nat.zero_le _) (fun ch st h => panE_low (by decide) ch st h) ?_
 simp only [ac57_100,rv57_100,push_cast,reduceIte,reduceEqDiff,reduceAdd,reduceSub,reduceMul,Nat.reduceBEq,reduceLT,reduceLeDiff,reduceCtorEq,reduceToNat,reduceNeg]
 have hcm := hc.mode
 have hct := hc.tab
 have hcr := hc.ram
 refine ⟨by omega,?_⟩
 refine cal_eq (within_ok _ _ _) ?_
 refine sB ?_
 refine grd_dec rfl (fun ht => ?_) fun ht => ?_ <;> refine sB ?_
 rotate_left
 ·refine must_clx (fun _ => ⟨⟨rfl,hbad ?_⟩,⟨rfl,rfl,rfl⟩,rfl,rfl⟩) fun h => absurd h (by decide)
  rw [blockF,if_neg (fun h => ht h.1)]
 refine ⟨by omega,by omega,?_⟩
 refine must_dec (fun hm => ⟨⟨rfl,hbad ?_⟩,⟨rfl,rfl,rfl⟩,rfl,rfl⟩) fun hm => ?_
 ·rw [blockF,if_neg (fun h => hm h.2)]
 refine sB ?_
 refine cal_eq (within_ok _ _ _) ?_
 refine sB ?_
 have hm' : c.mode.getD t.toNat 0 = 0 := hm
 refine grd_dec rfl (fun e1 => ?_) fun e1 => ?_ <;> refine sB ?_
 rotate_left
 ·refine must_clx (fun _ => ⟨⟨rfl,hbad ?_⟩,⟨rfl,rfl,rfl⟩,rfl,rfl⟩) fun h => absurd h (by decide)
  rw [blockF,if_pos ⟨ht,hm'⟩,if_neg (fun h => e1 h.1)]
 refine cal_eq (within_ok _ _ _) ?_
 refine sB ?_
 refine grd_dec rfl (fun e2 => ?_) fun e2 => ?_ <;> refine sB ?_
 rotate_left
 ·refine must_clx (fun _ => ⟨⟨rfl,hbad ?_⟩,⟨rfl,rfl,rfl⟩,rfl,rfl⟩) fun h => absurd h (by decide)
  rw [blockF,if_pos ⟨ht,hm'⟩,if_neg (fun h => e2 h.2.1)]
 refine cal_eq (within_ok _ _ _) ?_
 refine sB ?_
 refine grd_dec rfl (fun e3 => ?_) fun e3 => ?_ <;> refine sB ?_
 rotate_left
 ·refine must_clx (fun _ => ⟨⟨rfl,hbad ?_⟩,⟨rfl,rfl,rfl⟩,rfl,rfl⟩) fun h => absurd h (by decide)
  rw [blockF,if_pos ⟨ht,hm'⟩,if_neg (fun h => e3 h.2.2.1)]
 refine must_dec (fun e4 => ⟨⟨rfl,hbad ?_⟩,⟨rfl,rfl,rfl⟩,rfl,rfl⟩) fun e4 => ?_
 ·rw [blockF,if_pos ⟨ht,hm'⟩,if_neg (fun h => e4 h.2.2.2)]
 refine sB ?_
 have hB : BlockOk b := ⟨e1,e2,e3,e4⟩
 have e8 : ∀ c' : Cfg,CfgOk g c' -> blockSet c b t.toNat = c' -> ∀ st : St,st.keepS [100,132,100,102] = ⟨bkS2 p l k t,bkB2 p g l b,encA c',bkM⟩ -> awp ⟨Try.prog,0,fun _ _ _ _ => False,panE bad⟩ ac57_100_q8 (retM 100 [] Q) st := by
  intro c' hc' hs st hst
  refine blk8 bad p g l k c' hc' b t ht (fun h => hbad ?_) (fun h => hQ c' ?_) hst
  ·rw [blockF,if_pos ⟨ht,hm'⟩,if_pos hB]
   simp only [hs]
   rw [if_neg h]
  ·rw [blockF,if_pos ⟨ht,hm'⟩,if_pos hB]
   simp only [hs]
   rw [if_pos h]
 refine cond_dec (fun h5 => ?_) fun h5 => ?_
 ·simp only [ac57_100_q5,push_cast,reduceIte,reduceEqDiff,reduceAdd,reduceSub,reduceMul,Nat.reduceBEq,reduceLT,reduceLeDiff,reduceCtorEq,reduceToNat,reduceNeg]
  refine ⟨by omega,by omega,by omega,by omega,e8 { c with mode := c.mode.set t.toNat 3,ram := c.ram.set t.toNat b.ram } ⟨hc.sel,by simpa using hcm,hct,by simpa using hcr⟩ (by simp only [blockSet]; rw [if_pos h5]) _ ?_⟩
  simp only [bkS,bkS2,bkB,bkB2,bkM,List.cons_append,List.nil_append,push_cast,reduceIte,reduceEqDiff,reduceAdd,reduceSub,reduceMul,Nat.reduceBEq,reduceLT,reduceLeDiff,reduceCtorEq,reduceToNat,reduceNeg]
  trace_state
 ·refine cond_dec (fun h6 => ?_) fun h6 => ?_
  ·simp only [ac57_100_q7,push_cast,reduceIte,reduceEqDiff,reduceAdd,reduceSub,reduceMul,Nat.reduceBEq,reduceLT,reduceLeDiff,reduceCtorEq,reduceToNat,reduceNeg]
   refine ⟨by omega,by omega,by omega,by omega,by omega,by omega,e8 { c with mode := c.mode.set t.toNat 2,tab := c.tab.set t.toNat b.table,ram := c.ram.set t.toNat b.reg } ⟨hc.sel,by simpa using hcm,by simpa using hct,by simpa using hcr⟩ (by simp only [blockSet]; rw [if_neg h5,if_pos h6]) _ ?_⟩
   simp only [bkS,bkS2,bkB,bkB2,bkM,List.cons_append,List.nil_append,push_cast,reduceIte,reduceEqDiff,reduceAdd,reduceSub,reduceMul,Nat.reduceBEq,reduceLT,reduceLeDiff,reduceCtorEq,reduceToNat,reduceNeg]
  ·simp only [ac57_100_q3,push_cast,reduceIte,reduceEqDiff,reduceAdd,reduceSub,reduceMul,Nat.reduceBEq,reduceLT,reduceLeDiff,reduceCtorEq,reduceToNat,reduceNeg]
   refine ⟨by omega,by omega,by omega,by omega,e8 { c with mode := c.mode.set t.toNat 1,tab := c.tab.set t.toNat b.table } ⟨hc.sel,by simpa using hcm,by simpa using hct,hcr⟩ (by simp only [blockSet]; rw [if_neg h5,if_neg h6]) _ ?_⟩
   simp only [bkS,bkS2,bkB,bkB2,bkM,List.cons_append,List.nil_append,push_cast,reduceIte,reduceEqDiff,reduceAdd,reduceSub,reduceMul,Nat.reduceBEq,reduceLT,reduceLeDiff,reduceCtorEq,reduceToNat,reduceNeg]
theorem block_ok (bad : Prop) (p : Packed) (g : Grid) (hg : GOk g) (l : Layout) (k : Nat) (c : Cfg) (hc : CfgOk g c) (b : Block) (t : Int) (hbad : blockF g c (b, t) = none -> bad) : FnX ⟨Try.prog, 0, fun _ _ _ _ => False, panE bad⟩ 57 [.ptr 19 0, .agg (blockC false b), .int t] ⟨bkS p l k, bkB p g l, encA c, bkM⟩
  (fun r st' => r = .tup [] /\ ∃ c',blockF g c (b,t) = some c' /\ st' = ⟨bkS p l k,bkB p g l,encA c',bkM⟩) :=
 FnX.dropB 104 (block_q bad p g hg l k c hc b t hbad fun c' h => ⟨rfl,c',h,rfl⟩)
end Go.Proofs.Ytledbjkolidhkaa
