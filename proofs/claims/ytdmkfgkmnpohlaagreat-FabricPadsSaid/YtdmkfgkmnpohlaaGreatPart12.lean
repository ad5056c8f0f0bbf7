/- ZG ZH ZD ZF ZI ZJ ZK ZL ZM FC: lemmas -/
import Derived.Test.YtdmkfgkmnpohlaaGreatPart11
import Derived.Test.YtdmkfgkmnpohlaaGreatPart10
set_option linter.unusedSimpArgs false
set_option linter.unusedVariables false
open Nat (reduceEqDiff reduceAdd reduceSub reduceMul reduceLT reduceLeDiff)
open Int (reduceToNat reduceNeg)
namespace Go.Proofs.YtdmkfgkmnpohlaaGreat
open Go Go.Vc Txt
def qzU (l : List Int) (n : Int) : Int := if n ∈ l then (l.idxOf n : Nat) else -1
theorem qzV {n : Int} : ∀ {l : List Int} {k : Nat},k < l.length -> l.getD k 0 = n -> (∀ i,i < k -> l.getD i 0 ≠ n) -> l.idxOf n = k
 | x :: l,0,_,h,_ => by simp at h; simp [h]
 | x :: l, k + 1, hk, h, h2 => by
   have h0 : x ≠ n := by simpa using h2 0 (by omega)
   have := qzV (l := l) (k := k) (by simpa using hk) (by simpa using h) fun i hi => by simpa using h2 (i + 1) (by omega)
   rw [List.idxOf_cons,this,show (x == n) = false from beq_false_of_ne h0]
   rfl
theorem qzW (l : List Int) (hl : (l.length : Int) <= 1000000000) (n : Int) : FnEq Tryz.prog 44 [.sl false 1 (ints l),.int n] (.int (qzU l n)) := by
 refine FnEq.of_awp Tryz.func44 ok44 (by show 2 <= _; decide) (by simp only [push_cast,reduceIte,reduceEqDiff,reduceAdd,reduceSub,reduceMul,Nat.reduceBEq,reduceLT,reduceLeDiff,reduceCtorEq,reduceToNat,reduceNeg] <;> first | exact fun _ _ => trivial | simp) ?_
 simp only [ac44,rv44,push_cast,reduceIte,reduceEqDiff,reduceAdd,reduceSub,reduceMul,Nat.reduceBEq,reduceLT,reduceLeDiff,reduceCtorEq,reduceToNat,reduceNeg]
 have e0 : ∀ (l : List Int) (j : Nat),l.getD j default = l.getD j 0 := fun _ _ => rfl
 refine qoH (fun m st => ∃ k : Nat,k <= l.length /\ m = l.length - k /\ (∀ i,i < k -> l.getD i 0 ≠ n) /\ st = ⟨[(0,.sl false 1 (ints l)),(1,.int n),(5,.int k)],[],[],[]⟩) l.length ?_ ?_
 ·refine ⟨0,by omega,by omega,fun i hi => by omega,?_⟩
  exact sC
 rintro m st ⟨k,hk,rfl,hP,rfl⟩
 simp only [e0,push_cast,reduceIte,reduceEqDiff,reduceAdd,reduceSub,reduceMul,Nat.reduceBEq,reduceLT,reduceLeDiff,reduceCtorEq,reduceToNat,reduceNeg]
 refine qnR (fun h => ⟨by omega,by omega,qnR (fun h2 => ?_) fun h2 => ?_⟩) fun h => ?_
 ·have hm : n ∈ l := h2 ▸ qza (by omega)
  rw [qzU,if_pos hm,qzV (k := k) (by omega) h2 hP]
 ·refine ⟨by omega,_,?_,k + 1,by omega,rfl,?_,?_⟩
  ·omega
  ·intro i hi
   by_cases e : i = k
   ·rw [e]; exact h2
   ·exact hP i (by omega)
  ·exact sC
 ·have hm : n ∉ l := fun hm => by
   obtain ⟨i,hi,e⟩ := List.getElem_of_mem hm
   refine hP i (by omega) ?_
   simp [hi,e]
  rw [qzU,if_neg hm]
def qzX (g : Grid) (b : Block) (t : Int) : Prop := ((0 <= t /\ t < g.kind.length) /\ g.kind.getD t.toNat 0 ≠ 0 /\ ¬ (g.kind.getD t.toNat 0 = 1 /\ b.ram ≠ -1)) /\
 ((0 <= b.table /\ b.table <= 65535) /\ (-1 <= b.ram /\ b.ram <= 255) /\ (-1 <= b.reg /\ b.reg <= 255)) /\ (b.ram = -1 \/ b.reg = -1)
instance (g : Grid) (b : Block) (t : Int) : Decidable (qzX g b t) := by unfold qzX; infer_instance
set_option maxHeartbeats 4000000 in
theorem qzY (g : Grid) (hg : GOk g) (b : Block) (t : Int) : FnEq Tryz.prog 73 [.agg (quy false g),.agg (qwB false b),.int t] (.bool (decide (qzX g b t))) := by
 have hk := hg.kind
 have hw := hg.wh
 refine FnEq.of_awp Tryz.func73 ok73 (by show 3 <= _; decide) (by simp only [push_cast,reduceIte,reduceEqDiff,reduceAdd,reduceSub,reduceMul,Nat.reduceBEq,reduceLT,reduceLeDiff,reduceCtorEq,reduceToNat,reduceNeg] <;> first | exact fun _ _ => trivial | simp) ?_
 simp only [ac73,rv73,push_cast,reduceIte,reduceEqDiff,reduceAdd,reduceSub,reduceMul,Nat.reduceBEq,reduceLT,reduceLeDiff,reduceCtorEq,reduceToNat,reduceNeg]
 have e0 : ∀ (l : List Int) (j : Nat),l.getD j default = l.getD j 0 := fun _ _ => rfl
 obtain ⟨B,hB⟩ : ∃ B,B = decide (¬ ((0 <= t /\ t < g.kind.length) /\ g.kind.getD t.toNat 0 ≠ 0 /\ ¬ (g.kind.getD t.toNat 0 = 1 /\ b.ram ≠ -1))) := ⟨_,rfl⟩
 refine qry ⟨[(4,.ptr 4 0),(38,.bool B)],[(3,quy false g),(4,qwB false b)],[],[]⟩ ?_ ?_
 ·generalize hx : g.kind.getD t.toNat 0 = x at *
  repeat' (first
   | (refine qrr rfl (fun _ => ?_) fun _ => ?_ <;> simp only [e0,hx,<- hk,push_cast,reduceIte,reduceEqDiff,reduceAdd,reduceSub,reduceMul,Nat.reduceBEq,reduceLT,reduceLeDiff,reduceCtorEq,reduceToNat,reduceNeg])
   | (refine qrq rfl (fun _ => ?_) fun _ => ?_ <;> simp only [e0,hx,<- hk,push_cast,reduceIte,reduceEqDiff,reduceAdd,reduceSub,reduceMul,Nat.reduceBEq,reduceLT,reduceLeDiff,reduceCtorEq,reduceToNat,reduceNeg])
   | (refine And.intro (by omega) ?_; try simp only [e0,hx,<- hk,push_cast,reduceIte,reduceEqDiff,reduceAdd,reduceSub,reduceMul,Nat.reduceBEq,reduceLT,reduceLeDiff,reduceCtorEq,reduceToNat,reduceNeg]))
  all_goals first
   | (rw [show B = true from by rw [hB]; exact decide_eq_true (by omega)]; done)
   | (rw [show B = false from by rw [hB]; exact decide_eq_false (by omega)]; done)
   | (rw [show B = decide (b.ram ≠ -1) from by rw [hB,decide_eq_decide]; omega]; done)
   | (rw [show B = decide (x = 0) from by rw [hB,decide_eq_decide]; omega]; done)
   | skip
 simp only [e0,push_cast,reduceIte,reduceEqDiff,reduceAdd,reduceSub,reduceMul,Nat.reduceBEq,reduceLT,reduceLeDiff,reduceCtorEq,reduceToNat,reduceNeg]
 refine qnQ (fun e => ?_) fun e => ?_
 ·rw [hB,decide_eq_true_eq] at e
  rw [decide_eq_false fun h => e h.1]
 rw [hB,decide_eq_false_iff_not,Classical.not_not] at e
 obtain ⟨C,hC⟩ : ∃ C,C = decide (qzX g b t) := ⟨_,rfl⟩
 have hBF : qzX g b t ↔ ((0 <= b.table /\ b.table <= 65535) /\ (-1 <= b.ram /\ b.ram <= 255) /\ (-1 <= b.reg /\ b.reg <= 255)) /\ (b.ram = -1 \/ b.reg = -1) := ⟨fun h => h.2,fun h => ⟨e,h⟩⟩
 rw [<- hC]
 clear e hB
 repeat' (first
  | (refine qrr rfl (fun _ => ?_) fun _ => ?_ <;> simp only [push_cast,reduceIte,reduceEqDiff,reduceAdd,reduceSub,reduceMul,Nat.reduceBEq,reduceLT,reduceLeDiff,reduceCtorEq,reduceToNat,reduceNeg])
  | (refine qrq rfl (fun _ => ?_) fun _ => ?_ <;> simp only [push_cast,reduceIte,reduceEqDiff,reduceAdd,reduceSub,reduceMul,Nat.reduceBEq,reduceLT,reduceLeDiff,reduceCtorEq,reduceToNat,reduceNeg]))
 all_goals first
  | (rw [show C = true from by rw [hC]; exact decide_eq_true (hBF.2 (by omega))]; done)
  | (rw [show C = false from by rw [hC]; exact decide_eq_false fun h => by have := hBF.1 h; omega]; done)
  | (rw [show C = decide (b.reg = -1) from by rw [hC,decide_eq_decide,hBF]; omega]; done)
  | skip
def SrcK (s : Spot) : Prop := s.kind = 1 \/ s.kind = 2 \/ s.kind = 6
instance (s : Spot) : Decidable (SrcK s) := by unfold SrcK; infer_instance
def qzZ (g : Grid) : List Int := idxF (fun k => decide (SrcK (quJ g k))) (quD g).toNat
theorem qA0 (p : Nat -> Bool) (x : Int) : ∀ k,x ∈ idxF p k ↔ ∃ i,i < k /\ p i = true /\ x = (i : Int)
 | 0 => by simp [idxF]
 | k + 1 => by
   rw [idxF,List.mem_append,qA0 p x k]
   constructor
   ·rintro (⟨i,h1,h2,h3⟩ | h)
    ·exact ⟨i,by omega,h2,h3⟩
    ·split at h
     ·rename_i hp
      exact ⟨k,by omega,hp,by simpa using h⟩
     ·simp at h
   ·rintro ⟨i,h1,h2,h3⟩
    by_cases e : i = k
    ·subst e
     rw [if_pos h2]
     exact .inr (by simp [h3])
    ·exact .inl ⟨i,by omega,h2,h3⟩
set_option maxHeartbeats 2000000 in
theorem qA1 (g : Grid) (hg : GOk g) : FnEq Tryz.prog 74 [.agg (quy false g)] (.sl true 1 (ints (qzZ g))) := by
 have h3 := hg.count
 obtain ⟨c,hc⟩ : ∃ c : Nat,quD g = c := ⟨(quD g).toNat,by omega⟩
 have hct : (quD g).toNat = c := by omega
 rw [qzZ,hct]
 refine FnEq.of_awp Tryz.func74 ok74 (by show 1 <= _; decide) (by simp only [push_cast,reduceIte,reduceEqDiff,reduceAdd,reduceSub,reduceMul,Nat.reduceBEq,reduceLT,reduceLeDiff,reduceCtorEq,reduceToNat,reduceNeg] <;> first | exact fun _ _ => trivial | simp) ?_
 simp only [ac74,rv74,push_cast,reduceIte,reduceEqDiff,reduceAdd,reduceSub,reduceMul,Nat.reduceBEq,reduceLT,reduceLeDiff,reduceCtorEq,reduceToNat,reduceNeg]
 refine qoH (fun m st => ∃ k : Nat,k <= c /\ m = c - k /\ st = ⟨[(1,.ptr 1 0),(3,.view 6 0 (idxF (fun k => decide (SrcK (quJ g k))) k).length),(4,.int k)],[(1,quy false g)],[(6,⟨1,3,ints (idxF (fun k => decide (SrcK (quJ g k))) k)⟩)],[]⟩) c ?_ ?_
 ·refine ⟨0,by omega,by omega,?_⟩
  simp only [idxF,push_cast,reduceIte,reduceEqDiff,reduceAdd,reduceSub,reduceMul,Nat.reduceBEq,reduceLT,reduceLeDiff,reduceCtorEq,reduceToNat,reduceNeg]
  rfl
 rintro m st ⟨k,hk,rfl,rfl⟩
 have hlen := qyJ (fun k => decide (SrcK (quJ g k))) k
 have hs : idxF (fun k => decide (SrcK (quJ g k))) (k + 1) = idxF (fun k => decide (SrcK (quJ g k))) k ++ if SrcK (quJ g k) then [(k : Int)] else [] := by rw [idxF]; simp only [decide_eq_true_eq]
 generalize hL : idxF (fun k => decide (SrcK (quJ g k))) k = L at hlen hs ⊢
 refine sB ?_
 refine qrm (quI g hg) sC ?_
 rw [hc]
 refine sB ?_
 refine qnR (fun h => ?_) fun h => ?_
 ·have hk2 : ¬ ((k : Int) < 0 \/ quD g <= k) := by omega
  have ek : quK g k = (quJ g k,0) := by rw [quK,if_neg hk2]
  have hDk := qvY g hg k (by omega)
  rw [ek] at hDk
  refine qrm hDk sC ?_
  simp only [qvW,push_cast,reduceIte,reduceEqDiff,reduceAdd,reduceSub,reduceMul,Nat.reduceBEq,reduceLT,reduceLeDiff,reduceCtorEq,reduceToNat,reduceNeg]
  generalize quJ g k = s at hs ⊢
  obtain ⟨B,hB⟩ : ∃ B,B = decide (SrcK s) := ⟨_,rfl⟩
  have hSK : SrcK s ↔ s.kind = 1 \/ s.kind = 2 \/ s.kind = 6 := Iff.rfl
  refine qry ⟨[(1,.ptr 1 0),(3,.view 6 0 L.length),(4,.int k),(27,.bool B)],[(1,quy false g)],[(6,⟨1,3,ints L⟩)],[]⟩ ?_ ?_
  ·repeat' (first
    | (refine qrr rfl (fun _ => ?_) fun _ => ?_ <;> simp only [push_cast,reduceIte,reduceEqDiff,reduceAdd,reduceSub,reduceMul,Nat.reduceBEq,reduceLT,reduceLeDiff,reduceCtorEq,reduceToNat,reduceNeg])
    | (refine qrq rfl (fun _ => ?_) fun _ => ?_ <;> simp only [push_cast,reduceIte,reduceEqDiff,reduceAdd,reduceSub,reduceMul,Nat.reduceBEq,reduceLT,reduceLeDiff,reduceCtorEq,reduceToNat,reduceNeg]))
   all_goals first
    | (rw [show B = true from by rw [hB]; exact decide_eq_true (hSK.2 (by omega))]; done)
    | (rw [show B = decide (s.kind = 6) from by rw [hB,decide_eq_decide,hSK]; omega]; done)
  refine sB ?_
  refine qnQ (fun e => ?_) fun e => ?_
  ·rw [hB,decide_eq_true_eq] at e
   rw [if_pos e] at hs
   refine ⟨by simp,by omega,by omega,_,?_,k + 1,by omega,rfl,?_⟩
   ·omega
   ·rw [hs]
    simp
  ·rw [hB,decide_eq_false_iff_not] at e
   rw [if_neg e,List.append_nil] at hs
   refine ⟨by omega,_,?_,k + 1,by omega,rfl,?_⟩
   ·omega
   ·rw [hs]
    simp
 ·rw [show c = k by omega,hL]
  exact ⟨fun _ _ => trivial,.refl _⟩
def qA2 (g : Grid) (s : Spot) (k : Nat) : List Int := idxF (fun i => decide (CanD g s (quJ g i))) k
def qA3 (g : Grid) (n : Int) : List Int := if (quK g n).2 = 0 then qA2 g (quK g n).1 (quD g).toNat else []
set_option maxHeartbeats 2000000 in
theorem qA4 (g : Grid) (hg : GOk g) (n : Int) (hn : 0 <= n /\ n < quD g) : FnEq Tryz.prog 75 [.agg (quy false g),.int n] (.sl true 1 (ints (qA3 g n))) := by
 have h3 := hg.count
 have hD := qvY g hg n (by omega)
 obtain ⟨c,hc⟩ : ∃ c : Nat,quD g = c := ⟨(quD g).toNat,by omega⟩
 have hct : (quD g).toNat = c := by omega
 have hE : ¬ (n < 0 \/ quD g <= n) := by omega
 have e : quK g n = (quJ g n,0) := by rw [quK,if_neg hE]
 obtain ⟨r1,_⟩ := qvN hg hE
 have e2 : qA3 g n = qA2 g (quJ g n) c := by rw [qA3,e,hct]; rfl
 rw [e2]
 rw [e] at hD
 clear e e2 hE
 refine FnEq.of_awp Tryz.func75 ok75 (by show 2 <= _; decide) (by simp only [push_cast,reduceIte,reduceEqDiff,reduceAdd,reduceSub,reduceMul,Nat.reduceBEq,reduceLT,reduceLeDiff,reduceCtorEq,reduceToNat,reduceNeg] <;> first | exact fun _ _ => trivial | simp) ?_
 simp only [ac75,rv75,push_cast,reduceIte,reduceEqDiff,reduceAdd,reduceSub,reduceMul,Nat.reduceBEq,reduceLT,reduceLeDiff,reduceCtorEq,reduceToNat,reduceNeg]
 refine qrm hD sC ?_
 simp only [qvW,push_cast,reduceIte,reduceEqDiff,reduceAdd,reduceSub,reduceMul,Nat.reduceBEq,reduceLT,reduceLeDiff,reduceCtorEq,reduceToNat,reduceNeg]
 generalize quJ g n = s at r1 ⊢
 refine qoH (fun m st => ∃ k : Nat,k <= c /\ m = c - k /\ st = ⟨[(2,.ptr 2 0),(5,.view 8 0 (qA2 g s k).length),(6,.ptr 6 0),(7,.int k)],[(2,quy false g),(6,[.int s.kind,.int s.x,.int s.y,.int s.i,.int 0])],[(8,⟨1,3,ints (qA2 g s k)⟩)],[]⟩) c ?_ ?_
 ·refine ⟨0,by omega,by omega,?_⟩
  refine sB ?_
  rfl
 rintro m st ⟨k,hk,rfl,rfl⟩
 have hlen : (qA2 g s k).length <= k := qyJ _ k
 have hs : qA2 g s (k + 1) = qA2 g s k ++ if CanD g s (quJ g k) then [(k : Int)] else [] := by rw [qA2,idxF]; simp only [decide_eq_true_eq]; rfl
 generalize hL : qA2 g s k = L at hlen hs ⊢
 refine sB ?_
 refine qrm (quI g hg) sC ?_
 rw [hc]
 refine sB ?_
 refine qry ⟨[(2,.ptr 2 0),(5,.view 8 0 L.length),(6,.ptr 6 0),(7,.int k),(20,.bool (decide (k < c)))],[(2,quy false g),(6,[.int s.kind,.int s.x,.int s.y,.int s.i,.int 0])],[(8,⟨1,3,ints L⟩)],[]⟩ ?_ ?_
 ·refine qrq rfl (fun h => ?_) fun h => ?_ <;> simp only [push_cast,reduceIte,reduceEqDiff,reduceAdd,reduceSub,reduceMul,Nat.reduceBEq,reduceLT,reduceLeDiff,reduceCtorEq,reduceToNat,reduceNeg]
  ·rw [decide_eq_true (show k < c by omega)]
  ·rw [decide_eq_false (show ¬ k < c by omega)]
 refine sB ?_
 refine qnR (fun h => ?_) fun h => ?_
 ·have hk2 : ¬ ((k : Int) < 0 \/ quD g <= k) := by omega
  have ek : quK g k = (quJ g k,0) := by rw [quK,if_neg hk2]
  have hDk := qvY g hg k (by omega)
  rw [ek] at hDk
  obtain ⟨q1,_⟩ := qvN hg hk2
  refine qro hDk sC rfl ?_
  simp only [qvW,push_cast,reduceIte,reduceEqDiff,reduceAdd,reduceSub,reduceMul,Nat.reduceBEq,reduceLT,reduceLeDiff,reduceCtorEq,reduceToNat,reduceNeg]
  refine qrm (qvV g hg s (quJ g k) r1 q1) sC ?_
  refine sB ?_
  refine qnR (fun h2 => ?_) fun h2 => ?_
  ·rw [if_pos h2] at hs
   refine ⟨by simp,by omega,by omega,_,?_,k + 1,by omega,rfl,?_⟩
   ·omega
   ·rw [hs]
    simp
  ·rw [if_neg h2,List.append_nil] at hs
   refine ⟨by omega,_,?_,k + 1,by omega,rfl,?_⟩
   ·omega
   ·rw [hs]
    simp
 ·rw [show c = k by omega,hL]
  exact ⟨fun _ _ => trivial,.refl _⟩
structure RawG.By (x : RawG) : Prop where
 w : 0 <= x.w /\ x.w <= 255
 h : 0 <= x.h /\ x.h <= 255
 tracks : 0 <= x.tracks /\ x.tracks <= 255
 pads : 0 <= x.pads /\ x.pads <= 255
 len : (x.kind.length : Int) <= 9223372036854775807
 kind : ∀ k ∈ x.kind,0 <= k /\ k <= 255
theorem RawG.By.ok {x : RawG} (h : x.By) : x.Ok := ⟨h.w,h.h,h.tracks,h.pads,h.len,h.kind⟩
def qA5 (L : Nat) (sn : List Int) : List Bool := (List.range L).map fun (i : Nat) => decide ((i : Int) ∈ sn)
theorem qA6 (L : Nat) (sn : List Int) : (qA5 L sn).length = L := by simp [qA5]
theorem qA7 {L : Nat} {sn : List Int} {x : Int} (hx : 0 <= x /\ x < L) (d : Bool) : (qA5 L sn).getD x.toNat d = decide (x ∈ sn) := by
 rw [List.getD_eq_getElem?_getD,qA5,List.getElem?_map,List.getElem?_range (by omega)]
 simp only [Option.map_some,Option.getD_some]
 rw [show ((x.toNat : Nat) : Int) = x by omega]
theorem qA8 {L : Nat} {sn : List Int} {x : Int} (hx : 0 <= x /\ x < L) : (qA5 L sn).set x.toNat true = qA5 L (sn ++ [x]) := by
 refine List.ext_getElem? fun i => ?_
 rw [List.getElem?_set]
 by_cases h : i < L
 ·by_cases e : x.toNat = i
  ·subst e
   simp [qA5,h]
   omega
  ·simp [qA5,h,e]
   omega
 ·simp [qA5,h]
  omega
theorem qA9 (L : Nat) : List.replicate L false = qA5 L [] := by
 refine List.ext_getElem? fun i => ?_
 by_cases h : i < L <;> simp [qA5,h]
theorem qAg {g : Grid} (hg : GOk g) (x : Int) : x ∈ qzZ g ↔ (0 <= x /\ x < quD g) /\ SrcK (quJ g x) := by
 have := hg.count
 rw [qzZ,qA0]
 constructor
 ·rintro ⟨i,h1,h2,rfl⟩
  exact ⟨by omega,of_decide_eq_true h2⟩
 ·rintro ⟨h1,h2⟩
  exact ⟨x.toNat,by omega,decide_eq_true (by rw [show ((x.toNat : Nat) : Int) = x by omega]; exact h2),by omega⟩
theorem qAh {g : Grid} (hg : GOk g) {n : Int} (hn : 0 <= n /\ n < quD g) (x : Int) : x ∈ qA3 g n ↔ (0 <= x /\ x < quD g) /\ CanD g (quJ g n) (quJ g x) := by
 have := hg.count
 have e : quK g n = (quJ g n,0) := by rw [quK,if_neg (by omega)]
 rw [qA3,e,if_pos rfl,qA2,qA0]
 constructor
 ·rintro ⟨i,h1,h2,rfl⟩
  exact ⟨by omega,of_decide_eq_true h2⟩
 ·rintro ⟨h1,h2⟩
  exact ⟨x.toNat,by omega,decide_eq_true (by rw [show ((x.toNat : Nat) : Int) = x by omega]; exact h2),by omega⟩
theorem qAi {g : Grid} (hg : GOk g) : qzZ g ≠ [] := by
 have h1 := hg.count
 have h2 := hg.all
 have h3 := hg.pads
 have h4 := hg.each
 have h5 := hg.tracks
 have : (0 : Int) ∈ qzZ g := by
  rw [qAg hg]
  refine ⟨by omega,.inl ?_⟩
  rw [quJ,if_neg (by omega),if_neg (by omega)]
  have hz : (0 : Int) % quC g = 0 := Int.zero_emod _
  dsimp only
  rw [hz,if_neg (by omega),if_neg (by omega),if_neg (by omega),if_neg (by omega)]
 intro e
 rw [e] at this
 simp at this
def qAj (g : Grid) (sn : List Int) (a : List Int × List Int) (b : Int) : List Int × List Int :=
 if a.1 = [] then
  if (qzZ g).getD (b % ((qzZ g).length : Int)).toNat 0 ∈ sn then a else ([(qzZ g).getD (b % ((qzZ g).length : Int)).toNat 0],[-1])
 else
  let f := (a.1.length : Int) - 1 - b / 64 % (a.1.length : Int)
  let d := qA3 g (a.1.getD f.toNat 0)
  if d = [] then a
  else
   let n := d.getD (b % 64 % (d.length : Int)).toNat 0
   if n ∉ sn /\ n ∉ a.1 then (a.1 ++ [n],a.2 ++ [f]) else a
def qAk (g : Grid) (sn l : List Int) : Nat -> List Int × List Int
 | 0 => ([],[])
 | k + 1 => qAj g sn (qAk g sn l k) (l.getD k 0)
def qAl (g : Grid) (sn l : List Int) : Route := ⟨0,(qAk g sn l (min l.length 16)).1,(qAk g sn l (min l.length 16)).2⟩
structure GrOk (g : Grid) (a : List Int × List Int) : Prop where
 len : a.2.length = a.1.length
 rng : ∀ x ∈ a.1,0 <= x /\ x < quD g
theorem qAm {g : Grid} (hg : GOk g) {sn : List Int} {a : List Int × List Int} {b : Int} (hb : 0 <= b /\ b <= 255) (h : GrOk g a) : GrOk g (qAj g sn a b) /\ (qAj g sn a b).1.length <= a.1.length + 1 := by
 obtain ⟨h1,h2⟩ := h
 have hse := List.length_pos_iff.2 (qAi hg)
 unfold qAj
 split
 ·rename_i e
  split
  ·exact ⟨⟨h1,h2⟩,by omega⟩
  ·refine ⟨⟨rfl,fun x hx => ?_⟩,by simp⟩
   rw [List.mem_singleton] at hx
   subst hx
   have hm : (qzZ g).getD (b % ((qzZ g).length : Int)).toNat 0 ∈ qzZ g := qza (by have := Int.emod_lt_of_pos b (show 0 < ((qzZ g).length : Int) by omega); have := Int.emod_nonneg b (show ((qzZ g).length : Int) ≠ 0 by omega); omega)
   exact ((qAg hg _).1 hm).1
 ·rename_i e
  have hlp := List.length_pos_iff.2 e
  simp only
  have q1 := Int.emod_lt_of_pos (b / 64) (show 0 < (a.1.length : Int) by omega)
  have q2 := Int.emod_nonneg (b / 64) (show (a.1.length : Int) ≠ 0 by omega)
  generalize b / 64 % (a.1.length : Int) = q at *
  have hx := h2 _ (qza (l := a.1) (k := ((a.1.length : Int) - 1 - q).toNat) (by omega))
  generalize a.1.getD ((a.1.length : Int) - 1 - q).toNat 0 = x at *
  split
  ·exact ⟨⟨h1,h2⟩,by omega⟩
  ·rename_i e2
   have hdp := List.length_pos_iff.2 e2
   split
   ·refine ⟨⟨by simp [h1],fun y hy => ?_⟩,by simp⟩
    rw [List.mem_append,List.mem_singleton] at hy
    rcases hy with hy | rfl
    ·exact h2 y hy
    ·have hm : (qA3 g x).getD (b % 64 % ((qA3 g x).length : Int)).toNat 0 ∈ qA3 g x := qza (by have := Int.emod_lt_of_pos (b % 64) (show 0 < ((qA3 g x).length : Int) by omega); have := Int.emod_nonneg (b % 64) (show ((qA3 g x).length : Int) ≠ 0 by omega); omega)
     exact ((qAh hg hx _).1 hm).1
   ·exact ⟨⟨h1,h2⟩,by omega⟩
theorem qAn {g : Grid} (hg : GOk g) (sn l : List Int) (hb : ∀ x ∈ l,0 <= x /\ x <= 255) : ∀ k,GrOk g (qAk g sn l k) /\ (qAk g sn l k).1.length <= k
 | 0 => ⟨⟨rfl,by simp [qAk]⟩,by simp [qAk]⟩
 | k + 1 => by
   have hbk : 0 <= l.getD k 0 /\ l.getD k 0 <= 255 := by
    by_cases h : k < l.length
    ·exact hb _ (qza h)
    ·rw [List.getD_eq_getElem?_getD,List.getElem?_eq_none (by omega)]; decide
   obtain ⟨h1,h2⟩ := qAn hg sn l hb k
   obtain ⟨h3,h4⟩ := qAm hg (sn := sn) hbk h1
   exact ⟨h3,by rw [qAk]; omega⟩
def grA (ns fr : List Int) : List (Nat × Arr) := laN 51 ns ++ laN 56 fr
set_option maxHeartbeats 4000000 in
theorem qAo (g : Grid) (hg : GOk g) (sn l : List Int) (hl : (l.length : Int) <= 9223372036854775807) (hb : ∀ x ∈ l, 0 <= x /\ x <= 255) :
  FnEq Tryz.prog 42 [.agg (quy false g),.sl false 1 (rows qk7 (qA5 (quD g).toNat sn)),.sl false 1 (qk8 l)] (.agg (qwD true (qAl g sn l))) := by
 have h1 := hg.count
 have hse := List.length_pos_iff.2 (qAi hg)
 have hsb : (qzZ g).length <= (quD g).toNat := qyJ _ _
 refine FnEq.of_awp Tryz.func42 ok42 (by show 3 <= _; decide) (by simp only [push_cast,reduceIte,reduceEqDiff,reduceAdd,reduceSub,reduceMul,Nat.reduceBEq,reduceLT,reduceLeDiff,reduceCtorEq,reduceToNat,reduceNeg] <;> first | exact fun _ _ => trivial | simp) ?_
 simp only [ac42,rv42,push_cast,reduceIte,reduceEqDiff,reduceAdd,reduceSub,reduceMul,Nat.reduceBEq,reduceLT,reduceLeDiff,reduceCtorEq,reduceToNat,reduceNeg]
 refine qrm (qA1 g hg) sC ?_
 refine sB ?_
 refine qoH (fun m st => ∃ k : Nat,k <= min l.length 16 /\ m = min l.length 16 - k /\ st = ⟨[(1,.sl false 1 (rows qk7 (qA5 (quD g).toNat sn))),(2,.sl false 1 (qk8 l)),(3,.ptr 3 0),(6,.ptr 6 0),(7,.sl true 1 (ints (qzZ g))),(8,.ptr 8 0),(9,.int k)],
  [(3,quy false g),(6,[.int 0,.nil,.nil]),(8,[.int 0,lvN 51 (qAk g sn l k).1,lvN 56 (qAk g sn l k).2])],grA (qAk g sn l k).1 (qAk g sn l k).2,[]⟩) (min l.length 16) ?_ ?_
 ·refine ⟨0,by omega,by omega,?_⟩
  simp only [qAk,grA,List.nil_append,push_cast,reduceIte,reduceEqDiff,reduceAdd,reduceSub,reduceMul,Nat.reduceBEq,reduceLT,reduceLeDiff,reduceCtorEq,reduceToNat,reduceNeg]
 rintro m st ⟨k,hk,rfl,rfl⟩
 obtain ⟨⟨q1,q2⟩,q3⟩ := qAn hg sn l hb k
 have hS : qAk g sn l (k + 1) = qAj g sn (qAk g sn l k) (l.getD k 0) := rfl
 have hF : qAl g sn l = ⟨0,(qAk g sn l (min l.length 16)).1,(qAk g sn l (min l.length 16)).2⟩ := rfl
 have e0 : ∀ (l : List Int) (j : Nat),l.getD j default = l.getD j 0 := fun _ _ => rfl
 have hbk : 0 <= l.getD k 0 /\ l.getD k 0 <= 255 := by
  by_cases h : k < l.length
  ·exact hb _ (qza h)
  ·rw [List.getD_eq_getElem?_getD,List.getElem?_eq_none (by omega)]; decide
 obtain ⟨B,hB⟩ : ∃ B,B = decide (k < l.length /\ k < 16) := ⟨_,rfl⟩
 rcases ha : qAk g sn l k with ⟨ns,fr⟩
 rw [ha] at q1 q2 q3 hS
 simp only at q1 q2 q3 ⊢
 rcases ns with _ | ⟨x,ns⟩
 ·obtain rfl : fr = [] := List.length_eq_zero_iff.1 q1
  simp only [grA,push_cast,reduceIte,reduceEqDiff,reduceAdd,reduceSub,reduceMul,Nat.reduceBEq,reduceLT,reduceLeDiff,reduceCtorEq,reduceToNat,reduceNeg]
  refine qry ⟨[(1,.sl false 1 (rows qk7 (qA5 (quD g).toNat sn))),(2,.sl false 1 (qk8 l)),(3,.ptr 3 0),(6,.ptr 6 0),(7,.sl true 1 (ints (qzZ g))),(8,.ptr 8 0),(9,.int k),(24,.bool B)],
   [(3,quy false g),(6,[.int 0,.nil,.nil]),(8,[.int 0,.nil,.nil])],[],[]⟩ ?_ ?_
  ·refine qrq rfl (fun e1 => ?_) fun e1 => ?_ <;> simp only [push_cast,reduceIte,reduceEqDiff,reduceAdd,reduceSub,reduceMul,Nat.reduceBEq,reduceLT,reduceLeDiff,reduceCtorEq,reduceToNat,reduceNeg]
   ·rw [show B = decide ((k : Int) < 16) from by rw [hB,decide_eq_decide]; omega]
   ·rw [show B = false from by rw [hB]; exact decide_eq_false (by omega)]
  refine sB ?_
  refine qnQ (fun e => ?_) fun e => ?_
  rotate_left
  ·rw [hB,decide_eq_false_iff_not] at e
   rw [hF,show min l.length 16 = k by omega,ha]
   exact sC
  rw [hB,decide_eq_true_eq] at e
  obtain ⟨e1,e2⟩ := e
  have ht1 := Int.emod_nonneg (l.getD k 0) (show ((qzZ g).length : Int) ≠ 0 by omega)
  have ht2 := Int.emod_lt_of_pos (l.getD k 0) (show 0 < ((qzZ g).length : Int) by omega)
  have hm := qza (l := qzZ g) (k := (l.getD k 0 % ((qzZ g).length : Int)).toNat) (by omega)
  have hn := ((qAg hg _).1 hm).1
  simp only [qAj,if_true] at hS
  simp only [e0,qA6,push_cast,reduceIte,reduceEqDiff,reduceAdd,reduceSub,reduceMul,Nat.reduceBEq,reduceLT,reduceLeDiff,reduceCtorEq,reduceToNat,reduceNeg]
  generalize l.getD k 0 = b at *
  generalize b % ((qzZ g).length : Int) = t at *
  generalize (qzZ g).getD t.toNat 0 = n at *
  refine ⟨by omega,by omega,by omega,by omega,by omega,by omega,by omega,by omega,?_⟩
  rw [show (qA5 (quD g).toNat sn).getD n.toNat default = decide (n ∈ sn) from qA7 (by omega) _]
  refine qnQ (fun e3 => ?_) fun e3 => ?_
  ·have e3 : n ∉ sn := qyX e3
   rw [if_neg e3] at hS
   refine ⟨by simp,?_⟩
   simp only [quY,push_cast,reduceIte,reduceEqDiff,reduceAdd,reduceSub,reduceMul,Nat.reduceBEq,reduceLT,reduceLeDiff,reduceCtorEq,reduceToNat,reduceNeg]
   refine ⟨by simp,by omega,_,?_,k + 1,by omega,rfl,?_⟩
   ·omega
   ·rw [hS]
    simp only [quY,push_cast,reduceIte,reduceEqDiff,reduceAdd,reduceSub,reduceMul,Nat.reduceBEq,reduceLT,reduceLeDiff,reduceCtorEq,reduceToNat,reduceNeg]
  ·have e3 : n ∈ sn := qyY e3
   rw [if_pos e3] at hS
   refine ⟨by omega,_,?_,k + 1,by omega,rfl,?_⟩
   ·omega
   ·rw [hS]
    exact sC
 ·obtain ⟨y,fr,rfl⟩ : ∃ y fr2,fr = y :: fr2 := by cases fr with | nil => cases q1 | cons y f => exact ⟨y,f,rfl⟩
  simp only [grA,List.cons_append,List.nil_append,push_cast,reduceIte,reduceEqDiff,reduceAdd,reduceSub,reduceMul,Nat.reduceBEq,reduceLT,reduceLeDiff,reduceCtorEq,reduceToNat,reduceNeg]
  simp only [List.length_cons] at q1 q3
  refine qry ⟨[(1,.sl false 1 (rows qk7 (qA5 (quD g).toNat sn))),(2,.sl false 1 (qk8 l)),(3,.ptr 3 0),(6,.ptr 6 0),(7,.sl true 1 (ints (qzZ g))),(8,.ptr 8 0),(9,.int k),(24,.bool B)],
   [(3,quy false g),(6,[.int 0,.nil,.nil]),(8,[.int 0,.view 51 0 (ns.length + 1),.view 56 0 (fr.length + 1)])],[(51,⟨1,3,ints (x :: ns)⟩),(56,⟨1,3,ints (y :: fr)⟩)],[]⟩ ?_ ?_
  ·refine qrq rfl (fun e1 => ?_) fun e1 => ?_ <;> simp only [push_cast,reduceIte,reduceEqDiff,reduceAdd,reduceSub,reduceMul,Nat.reduceBEq,reduceLT,reduceLeDiff,reduceCtorEq,reduceToNat,reduceNeg]
   ·rw [show B = decide ((k : Int) < 16) from by rw [hB,decide_eq_decide]; omega]
   ·rw [show B = false from by rw [hB]; exact decide_eq_false (by omega)]
  refine sB ?_
  refine qnQ (fun e => ?_) fun e => ?_
  rotate_left
  ·rw [hB,decide_eq_false_iff_not] at e
   rw [hF,show min l.length 16 = k by omega,ha,List.take_of_length_le (by simp),List.take_of_length_le (by simp)]
   exact ⟨⟨fun _ _ => trivial,fun _ _ => trivial⟩,rfl,Sub.refl _,Sub.refl _⟩
  rw [hB,decide_eq_true_eq] at e
  obtain ⟨e1,e2⟩ := e
  refine qnR (fun h => absurd h (by omega)) fun _ => ?_
  simp only [e0,qA6,push_cast,reduceIte,reduceEqDiff,reduceAdd,reduceSub,reduceMul,Nat.reduceBEq,reduceLT,reduceLeDiff,reduceCtorEq,reduceToNat,reduceNeg]
  have hlen : ((x :: ns).length : Int) = (ns.length : Int) + 1 := by simp
  simp only [qAj,reduceCtorEq,if_false,hlen] at hS
  generalize hbe : l.getD k 0 = b at *
  have t1 := Int.emod_lt_of_pos (b / 64) (show 0 < (ns.length : Int) + 1 by omega)
  have t2 := Int.emod_nonneg (b / 64) (show (ns.length : Int) + 1 ≠ 0 by omega)
  have hb6 : 0 <= b / 64 /\ b / 64 <= 255 := by omega
  have hb7 : 0 <= b % 64 /\ b % 64 <= 255 := by omega
  generalize h6e : b / 64 = b6 at *
  generalize h7e : b % 64 = b7 at *
  generalize b6 % ((ns.length : Int) + 1) = q at *
  have hz := q2 _ (qza (l := x :: ns) (k := ((ns.length : Int) + 1 - 1 - q).toNat) (by simp; omega))
  generalize hfq : (ns.length : Int) + 1 - 1 - q = f at *
  refine ⟨by omega,by omega,by omega,by omega,by omega,by omega,by omega,by omega,by omega,?_⟩
  generalize (x :: ns).getD f.toNat 0 = z at *
  refine qrm (qA4 g hg z hz) sC ?_
  simp only [e0,hbe,h7e,qA6,push_cast,reduceIte,reduceEqDiff,reduceAdd,reduceSub,reduceMul,Nat.reduceBEq,reduceLT,reduceLeDiff,reduceCtorEq,reduceToNat,reduceNeg]
  have hdl : (qA3 g z).length <= 600000 := by
   unfold qA3
   split
   ·have := qyJ (fun i => decide (CanD g (quK g z).1 (quJ g i))) (quD g).toNat
    rw [qA2]; omega
   ·simp
  have hdm := qAh hg hz
  generalize qA3 g z = d at *
  refine qnR (fun h => ?_) fun h => ?_
  ·have hd : d = [] := List.length_eq_zero_iff.1 (by omega)
   rw [if_pos hd] at hS
   refine ⟨by omega,_,?_,k + 1,by omega,rfl,?_⟩
   ·omega
   ·rw [hS]
    exact sC
  have hd : d ≠ [] := fun e => h (by rw [e]; rfl)
  rw [if_neg hd] at hS
  have t3 := Int.emod_lt_of_pos b7 (show 0 < (d.length : Int) by omega)
  have t4 := Int.emod_nonneg b7 (show (d.length : Int) ≠ 0 by omega)
  have hn := ((hdm _).1 (qza (l := d) (k := (b7 % (d.length : Int)).toNat) (by omega))).1
  generalize b7 % (d.length : Int) = r at *
  generalize hnr : d.getD r.toNat 0 = n at *
  refine ⟨by omega,by omega,by omega,by omega,by omega,by omega,by omega,by omega,?_⟩
  rw [show (qA5 (quD g).toNat sn).getD n.toNat default = decide (n ∈ sn) from qA7 (by omega) _]
  refine ⟨by omega,?_⟩
  refine qry ⟨[(1,.sl false 1 (rows qk7 (qA5 (quD g).toNat sn))),(2,.sl false 1 (qk8 l)),(3,.ptr 3 0),(6,.ptr 6 0),(7,.sl true 1 (ints (qzZ g))),(8,.ptr 8 0),(9,.int k),(11,.int f),(13,.int n),(106,.bool (decide (n ∉ sn /\ n ∉ x :: ns)))],
   [(3,quy false g),(6,[.int 0,.nil,.nil]),(8,[.int 0,.view 51 0 (ns.length + 1),.view 56 0 (fr.length + 1)])],[(51,⟨1,3,ints (x :: ns)⟩),(56,⟨1,3,ints (y :: fr)⟩)],[]⟩ ?_ ?_
  ·refine qrs rfl (fun e => ?_) fun e => ?_ <;> simp only [push_cast,reduceIte,reduceEqDiff,reduceAdd,reduceSub,reduceMul,Nat.reduceBEq,reduceLT,reduceLeDiff,reduceCtorEq,reduceToNat,reduceNeg]
   ·have e := qyX e
    refine qrm (qzW (x :: ns) (by simp; omega) n) (by simp only [push_cast,reduceIte,reduceEqDiff,reduceAdd,reduceSub,reduceMul,Nat.reduceBEq,reduceLT,reduceLeDiff,reduceCtorEq,reduceToNat,reduceNeg]; rw [List.take_of_length_le (by simp)]; exact Sub.refl _) ?_
    refine sB ?_
    rw [show decide (n ∉ sn /\ n ∉ x :: ns) = decide (qzU (x :: ns) n < 0) from by
     rw [decide_eq_decide]
     unfold qzU
     split
     ·rename_i h; exact ⟨fun h2 => absurd h h2.2,fun h2 => absurd h2 (by omega)⟩
     ·rename_i h; exact ⟨fun _ => by omega,fun _ => ⟨e,h⟩⟩]
   ·have e := qyY e
    rw [show decide (n ∉ sn /\ n ∉ x :: ns) = false from decide_eq_false fun h => h.1 e]
  refine sB ?_
  refine qnR (fun e4 => ?_) fun e4 => ?_
  ·rw [if_pos e4] at hS
   refine ⟨by simp,by omega,by simp,by omega,by omega,_,?_,k + 1,by omega,rfl,?_⟩
   ·omega
   ·rw [hS]
    simp only [List.cons_append,List.length_append,List.length_singleton,push_cast,reduceIte,reduceEqDiff,reduceAdd,reduceSub,reduceMul,Nat.reduceBEq,reduceLT,reduceLeDiff,reduceCtorEq,reduceToNat,reduceNeg]
  ·rw [if_neg e4] at hS
   refine ⟨by omega,_,?_,k + 1,by omega,rfl,?_⟩
   ·omega
   ·rw [hS]
    exact sC
def qAp (x : Int × Int × Int) : List PV := [.sc (.int .u8 x.1),.sc (.int .u8 x.2.1),.sc (.int .u8 x.2.2)]
@[push_cast] theorem qAq (x : Int × Int × Int) : qAp x = [.sc (.int .u8 x.1),.sc (.int .u8 x.2.1),.sc (.int .u8 x.2.2)] := rfl
def mkB (x : Int × Int × Int) : Block := ⟨[],256 * x.2.1 + x.2.2,if x.2.1 % 3 = 2 then x.2.2 % 16 else -1,if x.2.1 % 3 = 1 then x.2.2 % 24 else -1,0⟩
def blkS (g : Grid) (a : List Block × List Int) (x : Int × Int × Int) : List Block × List Int :=
 if x.1 % (g.w * g.h) ∉ a.2 /\ qzX g (mkB x) (x.1 % (g.w * g.h)) then (a.1 ++ [mkB x],a.2 ++ [x.1 % (g.w * g.h)]) else a
def blkN (g : Grid) (l : List (Int × Int × Int)) : Nat -> List Block × List Int
 | 0 => ([],[])
 | k + 1 => blkS g (blkN g l k) (l.getD k default)
def blkF (g : Grid) (l : List (Int × Int × Int)) : List Block × List Int := blkN g l (min l.length 12)
structure BlkOk (g : Grid) (a : List Block × List Int) : Prop where
 len : a.2.length = a.1.length
 fit : ∀ z ∈ a.1.zip a.2,qzX g z.1 z.2
 nod : a.2.Nodup
 pl : ∀ b ∈ a.1,b.ins = [] /\ b.key = 0
theorem qAr {g : Grid} {a : List Block × List Int} {x : Int × Int × Int} (h : BlkOk g a) : BlkOk g (blkS g a x) /\ (blkS g a x).1.length <= a.1.length + 1 := by
 obtain ⟨h1,h2,h3,h4⟩ := h
 unfold blkS
 split
 ·rename_i e
  refine ⟨⟨by simp [h1],fun z hz => ?_,?_,fun b hb => ?_⟩,by simp⟩
  ·rw [List.zip_append h1.symm,List.mem_append] at hz
   rcases hz with hz | hz
   ·exact h2 z hz
   ·simp at hz
    rw [hz]; exact e.2
  ·exact List.nodup_append.2 ⟨h3,by simp,by intro a ha b hb h; simp at hb; subst hb; subst h; exact e.1 ha⟩
  ·rw [List.mem_append,List.mem_singleton] at hb
   rcases hb with hb | rfl
   ·exact h4 b hb
   ·exact ⟨rfl,rfl⟩
 ·exact ⟨⟨h1,h2,h3,h4⟩,by omega⟩
theorem qAs (g : Grid) (l : List (Int × Int × Int)) : ∀ k,BlkOk g (blkN g l k) /\ (blkN g l k).1.length <= k
 | 0 => ⟨⟨rfl,by simp [blkN],.nil,by simp [blkN]⟩,by simp [blkN]⟩
 | k + 1 => by
   obtain ⟨h1,h2⟩ := qAs g l k
   obtain ⟨h3,h4⟩ := qAr (x := l.getD k default) h1
   exact ⟨h3,by rw [blkN]; omega⟩
def blkR (b : Block) : List PV := [.nil,.int b.table,.int b.ram,.int b.reg,.sc (.int .u64 0)]
@[push_cast] theorem qAt (b : Block) : blkR b = [.nil,.int b.table,.int b.ram,.int b.reg,.sc (.int .u64 0)] := rfl
theorem qAu (q : Bool) {bs : List Block} (h : ∀ b ∈ bs,b.ins = [] /\ b.key = 0) : Sub (.sl true 5 (rows blkR bs)) (.sl q 5 (rows (qwB q) bs)) :=
 Sub.slR 5 (fun _ => rfl) (SubR.map blkR (qwB q) bs fun b hb => by
  obtain ⟨h1,h2⟩ := h b hb
  rw [qAt,qwF,h1,h2]
  exact ⟨.nil _ _,.refl _,.refl _,.refl _,.refl _,trivial⟩)
def desN (g : Grid) (bs : List Block) (ts : List Int) (r : PV) : List PV := quy true g ++ [.nil,.sl true 5 (rows (qwB true) bs),.nil,.nil,.sl true 1 (ints ts),r]
@[push_cast] theorem qAv (g : Grid) (bs : List Block) (ts : List Int) (r : PV) : desN g bs ts r = quy true g ++ [.nil,.sl true 5 (rows (qwB true) bs),.nil,.nil,.sl true 1 (ints ts),r] := rfl
def lvB (id : Nat) : List Block -> PV
 | [] => .nil
 | _ :: l => .view id 0 (l.length + 1)
def laB (id : Nat) : List Block -> List (Nat × Arr)
 | [] => []
 | x :: l => [(id,⟨5,120,rows blkR (x :: l)⟩)]
@[push_cast] theorem qAw (id : Nat) : lvB id [] = .nil := rfl
@[push_cast] theorem qAx (id : Nat) (x : Block) (l : List Block) : lvB id (x :: l) = .view id 0 (l.length + 1) := rfl
@[push_cast] theorem qAy (id : Nat) : laB id [] = [] := rfl
@[push_cast] theorem qAz (id : Nat) (x : Block) (l : List Block) : laB id (x :: l) = [(id,⟨5,120,rows blkR (x :: l)⟩)] := rfl
theorem indexF_neg {l : List Int} {n : Int} : qzU l n < 0 ↔ n ∉ l := by
 unfold qzU
 split
 ·rename_i h; exact ⟨fun h2 => by omega,fun h2 => absurd h h2⟩
 ·rename_i h; exact ⟨fun _ => h,fun _ => by omega⟩
set_option maxHeartbeats 4000000 in
theorem qAA (g : Grid) (hg : GOk g) (l : List (Int × Int × Int)) (hl : (l.length : Int) <= 9223372036854775807) (hb : ∀ x ∈ l, (0 <= x.1 /\ x.1 <= 255) /\ (0 <= x.2.1 /\ x.2.1 <= 255) /\ (0 <= x.2.2 /\ x.2.2 <= 255)) :
  FnEq Tryz.prog 40 [.agg [.int g.w,.int g.h,.int g.tracks,.int g.pads,.sl true 1 (ints g.kind),.nil,.nil,.nil,.nil,.nil,.nil],.sl false 3 (rows qAp l)]
   (.agg (desN g (blkF g l).1 (blkF g l).2 .nil)) := by
 have hw := hg.wh
 have hkd := hg.kind
 refine FnEq.of_awp Tryz.func40 ok40 (by show 2 <= _; decide) (by simp only [push_cast,reduceIte,reduceEqDiff,reduceAdd,reduceSub,reduceMul,Nat.reduceBEq,reduceLT,reduceLeDiff,reduceCtorEq,reduceToNat,reduceNeg] <;> first | exact fun _ _ => trivial | simp) ?_
 simp only [ac40,rv40,push_cast,reduceIte,reduceEqDiff,reduceAdd,reduceSub,reduceMul,Nat.reduceBEq,reduceLT,reduceLeDiff,reduceCtorEq,reduceToNat,reduceNeg]
 refine qoH (fun m st => ∃ k : Nat,k <= min l.length 12 /\ m = min l.length 12 - k /\ st = ⟨[(1,.sl false 3 (rows qAp l)),(2,.ptr 2 0),(4,.ptr 4 0),(5,.int k)],
  [(2,[.int g.w,.int g.h,.int g.tracks,.int g.pads,.sl true 1 (ints g.kind),.nil,lvB 91 (blkN g l k).1,.nil,.nil,lvN 99 (blkN g l k).2,.nil]),(4,[.int 0,.int 0,.int 0,.int 0,.nil,.nil,.nil,.nil,.nil,.nil,.nil])],laB 91 (blkN g l k).1 ++ laN 99 (blkN g l k).2,[]⟩) (min l.length 12) ?_ ?_
 ·refine ⟨0,by omega,by omega,?_⟩
  simp only [blkN,List.nil_append,push_cast,reduceIte,reduceEqDiff,reduceAdd,reduceSub,reduceMul,Nat.reduceBEq,reduceLT,reduceLeDiff,reduceCtorEq,reduceToNat,reduceNeg]
 rintro m st ⟨k,hk,rfl,rfl⟩
 obtain ⟨⟨q1,q2,q3,q4⟩,q5⟩ := qAs g l k
 have hS : blkN g l (k + 1) = blkS g (blkN g l k) (l.getD k default) := rfl
 have hF : blkF g l = blkN g l (min l.length 12) := rfl
 have hbk : (0 <= (l.getD k default).1 /\ (l.getD k default).1 <= 255) /\ (0 <= (l.getD k default).2.1 /\ (l.getD k default).2.1 <= 255) /\ (0 <= (l.getD k default).2.2 /\ (l.getD k default).2.2 <= 255) := by
  by_cases h : k < l.length
  ·exact hb _ (by simp [List.getD_eq_getElem?_getD,h])
  ·rw [List.getD_eq_getElem?_getD,List.getElem?_eq_none (by omega)]; decide
 obtain ⟨B,hB⟩ : ∃ B,B = decide (k < l.length /\ k < 12) := ⟨_,rfl⟩
 rcases ha : blkN g l k with ⟨bs,ts⟩
 rw [ha] at q1 q2 q3 q4 q5 hS
 simp only at q1 q2 q3 q4 q5 ⊢
 rcases bs with _ | ⟨y,bs⟩
 ·obtain rfl : ts = [] := List.length_eq_zero_iff.1 q1
  simp only [List.nil_append,push_cast,reduceIte,reduceEqDiff,reduceAdd,reduceSub,reduceMul,Nat.reduceBEq,reduceLT,reduceLeDiff,reduceCtorEq,reduceToNat,reduceNeg]
  refine qry ⟨[(1,.sl false 3 (rows qAp l)),(2,.ptr 2 0),(4,.ptr 4 0),(5,.int k),(15,.bool B)],
   [(2,[.int g.w,.int g.h,.int g.tracks,.int g.pads,.sl true 1 (ints g.kind),.nil,.nil,.nil,.nil,.nil,.nil]),(4,[.int 0,.int 0,.int 0,.int 0,.nil,.nil,.nil,.nil,.nil,.nil,.nil])],[],[]⟩ ?_ ?_
  ·refine qrq rfl (fun e1 => ?_) fun e1 => ?_ <;> simp only [push_cast,reduceIte,reduceEqDiff,reduceAdd,reduceSub,reduceMul,Nat.reduceBEq,reduceLT,reduceLeDiff,reduceCtorEq,reduceToNat,reduceNeg]
   ·rw [show B = decide ((k : Int) < 12) from by rw [hB,decide_eq_decide]; omega]
   ·rw [show B = false from by rw [hB]; exact decide_eq_false (by omega)]
  refine sB ?_
  refine qnQ (fun e => ?_) fun e => ?_
  rotate_left
  ·rw [hB,decide_eq_false_iff_not] at e
   rw [hF,show min l.length 12 = k by omega,ha]
   refine sB ?_
   exact fun _ _ => trivial
  rw [hB,decide_eq_true_eq] at e
  obtain ⟨e1,e2⟩ := e
  generalize hx : l.getD k default = x at *
  obtain ⟨x1,x2,x3⟩ := x
  have h1 := Int.emod_nonneg x1 (show g.w * g.h ≠ 0 by omega)
  have h2 := Int.emod_lt_of_pos x1 (show 0 < g.w * g.h by omega)
  simp only [blkS] at hbk hS
  simp only
  generalize x1 % (g.w * g.h) = t at *
  repeat (refine And.intro (by omega) ?_)
  have hG : Sub (.agg [.int g.w,.int g.h,.int g.tracks,.int g.pads,.sl true 1 (ints g.kind)]) (.agg (quy false g)) := Sub.aggL ⟨.refl _,.refl _,.refl _,.refl _,.slp _ _ _ _ (fun h => by cases h),trivial⟩
  refine qnR (fun e3 => ?_) fun e3 => ?_
  ·have hm : mkB (x1,x2,x3) = ⟨[],256 * x2 + x3,-1,x3 % 24,0⟩ := by simp only [mkB]; rw [if_pos e3,if_neg (by omega)]
   repeat (refine And.intro (by omega) ?_)
   refine qrm (qzW ([]) (by simp only [List.length_nil,List.length_cons]; omega) t) ⟨.nil _ _,.refl _,trivial⟩ ?_
   refine qry ⟨[(1, .sl false 3 (rows qAp l)), (2, .ptr 2 0), (4, .ptr 4 0), (5, .int k), (6, .int t), (7, .ptr 7 0), (85, .bool (decide (t ∉ [] /\ qzX g (mkB (x1, x2, x3)) t)))],
      [(2,[.int g.w,.int g.h,.int g.tracks,.int g.pads,.sl true 1 (ints g.kind),.nil,.nil,.nil,.nil,.nil,.nil]),(4,[.int 0,.int 0,.int 0,.int 0,.nil,.nil,.nil,.nil,.nil,.nil,.nil]),(7,blkR (mkB (x1,x2,x3)))],[],[]⟩ ?_ ?_
   ·refine sB ?_
    refine qrq rfl (fun e5 => ?_) fun e5 => ?_ <;> simp only [push_cast,reduceIte,reduceEqDiff,reduceAdd,reduceSub,reduceMul,Nat.reduceBEq,reduceLT,reduceLeDiff,reduceCtorEq,reduceToNat,reduceNeg]
    ·refine qrm (qzY g hg (mkB (x1,x2,x3)) t) ⟨hG,Sub.aggL (by rw [hm]; exact ⟨.nil _ _,.refl _,.refl _,.refl _,.refl _,trivial⟩),.refl _,trivial⟩ ?_
     simp only [hm,push_cast,reduceIte,reduceEqDiff,reduceAdd,reduceSub,reduceMul,Nat.reduceBEq,reduceLT,reduceLeDiff,reduceCtorEq,reduceToNat,reduceNeg]
     rw [show decide (t ∉ [] /\ qzX g ⟨[],256 * x2 + x3,(-1),(x3 % 24),0⟩ t) = decide (qzX g ⟨[],256 * x2 + x3,(-1),(x3 % 24),0⟩ t) from by rw [decide_eq_decide]; exact ⟨fun h => h.2,fun h => ⟨indexF_neg.1 e5,h⟩⟩]
    ·simp only [hm,push_cast,reduceIte,reduceEqDiff,reduceAdd,reduceSub,reduceMul,Nat.reduceBEq,reduceLT,reduceLeDiff,reduceCtorEq,reduceToNat,reduceNeg]
     rw [show decide (t ∉ [] /\ qzX g ⟨[],256 * x2 + x3,(-1),(x3 % 24),0⟩ t) = false from decide_eq_false fun h => e5 (indexF_neg.2 h.1)]
   refine sB ?_
   refine qnR (fun e6 => ?_) fun e6 => ?_
   ·rw [if_pos e6] at hS
    refine ⟨by simp,?_⟩
    simp only [quY,push_cast,reduceIte,reduceEqDiff,reduceAdd,reduceSub,reduceMul,Nat.reduceBEq,reduceLT,reduceLeDiff,reduceCtorEq,reduceToNat,reduceNeg]
    refine ⟨by omega,_,?_,k + 1,by omega,rfl,?_⟩
    ·omega
    ·rw [hS]
     simp only [quY,List.nil_append,List.cons_append,push_cast,reduceIte,reduceEqDiff,reduceAdd,reduceSub,reduceMul,Nat.reduceBEq,reduceLT,reduceLeDiff,reduceCtorEq,reduceToNat,reduceNeg]
   ·rw [if_neg e6] at hS
    refine ⟨by omega,_,?_,k + 1,by omega,rfl,?_⟩
    ·omega
    ·rw [hS]
     simp only [List.cons_append,List.nil_append,push_cast,reduceIte,reduceEqDiff,reduceAdd,reduceSub,reduceMul,Nat.reduceBEq,reduceLT,reduceLeDiff,reduceCtorEq,reduceToNat,reduceNeg]
  refine qnR (fun e4 => ?_) fun e4 => ?_
  ·have hm : mkB (x1,x2,x3) = ⟨[],256 * x2 + x3,x3 % 16,-1,0⟩ := by simp only [mkB]; rw [if_neg e3,if_pos e4]
   repeat (refine And.intro (by omega) ?_)
   refine qrm (qzW ([]) (by simp only [List.length_nil,List.length_cons]; omega) t) ⟨.nil _ _,.refl _,trivial⟩ ?_
   refine qry ⟨[(1, .sl false 3 (rows qAp l)), (2, .ptr 2 0), (4, .ptr 4 0), (5, .int k), (6, .int t), (7, .ptr 7 0), (85, .bool (decide (t ∉ [] /\ qzX g (mkB (x1, x2, x3)) t)))],
      [(2,[.int g.w,.int g.h,.int g.tracks,.int g.pads,.sl true 1 (ints g.kind),.nil,.nil,.nil,.nil,.nil,.nil]),(4,[.int 0,.int 0,.int 0,.int 0,.nil,.nil,.nil,.nil,.nil,.nil,.nil]),(7,blkR (mkB (x1,x2,x3)))],[],[]⟩ ?_ ?_
   ·refine sB ?_
    refine qrq rfl (fun e5 => ?_) fun e5 => ?_ <;> simp only [push_cast,reduceIte,reduceEqDiff,reduceAdd,reduceSub,reduceMul,Nat.reduceBEq,reduceLT,reduceLeDiff,reduceCtorEq,reduceToNat,reduceNeg]
    ·refine qrm (qzY g hg (mkB (x1,x2,x3)) t) ⟨hG,Sub.aggL (by rw [hm]; exact ⟨.nil _ _,.refl _,.refl _,.refl _,.refl _,trivial⟩),.refl _,trivial⟩ ?_
     simp only [hm,push_cast,reduceIte,reduceEqDiff,reduceAdd,reduceSub,reduceMul,Nat.reduceBEq,reduceLT,reduceLeDiff,reduceCtorEq,reduceToNat,reduceNeg]
     rw [show decide (t ∉ [] /\ qzX g ⟨[],256 * x2 + x3,(x3 % 16),(-1),0⟩ t) = decide (qzX g ⟨[],256 * x2 + x3,(x3 % 16),(-1),0⟩ t) from by rw [decide_eq_decide]; exact ⟨fun h => h.2,fun h => ⟨indexF_neg.1 e5,h⟩⟩]
    ·simp only [hm,push_cast,reduceIte,reduceEqDiff,reduceAdd,reduceSub,reduceMul,Nat.reduceBEq,reduceLT,reduceLeDiff,reduceCtorEq,reduceToNat,reduceNeg]
     rw [show decide (t ∉ [] /\ qzX g ⟨[],256 * x2 + x3,(x3 % 16),(-1),0⟩ t) = false from decide_eq_false fun h => e5 (indexF_neg.2 h.1)]
   refine sB ?_
   refine qnR (fun e6 => ?_) fun e6 => ?_
   ·rw [if_pos e6] at hS
    refine ⟨by simp,?_⟩
    simp only [quY,push_cast,reduceIte,reduceEqDiff,reduceAdd,reduceSub,reduceMul,Nat.reduceBEq,reduceLT,reduceLeDiff,reduceCtorEq,reduceToNat,reduceNeg]
    refine ⟨by omega,_,?_,k + 1,by omega,rfl,?_⟩
    ·omega
    ·rw [hS]
     simp only [quY,List.nil_append,List.cons_append,push_cast,reduceIte,reduceEqDiff,reduceAdd,reduceSub,reduceMul,Nat.reduceBEq,reduceLT,reduceLeDiff,reduceCtorEq,reduceToNat,reduceNeg]
   ·rw [if_neg e6] at hS
    refine ⟨by omega,_,?_,k + 1,by omega,rfl,?_⟩
    ·omega
    ·rw [hS]
     simp only [List.cons_append,List.nil_append,push_cast,reduceIte,reduceEqDiff,reduceAdd,reduceSub,reduceMul,Nat.reduceBEq,reduceLT,reduceLeDiff,reduceCtorEq,reduceToNat,reduceNeg]
  ·have hm : mkB (x1,x2,x3) = ⟨[],256 * x2 + x3,-1,-1,0⟩ := by simp only [mkB]; rw [if_neg e3,if_neg e4]
   repeat (refine And.intro (by omega) ?_)
   refine qrm (qzW ([]) (by simp only [List.length_nil,List.length_cons]; omega) t) ⟨.nil _ _,.refl _,trivial⟩ ?_
   refine qry ⟨[(1, .sl false 3 (rows qAp l)), (2, .ptr 2 0), (4, .ptr 4 0), (5, .int k), (6, .int t), (7, .ptr 7 0), (85, .bool (decide (t ∉ [] /\ qzX g (mkB (x1, x2, x3)) t)))],
      [(2,[.int g.w,.int g.h,.int g.tracks,.int g.pads,.sl true 1 (ints g.kind),.nil,.nil,.nil,.nil,.nil,.nil]),(4,[.int 0,.int 0,.int 0,.int 0,.nil,.nil,.nil,.nil,.nil,.nil,.nil]),(7,blkR (mkB (x1,x2,x3)))],[],[]⟩ ?_ ?_
   ·refine sB ?_
    refine qrq rfl (fun e5 => ?_) fun e5 => ?_ <;> simp only [push_cast,reduceIte,reduceEqDiff,reduceAdd,reduceSub,reduceMul,Nat.reduceBEq,reduceLT,reduceLeDiff,reduceCtorEq,reduceToNat,reduceNeg]
    ·refine qrm (qzY g hg (mkB (x1,x2,x3)) t) ⟨hG,Sub.aggL (by rw [hm]; exact ⟨.nil _ _,.refl _,.refl _,.refl _,.refl _,trivial⟩),.refl _,trivial⟩ ?_
     simp only [hm,push_cast,reduceIte,reduceEqDiff,reduceAdd,reduceSub,reduceMul,Nat.reduceBEq,reduceLT,reduceLeDiff,reduceCtorEq,reduceToNat,reduceNeg]
     rw [show decide (t ∉ [] /\ qzX g ⟨[],256 * x2 + x3,(-1),(-1),0⟩ t) = decide (qzX g ⟨[],256 * x2 + x3,(-1),(-1),0⟩ t) from by rw [decide_eq_decide]; exact ⟨fun h => h.2,fun h => ⟨indexF_neg.1 e5,h⟩⟩]
    ·simp only [hm,push_cast,reduceIte,reduceEqDiff,reduceAdd,reduceSub,reduceMul,Nat.reduceBEq,reduceLT,reduceLeDiff,reduceCtorEq,reduceToNat,reduceNeg]
     rw [show decide (t ∉ [] /\ qzX g ⟨[],256 * x2 + x3,(-1),(-1),0⟩ t) = false from decide_eq_false fun h => e5 (indexF_neg.2 h.1)]
   refine sB ?_
   refine qnR (fun e6 => ?_) fun e6 => ?_
   ·rw [if_pos e6] at hS
    refine ⟨by simp,?_⟩
    simp only [quY,push_cast,reduceIte,reduceEqDiff,reduceAdd,reduceSub,reduceMul,Nat.reduceBEq,reduceLT,reduceLeDiff,reduceCtorEq,reduceToNat,reduceNeg]
    refine ⟨by omega,_,?_,k + 1,by omega,rfl,?_⟩
    ·omega
    ·rw [hS]
     simp only [quY,List.nil_append,List.cons_append,push_cast,reduceIte,reduceEqDiff,reduceAdd,reduceSub,reduceMul,Nat.reduceBEq,reduceLT,reduceLeDiff,reduceCtorEq,reduceToNat,reduceNeg]
   ·rw [if_neg e6] at hS
    refine ⟨by omega,_,?_,k + 1,by omega,rfl,?_⟩
    ·omega
    ·rw [hS]
     simp only [List.cons_append,List.nil_append,push_cast,reduceIte,reduceEqDiff,reduceAdd,reduceSub,reduceMul,Nat.reduceBEq,reduceLT,reduceLeDiff,reduceCtorEq,reduceToNat,reduceNeg]
 ·obtain ⟨z,ts,rfl⟩ : ∃ z ts2,ts = z :: ts2 := by cases ts with | nil => cases q1 | cons z f => exact ⟨z,f,rfl⟩
  simp only [List.cons_append,List.nil_append,push_cast,reduceIte,reduceEqDiff,reduceAdd,reduceSub,reduceMul,Nat.reduceBEq,reduceLT,reduceLeDiff,reduceCtorEq,reduceToNat,reduceNeg]
  simp only [List.length_cons] at q1 q5
  refine qry ⟨[(1,.sl false 3 (rows qAp l)),(2,.ptr 2 0),(4,.ptr 4 0),(5,.int k),(15,.bool B)],
   [(2,[.int g.w,.int g.h,.int g.tracks,.int g.pads,.sl true 1 (ints g.kind),.nil,.view 91 0 (bs.length + 1),.nil,.nil,.view 99 0 (ts.length + 1),.nil]),(4,[.int 0,.int 0,.int 0,.int 0,.nil,.nil,.nil,.nil,.nil,.nil,.nil])],[(91,⟨5,120,rows blkR (y :: bs)⟩),(99,⟨1,3,ints (z :: ts)⟩)],[]⟩ ?_ ?_
  ·refine qrq rfl (fun e1 => ?_) fun e1 => ?_ <;> simp only [push_cast,reduceIte,reduceEqDiff,reduceAdd,reduceSub,reduceMul,Nat.reduceBEq,reduceLT,reduceLeDiff,reduceCtorEq,reduceToNat,reduceNeg]
   ·rw [show B = decide ((k : Int) < 12) from by rw [hB,decide_eq_decide]; omega]
   ·rw [show B = false from by rw [hB]; exact decide_eq_false (by omega)]
  refine sB ?_
  refine qnQ (fun e => ?_) fun e => ?_
  rotate_left
  ·rw [hB,decide_eq_false_iff_not] at e
   rw [hF,show min l.length 12 = k by omega,ha]
   refine sB ?_
   rw [List.take_of_length_le (by simp),List.take_of_length_le (by simp)]
   exact ⟨⟨fun _ _ => trivial,fun _ _ => trivial,fun _ _ => trivial⟩,qAu true q4,Sub.refl _⟩
  rw [hB,decide_eq_true_eq] at e
  obtain ⟨e1,e2⟩ := e
  generalize hx : l.getD k default = x at *
  obtain ⟨x1,x2,x3⟩ := x
  have h1 := Int.emod_nonneg x1 (show g.w * g.h ≠ 0 by omega)
  have h2 := Int.emod_lt_of_pos x1 (show 0 < g.w * g.h by omega)
  simp only [blkS] at hbk hS
  simp only
  generalize x1 % (g.w * g.h) = t at *
  repeat (refine And.intro (by omega) ?_)
  have hG : Sub (.agg [.int g.w,.int g.h,.int g.tracks,.int g.pads,.sl true 1 (ints g.kind)]) (.agg (quy false g)) := Sub.aggL ⟨.refl _,.refl _,.refl _,.refl _,.slp _ _ _ _ (fun h => by cases h),trivial⟩
  refine qnR (fun e3 => ?_) fun e3 => ?_
  ·have hm : mkB (x1,x2,x3) = ⟨[],256 * x2 + x3,-1,x3 % 24,0⟩ := by simp only [mkB]; rw [if_pos e3,if_neg (by omega)]
   repeat (refine And.intro (by omega) ?_)
   refine qrm (qzW (z :: ts) (by simp only [List.length_nil,List.length_cons]; omega) t) ⟨by rw [List.take_of_length_le (by simp)]; exact Sub.refl _,.refl _,trivial⟩ ?_
   refine qry ⟨[(1, .sl false 3 (rows qAp l)), (2, .ptr 2 0), (4, .ptr 4 0), (5, .int k), (6, .int t), (7, .ptr 7 0), (85, .bool (decide (t ∉ z :: ts /\ qzX g (mkB (x1, x2, x3)) t)))],
      [(2,[.int g.w,.int g.h,.int g.tracks,.int g.pads,.sl true 1 (ints g.kind),.nil,.view 91 0 (bs.length + 1),.nil,.nil,.view 99 0 (ts.length + 1),.nil]),(4,[.int 0,.int 0,.int 0,.int 0,.nil,.nil,.nil,.nil,.nil,.nil,.nil]),(7,blkR (mkB (x1,x2,x3)))],[(91,⟨5,120,rows blkR (y :: bs)⟩),(99,⟨1,3,ints (z :: ts)⟩)],[]⟩ ?_ ?_
   ·refine sB ?_
    refine qrq rfl (fun e5 => ?_) fun e5 => ?_ <;> simp only [push_cast,reduceIte,reduceEqDiff,reduceAdd,reduceSub,reduceMul,Nat.reduceBEq,reduceLT,reduceLeDiff,reduceCtorEq,reduceToNat,reduceNeg]
    ·refine qrm (qzY g hg (mkB (x1,x2,x3)) t) ⟨hG,Sub.aggL (by rw [hm]; exact ⟨.nil _ _,.refl _,.refl _,.refl _,.refl _,trivial⟩),.refl _,trivial⟩ ?_
     simp only [hm,push_cast,reduceIte,reduceEqDiff,reduceAdd,reduceSub,reduceMul,Nat.reduceBEq,reduceLT,reduceLeDiff,reduceCtorEq,reduceToNat,reduceNeg]
     rw [show decide (t ∉ z :: ts /\ qzX g ⟨[],256 * x2 + x3,(-1),(x3 % 24),0⟩ t) = decide (qzX g ⟨[],256 * x2 + x3,(-1),(x3 % 24),0⟩ t) from by rw [decide_eq_decide]; exact ⟨fun h => h.2,fun h => ⟨indexF_neg.1 e5,h⟩⟩]
    ·simp only [hm,push_cast,reduceIte,reduceEqDiff,reduceAdd,reduceSub,reduceMul,Nat.reduceBEq,reduceLT,reduceLeDiff,reduceCtorEq,reduceToNat,reduceNeg]
     rw [show decide (t ∉ z :: ts /\ qzX g ⟨[],256 * x2 + x3,(-1),(x3 % 24),0⟩ t) = false from decide_eq_false fun h => e5 (indexF_neg.2 h.1)]
   refine sB ?_
   refine qnR (fun e6 => ?_) fun e6 => ?_
   ·rw [if_pos e6] at hS
    repeat (refine And.intro (by first | omega | (simp; done)) ?_)
    refine ⟨_,?_,k + 1,by omega,rfl,?_⟩
    ·omega
    ·rw [hS]
     simp only [List.cons_append,List.length_append,List.length_singleton,push_cast,reduceIte,reduceEqDiff,reduceAdd,reduceSub,reduceMul,Nat.reduceBEq,reduceLT,reduceLeDiff,reduceCtorEq,reduceToNat,reduceNeg]
     simp [rows,blkR]
   ·rw [if_neg e6] at hS
    refine ⟨by omega,_,?_,k + 1,by omega,rfl,?_⟩
    ·omega
    ·rw [hS]
     simp only [List.cons_append,List.nil_append,push_cast,reduceIte,reduceEqDiff,reduceAdd,reduceSub,reduceMul,Nat.reduceBEq,reduceLT,reduceLeDiff,reduceCtorEq,reduceToNat,reduceNeg]
  refine qnR (fun e4 => ?_) fun e4 => ?_
  ·have hm : mkB (x1,x2,x3) = ⟨[],256 * x2 + x3,x3 % 16,-1,0⟩ := by simp only [mkB]; rw [if_neg e3,if_pos e4]
   repeat (refine And.intro (by omega) ?_)
   refine qrm (qzW (z :: ts) (by simp only [List.length_nil,List.length_cons]; omega) t) ⟨by rw [List.take_of_length_le (by simp)]; exact Sub.refl _,.refl _,trivial⟩ ?_
   refine qry ⟨[(1, .sl false 3 (rows qAp l)), (2, .ptr 2 0), (4, .ptr 4 0), (5, .int k), (6, .int t), (7, .ptr 7 0), (85, .bool (decide (t ∉ z :: ts /\ qzX g (mkB (x1, x2, x3)) t)))],
      [(2,[.int g.w,.int g.h,.int g.tracks,.int g.pads,.sl true 1 (ints g.kind),.nil,.view 91 0 (bs.length + 1),.nil,.nil,.view 99 0 (ts.length + 1),.nil]),(4,[.int 0,.int 0,.int 0,.int 0,.nil,.nil,.nil,.nil,.nil,.nil,.nil]),(7,blkR (mkB (x1,x2,x3)))],[(91,⟨5,120,rows blkR (y :: bs)⟩),(99,⟨1,3,ints (z :: ts)⟩)],[]⟩ ?_ ?_
   ·refine sB ?_
    refine qrq rfl (fun e5 => ?_) fun e5 => ?_ <;> simp only [push_cast,reduceIte,reduceEqDiff,reduceAdd,reduceSub,reduceMul,Nat.reduceBEq,reduceLT,reduceLeDiff,reduceCtorEq,reduceToNat,reduceNeg]
    ·refine qrm (qzY g hg (mkB (x1,x2,x3)) t) ⟨hG,Sub.aggL (by rw [hm]; exact ⟨.nil _ _,.refl _,.refl _,.refl _,.refl _,trivial⟩),.refl _,trivial⟩ ?_
     simp only [hm,push_cast,reduceIte,reduceEqDiff,reduceAdd,reduceSub,reduceMul,Nat.reduceBEq,reduceLT,reduceLeDiff,reduceCtorEq,reduceToNat,reduceNeg]
     rw [show decide (t ∉ z :: ts /\ qzX g ⟨[],256 * x2 + x3,(x3 % 16),(-1),0⟩ t) = decide (qzX g ⟨[],256 * x2 + x3,(x3 % 16),(-1),0⟩ t) from by rw [decide_eq_decide]; exact ⟨fun h => h.2,fun h => ⟨indexF_neg.1 e5,h⟩⟩]
    ·simp only [hm,push_cast,reduceIte,reduceEqDiff,reduceAdd,reduceSub,reduceMul,Nat.reduceBEq,reduceLT,reduceLeDiff,reduceCtorEq,reduceToNat,reduceNeg]
     rw [show decide (t ∉ z :: ts /\ qzX g ⟨[],256 * x2 + x3,(x3 % 16),(-1),0⟩ t) = false from decide_eq_false fun h => e5 (indexF_neg.2 h.1)]
   refine sB ?_
   refine qnR (fun e6 => ?_) fun e6 => ?_
   ·rw [if_pos e6] at hS
    repeat (refine And.intro (by first | omega | (simp; done)) ?_)
    refine ⟨_,?_,k + 1,by omega,rfl,?_⟩
    ·omega
    ·rw [hS]
     simp only [List.cons_append,List.length_append,List.length_singleton,push_cast,reduceIte,reduceEqDiff,reduceAdd,reduceSub,reduceMul,Nat.reduceBEq,reduceLT,reduceLeDiff,reduceCtorEq,reduceToNat,reduceNeg]
     simp [rows,blkR]
   ·rw [if_neg e6] at hS
    refine ⟨by omega,_,?_,k + 1,by omega,rfl,?_⟩
    ·omega
    ·rw [hS]
     simp only [List.cons_append,List.nil_append,push_cast,reduceIte,reduceEqDiff,reduceAdd,reduceSub,reduceMul,Nat.reduceBEq,reduceLT,reduceLeDiff,reduceCtorEq,reduceToNat,reduceNeg]
  ·have hm : mkB (x1,x2,x3) = ⟨[],256 * x2 + x3,-1,-1,0⟩ := by simp only [mkB]; rw [if_neg e3,if_neg e4]
   repeat (refine And.intro (by omega) ?_)
   refine qrm (qzW (z :: ts) (by simp only [List.length_nil,List.length_cons]; omega) t) ⟨by rw [List.take_of_length_le (by simp)]; exact Sub.refl _,.refl _,trivial⟩ ?_
   refine qry ⟨[(1, .sl false 3 (rows qAp l)), (2, .ptr 2 0), (4, .ptr 4 0), (5, .int k), (6, .int t), (7, .ptr 7 0), (85, .bool (decide (t ∉ z :: ts /\ qzX g (mkB (x1, x2, x3)) t)))],
      [(2,[.int g.w,.int g.h,.int g.tracks,.int g.pads,.sl true 1 (ints g.kind),.nil,.view 91 0 (bs.length + 1),.nil,.nil,.view 99 0 (ts.length + 1),.nil]),(4,[.int 0,.int 0,.int 0,.int 0,.nil,.nil,.nil,.nil,.nil,.nil,.nil]),(7,blkR (mkB (x1,x2,x3)))],[(91,⟨5,120,rows blkR (y :: bs)⟩),(99,⟨1,3,ints (z :: ts)⟩)],[]⟩ ?_ ?_
   ·refine sB ?_
    refine qrq rfl (fun e5 => ?_) fun e5 => ?_ <;> simp only [push_cast,reduceIte,reduceEqDiff,reduceAdd,reduceSub,reduceMul,Nat.reduceBEq,reduceLT,reduceLeDiff,reduceCtorEq,reduceToNat,reduceNeg]
    ·refine qrm (qzY g hg (mkB (x1,x2,x3)) t) ⟨hG,Sub.aggL (by rw [hm]; exact ⟨.nil _ _,.refl _,.refl _,.refl _,.refl _,trivial⟩),.refl _,trivial⟩ ?_
     simp only [hm,push_cast,reduceIte,reduceEqDiff,reduceAdd,reduceSub,reduceMul,Nat.reduceBEq,reduceLT,reduceLeDiff,reduceCtorEq,reduceToNat,reduceNeg]
     rw [show decide (t ∉ z :: ts /\ qzX g ⟨[],256 * x2 + x3,(-1),(-1),0⟩ t) = decide (qzX g ⟨[],256 * x2 + x3,(-1),(-1),0⟩ t) from by rw [decide_eq_decide]; exact ⟨fun h => h.2,fun h => ⟨indexF_neg.1 e5,h⟩⟩]
    ·simp only [hm,push_cast,reduceIte,reduceEqDiff,reduceAdd,reduceSub,reduceMul,Nat.reduceBEq,reduceLT,reduceLeDiff,reduceCtorEq,reduceToNat,reduceNeg]
     rw [show decide (t ∉ z :: ts /\ qzX g ⟨[],256 * x2 + x3,(-1),(-1),0⟩ t) = false from decide_eq_false fun h => e5 (indexF_neg.2 h.1)]
   refine sB ?_
   refine qnR (fun e6 => ?_) fun e6 => ?_
   ·rw [if_pos e6] at hS
    repeat (refine And.intro (by first | omega | (simp; done)) ?_)
    refine ⟨_,?_,k + 1,by omega,rfl,?_⟩
    ·omega
    ·rw [hS]
     simp only [List.cons_append,List.length_append,List.length_singleton,push_cast,reduceIte,reduceEqDiff,reduceAdd,reduceSub,reduceMul,Nat.reduceBEq,reduceLT,reduceLeDiff,reduceCtorEq,reduceToNat,reduceNeg]
     simp [rows,blkR]
   ·rw [if_neg e6] at hS
    refine ⟨by omega,_,?_,k + 1,by omega,rfl,?_⟩
    ·omega
    ·rw [hS]
     simp only [List.cons_append,List.nil_append,push_cast,reduceIte,reduceEqDiff,reduceAdd,reduceSub,reduceMul,Nat.reduceBEq,reduceLT,reduceLeDiff,reduceCtorEq,reduceToNat,reduceNeg]
theorem qAB {l : List Int} {k : Nat} (h : k < l.length) : l.take (k + 1) = l.take k ++ [l.getD k 0] := by
 rw [List.take_add_one,List.getElem?_eq_getElem h,List.getD_eq_getElem?_getD,List.getElem?_eq_getElem h]
 rfl
def qAC (g : Grid) (r : Route) (seen : List Int) (i : Nat) : Prop :=
 ((0 <= r.nodes.getD i 0 /\ r.nodes.getD i 0 < quD g) /\ r.nodes.getD i 0 ∉ seen ++ r.nodes.take i) /\
 (i = 0 -> qvM g (r.nodes.getD i 0) = []) /\
 (i ≠ 0 -> (0 <= r.frm.getD i 0 /\ r.frm.getD i 0 <= (i : Int) - 1) /\ r.nodes.getD (r.frm.getD i 0).toNat 0 ∈ qvM g (r.nodes.getD i 0))
def qAD (g : Grid) (r : Route) (i : Nat) : Int := 1 + ((qvM g (r.nodes.getD i 0)).countP (· < r.nodes.getD (r.frm.getD i 0).toNat 0) : Nat)
def selN (g : Grid) (r : Route) (sel : List Int) : Nat -> List Int
 | 0 => sel
 | k + 1 => if k = 0 then selN g r sel k else (selN g r sel k).set (r.nodes.getD k 0).toNat (qAD g r k)
theorem qAE (g : Grid) (r : Route) (sel : List Int) : ∀ k,(selN g r sel k).length = sel.length
 | 0 => rfl
 | k + 1 => by
   rw [selN]
   split
   ·exact qAE g r sel k
   ·rw [List.length_set]; exact qAE g r sel k
theorem qAF {g : Grid} {r : Route} {sel seen : List Int} (hs : (sel.length : Int) = quD g) {k : Nat} (hk : k < r.nodes.length) (a : List Int × List Int) :
  qwR g r (selN g r sel k,seen ++ r.nodes.take k) k = some a ↔ qAC g r seen k /\ a = (selN g r sel (k + 1),seen ++ r.nodes.take (k + 1)) := by
 have e := qAB hk
 unfold qwR qwQ qAC
 rw [selN,e,<- List.append_assoc]
 simp only [qAE]
 by_cases h1 : (0 <= r.nodes.getD k 0 /\ r.nodes.getD k 0 <= (sel.length : Int) - 1) /\ r.nodes.getD k 0 ∉ seen ++ r.nodes.take k
 ·rw [if_pos h1]
  have h1' : (0 <= r.nodes.getD k 0 /\ r.nodes.getD k 0 < quD g) /\ r.nodes.getD k 0 ∉ seen ++ r.nodes.take k := ⟨⟨h1.1.1,by omega⟩,h1.2⟩
  by_cases h0 : k = 0
  ·rw [if_pos h0,if_pos h0]
   by_cases hd : qvM g (r.nodes.getD k 0) = []
   ·rw [if_pos hd,Option.some.injEq]
    constructor
    ·rintro rfl; exact ⟨⟨h1',fun _ => hd,fun h => absurd h0 h⟩,rfl⟩
    ·rintro ⟨_,rfl⟩; rfl
   ·rw [if_neg hd]
    constructor
    ·intro h; cases h
    ·rintro ⟨⟨_,h,_⟩,_⟩; exact absurd (h h0) hd
  ·rw [if_neg h0,if_neg h0]
   by_cases hf : 0 <= r.frm.getD k 0 /\ r.frm.getD k 0 <= (k : Int) - 1
   ·rw [if_pos hf]
    by_cases hx : r.nodes.getD (r.frm.getD k 0).toNat 0 ∈ qvM g (r.nodes.getD k 0)
    ·rw [if_pos hx,Option.some.injEq]
     constructor
     ·rintro rfl; exact ⟨⟨h1',fun h => absurd h h0,fun _ => ⟨hf,hx⟩⟩,rfl⟩
     ·rintro ⟨_,rfl⟩; rfl
    ·rw [if_neg hx]
     constructor
     ·intro h; cases h
     ·rintro ⟨⟨_,_,h⟩,_⟩; exact absurd (h h0).2 hx
   ·rw [if_neg hf]
    constructor
    ·intro h; cases h
    ·rintro ⟨⟨_,_,h⟩,_⟩; exact absurd (h h0).1 hf
 ·rw [if_neg h1]
  constructor
  ·intro h; cases h
  ·rintro ⟨⟨h,_⟩,_⟩; exact absurd ⟨⟨h.1.1,by omega⟩,h.2⟩ h1
theorem qAG {α β : Type} (f : α -> β -> Option α) (a : α) (x : β) : qwK f a [x] = f a x := by
 simp only [qwK]
 cases f a x <;> rfl
theorem qAH {g : Grid} {r : Route} {sel seen : List Int} (hs : (sel.length : Int) = quD g) : ∀ (k : Nat) (_ : k <= r.nodes.length) (a : List Int × List Int),
  qwK (qwR g r) (sel,seen) (List.range k) = some a ↔ (∀ i,i < k -> qAC g r seen i) /\ a = (selN g r sel k,seen ++ r.nodes.take k)
 | 0, _, a => by
   show some (sel,seen) = some a ↔ _
   rw [Option.some.injEq,List.take_zero,List.append_nil]
   exact ⟨fun h => ⟨fun i hi => by omega,h.symm⟩,fun h => h.2.symm⟩
 | k + 1, hk, a => by
   rw [List.range_succ,qwL,Option.bind_eq_some_iff]
   constructor
   ·rintro ⟨b,hb,h⟩
    obtain ⟨h1,rfl⟩ := (qAH hs k (by omega) b).1 hb
    rw [qAG] at h
    obtain ⟨h2,h3⟩ := (qAF hs (by omega) _).1 h
    refine ⟨fun i hi => ?_,h3⟩
    by_cases e : i = k
    ·rw [e]; exact h2
    ·exact h1 i (by omega)
   ·rintro ⟨h1,rfl⟩
    refine ⟨_,(qAH hs k (by omega) _).2 ⟨fun i hi => h1 i (by omega),rfl⟩,?_⟩
    rw [qAG]
    exact (qAF hs (by omega) _).2 ⟨h1 k (by omega),rfl⟩
def qAI (g : Grid) (seen : List Int) (r : Route) : Prop := (r.nodes ≠ [] /\ r.frm.length = r.nodes.length /\ r.frm.getD 0 0 = -1) /\ ∀ i,i < r.nodes.length -> qAC g r seen i
def selR (g : Grid) (sel : List Int) (r : Route) : List Int := selN g r sel r.nodes.length
theorem qAJ {g : Grid} {r : Route} {sel seen : List Int} (hs : (sel.length : Int) = quD g) (a : List Int × List Int) :
  qwS g (sel,seen) r = some a ↔ qAI g seen r /\ a = (selR g sel r,seen ++ r.nodes) := by
 unfold qwS qAI selR
 by_cases h : r.nodes ≠ [] /\ r.frm.length = r.nodes.length /\ r.frm.getD 0 0 = -1
 ·rw [if_pos h,qAH hs _ (Nat.le_refl _),List.take_length]
  exact ⟨fun e => ⟨⟨h,e.1⟩,e.2⟩,fun e => ⟨e.1.2,e.2⟩⟩
 ·rw [if_neg h]
  exact ⟨fun e => (by cases e),fun e => absurd e.1.1 h⟩
def qAK (rs : List Route) : List Int := (rs.map fun r => r.nodes).flatten
def qAL (g : Grid) : List Int -> List Route -> Prop
 | _,[] => True
 | seen,r :: rs => qAI g seen r /\ qAL g (seen ++ r.nodes) rs
def qAM (g : Grid) : List Int -> List Route -> List Int
 | sel,[] => sel
 | sel,r :: rs => qAM g (selR g sel r) rs
theorem qAN (g : Grid) (r : Route) (sel : List Int) : (selR g sel r).length = sel.length := qAE g r sel _
theorem qAO (g : Grid) : ∀ (rs : List Route) (sel : List Int),(qAM g sel rs).length = sel.length
 | [],_ => rfl
 | r :: rs,sel => by rw [qAM,qAO g rs,qAN]
theorem qAP {g : Grid} : ∀ (rs : List Route) (sel seen : List Int) (_ : (sel.length : Int) = quD g) (a : List Int × List Int),
  qwK (qwS g) (sel,seen) rs = some a ↔ qAL g seen rs /\ a = (qAM g sel rs,seen ++ qAK rs)
 | [], sel, seen, _, a => by
   show some (sel,seen) = some a ↔ True /\ a = (sel,seen ++ [])
   rw [Option.some.injEq,List.append_nil]
   exact ⟨fun h => ⟨trivial,h.symm⟩,fun h => h.2.symm⟩
 | r :: rs, sel, seen, hs, a => by
   rw [qwK,Option.bind_eq_some_iff]
   have e : seen ++ qAK (r :: rs) = seen ++ r.nodes ++ qAK rs := by simp [qAK]
   rw [e,qAL,qAM]
   constructor
   ·rintro ⟨b,hb,h⟩
    obtain ⟨h1,rfl⟩ := (qAJ hs b).1 hb
    obtain ⟨h2,h3⟩ := (qAP rs _ _ (by rw [qAN]; exact hs) a).1 h
    exact ⟨⟨h1,h2⟩,h3⟩
   ·rintro ⟨⟨h1,h2⟩,h3⟩
    exact ⟨_,(qAJ hs _).2 ⟨h1,rfl⟩,(qAP rs _ _ (by rw [qAN]; exact hs) a).2 ⟨h2,h3⟩⟩
structure RouteSh (g : Grid) (r : Route) : Prop where
 ne : r.nodes ≠ []
 len : r.frm.length = r.nodes.length
 frm : r.frm.getD 0 0 = -1
 rng : ∀ x ∈ r.nodes,0 <= x /\ x < quD g
 src : qvM g (r.nodes.getD 0 0) = []
 drv : ∀ i,0 < i -> i < r.nodes.length -> (0 <= r.frm.getD i 0 /\ r.frm.getD i 0 < i) /\ r.nodes.getD (r.frm.getD i 0).toNat 0 ∈ qvM g (r.nodes.getD i 0)
theorem qAQ {l : List Int} {x : Int} (h : x ∈ l) : ∃ i,i < l.length /\ l.getD i 0 = x := by
 obtain ⟨i,hi,e⟩ := List.getElem_of_mem h
 exact ⟨i,hi,by simp [hi,e]⟩
theorem take_mem {l : List Int} {x : Int} {k : Nat} : x ∈ l.take k ↔ ∃ i,i < k /\ i < l.length /\ l.getD i 0 = x := by
 constructor
 ·intro h
  obtain ⟨i,hi,e⟩ := List.getElem_of_mem h
  rw [List.length_take] at hi
  refine ⟨i,by omega,by omega,?_⟩
  rw [List.getElem_take] at e
  simp [show i < l.length by omega,e]
 ·rintro ⟨i,h1,h2,rfl⟩
  rw [List.mem_take_iff_getElem]
  exact ⟨i,by omega,by simp [h2]⟩
theorem qAR (l : List Int) : l.Nodup ↔ ∀ i,i < l.length -> l.getD i 0 ∉ l.take i := by
 constructor
 ·intro h i hi hm
  obtain ⟨j,h1,h2,e⟩ := take_mem.1 hm
  rw [List.getD_eq_getElem?_getD,List.getD_eq_getElem?_getD,List.getElem?_eq_getElem hi,List.getElem?_eq_getElem h2] at e
  have := (List.getElem_inj h).1 e
  omega
 ·intro h
  rw [List.nodup_iff_pairwise_ne,List.pairwise_iff_getElem]
  intro i j hi hj hij e
  refine h j hj (take_mem.2 ⟨i,hij,hi,?_⟩)
  simp [hi,hj,e]
theorem qAS {g : Grid} {seen : List Int} {r : Route} : qAI g seen r ↔ RouteSh g r /\ r.nodes.Nodup /\ ∀ x ∈ r.nodes,x ∉ seen := by
 constructor
 ·rintro ⟨⟨h1,h2,h3⟩,h4⟩
  have hl := List.length_pos_iff.2 h1
  refine ⟨⟨h1,h2,h3,fun x hx => ?_,(h4 0 hl).2.1 rfl,fun i h0 hi => ?_⟩,(qAR _).2 fun i hi hm => (h4 i hi).1.2 (List.mem_append_right _ hm),fun x hx hm => ?_⟩
  ·obtain ⟨i,hi,rfl⟩ := qAQ hx
   exact (h4 i hi).1.1
  ·obtain ⟨h5,h6⟩ := (h4 i hi).2.2 (by omega)
   exact ⟨by omega,h6⟩
  ·obtain ⟨i,hi,rfl⟩ := qAQ hx
   exact (h4 i hi).1.2 (List.mem_append_left _ hm)
 ·rintro ⟨h,hn,hd⟩
  refine ⟨⟨h.ne,h.len,h.frm⟩,fun i hi => ⟨⟨h.rng _ (qza hi),fun hm => ?_⟩,fun e => by rw [e]; exact h.src,fun e => ?_⟩⟩
  ·rcases List.mem_append.1 hm with hm | hm
   ·exact hd _ (qza hi) hm
   ·exact (qAR _).1 hn i hi hm
  ·obtain ⟨h5,h6⟩ := h.drv i (by omega) hi
   exact ⟨by omega,h6⟩
theorem qAT {g : Grid} : ∀ (rs : List Route) (seen : List Int),qAL g seen rs ↔ (∀ r ∈ rs,RouteSh g r) /\ (qAK rs).Nodup /\ ∀ x ∈ qAK rs,x ∉ seen
 | [],seen => by simp [qAL,qAK]
 | r :: rs, seen => by
   have e : qAK (r :: rs) = r.nodes ++ qAK rs := by simp [qAK]
   rw [qAL,qAS,qAT rs,e,List.nodup_append]
   constructor
   ·rintro ⟨⟨h1,h2,h3⟩,h4,h5,h6⟩
    refine ⟨fun x hx => ?_,⟨h2,h5,fun a ha b hb e => h6 b hb (List.mem_append_right _ (e ▸ ha))⟩,fun x hx hm => ?_⟩
    ·rcases List.mem_cons.1 hx with rfl | hx
     ·exact h1
     ·exact h4 x hx
    ·rcases List.mem_append.1 hx with hx | hx
     ·exact h3 x hx hm
     ·exact h6 x hx (List.mem_append_left _ hm)
   ·rintro ⟨h1,⟨h2,h3,h4⟩,h5⟩
    refine ⟨⟨h1 r (List.mem_cons_self ..),h2,fun x hx => h5 x (List.mem_append_left _ hx)⟩,fun x hx => h1 x (List.mem_cons_of_mem _ hx),h3,fun x hx hm => ?_⟩
    rcases List.mem_append.1 hm with hm | hm
    ·exact h5 x (List.mem_append_right _ hx) hm
    ·exact h4 x hm x hx rfl
theorem qAU {g : Grid} {c : Cfg} {b : Block} {t : Nat} (h : qzs g c) : qzs g (qwO c b t) := by
 obtain ⟨h1,h2,h3,h4⟩ := h
 unfold qwO
 split
 ·refine ⟨?_,?_,?_,?_⟩ <;> simp [*]
 ·split
  ·refine ⟨?_,?_,?_,?_⟩ <;> simp [*]
  ·refine ⟨?_,?_,?_,?_⟩ <;> simp [*]
def qAV (b : Block) : Int := if 0 <= b.ram then 3 else if 0 <= b.reg then 2 else 1
def tabB (b : Block) (x : Int) : Int := if 0 <= b.ram then x else b.table
def ramB (b : Block) (x : Int) : Int := if 0 <= b.ram then b.ram else if 0 <= b.reg then b.reg else x
theorem qAW {c : Cfg} {b : Block} {t : Nat} (h : t < c.mode.length) (i : Nat) : (qwO c b t).mode.getD i 0 = if t = i then qAV b else c.mode.getD i 0 := by
 unfold qwO qAV
 repeat' split
 all_goals simp only [qzy, *] at *
 all_goals simp_all
theorem qAX {g : Grid} {c : Cfg} (hc : qzs g c) (b : Block) (t : Int) (c' : Cfg) :
  qwP g c (b,t) = some c' ↔ (c.mode.getD t.toNat 0 = 0 /\ qzX g b t) /\ c' = qwO c b t.toNat := by
 have h2 := hc.2.1
 unfold qwP qzX
 simp only
 by_cases h : (0 <= t /\ t <= (g.kind.length : Int) - 1) /\ c.mode.getD t.toNat 0 = 0
 ·rw [if_pos h]
  have hm := qAW (c := c) (b := b) (t := t.toNat) (by omega) t.toNat
  rw [if_pos rfl] at hm
  rw [hm]
  have hh : qwN b -> (qwy (g.kind.getD t.toNat 0) (qAV b) = true ↔ g.kind.getD t.toNat 0 ≠ 0 /\ ¬ (g.kind.getD t.toNat 0 = 1 /\ b.ram ≠ -1)) := by
   rintro ⟨h1,h2,h3,h4⟩
   generalize g.kind.getD t.toNat 0 = k
   unfold qwy qAV
   repeat' split
   all_goals first | omega | (simp only [decide_eq_true_eq]; omega) | (simp; omega)
  by_cases ho : qwN b
  ·rw [if_pos ho]
   have ho2 := ho
   obtain ⟨q1,q2,q3,q4⟩ := ho2
   by_cases hq : qwy (g.kind.getD t.toNat 0) (qAV b) = true
   ·rw [if_pos hq,Option.some.injEq]
    have hq2 := (hh ho).1 hq
    constructor
    ·rintro rfl; exact ⟨⟨h.2,⟨⟨by omega,by omega⟩,hq2⟩,⟨q3,q1,q2⟩,by omega⟩,rfl⟩
    ·rintro ⟨_,rfl⟩; rfl
   ·rw [if_neg hq]
    exact ⟨fun e => (by cases e),fun e => absurd ((hh ho).2 e.1.2.1.2) hq⟩
  ·rw [if_neg ho]
   refine ⟨fun e => (by cases e),?_⟩
   rintro ⟨⟨_,_,⟨e1,e2,e3⟩,e4⟩,_⟩
   exact absurd ⟨e2,e3,e1,by omega⟩ ho
 ·rw [if_neg h]
  refine ⟨fun e => (by cases e),?_⟩
  rintro ⟨⟨e1,⟨⟨e2,_⟩,_⟩⟩,_⟩
  exact absurd ⟨⟨e2.1,by omega⟩,e1⟩ h
theorem qAY (b : Block) : qAV b ≠ 0 := by
 unfold qAV
 repeat' split
 all_goals omega
def qAZ (g : Grid) : List Int -> List (Block × Int) -> Prop
 | _,[] => True
 | sn,z :: zs => (z.2 ∉ sn /\ qzX g z.1 z.2) /\ qAZ g (sn ++ [z.2]) zs
def qB0 : Cfg -> List (Block × Int) -> Cfg
 | c,[] => c
 | c,z :: zs => qB0 (qwO c z.1 z.2.toNat) zs
theorem qB1 {g : Grid} : ∀ (zs : List (Block × Int)) (c : Cfg) (sn : List Int) (_ : qzs g c) (_ : ∀ t : Int, 0 <= t -> t < g.kind.length -> (c.mode.getD t.toNat 0 = 0 ↔ t ∉ sn)) (c' : Cfg),
  qwK (qwP g) c zs = some c' ↔ qAZ g sn zs /\ c' = qB0 c zs
 | [], c, sn, _, _, c' => by
   show some c = some c' ↔ True /\ c' = c
   rw [Option.some.injEq]
   exact ⟨fun h => ⟨trivial,h.symm⟩,fun h => h.2.symm⟩
 | (b, t) :: zs, c, sn, hc, hm, c' => by
   rw [qwK,Option.bind_eq_some_iff,qAZ,qB0]
   have hnx : qzX g b t -> ∀ u : Int,0 <= u -> u < g.kind.length -> ((qwO c b t.toNat).mode.getD u.toNat 0 = 0 ↔ u ∉ sn ++ [t]) := fun hf u h1 h2 => by
    have h3 := hc.2.1
    have h4 := hf.1.1
    rw [qAW (by omega),List.mem_append,List.mem_singleton]
    by_cases e : t.toNat = u.toNat
    ·rw [if_pos e]
     exact ⟨fun h => absurd h (qAY b),fun h => absurd (.inr (by omega)) h⟩
    ·rw [if_neg e,hm u h1 h2]
     exact ⟨fun h h' => h'.elim h (fun h' => e (by omega)),fun h h' => h (.inl h')⟩
   constructor
   ·rintro ⟨x,hx,h⟩
    obtain ⟨⟨h1,h2⟩,rfl⟩ := (qAX hc b t x).1 hx
    obtain ⟨h3,h4⟩ := (qB1 zs _ _ (qAU hc) (hnx h2) c').1 h
    exact ⟨⟨⟨(hm t h2.1.1.1 h2.1.1.2).1 h1,h2⟩,h3⟩,h4⟩
   ·rintro ⟨⟨⟨h1,h2⟩,h3⟩,h4⟩
    exact ⟨_,(qAX hc b t _).2 ⟨⟨(hm t h2.1.1.1 h2.1.1.2).2 h1,h2⟩,rfl⟩,(qB1 zs _ _ (qAU hc) (hnx h2) c').2 ⟨h3,h4⟩⟩
theorem qB2 {g : Grid} : ∀ (zs : List (Block × Int)) (sn : List Int),qAZ g sn zs ↔ (∀ z ∈ zs,qzX g z.1 z.2) /\ (zs.map Prod.snd).Nodup /\ ∀ x ∈ zs.map Prod.snd,x ∉ sn
 | [],sn => by simp [qAZ]
 | z :: zs, sn => by
   rw [qAZ,qB2 zs,List.map_cons,List.nodup_cons]
   constructor
   ·rintro ⟨⟨h1,h2⟩,h3,h4,h5⟩
    refine ⟨fun x hx => ?_,⟨fun hm => h5 _ hm (by simp),h4⟩,fun x hx hm => ?_⟩
    ·rcases List.mem_cons.1 hx with rfl | hx
     ·exact h2
     ·exact h3 x hx
    ·rcases List.mem_cons.1 hx with rfl | hx
     ·exact h1 hm
     ·exact h5 x hx (List.mem_append_left _ hm)
   ·rintro ⟨h1,⟨h2,h3⟩,h4⟩
    refine ⟨⟨h4 _ (List.mem_cons_self ..),h1 z (List.mem_cons_self ..)⟩,fun x hx => h1 x (List.mem_cons_of_mem _ hx),h3,fun x hx hm => ?_⟩
    rcases List.mem_append.1 hm with hm | hm
    ·exact h4 x (List.mem_cons_of_mem _ hx) hm
    ·rw [List.mem_singleton] at hm
     exact h2 (hm ▸ hx)
structure FitsF (p : Packed) (g : Grid) (l : Layout) : Prop where
 len : l.pos.length = p.blocks.length
 fit : ∀ z ∈ p.blocks.zip l.pos,qzX g z.1 z.2
 pos : l.pos.Nodup
 sh : ∀ r ∈ l.routes,RouteSh g r
 nod : (qAK l.routes).Nodup
def encC (p : Packed) (g : Grid) (l : Layout) : Cfg := { qB0 (qwM g) (p.blocks.zip l.pos) with sel := qAM g (List.replicate (quD g).toNat 0) l.routes }
theorem qB3 (g : Grid) : qzs g (qwM g) := by refine ⟨?_,?_,?_,?_⟩ <;> simp [qwM]
theorem qB4 (c : Cfg) (b : Block) (t : Nat) : (qwO c b t).sel = c.sel := by
 unfold qwO
 repeat' split
 all_goals rfl
theorem qB5 : ∀ (zs : List (Block × Int)) (c : Cfg),(qB0 c zs).sel = c.sel
 | [],_ => rfl
 | z :: zs,c => by rw [qB0,qB5 zs,qB4]
theorem qB6 (p : Packed) {g : Grid} (hg : GOk g) (l : Layout) (c : Cfg) : encO p g l = some c ↔ FitsF p g l /\ c = encC p g l := by
 have hcn := hg.count
 unfold encO
 by_cases h : l.pos.length = p.blocks.length
 ·rw [if_pos h,Option.bind_eq_some_iff]
  have hz : (p.blocks.zip l.pos).map Prod.snd = l.pos := List.map_snd_zip (by omega)
  have h0 : ∀ t : Int,0 <= t -> t < g.kind.length -> ((qwM g).mode.getD t.toNat 0 = 0 ↔ t ∉ ([] : List Int)) := fun t h1 h2 => by
   simp [qwM,List.getElem?_replicate]
   split <;> rfl
  have hlen : ((qwM g).sel.length : Int) = quD g := by simp [qwM]; omega
  have key : ∀ x : Cfg,qwK (qwP g) (qwM g) (p.blocks.zip l.pos) = some x -> x.sel = (qwM g).sel := fun x hx => by
   obtain ⟨_,rfl⟩ := (qB1 _ _ _ (qB3 g) h0 x).1 hx
   rw [qB5]
  constructor
  ·rintro ⟨x,hx,hy⟩
   rw [Option.map_eq_some_iff] at hy
   obtain ⟨a,ha,rfl⟩ := hy
   rw [key x hx] at ha
   obtain ⟨h1,rfl⟩ := (qB1 _ _ _ (qB3 g) h0 x).1 hx
   obtain ⟨h2,rfl⟩ := (qAP _ _ _ hlen a).1 ha
   obtain ⟨q1,q2,_⟩ := (qB2 _ _).1 h1
   obtain ⟨q3,q4,_⟩ := (qAT _ _).1 h2
   rw [hz] at q2
   exact ⟨⟨h,q1,q2,q3,q4⟩,rfl⟩
  ·rintro ⟨⟨_,q1,q2,q3,q4⟩,rfl⟩
   have hx := (qB1 _ _ _ (qB3 g) h0 _).2 ⟨(qB2 _ _).2 ⟨q1,by rw [hz]; exact q2,fun _ _ h => by cases h⟩,rfl⟩
   refine ⟨_,hx,?_⟩
   rw [Option.map_eq_some_iff,key _ hx]
   exact ⟨_,(qAP _ _ _ hlen _).2 ⟨(qAT _ _).2 ⟨q3,q4,fun _ _ h => by cases h⟩,rfl⟩,rfl⟩
 ·rw [if_neg h]
  exact ⟨fun e => (by cases e),fun e => absurd e.1.len h⟩
theorem qB7 {p : Packed} {g : Grid} (hg : GOk g) {l : Layout} (h : FitsF p g l) : encF p g l = (encC p g l,0) := by
 rw [encF,(qB6 p hg l _).2 ⟨h,rfl⟩]
theorem qB8 {p : Packed} {g : Grid} (hg : GOk g) {l : Layout} (h : ¬ FitsF p g l) : encF p g l = (cfg0,350) := by
 have : encO p g l = none := by
  cases e : encO p g l with
  | none => rfl
  | some c => exact absurd ((qB6 p hg l c).1 e).1 h
 rw [encF,this]
def qB9 (c : Cfg) (t : Nat) : Int × Int × Int := (c.mode.getD t 0,c.tab.getD t 0,c.ram.getD t 0)
def qBa (b : Block) (x : Int × Int × Int) : Int × Int × Int := (qAV b,tabB b x.2.1,ramB b x.2.2)
theorem qBb {g : Grid} {c : Cfg} (hc : qzs g c) (b : Block) {t : Nat} (h : t < g.kind.length) (i : Nat) : qB9 (qwO c b t) i = if t = i then qBa b (qB9 c t) else qB9 c i := by
 obtain ⟨h1,h2,h3,h4⟩ := hc
 unfold qB9 qBa qwO qAV tabB ramB
 by_cases e : t = i
 ·subst e
  rw [if_pos rfl]
  by_cases q : 0 <= b.ram
  ·simp only [if_pos q,qzy]
   rw [if_pos ⟨trivial,by omega⟩,if_pos ⟨trivial,by omega⟩]
  ·by_cases q2 : 0 <= b.reg
   ·simp only [if_neg q,if_pos q2,qzy]
    rw [if_pos ⟨trivial,by omega⟩,if_pos ⟨trivial,by omega⟩,if_pos ⟨trivial,by omega⟩]
   ·simp only [if_neg q,if_neg q2,qzy]
    rw [if_pos ⟨trivial,by omega⟩,if_pos ⟨trivial,by omega⟩]
 ·rw [if_neg e]
  by_cases q : 0 <= b.ram
  ·simp only [if_pos q,qzy,e,false_and,if_false]
  ·by_cases q2 : 0 <= b.reg
   ·simp only [if_neg q,if_pos q2,qzy,e,false_and,if_false]
   ·simp only [if_neg q,if_neg q2,qzy,e,false_and,if_false]
theorem qBc {g : Grid} : ∀ (zs : List (Block × Int)) (c : Cfg),qzs g c -> qzs g (qB0 c zs)
 | [],_,h => h
 | z :: zs,c,h => qBc zs _ (qAU h)
theorem qBd {g : Grid} : ∀ (zs : List (Block × Int)) (c : Cfg) (_ : qzs g c) (_ : ∀ z ∈ zs,0 <= z.2 /\ z.2 < g.kind.length) (i : Nat) (_ : (i : Int) ∉ zs.map Prod.snd),qB9 (qB0 c zs) i = qB9 c i
 | [],_,_,_,_,_ => rfl
 | z :: zs, c, hc, hr, i, h => by
   have h1 := hr z (List.mem_cons_self ..)
   have h2 : (i : Int) ≠ z.2 := fun e => h (by rw [List.map_cons,e]; exact List.mem_cons_self ..)
   rw [qB0,qBd zs _ (qAU hc) (fun x hx => hr x (List.mem_cons_of_mem _ hx)) i (fun hm => h (by rw [List.map_cons]; exact List.mem_cons_of_mem _ hm)),qBb hc _ (by omega),if_neg (by omega)]
theorem qBe {g : Grid} : ∀ (zs : List (Block × Int)) (c : Cfg) (_ : qzs g c) (_ : ∀ z ∈ zs,0 <= z.2 /\ z.2 < g.kind.length) (_ : (zs.map Prod.snd).Nodup) (z : Block × Int) (_ : z ∈ zs),qB9 (qB0 c zs) z.2.toNat = qBa z.1 (qB9 c z.2.toNat)
 | x :: zs, c, hc, hr, hn, z, h => by
   have h1 := hr x (List.mem_cons_self ..)
   have h3 := hr z h
   rw [List.map_cons,List.nodup_cons] at hn
   have hr' : ∀ z ∈ zs,0 <= z.2 /\ z.2 < g.kind.length := fun x hx => hr x (List.mem_cons_of_mem _ hx)
   rw [qB0]
   rcases List.mem_cons.1 h with rfl | h
   ·rw [qBd zs _ (qAU hc) hr' _ (by rw [show ((z.2.toNat : Nat) : Int) = z.2 by omega]; exact hn.1),qBb hc _ (by omega),if_pos rfl]
   ·have hne : z.2 ≠ x.2 := fun e => hn.1 (by rw [<- e]; exact List.mem_map_of_mem h)
    rw [qBe zs _ (qAU hc) hr' hn.2 z h,qBb hc _ (by omega),if_neg (by omega)]
theorem qBf (g : Grid) (i : Nat) : qB9 (qwM g) i = (0,0,0) := by
 have : ∀ n : Nat,(List.replicate n (0 : Int)).getD i 0 = 0 := fun n => by
  rw [List.getD_eq_getElem?_getD,List.getElem?_replicate]
  split <;> rfl
 simp only [qB9,qwM,this]
theorem qBg (p : Packed) (g : Grid) (l : Layout) : qzs g (encC p g l) := by
 obtain ⟨h1,h2,h3,h4⟩ := qBc (g := g) (p.blocks.zip l.pos) _ (qB3 g)
 exact ⟨by simp only [encC]; rw [qAO,List.length_replicate],h2,h3,h4⟩
theorem FitsF.zs {p : Packed} {g : Grid} {l : Layout} (h : FitsF p g l) : (p.blocks.zip l.pos).map Prod.snd = l.pos := List.map_snd_zip (by have := h.len; omega)
theorem FitsF.rng {p : Packed} {g : Grid} {l : Layout} (h : FitsF p g l) : ∀ z ∈ p.blocks.zip l.pos,0 <= z.2 /\ z.2 < g.kind.length := fun z hz => (h.fit z hz).1.1
theorem qBh {p : Packed} {g : Grid} {l : Layout} (h : FitsF p g l) {i : Nat} (hi : (i : Int) ∉ l.pos) : qB9 (encC p g l) i = (0,0,0) := by
 have := qBd _ _ (qB3 g) h.rng i (by rw [h.zs]; exact hi)
 rw [qBf] at this
 exact this
theorem qBi {p : Packed} {g : Grid} {l : Layout} (h : FitsF p g l) {z : Block × Int} (hz : z ∈ p.blocks.zip l.pos) : qB9 (encC p g l) z.2.toNat = qBa z.1 (0,0,0) := by
 have := qBe _ _ (qB3 g) h.rng (by rw [h.zs]; exact h.pos) z hz
 rw [qBf] at this
 exact this
theorem qBj {g : Grid} {b : Block} {t : Int} (h : qzX g b t) : qyV (g.kind.getD t.toNat 0) (qBa b (0,0,0)).1 (qBa b (0,0,0)).2.1 (qBa b (0,0,0)).2.2 := by
 obtain ⟨⟨h1,h2,h3⟩,⟨h4,h5,h6⟩,h7⟩ := h
 generalize g.kind.getD t.toNat 0 = k at *
 unfold qyV qBa qAV tabB ramB qwy
 simp only
 refine ⟨?_,?_,?_,?_⟩
 all_goals repeat' split
 all_goals first | omega | (simp only [decide_eq_true_eq]; omega) | trivial
theorem qBk {p : Packed} {g : Grid} {l : Layout} (h : FitsF p g l) (t : Nat) : qz1 g (encC p g l) t := by
 show qyV _ (qB9 (encC p g l) t).1 (qB9 (encC p g l) t).2.1 (qB9 (encC p g l) t).2.2
 by_cases e : (t : Int) ∈ l.pos
 ·rw [<- h.zs,List.mem_map] at e
  obtain ⟨z,hz,ez⟩ := e
  have h1 := h.fit z hz
  have h2 : z.2.toNat = t := by omega
  have h3 := qBj h1
  rw [<- qBi h hz,h2] at h3
  exact h3
 ·rw [qBh h e]
  unfold qyV qwy
  simp only
  refine ⟨by omega,?_,by omega,by omega⟩
  repeat' split
  all_goals simp
theorem qBl (g : Grid) (s : Spot) : ∀ k,(qvZ g s k).Pairwise (· < ·)
 | 0 => .nil
 | k + 1 => by
   rw [qvZ,List.pairwise_append]
   refine ⟨qBl g s k,?_,fun a ha b hb => ?_⟩
   ·split <;> simp
   ·have := qz8 g s k a ha
    split at hb
    ·simp at hb; omega
    ·simp at hb
theorem qBm {g : Grid} (hg : GOk g) (n : Int) : (qvM g n).Pairwise (· < ·) := by
 rw [qyE hg,rdrF]
 split
 ·exact qBl _ _ _
 ·exact .nil
theorem qBn : ∀ {l : List Int} {x : Int},l.Pairwise (· < ·) -> x ∈ l -> l.countP (· < x) < l.length /\ l.getD (l.countP (· < x)) 0 = x
 | y :: ys, x, hs, h => by
   obtain ⟨h1,h2⟩ := List.pairwise_cons.1 hs
   rcases List.mem_cons.1 h with rfl | h
   ·have : (x :: ys).countP (· < x) = 0 := by
     rw [List.countP_eq_zero]
     intro a ha
     rcases List.mem_cons.1 ha with rfl | ha
     ·simp
     ·have := h1 a ha
      simp; omega
    rw [this]
    exact ⟨by simp,rfl⟩
   ·obtain ⟨h3,h4⟩ := qBn h2 h
    have h5 := h1 x h
    rw [List.countP_cons,if_pos (by simpa using h5)]
    exact ⟨by simp; omega,by simpa using h4⟩
theorem qBo {g : Grid} {r : Route} (hr : ∀ x ∈ r.nodes,0 <= x) (sel : List Int) {n : Int} (hn : 0 <= n) : ∀ (k : Nat) (_ : k <= r.nodes.length) (_ : ∀ i,0 < i -> i < k -> r.nodes.getD i 0 ≠ n),(selN g r sel k).getD n.toNat 0 = sel.getD n.toNat 0
 | 0,_,_ => rfl
 | k + 1, hk, h => by
   rw [selN]
   have ih := qBo (g := g) hr sel hn k (by omega) fun i h1 h2 => h i h1 (by omega)
   split
   ·exact ih
   ·have h1 := h k (by omega) (by omega)
    have h2 := hr _ (qza (l := r.nodes) (k := k) (by omega))
    rw [qzy,if_neg (by omega),ih]
theorem qBp {l : List Int} (h : l.Nodup) {i j : Nat} (hi : i < l.length) (hj : j < l.length) (e : l.getD i 0 = l.getD j 0) : i = j := by
 rw [List.getD_eq_getElem?_getD,List.getD_eq_getElem?_getD,List.getElem?_eq_getElem hi,List.getElem?_eq_getElem hj] at e
 exact (List.getElem_inj h).1 e
theorem qBq {g : Grid} {r : Route} {sel : List Int} (hs : (sel.length : Int) = quD g) (hr : RouteSh g r) (hd : r.nodes.Nodup) {i : Nat} (h0 : 0 < i) : ∀ (k : Nat) (_ : k <= r.nodes.length) (_ : i < k),(selN g r sel k).getD (r.nodes.getD i 0).toNat 0 = qAD g r i
 | k + 1, hk, h => by
   have h1 := hr.rng _ (qza (l := r.nodes) (k := i) (by omega))
   have h2 := hr.rng _ (qza (l := r.nodes) (k := k) (by omega))
   rw [selN,if_neg (by omega),qzy,qAE]
   by_cases e : i = k
   ·subst e
    rw [if_pos (by omega)]
   ·have : r.nodes.getD i 0 ≠ r.nodes.getD k 0 := fun e2 => e (qBp hd (by omega) (by omega) e2)
    rw [if_neg (by omega)]
    exact qBq hs hr hd h0 k (by omega) (by omega)
def qBr (rs : List Route) : List Int := (rs.map fun r => r.nodes.tail).flatten
theorem tail_mem {l : List Int} {x : Int} : x ∈ l.tail ↔ ∃ i,0 < i /\ i < l.length /\ l.getD i 0 = x := by
 cases l with
 | nil => simp
 | cons y l =>
   rw [List.tail_cons]
   constructor
   ·intro h
    obtain ⟨i,hi,e⟩ := qAQ h
    exact ⟨i + 1,by omega,by simp; omega,by simpa using e⟩
   ·rintro ⟨i,h1,h2,h3⟩
    obtain ⟨j,rfl⟩ : ∃ j,i = j + 1 := ⟨i - 1,by omega⟩
    rw [List.getD_cons_succ] at h3
    rw [<- h3]
    exact qza (by simpa using h2)
theorem tailsN_mem {rs : List Route} {x : Int} : x ∈ qBr rs ↔ ∃ r ∈ rs,∃ i,0 < i /\ i < r.nodes.length /\ r.nodes.getD i 0 = x := by
 simp only [qBr,List.mem_flatten,List.mem_map]
 constructor
 ·rintro ⟨_,⟨r,hr,rfl⟩,hx⟩
  exact ⟨r,hr,tail_mem.1 hx⟩
 ·rintro ⟨r,hr,hx⟩
  exact ⟨_,⟨r,hr,rfl⟩,tail_mem.2 hx⟩
theorem flatN_mem {rs : List Route} {x : Int} : x ∈ qAK rs ↔ ∃ r ∈ rs,x ∈ r.nodes := by
 simp only [qAK,List.mem_flatten,List.mem_map]
 constructor
 ·rintro ⟨_,⟨r,hr,rfl⟩,hx⟩
  exact ⟨r,hr,hx⟩
 ·rintro ⟨r,hr,hx⟩
  exact ⟨_,⟨r,hr,rfl⟩,hx⟩
theorem qBs {rs : List Route} {x : Int} (h : x ∈ qBr rs) : x ∈ qAK rs := by
 obtain ⟨r,hr,i,_,hi,rfl⟩ := tailsN_mem.1 h
 exact flatN_mem.2 ⟨r,hr,qza hi⟩
theorem qBt (r : Route) (rs : List Route) : qAK (r :: rs) = r.nodes ++ qAK rs := by simp [qAK]
theorem qBu (r : Route) (rs : List Route) : qBr (r :: rs) = r.nodes.tail ++ qBr rs := by simp [qBr]
theorem qBv {g : Grid} {n : Int} (hn : 0 <= n) : ∀ (rs : List Route) (sel : List Int) (_ : ∀ r ∈ rs,RouteSh g r) (_ : n ∉ qBr rs),(qAM g sel rs).getD n.toNat 0 = sel.getD n.toNat 0
 | [],_,_,_ => rfl
 | r :: rs, sel, hr, h => by
   rw [qBu,List.mem_append] at h
   rw [qAM,qBv hn rs _ (fun x hx => hr x (List.mem_cons_of_mem _ hx)) fun hm => h (.inr hm)]
   exact qBo (fun x hx => ((hr r (List.mem_cons_self ..)).rng x hx).1) sel hn _ (Nat.le_refl _) fun i h1 h2 e => h (.inl (tail_mem.2 ⟨i,h1,h2,e⟩))
theorem qBw {g : Grid} : ∀ (rs : List Route) (sel : List Int) (_ : (sel.length : Int) = quD g) (_ : ∀ r ∈ rs,RouteSh g r) (_ : (qAK rs).Nodup) (r : Route) (_ : r ∈ rs) (i : Nat) (_ : 0 < i) (_ : i < r.nodes.length),(qAM g sel rs).getD (r.nodes.getD i 0).toNat 0 = qAD g r i
 | x :: rs, sel, hs, hr, hd, r, h, i, h0, hi => by
   rw [qBt,List.nodup_append] at hd
   obtain ⟨d1,d2,d3⟩ := hd
   have hr' : ∀ r ∈ rs,RouteSh g r := fun x hx => hr x (List.mem_cons_of_mem _ hx)
   rw [qAM]
   rcases List.mem_cons.1 h with rfl | h
   ·have hm : r.nodes.getD i 0 ∈ r.nodes := qza hi
    have hrg := (hr r (List.mem_cons_self ..)).rng _ hm
    rw [qBv hrg.1 rs _ hr' fun ht => d3 _ hm _ (qBs ht) rfl]
    exact qBq hs (hr r (List.mem_cons_self ..)) d1 h0 _ (Nat.le_refl _) hi
   ·exact qBw rs _ (by rw [qAN]; exact hs) hr' d2 r h i h0 hi
theorem qBx {p : Packed} {g : Grid} {l : Layout} (h : FitsF p g l) {n : Int} (hn : 0 <= n) (ht : n ∉ qBr l.routes) : (encC p g l).sel.getD n.toNat 0 = 0 := by
 show (qAM g _ l.routes).getD _ _ = 0
 rw [qBv hn _ _ h.sh ht,List.getD_eq_getElem?_getD,List.getElem?_replicate]
 split <;> rfl
theorem qBy {p : Packed} {g : Grid} (hg : GOk g) {l : Layout} (h : FitsF p g l) {r : Route} (hr : r ∈ l.routes) {i : Nat} (h0 : 0 < i) (hi : i < r.nodes.length) : (encC p g l).sel.getD (r.nodes.getD i 0).toNat 0 = qAD g r i :=
 qBw _ _ (by have := hg.count; rw [List.length_replicate]; omega) h.sh h.nod r hr i h0 hi
theorem qBz {g : Grid} (hg : GOk g) {r : Route} (h : RouteSh g r) {i : Nat} (h0 : 0 < i) (hi : i < r.nodes.length) : (1 <= qAD g r i /\ qAD g r i <= (qvM g (r.nodes.getD i 0)).length) /\ (qvM g (r.nodes.getD i 0)).getD (qAD g r i - 1).toNat 0 = r.nodes.getD (r.frm.getD i 0).toNat 0 := by
 obtain ⟨h1,h2⟩ := h.drv i h0 hi
 obtain ⟨h3,h4⟩ := qBn (qBm hg _) h2
 unfold qAD
 refine ⟨by omega,?_⟩
 generalize List.countP _ _ = k at *
 rw [show (1 + (k : Int) - 1).toNat = k by omega,h4]
theorem qBA {p : Packed} {g : Grid} (hg : GOk g) {l : Layout} (h : FitsF p g l) : SelsOk g (encC p g l) := by
 refine ⟨(qBg p g l).1,fun i hi h1 => ?_⟩
 by_cases e : (i : Int) ∈ qBr l.routes
 ·obtain ⟨r,hr,k,h0,hk,e⟩ := tailsN_mem.1 e
  have h2 := qBy hg h hr h0 hk
  have h3 := (qBz hg (h.sh r hr) h0 hk).1
  rw [e,Int.toNat_natCast] at h2
  rw [e] at h3
  rw [h2]
  exact h3
 ·have := qBx h (n := i) (by omega) e
  rw [Int.toNat_natCast] at this
  exact absurd this h1
theorem qBO (g : Grid) (s : Spot) (x : Int) : ∀ k,x ∈ qvZ g s k ↔ ∃ i,i < k /\ CanD g (quJ g i) s /\ x = (i : Int)
 | 0 => by simp [qvZ]
 | k + 1 => by
   rw [qvZ,List.mem_append,qBO g s x k]
   constructor
   ·rintro (⟨i,h1,h2,h3⟩ | h)
    ·exact ⟨i,by omega,h2,h3⟩
    ·split at h
     ·rename_i hp
      exact ⟨k,by omega,hp,by simpa using h⟩
     ·simp at h
   ·rintro ⟨i,h1,h2,h3⟩
    by_cases e : i = k
    ·subst e
     rw [if_pos h2]
     exact .inr (by simp [h3])
    ·exact .inl ⟨i,by omega,h2,h3⟩
theorem qBP {g : Grid} {n : Int} (hn : 0 <= n /\ n < quD g) : quK g n = (quJ g n,0) := by rw [quK,if_neg (by omega)]
theorem qBQ {g : Grid} (hg : GOk g) {n : Int} (hn : 0 <= n /\ n < quD g) (x : Int) : x ∈ qvM g n ↔ (0 <= x /\ x < quD g) /\ CanD g (quJ g x) (quJ g n) := by
 have := hg.count
 rw [qyE hg,rdrF,qBP hn,if_pos rfl,qBO]
 constructor
 ·rintro ⟨i,h1,h2,rfl⟩
  exact ⟨by omega,h2⟩
 ·rintro ⟨h1,h2⟩
  exact ⟨x.toNat,by omega,by rw [show ((x.toNat : Nat) : Int) = x by omega]; exact h2,by omega⟩
theorem qBR {g : Grid} (hg : GOk g) {n : Int} (h : n ∈ qzZ g) : qvM g n = [] := by
 obtain ⟨h1,h2⟩ := (qAg hg n).1 h
 cases e : qvM g n with
 | nil => rfl
 | cons y l =>
   have hy : y ∈ qvM g n := by rw [e]; exact List.mem_cons_self ..
   have hc := ((qBQ hg h1 y).1 hy).2
   rcases h2 with h2 | h2 | h2 <;> simp [CanD,Adj,h2] at hc <;> repeat' (split at hc)
   all_goals omega
theorem qBS {l : List Int} {i : Nat} (h : i < l.length) (m : List Int) : (l ++ m).getD i 0 = l.getD i 0 := by
 rw [List.getD_eq_getElem?_getD,List.getElem?_append_left h,List.getD_eq_getElem?_getD]
theorem qBT (l : List Int) (x : Int) : (l ++ [x]).getD l.length 0 = x := by
 rw [List.getD_eq_getElem?_getD,List.getElem?_append_right (Nat.le_refl _)]
 simp
def GrS (g : Grid) (sn : List Int) (a : List Int × List Int) : Prop := a.1.Nodup /\ (∀ x ∈ a.1,x ∉ sn) /\ (a.1 ≠ [] -> a.2.getD 0 0 = -1 /\ qvM g (a.1.getD 0 0) = []) /\
 ∀ i,0 < i -> i < a.1.length -> (0 <= a.2.getD i 0 /\ a.2.getD i 0 < i) /\ a.1.getD (a.2.getD i 0).toNat 0 ∈ qvM g (a.1.getD i 0)
structure GrSh (g : Grid) (sn : List Int) (a : List Int × List Int) : Prop where
 ok : GrOk g a
 s : GrS g sn a
theorem qBU {g : Grid} (hg : GOk g) {sn : List Int} {a : List Int × List Int} {b : Int} (hb : 0 <= b /\ b <= 255) (h : GrSh g sn a) : GrSh g sn (qAj g sn a b) := by
 have hok := (qAm hg (sn := sn) hb h.ok).1
 obtain ⟨⟨h1,h2⟩,h3,h4,h5,h6⟩ := h
 have hse := List.length_pos_iff.2 (qAi hg)
 refine ⟨hok,?_⟩
 clear hok
 unfold GrS qAj
 split
 ·rename_i e
  split
  ·exact ⟨h3,h4,h5,h6⟩
  ·rename_i e2
   have hm : (qzZ g).getD (b % ((qzZ g).length : Int)).toNat 0 ∈ qzZ g := qza (by have := Int.emod_lt_of_pos b (show 0 < ((qzZ g).length : Int) by omega); have := Int.emod_nonneg b (show ((qzZ g).length : Int) ≠ 0 by omega); omega)
   refine ⟨by simp,fun x hx => ?_,fun _ => ⟨rfl,qBR hg hm⟩,fun i h0 hi => by simp at hi; omega⟩
   rw [List.mem_singleton] at hx
   rw [hx]; exact e2
 ·rename_i e
  have hlp := List.length_pos_iff.2 e
  simp only
  have q1 := Int.emod_lt_of_pos (b / 64) (show 0 < (a.1.length : Int) by omega)
  have q2 := Int.emod_nonneg (b / 64) (show (a.1.length : Int) ≠ 0 by omega)
  generalize b / 64 % (a.1.length : Int) = q at *
  have hx := h2 _ (qza (l := a.1) (k := ((a.1.length : Int) - 1 - q).toNat) (by omega))
  generalize hxe : a.1.getD ((a.1.length : Int) - 1 - q).toNat 0 = x at *
  split
  ·exact ⟨h3,h4,h5,h6⟩
  ·rename_i e2
   have hdp := List.length_pos_iff.2 e2
   have hm : (qA3 g x).getD (b % 64 % ((qA3 g x).length : Int)).toNat 0 ∈ qA3 g x := qza (by have := Int.emod_lt_of_pos (b % 64) (show 0 < ((qA3 g x).length : Int) by omega); have := Int.emod_nonneg (b % 64) (show ((qA3 g x).length : Int) ≠ 0 by omega); omega)
   generalize (qA3 g x).getD (b % 64 % ((qA3 g x).length : Int)).toNat 0 = n at *
   have hn := (qAh hg hx n).1 hm
   have hd : x ∈ qvM g n := (qBQ hg hn.1 x).2 ⟨hx,hn.2⟩
   split
   ·rename_i e3
    refine ⟨List.nodup_append.2 ⟨h3,by simp,by intro a ha b hb h; simp at hb; subst hb; subst h; exact e3.2 ha⟩,fun y hy => ?_,fun _ => ?_,fun i h0 hi => ?_⟩
    ·rw [List.mem_append,List.mem_singleton] at hy
     rcases hy with hy | rfl
     ·exact h4 y hy
     ·exact e3.1
    ·simp only
     rw [qBS (by omega),qBS (by omega)]
     exact h5 e
    ·simp only [List.length_append,List.length_singleton] at hi ⊢
     by_cases e4 : i = a.1.length
     ·subst e4
      have := qBT a.2 ((a.1.length : Int) - 1 - q)
      rw [h1] at this
      rw [this,qBT,qBS (by omega),hxe]
      exact ⟨by omega,hd⟩
     ·have := h6 i h0 (by omega)
      rw [qBS (by omega),qBS (show i < a.1.length by omega),qBS (by omega)]
      exact this
   ·exact ⟨h3,h4,h5,h6⟩
theorem qBV {g : Grid} (hg : GOk g) (sn l : List Int) (hb : ∀ x ∈ l,0 <= x /\ x <= 255) : ∀ k,GrSh g sn (qAk g sn l k)
 | 0 => ⟨⟨rfl,by simp [qAk]⟩,.nil,by simp [qAk],fun h => absurd rfl h,fun i h0 hi => by simp [qAk] at hi⟩
 | k + 1 => by
   have hbk : 0 <= l.getD k 0 /\ l.getD k 0 <= 255 := by
    by_cases h : k < l.length
    ·exact hb _ (qza h)
    ·rw [List.getD_eq_getElem?_getD,List.getElem?_eq_none (by omega)]; decide
   exact qBU hg hbk (qBV hg sn l hb k)
theorem qBW {g : Grid} (hg : GOk g) (sn l : List Int) (hb : ∀ x ∈ l,0 <= x /\ x <= 255) (h : (qAl g sn l).nodes ≠ []) (s : Int) : RouteSh g { qAl g sn l with sig := s } := by
 obtain ⟨⟨h1,h2⟩,h3,h4,h5,h6⟩ := qBV hg sn l hb (min l.length 16)
 exact ⟨h,h1,(h5 h).1,h2,(h5 h).2,h6⟩
structure Raw31 where
 g : RawG
 blocks : List (Int × Int × Int)
 routes : List (List Int)
structure Raw31.By (x : Raw31) : Prop where
 g : x.g.By
 bl : (x.blocks.length : Int) <= 9223372036854775807
 blocks : ∀ y ∈ x.blocks,(0 <= y.1 /\ y.1 <= 255) /\ (0 <= y.2.1 /\ y.2.1 <= 255) /\ (0 <= y.2.2 /\ y.2.2 <= 255)
 rl : (x.routes.length : Int) <= 9223372036854775807
 routes : ∀ l ∈ x.routes,(l.length : Int) <= 9223372036854775807 /\ ∀ y ∈ l,0 <= y /\ y <= 255
def qBX (x : RawG) : Grid := { qzk x with pads := 4 }
def rtS1 (g : Grid) (a : List Int × List Route) (k : Nat) (l : List Int) : List Int × List Route :=
 if (qAl g a.1 l).nodes = [] then a else (a.1 ++ (qAl g a.1 l).nodes,a.2 ++ [{ qAl g a.1 l with sig := k }])
def rtN (g : Grid) (xs : List (List Int)) : Nat -> List Int × List Route
 | 0 => ([],[])
 | k + 1 => rtS1 g (rtN g xs k) k (xs.getD k [])
def qBY (x : Raw31) : Packed := ⟨[],(blkF (qBX x.g) x.blocks).1,[],[]⟩
def layM (x : Raw31) : Layout := ⟨(blkF (qBX x.g) x.blocks).2,(rtN (qBX x.g) x.routes (min x.routes.length 5)).2⟩
theorem qBZ (x : RawG) : GOk (qBX x) /\ (qBX x).pads = 4 := by
 obtain ⟨⟨h1,h2,h3,h4,h5⟩,h6⟩ := qzm x
 exact ⟨⟨h1,h2,h3,by show 0 <= (4 : Int) /\ (4 : Int) <= 1000; omega,h5⟩,rfl⟩
structure RtOk (g : Grid) (a : List Int × List Route) (k : Nat) : Prop where
 sh : ∀ r ∈ a.2,RouteSh g r
 nod : (qAK a.2).Nodup
 eq : a.1 = qAK a.2
 len : a.2.length <= k
 rl : ∀ r ∈ a.2,r.nodes.length <= 16
theorem qC0 (rs : List Route) (r : Route) : qAK (rs ++ [r]) = qAK rs ++ r.nodes := by simp [qAK]
theorem qC1 {g : Grid} (hg : GOk g) (xs : List (List Int)) (hb : ∀ l ∈ xs,∀ y ∈ l,0 <= y /\ y <= 255) : ∀ k,RtOk g (rtN g xs k) k
 | 0 => ⟨by simp [rtN],by simp [rtN,qAK],rfl,by simp [rtN],by simp [rtN]⟩
 | k + 1 => by
   obtain ⟨h1,h2,h3,h4,h5⟩ := qC1 hg xs hb k
   have hbl : ∀ y ∈ xs.getD k [],0 <= y /\ y <= 255 := by
    by_cases h : k < xs.length
    ·have hm : xs.getD k [] ∈ xs := by simp [h]
     exact hb _ hm
    ·rw [List.getD_eq_getElem?_getD,List.getElem?_eq_none (by omega)]; simp
   rw [rtN,rtS1]
   split
   ·exact ⟨h1,h2,h3,by omega,h5⟩
   ·rename_i e
    have hs := qBW hg (rtN g xs k).1 _ hbl e k
    have hG := qBV hg (rtN g xs k).1 _ hbl (min (xs.getD k []).length 16)
    have hL := (qAn hg (rtN g xs k).1 _ hbl (min (xs.getD k []).length 16)).2
    refine ⟨fun r hr => ?_,?_,?_,by simp; omega,fun r hr => ?_⟩
    ·rw [List.mem_append,List.mem_singleton] at hr
     rcases hr with hr | rfl
     ·exact h1 r hr
     ·exact hs
    ·rw [qC0,List.nodup_append]
     exact ⟨h2,hG.s.1,fun a ha b hb e => hG.s.2.1 b hb (by rw [h3,<- e]; exact ha)⟩
    ·rw [qC0,h3]
    ·rw [List.mem_append,List.mem_singleton] at hr
     rcases hr with hr | rfl
     ·exact h5 r hr
     ·show (qAk _ _ _ _).1.length <= 16
      omega
theorem qC2 {x : Raw31} (hx : x.By) : FitsF (qBY x) (qBX x.g) (layM x) := by
 obtain ⟨h1,h2,h3,h4⟩ := (qAs (qBX x.g) x.blocks (min x.blocks.length 12)).1
 obtain ⟨q1,q2,q3,q4⟩ := qC1 (qBZ x.g).1 x.routes (fun l hl => (hx.routes l hl).2) (min x.routes.length 5)
 exact ⟨h1,h2,h3,q1,q2⟩
def qC3 (v : List Bool) (i : Nat) : List Bool := [v.getD (i + 2) false,v.getD (i + 3) false,v.getD (i + 4) false,v.getD (i + 5) false]
def drvV (d : Int) (v : List Bool) : Bool := if 0 <= d then v.getD d.toNat false else false
def qC4 (g : Grid) : Nat := (quC g).toNat
def rndF (g : Grid) (c : Cfg) (s : PSt) (pads : List Bool) (v : List Bool) (i : Nat) : Bool :=
 if (quJ g i).kind = 6 then pads.getD (quJ g i).i.toNat false
 else if (quJ g i).kind = 1 then qwV c s (i / qC4 g) (qC3 v i)
 else if (quJ g i).kind = 2 then qwW c s (i / qC4 g)
 else drvV (qzD g c i) v
def depF (g : Grid) (c : Cfg) (i : Nat) : List Nat :=
 if (quJ g i).kind = 1 then
  (if c.mode.getD (i / qC4 g) 0 = 1 \/ c.mode.getD (i / qC4 g) 0 = 2 then [i + 2,i + 3,i + 4,i + 5] else if c.mode.getD (i / qC4 g) 0 = 3 then [i + 2,i + 3,i + 4] else [])
 else if 0 <= qzD g c i then [(qzD g c i).toNat] else []
structure CfgG (g : Grid) (c : Cfg) : Prop where
 ln : qzs g c
 sels : SelsOk g c
 tile : ∀ t,t < g.kind.length -> (0 <= c.mode.getD t 0 /\ c.mode.getD t 0 <= 3) /\ (0 <= c.ram.getD t 0 /\ c.ram.getD t 0 <= 255)
theorem qC5 {g : Grid} {c : Cfg} {t : Nat} (h : qz1 g c t) : (0 <= c.mode.getD t 0 /\ c.mode.getD t 0 <= 3) /\ (0 <= c.ram.getD t 0 /\ c.ram.getD t 0 <= 255) := by
 obtain ⟨h1,_,_,h2⟩ := h
 refine ⟨h1,h2.1,?_⟩
 have := h2.2
 split at this <;> omega
theorem qC6 {g : Grid} (hg : GOk g) {l : List Int} (hb : ∀ x ∈ l,0 <= x /\ x <= 255) : CfgG g (qzr g l) :=
 ⟨qzw g l _,qzC hg l,fun t ht => qC5 (qzT hb _ t ht)⟩
theorem qC7 {p : Packed} {g : Grid} (hg : GOk g) {l : Layout} (h : FitsF p g l) : CfgG g (encC p g l) :=
 ⟨qBg p g l,qBA hg h,fun t _ => qC5 (qBk h t)⟩
theorem qC8 {g : Grid} (hg : GOk g) : ((qC4 g : Nat) : Int) = quC g /\ 8 <= qC4 g := by have := hg.each; unfold qC4; omega
theorem qC9 {g : Grid} (hg : GOk g) (i : Int) : (quJ g i).kind = 1 ↔ i < allI g /\ i % quC g = 0 := by
 have h1 := hg.each
 have h2 := hg.pads
 have h3 : 0 <= i % quC g := Int.emod_nonneg _ (by omega)
 have h4 := hg.tracks
 unfold quJ
 dsimp only
 generalize i % quC g = r at *
 repeat' split
 all_goals simp
 all_goals omega
theorem qCa {g : Grid} (hg : GOk g) (i : Int) : (quJ g i).kind = 2 ↔ i < allI g /\ i % quC g = 1 := by
 have h1 := hg.each
 have h2 := hg.pads
 have h3 : 0 <= i % quC g := Int.emod_nonneg _ (by omega)
 have h4 := hg.tracks
 unfold quJ
 dsimp only
 generalize i % quC g = r at *
 repeat' split
 all_goals simp
 all_goals omega
theorem qCb {g : Grid} (hg : GOk g) (i : Int) : (quJ g i).kind = 6 ↔ allI g <= i /\ i < allI g + g.pads := by
 have h1 := hg.each
 have h2 := hg.pads
 have h4 := hg.tracks
 unfold quJ
 dsimp only
 generalize i % quC g = r at *
 repeat' split
 all_goals simp
 all_goals omega
theorem qCc {g : Grid} {i : Int} (h : allI g <= i /\ i < allI g + g.pads) : (quJ g i).i = i - allI g := by
 unfold quJ
 rw [if_neg (by omega),if_pos h.1]
theorem qCd {g : Grid} (hg : GOk g) {t : Nat} (ht : t < g.kind.length) : t * qC4 g + qC4 g <= (allI g).toNat /\ ((allI g).toNat : Int) = allI g := by
 have h1 := hg.kind
 have h2 := qC8 hg
 have h3 := hg.all
 have h4 : allI g = g.w * g.h * quC g := rfl
 rw [<- h1,<- h2.1] at h4
 have h5 : (t + 1) * qC4 g <= g.kind.length * qC4 g := Nat.mul_le_mul_right _ ht
 have h6 : (allI g).toNat = g.kind.length * qC4 g := by rw [h4,<- Int.natCast_mul,Int.toNat_natCast]
 rw [Nat.add_mul] at h5
 omega
theorem qCe {g : Grid} (hg : GOk g) {i : Nat} (h : (i : Int) < allI g) : i / qC4 g < g.kind.length := by
 have h1 := hg.kind
 have h2 := qC8 hg
 have h4 : allI g = g.w * g.h * quC g := rfl
 rw [<- h1,<- h2.1,<- Int.natCast_mul] at h4
 exact Nat.div_lt_of_lt_mul (by rw [Nat.mul_comm]; omega)
theorem qCf {g : Grid} (hg : GOk g) (i : Nat) : (quJ g i).kind = 1 ↔ (i : Int) < allI g /\ i % qC4 g = 0 := by
 have h2 := qC8 hg
 rw [qC9 hg,<- h2.1]
 omega
theorem qCg {g : Grid} (hg : GOk g) (i : Nat) : (quJ g i).kind = 2 ↔ (i : Int) < allI g /\ i % qC4 g = 1 := by
 have h2 := qC8 hg
 rw [qCa hg,<- h2.1]
 omega
theorem qCh {g : Grid} (hg : GOk g) {n : Int} (h1 : 0 <= n /\ n < quD g) (h2 : SrcK (quJ g n)) : qvM g n = [] := qBR hg ((qAg hg n).2 ⟨h1,h2⟩)
theorem qCi {g : Grid} (hg : GOk g) {c : Cfg} (hc : CfgG g c) {i : Nat} (hi : i < c.sel.length) : qzD g c i < c.sel.length /\ -1 <= qzD g c i := by
 by_cases h : c.sel.getD i 0 = 0
 ·rw [qzD,if_pos (.inl (by rw [Int.toNat_natCast]; exact h))]; omega
 ·obtain ⟨_,h1,h2⟩ := qzE hg hc.sels (n := i) (by omega) (by rw [Int.toNat_natCast]; exact h)
  omega
theorem atN3 (a b c d e : Bool) : atN [a,b,c,d] 3 = atN [a,b,c,e] 3 := by cases a <;> cases b <;> cases c <;> cases d <;> cases e <;> rfl
theorem qCj {g : Grid} (hg : GOk g) {c : Cfg} (hc : CfgG g c) (s : PSt) (pads : List Bool) : Loc (rndF g c s pads) (depF g c) c.sel.length := by
 have hln := hc.ln.1
 have hcn := hg.count
 have hE := qC8 hg
 refine ⟨fun v w i hi h => ?_,fun i hi j hj => ?_⟩
 ·unfold rndF
  unfold depF at h
  split
  ·rfl
  ·split
   ·rename_i h1
    rw [if_pos h1] at h
    unfold qwV qC3
    by_cases e : c.mode.getD (i / qC4 g) 0 = 1 \/ c.mode.getD (i / qC4 g) 0 = 2
    ·rw [if_pos e] at h
     rw [if_pos e,if_pos e,h (i + 2) (by simp),h (i + 3) (by simp),h (i + 4) (by simp),h (i + 5) (by simp)]
    ·rw [if_neg e] at h
     rw [if_neg e,if_neg e]
     by_cases e2 : c.mode.getD (i / qC4 g) 0 = 3
     ·rw [if_pos e2] at h
      rw [if_pos e2,if_pos e2,h (i + 2) (by simp),h (i + 3) (by simp),h (i + 4) (by simp)]
      unfold ramF
      rw [atN3 _ _ _ (v.getD (i + 5) false) (w.getD (i + 5) false)]
     ·rw [if_neg e2,if_neg e2]
   ·rename_i h1
    rw [if_neg h1] at h
    split
    ·rfl
    ·unfold drvV
     by_cases e : 0 <= qzD g c i
     ·rw [if_pos e] at h
      rw [if_pos e,if_pos e,h _ (by simp)]
     ·rw [if_neg e,if_neg e]
 ·unfold depF at hj
  split at hj
  ·rename_i h1
   obtain ⟨q1,q2⟩ := (qCf hg i).1 h1
   have q3 := qCe hg q1
   obtain ⟨q4,q5⟩ := qCd hg q3
   have q6 : i / qC4 g * qC4 g = i := Nat.div_mul_cancel (Nat.dvd_of_mod_eq_zero q2)
   have q7 : quD g = allI g + 2 * g.pads := rfl
   have q8 := hg.pads
   repeat' split at hj
   all_goals simp at hj
   all_goals omega
  ·split at hj
   ·have := qCi hg hc hi
    simp at hj
    omega
   ·simp at hj
theorem qCo {R S : List Bool -> Nat -> Bool} {n p : Nat} (h : ∀ v w i, i < n -> i ≠ p -> (∀ j, j < n -> j ≠ p -> v.getD j false = w.getD j false) -> R v i = S w i) :
  ∀ (k : Nat) (v w : List Bool),(∀ j,j < n -> j ≠ p -> v.getD j false = w.getD j false) -> ∀ j,j < n -> j ≠ p -> (qxk R n k v).getD j false = (qxk S n k w).getD j false
 | 0,_,_,h0,j,hj,hp => h0 j hj hp
 | k + 1, v, w, h0, j, hj, hp => by
   rw [qxk,qxk]
   exact qCo h k _ _ (fun j hj hp => by rw [qxr hj,qxr hj]; exact h v w j hj hp h0) j hj hp
theorem qCp {g : Grid} (hg : GOk g) {c : Cfg} (hc : CfgG g c) (s : PSt) {pads pads' : List Bool} {p : Nat} (hp : allI g <= (p : Int) /\ (p : Int) < allI g + g.pads)
  (hd : ∀ k,k ≠ p - (allI g).toNat -> pads.getD k false = pads'.getD k false) (hu : ∀ i,i < c.sel.length -> qzD g c i ≠ (p : Int)) :
  ∀ v w i,i < c.sel.length -> i ≠ p -> (∀ j,j < c.sel.length -> j ≠ p -> v.getD j false = w.getD j false) -> rndF g c s pads v i = rndF g c s pads' w i := by
 intro v w i hi hip h
 have hL := qCj hg hc s pads
 have hall := hg.all
 have e1 : rndF g c s pads v i = rndF g c s pads w i := hL.loc v w i hi fun j hj => by
  refine h j (hL.rng i hi j hj) fun e => ?_
  subst e
  unfold depF at hj
  split at hj
  ·rename_i h1
   obtain ⟨q1,q2⟩ := (qCf hg i).1 h1
   have q3 := qCe hg q1
   obtain ⟨q4,q5⟩ := qCd hg q3
   have q6 : i / qC4 g * qC4 g = i := Nat.div_mul_cancel (Nat.dvd_of_mod_eq_zero q2)
   have q7 := qC8 hg
   repeat' split at hj
   all_goals simp at hj
   all_goals omega
  ·split at hj
   ·rename_i h2
    simp at hj
    exact hu i hi (by omega)
   ·simp at hj
 rw [e1]
 unfold rndF
 by_cases e : (quJ g i).kind = 6
 ·rw [if_pos e,if_pos e]
  have h6 := (qCb hg i).1 e
  rw [qCc h6]
  exact hd _ (by omega)
 ·rw [if_neg e,if_neg e]
theorem qCq {g : Grid} (hg : GOk g) (c : Cfg) (s : PSt) (pads v : List Bool) {k : Nat} (hk : (k : Int) < g.pads) : rndF g c s pads v ((allI g).toNat + k) = pads.getD k false := by
 have h1 := hg.all
 have h2 : allI g <= (((allI g).toNat + k : Nat) : Int) /\ (((allI g).toNat + k : Nat) : Int) < allI g + g.pads := by omega
 rw [rndF,if_pos ((qCb hg _).2 h2),qCc h2]
 congr 1
 omega
end Go.Proofs.YtdmkfgkmnpohlaaGreat
