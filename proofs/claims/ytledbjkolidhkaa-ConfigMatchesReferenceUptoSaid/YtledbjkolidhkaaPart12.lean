/- T U TxtI V W X Y Z ZA TxtJ: lemmas -/
import Derived.Test.YtledbjkolidhkaaPart11
import Derived.Test.YtledbjkolidhkaaPart06
import Derived.Test.YtledbjkolidhkaaChecked
set_option linter.unusedSimpArgs false
set_option linter.unusedVariables false
open Nat (reduceEqDiff reduceAdd reduceSub reduceMul reduceLT reduceLeDiff)
open Int (reduceToNat reduceNeg)
namespace Go.Proofs.Ytledbjkolidhkaa
open Go Go.Vc Txt
theorem nodup_sub : ∀ {l m : List Int},l.Nodup -> (∀ x ∈ l,x ∈ m) -> l.length <= m.length
 | [],_,_,_ => by simp
 | x :: l, m, hn, h => by
   rw [List.nodup_cons] at hn
   have hx := h x (by simp)
   have := nodup_sub (l := l) (m := m.erase x) hn.2 fun y hy => by
    have hne : y ≠ x := fun e => hn.1 (e ▸ hy)
    exact (List.mem_erase_of_ne hne).2 (h y (by simp [hy]))
   rw [List.length_erase_of_mem hx] at this
   have := List.length_pos_of_mem hx
   simp only [List.length_cons]
   omega
theorem nodup_rng {l : List Int} {n : Nat} (h : l.Nodup) (hr : ∀ x ∈ l,0 <= x /\ x < n) : l.length <= n := by
 have := nodup_sub (m := (List.range n).map Int.ofNat) h fun x hx => by
  obtain ⟨a,b⟩ := hr x hx
  exact List.mem_map.2 ⟨x.toNat,by simp; omega,by simp; omega⟩
 simpa using this
theorem ints_ok (a b : List Int) (ha : (a.length : Int) <= 1000000) (hb : (b.length : Int) <= 1000000) : FnEq Try.prog 25 [.sl false 1 (ints a),.sl false 1 (ints b)] (.bool (decide (a = b))) := by
 refine FnEq.of_awp Try.func25 ok25 (by show 2 <= _; decide) (by simp only [push_cast,reduceIte,reduceEqDiff,reduceAdd,reduceSub,reduceMul,Nat.reduceBEq,reduceLT,reduceLeDiff,reduceCtorEq,reduceToNat,reduceNeg] <;> first | exact fun _ _ => trivial | simp) ?_
 simp only [ac25,rv25,push_cast,reduceIte,reduceEqDiff,reduceAdd,reduceSub,reduceMul,Nat.reduceBEq,reduceLT,reduceLeDiff,reduceCtorEq,reduceToNat,reduceNeg]
 refine cond_dec (fun h => ?_) fun h => ?_
 ·rw [decide_eq_false]; intro e; exact h (by rw [e])
 have hab : a.length = b.length := by omega
 refine loop_of (fun m st => ∃ k : Nat,k <= a.length /\ m = a.length - k /\ a.take k = b.take k /\ st = ⟨[(0,.sl false 1 (ints a)),(1,.sl false 1 (ints b)),(5,.int k)],[],[],[]⟩) a.length ?_ ?_
 ·refine ⟨0,by omega,by omega,by simp,?_⟩
  exact sC
 ·rintro m st ⟨k,hk,rfl,h1,rfl⟩
  refine sB ?_
  refine cond_dec (fun h2 => ?_) fun h2 => ?_
  ·have ka : k < a.length := by omega
   have kb : k < b.length := by omega
   have ga : a.getD k default = a[k] := by simp [ka]
   have gb : b.getD k default = b[k] := by simp [kb]
   rw [ga,gb]
   refine ⟨⟨by omega,by omega⟩,ka,⟨by omega,by omega⟩,kb,cond_dec (fun h3 => ?_) fun h3 => ?_⟩
   ·rw [decide_eq_false]; intro e; subst e; exact h3 rfl
   ·refine ⟨⟨by omega,by omega⟩,_,?_,k + 1,by omega,rfl,?_,?_⟩
    ·omega
    ·rw [List.take_succ_eq_append_getElem ka,List.take_succ_eq_append_getElem kb,h1,Classical.not_not.1 h3]
    ·simp
  ·rw [List.take_of_length_le (by omega),List.take_of_length_le (by omega)] at h1
   rw [decide_eq_true h1]
theorem blank_ok (g : Grid) (hg : GOk g) : FnEq Try.prog 20 [.agg (gridC false g)] (.agg (cfgC true (blankF g))) := by
 have h1 := hg.count
 have h2 := hg.wh
 have h3 := hg.kind
 refine FnEq.of_awp Try.func20 ok20 (by show 1 <= _; decide) (by simp only [push_cast,reduceIte,reduceEqDiff,reduceAdd,reduceSub,reduceMul,Nat.reduceBEq,reduceLT,reduceLeDiff,reduceCtorEq,reduceToNat,reduceNeg] <;> first | exact fun _ _ => trivial | simp) ?_
 simp only [ac20,rv20,push_cast,reduceIte,reduceEqDiff,reduceAdd,reduceSub,reduceMul,Nat.reduceBEq,reduceLT,reduceLeDiff,reduceCtorEq,reduceToNat,reduceNeg]
 refine dcal_sub (ccount_ok g hg) sC rfl ?_
 refine sB ?_
 refine ⟨by omega,by omega,by omega,by omega,?_⟩
 simp only [blankF,push_cast,reduceIte,reduceEqDiff,reduceAdd,reduceSub,reduceMul,Nat.reduceBEq,reduceLT,reduceLeDiff,reduceCtorEq,reduceToNat,reduceNeg]
 exact ⟨fun _ _ => trivial,fun _ _ => trivial⟩
theorem rblank_ok (g : Grid) (hg : GOk g) : FnEq Try.prog 21 [.agg (gridC false g)] (.agg (cfgC true (blankF g))) := by
 have h1 := hg.count
 have h2 := hg.wh
 have h3 := hg.kind
 refine FnEq.of_awp Try.func21 ok21 (by show 1 <= _; decide) (by simp only [push_cast,reduceIte,reduceEqDiff,reduceAdd,reduceSub,reduceMul,Nat.reduceBEq,reduceLT,reduceLeDiff,reduceCtorEq,reduceToNat,reduceNeg] <;> first | exact fun _ _ => trivial | simp) ?_
 simp only [ac21,rv21,push_cast,reduceIte,reduceEqDiff,reduceAdd,reduceSub,reduceMul,Nat.reduceBEq,reduceLT,reduceLeDiff,reduceCtorEq,reduceToNat,reduceNeg]
 refine ⟨by omega,?_⟩
 refine dcal_sub (rcount_ok g hg) sC rfl ?_
 refine sB ?_
 refine ⟨by omega,by omega,by omega,by omega,?_⟩
 rw [show (g.w * g.h).toNat = g.kind.length by omega]
 simp only [blankF,push_cast,reduceIte,reduceEqDiff,reduceAdd,reduceSub,reduceMul,Nat.reduceBEq,reduceLT,reduceLeDiff,reduceCtorEq,reduceToNat,reduceNeg]
 exact ⟨fun _ _ => trivial,fun _ _ => trivial⟩
theorem rdrv_ok (g : Grid) (hg : GOk g) (n : Int) (hn : -1000000000 <= n /\ n <= 1000000000) : FnEq Try.prog 39 [.agg (gridC false g),.int n] (.int (driversF g n).length) := by
 refine FnEq.of_awp Try.func39 ok39 (by show 2 <= _; decide) (by simp only [push_cast,reduceIte,reduceEqDiff,reduceAdd,reduceSub,reduceMul,Nat.reduceBEq,reduceLT,reduceLeDiff,reduceCtorEq,reduceToNat,reduceNeg] <;> first | exact fun _ _ => trivial | simp) ?_
 simp only [ac39,rv39,push_cast,reduceIte,reduceEqDiff,reduceAdd,reduceSub,reduceMul,Nat.reduceBEq,reduceLT,reduceLeDiff,reduceCtorEq,reduceToNat,reduceNeg]
 refine cal_sub (rdrivers_ok g hg n hn) sC ?_
 refine sB ?_
 rw [drivers_eq hg]
def idxF (p : Nat -> Bool) : Nat -> List Int
 | 0 => []
 | k + 1 => idxF p k ++ if p k then [(k : Int)] else []
theorem idxF_len (p : Nat -> Bool) : ∀ k,(idxF p k).length <= k
 | 0 => Nat.le_refl _
 | k + 1 => by have := idxF_len p k; rw [idxF,List.length_append]; split <;> simp <;> omega
def lvN (id : Nat) : List Int -> PV
 | [] => .nil
 | x :: l => .view id 0 (x :: l).length
def laN (id : Nat) : List Int -> List (Nat × Arr)
 | [] => []
 | x :: l => [(id,⟨1,3,ints (x :: l)⟩)]
@[push_cast] theorem lvN_nil (id : Nat) : lvN id [] = .nil := rfl
@[push_cast] theorem lvN_cons (id : Nat) (x : Int) (l : List Int) : lvN id (x :: l) = .view id 0 (l.length + 1) := rfl
@[push_cast] theorem laN_nil (id : Nat) : laN id [] = [] := rfl
@[push_cast] theorem laN_cons (id : Nat) (x : Int) (l : List Int) : laN id (x :: l) = [(id,⟨1,3,ints (x :: l)⟩)] := rfl
def usedF (sel : List Int) : List Int := idxF (fun i => decide (sel.getD i 0 ≠ 0)) sel.length
theorem used_ok (g : Grid) (c : Cfg) (hl : (c.sel.length : Int) <= 1000000) : FnEq Try.prog 26 [.agg (gridC false g),.agg (cfgC false c)] (.sl true 1 (ints (usedF c.sel))) := by
 refine FnEq.of_awp Try.func26 ok26 (by show 2 <= _; decide) (by simp only [push_cast,reduceIte,reduceEqDiff,reduceAdd,reduceSub,reduceMul,Nat.reduceBEq,reduceLT,reduceLeDiff,reduceCtorEq,reduceToNat,reduceNeg] <;> first | exact fun _ _ => trivial | simp) ?_
 simp only [ac26,rv26,push_cast,reduceIte,reduceEqDiff,reduceAdd,reduceSub,reduceMul,Nat.reduceBEq,reduceLT,reduceLeDiff,reduceCtorEq,reduceToNat,reduceNeg]
 refine loop_of (fun m st => ∃ k : Nat,k <= c.sel.length /\ m = c.sel.length - k /\ st = ⟨[(5,lvN 21 (idxF (fun i => decide (c.sel.getD i 0 ≠ 0)) k)),(9,.sl false 1 (ints c.sel)),(10,.int c.sel.length),(11,.int k)],[],laN 21 (idxF (fun i => decide (c.sel.getD i 0 ≠ 0)) k),[]⟩) c.sel.length ?_ ?_
 ·refine ⟨0,by omega,by omega,?_⟩
  simp only [idxF,lvN,laN,push_cast,reduceIte,reduceEqDiff,reduceAdd,reduceSub,reduceMul,Nat.reduceBEq,reduceLT,reduceLeDiff,reduceCtorEq,reduceToNat,reduceNeg]
 rintro m st ⟨k,hk,rfl,rfl⟩
 have hlen := idxF_len (fun i => decide (c.sel.getD i 0 ≠ 0)) k
 have hq : usedF c.sel = idxF (fun i => decide (c.sel.getD i 0 ≠ 0)) c.sel.length := rfl
 generalize hl0 : idxF (fun i => decide (c.sel.getD i 0 ≠ 0)) k = l0 at hlen ⊢
 have hs : idxF (fun i => decide (c.sel.getD i 0 ≠ 0)) (k + 1) = l0 ++ if (fun i => decide (c.sel.getD i 0 ≠ 0)) k = true then [(k : Int)] else [] := by rw [idxF,hl0]
 simp only [decide_eq_true_eq] at hs
 cases l0 with
 | nil =>
   refine sB ?_
   refine cond_dec (fun h => ⟨by omega,by omega,cond_dec (fun h2 => ?_) fun h2 => ?_⟩) fun h => ?_
   ·refine ⟨by simp,?_⟩
    simp only [rows_one,push_cast,reduceIte,reduceEqDiff,reduceAdd,reduceSub,reduceMul,Nat.reduceBEq,reduceLT,reduceLeDiff,reduceCtorEq,reduceToNat,reduceNeg]
    refine ⟨by omega,_,?_,k + 1,by omega,rfl,?_⟩
    ·omega
    ·rw [hs,if_pos (show c.sel.getD k 0 ≠ 0 from h2)]
     simp only [List.nil_append,push_cast,reduceIte,reduceEqDiff,reduceAdd,reduceSub,reduceMul,Nat.reduceBEq,reduceLT,reduceLeDiff,reduceCtorEq,reduceToNat,reduceNeg]
     simp [rows_one]
     rfl
   ·refine ⟨by omega,_,?_,k + 1,by omega,rfl,?_⟩
    ·omega
    ·rw [hs,if_neg (show ¬ c.sel.getD k 0 ≠ 0 from h2)]
     simp only [List.append_nil,push_cast,reduceIte,reduceEqDiff,reduceAdd,reduceSub,reduceMul,Nat.reduceBEq,reduceLT,reduceLeDiff,reduceCtorEq,reduceToNat,reduceNeg]
   ·rw [hq,show c.sel.length = k by omega,hl0]
 | cons x l1 =>
   simp only [List.length_cons] at hlen
   refine sB ?_
   refine cond_dec (fun h => ⟨by omega,by omega,cond_dec (fun h2 => ?_) fun h2 => ?_⟩) fun h => ?_
   ·refine ⟨by simp,⟨by omega,by omega⟩,by omega,_,?_,k + 1,by omega,rfl,?_⟩
    ·omega
    ·rw [hs,if_pos (show c.sel.getD k 0 ≠ 0 from h2)]
     simp only [List.cons_append,List.length_append,List.length_cons,List.length_nil,push_cast,reduceIte,reduceEqDiff,reduceAdd,reduceSub,reduceMul,Nat.reduceBEq,reduceLT,reduceLeDiff,reduceCtorEq,reduceToNat,reduceNeg]
   ·refine ⟨by omega,_,?_,k + 1,by omega,rfl,?_⟩
    ·omega
    ·rw [hs,if_neg (show ¬ c.sel.getD k 0 ≠ 0 from h2)]
     simp only [List.append_nil,push_cast,reduceIte,reduceEqDiff,reduceAdd,reduceSub,reduceMul,Nat.reduceBEq,reduceLT,reduceLeDiff,reduceCtorEq,reduceToNat,reduceNeg]
   ·rw [hq,show c.sel.length = k by omega,hl0,List.take_of_length_le (by simp)]
    exact ⟨fun _ _ => trivial,.refl _⟩
theorem rused_ok (g : Grid) (c : Cfg) (hl : (c.sel.length : Int) <= 1000000) : FnEq Try.prog 27 [.agg (gridC false g),.agg (cfgC false c)] (.sl true 1 (ints (usedF c.sel))) := by
 refine FnEq.of_awp Try.func27 ok27 (by show 2 <= _; decide) (by simp only [push_cast,reduceIte,reduceEqDiff,reduceAdd,reduceSub,reduceMul,Nat.reduceBEq,reduceLT,reduceLeDiff,reduceCtorEq,reduceToNat,reduceNeg] <;> first | exact fun _ _ => trivial | simp) ?_
 simp only [ac27,rv27,push_cast,reduceIte,reduceEqDiff,reduceAdd,reduceSub,reduceMul,Nat.reduceBEq,reduceLT,reduceLeDiff,reduceCtorEq,reduceToNat,reduceNeg]
 refine loop_of (fun m st => ∃ k : Nat,k <= c.sel.length /\ m = c.sel.length - k /\ st = ⟨[(3,.ptr 3 0),(5,.view 7 0 (idxF (fun i => decide (c.sel.getD i 0 ≠ 0)) k).length),(6,.int k)],[(3,cfgC false c)],[(7,⟨1,3,ints (idxF (fun i => decide (c.sel.getD i 0 ≠ 0)) k)⟩)],[]⟩) c.sel.length ?_ ?_
 ·refine ⟨0,by omega,by omega,?_⟩
  simp only [idxF,push_cast,reduceIte,reduceEqDiff,reduceAdd,reduceSub,reduceMul,Nat.reduceBEq,reduceLT,reduceLeDiff,reduceCtorEq,reduceToNat,reduceNeg]
  rfl
 rintro m st ⟨k,hk,rfl,rfl⟩
 have hlen := idxF_len (fun i => decide (c.sel.getD i 0 ≠ 0)) k
 have hq : usedF c.sel = idxF (fun i => decide (c.sel.getD i 0 ≠ 0)) c.sel.length := rfl
 generalize hl0 : idxF (fun i => decide (c.sel.getD i 0 ≠ 0)) k = l0 at hlen ⊢
 have hs : idxF (fun i => decide (c.sel.getD i 0 ≠ 0)) (k + 1) = l0 ++ if (fun i => decide (c.sel.getD i 0 ≠ 0)) k = true then [(k : Int)] else [] := by rw [idxF,hl0]
 simp only [decide_eq_true_eq] at hs
 refine sB ?_
 refine cond_dec (fun h => ⟨by omega,by omega,cond_dec (fun h2 => ?_) fun h2 => ?_⟩) fun h => ?_
 ·refine ⟨by simp,by omega,by omega,_,?_,k + 1,by omega,rfl,?_⟩
  ·omega
  ·rw [hs,if_pos (show c.sel.getD k 0 ≠ 0 from h2)]
   simp
 ·refine ⟨by omega,_,?_,k + 1,by omega,rfl,?_⟩
  ·omega
  ·rw [hs,if_neg (show ¬ c.sel.getD k 0 ≠ 0 from h2)]
   simp
 ·rw [hq,show c.sel.length = k by omega,hl0]
  exact ⟨fun _ _ => trivial,.refl _⟩
def unF (a b : List Int) (i : Nat) : Bool := decide (a.length <= i \/ b.length <= i \/ a.getD i 0 ≠ b.getD i 0)
def unlikeF (a b : List Int) : List Int := idxF (unF a b) (max a.length b.length)
theorem unlike_ok (a b : List Int) (ha : (a.length : Int) <= 1000000) (hb : (b.length : Int) <= 1000000) : FnEq Try.prog 70 [.sl false 1 (ints a),.sl false 1 (ints b)] (.sl true 1 (ints (unlikeF a b))) := by
 obtain ⟨n,hn⟩ : ∃ n,n = max a.length b.length := ⟨_,rfl⟩
 refine FnEq.of_awp Try.func70 ok70 (by show 2 <= _; decide) (by simp only [push_cast,reduceIte,reduceEqDiff,reduceAdd,reduceSub,reduceMul,Nat.reduceBEq,reduceLT,reduceLeDiff,reduceCtorEq,reduceToNat,reduceNeg] <;> first | exact fun _ _ => trivial | simp) ?_
 simp only [ac70,rv70,push_cast,reduceIte,reduceEqDiff,reduceAdd,reduceSub,reduceMul,Nat.reduceBEq,reduceLT,reduceLeDiff,reduceCtorEq,reduceToNat,reduceNeg]
 refine loop_of (fun m st => ∃ k : Nat,k <= n /\ m = n - k /\ st = ⟨[(0,.sl false 1 (ints a)),(1,.sl false 1 (ints b)),(5,lvN 39 (idxF (unF a b) k)),(11,.int n),(12,.int k)],[],laN 39 (idxF (unF a b) k),[]⟩) n ?_ ?_
 ·refine ⟨0,by omega,by omega,?_⟩
  simp only [idxF,push_cast,reduceIte,reduceEqDiff,reduceAdd,reduceSub,reduceMul,Nat.reduceBEq,reduceLT,reduceLeDiff,reduceCtorEq,reduceToNat,reduceNeg]
  rw [show max (a.length : Int) b.length = (n : Int) by omega]
 rintro m st ⟨k,hk,rfl,rfl⟩
 have hlen := idxF_len (unF a b) k
 have hq : unlikeF a b = idxF (unF a b) n := by rw [hn]; rfl
 generalize hl0 : idxF (unF a b) k = l0 at hlen ⊢
 have hs : idxF (unF a b) (k + 1) = l0 ++ if unF a b k = true then [(k : Int)] else [] := by rw [idxF,hl0]
 refine sB ?_
 refine cond_dec (fun h => ?_) fun h => ?_
 ·refine dcut_of ⟨[(0,.sl false 1 (ints a)),(1,.sl false 1 (ints b)),(5,lvN 39 l0),(6,.int k),(11,.int n),(12,.int k),(35,.bool (unF a b k))],[],laN 39 l0,[]⟩ ?_ ?_
  ·have hu : unF a b k = decide (a.length <= k \/ b.length <= k \/ a.getD k default ≠ b.getD k default) := rfl
   refine dgrd_decf rfl (fun h1 => ?_) fun h1 => ?_ <;> refine sB ?_
   ·rw [hu,decide_eq_true (.inl (by omega))]
   ·refine dgrd_decf rfl (fun h2 => ?_) fun h2 => ?_ <;> refine sB ?_
    ·rw [hu,decide_eq_true (.inr (.inl (by omega)))]
    ·refine ⟨by omega,by omega,by omega,by omega,?_⟩
     rw [hu,show decide (a.getD k default ≠ b.getD k default) = decide (a.length <= k \/ b.length <= k \/ a.getD k default ≠ b.getD k default) from by
      rw [decide_eq_decide]
      exact ⟨fun h => .inr (.inr h),fun h => h.elim (fun h => by omega) fun h => h.elim (fun h => by omega) _root_.id⟩]
  generalize hp : unF a b k = p at hs ⊢
  cases l0 with
  | nil =>
    refine sB ?_
    refine cond_of (fun h2 => ?_) fun h2 => ?_
    ·refine ⟨by simp,?_⟩
     simp only [rows_one,push_cast,reduceIte,reduceEqDiff,reduceAdd,reduceSub,reduceMul,Nat.reduceBEq,reduceLT,reduceLeDiff,reduceCtorEq,reduceToNat,reduceNeg]
     refine ⟨by omega,_,?_,k + 1,by omega,rfl,?_⟩
     ·omega
     ·rw [hs,if_pos h2]
      simp only [List.nil_append,push_cast,reduceIte,reduceEqDiff,reduceAdd,reduceSub,reduceMul,Nat.reduceBEq,reduceLT,reduceLeDiff,reduceCtorEq,reduceToNat,reduceNeg]
      simp [rows_one]
      rfl
    ·refine ⟨by omega,_,?_,k + 1,by omega,rfl,?_⟩
     ·omega
     ·rw [hs,if_neg (by rw [h2]; decide)]
      simp only [List.append_nil,push_cast,reduceIte,reduceEqDiff,reduceAdd,reduceSub,reduceMul,Nat.reduceBEq,reduceLT,reduceLeDiff,reduceCtorEq,reduceToNat,reduceNeg]
  | cons x l1 =>
    simp only [List.length_cons] at hlen
    refine sB ?_
    refine cond_of (fun h2 => ?_) fun h2 => ?_
    ·refine ⟨by simp,⟨by omega,by omega⟩,by omega,_,?_,k + 1,by omega,rfl,?_⟩
     ·omega
     ·rw [hs,if_pos h2]
      simp only [List.cons_append,List.length_append,List.length_cons,List.length_nil,push_cast,reduceIte,reduceEqDiff,reduceAdd,reduceSub,reduceMul,Nat.reduceBEq,reduceLT,reduceLeDiff,reduceCtorEq,reduceToNat,reduceNeg]
    ·refine ⟨by omega,_,?_,k + 1,by omega,rfl,?_⟩
     ·omega
     ·rw [hs,if_neg (by rw [h2]; decide)]
      simp only [List.append_nil,push_cast,reduceIte,reduceEqDiff,reduceAdd,reduceSub,reduceMul,Nat.reduceBEq,reduceLT,reduceLeDiff,reduceCtorEq,reduceToNat,reduceNeg]
 ·rw [hq,show n = k by omega,hl0]
  cases l0 with
  | nil => simp only [push_cast,reduceIte,reduceEqDiff,reduceAdd,reduceSub,reduceMul,Nat.reduceBEq,reduceLT,reduceLeDiff,reduceCtorEq,reduceToNat,reduceNeg]
  | cons x l1 =>
    refine sB ?_
    rw [List.take_of_length_le (by simp)]
    exact ⟨fun _ _ => trivial,.refl _⟩
end Go.Proofs.Ytledbjkolidhkaa
namespace Go.Vc
theorem Inv.trim {w0 : World} {Z0 : Zone} {N : Fr} {Z : Zone} {L : Lay} {st : St} {a : Act} {w : World} (h : Inv w0 Z0 N Z L st a w) {id : Nat} {A : Arr} (hA : lk st.a id = some A) (m : Nat) (hm : m <= A.xs.length) (hno : st.noTo nul (fun j => j == id) = true) :
  Inv w0 Z0 N Z { L with al := fun j => if j = id then m else L.al j } { st with a := up st.a id { A with xs := A.xs.take m } } a w := by
 have hl : LSame L { L with al := fun j => if j = id then m else L.al j } nul (fun j => j == id) := ⟨fun _ _ => rfl,fun _ _ => rfl,fun _ _ => rfl,fun _ _ => rfl,fun j hj => by simp only [beq_eq_false_iff_ne] at hj; simp [hj],fun _ _ => rfl⟩
 have hk : Kept Z w w := ⟨fun _ _ _ => rfl⟩
 have hR := Rest.keep (pb := nul) (pa := fun j => j == id) h.rest hk (fun _ _ h => h) (fun _ _ _ _ _ hp => hp) (fun _ _ _ _ => rfl) (Nat.le_refl _) hl (m' := st.m) (fun i M hM => ⟨hM,rfl,by unfold Mp.to; split <;> rfl⟩)
 refine ⟨h.zt,h.z0,h.zn,h.zb,h.below,h.ownb,fun i B hi => ?_,h.injb,fun i j x y hx hy he => ?_,fun i j x y hx hy he => ?_,fun i cs hi => ?_,fun i B hi => ?_,hR.1,hR.2.1,hR.2.2.1,h.oth,h.yb,h.size,h.defers,fun i v hi => ?_⟩
 ·rw [lk_up] at hi
  split at hi
  ·rename_i e; subst e; exact h.owna id A hA
  ·exact h.owna i B hi
 ·rw [lk_up] at hx hy
  have key : ∀ k z,(if id = k then some ({ A with xs := A.xs.take m } : Arr) else lk st.a k) = some z -> ∃ z',lk st.a k = some z' := fun k z hz => by
   split at hz
   ·rename_i e; subst e; exact ⟨A,hA⟩
   ·exact ⟨z,hz⟩
  obtain ⟨x',hx'⟩ := key i x hx
  obtain ⟨y',hy'⟩ := key j y hy
  exact h.inja i j x' y' hx' hy' he
 ·rw [lk_up] at hy
  split at hy
  ·rename_i e; subst e; exact h.injx i id x A hx hA he
  ·exact h.injx i j x y hx hy he
 ·exact (h.boxes i cs hi).keep hk (fun _ _ h => h) rfl hl rfl (St.noTo_box hno hi)
 ·rw [lk_up] at hi
  split at hi
  ·rename_i e
   cases hi
   subst e
   obtain ⟨cur,hX⟩ := h.arrs id A hA
   refine ⟨cur,hX.pos,hX.ae,?_,hX.blk,hX.size,?_,hX.max,fun r hr => hX.rows r (List.mem_of_mem_take hr),fun p q r c hp hq => ?_⟩
   ·simp; omega
   ·exact Nat.le_trans (by simp; omega) hX.fits
   ·rw [List.getElem?_take] at hp
    split at hp
    ·exact hX.cell p q r c hp hq
    ·cases hp
  ·rename_i e
   obtain ⟨c,hX⟩ := h.arrs i B hi
   exact ⟨c,hX.keep hk (fun _ _ h => h) rfl hl (by simpa using Ne.symm e)⟩
 ·exact (h.slots i v hi).keep hk (fun _ _ h => h) hl (St.noTo_slot hno hi)
end Go.Vc
namespace Go.Proofs.Ytledbjkolidhkaa
open Go Go.Vc Txt
end Go.Proofs.Ytledbjkolidhkaa
namespace Go.Vc
theorem FnM.trimA {E : Env} {f : Nat} {args : List PV} {st : St} {Q : PV -> St -> Prop} (id m : Nat) (h : FnM E f args st fun r st' => r = .view id 0 m /\ ∃ A,lk st'.a id = some A /\ m <= A.xs.length /\ st'.noTo nul (fun j => j == id) = true /\ Q r { st' with a := up st'.a id { A with xs := A.xs.take m } }) : FnM E f args st Q :=
 ⟨h.1,fun w0 Z0 X G Z L w vs h1 h2 h3 => (h.2 w0 Z0 X G Z L w vs h1 h2 h3).mono fun _ _ ⟨v,r,st',Z',L',e1,⟨e2,A,e3,e4,e5,e6⟩,e7,e8⟩ => by
  subst e2
  obtain ⟨ad,cap',c1,c2,c3,c4,c5,c6⟩ := e8
  exact ⟨v,_,_,Z',_,e1,e6,e7.trim e3 m e4 e5,ad,cap',c1,c2,c3,by simp,c5,c6⟩⟩
end Go.Vc
namespace Go.Proofs.Ytledbjkolidhkaa
open Go Go.Vc Txt
def ccB (c d : Cfg) : List (Nat × List PV) := [(2,cfgC false c),(3,cfgC false d)]
def lsC (l : List Int) : List PV := [.sl true 1 (ints l)]
@[push_cast] theorem lsC_eq (l : List Int) : lsC l = [.sl true 1 (ints l)] := rfl
def ccA (ls : List (List Int)) : Arr := ⟨1,29,rows lsC ls⟩
theorem grow_ok (c d : Cfg) (ls : List (List Int)) (q : Nat) (n : Nat) (hn : 0 < n) (hl : (n : Int) <= 10000000) : FnM (Env.of Try.prog) 82 [.nil, .int n] ⟨[(0, .ptr 2 0), (1, .ptr 3 0), (500, .view 22 0 q), (503, .int n), (523, .int n)], ccB c d, [(22, ccA ls)], []⟩
  (fun r st' => r = .view 622 0 0 /\ st' = ⟨[(0,.ptr 2 0),(1,.ptr 3 0),(500,.view 22 0 q),(503,.int n),(523,.int n)],ccB c d,[(22,ccA ls),(622,⟨1,3,[]⟩)],[]⟩) := by
 refine FnM.trimA 622 0 ?_
 simp only [ccB,ccA,push_cast,reduceIte,reduceEqDiff,reduceAdd,reduceSub,reduceMul,Nat.reduceBEq,reduceLT,reduceLeDiff,reduceCtorEq,reduceToNat,reduceNeg]
 refine fnM_of 600 Try.func82 ok82_600 (by show 2 <= _; decide) rfl (by show 0 <= 600; decide) ?_
 simp only [ac82_600,rv82_600,push_cast,reduceIte,reduceEqDiff,reduceAdd,reduceSub,reduceMul,Nat.reduceBEq,reduceLT,reduceLeDiff,reduceCtorEq,reduceToNat,reduceNeg]
 refine cond_dec (fun h => by omega) fun _ => ?_
 refine ⟨by omega,by omega,?_⟩
 refine cond_dec (fun _ => ?_) fun h => by omega
 refine ⟨by omega,by omega,by omega,by simp,rfl,_,rfl,rfl,?_⟩
 simp only [List.take_zero,push_cast,reduceIte,reduceEqDiff,reduceAdd,reduceSub,reduceMul,Nat.reduceBEq,reduceLT,reduceLeDiff,reduceCtorEq,reduceToNat,reduceNeg]
theorem grow0_ok (c d : Cfg) (ls : List (List Int)) (q : Nat) : FnM (Env.of Try.prog) 82 [.nil, .int 0] ⟨[(0, .ptr 2 0), (1, .ptr 3 0), (500, .view 22 0 q), (503, .int 0), (523, .int 0)], ccB c d, [(22, ccA ls)], []⟩
  (fun r st' => r = .nil /\ st' = ⟨[(0,.ptr 2 0),(1,.ptr 3 0),(500,.view 22 0 q),(503,.int 0),(523,.int 0)],ccB c d,[(22,ccA ls)],[]⟩) := by
 simp only [ccB,ccA,push_cast,reduceIte,reduceEqDiff,reduceAdd,reduceSub,reduceMul,Nat.reduceBEq,reduceLT,reduceLeDiff,reduceCtorEq,reduceToNat,reduceNeg]
 refine fnM_of 600 Try.func82 ok82_600 (by show 2 <= _; decide) rfl (by show 0 <= 600; decide) ?_
 simp only [ac82_600,rv82_600,push_cast,reduceIte,reduceEqDiff,reduceAdd,reduceSub,reduceMul,Nat.reduceBEq,reduceLT,reduceLeDiff,reduceCtorEq,reduceToNat,reduceNeg]
 refine cond_dec (p := (0 : Int) < 0) (fun h => by omega) fun _ => ?_
 refine ⟨by omega,by omega,?_⟩
 refine cond_dec (fun h => by omega) fun _ => ?_
 trivial
def ccR (ls : List (List Int)) (r : PV) (a : List (Nat × Arr)) : Prop :=
 (r = .nil /\ ls.flatten = [] /\ a = [(22,ccA ls)]) \/ (ls.flatten ≠ [] /\ r = .view 622 0 ls.flatten.length /\ a = [(22,ccA ls),(622,⟨1,3,ints ls.flatten⟩)])
def ccP : List (Nat × PV) := [(0,.ptr 2 0),(1,.ptr 3 0)]
theorem flat_take (ls : List (List Int)) (k : Nat) (hk : k < ls.length) : (ls.take (k + 1)).flatten = (ls.take k).flatten ++ ls.getD k default := by
 rw [List.take_succ_eq_append_getElem hk,List.flatten_append]
 simp [hk]
theorem concat_ok (c d : Cfg) (ls : List (List Int)) (h3 : ls.length <= 3) (hb : ∀ l ∈ ls, (l.length : Int) <= 1000000) : FnM (Env.of Try.prog) 69 [.view 22 0 ls.length] ⟨ccP, ccB c d, [(22, ccA ls)], []⟩
  (fun r st' => ∃ a,st' = ⟨ccP,ccB c d,a,[]⟩ /\ ccR ls r a) := by
 have hbd : ∀ k,k <= ls.length -> ((ls.take k).flatten.length : Int) <= k * 1000000 := by
  intro k
  induction k with
  | zero => intro _; simp
  | succ k ih =>
    intro hk
    have h1 := ih (by omega)
    have h2 := hb (ls.getD k default) (by simp [show k < ls.length by omega])
    rw [flat_take ls k (by omega),List.length_append]
    omega
 simp only [ccP,ccB,ccA,push_cast,reduceIte,reduceEqDiff,reduceAdd,reduceSub,reduceMul,Nat.reduceBEq,reduceLT,reduceLeDiff,reduceCtorEq,reduceToNat,reduceNeg]
 refine fnM_of 500 Try.func69 ok69_500 (by show 1 <= _; decide) rfl (by show 0 <= 500; decide) ?_
 simp only [ac69_500,rv69_500,push_cast,reduceIte,reduceEqDiff,reduceAdd,reduceSub,reduceMul,Nat.reduceBEq,reduceLT,reduceLeDiff,reduceCtorEq,reduceToNat,reduceNeg]
 refine loop_of (fun m st => ∃ k : Nat,k <= ls.length /\ m = ls.length - k /\ st = ⟨ccP ++ [(500,.view 22 0 ls.length),(503,.int ((ls.take k).flatten.length : Nat)),(509,.view 22 0 ls.length),(510,.int ls.length),(511,.int k)],ccB c d,[(22,ccA ls)],[]⟩) ls.length ?_ ?_
 ·refine ⟨0,by omega,by omega,?_⟩
  simp only [ccP,ccB,ccA,List.cons_append,List.nil_append,List.take_zero,List.flatten_nil,List.length_nil,push_cast,reduceIte,reduceEqDiff,reduceAdd,reduceSub,reduceMul,Nat.reduceBEq,reduceLT,reduceLeDiff,reduceCtorEq,reduceToNat,reduceNeg]
 rintro m st ⟨k,hk,rfl,rfl⟩
 have h1 := hbd k hk
 simp only [ccP,ccB,ccA,List.cons_append,List.nil_append,push_cast,reduceIte,reduceEqDiff,reduceAdd,reduceSub,reduceMul,Nat.reduceBEq,reduceLT,reduceLeDiff,reduceCtorEq,reduceToNat,reduceNeg]
 refine cond_dec (fun h => ⟨by omega,by omega,?_⟩) fun h => ?_
 ·have h2 := hb (ls.getD k default) (by simp [show k < ls.length by omega])
  have h5 := flat_take ls k (by omega)
  refine ⟨by omega,?_⟩
  refine cond_dec (fun h => by omega) fun _ => ?_
  refine ⟨by omega,_,?_,k + 1,by omega,rfl,?_⟩
  ·omega
  ·rw [h5,List.length_append]
   simp only [ccP,ccB,ccA,List.cons_append,List.nil_append,push_cast,reduceIte,reduceEqDiff,reduceAdd,reduceSub,reduceMul,Nat.reduceBEq,reduceLT,reduceLeDiff,reduceCtorEq,reduceToNat,reduceNeg]
 ·rw [List.take_of_length_le (by omega)] at h1 ⊢
  by_cases hF : ls.flatten = []
  ·have hall : ∀ k, ls.getD k default = [] := fun k => by
    by_cases hk : k < ls.length
    ·have := List.flatten_eq_nil_iff.1 hF ls[k] (List.getElem_mem hk)
     simp [hk,this]
    ·rw [List.getD_eq_getElem?_getD,List.getElem?_eq_none (by omega)]; rfl
   rw [hF]
   simp only [List.length_nil]
   refine clm_eq (grow0_ok c d ls ls.length) ?_
   simp only [ccB,ccA,push_cast,reduceIte,reduceEqDiff,reduceAdd,reduceSub,reduceMul,Nat.reduceBEq,reduceLT,reduceLeDiff,reduceCtorEq,reduceToNat,reduceNeg]
   refine loop_of (fun m st => ∃ k : Nat,k <= ls.length /\ m = ls.length - k /\ st = ⟨ccP ++ [(506,.nil),(525,.view 22 0 ls.length),(526,.int ls.length),(527,.int k)],ccB c d,[(22,ccA ls)],[]⟩) ls.length ?_ ?_
   ·refine ⟨0,by omega,by omega,?_⟩
    simp only [ccP,ccB,ccA,List.cons_append,List.nil_append,push_cast,reduceIte,reduceEqDiff,reduceAdd,reduceSub,reduceMul,Nat.reduceBEq,reduceLT,reduceLeDiff,reduceCtorEq,reduceToNat,reduceNeg]
   rintro m st ⟨k,hk,rfl,rfl⟩
   simp only [ccP,ccB,ccA,List.cons_append,List.nil_append,push_cast,reduceIte,reduceEqDiff,reduceAdd,reduceSub,reduceMul,Nat.reduceBEq,reduceLT,reduceLeDiff,reduceCtorEq,reduceToNat,reduceNeg]
   refine cond_dec (fun h => ⟨by omega,by omega,?_⟩) fun h => ?_
   ·rw [hall k]
    simp only [show ints [] = [] from rfl,push_cast,reduceIte,reduceEqDiff,reduceAdd,reduceSub,reduceMul,Nat.reduceBEq,reduceLT,reduceLeDiff,reduceCtorEq,reduceToNat,reduceNeg]
    refine ⟨by omega,_,?_,k + 1,by omega,rfl,?_⟩
    ·omega
    ·simp only [ccP,ccB,ccA,List.cons_append,List.nil_append,push_cast,reduceIte,reduceEqDiff,reduceAdd,reduceSub,reduceMul,Nat.reduceBEq,reduceLT,reduceLeDiff,reduceCtorEq,reduceToNat,reduceNeg]
   ·exact ⟨_,rfl,.inl ⟨rfl,hF,rfl⟩⟩
  ·have hpos := List.length_pos_iff.2 hF
   refine clm_eq (grow_ok c d ls ls.length ls.flatten.length hpos (by omega)) ?_
   simp only [ccB,ccA,push_cast,reduceIte,reduceEqDiff,reduceAdd,reduceSub,reduceMul,Nat.reduceBEq,reduceLT,reduceLeDiff,reduceCtorEq,reduceToNat,reduceNeg]
   refine loop_of (fun m st => ∃ k : Nat,k <= ls.length /\ m = ls.length - k /\ st = ⟨ccP ++ [(506,.view 622 0 (ls.take k).flatten.length),(525,.view 22 0 ls.length),(526,.int ls.length),(527,.int k)],ccB c d,[(22,ccA ls),(622,⟨1,3,ints (ls.take k).flatten⟩)],[]⟩) ls.length ?_ ?_
   ·refine ⟨0,by omega,by omega,?_⟩
    simp only [ccP,ccB,ccA,List.cons_append,List.nil_append,List.take_zero,List.flatten_nil,List.length_nil,push_cast,reduceIte,reduceEqDiff,reduceAdd,reduceSub,reduceMul,Nat.reduceBEq,reduceLT,reduceLeDiff,reduceCtorEq,reduceToNat,reduceNeg]
    rfl
   rintro m st ⟨k,hk,rfl,rfl⟩
   have h1 := hbd k hk
   simp only [ccP,ccB,ccA,List.cons_append,List.nil_append,push_cast,reduceIte,reduceEqDiff,reduceAdd,reduceSub,reduceMul,Nat.reduceBEq,reduceLT,reduceLeDiff,reduceCtorEq,reduceToNat,reduceNeg]
   refine cond_dec (fun h => ⟨by omega,by omega,?_⟩) fun h => ?_
   ·have h2 := hb (ls.getD k default) (by simp [show k < ls.length by omega])
    have h5 := flat_take ls k (by omega)
    refine ⟨⟨by omega,by omega⟩,by omega,_,?_,k + 1,by omega,rfl,?_⟩
    ·omega
    ·rw [h5,List.length_append]
     simp only [ccP,ccB,ccA,List.cons_append,List.nil_append,push_cast,reduceIte,reduceEqDiff,reduceAdd,reduceSub,reduceMul,Nat.reduceBEq,reduceLT,reduceLeDiff,reduceCtorEq,reduceToNat,reduceNeg]
   ·rw [List.take_of_length_le (by omega)]
    exact ⟨rfl,_,rfl,.inr ⟨hF,rfl,rfl⟩⟩
def tilesF (c d : Cfg) : List Int := unlikeF c.mode d.mode ++ unlikeF c.tab d.tab ++ unlikeF c.ram d.ram
def differF (c d : Cfg) : List Int × List Int := (unlikeF c.sel d.sel,Go.Lib.compact (sortF (tilesF c d)))
structure CfgSm (c : Cfg) : Prop where
 sel : (c.sel.length : Int) <= 1000000
 mode : (c.mode.length : Int) <= 1000000
 tab : (c.tab.length : Int) <= 1000000
 ram : (c.ram.length : Int) <= 1000000
theorem unlikeF_len (a b : List Int) (ha : (a.length : Int) <= 1000000) (hb : (b.length : Int) <= 1000000) : ((unlikeF a b).length : Int) <= 1000000 := by
 have := idxF_len (unF a b) (max a.length b.length)
 rw [unlikeF]
 omega
set_option maxHeartbeats 2000000 in
theorem differ_ok (c d : Cfg) (hc : CfgSm c) (hd : CfgSm d) : FnEq Try.prog 47 [.agg (cfgC false c),.agg (cfgC false d)] (.tup [.sl true 1 (ints (differF c d).1),.sl true 1 (ints (differF c d).2)]) := by
 have u0 := unlike_ok c.sel d.sel hc.sel hd.sel
 have u1 := unlike_ok c.mode d.mode hc.mode hd.mode
 have u2 := unlike_ok c.tab d.tab hc.tab hd.tab
 have u3 := unlike_ok c.ram d.ram hc.ram hd.ram
 have l1 := unlikeF_len c.mode d.mode hc.mode hd.mode
 have l2 := unlikeF_len c.tab d.tab hc.tab hd.tab
 have l3 := unlikeF_len c.ram d.ram hc.ram hd.ram
 refine FnEq.of_awp Try.func47 ok47 (by show 2 <= _; decide) (by simp only [push_cast,reduceIte,reduceEqDiff,reduceAdd,reduceSub,reduceMul,Nat.reduceBEq,reduceLT,reduceLeDiff,reduceCtorEq,reduceToNat,reduceNeg] <;> first | exact fun _ _ => trivial | simp) ?_
 simp only [ac47,rv47,push_cast,reduceIte,reduceEqDiff,reduceAdd,reduceSub,reduceMul,Nat.reduceBEq,reduceLT,reduceLeDiff,reduceCtorEq,reduceToNat,reduceNeg]
 refine dcal_eq u1 (u := []) rfl ?_
 refine sB ?_
 refine dcal_eq u2 (u := []) rfl ?_
 refine sB ?_
 refine cal_eq u3 ?_
 refine sB ?_
 obtain ⟨ls,hls⟩ : ∃ ls,ls = [unlikeF c.mode d.mode,unlikeF c.tab d.tab,unlikeF c.ram d.ram] := ⟨_,rfl⟩
 have hfl : ls.flatten = tilesF c d := by rw [hls]; simp [tilesF]
 have hln : ((tilesF c d).length : Int) <= 3000000 := by rw [tilesF]; simp only [List.length_append]; omega
 have hcc := concat_ok c d ls (by rw [hls]; exact Nat.le_refl 3) (fun l hl => by rw [hls] at hl; simp at hl; rcases hl with rfl | rfl | rfl <;> assumption)
 have hfr : FnM (Env.of Try.prog) 69 [.view 22 0 3] ⟨[(2, .ptr 2 0), (3, .ptr 3 0), (7, .ptr 2 1), (8, .sl false 1 (ints c.mode)), (9, .ptr 3 1), (10, .sl false 1 (ints d.mode)), (11, .sl true 1 (ints (unlikeF c.mode d.mode))), (12, .ptr 2 2),
   (13,.sl false 1 (ints c.tab)),(14,.ptr 3 2),(15,.sl false 1 (ints d.tab)),(16,.sl true 1 (ints (unlikeF c.tab d.tab))),(17,.ptr 2 3),(18,.sl false 1 (ints c.ram)),(19,.ptr 3 3),(20,.sl false 1 (ints d.ram)),(21,.sl true 1 (ints (unlikeF c.ram d.ram))),(22,.view 22 0 3)],ccB c d,[(22,ccA ls)],[]⟩
   (fun r st' => ∃ a,st' = ⟨[(2,.ptr 2 0),(3,.ptr 3 0)],ccB c d,a,[]⟩ /\ ccR ls r a) := by
  refine FnM.frame ccP [(2,.ptr 2 0),(3,.ptr 3 0)] rfl rfl (by simp only [ccP,push_cast,reduceIte,reduceEqDiff,reduceAdd,reduceSub,reduceMul,Nat.reduceBEq,reduceLT,reduceLeDiff,reduceCtorEq,reduceToNat,reduceNeg]) ?_
  rw [show (3 : Nat) = ls.length by rw [hls]; rfl]
  refine FnM.mono hcc ?_
  rintro r st' ⟨a,rfl,h⟩
  exact ⟨_,_,_,rfl,a,rfl,h⟩
 rw [hls] at hfr
 refine clm_of hfr ?_
 rintro r st' ⟨a,rfl,h⟩
 rw [<- hls] at h
 rcases h with ⟨rfl,h1,rfl⟩ | ⟨h1,rfl,rfl⟩
 ·simp only [ccB,ccA,push_cast,reduceIte,reduceEqDiff,reduceAdd,reduceSub,reduceMul,Nat.reduceBEq,reduceLT,reduceLeDiff,reduceCtorEq,reduceToNat,reduceNeg]
  refine clm_eq sort_nil ?_
  refine sB ?_
  refine cal_eq u0 ?_
  refine sB ?_
  refine clm_eq compact_nil ?_
  simp only [differF,<- hfl,h1,push_cast,reduceIte,reduceEqDiff,reduceAdd,reduceSub,reduceMul,Nat.reduceBEq,reduceLT,reduceLeDiff,reduceCtorEq,reduceToNat,reduceNeg]
  refine ⟨fun _ _ => trivial,?_⟩
  rw [sortF,List.mergeSort_nil]
  rfl
 ·simp only [ccB,ccA,hfl,push_cast,reduceIte,reduceEqDiff,reduceAdd,reduceSub,reduceMul,Nat.reduceBEq,reduceLT,reduceLeDiff,reduceCtorEq,reduceToNat,reduceNeg]
  refine clm_eq (sort_ok (id := 622) (ty := 3) rfl (by omega)) ?_
  refine sB ?_
  refine cal_eq u0 ?_
  refine sB ?_
  have hsl : (sortF (tilesF c d)).length = (tilesF c d).length := by rw [sortF,List.length_mergeSort]
  refine clm_eq (compact_at (id := 622) (ty := 3) hsl.symm rfl (by rw [hsl]; omega)) ?_
  simp only [differF,push_cast,reduceIte,reduceEqDiff,reduceAdd,reduceSub,reduceMul,Nat.reduceBEq,reduceLT,reduceLeDiff,reduceCtorEq,reduceToNat,reduceNeg]
  rw [List.take_left]
  first
   | exact ⟨⟨fun _ _ => trivial,fun _ _ => trivial⟩,.refl _,.refl _⟩
   | exact ⟨⟨fun _ _ => trivial,fun _ _ => trivial⟩,.refl _⟩
end Go.Proofs.Ytledbjkolidhkaa
namespace Go.Proofs.Ytledbjkolidhkaa.Txt
open Go Go.Vc
set_option maxRecDepth 100000
def ac43b_r6 : AC :=
 (.seq (.reg [0,40,0,1,2,3,9,10] [
 (aO 23 (.mv (.t 1))),(aO 24 (.cal 41 [(.t 23),(kI 0),(kI 3)])),(aO 25 (.mv (.t 24))),⟨some 26,some (25,true),.mv (.t 0)⟩,⟨some 27,some (25,true),.mv (.t 1)⟩,⟨some 28,some (25,true),.cal 68 [(.t 26),(.t 27)]⟩,(aO 29 (.pick (.t 25) (.t 28) (.c (.sc (.bool false))))),(aO 30 (.mv (.t 29))),⟨some 31,some (30,true),.mv (.t 2)⟩,⟨some 32,some (30,true),.mv (.t 9)⟩,⟨some 33,some (30,true),.cal 41 [(.t 31),(kI 0),(.t 32)]⟩,(aO 34 (.pick (.t 30) (.t 33) (.c (.sc (.bool false))))),(aO 35 (.mv (.t 34))),⟨some 36,some (35,true),.mv (.t 3)⟩,⟨some 37,some (35,true),.mv (.t 10)⟩,⟨some 38,some (35,true),.cal 41 [(.t 36),(kI 0),(.t 37)]⟩,(aO 39 (.pick (.t 35) (.t 38) (.c (.sc (.bool false))))),(aO 8 (.mv (.t 39)))])
 .ret)
def ac43b : AC :=
 (.seq (.reg [0,40,0,1,2,3] [
 (aO 8 (.mv (.c (.sc (.bool false)))))])
 (.seq (.reg [0,40,0,1,2,3] [
 (aO 9 (.mv (kI 0))),(aO 10 (.mv (kI 0)))])
 (.seq (.seq (.reg [0,40,0,1,2,3,9,10] [
 (aO 11 (.mv (.t 1))),(aO 12 (.cmp .eql .i64 (.t 11) (kI 1))),(aO 13 (.mv (.t 12))),⟨some 14,some (13,false),.mv (.t 1)⟩,⟨some 15,some (13,false),.cmp .eql .i64 (.t 14) (kI 2)⟩,(aO 16 (.pick (.t 13) (.c (.sc (.bool true))) (.t 15)))])
 (.cut [0,40,0,1,2,3,9,10,16] (.cond (.t 16)
 (.reg [0,40,0,1,2,3,10] [
 (aO 9 (.mv (kI 65535)))])
 .skip)))
 (.seq (.seq (.reg [0,40,0,1,2,3,9,10] [
 (aO 17 (.mv (.t 1))),(aO 18 (.cmp .eql .i64 (.t 17) (kI 2))),(aO 19 (.mv (.t 18))),⟨some 20,some (19,false),.mv (.t 1)⟩,⟨some 21,some (19,false),.cmp .eql .i64 (.t 20) (kI 3)⟩,(aO 22 (.pick (.t 19) (.c (.sc (.bool true))) (.t 21)))])
 (.cut [0,40,0,1,2,3,9,10,22] (.cond (.t 22)
 (.reg [0,40,0,1,2,3,9] [
 (aO 10 (.mv (kI 255)))])
 .skip)))
 ac43b_r6))))
def rv43b : List RV := [.tmp 8]
theorem ok43b : fnOk Try.prog ac43b rv43b Try.f43 = true := by kernel_rfl
end Go.Proofs.Ytledbjkolidhkaa.Txt
namespace Go.Proofs.Ytledbjkolidhkaa
open Go Go.Vc Txt
def TileOk (k m t r : Int) : Prop := (0 <= m /\ m <= 3) /\ holdsF k m = true /\ (0 <= t /\ t <= if m = 1 \/ m = 2 then 65535 else 0) /\ (0 <= r /\ r <= if m = 2 \/ m = 3 then 255 else 0)
instance (k m t r : Int) : Decidable (TileOk k m t r) := by unfold TileOk; infer_instance
set_option maxHeartbeats 2000000 in
theorem vtile_ok (k m t r : Int) : FnEq Try.prog 43 [.int k,.int m,.int t,.int r] (.bool (decide (TileOk k m t r))) := by
 have key : ∀ T R : Int,(T = if m = 1 \/ m = 2 then 65535 else 0) -> (R = if m = 2 \/ m = 3 then 255 else 0) -> (TileOk k m t r ↔ (0 <= m /\ m <= 3) /\ holdsF k m = true /\ (0 <= t /\ t <= T) /\ (0 <= r /\ r <= R)) := fun T R hT hR => by rw [TileOk,hT,hR]
 have fin : ∀ T R : Int, (T = if m = 1 \/ m = 2 then 65535 else 0) -> (R = if m = 2 \/ m = 3 then 255 else 0) -> ∀ {st : St}, st.keepS [0, 40, 0, 1, 2, 3, 9, 10] = ⟨[(0, .int k), (1, .int m), (2, .int t), (3, .int r), (9, .int T), (10, .int R)], [], [], []⟩ ->
   awp (Env.of Try.prog) ac43b_r6 (retK rv43b fun x => Sub x (.bool (decide (TileOk k m t r)))) st := by
  intro T R hT hR st hst
  have hk := key T R hT hR
  simp only [ac43b_r6,rv43b,push_cast,reduceIte,reduceEqDiff,reduceAdd,reduceSub,reduceMul,Nat.reduceBEq,reduceLT,reduceLeDiff,reduceCtorEq,reduceToNat,reduceNeg,hst]
  refine cal_eq (within_ok _ _ _) ?_
  refine sB ?_
  refine grd_dec rfl (fun w1 => ?_) fun w1 => ?_ <;> refine sB ?_
  rotate_left
  ·rw [decide_eq_false fun h => w1 (hk.1 h).1]
  refine cal_eq (holds_ok _ _) ?_
  refine sB ?_
  refine grd_b rfl (fun w2 => ?_) fun w2 => ?_ <;> refine sB ?_
  rotate_left
  ·rw [decide_eq_false fun h => by have := (hk.1 h).2.1; rw [w2] at this; cases this]
  refine cal_eq (within_ok _ _ _) ?_
  refine sB ?_
  refine grd_dec rfl (fun w3 => ?_) fun w3 => ?_ <;> refine sB ?_
  rotate_left
  ·rw [decide_eq_false fun h => w3 (hk.1 h).2.2.1]
  refine cal_eq (within_ok _ _ _) ?_
  refine sB ?_
  rw [decide_eq_decide.2 (show (0 <= r /\ r <= R) ↔ TileOk k m t r from ⟨fun h => hk.2 ⟨w1,w2,w3,h⟩,fun h => (hk.1 h).2.2.2⟩)]
 refine FnEq.of_awp Try.func43 ok43b (by show 4 <= _; decide) (by simp only [push_cast,reduceIte,reduceEqDiff,reduceAdd,reduceSub,reduceMul,Nat.reduceBEq,reduceLT,reduceLeDiff,reduceCtorEq,reduceToNat,reduceNeg] <;> first | exact fun _ _ => trivial | simp) ?_
 simp only [ac43b,push_cast,reduceIte,reduceEqDiff,reduceAdd,reduceSub,reduceMul,Nat.reduceBEq,reduceLT,reduceLeDiff,reduceCtorEq,reduceToNat,reduceNeg]
 cases e1 : decide (m = 1) <;> cases e2 : decide (m = 2) <;> cases e3 : decide (m = 3)
 all_goals have h1 := e1
 all_goals have h2 := e2
 all_goals have h3 := e3
 all_goals simp only [decide_eq_true_eq,decide_eq_false_iff_not] at h1 h2 h3
 all_goals first | (exfalso; omega) | skip
 all_goals simp only [e1,e2,e3,push_cast,reduceIte,reduceEqDiff,reduceAdd,reduceSub,reduceMul,Nat.reduceBEq,reduceLT,reduceLeDiff,reduceCtorEq,reduceToNat,reduceNeg]
 ·refine fin 0 0 (by rw [if_neg (by omega)]) (by rw [if_neg (by omega)]) ?_
  exact sC
 ·refine fin 0 255 (by rw [if_neg (by omega)]) (by rw [if_pos (by omega)]) ?_
  exact sC
 ·refine fin 65535 255 (by rw [if_pos (by omega)]) (by rw [if_pos (by omega)]) ?_
  exact sC
 ·refine fin 65535 0 (by rw [if_pos (by omega)]) (by rw [if_neg (by omega)]) ?_
  exact sC
set_option maxHeartbeats 4000000 in
theorem rtile_ok (g : Grid) (c : Cfg) (t : Int) (ht : 0 <= t /\ t < g.kind.length) (h1 : t < c.mode.length) (h2 : t < c.tab.length) (h3 : t < c.ram.length) :
  FnEq Try.prog 44 [.agg (gridC false g),.agg (cfgC false c),.int t] (.bool (decide (TileOk (g.kind.getD t.toNat default) (c.mode.getD t.toNat default) (c.tab.getD t.toNat default) (c.ram.getD t.toNat default)))) := by
 refine FnEq.of_awp Try.func44 ok44 (by show 3 <= _; decide) (by simp only [push_cast,reduceIte,reduceEqDiff,reduceAdd,reduceSub,reduceMul,Nat.reduceBEq,reduceLT,reduceLeDiff,reduceCtorEq,reduceToNat,reduceNeg] <;> first | exact fun _ _ => trivial | simp) ?_
 simp only [ac44,rv44,push_cast,reduceIte,reduceEqDiff,reduceAdd,reduceSub,reduceMul,Nat.reduceBEq,reduceLT,reduceLeDiff,reduceCtorEq,reduceToNat,reduceNeg]
 refine ⟨by omega,by omega,?_⟩
 generalize hm : c.mode.getD t.toNat default = m
 generalize hk : g.kind.getD t.toNat default = k
 generalize ha : c.tab.getD t.toNat default = a
 generalize hr : c.ram.getD t.toNat default = r
 obtain ⟨B,hB⟩ : ∃ B,B = decide (m < 0 \/ 3 < m \/ (k = 0 /\ m ≠ 0) \/ (k = 1 /\ m = 3)) := ⟨_,rfl⟩
 refine cut_of ⟨[(2,.int t),(4,.ptr 4 0),(7,.int m),(44,.bool B)],[(3,gridC false g),(4,cfgC false c)],[],[]⟩ ?_ ?_
 ·repeat' (first
   | (refine grd_dec rfl (fun _ => ?_) fun _ => ?_ <;> simp only [hk,push_cast,reduceIte,reduceEqDiff,reduceAdd,reduceSub,reduceMul,Nat.reduceBEq,reduceLT,reduceLeDiff,reduceCtorEq,reduceToNat,reduceNeg])
   | (refine grd_decf rfl (fun _ => ?_) fun _ => ?_ <;> simp only [hk,push_cast,reduceIte,reduceEqDiff,reduceAdd,reduceSub,reduceMul,Nat.reduceBEq,reduceLT,reduceLeDiff,reduceCtorEq,reduceToNat,reduceNeg])
   | (refine And.intro (by omega) ?_))
  all_goals first
   | (rw [show B = true from by rw [hB]; exact decide_eq_true (by omega)]; done)
   | (rw [show B = false from by rw [hB]; exact decide_eq_false (by omega)]; done)
   | (rw [show B = decide (m = 3) from by rw [hB,decide_eq_decide]; omega]; done)
   | (rw [show B = decide (¬ m = 0) from by rw [hB,decide_eq_decide]; omega]; done)
 refine sB ?_
 refine cond_of (fun e => ?_) fun e => ?_
 ·rw [hB,decide_eq_true_eq] at e
  rw [decide_eq_false fun h => ?_]
  have h1 := h.1
  have h2 := h.2.1
  unfold holdsF at h2
  by_cases k0 : k = 0
  ·rw [if_pos k0] at h2
   simp at h2
   omega
  ·rw [if_neg k0] at h2
   by_cases k1 : k = 1
   ·rw [if_pos k1] at h2
    simp at h2
    omega
   ·omega
 ·rw [hB,decide_eq_false_iff_not] at e
  have hh : holdsF k m = true := by
   unfold holdsF
   split
   ·simp; omega
   ·split
    ·simp; omega
    ·rfl
  obtain ⟨T1,hT1⟩ : ∃ T1,T1 = decide (m = 1 \/ m = 2) := ⟨_,rfl⟩
  obtain ⟨R1,hR1⟩ : ∃ R1,R1 = decide (m = 2 \/ m = 3) := ⟨_,rfl⟩
  refine cut_of ⟨[(2,.int t),(4,.ptr 4 0),(8,.bool T1),(9,.bool R1)],[(3,gridC false g),(4,cfgC false c)],[],[]⟩ ?_ ?_
  ·repeat' (first
    | (refine grd_dec rfl (fun _ => ?_) fun _ => ?_ <;> simp only [push_cast,reduceIte,reduceEqDiff,reduceAdd,reduceSub,reduceMul,Nat.reduceBEq,reduceLT,reduceLeDiff,reduceCtorEq,reduceToNat,reduceNeg])
    | (refine grd_decf rfl (fun _ => ?_) fun _ => ?_ <;> simp only [push_cast,reduceIte,reduceEqDiff,reduceAdd,reduceSub,reduceMul,Nat.reduceBEq,reduceLT,reduceLeDiff,reduceCtorEq,reduceToNat,reduceNeg]))
   all_goals
    first
     | (rw [show T1 = true from by rw [hT1]; exact decide_eq_true (by omega),show R1 = true from by rw [hR1]; exact decide_eq_true (by omega)]; done)
     | (rw [show T1 = true from by rw [hT1]; exact decide_eq_true (by omega),show R1 = false from by rw [hR1]; exact decide_eq_false (by omega)]; done)
     | (rw [show T1 = true from by rw [hT1]; exact decide_eq_true (by omega),show R1 = decide (m = 3) from by rw [hR1,decide_eq_decide]; omega]; done)
     | (rw [show T1 = false from by rw [hT1]; exact decide_eq_false (by omega),show R1 = true from by rw [hR1]; exact decide_eq_true (by omega)]; done)
     | (rw [show T1 = false from by rw [hT1]; exact decide_eq_false (by omega),show R1 = false from by rw [hR1]; exact decide_eq_false (by omega)]; done)
     | (rw [show T1 = false from by rw [hT1]; exact decide_eq_false (by omega),show R1 = decide (m = 3) from by rw [hR1,decide_eq_decide]; omega]; done)
     | (rw [show T1 = decide (m = 2) from by rw [hT1,decide_eq_decide]; omega,show R1 = true from by rw [hR1]; exact decide_eq_true (by omega)]; done)
     | (rw [show T1 = decide (m = 2) from by rw [hT1,decide_eq_decide]; omega,show R1 = false from by rw [hR1]; exact decide_eq_false (by omega)]; done)
     | (rw [show T1 = decide (m = 2) from by rw [hT1,decide_eq_decide]; omega,show R1 = decide (m = 3) from by rw [hR1,decide_eq_decide]; omega]; done)
  have hT : TileOk k m a r ↔ 0 <= a /\ a <= 65535 /\ (T1 = true \/ a = 0) /\ 0 <= r /\ r <= 255 /\ (R1 = true \/ r = 0) := by
   rw [hT1,hR1,decide_eq_true_eq,decide_eq_true_eq,TileOk]
   constructor
   ·rintro ⟨_,_,q1,q2⟩
    split at q1 <;> split at q2 <;> omega
   ·intro q
    refine ⟨by omega,hh,?_,?_⟩
    ·split <;> omega
    ·split <;> omega
  clear hT1 hR1 e hh hB
  cases T1 <;> cases R1 <;> simp only [Bool.false_eq_true,eq_self,false_or,true_or,true_and,and_true] at hT <;> refine sB ?_
  all_goals repeat' (first
   | (refine grd_dec rfl (fun _ => ?_) fun _ => ?_ <;> simp only [ha,hr,push_cast,reduceIte,reduceEqDiff,reduceAdd,reduceSub,reduceMul,Nat.reduceBEq,reduceLT,reduceLeDiff,reduceCtorEq,reduceToNat,reduceNeg])
   | (refine grd_decf rfl (fun _ => ?_) fun _ => ?_ <;> simp only [ha,hr,push_cast,reduceIte,reduceEqDiff,reduceAdd,reduceSub,reduceMul,Nat.reduceBEq,reduceLT,reduceLeDiff,reduceCtorEq,reduceToNat,reduceNeg])
   | (refine And.intro (by omega) ?_))
  all_goals
   first
    | (rw [decide_eq_false fun h => by have := hT.1 h; omega]; done)
    | (rw [decide_eq_true (hT.2 (by omega))]; done)
    | (rw [show decide (TileOk k m a r) = decide (r = 0) from by rw [decide_eq_decide,hT]; omega]; done)
    | (rw [show decide (TileOk k m a r) = decide (r <= 255) from by rw [decide_eq_decide,hT]; omega]; done)
def ValidF (g : Grid) (c : Cfg) : Prop := (c.sel.length = (countF g).toNat /\ c.mode.length = g.kind.length /\ c.tab.length = g.kind.length /\ c.ram.length = g.kind.length) /\
 (∀ i,i < c.sel.length -> c.sel.getD i 0 ≠ 0 -> 1 <= c.sel.getD i 0 /\ c.sel.getD i 0 <= (driversF g i).length) /\ ∀ t,t < g.kind.length -> TileOk (g.kind.getD t 0) (c.mode.getD t 0) (c.tab.getD t 0) (c.ram.getD t 0)
open Classical in
noncomputable def validE (g : Grid) (c : Cfg) : Int := if ValidF g c then 0 else 310
theorem not_dec {p : Prop} [Decidable p] (h : (!decide p) = true) : ¬ p := by simpa using h
theorem not_dec' {p : Prop} [Decidable p] (h : (!decide p) = false) : p := by simpa using h
def LensOk (g : Grid) (c : Cfg) : Prop := c.sel.length = (countF g).toNat /\ c.mode.length = g.kind.length /\ c.tab.length = g.kind.length /\ c.ram.length = g.kind.length
instance (g : Grid) (c : Cfg) : Decidable (LensOk g c) := by unfold LensOk; infer_instance
def SelAt (g : Grid) (c : Cfg) (i : Nat) : Prop := c.sel.getD i 0 ≠ 0 -> 1 <= c.sel.getD i 0 /\ c.sel.getD i 0 <= (driversF g i).length
def TileAt (g : Grid) (c : Cfg) (t : Nat) : Prop := TileOk (g.kind.getD t 0) (c.mode.getD t 0) (c.tab.getD t 0) (c.ram.getD t 0)
instance (g : Grid) (c : Cfg) (i : Nat) : Decidable (SelAt g c i) := by unfold SelAt; infer_instance
instance (g : Grid) (c : Cfg) (t : Nat) : Decidable (TileAt g c t) := by unfold TileAt; infer_instance
theorem validE_yes {g : Grid} {c : Cfg} (h1 : LensOk g c) (h2 : ∀ i,i < c.sel.length -> SelAt g c i) (h3 : ∀ t,t < g.kind.length -> TileAt g c t) : validE g c = 0 := if_pos ⟨h1,h2,h3⟩
theorem validE_len {g : Grid} {c : Cfg} (h : ¬ LensOk g c) : validE g c = 310 := if_neg fun e => h e.1
theorem validE_sel {g : Grid} {c : Cfg} {i : Nat} (hi : i < c.sel.length) (h : ¬ SelAt g c i) : validE g c = 310 := if_neg fun e => h (e.2.1 i hi)
theorem validE_tile {g : Grid} {c : Cfg} {t : Nat} (ht : t < g.kind.length) (h : ¬ TileAt g c t) : validE g c = 310 := if_neg fun e => h (e.2.2 t ht)
set_option maxHeartbeats 4000000 in
theorem valid_ok (g : Grid) (hg : GOk g) (c : Cfg) (hs : CfgSm c) : FnEq Try.prog 18 [.agg (gridC false g),.agg (cfgC false c)] (.int (validE g c)) := by
 have hc := hg.count
 have hk := hg.kind
 have hw := hg.wh
 have s1 := hs.sel
 have s2 := hs.mode
 have s3 := hs.tab
 have s4 := hs.ram
 refine FnEq.of_awp Try.func18 ok18 (by show 2 <= _; decide) (by simp only [push_cast,reduceIte,reduceEqDiff,reduceAdd,reduceSub,reduceMul,Nat.reduceBEq,reduceLT,reduceLeDiff,reduceCtorEq,reduceToNat,reduceNeg] <;> first | exact fun _ _ => trivial | simp) ?_
 simp only [ac18,rv18,push_cast,reduceIte,reduceEqDiff,reduceAdd,reduceSub,reduceMul,Nat.reduceBEq,reduceLT,reduceLeDiff,reduceCtorEq,reduceToNat,reduceNeg]
 refine dcal_sub (ccount_ok g hg) sC rfl ?_
 refine sB ?_
 obtain ⟨B,hB⟩ : ∃ B,B = decide (¬ LensOk g c) := ⟨_,rfl⟩
 refine dcut_of ⟨[(2,.ptr 2 0),(3,.ptr 3 0),(39,.bool B)],[(2,gridC false g),(3,cfgC false c)],[],[]⟩ ?_ ?_
 ·unfold LensOk at hB
  repeat' (first
   | (refine dgrd_decf rfl (fun _ => ?_) fun _ => ?_ <;> simp only [push_cast,reduceIte,reduceEqDiff,reduceAdd,reduceSub,reduceMul,Nat.reduceBEq,reduceLT,reduceLeDiff,reduceCtorEq,reduceToNat,reduceNeg])
   | (refine dgrd_dec rfl (fun _ => ?_) fun _ => ?_ <;> simp only [push_cast,reduceIte,reduceEqDiff,reduceAdd,reduceSub,reduceMul,Nat.reduceBEq,reduceLT,reduceLeDiff,reduceCtorEq,reduceToNat,reduceNeg]))
  all_goals first
   | (rw [show B = true from by rw [hB]; exact decide_eq_true (by omega)]; done)
   | (rw [show B = decide ((c.ram.length : Int) ≠ g.kind.length) from by rw [hB,decide_eq_decide]; omega]; done)
 refine sB ?_
 refine cond_of (fun e => ?_) fun e => ?_
 ·rw [hB,decide_eq_true_eq] at e
  rw [validE_len e]
 rw [hB,decide_eq_false_iff_not,Classical.not_not] at e
 have el := e
 obtain ⟨q1,q2,q3,q4⟩ := e
 refine loop_of (fun m st => ∃ k : Nat,k <= c.sel.length /\ m = c.sel.length - k /\ (∀ i,i < k -> SelAt g c i) /\ st = ⟨[(2,.ptr 2 0),(3,.ptr 3 0),(41,.sl false 1 (ints c.sel)),(42,.int c.sel.length),(43,.int k)],[(2,gridC false g),(3,cfgC false c)],[],[]⟩) c.sel.length ?_ ?_
 ·refine ⟨0,by omega,by omega,fun i hi => by omega,?_⟩
  exact sC
 rintro m st ⟨k,hk,rfl,hP,rfl⟩
 refine sB ?_
 refine cond_dec (fun h => ⟨by omega,by omega,?_⟩) fun h => ?_
 ·have next : SelAt g c k -> ∀ i, i < k + 1 -> SelAt g c i := fun hs i hi => by
   by_cases e : i = k
   ·rw [e]; exact hs
   ·exact hP i (by omega)
  have hdl := driversF_len g hg k
  refine grd_dec rfl (fun h2 => ?_) fun h2 => ?_ <;> refine sB ?_
  ·refine cal_sub (drivers_ok g hg k (by omega)) sC ?_
   refine sB ?_
   refine cal_eq (within_ok _ _ _) ?_
   refine sB ?_
   refine cond_of (fun h3 => ?_) fun h3 => ?_
   ·have h3 : ¬ (1 <= c.sel.getD k 0 /\ c.sel.getD k 0 <= (driversF g k).length) := not_dec h3
    rw [validE_sel (i := k) (by omega) (fun hs => h3 (hs h2))]
   ·have h3 : 1 <= c.sel.getD k 0 /\ c.sel.getD k 0 <= (driversF g k).length := not_dec' h3
    refine ⟨by omega,_,?_,k + 1,by omega,rfl,next (fun _ => h3),?_⟩
    ·omega
    ·exact sC
  ·refine ⟨by omega,_,?_,k + 1,by omega,rfl,next (fun h3 => absurd h3 h2),?_⟩
   ·omega
   ·exact sC
 have hsel : ∀ i,i < c.sel.length -> SelAt g c i := fun i hi => hP i (by omega)
 refine loop_of (fun m st => ∃ k : Nat,k <= g.kind.length /\ m = g.kind.length - k /\ (∀ i,i < k -> TileAt g c i) /\ st = ⟨[(3,.ptr 3 0),(61,.sl false 1 (ints g.kind)),(62,.int g.kind.length),(63,.int k)],[(3,cfgC false c)],[],[]⟩) g.kind.length ?_ ?_
 ·refine ⟨0,by omega,by omega,fun i hi => by omega,?_⟩
  exact sC
 rintro m st ⟨k,hk,rfl,hP,rfl⟩
 refine sB ?_
 refine cond_dec (fun h => ⟨by omega,by omega,?_⟩) fun h => ?_
 ·refine ⟨by omega,by omega,by omega,by omega,by omega,by omega,?_⟩
  refine cal_eq (vtile_ok _ _ _ _) ?_
  refine sB ?_
  refine cond_of (fun h3 => ?_) fun h3 => ?_
  ·have h3 : ¬ TileAt g c k := not_dec h3
   rw [validE_tile (t := k) (by omega) h3]
  ·have h3 : TileAt g c k := not_dec' h3
   refine ⟨by omega,_,?_,k + 1,by omega,rfl,?_,?_⟩
   ·omega
   ·intro i hi
    by_cases e : i = k
    ·rw [e]; exact h3
    ·exact hP i (by omega)
   ·exact sC
 ·rw [validE_yes el hsel fun t ht => hP t (by omega)]
set_option maxHeartbeats 4000000 in
theorem rvalid_ok (g : Grid) (hg : GOk g) (c : Cfg) (hs : CfgSm c) : FnEq Try.prog 19 [.agg (gridC false g),.agg (cfgC false c)] (.int (validE g c)) := by
 have hc := hg.count
 have hk := hg.kind
 have hw := hg.wh
 have s1 := hs.sel
 have s2 := hs.mode
 have s3 := hs.tab
 have s4 := hs.ram
 refine FnEq.of_awp Try.func19 ok19 (by show 2 <= _; decide) (by simp only [push_cast,reduceIte,reduceEqDiff,reduceAdd,reduceSub,reduceMul,Nat.reduceBEq,reduceLT,reduceLeDiff,reduceCtorEq,reduceToNat,reduceNeg] <;> first | exact fun _ _ => trivial | simp) ?_
 simp only [ac19,rv19,push_cast,reduceIte,reduceEqDiff,reduceAdd,reduceSub,reduceMul,Nat.reduceBEq,reduceLT,reduceLeDiff,reduceCtorEq,reduceToNat,reduceNeg]
 refine ⟨by omega,?_⟩
 rw [show g.w * g.h = (g.kind.length : Int) by omega]
 refine dcal_sub (rcount_ok g hg) sC rfl ?_
 refine sB ?_
 obtain ⟨B,hB⟩ : ∃ B,B = decide (¬ LensOk g c) := ⟨_,rfl⟩
 refine dcut_of ⟨[(2,.ptr 2 0),(3,.ptr 3 0),(5,.int g.kind.length),(39,.bool B)],[(2,gridC false g),(3,cfgC false c)],[],[]⟩ ?_ ?_
 ·unfold LensOk at hB
  repeat' (first
   | (refine dgrd_decf rfl (fun _ => ?_) fun _ => ?_ <;> simp only [push_cast,reduceIte,reduceEqDiff,reduceAdd,reduceSub,reduceMul,Nat.reduceBEq,reduceLT,reduceLeDiff,reduceCtorEq,reduceToNat,reduceNeg])
   | (refine dgrd_dec rfl (fun _ => ?_) fun _ => ?_ <;> simp only [push_cast,reduceIte,reduceEqDiff,reduceAdd,reduceSub,reduceMul,Nat.reduceBEq,reduceLT,reduceLeDiff,reduceCtorEq,reduceToNat,reduceNeg]))
  all_goals first
   | (rw [show B = true from by rw [hB]; exact decide_eq_true (by omega)]; done)
   | (rw [show B = decide ((c.ram.length : Int) ≠ g.kind.length) from by rw [hB,decide_eq_decide]; omega]; done)
 refine sB ?_
 refine cond_of (fun e => ?_) fun e => ?_
 ·rw [hB,decide_eq_true_eq] at e
  rw [validE_len e]
 rw [hB,decide_eq_false_iff_not,Classical.not_not] at e
 have el := e
 obtain ⟨q1,q2,q3,q4⟩ := e
 refine loop_of (fun m st => ∃ k : Nat,k <= c.sel.length /\ m = c.sel.length - k /\ (∀ i,i < k -> SelAt g c i) /\ st = ⟨[(2,.ptr 2 0),(3,.ptr 3 0),(5,.int g.kind.length),(6,.int k)],[(2,gridC false g),(3,cfgC false c)],[],[]⟩) c.sel.length ?_ ?_
 ·refine ⟨0,by omega,by omega,fun i hi => by omega,?_⟩
  exact sC
 rintro m st ⟨k,hk,rfl,hP,rfl⟩
 refine sB ?_
 refine cond_dec (fun h => ⟨by omega,by omega,?_⟩) fun h => ?_
 ·have next : SelAt g c k -> ∀ i, i < k + 1 -> SelAt g c i := fun hs i hi => by
   by_cases e : i = k
   ·rw [e]; exact hs
   ·exact hP i (by omega)
  have hdl := driversF_len g hg k
  have hdef : c.sel.getD k default = c.sel.getD k 0 := rfl
  rw [hdef]
  generalize hx : c.sel.getD k 0 = x
  obtain ⟨D,hD⟩ : ∃ D,D = decide (¬ SelAt g c k) := ⟨_,rfl⟩
  have hSA : SelAt g c k ↔ (x ≠ 0 -> 1 <= x /\ x <= (driversF g k).length) := by rw [SelAt,hx]
  refine dcut_of ⟨[(2,.ptr 2 0),(3,.ptr 3 0),(5,.int g.kind.length),(6,.int k),(71,.bool D)],[(2,gridC false g),(3,cfgC false c)],[],[]⟩ ?_ ?_
  ·refine dgrd_dec rfl (fun _ => ?_) fun _ => ?_ <;> simp only [hdef,hx,push_cast,reduceIte,reduceEqDiff,reduceAdd,reduceSub,reduceMul,Nat.reduceBEq,reduceLT,reduceLeDiff,reduceCtorEq,reduceToNat,reduceNeg]
   ·refine ⟨by omega,by omega,?_⟩
    refine dgrd_decf rfl (fun _ => ?_) fun _ => ?_ <;> simp only [hdef,hx,push_cast,reduceIte,reduceEqDiff,reduceAdd,reduceSub,reduceMul,Nat.reduceBEq,reduceLT,reduceLeDiff,reduceCtorEq,reduceToNat,reduceNeg]
    ·rw [show D = true from by rw [hD]; exact decide_eq_true (by rw [hSA]; omega)]
    ·refine ⟨by omega,by omega,?_⟩
     refine dcal_eq (rdrv_ok g hg k (by omega)) (u := []) rfl ?_
     simp only [hdef,hx,push_cast,reduceIte,reduceEqDiff,reduceAdd,reduceSub,reduceMul,Nat.reduceBEq,reduceLT,reduceLeDiff,reduceCtorEq,reduceToNat,reduceNeg]
     rw [show D = decide (((driversF g k).length : Int) < x) from by rw [hD,decide_eq_decide,hSA]; omega]
   ·rw [show D = false from by rw [hD]; exact decide_eq_false (by rw [hSA]; omega)]
  refine sB ?_
  refine cond_of (fun h3 => ?_) fun h3 => ?_
  ·rw [hD,decide_eq_true_eq] at h3
   rw [validE_sel (i := k) (by omega) h3]
  ·rw [hD,decide_eq_false_iff_not,Classical.not_not] at h3
   refine ⟨by omega,_,?_,k + 1,by omega,rfl,next h3,?_⟩
   ·omega
   ·exact sC
 have hsel : ∀ i,i < c.sel.length -> SelAt g c i := fun i hi => hP i (by omega)
 refine loop_of (fun m st => ∃ k : Nat,k <= g.kind.length /\ m = g.kind.length - k /\ (∀ i,i < k -> TileAt g c i) /\ st = ⟨[(2,.ptr 2 0),(3,.ptr 3 0),(5,.int g.kind.length),(7,.int k)],[(2,gridC false g),(3,cfgC false c)],[],[]⟩) g.kind.length ?_ ?_
 ·refine ⟨0,by omega,by omega,fun i hi => by omega,?_⟩
  exact sC
 rintro m st ⟨k,hk,rfl,hP,rfl⟩
 refine sB ?_
 refine cond_dec (fun h => ?_) fun h => ?_
 ·refine cal_sub (rtile_ok g c k (by omega) (by omega) (by omega) (by omega)) sC ?_
  refine sB ?_
  refine cond_of (fun h3 => ?_) fun h3 => ?_
  ·have h3 : ¬ TileAt g c k := not_dec h3
   rw [validE_tile (t := k) (by omega) h3]
  ·have h3 : TileAt g c k := not_dec' h3
   refine ⟨by omega,_,?_,k + 1,by omega,rfl,?_,?_⟩
   ·omega
   ·intro i hi
    by_cases e : i = k
    ·rw [e]; exact h3
    ·exact hP i (by omega)
   ·exact sC
 ·rw [validE_yes el hsel fun t ht => hP t (by omega)]
def sourceS (g : Grid) (c : Cfg) : Nat -> List Int -> Int -> Int × Int
 | 0,_,_ => (0,50)
 | f + 1, sn, n => if n ∈ sn then (0, 50) else if driversF g n = [] then (n, 0) else if c.sel.getD n.toNat 0 = 0 then (0, 4) else
   sourceS g c f (sn ++ [n]) ((driversF g n).getD (c.sel.getD n.toNat 0 - 1).toNat 0)
def sourceF (g : Grid) (c : Cfg) (n : Int) : Int × Int := if 0 <= n /\ n <= (c.sel.length : Int) - 1 then sourceS g c (c.sel.length + 1) [] n else (0,4)
structure SelsOk (g : Grid) (c : Cfg) : Prop where
 len : c.sel.length = (countF g).toNat
 sel : ∀ i,i < c.sel.length -> SelAt g c i
theorem candN_rng (g : Grid) (s : Spot) : ∀ k,∀ x ∈ candN g s k,0 <= x /\ x < k
 | 0,x,h => by simp [candN] at h
 | k + 1, x, h => by
   rw [candN,List.mem_append] at h
   rcases h with h | h
   ·have := candN_rng g s k x h; omega
   ·split at h
    ·simp at h; omega
    ·simp at h
theorem driversF_rng {g : Grid} (hg : GOk g) (n x : Int) (h : x ∈ driversF g n) : 0 <= x /\ x < (countF g).toNat := by
 rw [drivers_eq hg,rdrF] at h
 split at h
 ·exact candN_rng _ _ _ _ h
 ·simp at h
theorem getD_mem {l : List Int} {k : Nat} (h : k < l.length) : l.getD k 0 ∈ l := by simp [h]
set_option maxHeartbeats 2000000 in
theorem source_ok (g : Grid) (hg : GOk g) (c : Cfg) (hc : SelsOk g c) (n : Int) : FnEq Try.prog 46 [.agg (gridC false g),.agg (cfgC false c),.int n] (.tup [.int (sourceF g c n).1,.int (sourceF g c n).2]) := by
 have h1 := hg.count
 have h2 := hc.len
 refine FnEq.of_awp Try.func46 ok46 (by show 3 <= _; decide) (by simp only [push_cast,reduceIte,reduceEqDiff,reduceAdd,reduceSub,reduceMul,Nat.reduceBEq,reduceLT,reduceLeDiff,reduceCtorEq,reduceToNat,reduceNeg] <;> first | exact fun _ _ => trivial | simp) ?_
 simp only [ac46,rv46,push_cast,reduceIte,reduceEqDiff,reduceAdd,reduceSub,reduceMul,Nat.reduceBEq,reduceLT,reduceLeDiff,reduceCtorEq,reduceToNat,reduceNeg]
 refine ⟨by omega,?_⟩
 refine cal_eq (within_ok _ _ _) ?_
 refine sB ?_
 refine cond_of (fun e => ?_) fun e => ?_
 ·have e := not_dec e
  rw [sourceF,if_neg (by omega)]
  exact ⟨rfl,rfl⟩
 have e := not_dec' e
 have hF : sourceF g c n = sourceS g c (c.sel.length + 1) [] n := if_pos (by omega)
 rw [hF]
 clear hF
 refine loop_of (fun m st => ∃ (sn : List Int) (x : Int),m + sn.length = c.sel.length /\ sn.Nodup /\ (∀ y ∈ sn,0 <= y /\ y < c.sel.length) /\ (0 <= x /\ x < c.sel.length) /\
  sourceS g c (c.sel.length + 1) [] n = sourceS g c (m + 1) sn x /\ st = ⟨[(2,.int x),(3,.ptr 3 0),(4,.ptr 4 0),(8,.mp 17)],[(3,gridC false g),(4,cfgC false c)],[],[(17,⟨.int .i64,seenM sn,none⟩)]⟩) c.sel.length ?_ ?_
 ·refine ⟨[],n,by simp,.nil,by simp,by omega,rfl,?_⟩
  simp only [seenM,List.map_nil,push_cast,reduceIte,reduceEqDiff,reduceAdd,reduceSub,reduceMul,Nat.reduceBEq,reduceLT,reduceLeDiff,reduceCtorEq,reduceToNat,reduceNeg]
 rintro m st ⟨sn,x,hm,hnd,hr,hx,hS,rfl⟩
 rw [hS]
 have hmg : mlkT false (.sc (.bool false)) (mget (seenM sn) (.int .i64 x)) = .sc (.bool (decide (x ∈ sn))) := by
  rw [mget_seen]
  by_cases h : x ∈ sn <;> simp [h,mlkT]
 simp only [hmg,push_cast,reduceIte,reduceEqDiff,reduceAdd,reduceSub,reduceMul,Nat.reduceBEq,reduceLT,reduceLeDiff,reduceCtorEq,reduceToNat,reduceNeg]
 refine cond_of (fun e2 => ?_) fun e2 => ?_
 rotate_left
 ·have e2 : x ∈ sn := not_dec' e2
  rw [sourceS,if_pos e2]
  exact ⟨rfl,rfl⟩
 have e2 : x ∉ sn := not_dec e2
 simp only [mput_seen x sn e2,push_cast,reduceIte,reduceEqDiff,reduceAdd,reduceSub,reduceMul,Nat.reduceBEq,reduceLT,reduceLeDiff,reduceCtorEq,reduceToNat,reduceNeg]
 have hnd' : (sn ++ [x]).Nodup := List.nodup_append.2 ⟨hnd,by simp,by intro a ha b hb h; simp at hb; subst hb; subst h; exact e2 ha⟩
 have hr' : ∀ y ∈ sn ++ [x],0 <= y /\ y < c.sel.length := fun y hy => by
  rw [List.mem_append,List.mem_singleton] at hy
  rcases hy with hy | rfl
  ·exact hr y hy
  ·exact hx
 have hln := nodup_rng (n := c.sel.length) hnd' hr'
 rw [List.length_append,List.length_singleton] at hln
 obtain ⟨k,rfl⟩ : ∃ k,m = k + 1 := ⟨m - 1,by omega⟩
 have hdl := driversF_len g hg x
 refine cal_sub (drivers_ok g hg x (by omega)) sC ?_
 refine sB ?_
 refine cond_dec (fun h0 => ?_) fun h0 => ?_
 ·have hd : driversF g x = [] := List.length_eq_zero_iff.1 (by omega)
  rw [sourceS,if_neg e2,if_pos hd]
  exact ⟨rfl,rfl⟩
 have hd : ¬ driversF g x = [] := fun h => h0 (by rw [h]; rfl)
 refine ⟨by omega,by omega,?_⟩
 have e0 : ∀ (l : List Int) (j : Nat),l.getD j default = l.getD j 0 := fun _ _ => rfl
 simp only [e0]
 refine cond_dec (fun h3 => ?_) fun h3 => ?_
 ·rw [sourceS,if_neg e2,if_neg hd,if_pos h3]
  exact ⟨rfl,rfl⟩
 have hsa := hc.sel x.toNat (by omega) h3
 rw [show ((x.toNat : Nat) : Int) = x by omega] at hsa
 have hgm := driversF_rng hg x _ (getD_mem (l := driversF g x) (k := (c.sel.getD x.toNat 0 - 1).toNat) (by omega))
 have hst : sourceS g c (k + 1 + 1) sn x = sourceS g c (k + 1) (sn ++ [x]) ((driversF g x).getD (c.sel.getD x.toNat 0 - 1).toNat 0) := by
  rw [sourceS,if_neg e2,if_neg hd,if_neg h3]
 generalize c.sel.getD x.toNat 0 = s at *
 refine ⟨by omega,by omega,by omega,by omega,by omega,_,?_,sn ++ [x],_,?_,hnd',hr',?_,hst,?_⟩
 ·omega
 ·rw [List.length_append,List.length_singleton]; omega
 ·omega
 ·simp only [e0,push_cast,reduceIte,reduceEqDiff,reduceAdd,reduceSub,reduceMul,Nat.reduceBEq,reduceLT,reduceLeDiff,reduceCtorEq,reduceToNat,reduceNeg]
theorem same_ok (c d : Cfg) (hc : CfgSm c) (hd : CfgSm d) : FnEq Try.prog 15 [.agg (cfgC false c),.agg (cfgC false d)] (.bool (decide (c = d))) := by
 have i0 := ints_ok c.sel d.sel hc.sel hd.sel
 have i1 := ints_ok c.mode d.mode hc.mode hd.mode
 have i2 := ints_ok c.tab d.tab hc.tab hd.tab
 have i3 := ints_ok c.ram d.ram hc.ram hd.ram
 have hE : c = d ↔ c.sel = d.sel /\ c.mode = d.mode /\ c.tab = d.tab /\ c.ram = d.ram := by
  cases c; cases d; simp
 refine FnEq.of_awp Try.func15 ok15 (by show 2 <= _; decide) (by simp only [push_cast,reduceIte,reduceEqDiff,reduceAdd,reduceSub,reduceMul,Nat.reduceBEq,reduceLT,reduceLeDiff,reduceCtorEq,reduceToNat,reduceNeg] <;> first | exact fun _ _ => trivial | simp) ?_
 simp only [ac15,rv15,push_cast,reduceIte,reduceEqDiff,reduceAdd,reduceSub,reduceMul,Nat.reduceBEq,reduceLT,reduceLeDiff,reduceCtorEq,reduceToNat,reduceNeg]
 refine cal_eq i0 ?_
 refine sB ?_
 refine grd_dec rfl (fun e1 => ?_) fun e1 => ?_ <;> refine sB ?_
 ·refine cal_eq i1 ?_
  refine sB ?_
  refine grd_dec rfl (fun e2 => ?_) fun e2 => ?_ <;> refine sB ?_
  ·refine cal_eq i2 ?_
   refine sB ?_
   refine grd_dec rfl (fun e3 => ?_) fun e3 => ?_ <;> refine sB ?_
   ·refine cal_eq i3 ?_
    refine sB ?_
    simp_all
   ·simp_all
  ·simp_all
 ·simp_all
def desC (q : Bool) (g : Grid) (p : Packed) (l : Layout) : List PV := gridC q g ++ packC q p ++ layC q l
@[push_cast] theorem desC_eq (q : Bool) (g : Grid) (p : Packed) (l : Layout) : desC q g p l = gridC q g ++ packC q p ++ layC q l := rfl
theorem encoded_ok (p : Packed) (g : Grid) (hg : GOk g) (l : Layout) (hl : (l.pos.length : Int) <= 1000000) (hl2 : (l.routes.length : Int) <= 1000000) (hl3 : ∀ r ∈ l.routes, (r.nodes.length : Int) <= 1000000) :
  FnEq Try.prog 13 [.agg (desC false g p l)] (.agg (cfgC true (encF p g l).1 ++ [.int (encF p g l).2])) := by
 have h := encode_ok p g hg l hl hl2 hl3
 rw [encV] at h
 generalize encF p g l = r at h ⊢
 refine FnEq.of_awp Try.func13 ok13 (by show 1 <= _; decide) (by simp only [push_cast,reduceIte,reduceEqDiff,reduceAdd,reduceSub,reduceMul,Nat.reduceBEq,reduceLT,reduceLeDiff,reduceCtorEq,reduceToNat,reduceNeg] <;> first | exact fun _ _ => trivial | simp) ?_
 simp only [ac13,rv13,push_cast,reduceIte,reduceEqDiff,reduceAdd,reduceSub,reduceMul,Nat.reduceBEq,reduceLT,reduceLeDiff,reduceCtorEq,reduceToNat,reduceNeg]
 refine cal_sub h sC ?_
 refine sB ?_
 exact ⟨fun _ _ => trivial,fun _ _ => trivial,fun _ _ => trivial,fun _ _ => trivial⟩
theorem lsource_ok (g : Grid) (hg : GOk g) (c : Cfg) (hc : SelsOk g c) (n : Int) : FnEq Try.prog 23 [.agg (gridC false g),.agg (cfgC false c),.int n] (.agg [.int (sourceF g c n).1,.int (sourceF g c n).2]) := by
 have h := source_ok g hg c hc n
 refine FnEq.of_awp Try.func23 ok23 (by show 3 <= _; decide) (by simp only [push_cast,reduceIte,reduceEqDiff,reduceAdd,reduceSub,reduceMul,Nat.reduceBEq,reduceLT,reduceLeDiff,reduceCtorEq,reduceToNat,reduceNeg] <;> first | exact fun _ _ => trivial | simp) ?_
 simp only [ac23,rv23,push_cast,reduceIte,reduceEqDiff,reduceAdd,reduceSub,reduceMul,Nat.reduceBEq,reduceLT,reduceLeDiff,reduceCtorEq,reduceToNat,reduceNeg]
 refine cal_sub h sC ?_
 exact sC
theorem ldiffer_ok (c d : Cfg) (hc : CfgSm c) (hd : CfgSm d) : FnEq Try.prog 28 [.agg (cfgC false c),.agg (cfgC false d)] (.agg [.sl true 1 (ints (differF c d).1),.sl true 1 (ints (differF c d).2)]) := by
 have h := differ_ok c d hc hd
 refine FnEq.of_awp Try.func28 ok28 (by show 2 <= _; decide) (by simp only [push_cast,reduceIte,reduceEqDiff,reduceAdd,reduceSub,reduceMul,Nat.reduceBEq,reduceLT,reduceLeDiff,reduceCtorEq,reduceToNat,reduceNeg] <;> first | exact fun _ _ => trivial | simp) ?_
 simp only [ac28,rv28,push_cast,reduceIte,reduceEqDiff,reduceAdd,reduceSub,reduceMul,Nat.reduceBEq,reduceLT,reduceLeDiff,reduceCtorEq,reduceToNat,reduceNeg]
 refine cal_sub h sC ?_
 refine sB ?_
 exact ⟨fun _ _ => trivial,fun _ _ => trivial⟩
theorem two_ok : FnEq Try.prog 33 [] (.agg (gridC true ⟨2,1,1,1,[1,2]⟩)) := by
 refine FnEq.of_awp Try.func33 ok33 (by show 0 <= _; decide) (by simp only [push_cast,reduceIte,reduceEqDiff,reduceAdd,reduceSub,reduceMul,Nat.reduceBEq,reduceLT,reduceLeDiff,reduceCtorEq,reduceToNat,reduceNeg] <;> first | exact fun _ _ => trivial | simp) ?_
 simp only [ac33,rv33,push_cast,reduceIte,reduceEqDiff,reduceAdd,reduceSub,reduceMul,Nat.reduceBEq,reduceLT,reduceLeDiff,reduceCtorEq,reduceToNat,reduceNeg]
 exact ⟨⟨by decide,by decide⟩,fun _ _ => trivial,.refl _⟩
def gT : Grid := ⟨2,1,1,1,[1,2]⟩
def pT : Packed := ⟨[],[],[],[]⟩
def rT : Route := ⟨0,[0,6,10],[-1,0,1]⟩
def lT : Layout := ⟨[],[rT]⟩
def cT : Cfg := ⟨[0,0,0,0,0,0,1,0,0,0,1,0,0,0,0,0,0,0],[0,0],[0,0],[0,0]⟩
def kT : Cfg := ⟨[0,0,0,0,0,0,6,0,0,0,1,0,0,0,1,0,0,0],[0,0],[0,0],[0,0]⟩
theorem gT_ok : GOk gT := ⟨by decide,by decide,by decide,by decide,by decide⟩
theorem dT0 : driversF gT 0 = [] := by rw [drivers_eq gT_ok]; decide +kernel
theorem dT6 : driversF gT 6 = [0,1,7,8,9,14,15,16] := by rw [drivers_eq gT_ok]; decide +kernel
theorem dT10 : driversF gT 10 = [6,14,15] := by rw [drivers_eq gT_ok]; decide +kernel
theorem dT11 : driversF gT 11 = [6,14,15] := by rw [drivers_eq gT_ok]; decide +kernel
theorem dT14 : driversF gT 14 = [6,8,9,15] := by rw [drivers_eq gT_ok]; decide +kernel
theorem blT : blankF gT = ⟨List.replicate 18 0,[0,0],[0,0],[0,0]⟩ := by decide +kernel
theorem encT : encF pT gT lT = (cT,0) := by
 have h : routeF gT (List.replicate 18 0,[]) rT = some (cT.sel,[0,6,10]) := by
  have r3 : List.range rT.nodes.length = [0,1,2] := by decide
  rw [routeF,if_pos (by decide),r3]
  simp only [foldO,stepF]
  rw [show stepN gT (List.replicate 18 0,[]) 0 (rT.nodes.getD 0 0) (rT.frm.getD 0 0) (rT.nodes.getD (rT.frm.getD 0 0).toNat 0) = some (List.replicate 18 0,[0]) by
   rw [stepN,show rT.nodes.getD 0 0 = 0 from rfl,dT0]; decide]
  simp only [Option.bind_some]
  rw [show stepN gT (List.replicate 18 0,[0]) 1 (rT.nodes.getD 1 0) (rT.frm.getD 1 0) (rT.nodes.getD (rT.frm.getD 1 0).toNat 0) = some ((List.replicate 18 0).set 6 1,[0,6]) by
   rw [stepN,show rT.nodes.getD 1 0 = 6 from rfl,dT6]; decide]
  simp only [Option.bind_some]
  rw [show stepN gT ((List.replicate 18 0).set 6 1,[0,6]) 2 (rT.nodes.getD 2 0) (rT.frm.getD 2 0) (rT.nodes.getD (rT.frm.getD 2 0).toNat 0) = some (cT.sel,[0,6,10]) by
   rw [stepN,show rT.nodes.getD 2 0 = 10 from rfl,dT10]; decide]
  rfl
 have h2 : encO pT gT lT = some cT := by
  rw [encO,if_pos (by decide),blT]
  show ((foldO (routeF gT) (List.replicate 18 0,[]) [rT]).map _) = _
  simp only [foldO]
  rw [h]
  rfl
 rw [encF,h2]
theorem valT {c : Cfg} (h0 : LensOk gT c) (h1 : ∀ i,i < c.sel.length -> c.sel.getD i 0 ≠ 0 -> (i = 6 /\ c.sel.getD 6 0 <= 8) \/ (i = 10 /\ c.sel.getD 10 0 <= 3) \/ (i = 14 /\ c.sel.getD 14 0 <= 4)) (h3 : ∀ i,i < c.sel.length -> 0 <= c.sel.getD i 0) (h2 : ∀ t,t < gT.kind.length -> TileAt gT c t) : validE gT c = 0 /\ SelsOk gT c := by
 have hs : ∀ i,i < c.sel.length -> SelAt gT c i := fun i hi h => by
  have h4 := h3 i hi
  rcases h1 i hi h with ⟨rfl,h5⟩ | ⟨rfl,h5⟩ | ⟨rfl,h5⟩
  ·rw [show ((6 : Nat) : Int) = 6 from rfl,dT6]; exact ⟨by omega,h5⟩
  ·rw [show ((10 : Nat) : Int) = 10 from rfl,dT10]; exact ⟨by omega,h5⟩
  ·rw [show ((14 : Nat) : Int) = 14 from rfl,dT14]; exact ⟨by omega,h5⟩
 exact ⟨validE_yes h0 hs h2,h0.1,hs⟩
theorem vcT : validE gT cT = 0 /\ SelsOk gT cT := valT (by decide +kernel) (by decide) (by decide) (by decide)
theorem vkT : validE gT kT = 0 /\ SelsOk gT kT := valT (by decide +kernel) (by decide) (by decide) (by decide)
theorem v0T : validE gT cfg0 = 310 := validE_len (by decide +kernel)
theorem sT10 : sourceF gT cT 10 = (0,0) := by
 rw [sourceF,if_pos (by decide)]
 show sourceS gT cT (16 + 1 + 1 + 1) [] 10 = _
 rw [sourceS,dT10,if_neg (by decide),if_neg (by decide),if_neg (by decide)]
 show sourceS gT cT (16 + 1 + 1) [10] 6 = _
 rw [sourceS,dT6,if_neg (by decide),if_neg (by decide),if_neg (by decide)]
 show sourceS gT cT (16 + 1) [10,6] 0 = _
 rw [sourceS,dT0,if_neg (by decide),if_pos rfl]
theorem sT11 : sourceF gT cT 11 = (0,4) := by
 rw [sourceF,if_pos (by decide)]
 show sourceS gT cT (18 + 1) [] 11 = _
 rw [sourceS,dT11,if_neg (by decide),if_neg (by decide),if_pos (by decide)]
theorem sK10 : sourceF gT kT 10 = (0,50) := by
 rw [sourceF,if_pos (by decide)]
 show sourceS gT kT (15 + 1 + 1 + 1 + 1) [] 10 = _
 rw [sourceS,dT10,if_neg (by decide),if_neg (by decide),if_neg (by decide)]
 show sourceS gT kT (15 + 1 + 1 + 1) [10] 6 = _
 rw [sourceS,dT6,if_neg (by decide),if_neg (by decide),if_neg (by decide)]
 show sourceS gT kT (15 + 1 + 1) [10,6] 14 = _
 rw [sourceS,dT14,if_neg (by decide),if_neg (by decide),if_neg (by decide)]
 show sourceS gT kT (15 + 1) [10,6,14] 6 = _
 rw [sourceS,if_pos (by decide)]
theorem dfT : differF kT cT = ([6,14],[]) := by
 rw [differF,show tilesF kT cT = [] by decide]
 have : unlikeF kT.sel cT.sel = [6,14] := by decide
 rw [this,show sortF [] = [] from List.mergeSort_nil]; rfl
set_option maxRecDepth 20000 in
set_option maxHeartbeats 4000000 in
theorem examples_ok : FnEq Try.prog 9 [] (.bool true) := by
 have hE := encoded_ok pT gT gT_ok lT (by decide) (by decide) (by decide)
 rw [encT] at hE
 have sm : CfgSm cT := ⟨by decide,by decide,by decide,by decide⟩
 have smk : CfgSm kT := ⟨by decide,by decide,by decide,by decide⟩
 have hV := rvalid_ok gT gT_ok cT sm
 have hV2 := valid_ok gT gT_ok cT sm
 have hV3 : FnEq Try.prog 18 [.agg (gridC false gT),.agg [.sl false 1 (ints kT.sel),.sl false 1 (ints cT.mode),.sl false 1 (ints cT.tab),.sl false 1 (ints cT.ram)]] (.int (validE gT kT)) := valid_ok gT gT_ok kT smk
 have hV4 : FnEq Try.prog 18 [.agg (gridC false gT),.agg [.sl false 1 [],.sl false 1 [],.sl false 1 [],.sl false 1 []]] (.int (validE gT cfg0)) := valid_ok gT gT_ok cfg0 ⟨by decide,by decide,by decide,by decide⟩
 have hU := used_ok gT cT sm.sel
 have hI := ints_ok (usedF cT.sel) [6,10] (by decide) (by decide)
 have hI2 := ints_ok [6,14] [6,14] (by decide) (by decide)
 have h10 := lsource_ok gT gT_ok cT vcT.2 10
 have h11 := lsource_ok gT gT_ok cT vcT.2 11
 have hk : FnEq Try.prog 23 [.agg (gridC false gT),.agg [.sl false 1 (ints kT.sel),.sl false 1 (ints cT.mode),.sl false 1 (ints cT.tab),.sl false 1 (ints cT.ram)],.int 10] (.agg [.int (sourceF gT kT 10).1,.int (sourceF gT kT 10).2]) := lsource_ok gT gT_ok kT vkT.2 10
 have hd : FnEq Try.prog 28 [.agg [.sl false 1 (ints kT.sel),.sl false 1 (ints cT.mode),.sl false 1 (ints cT.tab),.sl false 1 (ints cT.ram)],.agg (cfgC false cT)] (.agg [.sl true 1 (ints (differF kT cT).1),.sl true 1 (ints (differF kT cT).2)]) := ldiffer_ok kT cT smk sm
 have hB := blank_ok gT gT_ok
 have hRB := rblank_ok gT gT_ok
 have hS := same_ok (blankF gT) (blankF gT) (by rw [blT]; exact ⟨by decide,by decide,by decide,by decide⟩) (by rw [blT]; exact ⟨by decide,by decide,by decide,by decide⟩)
 rw [vcT.1] at hV hV2
 rw [vkT.1] at hV3
 rw [v0T] at hV4
 rw [sT10] at h10
 rw [sT11] at h11
 rw [sK10] at hk
 rw [dfT] at hd
 rw [show usedF cT.sel = [6,10] by decide] at hU hI
 rw [decide_eq_true (by rfl)] at hI hI2 hS
 refine FnEq.of_awp Try.func9 ok9 (by show 0 <= _; decide) (by simp only [push_cast,reduceIte,reduceEqDiff,reduceAdd,reduceSub,reduceMul,Nat.reduceBEq,reduceLT,reduceLeDiff,reduceCtorEq,reduceToNat,reduceNeg] <;> first | exact fun _ _ => trivial | simp) ?_
 simp only [ac9,rv9,push_cast,reduceIte,reduceEqDiff,reduceAdd,reduceSub,reduceMul,Nat.reduceBEq,reduceLT,reduceLeDiff,reduceCtorEq,reduceToNat,reduceNeg]
 refine cal_eq (show FnEq Try.prog 33 [] (.agg (gridC true gT)) from two_ok) ?_
 refine sB ?_
 refine ⟨⟨by decide,by decide,by decide⟩,⟨by decide,by decide,by decide⟩,?_⟩
 rw [show (((List.replicate 3 0).set 0 0).set 1 6).set 2 10 = [(0 : Int),6,10] from rfl,show (((List.replicate 3 0).set 0 (-1)).set 1 0).set 2 1 = [(-1 : Int),0,1] from rfl]
 refine cal_sub hE ⟨Sub.aggL ⟨.refl _,.refl _,.refl _,.refl _,.slp _ _ _ _ (fun h => by cases h),.nil _ _,.nil _ _,.nil _ _,.nil _ _,.nil _ _,
  Sub.slR 3 (fun h => h) ⟨⟨.refl _,.slp _ _ _ _ (fun h => by cases h),.slp _ _ _ _ (fun h => by cases h),trivial⟩,trivial⟩,trivial⟩,trivial⟩ ?_
 refine sB ?_
 refine grd_decf rfl (fun e => absurd e (by decide)) fun _ => ?_
 refine sB ?_
 refine cal_sub hV sC ?_
 refine sB ?_
 refine grd_decf rfl (fun e => absurd e (by decide)) fun _ => ?_
 refine sB ?_
 refine grd_decf rfl (fun e => absurd e (by decide)) fun _ => ?_
 refine sB ?_
 refine ⟨by decide,by decide,?_⟩
 refine grd_decf rfl (fun e => absurd e (by decide)) fun _ => ?_
 refine sB ?_
 refine ⟨by decide,by decide,?_⟩
 refine grd_decf rfl (fun e => absurd e (by decide)) fun _ => ?_
 refine sB ?_
 refine cal_sub hV2 sC ?_
 refine sB ?_
 refine grd_decf rfl (fun e => absurd e (by decide)) fun _ => ?_
 refine sB ?_
 refine cal_sub hU sC ?_
 refine sB ?_
 refine ⟨⟨by decide,by decide⟩,?_⟩
 rw [show ((List.replicate 2 0).set 0 6).set 1 10 = [(6 : Int),10] from rfl]
 refine cal_sub hI sC ?_
 refine sB ?_
 refine cal_sub h10 sC ?_
 refine sB ?_
 refine cal_sub h11 sC ?_
 refine sB ?_
 refine cond_dec (fun e => absurd e (by decide)) fun _ => ?_
 refine ⟨⟨by decide,by decide⟩,⟨by decide,by decide⟩,by decide,⟨by decide,by decide⟩,by decide,?_⟩
 simp only [List.replicate,List.nil_append,List.length_nil,Nat.zero_add]
 rw [show List.take cT.sel.length ((cT.sel.set 6 6).set 14 1) = kT.sel from rfl,show (cT.sel.set 6 6).set 14 1 = kT.sel from rfl]
 refine cal_sub hd sC ?_
 refine sB ?_
 rw [show List.take cT.sel.length kT.sel = kT.sel from rfl]
 refine cal_sub hk sC ?_
 refine sB ?_
 rw [show List.take cT.sel.length kT.sel = kT.sel from rfl]
 refine cal_sub hV3 sC ?_
 refine sB ?_
 refine ⟨⟨by decide,by decide⟩,?_⟩
 rw [show ((List.replicate 2 0).set 0 6).set 1 14 = [(6 : Int),14] from rfl]
 refine cal_sub hI2 sC ?_
 refine sB ?_
 refine dcal_sub hB sC rfl ?_
 refine sB ?_
 refine cal_sub hRB sC ?_
 refine sB ?_
 refine cal_sub hS sC ?_
 refine sB ?_
 refine cal_sub hV4 ⟨Sub.aggL ⟨.refl _,.refl _,.refl _,.refl _,.slp _ _ _ _ (fun h => by cases h),trivial⟩,Sub.aggL ⟨.nil _ _,.nil _ _,.nil _ _,.nil _ _,trivial⟩,trivial⟩ ?_
 exact sC
end Go.Proofs.Ytledbjkolidhkaa
namespace Go.Proofs.Ytledbjkolidhkaa.Txt
open Go Go.Vc
set_option maxRecDepth 100000
def ac21_200w : AC :=
 (.seq (.reg [200,19,200] [
 (aO 201 (.box (.t 200))),(aO 202 (.alc [.nil,.nil,.nil,.nil]))])
 (.seq (.reg [200,19,201,202] [
 (aO 204 (.fa 0 (.t 201))),(aO 205 (.ld false 1 (.t 204))),(aO 206 (.fa 1 (.t 201))),(aO 207 (.ld false 1 (.t 206))),(aO 208 (.ari .mul true .i64 (.t 205) (.t 207))),(aO 203 (.mv (.t 208)))])
 (.seq (.drw [200,19,201,202,203] [
 (eU 209 (.ld true 5 (.t 201)) [] [213,215,217]),(eU 210 (.cal 22 [(.t 209)]) [] [213,215,217]),(eU 211 (.mks 1 3 8 [zI] (.t 210) (.t 210)) [211] [213,215,217]),(eU 212 (.mv (.t 203)) [] [211,215,217]),(eU 213 (.mks 1 3 8 [zI] (.t 212) (.t 212)) [213] [211,215,217]),(eU 214 (.mv (.t 203)) [] [211,213,217]),(eU 215 (.mks 1 3 8 [zI] (.t 214) (.t 214)) [215] [211,213,217]),(eU 216 (.mv (.t 203)) [] [211,213,215]),(eU 217 (.mks 1 3 8 [zI] (.t 216) (.t 216)) [217] [211,213,215]),(eF 218 (.bld [.nil,.nil,.nil,.nil] [(0,1,(.t 211)),(1,1,(.t 213)),(2,1,(.t 215)),(3,1,(.t 217))])),⟨(aN (.sto 4 (.t 202) (.t 218))),[],[],false⟩])
 .ret)))
def rv21_200w : List RV := [.cell 202 true 4]
theorem ok21_200w : fnOkK Try.prog 200 ac21_200w rv21_200w Try.f21 = true := by kernel_rfl

def ac14w : AC :=
 (.seq (.reg [0,130,0,1,2] [
 (aO 3 (.box (.t 0))),(aO 4 (.box (.t 1))),(aO 5 (.box (.t 2))),(aO 6 (.alc [.nil,.nil,.nil,.nil,zI]))])
 (.seq (.seq (.reg [0,130,3,4,5,6] [
 (aO 14 (.ld true 4 (.t 3))),(aO 15 (.ld true 5 (.t 4))),(aO 16 (.ld true 2 (.t 5))),(aO 17 (.cal 37 [(.t 14),(.t 15),(.t 16)])),(aO 18 (.not (.t 17)))])
 (.cond (.t 18)
 (.seq (.reg [0,130,6] [
 (aO 19 (.bld [.nil,.nil,.nil,.nil,zI] [(4,1,(kI 350))])),(aN (.sto 5 (.t 6) (.t 19)))])
 .ret)
 .skip))
 (.seq (.reg [0,130,3,4,5,6] [
 (aO 20 (.ld true 5 (.t 4))),(aO 21 (.clm 21 [(.t 20)])),(aO 7 (.alc [.nil,.nil,.nil,.nil])),(aN (.sto 4 (.t 7) (.t 21)))])
 (.seq (.seq (.reg [0,130,3,4,5,6,7] [
 (aO 8 (.mv (kI 0)))])
 (.block 0
 (.loop [0,130,3,4,5,6,7,8]
 (.seq (.seq (.reg [0,130,3,4,5,6,7,8] [
 (aO 22 (.mv (.t 8))),(aO 23 (.fa 0 (.t 5))),(aO 24 (.ld false 1 (.t 23))),(aO 25 (.len (.t 24))),(aO 26 (.cmp .lss .i64 (.t 22) (.t 25)))])
 (.cond (.t 26)
 .skip
 (.exit 0)))
 (.seq (.block 1
 (.seq (.drw [0,130,3,4,5,6,7,8] [
 (eU 29 (.fa 1 (.t 3)) [] [9]),(eU 30 (.ld false 1 (.t 29)) [] [9]),(eU 31 (.mv (.t 8)) [] [9]),(eU 32 (.ixs 5 (.t 30) (.t 31)) [] [9]),(eU 33 (.ld true 5 (.t 32)) [] [9]),(eU 34 (.fa 0 (.t 5)) [] [9]),(eU 35 (.ld false 1 (.t 34)) [] [9]),(eU 36 (.mv (.t 8)) [] [9]),(eU 37 (.ixs 1 (.t 35) (.t 36)) [] [9]),(eU 38 (.ld false 1 (.t 37)) [] [9]),(eU 9 (.alc [.nil,zI,zI,zI,.sc (.int .u64 0)]) [9] []),⟨(aN (.sto 5 (.t 9) (.t 33))),[],[9],true⟩,(eF 10 (.mv (.t 38)))])
 (.block 2
 (.seq (.reg [0,130,3,4,5,6,7,8,9,10] [
 (aO 50 (.fa 2 (.t 9))),(aO 51 (.ld false 1 (.t 50))),(aO 52 (.cmp .neq .i64 (.t 51) (kI (-1)))),(aO 49 (.mv (.t 52)))])
 (.cond (.t 49)
 (.seq (.reg [0,130,3,4,5,6,7,8,9,10] [
 (aO 53 (.fa 1 (.t 7))),(aO 54 (.ld false 1 (.t 53))),(aO 55 (.mv (.t 10))),(aO 56 (.ixs 1 (.t 54) (.t 55))),(aN (.sto 1 (.t 56) (kI 3)))])
 (.reg [0,130,3,4,5,6,7,8,9,10] [
 (aO 57 (.fa 3 (.t 7))),(aO 58 (.ld false 1 (.t 57))),(aO 59 (.mv (.t 10))),(aO 60 (.fa 2 (.t 9))),(aO 61 (.ld false 1 (.t 60))),(aO 62 (.ixs 1 (.t 58) (.t 59))),(aN (.sto 1 (.t 62) (.t 61)))]))
 (.seq (.reg [0,130,3,4,5,6,7,8,9,10] [
 (aO 64 (.fa 3 (.t 9))),(aO 65 (.ld false 1 (.t 64))),(aO 66 (.cmp .neq .i64 (.t 65) (kI (-1)))),(aO 63 (.mv (.t 66)))])
 (.cond (.t 63)
 (.seq (.reg [0,130,3,4,5,6,7,8,9,10] [
 (aO 67 (.fa 1 (.t 7))),(aO 68 (.ld false 1 (.t 67))),(aO 69 (.mv (.t 10))),(aO 70 (.ixs 1 (.t 68) (.t 69))),(aN (.sto 1 (.t 70) (kI 2)))])
 (.seq (.reg [0,130,3,4,5,6,7,8,9,10] [
 (aO 71 (.fa 2 (.t 7))),(aO 72 (.ld false 1 (.t 71))),(aO 73 (.mv (.t 10))),(aO 74 (.fa 1 (.t 9))),(aO 75 (.ld false 1 (.t 74))),(aO 76 (.ixs 1 (.t 72) (.t 73))),(aN (.sto 1 (.t 76) (.t 75)))])
 (.reg [0,130,3,4,5,6,7,8,9,10] [
 (aO 77 (.fa 3 (.t 7))),(aO 78 (.ld false 1 (.t 77))),(aO 79 (.mv (.t 10))),(aO 80 (.fa 3 (.t 9))),(aO 81 (.ld false 1 (.t 80))),(aO 82 (.ixs 1 (.t 78) (.t 79))),(aN (.sto 1 (.t 82) (.t 81)))])))
 (.seq (.reg [0,130,3,4,5,6,7,8,9,10] [
 (aO 39 (.fa 1 (.t 7))),(aO 40 (.ld false 1 (.t 39))),(aO 41 (.mv (.t 10))),(aO 42 (.ixs 1 (.t 40) (.t 41))),(aN (.sto 1 (.t 42) (kI 1)))])
 (.reg [0,130,3,4,5,6,7,8,9,10] [
 (aO 43 (.fa 2 (.t 7))),(aO 44 (.ld false 1 (.t 43))),(aO 45 (.mv (.t 10))),(aO 46 (.fa 1 (.t 9))),(aO 47 (.ld false 1 (.t 46))),(aO 48 (.ixs 1 (.t 44) (.t 45))),(aN (.sto 1 (.t 48) (.t 47)))])))))))))
 (.reg [0,130,3,4,5,6,7,8] [
 (aO 27 (.mv (.t 8))),(aO 28 (.ari .add true .i64 (.t 27) (kI 1))),(aO 8 (.mv (.t 28)))]))))))
 (.seq (.seq (.reg [0,130,4,5,6,7] [
 (aO 11 (.mv (kI 0)))])
 (.block 3
 (.loop [0,130,4,5,6,7,11]
 (.seq (.seq (.reg [0,130,4,5,6,7,11] [
 (aO 83 (.mv (.t 11))),(aO 84 (.fa 1 (.t 5))),(aO 85 (.ld false 1 (.t 84))),(aO 86 (.len (.t 85))),(aO 87 (.cmp .lss .i64 (.t 83) (.t 86)))])
 (.cond (.t 87)
 .skip
 (.exit 3)))
 (.seq (.block 4
 (.seq (.reg [0,130,4,5,6,7,11] [
 (aO 90 (.fa 1 (.t 5))),(aO 91 (.ld false 1 (.t 90))),(aO 92 (.mv (.t 11))),(aO 93 (.ixs 3 (.t 91) (.t 92))),(aO 94 (.ld true 3 (.t 93))),(aO 12 (.alc [zI,.nil,.nil])),(aN (.sto 3 (.t 12) (.t 94)))])
 (.seq (.reg [0,130,4,5,6,7,11,12] [
 (aO 13 (.mv (kI 1)))])
 (.block 5
 (.loop [0,130,4,5,6,7,11,12,13]
 (.seq (.seq (.reg [0,130,4,5,6,7,11,12,13] [
 (aO 95 (.mv (.t 13))),(aO 96 (.fa 1 (.t 12))),(aO 97 (.ld false 1 (.t 96))),(aO 98 (.len (.t 97))),(aO 99 (.cmp .lss .i64 (.t 95) (.t 98)))])
 (.cond (.t 99)
 .skip
 (.exit 5)))
 (.seq (.block 6
 (.drw [0,130,4,5,6,7,11,12,13] [
 (eT 102 (.fa 0 (.t 7))),(eT 103 (.ld false 1 (.t 102))),(eT 104 (.fa 1 (.t 12))),(eT 105 (.ld false 1 (.t 104))),(eT 106 (.mv (.t 13))),(eT 107 (.ixs 1 (.t 105) (.t 106))),(eT 108 (.ld false 1 (.t 107))),(eT 109 (.ld true 5 (.t 4))),(eT 110 (.fa 1 (.t 12))),(eT 111 (.ld false 1 (.t 110))),(eT 112 (.mv (.t 13))),(eT 113 (.ixs 1 (.t 111) (.t 112))),(eT 114 (.ld false 1 (.t 113))),(eT 115 (.cal 31 [(.t 109),(.t 114)])),(eT 116 (.fa 1 (.t 12))),(eT 117 (.ld false 1 (.t 116))),(eT 118 (.fa 2 (.t 12))),(eT 119 (.ld false 1 (.t 118))),(eT 120 (.mv (.t 13))),(eT 121 (.ixs 1 (.t 119) (.t 120))),(eT 122 (.ld false 1 (.t 121))),(eT 123 (.ixs 1 (.t 117) (.t 122))),(eT 124 (.ld false 1 (.t 123))),(eT 125 (.cal 38 [(.t 115),(.t 124)])),(eT 126 (.ari .add true .i64 (kI 1) (.t 125))),(eF 127 (.ixs 1 (.t 103) (.t 108))),⟨(aN (.sto 1 (.t 127) (.t 126))),[],[],false⟩]))
 (.reg [0,130,4,5,6,7,11,12,13] [
 (aO 100 (.mv (.t 13))),(aO 101 (.ari .add true .i64 (.t 100) (kI 1))),(aO 13 (.mv (.t 101)))]))))))))
 (.reg [0,130,4,5,6,7,11] [
 (aO 88 (.mv (.t 11))),(aO 89 (.ari .add true .i64 (.t 88) (kI 1))),(aO 11 (.mv (.t 89)))]))))))
 (.seq (.reg [0,130,6,7] [
 (aO 128 (.ld true 4 (.t 7))),(aO 129 (.bld [.nil,.nil,.nil,.nil,zI] [(0,4,(.t 128))])),(aN (.sto 5 (.t 6) (.t 129)))])
 .ret))))))
def rv14w : List RV := [.cell 6 true 5]
theorem ok14w : fnOk Try.prog ac14w rv14w Try.f14 = true := by kernel_rfl

def ac16w : AC :=
 (.seq (.reg [0,133,0,1] [
 (aO 2 (.box (.t 0))),(aO 4 (.alc [.nil,.nil,.nil,.nil]))])
 (.seq (.reg [0,133,1,2,4] [
 (aO 10 (.ld true 5 (.t 2))),(aO 11 (.clm 21 [(.t 10)])),(aO 5 (.alc [.nil,.nil,.nil,.nil])),(aN (.sto 4 (.t 5) (.t 11)))])
 (.seq (.seq (.reg [0,133,1,2,4,5] [
 (aO 6 (.mv (kI 0)))])
 (.block 0
 (.loop [0,133,1,2,4,5,6]
 (.seq (.seq (.reg [0,133,1,2,4,5,6] [
 (aO 12 (.mv (.t 6))),(aO 13 (.ari .add true .i64 (.t 12) (kI 1))),(aO 14 (.mv (.t 1))),(aO 15 (.len (.t 14))),(aO 16 (.cmp .lss .i64 (.t 13) (.t 15))),(aO 17 (.mv (.t 16))),⟨some 18,some (17,true),.mv (.t 6)⟩,⟨some 19,some (17,true),.cmp .lss .i64 (.t 18) (kI 80)⟩,(aO 20 (.pick (.t 17) (.t 19) (.c (.sc (.bool false)))))])
 (.cut [0,133,1,2,4,5,6,20] (.cond (.t 20)
 .skip
 (.exit 0))))
 (.seq (.block 1
 (.seq (.drw [0,133,1,2,4,5,6] [
 (eT 23 (.mv (.t 6))),(eT 24 (.ari .mul true .i64 (kI 7) (.t 23))),(eT 25 (.mv (.t 1))),(eT 26 (.mv (.t 6))),(eT 27 (.ixs 1 (.t 25) (.t 26))),(eT 28 (.ld false 1 (.t 27))),(eT 29 (.cnv true .i64 (.t 28))),(eT 30 (.ari .add true .i64 (.t 24) (.t 29))),(eT 31 (.fa 0 (.t 5))),(eT 32 (.ld false 1 (.t 31))),(eT 33 (.len (.t 32))),(eF 34 (.dvd .rem true .i64 (.t 30) (.t 33))),(eF 7 (.mv (.t 34)))])
 (.seq (.reg [0,133,1,2,4,5,6,7] [
 (aO 35 (.ld true 5 (.t 2))),(aO 36 (.mv (.t 7))),(aO 37 (.cal 39 [(.t 35),(.t 36)])),(aO 8 (.mv (.t 37)))])
 (.seq (.seq (.reg [0,133,1,2,4,5,6,7,8] [
 (aO 38 (.mv (.t 8))),(aO 39 (.cmp .gtr .i64 (.t 38) (kI 0)))])
 (.cond (.t 39)
 (.drw [0,133,1,2,4,5,6,7,8] [
 (eT 40 (.fa 0 (.t 5))),(eT 41 (.ld false 1 (.t 40))),(eT 42 (.mv (.t 7))),(eT 43 (.mv (.t 1))),(eT 44 (.mv (.t 6))),(eT 45 (.ari .add true .i64 (.t 44) (kI 1))),(eT 46 (.ixs 1 (.t 43) (.t 45))),(eT 47 (.ld false 1 (.t 46))),(eT 48 (.cnv true .i64 (.t 47))),(eT 49 (.mv (.t 8))),(eT 50 (.dvd .rem true .i64 (.t 48) (.t 49))),(eT 51 (.ari .add true .i64 (kI 1) (.t 50))),(eF 52 (.ixs 1 (.t 41) (.t 42))),⟨(aN (.sto 1 (.t 52) (.t 51))),[],[],false⟩])
 .skip))
 (.seq (.drw [0,133,1,2,4,5,6] [
 (eT 53 (.mv (.t 1))),(eT 54 (.mv (.t 6))),(eT 55 (.ixs 1 (.t 53) (.t 54))),(eT 56 (.ld false 1 (.t 55))),(eT 57 (.cnv true .i64 (.t 56))),(eT 58 (.fa 0 (.t 2))),(eT 59 (.ld false 1 (.t 58))),(eT 60 (.fa 1 (.t 2))),(eT 61 (.ld false 1 (.t 60))),(eT 62 (.ari .mul true .i64 (.t 59) (.t 61))),(eF 63 (.dvd .rem true .i64 (.t 57) (.t 62))),(eF 9 (.mv (.t 63)))])
 (.block 2
 (.seq (.reg [0,133,1,2,4,5,6,9] [
 (aO 65 (.fa 4 (.t 2))),(aO 66 (.ld false 1 (.t 65))),(aO 67 (.mv (.t 9))),(aO 68 (.ixs 1 (.t 66) (.t 67))),(aO 69 (.ld false 1 (.t 68))),(aO 70 (.cmp .eql .i64 (.t 69) (kI 0))),(aO 64 (.mv (.t 70)))])
 (.cond (.t 64)
 .skip
 (.seq (.reg [0,133,1,2,4,5,6,9] [
 (aO 72 (.mv (.t 1))),(aO 73 (.mv (.t 6))),(aO 74 (.ari .add true .i64 (.t 73) (kI 1))),(aO 75 (.ixs 1 (.t 72) (.t 74))),(aO 76 (.ld false 1 (.t 75))),(aO 77 (.dvd .rem true .u8 (.t 76) (.c (.sc (.int .u8 3))))),(aO 78 (.cmp .eql .u8 (.t 77) (.c (.sc (.int .u8 0))))),(aO 71 (.mv (.t 78)))])
 (.cond (.t 71)
 (.seq (.reg [0,133,1,2,4,5,6,9] [
 (aO 79 (.fa 1 (.t 5))),(aO 80 (.ld false 1 (.t 79))),(aO 81 (.mv (.t 9))),(aO 82 (.ixs 1 (.t 80) (.t 81))),(aN (.sto 1 (.t 82) (kI 1)))])
 (.seq (.drw [0,133,1,2,4,5,6,9] [
 (eT 83 (.fa 2 (.t 5))),(eT 84 (.ld false 1 (.t 83))),(eT 85 (.mv (.t 9))),(eT 86 (.mv (.t 1))),(eT 87 (.mv (.t 6))),(eT 88 (.ari .add true .i64 (.t 87) (kI 1))),(eT 89 (.ixs 1 (.t 86) (.t 88))),(eT 90 (.ld false 1 (.t 89))),(eT 91 (.cnv true .i64 (.t 90))),(eT 92 (.ari .mul true .i64 (kI 100) (.t 91))),(eF 93 (.ixs 1 (.t 84) (.t 85))),⟨(aN (.sto 1 (.t 93) (.t 92))),[],[],false⟩])
 (.reg [0,133,1,2,4,5,6,9] [
 (aO 94 (.fa 3 (.t 5))),(aO 95 (.ld false 1 (.t 94))),(aO 96 (.mv (.t 9))),(aO 97 (.ixs 1 (.t 95) (.t 96))),(aN (.sto 1 (.t 97) (kI 0)))])))
 (.seq (.reg [0,133,1,2,4,5,6,9] [
 (aO 99 (.mv (.t 1))),(aO 100 (.mv (.t 6))),(aO 101 (.ari .add true .i64 (.t 100) (kI 1))),(aO 102 (.ixs 1 (.t 99) (.t 101))),(aO 103 (.ld false 1 (.t 102))),(aO 104 (.dvd .rem true .u8 (.t 103) (.c (.sc (.int .u8 3))))),(aO 105 (.cmp .eql .u8 (.t 104) (.c (.sc (.int .u8 1))))),(aO 98 (.mv (.t 105)))])
 (.cond (.t 98)
 (.seq (.reg [0,133,1,2,4,5,6,9] [
 (aO 106 (.fa 1 (.t 5))),(aO 107 (.ld false 1 (.t 106))),(aO 108 (.mv (.t 9))),(aO 109 (.ixs 1 (.t 107) (.t 108))),(aN (.sto 1 (.t 109) (kI 2)))])
 (.seq (.drw [0,133,1,2,4,5,6,9] [
 (eT 110 (.fa 2 (.t 5))),(eT 111 (.ld false 1 (.t 110))),(eT 112 (.mv (.t 9))),(eT 113 (.mv (.t 1))),(eT 114 (.mv (.t 6))),(eT 115 (.ari .add true .i64 (.t 114) (kI 1))),(eT 116 (.ixs 1 (.t 113) (.t 115))),(eT 117 (.ld false 1 (.t 116))),(eT 118 (.cnv true .i64 (.t 117))),(eT 119 (.ari .mul true .i64 (kI 100) (.t 118))),(eF 120 (.ixs 1 (.t 111) (.t 112))),⟨(aN (.sto 1 (.t 120) (.t 119))),[],[],false⟩])
 (.drw [0,133,1,2,4,5,6,9] [
 (eT 121 (.fa 3 (.t 5))),(eT 122 (.ld false 1 (.t 121))),(eT 123 (.mv (.t 9))),(eT 124 (.mv (.t 1))),(eT 125 (.mv (.t 6))),(eT 126 (.ari .add true .i64 (.t 125) (kI 1))),(eT 127 (.ixs 1 (.t 124) (.t 126))),(eT 128 (.ld false 1 (.t 127))),(eT 129 (.dvd .quo true .u8 (.t 128) (.c (.sc (.int .u8 3))))),(eT 130 (.cnv true .i64 (.t 129))),(eF 131 (.ixs 1 (.t 122) (.t 123))),⟨(aN (.sto 1 (.t 131) (.t 130))),[],[],false⟩])))
 .skip))))))))))))
 (.reg [0,133,1,2,4,5,6] [
 (aO 21 (.mv (.t 6))),(aO 22 (.ari .add true .i64 (.t 21) (kI 2))),(aO 6 (.mv (.t 22)))]))))))
 (.seq (.reg [0,133,4,5] [
 (aO 132 (.ld true 4 (.t 5))),(aN (.sto 4 (.t 4) (.t 132)))])
 .ret))))
def rv16w : List RV := [.cell 4 true 4]
theorem ok16w : fnOk Try.prog ac16w rv16w Try.f16 = true := by kernel_rfl
end Go.Proofs.Ytledbjkolidhkaa.Txt
