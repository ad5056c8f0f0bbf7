/- ZB ZC ZD ZE ZF ZG ZH ZI ZJ ZK ZL: lemmas -/
import Derived.Test.YtledbjkolidhkaaPart12
import Derived.Test.YtledbjkolidhkaaPart07
set_option linter.unusedSimpArgs false
set_option linter.unusedVariables false
open Nat (reduceEqDiff reduceAdd reduceSub reduceMul reduceLT reduceLeDiff)
open Int (reduceToNat reduceNeg)
namespace Go.Proofs.Ytledbjkolidhkaa
open Go Go.Vc Txt
theorem map_range_succ {α : Type} (f : Nat -> α) (k : Nat) : (List.range (k + 1)).map f = (List.range k).map f ++ [f k] := by simp [List.range_succ]
def kindF (l : List Int) (i : Nat) : Int := if i < l.length /\ l.getD i default % 8 < 2 then l.getD i default % 8 else 2
def kindsF (n : Nat) (l : List Int) : List Int := (List.range n).map (kindF l)
theorem kinds_ok (n : Nat) (hn : (n : Int) <= 1000000) (l : List Int) (hl : (l.length : Int) <= 9223372036854775807) (hb : ∀ x ∈ l, 0 <= x /\ x <= 255) :
  FnEq Try.prog 49 [.int n,.sl false 1 (bytes8 l)] (.sl true 1 (ints (kindsF n l))) := by
 refine FnEq.of_awp Try.func49 ok49 (by show 2 <= _; decide) (by simp only [push_cast,reduceIte,reduceEqDiff,reduceAdd,reduceSub,reduceMul,Nat.reduceBEq,reduceLT,reduceLeDiff,reduceCtorEq,reduceToNat,reduceNeg] <;> first | exact fun _ _ => trivial | simp) ?_
 simp only [ac49,rv49,push_cast,reduceIte,reduceEqDiff,reduceAdd,reduceSub,reduceMul,Nat.reduceBEq,reduceLT,reduceLeDiff,reduceCtorEq,reduceToNat,reduceNeg]
 refine loop_of (fun m st => ∃ k : Nat,k <= n /\ m = n - k /\
  st = ⟨[(0,.int n),(1,.sl false 1 (bytes8 l)),(5,.view 8 0 k),(6,.int k)],[],[(8,⟨1,3,ints ((List.range k).map (kindF l))⟩)],[]⟩) n ?_ ?_
 ·refine ⟨0,by omega,by omega,?_⟩
  refine sB ?_
  rfl
 ·rintro m st ⟨k,hk,rfl,rfl⟩
  refine sB ?_
  have hlen : ((List.range k).map (kindF l)).length = k := by simp
  have hsucc := map_range_succ (kindF l) k
  refine cond_dec (fun h => ?_) fun h => ?_
  ·refine cut_of ⟨[(0,.int n),(1,.sl false 1 (bytes8 l)),(5,.view 8 0 k),(6,.int k),(7,.int 2),(25,.bool (decide (k < l.length /\ l.getD k default % 8 < 2)))],[],[(8,⟨1,3,ints ((List.range k).map (kindF l))⟩)],[]⟩ ?_ ?_
   ·refine grd_dec rfl (fun h1 => ?_) fun h1 => ?_ <;> refine sB ?_
    ·have h1' : k < l.length := by omega
     have hx := hb _ (show l.getD k default ∈ l by simp [List.getD_eq_getElem?_getD,h1'])
     refine ⟨⟨by omega,by omega⟩,h1',⟨by omega,by omega,by omega⟩,?_⟩
     rw [show decide (k < l.length /\ l.getD k default % 8 < 2) = decide (l.getD k default % 8 < 2) from by rw [decide_eq_decide]; omega]
    ·have h1' : ¬ k < l.length := by omega
     simp [h1']
   refine sB ?_
   refine cond_dec (fun h1 => ?_) fun h1 => ?_
   ·have hx := hb _ (show l.getD k default ∈ l by simp [List.getD_eq_getElem?_getD,h1.1])
    have hf : kindF l k = l.getD k default % 8 := by rw [kindF,if_pos h1]
    rw [hf] at hsucc
    refine ⟨⟨by omega,by omega⟩,h1.1,⟨by omega,by omega,by omega⟩,⟨by omega,by omega⟩,by simp,⟨hlen.symm,by omega,by omega⟩,⟨by omega,by omega⟩,_,?_,k + 1,by omega,rfl,?_⟩
    ·omega
    ·rw [hsucc]; simp
   ·have hf : kindF l k = 2 := by rw [kindF,if_neg h1]
    rw [hf] at hsucc
    refine ⟨by simp,⟨hlen.symm,by omega,by omega⟩,⟨by omega,by omega⟩,_,?_,k + 1,by omega,rfl,?_⟩
    ·omega
    ·rw [hsucc]; simp
  ·have hkk : k = n := by omega
   subst hkk
   rw [List.take_of_length_le (by omega)]
   exact ⟨fun _ _ => trivial,.refl _⟩
structure RawG where
 w : Int
 h : Int
 tracks : Int
 pads : Int
 kind : List Int
def rawGC (q : Bool) (x : RawG) : List PV := [.sc (.int .u8 x.w),.sc (.int .u8 x.h),.sc (.int .u8 x.tracks),.sc (.int .u8 x.pads),.sl q 1 (bytes8 x.kind)]
@[push_cast] theorem rawGC_eq (q : Bool) (x : RawG) : rawGC q x = [.sc (.int .u8 x.w),.sc (.int .u8 x.h),.sc (.int .u8 x.tracks),.sc (.int .u8 x.pads),.sl q 1 (bytes8 x.kind)] := rfl
structure RawG.Ok (x : RawG) : Prop where
 w : 0 <= x.w /\ x.w <= 255
 h : 0 <= x.h /\ x.h <= 255
 tracks : 0 <= x.tracks /\ x.tracks <= 255
 pads : 0 <= x.pads /\ x.pads <= 255
 len : (x.kind.length : Int) <= 9223372036854775807
 kind : ∀ k ∈ x.kind,0 <= k /\ k <= 255
def gridF (x : RawG) : Grid := ⟨2 + x.w % 4,2 + x.h % 4,2 + x.tracks % 3,24,kindsF ((2 + x.w % 4) * (2 + x.h % 4)).toNat x.kind⟩
theorem made_ok (x : RawG) (hx : x.Ok) : FnEq Try.prog 30 [.agg (rawGC false x)] (.agg (gridC true (gridF x))) := by
 refine FnEq.of_awp Try.func30 ok30 (by show 1 <= _; decide) (by simp only [push_cast,reduceIte,reduceEqDiff,reduceAdd,reduceSub,reduceMul,Nat.reduceBEq,reduceLT,reduceLeDiff,reduceCtorEq,reduceToNat,reduceNeg] <;> first | exact fun _ _ => trivial | simp) ?_
 simp only [ac30,rv30,push_cast,reduceIte,reduceEqDiff,reduceAdd,reduceSub,reduceMul,Nat.reduceBEq,reduceLT,reduceLeDiff,reduceCtorEq,reduceToNat,reduceNeg]
 obtain ⟨h1,h2,h3,h4,h5,h6⟩ := hx
 have hm : 0 <= (2 + x.w % 4) * (2 + x.h % 4) /\ (2 + x.w % 4) * (2 + x.h % 4) <= 5 * 5 := ⟨Int.mul_nonneg (by omega) (by omega),Int.mul_le_mul (by omega) (by omega) (by omega) (by omega)⟩
 obtain ⟨n,hn⟩ : ∃ n : Nat,(2 + x.w % 4) * (2 + x.h % 4) = n := ⟨((2 + x.w % 4) * (2 + x.h % 4)).toNat,by omega⟩
 have hg : gridF x = ⟨2 + x.w % 4,2 + x.h % 4,2 + x.tracks % 3,24,kindsF n x.kind⟩ := by unfold gridF; rw [hn,Int.toNat_natCast]
 rw [hn] at hm ⊢
 rw [hg]
 refine ⟨⟨by omega,by omega,by omega⟩,⟨by omega,by omega⟩,⟨by omega,by omega⟩,⟨by omega,by omega,by omega⟩,⟨by omega,by omega⟩,⟨by omega,by omega⟩,⟨by omega,by omega,by omega⟩,⟨by omega,by omega⟩,⟨by omega,by omega⟩,⟨by omega,by omega⟩,?_⟩
 refine cal_sub (kinds_ok n (by omega) x.kind h5 h6) sC ?_
 refine sB ?_
 exact fun _ _ => trivial
theorem gridF_ok (x : RawG) : GOk (gridF x) /\ (gridF x).pads = 24 := by
 have hm : 0 <= (2 + x.w % 4) * (2 + x.h % 4) := Int.mul_nonneg (by omega) (by omega)
 refine ⟨⟨?_,?_,?_,?_,?_⟩,rfl⟩ <;> simp only [gridF,kindsF,List.length_map,List.length_range] <;> omega
def wilA (c : Cfg) : List (Nat × Arr) := [(211,⟨1,3,ints c.sel⟩),(213,⟨1,3,ints c.mode⟩),(215,⟨1,3,ints c.tab⟩),(217,⟨1,3,ints c.ram⟩)]
def wilV (c : Cfg) : List PV := [.view 211 0 c.sel.length,.view 213 0 c.mode.length,.view 215 0 c.tab.length,.view 217 0 c.ram.length]
def wilS (l : List Int) (g : Grid) : St := ⟨[(1,.sl false 1 (bytes8 l)),(2,.ptr 2 0),(4,.ptr 4 0),(10,.agg (gridC false g))],[(2,gridC false g),(4,[.nil,.nil,.nil,.nil])],[],[]⟩
theorem rblankw_ok (l : List Int) (g : Grid) (hg : GOk g) : FnM (Env.of Try.prog) 21 [.agg (gridC false g)] (wilS l g) (fun v st' => v = .agg (wilV (blankF g)) /\ st' = { wilS l g with a := wilA (blankF g) }) := by
 have h1 := hg.count
 have h2 := hg.wh
 have h3 := hg.kind
 refine FnM.dropB 201 (FnM.dropB 202 ?_)
 simp only [wilS,push_cast,reduceIte,reduceEqDiff,reduceAdd,reduceSub,reduceMul,Nat.reduceBEq,reduceLT,reduceLeDiff,reduceCtorEq,reduceToNat,reduceNeg]
 refine fnM_of 200 Try.func21 ok21_200w (by show 1 <= _; decide) rfl (by decide) ?_
 simp only [ac21_200w,rv21_200w,push_cast,reduceIte,reduceEqDiff,reduceAdd,reduceSub,reduceMul,Nat.reduceBEq,reduceLT,reduceLeDiff,reduceCtorEq,reduceToNat,reduceNeg]
 refine ⟨by omega,?_⟩
 refine dcal_sub (rcount_ok g hg) sC rfl ?_
 refine sB ?_
 refine ⟨by omega,by omega,by omega,by omega,?_,?_⟩
 ·simp [wilV,blankF]
  omega
 ·rw [show (g.w * g.h).toNat = g.kind.length by omega]
  simp only [wilA,blankF,List.length_replicate,push_cast,reduceIte,reduceEqDiff,reduceAdd,reduceSub,reduceMul,Nat.reduceBEq,reduceLT,reduceLeDiff,reduceCtorEq,reduceToNat,reduceNeg]
def selW (g : Grid) (c : Cfg) (n b : Int) : Cfg := if 0 < ((driversF g n).length : Int) then { c with sel := c.sel.set n.toNat (1 + b % ((driversF g n).length : Int)) } else c
def tileW (g : Grid) (c : Cfg) (t : Nat) (b : Int) : Cfg :=
 if g.kind.getD t 0 = 0 then c else if b % 3 = 0 then { c with mode := c.mode.set t 1,tab := c.tab.set t (100 * b),ram := c.ram.set t 0 }
 else if b % 3 = 1 then { c with mode := c.mode.set t 2,tab := c.tab.set t (100 * b),ram := c.ram.set t (b / 3) } else c
def stepW (g : Grid) (l : List Int) (c : Cfg) (i : Nat) : Cfg :=
 tileW g (selW g c ((7 * (i : Int) + l.getD i 0) % (c.sel.length : Int)) (l.getD (i + 1) 0)) (l.getD i 0 % (g.w * g.h)).toNat (l.getD (i + 1) 0)
def wildN (g : Grid) (l : List Int) : Nat -> Cfg
 | 0 => blankF g
 | j + 1 => stepW g l (wildN g l j) (2 * j)
def wildF (g : Grid) (l : List Int) : Cfg := wildN g l (min (l.length / 2) 40)
def CfgLn (g : Grid) (c : Cfg) : Prop := c.sel.length = (countF g).toNat /\ c.mode.length = g.kind.length /\ c.tab.length = g.kind.length /\ c.ram.length = g.kind.length
theorem selW_len {g : Grid} {c : Cfg} {n b : Int} (h : CfgLn g c) : CfgLn g (selW g c n b) := by
 obtain ⟨h1,h2,h3,h4⟩ := h
 unfold selW
 split <;> refine ⟨?_,?_,?_,?_⟩ <;> simp [*]
theorem tileW_len {g : Grid} {c : Cfg} {t : Nat} {b : Int} (h : CfgLn g c) : CfgLn g (tileW g c t b) := by
 obtain ⟨h1,h2,h3,h4⟩ := h
 unfold tileW
 split
 ·exact ⟨h1,h2,h3,h4⟩
 ·split
  ·refine ⟨?_,?_,?_,?_⟩ <;> simp [*]
  ·split
   ·refine ⟨?_,?_,?_,?_⟩ <;> simp [*]
   ·exact ⟨h1,h2,h3,h4⟩
theorem stepW_len {g : Grid} {l : List Int} {c : Cfg} {i : Nat} (h : CfgLn g c) : CfgLn g (stepW g l c i) := tileW_len (selW_len h)
theorem wildN_len (g : Grid) (l : List Int) : ∀ j,CfgLn g (wildN g l j)
 | 0 => by refine ⟨?_,?_,?_,?_⟩ <;> simp [wildN,blankF]
 | j + 1 => stepW_len (wildN_len g l j)
set_option maxHeartbeats 4000000 in
theorem wild_ok (g : Grid) (hg : GOk g) (l : List Int) (hl : (l.length : Int) <= 9223372036854775807) (hb : ∀ x ∈ l,0 <= x /\ x <= 255) : FnEq Try.prog 16 [.agg (gridC false g),.sl false 1 (bytes8 l)] (.agg (cfgC true (wildF g l))) := by
 have h1 := hg.count
 have h2 := hg.wh
 have h3 := hg.kind
 refine FnEq.of_awp Try.func16 ok16w (by show 2 <= _; decide) (by simp only [push_cast,reduceIte,reduceEqDiff,reduceAdd,reduceSub,reduceMul,Nat.reduceBEq,reduceLT,reduceLeDiff,reduceCtorEq,reduceToNat,reduceNeg] <;> first | exact fun _ _ => trivial | simp) ?_
 simp only [ac16w,rv16w,push_cast,reduceIte,reduceEqDiff,reduceAdd,reduceSub,reduceMul,Nat.reduceBEq,reduceLT,reduceLeDiff,reduceCtorEq,reduceToNat,reduceNeg]
 refine clm_eq (rblankw_ok l g hg) ?_
 simp only [wilV,wilA,wilS,push_cast,reduceIte,reduceEqDiff,reduceAdd,reduceSub,reduceMul,Nat.reduceBEq,reduceLT,reduceLeDiff,reduceCtorEq,reduceToNat,reduceNeg]
 refine loop_of (fun m st => ∃ j : Nat,j <= min (l.length / 2) 40 /\ m = min (l.length / 2) 40 - j /\ st = ⟨[(1,.sl false 1 (bytes8 l)),(2,.ptr 2 0),(4,.ptr 4 0),(5,.ptr 5 0),(6,.int (2 * (j : Int)))],[(2,gridC false g),(4,[.nil,.nil,.nil,.nil]),(5,wilV (wildN g l j))],wilA (wildN g l j),[]⟩) (min (l.length / 2) 40) ?_ ?_
 ·refine ⟨0,by omega,by omega,?_⟩
  simp only [wilV,wilA,wildN,Int.mul_zero,push_cast,reduceIte,reduceEqDiff,reduceAdd,reduceSub,reduceMul,Nat.reduceBEq,reduceLT,reduceLeDiff,reduceCtorEq,reduceToNat,reduceNeg]
 rintro m st ⟨j,hj,rfl,rfl⟩
 obtain ⟨q1,q2,q3,q4⟩ := wildN_len g l j
 have e0 : ∀ (l : List Int) (j : Nat),l.getD j default = l.getD j 0 := fun _ _ => rfl
 have hst : wildN g l (j + 1) = stepW g l (wildN g l j) (2 * j) := rfl
 have hcast : ((2 * j : Nat) : Int) = 2 * (j : Int) := by omega
 have hF : wildF g l = wildN g l (min (l.length / 2) 40) := rfl
 have hba : 0 <= l.getD (2 * j) 0 /\ l.getD (2 * j) 0 <= 255 := by
  by_cases h : 2 * j < l.length
  ·exact hb _ (getD_mem h)
  ·rw [List.getD_eq_getElem?_getD,List.getElem?_eq_none (by omega)]; decide
 have hbb : 0 <= l.getD (2 * j + 1) 0 /\ l.getD (2 * j + 1) 0 <= 255 := by
  by_cases h : 2 * j + 1 < l.length
  ·exact hb _ (getD_mem h)
  ·rw [List.getD_eq_getElem?_getD,List.getElem?_eq_none (by omega)]; decide
 simp only [wilV,wilA,push_cast,reduceIte,reduceEqDiff,reduceAdd,reduceSub,reduceMul,Nat.reduceBEq,reduceLT,reduceLeDiff,reduceCtorEq,reduceToNat,reduceNeg]
 refine ⟨by omega,?_⟩
 obtain ⟨B,hB⟩ : ∃ B,B = decide (2 * j + 1 < l.length /\ 2 * j < 80) := ⟨_,rfl⟩
 refine cut_of ⟨[(1,.sl false 1 (bytes8 l)),(2,.ptr 2 0),(4,.ptr 4 0),(5,.ptr 5 0),(6,.int (2 * j)),(20,.bool B)],[(2,gridC false g),(4,[.nil,.nil,.nil,.nil]),(5,wilV (wildN g l j))],wilA (wildN g l j),[]⟩ ?_ ?_
 ·refine grd_dec rfl (fun e1 => ?_) fun e1 => ?_ <;> refine sB ?_
  ·rw [show B = decide (2 * (j : Int) < 80) from by rw [hB,decide_eq_decide]; omega]
   simp only [wilV,wilA,push_cast,reduceIte,reduceEqDiff,reduceAdd,reduceSub,reduceMul,Nat.reduceBEq,reduceLT,reduceLeDiff,reduceCtorEq,reduceToNat,reduceNeg]
  ·rw [show B = false from by rw [hB]; exact decide_eq_false (by omega)]
   simp only [wilV,wilA,push_cast,reduceIte,reduceEqDiff,reduceAdd,reduceSub,reduceMul,Nat.reduceBEq,reduceLT,reduceLeDiff,reduceCtorEq,reduceToNat,reduceNeg]
 simp only [wilV,wilA,push_cast,reduceIte,reduceEqDiff,reduceAdd,reduceSub,reduceMul,Nat.reduceBEq,reduceLT,reduceLeDiff,reduceCtorEq,reduceToNat,reduceNeg]
 refine cond_of (fun e => ?_) fun e => ?_
 rotate_left
 ·rw [hB,decide_eq_false_iff_not] at e
  rw [hF,show min (l.length / 2) 40 = j by omega]
  exact ⟨⟨fun _ _ => trivial,fun _ _ => trivial,fun _ _ => trivial,fun _ _ => trivial⟩,.refl _,.refl _,.refl _,.refl _⟩
 rw [hB,decide_eq_true_eq] at e
 obtain ⟨e1,e2⟩ := e
 generalize wildN g l j = c at *
 have ht : (2 * (j : Int)).toNat = 2 * j := by omega
 have ht1 : (2 * (j : Int) + 1).toNat = 2 * j + 1 := by omega
 have hm : (0 <= l.getD (2 * j) 0 % (g.w * g.h) /\ l.getD (2 * j) 0 % (g.w * g.h) < g.w * g.h) := ⟨Int.emod_nonneg _ (by omega),Int.emod_lt_of_pos _ (by omega)⟩
 rw [stepW,hcast] at hst
 have hn0 : 0 <= (7 * (2 * (j : Int)) + l.getD (2 * j) 0) % (c.sel.length : Int) /\ (7 * (2 * (j : Int)) + l.getD (2 * j) 0) % (c.sel.length : Int) < c.sel.length := ⟨Int.emod_nonneg _ (by omega),Int.emod_lt_of_pos _ (by omega)⟩
 simp only [e0,ht,ht1,push_cast,reduceIte,reduceEqDiff,reduceAdd,reduceSub,reduceMul,Nat.reduceBEq,reduceLT,reduceLeDiff,reduceCtorEq,reduceToNat,reduceNeg]
 generalize hA : l.getD (2 * j) 0 = a at *
 generalize hC : l.getD (2 * j + 1) 0 = b at *
 refine ⟨by omega,by omega,by omega,by omega,by omega,by omega,?_⟩
 generalize (7 * (2 * (j : Int)) + a) % (c.sel.length : Int) = n at *
 refine cal_eq (rdrv_ok g hg n (by omega)) ?_
 simp only [e0,ht,ht1,hA,hC,push_cast,reduceIte,reduceEqDiff,reduceAdd,reduceSub,reduceMul,Nat.reduceBEq,reduceLT,reduceLeDiff,reduceCtorEq,reduceToNat,reduceNeg]
 have hdl := driversF_len g hg n
 rw [selW] at hst
 generalize (driversF g n).length = k at *
 generalize g.w * g.h = wh at *
 generalize a % wh = t at *
 have next : 2 * ((j : Int) + 1) = 2 * (j : Int) + 2 := by omega
 refine cond_dec (fun hk => ?_) fun hk => ?_
 ·rw [if_pos hk] at hst
  have hbk : 0 <= b % (k : Int) /\ b % (k : Int) < k := ⟨Int.emod_nonneg _ (by omega),Int.emod_lt_of_pos _ (by omega)⟩
  refine ⟨by omega,by omega,by omega,by omega,by omega,by omega,by omega,by omega,by omega,by omega,by omega,by omega,by omega,by omega,by omega,?_⟩
  refine cond_dec (fun h0 => ?_) fun h0 => ?_
  ·refine ⟨by omega,_,?_,j + 1,by omega,rfl,?_⟩
   ·omega
   ·rw [hst,tileW,if_pos h0]
    simp only [wilV,wilA,List.length_set,push_cast,reduceIte,reduceEqDiff,reduceAdd,reduceSub,reduceMul,Nat.reduceBEq,reduceLT,reduceLeDiff,reduceCtorEq,reduceToNat,reduceNeg]
    rw [next]
  refine ⟨by omega,by omega,by omega,by omega,cond_dec (fun h4 => ?_) fun h4 => ?_⟩
  ·refine ⟨by omega,by omega,by omega,by omega,by omega,by omega,by omega,by omega,by omega,by omega,by omega,?_⟩
   refine ⟨by omega,_,?_,j + 1,by omega,rfl,?_⟩
   ·omega
   ·rw [hst,tileW,if_neg h0,if_pos h4]
    simp only [wilV,wilA,List.length_set,push_cast,reduceIte,reduceEqDiff,reduceAdd,reduceSub,reduceMul,Nat.reduceBEq,reduceLT,reduceLeDiff,reduceCtorEq,reduceToNat,reduceNeg]
    rw [next]
  refine ⟨by omega,by omega,by omega,by omega,cond_dec (fun h5 => ?_) fun h5 => ?_⟩
  ·refine ⟨by omega,by omega,by omega,by omega,by omega,by omega,by omega,by omega,by omega,by omega,by omega,by omega,by omega,by omega,by omega,by omega,?_⟩
   refine ⟨by omega,_,?_,j + 1,by omega,rfl,?_⟩
   ·omega
   ·rw [hst,tileW,if_neg h0,if_neg h4,if_pos h5]
    simp only [wilV,wilA,List.length_set,push_cast,reduceIte,reduceEqDiff,reduceAdd,reduceSub,reduceMul,Nat.reduceBEq,reduceLT,reduceLeDiff,reduceCtorEq,reduceToNat,reduceNeg]
    rw [next]
  ·refine ⟨by omega,_,?_,j + 1,by omega,rfl,?_⟩
   ·omega
   ·rw [hst,tileW,if_neg h0,if_neg h4,if_neg h5]
    simp only [wilV,wilA,List.length_set,push_cast,reduceIte,reduceEqDiff,reduceAdd,reduceSub,reduceMul,Nat.reduceBEq,reduceLT,reduceLeDiff,reduceCtorEq,reduceToNat,reduceNeg]
    rw [next]
 ·rw [if_neg hk] at hst
  refine ⟨by omega,by omega,by omega,by omega,by omega,by omega,by omega,?_⟩
  refine cond_dec (fun h0 => ?_) fun h0 => ?_
  ·refine ⟨by omega,_,?_,j + 1,by omega,rfl,?_⟩
   ·omega
   ·rw [hst,tileW,if_pos h0]
    simp only [wilV,wilA,List.length_set,push_cast,reduceIte,reduceEqDiff,reduceAdd,reduceSub,reduceMul,Nat.reduceBEq,reduceLT,reduceLeDiff,reduceCtorEq,reduceToNat,reduceNeg]
    rw [next]
  refine ⟨by omega,by omega,by omega,by omega,cond_dec (fun h4 => ?_) fun h4 => ?_⟩
  ·refine ⟨by omega,by omega,by omega,by omega,by omega,by omega,by omega,by omega,by omega,by omega,by omega,?_⟩
   refine ⟨by omega,_,?_,j + 1,by omega,rfl,?_⟩
   ·omega
   ·rw [hst,tileW,if_neg h0,if_pos h4]
    simp only [wilV,wilA,List.length_set,push_cast,reduceIte,reduceEqDiff,reduceAdd,reduceSub,reduceMul,Nat.reduceBEq,reduceLT,reduceLeDiff,reduceCtorEq,reduceToNat,reduceNeg]
    rw [next]
  refine ⟨by omega,by omega,by omega,by omega,cond_dec (fun h5 => ?_) fun h5 => ?_⟩
  ·refine ⟨by omega,by omega,by omega,by omega,by omega,by omega,by omega,by omega,by omega,by omega,by omega,by omega,by omega,by omega,by omega,by omega,?_⟩
   refine ⟨by omega,_,?_,j + 1,by omega,rfl,?_⟩
   ·omega
   ·rw [hst,tileW,if_neg h0,if_neg h4,if_pos h5]
    simp only [wilV,wilA,List.length_set,push_cast,reduceIte,reduceEqDiff,reduceAdd,reduceSub,reduceMul,Nat.reduceBEq,reduceLT,reduceLeDiff,reduceCtorEq,reduceToNat,reduceNeg]
    rw [next]
  ·refine ⟨by omega,_,?_,j + 1,by omega,rfl,?_⟩
   ·omega
   ·rw [hst,tileW,if_neg h0,if_neg h4,if_neg h5]
    simp only [wilV,wilA,List.length_set,push_cast,reduceIte,reduceEqDiff,reduceAdd,reduceSub,reduceMul,Nat.reduceBEq,reduceLT,reduceLeDiff,reduceCtorEq,reduceToNat,reduceNeg]
    rw [next]
theorem getD_set (l : List Int) (i j : Nat) (v : Int) : (l.set i v).getD j 0 = if i = j /\ i < l.length then v else l.getD j 0 := by
 rw [List.getD_eq_getElem?_getD,List.getElem?_set,List.getD_eq_getElem?_getD]
 by_cases h : i = j
 ·subst h
  by_cases h2 : i < l.length <;> simp [h2]
 ·simp [h]
theorem selW_sel {g : Grid} {c : Cfg} {n b : Int} (hn : 0 <= n) (h : ∀ i,i < c.sel.length -> SelAt g c i) : ∀ i,i < c.sel.length -> SelAt g (selW g c n b) i := by
 intro i hi
 unfold selW
 split
 ·rename_i hk
  have hbk : 0 <= b % ((driversF g n).length : Int) /\ b % ((driversF g n).length : Int) < ((driversF g n).length : Int) := ⟨Int.emod_nonneg _ (by omega),Int.emod_lt_of_pos _ (by omega)⟩
  unfold SelAt
  simp only
  rw [getD_set]
  by_cases e : n.toNat = i /\ n.toNat < c.sel.length
  ·rw [if_pos e]
   intro _
   rw [show ((i : Nat) : Int) = n by omega]
   omega
  ·rw [if_neg e]
   exact h i hi
 ·exact h i hi
theorem tileW_selEq (g : Grid) (c : Cfg) (t : Nat) (b : Int) : (tileW g c t b).sel = c.sel := by
 unfold tileW
 split
 ·rfl
 ·split
  ·rfl
  ·split <;> rfl
theorem wildN_sel {g : Grid} (hg : GOk g) (l : List Int) : ∀ j,∀ i,i < (wildN g l j).sel.length -> SelAt g (wildN g l j) i
 | 0 => fun i hi h => absurd (by simp [wildN,blankF,List.getElem?_replicate] at hi ⊢; split <;> rfl) h
 | j + 1 => fun i hi => by
   have h1 := hg.count
   have h2 := (wildN_len g l j).1
   have h3 := (wildN_len g l (j + 1)).1
   have hn := Int.emod_nonneg (7 * ((2 * j : Nat) : Int) + l.getD (2 * j) 0) (show ((wildN g l j).sel.length : Int) ≠ 0 by omega)
   have := selW_sel (b := l.getD (2 * j + 1) 0) hn (wildN_sel hg l j) i (by omega)
   unfold SelAt at this ⊢
   show (tileW _ _ _ _).sel.getD _ _ ≠ 0 -> _
   rw [tileW_selEq]
   intro h4
   show 1 <= (tileW _ _ _ _).sel.getD _ _ /\ (tileW _ _ _ _).sel.getD _ _ <= _
   rw [tileW_selEq]
   exact this h4
theorem wild_sels {g : Grid} (hg : GOk g) (l : List Int) : SelsOk g (wildF g l) := ⟨(wildN_len g l _).1,wildN_sel hg l _⟩
def driverF (g : Grid) (c : Cfg) (n : Int) : Int := if c.sel.getD n.toNat 0 = 0 \/ ((driversF g n).length : Int) < c.sel.getD n.toNat 0 then -1 else (driversF g n).getD (c.sel.getD n.toNat 0 - 1).toNat 0
theorem driverF_sel {g : Grid} (hg : GOk g) {c : Cfg} (hc : SelsOk g c) {n : Int} (hn : 0 <= n /\ n < c.sel.length) (h : c.sel.getD n.toNat 0 ≠ 0) : driverF g c n = (driversF g n).getD (c.sel.getD n.toNat 0 - 1).toNat 0 /\ 0 <= driverF g c n /\ driverF g c n < c.sel.length := by
 have h1 := hg.count
 have h2 := hc.len
 have h3 := hc.sel n.toNat (by omega) h
 rw [show ((n.toNat : Nat) : Int) = n by omega] at h3
 have h4 : driverF g c n = (driversF g n).getD (c.sel.getD n.toNat 0 - 1).toNat 0 := if_neg (by omega)
 have h5 := driversF_rng hg n _ (getD_mem (l := driversF g n) (k := (c.sel.getD n.toNat 0 - 1).toNat) (by omega))
 rw [<- h4] at h5
 exact ⟨h4,by omega,by omega⟩
structure RawG.By (x : RawG) : Prop where
 w : 0 <= x.w /\ x.w <= 255
 h : 0 <= x.h /\ x.h <= 255
 tracks : 0 <= x.tracks /\ x.tracks <= 255
 pads : 0 <= x.pads /\ x.pads <= 255
 len : (x.kind.length : Int) <= 9223372036854775807
 kind : ∀ k ∈ x.kind,0 <= k /\ k <= 255
theorem RawG.By.ok {x : RawG} (h : x.By) : x.Ok := ⟨h.w,h.h,h.tracks,h.pads,h.len,h.kind⟩
theorem rowV_nil {a : List PV} (h : RowV [] a) : a = [] := List.length_eq_zero_iff.1 h.1
theorem rowV_cons {t : Ty} {ts : List Ty} {a : List PV} (h : RowV (t :: ts) a) : ∃ c r,a = c :: r /\ CellV t c /\ RowV ts r := by
 obtain ⟨h1,h2⟩ := h
 cases a with
 | nil => cases h1
 | cons c r => exact ⟨c,r,rfl,h2 0 t c rfl rfl,by simpa using h1,fun j t' c' ht hc => h2 (j + 1) t' c' ht hc⟩
theorem cellV_i {k : IntKind} {c : PV} (h : CellV (.i k) c) : ∃ n : Int,c = .sc (.int k n) /\ k.min <= n /\ n <= k.max := by
 cases h with | i k n h1 h2 => exact ⟨n,rfl,h1,h2⟩
theorem cellV_u8 {c : PV} (h : CellV (.i .u8) c) : ∃ n : Int,c = .sc (.int .u8 n) /\ 0 <= n /\ n <= 255 := by
 obtain ⟨n,h1,h2,h3⟩ := cellV_i h
 exact ⟨n,h1,h2,h3⟩
theorem cellV_i64 {c : PV} (h : CellV (.i .i64) c) : ∃ n : Int,c = .int n /\ -9223372036854775808 <= n /\ n <= 9223372036854775807 := by
 obtain ⟨n,h1,h2,h3⟩ := cellV_i h
 exact ⟨n,h1,h2,h3⟩
theorem cellV_sl {es : Nat} {ts : List Ty} {c : PV} (h : CellV (.sl es ts) c) : ∃ rs : List (List PV),c = .sl true es rs /\ rs.length <= maxLen /\ ∀ r ∈ rs,RowV ts r := by
 cases h with | sl es ts rs h1 h2 h3 => exact ⟨rs,rfl,h1,fun r hr => ⟨h2 r hr,h3 r hr⟩⟩
theorem rows_all {α : Type} {f : α -> List PV} {Q : α -> Prop} : ∀ {rs : List (List PV)},(∀ r ∈ rs,∃ x,r = f x /\ Q x) -> ∃ l : List α,rs = rows f l /\ ∀ x ∈ l,Q x
 | [],_ => ⟨[],rfl,fun x hx => by cases hx⟩
 | r :: rs, h => by
   obtain ⟨x,rfl,hx⟩ := h r (by simp)
   obtain ⟨l,rfl,hl⟩ := rows_all (f := f) (Q := Q) (rs := rs) fun r hr => h r (by simp [hr])
   refine ⟨x :: l,rfl,fun y hy => ?_⟩
   rcases List.mem_cons.1 hy with rfl | hy
   ·exact hx
   ·exact hl y hy
theorem cellV_bytes {c : PV} (h : CellV (.sl 1 [.i .u8]) c) : ∃ l : List Int,c = .sl true 1 (bytes8 l) /\ (l.length : Int) <= 9223372036854775807 /\ ∀ b ∈ l,0 <= b /\ b <= 255 := by
 obtain ⟨rs,rfl,h1,h2⟩ := cellV_sl h
 obtain ⟨l,rfl,hl⟩ := rows_all (f := fun x : Int => [PV.sc (.int .u8 x)]) (Q := fun b => 0 <= b /\ b <= 255) (rs := rs) fun r hr => by
  obtain ⟨c,q,rfl,hc,h3⟩ := rowV_cons (h2 r hr)
  obtain ⟨n,rfl,hn⟩ := cellV_u8 hc
  rw [rowV_nil h3]
  exact ⟨n,rfl,hn⟩
 simp only [rows,List.length_map] at h1
 have : maxLen = 9223372036854775807 := rfl
 exact ⟨l,rfl,by omega,hl⟩
theorem cellV_ints {c : PV} (h : CellV (.sl 1 [.i .i64]) c) : ∃ l : List Int,c = .sl true 1 (ints l) /\ ∀ b ∈ l,-9223372036854775808 <= b /\ b <= 9223372036854775807 := by
 obtain ⟨rs,rfl,_,h2⟩ := cellV_sl h
 obtain ⟨l,rfl,hl⟩ := rows_all (f := fun x : Int => [PV.int x]) (Q := fun b => -9223372036854775808 <= b /\ b <= 9223372036854775807) (rs := rs) fun r hr => by
  obtain ⟨c,q,rfl,hc,h3⟩ := rowV_cons (h2 r hr)
  obtain ⟨n,rfl,hn⟩ := cellV_i64 hc
  rw [rowV_nil h3]
  exact ⟨n,rfl,hn⟩
 exact ⟨l,rfl,hl⟩
def seenB (L : Nat) (sn : List Int) : List Bool := (List.range L).map fun (i : Nat) => decide ((i : Int) ∈ sn)
theorem seenB_len (L : Nat) (sn : List Int) : (seenB L sn).length = L := by simp [seenB]
theorem seenB_get {L : Nat} {sn : List Int} {x : Int} (hx : 0 <= x /\ x < L) (d : Bool) : (seenB L sn).getD x.toNat d = decide (x ∈ sn) := by
 rw [List.getD_eq_getElem?_getD,seenB,List.getElem?_map,List.getElem?_range (by omega)]
 simp only [Option.map_some,Option.getD_some]
 rw [show ((x.toNat : Nat) : Int) = x by omega]
theorem seenB_set {L : Nat} {sn : List Int} {x : Int} (hx : 0 <= x /\ x < L) : (seenB L sn).set x.toNat true = seenB L (sn ++ [x]) := by
 refine List.ext_getElem? fun i => ?_
 rw [List.getElem?_set]
 by_cases h : i < L
 ·by_cases e : x.toNat = i
  ·subst e
   simp [seenB,h]
   omega
  ·simp [seenB,h,e]
   omega
 ·simp [seenB,h]
  omega
theorem seenB_nil (L : Nat) : List.replicate L false = seenB L [] := by
 refine List.ext_getElem? fun i => ?_
 by_cases h : i < L <;> simp [seenB,h]
def indexF (l : List Int) (n : Int) : Int := if n ∈ l then (l.idxOf n : Nat) else -1
theorem idxOf_at {n : Int} : ∀ {l : List Int} {k : Nat},k < l.length -> l.getD k 0 = n -> (∀ i,i < k -> l.getD i 0 ≠ n) -> l.idxOf n = k
 | x :: l,0,_,h,_ => by simp at h; simp [h]
 | x :: l, k + 1, hk, h, h2 => by
   have h0 : x ≠ n := by simpa using h2 0 (by omega)
   have := idxOf_at (l := l) (k := k) (by simpa using hk) (by simpa using h) fun i hi => by simpa using h2 (i + 1) (by omega)
   rw [List.idxOf_cons,this,show (x == n) = false from beq_false_of_ne h0]
   rfl
theorem index_ok (l : List Int) (hl : (l.length : Int) <= 1000000000) (n : Int) : FnEq Try.prog 38 [.sl false 1 (ints l),.int n] (.int (indexF l n)) := by
 refine FnEq.of_awp Try.func38 ok38 (by show 2 <= _; decide) (by simp only [push_cast,reduceIte,reduceEqDiff,reduceAdd,reduceSub,reduceMul,Nat.reduceBEq,reduceLT,reduceLeDiff,reduceCtorEq,reduceToNat,reduceNeg] <;> first | exact fun _ _ => trivial | simp) ?_
 simp only [ac38,rv38,push_cast,reduceIte,reduceEqDiff,reduceAdd,reduceSub,reduceMul,Nat.reduceBEq,reduceLT,reduceLeDiff,reduceCtorEq,reduceToNat,reduceNeg]
 have e0 : ∀ (l : List Int) (j : Nat),l.getD j default = l.getD j 0 := fun _ _ => rfl
 refine loop_of (fun m st => ∃ k : Nat,k <= l.length /\ m = l.length - k /\ (∀ i,i < k -> l.getD i 0 ≠ n) /\ st = ⟨[(0,.sl false 1 (ints l)),(1,.int n),(5,.int k)],[],[],[]⟩) l.length ?_ ?_
 ·refine ⟨0,by omega,by omega,fun i hi => by omega,?_⟩
  exact sC
 rintro m st ⟨k,hk,rfl,hP,rfl⟩
 simp only [e0,push_cast,reduceIte,reduceEqDiff,reduceAdd,reduceSub,reduceMul,Nat.reduceBEq,reduceLT,reduceLeDiff,reduceCtorEq,reduceToNat,reduceNeg]
 refine cond_dec (fun h => ⟨by omega,by omega,cond_dec (fun h2 => ?_) fun h2 => ?_⟩) fun h => ?_
 ·have hm : n ∈ l := h2 ▸ getD_mem (by omega)
  rw [indexF,if_pos hm,idxOf_at (k := k) (by omega) h2 hP]
 ·refine ⟨by omega,_,?_,k + 1,by omega,rfl,?_,?_⟩
  ·omega
  ·intro i hi
   by_cases e : i = k
   ·rw [e]; exact h2
   ·exact hP i (by omega)
  ·exact sC
 ·have hm : n ∉ l := fun hm => by
   obtain ⟨i,hi,e⟩ := List.getElem_of_mem hm
   refine hP i (by omega) ?_
   simp [hi,e]
  rw [indexF,if_neg hm]
def BlockFit (g : Grid) (b : Block) (t : Int) : Prop := ((0 <= t /\ t < g.kind.length) /\ g.kind.getD t.toNat 0 ≠ 0 /\ ¬ (g.kind.getD t.toNat 0 = 1 /\ b.ram ≠ -1)) /\
 ((0 <= b.table /\ b.table <= 65535) /\ (-1 <= b.ram /\ b.ram <= 255) /\ (-1 <= b.reg /\ b.reg <= 255)) /\ (b.ram = -1 \/ b.reg = -1)
instance (g : Grid) (b : Block) (t : Int) : Decidable (BlockFit g b t) := by unfold BlockFit; infer_instance
set_option maxHeartbeats 4000000 in
theorem rblock_ok (g : Grid) (hg : GOk g) (b : Block) (t : Int) : FnEq Try.prog 52 [.agg (gridC false g),.agg (blockC false b),.int t] (.bool (decide (BlockFit g b t))) := by
 have hk := hg.kind
 have hw := hg.wh
 refine FnEq.of_awp Try.func52 ok52 (by show 3 <= _; decide) (by simp only [push_cast,reduceIte,reduceEqDiff,reduceAdd,reduceSub,reduceMul,Nat.reduceBEq,reduceLT,reduceLeDiff,reduceCtorEq,reduceToNat,reduceNeg] <;> first | exact fun _ _ => trivial | simp) ?_
 simp only [ac52,rv52,push_cast,reduceIte,reduceEqDiff,reduceAdd,reduceSub,reduceMul,Nat.reduceBEq,reduceLT,reduceLeDiff,reduceCtorEq,reduceToNat,reduceNeg]
 have e0 : ∀ (l : List Int) (j : Nat),l.getD j default = l.getD j 0 := fun _ _ => rfl
 obtain ⟨B,hB⟩ : ∃ B,B = decide (¬ ((0 <= t /\ t < g.kind.length) /\ g.kind.getD t.toNat 0 ≠ 0 /\ ¬ (g.kind.getD t.toNat 0 = 1 /\ b.ram ≠ -1))) := ⟨_,rfl⟩
 refine cut_of ⟨[(4,.ptr 4 0),(38,.bool B)],[(3,gridC false g),(4,blockC false b)],[],[]⟩ ?_ ?_
 ·generalize hx : g.kind.getD t.toNat 0 = x at *
  repeat' (first
   | (refine grd_decf rfl (fun _ => ?_) fun _ => ?_ <;> simp only [e0,hx,<- hk,push_cast,reduceIte,reduceEqDiff,reduceAdd,reduceSub,reduceMul,Nat.reduceBEq,reduceLT,reduceLeDiff,reduceCtorEq,reduceToNat,reduceNeg])
   | (refine grd_dec rfl (fun _ => ?_) fun _ => ?_ <;> simp only [e0,hx,<- hk,push_cast,reduceIte,reduceEqDiff,reduceAdd,reduceSub,reduceMul,Nat.reduceBEq,reduceLT,reduceLeDiff,reduceCtorEq,reduceToNat,reduceNeg])
   | (refine And.intro (by omega) ?_; try simp only [e0,hx,<- hk,push_cast,reduceIte,reduceEqDiff,reduceAdd,reduceSub,reduceMul,Nat.reduceBEq,reduceLT,reduceLeDiff,reduceCtorEq,reduceToNat,reduceNeg]))
  all_goals first
   | (rw [show B = true from by rw [hB]; exact decide_eq_true (by omega)]; done)
   | (rw [show B = false from by rw [hB]; exact decide_eq_false (by omega)]; done)
   | (rw [show B = decide (b.ram ≠ -1) from by rw [hB,decide_eq_decide]; omega]; done)
   | (rw [show B = decide (x = 0) from by rw [hB,decide_eq_decide]; omega]; done)
   | skip
 simp only [e0,push_cast,reduceIte,reduceEqDiff,reduceAdd,reduceSub,reduceMul,Nat.reduceBEq,reduceLT,reduceLeDiff,reduceCtorEq,reduceToNat,reduceNeg]
 refine cond_of (fun e => ?_) fun e => ?_
 ·rw [hB,decide_eq_true_eq] at e
  rw [decide_eq_false fun h => e h.1]
 rw [hB,decide_eq_false_iff_not,Classical.not_not] at e
 obtain ⟨C,hC⟩ : ∃ C,C = decide (BlockFit g b t) := ⟨_,rfl⟩
 have hBF : BlockFit g b t ↔ ((0 <= b.table /\ b.table <= 65535) /\ (-1 <= b.ram /\ b.ram <= 255) /\ (-1 <= b.reg /\ b.reg <= 255)) /\ (b.ram = -1 \/ b.reg = -1) := ⟨fun h => h.2,fun h => ⟨e,h⟩⟩
 rw [<- hC]
 clear e hB
 repeat' (first
  | (refine grd_decf rfl (fun _ => ?_) fun _ => ?_ <;> simp only [push_cast,reduceIte,reduceEqDiff,reduceAdd,reduceSub,reduceMul,Nat.reduceBEq,reduceLT,reduceLeDiff,reduceCtorEq,reduceToNat,reduceNeg])
  | (refine grd_dec rfl (fun _ => ?_) fun _ => ?_ <;> simp only [push_cast,reduceIte,reduceEqDiff,reduceAdd,reduceSub,reduceMul,Nat.reduceBEq,reduceLT,reduceLeDiff,reduceCtorEq,reduceToNat,reduceNeg]))
 all_goals first
  | (rw [show C = true from by rw [hC]; exact decide_eq_true (hBF.2 (by omega))]; done)
  | (rw [show C = false from by rw [hC]; exact decide_eq_false fun h => by have := hBF.1 h; omega]; done)
  | (rw [show C = decide (b.reg = -1) from by rw [hC,decide_eq_decide,hBF]; omega]; done)
  | skip
def SrcK (s : Spot) : Prop := s.kind = 1 \/ s.kind = 2 \/ s.kind = 6
instance (s : Spot) : Decidable (SrcK s) := by unfold SrcK; infer_instance
def srcsF (g : Grid) : List Int := idxF (fun k => decide (SrcK (descF g k))) (countF g).toNat
theorem idxF_mem (p : Nat -> Bool) (x : Int) : ∀ k,x ∈ idxF p k ↔ ∃ i,i < k /\ p i = true /\ x = (i : Int)
 | 0 => by simp [idxF]
 | k + 1 => by
   rw [idxF,List.mem_append,idxF_mem p x k]
   constructor
   ·rintro (⟨i,h1,h2,h3⟩ | h)
    ·exact ⟨i,by omega,h2,h3⟩
    ·split at h
     ·rename_i hp
      exact ⟨k,by omega,hp,by simpa using h⟩
     ·simp at h
   ·rintro ⟨i,h1,h2,h3⟩
    by_cases e : i = k
    ·subst e
     rw [if_pos h2]
     exact .inr (by simp [h3])
    ·exact .inl ⟨i,by omega,h2,h3⟩
set_option maxHeartbeats 2000000 in
theorem rsources_ok (g : Grid) (hg : GOk g) : FnEq Try.prog 53 [.agg (gridC false g)] (.sl true 1 (ints (srcsF g))) := by
 have h3 := hg.count
 obtain ⟨c,hc⟩ : ∃ c : Nat,countF g = c := ⟨(countF g).toNat,by omega⟩
 have hct : (countF g).toNat = c := by omega
 rw [srcsF,hct]
 refine FnEq.of_awp Try.func53 ok53 (by show 1 <= _; decide) (by simp only [push_cast,reduceIte,reduceEqDiff,reduceAdd,reduceSub,reduceMul,Nat.reduceBEq,reduceLT,reduceLeDiff,reduceCtorEq,reduceToNat,reduceNeg] <;> first | exact fun _ _ => trivial | simp) ?_
 simp only [ac53,rv53,push_cast,reduceIte,reduceEqDiff,reduceAdd,reduceSub,reduceMul,Nat.reduceBEq,reduceLT,reduceLeDiff,reduceCtorEq,reduceToNat,reduceNeg]
 refine loop_of (fun m st => ∃ k : Nat,k <= c /\ m = c - k /\ st = ⟨[(1,.ptr 1 0),(3,.view 6 0 (idxF (fun k => decide (SrcK (descF g k))) k).length),(4,.int k)],[(1,gridC false g)],[(6,⟨1,3,ints (idxF (fun k => decide (SrcK (descF g k))) k)⟩)],[]⟩) c ?_ ?_
 ·refine ⟨0,by omega,by omega,?_⟩
  simp only [idxF,push_cast,reduceIte,reduceEqDiff,reduceAdd,reduceSub,reduceMul,Nat.reduceBEq,reduceLT,reduceLeDiff,reduceCtorEq,reduceToNat,reduceNeg]
  rfl
 rintro m st ⟨k,hk,rfl,rfl⟩
 have hlen := idxF_len (fun k => decide (SrcK (descF g k))) k
 have hs : idxF (fun k => decide (SrcK (descF g k))) (k + 1) = idxF (fun k => decide (SrcK (descF g k))) k ++ if SrcK (descF g k) then [(k : Int)] else [] := by rw [idxF]; simp only [decide_eq_true_eq]
 generalize hL : idxF (fun k => decide (SrcK (descF g k))) k = L at hlen hs ⊢
 refine sB ?_
 refine cal_sub (rcount_ok g hg) sC ?_
 rw [hc]
 refine sB ?_
 refine cond_dec (fun h => ?_) fun h => ?_
 ·have hk2 : ¬ ((k : Int) < 0 \/ countF g <= k) := by omega
  have ek : descE g k = (descF g k,0) := by rw [descE,if_neg hk2]
  have hDk := rdesc_ok g hg k (by omega)
  rw [ek] at hDk
  refine cal_sub hDk sC ?_
  simp only [spottedC,push_cast,reduceIte,reduceEqDiff,reduceAdd,reduceSub,reduceMul,Nat.reduceBEq,reduceLT,reduceLeDiff,reduceCtorEq,reduceToNat,reduceNeg]
  generalize descF g k = s at hs ⊢
  obtain ⟨B,hB⟩ : ∃ B,B = decide (SrcK s) := ⟨_,rfl⟩
  have hSK : SrcK s ↔ s.kind = 1 \/ s.kind = 2 \/ s.kind = 6 := Iff.rfl
  refine cut_of ⟨[(1,.ptr 1 0),(3,.view 6 0 L.length),(4,.int k),(27,.bool B)],[(1,gridC false g)],[(6,⟨1,3,ints L⟩)],[]⟩ ?_ ?_
  ·repeat' (first
    | (refine grd_decf rfl (fun _ => ?_) fun _ => ?_ <;> simp only [push_cast,reduceIte,reduceEqDiff,reduceAdd,reduceSub,reduceMul,Nat.reduceBEq,reduceLT,reduceLeDiff,reduceCtorEq,reduceToNat,reduceNeg])
    | (refine grd_dec rfl (fun _ => ?_) fun _ => ?_ <;> simp only [push_cast,reduceIte,reduceEqDiff,reduceAdd,reduceSub,reduceMul,Nat.reduceBEq,reduceLT,reduceLeDiff,reduceCtorEq,reduceToNat,reduceNeg]))
   all_goals first
    | (rw [show B = true from by rw [hB]; exact decide_eq_true (hSK.2 (by omega))]; done)
    | (rw [show B = decide (s.kind = 6) from by rw [hB,decide_eq_decide,hSK]; omega]; done)
  refine sB ?_
  refine cond_of (fun e => ?_) fun e => ?_
  ·rw [hB,decide_eq_true_eq] at e
   rw [if_pos e] at hs
   refine ⟨by simp,by omega,by omega,_,?_,k + 1,by omega,rfl,?_⟩
   ·omega
   ·rw [hs]
    simp
  ·rw [hB,decide_eq_false_iff_not] at e
   rw [if_neg e,List.append_nil] at hs
   refine ⟨by omega,_,?_,k + 1,by omega,rfl,?_⟩
   ·omega
   ·rw [hs]
    simp
 ·rw [show c = k by omega,hL]
  exact ⟨fun _ _ => trivial,.refl _⟩
def drvnN (g : Grid) (s : Spot) (k : Nat) : List Int := idxF (fun i => decide (CanD g s (descF g i))) k
def drvnF (g : Grid) (n : Int) : List Int := if (descE g n).2 = 0 then drvnN g (descE g n).1 (countF g).toNat else []
set_option maxHeartbeats 2000000 in
theorem driven_ok (g : Grid) (hg : GOk g) (n : Int) (hn : 0 <= n /\ n < countF g) : FnEq Try.prog 54 [.agg (gridC false g),.int n] (.sl true 1 (ints (drvnF g n))) := by
 have h3 := hg.count
 have hD := rdesc_ok g hg n (by omega)
 obtain ⟨c,hc⟩ : ∃ c : Nat,countF g = c := ⟨(countF g).toNat,by omega⟩
 have hct : (countF g).toNat = c := by omega
 have hE : ¬ (n < 0 \/ countF g <= n) := by omega
 have e : descE g n = (descF g n,0) := by rw [descE,if_neg hE]
 obtain ⟨r1,_⟩ := desc_rng hg hE
 have e2 : drvnF g n = drvnN g (descF g n) c := by rw [drvnF,e,hct]; rfl
 rw [e2]
 rw [e] at hD
 clear e e2 hE
 refine FnEq.of_awp Try.func54 ok54 (by show 2 <= _; decide) (by simp only [push_cast,reduceIte,reduceEqDiff,reduceAdd,reduceSub,reduceMul,Nat.reduceBEq,reduceLT,reduceLeDiff,reduceCtorEq,reduceToNat,reduceNeg] <;> first | exact fun _ _ => trivial | simp) ?_
 simp only [ac54,rv54,push_cast,reduceIte,reduceEqDiff,reduceAdd,reduceSub,reduceMul,Nat.reduceBEq,reduceLT,reduceLeDiff,reduceCtorEq,reduceToNat,reduceNeg]
 refine cal_sub hD sC ?_
 simp only [spottedC,push_cast,reduceIte,reduceEqDiff,reduceAdd,reduceSub,reduceMul,Nat.reduceBEq,reduceLT,reduceLeDiff,reduceCtorEq,reduceToNat,reduceNeg]
 generalize descF g n = s at r1 ⊢
 refine loop_of (fun m st => ∃ k : Nat,k <= c /\ m = c - k /\ st = ⟨[(2,.ptr 2 0),(5,.view 8 0 (drvnN g s k).length),(6,.ptr 6 0),(7,.int k)],[(2,gridC false g),(6,[.int s.kind,.int s.x,.int s.y,.int s.i,.int 0])],[(8,⟨1,3,ints (drvnN g s k)⟩)],[]⟩) c ?_ ?_
 ·refine ⟨0,by omega,by omega,?_⟩
  refine sB ?_
  rfl
 rintro m st ⟨k,hk,rfl,rfl⟩
 have hlen : (drvnN g s k).length <= k := idxF_len _ k
 have hs : drvnN g s (k + 1) = drvnN g s k ++ if CanD g s (descF g k) then [(k : Int)] else [] := by rw [drvnN,idxF]; simp only [decide_eq_true_eq]; rfl
 generalize hL : drvnN g s k = L at hlen hs ⊢
 refine sB ?_
 refine cal_sub (rcount_ok g hg) sC ?_
 rw [hc]
 refine sB ?_
 refine cut_of ⟨[(2,.ptr 2 0),(5,.view 8 0 L.length),(6,.ptr 6 0),(7,.int k),(20,.bool (decide (k < c)))],[(2,gridC false g),(6,[.int s.kind,.int s.x,.int s.y,.int s.i,.int 0])],[(8,⟨1,3,ints L⟩)],[]⟩ ?_ ?_
 ·refine grd_dec rfl (fun h => ?_) fun h => ?_ <;> refine sB ?_
  ·rw [decide_eq_true (show k < c by omega)]
  ·rw [decide_eq_false (show ¬ k < c by omega)]
 refine sB ?_
 refine cond_dec (fun h => ?_) fun h => ?_
 ·have hk2 : ¬ ((k : Int) < 0 \/ countF g <= k) := by omega
  have ek : descE g k = (descF g k,0) := by rw [descE,if_neg hk2]
  have hDk := rdesc_ok g hg k (by omega)
  rw [ek] at hDk
  obtain ⟨q1,_⟩ := desc_rng hg hk2
  refine dcal_sub hDk sC rfl ?_
  simp only [spottedC,push_cast,reduceIte,reduceEqDiff,reduceAdd,reduceSub,reduceMul,Nat.reduceBEq,reduceLT,reduceLeDiff,reduceCtorEq,reduceToNat,reduceNeg]
  refine cal_sub (can_ok g hg s (descF g k) r1 q1) sC ?_
  refine sB ?_
  refine cond_dec (fun h2 => ?_) fun h2 => ?_
  ·rw [if_pos h2] at hs
   refine ⟨by simp,by omega,by omega,_,?_,k + 1,by omega,rfl,?_⟩
   ·omega
   ·rw [hs]
    simp
  ·rw [if_neg h2,List.append_nil] at hs
   refine ⟨by omega,_,?_,k + 1,by omega,rfl,?_⟩
   ·omega
   ·rw [hs]
    simp
 ·rw [show c = k by omega,hL]
  exact ⟨fun _ _ => trivial,.refl _⟩
theorem srcsF_mem {g : Grid} (hg : GOk g) (x : Int) : x ∈ srcsF g ↔ (0 <= x /\ x < countF g) /\ SrcK (descF g x) := by
 have := hg.count
 rw [srcsF,idxF_mem]
 constructor
 ·rintro ⟨i,h1,h2,rfl⟩
  exact ⟨by omega,of_decide_eq_true h2⟩
 ·rintro ⟨h1,h2⟩
  exact ⟨x.toNat,by omega,decide_eq_true (by rw [show ((x.toNat : Nat) : Int) = x by omega]; exact h2),by omega⟩
theorem drvnF_mem {g : Grid} (hg : GOk g) {n : Int} (hn : 0 <= n /\ n < countF g) (x : Int) : x ∈ drvnF g n ↔ (0 <= x /\ x < countF g) /\ CanD g (descF g n) (descF g x) := by
 have := hg.count
 have e : descE g n = (descF g n,0) := by rw [descE,if_neg (by omega)]
 rw [drvnF,e,if_pos rfl,drvnN,idxF_mem]
 constructor
 ·rintro ⟨i,h1,h2,rfl⟩
  exact ⟨by omega,of_decide_eq_true h2⟩
 ·rintro ⟨h1,h2⟩
  exact ⟨x.toNat,by omega,decide_eq_true (by rw [show ((x.toNat : Nat) : Int) = x by omega]; exact h2),by omega⟩
theorem srcsF_ne {g : Grid} (hg : GOk g) : srcsF g ≠ [] := by
 have h1 := hg.count
 have h2 := hg.all
 have h3 := hg.pads
 have h4 := hg.each
 have h5 := hg.tracks
 have : (0 : Int) ∈ srcsF g := by
  rw [srcsF_mem hg]
  refine ⟨by omega,.inl ?_⟩
  rw [descF,if_neg (by omega),if_neg (by omega)]
  have hz : (0 : Int) % eachI g = 0 := Int.zero_emod _
  dsimp only
  rw [hz,if_neg (by omega),if_neg (by omega),if_neg (by omega),if_neg (by omega)]
 intro e
 rw [e] at this
 simp at this
def growS (g : Grid) (sn : List Int) (a : List Int × List Int) (b : Int) : List Int × List Int :=
 if a.1 = [] then
  if (srcsF g).getD (b % ((srcsF g).length : Int)).toNat 0 ∈ sn then a else ([(srcsF g).getD (b % ((srcsF g).length : Int)).toNat 0],[-1])
 else
  let f := (a.1.length : Int) - 1 - b / 64 % (a.1.length : Int)
  let d := drvnF g (a.1.getD f.toNat 0)
  if d = [] then a
  else
   let n := d.getD (b % 64 % (d.length : Int)).toNat 0
   if n ∉ sn /\ n ∉ a.1 then (a.1 ++ [n],a.2 ++ [f]) else a
def growN (g : Grid) (sn l : List Int) : Nat -> List Int × List Int
 | 0 => ([],[])
 | k + 1 => growS g sn (growN g sn l k) (l.getD k 0)
def growF (g : Grid) (sn l : List Int) : Route := ⟨0,(growN g sn l (min l.length 16)).1,(growN g sn l (min l.length 16)).2⟩
structure GrOk (g : Grid) (a : List Int × List Int) : Prop where
 len : a.2.length = a.1.length
 rng : ∀ x ∈ a.1,0 <= x /\ x < countF g
theorem growS_ok {g : Grid} (hg : GOk g) {sn : List Int} {a : List Int × List Int} {b : Int} (hb : 0 <= b /\ b <= 255) (h : GrOk g a) : GrOk g (growS g sn a b) /\ (growS g sn a b).1.length <= a.1.length + 1 := by
 obtain ⟨h1,h2⟩ := h
 have hse := List.length_pos_iff.2 (srcsF_ne hg)
 unfold growS
 split
 ·rename_i e
  split
  ·exact ⟨⟨h1,h2⟩,by omega⟩
  ·refine ⟨⟨rfl,fun x hx => ?_⟩,by simp⟩
   rw [List.mem_singleton] at hx
   subst hx
   have hm : (srcsF g).getD (b % ((srcsF g).length : Int)).toNat 0 ∈ srcsF g := getD_mem (by have := Int.emod_lt_of_pos b (show 0 < ((srcsF g).length : Int) by omega); have := Int.emod_nonneg b (show ((srcsF g).length : Int) ≠ 0 by omega); omega)
   exact ((srcsF_mem hg _).1 hm).1
 ·rename_i e
  have hlp := List.length_pos_iff.2 e
  simp only
  have q1 := Int.emod_lt_of_pos (b / 64) (show 0 < (a.1.length : Int) by omega)
  have q2 := Int.emod_nonneg (b / 64) (show (a.1.length : Int) ≠ 0 by omega)
  generalize b / 64 % (a.1.length : Int) = q at *
  have hx := h2 _ (getD_mem (l := a.1) (k := ((a.1.length : Int) - 1 - q).toNat) (by omega))
  generalize a.1.getD ((a.1.length : Int) - 1 - q).toNat 0 = x at *
  split
  ·exact ⟨⟨h1,h2⟩,by omega⟩
  ·rename_i e2
   have hdp := List.length_pos_iff.2 e2
   split
   ·refine ⟨⟨by simp [h1],fun y hy => ?_⟩,by simp⟩
    rw [List.mem_append,List.mem_singleton] at hy
    rcases hy with hy | rfl
    ·exact h2 y hy
    ·have hm : (drvnF g x).getD (b % 64 % ((drvnF g x).length : Int)).toNat 0 ∈ drvnF g x := getD_mem (by have := Int.emod_lt_of_pos (b % 64) (show 0 < ((drvnF g x).length : Int) by omega); have := Int.emod_nonneg (b % 64) (show ((drvnF g x).length : Int) ≠ 0 by omega); omega)
     exact ((drvnF_mem hg hx _).1 hm).1
   ·exact ⟨⟨h1,h2⟩,by omega⟩
theorem growN_ok {g : Grid} (hg : GOk g) (sn l : List Int) (hb : ∀ x ∈ l,0 <= x /\ x <= 255) : ∀ k,GrOk g (growN g sn l k) /\ (growN g sn l k).1.length <= k
 | 0 => ⟨⟨rfl,by simp [growN]⟩,by simp [growN]⟩
 | k + 1 => by
   have hbk : 0 <= l.getD k 0 /\ l.getD k 0 <= 255 := by
    by_cases h : k < l.length
    ·exact hb _ (getD_mem h)
    ·rw [List.getD_eq_getElem?_getD,List.getElem?_eq_none (by omega)]; decide
   obtain ⟨h1,h2⟩ := growN_ok hg sn l hb k
   obtain ⟨h3,h4⟩ := growS_ok hg (sn := sn) hbk h1
   exact ⟨h3,by rw [growN]; omega⟩
def grA (ns fr : List Int) : List (Nat × Arr) := laN 51 ns ++ laN 56 fr
set_option maxHeartbeats 4000000 in
theorem grown_ok (g : Grid) (hg : GOk g) (sn l : List Int) (hl : (l.length : Int) <= 9223372036854775807) (hb : ∀ x ∈ l, 0 <= x /\ x <= 255) :
  FnEq Try.prog 35 [.agg (gridC false g),.sl false 1 (rows boolC (seenB (countF g).toNat sn)),.sl false 1 (bytes8 l)] (.agg (routeC true (growF g sn l))) := by
 have h1 := hg.count
 have hse := List.length_pos_iff.2 (srcsF_ne hg)
 have hsb : (srcsF g).length <= (countF g).toNat := idxF_len _ _
 refine FnEq.of_awp Try.func35 ok35 (by show 3 <= _; decide) (by simp only [push_cast,reduceIte,reduceEqDiff,reduceAdd,reduceSub,reduceMul,Nat.reduceBEq,reduceLT,reduceLeDiff,reduceCtorEq,reduceToNat,reduceNeg] <;> first | exact fun _ _ => trivial | simp) ?_
 simp only [ac35,rv35,push_cast,reduceIte,reduceEqDiff,reduceAdd,reduceSub,reduceMul,Nat.reduceBEq,reduceLT,reduceLeDiff,reduceCtorEq,reduceToNat,reduceNeg]
 refine cal_sub (rsources_ok g hg) sC ?_
 refine sB ?_
 refine loop_of (fun m st => ∃ k : Nat,k <= min l.length 16 /\ m = min l.length 16 - k /\ st = ⟨[(1,.sl false 1 (rows boolC (seenB (countF g).toNat sn))),(2,.sl false 1 (bytes8 l)),(3,.ptr 3 0),(6,.ptr 6 0),(7,.sl true 1 (ints (srcsF g))),(8,.ptr 8 0),(9,.int k)],
  [(3,gridC false g),(6,[.int 0,.nil,.nil]),(8,[.int 0,lvN 51 (growN g sn l k).1,lvN 56 (growN g sn l k).2])],grA (growN g sn l k).1 (growN g sn l k).2,[]⟩) (min l.length 16) ?_ ?_
 ·refine ⟨0,by omega,by omega,?_⟩
  simp only [growN,grA,List.nil_append,push_cast,reduceIte,reduceEqDiff,reduceAdd,reduceSub,reduceMul,Nat.reduceBEq,reduceLT,reduceLeDiff,reduceCtorEq,reduceToNat,reduceNeg]
 rintro m st ⟨k,hk,rfl,rfl⟩
 obtain ⟨⟨q1,q2⟩,q3⟩ := growN_ok hg sn l hb k
 have hS : growN g sn l (k + 1) = growS g sn (growN g sn l k) (l.getD k 0) := rfl
 have hF : growF g sn l = ⟨0,(growN g sn l (min l.length 16)).1,(growN g sn l (min l.length 16)).2⟩ := rfl
 have e0 : ∀ (l : List Int) (j : Nat),l.getD j default = l.getD j 0 := fun _ _ => rfl
 have hbk : 0 <= l.getD k 0 /\ l.getD k 0 <= 255 := by
  by_cases h : k < l.length
  ·exact hb _ (getD_mem h)
  ·rw [List.getD_eq_getElem?_getD,List.getElem?_eq_none (by omega)]; decide
 obtain ⟨B,hB⟩ : ∃ B,B = decide (k < l.length /\ k < 16) := ⟨_,rfl⟩
 rcases ha : growN g sn l k with ⟨ns,fr⟩
 rw [ha] at q1 q2 q3 hS
 simp only at q1 q2 q3 ⊢
 rcases ns with _ | ⟨x,ns⟩
 ·obtain rfl : fr = [] := List.length_eq_zero_iff.1 q1
  simp only [grA,push_cast,reduceIte,reduceEqDiff,reduceAdd,reduceSub,reduceMul,Nat.reduceBEq,reduceLT,reduceLeDiff,reduceCtorEq,reduceToNat,reduceNeg]
  refine cut_of ⟨[(1,.sl false 1 (rows boolC (seenB (countF g).toNat sn))),(2,.sl false 1 (bytes8 l)),(3,.ptr 3 0),(6,.ptr 6 0),(7,.sl true 1 (ints (srcsF g))),(8,.ptr 8 0),(9,.int k),(24,.bool B)],
   [(3,gridC false g),(6,[.int 0,.nil,.nil]),(8,[.int 0,.nil,.nil])],[],[]⟩ ?_ ?_
  ·refine grd_dec rfl (fun e1 => ?_) fun e1 => ?_ <;> refine sB ?_
   ·rw [show B = decide ((k : Int) < 16) from by rw [hB,decide_eq_decide]; omega]
   ·rw [show B = false from by rw [hB]; exact decide_eq_false (by omega)]
  refine sB ?_
  refine cond_of (fun e => ?_) fun e => ?_
  rotate_left
  ·rw [hB,decide_eq_false_iff_not] at e
   rw [hF,show min l.length 16 = k by omega,ha]
   exact sC
  rw [hB,decide_eq_true_eq] at e
  obtain ⟨e1,e2⟩ := e
  have ht1 := Int.emod_nonneg (l.getD k 0) (show ((srcsF g).length : Int) ≠ 0 by omega)
  have ht2 := Int.emod_lt_of_pos (l.getD k 0) (show 0 < ((srcsF g).length : Int) by omega)
  have hm := getD_mem (l := srcsF g) (k := (l.getD k 0 % ((srcsF g).length : Int)).toNat) (by omega)
  have hn := ((srcsF_mem hg _).1 hm).1
  simp only [growS,if_true] at hS
  simp only [e0,seenB_len,push_cast,reduceIte,reduceEqDiff,reduceAdd,reduceSub,reduceMul,Nat.reduceBEq,reduceLT,reduceLeDiff,reduceCtorEq,reduceToNat,reduceNeg]
  generalize l.getD k 0 = b at *
  generalize b % ((srcsF g).length : Int) = t at *
  generalize (srcsF g).getD t.toNat 0 = n at *
  refine ⟨by omega,by omega,by omega,by omega,by omega,by omega,by omega,by omega,?_⟩
  rw [show (seenB (countF g).toNat sn).getD n.toNat default = decide (n ∈ sn) from seenB_get (by omega) _]
  refine cond_of (fun e3 => ?_) fun e3 => ?_
  ·have e3 : n ∉ sn := not_dec e3
   rw [if_neg e3] at hS
   refine ⟨by simp,?_⟩
   simp only [rows_one,push_cast,reduceIte,reduceEqDiff,reduceAdd,reduceSub,reduceMul,Nat.reduceBEq,reduceLT,reduceLeDiff,reduceCtorEq,reduceToNat,reduceNeg]
   refine ⟨by simp,by omega,_,?_,k + 1,by omega,rfl,?_⟩
   ·omega
   ·rw [hS]
    simp only [rows_one,push_cast,reduceIte,reduceEqDiff,reduceAdd,reduceSub,reduceMul,Nat.reduceBEq,reduceLT,reduceLeDiff,reduceCtorEq,reduceToNat,reduceNeg]
  ·have e3 : n ∈ sn := not_dec' e3
   rw [if_pos e3] at hS
   refine ⟨by omega,_,?_,k + 1,by omega,rfl,?_⟩
   ·omega
   ·rw [hS]
    exact sC
 ·obtain ⟨y,fr,rfl⟩ : ∃ y fr2,fr = y :: fr2 := by cases fr with | nil => cases q1 | cons y f => exact ⟨y,f,rfl⟩
  simp only [grA,List.cons_append,List.nil_append,push_cast,reduceIte,reduceEqDiff,reduceAdd,reduceSub,reduceMul,Nat.reduceBEq,reduceLT,reduceLeDiff,reduceCtorEq,reduceToNat,reduceNeg]
  simp only [List.length_cons] at q1 q3
  refine cut_of ⟨[(1,.sl false 1 (rows boolC (seenB (countF g).toNat sn))),(2,.sl false 1 (bytes8 l)),(3,.ptr 3 0),(6,.ptr 6 0),(7,.sl true 1 (ints (srcsF g))),(8,.ptr 8 0),(9,.int k),(24,.bool B)],
   [(3,gridC false g),(6,[.int 0,.nil,.nil]),(8,[.int 0,.view 51 0 (ns.length + 1),.view 56 0 (fr.length + 1)])],[(51,⟨1,3,ints (x :: ns)⟩),(56,⟨1,3,ints (y :: fr)⟩)],[]⟩ ?_ ?_
  ·refine grd_dec rfl (fun e1 => ?_) fun e1 => ?_ <;> refine sB ?_
   ·rw [show B = decide ((k : Int) < 16) from by rw [hB,decide_eq_decide]; omega]
   ·rw [show B = false from by rw [hB]; exact decide_eq_false (by omega)]
  refine sB ?_
  refine cond_of (fun e => ?_) fun e => ?_
  rotate_left
  ·rw [hB,decide_eq_false_iff_not] at e
   rw [hF,show min l.length 16 = k by omega,ha,List.take_of_length_le (by simp),List.take_of_length_le (by simp)]
   exact ⟨⟨fun _ _ => trivial,fun _ _ => trivial⟩,rfl,Sub.refl _,Sub.refl _⟩
  rw [hB,decide_eq_true_eq] at e
  obtain ⟨e1,e2⟩ := e
  refine cond_dec (fun h => absurd h (by omega)) fun _ => ?_
  simp only [e0,seenB_len,push_cast,reduceIte,reduceEqDiff,reduceAdd,reduceSub,reduceMul,Nat.reduceBEq,reduceLT,reduceLeDiff,reduceCtorEq,reduceToNat,reduceNeg]
  have hlen : ((x :: ns).length : Int) = (ns.length : Int) + 1 := by simp
  simp only [growS,reduceCtorEq,if_false,hlen] at hS
  generalize hbe : l.getD k 0 = b at *
  have t1 := Int.emod_lt_of_pos (b / 64) (show 0 < (ns.length : Int) + 1 by omega)
  have t2 := Int.emod_nonneg (b / 64) (show (ns.length : Int) + 1 ≠ 0 by omega)
  have hb6 : 0 <= b / 64 /\ b / 64 <= 255 := by omega
  have hb7 : 0 <= b % 64 /\ b % 64 <= 255 := by omega
  generalize h6e : b / 64 = b6 at *
  generalize h7e : b % 64 = b7 at *
  generalize b6 % ((ns.length : Int) + 1) = q at *
  have hz := q2 _ (getD_mem (l := x :: ns) (k := ((ns.length : Int) + 1 - 1 - q).toNat) (by simp; omega))
  generalize hfq : (ns.length : Int) + 1 - 1 - q = f at *
  refine ⟨by omega,by omega,by omega,by omega,by omega,by omega,by omega,by omega,by omega,?_⟩
  generalize (x :: ns).getD f.toNat 0 = z at *
  refine cal_sub (driven_ok g hg z hz) sC ?_
  simp only [e0,hbe,h7e,seenB_len,push_cast,reduceIte,reduceEqDiff,reduceAdd,reduceSub,reduceMul,Nat.reduceBEq,reduceLT,reduceLeDiff,reduceCtorEq,reduceToNat,reduceNeg]
  have hdl : (drvnF g z).length <= 600000 := by
   unfold drvnF
   split
   ·have := idxF_len (fun i => decide (CanD g (descE g z).1 (descF g i))) (countF g).toNat
    rw [drvnN]; omega
   ·simp
  have hdm := drvnF_mem hg hz
  generalize drvnF g z = d at *
  refine cond_dec (fun h => ?_) fun h => ?_
  ·have hd : d = [] := List.length_eq_zero_iff.1 (by omega)
   rw [if_pos hd] at hS
   refine ⟨by omega,_,?_,k + 1,by omega,rfl,?_⟩
   ·omega
   ·rw [hS]
    exact sC
  have hd : d ≠ [] := fun e => h (by rw [e]; rfl)
  rw [if_neg hd] at hS
  have t3 := Int.emod_lt_of_pos b7 (show 0 < (d.length : Int) by omega)
  have t4 := Int.emod_nonneg b7 (show (d.length : Int) ≠ 0 by omega)
  have hn := ((hdm _).1 (getD_mem (l := d) (k := (b7 % (d.length : Int)).toNat) (by omega))).1
  generalize b7 % (d.length : Int) = r at *
  generalize hnr : d.getD r.toNat 0 = n at *
  refine ⟨by omega,by omega,by omega,by omega,by omega,by omega,by omega,by omega,?_⟩
  rw [show (seenB (countF g).toNat sn).getD n.toNat default = decide (n ∈ sn) from seenB_get (by omega) _]
  refine ⟨by omega,?_⟩
  refine cut_of ⟨[(1,.sl false 1 (rows boolC (seenB (countF g).toNat sn))),(2,.sl false 1 (bytes8 l)),(3,.ptr 3 0),(6,.ptr 6 0),(7,.sl true 1 (ints (srcsF g))),(8,.ptr 8 0),(9,.int k),(11,.int f),(13,.int n),(106,.bool (decide (n ∉ sn /\ n ∉ x :: ns)))],
   [(3,gridC false g),(6,[.int 0,.nil,.nil]),(8,[.int 0,.view 51 0 (ns.length + 1),.view 56 0 (fr.length + 1)])],[(51,⟨1,3,ints (x :: ns)⟩),(56,⟨1,3,ints (y :: fr)⟩)],[]⟩ ?_ ?_
  ·refine grd_b rfl (fun e => ?_) fun e => ?_ <;> refine sB ?_
   ·have e := not_dec e
    refine cal_sub (index_ok (x :: ns) (by simp; omega) n) (by simp only [push_cast,reduceIte,reduceEqDiff,reduceAdd,reduceSub,reduceMul,Nat.reduceBEq,reduceLT,reduceLeDiff,reduceCtorEq,reduceToNat,reduceNeg]; rw [List.take_of_length_le (by simp)]; exact Sub.refl _) ?_
    refine sB ?_
    rw [show decide (n ∉ sn /\ n ∉ x :: ns) = decide (indexF (x :: ns) n < 0) from by
     rw [decide_eq_decide]
     unfold indexF
     split
     ·rename_i h; exact ⟨fun h2 => absurd h h2.2,fun h2 => absurd h2 (by omega)⟩
     ·rename_i h; exact ⟨fun _ => by omega,fun _ => ⟨e,h⟩⟩]
   ·have e := not_dec' e
    rw [show decide (n ∉ sn /\ n ∉ x :: ns) = false from decide_eq_false fun h => h.1 e]
  refine sB ?_
  refine cond_dec (fun e4 => ?_) fun e4 => ?_
  ·rw [if_pos e4] at hS
   refine ⟨by simp,by omega,by simp,by omega,by omega,_,?_,k + 1,by omega,rfl,?_⟩
   ·omega
   ·rw [hS]
    simp only [List.cons_append,List.length_append,List.length_singleton,push_cast,reduceIte,reduceEqDiff,reduceAdd,reduceSub,reduceMul,Nat.reduceBEq,reduceLT,reduceLeDiff,reduceCtorEq,reduceToNat,reduceNeg]
  ·rw [if_neg e4] at hS
   refine ⟨by omega,_,?_,k + 1,by omega,rfl,?_⟩
   ·omega
   ·rw [hS]
    exact sC
def tripC (x : Int × Int × Int) : List PV := [.sc (.int .u8 x.1),.sc (.int .u8 x.2.1),.sc (.int .u8 x.2.2)]
@[push_cast] theorem tripC_eq (x : Int × Int × Int) : tripC x = [.sc (.int .u8 x.1),.sc (.int .u8 x.2.1),.sc (.int .u8 x.2.2)] := rfl
def mkB (x : Int × Int × Int) : Block := ⟨[],256 * x.2.1 + x.2.2,if x.2.1 % 3 = 2 then x.2.2 % 16 else -1,if x.2.1 % 3 = 1 then x.2.2 % 24 else -1,0⟩
def blkS (g : Grid) (a : List Block × List Int) (x : Int × Int × Int) : List Block × List Int :=
 if x.1 % (g.w * g.h) ∉ a.2 /\ BlockFit g (mkB x) (x.1 % (g.w * g.h)) then (a.1 ++ [mkB x],a.2 ++ [x.1 % (g.w * g.h)]) else a
def blkN (g : Grid) (l : List (Int × Int × Int)) : Nat -> List Block × List Int
 | 0 => ([],[])
 | k + 1 => blkS g (blkN g l k) (l.getD k default)
def blkF (g : Grid) (l : List (Int × Int × Int)) : List Block × List Int := blkN g l (min l.length 12)
structure BlkOk (g : Grid) (a : List Block × List Int) : Prop where
 len : a.2.length = a.1.length
 fit : ∀ z ∈ a.1.zip a.2,BlockFit g z.1 z.2
 nod : a.2.Nodup
 pl : ∀ b ∈ a.1,b.ins = [] /\ b.key = 0
theorem blkS_ok {g : Grid} {a : List Block × List Int} {x : Int × Int × Int} (h : BlkOk g a) : BlkOk g (blkS g a x) /\ (blkS g a x).1.length <= a.1.length + 1 := by
 obtain ⟨h1,h2,h3,h4⟩ := h
 unfold blkS
 split
 ·rename_i e
  refine ⟨⟨by simp [h1],fun z hz => ?_,?_,fun b hb => ?_⟩,by simp⟩
  ·rw [List.zip_append h1.symm,List.mem_append] at hz
   rcases hz with hz | hz
   ·exact h2 z hz
   ·simp at hz
    rw [hz]; exact e.2
  ·exact List.nodup_append.2 ⟨h3,by simp,by intro a ha b hb h; simp at hb; subst hb; subst h; exact e.1 ha⟩
  ·rw [List.mem_append,List.mem_singleton] at hb
   rcases hb with hb | rfl
   ·exact h4 b hb
   ·exact ⟨rfl,rfl⟩
 ·exact ⟨⟨h1,h2,h3,h4⟩,by omega⟩
theorem blkN_ok (g : Grid) (l : List (Int × Int × Int)) : ∀ k,BlkOk g (blkN g l k) /\ (blkN g l k).1.length <= k
 | 0 => ⟨⟨rfl,by simp [blkN],.nil,by simp [blkN]⟩,by simp [blkN]⟩
 | k + 1 => by
   obtain ⟨h1,h2⟩ := blkN_ok g l k
   obtain ⟨h3,h4⟩ := blkS_ok (x := l.getD k default) h1
   exact ⟨h3,by rw [blkN]; omega⟩
def blkR (b : Block) : List PV := [.nil,.int b.table,.int b.ram,.int b.reg,.sc (.int .u64 0)]
@[push_cast] theorem blkR_eq (b : Block) : blkR b = [.nil,.int b.table,.int b.ram,.int b.reg,.sc (.int .u64 0)] := rfl
theorem blkR_sub (q : Bool) {bs : List Block} (h : ∀ b ∈ bs,b.ins = [] /\ b.key = 0) : Sub (.sl true 5 (rows blkR bs)) (.sl q 5 (rows (blockC q) bs)) :=
 Sub.slR 5 (fun _ => rfl) (SubR.map blkR (blockC q) bs fun b hb => by
  obtain ⟨h1,h2⟩ := h b hb
  rw [blkR_eq,blockC_eq,h1,h2]
  exact ⟨.nil _ _,.refl _,.refl _,.refl _,.refl _,trivial⟩)
def desN (g : Grid) (bs : List Block) (ts : List Int) (r : PV) : List PV := gridC true g ++ [.nil,.sl true 5 (rows (blockC true) bs),.nil,.nil,.sl true 1 (ints ts),r]
@[push_cast] theorem desN_eq (g : Grid) (bs : List Block) (ts : List Int) (r : PV) : desN g bs ts r = gridC true g ++ [.nil,.sl true 5 (rows (blockC true) bs),.nil,.nil,.sl true 1 (ints ts),r] := rfl
def lvB (id : Nat) : List Block -> PV
 | [] => .nil
 | _ :: l => .view id 0 (l.length + 1)
def laB (id : Nat) : List Block -> List (Nat × Arr)
 | [] => []
 | x :: l => [(id,⟨5,76,rows blkR (x :: l)⟩)]
@[push_cast] theorem lvB_nil (id : Nat) : lvB id [] = .nil := rfl
@[push_cast] theorem lvB_cons (id : Nat) (x : Block) (l : List Block) : lvB id (x :: l) = .view id 0 (l.length + 1) := rfl
@[push_cast] theorem laB_nil (id : Nat) : laB id [] = [] := rfl
@[push_cast] theorem laB_cons (id : Nat) (x : Block) (l : List Block) : laB id (x :: l) = [(id,⟨5,76,rows blkR (x :: l)⟩)] := rfl
theorem indexF_neg {l : List Int} {n : Int} : indexF l n < 0 ↔ n ∉ l := by
 unfold indexF
 split
 ·rename_i h; exact ⟨fun h2 => by omega,fun h2 => absurd h h2⟩
 ·rename_i h; exact ⟨fun _ => h,fun _ => by omega⟩
set_option maxHeartbeats 4000000 in
theorem rblocks_ok (g : Grid) (hg : GOk g) (l : List (Int × Int × Int)) (hl : (l.length : Int) <= 9223372036854775807) (hb : ∀ x ∈ l, (0 <= x.1 /\ x.1 <= 255) /\ (0 <= x.2.1 /\ x.2.1 <= 255) /\ (0 <= x.2.2 /\ x.2.2 <= 255)) :
  FnEq Try.prog 34 [.agg [.int g.w,.int g.h,.int g.tracks,.int g.pads,.sl true 1 (ints g.kind),.nil,.nil,.nil,.nil,.nil,.nil],.sl false 3 (rows tripC l)]
   (.agg (desN g (blkF g l).1 (blkF g l).2 .nil)) := by
 have hw := hg.wh
 have hkd := hg.kind
 refine FnEq.of_awp Try.func34 ok34 (by show 2 <= _; decide) (by simp only [push_cast,reduceIte,reduceEqDiff,reduceAdd,reduceSub,reduceMul,Nat.reduceBEq,reduceLT,reduceLeDiff,reduceCtorEq,reduceToNat,reduceNeg] <;> first | exact fun _ _ => trivial | simp) ?_
 simp only [ac34,rv34,push_cast,reduceIte,reduceEqDiff,reduceAdd,reduceSub,reduceMul,Nat.reduceBEq,reduceLT,reduceLeDiff,reduceCtorEq,reduceToNat,reduceNeg]
 refine loop_of (fun m st => ∃ k : Nat,k <= min l.length 12 /\ m = min l.length 12 - k /\ st = ⟨[(1,.sl false 3 (rows tripC l)),(2,.ptr 2 0),(4,.ptr 4 0),(5,.int k)],
  [(2,[.int g.w,.int g.h,.int g.tracks,.int g.pads,.sl true 1 (ints g.kind),.nil,lvB 91 (blkN g l k).1,.nil,.nil,lvN 99 (blkN g l k).2,.nil]),(4,[.int 0,.int 0,.int 0,.int 0,.nil,.nil,.nil,.nil,.nil,.nil,.nil])],laB 91 (blkN g l k).1 ++ laN 99 (blkN g l k).2,[]⟩) (min l.length 12) ?_ ?_
 ·refine ⟨0,by omega,by omega,?_⟩
  simp only [blkN,List.nil_append,push_cast,reduceIte,reduceEqDiff,reduceAdd,reduceSub,reduceMul,Nat.reduceBEq,reduceLT,reduceLeDiff,reduceCtorEq,reduceToNat,reduceNeg]
 rintro m st ⟨k,hk,rfl,rfl⟩
 obtain ⟨⟨q1,q2,q3,q4⟩,q5⟩ := blkN_ok g l k
 have hS : blkN g l (k + 1) = blkS g (blkN g l k) (l.getD k default) := rfl
 have hF : blkF g l = blkN g l (min l.length 12) := rfl
 have hbk : (0 <= (l.getD k default).1 /\ (l.getD k default).1 <= 255) /\ (0 <= (l.getD k default).2.1 /\ (l.getD k default).2.1 <= 255) /\ (0 <= (l.getD k default).2.2 /\ (l.getD k default).2.2 <= 255) := by
  by_cases h : k < l.length
  ·exact hb _ (by simp [List.getD_eq_getElem?_getD,h])
  ·rw [List.getD_eq_getElem?_getD,List.getElem?_eq_none (by omega)]; decide
 obtain ⟨B,hB⟩ : ∃ B,B = decide (k < l.length /\ k < 12) := ⟨_,rfl⟩
 rcases ha : blkN g l k with ⟨bs,ts⟩
 rw [ha] at q1 q2 q3 q4 q5 hS
 simp only at q1 q2 q3 q4 q5 ⊢
 rcases bs with _ | ⟨y,bs⟩
 ·obtain rfl : ts = [] := List.length_eq_zero_iff.1 q1
  simp only [List.nil_append,push_cast,reduceIte,reduceEqDiff,reduceAdd,reduceSub,reduceMul,Nat.reduceBEq,reduceLT,reduceLeDiff,reduceCtorEq,reduceToNat,reduceNeg]
  refine cut_of ⟨[(1,.sl false 3 (rows tripC l)),(2,.ptr 2 0),(4,.ptr 4 0),(5,.int k),(15,.bool B)],
   [(2,[.int g.w,.int g.h,.int g.tracks,.int g.pads,.sl true 1 (ints g.kind),.nil,.nil,.nil,.nil,.nil,.nil]),(4,[.int 0,.int 0,.int 0,.int 0,.nil,.nil,.nil,.nil,.nil,.nil,.nil])],[],[]⟩ ?_ ?_
  ·refine grd_dec rfl (fun e1 => ?_) fun e1 => ?_ <;> refine sB ?_
   ·rw [show B = decide ((k : Int) < 12) from by rw [hB,decide_eq_decide]; omega]
   ·rw [show B = false from by rw [hB]; exact decide_eq_false (by omega)]
  refine sB ?_
  refine cond_of (fun e => ?_) fun e => ?_
  rotate_left
  ·rw [hB,decide_eq_false_iff_not] at e
   rw [hF,show min l.length 12 = k by omega,ha]
   refine sB ?_
   exact fun _ _ => trivial
  rw [hB,decide_eq_true_eq] at e
  obtain ⟨e1,e2⟩ := e
  generalize hx : l.getD k default = x at *
  obtain ⟨x1,x2,x3⟩ := x
  have h1 := Int.emod_nonneg x1 (show g.w * g.h ≠ 0 by omega)
  have h2 := Int.emod_lt_of_pos x1 (show 0 < g.w * g.h by omega)
  simp only [blkS] at hbk hS
  simp only
  generalize x1 % (g.w * g.h) = t at *
  repeat (refine And.intro (by omega) ?_)
  have hG : Sub (.agg [.int g.w,.int g.h,.int g.tracks,.int g.pads,.sl true 1 (ints g.kind)]) (.agg (gridC false g)) := Sub.aggL ⟨.refl _,.refl _,.refl _,.refl _,.slp _ _ _ _ (fun h => by cases h),trivial⟩
  refine cond_dec (fun e3 => ?_) fun e3 => ?_
  ·have hm : mkB (x1,x2,x3) = ⟨[],256 * x2 + x3,-1,x3 % 24,0⟩ := by simp only [mkB]; rw [if_pos e3,if_neg (by omega)]
   repeat (refine And.intro (by omega) ?_)
   refine cal_sub (index_ok ([]) (by simp only [List.length_nil,List.length_cons]; omega) t) ⟨.nil _ _,.refl _,trivial⟩ ?_
   refine cut_of ⟨[(1, .sl false 3 (rows tripC l)), (2, .ptr 2 0), (4, .ptr 4 0), (5, .int k), (6, .int t), (7, .ptr 7 0), (85, .bool (decide (t ∉ [] /\ BlockFit g (mkB (x1, x2, x3)) t)))],
      [(2,[.int g.w,.int g.h,.int g.tracks,.int g.pads,.sl true 1 (ints g.kind),.nil,.nil,.nil,.nil,.nil,.nil]),(4,[.int 0,.int 0,.int 0,.int 0,.nil,.nil,.nil,.nil,.nil,.nil,.nil]),(7,blkR (mkB (x1,x2,x3)))],[],[]⟩ ?_ ?_
   ·refine sB ?_
    refine grd_dec rfl (fun e5 => ?_) fun e5 => ?_ <;> refine sB ?_
    ·refine cal_sub (rblock_ok g hg (mkB (x1,x2,x3)) t) ⟨hG,Sub.aggL (by rw [hm]; exact ⟨.nil _ _,.refl _,.refl _,.refl _,.refl _,trivial⟩),.refl _,trivial⟩ ?_
     simp only [hm,push_cast,reduceIte,reduceEqDiff,reduceAdd,reduceSub,reduceMul,Nat.reduceBEq,reduceLT,reduceLeDiff,reduceCtorEq,reduceToNat,reduceNeg]
     rw [show decide (t ∉ [] /\ BlockFit g ⟨[],256 * x2 + x3,(-1),(x3 % 24),0⟩ t) = decide (BlockFit g ⟨[],256 * x2 + x3,(-1),(x3 % 24),0⟩ t) from by rw [decide_eq_decide]; exact ⟨fun h => h.2,fun h => ⟨indexF_neg.1 e5,h⟩⟩]
    ·simp only [hm,push_cast,reduceIte,reduceEqDiff,reduceAdd,reduceSub,reduceMul,Nat.reduceBEq,reduceLT,reduceLeDiff,reduceCtorEq,reduceToNat,reduceNeg]
     rw [show decide (t ∉ [] /\ BlockFit g ⟨[],256 * x2 + x3,(-1),(x3 % 24),0⟩ t) = false from decide_eq_false fun h => e5 (indexF_neg.2 h.1)]
   refine sB ?_
   refine cond_dec (fun e6 => ?_) fun e6 => ?_
   ·rw [if_pos e6] at hS
    refine ⟨by simp,?_⟩
    simp only [rows_one,push_cast,reduceIte,reduceEqDiff,reduceAdd,reduceSub,reduceMul,Nat.reduceBEq,reduceLT,reduceLeDiff,reduceCtorEq,reduceToNat,reduceNeg]
    refine ⟨by omega,_,?_,k + 1,by omega,rfl,?_⟩
    ·omega
    ·rw [hS]
     simp only [rows_one,List.nil_append,List.cons_append,push_cast,reduceIte,reduceEqDiff,reduceAdd,reduceSub,reduceMul,Nat.reduceBEq,reduceLT,reduceLeDiff,reduceCtorEq,reduceToNat,reduceNeg]
   ·rw [if_neg e6] at hS
    refine ⟨by omega,_,?_,k + 1,by omega,rfl,?_⟩
    ·omega
    ·rw [hS]
     simp only [List.cons_append,List.nil_append,push_cast,reduceIte,reduceEqDiff,reduceAdd,reduceSub,reduceMul,Nat.reduceBEq,reduceLT,reduceLeDiff,reduceCtorEq,reduceToNat,reduceNeg]
  refine cond_dec (fun e4 => ?_) fun e4 => ?_
  ·have hm : mkB (x1,x2,x3) = ⟨[],256 * x2 + x3,x3 % 16,-1,0⟩ := by simp only [mkB]; rw [if_neg e3,if_pos e4]
   repeat (refine And.intro (by omega) ?_)
   refine cal_sub (index_ok ([]) (by simp only [List.length_nil,List.length_cons]; omega) t) ⟨.nil _ _,.refl _,trivial⟩ ?_
   refine cut_of ⟨[(1, .sl false 3 (rows tripC l)), (2, .ptr 2 0), (4, .ptr 4 0), (5, .int k), (6, .int t), (7, .ptr 7 0), (85, .bool (decide (t ∉ [] /\ BlockFit g (mkB (x1, x2, x3)) t)))],
      [(2,[.int g.w,.int g.h,.int g.tracks,.int g.pads,.sl true 1 (ints g.kind),.nil,.nil,.nil,.nil,.nil,.nil]),(4,[.int 0,.int 0,.int 0,.int 0,.nil,.nil,.nil,.nil,.nil,.nil,.nil]),(7,blkR (mkB (x1,x2,x3)))],[],[]⟩ ?_ ?_
   ·refine sB ?_
    refine grd_dec rfl (fun e5 => ?_) fun e5 => ?_ <;> refine sB ?_
    ·refine cal_sub (rblock_ok g hg (mkB (x1,x2,x3)) t) ⟨hG,Sub.aggL (by rw [hm]; exact ⟨.nil _ _,.refl _,.refl _,.refl _,.refl _,trivial⟩),.refl _,trivial⟩ ?_
     simp only [hm,push_cast,reduceIte,reduceEqDiff,reduceAdd,reduceSub,reduceMul,Nat.reduceBEq,reduceLT,reduceLeDiff,reduceCtorEq,reduceToNat,reduceNeg]
     rw [show decide (t ∉ [] /\ BlockFit g ⟨[],256 * x2 + x3,(x3 % 16),(-1),0⟩ t) = decide (BlockFit g ⟨[],256 * x2 + x3,(x3 % 16),(-1),0⟩ t) from by rw [decide_eq_decide]; exact ⟨fun h => h.2,fun h => ⟨indexF_neg.1 e5,h⟩⟩]
    ·simp only [hm,push_cast,reduceIte,reduceEqDiff,reduceAdd,reduceSub,reduceMul,Nat.reduceBEq,reduceLT,reduceLeDiff,reduceCtorEq,reduceToNat,reduceNeg]
     rw [show decide (t ∉ [] /\ BlockFit g ⟨[],256 * x2 + x3,(x3 % 16),(-1),0⟩ t) = false from decide_eq_false fun h => e5 (indexF_neg.2 h.1)]
   refine sB ?_
   refine cond_dec (fun e6 => ?_) fun e6 => ?_
   ·rw [if_pos e6] at hS
    refine ⟨by simp,?_⟩
    simp only [rows_one,push_cast,reduceIte,reduceEqDiff,reduceAdd,reduceSub,reduceMul,Nat.reduceBEq,reduceLT,reduceLeDiff,reduceCtorEq,reduceToNat,reduceNeg]
    refine ⟨by omega,_,?_,k + 1,by omega,rfl,?_⟩
    ·omega
    ·rw [hS]
     simp only [rows_one,List.nil_append,List.cons_append,push_cast,reduceIte,reduceEqDiff,reduceAdd,reduceSub,reduceMul,Nat.reduceBEq,reduceLT,reduceLeDiff,reduceCtorEq,reduceToNat,reduceNeg]
   ·rw [if_neg e6] at hS
    refine ⟨by omega,_,?_,k + 1,by omega,rfl,?_⟩
    ·omega
    ·rw [hS]
     simp only [List.cons_append,List.nil_append,push_cast,reduceIte,reduceEqDiff,reduceAdd,reduceSub,reduceMul,Nat.reduceBEq,reduceLT,reduceLeDiff,reduceCtorEq,reduceToNat,reduceNeg]
  ·have hm : mkB (x1,x2,x3) = ⟨[],256 * x2 + x3,-1,-1,0⟩ := by simp only [mkB]; rw [if_neg e3,if_neg e4]
   repeat (refine And.intro (by omega) ?_)
   refine cal_sub (index_ok ([]) (by simp only [List.length_nil,List.length_cons]; omega) t) ⟨.nil _ _,.refl _,trivial⟩ ?_
   refine cut_of ⟨[(1, .sl false 3 (rows tripC l)), (2, .ptr 2 0), (4, .ptr 4 0), (5, .int k), (6, .int t), (7, .ptr 7 0), (85, .bool (decide (t ∉ [] /\ BlockFit g (mkB (x1, x2, x3)) t)))],
      [(2,[.int g.w,.int g.h,.int g.tracks,.int g.pads,.sl true 1 (ints g.kind),.nil,.nil,.nil,.nil,.nil,.nil]),(4,[.int 0,.int 0,.int 0,.int 0,.nil,.nil,.nil,.nil,.nil,.nil,.nil]),(7,blkR (mkB (x1,x2,x3)))],[],[]⟩ ?_ ?_
   ·refine sB ?_
    refine grd_dec rfl (fun e5 => ?_) fun e5 => ?_ <;> refine sB ?_
    ·refine cal_sub (rblock_ok g hg (mkB (x1,x2,x3)) t) ⟨hG,Sub.aggL (by rw [hm]; exact ⟨.nil _ _,.refl _,.refl _,.refl _,.refl _,trivial⟩),.refl _,trivial⟩ ?_
     simp only [hm,push_cast,reduceIte,reduceEqDiff,reduceAdd,reduceSub,reduceMul,Nat.reduceBEq,reduceLT,reduceLeDiff,reduceCtorEq,reduceToNat,reduceNeg]
     rw [show decide (t ∉ [] /\ BlockFit g ⟨[],256 * x2 + x3,(-1),(-1),0⟩ t) = decide (BlockFit g ⟨[],256 * x2 + x3,(-1),(-1),0⟩ t) from by rw [decide_eq_decide]; exact ⟨fun h => h.2,fun h => ⟨indexF_neg.1 e5,h⟩⟩]
    ·simp only [hm,push_cast,reduceIte,reduceEqDiff,reduceAdd,reduceSub,reduceMul,Nat.reduceBEq,reduceLT,reduceLeDiff,reduceCtorEq,reduceToNat,reduceNeg]
     rw [show decide (t ∉ [] /\ BlockFit g ⟨[],256 * x2 + x3,(-1),(-1),0⟩ t) = false from decide_eq_false fun h => e5 (indexF_neg.2 h.1)]
   refine sB ?_
   refine cond_dec (fun e6 => ?_) fun e6 => ?_
   ·rw [if_pos e6] at hS
    refine ⟨by simp,?_⟩
    simp only [rows_one,push_cast,reduceIte,reduceEqDiff,reduceAdd,reduceSub,reduceMul,Nat.reduceBEq,reduceLT,reduceLeDiff,reduceCtorEq,reduceToNat,reduceNeg]
    refine ⟨by omega,_,?_,k + 1,by omega,rfl,?_⟩
    ·omega
    ·rw [hS]
     simp only [rows_one,List.nil_append,List.cons_append,push_cast,reduceIte,reduceEqDiff,reduceAdd,reduceSub,reduceMul,Nat.reduceBEq,reduceLT,reduceLeDiff,reduceCtorEq,reduceToNat,reduceNeg]
   ·rw [if_neg e6] at hS
    refine ⟨by omega,_,?_,k + 1,by omega,rfl,?_⟩
    ·omega
    ·rw [hS]
     simp only [List.cons_append,List.nil_append,push_cast,reduceIte,reduceEqDiff,reduceAdd,reduceSub,reduceMul,Nat.reduceBEq,reduceLT,reduceLeDiff,reduceCtorEq,reduceToNat,reduceNeg]
 ·obtain ⟨z,ts,rfl⟩ : ∃ z ts2,ts = z :: ts2 := by cases ts with | nil => cases q1 | cons z f => exact ⟨z,f,rfl⟩
  simp only [List.cons_append,List.nil_append,push_cast,reduceIte,reduceEqDiff,reduceAdd,reduceSub,reduceMul,Nat.reduceBEq,reduceLT,reduceLeDiff,reduceCtorEq,reduceToNat,reduceNeg]
  simp only [List.length_cons] at q1 q5
  refine cut_of ⟨[(1,.sl false 3 (rows tripC l)),(2,.ptr 2 0),(4,.ptr 4 0),(5,.int k),(15,.bool B)],
   [(2,[.int g.w,.int g.h,.int g.tracks,.int g.pads,.sl true 1 (ints g.kind),.nil,.view 91 0 (bs.length + 1),.nil,.nil,.view 99 0 (ts.length + 1),.nil]),(4,[.int 0,.int 0,.int 0,.int 0,.nil,.nil,.nil,.nil,.nil,.nil,.nil])],[(91,⟨5,76,rows blkR (y :: bs)⟩),(99,⟨1,3,ints (z :: ts)⟩)],[]⟩ ?_ ?_
  ·refine grd_dec rfl (fun e1 => ?_) fun e1 => ?_ <;> refine sB ?_
   ·rw [show B = decide ((k : Int) < 12) from by rw [hB,decide_eq_decide]; omega]
   ·rw [show B = false from by rw [hB]; exact decide_eq_false (by omega)]
  refine sB ?_
  refine cond_of (fun e => ?_) fun e => ?_
  rotate_left
  ·rw [hB,decide_eq_false_iff_not] at e
   rw [hF,show min l.length 12 = k by omega,ha]
   refine sB ?_
   rw [List.take_of_length_le (by simp),List.take_of_length_le (by simp)]
   exact ⟨⟨fun _ _ => trivial,fun _ _ => trivial,fun _ _ => trivial⟩,blkR_sub true q4,Sub.refl _⟩
  rw [hB,decide_eq_true_eq] at e
  obtain ⟨e1,e2⟩ := e
  generalize hx : l.getD k default = x at *
  obtain ⟨x1,x2,x3⟩ := x
  have h1 := Int.emod_nonneg x1 (show g.w * g.h ≠ 0 by omega)
  have h2 := Int.emod_lt_of_pos x1 (show 0 < g.w * g.h by omega)
  simp only [blkS] at hbk hS
  simp only
  generalize x1 % (g.w * g.h) = t at *
  repeat (refine And.intro (by omega) ?_)
  have hG : Sub (.agg [.int g.w,.int g.h,.int g.tracks,.int g.pads,.sl true 1 (ints g.kind)]) (.agg (gridC false g)) := Sub.aggL ⟨.refl _,.refl _,.refl _,.refl _,.slp _ _ _ _ (fun h => by cases h),trivial⟩
  refine cond_dec (fun e3 => ?_) fun e3 => ?_
  ·have hm : mkB (x1,x2,x3) = ⟨[],256 * x2 + x3,-1,x3 % 24,0⟩ := by simp only [mkB]; rw [if_pos e3,if_neg (by omega)]
   repeat (refine And.intro (by omega) ?_)
   refine cal_sub (index_ok (z :: ts) (by simp only [List.length_nil,List.length_cons]; omega) t) ⟨by rw [List.take_of_length_le (by simp)]; exact Sub.refl _,.refl _,trivial⟩ ?_
   refine cut_of ⟨[(1, .sl false 3 (rows tripC l)), (2, .ptr 2 0), (4, .ptr 4 0), (5, .int k), (6, .int t), (7, .ptr 7 0), (85, .bool (decide (t ∉ z :: ts /\ BlockFit g (mkB (x1, x2, x3)) t)))],
      [(2,[.int g.w,.int g.h,.int g.tracks,.int g.pads,.sl true 1 (ints g.kind),.nil,.view 91 0 (bs.length + 1),.nil,.nil,.view 99 0 (ts.length + 1),.nil]),(4,[.int 0,.int 0,.int 0,.int 0,.nil,.nil,.nil,.nil,.nil,.nil,.nil]),(7,blkR (mkB (x1,x2,x3)))],[(91,⟨5,76,rows blkR (y :: bs)⟩),(99,⟨1,3,ints (z :: ts)⟩)],[]⟩ ?_ ?_
   ·refine sB ?_
    refine grd_dec rfl (fun e5 => ?_) fun e5 => ?_ <;> refine sB ?_
    ·refine cal_sub (rblock_ok g hg (mkB (x1,x2,x3)) t) ⟨hG,Sub.aggL (by rw [hm]; exact ⟨.nil _ _,.refl _,.refl _,.refl _,.refl _,trivial⟩),.refl _,trivial⟩ ?_
     simp only [hm,push_cast,reduceIte,reduceEqDiff,reduceAdd,reduceSub,reduceMul,Nat.reduceBEq,reduceLT,reduceLeDiff,reduceCtorEq,reduceToNat,reduceNeg]
     rw [show decide (t ∉ z :: ts /\ BlockFit g ⟨[],256 * x2 + x3,(-1),(x3 % 24),0⟩ t) = decide (BlockFit g ⟨[],256 * x2 + x3,(-1),(x3 % 24),0⟩ t) from by rw [decide_eq_decide]; exact ⟨fun h => h.2,fun h => ⟨indexF_neg.1 e5,h⟩⟩]
    ·simp only [hm,push_cast,reduceIte,reduceEqDiff,reduceAdd,reduceSub,reduceMul,Nat.reduceBEq,reduceLT,reduceLeDiff,reduceCtorEq,reduceToNat,reduceNeg]
     rw [show decide (t ∉ z :: ts /\ BlockFit g ⟨[],256 * x2 + x3,(-1),(x3 % 24),0⟩ t) = false from decide_eq_false fun h => e5 (indexF_neg.2 h.1)]
   refine sB ?_
   refine cond_dec (fun e6 => ?_) fun e6 => ?_
   ·rw [if_pos e6] at hS
    repeat (refine And.intro (by first | omega | (simp; done)) ?_)
    refine ⟨_,?_,k + 1,by omega,rfl,?_⟩
    ·omega
    ·rw [hS]
     simp only [List.cons_append,List.length_append,List.length_singleton,push_cast,reduceIte,reduceEqDiff,reduceAdd,reduceSub,reduceMul,Nat.reduceBEq,reduceLT,reduceLeDiff,reduceCtorEq,reduceToNat,reduceNeg]
     simp [rows,blkR]
   ·rw [if_neg e6] at hS
    refine ⟨by omega,_,?_,k + 1,by omega,rfl,?_⟩
    ·omega
    ·rw [hS]
     simp only [List.cons_append,List.nil_append,push_cast,reduceIte,reduceEqDiff,reduceAdd,reduceSub,reduceMul,Nat.reduceBEq,reduceLT,reduceLeDiff,reduceCtorEq,reduceToNat,reduceNeg]
  refine cond_dec (fun e4 => ?_) fun e4 => ?_
  ·have hm : mkB (x1,x2,x3) = ⟨[],256 * x2 + x3,x3 % 16,-1,0⟩ := by simp only [mkB]; rw [if_neg e3,if_pos e4]
   repeat (refine And.intro (by omega) ?_)
   refine cal_sub (index_ok (z :: ts) (by simp only [List.length_nil,List.length_cons]; omega) t) ⟨by rw [List.take_of_length_le (by simp)]; exact Sub.refl _,.refl _,trivial⟩ ?_
   refine cut_of ⟨[(1, .sl false 3 (rows tripC l)), (2, .ptr 2 0), (4, .ptr 4 0), (5, .int k), (6, .int t), (7, .ptr 7 0), (85, .bool (decide (t ∉ z :: ts /\ BlockFit g (mkB (x1, x2, x3)) t)))],
      [(2,[.int g.w,.int g.h,.int g.tracks,.int g.pads,.sl true 1 (ints g.kind),.nil,.view 91 0 (bs.length + 1),.nil,.nil,.view 99 0 (ts.length + 1),.nil]),(4,[.int 0,.int 0,.int 0,.int 0,.nil,.nil,.nil,.nil,.nil,.nil,.nil]),(7,blkR (mkB (x1,x2,x3)))],[(91,⟨5,76,rows blkR (y :: bs)⟩),(99,⟨1,3,ints (z :: ts)⟩)],[]⟩ ?_ ?_
   ·refine sB ?_
    refine grd_dec rfl (fun e5 => ?_) fun e5 => ?_ <;> refine sB ?_
    ·refine cal_sub (rblock_ok g hg (mkB (x1,x2,x3)) t) ⟨hG,Sub.aggL (by rw [hm]; exact ⟨.nil _ _,.refl _,.refl _,.refl _,.refl _,trivial⟩),.refl _,trivial⟩ ?_
     simp only [hm,push_cast,reduceIte,reduceEqDiff,reduceAdd,reduceSub,reduceMul,Nat.reduceBEq,reduceLT,reduceLeDiff,reduceCtorEq,reduceToNat,reduceNeg]
     rw [show decide (t ∉ z :: ts /\ BlockFit g ⟨[],256 * x2 + x3,(x3 % 16),(-1),0⟩ t) = decide (BlockFit g ⟨[],256 * x2 + x3,(x3 % 16),(-1),0⟩ t) from by rw [decide_eq_decide]; exact ⟨fun h => h.2,fun h => ⟨indexF_neg.1 e5,h⟩⟩]
    ·simp only [hm,push_cast,reduceIte,reduceEqDiff,reduceAdd,reduceSub,reduceMul,Nat.reduceBEq,reduceLT,reduceLeDiff,reduceCtorEq,reduceToNat,reduceNeg]
     rw [show decide (t ∉ z :: ts /\ BlockFit g ⟨[],256 * x2 + x3,(x3 % 16),(-1),0⟩ t) = false from decide_eq_false fun h => e5 (indexF_neg.2 h.1)]
   refine sB ?_
   refine cond_dec (fun e6 => ?_) fun e6 => ?_
   ·rw [if_pos e6] at hS
    repeat (refine And.intro (by first | omega | (simp; done)) ?_)
    refine ⟨_,?_,k + 1,by omega,rfl,?_⟩
    ·omega
    ·rw [hS]
     simp only [List.cons_append,List.length_append,List.length_singleton,push_cast,reduceIte,reduceEqDiff,reduceAdd,reduceSub,reduceMul,Nat.reduceBEq,reduceLT,reduceLeDiff,reduceCtorEq,reduceToNat,reduceNeg]
     simp [rows,blkR]
   ·rw [if_neg e6] at hS
    refine ⟨by omega,_,?_,k + 1,by omega,rfl,?_⟩
    ·omega
    ·rw [hS]
     simp only [List.cons_append,List.nil_append,push_cast,reduceIte,reduceEqDiff,reduceAdd,reduceSub,reduceMul,Nat.reduceBEq,reduceLT,reduceLeDiff,reduceCtorEq,reduceToNat,reduceNeg]
  ·have hm : mkB (x1,x2,x3) = ⟨[],256 * x2 + x3,-1,-1,0⟩ := by simp only [mkB]; rw [if_neg e3,if_neg e4]
   repeat (refine And.intro (by omega) ?_)
   refine cal_sub (index_ok (z :: ts) (by simp only [List.length_nil,List.length_cons]; omega) t) ⟨by rw [List.take_of_length_le (by simp)]; exact Sub.refl _,.refl _,trivial⟩ ?_
   refine cut_of ⟨[(1, .sl false 3 (rows tripC l)), (2, .ptr 2 0), (4, .ptr 4 0), (5, .int k), (6, .int t), (7, .ptr 7 0), (85, .bool (decide (t ∉ z :: ts /\ BlockFit g (mkB (x1, x2, x3)) t)))],
      [(2,[.int g.w,.int g.h,.int g.tracks,.int g.pads,.sl true 1 (ints g.kind),.nil,.view 91 0 (bs.length + 1),.nil,.nil,.view 99 0 (ts.length + 1),.nil]),(4,[.int 0,.int 0,.int 0,.int 0,.nil,.nil,.nil,.nil,.nil,.nil,.nil]),(7,blkR (mkB (x1,x2,x3)))],[(91,⟨5,76,rows blkR (y :: bs)⟩),(99,⟨1,3,ints (z :: ts)⟩)],[]⟩ ?_ ?_
   ·refine sB ?_
    refine grd_dec rfl (fun e5 => ?_) fun e5 => ?_ <;> refine sB ?_
    ·refine cal_sub (rblock_ok g hg (mkB (x1,x2,x3)) t) ⟨hG,Sub.aggL (by rw [hm]; exact ⟨.nil _ _,.refl _,.refl _,.refl _,.refl _,trivial⟩),.refl _,trivial⟩ ?_
     simp only [hm,push_cast,reduceIte,reduceEqDiff,reduceAdd,reduceSub,reduceMul,Nat.reduceBEq,reduceLT,reduceLeDiff,reduceCtorEq,reduceToNat,reduceNeg]
     rw [show decide (t ∉ z :: ts /\ BlockFit g ⟨[],256 * x2 + x3,(-1),(-1),0⟩ t) = decide (BlockFit g ⟨[],256 * x2 + x3,(-1),(-1),0⟩ t) from by rw [decide_eq_decide]; exact ⟨fun h => h.2,fun h => ⟨indexF_neg.1 e5,h⟩⟩]
    ·simp only [hm,push_cast,reduceIte,reduceEqDiff,reduceAdd,reduceSub,reduceMul,Nat.reduceBEq,reduceLT,reduceLeDiff,reduceCtorEq,reduceToNat,reduceNeg]
     rw [show decide (t ∉ z :: ts /\ BlockFit g ⟨[],256 * x2 + x3,(-1),(-1),0⟩ t) = false from decide_eq_false fun h => e5 (indexF_neg.2 h.1)]
   refine sB ?_
   refine cond_dec (fun e6 => ?_) fun e6 => ?_
   ·rw [if_pos e6] at hS
    repeat (refine And.intro (by first | omega | (simp; done)) ?_)
    refine ⟨_,?_,k + 1,by omega,rfl,?_⟩
    ·omega
    ·rw [hS]
     simp only [List.cons_append,List.length_append,List.length_singleton,push_cast,reduceIte,reduceEqDiff,reduceAdd,reduceSub,reduceMul,Nat.reduceBEq,reduceLT,reduceLeDiff,reduceCtorEq,reduceToNat,reduceNeg]
     simp [rows,blkR]
   ·rw [if_neg e6] at hS
    refine ⟨by omega,_,?_,k + 1,by omega,rfl,?_⟩
    ·omega
    ·rw [hS]
     simp only [List.cons_append,List.nil_append,push_cast,reduceIte,reduceEqDiff,reduceAdd,reduceSub,reduceMul,Nat.reduceBEq,reduceLT,reduceLeDiff,reduceCtorEq,reduceToNat,reduceNeg]
theorem take_next {l : List Int} {k : Nat} (h : k < l.length) : l.take (k + 1) = l.take k ++ [l.getD k 0] := by
 rw [List.take_add_one,List.getElem?_eq_getElem h,List.getD_eq_getElem?_getD,List.getElem?_eq_getElem h]
 rfl
def StepOk (g : Grid) (r : Route) (seen : List Int) (i : Nat) : Prop :=
 ((0 <= r.nodes.getD i 0 /\ r.nodes.getD i 0 < countF g) /\ r.nodes.getD i 0 ∉ seen ++ r.nodes.take i) /\
 (i = 0 -> driversF g (r.nodes.getD i 0) = []) /\
 (i ≠ 0 -> (0 <= r.frm.getD i 0 /\ r.frm.getD i 0 <= (i : Int) - 1) /\ r.nodes.getD (r.frm.getD i 0).toNat 0 ∈ driversF g (r.nodes.getD i 0))
def selAt (g : Grid) (r : Route) (i : Nat) : Int := 1 + ((driversF g (r.nodes.getD i 0)).countP (· < r.nodes.getD (r.frm.getD i 0).toNat 0) : Nat)
def selN (g : Grid) (r : Route) (sel : List Int) : Nat -> List Int
 | 0 => sel
 | k + 1 => if k = 0 then selN g r sel k else (selN g r sel k).set (r.nodes.getD k 0).toNat (selAt g r k)
theorem selN_len (g : Grid) (r : Route) (sel : List Int) : ∀ k,(selN g r sel k).length = sel.length
 | 0 => rfl
 | k + 1 => by
   rw [selN]
   split
   ·exact selN_len g r sel k
   ·rw [List.length_set]; exact selN_len g r sel k
theorem stepF_iff {g : Grid} {r : Route} {sel seen : List Int} (hs : (sel.length : Int) = countF g) {k : Nat} (hk : k < r.nodes.length) (a : List Int × List Int) :
  stepF g r (selN g r sel k,seen ++ r.nodes.take k) k = some a ↔ StepOk g r seen k /\ a = (selN g r sel (k + 1),seen ++ r.nodes.take (k + 1)) := by
 have e := take_next hk
 unfold stepF stepN StepOk
 rw [selN,e,<- List.append_assoc]
 simp only [selN_len]
 by_cases h1 : (0 <= r.nodes.getD k 0 /\ r.nodes.getD k 0 <= (sel.length : Int) - 1) /\ r.nodes.getD k 0 ∉ seen ++ r.nodes.take k
 ·rw [if_pos h1]
  have h1' : (0 <= r.nodes.getD k 0 /\ r.nodes.getD k 0 < countF g) /\ r.nodes.getD k 0 ∉ seen ++ r.nodes.take k := ⟨⟨h1.1.1,by omega⟩,h1.2⟩
  by_cases h0 : k = 0
  ·rw [if_pos h0,if_pos h0]
   by_cases hd : driversF g (r.nodes.getD k 0) = []
   ·rw [if_pos hd,Option.some.injEq]
    constructor
    ·rintro rfl; exact ⟨⟨h1',fun _ => hd,fun h => absurd h0 h⟩,rfl⟩
    ·rintro ⟨_,rfl⟩; rfl
   ·rw [if_neg hd]
    constructor
    ·intro h; cases h
    ·rintro ⟨⟨_,h,_⟩,_⟩; exact absurd (h h0) hd
  ·rw [if_neg h0,if_neg h0]
   by_cases hf : 0 <= r.frm.getD k 0 /\ r.frm.getD k 0 <= (k : Int) - 1
   ·rw [if_pos hf]
    by_cases hx : r.nodes.getD (r.frm.getD k 0).toNat 0 ∈ driversF g (r.nodes.getD k 0)
    ·rw [if_pos hx,Option.some.injEq]
     constructor
     ·rintro rfl; exact ⟨⟨h1',fun h => absurd h h0,fun _ => ⟨hf,hx⟩⟩,rfl⟩
     ·rintro ⟨_,rfl⟩; rfl
    ·rw [if_neg hx]
     constructor
     ·intro h; cases h
     ·rintro ⟨⟨_,_,h⟩,_⟩; exact absurd (h h0).2 hx
   ·rw [if_neg hf]
    constructor
    ·intro h; cases h
    ·rintro ⟨⟨_,_,h⟩,_⟩; exact absurd (h h0).1 hf
 ·rw [if_neg h1]
  constructor
  ·intro h; cases h
  ·rintro ⟨⟨h,_⟩,_⟩; exact absurd ⟨⟨h.1.1,by omega⟩,h.2⟩ h1
theorem foldO_one {α β : Type} (f : α -> β -> Option α) (a : α) (x : β) : foldO f a [x] = f a x := by
 simp only [foldO]
 cases f a x <;> rfl
theorem stepsF_iff {g : Grid} {r : Route} {sel seen : List Int} (hs : (sel.length : Int) = countF g) : ∀ (k : Nat) (_ : k <= r.nodes.length) (a : List Int × List Int),
  foldO (stepF g r) (sel,seen) (List.range k) = some a ↔ (∀ i,i < k -> StepOk g r seen i) /\ a = (selN g r sel k,seen ++ r.nodes.take k)
 | 0, _, a => by
   show some (sel,seen) = some a ↔ _
   rw [Option.some.injEq,List.take_zero,List.append_nil]
   exact ⟨fun h => ⟨fun i hi => by omega,h.symm⟩,fun h => h.2.symm⟩
 | k + 1, hk, a => by
   rw [List.range_succ,foldO_append,Option.bind_eq_some_iff]
   constructor
   ·rintro ⟨b,hb,h⟩
    obtain ⟨h1,rfl⟩ := (stepsF_iff hs k (by omega) b).1 hb
    rw [foldO_one] at h
    obtain ⟨h2,h3⟩ := (stepF_iff hs (by omega) _).1 h
    refine ⟨fun i hi => ?_,h3⟩
    by_cases e : i = k
    ·rw [e]; exact h2
    ·exact h1 i (by omega)
   ·rintro ⟨h1,rfl⟩
    refine ⟨_,(stepsF_iff hs k (by omega) _).2 ⟨fun i hi => h1 i (by omega),rfl⟩,?_⟩
    rw [foldO_one]
    exact (stepF_iff hs (by omega) _).2 ⟨h1 k (by omega),rfl⟩
def RouteOk (g : Grid) (seen : List Int) (r : Route) : Prop := (r.nodes ≠ [] /\ r.frm.length = r.nodes.length /\ r.frm.getD 0 0 = -1) /\ ∀ i,i < r.nodes.length -> StepOk g r seen i
def selR (g : Grid) (sel : List Int) (r : Route) : List Int := selN g r sel r.nodes.length
theorem routeF_iff {g : Grid} {r : Route} {sel seen : List Int} (hs : (sel.length : Int) = countF g) (a : List Int × List Int) :
  routeF g (sel,seen) r = some a ↔ RouteOk g seen r /\ a = (selR g sel r,seen ++ r.nodes) := by
 unfold routeF RouteOk selR
 by_cases h : r.nodes ≠ [] /\ r.frm.length = r.nodes.length /\ r.frm.getD 0 0 = -1
 ·rw [if_pos h,stepsF_iff hs _ (Nat.le_refl _),List.take_length]
  exact ⟨fun e => ⟨⟨h,e.1⟩,e.2⟩,fun e => ⟨e.1.2,e.2⟩⟩
 ·rw [if_neg h]
  exact ⟨fun e => (by cases e),fun e => absurd e.1.1 h⟩
def flatN (rs : List Route) : List Int := (rs.map fun r => r.nodes).flatten
def RoutesOk (g : Grid) : List Int -> List Route -> Prop
 | _,[] => True
 | seen,r :: rs => RouteOk g seen r /\ RoutesOk g (seen ++ r.nodes) rs
def selRs (g : Grid) : List Int -> List Route -> List Int
 | sel,[] => sel
 | sel,r :: rs => selRs g (selR g sel r) rs
theorem selR_len (g : Grid) (r : Route) (sel : List Int) : (selR g sel r).length = sel.length := selN_len g r sel _
theorem selRs_len (g : Grid) : ∀ (rs : List Route) (sel : List Int),(selRs g sel rs).length = sel.length
 | [],_ => rfl
 | r :: rs,sel => by rw [selRs,selRs_len g rs,selR_len]
theorem routesF_iff {g : Grid} : ∀ (rs : List Route) (sel seen : List Int) (_ : (sel.length : Int) = countF g) (a : List Int × List Int),
  foldO (routeF g) (sel,seen) rs = some a ↔ RoutesOk g seen rs /\ a = (selRs g sel rs,seen ++ flatN rs)
 | [], sel, seen, _, a => by
   show some (sel,seen) = some a ↔ True /\ a = (sel,seen ++ [])
   rw [Option.some.injEq,List.append_nil]
   exact ⟨fun h => ⟨trivial,h.symm⟩,fun h => h.2.symm⟩
 | r :: rs, sel, seen, hs, a => by
   rw [foldO,Option.bind_eq_some_iff]
   have e : seen ++ flatN (r :: rs) = seen ++ r.nodes ++ flatN rs := by simp [flatN]
   rw [e,RoutesOk,selRs]
   constructor
   ·rintro ⟨b,hb,h⟩
    obtain ⟨h1,rfl⟩ := (routeF_iff hs b).1 hb
    obtain ⟨h2,h3⟩ := (routesF_iff rs _ _ (by rw [selR_len]; exact hs) a).1 h
    exact ⟨⟨h1,h2⟩,h3⟩
   ·rintro ⟨⟨h1,h2⟩,h3⟩
    exact ⟨_,(routeF_iff hs _).2 ⟨h1,rfl⟩,(routesF_iff rs _ _ (by rw [selR_len]; exact hs) a).2 ⟨h2,h3⟩⟩
structure RouteSh (g : Grid) (r : Route) : Prop where
 ne : r.nodes ≠ []
 len : r.frm.length = r.nodes.length
 frm : r.frm.getD 0 0 = -1
 rng : ∀ x ∈ r.nodes,0 <= x /\ x < countF g
 src : driversF g (r.nodes.getD 0 0) = []
 drv : ∀ i,0 < i -> i < r.nodes.length -> (0 <= r.frm.getD i 0 /\ r.frm.getD i 0 < i) /\ r.nodes.getD (r.frm.getD i 0).toNat 0 ∈ driversF g (r.nodes.getD i 0)
theorem getD_at {l : List Int} {x : Int} (h : x ∈ l) : ∃ i,i < l.length /\ l.getD i 0 = x := by
 obtain ⟨i,hi,e⟩ := List.getElem_of_mem h
 exact ⟨i,hi,by simp [hi,e]⟩
theorem take_mem {l : List Int} {x : Int} {k : Nat} : x ∈ l.take k ↔ ∃ i,i < k /\ i < l.length /\ l.getD i 0 = x := by
 constructor
 ·intro h
  obtain ⟨i,hi,e⟩ := List.getElem_of_mem h
  rw [List.length_take] at hi
  refine ⟨i,by omega,by omega,?_⟩
  rw [List.getElem_take] at e
  simp [show i < l.length by omega,e]
 ·rintro ⟨i,h1,h2,rfl⟩
  rw [List.mem_take_iff_getElem]
  exact ⟨i,by omega,by simp [h2]⟩
theorem nodup_iff (l : List Int) : l.Nodup ↔ ∀ i,i < l.length -> l.getD i 0 ∉ l.take i := by
 constructor
 ·intro h i hi hm
  obtain ⟨j,h1,h2,e⟩ := take_mem.1 hm
  rw [List.getD_eq_getElem?_getD,List.getD_eq_getElem?_getD,List.getElem?_eq_getElem hi,List.getElem?_eq_getElem h2] at e
  have := (List.getElem_inj h).1 e
  omega
 ·intro h
  rw [List.nodup_iff_pairwise_ne,List.pairwise_iff_getElem]
  intro i j hi hj hij e
  refine h j hj (take_mem.2 ⟨i,hij,hi,?_⟩)
  simp [hi,hj,e]
theorem routeOk_iff {g : Grid} {seen : List Int} {r : Route} : RouteOk g seen r ↔ RouteSh g r /\ r.nodes.Nodup /\ ∀ x ∈ r.nodes,x ∉ seen := by
 constructor
 ·rintro ⟨⟨h1,h2,h3⟩,h4⟩
  have hl := List.length_pos_iff.2 h1
  refine ⟨⟨h1,h2,h3,fun x hx => ?_,(h4 0 hl).2.1 rfl,fun i h0 hi => ?_⟩,(nodup_iff _).2 fun i hi hm => (h4 i hi).1.2 (List.mem_append_right _ hm),fun x hx hm => ?_⟩
  ·obtain ⟨i,hi,rfl⟩ := getD_at hx
   exact (h4 i hi).1.1
  ·obtain ⟨h5,h6⟩ := (h4 i hi).2.2 (by omega)
   exact ⟨by omega,h6⟩
  ·obtain ⟨i,hi,rfl⟩ := getD_at hx
   exact (h4 i hi).1.2 (List.mem_append_left _ hm)
 ·rintro ⟨h,hn,hd⟩
  refine ⟨⟨h.ne,h.len,h.frm⟩,fun i hi => ⟨⟨h.rng _ (getD_mem hi),fun hm => ?_⟩,fun e => by rw [e]; exact h.src,fun e => ?_⟩⟩
  ·rcases List.mem_append.1 hm with hm | hm
   ·exact hd _ (getD_mem hi) hm
   ·exact (nodup_iff _).1 hn i hi hm
  ·obtain ⟨h5,h6⟩ := h.drv i (by omega) hi
   exact ⟨by omega,h6⟩
theorem routesOk_iff {g : Grid} : ∀ (rs : List Route) (seen : List Int),RoutesOk g seen rs ↔ (∀ r ∈ rs,RouteSh g r) /\ (flatN rs).Nodup /\ ∀ x ∈ flatN rs,x ∉ seen
 | [],seen => by simp [RoutesOk,flatN]
 | r :: rs, seen => by
   have e : flatN (r :: rs) = r.nodes ++ flatN rs := by simp [flatN]
   rw [RoutesOk,routeOk_iff,routesOk_iff rs,e,List.nodup_append]
   constructor
   ·rintro ⟨⟨h1,h2,h3⟩,h4,h5,h6⟩
    refine ⟨fun x hx => ?_,⟨h2,h5,fun a ha b hb e => h6 b hb (List.mem_append_right _ (e ▸ ha))⟩,fun x hx hm => ?_⟩
    ·rcases List.mem_cons.1 hx with rfl | hx
     ·exact h1
     ·exact h4 x hx
    ·rcases List.mem_append.1 hx with hx | hx
     ·exact h3 x hx hm
     ·exact h6 x hx (List.mem_append_left _ hm)
   ·rintro ⟨h1,⟨h2,h3,h4⟩,h5⟩
    refine ⟨⟨h1 r (List.mem_cons_self ..),h2,fun x hx => h5 x (List.mem_append_left _ hx)⟩,fun x hx => h1 x (List.mem_cons_of_mem _ hx),h3,fun x hx hm => ?_⟩
    rcases List.mem_append.1 hm with hm | hm
    ·exact h5 x (List.mem_append_right _ hx) hm
    ·exact h4 x hm x hx rfl
theorem blockSet_len {g : Grid} {c : Cfg} {b : Block} {t : Nat} (h : CfgLn g c) : CfgLn g (blockSet c b t) := by
 obtain ⟨h1,h2,h3,h4⟩ := h
 unfold blockSet
 split
 ·refine ⟨?_,?_,?_,?_⟩ <;> simp [*]
 ·split
  ·refine ⟨?_,?_,?_,?_⟩ <;> simp [*]
  ·refine ⟨?_,?_,?_,?_⟩ <;> simp [*]
def modeB (b : Block) : Int := if 0 <= b.ram then 3 else if 0 <= b.reg then 2 else 1
theorem blockSet_mode {c : Cfg} {b : Block} {t : Nat} (h : t < c.mode.length) (i : Nat) : (blockSet c b t).mode.getD i 0 = if t = i then modeB b else c.mode.getD i 0 := by
 unfold blockSet modeB
 repeat' split
 all_goals simp only [getD_set, *] at *
 all_goals simp_all
theorem blockF_iff {g : Grid} {c : Cfg} (hc : CfgLn g c) (b : Block) (t : Int) (c' : Cfg) :
  blockF g c (b,t) = some c' ↔ (c.mode.getD t.toNat 0 = 0 /\ BlockFit g b t) /\ c' = blockSet c b t.toNat := by
 have h2 := hc.2.1
 unfold blockF BlockFit
 simp only
 by_cases h : (0 <= t /\ t <= (g.kind.length : Int) - 1) /\ c.mode.getD t.toNat 0 = 0
 ·rw [if_pos h]
  have hm := blockSet_mode (c := c) (b := b) (t := t.toNat) (by omega) t.toNat
  rw [if_pos rfl] at hm
  rw [hm]
  have hh : BlockOk b -> (holdsF (g.kind.getD t.toNat 0) (modeB b) = true ↔ g.kind.getD t.toNat 0 ≠ 0 /\ ¬ (g.kind.getD t.toNat 0 = 1 /\ b.ram ≠ -1)) := by
   rintro ⟨h1,h2,h3,h4⟩
   generalize g.kind.getD t.toNat 0 = k
   unfold holdsF modeB
   repeat' split
   all_goals first | omega | (simp only [decide_eq_true_eq]; omega) | (simp; omega)
  by_cases ho : BlockOk b
  ·rw [if_pos ho]
   have ho2 := ho
   obtain ⟨q1,q2,q3,q4⟩ := ho2
   by_cases hq : holdsF (g.kind.getD t.toNat 0) (modeB b) = true
   ·rw [if_pos hq,Option.some.injEq]
    have hq2 := (hh ho).1 hq
    constructor
    ·rintro rfl; exact ⟨⟨h.2,⟨⟨by omega,by omega⟩,hq2⟩,⟨q3,q1,q2⟩,by omega⟩,rfl⟩
    ·rintro ⟨_,rfl⟩; rfl
   ·rw [if_neg hq]
    exact ⟨fun e => (by cases e),fun e => absurd ((hh ho).2 e.1.2.1.2) hq⟩
  ·rw [if_neg ho]
   refine ⟨fun e => (by cases e),?_⟩
   rintro ⟨⟨_,_,⟨e1,e2,e3⟩,e4⟩,_⟩
   exact absurd ⟨e2,e3,e1,by omega⟩ ho
 ·rw [if_neg h]
  refine ⟨fun e => (by cases e),?_⟩
  rintro ⟨⟨e1,⟨⟨e2,_⟩,_⟩⟩,_⟩
  exact absurd ⟨⟨e2.1,by omega⟩,e1⟩ h
theorem modeB_ne (b : Block) : modeB b ≠ 0 := by
 unfold modeB
 repeat' split
 all_goals omega
def BlocksOk (g : Grid) : List Int -> List (Block × Int) -> Prop
 | _,[] => True
 | sn,z :: zs => (z.2 ∉ sn /\ BlockFit g z.1 z.2) /\ BlocksOk g (sn ++ [z.2]) zs
def setBs : Cfg -> List (Block × Int) -> Cfg
 | c,[] => c
 | c,z :: zs => setBs (blockSet c z.1 z.2.toNat) zs
theorem blocksF_iff {g : Grid} : ∀ (zs : List (Block × Int)) (c : Cfg) (sn : List Int) (_ : CfgLn g c) (_ : ∀ t : Int, 0 <= t -> t < g.kind.length -> (c.mode.getD t.toNat 0 = 0 ↔ t ∉ sn)) (c' : Cfg),
  foldO (blockF g) c zs = some c' ↔ BlocksOk g sn zs /\ c' = setBs c zs
 | [], c, sn, _, _, c' => by
   show some c = some c' ↔ True /\ c' = c
   rw [Option.some.injEq]
   exact ⟨fun h => ⟨trivial,h.symm⟩,fun h => h.2.symm⟩
 | (b, t) :: zs, c, sn, hc, hm, c' => by
   rw [foldO,Option.bind_eq_some_iff,BlocksOk,setBs]
   have hnx : BlockFit g b t -> ∀ u : Int,0 <= u -> u < g.kind.length -> ((blockSet c b t.toNat).mode.getD u.toNat 0 = 0 ↔ u ∉ sn ++ [t]) := fun hf u h1 h2 => by
    have h3 := hc.2.1
    have h4 := hf.1.1
    rw [blockSet_mode (by omega),List.mem_append,List.mem_singleton]
    by_cases e : t.toNat = u.toNat
    ·rw [if_pos e]
     exact ⟨fun h => absurd h (modeB_ne b),fun h => absurd (.inr (by omega)) h⟩
    ·rw [if_neg e,hm u h1 h2]
     exact ⟨fun h h' => h'.elim h (fun h' => e (by omega)),fun h h' => h (.inl h')⟩
   constructor
   ·rintro ⟨x,hx,h⟩
    obtain ⟨⟨h1,h2⟩,rfl⟩ := (blockF_iff hc b t x).1 hx
    obtain ⟨h3,h4⟩ := (blocksF_iff zs _ _ (blockSet_len hc) (hnx h2) c').1 h
    exact ⟨⟨⟨(hm t h2.1.1.1 h2.1.1.2).1 h1,h2⟩,h3⟩,h4⟩
   ·rintro ⟨⟨⟨h1,h2⟩,h3⟩,h4⟩
    exact ⟨_,(blockF_iff hc b t _).2 ⟨⟨(hm t h2.1.1.1 h2.1.1.2).2 h1,h2⟩,rfl⟩,(blocksF_iff zs _ _ (blockSet_len hc) (hnx h2) c').2 ⟨h3,h4⟩⟩
theorem blocksOk_iff {g : Grid} : ∀ (zs : List (Block × Int)) (sn : List Int),BlocksOk g sn zs ↔ (∀ z ∈ zs,BlockFit g z.1 z.2) /\ (zs.map Prod.snd).Nodup /\ ∀ x ∈ zs.map Prod.snd,x ∉ sn
 | [],sn => by simp [BlocksOk]
 | z :: zs, sn => by
   rw [BlocksOk,blocksOk_iff zs,List.map_cons,List.nodup_cons]
   constructor
   ·rintro ⟨⟨h1,h2⟩,h3,h4,h5⟩
    refine ⟨fun x hx => ?_,⟨fun hm => h5 _ hm (by simp),h4⟩,fun x hx hm => ?_⟩
    ·rcases List.mem_cons.1 hx with rfl | hx
     ·exact h2
     ·exact h3 x hx
    ·rcases List.mem_cons.1 hx with rfl | hx
     ·exact h1 hm
     ·exact h5 x hx (List.mem_append_left _ hm)
   ·rintro ⟨h1,⟨h2,h3⟩,h4⟩
    refine ⟨⟨h4 _ (List.mem_cons_self ..),h1 z (List.mem_cons_self ..)⟩,fun x hx => h1 x (List.mem_cons_of_mem _ hx),h3,fun x hx hm => ?_⟩
    rcases List.mem_append.1 hm with hm | hm
    ·exact h4 x (List.mem_cons_of_mem _ hx) hm
    ·rw [List.mem_singleton] at hm
     exact h2 (hm ▸ hx)
structure FitsF (p : Packed) (g : Grid) (l : Layout) : Prop where
 len : l.pos.length = p.blocks.length
 fit : ∀ z ∈ p.blocks.zip l.pos,BlockFit g z.1 z.2
 pos : l.pos.Nodup
 sh : ∀ r ∈ l.routes,RouteSh g r
 nod : (flatN l.routes).Nodup
def encC (p : Packed) (g : Grid) (l : Layout) : Cfg := { setBs (blankF g) (p.blocks.zip l.pos) with sel := selRs g (List.replicate (countF g).toNat 0) l.routes }
theorem blankF_len (g : Grid) : CfgLn g (blankF g) := by refine ⟨?_,?_,?_,?_⟩ <;> simp [blankF]
theorem blockSet_sel (c : Cfg) (b : Block) (t : Nat) : (blockSet c b t).sel = c.sel := by
 unfold blockSet
 repeat' split
 all_goals rfl
theorem setBs_sel : ∀ (zs : List (Block × Int)) (c : Cfg),(setBs c zs).sel = c.sel
 | [],_ => rfl
 | z :: zs,c => by rw [setBs,setBs_sel zs,blockSet_sel]
theorem encO_iff (p : Packed) {g : Grid} (hg : GOk g) (l : Layout) (c : Cfg) : encO p g l = some c ↔ FitsF p g l /\ c = encC p g l := by
 have hcn := hg.count
 unfold encO
 by_cases h : l.pos.length = p.blocks.length
 ·rw [if_pos h,Option.bind_eq_some_iff]
  have hz : (p.blocks.zip l.pos).map Prod.snd = l.pos := List.map_snd_zip (by omega)
  have h0 : ∀ t : Int,0 <= t -> t < g.kind.length -> ((blankF g).mode.getD t.toNat 0 = 0 ↔ t ∉ ([] : List Int)) := fun t h1 h2 => by
   simp [blankF,List.getElem?_replicate]
   split <;> rfl
  have hlen : ((blankF g).sel.length : Int) = countF g := by simp [blankF]; omega
  have key : ∀ x : Cfg,foldO (blockF g) (blankF g) (p.blocks.zip l.pos) = some x -> x.sel = (blankF g).sel := fun x hx => by
   obtain ⟨_,rfl⟩ := (blocksF_iff _ _ _ (blankF_len g) h0 x).1 hx
   rw [setBs_sel]
  constructor
  ·rintro ⟨x,hx,hy⟩
   rw [Option.map_eq_some_iff] at hy
   obtain ⟨a,ha,rfl⟩ := hy
   rw [key x hx] at ha
   obtain ⟨h1,rfl⟩ := (blocksF_iff _ _ _ (blankF_len g) h0 x).1 hx
   obtain ⟨h2,rfl⟩ := (routesF_iff _ _ _ hlen a).1 ha
   obtain ⟨q1,q2,_⟩ := (blocksOk_iff _ _).1 h1
   obtain ⟨q3,q4,_⟩ := (routesOk_iff _ _).1 h2
   rw [hz] at q2
   exact ⟨⟨h,q1,q2,q3,q4⟩,rfl⟩
  ·rintro ⟨⟨_,q1,q2,q3,q4⟩,rfl⟩
   have hx := (blocksF_iff _ _ _ (blankF_len g) h0 _).2 ⟨(blocksOk_iff _ _).2 ⟨q1,by rw [hz]; exact q2,fun _ _ h => by cases h⟩,rfl⟩
   refine ⟨_,hx,?_⟩
   rw [Option.map_eq_some_iff,key _ hx]
   exact ⟨_,(routesF_iff _ _ _ hlen _).2 ⟨(routesOk_iff _ _).2 ⟨q3,q4,fun _ _ h => by cases h⟩,rfl⟩,rfl⟩
 ·rw [if_neg h]
  exact ⟨fun e => (by cases e),fun e => absurd e.1.len h⟩
theorem encF_fit {p : Packed} {g : Grid} (hg : GOk g) {l : Layout} (h : FitsF p g l) : encF p g l = (encC p g l,0) := by
 rw [encF,(encO_iff p hg l _).2 ⟨h,rfl⟩]
theorem encF_not {p : Packed} {g : Grid} (hg : GOk g) {l : Layout} (h : ¬ FitsF p g l) : encF p g l = (cfg0,350) := by
 have : encO p g l = none := by
  cases e : encO p g l with
  | none => rfl
  | some c => exact absurd ((encO_iff p hg l c).1 e).1 h
 rw [encF,this]
theorem setBs_len {g : Grid} : ∀ (zs : List (Block × Int)) (c : Cfg),CfgLn g c -> CfgLn g (setBs c zs)
 | [],_,h => h
 | z :: zs,c,h => setBs_len zs _ (blockSet_len h)
theorem encC_len (p : Packed) (g : Grid) (l : Layout) : CfgLn g (encC p g l) := by
 obtain ⟨h1,h2,h3,h4⟩ := setBs_len (g := g) (p.blocks.zip l.pos) _ (blankF_len g)
 exact ⟨by simp only [encC]; rw [selRs_len,List.length_replicate],h2,h3,h4⟩
theorem FitsF.zs {p : Packed} {g : Grid} {l : Layout} (h : FitsF p g l) : (p.blocks.zip l.pos).map Prod.snd = l.pos := List.map_snd_zip (by have := h.len; omega)
theorem FitsF.rng {p : Packed} {g : Grid} {l : Layout} (h : FitsF p g l) : ∀ z ∈ p.blocks.zip l.pos,0 <= z.2 /\ z.2 < g.kind.length := fun z hz => (h.fit z hz).1.1
theorem candN_sorted (g : Grid) (s : Spot) : ∀ k,(candN g s k).Pairwise (· < ·)
 | 0 => .nil
 | k + 1 => by
   rw [candN,List.pairwise_append]
   refine ⟨candN_sorted g s k,?_,fun a ha b hb => ?_⟩
   ·split <;> simp
   ·have := candN_rng g s k a ha
    split at hb
    ·simp at hb; omega
    ·simp at hb
theorem driversF_sorted {g : Grid} (hg : GOk g) (n : Int) : (driversF g n).Pairwise (· < ·) := by
 rw [drivers_eq hg,rdrF]
 split
 ·exact candN_sorted _ _ _
 ·exact .nil
theorem sorted_count : ∀ {l : List Int} {x : Int},l.Pairwise (· < ·) -> x ∈ l -> l.countP (· < x) < l.length /\ l.getD (l.countP (· < x)) 0 = x
 | y :: ys, x, hs, h => by
   obtain ⟨h1,h2⟩ := List.pairwise_cons.1 hs
   rcases List.mem_cons.1 h with rfl | h
   ·have : (x :: ys).countP (· < x) = 0 := by
     rw [List.countP_eq_zero]
     intro a ha
     rcases List.mem_cons.1 ha with rfl | ha
     ·simp
     ·have := h1 a ha
      simp; omega
    rw [this]
    exact ⟨by simp,rfl⟩
   ·obtain ⟨h3,h4⟩ := sorted_count h2 h
    have h5 := h1 x h
    rw [List.countP_cons,if_pos (by simpa using h5)]
    exact ⟨by simp; omega,by simpa using h4⟩
theorem selN_ne {g : Grid} {r : Route} (hr : ∀ x ∈ r.nodes,0 <= x) (sel : List Int) {n : Int} (hn : 0 <= n) : ∀ (k : Nat) (_ : k <= r.nodes.length) (_ : ∀ i,0 < i -> i < k -> r.nodes.getD i 0 ≠ n),(selN g r sel k).getD n.toNat 0 = sel.getD n.toNat 0
 | 0,_,_ => rfl
 | k + 1, hk, h => by
   rw [selN]
   have ih := selN_ne (g := g) hr sel hn k (by omega) fun i h1 h2 => h i h1 (by omega)
   split
   ·exact ih
   ·have h1 := h k (by omega) (by omega)
    have h2 := hr _ (getD_mem (l := r.nodes) (k := k) (by omega))
    rw [getD_set,if_neg (by omega),ih]
theorem getD_inj {l : List Int} (h : l.Nodup) {i j : Nat} (hi : i < l.length) (hj : j < l.length) (e : l.getD i 0 = l.getD j 0) : i = j := by
 rw [List.getD_eq_getElem?_getD,List.getD_eq_getElem?_getD,List.getElem?_eq_getElem hi,List.getElem?_eq_getElem hj] at e
 exact (List.getElem_inj h).1 e
theorem selN_at {g : Grid} {r : Route} {sel : List Int} (hs : (sel.length : Int) = countF g) (hr : RouteSh g r) (hd : r.nodes.Nodup) {i : Nat} (h0 : 0 < i) : ∀ (k : Nat) (_ : k <= r.nodes.length) (_ : i < k),(selN g r sel k).getD (r.nodes.getD i 0).toNat 0 = selAt g r i
 | k + 1, hk, h => by
   have h1 := hr.rng _ (getD_mem (l := r.nodes) (k := i) (by omega))
   have h2 := hr.rng _ (getD_mem (l := r.nodes) (k := k) (by omega))
   rw [selN,if_neg (by omega),getD_set,selN_len]
   by_cases e : i = k
   ·subst e
    rw [if_pos (by omega)]
   ·have : r.nodes.getD i 0 ≠ r.nodes.getD k 0 := fun e2 => e (getD_inj hd (by omega) (by omega) e2)
    rw [if_neg (by omega)]
    exact selN_at hs hr hd h0 k (by omega) (by omega)
def tailsN (rs : List Route) : List Int := (rs.map fun r => r.nodes.tail).flatten
theorem tail_mem {l : List Int} {x : Int} : x ∈ l.tail ↔ ∃ i,0 < i /\ i < l.length /\ l.getD i 0 = x := by
 cases l with
 | nil => simp
 | cons y l =>
   rw [List.tail_cons]
   constructor
   ·intro h
    obtain ⟨i,hi,e⟩ := getD_at h
    exact ⟨i + 1,by omega,by simp; omega,by simpa using e⟩
   ·rintro ⟨i,h1,h2,h3⟩
    obtain ⟨j,rfl⟩ : ∃ j,i = j + 1 := ⟨i - 1,by omega⟩
    rw [List.getD_cons_succ] at h3
    rw [<- h3]
    exact getD_mem (by simpa using h2)
theorem tailsN_mem {rs : List Route} {x : Int} : x ∈ tailsN rs ↔ ∃ r ∈ rs,∃ i,0 < i /\ i < r.nodes.length /\ r.nodes.getD i 0 = x := by
 simp only [tailsN,List.mem_flatten,List.mem_map]
 constructor
 ·rintro ⟨_,⟨r,hr,rfl⟩,hx⟩
  exact ⟨r,hr,tail_mem.1 hx⟩
 ·rintro ⟨r,hr,hx⟩
  exact ⟨_,⟨r,hr,rfl⟩,tail_mem.2 hx⟩
theorem flatN_mem {rs : List Route} {x : Int} : x ∈ flatN rs ↔ ∃ r ∈ rs,x ∈ r.nodes := by
 simp only [flatN,List.mem_flatten,List.mem_map]
 constructor
 ·rintro ⟨_,⟨r,hr,rfl⟩,hx⟩
  exact ⟨r,hr,hx⟩
 ·rintro ⟨r,hr,hx⟩
  exact ⟨_,⟨r,hr,rfl⟩,hx⟩
theorem tails_flat {rs : List Route} {x : Int} (h : x ∈ tailsN rs) : x ∈ flatN rs := by
 obtain ⟨r,hr,i,_,hi,rfl⟩ := tailsN_mem.1 h
 exact flatN_mem.2 ⟨r,hr,getD_mem hi⟩
theorem flatN_cons (r : Route) (rs : List Route) : flatN (r :: rs) = r.nodes ++ flatN rs := by simp [flatN]
theorem tailsN_cons (r : Route) (rs : List Route) : tailsN (r :: rs) = r.nodes.tail ++ tailsN rs := by simp [tailsN]
theorem selRs_ne {g : Grid} {n : Int} (hn : 0 <= n) : ∀ (rs : List Route) (sel : List Int) (_ : ∀ r ∈ rs,RouteSh g r) (_ : n ∉ tailsN rs),(selRs g sel rs).getD n.toNat 0 = sel.getD n.toNat 0
 | [],_,_,_ => rfl
 | r :: rs, sel, hr, h => by
   rw [tailsN_cons,List.mem_append] at h
   rw [selRs,selRs_ne hn rs _ (fun x hx => hr x (List.mem_cons_of_mem _ hx)) fun hm => h (.inr hm)]
   exact selN_ne (fun x hx => ((hr r (List.mem_cons_self ..)).rng x hx).1) sel hn _ (Nat.le_refl _) fun i h1 h2 e => h (.inl (tail_mem.2 ⟨i,h1,h2,e⟩))
theorem selRs_at {g : Grid} : ∀ (rs : List Route) (sel : List Int) (_ : (sel.length : Int) = countF g) (_ : ∀ r ∈ rs,RouteSh g r) (_ : (flatN rs).Nodup) (r : Route) (_ : r ∈ rs) (i : Nat) (_ : 0 < i) (_ : i < r.nodes.length),(selRs g sel rs).getD (r.nodes.getD i 0).toNat 0 = selAt g r i
 | x :: rs, sel, hs, hr, hd, r, h, i, h0, hi => by
   rw [flatN_cons,List.nodup_append] at hd
   obtain ⟨d1,d2,d3⟩ := hd
   have hr' : ∀ r ∈ rs,RouteSh g r := fun x hx => hr x (List.mem_cons_of_mem _ hx)
   rw [selRs]
   rcases List.mem_cons.1 h with rfl | h
   ·have hm : r.nodes.getD i 0 ∈ r.nodes := getD_mem hi
    have hrg := (hr r (List.mem_cons_self ..)).rng _ hm
    rw [selRs_ne hrg.1 rs _ hr' fun ht => d3 _ hm _ (tails_flat ht) rfl]
    exact selN_at hs (hr r (List.mem_cons_self ..)) d1 h0 _ (Nat.le_refl _) hi
   ·exact selRs_at rs _ (by rw [selR_len]; exact hs) hr' d2 r h i h0 hi
theorem encC_sel_ne {p : Packed} {g : Grid} {l : Layout} (h : FitsF p g l) {n : Int} (hn : 0 <= n) (ht : n ∉ tailsN l.routes) : (encC p g l).sel.getD n.toNat 0 = 0 := by
 show (selRs g _ l.routes).getD _ _ = 0
 rw [selRs_ne hn _ _ h.sh ht,List.getD_eq_getElem?_getD,List.getElem?_replicate]
 split <;> rfl
theorem encC_sel_at {p : Packed} {g : Grid} (hg : GOk g) {l : Layout} (h : FitsF p g l) {r : Route} (hr : r ∈ l.routes) {i : Nat} (h0 : 0 < i) (hi : i < r.nodes.length) : (encC p g l).sel.getD (r.nodes.getD i 0).toNat 0 = selAt g r i :=
 selRs_at _ _ (by have := hg.count; rw [List.length_replicate]; omega) h.sh h.nod r hr i h0 hi
theorem selAt_ok {g : Grid} (hg : GOk g) {r : Route} (h : RouteSh g r) {i : Nat} (h0 : 0 < i) (hi : i < r.nodes.length) : (1 <= selAt g r i /\ selAt g r i <= (driversF g (r.nodes.getD i 0)).length) /\ (driversF g (r.nodes.getD i 0)).getD (selAt g r i - 1).toNat 0 = r.nodes.getD (r.frm.getD i 0).toNat 0 := by
 obtain ⟨h1,h2⟩ := h.drv i h0 hi
 obtain ⟨h3,h4⟩ := sorted_count (driversF_sorted hg _) h2
 unfold selAt
 refine ⟨by omega,?_⟩
 generalize List.countP _ _ = k at *
 rw [show (1 + (k : Int) - 1).toNat = k by omega,h4]
theorem encC_sels {p : Packed} {g : Grid} (hg : GOk g) {l : Layout} (h : FitsF p g l) : SelsOk g (encC p g l) := by
 refine ⟨(encC_len p g l).1,fun i hi h1 => ?_⟩
 by_cases e : (i : Int) ∈ tailsN l.routes
 ·obtain ⟨r,hr,k,h0,hk,e⟩ := tailsN_mem.1 e
  have h2 := encC_sel_at hg h hr h0 hk
  have h3 := (selAt_ok hg (h.sh r hr) h0 hk).1
  rw [e,Int.toNat_natCast] at h2
  rw [e] at h3
  rw [h2]
  exact h3
 ·have := encC_sel_ne h (n := i) (by omega) e
  rw [Int.toNat_natCast] at this
  exact absurd this h1
end Go.Proofs.Ytledbjkolidhkaa
