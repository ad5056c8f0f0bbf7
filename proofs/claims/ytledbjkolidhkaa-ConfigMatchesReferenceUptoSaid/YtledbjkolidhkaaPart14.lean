/- ZM ZN ZO ZP ZT ZW ZQ ZR ZV TxtP ME TxtM MB: lemmas -/
import Derived.Test.YtledbjkolidhkaaPart13
import Derived.Test.YtledbjkolidhkaaPart06
import Derived.Test.YtledbjkolidhkaaChecked
import Derived.Test.YtledbjkolidhkaaPart11
set_option linter.unusedSimpArgs false
set_option linter.unusedVariables false
open Nat (reduceEqDiff reduceAdd reduceSub reduceMul reduceLT reduceLeDiff)
open Int (reduceToNat reduceNeg)
namespace Go.Proofs.Ytledbjkolidhkaa
open Go Go.Vc Txt
theorem candN_mem (g : Grid) (s : Spot) (x : Int) : ∀ k,x ∈ candN g s k ↔ ∃ i,i < k /\ CanD g (descF g i) s /\ x = (i : Int)
 | 0 => by simp [candN]
 | k + 1 => by
   rw [candN,List.mem_append,candN_mem g s x k]
   constructor
   ·rintro (⟨i,h1,h2,h3⟩ | h)
    ·exact ⟨i,by omega,h2,h3⟩
    ·split at h
     ·rename_i hp
      exact ⟨k,by omega,hp,by simpa using h⟩
     ·simp at h
   ·rintro ⟨i,h1,h2,h3⟩
    by_cases e : i = k
    ·subst e
     rw [if_pos h2]
     exact .inr (by simp [h3])
    ·exact .inl ⟨i,by omega,h2,h3⟩
theorem descE_in {g : Grid} {n : Int} (hn : 0 <= n /\ n < countF g) : descE g n = (descF g n,0) := by rw [descE,if_neg (by omega)]
theorem driversF_memC {g : Grid} (hg : GOk g) {n : Int} (hn : 0 <= n /\ n < countF g) (x : Int) : x ∈ driversF g n ↔ (0 <= x /\ x < countF g) /\ CanD g (descF g x) (descF g n) := by
 have := hg.count
 rw [drivers_eq hg,rdrF,descE_in hn,if_pos rfl,candN_mem]
 constructor
 ·rintro ⟨i,h1,h2,rfl⟩
  exact ⟨by omega,h2⟩
 ·rintro ⟨h1,h2⟩
  exact ⟨x.toNat,by omega,by rw [show ((x.toNat : Nat) : Int) = x by omega]; exact h2,by omega⟩
theorem srcs_none {g : Grid} (hg : GOk g) {n : Int} (h : n ∈ srcsF g) : driversF g n = [] := by
 obtain ⟨h1,h2⟩ := (srcsF_mem hg n).1 h
 cases e : driversF g n with
 | nil => rfl
 | cons y l =>
   have hy : y ∈ driversF g n := by rw [e]; exact List.mem_cons_self ..
   have hc := ((driversF_memC hg h1 y).1 hy).2
   rcases h2 with h2 | h2 | h2 <;> simp [CanD,Adj,h2] at hc <;> repeat' (split at hc)
   all_goals omega
theorem getD_app_lt {l : List Int} {i : Nat} (h : i < l.length) (m : List Int) : (l ++ m).getD i 0 = l.getD i 0 := by
 rw [List.getD_eq_getElem?_getD,List.getElem?_append_left h,List.getD_eq_getElem?_getD]
theorem getD_app_eq (l : List Int) (x : Int) : (l ++ [x]).getD l.length 0 = x := by
 rw [List.getD_eq_getElem?_getD,List.getElem?_append_right (Nat.le_refl _)]
 simp
def GrS (g : Grid) (sn : List Int) (a : List Int × List Int) : Prop := a.1.Nodup /\ (∀ x ∈ a.1,x ∉ sn) /\ (a.1 ≠ [] -> a.2.getD 0 0 = -1 /\ driversF g (a.1.getD 0 0) = []) /\
 ∀ i,0 < i -> i < a.1.length -> (0 <= a.2.getD i 0 /\ a.2.getD i 0 < i) /\ a.1.getD (a.2.getD i 0).toNat 0 ∈ driversF g (a.1.getD i 0)
structure GrSh (g : Grid) (sn : List Int) (a : List Int × List Int) : Prop where
 ok : GrOk g a
 s : GrS g sn a
theorem growS_sh {g : Grid} (hg : GOk g) {sn : List Int} {a : List Int × List Int} {b : Int} (hb : 0 <= b /\ b <= 255) (h : GrSh g sn a) : GrSh g sn (growS g sn a b) := by
 have hok := (growS_ok hg (sn := sn) hb h.ok).1
 obtain ⟨⟨h1,h2⟩,h3,h4,h5,h6⟩ := h
 have hse := List.length_pos_iff.2 (srcsF_ne hg)
 refine ⟨hok,?_⟩
 clear hok
 unfold GrS growS
 split
 ·rename_i e
  split
  ·exact ⟨h3,h4,h5,h6⟩
  ·rename_i e2
   have hm : (srcsF g).getD (b % ((srcsF g).length : Int)).toNat 0 ∈ srcsF g := getD_mem (by have := Int.emod_lt_of_pos b (show 0 < ((srcsF g).length : Int) by omega); have := Int.emod_nonneg b (show ((srcsF g).length : Int) ≠ 0 by omega); omega)
   refine ⟨by simp,fun x hx => ?_,fun _ => ⟨rfl,srcs_none hg hm⟩,fun i h0 hi => by simp at hi; omega⟩
   rw [List.mem_singleton] at hx
   rw [hx]; exact e2
 ·rename_i e
  have hlp := List.length_pos_iff.2 e
  simp only
  have q1 := Int.emod_lt_of_pos (b / 64) (show 0 < (a.1.length : Int) by omega)
  have q2 := Int.emod_nonneg (b / 64) (show (a.1.length : Int) ≠ 0 by omega)
  generalize b / 64 % (a.1.length : Int) = q at *
  have hx := h2 _ (getD_mem (l := a.1) (k := ((a.1.length : Int) - 1 - q).toNat) (by omega))
  generalize hxe : a.1.getD ((a.1.length : Int) - 1 - q).toNat 0 = x at *
  split
  ·exact ⟨h3,h4,h5,h6⟩
  ·rename_i e2
   have hdp := List.length_pos_iff.2 e2
   have hm : (drvnF g x).getD (b % 64 % ((drvnF g x).length : Int)).toNat 0 ∈ drvnF g x := getD_mem (by have := Int.emod_lt_of_pos (b % 64) (show 0 < ((drvnF g x).length : Int) by omega); have := Int.emod_nonneg (b % 64) (show ((drvnF g x).length : Int) ≠ 0 by omega); omega)
   generalize (drvnF g x).getD (b % 64 % ((drvnF g x).length : Int)).toNat 0 = n at *
   have hn := (drvnF_mem hg hx n).1 hm
   have hd : x ∈ driversF g n := (driversF_memC hg hn.1 x).2 ⟨hx,hn.2⟩
   split
   ·rename_i e3
    refine ⟨List.nodup_append.2 ⟨h3,by simp,by intro a ha b hb h; simp at hb; subst hb; subst h; exact e3.2 ha⟩,fun y hy => ?_,fun _ => ?_,fun i h0 hi => ?_⟩
    ·rw [List.mem_append,List.mem_singleton] at hy
     rcases hy with hy | rfl
     ·exact h4 y hy
     ·exact e3.1
    ·simp only
     rw [getD_app_lt (by omega),getD_app_lt (by omega)]
     exact h5 e
    ·simp only [List.length_append,List.length_singleton] at hi ⊢
     by_cases e4 : i = a.1.length
     ·subst e4
      have := getD_app_eq a.2 ((a.1.length : Int) - 1 - q)
      rw [h1] at this
      rw [this,getD_app_eq,getD_app_lt (by omega),hxe]
      exact ⟨by omega,hd⟩
     ·have := h6 i h0 (by omega)
      rw [getD_app_lt (by omega),getD_app_lt (show i < a.1.length by omega),getD_app_lt (by omega)]
      exact this
   ·exact ⟨h3,h4,h5,h6⟩
theorem growN_sh {g : Grid} (hg : GOk g) (sn l : List Int) (hb : ∀ x ∈ l,0 <= x /\ x <= 255) : ∀ k,GrSh g sn (growN g sn l k)
 | 0 => ⟨⟨rfl,by simp [growN]⟩,.nil,by simp [growN],fun h => absurd rfl h,fun i h0 hi => by simp [growN] at hi⟩
 | k + 1 => by
   have hbk : 0 <= l.getD k 0 /\ l.getD k 0 <= 255 := by
    by_cases h : k < l.length
    ·exact hb _ (getD_mem h)
    ·rw [List.getD_eq_getElem?_getD,List.getElem?_eq_none (by omega)]; decide
   exact growS_sh hg hbk (growN_sh hg sn l hb k)
theorem growF_sh {g : Grid} (hg : GOk g) (sn l : List Int) (hb : ∀ x ∈ l,0 <= x /\ x <= 255) (h : (growF g sn l).nodes ≠ []) (s : Int) : RouteSh g { growF g sn l with sig := s } := by
 obtain ⟨⟨h1,h2⟩,h3,h4,h5,h6⟩ := growN_sh hg sn l hb (min l.length 16)
 exact ⟨h,h1,(h5 h).1,h2,(h5 h).2,h6⟩
structure Raw31 where
 g : RawG
 blocks : List (Int × Int × Int)
 routes : List (List Int)
structure Raw31.By (x : Raw31) : Prop where
 g : x.g.By
 bl : (x.blocks.length : Int) <= 9223372036854775807
 blocks : ∀ y ∈ x.blocks,(0 <= y.1 /\ y.1 <= 255) /\ (0 <= y.2.1 /\ y.2.1 <= 255) /\ (0 <= y.2.2 /\ y.2.2 <= 255)
 rl : (x.routes.length : Int) <= 9223372036854775807
 routes : ∀ l ∈ x.routes,(l.length : Int) <= 9223372036854775807 /\ ∀ y ∈ l,0 <= y /\ y <= 255
def gridM (x : RawG) : Grid := { gridF x with pads := 4 }
def rtS1 (g : Grid) (a : List Int × List Route) (k : Nat) (l : List Int) : List Int × List Route :=
 if (growF g a.1 l).nodes = [] then a else (a.1 ++ (growF g a.1 l).nodes,a.2 ++ [{ growF g a.1 l with sig := k }])
def rtN (g : Grid) (xs : List (List Int)) : Nat -> List Int × List Route
 | 0 => ([],[])
 | k + 1 => rtS1 g (rtN g xs k) k (xs.getD k [])
def packM (x : Raw31) : Packed := ⟨[],(blkF (gridM x.g) x.blocks).1,[],[]⟩
def layM (x : Raw31) : Layout := ⟨(blkF (gridM x.g) x.blocks).2,(rtN (gridM x.g) x.routes (min x.routes.length 5)).2⟩
theorem gridM_ok (x : RawG) : GOk (gridM x) /\ (gridM x).pads = 4 := by
 obtain ⟨⟨h1,h2,h3,h4,h5⟩,h6⟩ := gridF_ok x
 exact ⟨⟨h1,h2,h3,by show 0 <= (4 : Int) /\ (4 : Int) <= 1000; omega,h5⟩,rfl⟩
structure RtOk (g : Grid) (a : List Int × List Route) (k : Nat) : Prop where
 sh : ∀ r ∈ a.2,RouteSh g r
 nod : (flatN a.2).Nodup
 eq : a.1 = flatN a.2
 len : a.2.length <= k
 rl : ∀ r ∈ a.2,r.nodes.length <= 16
theorem flatN_snoc (rs : List Route) (r : Route) : flatN (rs ++ [r]) = flatN rs ++ r.nodes := by simp [flatN]
theorem rtN_ok {g : Grid} (hg : GOk g) (xs : List (List Int)) (hb : ∀ l ∈ xs,∀ y ∈ l,0 <= y /\ y <= 255) : ∀ k,RtOk g (rtN g xs k) k
 | 0 => ⟨by simp [rtN],by simp [rtN,flatN],rfl,by simp [rtN],by simp [rtN]⟩
 | k + 1 => by
   obtain ⟨h1,h2,h3,h4,h5⟩ := rtN_ok hg xs hb k
   have hbl : ∀ y ∈ xs.getD k [],0 <= y /\ y <= 255 := by
    by_cases h : k < xs.length
    ·have hm : xs.getD k [] ∈ xs := by simp [h]
     exact hb _ hm
    ·rw [List.getD_eq_getElem?_getD,List.getElem?_eq_none (by omega)]; simp
   rw [rtN,rtS1]
   split
   ·exact ⟨h1,h2,h3,by omega,h5⟩
   ·rename_i e
    have hs := growF_sh hg (rtN g xs k).1 _ hbl e k
    have hG := growN_sh hg (rtN g xs k).1 _ hbl (min (xs.getD k []).length 16)
    have hL := (growN_ok hg (rtN g xs k).1 _ hbl (min (xs.getD k []).length 16)).2
    refine ⟨fun r hr => ?_,?_,?_,by simp; omega,fun r hr => ?_⟩
    ·rw [List.mem_append,List.mem_singleton] at hr
     rcases hr with hr | rfl
     ·exact h1 r hr
     ·exact hs
    ·rw [flatN_snoc,List.nodup_append]
     exact ⟨h2,hG.s.1,fun a ha b hb e => hG.s.2.1 b hb (by rw [h3,<- e]; exact ha)⟩
    ·rw [flatN_snoc,h3]
    ·rw [List.mem_append,List.mem_singleton] at hr
     rcases hr with hr | rfl
     ·exact h5 r hr
     ·show (growN _ _ _ _).1.length <= 16
      omega
theorem made_fits {x : Raw31} (hx : x.By) : FitsF (packM x) (gridM x.g) (layM x) := by
 obtain ⟨h1,h2,h3,h4⟩ := (blkN_ok (gridM x.g) x.blocks (min x.blocks.length 12)).1
 obtain ⟨q1,q2,q3,q4⟩ := rtN_ok (gridM_ok x.g).1 x.routes (fun l hl => (hx.routes l hl).2) (min x.routes.length 5)
 exact ⟨h1,h2,h3,q1,q2⟩
def bytesL (q : Bool) (l : List Int) : List PV := [.sl q 1 (bytes8 l)]
@[push_cast] theorem bytesL_eq (q : Bool) (l : List Int) : bytesL q l = [.sl q 1 (bytes8 l)] := rfl
def raw31C (q : Bool) (x : Raw31) : List PV := rawGC q x.g ++ [.sl q 3 (rows tripC x.blocks),.sl q 1 (rows (bytesL q) x.routes)]
@[push_cast] theorem raw31C_eq (q : Bool) (x : Raw31) : raw31C q x = rawGC q x.g ++ [.sl q 3 (rows tripC x.blocks),.sl q 1 (rows (bytesL q) x.routes)] := rfl
def lvR (id : Nat) : List Route -> PV
 | [] => .nil
 | x :: l => .view id 0 (l.length + 1)
def laR (id : Nat) : List Route -> List (Nat × Arr)
 | [] => []
 | x :: l => [(id,⟨3,72,rows (routeC true) (x :: l)⟩)]
@[push_cast] theorem lvR_nil (id : Nat) : lvR id [] = .nil := rfl
@[push_cast] theorem lvR_cons (id : Nat) (x : Route) (l : List Route) : lvR id (x :: l) = .view id 0 (l.length + 1) := rfl
@[push_cast] theorem laR_nil (id : Nat) : laR id [] = [] := rfl
@[push_cast] theorem laR_cons (id : Nat) (x : Route) (l : List Route) : laR id (x :: l) = [(id,⟨3,72,rows (routeC true) (x :: l)⟩)] := rfl
@[push_cast] theorem lvR_to (pb pa : Nat -> Bool) (id : Nat) (rs : List Route) : PV.to pb pa (lvR id rs) = (pa id && !rs.isEmpty) := by cases rs <;> simp [lvR,PV.to]
set_option maxHeartbeats 4000000 in
theorem made31_ok (x : Raw31) (hx : x.By) : FnEq Try.prog 11 [.agg (raw31C false x)] (.agg (desC true (gridM x.g) (packM x) (layM x))) := by
 obtain ⟨hg,hp⟩ := gridM_ok x.g
 have hcn := hg.count
 refine FnEq.of_awp Try.func11 ok11 (by show 1 <= _; decide) (by simp only [push_cast,reduceIte,reduceEqDiff,reduceAdd,reduceSub,reduceMul,Nat.reduceBEq,reduceLT,reduceLeDiff,reduceCtorEq,reduceToNat,reduceNeg] <;> first | exact fun _ _ => trivial | simp) ?_
 simp only [ac11,rv11,push_cast,reduceIte,reduceEqDiff,reduceAdd,reduceSub,reduceMul,Nat.reduceBEq,reduceLT,reduceLeDiff,reduceCtorEq,reduceToNat,reduceNeg]
 refine cal_eq (made_ok x.g hx.g.ok) ?_
 refine sB ?_
 refine cal_sub (rblocks_ok (gridM x.g) hg x.blocks hx.bl hx.blocks) ⟨.refl _,.refl _,trivial⟩ ?_
 have hrt := rtN_ok hg x.routes (fun l hl => (hx.routes l hl).2)
 have hP : packM x = ⟨[],(blkF (gridM x.g) x.blocks).1,[],[]⟩ := rfl
 have hL : layM x = ⟨(blkF (gridM x.g) x.blocks).2,(rtN (gridM x.g) x.routes (min x.routes.length 5)).2⟩ := rfl
 rw [hP,hL]
 generalize blkF (gridM x.g) x.blocks = bt
 obtain ⟨bs,ts⟩ := bt
 generalize gridM x.g = g at *
 clear hP hL
 have hrl := hx.rl
 have hrr := hx.routes
 generalize hxs : x.routes = xs at *
 refine sB ?_
 refine cal_sub (rcount_ok g hg) sC ?_
 refine sB ?_
 repeat (refine And.intro (by omega) ?_)
 obtain ⟨c,hc⟩ : ∃ c : Nat,countF g = c := ⟨(countF g).toNat,by omega⟩
 rw [hc,Int.toNat_natCast,List.length_replicate,seenB_nil]
 refine loop_of (fun m st => ∃ k : Nat,k <= min xs.length 5 /\ m = min xs.length 5 - k /\ st = ⟨[(1,.ptr 1 0),(2,.ptr 2 0),(4,.ptr 4 0),(5,.view 21 0 c),(6,.int k)],
  [(1,raw31C false x),(2,[.int 0,.int 0,.int 0,.int 0,.nil,.nil,.nil,.nil,.nil,.nil,.nil]),(4,desN g bs ts (lvR 67 (rtN g xs k).2))],(21,⟨1,4,rows boolC (seenB c (rtN g xs k).1)⟩) :: laR 67 (rtN g xs k).2,[]⟩) (min xs.length 5) ?_ ?_
 ·refine ⟨0,by omega,by omega,?_⟩
  simp only [rtN,hxs,List.cons_append,List.nil_append,push_cast,reduceIte,reduceEqDiff,reduceAdd,reduceSub,reduceMul,Nat.reduceBEq,reduceLT,reduceLeDiff,reduceCtorEq,reduceToNat,reduceNeg]
  done
 rintro m st ⟨k,hk,rfl,rfl⟩
 obtain ⟨q1,q2,q3,q4,q5⟩ := hrt k
 have hS : rtN g xs (k + 1) = rtS1 g (rtN g xs k) k (xs.getD k []) := rfl
 rcases ha : rtN g xs k with ⟨sn,rs⟩
 rw [ha] at q1 q2 q3 q4 q5 hS
 simp only at q1 q2 q3 q4 q5 ⊢
 obtain ⟨B,hB⟩ : ∃ B,B = decide (k < xs.length /\ k < 5) := ⟨_,rfl⟩
 simp only [hxs,push_cast,reduceIte,reduceEqDiff,reduceAdd,reduceSub,reduceMul,Nat.reduceBEq,reduceLT,reduceLeDiff,reduceCtorEq,reduceToNat,reduceNeg]
 refine cut_of ⟨[(1,.ptr 1 0),(2,.ptr 2 0),(4,.ptr 4 0),(5,.view 21 0 c),(6,.int k),(30,.bool B)],
  [(1,rawGC false x.g ++ [.sl false 3 (rows tripC x.blocks),.sl false 1 (rows (bytesL false) xs)]),(2,[.int 0,.int 0,.int 0,.int 0,.nil,.nil,.nil,.nil,.nil,.nil,.nil]),(4,desN g bs ts (lvR 67 rs))],(21,⟨1,4,rows boolC (seenB c sn)⟩) :: laR 67 rs,[]⟩ ?_ ?_
 ·refine grd_dec rfl (fun e1 => ?_) fun e1 => ?_ <;> refine sB ?_
  ·rw [show B = decide ((k : Int) < 5) from by rw [hB,decide_eq_decide]; omega]
  ·rw [show B = false from by rw [hB]; exact decide_eq_false (by omega)]
 refine sB ?_
 refine cond_of (fun e => ?_) fun e => ?_
 rotate_left
 ·rw [hB,decide_eq_false_iff_not] at e
  rw [show min xs.length 5 = k by omega,ha]
  refine sB ?_
  cases rs with
  | nil =>
    refine sB ?_
    exact ⟨fun _ _ => trivial,fun _ _ _ _ => trivial,fun _ _ => trivial⟩
  | cons r rs =>
    rw [lvR_cons,laR_cons]
    refine sB ?_
    rw [List.take_of_length_le (by simp)]
    exact ⟨⟨fun _ _ => trivial,fun _ _ _ _ => trivial,fun _ _ => trivial,fun _ _ => ⟨fun _ _ => trivial,fun _ _ => trivial⟩⟩,.refl _⟩
 rw [hB,decide_eq_true_eq] at e
 obtain ⟨e1,e2⟩ := e
 have hxk := hrr (xs.getD k []) (by simp [e1])
 have hct : (countF g).toNat = c := by omega
 have hGr := grown_ok g hg sn (xs.getD k []) hxk.1 hxk.2
 have hGo := growN_ok hg sn (xs.getD k []) hxk.2 (min (xs.getD k []).length 16)
 have hGF : growF g sn (xs.getD k []) = ⟨0,(growN g sn (xs.getD k []) (min (xs.getD k []).length 16)).1,(growN g sn (xs.getD k []) (min (xs.getD k []).length 16)).2⟩ := rfl
 rw [hct] at hGr
 rw [rtS1] at hS
 rw [show xs.getD k default = xs.getD k [] from rfl]
 have hsb : List.take c (seenB c sn) = seenB c sn := List.take_of_length_le (by rw [seenB_len]; exact Nat.le_refl _)
 generalize xs.getD k [] = l at *
 rw [hGF] at hS hGr
 simp only at hS
 obtain ⟨⟨o1,o2⟩,o3⟩ := hGo
 generalize growN g sn l (min l.length 16) = nf at *
 obtain ⟨ns,fr⟩ := nf
 simp only at hS hGr o1 o2 o3
 refine ⟨by omega,e1,?_⟩
 refine dcal_sub hGr ⟨Sub.aggL ⟨.refl _,.refl _,.refl _,.refl _,.slp _ _ _ _ (fun h => by cases h),trivial⟩,by rw [hsb]; exact .refl _,.refl _,trivial⟩ rfl ?_
 refine sB ?_
 refine cond_dec (fun h => ?_) fun h => ?_
 ·have hn : ns = [] := List.length_eq_zero_iff.1 (by omega)
  rw [if_pos hn] at hS
  refine ⟨by omega,_,?_,k + 1,by omega,rfl,?_⟩
  ·omega
  ·rw [hS]
   cases rs <;> exact sC
 have hn : ns ≠ [] := fun e => h (by rw [e]; rfl)
 rw [if_neg hn] at hS
 refine loop_of (fun m st => ∃ j : Nat,j <= ns.length /\ m = ns.length - j /\ st = ⟨[(1,.ptr 1 0),(2,.ptr 2 0),(4,.ptr 4 0),(5,.view 21 0 c),(6,.int k),(7,.ptr 7 0),(8,.int j)],
  [(1,rawGC false x.g ++ [.sl false 3 (rows tripC x.blocks),.sl false 1 (rows (bytesL false) xs)]),(2,[.int 0,.int 0,.int 0,.int 0,.nil,.nil,.nil,.nil,.nil,.nil,.nil]),(4,desN g bs ts (lvR 67 rs)),(7,[.int k,.sl true 1 (ints ns),.sl true 1 (ints fr)])],(21,⟨1,4,rows boolC (seenB c (sn ++ ns.take j))⟩) :: laR 67 rs,[]⟩) ns.length ?_ ?_
 ·refine ⟨0,by omega,by omega,?_⟩
  cases rs <;> simp only [List.take_zero,List.append_nil,push_cast,reduceIte,reduceEqDiff,reduceAdd,reduceSub,reduceMul,Nat.reduceBEq,reduceLT,reduceLeDiff,reduceCtorEq,reduceToNat,reduceNeg]
 rintro m st ⟨j,hj,rfl,rfl⟩
 simp only [seenB_len,push_cast,reduceIte,reduceEqDiff,reduceAdd,reduceSub,reduceMul,Nat.reduceBEq,reduceLT,reduceLeDiff,reduceCtorEq,reduceToNat,reduceNeg]
 refine cond_dec (fun h2 => ?_) fun h2 => ?_
 ·have hnj := o2 _ (getD_mem (l := ns) (k := j) (by omega))
  have ht := take_next (l := ns) (k := j) (by omega)
  rw [show ns.getD j default = ns.getD j 0 from rfl]
  refine ⟨by omega,by omega,by omega,by omega,by omega,_,?_,j + 1,by omega,rfl,?_⟩
  ·omega
  ·rw [ht,<- List.append_assoc,<- seenB_set (by omega)]
   cases rs <;> exact sC
 rw [List.take_of_length_le (show ns.length <= j by omega)]
 cases rs with
 | nil =>
   rw [lvR_nil,laR_nil]
   refine sB ?_
   refine ⟨by omega,_,?_,k + 1,by omega,rfl,?_⟩
   ·omega
   ·rw [hS]
    simp [rows,routeC,lvR,laR]
 | cons r rs =>
   rw [lvR_cons,laR_cons]
   simp only [List.length_cons] at q4
   refine sB ?_
   refine ⟨by omega,by omega,_,?_,k + 1,by omega,rfl,?_⟩
   ·omega
   ·rw [hS]
    simp [rows,routeC,lvR,laR]
structure DesOk (g : Grid) (p : Packed) (l : Layout) : Prop where
 fit : FitsF p g l
 pos : l.pos.length <= 12
 rts : l.routes.length <= 5
 nds : ∀ r ∈ l.routes,r.nodes.length <= 16
theorem made_des {x : Raw31} (hx : x.By) : DesOk (gridM x.g) (packM x) (layM x) := by
 obtain ⟨h1,h2⟩ := blkN_ok (gridM x.g) x.blocks (min x.blocks.length 12)
 obtain ⟨q1,q2,q3,q4,q5⟩ := rtN_ok (gridM_ok x.g).1 x.routes (fun l hl => (hx.routes l hl).2) (min x.routes.length 5)
 refine ⟨made_fits hx,?_,?_,q5⟩
 ·have := h1.len
  show (blkN _ _ _).2.length <= 12
  omega
 ·show (rtN _ _ _).2.length <= 5
  omega
def raw31T : List Ty := [.i .u8,.i .u8,.i .u8,.i .u8,.sl 1 [.i .u8],.sl 3 [.i .u8,.i .u8,.i .u8],.sl 1 [.sl 1 [.i .u8]]]
theorem raw31_of {a : List PV} (h : RowV raw31T a) : ∃ x : Raw31,x.By /\ a = raw31C true x := by
 obtain ⟨c0,a0,rfl,h0,k0⟩ := rowV_cons h
 obtain ⟨c1,a1,rfl,h1,k1⟩ := rowV_cons k0
 obtain ⟨c2,a2,rfl,h2,k2⟩ := rowV_cons k1
 obtain ⟨c3,a3,rfl,h3,k3⟩ := rowV_cons k2
 obtain ⟨c4,a4,rfl,h4,k4⟩ := rowV_cons k3
 obtain ⟨c5,a5,rfl,h5,k5⟩ := rowV_cons k4
 obtain ⟨c6,a6,rfl,h6,k6⟩ := rowV_cons k5
 obtain ⟨n0,rfl,b0⟩ := cellV_u8 h0
 obtain ⟨n1,rfl,b1⟩ := cellV_u8 h1
 obtain ⟨n2,rfl,b2⟩ := cellV_u8 h2
 obtain ⟨n3,rfl,b3⟩ := cellV_u8 h3
 obtain ⟨l,rfl,hn,hl⟩ := cellV_bytes h4
 obtain ⟨rs,rfl,hrl,hr⟩ := cellV_sl h5
 obtain ⟨bs,rfl,hbs⟩ := rows_all (f := tripC) (Q := fun y => (0 <= y.1 /\ y.1 <= 255) /\ (0 <= y.2.1 /\ y.2.1 <= 255) /\ (0 <= y.2.2 /\ y.2.2 <= 255)) (rs := rs) fun r hr2 => by
  obtain ⟨d0,q0,rfl,e0,g0⟩ := rowV_cons (hr r hr2)
  obtain ⟨d1,q1,rfl,e1,g1⟩ := rowV_cons g0
  obtain ⟨d2,q2,rfl,e2,g2⟩ := rowV_cons g1
  obtain ⟨m0,rfl,f0⟩ := cellV_u8 e0
  obtain ⟨m1,rfl,f1⟩ := cellV_u8 e1
  obtain ⟨m2,rfl,f2⟩ := cellV_u8 e2
  rw [rowV_nil g2]
  exact ⟨(m0,m1,m2),rfl,f0,f1,f2⟩
 obtain ⟨ss,rfl,hsl,hs⟩ := cellV_sl h6
 obtain ⟨xs,rfl,hxs⟩ := rows_all (f := bytesL true) (Q := fun l => (l.length : Int) <= 9223372036854775807 /\ ∀ y ∈ l,0 <= y /\ y <= 255) (rs := ss) fun r hr2 => by
  obtain ⟨d0,q0,rfl,e0,g0⟩ := rowV_cons (hs r hr2)
  obtain ⟨m,rfl,f0,f1⟩ := cellV_bytes e0
  rw [rowV_nil g0]
  exact ⟨m,rfl,f0,f1⟩
 rw [rowV_nil k6]
 have : maxLen = 9223372036854775807 := rfl
 simp only [rows,List.length_map] at hrl hsl
 exact ⟨⟨⟨n0,n1,n2,n3,l⟩,bs,xs⟩,⟨⟨b0,b1,b2,b3,hn,hl⟩,by show (bs.length : Int) <= _; omega,hbs,by show (xs.length : Int) <= _; omega,hxs⟩,rfl⟩
theorem raw31C_sub (x : Raw31) : Sub (.agg (raw31C true x)) (.agg (raw31C false x)) := by
 have sl : ∀ (es : Nat) (xs : List (List PV)),Sub (.sl true es xs) (.sl false es xs) := fun es xs => .slp _ _ _ _ (fun h => by cases h)
 exact Sub.aggL ⟨.refl _,.refl _,.refl _,.refl _,sl _ _,sl _ _,Sub.slR 1 (fun h => by cases h) (SubR.map _ _ _ fun r _ => ⟨sl _ _,trivial⟩),trivial⟩
theorem idxF_congr {p q : Nat -> Bool} : ∀ k,(∀ i,i < k -> p i = q i) -> idxF p k = idxF q k
 | 0,_ => rfl
 | k + 1,h => by rw [idxF,idxF,idxF_congr k fun i hi => h i (by omega),h k (by omega)]
def pickJ (k1 k2 : Int) (l : List Int) : Nat := ((256 * k1 + k2) % (l.length : Int)).toNat
def setJ (k1 k2 v : Int) (l : List Int) : List Int := if 0 < l.length then l.set (pickJ k1 k2 l) v else l
theorem setJ_len (k1 k2 v : Int) (l : List Int) : (setJ k1 k2 v l).length = l.length := by unfold setJ; split <;> simp
def changedF (c : Cfg) (k0 k1 k2 v : Int) : Cfg :=
 if k0 % 4 = 0 then { c with sel := setJ k1 k2 v c.sel } else if k0 % 4 = 1 then { c with mode := setJ k1 k2 v c.mode }
 else if k0 % 4 = 2 then { c with tab := setJ k1 k2 v c.tab } else { c with ram := setJ k1 k2 v c.ram }
theorem changedF_len {g : Grid} {c : Cfg} (h : CfgLn g c) (k0 k1 k2 v : Int) : CfgLn g (changedF c k0 k1 k2 v) := by
 obtain ⟨h1,h2,h3,h4⟩ := h
 unfold changedF
 repeat' split
 all_goals refine ⟨?_,?_,?_,?_⟩ <;> simp only [setJ_len] <;> assumption
theorem cfgLn_sm {g : Grid} (hg : GOk g) {c : Cfg} (h : CfgLn g c) : CfgSm c := by
 have h1 := hg.count
 have h2 := hg.wh
 have h3 := hg.kind
 obtain ⟨q1,q2,q3,q4⟩ := h
 exact ⟨by omega,by omega,by omega,by omega⟩
structure OddA where
 c : Cfg
 d : Cfg
 l : Layout
 blocks : List Block
 n : Int
 b : List Int
 k0 : Int
 k1 : Int
 k2 : Int
 k3 : Int
 v : Int
def oddC (q : Bool) (z : OddA) : List PV := cfgC q z.c ++ cfgC q z.d ++ layC q z.l ++ [.sl q 5 (rows (blockC q) z.blocks),.int z.n,.sl q 1 (bytes8 z.b),.sc (.int .u8 z.k0),.sc (.int .u8 z.k1),.sc (.int .u8 z.k2),.sc (.int .u8 z.k3),.int z.v]
@[push_cast] theorem oddC_eq (q : Bool) (z : OddA) : oddC q z = cfgC q z.c ++ cfgC q z.d ++ layC q z.l ++ [.sl q 5 (rows (blockC q) z.blocks),.int z.n,.sl q 1 (bytes8 z.b),.sc (.int .u8 z.k0),.sc (.int .u8 z.k1),.sc (.int .u8 z.k2),.sc (.int .u8 z.k3),.int z.v] := rfl
structure OddA.By (z : OddA) : Prop where
 n : -9223372036854775808 <= z.n /\ z.n <= 9223372036854775807
 b : ∀ x ∈ z.b,0 <= x /\ x <= 255
 bl : (z.b.length : Int) <= 9223372036854775807
 k0 : 0 <= z.k0 /\ z.k0 <= 255
 k1 : 0 <= z.k1 /\ z.k1 <= 255
 k2 : 0 <= z.k2 /\ z.k2 <= 255
 k3 : 0 <= z.k3 /\ z.k3 <= 255
 v : -9223372036854775808 <= z.v /\ z.v <= 9223372036854775807
def intsT : Ty := .sl 1 [.i .i64]
def routeT : List Ty := [.i .i64,intsT,intsT]
def blockT : List Ty := [intsT,.i .i64,.i .i64,.i .i64,.i .u64]
def oddT : List Ty := [intsT,intsT,intsT,intsT,intsT,intsT,intsT,intsT,intsT,.sl 3 routeT,.sl 5 blockT,.i .i64,.sl 1 [.i .u8],.i .u8,.i .u8,.i .u8,.i .u8,.i .i64]
theorem cellV_intsT {c : PV} (h : CellV intsT c) : ∃ l : List Int,c = .sl true 1 (ints l) := by
 obtain ⟨l,h1,_⟩ := cellV_ints h
 exact ⟨l,h1⟩
theorem cellV_routes {c : PV} (h : CellV (.sl 3 routeT) c) : ∃ l : List Route,c = .sl true 3 (rows (routeC true) l) := by
 obtain ⟨rs,rfl,_,h2⟩ := cellV_sl h
 obtain ⟨l,rfl,_⟩ := rows_all (f := routeC true) (Q := fun _ => True) (rs := rs) fun r hr => by
  obtain ⟨c0,a0,rfl,e0,k0⟩ := rowV_cons (h2 r hr)
  obtain ⟨c1,a1,rfl,e1,k1⟩ := rowV_cons k0
  obtain ⟨c2,a2,rfl,e2,k2⟩ := rowV_cons k1
  obtain ⟨n,rfl,_⟩ := cellV_i64 e0
  obtain ⟨l1,rfl⟩ := cellV_intsT e1
  obtain ⟨l2,rfl⟩ := cellV_intsT e2
  rw [rowV_nil k2]
  exact ⟨⟨n,l1,l2⟩,rfl,trivial⟩
 exact ⟨l,rfl⟩
theorem cellV_blocks {c : PV} (h : CellV (.sl 5 blockT) c) : ∃ l : List Block,c = .sl true 5 (rows (blockC true) l) := by
 obtain ⟨rs,rfl,_,h2⟩ := cellV_sl h
 obtain ⟨l,rfl,_⟩ := rows_all (f := blockC true) (Q := fun _ => True) (rs := rs) fun r hr => by
  obtain ⟨c0,a0,rfl,e0,k0⟩ := rowV_cons (h2 r hr)
  obtain ⟨c1,a1,rfl,e1,k1⟩ := rowV_cons k0
  obtain ⟨c2,a2,rfl,e2,k2⟩ := rowV_cons k1
  obtain ⟨c3,a3,rfl,e3,k3⟩ := rowV_cons k2
  obtain ⟨c4,a4,rfl,e4,k4⟩ := rowV_cons k3
  obtain ⟨l0,rfl⟩ := cellV_intsT e0
  obtain ⟨n1,rfl,_⟩ := cellV_i64 e1
  obtain ⟨n2,rfl,_⟩ := cellV_i64 e2
  obtain ⟨n3,rfl,_⟩ := cellV_i64 e3
  obtain ⟨n4,rfl,_⟩ := cellV_i e4
  rw [rowV_nil k4]
  exact ⟨⟨l0,n1,n2,n3,n4⟩,rfl,trivial⟩
 exact ⟨l,rfl⟩
theorem odd_of {a : List PV} (h : RowV oddT a) : ∃ z : OddA,z.By /\ a = oddC true z := by
 obtain ⟨c0,a0,rfl,e0,h_1⟩ := rowV_cons h
 obtain ⟨c1,a1,rfl,e1,h_2⟩ := rowV_cons h_1
 obtain ⟨c2,a2,rfl,e2,h_3⟩ := rowV_cons h_2
 obtain ⟨c3,a3,rfl,e3,h_4⟩ := rowV_cons h_3
 obtain ⟨c4,a4,rfl,e4,h_5⟩ := rowV_cons h_4
 obtain ⟨c5,a5,rfl,e5,h_6⟩ := rowV_cons h_5
 obtain ⟨c6,a6,rfl,e6,h_7⟩ := rowV_cons h_6
 obtain ⟨c7,a7,rfl,e7,h_8⟩ := rowV_cons h_7
 obtain ⟨c8,a8,rfl,e8,h_9⟩ := rowV_cons h_8
 obtain ⟨c9,a9,rfl,e9,h_10⟩ := rowV_cons h_9
 obtain ⟨d0,b0,rfl,f0,h_11⟩ := rowV_cons h_10
 obtain ⟨d1,b1,rfl,f1,h_12⟩ := rowV_cons h_11
 obtain ⟨d2,b2,rfl,f2,h_13⟩ := rowV_cons h_12
 obtain ⟨d3,b3,rfl,f3,h_14⟩ := rowV_cons h_13
 obtain ⟨d4,b4,rfl,f4,h_15⟩ := rowV_cons h_14
 obtain ⟨d5,b5,rfl,f5,h_16⟩ := rowV_cons h_15
 obtain ⟨d6,b6,rfl,f6,h_17⟩ := rowV_cons h_16
 obtain ⟨d7,b7,rfl,f7,h_18⟩ := rowV_cons h_17
 obtain ⟨l0,rfl⟩ := cellV_intsT e0
 obtain ⟨l1,rfl⟩ := cellV_intsT e1
 obtain ⟨l2,rfl⟩ := cellV_intsT e2
 obtain ⟨l3,rfl⟩ := cellV_intsT e3
 obtain ⟨l4,rfl⟩ := cellV_intsT e4
 obtain ⟨l5,rfl⟩ := cellV_intsT e5
 obtain ⟨l6,rfl⟩ := cellV_intsT e6
 obtain ⟨l7,rfl⟩ := cellV_intsT e7
 obtain ⟨l8,rfl⟩ := cellV_intsT e8
 obtain ⟨l9,rfl⟩ := cellV_routes e9
 obtain ⟨bs,rfl⟩ := cellV_blocks f0
 obtain ⟨n,rfl,hn⟩ := cellV_i64 f1
 obtain ⟨b,rfl,hb,hb2⟩ := cellV_bytes f2
 obtain ⟨k0,rfl,g0⟩ := cellV_u8 f3
 obtain ⟨k1,rfl,g1⟩ := cellV_u8 f4
 obtain ⟨k2,rfl,g2⟩ := cellV_u8 f5
 obtain ⟨k3,rfl,g3⟩ := cellV_u8 f6
 obtain ⟨v,rfl,hv⟩ := cellV_i64 f7
 rw [rowV_nil h_18]
 exact ⟨⟨⟨l0,l1,l2,l3⟩,⟨l4,l5,l6,l7⟩,⟨l8,l9⟩,bs,n,b,k0,k1,k2,k3,v⟩,⟨hn,hb2,hb,g0,g1,g2,g3,hv⟩,rfl⟩
theorem oddC_sub (z : OddA) : Sub (.agg (oddC true z)) (.agg (oddC false z)) := by
 simp only [oddC,cfgC,layC,List.cons_append,List.nil_append]
 have sl : ∀ (es : Nat) (xs : List (List PV)),Sub (.sl true es xs) (.sl false es xs) := fun es xs => .slp _ _ _ _ (fun h => by cases h)
 exact Sub.aggL ⟨sl _ _,sl _ _,sl _ _,sl _ _,sl _ _,sl _ _,sl _ _,sl _ _,sl _ _,
  Sub.slR 3 (fun h => by cases h) (SubR.map _ _ _ fun r _ => ⟨.refl _,sl _ _,sl _ _,trivial⟩),
  Sub.slR 5 (fun h => by cases h) (SubR.map _ _ _ fun r _ => ⟨sl _ _,.refl _,.refl _,.refl _,.refl _,trivial⟩),
  .refl _,sl _ _,.refl _,.refl _,.refl _,.refl _,.refl _,trivial⟩
end Go.Proofs.Ytledbjkolidhkaa
namespace Go.Proofs.Ytledbjkolidhkaa.Txt
open Go Go.Vc
set_option maxRecDepth 100000
def ac10m : AC :=
 (.seq (.reg [0,87,0] [
 (aO 1 (.box (.t 0))),(aO 2 (.mv (.c (.sc (.bool false)))))])
 (.seq (.rgs [
 ([0,87,1],[
 (aO 5 (.fa 0 (.t 1))),(aO 6 (.fa 0 (.t 5))),(aO 7 (.ld false 1 (.t 6))),(aO 8 (.len (.t 7))),(aO 9 (.fa 0 (.t 1))),(aO 10 (.fa 1 (.t 9))),(aO 11 (.ld false 1 (.t 10))),(aO 12 (.len (.t 11))),(aO 13 (.ari .add true .i64 (.t 8) (.t 12))),(aO 14 (.fa 0 (.t 1))),(aO 15 (.fa 2 (.t 14))),(aO 16 (.ld false 1 (.t 15)))]),([0,87,1,13,16],[
 (aO 17 (.len (.t 16))),(aO 18 (.ari .add true .i64 (.t 13) (.t 17))),(aO 19 (.fa 0 (.t 1))),(aO 20 (.fa 3 (.t 19))),(aO 21 (.ld false 1 (.t 20))),(aO 22 (.len (.t 21))),(aO 23 (.ari .add true .i64 (.t 18) (.t 22))),(aO 24 (.fa 4 (.t 1))),(aO 25 (.fa 0 (.t 24))),(aO 26 (.ld false 1 (.t 25))),(aO 27 (.len (.t 26))),(aO 28 (.ari .add true .i64 (.t 23) (.t 27)))]),([0,87,1,28],[
 (aO 29 (.fa 4 (.t 1))),(aO 30 (.fa 1 (.t 29))),(aO 31 (.ld false 1 (.t 30))),(aO 32 (.len (.t 31))),(aO 33 (.ari .add true .i64 (.t 28) (.t 32))),(aO 34 (.fa 4 (.t 1))),(aO 35 (.fa 2 (.t 34))),(aO 36 (.ld false 1 (.t 35))),(aO 37 (.len (.t 36))),(aO 38 (.ari .add true .i64 (.t 33) (.t 37))),(aO 39 (.fa 4 (.t 1))),(aO 40 (.fa 3 (.t 39)))]),([0,87,1,38,40],[
 (aO 41 (.ld false 1 (.t 40))),(aO 42 (.len (.t 41))),(aO 43 (.ari .add true .i64 (.t 38) (.t 42))),(aO 44 (.fa 8 (.t 1))),(aO 45 (.fa 0 (.t 44))),(aO 46 (.ld false 1 (.t 45))),(aO 47 (.len (.t 46))),(aO 48 (.ari .add true .i64 (.t 43) (.t 47))),(aO 49 (.fa 10 (.t 1))),(aO 50 (.ld false 1 (.t 49))),(aO 51 (.len (.t 50))),(aO 52 (.ari .add true .i64 (.t 48) (.t 51)))]),([0,87,1,52],[
 (aO 53 (.fa 12 (.t 1))),(aO 54 (.ld false 1 (.t 53))),(aO 55 (.len (.t 54))),(aO 56 (.ari .add true .i64 (.t 52) (.t 55))),(aO 3 (.mv (.t 56)))])])
 (.seq (.seq (.reg [0,87,1,3] [
 (aO 4 (.mv (kI 0)))])
 (.block 0
 (.loop [0,87,1,3,4]
 (.seq (.seq (.reg [0,87,1,3,4] [
 (aO 57 (.mv (.t 4))),(aO 58 (.fa 8 (.t 1))),(aO 59 (.fa 1 (.t 58))),(aO 60 (.ld false 1 (.t 59))),(aO 61 (.len (.t 60))),(aO 62 (.cmp .lss .i64 (.t 57) (.t 61)))])
 (.cond (.t 62)
 .skip
 (.exit 0)))
 (.seq (.block 1
 (.drw [0,87,1,3,4] [
 (eT 65 (.mv (.t 3))),(eT 66 (.fa 8 (.t 1))),(eT 67 (.fa 1 (.t 66))),(eT 68 (.ld false 1 (.t 67))),(eT 69 (.mv (.t 4))),(eT 70 (.ixs 3 (.t 68) (.t 69))),(eT 71 (.fa 1 (.t 70))),(eT 72 (.ld false 1 (.t 71))),(eT 73 (.len (.t 72))),(eT 74 (.ari .add true .i64 (kI 1) (.t 73))),(eT 75 (.fa 8 (.t 1))),(eT 76 (.fa 1 (.t 75))),(eT 77 (.ld false 1 (.t 76))),(eT 78 (.mv (.t 4))),(eT 79 (.ixs 3 (.t 77) (.t 78))),(eT 80 (.fa 2 (.t 79))),(eT 81 (.ld false 1 (.t 80))),(eT 82 (.len (.t 81))),(eT 83 (.ari .add true .i64 (.t 74) (.t 82))),(eF 84 (.ari .add true .i64 (.t 65) (.t 83))),(eF 3 (.mv (.t 84)))]))
 (.reg [0,87,1,3,4] [
 (aO 63 (.mv (.t 4))),(aO 64 (.ari .add true .i64 (.t 63) (kI 1))),(aO 4 (.mv (.t 64)))]))))))
 (.seq (.reg [0,87,3] [
 (aO 85 (.mv (.t 3))),(aO 86 (.cmp .leq .i64 (.t 85) (kI 800))),(aO 2 (.mv (.t 86)))])
 .ret))))
def rv10m : List RV := [.tmp 2]
theorem ok10m : fnOk Try.prog ac10m rv10m Try.f10 = true := by kernel_rfl

def ac12m : AC :=
 (.seq (.reg [0,157,0,1,2] [
 (aO 3 (.box (.t 0))),(aO 4 (.box (.t 1))),(aO 6 (.alc [zI,zI,zI,zI,.nil,.nil,.nil,.nil,.nil,.nil,.nil]))])
 (.seq (.block 0
 (.seq (.reg [0,157,2,3,4,6] [
 (aO 13 (.ixa 4 1 (.t 4) (kI 0))),(aO 14 (.ld false 1 (.t 13))),(aO 15 (.dvd .rem true .u8 (.t 14) (.c (.sc (.int .u8 4))))),(aO 16 (.cmp .eql .u8 (.t 15) (.c (.sc (.int .u8 0))))),(aO 17 (.mv (.t 16))),⟨some 18,some (17,true),.fa 9 (.t 3)⟩,⟨some 19,some (17,true),.fa 0 (.t 18)⟩,⟨some 20,some (17,true),.ld false 1 (.t 19)⟩,⟨some 21,some (17,true),.len (.t 20)⟩,⟨some 22,some (17,true),.cmp .gtr .i64 (.t 21) (kI 0)⟩,(aO 23 (.pick (.t 17) (.t 22) (.c (.sc (.bool false))))),(aO 12 (.mv (.t 23)))])
 (.cut [0,157,2,3,4,6,12] (.cond (.t 12)
 (.seq (.reg [0,157,2,3,4,6] [
 (aO 24 (.bsl 1 3 [zI] 0 [])),(aO 25 (.fa 9 (.t 3))),(aO 26 (.fa 0 (.t 25))),(aO 27 (.ld false 1 (.t 26))),(aO 28 (.app 1 3 8 (.t 24) (.t 27))),(aO 29 (.fa 9 (.t 3))),(aO 30 (.fa 0 (.t 29))),(aN (.sto 1 (.t 30) (.t 28)))])
 (.drw [0,157,2,3,4,6] [
 (eT 31 (.fa 9 (.t 3))),(eT 32 (.fa 0 (.t 31))),(eT 33 (.ld false 1 (.t 32))),(eT 34 (.ixa 4 1 (.t 4) (kI 1))),(eT 35 (.ld false 1 (.t 34))),(eT 36 (.cnv true .i64 (.t 35))),(eT 37 (.fa 9 (.t 3))),(eT 38 (.fa 0 (.t 37))),(eT 39 (.ld false 1 (.t 38))),(eT 40 (.len (.t 39))),(eT 41 (.dvd .rem true .i64 (.t 36) (.t 40))),(eT 42 (.mv (.t 2))),(eF 43 (.ixs 1 (.t 33) (.t 41))),⟨(aN (.sto 1 (.t 43) (.t 42))),[],[],false⟩]))
 (.seq (.reg [0,157,2,3,4,6] [
 (aO 45 (.ixa 4 1 (.t 4) (kI 0))),(aO 46 (.ld false 1 (.t 45))),(aO 47 (.dvd .rem true .u8 (.t 46) (.c (.sc (.int .u8 4))))),(aO 48 (.cmp .eql .u8 (.t 47) (.c (.sc (.int .u8 1))))),(aO 49 (.mv (.t 48))),⟨some 50,some (49,true),.fa 5 (.t 3)⟩,⟨some 51,some (49,true),.fa 1 (.t 50)⟩,⟨some 52,some (49,true),.ld false 1 (.t 51)⟩,⟨some 53,some (49,true),.len (.t 52)⟩,⟨some 54,some (49,true),.cmp .gtr .i64 (.t 53) (kI 0)⟩,(aO 55 (.pick (.t 49) (.t 54) (.c (.sc (.bool false))))),(aO 44 (.mv (.t 55)))])
 (.cut [0,157,2,3,4,6,44] (.cond (.t 44)
 (.seq (.reg [0,157,2,3,4,6] [
 (aO 56 (.bsl 5 76 [.nil,zI,zI,zI,.sc (.int .u64 0)] 0 [])),(aO 57 (.fa 5 (.t 3))),(aO 58 (.fa 1 (.t 57))),(aO 59 (.ld false 1 (.t 58))),(aO 60 (.app 5 76 56 (.t 56) (.t 59))),(aO 7 (.mv (.t 60)))])
 (.seq (.reg [0,157,2,3,4,6,7] [
 (aO 61 (.ixa 4 1 (.t 4) (kI 1))),(aO 62 (.ld false 1 (.t 61))),(aO 63 (.cnv true .i64 (.t 62))),(aO 64 (.mv (.t 7))),(aO 65 (.len (.t 64))),(aO 66 (.dvd .rem true .i64 (.t 63) (.t 65))),(aO 8 (.mv (.t 66)))])
 (.seq (.seq (.reg [0,157,2,3,4,6,7,8] [
 (aO 67 (.ixa 4 1 (.t 4) (kI 2))),(aO 68 (.ld false 1 (.t 67))),(aO 69 (.dvd .rem true .u8 (.t 68) (.c (.sc (.int .u8 3)))))])
 (.block 1
 (.seq (.reg [0,157,2,3,6,7,8,69] [
 (aO 76 (.cmp .eql .u8 (.t 69) (.c (.sc (.int .u8 0))))),(aO 75 (.mv (.t 76)))])
 (.cond (.t 75)
 (.reg [0,157,2,3,6,7,8] [
 (aO 77 (.mv (.t 7))),(aO 78 (.mv (.t 8))),(aO 79 (.mv (.t 2))),(aO 80 (.ixs 5 (.t 77) (.t 78))),(aO 81 (.fa 1 (.t 80))),(aN (.sto 1 (.t 81) (.t 79)))])
 (.seq (.reg [0,157,2,3,6,7,8,69] [
 (aO 83 (.cmp .eql .u8 (.t 69) (.c (.sc (.int .u8 1))))),(aO 82 (.mv (.t 83)))])
 (.cond (.t 82)
 (.reg [0,157,2,3,6,7,8] [
 (aO 84 (.mv (.t 7))),(aO 85 (.mv (.t 8))),(aO 86 (.mv (.t 2))),(aO 87 (.ixs 5 (.t 84) (.t 85))),(aO 88 (.fa 2 (.t 87))),(aN (.sto 1 (.t 88) (.t 86)))])
 (.reg [0,157,2,3,6,7,8] [
 (aO 70 (.mv (.t 7))),(aO 71 (.mv (.t 8))),(aO 72 (.mv (.t 2))),(aO 73 (.ixs 5 (.t 70) (.t 71))),(aO 74 (.fa 3 (.t 73))),(aN (.sto 1 (.t 74) (.t 72)))])))))))
 (.reg [0,157,3,6,7] [
 (aO 89 (.mv (.t 7))),(aO 90 (.fa 5 (.t 3))),(aO 91 (.fa 1 (.t 90))),(aN (.sto 1 (.t 91) (.t 89)))]))))
 (.seq (.reg [0,157,2,3,4,6] [
 (aO 93 (.fa 9 (.t 3))),(aO 94 (.fa 1 (.t 93))),(aO 95 (.ld false 1 (.t 94))),(aO 96 (.len (.t 95))),(aO 97 (.cmp .gtr .i64 (.t 96) (kI 0))),(aO 92 (.mv (.t 97)))])
 (.cond (.t 92)
 (.seq (.reg [0,157,2,3,4,6] [
 (aO 98 (.bsl 3 72 [zI,.nil,.nil] 0 [])),(aO 99 (.fa 9 (.t 3))),(aO 100 (.fa 1 (.t 99))),(aO 101 (.ld false 1 (.t 100))),(aO 102 (.app 3 72 56 (.t 98) (.t 101))),(aO 9 (.mv (.t 102)))])
 (.seq (.reg [0,157,2,3,4,6,9] [
 (aO 103 (.ixa 4 1 (.t 4) (kI 1))),(aO 104 (.ld false 1 (.t 103))),(aO 105 (.cnv true .i64 (.t 104))),(aO 106 (.mv (.t 9))),(aO 107 (.len (.t 106))),(aO 108 (.dvd .rem true .i64 (.t 105) (.t 107))),(aO 10 (.mv (.t 108)))])
 (.seq (.reg [0,157,2,3,4,6,9,10] [
 (aO 109 (.mv (.t 9))),(aO 110 (.mv (.t 10))),(aO 111 (.ixs 3 (.t 109) (.t 110))),(aO 112 (.ld true 3 (.t 111))),(aO 11 (.alc [zI,.nil,.nil])),(aN (.sto 3 (.t 11) (.t 112)))])
 (.seq (.reg [0,157,2,3,4,6,9,10,11] [
 (aO 113 (.bsl 1 3 [zI] 0 [])),(aO 114 (.fa 1 (.t 11))),(aO 115 (.ld false 1 (.t 114))),(aO 116 (.app 1 3 8 (.t 113) (.t 115))),(aO 117 (.fa 1 (.t 11))),(aN (.sto 1 (.t 117) (.t 116)))])
 (.seq (.reg [0,157,2,3,4,6,9,10,11] [
 (aO 118 (.bsl 1 3 [zI] 0 [])),(aO 119 (.fa 2 (.t 11))),(aO 120 (.ld false 1 (.t 119))),(aO 121 (.app 1 3 8 (.t 118) (.t 120))),(aO 122 (.fa 2 (.t 11))),(aN (.sto 1 (.t 122) (.t 121)))])
 (.seq (.seq (.reg [0,157,2,3,4,6,9,10,11] [
 (aO 123 (.ixa 4 1 (.t 4) (kI 0))),(aO 124 (.ld false 1 (.t 123))),(aO 125 (.dvd .rem true .u8 (.t 124) (.c (.sc (.int .u8 4))))),(aO 126 (.cmp .eql .u8 (.t 125) (.c (.sc (.int .u8 2)))))])
 (.cond (.t 126)
 (.drw [0,157,2,3,4,6,9,10,11] [
 (eT 127 (.fa 1 (.t 11))),(eT 128 (.ld false 1 (.t 127))),(eT 129 (.ixa 4 1 (.t 4) (kI 2))),(eT 130 (.ld false 1 (.t 129))),(eT 131 (.cnv true .i64 (.t 130))),(eT 132 (.fa 1 (.t 11))),(eT 133 (.ld false 1 (.t 132))),(eT 134 (.len (.t 133))),(eT 135 (.dvd .rem true .i64 (.t 131) (.t 134))),(eT 136 (.mv (.t 2))),(eF 137 (.ixs 1 (.t 128) (.t 135))),⟨(aN (.sto 1 (.t 137) (.t 136))),[],[],false⟩])
 (.drw [0,157,2,3,4,6,9,10,11] [
 (eT 138 (.fa 2 (.t 11))),(eT 139 (.ld false 1 (.t 138))),(eT 140 (.ixa 4 1 (.t 4) (kI 2))),(eT 141 (.ld false 1 (.t 140))),(eT 142 (.cnv true .i64 (.t 141))),(eT 143 (.fa 2 (.t 11))),(eT 144 (.ld false 1 (.t 143))),(eT 145 (.len (.t 144))),(eT 146 (.dvd .rem true .i64 (.t 142) (.t 145))),(eT 147 (.mv (.t 2))),(eF 148 (.ixs 1 (.t 139) (.t 146))),⟨(aN (.sto 1 (.t 148) (.t 147))),[],[],false⟩])))
 (.seq (.reg [0,157,3,6,9,10,11] [
 (aO 149 (.mv (.t 9))),(aO 150 (.mv (.t 10))),(aO 151 (.ld true 3 (.t 11))),(aO 152 (.ixs 3 (.t 149) (.t 150))),(aN (.sto 3 (.t 152) (.t 151)))])
 (.reg [0,157,3,6,9] [
 (aO 153 (.mv (.t 9))),(aO 154 (.fa 9 (.t 3))),(aO 155 (.fa 1 (.t 154))),(aN (.sto 1 (.t 155) (.t 153)))]))))))))
 .skip)))))))))
 (.seq (.reg [0,157,3,6] [
 (aO 156 (.ld true 11 (.t 3))),(aN (.sto 11 (.t 6) (.t 156)))])
 .ret)))
def rv12m : List RV := [.cell 6 true 11]
theorem ok12m : fnOk Try.prog ac12m rv12m Try.f12 = true := by kernel_rfl

def ac3m : AC :=
 (.seq (.reg [0,237,0,1] [
 (aO 2 (.box (.t 0))),(aO 3 (.box (.t 1))),(aO 4 (.mv (.c (.sc (.bool false)))))])
 (.seq (.reg [0,237,2,3] [
 (aO 21 (.cal 9 [])),(aO 5 (.mv (.t 21)))])
 (.seq (.seq (.reg [0,237,2,3,5] [
 (aO 22 (.mv (.t 5))),(aO 23 (.not (.t 22)))])
 (.cond (.t 23)
 (.seq (.reg [0,237] [
 (aO 4 (.mv (.c (.sc (.bool false)))))])
 .ret)
 .skip))
 (.seq (.seq (.reg [0,237,2,3,5] [
 (aO 24 (.ld true 18 (.t 3))),(aO 25 (.cal 10 [(.t 24)])),(aO 26 (.not (.t 25)))])
 (.cond (.t 26)
 (.seq (.reg [0,237,5] [
 (aO 27 (.mv (.t 5))),(aO 4 (.mv (.t 27)))])
 .ret)
 .skip))
 (.seq (.reg [0,237,2,3,5] [
 (aO 28 (.ld true 7 (.t 2))),(aO 29 (.cal 11 [(.t 28)])),(aO 6 (.alc [zI,zI,zI,zI,.nil,.nil,.nil,.nil,.nil,.nil,.nil])),(aN (.sto 11 (.t 6) (.t 29)))])
 (.seq (.reg [0,237,3,5,6] [
 (aO 30 (.fa 0 (.t 6))),(aO 31 (.ld true 5 (.t 30))),(aO 7 (.alc [zI,zI,zI,zI,.nil])),(aN (.sto 5 (.t 7) (.t 31)))])
 (.seq (.reg [0,237,3,5,6,7] [
 (aO 32 (.ld true 11 (.t 6))),(aO 33 (.fa 13 (.t 3))),(aO 34 (.ld true 4 (.t 33))),(aO 35 (.fa 17 (.t 3))),(aO 36 (.ld false 1 (.t 35))),(aO 37 (.bit .and .i64 (.t 36) (kI 127))),(aO 38 (.ari .sub true .i64 (.t 37) (kI 2))),(aO 39 (.cal 12 [(.t 32),(.t 34),(.t 38)])),(aO 8 (.alc [zI,zI,zI,zI,.nil,.nil,.nil,.nil,.nil,.nil,.nil])),(aN (.sto 11 (.t 8) (.t 39)))])
 (.seq (.drw [0,237,3,5,6,7,8] [
 (eT 40 (.ld true 11 (.t 6))),(eT 41 (.ld true 11 (.t 8))),(eT 42 (.ld true 11 (.t 6))),(eT 43 (.fa 13 (.t 3))),(eT 44 (.ld true 4 (.t 43))),(eT 45 (.fa 17 (.t 3))),(eT 46 (.ld false 1 (.t 45))),(eT 47 (.cal 12 [(.t 42),(.t 44),(.t 46)])),(eT 48 (.ld true 5 (.t 7))),(eT 49 (.fa 10 (.t 3))),(eT 50 (.ld false 1 (.t 49))),(eT 51 (.bld [.nil,.nil,.nil,.nil] [(1,1,(.t 50))])),(eT 52 (.fa 8 (.t 3))),(eT 53 (.ld true 2 (.t 52))),(eT 54 (.bld [zI,zI,zI,zI,.nil,.nil,.nil,.nil,.nil,.nil,.nil] [(0,5,(.t 48)),(5,4,(.t 51)),(9,2,(.t 53))])),(eF 55 (.bsl 11 47 [zI,zI,zI,zI,.nil,.nil,.nil,.nil,.nil,.nil,.nil] 4 [(0,(.t 40)),(1,(.t 41)),(2,(.t 47)),(3,(.t 54))])),(eF 9 (.mv (.t 55)))])
 (.seq (.seq (.reg [0,237,3,5,6,7,9] [
 (aO 10 (.mv (kI 0)))])
 (.block 0
 (.wk (.loop [0,237,3,5,6,7,9,10]
 (.seq (.seq (.reg [0,237,3,5,6,7,9,10] [
 (aO 56 (.mv (.t 10))),(aO 57 (.mv (.t 9))),(aO 58 (.len (.t 57))),(aO 59 (.cmp .lss .i64 (.t 56) (.t 58)))])
 (.cond (.t 59)
 .skip
 (.exit 0)))
 (.seq (.block 1
 (.seq (.drw [0,237,3,5,6,7,9,10] [
 (eU 62 (.mv (.t 9)) [] [11,12]),(eU 63 (.mv (.t 10)) [] [11,12]),(eU 64 (.ixs 11 (.t 62) (.t 63)) [] [11,12]),(eU 65 (.ld true 11 (.t 64)) [] [11,12]),(eU 66 (.cal 13 [(.t 65)]) [] [11,12]),(eU 67 (.mv (.t 9)) [] [11,12]),(eU 68 (.mv (.t 10)) [] [11,12]),(eU 69 (.ixs 11 (.t 67) (.t 68)) [] [11,12]),(eU 70 (.fa 5 (.t 69)) [] [11,12]),(eU 71 (.ld true 4 (.t 70)) [] [11,12]),(eU 72 (.ld true 5 (.t 7)) [] [11,12]),(eU 73 (.mv (.t 9)) [] [11,12]),(eU 74 (.mv (.t 10)) [] [11,12]),(eU 75 (.ixs 11 (.t 73) (.t 74)) [] [11,12]),(eU 76 (.fa 9 (.t 75)) [] [11,12]),(eU 77 (.ld true 2 (.t 76)) [] [11,12]),(eU 78 (.cal 14 [(.t 71),(.t 72),(.t 77)]) [] [11,12]),(eU 11 (.alc [.nil,.nil,.nil,.nil,zI]) [11] [12]),(eU 12 (.alc [.nil,.nil,.nil,.nil,zI]) [12] [11]),⟨(aN (.sto 5 (.t 11) (.t 66))),[],[],false⟩,⟨(aN (.sto 5 (.t 12) (.t 78))),[],[],false⟩])
 (.seq (.reg [0,237,3,5,6,7,9,10,11,12] [
 (aO 79 (.fa 4 (.t 11))),(aO 80 (.ld false 1 (.t 79))),(aO 81 (.fa 4 (.t 12))),(aO 82 (.ld false 1 (.t 81))),(aO 83 (.cmp .neq .i64 (.t 80) (.t 82))),(aO 84 (.mv (.t 83))),⟨some 85,some (84,false),.fa 0 (.t 11)⟩,⟨some 86,some (84,false),.ld true 4 (.t 85)⟩,⟨some 87,some (84,false),.fa 0 (.t 12)⟩,⟨some 88,some (84,false),.ld true 4 (.t 87)⟩,⟨some 89,some (84,false),.cal 15 [(.t 86),(.t 88)]⟩,⟨some 90,some (84,false),.not (.t 89)⟩,(aO 91 (.pick (.t 84) (.c (.sc (.bool true))) (.t 90)))])
 (.cut [0,237,3,5,6,7,9,10,91] (.cond (.t 91)
 (.seq (.reg [0,237] [
 (aO 4 (.mv (.c (.sc (.bool false)))))])
 .ret)
 .skip)))))
 (.reg [0,237,3,5,6,7,9,10] [
 (aO 60 (.mv (.t 10))),(aO 61 (.ari .add true .i64 (.t 60) (kI 1))),(aO 10 (.mv (.t 61)))])))))))
 (.seq (.drw [0,237,3,5,6,7] [
 (eU 92 (.fa 5 (.t 6)) [] [13,14]),(eU 93 (.ld true 4 (.t 92)) [] [13,14]),(eU 94 (.ld true 5 (.t 7)) [] [13,14]),(eU 95 (.fa 9 (.t 6)) [] [13,14]),(eU 96 (.ld true 2 (.t 95)) [] [13,14]),(eU 97 (.cal 14 [(.t 93),(.t 94),(.t 96)]) [] [13,14]),(eU 98 (.fl true 0 4 (.t 97)) [] [13,14]),(eU 99 (.ld true 5 (.t 7)) [] [13,14]),(eU 100 (.fa 12 (.t 3)) [] [13,14]),(eU 101 (.ld false 1 (.t 100)) [] [13,14]),(eU 102 (.cal 16 [(.t 99),(.t 101)]) [] [13,14]),(eU 13 (.alc [.nil,.nil,.nil,.nil]) [13] [14]),(eU 14 (.alc [.nil,.nil,.nil,.nil]) [14] [13]),⟨(aN (.sto 4 (.t 13) (.t 98))),[],[],false⟩,⟨(aN (.sto 4 (.t 14) (.t 102))),[],[],false⟩])
 (.seq (.reg [0,237,3,5,7,13,14] [
 (aO 103 (.ld true 4 (.t 14))),(aO 104 (.fa 13 (.t 3))),(aO 105 (.ld true 4 (.t 104))),(aO 106 (.fa 17 (.t 3))),(aO 107 (.ld false 1 (.t 106))),(aO 108 (.bit .and .i64 (.t 107) (kI 31))),(aO 109 (.ari .sub true .i64 (.t 108) (kI 1))),(aO 110 (.cal 17 [(.t 103),(.t 105),(.t 109)])),(aO 15 (.alc [.nil,.nil,.nil,.nil])),(aN (.sto 4 (.t 15) (.t 110)))])
 (.seq (.seq (.drw [0,237,3,5,7,13,14,15] [
 (eT 111 (.ld true 5 (.t 7))),(eT 112 (.ld true 4 (.t 15))),(eT 113 (.cal 18 [(.t 111),(.t 112)])),(eT 114 (.ld true 5 (.t 7))),(eT 115 (.ld true 4 (.t 15))),(eF 116 (.cal 19 [(.t 114),(.t 115)])),(eF 117 (.cmp .neq .i64 (.t 113) (.t 116))),(eF 118 (.mv (.t 117))),⟨⟨some 119,some (118,false),.ld true 5 (.t 7)⟩,[],[],true⟩,⟨⟨some 120,some (118,false),.fa 0 (.t 3)⟩,[],[],true⟩,⟨⟨some 121,some (118,false),.ld true 4 (.t 120)⟩,[],[],true⟩,⟨⟨some 122,some (118,false),.cal 18 [(.t 119),(.t 121)]⟩,[],[],true⟩,⟨⟨some 123,some (118,false),.ld true 5 (.t 7)⟩,[],[],true⟩,⟨⟨some 124,some (118,false),.fa 0 (.t 3)⟩,[],[],true⟩,⟨⟨some 125,some (118,false),.ld true 4 (.t 124)⟩,[],[],true⟩,⟨⟨some 126,some (118,false),.cal 19 [(.t 123),(.t 125)]⟩,[],[],false⟩,⟨⟨some 127,some (118,false),.cmp .neq .i64 (.t 122) (.t 126)⟩,[],[],false⟩,(eF 128 (.pick (.t 118) (.c (.sc (.bool true))) (.t 127))),(eF 129 (.mv (.t 128))),⟨⟨some 130,some (129,false),.ld true 5 (.t 7)⟩,[],[],true⟩,⟨⟨some 131,some (129,false),.ld true 4 (.t 14)⟩,[],[],true⟩,⟨⟨some 132,some (129,false),.cal 18 [(.t 130),(.t 131)]⟩,[],[],false⟩,⟨⟨some 133,some (129,false),.cmp .neq .i64 (.t 132) (kI 0)⟩,[],[],false⟩,(eF 134 (.pick (.t 129) (.c (.sc (.bool true))) (.t 133))),(eF 135 (.mv (.t 134))),⟨⟨some 136,some (135,false),.ld true 5 (.t 7)⟩,[],[],true⟩,⟨⟨some 137,some (135,false),.cal 20 [(.t 136)]⟩,[],[],true⟩,⟨⟨some 138,some (135,false),.ld true 5 (.t 7)⟩,[],[],true⟩,⟨⟨some 139,some (135,false),.cal 21 [(.t 138)]⟩,[],[],false⟩,⟨⟨some 140,some (135,false),.cal 15 [(.t 137),(.t 139)]⟩,[],[],false⟩,⟨⟨some 141,some (135,false),.not (.t 140)⟩,[],[],false⟩,(eF 142 (.pick (.t 135) (.c (.sc (.bool true))) (.t 141)))])
 (.cut [0,237,3,5,7,13,14,15,142] (.cond (.t 142)
 (.seq (.reg [0,237] [
 (aO 4 (.mv (.c (.sc (.bool false)))))])
 .ret)
 .skip)))
 (.seq (.drw [0,237,3,5,7,13,14,15] [
 (eT 143 (.fa 11 (.t 3))),(eT 144 (.ld false 1 (.t 143))),(eT 145 (.bit .and .i64 (.t 144) (kI 1023))),(eT 146 (.ld true 5 (.t 7))),(eT 147 (.cal 22 [(.t 146)])),(eF 148 (.dvd .rem true .i64 (.t 145) (.t 147))),(eF 16 (.mv (.t 148)))])
 (.seq (.seq (.drw [0,237,3,5,7,13,14,15,16] [
 (eT 149 (.ld true 5 (.t 7))),(eT 150 (.ld true 4 (.t 13))),(eT 151 (.mv (.t 16))),(eT 152 (.cal 23 [(.t 149),(.t 150),(.t 151)])),(eT 153 (.ld true 5 (.t 7))),(eT 154 (.ld true 4 (.t 13))),(eT 155 (.mv (.t 16))),(eF 156 (.cal 24 [(.t 153),(.t 154),(.t 155)])),(eF 157 (.eqa true 2 (.t 152) (.t 156))),(eF 158 (.mv (.t 157))),⟨⟨some 159,some (158,false),.ld true 5 (.t 7)⟩,[],[],true⟩,⟨⟨some 160,some (158,false),.ld true 4 (.t 14)⟩,[],[],true⟩,⟨⟨some 161,some (158,false),.mv (.t 16)⟩,[],[],true⟩,⟨⟨some 162,some (158,false),.cal 23 [(.t 159),(.t 160),(.t 161)]⟩,[],[],true⟩,⟨⟨some 163,some (158,false),.ld true 5 (.t 7)⟩,[],[],true⟩,⟨⟨some 164,some (158,false),.ld true 4 (.t 14)⟩,[],[],true⟩,⟨⟨some 165,some (158,false),.mv (.t 16)⟩,[],[],true⟩,⟨⟨some 166,some (158,false),.cal 24 [(.t 163),(.t 164),(.t 165)]⟩,[],[],false⟩,⟨⟨some 167,some (158,false),.eqa true 2 (.t 162) (.t 166)⟩,[],[],false⟩,(eF 168 (.pick (.t 158) (.c (.sc (.bool true))) (.t 167))),(eF 169 (.mv (.t 168))),⟨⟨some 170,some (169,false),.ld true 5 (.t 7)⟩,[],[],true⟩,⟨⟨some 171,some (169,false),.ld true 4 (.t 14)⟩,[],[],true⟩,⟨⟨some 172,some (169,false),.fa 11 (.t 3)⟩,[],[],true⟩,⟨⟨some 173,some (169,false),.ld false 1 (.t 172)⟩,[],[],true⟩,⟨⟨some 174,some (169,false),.cal 23 [(.t 170),(.t 171),(.t 173)]⟩,[],[],true⟩,⟨⟨some 175,some (169,false),.ld true 5 (.t 7)⟩,[],[],true⟩,⟨⟨some 176,some (169,false),.ld true 4 (.t 14)⟩,[],[],true⟩,⟨⟨some 177,some (169,false),.fa 11 (.t 3)⟩,[],[],true⟩,⟨⟨some 178,some (169,false),.ld false 1 (.t 177)⟩,[],[],true⟩,⟨⟨some 179,some (169,false),.cal 24 [(.t 175),(.t 176),(.t 178)]⟩,[],[],false⟩,⟨⟨some 180,some (169,false),.eqa true 2 (.t 174) (.t 179)⟩,[],[],false⟩,(eF 181 (.pick (.t 169) (.c (.sc (.bool true))) (.t 180))),(eF 182 (.mv (.t 181))),⟨⟨some 183,some (182,false),.ld true 5 (.t 7)⟩,[],[],true⟩,⟨⟨some 184,some (182,false),.ld true 4 (.t 14)⟩,[],[],true⟩,⟨⟨some 185,some (182,false),.cal 26 [(.t 183),(.t 184)]⟩,[],[],true⟩,⟨⟨some 186,some (182,false),.ld true 5 (.t 7)⟩,[],[],true⟩,⟨⟨some 187,some (182,false),.ld true 4 (.t 14)⟩,[],[],true⟩,⟨⟨some 188,some (182,false),.cal 27 [(.t 186),(.t 187)]⟩,[],[],false⟩,⟨⟨some 189,some (182,false),.cal 25 [(.t 185),(.t 188)]⟩,[],[],false⟩,⟨⟨some 190,some (182,false),.not (.t 189)⟩,[],[],false⟩,(eF 191 (.pick (.t 182) (.c (.sc (.bool true))) (.t 190)))])
 (.cut [0,237,3,5,13,15,191] (.cond (.t 191)
 (.seq (.reg [0,237] [
 (aO 4 (.mv (.c (.sc (.bool false)))))])
 .ret)
 .skip)))
 (.seq (.drw [0,237,3,5,13,15] [
 (eU 192 (.ld true 4 (.t 13)) [] [17,18,19,20]),(eU 193 (.ld true 4 (.t 15)) [] [17,18,19,20]),(eU 194 (.cal 28 [(.t 192),(.t 193)]) [] [17,18,19,20]),(eU 195 (.ld true 4 (.t 13)) [] [17,18,19,20]),(eU 196 (.ld true 4 (.t 15)) [] [17,18,19,20]),(eU 197 (.cal 29 [(.t 195),(.t 196)]) [] [17,18,19,20]),(eU 198 (.fa 0 (.t 3)) [] [17,18,19,20]),(eU 199 (.ld true 4 (.t 198)) [] [17,18,19,20]),(eU 200 (.fa 4 (.t 3)) [] [17,18,19,20]),(eU 201 (.ld true 4 (.t 200)) [] [17,18,19,20]),(eU 202 (.cal 28 [(.t 199),(.t 201)]) [] [17,18,19,20]),(eU 203 (.fa 0 (.t 3)) [] [17,18,19,20]),(eU 204 (.ld true 4 (.t 203)) [] [17,18,19,20]),(eU 205 (.fa 4 (.t 3)) [] [17,18,19,20]),(eU 206 (.ld true 4 (.t 205)) [] [17,18,19,20]),(eU 207 (.cal 29 [(.t 204),(.t 206)]) [] [17,18,19,20]),(eU 17 (.alc [.nil,.nil]) [17] [18,19,20]),(eU 18 (.alc [.nil,.nil]) [18] [17,19,20]),(eU 19 (.alc [.nil,.nil]) [19] [17,18,20]),(eU 20 (.alc [.nil,.nil]) [20] [17,18,19]),⟨(aN (.sto 2 (.t 17) (.t 194))),[],[],false⟩,⟨(aN (.sto 2 (.t 18) (.t 197))),[],[],false⟩,⟨(aN (.sto 2 (.t 19) (.t 202))),[],[],false⟩,⟨(aN (.sto 2 (.t 20) (.t 207))),[],[],false⟩])
 (.seq (.rgs [
 ([0,237,5,17,18,19,20],[
 (aO 208 (.fa 0 (.t 17))),(aO 209 (.ld false 1 (.t 208))),(aO 210 (.fa 0 (.t 18))),(aO 211 (.ld false 1 (.t 210))),(aO 212 (.cal 25 [(.t 209),(.t 211)])),(aO 213 (.mv (.t 212))),⟨some 214,some (213,true),.fa 1 (.t 17)⟩,⟨some 215,some (213,true),.ld false 1 (.t 214)⟩,⟨some 216,some (213,true),.fa 1 (.t 18)⟩,⟨some 217,some (213,true),.ld false 1 (.t 216)⟩,⟨some 218,some (213,true),.cal 25 [(.t 215),(.t 217)]⟩,(aO 219 (.pick (.t 213) (.t 218) (.c (.sc (.bool false)))))]),([0,237,5,19,20,219],[
 (aO 220 (.mv (.t 219))),⟨some 221,some (220,true),.fa 0 (.t 19)⟩,⟨some 222,some (220,true),.ld false 1 (.t 221)⟩,⟨some 223,some (220,true),.fa 0 (.t 20)⟩,⟨some 224,some (220,true),.ld false 1 (.t 223)⟩,⟨some 225,some (220,true),.cal 25 [(.t 222),(.t 224)]⟩,(aO 226 (.pick (.t 220) (.t 225) (.c (.sc (.bool false))))),(aO 227 (.mv (.t 226))),⟨some 228,some (227,true),.fa 1 (.t 19)⟩,⟨some 229,some (227,true),.ld false 1 (.t 228)⟩,⟨some 230,some (227,true),.fa 1 (.t 20)⟩,⟨some 231,some (227,true),.ld false 1 (.t 230)⟩]),([0,237,5,227,229,231],[
 ⟨some 232,some (227,true),.cal 25 [(.t 229),(.t 231)]⟩,(aO 233 (.pick (.t 227) (.t 232) (.c (.sc (.bool false))))),(aO 234 (.mv (.t 233))),⟨some 235,some (234,true),.mv (.t 5)⟩,(aO 236 (.pick (.t 234) (.t 235) (.c (.sc (.bool false))))),(aO 4 (.mv (.t 236)))])])
 .ret))))))))))))))))
def rv3m : List RV := [.tmp 4]
theorem ok3m : fnOk Try.prog ac3m rv3m Try.f3 = true := by kernel_rfl
end Go.Proofs.Ytledbjkolidhkaa.Txt
namespace Go.Proofs.Ytledbjkolidhkaa
open Go Go.Vc Txt
structure OddA.Bd (z : OddA) : Prop where
 c1 : z.c.sel.length <= 1048576
 c2 : z.c.mode.length <= 1048576
 c3 : z.c.tab.length <= 1048576
 c4 : z.c.ram.length <= 1048576
 d1 : z.d.sel.length <= 1048576
 d2 : z.d.mode.length <= 1048576
 d3 : z.d.tab.length <= 1048576
 d4 : z.d.ram.length <= 1048576
 l1 : z.l.pos.length <= 1048576
 l2 : z.l.routes.length <= 1048576
 l3 : ∀ r ∈ z.l.routes,r.nodes.length <= 1048576 /\ r.frm.length <= 1048576
 bl : z.blocks.length <= 1048576
 b : z.b.length <= 1048576
def sizeL : List Route -> Nat
 | [] => 0
 | r :: rs => 1 + r.nodes.length + r.frm.length + sizeL rs
theorem sizeL_snoc (r : Route) : ∀ rs : List Route,sizeL (rs ++ [r]) = sizeL rs + (1 + r.nodes.length + r.frm.length)
 | [] => by simp [sizeL]
 | x :: rs => by rw [List.cons_append,sizeL,sizeL,sizeL_snoc r rs]; omega
theorem sizeL_mem {r : Route} : ∀ {rs : List Route},r ∈ rs -> 1 + r.nodes.length + r.frm.length <= sizeL rs
 | x :: rs, h => by
   rw [sizeL]
   rcases List.mem_cons.1 h with rfl | h
   ·omega
   ·have := sizeL_mem h; omega
theorem sizeL_len : ∀ rs : List Route,rs.length <= sizeL rs
 | [] => Nat.le_refl _
 | r :: rs => by have := sizeL_len rs; rw [sizeL,List.length_cons]; omega
theorem sizeL_bd : ∀ {rs : List Route},(∀ r ∈ rs,r.nodes.length <= 1048576 /\ r.frm.length <= 1048576) -> sizeL rs <= rs.length * 2097153
 | [],_ => Nat.le_refl _
 | r :: rs, h => by
   have h1 := h r (by simp)
   have h2 := sizeL_bd (rs := rs) fun r hr => h r (by simp [hr])
   rw [sizeL,List.length_cons,Nat.add_mul]
   omega
theorem sizeL_take (rs : List Route) (k : Nat) : sizeL (rs.take k) <= sizeL rs := by
 induction rs generalizing k with
 | nil => simp [sizeL]
 | cons r rs ih =>
   cases k with
   | zero => simp [sizeL]
   | succ k => have := ih k; simp only [List.take_succ_cons,sizeL]; omega
def baseZ (z : OddA) : Nat := z.c.sel.length + z.c.mode.length + z.c.tab.length + z.c.ram.length + z.d.sel.length + z.d.mode.length + z.d.tab.length + z.d.ram.length + z.l.pos.length + z.blocks.length + z.b.length
def sizeZ (z : OddA) : Nat := baseZ z + sizeL z.l.routes
set_option maxHeartbeats 2000000 in
theorem small_ok (z : OddA) (hz : z.Bd) : FnEq Try.prog 10 [.agg (oddC false z)] (.bool (decide (sizeZ z <= 800))) := by
 obtain ⟨c1,c2,c3,c4,d1,d2,d3,d4,l1,l2,l3,bl,hb⟩ := hz
 have hsb := sizeL_bd l3
 have hB : baseZ z <= 11 * 1048576 := by unfold baseZ; omega
 have hBI : ((baseZ z : Nat) : Int) = (z.c.sel.length : Int) + z.c.mode.length + z.c.tab.length + z.c.ram.length + z.d.sel.length + z.d.mode.length + z.d.tab.length + z.d.ram.length + z.l.pos.length + z.blocks.length + z.b.length := by unfold baseZ; omega
 refine FnEq.of_awp Try.func10 ok10m (by show 1 <= _; decide) (by simp only [push_cast,reduceIte,reduceEqDiff,reduceAdd,reduceSub,reduceMul,Nat.reduceBEq,reduceLT,reduceLeDiff,reduceCtorEq,reduceToNat,reduceNeg] <;> first | exact fun _ _ => trivial | simp) ?_
 simp only [ac10m,rv10m,List.cons_append,List.nil_append,push_cast,reduceIte,reduceEqDiff,reduceAdd,reduceSub,reduceMul,Nat.reduceBEq,reduceLT,reduceLeDiff,reduceCtorEq,reduceToNat,reduceNeg]
 repeat (refine And.intro (by omega) ?_)
 refine loop_of (fun m st => ∃ k : Nat,k <= z.l.routes.length /\ m = z.l.routes.length - k /\ st = ⟨[(1,.ptr 1 0),(3,.int (baseZ z + sizeL (z.l.routes.take k) : Nat)),(4,.int k)],[(1,oddC false z)],[],[]⟩) z.l.routes.length ?_ ?_
 ·refine ⟨0,by omega,by omega,?_⟩
  simp only [List.take_zero,sizeL,Nat.add_zero,List.cons_append,List.nil_append,push_cast,reduceIte,reduceEqDiff,reduceAdd,reduceSub,reduceMul,Nat.reduceBEq,reduceLT,reduceLeDiff,reduceCtorEq,reduceToNat,reduceNeg]
  rw [hBI]
 rintro m st ⟨k,hk,rfl,rfl⟩
 have hst := sizeL_take z.l.routes k
 simp only [List.cons_append,List.nil_append,push_cast,reduceIte,reduceEqDiff,reduceAdd,reduceSub,reduceMul,Nat.reduceBEq,reduceLT,reduceLeDiff,reduceCtorEq,reduceToNat,reduceNeg]
 refine cond_dec (fun h => ?_) fun h => ?_
 ·have hkl : k < z.l.routes.length := by omega
  have hsn : sizeL (z.l.routes.take (k + 1)) = sizeL (z.l.routes.take k) + (1 + (z.l.routes.getD k default).nodes.length + (z.l.routes.getD k default).frm.length) := by
   rw [List.take_add_one,List.getElem?_eq_getElem hkl,Option.toList_some,sizeL_snoc,List.getD_eq_getElem?_getD,List.getElem?_eq_getElem hkl]
   rfl
  have hm := l3 (z.l.routes.getD k default) (by simp [hkl])
  generalize z.l.routes.getD k default = r at *
  repeat (refine And.intro (by omega) ?_)
  refine ⟨_,?_,k + 1,by omega,rfl,?_⟩
  ·omega
  ·rw [hsn]
   simp only [List.cons_append,List.nil_append,push_cast,reduceIte,reduceEqDiff,reduceAdd,reduceSub,reduceMul,Nat.reduceBEq,reduceLT,reduceLeDiff,reduceCtorEq,reduceToNat,reduceNeg]
   first | (rw [Int.add_assoc]; done) | (simp only [Int.zero_add]; done) | (simp only [Int.zero_add]; rw [Int.add_assoc])
 rw [List.take_of_length_le (show z.l.routes.length <= k by omega)]
 rw [show decide (sizeZ z <= 800) = decide (((baseZ z : Nat) : Int) + ((sizeL z.l.routes : Nat) : Int) <= 800) from by rw [decide_eq_decide]; unfold sizeZ; omega]
theorem permB (bl : List Block) : ∀ x ∈ rows (blockC true) bl,∀ c ∈ x,Perm c := by
 intro x hx
 obtain ⟨b,_,rfl⟩ := List.mem_map.1 hx
 refine sB ?_
 try exact fun _ _ => trivial
theorem permR (rs : List Route) : ∀ x ∈ rows (routeC true) rs,∀ c ∈ x,Perm c := by
 intro x hx
 obtain ⟨b,_,rfl⟩ := List.mem_map.1 hx
 refine sB ?_
 try exact ⟨fun _ _ => trivial,fun _ _ => trivial⟩
theorem rows_setB (bl : List Block) (t : Nat) (b : Block) : List.take bl.length ((rows (blockC true) bl).set t (blockC true b)) = rows (blockC true) (bl.set t b) := by
 rw [List.take_of_length_le (by simp [rows])]
 exact List.map_set.symm
theorem rows_setR (rs : List Route) (t : Nat) (r : Route) : List.take rs.length ((rows (routeC true) rs).set t (routeC true r)) = rows (routeC true) (rs.set t r) := by
 rw [List.take_of_length_le (by simp [rows])]
 exact List.map_set.symm
def setM (l : List Int) (k v : Int) : List Int := l.set (k % (l.length : Int)).toNat v
def blkV (b : Block) (k2 v : Int) : Block := if k2 % 3 = 0 then { b with table := v } else if k2 % 3 = 1 then { b with ram := v } else { b with reg := v }
def rtV (r : Route) (k0 k2 v : Int) : Route := if k0 % 4 = 2 then { r with nodes := setM r.nodes k2 v } else { r with frm := setM r.frm k2 v }
def spoilF (p : Packed) (l : Layout) (k0 k1 k2 v : Int) : Packed × Layout :=
 if k0 % 4 = 0 /\ 0 < l.pos.length then (p,{ l with pos := setM l.pos k1 v })
 else if k0 % 4 = 1 /\ 0 < p.blocks.length then ({ p with blocks := p.blocks.set (k1 % (p.blocks.length : Int)).toNat (blkV (p.blocks.getD (k1 % (p.blocks.length : Int)).toNat default) k2 v) },l)
 else if 0 < l.routes.length then (p,{ l with routes := l.routes.set (k1 % (l.routes.length : Int)).toNat (rtV (l.routes.getD (k1 % (l.routes.length : Int)).toNat default) k0 k2 v) })
 else (p,l)
set_option maxHeartbeats 4000000 in
theorem spoiled_ok (g : Grid) (p : Packed) (l : Layout) (h1 : (l.pos.length : Int) <= 1000000) (h2 : (p.blocks.length : Int) <= 1000000) (h3 : (l.routes.length : Int) <= 1000000) (hr : ∀ r ∈ l.routes, 0 < r.nodes.length /\ r.frm.length = r.nodes.length /\ (r.nodes.length : Int) <= 1000000)
  (k0 k1 k2 k3 v : Int) (q0 : 0 <= k0 /\ k0 <= 255) (q1 : 0 <= k1 /\ k1 <= 255) (q2 : 0 <= k2 /\ k2 <= 255) :
  FnEq Try.prog 12 [.agg (desC true g p l),.agg [.sc (.int .u8 k0),.sc (.int .u8 k1),.sc (.int .u8 k2),.sc (.int .u8 k3)],.int v] (.agg (desC true g (spoilF p l k0 k1 k2 v).1 (spoilF p l k0 k1 k2 v).2)) := by
 refine FnEq.of_awp Try.func12 ok12m (by show 3 <= _; decide) (by simp only [push_cast,reduceIte,reduceEqDiff,reduceAdd,reduceSub,reduceMul,Nat.reduceBEq,reduceLT,reduceLeDiff,reduceCtorEq,reduceToNat,reduceNeg] <;> first | exact fun _ _ => trivial | simp) ?_
 have hk : k0 % 4 = 0 \/ k0 % 4 = 1 \/ k0 % 4 = 2 \/ k0 % 4 = 3 := by omega
 unfold spoilF
 simp only [ac12m,rv12m,push_cast,reduceIte,reduceEqDiff,reduceAdd,reduceSub,reduceMul,Nat.reduceBEq,reduceLT,reduceLeDiff,reduceCtorEq,reduceToNat,reduceNeg]
 refine ⟨by omega,by omega,?_⟩
 refine cut_of ⟨[(2,.int v),(3,.ptr 3 0),(4,.ptr 4 0),(6,.ptr 6 0),(12,.bool (decide (k0 % 4 = 0 /\ 0 < l.pos.length)))],[(3,desC true g p l),(4,[.sc (.int .u8 k0),.sc (.int .u8 k1),.sc (.int .u8 k2),.sc (.int .u8 k3)]),(6,[.int 0,.int 0,.int 0,.int 0,.nil,.nil,.nil,.nil,.nil,.nil,.nil])],[],[]⟩ ?_ ?_
 ·refine grd_dec rfl (fun e1 => ?_) fun e1 => ?_ <;> refine sB ?_
  ·rw [show decide (k0 % 4 = 0 /\ 0 < l.pos.length) = decide (0 < (l.pos.length : Int)) from by rw [decide_eq_decide]; omega]
  ·rw [decide_eq_false (fun h => e1 h.1)]
 refine sB ?_
 refine cond_dec (fun e => ?_) fun e => ?_
 ·rw [if_pos e]
  simp only [List.replicate_zero,List.nil_append,List.length_nil,Nat.zero_add,Int.zero_add,setM,Int.cast_ofNat_Int]
  have t1 := Int.emod_lt_of_pos k1 (show 0 < (l.pos.length : Int) by omega)
  have t2 := Int.emod_nonneg k1 (show (l.pos.length : Int) ≠ 0 by omega)
  generalize k1 % (l.pos.length : Int) = t at *
  repeat (refine And.intro (by omega) ?_)
  rw [List.take_of_length_le (by simp)]
  exact ⟨⟨fun _ _ => trivial,fun _ _ => trivial,fun _ _ _ _ => trivial,fun _ _ => trivial,fun _ _ => trivial,fun _ _ => trivial,fun _ _ => ⟨fun _ _ => trivial,fun _ _ => trivial⟩⟩,.refl _,.refl _,.refl _,.refl _,.refl _,.refl _⟩
 rw [if_neg e]
 refine ⟨by omega,by omega,?_⟩
 refine cut_of ⟨[(2,.int v),(3,.ptr 3 0),(4,.ptr 4 0),(6,.ptr 6 0),(44,.bool (decide (k0 % 4 = 1 /\ 0 < p.blocks.length)))],[(3,desC true g p l),(4,[.sc (.int .u8 k0),.sc (.int .u8 k1),.sc (.int .u8 k2),.sc (.int .u8 k3)]),(6,[.int 0,.int 0,.int 0,.int 0,.nil,.nil,.nil,.nil,.nil,.nil,.nil])],[],[]⟩ ?_ ?_
 ·refine grd_dec rfl (fun e1 => ?_) fun e1 => ?_ <;> refine sB ?_
  ·rw [show decide (k0 % 4 = 1 /\ 0 < p.blocks.length) = decide (0 < (p.blocks.length : Int)) from by rw [decide_eq_decide]; omega]
  ·rw [decide_eq_false (fun h => e1 h.1)]
 refine sB ?_
 refine cond_dec (fun e1 => ?_) fun e1 => ?_
 ·rw [if_pos e1]
  simp only [List.replicate_zero,List.nil_append,List.length_nil,Nat.zero_add,Int.zero_add,Int.cast_ofNat_Int]
  have t1 := Int.emod_lt_of_pos k1 (show 0 < (p.blocks.length : Int) by omega)
  have t2 := Int.emod_nonneg k1 (show (p.blocks.length : Int) ≠ 0 by omega)
  generalize k1 % (p.blocks.length : Int) = t at *
  repeat (refine And.intro (by omega) ?_)
  have fin : ∀ bl : List Block,(((∀ (x : Int),x ∈ g.kind -> True) /\ (∀ (x : Wire),x ∈ p.ins -> True) /\ (∀ x ∈ rows (blockC true) bl,∀ (c : PV),c ∈ x -> Perm c) /\ (∀ (x : Wire),x ∈ p.out -> True) /\ (∀ (x : Int),x ∈ p.drive -> True) /\ (∀ (x : Int),x ∈ l.pos -> True) /\ ∀ (x : Route),x ∈ l.routes -> (∀ (x_1 : Int),x_1 ∈ x.nodes -> True) /\ ∀ (x_1 : Int),x_1 ∈ x.frm -> True)) :=
   fun bl => ⟨fun _ _ => trivial,fun _ _ => trivial,permB bl,fun _ _ => trivial,fun _ _ => trivial,fun _ _ => trivial,fun _ _ => ⟨fun _ _ => trivial,fun _ _ => trivial⟩⟩
  generalize hb : p.blocks.getD t.toNat default = b
  refine cond_dec (fun e2 => ?_) fun e2 => ?_
  ·refine ⟨by omega,by omega,?_⟩
   rw [show ([.sl true 1 (ints b.ins),.sc (.int .i64 v),.int b.ram,.int b.reg,.sc (.int .u64 b.key)] : List PV) = blockC true (blkV b k2 v) from by rw [blkV,if_pos e2]; rfl,rows_setB]
   exact ⟨fin _,.refl _,.refl _,.refl _,.refl _,.refl _,.refl _⟩
  refine cond_dec (fun e3 => ?_) fun e3 => ?_
  ·refine ⟨by omega,by omega,?_⟩
   rw [show ([.sl true 1 (ints b.ins),.int b.table,.sc (.int .i64 v),.int b.reg,.sc (.int .u64 b.key)] : List PV) = blockC true (blkV b k2 v) from by rw [blkV,if_neg e2,if_pos e3]; rfl,rows_setB]
   exact ⟨fin _,.refl _,.refl _,.refl _,.refl _,.refl _,.refl _⟩
  ·refine ⟨by omega,by omega,?_⟩
   rw [show ([.sl true 1 (ints b.ins),.int b.table,.int b.ram,.sc (.int .i64 v),.sc (.int .u64 b.key)] : List PV) = blockC true (blkV b k2 v) from by rw [blkV,if_neg e2,if_neg e3]; rfl,rows_setB]
   exact ⟨fin _,.refl _,.refl _,.refl _,.refl _,.refl _,.refl _⟩
 rw [if_neg e1]
 refine cond_dec (fun e2 => ?_) fun e2 => ?_
 ·rw [if_pos (show 0 < l.routes.length by omega)]
  simp only [List.replicate_zero,List.nil_append,List.length_nil,Nat.zero_add,Int.zero_add,Int.cast_ofNat_Int]
  have t1 := Int.emod_lt_of_pos k1 (show 0 < (l.routes.length : Int) by omega)
  have t2 := Int.emod_nonneg k1 (show (l.routes.length : Int) ≠ 0 by omega)
  generalize k1 % (l.routes.length : Int) = t at *
  repeat (refine And.intro (by omega) ?_)
  have htl : t.toNat < l.routes.length := by omega
  have hrm := hr (l.routes.getD t.toNat default) (by simp [htl])
  generalize hb : l.routes.getD t.toNat default = r at *
  obtain ⟨r1,r2,r3⟩ := hrm
  have fin : ∀ rs : List Route,(((∀ (x : Int),x ∈ g.kind -> True) /\ (∀ (x : Wire),x ∈ p.ins -> True) /\ (∀ (x : Block),x ∈ p.blocks -> ∀ (x_1 : Int),x_1 ∈ x.ins -> True) /\ (∀ (x : Wire),x ∈ p.out -> True) /\ (∀ (x : Int),x ∈ p.drive -> True) /\ (∀ (x : Int),x ∈ l.pos -> True) /\ ∀ x ∈ rows (routeC true) rs,∀ (c : PV),c ∈ x -> Perm c)) :=
   fun rs => ⟨fun _ _ => trivial,fun _ _ => trivial,fun _ _ _ _ => trivial,fun _ _ => trivial,fun _ _ => trivial,fun _ _ => trivial,permR rs⟩
  repeat (refine And.intro (by omega) ?_)
  have u1 := Int.emod_lt_of_pos k2 (show 0 < (r.nodes.length : Int) by omega)
  have u2 := Int.emod_nonneg k2 (show (r.nodes.length : Int) ≠ 0 by omega)
  refine cond_dec (fun e3 => ?_) fun e3 => ?_
  ·repeat (refine And.intro (by omega) ?_)
   rw [show List.take r.nodes.length (r.nodes.set (k2 % (r.nodes.length : Int)).toNat v) = setM r.nodes k2 v from List.take_of_length_le (by simp),List.take_of_length_le (show r.frm.length <= r.frm.length from Nat.le_refl _)]
   rw [show ([.sc (.int .i64 r.sig),.sl true 1 (rows intC (setM r.nodes k2 v)),.sl true 1 (rows intC r.frm)] : List PV) = routeC true (rtV r k0 k2 v) from by rw [rtV,if_pos e3]; rfl,rows_setR]
   exact ⟨fin _,.refl _,.refl _,.refl _,.refl _,.refl _,.refl _⟩
  ·rw [r2]
   repeat (refine And.intro (by omega) ?_)
   rw [<- r2]
   rw [show List.take r.frm.length (r.frm.set (k2 % (r.frm.length : Int)).toNat v) = setM r.frm k2 v from List.take_of_length_le (by simp),List.take_of_length_le (show r.nodes.length <= r.frm.length by omega)]
   rw [show ([.sc (.int .i64 r.sig),.sl true 1 (rows intC r.nodes),.sl true 1 (rows intC (setM r.frm k2 v))] : List PV) = routeC true (rtV r k0 k2 v) from by rw [rtV,if_neg e3]; rfl,rows_setR]
   exact ⟨fin _,.refl _,.refl _,.refl _,.refl _,.refl _,.refl _⟩
 rw [if_neg (show ¬ 0 < l.routes.length by omega)]
 exact ⟨⟨fun _ _ => trivial,fun _ _ => trivial,fun _ _ _ _ => trivial,fun _ _ => trivial,fun _ _ => trivial,fun _ _ => trivial,fun _ _ => ⟨fun _ _ => trivial,fun _ _ => trivial⟩⟩,.refl _,.refl _,.refl _,.refl _,.refl _,.refl _⟩
end Go.Proofs.Ytledbjkolidhkaa
namespace Go.Proofs.Ytledbjkolidhkaa.Txt
open Go Go.Vc
set_option maxRecDepth 100000
def ac48m : AC :=
 (.seq (.reg [0,15,0,1] [
 (aO 4 (.alc [zI,zI]))])
 (.seq (.seq (.reg [0,15,0,1,4] [
 (aO 5 (.mv (.t 1))),(aO 6 (.mv (.t 0))),(aO 7 (.len (.t 6))),(aO 8 (.cmp .lss .i64 (.t 5) (.t 7)))])
 (.cond (.t 8)
 (.seq (.reg [0,15,0,1,4] [
 (aO 9 (.mv (.t 0))),(aO 10 (.mv (.t 1))),(aO 11 (.ixs 1 (.t 9) (.t 10))),(aO 12 (.ld false 1 (.t 11))),(aO 13 (.bld [zI,zI] [(0,1,(.t 12)),(1,1,(kI 1))])),(aN (.sto 2 (.t 4) (.t 13)))])
 .ret)
 .skip))
 (.seq (.reg [0,15,4] [
 (aO 14 (.bld [zI,zI] [])),(aN (.sto 2 (.t 4) (.t 14)))])
 .ret)))
def rv48m : List RV := [.cell 4 true 2]
theorem ok48m : fnOk Try.prog ac48m rv48m Try.f48 = true := by kernel_rfl

def ac29m : AC :=
 (.seq (.reg [0,101,0,1] [
 (aO 2 (.box (.t 0))),(aO 3 (.box (.t 1))),(aO 4 (.alc [.nil,.nil]))])
 (.seq (.reg [0,101,2,3,4] [
 (aO 9 (.bld [.nil,.nil] [])),(aO 5 (.alc [.nil,.nil])),(aN (.sto 2 (.t 5) (.t 9)))])
 (.seq (.seq (.reg [0,101,2,3,4,5] [
 (aO 6 (.mv (kI 0)))])
 (.block 0
 (.loop [0,101,2,3,4,5,6]
 (.seq (.seq (.reg [0,101,2,3,4,5,6] [
 (aO 10 (.mv (.t 6))),(aO 11 (.fa 0 (.t 2))),(aO 12 (.ld false 1 (.t 11))),(aO 13 (.len (.t 12))),(aO 14 (.cmp .lss .i64 (.t 10) (.t 13))),(aO 15 (.mv (.t 14))),⟨some 16,some (15,false),.mv (.t 6)⟩,⟨some 17,some (15,false),.fa 0 (.t 3)⟩,⟨some 18,some (15,false),.ld false 1 (.t 17)⟩,⟨some 19,some (15,false),.len (.t 18)⟩,⟨some 20,some (15,false),.cmp .lss .i64 (.t 16) (.t 19)⟩,(aO 21 (.pick (.t 15) (.c (.sc (.bool true))) (.t 20)))])
 (.cut [0,101,2,3,4,5,6,21] (.cond (.t 21)
 .skip
 (.exit 0))))
 (.seq (.block 1
 (.seq (.drw [0,101,2,3,4,5,6] [
 (eT 24 (.fa 0 (.t 2))),(eT 25 (.ld false 1 (.t 24))),(eT 26 (.mv (.t 6))),(eT 27 (.cal 48 [(.t 25),(.t 26)])),(eT 28 (.fa 0 (.t 3))),(eT 29 (.ld false 1 (.t 28))),(eT 30 (.mv (.t 6))),(eF 31 (.cal 48 [(.t 29),(.t 30)])),(eF 32 (.eqa true 2 (.t 27) (.t 31)))])
 (.cond (.t 32)
 (.reg [0,101,2,3,4,5,6] [
 (aO 33 (.fa 0 (.t 5))),(aO 34 (.ld false 1 (.t 33))),(aO 35 (.mv (.t 6))),(aO 36 (.bsl 1 3 [zI] 1 [(0,(.t 35))])),(aO 37 (.app 1 3 8 (.t 34) (.t 36))),(aO 38 (.fa 0 (.t 5))),(aN (.sto 1 (.t 38) (.t 37)))])
 .skip)))
 (.reg [0,101,2,3,4,5,6] [
 (aO 22 (.mv (.t 6))),(aO 23 (.ari .add true .i64 (.t 22) (kI 1))),(aO 6 (.mv (.t 23)))]))))))
 (.seq (.reg [0,101,2,3,4,5] [
 (aO 39 (.fa 1 (.t 2))),(aO 40 (.ld false 1 (.t 39))),(aO 41 (.len (.t 40))),(aO 42 (.fa 2 (.t 2))),(aO 43 (.ld false 1 (.t 42))),(aO 44 (.len (.t 43))),(aO 45 (.fa 3 (.t 2))),(aO 46 (.ld false 1 (.t 45))),(aO 47 (.len (.t 46))),(aO 48 (.fa 1 (.t 3))),(aO 49 (.ld false 1 (.t 48))),(aO 50 (.len (.t 49))),(aO 51 (.fa 2 (.t 3))),(aO 52 (.ld false 1 (.t 51))),(aO 53 (.len (.t 52))),(aO 54 (.fa 3 (.t 3))),(aO 55 (.ld false 1 (.t 54))),(aO 56 (.len (.t 55))),(aO 57 (.xo (.mx true) [(.t 41),(.t 44),(.t 47),(.t 50),(.t 53),(.t 56)])),(aO 7 (.mv (.t 57)))])
 (.seq (.seq (.reg [0,101,2,3,4,5,7] [
 (aO 8 (.mv (kI 0)))])
 (.block 2
 (.loop [0,101,2,3,4,5,7,8]
 (.seq (.seq (.reg [0,101,2,3,4,5,7,8] [
 (aO 58 (.mv (.t 8))),(aO 59 (.mv (.t 7))),(aO 60 (.cmp .lss .i64 (.t 58) (.t 59)))])
 (.cond (.t 60)
 .skip
 (.exit 2)))
 (.seq (.block 3
 (.seq (.drw [0,101,2,3,4,5,7,8] [
 (eT 63 (.fa 1 (.t 2))),(eT 64 (.ld false 1 (.t 63))),(eT 65 (.mv (.t 8))),(eT 66 (.cal 48 [(.t 64),(.t 65)])),(eT 67 (.fa 1 (.t 3))),(eT 68 (.ld false 1 (.t 67))),(eT 69 (.mv (.t 8))),(eF 70 (.cal 48 [(.t 68),(.t 69)])),(eF 71 (.eqa true 2 (.t 66) (.t 70))),(eF 72 (.mv (.t 71))),⟨⟨some 73,some (72,false),.fa 2 (.t 2)⟩,[],[],true⟩,⟨⟨some 74,some (72,false),.ld false 1 (.t 73)⟩,[],[],true⟩,⟨⟨some 75,some (72,false),.mv (.t 8)⟩,[],[],true⟩,⟨⟨some 76,some (72,false),.cal 48 [(.t 74),(.t 75)]⟩,[],[],true⟩,⟨⟨some 77,some (72,false),.fa 2 (.t 3)⟩,[],[],true⟩,⟨⟨some 78,some (72,false),.ld false 1 (.t 77)⟩,[],[],true⟩,⟨⟨some 79,some (72,false),.mv (.t 8)⟩,[],[],true⟩,⟨⟨some 80,some (72,false),.cal 48 [(.t 78),(.t 79)]⟩,[],[],false⟩,⟨⟨some 81,some (72,false),.eqa true 2 (.t 76) (.t 80)⟩,[],[],false⟩,(eF 82 (.pick (.t 72) (.c (.sc (.bool true))) (.t 81))),(eF 83 (.mv (.t 82))),⟨⟨some 84,some (83,false),.fa 3 (.t 2)⟩,[],[],true⟩,⟨⟨some 85,some (83,false),.ld false 1 (.t 84)⟩,[],[],true⟩,⟨⟨some 86,some (83,false),.mv (.t 8)⟩,[],[],true⟩,⟨⟨some 87,some (83,false),.cal 48 [(.t 85),(.t 86)]⟩,[],[],true⟩,⟨⟨some 88,some (83,false),.fa 3 (.t 3)⟩,[],[],true⟩,⟨⟨some 89,some (83,false),.ld false 1 (.t 88)⟩,[],[],true⟩,⟨⟨some 90,some (83,false),.mv (.t 8)⟩,[],[],true⟩,⟨⟨some 91,some (83,false),.cal 48 [(.t 89),(.t 90)]⟩,[],[],false⟩,⟨⟨some 92,some (83,false),.eqa true 2 (.t 87) (.t 91)⟩,[],[],false⟩,(eF 93 (.pick (.t 83) (.c (.sc (.bool true))) (.t 92)))])
 (.cut [0,101,2,3,4,5,7,8,93] (.cond (.t 93)
 (.reg [0,101,2,3,4,5,7,8] [
 (aO 94 (.fa 1 (.t 5))),(aO 95 (.ld false 1 (.t 94))),(aO 96 (.mv (.t 8))),(aO 97 (.bsl 1 3 [zI] 1 [(0,(.t 96))])),(aO 98 (.app 1 3 8 (.t 95) (.t 97))),(aO 99 (.fa 1 (.t 5))),(aN (.sto 1 (.t 99) (.t 98)))])
 .skip))))
 (.reg [0,101,2,3,4,5,7,8] [
 (aO 61 (.mv (.t 8))),(aO 62 (.ari .add true .i64 (.t 61) (kI 1))),(aO 8 (.mv (.t 62)))]))))))
 (.seq (.reg [0,101,4,5] [
 (aO 100 (.ld true 2 (.t 5))),(aN (.sto 2 (.t 4) (.t 100)))])
 .ret))))))
def rv29m : List RV := [.cell 4 true 2]
theorem ok29m : fnOk Try.prog ac29m rv29m Try.f29 = true := by kernel_rfl

def ac37m : AC :=
 (.seq (.reg [0,103,0,1,2] [
 (aO 3 (.box (.t 0))),(aO 4 (.box (.t 1))),(aO 5 (.box (.t 2))),(aO 6 (.mv (.c (.sc (.bool false)))))])
 (.seq (.seq (.reg [0,103,3,4,5] [
 (aO 11 (.fa 0 (.t 5))),(aO 12 (.ld false 1 (.t 11))),(aO 13 (.len (.t 12))),(aO 14 (.fa 1 (.t 3))),(aO 15 (.ld false 1 (.t 14))),(aO 16 (.len (.t 15))),(aO 17 (.cmp .neq .i64 (.t 13) (.t 16)))])
 (.cond (.t 17)
 (.seq (.reg [0,103] [
 (aO 6 (.mv (.c (.sc (.bool false)))))])
 .ret)
 .skip))
 (.seq (.seq (.reg [0,103,3,4,5] [
 (aO 7 (.mv (kI 0)))])
 (.block 0
 (.loop [0,103,3,4,5,7]
 (.seq (.seq (.reg [0,103,3,4,5,7] [
 (aO 18 (.mv (.t 7))),(aO 19 (.fa 0 (.t 5))),(aO 20 (.ld false 1 (.t 19))),(aO 21 (.len (.t 20))),(aO 22 (.cmp .lss .i64 (.t 18) (.t 21)))])
 (.cond (.t 22)
 .skip
 (.exit 0)))
 (.seq (.block 1
 (.seq (.drw [0,103,3,4,5,7] [
 (eT 25 (.ld true 5 (.t 4))),(eT 26 (.fa 1 (.t 3))),(eT 27 (.ld false 1 (.t 26))),(eT 28 (.mv (.t 7))),(eT 29 (.ixs 5 (.t 27) (.t 28))),(eT 30 (.ld true 5 (.t 29))),(eT 31 (.fa 0 (.t 5))),(eT 32 (.ld false 1 (.t 31))),(eT 33 (.mv (.t 7))),(eT 34 (.ixs 1 (.t 32) (.t 33))),(eT 35 (.ld false 1 (.t 34))),(eF 36 (.cal 52 [(.t 25),(.t 30),(.t 35)])),(eF 37 (.not (.t 36))),(eF 38 (.mv (.t 37))),⟨⟨some 39,some (38,false),.fa 0 (.t 5)⟩,[],[],true⟩,⟨⟨some 40,some (38,false),.ld false 1 (.t 39)⟩,[],[],true⟩,⟨⟨some 41,some (38,false),.mv (.t 7)⟩,[],[],true⟩,⟨⟨some 42,some (38,false),.slc 1 (.t 40) none (some (.t 41))⟩,[],[],true⟩,⟨⟨some 43,some (38,false),.fa 0 (.t 5)⟩,[],[],true⟩,⟨⟨some 44,some (38,false),.ld false 1 (.t 43)⟩,[],[],true⟩,⟨⟨some 45,some (38,false),.mv (.t 7)⟩,[],[],true⟩,⟨⟨some 46,some (38,false),.ixs 1 (.t 44) (.t 45)⟩,[],[],true⟩,⟨⟨some 47,some (38,false),.ld false 1 (.t 46)⟩,[],[],true⟩,⟨⟨some 48,some (38,false),.cal 38 [(.t 42),(.t 47)]⟩,[],[],false⟩,⟨⟨some 49,some (38,false),.cmp .geq .i64 (.t 48) (kI 0)⟩,[],[],false⟩,(eF 50 (.pick (.t 38) (.c (.sc (.bool true))) (.t 49)))])
 (.cut [0,103,3,4,5,7,50] (.cond (.t 50)
 (.seq (.reg [0,103] [
 (aO 6 (.mv (.c (.sc (.bool false)))))])
 .ret)
 .skip))))
 (.reg [0,103,3,4,5,7] [
 (aO 23 (.mv (.t 7))),(aO 24 (.ari .add true .i64 (.t 23) (kI 1))),(aO 7 (.mv (.t 24)))]))))))
 (.seq (.reg [0,103,4,5] [
 (aO 51 (.ld true 5 (.t 4))),(aO 52 (.cal 22 [(.t 51)])),(aO 53 (.mks 1 4 1 [.sc (.bool false)] (.t 52) (.t 52))),(aO 8 (.mv (.t 53)))])
 (.seq (.seq (.reg [0,103,4,5,8] [
 (aO 9 (.mv (kI 0)))])
 (.block 2
 (.loop [0,103,4,5,8,9]
 (.seq (.seq (.reg [0,103,4,5,8,9] [
 (aO 54 (.mv (.t 9))),(aO 55 (.fa 1 (.t 5))),(aO 56 (.ld false 1 (.t 55))),(aO 57 (.len (.t 56))),(aO 58 (.cmp .lss .i64 (.t 54) (.t 57)))])
 (.cond (.t 58)
 .skip
 (.exit 2)))
 (.seq (.block 3
 (.seq (.seq (.drw [0,103,4,5,8,9] [
 (eT 61 (.ld true 5 (.t 4))),(eT 62 (.fa 1 (.t 5))),(eT 63 (.ld false 1 (.t 62))),(eT 64 (.mv (.t 9))),(eT 65 (.ixs 3 (.t 63) (.t 64))),(eT 66 (.ld true 3 (.t 65))),(eF 67 (.cal 59 [(.t 61),(.t 66)])),(eF 68 (.not (.t 67)))])
 (.cond (.t 68)
 (.seq (.reg [0,103] [
 (aO 6 (.mv (.c (.sc (.bool false)))))])
 .ret)
 .skip))
 (.seq (.reg [0,103,4,5,8,9] [
 (aO 10 (.mv (kI 0)))])
 (.block 4
 (.loop [0,103,4,5,8,9,10]
 (.seq (.seq (.reg [0,103,4,5,8,9,10] [
 (aO 69 (.mv (.t 10))),(aO 70 (.fa 1 (.t 5))),(aO 71 (.ld false 1 (.t 70))),(aO 72 (.mv (.t 9))),(aO 73 (.ixs 3 (.t 71) (.t 72))),(aO 74 (.fa 1 (.t 73))),(aO 75 (.ld false 1 (.t 74))),(aO 76 (.len (.t 75))),(aO 77 (.cmp .lss .i64 (.t 69) (.t 76)))])
 (.cond (.t 77)
 .skip
 (.exit 4)))
 (.seq (.block 5
 (.seq (.seq (.reg [0,103,4,5,8,9,10] [
 (aO 80 (.mv (.t 8))),(aO 81 (.fa 1 (.t 5))),(aO 82 (.ld false 1 (.t 81))),(aO 83 (.mv (.t 9))),(aO 84 (.ixs 3 (.t 82) (.t 83))),(aO 85 (.fa 1 (.t 84))),(aO 86 (.ld false 1 (.t 85))),(aO 87 (.mv (.t 10))),(aO 88 (.ixs 1 (.t 86) (.t 87))),(aO 89 (.ld false 1 (.t 88))),(aO 90 (.ixs 1 (.t 80) (.t 89))),(aO 91 (.ld false 1 (.t 90)))])
 (.cond (.t 91)
 (.seq (.reg [0,103] [
 (aO 6 (.mv (.c (.sc (.bool false)))))])
 .ret)
 .skip))
 (.reg [0,103,4,5,8,9,10] [
 (aO 92 (.mv (.t 8))),(aO 93 (.fa 1 (.t 5))),(aO 94 (.ld false 1 (.t 93))),(aO 95 (.mv (.t 9))),(aO 96 (.ixs 3 (.t 94) (.t 95))),(aO 97 (.fa 1 (.t 96))),(aO 98 (.ld false 1 (.t 97))),(aO 99 (.mv (.t 10))),(aO 100 (.ixs 1 (.t 98) (.t 99))),(aO 101 (.ld false 1 (.t 100))),(aO 102 (.ixs 1 (.t 92) (.t 101))),(aN (.sto 1 (.t 102) (.c (.sc (.bool true)))))])))
 (.reg [0,103,4,5,8,9,10] [
 (aO 78 (.mv (.t 10))),(aO 79 (.ari .add true .i64 (.t 78) (kI 1))),(aO 10 (.mv (.t 79)))]))))))))
 (.reg [0,103,4,5,8,9] [
 (aO 59 (.mv (.t 9))),(aO 60 (.ari .add true .i64 (.t 59) (kI 1))),(aO 9 (.mv (.t 60)))]))))))
 (.seq (.reg [0,103] [
 (aO 6 (.mv (.c (.sc (.bool true)))))])
 .ret))))))
def rv37m : List RV := [.tmp 6]
theorem ok37m : fnOk Try.prog ac37m rv37m Try.f37 = true := by kernel_rfl
end Go.Proofs.Ytledbjkolidhkaa.Txt
namespace Go.Proofs.Ytledbjkolidhkaa
open Go Go.Vc Txt
def atF (l : List Int) (i : Nat) : Int × Int := if i < l.length then (l.getD i 0,1) else (0,0)
theorem at_ok (l : List Int) (hl : (l.length : Int) <= 1000000) (i : Nat) : FnEq Try.prog 48 [.sl false 1 (ints l),.int i] (.agg [.int (atF l i).1,.int (atF l i).2]) := by
 refine FnEq.of_awp Try.func48 ok48m (by show 2 <= _; decide) (by simp only [push_cast,reduceIte,reduceEqDiff,reduceAdd,reduceSub,reduceMul,Nat.reduceBEq,reduceLT,reduceLeDiff,reduceCtorEq,reduceToNat,reduceNeg] <;> first | exact fun _ _ => trivial | simp) ?_
 simp only [ac48m,rv48m,push_cast,reduceIte,reduceEqDiff,reduceAdd,reduceSub,reduceMul,Nat.reduceBEq,reduceLT,reduceLeDiff,reduceCtorEq,reduceToNat,reduceNeg]
 refine cond_dec (fun h => ?_) fun h => ?_
 ·refine ⟨by omega,by omega,?_⟩
  rw [atF,if_pos (show i < l.length by omega)]
  exact ⟨rfl,rfl⟩
 ·rw [atF,if_neg (show ¬ i < l.length by omega)]
  try simp only [push_cast,reduceIte,reduceEqDiff,reduceAdd,reduceSub,reduceMul,Nat.reduceBEq,reduceLT,reduceLeDiff,reduceCtorEq,reduceToNat,reduceNeg]
def atN (a b : List Int) (i : Nat) : Bool := decide (atF a i ≠ atF b i)
theorem atN_unF {a b : List Int} {i : Nat} (h : i < max a.length b.length) : atN a b i = unF a b i := by
 unfold atN unF atF
 rw [decide_eq_decide]
 by_cases h1 : i < a.length <;> by_cases h2 : i < b.length
 ·rw [if_pos h1,if_pos h2]; simp; omega
 ·rw [if_pos h1,if_neg h2]; simp; omega
 ·rw [if_neg h1,if_pos h2]; simp; omega
 ·omega
theorem atN_out {a b : List Int} {i : Nat} (h : ¬ i < max a.length b.length) : atN a b i = false := by
 unfold atN atF
 rw [if_neg (by omega),if_neg (by omega)]
 simp
theorem idxF_ord (p : Nat -> Bool) : ∀ k,(idxF p k).Pairwise (· < ·)
 | 0 => .nil
 | k + 1 => by
   rw [idxF,List.pairwise_append]
   refine ⟨idxF_ord p k,?_,fun x hx y hy => ?_⟩
   ·split <;> simp
   ·obtain ⟨i,h1,_,rfl⟩ := (idxF_mem ..).1 hx
    split at hy
    ·simp at hy; omega
    ·simp at hy
theorem unlikeF_at (a b : List Int) : unlikeF a b = idxF (atN a b) (max a.length b.length) := idxF_congr _ fun i hi => (atN_unF hi).symm
def tileN (c d : Cfg) (i : Nat) : Bool := atN c.mode d.mode i || (atN c.tab d.tab i || atN c.ram d.ram i)
def mostF (c d : Cfg) : Nat := max (max (max (max (max c.mode.length c.tab.length) c.ram.length) d.mode.length) d.tab.length) d.ram.length
theorem differF_at (c d : Cfg) : differF c d = (idxF (atN c.sel d.sel) (max c.sel.length d.sel.length),idxF (tileN c d) (mostF c d)) := by
 rw [differF,unlikeF_at]
 congr 1
 obtain ⟨h1,h2⟩ := compact_ord (tilesF c d)
 refine pair_eq h1 (idxF_ord _ _) fun x => ?_
 rw [h2,tilesF,List.mem_append,List.mem_append,unlikeF_at,unlikeF_at,unlikeF_at,idxF_mem,idxF_mem,idxF_mem,idxF_mem]
 unfold tileN mostF
 constructor
 ·rintro ((⟨i,a1,a2,rfl⟩ | ⟨i,a1,a2,rfl⟩) | ⟨i,a1,a2,rfl⟩)
  ·exact ⟨i,by omega,by simp [a2],rfl⟩
  ·exact ⟨i,by omega,by simp [a2],rfl⟩
  ·exact ⟨i,by omega,by simp [a2],rfl⟩
 ·rintro ⟨i,a1,a2,rfl⟩
  have key : ∀ a b : List Int,atN a b i = true -> i < max a.length b.length := fun a b h => Classical.byContradiction fun hn => by rw [atN_out hn] at h; cases h
  rw [Bool.or_eq_true,Bool.or_eq_true] at a2
  rcases a2 with h | h | h
  ·exact .inl (.inl ⟨i,key _ _ h,h,rfl⟩)
  ·exact .inl (.inr ⟨i,key _ _ h,h,rfl⟩)
  ·exact .inr ⟨i,key _ _ h,h,rfl⟩
set_option maxHeartbeats 4000000 in
theorem rdiffer_ok (c d : Cfg) (hc : CfgSm c) (hd : CfgSm d) : FnEq Try.prog 29 [.agg (cfgC false c),.agg (cfgC false d)] (.agg [.sl true 1 (ints (differF c d).1),.sl true 1 (ints (differF c d).2)]) := by
 obtain ⟨c1,c2,c3,c4⟩ := hc
 obtain ⟨d1,d2,d3,d4⟩ := hd
 rw [differF_at]
 obtain ⟨n,hn⟩ : ∃ n,n = max c.sel.length d.sel.length := ⟨_,rfl⟩
 obtain ⟨t,ht⟩ : ∃ t,t = mostF c d := ⟨_,rfl⟩
 rw [<- hn,<- ht]
 refine FnEq.of_awp Try.func29 ok29m (by show 2 <= _; decide) (by simp only [push_cast,reduceIte,reduceEqDiff,reduceAdd,reduceSub,reduceMul,Nat.reduceBEq,reduceLT,reduceLeDiff,reduceCtorEq,reduceToNat,reduceNeg] <;> first | exact fun _ _ => trivial | simp) ?_
 simp only [ac29m,rv29m,push_cast,reduceIte,reduceEqDiff,reduceAdd,reduceSub,reduceMul,Nat.reduceBEq,reduceLT,reduceLeDiff,reduceCtorEq,reduceToNat,reduceNeg]
 refine loop_of (fun m st => ∃ k : Nat,k <= n /\ m = n - k /\ st = ⟨[(2,.ptr 2 0),(3,.ptr 3 0),(4,.ptr 4 0),(5,.ptr 5 0),(6,.int k)],[(2,cfgC false c),(3,cfgC false d),(4,[.nil,.nil]),(5,[lvN 37 (idxF (atN c.sel d.sel) k),.nil])],laN 37 (idxF (atN c.sel d.sel) k),[]⟩) n ?_ ?_
 ·refine ⟨0,by omega,by omega,?_⟩
  simp only [idxF,push_cast,reduceIte,reduceEqDiff,reduceAdd,reduceSub,reduceMul,Nat.reduceBEq,reduceLT,reduceLeDiff,reduceCtorEq,reduceToNat,reduceNeg]
 rintro m st ⟨k,hk,rfl,rfl⟩
 have hlen := idxF_len (atN c.sel d.sel) k
 have hs : idxF (atN c.sel d.sel) (k + 1) = idxF (atN c.sel d.sel) k ++ if atN c.sel d.sel k = true then [(k : Int)] else [] := rfl
 generalize hl0 : idxF (atN c.sel d.sel) k = l0 at hlen hs ⊢
 have a1 := at_ok c.sel c1 k
 have a2 := at_ok d.sel d1 k
 have hat : atN c.sel d.sel k = decide (atF c.sel k ≠ atF d.sel k) := rfl
 generalize hp : atN c.sel d.sel k = p at hs hat
 cases l0 with
 | nil =>
   refine sB ?_
   refine cut_of ⟨[(2,.ptr 2 0),(3,.ptr 3 0),(4,.ptr 4 0),(5,.ptr 5 0),(6,.int k),(21,.bool (decide (k < n)))],[(2,cfgC false c),(3,cfgC false d),(4,[.nil,.nil]),(5,[.nil,.nil])],[],[]⟩ ?_ ?_
   ·refine grd_decf rfl (fun h1 => ?_) fun h1 => ?_ <;> refine sB ?_
    ·rw [decide_eq_true (show k < n by omega)]
    ·rw [show decide (k < n) = decide ((k : Int) < d.sel.length) from by rw [decide_eq_decide]; omega]
   refine sB ?_
   refine cond_dec (fun h => ?_) fun h => ?_
   ·refine dcal_sub a1 (by exact ⟨.refl _,.refl _,trivial⟩) rfl ?_
    refine sB ?_
    refine cal_sub a2 ⟨.refl _,.refl _,trivial⟩ ?_
    refine sB ?_
    rw [show (!(decide ((atF c.sel k).1 = (atF d.sel k).1) && decide ((atF c.sel k).2 = (atF d.sel k).2))) = p from by
     rw [hat,Bool.eq_iff_iff]
     simp [Prod.ext_iff]]
    refine cond_of (fun h2 => ?_) fun h2 => ?_
    ·refine ⟨by simp,?_⟩
     simp only [rows_one,push_cast,reduceIte,reduceEqDiff,reduceAdd,reduceSub,reduceMul,Nat.reduceBEq,reduceLT,reduceLeDiff,reduceCtorEq,reduceToNat,reduceNeg]
     refine ⟨by omega,_,?_,k + 1,by omega,rfl,?_⟩
     ·omega
     ·rw [hs,if_pos h2]
      simp only [List.nil_append,push_cast,reduceIte,reduceEqDiff,reduceAdd,reduceSub,reduceMul,Nat.reduceBEq,reduceLT,reduceLeDiff,reduceCtorEq,reduceToNat,reduceNeg]
      simp [rows_one]
      try rfl
    ·refine ⟨by omega,_,?_,k + 1,by omega,rfl,?_⟩
     ·omega
     ·rw [hs,if_neg (by rw [h2]; decide)]
      simp only [List.append_nil,push_cast,reduceIte,reduceEqDiff,reduceAdd,reduceSub,reduceMul,Nat.reduceBEq,reduceLT,reduceLeDiff,reduceCtorEq,reduceToNat,reduceNeg]
   rw [show n = k by omega,hl0]
   refine loop_of (fun m st => ∃ j : Nat,j <= t /\ m = t - j /\ st = ⟨[(2,.ptr 2 0),(3,.ptr 3 0),(4,.ptr 4 0),(5,.ptr 5 0),(7,.int t),(8,.int j)],[(2,cfgC false c),(3,cfgC false d),(4,[.nil,.nil]),(5,[.nil,lvN 98 (idxF (tileN c d) j)])],laN 98 (idxF (tileN c d) j),[]⟩) t ?_ ?_
   ·refine ⟨0,by omega,by omega,?_⟩
    simp only [idxF,push_cast,reduceIte,reduceEqDiff,reduceAdd,reduceSub,reduceMul,Nat.reduceBEq,reduceLT,reduceLeDiff,reduceCtorEq,reduceToNat,reduceNeg]
    rw [show (max (max (max (max (max (c.mode.length : Int) c.tab.length) c.ram.length) d.mode.length) d.tab.length) d.ram.length) = (t : Int) by rw [ht]; unfold mostF; omega]
   clear hs hlen hat hp
   rintro m st ⟨j,hj,rfl,rfl⟩
   have hlen := idxF_len (tileN c d) j
   have hs : idxF (tileN c d) (j + 1) = idxF (tileN c d) j ++ if tileN c d j = true then [(j : Int)] else [] := rfl
   have m1 := at_ok c.mode c2 j
   have m2 := at_ok d.mode d2 j
   have t1 := at_ok c.tab c3 j
   have t2 := at_ok d.tab d3 j
   have r1 := at_ok c.ram c4 j
   have r2 := at_ok d.ram d4 j
   have hbd : t <= 1000000 := by rw [ht]; unfold mostF; omega
   have hat : tileN c d j = (decide (atF c.mode j ≠ atF d.mode j) || (decide (atF c.tab j ≠ atF d.tab j) || decide (atF c.ram j ≠ atF d.ram j))) := rfl
   generalize hp : tileN c d j = p at hs hat
   generalize hl2 : idxF (tileN c d) j = l2 at hlen hs ⊢
   have e1 : ∀ a b : Int × Int,(!(decide (a.1 = b.1) && decide (a.2 = b.2))) = decide (a ≠ b) := fun a b => by rw [Bool.eq_iff_iff]; simp [Prod.ext_iff]
   cases l2 with
   | nil =>
     refine sB ?_
     refine cond_dec (fun h => ?_) fun h => ?_
     ·refine dcal_sub m1 (by exact ⟨.refl _,.refl _,trivial⟩) rfl ?_
      refine sB ?_
      first | refine dcal_sub m2 (by exact ⟨.refl _,.refl _,trivial⟩) rfl ?_ | refine cal_sub m2 (by exact ⟨.refl _,.refl _,trivial⟩) ?_
      simp only [e1,push_cast,reduceIte,reduceEqDiff,reduceAdd,reduceSub,reduceMul,Nat.reduceBEq,reduceLT,reduceLeDiff,reduceCtorEq,reduceToNat,reduceNeg]
      refine dcut_of ⟨[(2,.ptr 2 0),(3,.ptr 3 0),(4,.ptr 4 0),(5,.ptr 5 0),(7,.int t),(8,.int j),(93,.bool p)],[(2,cfgC false c),(3,cfgC false d),(4,[.nil,.nil]),(5,[.nil,.nil])],[],[]⟩ ?_ ?_
      ·refine dgrd_decf rfl (fun q1 => ?_) fun q1 => ?_ <;> refine sB ?_
       ·rw [show p = true from by rw [hat]; simp [q1]]
       ·first | refine dcal_sub t1 (by exact ⟨.refl _,.refl _,trivial⟩) rfl ?_ | refine cal_sub t1 (by exact ⟨.refl _,.refl _,trivial⟩) ?_
        refine sB ?_
        first | refine dcal_sub t2 (by exact ⟨.refl _,.refl _,trivial⟩) rfl ?_ | refine cal_sub t2 (by exact ⟨.refl _,.refl _,trivial⟩) ?_
        simp only [e1,push_cast,reduceIte,reduceEqDiff,reduceAdd,reduceSub,reduceMul,Nat.reduceBEq,reduceLT,reduceLeDiff,reduceCtorEq,reduceToNat,reduceNeg]
        refine dgrd_decf rfl (fun q2 => ?_) fun q2 => ?_ <;> refine sB ?_
        ·rw [show p = true from by rw [hat]; simp [q2]]
        ·first | refine dcal_sub r1 (by exact ⟨.refl _,.refl _,trivial⟩) rfl ?_ | refine cal_sub r1 (by exact ⟨.refl _,.refl _,trivial⟩) ?_
         refine sB ?_
         first | refine dcal_sub r2 (by exact ⟨.refl _,.refl _,trivial⟩) rfl ?_ | refine cal_sub r2 (by exact ⟨.refl _,.refl _,trivial⟩) ?_
         simp only [e1,push_cast,reduceIte,reduceEqDiff,reduceAdd,reduceSub,reduceMul,Nat.reduceBEq,reduceLT,reduceLeDiff,reduceCtorEq,reduceToNat,reduceNeg]
         rw [show p = decide (atF c.ram j ≠ atF d.ram j) from by rw [hat,decide_eq_false q1,decide_eq_false q2]; rfl]
      refine sB ?_
      refine cond_of (fun h2 => ?_) fun h2 => ?_
      ·refine ⟨by simp,?_⟩
       simp only [rows_one,push_cast,reduceIte,reduceEqDiff,reduceAdd,reduceSub,reduceMul,Nat.reduceBEq,reduceLT,reduceLeDiff,reduceCtorEq,reduceToNat,reduceNeg]
       refine ⟨by omega,_,?_,j + 1,by omega,rfl,?_⟩
       ·omega
       ·rw [hs,if_pos h2]
        simp only [List.nil_append,push_cast,reduceIte,reduceEqDiff,reduceAdd,reduceSub,reduceMul,Nat.reduceBEq,reduceLT,reduceLeDiff,reduceCtorEq,reduceToNat,reduceNeg]
        simp [rows_one]
        try rfl
      ·refine ⟨by omega,_,?_,j + 1,by omega,rfl,?_⟩
       ·omega
       ·rw [hs,if_neg (by rw [h2]; decide)]
        simp only [List.append_nil,push_cast,reduceIte,reduceEqDiff,reduceAdd,reduceSub,reduceMul,Nat.reduceBEq,reduceLT,reduceLeDiff,reduceCtorEq,reduceToNat,reduceNeg]
     rw [show t = j by omega,hl2]
   | cons y l3 =>
     simp only [List.length_cons] at hlen
     refine sB ?_
     refine cond_dec (fun h => ?_) fun h => ?_
     ·refine dcal_sub m1 (by exact ⟨.refl _,.refl _,trivial⟩) rfl ?_
      refine sB ?_
      first | refine dcal_sub m2 (by exact ⟨.refl _,.refl _,trivial⟩) rfl ?_ | refine cal_sub m2 (by exact ⟨.refl _,.refl _,trivial⟩) ?_
      simp only [e1,push_cast,reduceIte,reduceEqDiff,reduceAdd,reduceSub,reduceMul,Nat.reduceBEq,reduceLT,reduceLeDiff,reduceCtorEq,reduceToNat,reduceNeg]
      refine dcut_of ⟨[(2,.ptr 2 0),(3,.ptr 3 0),(4,.ptr 4 0),(5,.ptr 5 0),(7,.int t),(8,.int j),(93,.bool p)],[(2,cfgC false c),(3,cfgC false d),(4,[.nil,.nil]),(5,[.nil,.view 98 0 (l3.length + 1)])],[(98,⟨1,3,ints (y :: l3)⟩)],[]⟩ ?_ ?_
      ·refine dgrd_decf rfl (fun q1 => ?_) fun q1 => ?_ <;> refine sB ?_
       ·rw [show p = true from by rw [hat]; simp [q1]]
       ·first | refine dcal_sub t1 (by exact ⟨.refl _,.refl _,trivial⟩) rfl ?_ | refine cal_sub t1 (by exact ⟨.refl _,.refl _,trivial⟩) ?_
        refine sB ?_
        first | refine dcal_sub t2 (by exact ⟨.refl _,.refl _,trivial⟩) rfl ?_ | refine cal_sub t2 (by exact ⟨.refl _,.refl _,trivial⟩) ?_
        simp only [e1,push_cast,reduceIte,reduceEqDiff,reduceAdd,reduceSub,reduceMul,Nat.reduceBEq,reduceLT,reduceLeDiff,reduceCtorEq,reduceToNat,reduceNeg]
        refine dgrd_decf rfl (fun q2 => ?_) fun q2 => ?_ <;> refine sB ?_
        ·rw [show p = true from by rw [hat]; simp [q2]]
        ·first | refine dcal_sub r1 (by exact ⟨.refl _,.refl _,trivial⟩) rfl ?_ | refine cal_sub r1 (by exact ⟨.refl _,.refl _,trivial⟩) ?_
         refine sB ?_
         first | refine dcal_sub r2 (by exact ⟨.refl _,.refl _,trivial⟩) rfl ?_ | refine cal_sub r2 (by exact ⟨.refl _,.refl _,trivial⟩) ?_
         simp only [e1,push_cast,reduceIte,reduceEqDiff,reduceAdd,reduceSub,reduceMul,Nat.reduceBEq,reduceLT,reduceLeDiff,reduceCtorEq,reduceToNat,reduceNeg]
         rw [show p = decide (atF c.ram j ≠ atF d.ram j) from by rw [hat,decide_eq_false q1,decide_eq_false q2]; rfl]
      refine sB ?_
      refine cond_of (fun h2 => ?_) fun h2 => ?_
      ·refine ⟨by simp,⟨by omega,by omega⟩,by omega,_,?_,j + 1,by omega,rfl,?_⟩
       ·omega
       ·rw [hs,if_pos h2]
        simp only [List.cons_append,List.length_append,List.length_cons,List.length_nil,push_cast,reduceIte,reduceEqDiff,reduceAdd,reduceSub,reduceMul,Nat.reduceBEq,reduceLT,reduceLeDiff,reduceCtorEq,reduceToNat,reduceNeg]
      ·refine ⟨by omega,_,?_,j + 1,by omega,rfl,?_⟩
       ·omega
       ·rw [hs,if_neg (by rw [h2]; decide)]
        simp only [List.append_nil,push_cast,reduceIte,reduceEqDiff,reduceAdd,reduceSub,reduceMul,Nat.reduceBEq,reduceLT,reduceLeDiff,reduceCtorEq,reduceToNat,reduceNeg]
     rw [show t = j by omega,hl2]
     repeat rw [List.take_of_length_le (by simp)]
     first | exact ⟨fun _ _ => trivial,.refl _⟩ | exact ⟨fun _ _ => trivial,.refl _,rfl⟩ | exact ⟨⟨fun _ _ => trivial,fun _ _ => trivial⟩,.refl _,.refl _⟩ | exact ⟨fun _ _ => trivial,rfl,.refl _⟩
 | cons x l1 =>
   simp only [List.length_cons] at hlen
   refine sB ?_
   refine cut_of ⟨[(2,.ptr 2 0),(3,.ptr 3 0),(4,.ptr 4 0),(5,.ptr 5 0),(6,.int k),(21,.bool (decide (k < n)))],[(2,cfgC false c),(3,cfgC false d),(4,[.nil,.nil]),(5,[.view 37 0 (l1.length + 1),.nil])],[(37,⟨1,3,ints (x :: l1)⟩)],[]⟩ ?_ ?_
   ·refine grd_decf rfl (fun h1 => ?_) fun h1 => ?_ <;> refine sB ?_
    ·rw [decide_eq_true (show k < n by omega)]
    ·rw [show decide (k < n) = decide ((k : Int) < d.sel.length) from by rw [decide_eq_decide]; omega]
   refine sB ?_
   refine cond_dec (fun h => ?_) fun h => ?_
   ·refine dcal_sub a1 (by exact ⟨.refl _,.refl _,trivial⟩) rfl ?_
    refine sB ?_
    refine cal_sub a2 ⟨.refl _,.refl _,trivial⟩ ?_
    refine sB ?_
    rw [show (!(decide ((atF c.sel k).1 = (atF d.sel k).1) && decide ((atF c.sel k).2 = (atF d.sel k).2))) = p from by
     rw [hat,Bool.eq_iff_iff]
     simp [Prod.ext_iff]]
    refine cond_of (fun h2 => ?_) fun h2 => ?_
    ·refine ⟨by simp,⟨by omega,by omega⟩,by omega,_,?_,k + 1,by omega,rfl,?_⟩
     ·omega
     ·rw [hs,if_pos h2]
      simp only [List.cons_append,List.length_append,List.length_cons,List.length_nil,push_cast,reduceIte,reduceEqDiff,reduceAdd,reduceSub,reduceMul,Nat.reduceBEq,reduceLT,reduceLeDiff,reduceCtorEq,reduceToNat,reduceNeg]
    ·refine ⟨by omega,_,?_,k + 1,by omega,rfl,?_⟩
     ·omega
     ·rw [hs,if_neg (by rw [h2]; decide)]
      simp only [List.append_nil,push_cast,reduceIte,reduceEqDiff,reduceAdd,reduceSub,reduceMul,Nat.reduceBEq,reduceLT,reduceLeDiff,reduceCtorEq,reduceToNat,reduceNeg]
   rw [show n = k by omega,hl0]
   refine loop_of (fun m st => ∃ j : Nat,j <= t /\ m = t - j /\ st = ⟨[(2,.ptr 2 0),(3,.ptr 3 0),(4,.ptr 4 0),(5,.ptr 5 0),(7,.int t),(8,.int j)],[(2,cfgC false c),(3,cfgC false d),(4,[.nil,.nil]),(5,[.view 37 0 (l1.length + 1),lvN 98 (idxF (tileN c d) j)])],(37,⟨1,3,ints (x :: l1)⟩) :: laN 98 (idxF (tileN c d) j),[]⟩) t ?_ ?_
   ·refine ⟨0,by omega,by omega,?_⟩
    simp only [idxF,push_cast,reduceIte,reduceEqDiff,reduceAdd,reduceSub,reduceMul,Nat.reduceBEq,reduceLT,reduceLeDiff,reduceCtorEq,reduceToNat,reduceNeg]
    rw [show (max (max (max (max (max (c.mode.length : Int) c.tab.length) c.ram.length) d.mode.length) d.tab.length) d.ram.length) = (t : Int) by rw [ht]; unfold mostF; omega]
   clear hs hlen hat hp
   rintro m st ⟨j,hj,rfl,rfl⟩
   have hlen := idxF_len (tileN c d) j
   have hs : idxF (tileN c d) (j + 1) = idxF (tileN c d) j ++ if tileN c d j = true then [(j : Int)] else [] := rfl
   have m1 := at_ok c.mode c2 j
   have m2 := at_ok d.mode d2 j
   have t1 := at_ok c.tab c3 j
   have t2 := at_ok d.tab d3 j
   have r1 := at_ok c.ram c4 j
   have r2 := at_ok d.ram d4 j
   have hbd : t <= 1000000 := by rw [ht]; unfold mostF; omega
   have hat : tileN c d j = (decide (atF c.mode j ≠ atF d.mode j) || (decide (atF c.tab j ≠ atF d.tab j) || decide (atF c.ram j ≠ atF d.ram j))) := rfl
   generalize hp : tileN c d j = p at hs hat
   generalize hl2 : idxF (tileN c d) j = l2 at hlen hs ⊢
   have e1 : ∀ a b : Int × Int,(!(decide (a.1 = b.1) && decide (a.2 = b.2))) = decide (a ≠ b) := fun a b => by rw [Bool.eq_iff_iff]; simp [Prod.ext_iff]
   cases l2 with
   | nil =>
     refine sB ?_
     refine cond_dec (fun h => ?_) fun h => ?_
     ·refine dcal_sub m1 (by exact ⟨.refl _,.refl _,trivial⟩) rfl ?_
      refine sB ?_
      first | refine dcal_sub m2 (by exact ⟨.refl _,.refl _,trivial⟩) rfl ?_ | refine cal_sub m2 (by exact ⟨.refl _,.refl _,trivial⟩) ?_
      simp only [e1,push_cast,reduceIte,reduceEqDiff,reduceAdd,reduceSub,reduceMul,Nat.reduceBEq,reduceLT,reduceLeDiff,reduceCtorEq,reduceToNat,reduceNeg]
      refine dcut_of ⟨[(2,.ptr 2 0),(3,.ptr 3 0),(4,.ptr 4 0),(5,.ptr 5 0),(7,.int t),(8,.int j),(93,.bool p)],[(2,cfgC false c),(3,cfgC false d),(4,[.nil,.nil]),(5,[.view 37 0 (l1.length + 1),.nil])],[(37,⟨1,3,ints (x :: l1)⟩)],[]⟩ ?_ ?_
      ·refine dgrd_decf rfl (fun q1 => ?_) fun q1 => ?_ <;> refine sB ?_
       ·rw [show p = true from by rw [hat]; simp [q1]]
       ·first | refine dcal_sub t1 (by exact ⟨.refl _,.refl _,trivial⟩) rfl ?_ | refine cal_sub t1 (by exact ⟨.refl _,.refl _,trivial⟩) ?_
        refine sB ?_
        first | refine dcal_sub t2 (by exact ⟨.refl _,.refl _,trivial⟩) rfl ?_ | refine cal_sub t2 (by exact ⟨.refl _,.refl _,trivial⟩) ?_
        simp only [e1,push_cast,reduceIte,reduceEqDiff,reduceAdd,reduceSub,reduceMul,Nat.reduceBEq,reduceLT,reduceLeDiff,reduceCtorEq,reduceToNat,reduceNeg]
        refine dgrd_decf rfl (fun q2 => ?_) fun q2 => ?_ <;> refine sB ?_
        ·rw [show p = true from by rw [hat]; simp [q2]]
        ·first | refine dcal_sub r1 (by exact ⟨.refl _,.refl _,trivial⟩) rfl ?_ | refine cal_sub r1 (by exact ⟨.refl _,.refl _,trivial⟩) ?_
         refine sB ?_
         first | refine dcal_sub r2 (by exact ⟨.refl _,.refl _,trivial⟩) rfl ?_ | refine cal_sub r2 (by exact ⟨.refl _,.refl _,trivial⟩) ?_
         simp only [e1,push_cast,reduceIte,reduceEqDiff,reduceAdd,reduceSub,reduceMul,Nat.reduceBEq,reduceLT,reduceLeDiff,reduceCtorEq,reduceToNat,reduceNeg]
         rw [show p = decide (atF c.ram j ≠ atF d.ram j) from by rw [hat,decide_eq_false q1,decide_eq_false q2]; rfl]
      refine sB ?_
      refine cond_of (fun h2 => ?_) fun h2 => ?_
      ·refine ⟨by simp,?_⟩
       simp only [rows_one,push_cast,reduceIte,reduceEqDiff,reduceAdd,reduceSub,reduceMul,Nat.reduceBEq,reduceLT,reduceLeDiff,reduceCtorEq,reduceToNat,reduceNeg]
       refine ⟨by omega,_,?_,j + 1,by omega,rfl,?_⟩
       ·omega
       ·rw [hs,if_pos h2]
        simp only [List.nil_append,push_cast,reduceIte,reduceEqDiff,reduceAdd,reduceSub,reduceMul,Nat.reduceBEq,reduceLT,reduceLeDiff,reduceCtorEq,reduceToNat,reduceNeg]
        simp [rows_one]
        try rfl
      ·refine ⟨by omega,_,?_,j + 1,by omega,rfl,?_⟩
       ·omega
       ·rw [hs,if_neg (by rw [h2]; decide)]
        simp only [List.append_nil,push_cast,reduceIte,reduceEqDiff,reduceAdd,reduceSub,reduceMul,Nat.reduceBEq,reduceLT,reduceLeDiff,reduceCtorEq,reduceToNat,reduceNeg]
     rw [show t = j by omega,hl2]
     repeat rw [List.take_of_length_le (by simp)]
     first | exact ⟨fun _ _ => trivial,.refl _⟩ | exact ⟨fun _ _ => trivial,.refl _,rfl⟩ | exact ⟨⟨fun _ _ => trivial,fun _ _ => trivial⟩,.refl _,.refl _⟩ | exact ⟨fun _ _ => trivial,rfl,.refl _⟩
   | cons y l3 =>
     simp only [List.length_cons] at hlen
     refine sB ?_
     refine cond_dec (fun h => ?_) fun h => ?_
     ·refine dcal_sub m1 (by exact ⟨.refl _,.refl _,trivial⟩) rfl ?_
      refine sB ?_
      first | refine dcal_sub m2 (by exact ⟨.refl _,.refl _,trivial⟩) rfl ?_ | refine cal_sub m2 (by exact ⟨.refl _,.refl _,trivial⟩) ?_
      simp only [e1,push_cast,reduceIte,reduceEqDiff,reduceAdd,reduceSub,reduceMul,Nat.reduceBEq,reduceLT,reduceLeDiff,reduceCtorEq,reduceToNat,reduceNeg]
      refine dcut_of ⟨[(2,.ptr 2 0),(3,.ptr 3 0),(4,.ptr 4 0),(5,.ptr 5 0),(7,.int t),(8,.int j),(93,.bool p)],[(2,cfgC false c),(3,cfgC false d),(4,[.nil,.nil]),(5,[.view 37 0 (l1.length + 1),.view 98 0 (l3.length + 1)])],[(37,⟨1,3,ints (x :: l1)⟩),(98,⟨1,3,ints (y :: l3)⟩)],[]⟩ ?_ ?_
      ·refine dgrd_decf rfl (fun q1 => ?_) fun q1 => ?_ <;> refine sB ?_
       ·rw [show p = true from by rw [hat]; simp [q1]]
       ·first | refine dcal_sub t1 (by exact ⟨.refl _,.refl _,trivial⟩) rfl ?_ | refine cal_sub t1 (by exact ⟨.refl _,.refl _,trivial⟩) ?_
        refine sB ?_
        first | refine dcal_sub t2 (by exact ⟨.refl _,.refl _,trivial⟩) rfl ?_ | refine cal_sub t2 (by exact ⟨.refl _,.refl _,trivial⟩) ?_
        simp only [e1,push_cast,reduceIte,reduceEqDiff,reduceAdd,reduceSub,reduceMul,Nat.reduceBEq,reduceLT,reduceLeDiff,reduceCtorEq,reduceToNat,reduceNeg]
        refine dgrd_decf rfl (fun q2 => ?_) fun q2 => ?_ <;> refine sB ?_
        ·rw [show p = true from by rw [hat]; simp [q2]]
        ·first | refine dcal_sub r1 (by exact ⟨.refl _,.refl _,trivial⟩) rfl ?_ | refine cal_sub r1 (by exact ⟨.refl _,.refl _,trivial⟩) ?_
         refine sB ?_
         first | refine dcal_sub r2 (by exact ⟨.refl _,.refl _,trivial⟩) rfl ?_ | refine cal_sub r2 (by exact ⟨.refl _,.refl _,trivial⟩) ?_
         simp only [e1,push_cast,reduceIte,reduceEqDiff,reduceAdd,reduceSub,reduceMul,Nat.reduceBEq,reduceLT,reduceLeDiff,reduceCtorEq,reduceToNat,reduceNeg]
         rw [show p = decide (atF c.ram j ≠ atF d.ram j) from by rw [hat,decide_eq_false q1,decide_eq_false q2]; rfl]
      refine sB ?_
      refine cond_of (fun h2 => ?_) fun h2 => ?_
      ·refine ⟨by simp,⟨by omega,by omega⟩,by omega,_,?_,j + 1,by omega,rfl,?_⟩
       ·omega
       ·rw [hs,if_pos h2]
        simp only [List.cons_append,List.length_append,List.length_cons,List.length_nil,push_cast,reduceIte,reduceEqDiff,reduceAdd,reduceSub,reduceMul,Nat.reduceBEq,reduceLT,reduceLeDiff,reduceCtorEq,reduceToNat,reduceNeg]
      ·refine ⟨by omega,_,?_,j + 1,by omega,rfl,?_⟩
       ·omega
       ·rw [hs,if_neg (by rw [h2]; decide)]
        simp only [List.append_nil,push_cast,reduceIte,reduceEqDiff,reduceAdd,reduceSub,reduceMul,Nat.reduceBEq,reduceLT,reduceLeDiff,reduceCtorEq,reduceToNat,reduceNeg]
     rw [show t = j by omega,hl2]
     repeat rw [List.take_of_length_le (by simp)]
     first | exact ⟨fun _ _ => trivial,.refl _⟩ | exact ⟨fun _ _ => trivial,.refl _,rfl⟩ | exact ⟨⟨fun _ _ => trivial,fun _ _ => trivial⟩,.refl _,.refl _⟩ | exact ⟨fun _ _ => trivial,rfl,.refl _⟩
end Go.Proofs.Ytledbjkolidhkaa
