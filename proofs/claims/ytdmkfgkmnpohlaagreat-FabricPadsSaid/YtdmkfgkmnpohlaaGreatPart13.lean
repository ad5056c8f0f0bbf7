/- GC TxtS VcZr GDa GDb GD TxtV GF ZW ZQ ZS GR TxtM MC: lemmas -/
import Derived.Test.YtdmkfgkmnpohlaaGreatPart10
import Derived.Test.YtdmkfgkmnpohlaaGreatPart12
import Derived.Test.YtdmkfgkmnpohlaaGreatPart06
import Derived.Test.YtdmkfgkmnpohlaaGreatChecked
import Derived.Test.YtdmkfgkmnpohlaaGreatPart11
set_option linter.unusedSimpArgs false
set_option linter.unusedVariables false
open Nat (reduceEqDiff reduceAdd reduceSub reduceMul reduceLT reduceLeDiff)
open Int (reduceToNat reduceNeg)
namespace Go.Proofs.YtdmkfgkmnpohlaaGreat
open Go Go.Vc Txt
def qCr (g : Grid) (n : Nat) : List Spot := (List.range n).map fun (i : Nat) => quJ g (i : Int)
def qCs (g : Grid) (c : Cfg) (n : Nat) : List Int := (List.range n).map fun (i : Nat) => qzD g c (i : Int)
def qCt (g : Grid) (n : Nat) : List Int := idxF (fun i => decide ((quJ g i).kind = 1)) n
theorem qCu {p : Nat -> Bool} {a : Nat} : ∀ {j : Nat},(∀ i,a <= i -> i < a + j -> p i = false) -> idxF p (a + j) = idxF p a
 | 0,_ => rfl
 | j + 1, h => by
   rw [<- Nat.add_assoc,idxF,h (a + j) (by omega) (by omega),qCu (j := j) fun i h1 h2 => h i h1 (by omega)]
   simp
theorem qCv {g : Grid} (hg : GOk g) : ∀ t,t <= g.kind.length -> qCt g (t * qC4 g) = (List.range t).map fun k => ((k * qC4 g : Nat) : Int)
 | 0,_ => by rw [Nat.zero_mul]; rfl
 | t + 1, h => by
   have hE := qC8 hg
   have hT := qCd hg (t := t) (by omega)
   have h1 : (t + 1) * qC4 g = t * qC4 g + 1 + (qC4 g - 1) := by rw [Nat.add_mul]; omega
   have hk : (quJ g ((t * qC4 g : Nat) : Int)).kind = 1 := (qCf hg _).2 ⟨by omega,Nat.mul_mod_left _ _⟩
   rw [qCt,h1,qCu (fun i h2 h3 => ?_),idxF,decide_eq_true hk,if_pos rfl,List.range_succ,List.map_append]
   ·have := qCv hg t (by omega)
    rw [qCt] at this
    rw [this]
    rfl
   ·refine decide_eq_false fun e => ?_
    obtain ⟨e1,e2⟩ := (qCf hg i).1 e
    obtain ⟨r,rfl⟩ : ∃ r,i = t * qC4 g + r := ⟨i - t * qC4 g,by omega⟩
    rw [Nat.mul_comm t,Nat.mul_add_mod,Nat.mod_eq_of_lt (by omega)] at e2
    omega
theorem qCw {g : Grid} (hg : GOk g) : qCt g (quD g).toNat = (List.range g.kind.length).map fun k => ((k * qC4 g : Nat) : Int) := by
 have hE := qC8 hg
 have hA := hg.all
 have hp := hg.pads
 have hk := hg.kind
 have h4 : allI g = g.w * g.h * quC g := rfl
 rw [<- hk,<- hE.1,<- Int.natCast_mul] at h4
 have h5 : (quD g).toNat = g.kind.length * qC4 g + (2 * g.pads).toNat := by unfold quD; omega
 rw [<- qCv hg g.kind.length (Nat.le_refl _),h5,qCt,qCu fun i h1 h2 => decide_eq_false fun e => ?_]
 ·rfl
 ·have := (qCf hg i).1 e
  omega
theorem qCx {n : Nat} {f f' : Nat -> Bool} {k : Nat} {x : Bool} (hk : k < n) (hx : f' k = x) (h : ∀ i,i < n -> i ≠ k -> f' i = f i) : ((List.range n).map f).set k x = (List.range n).map f' := by
 refine List.ext_getElem (by simp) fun i h1 h2 => ?_
 simp only [List.length_set,List.length_map,List.length_range] at h1
 rw [List.getElem_set]
 simp only [List.getElem_map,List.getElem_range]
 split
 ·rename_i e; subst e; exact hx.symm
 ·rename_i e; exact (h i h1 (fun q => e q.symm)).symm
theorem qCy {n : Nat} {f f' : Nat -> Bool} (h : ∀ i,i < n -> f' i = f i) : (List.range n).map f = (List.range n).map f' := List.map_congr_left fun i hi => (h i (List.mem_range.1 hi)).symm
theorem qCz {v : List Bool} {i : Nat} (h : i + 6 <= v.length) : (v.drop (i + 2)).take 4 = qC3 v i := by
 unfold qC3
 refine List.ext_getElem (by simp; omega) fun j h1 h2 => ?_
 simp only [List.length_cons,List.length_nil] at h2
 rw [List.getElem_take,List.getElem_drop]
 have hg : ∀ k,(hk : k < v.length) -> v.getD k false = v[k] := fun k hk => by rw [List.getD_eq_getElem?_getD,List.getElem?_eq_getElem hk]; rfl
 match j,h2 with
 | 0,_ => exact (hg _ (by omega)).symm
 | 1,_ => exact (hg _ (by omega)).symm
 | 2,_ => exact (hg _ (by omega)).symm
 | 3,_ => exact (hg _ (by omega)).symm
def outP (g : Grid) (c : Cfg) (pads v : List Bool) (i : Nat) : Bool :=
 if (quJ g i).kind = 6 then pads.getD (quJ g i).i.toNat false else if (quJ g i).kind = 1 \/ (quJ g i).kind = 2 then false else drvV (qzD g c i) v
theorem qCA {g : Grid} {n k : Nat} (h : k < n) : (qCr g n).getD k default = quJ g k := by
 rw [List.getD_eq_getElem?_getD,qCr,List.getElem?_map,List.getElem?_range h]; rfl
theorem qCB {g : Grid} {c : Cfg} {n k : Nat} (h : k < n) : (qCs g c n).getD k 0 = qzD g c k := by
 rw [List.getD_eq_getElem?_getD,qCs,List.getElem?_map,List.getElem?_range h]; rfl
def out1 (g : Grid) (c : Cfg) (pads v : List Bool) (n k : Nat) : List Bool := (List.range n).map fun i => if i < k then outP g c pads v i else false
def out2 (g : Grid) (c : Cfg) (s : PSt) (pads v : List Bool) (n t : Nat) : List Bool := (List.range n).map fun (i : Nat) => if (quJ g i).kind = 1 \/ (quJ g i).kind = 2 then (if i / qC4 g < t then rndF g c s pads v i else false) else outP g c pads v i
theorem qCC (g : Grid) (c : Cfg) (pads v : List Bool) (n k : Nat) : (out1 g c pads v n k).length = n := by simp [out1]
theorem qCD (g : Grid) (c : Cfg) (s : PSt) (pads v : List Bool) (n t : Nat) : (out2 g c s pads v n t).length = n := by simp [out2]
theorem qCE (g : Grid) (c : Cfg) (pads v : List Bool) (n : Nat) : List.replicate n false = out1 g c pads v n 0 := by
 refine List.ext_getElem (by simp [out1]) fun i h1 h2 => ?_
 simp [out1]
theorem qCF {g : Grid} {c : Cfg} {pads v : List Bool} {n k : Nat} {x : Bool} (hk : k < n) (hx : outP g c pads v k = x) : (out1 g c pads v n k).set k x = out1 g c pads v n (k + 1) :=
 qCx hk (by simp only [Nat.lt_succ_self,if_true]; exact hx) fun i _ h => by
  by_cases e : i < k
  ·simp only [if_pos e,if_pos (show i < k + 1 by omega)]
  ·simp only [if_neg e,if_neg (show ¬ i < k + 1 by omega)]
theorem qCG {g : Grid} {c : Cfg} {pads v : List Bool} {n k : Nat} (hx : outP g c pads v k = false) : out1 g c pads v n k = out1 g c pads v n (k + 1) :=
 qCy fun i _ => by
  by_cases e : i < k
  ·simp only [if_pos e,if_pos (show i < k + 1 by omega)]
  ·by_cases e2 : i = k
   ·subst e2; simp only [if_neg e,if_pos (show i < i + 1 by omega),hx]
   ·simp only [if_neg e,if_neg (show ¬ i < k + 1 by omega)]
theorem qCH (g : Grid) (c : Cfg) (s : PSt) (pads v : List Bool) (n : Nat) : out1 g c pads v n n = out2 g c s pads v n 0 :=
 qCy fun i hi => by
  simp only [if_pos hi,Nat.not_lt_zero,if_false]
  by_cases e : (quJ g i).kind = 1 \/ (quJ g i).kind = 2
  ·rw [if_pos e,outP,if_neg (by omega),if_pos e]
  ·rw [if_neg e]
theorem qCI {g : Grid} (hg : GOk g) (c : Cfg) (s : PSt) (pads v : List Bool) (n : Nat) : out2 g c s pads v n g.kind.length = qxj (rndF g c s pads) n v :=
 qCy fun i hi => by
  by_cases e : (quJ g i).kind = 1 \/ (quJ g i).kind = 2
  ·have : i / qC4 g < g.kind.length := by
    rcases e with e | e
    ·exact qCe hg ((qCf hg i).1 e).1
    ·exact qCe hg ((qCg hg i).1 e).1
   simp only [if_pos e,if_pos this]
  ·simp only [if_neg e]
   unfold rndF outP
   by_cases e6 : (quJ g i).kind = 6
   ·rw [if_pos e6,if_pos e6]
   ·rw [if_neg e6,if_neg e6,if_neg (fun q => e (.inl q)),if_neg (fun q => e (.inr q)),if_neg e]
theorem qCJ {g : Grid} (hg : GOk g) (c : Cfg) (s : PSt) (pads v : List Bool) {t : Nat} (ht : t < g.kind.length) : rndF g c s pads v (t * qC4 g) = qwV c s t (qC3 v (t * qC4 g)) := by
 have hE := qC8 hg
 have hT := qCd hg ht
 have h1 : (quJ g ((t * qC4 g : Nat) : Int)).kind = 1 := (qCf hg _).2 ⟨by omega,Nat.mul_mod_left _ _⟩
 rw [rndF,h1,if_neg (by decide),if_pos rfl,Nat.mul_div_cancel _ (by omega)]
theorem qCK {g : Grid} (hg : GOk g) (c : Cfg) (s : PSt) (pads v : List Bool) {t : Nat} (ht : t < g.kind.length) : rndF g c s pads v (t * qC4 g + 1) = qwW c s t := by
 have hE := qC8 hg
 have hT := qCd hg ht
 have h1 : (quJ g ((t * qC4 g + 1 : Nat) : Int)).kind = 2 := (qCg hg _).2 ⟨by omega,by rw [Nat.mul_comm,Nat.mul_add_mod,Nat.mod_eq_of_lt (by omega)]⟩
 have h2 : (t * qC4 g + 1) / qC4 g = t := by rw [Nat.mul_comm,Nat.mul_add_div (by omega),Nat.div_eq_of_lt (by omega)]; rfl
 rw [rndF,h1,if_neg (by decide),if_neg (by decide),if_pos rfl,h2]
theorem qCL {g : Grid} (hg : GOk g) (c : Cfg) (s : PSt) (pads v : List Bool) {n t : Nat} (hn : n = (quD g).toNat) (ht : t < g.kind.length) :
  ((out2 g c s pads v n t).set (t * qC4 g) (rndF g c s pads v (t * qC4 g))).set (t * qC4 g + 1) (rndF g c s pads v (t * qC4 g + 1)) = out2 g c s pads v n (t + 1) := by
 have hE := qC8 hg
 have hT := qCd hg ht
 have hA := hg.all
 have hP := hg.pads
 have hC : quD g = allI g + 2 * g.pads := rfl
 have k1 : (quJ g ((t * qC4 g : Nat) : Int)).kind = 1 := (qCf hg _).2 ⟨by omega,Nat.mul_mod_left _ _⟩
 have k2 : (quJ g ((t * qC4 g + 1 : Nat) : Int)).kind = 2 := (qCg hg _).2 ⟨by omega,by rw [Nat.mul_comm,Nat.mul_add_mod,Nat.mod_eq_of_lt (by omega)]⟩
 have d1 : t * qC4 g / qC4 g = t := Nat.mul_div_cancel _ (by omega)
 have d2 : (t * qC4 g + 1) / qC4 g = t := by rw [Nat.mul_comm,Nat.mul_add_div (by omega),Nat.div_eq_of_lt (by omega)]; rfl
 unfold out2
 rw [qCx (f' := fun (i : Nat) => if i = t * qC4 g then rndF g c s pads v (t * qC4 g) else if (quJ g i).kind = 1 \/ (quJ g i).kind = 2 then (if i / qC4 g < t then rndF g c s pads v i else false) else outP g c pads v i) (by omega) (if_pos rfl) fun i _ h => if_neg h]
 refine qCx (by omega) ?_ fun i _ h => ?_
 ·simp only [k2,d2]
  rw [if_pos (Or.inr trivial),if_pos (Nat.lt_succ_self t)]
 ·by_cases e : i = t * qC4 g
  ·subst e
   simp only [if_true,k1,d1]
   rw [if_pos (Or.inl trivial),if_pos (Nat.lt_succ_self t)]
  ·simp only [if_neg e]
   by_cases e2 : (quJ g i).kind = 1 \/ (quJ g i).kind = 2
   ·simp only [if_pos e2]
    have hne : i / qC4 g ≠ t := fun q => by
     have hdm := Nat.div_add_mod i (qC4 g)
     rw [q,Nat.mul_comm] at hdm
     rcases e2 with e2 | e2
     ·have := ((qCf hg i).1 e2).2; omega
     ·have := ((qCg hg i).1 e2).2; omega
    by_cases e3 : i / qC4 g < t
    ·rw [if_pos e3,if_pos (by omega)]
    ·rw [if_neg e3,if_neg (by omega)]
   ·simp only [if_neg e2]
set_option maxHeartbeats 8000000 in
theorem qCM (g : Grid) (hg : GOk g) (c : Cfg) (hc : CfgG g c) (s : PSt) (pads v : List Bool) (hv : v.length = c.sel.length) :
  FnEq Tryz.prog 63 [.iptr false (arrC false c (qCr g c.sel.length) (qCt g c.sel.length) (qCs g c c.sel.length) s pads) 0,.sl false 1 (rows qk7 v)]
   (.sl true 1 (rows qk7 (qxj (rndF g c s pads) c.sel.length v))) := by
 have e0 : ∀ (l : List Int) (j : Nat),l.getD j default = l.getD j 0 := fun _ _ => rfl
 have e1 : ∀ (l : List Bool) (j : Nat),l.getD j default = l.getD j false := fun _ _ => rfl
 have hcn := hg.count
 obtain ⟨l1,l2,l3,l4⟩ := hc.ln
 have hF : qCt g c.sel.length = (List.range g.kind.length).map fun k => ((k * qC4 g : Nat) : Int) := by rw [l1]; exact qCw hg
 have hsl : (qCr g c.sel.length).length = c.sel.length := by simp [qCr]
 have hdl : (qCs g c c.sel.length).length = c.sel.length := by simp [qCs]
 have hfl : (qCt g c.sel.length).length = g.kind.length := by rw [hF]; simp
 have hsp : ∀ k,k < c.sel.length -> (qCr g c.sel.length).getD k default = quJ g k := fun k => qCA
 have hdr : ∀ k,k < c.sel.length -> (qCs g c c.sel.length).getD k 0 = qzD g c k := fun k => qCB
 have hfi : ∀ t,t < g.kind.length -> (qCt g c.sel.length).getD t 0 = ((t * qC4 g : Nat) : Int) := fun t ht => by
  rw [hF,List.getD_eq_getElem?_getD,List.getElem?_map,List.getElem?_range ht]; rfl
 generalize qCr g c.sel.length = sp at *
 generalize qCs g c c.sel.length = dr at *
 generalize qCt g c.sel.length = fi at *
 clear hF
 have hdv := fun k (hk : k < c.sel.length) => qCi hg hc hk
 generalize hn : c.sel.length = n at *
 refine FnEq.of_awp Tryz.func63 ok63 (by show 2 <= _; decide) (by simp only [push_cast,reduceIte,reduceEqDiff,reduceAdd,reduceSub,reduceMul,Nat.reduceBEq,reduceLT,reduceLeDiff,reduceCtorEq,reduceToNat,reduceNeg] <;> first | exact fun _ _ => trivial | simp) ?_
 simp only [ac63,rv63,push_cast,reduceIte,reduceEqDiff,reduceAdd,reduceSub,reduceMul,Nat.reduceBEq,reduceLT,reduceLeDiff,reduceCtorEq,reduceToNat,reduceNeg]
 refine qoF qxi ?_
 refine sB ?_
 refine ⟨by omega,?_⟩
 refine qoH (fun m st => ∃ k : Nat,k <= n /\ m = n - k /\ st = ⟨[(0,.iptr false (arrC false c sp fi dr s pads) 0),(1,.sl false 1 (rows qk7 v)),(5,.ptr 5 0),(6,.view 15 0 n),(19,.sl false 4 (rows quz sp)),(20,.int n),(21,.int k)],[(5,qxg)],
  [(15,⟨1,4,rows qk7 (out1 g c pads v n k)⟩)],[]⟩) n ?_ ?_
 ·refine ⟨0,by omega,by omega,?_⟩
  rw [hsl,hv]
  simp only [List.length_replicate,qCE g c pads v n,qCC,push_cast,reduceIte,reduceEqDiff,reduceAdd,reduceSub,reduceMul,Nat.reduceBEq,reduceLT,reduceLeDiff,reduceCtorEq,reduceToNat,reduceNeg]
  try rfl
 rintro m st ⟨k,hk,rfl,rfl⟩
 have hol := qCC g c pads v n k
 simp only [e0,e1,push_cast,reduceIte,reduceEqDiff,reduceAdd,reduceSub,reduceMul,Nat.reduceBEq,reduceLT,reduceLeDiff,reduceCtorEq,reduceToNat,reduceNeg]
 refine qnR (fun h => ?_) fun h => ?_
 ·have hkn : k < n := by omega
  refine ⟨by omega,by omega,?_⟩
  rw [hsp k hkn]
  refine qnR (fun h6 => ?_) fun h6 => ?_
  ·have hd := qCc ((qCb hg k).1 h6)
   have hd0 := (qCb hg k).1 h6
   have hO : outP g c pads v k = pads.getD (quJ g k).i.toNat false := if_pos h6
   refine qru rfl (fun h7 => ?_) fun h7 => ?_ <;> simp only [e0,e1,push_cast,reduceIte,reduceEqDiff,reduceAdd,reduceSub,reduceMul,Nat.reduceBEq,reduceLT,reduceLeDiff,reduceCtorEq,reduceToNat,reduceNeg]
   ·refine ⟨by omega,by omega,by omega,by omega,by omega,_,?_,k + 1,by omega,rfl,?_⟩
    ·omega
    ·rw [qCF hkn hO]
     exact sC
   ·rw [List.getD_eq_getElem?_getD,List.getElem?_eq_none (by omega),Option.getD_none] at hO
    refine ⟨by omega,by omega,by omega,_,?_,k + 1,by omega,rfl,?_⟩
    ·omega
    ·rw [qCF hkn hO]
     exact sC
  refine qnR (fun h1 => ?_) fun h1 => ?_
  ·refine qnR (fun _ => ?_) fun q => absurd h1 q
   refine ⟨by omega,_,?_,k + 1,by omega,rfl,?_⟩
   ·omega
   ·rw [qCG (show outP g c pads v k = false by rw [outP,if_neg h6,if_pos (.inl h1)])]
    exact sC
  refine qnR (fun h2 => ?_) fun h2 => ?_
  ·refine ⟨by omega,_,?_,k + 1,by omega,rfl,?_⟩
   ·omega
   ·rw [qCG (show outP g c pads v k = false by rw [outP,if_neg h6,if_pos (.inr h2)])]
    exact sC
  have hO : outP g c pads v k = drvV (qzD g c k) v := by rw [outP,if_neg h6,if_neg (fun q => q.elim h1 h2)]
  have hdk := hdv k hkn
  rw [drvV] at hO
  refine ⟨by omega,by omega,?_⟩
  rw [hdr k hkn]
  refine qrq rfl (fun h7 => ?_) fun h7 => ?_ <;> simp only [e0,e1,hdr k hkn,push_cast,reduceIte,reduceEqDiff,reduceAdd,reduceSub,reduceMul,Nat.reduceBEq,reduceLT,reduceLeDiff,reduceCtorEq,reduceToNat,reduceNeg]
  ·rw [if_pos (by omega)] at hO
   refine ⟨by omega,by omega,by omega,by omega,by omega,by omega,by omega,_,?_,k + 1,by omega,rfl,?_⟩
   ·omega
   ·rw [qCF hkn hO]
    exact sC
  ·rw [if_neg (by omega)] at hO
   refine ⟨by omega,by omega,by omega,_,?_,k + 1,by omega,rfl,?_⟩
   ·omega
   ·rw [qCF hkn hO]
    exact sC
 ·have hkn : k = n := by omega
  subst hkn
  rw [qCH g c s pads v]
  refine qoH (fun m st => ∃ t : Nat,t <= g.kind.length /\ m = g.kind.length - t /\ st = ⟨[(0,.iptr false (arrC false c sp fi dr s pads) 0),(1,.sl false 1 (rows qk7 v)),(5,.ptr 5 0),(6,.view 15 0 k),(81,.sl false 1 (ints fi)),(82,.int g.kind.length),(83,.int t)],[(5,qxg)],
   [(15,⟨1,4,rows qk7 (out2 g c s pads v k t)⟩)],[]⟩) g.kind.length ?_ ?_
  ·refine ⟨0,by omega,by omega,?_⟩
   simp only [hfl,push_cast,reduceIte,reduceEqDiff,reduceAdd,reduceSub,reduceMul,Nat.reduceBEq,reduceLT,reduceLeDiff,reduceCtorEq,reduceToNat,reduceNeg]
   try rfl
  rintro m st ⟨t,ht,rfl,rfl⟩
  have hol := qCD g c s pads v k t
  simp only [e0,e1,push_cast,reduceIte,reduceEqDiff,reduceAdd,reduceSub,reduceMul,Nat.reduceBEq,reduceLT,reduceLeDiff,reduceCtorEq,reduceToNat,reduceNeg]
  refine qnR (fun h => ?_) fun h => ?_
  ·have htT : t < g.kind.length := by omega
   obtain ⟨hm,hr⟩ := hc.tile t htT
   have hft := hfi t htT
   have hS := qCL hg c s pads v l1 htT
   have hT := qCd hg htT
   have hE := qC8 hg
   have hP := hg.pads
   have hC : quD g = allI g + 2 * g.pads := rfl
   rw [qCJ hg c s pads v htT,qCK hg c s pads v htT] at hS
   have hpn : (qC3 v (t * qC4 g)).length = 4 := rfl
   have hwh := hg.wh
   have hkd := hg.kind
   have hsl2 : (v.drop (t * qC4 g + 2)).take 4 = qC3 v (t * qC4 g) := qCz (by omega)
   generalize hN : t * qC4 g = N at hft hS hT hpn hsl2
   have hsl3 : List.drop ((N : Int) + 2).toNat (List.take ((N : Int) + 2 + 4).toNat v) = qC3 v N := by
    rw [<- hsl2,show ((N : Int) + 2).toNat = N + 2 by omega,show ((N : Int) + 2 + 4).toNat = N + 6 by omega,List.drop_take,show N + 6 - (N + 2) = 4 by omega]
   have htt : ((t : Int)).toNat = t := Int.toNat_natCast t
   have hL1 : FnEq Tryz.prog 53 [.iptr false (arrC false c sp fi dr s pads) 0,.int t,.sl false 1 (rows qk7 (qC3 v N))] (.bool (qwU (c.tab.getD t 0) (qC3 v N))) := qxb c sp fi dr s pads t (by omega) _ hpn
   have hL2 : FnEq Tryz.prog 54 [.iptr false (arrC false c sp fi dr s pads) 0,.int t] (.bool (qwT s.regs (c.ram.getD t 0 / 8) (c.ram.getD t 0 % 8))) := qxe c sp fi dr s pads t (by omega) (by rw [htt]; exact hr)
   have hL3 : FnEq Tryz.prog 56 [.iptr false (arrC false c sp fi dr s pads) 0,.int t,.sl false 1 (rows qk7 (qC3 v N))] (.bool (ramF s (c.ram.getD t 0) (qC3 v N))) := qxf c sp fi dr s pads t (by omega) (by rw [htt]; exact hr) _ hpn
   refine ⟨by omega,by omega,by omega,by omega,?_⟩
   have hmc : c.mode.getD t 0 = 0 \/ c.mode.getD t 0 = 1 \/ c.mode.getD t 0 = 2 \/ c.mode.getD t 0 = 3 := by omega
   rcases hmc with e | e | e | e
   ·simp only [e,hft,hsl3,push_cast,reduceIte,reduceEqDiff,reduceAdd,reduceSub,reduceMul,Nat.reduceBEq,reduceLT,reduceLeDiff,reduceCtorEq,reduceToNat,reduceNeg]
    rw [qwV,qwW,if_neg (by omega),if_neg (by omega),if_neg (by omega)] at hS
    refine ⟨by omega,by omega,by omega,by omega,by omega,by omega,by kernel_rfl,?_⟩
    refine qro (qxc (.iptr false (arrC false c sp fi dr s pads) 0) (.int t) (.sl false 1 (rows qk7 (qC3 v N)))) sC rfl ?_
    refine sB ?_
    refine ⟨by kernel_rfl,?_⟩
    refine qro (qxd (.iptr false (arrC false c sp fi dr s pads) 0) (.int t)) sC rfl ?_
    refine sB ?_
    refine ⟨by omega,by omega,by omega,by rw [List.length_set]; omega,by omega,_,?_,t + 1,by omega,rfl,?_⟩
    ·omega
    ·rw [show ((N : Int) + 1).toNat = N + 1 by omega,hS]
     exact sC
   ·simp only [e,hft,hsl3,push_cast,reduceIte,reduceEqDiff,reduceAdd,reduceSub,reduceMul,Nat.reduceBEq,reduceLT,reduceLeDiff,reduceCtorEq,reduceToNat,reduceNeg]
    rw [qwV,qwW,if_pos (by omega),if_neg (by omega)] at hS
    refine ⟨by omega,by omega,by omega,by omega,by omega,by omega,by kernel_rfl,?_⟩
    refine qro hL1 sC rfl ?_
    refine sB ?_
    refine ⟨by kernel_rfl,?_⟩
    refine qro (qxd (.iptr false (arrC false c sp fi dr s pads) 0) (.int t)) sC rfl ?_
    refine sB ?_
    refine ⟨by omega,by omega,by omega,by rw [List.length_set]; omega,by omega,_,?_,t + 1,by omega,rfl,?_⟩
    ·omega
    ·rw [show ((N : Int) + 1).toNat = N + 1 by omega,hS]
     exact sC
   ·simp only [e,hft,hsl3,push_cast,reduceIte,reduceEqDiff,reduceAdd,reduceSub,reduceMul,Nat.reduceBEq,reduceLT,reduceLeDiff,reduceCtorEq,reduceToNat,reduceNeg]
    rw [qwV,qwW,if_pos (by omega),if_pos (by omega)] at hS
    refine ⟨by omega,by omega,by omega,by omega,by omega,by omega,by kernel_rfl,?_⟩
    refine qro hL1 sC rfl ?_
    refine sB ?_
    refine ⟨by kernel_rfl,?_⟩
    refine qro hL2 sC rfl ?_
    refine sB ?_
    refine ⟨by omega,by omega,by omega,by rw [List.length_set]; omega,by omega,_,?_,t + 1,by omega,rfl,?_⟩
    ·omega
    ·rw [show ((N : Int) + 1).toNat = N + 1 by omega,hS]
     exact sC
   ·simp only [e,hft,hsl3,push_cast,reduceIte,reduceEqDiff,reduceAdd,reduceSub,reduceMul,Nat.reduceBEq,reduceLT,reduceLeDiff,reduceCtorEq,reduceToNat,reduceNeg]
    rw [qwV,qwW,if_neg (by omega),if_pos (by omega),if_neg (by omega)] at hS
    refine ⟨by omega,by omega,by omega,by omega,by omega,by omega,by kernel_rfl,?_⟩
    refine qro hL3 sC rfl ?_
    refine sB ?_
    refine ⟨by kernel_rfl,?_⟩
    refine qro (qxd (.iptr false (arrC false c sp fi dr s pads) 0) (.int t)) sC rfl ?_
    refine sB ?_
    refine ⟨by omega,by omega,by omega,by rw [List.length_set]; omega,by omega,_,?_,t + 1,by omega,rfl,?_⟩
    ·omega
    ·rw [show ((N : Int) + 1).toNat = N + 1 by omega,hS]
     exact sC
  ·have hte : t = g.kind.length := by omega
   rw [hte,qCI hg c s pads v]
   rw [List.take_of_length_le (by rw [qxm]; omega)]
   exact ⟨fun _ _ => trivial,.refl _⟩
end Go.Proofs.YtdmkfgkmnpohlaaGreat
namespace Go.Proofs.YtdmkfgkmnpohlaaGreat.Txt
open Go Go.Vc
set_option maxRecDepth 100000
def xs27_300_6 : List XO := [⟨0,[],(aO 328 (.mv (.t 305)))⟩,⟨1,[],(aO 329 (.mv (.t 305)))⟩,⟨2,[1],(aO 330 (.nck (.t 329)))⟩,⟨3,[2],(aO 331 (.fa 4 (.t 330)))⟩,⟨4,[3],(aO 332 (.ld false 1 (.t 331)))⟩,⟨5,[],(aO 333 (.ld true 4 (.t 308)))⟩,⟨6,[5],(aO 334 (.bsl 4 125 [zI,zI,zI,zI] 1 [(0,(.t 333))]))⟩,⟨7,[4,6],(aO 335 (.app 4 125 32 (.t 332) (.t 334)))⟩,⟨8,[0,1,2,3,4,5,6,7],(aO 336 (.nck (.t 328)))⟩,⟨9,[0,1,2,3,4,5,6,7,8],(aO 337 (.fa 4 (.t 336)))⟩,⟨10,[0,1,2,3,4,5,6,7,9],(aN (.sto 1 (.t 337) (.t 335)))⟩]
theorem xs27_300_6_all {p : XO -> Prop} : (∀ x ∈ xs27_300_6,p x) ↔ p ⟨0,[],(aO 328 (.mv (.t 305)))⟩ /\ p ⟨1,[],(aO 329 (.mv (.t 305)))⟩ /\ p ⟨2,[1],(aO 330 (.nck (.t 329)))⟩ /\ p ⟨3,[2],(aO 331 (.fa 4 (.t 330)))⟩ /\ p ⟨4,[3],(aO 332 (.ld false 1 (.t 331)))⟩ /\ p ⟨5,[],(aO 333 (.ld true 4 (.t 308)))⟩ /\ p ⟨6,[5],(aO 334 (.bsl 4 125 [zI,zI,zI,zI] 1 [(0,(.t 333))]))⟩ /\ p ⟨7,[4,6],(aO 335 (.app 4 125 32 (.t 332) (.t 334)))⟩ /\ p ⟨8,[0,1,2,3,4,5,6,7],(aO 336 (.nck (.t 328)))⟩ /\ p ⟨9,[0,1,2,3,4,5,6,7,8],(aO 337 (.fa 4 (.t 336)))⟩ /\ p ⟨10,[0,1,2,3,4,5,6,7,9],(aN (.sto 1 (.t 337) (.t 335)))⟩ := by simp only [xs27_300_6,List.forall_mem_cons,List.not_mem_nil,false_implies,implies_true,and_true]
def ac27_300 : AC :=
 (.seq (.reg [300,72,300,301] [
 (aO 302 (.box (.t 300))),(aO 303 (.box (.t 301))),(aO 304 (.mv (.c (.sc (.pointer none)))))])
 (.seq (.reg [300,72,302,303] [
 (aO 311 (.ld true 4 (.t 303))),(aO 312 (.bld [.nil,.nil,.nil,.nil,.nil,.nil,.nil,.nil,.nil,.nil] [(0,4,(.t 311))])),(aO 313 (.box (.t 312))),(aO 305 (.mv (.t 313)))])
 (.seq (.seq (.reg [300,72,302,303,305] [
 (aO 314 (.fa 0 (.t 303))),(aO 315 (.ld false 1 (.t 314))),(aO 316 (.len (.t 315))),(aO 317 (.mv (kI 0)))])
 (.block 0
 (.loop [300,72,302,305,315,316,317]
 (.seq (.reg [300,72,302,305,315,316,317] [
 (aO 318 (.cmp .lss .i64 (.t 317) (.t 316)))])
 (.seq (.cond (.t 318)
 .skip
 (.exit 0))
 (.seq (.block 1
 (.seq (.reg [300,72,302,305,315,316,317] [
 (aO 319 (.mv (.t 317))),(aO 320 (.ixs 1 (.t 315) (.t 317))),(aO 321 (.ld false 1 (.t 320))),(aO 306 (.mv (.t 319))),(aO 307 (.mv (.t 321)))])
 (.seq (.reg [300,72,302,305,306,307,315,316,317] [
 (aO 323 (.ld true 5 (.t 302))),(aO 324 (.mv (.t 306))),(aO 325 (.cal 50 [(.t 323),(.t 324)])),(aO 322 (.mv (.t 325))),(aO 326 (.ext (.t 322) 0)),(aO 327 (.ext (.t 322) 1)),(aO 308 (.alc [zI,zI,zI,zI])),(aN (.sto 4 (.t 308) (.t 326))),(aO 309 (.mv (.t 327)))])
 (.seq (.dra [300,72,302,305,306,307,308,315,316,317] xs27_300_6)
 (.seq (.seq (.reg [300,72,302,305,306,307,308,315,316,317] [
 (aO 338 (.fa 0 (.t 308))),(aO 339 (.ld false 1 (.t 338))),(aO 340 (.cmp .eql .i64 (.t 339) (kI 1)))])
 (.cond (.t 340)
 (.reg [300,72,302,305,306,307,315,316,317] [
 (aO 341 (.mv (.t 305))),(aO 342 (.mv (.t 305))),(aO 343 (.nck (.t 342))),(aO 344 (.fa 5 (.t 343))),(aO 345 (.ld false 1 (.t 344))),(aO 346 (.mv (.t 306))),(aO 347 (.bsl 1 3 [zI] 1 [(0,(.t 346))])),(aO 348 (.app 1 3 8 (.t 345) (.t 347))),(aO 349 (.nck (.t 341))),(aO 350 (.fa 5 (.t 349))),(aN (.sto 1 (.t 350) (.t 348)))])
 .skip))
 (.seq (.reg [300,72,302,305,306,307,315,316,317] [
 (aO 310 (.mv (kI (-1))))])
 (.seq (.seq (.reg [300,72,302,305,306,307,310,315,316,317] [
 (aO 351 (.mv (.t 307))),(aO 352 (.cmp .gtr .i64 (.t 351) (kI 0)))])
 (.cond (.t 352)
 (.reg [300,72,302,305,306,307,315,316,317] [
 (aO 353 (.ld true 5 (.t 302))),(aO 354 (.mv (.t 306))),(aO 355 (.cal 36 [(.t 353),(.t 354)])),(aO 356 (.mv (.t 307))),(aO 357 (.ari .sub true .i64 (.t 356) (kI 1))),(aO 358 (.ixs 1 (.t 355) (.t 357))),(aO 359 (.ld false 1 (.t 358))),(aO 310 (.mv (.t 359)))])
 .skip))
 (.reg [300,72,302,305,310,315,316,317] [
 (aO 360 (.mv (.t 305))),(aO 361 (.mv (.t 305))),(aO 362 (.nck (.t 361))),(aO 363 (.fa 6 (.t 362))),(aO 364 (.ld false 1 (.t 363))),(aO 365 (.mv (.t 310))),(aO 366 (.bsl 1 3 [zI] 1 [(0,(.t 365))])),(aO 367 (.app 1 3 8 (.t 364) (.t 366))),(aO 368 (.nck (.t 360))),(aO 369 (.fa 6 (.t 368))),(aN (.sto 1 (.t 369) (.t 367)))]))))))))
 (.reg [300,72,302,305,315,316,317] [
 (aO 370 (.ari .add true .i64 (.t 317) (kI 1))),(aO 317 (.mv (.t 370)))])))))))
 (.seq (.reg [300,72,305] [
 (aO 371 (.mv (.t 305))),(aO 304 (.mv (.t 371)))])
 .ret))))
def rv27_300 : List RV := [.tmp 304]
theorem ok27_300 : qh0 Tryz.prog 300 ac27_300 rv27_300 Tryz.f27 = true := by kernel_rfl

def ac60_100 : AC :=
 (.seq (.reg [100,22,100,101,102,103] [
 (aO 104 (.box (.t 100))),(aO 105 (.box (.t 101))),(aO 106 (.box (.t 102))),(aO 108 (.mv (.c (.sc (.pointer none)))))])
 (.seq (.reg [100,22,103,104,105,106] [
 (aO 110 (.ld true 5 (.t 104))),(aO 111 (.ld true 4 (.t 105))),(aO 112 (.clm 27 [(.t 110),(.t 111)])),(aO 109 (.mv (.t 112)))])
 (.seq (.reg [100,22,103,106,109] [
 (aO 113 (.mv (.t 109))),(aO 114 (.mv (.t 109))),(aO 115 (.ld true 2 (.t 106))),(aO 116 (.mv (.t 103))),(aO 117 (.nck (.t 113))),(aO 118 (.fa 7 (.t 117))),(aN (.sto 2 (.t 118) (.t 115))),(aO 119 (.nck (.t 114))),(aO 120 (.fa 9 (.t 119))),(aN (.sto 1 (.t 120) (.t 116)))])
 (.seq (.reg [100,22,109] [
 (aO 121 (.mv (.t 109))),(aO 108 (.mv (.t 121)))])
 .ret))))
def rv60_100 : List RV := [.tmp 108]
theorem ok60_100 : qh0 Tryz.prog 100 ac60_100 rv60_100 Tryz.f60 = true := by kernel_rfl

def ac32 : AC :=
 (.seq (.reg [0,15,0,1,2,3] [
 (aO 4 (.box (.t 0))),(aO 5 (.box (.t 1))),(aO 6 (.box (.t 2))),(aO 8 (.mv (.c (.nil))))])
 (.seq (.reg [0,15,3,4,5,6] [
 (aO 9 (.ld true 5 (.t 4))),(aO 10 (.ld true 4 (.t 5))),(aO 11 (.ld true 2 (.t 6))),(aO 12 (.mv (.t 3))),(aO 13 (.clm 60 [(.t 9),(.t 10),(.t 11),(.t 12)])),(aO 14 (.cal 61 [(.t 13)])),(aO 8 (.mv (.t 14)))])
 .ret))
def rv32 : List RV := [.tmp 8]
theorem ok32 : fnOk Tryz.prog ac32 rv32 Tryz.f32 = true := by kernel_rfl

def ac33 : AC :=
 (.seq (.reg [0,20,0,1,2,3,4] [
 (aO 5 (.box (.t 0))),(aO 6 (.box (.t 1))),(aO 7 (.box (.t 2))),(aO 10 (.mv (.c (.sc (.bool false)))))])
 (.seq (.reg [0,20,3,4,5,6,7] [
 (aO 11 (.ld true 5 (.t 5))),(aO 12 (.ld true 4 (.t 6))),(aO 13 (.ld true 2 (.t 7))),(aO 14 (.mv (.t 3))),(aO 15 (.clm 60 [(.t 11),(.t 12),(.t 13),(.t 14)])),(aO 16 (.mv (.t 4))),(aO 17 (.cal 63 [(.t 15),(.t 16)])),(aO 18 (.mv (.t 4))),(aO 19 (.cal 62 [(.t 17),(.t 18)])),(aO 10 (.mv (.t 19)))])
 .ret))
def rv33 : List RV := [.tmp 10]
theorem ok33 : fnOk Tryz.prog ac33 rv33 Tryz.f33 = true := by kernel_rfl

def ac34 : AC :=
 (.seq (.reg [0,18,0,1,2,3,4] [
 (aO 5 (.box (.t 0))),(aO 6 (.box (.t 1))),(aO 7 (.box (.t 2))),(aO 10 (.mv (.c (.nil))))])
 (.seq (.reg [0,18,3,4,5,6,7] [
 (aO 11 (.ld true 5 (.t 5))),(aO 12 (.ld true 4 (.t 6))),(aO 13 (.ld true 2 (.t 7))),(aO 14 (.mv (.t 3))),(aO 15 (.clm 60 [(.t 11),(.t 12),(.t 13),(.t 14)])),(aO 16 (.mv (.t 4))),(aO 17 (.cal 63 [(.t 15),(.t 16)])),(aO 10 (.mv (.t 17)))])
 .ret))
def rv34 : List RV := [.tmp 10]
theorem ok34 : fnOk Tryz.prog ac34 rv34 Tryz.f34 = true := by kernel_rfl
end Go.Proofs.YtdmkfgkmnpohlaaGreat.Txt
namespace Go.Vc
open Go Go.RowKit
def outL (l : List Nat) (i : Nat) : Bool := !inL l i
def qCN (nb na : List Nat) (r : PV) (st : St) : Bool :=
 (st.s.isEmpty && st.m.isEmpty) && (st.b.all (fun x => inL nb x.1 && !x.2.any (PV.to (outL nb) (outL na))) && st.a.all (fun x => inL na x.1)) && !r.toV (outL nb) (outL na)
def qCO (nb na : List Nat) (st : St) : Bool := st.noTo (inL nb) (inL na) && (st.b.all (fun x => !inL nb x.1) && st.a.all (fun x => !inL na x.1))
theorem qCP {α : Type} {l : List (Nat × α)} {i : Nat} {v : α} (h : lk l i = some v) : (i,v) ∈ l := by
 induction l with
 | nil => cases h
 | cons x r ih =>
   obtain ⟨k,u⟩ := x
   simp only [lk] at h
   split at h
   ·rename_i e; cases h; subst e; simp
   ·exact List.mem_cons_of_mem _ (ih h)
theorem qCQ {α : Type} {l r : List (Nat × α)} {i : Nat} {v : α} (h : lk (l ++ r) i = some v) : lk l i = some v \/ lk r i = some v := by
 induction l with
 | nil => exact .inr h
 | cons x l ih =>
   obtain ⟨k,u⟩ := x
   simp only [List.cons_append,lk] at h ⊢
   split at h
   ·rename_i e; rw [if_pos e]; exact .inl h
   ·rename_i e; rw [if_neg e]; exact ih h
section
variable {w0 : World} {Z0 : Zone} {X : Gh} {G : Nat -> Value} {Z : Zone} {L : Lay} {st : St} {w : World}
theorem Inv.join (hM : Mem w0 Z0 X G Z L st w) {w' : World} {Z' : Zone} {L' : Lay} {st' : St} {nb na : List Nat} {r : PV} {X' : Gh} {G' : Nat -> Value} (hX : X'.y = X.y) (hN : Mem w Z X' G' Z' L' st' w') (ho : qCN nb na r st' = true) (hst : qCO nb na st = true) :
  ∃ L2,LSame L' L2 (outL nb) (outL na) /\ Mem w0 Z0 X G Z' L2 ⟨st.s,st.b ++ st'.b,st.a ++ st'.a,st.m⟩ w' := by
 simp only [qCN,qCO,Bool.and_eq_true,List.all_eq_true,Bool.not_eq_true'] at ho hst
 obtain ⟨⟨⟨hs0,hm0⟩,hob,hoa⟩,_⟩ := ho
 obtain ⟨hno,hsb,hsa⟩ := hst
 let L2 : Lay := ⟨fun i => if inL nb i = true then L'.bx i else L.bx i,fun i => if inL na i = true then L'.ab i else L.ab i,fun i => if inL na i = true then L'.ac i else L.ac i,fun i => if inL na i = true then L'.ae i else L.ae i,fun i => if inL na i = true then L'.al i else L.al i,L.yb⟩
 have hyb : ∀ i,L'.yb i = L.yb i := fun i => by rw [hN.yb i,hM.yb i]; exact congrFun hX i
 have l1 : LSame L L2 (inL nb) (inL na) := ⟨fun i hi => by simp [L2,hi],fun i hi => by simp [L2,hi],fun i hi => by simp [L2,hi],fun i hi => by simp [L2,hi],fun i hi => by simp [L2,hi],fun _ _ => rfl⟩
 have l2 : LSame L' L2 (outL nb) (outL na) := ⟨fun i hi => by simp [outL] at hi; simp [L2,hi],fun i hi => by simp [outL] at hi; simp [L2,hi],fun i hi => by simp [outL] at hi; simp [L2,hi],fun i hi => by simp [outL] at hi; simp [L2,hi],fun i hi => by simp [outL] at hi; simp [L2,hi],fun i _ => (hyb i).symm⟩
 refine ⟨L2,l2,?_⟩
 have hmv : Mem w0 Z0 X G Z' L st w' := hM.move hN.z0 hN.zt hN.zn hN.zb hN.below
 have hw : w0.heap.size <= w.heap.size := hM.below.size
 have hk : Kept Z' w' w' := ⟨fun _ _ _ => rfl⟩
 have hz : ∀ p b,Z' p b -> Z' p b := fun _ _ h => h
 have ob : ∀ {i cs},lk st.b i = some cs -> inL nb i = false := fun h => hsb _ (qCP h)
 have oa : ∀ {i A},lk st.a i = some A -> inL na i = false := fun h => hsa _ (qCP h)
 have nB : ∀ {i cs},lk st'.b i = some cs -> inL nb i = true /\ cs.any (PV.to (outL nb) (outL na)) = false := fun h => hob _ (qCP h)
 have nA : ∀ {i A},lk st'.a i = some A -> inL na i = true := fun h => hoa _ (qCP h)
 have obx : ∀ {i cs},lk st.b i = some cs -> L2.bx i = L.bx i := fun h => l1.bx _ (ob h)
 have oax : ∀ {i A},lk st.a i = some A -> L2.ab i = L.ab i := fun h => l1.ab _ (oa h)
 have nbx : ∀ {i cs},lk st'.b i = some cs -> L2.bx i = L'.bx i := fun h => l2.bx _ (by simp [outL,(nB h).1])
 have nax : ∀ {i A},lk st'.a i = some A -> L2.ab i = L'.ab i := fun h => l2.ab _ (by simp [outL,nA h])
 refine ⟨hmv.zt,hmv.z0,hmv.zn,hmv.zb,hmv.below,?_,?_,?_,?_,?_,?_,?_,?_,?_,?_,hmv.oth,hM.yb,hmv.size,hmv.defers,?_⟩
 ·intro i cs hi
  rcases qCQ hi with hi | hi
  ·rw [obx hi]; exact hmv.ownb i cs hi
  ·rw [nbx hi]; exact ⟨Nat.le_trans hw (hN.ownb i cs hi).1,(hN.ownb i cs hi).2⟩
 ·intro i A hi
  rcases qCQ hi with hi | hi
  ·rw [oax hi]; exact hmv.owna i A hi
  ·rw [nax hi]; exact ⟨Nat.le_trans hw (hN.owna i A hi).1,(hN.owna i A hi).2⟩
 ·intro i j x y hi hj he
  rcases qCQ hi with hi | hi <;> rcases qCQ hj with hj | hj
  ·rw [obx hi,obx hj] at he; exact hM.injb i j x y hi hj he
  ·rw [obx hi,nbx hj] at he
   have h1 := (hM.ownb i x hi).2.1; have h2 := (hN.ownb j y hj).1; omega
  ·rw [nbx hi,obx hj] at he
   have h1 := (hN.ownb i x hi).1; have h2 := (hM.ownb j y hj).2.1; omega
  ·rw [nbx hi,nbx hj] at he; exact hN.injb i j x y hi hj he
 ·intro i j x y hi hj he
  rcases qCQ hi with hi | hi <;> rcases qCQ hj with hj | hj
  ·rw [oax hi,oax hj] at he; exact hM.inja i j x y hi hj he
  ·rw [oax hi,nax hj] at he
   have h1 := (hM.owna i x hi).2.1; have h2 := (hN.owna j y hj).1; omega
  ·rw [nax hi,oax hj] at he
   have h1 := (hN.owna i x hi).1; have h2 := (hM.owna j y hj).2.1; omega
  ·rw [nax hi,nax hj] at he; exact hN.inja i j x y hi hj he
 ·intro i j x y hi hj he
  rcases qCQ hi with hi | hi <;> rcases qCQ hj with hj | hj
  ·rw [obx hi,oax hj] at he; exact hM.injx i j x y hi hj he
  ·rw [obx hi,nax hj] at he
   have h1 := (hM.ownb i x hi).2.1; have h2 := (hN.owna j y hj).1; omega
  ·rw [nbx hi,oax hj] at he
   have h1 := (hN.ownb i x hi).1; have h2 := (hM.owna j y hj).2.1; omega
  ·rw [nbx hi,nax hj] at he; exact hN.injx i j x y hi hj he
 ·intro i cs hi
  rcases qCQ hi with hi | hi
  ·exact (hmv.boxes i cs hi).keep hk hz rfl l1 (ob hi) (St.noTo_box hno hi)
  ·exact (hN.boxes i cs hi).keep hk hz rfl l2 (by simp [outL,(nB hi).1]) (nB hi).2
 ·intro i A hi
  rcases qCQ hi with hi | hi
  ·obtain ⟨cur,hx⟩ := hmv.arrs i A hi
   exact ⟨cur,hx.keep hk hz rfl l1 (oa hi)⟩
  ·obtain ⟨cur,hx⟩ := hN.arrs i A hi
   exact ⟨cur,hx.keep hk hz rfl l2 (by simp [outL,nA hi])⟩
 ·intro i M hi
  rw [show L2.bx i = L.bx i from l1.bx i (St.noTo_map hno hi).1]
  exact hmv.ownm i M hi
 ·intro i j x y hi hj he
  rw [show L2.bx i = L.bx i from l1.bx i (St.noTo_map hno hi).1,show L2.bx j = L.bx j from l1.bx j (St.noTo_map hno hj).1] at he
  exact hM.injm i j x y hi hj he
 ·intro i M hi
  obtain ⟨ents,clock,hR⟩ := hmv.maps i M hi
  refine ⟨ents,clock,hR.keep hk hz rfl (fun j x y e => ⟨rfl,?_⟩) l1 (St.noTo_map hno hi).1 (St.noTo_map hno hi).2⟩
  have hit := hR.it
  rw [e] at hit
  obtain ⟨seen,_,_,h3,_⟩ := hit
  exact h3
 ·intro i v hi
  exact (hmv.slots i v hi).keep hk hz l1 (St.noTo_slot hno hi)
end
theorem FnM.fresh {E : Env} {f : Nat} {args : List PV} {st : St} {Q0 : PV -> St -> Prop} (nb na : List Nat) (hp : args.all qbO = true) (hst : qCO nb na st = true) (ho : ∀ r st', Q0 r st' -> qCN nb na r st' = true)
  (h : FnM (Env.of E.p) f args ⟨[],[],[],[]⟩ Q0) : FnM E f args st fun r st' => ∃ st0,Q0 r st0 /\ st' = ⟨st.s,st.b ++ st0.b,st.a ++ st0.a,st.m⟩ := by
 refine ⟨h.1,fun w0 Z0 X G Z L w vs hE hM hA => ?_⟩
 have hin : Mem w Z ⟨[],X.y⟩ (fun _ => undef) Z { L00 with yb := X.y } ⟨[],[],[],[]⟩ w := by
  refine ⟨hM.zt,fun _ _ h => h,fun _ _ h => .inl h,hM.zb,Below.refl _ _,?_,?_,?_,?_,?_,?_,?_,?_,?_,?_,fun x hx => (by cases hx),fun _ => rfl,rfl,fun _ e => (by cases e),fun i v hl => (by cases hl)⟩
  all_goals (intros; rename_i hl _; first | (cases hl; done) | skip)
  all_goals (simp [lk] at *)
 have hargs : ArgsR w Z { L00 with yb := X.y } args vs := ⟨hA.1,fun j c hj => by
  have := List.all_eq_true.1 hp c (List.mem_of_getElem? hj)
  exact qbr (qck (hA.2 j c hj) this)⟩
 refine (h.2 w Z ⟨[],X.y⟩ (fun _ => undef) Z { L00 with yb := X.y } w vs (EnvOK.of E.p w Z ⟨[],X.y⟩ fun _ => undef) hin hargs).mono ?_
 rintro e w' ⟨v,r,st',Z',L',rfl,hq,hN,hr⟩
 have hoo := ho r st' hq
 obtain ⟨L2,l2,hJ⟩ := hM.join (X' := ⟨[],X.y⟩) rfl hN hoo hst
 refine ⟨v,r,_,Z',L2,rfl,⟨st',hq,rfl⟩,hJ,hr.keep ⟨fun _ _ _ => rfl⟩ (fun _ _ h => h) l2 ?_⟩
 simp only [qCN,Bool.and_eq_true,Bool.not_eq_true'] at hoo
 exact hoo.2
theorem qCR {P : Env} {d : Option Nat} {f : Nat} {args : List PV} {r : List AO} {st : St} {K : St -> Prop} {v : PV} {b' : List (Nat × List PV)} {a' : List (Nat × Arr)} (nb na : List Nat)
  (h : FnM (Env.of P.p) f args ⟨[],[],[],[]⟩ fun rv st' => rv = v /\ st' = ⟨[],b',a',[]⟩) (hp : args.all qbO = true) (hst : qCO nb na st = true) (ho : qCN nb na v ⟨[],b',a',[]⟩ = true)
  (hk : opsK P r ((⟨st.s,st.b ++ b',st.a ++ a',st.m⟩ : St).put d v) K) : clmK P d f args r st K := by
 refine qss (FnM.fresh nb na hp hst (fun rv st' h => ?_) h) ?_
 ·obtain ⟨rfl,rfl⟩ := h; exact ho
 ·rintro rv st' ⟨st0,⟨rfl,rfl⟩,rfl⟩
  exact hk
end Go.Vc
namespace Go.Proofs.YtdmkfgkmnpohlaaGreat
open Go Go.Vc Txt
def opV (c : Cfg) (a b d : PV) : List PV := cfgC false c ++ [a,b,d,.nil,.nil,.nil]
@[push_cast] theorem qCS (c : Cfg) (a b d : PV) : opV c a b d = [.sl false 1 (ints c.sel),.sl false 1 (ints c.mode),.sl false 1 (ints c.tab),.sl false 1 (ints c.ram),a,b,d,.nil,.nil,.nil] := rfl
def apS (n k s : Int) (c : Cfg) : List (Nat × PV) := [(302,.ptr 302 0),(305,.ptr 313 0),(306,.int k),(307,.int s),(308,.ptr 308 0),(315,.sl false 1 (ints c.sel)),(316,.int n),(317,.int k)]
@[push_cast] theorem qCT (n k s : Int) (c : Cfg) : apS n k s c = [(302,.ptr 302 0),(305,.ptr 313 0),(306,.int k),(307,.int s),(308,.ptr 308 0),(315,.sl false 1 (ints c.sel)),(316,.int n),(317,.int k)] := rfl
set_option maxHeartbeats 40000000 in
set_option maxRecDepth 20000 in
theorem qCU (g : Grid) (c : Cfg) (n k s : Int) (d : Spot) (Q : St -> Prop)
  (hfin : Q ⟨apS n k s c ++ [(328,.ptr 313 0),(329,.ptr 313 0),(330,.ptr 313 0),(331,.ptr 313 4),(332,.nil),(333,.agg (quz d)),(334,.view 334 0 1),(335,.view 335 0 1),(336,.ptr 313 0),(337,.ptr 313 4)],[(302,quy false g),(308,quz d),(313,opV c (.view 335 0 1) .nil .nil)],[(334,⟨4,125,[quz d]⟩),(335,⟨4,125,[quz d]⟩)],[]⟩) :
  allK (Env.of Tryz.prog) xs27_300_6 11 [] ⟨apS n k s c,[(302,quy false g),(308,quz d),(313,opV c .nil .nil .nil)],[],[]⟩ Q := by
 simp only [List.cons_append,List.nil_append,push_cast,reduceIte,reduceEqDiff,reduceAdd,reduceSub,reduceMul,Nat.reduceBEq,reduceLT,reduceLeDiff,reduceCtorEq,reduceToNat,reduceNeg] at hfin ⊢
 repeat' (first
  | exact hfin
  | (with_reducible refine qwu ?_ ?_)
  | (refine (?_ : qcJ _ _ = true); rfl)
  | (refine (?_ : qcJ _ _ = false); rfl)
  | (refine (?_ : List.all _ _ = true); rfl)
  | (with_reducible refine qwv ?_ ?_ ?_; rotate_left 2; rw [xs27_300_6_all]; simp only [rdyB,List.contains_cons,List.contains_nil,List.all_cons,List.all_nil,Nat.reduceBEq,Bool.not_true,Bool.not_false,Bool.or_false,Bool.or_true,Bool.and_true,Bool.and_false,Bool.true_and,Bool.false_and,Bool.false_or,Bool.true_or,beq_self_eq_true,Bool.false_eq_true,true_implies,false_implies,true_and,and_true]; simp only [push_cast,reduceIte,reduceEqDiff,reduceAdd,reduceSub,reduceMul,Nat.reduceBEq,reduceLT,reduceLeDiff,reduceCtorEq,reduceToNat,reduceNeg])
  | (refine And.intro ?_ ?_)
  | omega)
set_option maxHeartbeats 40000000 in
set_option maxRecDepth 20000 in
theorem qCV (g : Grid) (c : Cfg) (n k s : Int) (d : Spot) (L : List Spot) (m mf : Nat) (fi dr : List Int) (hm : m = L.length) (hb : (m + 1) * 32 <= 140737488355328) (Q : St -> Prop)
  (hfin : Q ⟨apS n k s c ++ [(328,.ptr 313 0),(329,.ptr 313 0),(330,.ptr 313 0),(331,.ptr 313 4),(332,.bot),(333,.agg (quz d)),(334,.view 334 0 1),(335,.view 335 0 (m + 1)),(336,.ptr 313 0),(337,.ptr 313 4)],[(302,quy false g),(308,quz d),(313,opV c (.view 335 0 (m + 1)) (.view 348 0 mf) (.view 367 0 m))],[(334,⟨4,125,[quz d]⟩),(335,⟨4,125,rows quz L ++ [quz d]⟩),(348,⟨1,3,ints fi⟩),(367,⟨1,3,ints dr⟩)],[]⟩) :
  allK (Env.of Tryz.prog) xs27_300_6 11 [] ⟨apS n k s c,[(302,quy false g),(308,quz d),(313,opV c (.view 335 0 m) (.view 348 0 mf) (.view 367 0 m))],[(335,⟨4,125,rows quz L⟩),(348,⟨1,3,ints fi⟩),(367,⟨1,3,ints dr⟩)],[]⟩ Q := by
 simp only [List.cons_append,List.nil_append,push_cast,reduceIte,reduceEqDiff,reduceAdd,reduceSub,reduceMul,Nat.reduceBEq,reduceLT,reduceLeDiff,reduceCtorEq,reduceToNat,reduceNeg] at hfin ⊢
 repeat' (first
  | exact hfin
  | (with_reducible refine qwu ?_ ?_)
  | (refine (?_ : qcJ _ _ = true); rfl)
  | (refine (?_ : qcJ _ _ = false); rfl)
  | (refine (?_ : List.all _ _ = true); rfl)
  | (with_reducible refine qwv ?_ ?_ ?_; rotate_left 2; rw [xs27_300_6_all]; simp only [rdyB,List.contains_cons,List.contains_nil,List.all_cons,List.all_nil,Nat.reduceBEq,Bool.not_true,Bool.not_false,Bool.or_false,Bool.or_true,Bool.and_true,Bool.and_false,Bool.true_and,Bool.false_and,Bool.false_or,Bool.true_or,beq_self_eq_true,Bool.false_eq_true,true_implies,false_implies,true_and,and_true]; simp only [push_cast,reduceIte,reduceEqDiff,reduceAdd,reduceSub,reduceMul,Nat.reduceBEq,reduceLT,reduceLeDiff,reduceCtorEq,reduceToNat,reduceNeg])
  | (refine And.intro ?_ ?_)
  | omega)
theorem qCW {α : Type} (n : Nat) (f : Nat -> α) : ((List.range n).map f).length = n := by simp
def opA (g : Grid) (c : Cfg) (k : Nat) : List (Nat × Arr) := [(335,⟨4,125,rows quz (qCr g k)⟩),(348,⟨1,3,ints (qCt g k)⟩),(367,⟨1,3,ints (qCs g c k)⟩)]
@[push_cast] theorem qCY (g : Grid) (c : Cfg) (k : Nat) : opA g c k = [(335,⟨4,125,rows quz (qCr g k)⟩),(348,⟨1,3,ints (qCt g k)⟩),(367,⟨1,3,ints (qCs g c k)⟩)] := rfl
def opS (g : Grid) (c : Cfg) : Nat -> St
 | 0 => ⟨[(302,.ptr 302 0),(305,.ptr 313 0),(315,.sl false 1 (ints c.sel)),(316,.int c.sel.length),(317,.int 0)],[(302,quy false g),(313,opV c .nil .nil .nil)],[],[]⟩
 | k + 1 => ⟨[(302,.ptr 302 0),(305,.ptr 313 0),(315,.sl false 1 (ints c.sel)),(316,.int c.sel.length),(317,.int (k + 1 : Nat))],[(302,quy false g),(313,opV c (.view 335 0 (k + 1)) (.view 348 0 (qCt g (k + 1)).length) (.view 367 0 (k + 1)))],opA g c (k + 1),[]⟩
set_option maxHeartbeats 8000000 in
theorem qCZ (g : Grid) (hg : GOk g) (c : Cfg) (hc : CfgG g c) : FnM (Env.of Tryz.prog) 27 [.agg (quy false g), .agg (cfgC false c)] ⟨[], [], [], []⟩
  (fun rv st' => rv = .ptr 313 0 /\ st' = ⟨[],[(313,opV c (.view 335 0 c.sel.length) (.view 348 0 g.kind.length) (.view 367 0 c.sel.length))],opA g c c.sel.length,[]⟩) := by
 have e0 : ∀ (l : List Int) (j : Nat),l.getD j default = l.getD j 0 := fun _ _ => rfl
 have hcn := hg.count
 obtain ⟨l1,l2,l3,l4⟩ := hc.ln
 have hF : qCt g c.sel.length = (List.range g.kind.length).map fun k => ((k * qC4 g : Nat) : Int) := by rw [l1]; exact qCw hg
 have key : FnM (Env.of Tryz.prog) 27 [.agg (quy false g),.agg (cfgC false c)] ⟨[],[],[],[]⟩
  (fun rv st' => rv = .ptr 313 0 /\ st'.onlyB [313] = ⟨[],[(313,opV c (.view 335 0 c.sel.length) (.view 348 0 g.kind.length) (.view 367 0 c.sel.length))],opA g c c.sel.length,[]⟩) := by
  refine qtT 300 Tryz.func27 ok27_300 (by show 2 <= _; decide) rfl (by decide) ?_
  simp only [ac27_300,rv27_300,push_cast,reduceIte,reduceEqDiff,reduceAdd,reduceSub,reduceMul,Nat.reduceBEq,reduceLT,reduceLeDiff,reduceCtorEq,reduceToNat,reduceNeg]
  refine qoH (fun m st => ∃ k : Nat,k <= c.sel.length /\ m = c.sel.length - k /\ st = opS g c k) c.sel.length ?_ ?_
  ·refine ⟨0,by omega,by omega,?_⟩
   simp only [opS,push_cast,reduceIte,reduceEqDiff,reduceAdd,reduceSub,reduceMul,Nat.reduceBEq,reduceLT,reduceLeDiff,reduceCtorEq,reduceToNat,reduceNeg]
   done
  rintro m st ⟨k,hk,rfl,rfl⟩
  have hD := quM g hg k (by omega)
  have hS : ∀ j,qCr g (j + 1) = qCr g j ++ [quJ g (j : Int)] := fun j => qze _ j
  have hV : ∀ j,qCs g c (j + 1) = qCs g c j ++ [qzD g c (j : Int)] := fun j => qze _ j
  have hI : ∀ j,qCt g (j + 1) = qCt g j ++ if (quJ g (j : Int)).kind = 1 then [(j : Int)] else [] := fun j => by simp only [qCt,idxF,decide_eq_true_eq]
  cases k with
  | zero =>
    have hD0 := quM g hg 0 (by omega)
    have hR0 : quK g 0 = (quJ g 0,0) := by rw [quK,if_neg (by omega)]
    have h0 : (quJ g 0).kind = 1 := (qC9 hg 0).2 ⟨by have := hg.all; omega,by simp⟩
    rw [hR0] at hD0
    simp only [opS,push_cast,reduceIte,reduceEqDiff,reduceAdd,reduceSub,reduceMul,Nat.reduceBEq,reduceLT,reduceLeDiff,reduceCtorEq,reduceToNat,reduceNeg]
    refine qnR (fun h => ?_) fun h => absurd (by omega) h
    refine ⟨by omega,by omega,?_⟩
    refine qrm hD0 sC ?_
    simp only [quL,push_cast,reduceIte,reduceEqDiff,reduceAdd,reduceSub,reduceMul,Nat.reduceBEq,reduceLT,reduceLeDiff,reduceCtorEq,reduceToNat,reduceNeg]
    generalize hQ : Exit.thn _ _ _ = Q
    refine qCU g c (c.sel.length : Int) 0 (c.sel.getD 0 0) (quJ g 0) Q ?_
    subst hQ
    have hs0 : c.sel.getD 0 0 = 0 := qzF hc.sels (n := 0) (by omega) (qCh hg (by omega) (.inl h0))
    have hd0 : qzD g c 0 = -1 := by rw [qzD]; exact if_pos (.inl hs0)
    have S1 : qCr g 1 = [quJ g 0] := rfl
    have F1 : qCt g 1 = [0] := by simp [qCt,idxF,h0]
    have D1 : qCs g c 1 = [-1] := by simp [qCs,hd0]
    simp only [List.cons_append,List.nil_append,quY,hs0,push_cast,reduceIte,reduceEqDiff,reduceAdd,reduceSub,reduceMul,Nat.reduceBEq,reduceLT,reduceLeDiff,reduceCtorEq,reduceToNat,reduceNeg]
    refine qnR (fun _ => ?_) fun e => absurd h0 e
    refine ⟨by simp,?_⟩
    refine qnR (fun e => absurd e (by omega)) fun _ => ?_
    refine ⟨by simp,by omega,_,?_,0 + 1,by omega,rfl,?_⟩
    ·omega
    ·simp only [S1,F1,D1,push_cast,reduceIte,reduceEqDiff,reduceAdd,reduceSub,reduceMul,Nat.reduceBEq,reduceLT,reduceLeDiff,reduceCtorEq,reduceToNat,reduceNeg]
     try rfl
  | succ k =>
    have hR : ∀ j : Nat,j < c.sel.length -> quK g j = (quJ g j,0) := fun j hj => by rw [quK,if_neg (by omega)]
    have hk1 : ((k : Int) + 1).toNat = k + 1 := by omega
    simp only [opS,hk1,e0,push_cast,reduceIte,reduceEqDiff,reduceAdd,reduceSub,reduceMul,Nat.reduceBEq,reduceLT,reduceLeDiff,reduceCtorEq,reduceToNat,reduceNeg]
    refine qnR (fun h => ?_) fun h => ?_
    ·rw [hR _ (by omega)] at hD
     rw [show ((k + 1 : Nat) : Int) = (k : Int) + 1 from rfl] at hD
     refine ⟨by omega,by omega,?_⟩
     refine qrm hD sC ?_
     simp only [quL,push_cast,reduceIte,reduceEqDiff,reduceAdd,reduceSub,reduceMul,Nat.reduceBEq,reduceLT,reduceLeDiff,reduceCtorEq,reduceToNat,reduceNeg]
     generalize hQ : Exit.thn _ _ _ = Q
     refine qCV g c (c.sel.length : Int) ((k : Int) + 1) (c.sel.getD (k + 1) 0) (quJ g ((k : Int) + 1)) (qCr g (k + 1)) (k + 1) (qCt g (k + 1)).length (qCt g (k + 1)) (qCs g c (k + 1)) (by simp [qCr]) (by omega) Q ?_
     subst hQ
     simp only [List.cons_append,List.nil_append,push_cast,reduceIte,reduceEqDiff,reduceAdd,reduceSub,reduceMul,Nat.reduceBEq,reduceLT,reduceLeDiff,reduceCtorEq,reduceToNat,reduceNeg]
     have hfl : (qCt g (k + 1)).length <= k + 1 := qyJ _ _
     have hF1 := hI (k + 1)
     have hV1 := hV (k + 1)
     have hS1 := hS (k + 1)
     have hI1 : ((k + 1 : Nat) : Int) = (k : Int) + 1 := rfl
     rw [hI1] at hF1 hV1 hS1
     refine qnR (fun h1 => ?_) fun h1 => ?_
     ·rw [if_pos h1] at hF1
      refine ⟨by simp,⟨by omega,by omega⟩,?_⟩
      have hb1 : (qCs g c (k + 1)).length = k + 1 := qCW _ _
      refine qnR (fun h2 => ?_) fun h2 => ?_
      ·have hDr := qvQ g hg ((k : Int) + 1) (by omega)
       have hsd := qzE hg hc.sels (n := (k : Int) + 1) (by omega) (by rw [hk1]; omega)
       have hsa := hc.sels.sel (k + 1) (by omega) (by omega)
       rw [hI1] at hsa
       rw [hk1] at hsd
       refine qrm hDr sC ?_
       simp only [e0,push_cast,reduceIte,reduceEqDiff,reduceAdd,reduceSub,reduceMul,Nat.reduceBEq,reduceLT,reduceLeDiff,reduceCtorEq,reduceToNat,reduceNeg]
       have hdl := qy5 g hg ((k : Int) + 1)
       refine ⟨by omega,by omega,by omega,?_⟩
       rw [<- hsd.1]
       refine ⟨by simp,⟨by omega,by omega,by omega⟩,by omega,_,?_,k + 1 + 1,by omega,rfl,?_⟩
       ·omega
       ·simp only [hF1,hV1,hS1,List.length_append,List.length_cons,List.length_nil,List.map_append,rows,push_cast,reduceIte,reduceEqDiff,reduceAdd,reduceSub,reduceMul,Nat.reduceBEq,reduceLT,reduceLeDiff,reduceCtorEq,reduceToNat,reduceNeg]
        rfl
        done
      ·have hd1 : qzD g c ((k : Int) + 1) = -1 := by
        rw [qzD,hk1]
        have h3 : c.sel.getD (k + 1) 0 = 0 := Classical.byContradiction fun q => by have := hc.sels.sel (k + 1) (by omega) q; omega
        exact if_pos (.inl (by omega))
       refine ⟨by simp,⟨by omega,by omega,by omega⟩,by omega,_,?_,k + 1 + 1,by omega,rfl,?_⟩
       ·omega
       ·simp only [hF1,hV1,hS1,hd1,List.length_append,List.length_cons,List.length_nil,List.map_append,rows,push_cast,reduceIte,reduceEqDiff,reduceAdd,reduceSub,reduceMul,Nat.reduceBEq,reduceLT,reduceLeDiff,reduceCtorEq,reduceToNat,reduceNeg]
        rfl
     ·rw [if_neg h1] at hF1
      have hb1 : (qCs g c (k + 1)).length = k + 1 := qCW _ _
      refine qnR (fun h2 => ?_) fun h2 => ?_
      ·have hDr := qvQ g hg ((k : Int) + 1) (by omega)
       have hsd := qzE hg hc.sels (n := (k : Int) + 1) (by omega) (by rw [hk1]; omega)
       have hsa := hc.sels.sel (k + 1) (by omega) (by omega)
       rw [hI1] at hsa
       rw [hk1] at hsd
       refine qrm hDr sC ?_
       simp only [e0,push_cast,reduceIte,reduceEqDiff,reduceAdd,reduceSub,reduceMul,Nat.reduceBEq,reduceLT,reduceLeDiff,reduceCtorEq,reduceToNat,reduceNeg]
       have hdl := qy5 g hg ((k : Int) + 1)
       refine ⟨by omega,by omega,by omega,?_⟩
       rw [<- hsd.1]
       refine ⟨by simp,⟨by omega,by omega,by omega⟩,by omega,_,?_,k + 1 + 1,by omega,rfl,?_⟩
       ·omega
       ·simp only [hF1,hV1,hS1,List.length_append,List.length_cons,List.length_nil,List.map_append,rows,push_cast,reduceIte,reduceEqDiff,reduceAdd,reduceSub,reduceMul,Nat.reduceBEq,reduceLT,reduceLeDiff,reduceCtorEq,reduceToNat,reduceNeg]
        rfl
        done
      ·have hd1 : qzD g c ((k : Int) + 1) = -1 := by
        rw [qzD,hk1]
        have h3 : c.sel.getD (k + 1) 0 = 0 := Classical.byContradiction fun q => by have := hc.sels.sel (k + 1) (by omega) q; omega
        exact if_pos (.inl (by omega))
       refine ⟨by simp,⟨by omega,by omega,by omega⟩,by omega,_,?_,k + 1 + 1,by omega,rfl,?_⟩
       ·omega
       ·simp only [hF1,hV1,hS1,hd1,List.length_append,List.length_cons,List.length_nil,List.map_append,rows,push_cast,reduceIte,reduceEqDiff,reduceAdd,reduceSub,reduceMul,Nat.reduceBEq,reduceLT,reduceLeDiff,reduceCtorEq,reduceToNat,reduceNeg]
        rfl
    ·have hkn : k + 1 = c.sel.length := by omega
     rw [hkn,hF]
     simp only [qCW,push_cast,reduceIte,reduceEqDiff,reduceAdd,reduceSub,reduceMul,Nat.reduceBEq,reduceLT,reduceLeDiff,reduceCtorEq,reduceToNat,reduceNeg]
     exact rfl
 refine FnM.mono (FnM.postB (fun _ => [313]) key) ?_
 rintro rv _ ⟨st1,⟨h1,h2⟩,rfl⟩
 exact ⟨h1,h2⟩
end Go.Proofs.YtdmkfgkmnpohlaaGreat
namespace Go.Proofs.YtdmkfgkmnpohlaaGreat.Txt
open Go Go.Vc
set_option maxRecDepth 100000
def ac61 : AC :=
 (.seq (.reg [0,27,0] [
 (aO 2 (.mv (.c (.nil))))])
 (.seq (.reg [0,27,0] [
 (aO 5 (.mv (.t 0))),(aO 6 (.nck (.t 5))),(aO 7 (.fa 4 (.t 6))),(aO 8 (.ld false 1 (.t 7))),(aO 9 (.len (.t 8))),(aO 10 (.mks 1 4 1 [.sc (.bool false)] (.t 9) (.t 9))),(aO 3 (.mv (.t 10)))])
 (.seq (.seq (.frz [3] (.wk (.reg [0,27,0,3] [
 (aO 11 (.mv (.t 0))),(aO 12 (.nck (.t 11))),(aO 13 (.fa 4 (.t 12))),(aO 14 (.ld false 1 (.t 13))),(aO 15 (.len (.t 14))),(aO 16 (.mv (kI 0)))])))
 (.block 0
 (.loop [0,27,0,3,15,16]
 (.seq (.reg [0,27,0,3,15,16] [
 (aO 17 (.cmp .lss .i64 (.t 16) (.t 15)))])
 (.seq (.cond (.t 17)
 .skip
 (.exit 0))
 (.seq (.block 1
 (.seq (.reg [0,27,0,3,15,16] [
 (aO 18 (.mv (.t 0))),(aO 19 (.mv (.t 3))),(aO 20 (.cal 63 [(.t 18),(.t 19)])),(aO 4 (.mv (.t 20)))])
 (.seq (.seq (.reg [0,27,0,3,4,15,16] [
 (aO 21 (.mv (.t 4))),(aO 22 (.mv (.t 3))),(aO 23 (.cal 62 [(.t 21),(.t 22)]))])
 (.cond (.t 23)
 (.exit 0)
 .skip))
 (.reg [0,27,0,4,15,16] [
 (aO 24 (.mv (.t 4))),(aO 3 (.mv (.t 24)))]))))
 (.reg [0,27,0,3,15,16] [
 (aO 25 (.ari .add true .i64 (.t 16) (kI 1))),(aO 16 (.mv (.t 25)))])))))))
 (.seq (.reg [0,27,3] [
 (aO 26 (.mv (.t 3))),(aO 2 (.mv (.t 26)))])
 .ret))))
def rv61 : List RV := [.tmp 2]
theorem ok61 : fnOk Tryz.prog ac61 rv61 Tryz.f61 = true := by kernel_rfl
end Go.Proofs.YtdmkfgkmnpohlaaGreat.Txt
namespace Go.Proofs.YtdmkfgkmnpohlaaGreat
open Go Go.Vc Txt
theorem qD0 {R : List Bool -> Nat -> Bool} {n : Nat} {v : List Bool} (h : v.length = n) (k : Nat) : (qxl R n k v).length = n := by rw [qxq]; exact qxn R n k v h
set_option maxHeartbeats 4000000 in
theorem qD1 (g : Grid) (hg : GOk g) (c : Cfg) (hc : CfgG g c) (s : PSt) (pads : List Bool) :
  FnEq Tryz.prog 61 [.iptr false (arrC false c (qCr g c.sel.length) (qCt g c.sel.length) (qCs g c c.sel.length) s pads) 0]
   (.sl true 1 (rows qk7 (qxl (rndF g c s pads) c.sel.length c.sel.length (List.replicate c.sel.length false)))) := by
 have hcn := hg.count
 have l1 := hc.ln.1
 have hR := qCM g hg c hc s pads
 have hsl : (qCr g c.sel.length).length = c.sel.length := by simp [qCr]
 generalize qCr g c.sel.length = sp at *
 generalize qCs g c c.sel.length = dr at *
 generalize qCt g c.sel.length = fi at *
 refine FnEq.of_awp Tryz.func61 ok61 (by show 1 <= _; decide) (by simp only [push_cast,reduceIte,reduceEqDiff,reduceAdd,reduceSub,reduceMul,Nat.reduceBEq,reduceLT,reduceLeDiff,reduceCtorEq,reduceToNat,reduceNeg] <;> first | exact fun _ _ => trivial | simp) ?_
 simp only [ac61,rv61,push_cast,reduceIte,reduceEqDiff,reduceAdd,reduceSub,reduceMul,Nat.reduceBEq,reduceLT,reduceLeDiff,reduceCtorEq,reduceToNat,reduceNeg]
 refine ⟨by omega,qr1 _ (Wk.refl _) ?_⟩
 refine sB ?_
 generalize hZ : qxl (rndF g c s pads) c.sel.length c.sel.length (List.replicate c.sel.length false) = z
 refine qoH (fun m st => ∃ (k : Nat) (v : List Bool),k <= c.sel.length /\ m = c.sel.length - k /\ v.length = c.sel.length /\ qxl (rndF g c s pads) c.sel.length (c.sel.length - k) v = z /\
  st = ⟨[(0,.iptr false (arrC false c sp fi dr s pads) 0),(3,.sl true 1 (rows qk7 v)),(15,.int c.sel.length),(16,.int k)],[],[],[]⟩) c.sel.length ?_ ?_
 ·refine ⟨0,List.replicate c.sel.length false,by omega,by omega,by simp,hZ,?_⟩
  rw [hsl]
  simp only [push_cast,reduceIte,reduceEqDiff,reduceAdd,reduceSub,reduceMul,Nat.reduceBEq,reduceLT,reduceLeDiff,reduceCtorEq,reduceToNat,reduceNeg]
  try rfl
 rintro m st ⟨k,v,hk,rfl,hv,hz,rfl⟩
 refine sB ?_
 refine qnR (fun h => ?_) fun h => ?_
 ·have hS : c.sel.length - k = (c.sel.length - (k + 1)) + 1 := by omega
  rw [hS,qxl] at hz
  have hl := qxm (rndF g c s pads) c.sel.length v
  refine qrm (hR v hv) sC ?_
  generalize qxj (rndF g c s pads) c.sel.length v = w at *
  refine sB ?_
  refine qrm (qx6 w v (by omega)) sC ?_
  refine sB ?_
  refine qnQ (fun e => ?_) fun e => ?_
  ·rw [if_pos (of_decide_eq_true e)] at hz
   subst hz
   exact ⟨fun _ _ => trivial,.refl _⟩
  ·rw [if_neg (of_decide_eq_false e)] at hz
   refine ⟨by omega,_,?_,k + 1,w,by omega,rfl,by omega,hz,rfl⟩
   omega
 ·have hkn : k = c.sel.length := by omega
  rw [hkn,Nat.sub_self,qxl] at hz
  subst hz
  exact ⟨fun _ _ => trivial,.refl _⟩
def opW (c : Cfg) (s : PSt) (pads : List Bool) (a b d : PV) : List PV := cfgC false c ++ [a,b,d] ++ pstC false s ++ [.sl false 1 (rows qk7 pads)]
@[push_cast] theorem qD2 (c : Cfg) (s : PSt) (pads : List Bool) (a b d : PV) : opW c s pads a b d = [.sl false 1 (ints c.sel),.sl false 1 (ints c.mode),.sl false 1 (ints c.tab),.sl false 1 (ints c.ram),a,b,d,.sl false 1 (ints s.regs),.sl false 1 (rows (memC false) s.mems),.sl false 1 (rows qk7 pads)] := rfl
set_option maxHeartbeats 4000000 in
theorem qD3 (g : Grid) (hg : GOk g) (c : Cfg) (hc : CfgG g c) (s : PSt) (pads : List Bool) : FnM (Env.of Tryz.prog) 60 [.agg (quy false g), .agg (cfgC false c), .agg (pstC false s), .sl false 1 (rows qk7 pads)] ⟨[], [], [], []⟩
  (fun rv st' => rv = .ptr 313 0 /\ st' = ⟨[],[(313,opW c s pads (.view 335 0 c.sel.length) (.view 348 0 g.kind.length) (.view 367 0 c.sel.length))],opA g c c.sel.length,[]⟩) := by
 have key : FnM (Env.of Tryz.prog) 60 [.agg (quy false g),.agg (cfgC false c),.agg (pstC false s),.sl false 1 (rows qk7 pads)] ⟨[],[],[],[]⟩
  (fun rv st' => rv = .ptr 313 0 /\ st'.onlyB [313] = ⟨[],[(313,opW c s pads (.view 335 0 c.sel.length) (.view 348 0 g.kind.length) (.view 367 0 c.sel.length))],opA g c c.sel.length,[]⟩) := by
  refine qtT 100 Tryz.func60 ok60_100 (by show 4 <= _; decide) rfl (by decide) ?_
  simp only [ac60_100,rv60_100,push_cast,reduceIte,reduceEqDiff,reduceAdd,reduceSub,reduceMul,Nat.reduceBEq,reduceLT,reduceLeDiff,reduceCtorEq,reduceToNat,reduceNeg]
  refine qCR [313] [335,348,367] (qCZ g hg c hc) rfl rfl rfl ?_
  simp only [opA,push_cast,reduceIte,reduceEqDiff,reduceAdd,reduceSub,reduceMul,Nat.reduceBEq,reduceLT,reduceLeDiff,reduceCtorEq,reduceToNat,reduceNeg]
  exact rfl
 refine FnM.mono (FnM.postB (fun _ => [313]) key) ?_
 rintro rv _ ⟨st1,⟨h1,h2⟩,rfl⟩
 exact ⟨h1,h2⟩
theorem qD4 {cs ds : List PV} {off : Nat} (h : SubL cs ds) : Sub (.iptr false cs off) (.iptr false ds off) := by
 exact .iptr _ _ _ _ _ (fun h => h) h.len h.at
def setF (g : Grid) (c : Cfg) (s : PSt) (pads : List Bool) : List Bool := qxl (rndF g c s pads) c.sel.length c.sel.length (List.replicate c.sel.length false)
theorem qD5 (g : Grid) (n : Nat) : (qCr g n).length = n := by simp [qCr]
theorem qD6 (g : Grid) (c : Cfg) (n : Nat) : (qCs g c n).length = n := by simp [qCs]
theorem qD7 {g : Grid} (hg : GOk g) {c : Cfg} (hc : CfgG g c) : (qCt g c.sel.length).length = g.kind.length := by rw [hc.ln.1,qCw hg]; simp
set_option maxHeartbeats 4000000 in
theorem qD8 (g : Grid) (hg : GOk g) (c : Cfg) (hc : CfgG g c) (s : PSt) (pads : List Bool) : FnEq Tryz.prog 32 [.agg (quy false g),.agg (cfgC false c),.agg (pstC false s),.sl false 1 (rows qk7 pads)] (.sl true 1 (rows qk7 (setF g c s pads))) := by
 have hS := qD1 g hg c hc s pads
 rw [show qxl (rndF g c s pads) c.sel.length c.sel.length (List.replicate c.sel.length false) = setF g c s pads from rfl] at hS
 have h1 := qD5 g c.sel.length
 have h2 := qD6 g c c.sel.length
 have h3 := qD7 hg hc
 refine FnEq.of_awp Tryz.func32 ok32 (by show 4 <= _; decide) (by simp only [push_cast,reduceIte,reduceEqDiff,reduceAdd,reduceSub,reduceMul,Nat.reduceBEq,reduceLT,reduceLeDiff,reduceCtorEq,reduceToNat,reduceNeg] <;> first | exact fun _ _ => trivial | simp) ?_
 simp only [ac32,rv32,push_cast,reduceIte,reduceEqDiff,reduceAdd,reduceSub,reduceMul,Nat.reduceBEq,reduceLT,reduceLeDiff,reduceCtorEq,reduceToNat,reduceNeg]
 refine qCR [313] [335,348,367] (qD3 g hg c hc s pads) rfl rfl rfl ?_
 simp only [opA,push_cast,reduceIte,reduceEqDiff,reduceAdd,reduceSub,reduceMul,Nat.reduceBEq,reduceLT,reduceLeDiff,reduceCtorEq,reduceToNat,reduceNeg]
 refine qrm hS ?_ ?_
 ·refine ⟨qD4 ?_,trivial⟩
  refine sB ?_
  rw [List.take_of_length_le (by omega),List.take_of_length_le (by omega),List.take_of_length_le (by omega)]
  exact ⟨.refl _,.refl _,.refl _⟩
 ·refine sB ?_
  exact fun _ _ => trivial
theorem qD9 {g : Grid} (hg : GOk g) {c : Cfg} (hc : CfgG g c) (s : PSt) (pads : List Bool) : Sub
  (.iptr false [.sl false 1 (ints c.sel),.sl false 1 (ints c.mode),.sl false 1 (ints c.tab),.sl false 1 (ints c.ram),.sl false 4 (rows quz ((qCr g c.sel.length).take c.sel.length)),.sl false 1 (rows intC ((qCt g c.sel.length).take g.kind.length)),
   .sl false 1 (rows intC ((qCs g c c.sel.length).take c.sel.length)),.sl false 1 (ints s.regs),.sl false 1 (rows (memC false) s.mems),.sl false 1 (rows qk7 pads)] 0)
  (.iptr false (arrC false c (qCr g c.sel.length) (qCt g c.sel.length) (qCs g c c.sel.length) s pads) 0) := by
 have h1 := qD5 g c.sel.length
 have h2 := qD6 g c c.sel.length
 have h3 := qD7 hg hc
 rw [List.take_of_length_le (by omega),List.take_of_length_le (by omega),List.take_of_length_le (by omega)]
 exact .refl _
set_option maxHeartbeats 4000000 in
theorem qDa (g : Grid) (hg : GOk g) (c : Cfg) (hc : CfgG g c) (s : PSt) (pads v : List Bool) (hv : v.length = c.sel.length) : FnEq Tryz.prog 34 [.agg (quy false g), .agg (cfgC false c), .agg (pstC false s), .sl false 1 (rows qk7 pads), .sl false 1 (rows qk7 v)]
  (.sl true 1 (rows qk7 (qxj (rndF g c s pads) c.sel.length v))) := by
 have hS := qCM g hg c hc s pads v hv
 generalize qxj (rndF g c s pads) c.sel.length v = w at *
 have hA := qD9 hg hc s pads
 refine FnEq.of_awp Tryz.func34 ok34 (by show 5 <= _; decide) (by simp only [push_cast,reduceIte,reduceEqDiff,reduceAdd,reduceSub,reduceMul,Nat.reduceBEq,reduceLT,reduceLeDiff,reduceCtorEq,reduceToNat,reduceNeg] <;> first | exact fun _ _ => trivial | simp) ?_
 simp only [ac34,rv34,push_cast,reduceIte,reduceEqDiff,reduceAdd,reduceSub,reduceMul,Nat.reduceBEq,reduceLT,reduceLeDiff,reduceCtorEq,reduceToNat,reduceNeg]
 refine qCR [313] [335,348,367] (qD3 g hg c hc s pads) rfl rfl rfl ?_
 simp only [opA,push_cast,reduceIte,reduceEqDiff,reduceAdd,reduceSub,reduceMul,Nat.reduceBEq,reduceLT,reduceLeDiff,reduceCtorEq,reduceToNat,reduceNeg]
 refine qrm hS ⟨hA,.refl _,trivial⟩ ?_
 refine sB ?_
 exact fun _ _ => trivial
set_option maxHeartbeats 4000000 in
theorem qDb (g : Grid) (hg : GOk g) (c : Cfg) (hc : CfgG g c) (s : PSt) (pads v : List Bool) (hv : v.length = c.sel.length) : FnEq Tryz.prog 33 [.agg (quy false g), .agg (cfgC false c), .agg (pstC false s), .sl false 1 (rows qk7 pads), .sl false 1 (rows qk7 v)]
  (.bool (decide (qxj (rndF g c s pads) c.sel.length v = v))) := by
 have hS := qCM g hg c hc s pads v hv
 have hcn := hg.count
 have l1 := hc.ln.1
 have hl := qxm (rndF g c s pads) c.sel.length v
 generalize qxj (rndF g c s pads) c.sel.length v = w at *
 have hA := qD9 hg hc s pads
 refine FnEq.of_awp Tryz.func33 ok33 (by show 5 <= _; decide) (by simp only [push_cast,reduceIte,reduceEqDiff,reduceAdd,reduceSub,reduceMul,Nat.reduceBEq,reduceLT,reduceLeDiff,reduceCtorEq,reduceToNat,reduceNeg] <;> first | exact fun _ _ => trivial | simp) ?_
 simp only [ac33,rv33,push_cast,reduceIte,reduceEqDiff,reduceAdd,reduceSub,reduceMul,Nat.reduceBEq,reduceLT,reduceLeDiff,reduceCtorEq,reduceToNat,reduceNeg]
 refine qCR [313] [335,348,367] (qD3 g hg c hc s pads) rfl rfl rfl ?_
 simp only [opA,push_cast,reduceIte,reduceEqDiff,reduceAdd,reduceSub,reduceMul,Nat.reduceBEq,reduceLT,reduceLeDiff,reduceCtorEq,reduceToNat,reduceNeg]
 refine qrm hS ⟨hA,.refl _,trivial⟩ ?_
 refine sB ?_
 refine qrm (qx6 w v (by omega)) sC ?_
 exact sC
open Classical in
theorem qDO (g : Grid) (hg : GOk g) (n : Int) : FnEq Tryz.prog 48 [.agg (quy false g),.int n] (.agg (qvW (quK g n))) := by
 have h3 := hg.count
 by_cases h : 0 <= n /\ n < quD g
 ·exact qvY g hg n (by omega)
 refine FnEq.of_awp Tryz.func48 ok48 (by show 2 <= _; decide) (by simp only [push_cast,reduceIte,reduceEqDiff,reduceAdd,reduceSub,reduceMul,Nat.reduceBEq,reduceLT,reduceLeDiff,reduceCtorEq,reduceToNat,reduceNeg] <;> first | exact fun _ _ => trivial | simp) ?_
 simp only [ac48,rv48,push_cast,reduceIte,reduceEqDiff,reduceAdd,reduceSub,reduceMul,Nat.reduceBEq,reduceLT,reduceLeDiff,reduceCtorEq,reduceToNat,reduceNeg]
 refine qry ⟨[(1,.int n),(2,.ptr 2 0),(4,.ptr 4 0),(18,.bool true)],[(2,quy false g),(4,[.int 0,.int 0,.int 0,.int 0,.int 0])],[],[]⟩ ?_ ?_
 ·refine qrr rfl (fun h1 => ?_) fun h1 => ?_ <;> simp only [push_cast,reduceIte,reduceEqDiff,reduceAdd,reduceSub,reduceMul,Nat.reduceBEq,reduceLT,reduceLeDiff,reduceCtorEq,reduceToNat,reduceNeg]
  refine qrm (quI g hg) sC ?_
  refine sB ?_
  rw [decide_eq_true (show quD g <= n by omega)]
 refine sB ?_
 rw [quK,if_pos (by omega)]
 exact sC
theorem qDP (g : Grid) (hg : GOk g) (n : Int) : FnEq Tryz.prog 45 [.agg (quy false g),.int n] (.sl true 1 (ints (qvM g n))) := by
 have h3 := hg.count
 by_cases hE : 0 <= n /\ n < quD g
 ·rw [qyE hg]
  exact qw1 g hg n (by omega)
 ·have hD := qDO g hg n
  have e : quK g n = (⟨0,0,0,0⟩,1) := by rw [quK,if_pos (by omega)]
  have e2 : qvM g n = [] := by rw [qyE hg,rdrF,e]; rfl
  refine FnEq.of_awp Tryz.func45 ok45 (by show 2 <= _; decide) (by simp only [push_cast,reduceIte,reduceEqDiff,reduceAdd,reduceSub,reduceMul,Nat.reduceBEq,reduceLT,reduceLeDiff,reduceCtorEq,reduceToNat,reduceNeg] <;> first | exact fun _ _ => trivial | simp) ?_
  simp only [ac45,rv45,push_cast,reduceIte,reduceEqDiff,reduceAdd,reduceSub,reduceMul,Nat.reduceBEq,reduceLT,reduceLeDiff,reduceCtorEq,reduceToNat,reduceNeg]
  rw [e2]
  rw [e] at hD
  refine qrm hD sC ?_
  refine sB ?_
  refine qoH (fun m st => m = 0 /\ st = ⟨[(2,.ptr 2 0),(5,.view 8 0 0),(6,.ptr 6 0),(7,.int 0)],[(2,quy false g),(6,[.int 0,.int 0,.int 0,.int 0,.int 1])],[(8,⟨1,3,ints []⟩)],[]⟩) 0 ?_ ?_
  ·refine ⟨rfl,?_⟩
   refine sB ?_
   rfl
  ·rintro m st ⟨rfl,rfl⟩
   refine sB ?_
   refine qrm (quI g hg) sC ?_
   refine sB ?_
   refine qrq rfl (fun _ => ?_) fun h => absurd (by omega) h
   refine sB ?_
   refine qnR (fun h => absurd h (by decide)) fun _ => ?_
   simp
theorem qDQ (g : Grid) (hg : GOk g) (n : Int) : FnEq Tryz.prog 46 [.agg (quy false g),.int n] (.int (qvM g n).length) := by
 refine FnEq.of_awp Tryz.func46 ok46 (by show 2 <= _; decide) (by simp only [push_cast,reduceIte,reduceEqDiff,reduceAdd,reduceSub,reduceMul,Nat.reduceBEq,reduceLT,reduceLeDiff,reduceCtorEq,reduceToNat,reduceNeg] <;> first | exact fun _ _ => trivial | simp) ?_
 simp only [ac46,rv46,push_cast,reduceIte,reduceEqDiff,reduceAdd,reduceSub,reduceMul,Nat.reduceBEq,reduceLT,reduceLeDiff,reduceCtorEq,reduceToNat,reduceNeg]
 refine qrm (qDP g hg n) sC ?_
 exact sC
theorem qDR {g : Grid} (hg : GOk g) {n : Int} (h : ¬ (0 <= n /\ n < quD g)) : qvM g n = [] := by
 rw [qyE hg,rdrF,quK,if_pos (show n < 0 \/ quD g <= n by omega)]
 rfl
theorem qDS {g : Grid} (hg : GOk g) (n : Int) : ((qvM g n).length : Int) <= 600000 := by
 have h3 := hg.count
 rw [qyE hg,rdrF]
 split
 ·have := qw0 g (quK g n).1 (quD g).toNat
  omega
 ·simp
def RtUp (g : Grid) (r : Route) (k : Nat) : Prop := ∀ i,0 < i -> i < k -> (0 <= r.frm.getD i 0 /\ r.frm.getD i 0 < i) /\ r.nodes.getD (r.frm.getD i 0).toNat 0 ∈ qvM g (r.nodes.getD i 0)
theorem qDT {g : Grid} (hg : GOk g) {r : Route} : RouteSh g r ↔ (r.nodes ≠ [] /\ r.frm.length = r.nodes.length /\ r.frm.getD 0 0 = -1) /\ ((quK g (r.nodes.getD 0 0)).2 = 0 /\ qvM g (r.nodes.getD 0 0) = []) /\ RtUp g r r.nodes.length := by
 constructor
 ·rintro ⟨h1,h2,h3,h4,h5,h6⟩
  have h0 := h4 _ (qza (l := r.nodes) (k := 0) (List.length_pos_iff.2 h1))
  exact ⟨⟨h1,h2,h3⟩,⟨by rw [quK,if_neg (by omega)],h5⟩,h6⟩
 ·rintro ⟨⟨h1,h2,h3⟩,⟨h4,h5⟩,h6⟩
  refine ⟨h1,h2,h3,fun x hx => ?_,h5,h6⟩
  obtain ⟨i,hi,rfl⟩ := qAQ hx
  by_cases e : i = 0
  ·subst e
   rw [quK] at h4
   split at h4
   ·cases h4
   ·omega
  ·refine Classical.byContradiction fun hn => ?_
   have := (h6 i (by omega) hi).2
   rw [qDR hg hn] at this
   cases this
open Classical in
set_option maxHeartbeats 4000000 in
theorem qDU (g : Grid) (hg : GOk g) (r : Route) (h1 : (r.nodes.length : Int) <= 1000000) (h2 : (r.frm.length : Int) <= 1000000) : FnEq Tryz.prog 76 [.agg (quy false g),.agg (qwD false r)] (.bool (decide (RouteSh g r))) := by
 have e0 : ∀ (l : List Int) (j : Nat),l.getD j default = l.getD j 0 := fun _ _ => rfl
 have hiff := qDT hg (r := r)
 refine FnEq.of_awp Tryz.func76 ok76 (by show 2 <= _; decide) (by simp only [push_cast,reduceIte,reduceEqDiff,reduceAdd,reduceSub,reduceMul,Nat.reduceBEq,reduceLT,reduceLeDiff,reduceCtorEq,reduceToNat,reduceNeg] <;> first | exact fun _ _ => trivial | simp) ?_
 simp only [ac76,rv76,push_cast,reduceIte,reduceEqDiff,reduceAdd,reduceSub,reduceMul,Nat.reduceBEq,reduceLT,reduceLeDiff,reduceCtorEq,reduceToNat,reduceNeg]
 obtain ⟨B,hB⟩ : ∃ B,B = decide (¬ (r.nodes ≠ [] /\ r.frm.length = r.nodes.length /\ r.frm.getD 0 0 = -1)) := ⟨_,rfl⟩
 have hne : r.nodes ≠ [] ↔ 0 < r.nodes.length := List.length_pos_iff.symm
 refine qry ⟨[(2,.ptr 2 0),(3,.ptr 3 0),(26,.bool B)],[(2,quy false g),(3,qwD false r)],[],[]⟩ ?_ ?_
 ·refine qrr rfl (fun e1 => ?_) fun e1 => ?_ <;> simp only [e0,push_cast,reduceIte,reduceEqDiff,reduceAdd,reduceSub,reduceMul,Nat.reduceBEq,reduceLT,reduceLeDiff,reduceCtorEq,reduceToNat,reduceNeg]
  ·rw [show B = true from by rw [hB]; exact decide_eq_true fun h => by have := hne.1 h.1; omega]
  ·refine qrr rfl (fun e2 => ?_) fun e2 => ?_ <;> simp only [e0,push_cast,reduceIte,reduceEqDiff,reduceAdd,reduceSub,reduceMul,Nat.reduceBEq,reduceLT,reduceLeDiff,reduceCtorEq,reduceToNat,reduceNeg]
   ·rw [show B = true from by rw [hB]; exact decide_eq_true fun h => e2 (by omega)]
   ·refine ⟨by omega,by omega,?_⟩
    rw [show B = decide (r.frm.getD 0 0 ≠ -1) from by rw [hB,decide_eq_decide,hne]; exact ⟨fun h q => h ⟨by omega,by omega,q⟩,fun h q => h q.2.2⟩]
 simp only [e0,push_cast,reduceIte,reduceEqDiff,reduceAdd,reduceSub,reduceMul,Nat.reduceBEq,reduceLT,reduceLeDiff,reduceCtorEq,reduceToNat,reduceNeg]
 refine qnQ (fun e => ?_) fun e => ?_
 ·rw [hB,decide_eq_true_eq] at e
  rw [decide_eq_false fun h => e (hiff.1 h).1]
 rw [hB,decide_eq_false_iff_not,Classical.not_not] at e
 have hn0 := hne.1 e.1
 have hD := qDO g hg (r.nodes.getD 0 0)
 have hV := qDQ g hg (r.nodes.getD 0 0)
 refine ⟨by omega,by omega,?_⟩
 refine qro hD sC rfl ?_
 simp only [qvW,push_cast,reduceIte,reduceEqDiff,reduceAdd,reduceSub,reduceMul,Nat.reduceBEq,reduceLT,reduceLeDiff,reduceCtorEq,reduceToNat,reduceNeg]
 obtain ⟨C,hC⟩ : ∃ C,C = decide (¬ ((quK g (r.nodes.getD 0 0)).2 = 0 /\ qvM g (r.nodes.getD 0 0) = [])) := ⟨_,rfl⟩
 refine qrz ⟨[(2,.ptr 2 0),(3,.ptr 3 0),(44,.bool C)],[(2,quy false g),(3,qwD false r),(5,qvW (quK g (r.nodes.getD 0 0)))],[],[]⟩ ?_ ?_
 ·refine qrv rfl (fun e1 => ?_) fun e1 => ?_ <;> simp only [e0,qvW,push_cast,reduceIte,reduceEqDiff,reduceAdd,reduceSub,reduceMul,Nat.reduceBEq,reduceLT,reduceLeDiff,reduceCtorEq,reduceToNat,reduceNeg]
  ·rw [show C = true from by rw [hC]; exact decide_eq_true fun h => e1 h.1]
  ·refine ⟨by omega,by omega,?_⟩
   refine qrm hV sC ?_
   refine sB ?_
   rw [show C = decide (0 < ((qvM g (r.nodes.getD 0 0)).length : Int)) from by
    rw [hC,decide_eq_decide]
    exact ⟨fun h => by
     have : qvM g (r.nodes.getD 0 0) ≠ [] := fun q => h ⟨by omega,q⟩
     have := List.length_pos_iff.2 this
     omega,fun h q => by rw [q.2] at h; simp at h⟩]
 refine sB ?_
 refine qnQ (fun e1 => ?_) fun e1 => ?_
 ·rw [hC,decide_eq_true_eq] at e1
  rw [decide_eq_false fun h => e1 (hiff.1 h).2.1]
 rw [hC,decide_eq_false_iff_not,Classical.not_not] at e1
 refine qoH (fun m st => ∃ k : Nat,(1 <= k /\ k <= r.nodes.length) /\ m = r.nodes.length - k /\ RtUp g r k /\ st = ⟨[(2,.ptr 2 0),(3,.ptr 3 0),(6,.int k)],[(2,quy false g),(3,qwD false r)],[],[]⟩) (r.nodes.length - 1) ?_ ?_
 ·refine ⟨1,by omega,rfl,fun i h1 h2 => by omega,?_⟩
  simp only [push_cast,reduceIte,reduceEqDiff,reduceAdd,reduceSub,reduceMul,Nat.reduceBEq,reduceLT,reduceLeDiff,reduceCtorEq,reduceToNat,reduceNeg]
  try rfl
 rintro m st ⟨k,hk,rfl,hup,rfl⟩
 simp only [e0,push_cast,reduceIte,reduceEqDiff,reduceAdd,reduceSub,reduceMul,Nat.reduceBEq,reduceLT,reduceLeDiff,reduceCtorEq,reduceToNat,reduceNeg]
 refine qnR (fun h => ?_) fun h => ?_
 ·obtain ⟨D,hD2⟩ : ∃ D,D = decide (¬ ((0 <= r.frm.getD k 0 /\ r.frm.getD k 0 < k) /\ r.nodes.getD (r.frm.getD k 0).toNat 0 ∈ qvM g (r.nodes.getD k 0))) := ⟨_,rfl⟩
  refine ⟨by omega,by omega,?_⟩
  refine qrz ⟨[(2,.ptr 2 0),(3,.ptr 3 0),(6,.int k),(86,.bool D)],[(2,quy false g),(3,qwD false r)],[],[]⟩ ?_ ?_
  ·refine qrv rfl (fun q1 => ?_) fun q1 => ?_ <;> simp only [e0,push_cast,reduceIte,reduceEqDiff,reduceAdd,reduceSub,reduceMul,Nat.reduceBEq,reduceLT,reduceLeDiff,reduceCtorEq,reduceToNat,reduceNeg]
   ·rw [show D = true from by rw [hD2]; exact decide_eq_true fun h => by omega]
   ·refine ⟨by omega,by omega,?_⟩
    refine qrv rfl (fun q2 => ?_) fun q2 => ?_ <;> simp only [e0,push_cast,reduceIte,reduceEqDiff,reduceAdd,reduceSub,reduceMul,Nat.reduceBEq,reduceLT,reduceLeDiff,reduceCtorEq,reduceToNat,reduceNeg]
    ·rw [show D = true from by rw [hD2]; exact decide_eq_true fun h => by omega]
    ·refine ⟨by omega,by omega,?_⟩
     refine qro (qDP g hg (r.nodes.getD k 0)) sC rfl ?_
     simp only [e0,push_cast,reduceIte,reduceEqDiff,reduceAdd,reduceSub,reduceMul,Nat.reduceBEq,reduceLT,reduceLeDiff,reduceCtorEq,reduceToNat,reduceNeg]
     have hdl := qDS hg (r.nodes.getD k 0)
     repeat (refine And.intro (by omega) ?_)
     have hix := qzW (qvM g (r.nodes.getD k 0)) (by omega) (r.nodes.getD (r.frm.getD k 0).toNat 0)
     refine qrm hix ⟨.slp _ _ _ _ (fun h => by cases h),.refl _,trivial⟩ ?_
     refine sB ?_
     rw [show D = decide (qzU (qvM g (r.nodes.getD k 0)) (r.nodes.getD (r.frm.getD k 0).toNat 0) < 0) from by
      rw [hD2,decide_eq_decide]
      unfold qzU
      split
      ·rename_i q3; exact ⟨fun q4 => absurd ⟨⟨by omega,by omega⟩,q3⟩ q4,fun q4 => by omega⟩
      ·rename_i q3; exact ⟨fun _ => by omega,fun _ q4 => q3 q4.2⟩]
  refine sB ?_
  refine qnQ (fun q => ?_) fun q => ?_
  ·rw [hD2,decide_eq_true_eq] at q
   rw [decide_eq_false fun h2 => q ((hiff.1 h2).2.2 k (by omega) (by omega))]
  ·rw [hD2,decide_eq_false_iff_not,Classical.not_not] at q
   refine ⟨by omega,_,?_,k + 1,by omega,rfl,fun i h1 h2 => ?_,?_⟩
   ·omega
   ·by_cases h3 : i = k
    ·subst h3; exact q
    ·exact hup i h1 (by omega)
   ·exact sC
 rw [decide_eq_true (hiff.2 ⟨e,e1,by rw [show r.nodes.length = k by omega]; exact hup⟩)]
theorem slTF (es : Nat) (xs : List (List PV)) : Sub (.sl true es xs) (.sl false es xs) := .slp _ _ _ _ (fun h => by cases h)
theorem qDV (g : Grid) : Sub (.agg (quy true g)) (.agg (quy false g)) := Sub.aggL ⟨.refl _,.refl _,.refl _,.refl _,slTF _ _,trivial⟩
theorem qDW (c : Cfg) : Sub (.agg (cfgC true c)) (.agg (cfgC false c)) := Sub.aggL ⟨slTF _ _,slTF _ _,slTF _ _,slTF _ _,trivial⟩
def qDX (q : Bool) (g : Grid) (c : Cfg) (dr : List Int) (s : PSt) (pads : List Bool) : List PV := quy q g ++ cfgC q c ++ [.sl q 1 (ints dr)] ++ pstC q s ++ [.sl q 1 (rows qk7 pads)]
@[push_cast] theorem qDY (q : Bool) (g : Grid) (c : Cfg) (dr : List Int) (s : PSt) (pads : List Bool) : qDX q g c dr s pads =
 [.int g.w,.int g.h,.int g.tracks,.int g.pads,.sl q 1 (ints g.kind),.sl q 1 (ints c.sel),.sl q 1 (ints c.mode),.sl q 1 (ints c.tab),.sl q 1 (ints c.ram),.sl q 1 (ints dr),.sl q 1 (ints s.regs),.sl q 1 (rows (memC q) s.mems),.sl q 1 (rows qk7 pads)] := rfl
def ofC (g : Grid) (c : Cfg) (dr : List Int) : List PV := quy true g ++ cfgC true c ++ [.sl true 1 (ints dr),.nil,.nil,.nil]
@[push_cast] theorem qDZ (g : Grid) (c : Cfg) (dr : List Int) : ofC g c dr =
 [.int g.w,.int g.h,.int g.tracks,.int g.pads,.sl true 1 (ints g.kind),.sl true 1 (ints c.sel),.sl true 1 (ints c.mode),.sl true 1 (ints c.tab),.sl true 1 (ints c.ram),.sl true 1 (ints dr),.nil,.nil,.nil] := rfl
def natI (l : List Nat) : List Int := l.map fun (j : Nat) => (j : Int)
section
variable (g : Grid) (hg : GOk g) (c : Cfg) (hc : CfgG g c)
include hg hc
set_option maxHeartbeats 4000000 in
theorem qE0 : FnEq Tryz.prog 47 [.agg (quy false g),.agg (cfgC false c)] (.sl true 1 (ints (qCs g c c.sel.length))) := by
 have e0 : ∀ (l : List Int) (j : Nat),l.getD j default = l.getD j 0 := fun _ _ => rfl
 have hcn := hg.count
 have l1 := hc.ln.1
 have hV : ∀ j,qCs g c (j + 1) = qCs g c j ++ [qzD g c (j : Int)] := fun j => qze _ j
 refine FnEq.of_awp Tryz.func47 ok47 (by show 2 <= _; decide) (by simp only [push_cast,reduceIte,reduceEqDiff,reduceAdd,reduceSub,reduceMul,Nat.reduceBEq,reduceLT,reduceLeDiff,reduceCtorEq,reduceToNat,reduceNeg] <;> first | exact fun _ _ => trivial | simp) ?_
 simp only [ac47,rv47,push_cast,reduceIte,reduceEqDiff,reduceAdd,reduceSub,reduceMul,Nat.reduceBEq,reduceLT,reduceLeDiff,reduceCtorEq,reduceToNat,reduceNeg]
 refine qoH (fun m st => ∃ k : Nat,k <= c.sel.length /\ m = c.sel.length - k /\ st = ⟨[(2,.ptr 2 0),(3,.ptr 3 0),(5,.view 8 0 k),(6,.int k)],[(2,quy false g),(3,cfgC false c)],[(8,⟨1,3,ints (qCs g c k)⟩)],[]⟩) c.sel.length ?_ ?_
 ·refine ⟨0,by omega,by omega,?_⟩
  simp only [push_cast,reduceIte,reduceEqDiff,reduceAdd,reduceSub,reduceMul,Nat.reduceBEq,reduceLT,reduceLeDiff,reduceCtorEq,reduceToNat,reduceNeg]
  try rfl
 rintro m st ⟨k,hk,rfl,rfl⟩
 have hl := qD6 g c k
 simp only [e0,push_cast,reduceIte,reduceEqDiff,reduceAdd,reduceSub,reduceMul,Nat.reduceBEq,reduceLT,reduceLeDiff,reduceCtorEq,reduceToNat,reduceNeg]
 have hV1 := hV k
 refine qnR (fun h => ?_) fun h => ?_
 ·refine ⟨by omega,by omega,?_⟩
  have hdl := qy5 g hg (k : Int)
  have hkk : ((k : Int)).toNat = k := Int.toNat_natCast k
  refine qnR (fun h2 => ?_) fun h2 => ?_
  ·have hsd := qzE hg hc.sels (n := (k : Int)) (by omega) (by rw [hkk]; omega)
   have hsa := hc.sels.sel k (by omega) (by omega)
   rw [hkk] at hsd
   refine qro (qDP g hg k) sC rfl ?_
   simp only [e0,push_cast,reduceIte,reduceEqDiff,reduceAdd,reduceSub,reduceMul,Nat.reduceBEq,reduceLT,reduceLeDiff,reduceCtorEq,reduceToNat,reduceNeg]
   refine ⟨by omega,by omega,by omega,by omega,by omega,?_⟩
   rw [<- hsd.1]
   refine ⟨by simp,⟨by omega,by omega,by omega⟩,by omega,_,?_,k + 1,by omega,rfl,?_⟩
   ·omega
   ·rw [hV1]; rfl
  ·have h3 : c.sel.getD k 0 = 0 := Classical.byContradiction fun q => by have := hc.sels.sel k (by omega) q; omega
   have hd1 : qzD g c (k : Int) = -1 := by rw [qzD,hkk]; exact if_pos (.inl h3)
   rw [hd1] at hV1
   refine ⟨by simp,⟨by omega,by omega,by omega⟩,by omega,_,?_,k + 1,by omega,rfl,?_⟩
   ·omega
   ·rw [hV1]; rfl
 ·have hkn : k = c.sel.length := by omega
  subst hkn
  rw [List.take_of_length_le (by omega)]
  exact ⟨fun _ _ => trivial,.refl _⟩
theorem qE1 : FnEq Tryz.prog 25 [.agg (quy true g),.agg (cfgC true c)] (.agg (ofC g c (qCs g c c.sel.length))) := by
 have hD := qE0 g hg c hc
 refine FnEq.of_awp Tryz.func25 ok25 (by show 2 <= _; decide) (by simp only [push_cast,reduceIte,reduceEqDiff,reduceAdd,reduceSub,reduceMul,Nat.reduceBEq,reduceLT,reduceLeDiff,reduceCtorEq,reduceToNat,reduceNeg] <;> first | exact fun _ _ => trivial | simp) ?_
 simp only [ac25,rv25,push_cast,reduceIte,reduceEqDiff,reduceAdd,reduceSub,reduceMul,Nat.reduceBEq,reduceLT,reduceLeDiff,reduceCtorEq,reduceToNat,reduceNeg]
 refine qro hD ⟨qDV g,qDW c,trivial⟩ rfl ?_
 refine sB ?_
 exact ⟨fun _ _ => trivial,fun _ _ => trivial,fun _ _ => trivial,fun _ _ => trivial,fun _ _ => trivial,fun _ _ => trivial⟩
end
theorem qE2 (g : Grid) (c : Cfg) (dr : List Int) (s0 s : PSt) (p0 pads : List Bool) : FnEq Tryz.prog 16 [.agg (qDX true g c dr s0 p0),.agg (pstC true s),.sl true 1 (rows qk7 pads)] (.agg (qDX true g c dr s pads)) := by
 refine FnEq.of_awp Tryz.func16 ok16 (by show 3 <= _; decide) (by simp only [push_cast,reduceIte,reduceEqDiff,reduceAdd,reduceSub,reduceMul,Nat.reduceBEq,reduceLT,reduceLeDiff,reduceCtorEq,reduceToNat,reduceNeg] <;> first | exact fun _ _ => trivial | simp) ?_
 simp only [ac16,rv16,push_cast,reduceIte,reduceEqDiff,reduceAdd,reduceSub,reduceMul,Nat.reduceBEq,reduceLT,reduceLeDiff,reduceCtorEq,reduceToNat,reduceNeg]
 exact ⟨fun _ _ => trivial,fun _ _ => trivial,fun _ _ => trivial,fun _ _ => trivial,fun _ _ => trivial,fun _ _ => trivial,fun _ _ => trivial,fun _ _ _ _ => trivial,fun _ _ => trivial⟩
section
variable (g : Grid) (hg : GOk g) (c : Cfg) (hc : CfgG g c) (s : PSt) (pads : List Bool)
include hg hc
theorem qE3 : FnEq Tryz.prog 11 [.agg (qDX false g c (qCs g c c.sel.length) s pads)] (.sl true 1 (rows qk7 (setF g c s pads))) := by
 have hS := qD8 g hg c hc s pads
 refine FnEq.of_awp Tryz.func11 ok11 (by show 1 <= _; decide) (by simp only [push_cast,reduceIte,reduceEqDiff,reduceAdd,reduceSub,reduceMul,Nat.reduceBEq,reduceLT,reduceLeDiff,reduceCtorEq,reduceToNat,reduceNeg] <;> first | exact fun _ _ => trivial | simp) ?_
 simp only [ac11,rv11,push_cast,reduceIte,reduceEqDiff,reduceAdd,reduceSub,reduceMul,Nat.reduceBEq,reduceLT,reduceLeDiff,reduceCtorEq,reduceToNat,reduceNeg]
 refine qrm hS sC ?_
 refine sB ?_
 exact fun _ _ => trivial
theorem qE4 (v : List Bool) (hv : v.length = c.sel.length) : FnEq Tryz.prog 15 [.agg (qDX false g c (qCs g c c.sel.length) s pads),.sl false 1 (rows qk7 v)] (.sl true 1 (rows qk7 (qxj (rndF g c s pads) c.sel.length v))) := by
 have hS := qDa g hg c hc s pads v hv
 refine FnEq.of_awp Tryz.func15 ok15 (by show 2 <= _; decide) (by simp only [push_cast,reduceIte,reduceEqDiff,reduceAdd,reduceSub,reduceMul,Nat.reduceBEq,reduceLT,reduceLeDiff,reduceCtorEq,reduceToNat,reduceNeg] <;> first | exact fun _ _ => trivial | simp) ?_
 simp only [ac15,rv15,push_cast,reduceIte,reduceEqDiff,reduceAdd,reduceSub,reduceMul,Nat.reduceBEq,reduceLT,reduceLeDiff,reduceCtorEq,reduceToNat,reduceNeg]
 refine qrm hS sC ?_
 refine sB ?_
 exact fun _ _ => trivial
theorem qE5 (v : List Bool) (hv : v.length = c.sel.length) : FnEq Tryz.prog 13 [.agg (qDX false g c (qCs g c c.sel.length) s pads),.sl false 1 (rows qk7 v)] (.bool (decide (qxj (rndF g c s pads) c.sel.length v = v))) := by
 have hS := qDb g hg c hc s pads v hv
 refine FnEq.of_awp Tryz.func13 ok13 (by show 2 <= _; decide) (by simp only [push_cast,reduceIte,reduceEqDiff,reduceAdd,reduceSub,reduceMul,Nat.reduceBEq,reduceLT,reduceLeDiff,reduceCtorEq,reduceToNat,reduceNeg] <;> first | exact fun _ _ => trivial | simp) ?_
 simp only [ac13,rv13,push_cast,reduceIte,reduceEqDiff,reduceAdd,reduceSub,reduceMul,Nat.reduceBEq,reduceLT,reduceLeDiff,reduceCtorEq,reduceToNat,reduceNeg]
 refine qrm hS sC ?_
 exact sC
end
end Go.Proofs.YtdmkfgkmnpohlaaGreat
namespace Go.Proofs.YtdmkfgkmnpohlaaGreat.Txt
open Go Go.Vc
set_option maxRecDepth 100000
def ac43m : AC :=
 (.seq (.reg [0,103,0,1,2] [
 (aO 3 (.box (.t 0))),(aO 4 (.box (.t 1))),(aO 5 (.box (.t 2))),(aO 6 (.mv (.c (.sc (.bool false)))))])
 (.seq (.seq (.reg [0,103,3,4,5] [
 (aO 11 (.fa 0 (.t 5))),(aO 12 (.ld false 1 (.t 11))),(aO 13 (.len (.t 12))),(aO 14 (.fa 1 (.t 3))),(aO 15 (.ld false 1 (.t 14))),(aO 16 (.len (.t 15))),(aO 17 (.cmp .neq .i64 (.t 13) (.t 16)))])
 (.cond (.t 17)
 (.seq (.reg [0,103] [
 (aO 6 (.mv (.c (.sc (.bool false)))))])
 .ret)
 .skip))
 (.seq (.seq (.reg [0,103,3,4,5] [
 (aO 7 (.mv (kI 0)))])
 (.block 0
 (.loop [0,103,3,4,5,7]
 (.seq (.seq (.reg [0,103,3,4,5,7] [
 (aO 18 (.mv (.t 7))),(aO 19 (.fa 0 (.t 5))),(aO 20 (.ld false 1 (.t 19))),(aO 21 (.len (.t 20))),(aO 22 (.cmp .lss .i64 (.t 18) (.t 21)))])
 (.cond (.t 22)
 .skip
 (.exit 0)))
 (.seq (.block 1
 (.seq (.drw [0,103,3,4,5,7] [
 (eT 25 (.ld true 5 (.t 4))),(eT 26 (.fa 1 (.t 3))),(eT 27 (.ld false 1 (.t 26))),(eT 28 (.mv (.t 7))),(eT 29 (.ixs 5 (.t 27) (.t 28))),(eT 30 (.ld true 5 (.t 29))),(eT 31 (.fa 0 (.t 5))),(eT 32 (.ld false 1 (.t 31))),(eT 33 (.mv (.t 7))),(eT 34 (.ixs 1 (.t 32) (.t 33))),(eT 35 (.ld false 1 (.t 34))),(eF 36 (.cal 73 [(.t 25),(.t 30),(.t 35)])),(eF 37 (.not (.t 36))),(eF 38 (.mv (.t 37))),⟨⟨some 39,some (38,false),.fa 0 (.t 5)⟩,[],[],true⟩,⟨⟨some 40,some (38,false),.ld false 1 (.t 39)⟩,[],[],true⟩,⟨⟨some 41,some (38,false),.mv (.t 7)⟩,[],[],true⟩,⟨⟨some 42,some (38,false),.slc 1 (.t 40) none (some (.t 41))⟩,[],[],true⟩,⟨⟨some 43,some (38,false),.fa 0 (.t 5)⟩,[],[],true⟩,⟨⟨some 44,some (38,false),.ld false 1 (.t 43)⟩,[],[],true⟩,⟨⟨some 45,some (38,false),.mv (.t 7)⟩,[],[],true⟩,⟨⟨some 46,some (38,false),.ixs 1 (.t 44) (.t 45)⟩,[],[],true⟩,⟨⟨some 47,some (38,false),.ld false 1 (.t 46)⟩,[],[],true⟩,⟨⟨some 48,some (38,false),.cal 44 [(.t 42),(.t 47)]⟩,[],[],false⟩,⟨⟨some 49,some (38,false),.cmp .geq .i64 (.t 48) (kI 0)⟩,[],[],false⟩,(eF 50 (.pick (.t 38) (.c (.sc (.bool true))) (.t 49)))])
 (.cut [0,103,3,4,5,7,50] (.cond (.t 50)
 (.seq (.reg [0,103] [
 (aO 6 (.mv (.c (.sc (.bool false)))))])
 .ret)
 .skip))))
 (.reg [0,103,3,4,5,7] [
 (aO 23 (.mv (.t 7))),(aO 24 (.ari .add true .i64 (.t 23) (kI 1))),(aO 7 (.mv (.t 24)))]))))))
 (.seq (.reg [0,103,4,5] [
 (aO 51 (.ld true 5 (.t 4))),(aO 52 (.cal 41 [(.t 51)])),(aO 53 (.mks 1 4 1 [.sc (.bool false)] (.t 52) (.t 52))),(aO 8 (.mv (.t 53)))])
 (.seq (.seq (.reg [0,103,4,5,8] [
 (aO 9 (.mv (kI 0)))])
 (.block 2
 (.loop [0,103,4,5,8,9]
 (.seq (.seq (.reg [0,103,4,5,8,9] [
 (aO 54 (.mv (.t 9))),(aO 55 (.fa 1 (.t 5))),(aO 56 (.ld false 1 (.t 55))),(aO 57 (.len (.t 56))),(aO 58 (.cmp .lss .i64 (.t 54) (.t 57)))])
 (.cond (.t 58)
 .skip
 (.exit 2)))
 (.seq (.block 3
 (.seq (.seq (.drw [0,103,4,5,8,9] [
 (eT 61 (.ld true 5 (.t 4))),(eT 62 (.fa 1 (.t 5))),(eT 63 (.ld false 1 (.t 62))),(eT 64 (.mv (.t 9))),(eT 65 (.ixs 3 (.t 63) (.t 64))),(eT 66 (.ld true 3 (.t 65))),(eF 67 (.cal 76 [(.t 61),(.t 66)])),(eF 68 (.not (.t 67)))])
 (.cond (.t 68)
 (.seq (.reg [0,103] [
 (aO 6 (.mv (.c (.sc (.bool false)))))])
 .ret)
 .skip))
 (.seq (.reg [0,103,4,5,8,9] [
 (aO 10 (.mv (kI 0)))])
 (.block 4
 (.loop [0,103,4,5,8,9,10]
 (.seq (.seq (.reg [0,103,4,5,8,9,10] [
 (aO 69 (.mv (.t 10))),(aO 70 (.fa 1 (.t 5))),(aO 71 (.ld false 1 (.t 70))),(aO 72 (.mv (.t 9))),(aO 73 (.ixs 3 (.t 71) (.t 72))),(aO 74 (.fa 1 (.t 73))),(aO 75 (.ld false 1 (.t 74))),(aO 76 (.len (.t 75))),(aO 77 (.cmp .lss .i64 (.t 69) (.t 76)))])
 (.cond (.t 77)
 .skip
 (.exit 4)))
 (.seq (.block 5
 (.seq (.seq (.reg [0,103,4,5,8,9,10] [
 (aO 80 (.mv (.t 8))),(aO 81 (.fa 1 (.t 5))),(aO 82 (.ld false 1 (.t 81))),(aO 83 (.mv (.t 9))),(aO 84 (.ixs 3 (.t 82) (.t 83))),(aO 85 (.fa 1 (.t 84))),(aO 86 (.ld false 1 (.t 85))),(aO 87 (.mv (.t 10))),(aO 88 (.ixs 1 (.t 86) (.t 87))),(aO 89 (.ld false 1 (.t 88))),(aO 90 (.ixs 1 (.t 80) (.t 89))),(aO 91 (.ld false 1 (.t 90)))])
 (.cond (.t 91)
 (.seq (.reg [0,103] [
 (aO 6 (.mv (.c (.sc (.bool false)))))])
 .ret)
 .skip))
 (.reg [0,103,4,5,8,9,10] [
 (aO 92 (.mv (.t 8))),(aO 93 (.fa 1 (.t 5))),(aO 94 (.ld false 1 (.t 93))),(aO 95 (.mv (.t 9))),(aO 96 (.ixs 3 (.t 94) (.t 95))),(aO 97 (.fa 1 (.t 96))),(aO 98 (.ld false 1 (.t 97))),(aO 99 (.mv (.t 10))),(aO 100 (.ixs 1 (.t 98) (.t 99))),(aO 101 (.ld false 1 (.t 100))),(aO 102 (.ixs 1 (.t 92) (.t 101))),(aN (.sto 1 (.t 102) (.c (.sc (.bool true)))))])))
 (.reg [0,103,4,5,8,9,10] [
 (aO 78 (.mv (.t 10))),(aO 79 (.ari .add true .i64 (.t 78) (kI 1))),(aO 10 (.mv (.t 79)))]))))))))
 (.reg [0,103,4,5,8,9] [
 (aO 59 (.mv (.t 9))),(aO 60 (.ari .add true .i64 (.t 59) (kI 1))),(aO 9 (.mv (.t 60)))]))))))
 (.seq (.reg [0,103] [
 (aO 6 (.mv (.c (.sc (.bool true)))))])
 .ret))))))
def rv43m : List RV := [.tmp 6]
theorem ok43m : fnOk Tryz.prog ac43m rv43m Tryz.f43 = true := by kernel_rfl
end Go.Proofs.YtdmkfgkmnpohlaaGreat.Txt
namespace Go.Proofs.YtdmkfgkmnpohlaaGreat
open Go Go.Vc Txt
structure FitsU (p : Packed) (g : Grid) (l : Layout) : Prop where
 len : l.pos.length = p.blocks.length
 fit : ∀ k,k < l.pos.length -> qzX g (p.blocks.getD k default) (l.pos.getD k 0) /\ l.pos.getD k 0 ∉ l.pos.take k
 sh : ∀ r ∈ l.routes,RouteSh g r
 nds : (qAK l.routes).Nodup
theorem fitsU_iff {p : Packed} {g : Grid} {l : Layout} : FitsU p g l ↔ FitsF p g l := by
 constructor
 ·rintro ⟨h1,h2,h3,h4⟩
  refine ⟨h1,fun z hz => ?_,(qAR _).2 fun i hi => (h2 i hi).2,h3,h4⟩
  obtain ⟨i,hi,e⟩ := List.getElem_of_mem hz
  rw [List.getElem_zip] at e
  rw [List.length_zip] at hi
  have := (h2 i (by omega)).1
  rw [<- e]
  simpa [show i < p.blocks.length by omega,show i < l.pos.length by omega] using this
 ·rintro ⟨h1,h2,h3,h4,h5⟩
  refine ⟨h1,fun k hk => ⟨?_,(qAR _).1 h3 k hk⟩,h4,h5⟩
  have := h2 (p.blocks[k]'(by omega),l.pos[k]) (List.mem_iff_getElem.2 ⟨k,by rw [List.length_zip]; omega,by rw [List.getElem_zip]⟩)
  simpa [show k < p.blocks.length by omega,hk] using this
theorem qE8 {rs : List Route} {k : Nat} (h : k < rs.length) : qAK (rs.take (k + 1)) = qAK (rs.take k) ++ (rs.getD k default).nodes := by
 unfold qAK
 rw [List.take_add_one,List.getElem?_eq_getElem h,List.map_append,List.flatten_append,List.getD_eq_getElem?_getD,List.getElem?_eq_getElem h]
 simp
theorem qE9 {rs : List Route} {k : Nat} (h : k < rs.length) : qAK rs = qAK (rs.take k) ++ ((rs.getD k default).nodes ++ qAK (rs.drop (k + 1))) := by
 rw [<- List.append_assoc,<- qE8 h]
 unfold qAK
 rw [<- List.flatten_append,<- List.map_append,List.take_append_drop]
open Classical in
set_option maxHeartbeats 4000000 in
theorem qEa (p : Packed) (g : Grid) (hg : GOk g) (l : Layout) (h1 : (l.pos.length : Int) <= 1000000) (h2 : (l.routes.length : Int) <= 1000000) (h3 : ∀ r ∈ l.routes, (r.nodes.length : Int) <= 1000000 /\ (r.frm.length : Int) <= 1000000) :
  FnEq Tryz.prog 43 [.agg (qwC false p),.agg (quy false g),.agg (layC false l)] (.bool (decide (FitsF p g l))) := by
 have hcn := hg.count
 have hiff := fitsU_iff (p := p) (g := g) (l := l)
 refine FnEq.of_awp Tryz.func43 ok43m (by show 3 <= _; decide) (by simp only [push_cast,reduceIte,reduceEqDiff,reduceAdd,reduceSub,reduceMul,Nat.reduceBEq,reduceLT,reduceLeDiff,reduceCtorEq,reduceToNat,reduceNeg] <;> first | exact fun _ _ => trivial | simp) ?_
 simp only [ac43m,rv43m,push_cast,reduceIte,reduceEqDiff,reduceAdd,reduceSub,reduceMul,Nat.reduceBEq,reduceLT,reduceLeDiff,reduceCtorEq,reduceToNat,reduceNeg]
 refine qnR (fun e => ?_) fun e => ?_
 ·rw [decide_eq_false fun h => by have := h.len; omega]
 have hlen : l.pos.length = p.blocks.length := by omega
 refine qoH (fun m st => ∃ k : Nat,k <= l.pos.length /\ m = l.pos.length - k /\ (∀ i,i < k -> qzX g (p.blocks.getD i default) (l.pos.getD i 0) /\ l.pos.getD i 0 ∉ l.pos.take i) /\
  st = ⟨[(3,.ptr 3 0),(4,.ptr 4 0),(5,.ptr 5 0),(7,.int k)],[(3,qwC false p),(4,quy false g),(5,layC false l)],[],[]⟩) l.pos.length ?_ ?_
 ·refine ⟨0,by omega,by omega,fun i hi => by omega,?_⟩
  simp only [push_cast,reduceIte,reduceEqDiff,reduceAdd,reduceSub,reduceMul,Nat.reduceBEq,reduceLT,reduceLeDiff,reduceCtorEq,reduceToNat,reduceNeg]
  try done
 rintro m st ⟨k,hk,rfl,hup,rfl⟩
 have e0 : ∀ (l : List Int) (j : Nat),l.getD j default = l.getD j 0 := fun _ _ => rfl
 simp only [e0,push_cast,reduceIte,reduceEqDiff,reduceAdd,reduceSub,reduceMul,Nat.reduceBEq,reduceLT,reduceLeDiff,reduceCtorEq,reduceToNat,reduceNeg]
 refine qnR (fun h => ?_) fun h => ?_
 ·obtain ⟨C,hC⟩ : ∃ C,C = decide (¬ (qzX g (p.blocks.getD k default) (l.pos.getD k 0) /\ l.pos.getD k 0 ∉ l.pos.take k)) := ⟨_,rfl⟩
  repeat (refine And.intro (by omega) ?_)
  first | refine qro (qzY g hg (p.blocks.getD k default) (l.pos.getD k 0)) (by exact ⟨.refl _,.refl _,.refl _,trivial⟩) rfl ?_ | refine qrm (qzY g hg (p.blocks.getD k default) (l.pos.getD k 0)) (by exact ⟨.refl _,.refl _,.refl _,trivial⟩) ?_
  simp only [e0,push_cast,reduceIte,reduceEqDiff,reduceAdd,reduceSub,reduceMul,Nat.reduceBEq,reduceLT,reduceLeDiff,reduceCtorEq,reduceToNat,reduceNeg]
  refine qrz ⟨[(3,.ptr 3 0),(4,.ptr 4 0),(5,.ptr 5 0),(7,.int k),(50,.bool C)],[(3,qwC false p),(4,quy false g),(5,layC false l)],[],[]⟩ ?_ ?_
  ·refine qrx rfl (fun q1 => ?_) fun q1 => ?_ <;> simp only [e0,push_cast,reduceIte,reduceEqDiff,reduceAdd,reduceSub,reduceMul,Nat.reduceBEq,reduceLT,reduceLeDiff,reduceCtorEq,reduceToNat,reduceNeg]
   ·rw [show C = true from by rw [hC]; exact decide_eq_true fun h => qyX q1 h.1]
   ·replace q1 := qyY q1
    repeat (refine And.intro (by omega) ?_)
    refine qrm (qzW (l.pos.take k) (by rw [List.length_take]; omega) (l.pos.getD k 0)) sC ?_
    refine sB ?_
    rw [show C = decide (0 <= qzU (l.pos.take k) (l.pos.getD k 0)) from by
     rw [hC,decide_eq_decide]
     unfold qzU
     split
     ·rename_i q3; exact ⟨fun _ => by omega,fun _ h => h.2 q3⟩
     ·rename_i q3; exact ⟨fun h => absurd ⟨q1,q3⟩ h,fun h => by omega⟩]
  refine sB ?_
  refine qnQ (fun q => ?_) fun q => ?_
  ·rw [hC,decide_eq_true_eq] at q
   rw [decide_eq_false fun h2 => q ((hiff.2 h2).fit k (by omega))]
  ·rw [hC,decide_eq_false_iff_not,Classical.not_not] at q
   refine ⟨by omega,_,?_,k + 1,by omega,rfl,fun i hi => ?_,?_⟩
   ·omega
   ·by_cases h3 : i = k
    ·subst h3; exact q
    ·exact hup i (by omega)
   ·exact sC
 have hk2 : k = l.pos.length := by omega
 subst hk2
 refine qrm (quI g hg) sC ?_
 refine sB ?_
 repeat (refine And.intro (by omega) ?_)
 obtain ⟨c,hc⟩ : ∃ c : Nat,quD g = c := ⟨(quD g).toNat,by omega⟩
 rw [hc,Int.toNat_natCast,List.length_replicate,qA9]
 refine qoH (fun m st => ∃ k : Nat,k <= l.routes.length /\ m = l.routes.length - k /\ ((∀ i,i < k -> RouteSh g (l.routes.getD i default)) /\ (qAK (l.routes.take k)).Nodup) /\
  st = ⟨[(4,.ptr 4 0),(5,.ptr 5 0),(8,.view 53 0 c),(9,.int k)],[(4,quy false g),(5,layC false l)],[(53,⟨1,4,rows qk7 (qA5 c (qAK (l.routes.take k)))⟩)],[]⟩) l.routes.length ?_ ?_
 ·refine ⟨0,by omega,by omega,⟨fun i hi => by omega,by simp [qAK]⟩,?_⟩
  simp only [List.take_zero,show qAK [] = [] from rfl,push_cast,reduceIte,reduceEqDiff,reduceAdd,reduceSub,reduceMul,Nat.reduceBEq,reduceLT,reduceLeDiff,reduceCtorEq,reduceToNat,reduceNeg]
  try done
 rintro m st ⟨k,hk,rfl,⟨hsh,hnd⟩,rfl⟩
 simp only [e0,push_cast,reduceIte,reduceEqDiff,reduceAdd,reduceSub,reduceMul,Nat.reduceBEq,reduceLT,reduceLeDiff,reduceCtorEq,reduceToNat,reduceNeg]
 refine qnR (fun h => ?_) fun h => ?_
 ·have hkl : k < l.routes.length := by omega
  have hrm : l.routes.getD k default ∈ l.routes := by simp [hkl]
  have hft := qE8 hkl
  have hfs := qE9 hkl
  have hrl := h3 _ hrm
  have hRt := qDU g hg (l.routes.getD k default) hrl.1 hrl.2
  generalize hr : l.routes.getD k default = r at *
  repeat (refine And.intro (by omega) ?_)
  first | refine qro hRt (by exact ⟨.refl _,.refl _,trivial⟩) rfl ?_ | refine qrm hRt (by exact ⟨.refl _,.refl _,trivial⟩) ?_
  refine sB ?_
  refine qnQ (fun q => ?_) fun q => ?_
  ·rw [decide_eq_false fun h2 => qyX q (h2.sh _ hrm)]
  replace q := qyY q
  generalize hF : qAK (l.routes.take k) = sn at *
  refine qoH (fun m st => ∃ j : Nat,j <= r.nodes.length /\ m = r.nodes.length - j /\ (sn ++ r.nodes.take j).Nodup /\
   st = ⟨[(4,.ptr 4 0),(5,.ptr 5 0),(8,.view 53 0 c),(9,.int k),(10,.int j)],[(4,quy false g),(5,layC false l)],[(53,⟨1,4,rows qk7 (qA5 c (sn ++ r.nodes.take j))⟩)],[]⟩) r.nodes.length ?_ ?_
  ·refine ⟨0,by omega,by omega,by simpa using hnd,?_⟩
   simp only [List.take_zero,List.append_nil,push_cast,reduceIte,reduceEqDiff,reduceAdd,reduceSub,reduceMul,Nat.reduceBEq,reduceLT,reduceLeDiff,reduceCtorEq,reduceToNat,reduceNeg]
   try done
  rintro m st ⟨j,hj,rfl,hnj,rfl⟩
  simp only [e0,hr,push_cast,reduceIte,reduceEqDiff,reduceAdd,reduceSub,reduceMul,Nat.reduceBEq,reduceLT,reduceLeDiff,reduceCtorEq,reduceToNat,reduceNeg]
  repeat (refine And.intro (by omega) ?_)
  refine qnR (fun h4 => ?_) fun h4 => ?_
  ·have hjl : j < r.nodes.length := by omega
   have hn := q.rng _ (qza (l := r.nodes) (k := j) hjl)
   have ht := qAB (l := r.nodes) (k := j) hjl
   simp only [qA6,push_cast,reduceIte,reduceEqDiff,reduceAdd,reduceSub,reduceMul,Nat.reduceBEq,reduceLT,reduceLeDiff,reduceCtorEq,reduceToNat,reduceNeg]
   repeat (refine And.intro (by omega) ?_)
   rw [show ((qA5 c (sn ++ List.take j r.nodes)).getD (r.nodes.getD j 0).toNat default) = decide (r.nodes.getD j 0 ∈ sn ++ List.take j r.nodes) from qA7 (by omega) _]
   refine qnR (fun q2 => ?_) fun q2 => ?_
   ·rw [decide_eq_false fun h2 => ?_]
    have hN := (hiff.2 h2).nds
    rw [hfs,<- List.append_assoc] at hN
    have hsub : (sn ++ r.nodes.take (j + 1)).Sublist (sn ++ r.nodes ++ qAK (l.routes.drop (k + 1))) := (List.Sublist.append (List.Sublist.refl _) (List.take_sublist _ _)).trans (List.sublist_append_left _ _)
    have := hN.sublist hsub
    rw [ht,<- List.append_assoc,List.nodup_append] at this
    exact this.2.2 _ q2 _ (List.mem_singleton.2 rfl) rfl
   ·refine ⟨by omega,by omega,by omega,by omega,by omega,by omega,by omega,_,?_,j + 1,by omega,rfl,?_,?_⟩
    ·omega
    ·rw [ht,<- List.append_assoc,List.nodup_append]
     exact ⟨hnj,by simp,fun a ha b hb e => q2 (by rw [List.mem_singleton] at hb; subst hb; subst e; exact ha)⟩
    ·rw [ht,<- List.append_assoc,<- qA8 (by omega)]
     exact sC
  rw [List.take_of_length_le (show r.nodes.length <= j by omega)] at hnj ⊢
  refine ⟨by omega,_,?_,k + 1,by omega,rfl,⟨fun i hi => ?_,?_⟩,?_⟩
  ·omega
  ·by_cases h5 : i = k
   ·subst h5; rw [hr]; exact q
   ·exact hsh i (by omega)
  ·rw [hft]; exact hnj
  ·rw [hft]
   exact sC
 have hk3 : k = l.routes.length := by omega
 subst hk3
 rw [List.take_length] at hnd
 rw [decide_eq_true (hiff.1 ⟨hlen,hup,fun r hr => ?_,hnd⟩)]
 obtain ⟨i,hi,rfl⟩ := List.getElem_of_mem hr
 have := hsh i hi
 simpa [hi] using this
end Go.Proofs.YtdmkfgkmnpohlaaGreat
