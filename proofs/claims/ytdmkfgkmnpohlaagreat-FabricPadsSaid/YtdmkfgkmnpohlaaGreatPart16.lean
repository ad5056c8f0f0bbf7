/- GH GZ HB HC HE HF PPads: FabricPads holds for every case and every number: the row. -/
import Derived.Test.YtdmkfgkmnpohlaaGreatPart15
import Derived.Test.YtdmkfgkmnpohlaaGreatPart14
import Derived.Test.YtdmkfgkmnpohlaaGreatRows
set_option linter.unusedSimpArgs false
set_option linter.unusedVariables false
open Nat (reduceEqDiff reduceAdd reduceSub reduceMul reduceLT reduceLeDiff)
open Int (reduceToNat reduceNeg)
namespace Go.Proofs.YtdmkfgkmnpohlaaGreat
open Go Go.Vc Txt
set_option maxHeartbeats 8000000 in
theorem qGi (g : Grid) (hg : GOk g) (c : Cfg) (hc : CfgG g c) : FnEq Tryz.prog 10 [.agg (quy false g),.agg (cfgC false c)] (.bool (qxJ (depF g c) c.sel.length)) := by
 have hcn := hg.count
 have l1 := hc.ln.1
 have hrec := qGh g hg c hc c.sel.length
 have hO := qCZ g hg c hc
 refine FnEq.of_awp Tryz.func10 ok10 (by show 2 <= _; decide) (by simp only [push_cast,reduceIte,reduceEqDiff,reduceAdd,reduceSub,reduceMul,Nat.reduceBEq,reduceLT,reduceLeDiff,reduceCtorEq,reduceToNat,reduceNeg] <;> first | exact fun _ _ => trivial | simp) ?_
 simp only [ac10,rv10,push_cast,reduceIte,reduceEqDiff,reduceAdd,reduceSub,reduceMul,Nat.reduceBEq,reduceLT,reduceLeDiff,reduceCtorEq,reduceToNat,reduceNeg]
 refine qCR [313] [335,348,367] hO rfl rfl rfl ?_
 simp only [opA,opV,push_cast,reduceIte,reduceEqDiff,reduceAdd,reduceSub,reduceMul,Nat.reduceBEq,reduceLT,reduceLeDiff,reduceCtorEq,reduceToNat,reduceNeg]
 refine qoF qxi ?_
 refine sB ?_
 refine ⟨by omega,?_⟩
 have hD : dfsL (dfs (depF g c) c.sel.length) (List.replicate c.sel.length 0) (List.range c.sel.length) = dfsL (dfs (depF g c) c.sel.length) (List.replicate c.sel.length 0) ((List.range c.sel.length).drop 0) := rfl
 have hz0 : qxO (List.replicate c.sel.length (0 : Int)) <= c.sel.length := by
  have := List.countP_le_length (p := (· == (0 : Int))) (l := List.replicate c.sel.length (0 : Int))
  rw [List.length_replicate] at this
  exact this
 refine qoH (fun m s => ∃ (k : Nat) (st : List Int),k <= c.sel.length /\ m = c.sel.length - k /\ st.length = c.sel.length /\ qxO st <= c.sel.length /\ (qxJ (depF g c) c.sel.length = (dfsL (dfs (depF g c) c.sel.length) st ((List.range c.sel.length).drop k)).1) /\
  s = ⟨[(8,.ptr 8 0),(25,.int c.sel.length),(26,.int k)],BXL g c,ARL g c st,[]⟩) c.sel.length ?_ ?_
 ·refine ⟨0,List.replicate c.sel.length 0,by omega,by omega,by simp,hz0,rfl,?_⟩
  simp only [List.length_replicate,push_cast,reduceIte,reduceEqDiff,reduceAdd,reduceSub,reduceMul,Nat.reduceBEq,reduceLT,reduceLeDiff,reduceCtorEq,reduceToNat,reduceNeg]
  done
 rintro m s ⟨k,st,hk,rfl,hl,hz,hd,rfl⟩
 refine sB ?_
 refine qnR (fun h => ?_) fun h => ?_
 ·have hkn : k < c.sel.length := by omega
  have hdr : (List.range c.sel.length).drop k = k :: (List.range c.sel.length).drop (k + 1) := by
   rw [List.drop_eq_getElem_cons (by simp; omega)]
   simp
  have hzs := qG3 (depF g c) c.sel.length st k
  have hls := qxL (depF g c) c.sel.length st k
  rw [hdr,dfsL] at hd
  refine qst (v := .bool (dfs (depF g c) c.sel.length st k).1) (st1 := ⟨[(8,.ptr 8 0),(9,.int k),(25,.int c.sel.length),(26,.int k)],BXL g c,ARL g c (dfs (depF g c) c.sel.length st k).2,[]⟩)
   (FnM.stkf0 PSL [(8,.ptr 8 0),(9,.int k),(25,.int c.sel.length),(26,.int k)] rfl rfl rfl ?_ (FnM.mono (hrec k st [] hl hkn hz) ?_)) ?_
  ·refine sB ?_
   try decide
  ·rintro r st' ⟨rfl,rfl⟩
   exact ⟨_,_,_,rfl,⟨rfl,rfl⟩⟩
  refine sB ?_
  refine qnQ (fun e => ?_) fun e => ?_
  ·rw [if_pos e] at hd
   rw [hd]
   try rfl
  ·rw [if_neg (by rw [e]; decide)] at hd
   exact ⟨by omega,_,by omega,k + 1,_,by omega,rfl,by omega,by omega,hd,rfl⟩
 ·have hkn : k = c.sel.length := by omega
  rw [hd,hkn,List.drop_of_length_le (by simp)]
  rfl
set_option maxHeartbeats 8000000 in
theorem qGj : FnEq Tryz.prog 6 [] (.bool true) := by
 have e1 : ∀ (l : List Bool) (j : Nat),l.getD j default = l.getD j false := fun _ _ => rfl
 have i2 := qFV 2 (.inr rfl)
 have i1 := qFV 1 (.inl rfl)
 have c2 := qFS 2 (.inr rfl)
 have c1 := qFS 1 (.inl rfl)
 have hS0 := qE3 gX qFR (cX 2) c2 ⟨[0],[]⟩ []
 have hS1 := qE3 gX qFR (cX 2) c2 ⟨[1],[]⟩ []
 have hT0 := qFW gX qFR (cX 2) c2 0 rfl rfl
 have hT1 := qFW gX qFR (cX 2) c2 1 rfl rfl
 have hL2 := qGi gX qFR (cX 2) c2
 have hL1 := qGi gX qFR (cX 1) c1
 have hB1 := qE5 gX qFR (cX 2) c2 ⟨[1],[]⟩ [] vX1 vX1_at.1
 have hB0 := qE5 gX qFR (cX 2) c2 ⟨[1],[]⟩ [] vX0 vX0_at.1
 have hR1 := qE4 gX qFR (cX 2) c2 ⟨[1],[]⟩ [] vX1 vX1_at.1
 rw [qG0] at hS0 hT0
 rw [qG1] at hS1 hT1
 rw [show (cX 2).sel.length = 18 from rfl] at hL2 hB1 hB0 hR1 i2 hS0 hS1 hT0 hT1
 rw [show (cX 1).sel.length = 18 from rfl] at hL1 i1
 rw [lpX2] at hL2
 rw [lpX1] at hL1
 rw [stX1,decide_eq_true rfl] at hB1
 rw [stX1] at hR1
 rw [decide_eq_false stX0] at hB0
 rw [qFJ,vX0_at.2.1,if_pos rfl] at hT0
 rw [qFJ,vX1_at.2.1,if_neg (by decide)] at hT1
 obtain ⟨l0,a0,a6⟩ := vX0_at
 obtain ⟨l1,b0,b1,b6⟩ := vX1_at
 clear c1 c2
 generalize vX0 = v0 at *
 generalize vX1 = v1 at *
 generalize qCs gX (cX 2) 18 = d2 at *
 generalize qCs gX (cX 1) 18 = d1 at *
 have g2 := qFR
 generalize cX 2 = x2 at *
 generalize cX 1 = x1 at *
 generalize gX = g at *
 refine FnEq.of_awp Tryz.func6 ok6 (by show 0 <= _; decide) (by simp only [push_cast,reduceIte,reduceEqDiff,reduceAdd,reduceSub,reduceMul,Nat.reduceBEq,reduceLT,reduceLeDiff,reduceCtorEq,reduceToNat,reduceNeg] <;> first | exact fun _ _ => trivial | simp) ?_
 simp only [ac6,rv6,push_cast,reduceIte,reduceEqDiff,reduceAdd,reduceSub,reduceMul,Nat.reduceBEq,reduceLT,reduceLeDiff,reduceCtorEq,reduceToNat,reduceNeg]
 refine qrm i2 sC ?_
 refine sB ?_
 refine qrm i1 sC ?_
 refine sB ?_
 refine ⟨by simp,?_⟩
 refine qrm hS0 sC ?_
 refine sB ?_
 refine qrm hT0 sC ?_
 refine sB ?_
 refine ⟨by simp,?_⟩
 refine qrm hS1 sC ?_
 refine sB ?_
 refine qrm hT1 sC ?_
 have L0 : ((v0.length : Nat) : Int) = 18 := by rw [l0]; rfl
 have L1 : ((v1.length : Nat) : Int) = 18 := by rw [l1]; rfl
 have d18 : decide ((18 : Int) ≠ 18) = false := by decide
 simp only [L0,L1,e1,a0,a6,b0,b1,b6,d18,Bool.not_true,Bool.not_false,push_cast,reduceIte,reduceEqDiff,reduceAdd,reduceSub,reduceMul,Nat.reduceBEq,reduceLT,reduceLeDiff,reduceCtorEq,reduceToNat,reduceNeg]
 have I1 := qx4 [1] [1] (by decide)
 have I0 := qx4 [0] [0] (by decide)
 have V1 := qx5 v1 v1 (by omega)
 rw [decide_eq_true rfl] at I1 I0 V1
 refine ⟨by omega,by omega,by omega,by omega,by omega,by omega,by omega,by omega,by omega,by omega,by simp,?_⟩
 refine qrm I1 ⟨slTF _ _,.refl _,trivial⟩ ?_
 simp only [Bool.not_true,Bool.not_false,push_cast,reduceIte,reduceEqDiff,reduceAdd,reduceSub,reduceMul,Nat.reduceBEq,reduceLT,reduceLeDiff,reduceCtorEq,reduceToNat,reduceNeg]
 refine ⟨by simp,?_⟩
 refine qrm I0 ⟨slTF _ _,.refl _,trivial⟩ ?_
 simp only [Bool.not_true,Bool.not_false,push_cast,reduceIte,reduceEqDiff,reduceAdd,reduceSub,reduceMul,Nat.reduceBEq,reduceLT,reduceLeDiff,reduceCtorEq,reduceToNat,reduceNeg]
 refine qrm hL2 ⟨qDV g,qDW x2,trivial⟩ ?_
 simp only [Bool.not_true,Bool.not_false,push_cast,reduceIte,reduceEqDiff,reduceAdd,reduceSub,reduceMul,Nat.reduceBEq,reduceLT,reduceLeDiff,reduceCtorEq,reduceToNat,reduceNeg]
 refine qrm hL1 ⟨qDV g,qDW x1,trivial⟩ ?_
 simp only [Bool.not_true,Bool.not_false,push_cast,reduceIte,reduceEqDiff,reduceAdd,reduceSub,reduceMul,Nat.reduceBEq,reduceLT,reduceLeDiff,reduceCtorEq,reduceToNat,reduceNeg]
 refine qrm hB1 sC ?_
 simp only [Bool.not_true,Bool.not_false,push_cast,reduceIte,reduceEqDiff,reduceAdd,reduceSub,reduceMul,Nat.reduceBEq,reduceLT,reduceLeDiff,reduceCtorEq,reduceToNat,reduceNeg]
 refine qrm hB0 sC ?_
 simp only [Bool.not_true,Bool.not_false,push_cast,reduceIte,reduceEqDiff,reduceAdd,reduceSub,reduceMul,Nat.reduceBEq,reduceLT,reduceLeDiff,reduceCtorEq,reduceToNat,reduceNeg]
 refine qrm hR1 sC ?_
 simp only [Bool.not_true,Bool.not_false,push_cast,reduceIte,reduceEqDiff,reduceAdd,reduceSub,reduceMul,Nat.reduceBEq,reduceLT,reduceLeDiff,reduceCtorEq,reduceToNat,reduceNeg]
 refine qrm V1 ⟨slTF _ _,slTF _ _,trivial⟩ ?_
 simp only [Bool.not_true,Bool.not_false,push_cast,reduceIte,reduceEqDiff,reduceAdd,reduceSub,reduceMul,Nat.reduceBEq,reduceLT,reduceLeDiff,reduceCtorEq,reduceToNat,reduceNeg]
 done
theorem qGk (g : Grid) (c : Cfg) (dr : List Int) (s : PSt) (p : List Bool) : Sub (.agg (qDX true g c dr s p)) (.agg (qDX false g c dr s p)) :=
 Sub.aggL ⟨.refl _,.refl _,.refl _,.refl _,slTF _ _,slTF _ _,slTF _ _,slTF _ _,slTF _ _,slTF _ _,slTF _ _,Sub.slR 1 (fun h => by cases h) (SubR.map _ _ _ fun r _ => ⟨slTF _ _,trivial⟩),slTF _ _,trivial⟩
theorem qGl (n : Nat) (l : List Int) : (qx7 n l).length = n := by simp [qx7]
theorem qGn {us : List Ty} : ∀ {ts : List Ty} {a : List PV},RowV (ts ++ us) a -> ∃ a1 a2,a = a1 ++ a2 /\ RowV ts a1 /\ RowV us a2
 | [],a,h => ⟨[],a,rfl,⟨rfl,fun j t c h1 => by simp at h1⟩,h⟩
 | t :: ts, a, h => by
   obtain ⟨c,r,rfl,hc,hr⟩ := qmn h
   obtain ⟨a1,a2,rfl,h1,h2⟩ := qGn hr
   refine ⟨c :: a1,a2,rfl,⟨by rw [List.length_cons,List.length_cons,h1.1],fun j t' c' e1 e2 => ?_⟩,h2⟩
   cases j with
   | zero => simp at e1 e2; subst e1; subst e2; exact hc
   | succ j => exact h1.2 j t' c' (by simpa using e1) (by simpa using e2)
def u8T : Ty := .sl 1 [.i .u8]
def trT : Ty := .sl 3 [.i .u8,.i .u8,.i .u8]
def isT : Ty := .sl 1 [.i .i64]
def qGo : List Ty := [u8T,trT,trT,isT,.sl 1 [isT],.sl 2 [.b,.i .i64],.sl 1 [.b],u8T,u8T]
def qGp : List Ty := qEW ++ qGo
theorem qGq {c : PV} (h : qEt .b c) : ∃ b : Bool,c = .bool b := by cases h; exact ⟨_,rfl⟩
theorem qGr {c : PV} (h : qEt trT c) : ∃ l : List (Int × Int × Int),c = .sl true 3 (rows qAp l) := by
 obtain ⟨rs,rfl,_,hr⟩ := qEL h
 obtain ⟨bs,rfl,_⟩ := qEM (f := qAp) (Q := fun _ => True) (rs := rs) fun r hr2 => by
  obtain ⟨d0,q0,rfl,e0,g0⟩ := qmn (hr r hr2)
  obtain ⟨d1,q1,rfl,e1,g1⟩ := qmn g0
  obtain ⟨d2,q2,rfl,e2,g2⟩ := qmn g1
  obtain ⟨m0,rfl,_⟩ := qEJ e0
  obtain ⟨m1,rfl,_⟩ := qEJ e1
  obtain ⟨m2,rfl,_⟩ := qEJ e2
  rw [qEH g2]
  exact ⟨(m0,m1,m2),rfl,trivial⟩
 exact ⟨bs,rfl⟩
theorem qGs {a : List PV} (h : RowV qGp a) : ∃ z : CaseA,z.By /\ a = qF4 true z := by
 obtain ⟨a0,r,rfl,h0,k0⟩ := qGn h
 obtain ⟨x,hx,rfl⟩ := qEX h0
 obtain ⟨c1,a1,rfl,h1,k1⟩ := qmn k0
 obtain ⟨c2,a2,rfl,h2,k2⟩ := qmn k1
 obtain ⟨c3,a3,rfl,h3,k3⟩ := qmn k2
 obtain ⟨c4,a4,rfl,h4,k4⟩ := qmn k3
 obtain ⟨c5,a5,rfl,h5,k5⟩ := qmn k4
 obtain ⟨c6,a6,rfl,h6,k6⟩ := qmn k5
 obtain ⟨c7,a7,rfl,h7,k7⟩ := qmn k6
 obtain ⟨c8,a8,rfl,h8,k8⟩ := qmn k7
 obtain ⟨c9,a9,rfl,h9,k9⟩ := qmn k8
 rw [qEH k9]
 obtain ⟨wild,rfl,w1,w2⟩ := qEN h1
 obtain ⟨ins,rfl⟩ := qGr h2
 obtain ⟨out,rfl⟩ := qGr h3
 obtain ⟨regs,rfl,_⟩ := qEO h4
 obtain ⟨ms,rfl,hml,hm⟩ := qEL h5
 obtain ⟨mems,rfl,_⟩ := qEM (f := memC true) (Q := fun _ => True) (rs := ms) fun r hr => by
  obtain ⟨d0,q0,rfl,e0,g0⟩ := qmn (hm r hr)
  obtain ⟨l,rfl,_⟩ := qEO e0
  rw [qEH g0]
  exact ⟨l,rfl,trivial⟩
 obtain ⟨hs,rfl,_,hh⟩ := qEL h6
 obtain ⟨heads,rfl,_⟩ := qEM (f := qF2) (Q := fun _ => True) (rs := hs) fun r hr => by
  obtain ⟨d0,q0,rfl,e0,g0⟩ := qmn (hh r hr)
  obtain ⟨d1,q1,rfl,e1,g1⟩ := qmn g0
  obtain ⟨b,rfl⟩ := qGq e0
  obtain ⟨n,rfl,_⟩ := qEK e1
  rw [qEH g1]
  exact ⟨(b,n),rfl,trivial⟩
 obtain ⟨rs,rfl,_,hr⟩ := qEL h7
 obtain ⟨rooms,rfl,_⟩ := qEM (f := qk7) (Q := fun _ => True) (rs := rs) fun r hr2 => by
  obtain ⟨d0,q0,rfl,e0,g0⟩ := qmn (hr r hr2)
  obtain ⟨b,rfl⟩ := qGq e0
  rw [qEH g0]
  exact ⟨b,rfl,trivial⟩
 obtain ⟨pads,rfl,p1,p2⟩ := qEN h8
 obtain ⟨v,rfl,v1,v2⟩ := qEN h9
 have hmx : maxLen = 9223372036854775807 := rfl
 simp only [rows,List.length_map] at hml
 exact ⟨⟨x,wild,ins,out,⟨regs,mems⟩,heads,rooms,pads,v⟩,⟨hx,w1,w2,p1,p2,v1,v2,by show (mems.length : Int) <= _; omega⟩,rfl⟩
set_option maxHeartbeats 8000000 in
set_option maxRecDepth 20000 in
theorem qGz (z : CaseA) (hz : z.By) (k : Int) (hk : 0 <= k /\ k <= 255) : FnEq Tryz.prog 4 [.agg (qF4 true z),.sc (.int .u8 k)] (.bool true) := by
 refine FnEq.of_awp Tryz.func4 ok4c (by show 2 <= _; decide) (by simp only [push_cast,reduceIte,reduceEqDiff,reduceAdd,reduceSub,reduceMul,Nat.reduceBEq,reduceLT,reduceLeDiff,reduceCtorEq,reduceToNat,reduceNeg] <;> first | exact fun _ _ => trivial | simp) ?_
 have e1 : ∀ (l : List Bool) (j : Nat),l.getD j default = l.getD j false := fun _ _ => rfl
 have e0 : ∀ (l : List Int) (j : Nat),l.getD j default = l.getD j 0 := fun _ _ => rfl
 have hA := qFa z hz
 have hS := qF9 z hz
 obtain ⟨hg,hp4⟩ := qBZ z.x.g
 have hc := qF7 hz
 have hcn := hg.count
 have l1 := hc.ln.1
 have hbl := qGl 4 z.pads
 have hSe := fun p => qE3 (qBX z.x.g) hg (qF6 z) hc z.s p
 have hsf : ∀ p,setF (qBX z.x.g) (qF6 z) z.s p = qxk (rndF (qBX z.x.g) (qF6 z) z.s p) (qF6 z).sel.length (qF6 z).sel.length (List.replicate (qF6 z).sel.length false) := fun p => qxq _ _ _ _
 have hwl : ∀ p,(setF (qBX z.x.g) (qF6 z) z.s p).length = (qF6 z).sel.length := fun p => qD0 (by simp) _
 have hdr : ∀ k,k < (qF6 z).sel.length -> (qCs (qBX z.x.g) (qF6 z) (qF6 z).sel.length).getD k 0 = qzD (qBX z.x.g) (qF6 z) k := fun k => qCB
 have hdl := qD6 (qBX z.x.g) (qF6 z) (qF6 z).sel.length
 simp only [ac4c,rv4c,qF4,List.cons_append,List.nil_append,push_cast,reduceIte,reduceEqDiff,reduceAdd,reduceSub,reduceMul,Nat.reduceBEq,reduceLT,reduceLeDiff,reduceCtorEq,reduceToNat,reduceNeg] at hA hS ⊢
 generalize qCs (qBX z.x.g) (qF6 z) (qF6 z).sel.length = dr at *
 generalize qx7 4 z.pads = bp at *
 generalize qBX z.x.g = g at *
 generalize qF6 z = c at *
 refine qoF qGj ?_
 refine sB ?_
 refine qoG hS ?_
 rintro r ⟨b,rfl⟩
 refine sB ?_
 refine qnQ (fun e => ?_) fun e => ?_
 ·trivial
 refine qoF hA ?_
 simp only [List.cons_append,List.nil_append,push_cast,reduceIte,reduceEqDiff,reduceAdd,reduceSub,reduceMul,Nat.reduceBEq,reduceLT,reduceLeDiff,reduceCtorEq,reduceToNat,reduceNeg]
 have hpk : 0 <= k % 4 /\ k % 4 < 4 := by omega
 refine ⟨by omega,by omega,by omega,by omega,?_⟩
 generalize hpd : k % 4 = pd at *
 have hI := qx9 bp pd.toNat (by omega) (by omega)
 rw [show ((pd.toNat : Nat) : Int) = pd by omega] at hI
 generalize hbq : bp.set pd.toNat (!bp.getD pd.toNat false) = bq at *
 refine qro hI ?_ ?_ ?_
 ·exact ⟨slTF _ _,.refl _,trivial⟩
 ·rfl
 simp only [List.cons_append,List.nil_append,push_cast,reduceIte,reduceEqDiff,reduceAdd,reduceSub,reduceMul,Nat.reduceBEq,reduceLT,reduceLeDiff,reduceCtorEq,reduceToNat,reduceNeg]
 refine qro (qE2 g c dr z.s z.s bp bq) ?_ ?_ ?_
 ·exact sC
 ·rfl
 simp only [List.cons_append,List.nil_append,push_cast,reduceIte,reduceEqDiff,reduceAdd,reduceSub,reduceMul,Nat.reduceBEq,reduceLT,reduceLeDiff,reduceCtorEq,reduceToNat,reduceNeg]
 have hw1 := hwl bp
 have hw2 := hwl bq
 have hS1 := hSe bp
 have hS2 := hSe bq
 have hs1 := hsf bp
 have hs2 := hsf bq
 generalize setF g c z.s bp = v at *
 generalize setF g c z.s bq = w at *
 refine qro hS1 ?_ ?_ ?_
 ·exact ⟨qGk g c dr z.s bp,trivial⟩
 ·rfl
 simp only [List.cons_append,List.nil_append,push_cast,reduceIte,reduceEqDiff,reduceAdd,reduceSub,reduceMul,Nat.reduceBEq,reduceLT,reduceLeDiff,reduceCtorEq,reduceToNat,reduceNeg]
 refine qrm hS2 ⟨qGk g c dr z.s bq,trivial⟩ ?_
 have hne : decide ((c.sel.length : Int) ≠ (c.sel.length : Int)) = false := decide_eq_false fun h => h rfl
 simp only [hw1,hw2,hne,e1,List.cons_append,List.nil_append,push_cast,reduceIte,reduceEqDiff,reduceAdd,reduceSub,reduceMul,Nat.reduceBEq,reduceLT,reduceLeDiff,reduceCtorEq,reduceToNat,reduceNeg]
 have hC : quD g = allI g + 2 * g.pads := rfl
 have hall := hg.all
 obtain ⟨P,hP⟩ : ∃ P : Nat,P = (allI g).toNat + pd.toNat := ⟨_,rfl⟩
 have hPI : (c.sel.length : Int) - 2 * g.pads + pd = (P : Int) := by omega
 have hPlt : P < c.sel.length := by omega
 have hst : ∀ p,(qxk (rndF g c z.s p) c.sel.length c.sel.length (List.replicate c.sel.length false)).getD P false = p.getD pd.toNat false := fun p => by
  obtain ⟨m,hm⟩ : ∃ m,c.sel.length = m + 1 := ⟨c.sel.length - 1,by omega⟩
  have e := qxp (rndF g c z.s p) c.sel.length m (List.replicate c.sel.length false)
  rw [<- hm] at e
  rw [e,qxr hPlt,hP]
  exact qCq hg c z.s p _ (by omega)
 have hvP : v.getD P false = bp.getD pd.toNat false := by rw [hs1]; exact hst bp
 have hbqP : bq.getD pd.toNat false = !bp.getD pd.toNat false := by
  rw [<- hbq,List.getD_eq_getElem?_getD,List.getElem?_set_self (by omega)]
  rfl
 have hwP : w.getD P false = !bp.getD pd.toNat false := by rw [hs2,hst bq,hbqP]
 have hbne : (v.getD P false == w.getD P false) = false := by rw [hvP,hwP]; cases bp.getD pd.toNat false <;> rfl
 simp only [hPI,Int.toNat_natCast,hbne,push_cast,reduceIte,reduceEqDiff,reduceAdd,reduceSub,reduceMul,Nat.reduceBEq,reduceLT,reduceLeDiff,reduceCtorEq,reduceToNat,reduceNeg]
 refine ⟨by omega,by omega,by omega,by omega,by omega,by omega,?_⟩
 refine qoH (fun m st => ∃ k : Nat,k <= c.sel.length /\ m = c.sel.length - k /\ st = ⟨[(5,.bool true),(6,.ptr 6 0),(7,.int ((c.sel.length : Int) - 2 * g.pads)),(8,.int pd),(10,.sl true 1 (rows qk7 v)),(11,.sl true 1 (rows qk7 w)),(12,.bool ((List.range k).any fun i => decide (dr.getD i 0 = (P : Int)))),(13,.int k)],[(6,qDX true g c dr z.s bp)],[],[]⟩) c.sel.length ?_ ?_
 ·refine ⟨0,by omega,by omega,?_⟩
  simp only [List.range_zero,List.any_nil,push_cast,reduceIte,reduceEqDiff,reduceAdd,reduceSub,reduceMul,Nat.reduceBEq,reduceLT,reduceLeDiff,reduceCtorEq,reduceToNat,reduceNeg]
 rintro m st ⟨k,hk2,rfl,rfl⟩
 simp only [hdl,push_cast,reduceIte,reduceEqDiff,reduceAdd,reduceSub,reduceMul,Nat.reduceBEq,reduceLT,reduceLeDiff,reduceCtorEq,reduceToNat,reduceNeg]
 refine qnR (fun h => ?_) fun h => ?_
 ·have hsu : ((List.range (k + 1)).any fun i => decide (dr.getD i 0 = (P : Int))) = (((List.range k).any fun i => decide (dr.getD i 0 = (P : Int))) || decide (dr.getD k 0 = (P : Int))) := by
   rw [List.range_succ,List.any_append]; simp
  generalize ((List.range k).any fun i => decide (dr.getD i 0 = (P : Int))) = u at *
  refine qrt rfl (fun eu => ?_) fun eu => ?_ <;> simp only [e0,hPI,push_cast,reduceIte,reduceEqDiff,reduceAdd,reduceSub,reduceMul,Nat.reduceBEq,reduceLT,reduceLeDiff,reduceCtorEq,reduceToNat,reduceNeg]
  ·refine ⟨by omega,_,?_,k + 1,by omega,rfl,?_⟩
   ·omega
   ·rw [hsu,eu,Bool.true_or]
    rfl
  ·refine ⟨by omega,by omega,by omega,by omega,_,?_,k + 1,by omega,rfl,?_⟩
   ·omega
   ·rw [hsu,eu,Bool.false_or]
    rfl
 ·have hkn : k = c.sel.length := by omega
  subst hkn
  have hu : ((List.range c.sel.length).any fun i => decide (dr.getD i 0 = (P : Int))) = false -> ∀ i,i < c.sel.length -> i ≠ P -> v.getD i false = w.getD i false := fun hu i hi hip => by
   rw [hs1,hs2]
   refine qCo (qCp hg hc z.s (pads := bp) (pads' := bq) (p := P) (by omega) (fun k hk => ?_) fun i hi e => ?_) _ _ _ (fun _ _ _ => rfl) i hi hip
   ·rw [<- hbq,List.getD_eq_getElem?_getD,List.getD_eq_getElem?_getD,List.getElem?_set_ne (by omega)]
   ·rw [List.any_eq_false] at hu
    exact hu i (List.mem_range.2 hi) (by rw [hdr i hi,e]; exact decide_eq_true rfl)
  generalize ((List.range c.sel.length).any fun i => decide (dr.getD i 0 = (P : Int))) = u at *
  refine qoH (fun m st => ∃ i : Nat,i <= c.sel.length /\ m = c.sel.length - i /\ st = ⟨[(5,.bool true),(7,.int ((c.sel.length : Int) - 2 * g.pads)),(8,.int pd),(10,.sl true 1 (rows qk7 v)),(11,.sl true 1 (rows qk7 w)),(12,.bool u),(14,.int i)],[],[],[]⟩) c.sel.length ?_ ?_
  ·refine ⟨0,by omega,by omega,?_⟩
   exact sC
  rintro m st ⟨i,hi,rfl,rfl⟩
  simp only [hw1,push_cast,reduceIte,reduceEqDiff,reduceAdd,reduceSub,reduceMul,Nat.reduceBEq,reduceLT,reduceLeDiff,reduceCtorEq,reduceToNat,reduceNeg]
  refine qry ⟨[(5,.bool true),(7,.int ((c.sel.length : Int) - 2 * g.pads)),(8,.int pd),(10,.sl true 1 (rows qk7 v)),(11,.sl true 1 (rows qk7 w)),(12,.bool u),(14,.int i),(103,.bool (decide (i < c.sel.length /\ u = false)))],[],[],[]⟩ ?_ ?_
  ·refine qrq rfl (fun h => ?_) fun h => ?_ <;> simp only [push_cast,reduceIte,reduceEqDiff,reduceAdd,reduceSub,reduceMul,Nat.reduceBEq,reduceLT,reduceLeDiff,reduceCtorEq,reduceToNat,reduceNeg]
   ·have h1 : i < c.sel.length := by omega
    cases u
    ·rw [decide_eq_true ⟨h1,rfl⟩]
     rfl
    ·rw [decide_eq_false (fun q => absurd q.2 (by decide))]
     rfl
   ·rw [decide_eq_false (fun q => h (by omega))]
  refine sB ?_
  refine qnR (fun h => ?_) fun h => ?_
  ·have hvw := hu h.2 i h.1
   simp only [hPI,push_cast,reduceIte,reduceEqDiff,reduceAdd,reduceSub,reduceMul,Nat.reduceBEq,reduceLT,reduceLeDiff,reduceCtorEq,reduceToNat,reduceNeg]
   refine ⟨by omega,?_⟩
   by_cases hip : i = P
   ·have dn : decide ((i : Int) ≠ (P : Int)) = false := decide_eq_false fun q => q (by omega)
    simp only [dn,push_cast,reduceIte,reduceEqDiff,reduceAdd,reduceSub,reduceMul,Nat.reduceBEq,reduceLT,reduceLeDiff,reduceCtorEq,reduceToNat,reduceNeg]
    exact ⟨by omega,_,by omega,i + 1,by omega,rfl,rfl⟩
   ·have dn : decide ((i : Int) ≠ (P : Int)) = true := decide_eq_true fun q => hip (by omega)
    have dx : (v.getD i false != w.getD i false) = false := by rw [hvw hip]; simp
    simp only [dn,dx,e1,hw1,hw2,push_cast,reduceIte,reduceEqDiff,reduceAdd,reduceSub,reduceMul,Nat.reduceBEq,reduceLT,reduceLeDiff,reduceCtorEq,reduceToNat,reduceNeg]
    exact ⟨by omega,by omega,by omega,by omega,by omega,_,by omega,i + 1,by omega,rfl,rfl⟩
  ·trivial
theorem qGB {f : Nat} (hok : ∀ (z : CaseA), z.By -> ∀ k : Int, 0 <= k /\ k <= 255 -> FnEq Tryz.prog f [.agg (qF4 true z), .sc (.int .u8 k)] (.bool true))
  {a : List PV} {b : PV} (ha : RowV qGp a) (hb : qEt (.i .u8) b) : FnEq Tryz.prog f [.agg a,b] (.bool true) := by
 obtain ⟨z,hz,rfl⟩ := qGs ha
 obtain ⟨n,rfl,h1,h2⟩ := qEJ hb
 exact hok z hz n ⟨h1,h2⟩
end Go.Proofs.YtdmkfgkmnpohlaaGreat
namespace Go.Proofs.YtdmkfgkmnpohlaaGreat
open Go Go.ChangeShapes Go.WideShapes Go.ChangeAt Go.RowKit Go.Vc
theorem qGu : qEs Tryz.prog 9 38 qGp = true := by kernel_rfl
theorem und1 : Tryz.prog.underlying 5 = some (.int .u8) := by kernel_rfl
theorem qGC : qEs Tryz.prog 9 5 [.i .u8] = true := by kernel_rfl
theorem Tryz.own : ownKnob Tryz.prog.godebug = none := by kernel_rfl
theorem Tryz.laidOut : laidOutB Tryz.prog = true := by kernel_rfl
theorem qGv : Tryz.prog.underlying 4 = some .bool := by kernel_rfl
theorem qGw : Tryz.f4.params = #[38,5] := by kernel_rfl
set_option maxRecDepth 100000 in
theorem fpads_lifted (os : Os) (started : os.Started) (H : Type) (enc : TypeId × Value -> H) :
  ReturnsInHanded {} Tryz.checked os 4 .any (Rows.fabricPadsSpec.pre6 enc Tryz.prog Tryz.f4 Rows.fabricPadsRow.domain false) (Rows.fabricPadsSpec.post enc Tryz.prog Tryz.f4 false true false false) := by
 refine returnsInHanded_of_change (C := Tryz.checked) Tryz.own started (by kernel_rfl) Tryz.func4
  (ChangeSpec.witness6 (enc := enc) (C := Tryz.checked) false ⟨#[],#[.agg #[.int .u8 0,.int .u8 0,.int .u8 0,.int .u8 0,.slice none 0 0,.slice none 0 0,.slice none 0 0,.slice none 0 0,.slice none 0 0,.slice none 0 0,.slice none 0 0,.slice none 0 0,.slice none 0 0,.slice none 0 0,.slice none 0 0,.slice none 0 0],.int .u8 0],[]⟩ 8 (by kernel_rfl) (by kernel_rfl) (by kernel_rfl) (by kernel_rfl)) ?_
 intro W base args ds gs before hval0 hW hcnd _
 have hval : ∀ (j : Nat) t v,Tryz.f4.params[j]? = some t -> args[j]? = some v -> Value.okWide Tryz.prog W .any base t v := hval0
 have hW' := hW
 obtain ⟨p,q,hA0,hV,rfl,hfz,hnd⟩ := hW
 have hA : DataW.TrodAll enc Tryz.prog W 0 (fun _ => true) true Tryz.f4.params.toList args.toList ds p := hA0
 rw [qGw] at hA hval
 obtain ⟨v0,v1,d0,d1,p0,p1,rfl,rfl,rfl,h0,h1⟩ := trodAll_two hA
 obtain ⟨rfl,rfl⟩ := trodVars_none hV
 obtain ⟨a0,r0,t0⟩ := qEC qGu (by kernel_rfl) (hval 0 _ v0 rfl rfl) h0
 obtain ⟨n1,rfl⟩ := qER und1 (hval 1 _ v1 rfl rfl)
 obtain ⟨a1,r1,t1⟩ := argC qGC rfl h1
 have hlt : ∀ x ∈ p0 ++ p1,x.block < W.heap.size := fun x hx => hW'.lt x (by simpa using hx)
 refine (qEE (qGB qGz r0 r1) rfl fun j cc hj => ?_).mono fun e W' ⟨he,hb⟩ => ?_
 ·match j with
  | 0 => simp at hj; subst hj; exact t0
  | 1 => simp at hj; subst hj; exact t1
  | j + 2 => simp at hj
 ·refine ⟨_,he,_,_,_,[],_,[],hW',?_,trodAll_mk2 (Below.trod Tryz.laidOut (by kernel_rfl) (of_decide_eq_true (by kernel_rfl)) h0 hb fun x hx => hlt x (by simp [hx])) (Below.trod Tryz.laidOut (by kernel_rfl) (of_decide_eq_true (by kernel_rfl)) h1 hb fun x hx => hlt x (by simp [hx])),rfl,hb.frame _,fun h => by cases h⟩
  exact trodAll_mk1 (shut_bool qGv true)
theorem fpads_holds : Rows.FabricPadsSaid :=
 OpenClaim.holds_of_wide 4 Tryz.f4 rfl rfl rfl rfl rfl rfl rfl ⟨rfl,rfl,rfl,rfl,rfl⟩ rfl rfl rfl rfl rfl (by kernel_rfl) Tryz.func4 (by kernel_rfl)
  (of_decide_eq_true (by kernel_rfl)) (by unfold Func.isWrapper; first | (rw [if_pos (by decide +kernel)]; kernel_rfl) | (rw [if_neg (by decide +kernel)]; exact ⟨rfl,rfl⟩))
  (fun os started H enc _ => fpads_lifted os started H enc)
end Go.Proofs.YtdmkfgkmnpohlaaGreat
