/- IT TxtS JA JB TxtT JC JD TxtV JEa JE JF JG JH JK JL JM JN JO JP PDigests: FramesDigests: the row and its card. -/
import Derived.Test.YtecoaapkcnhlhaaDoorPart15
import Derived.Test.YtecoaapkcnhlhaaDoorPart06
import Derived.Test.YtecoaapkcnhlhaaDoorChecked
import Derived.Test.YtecoaapkcnhlhaaDoorPart11
import Derived.MakeChecks
import Derived.FnData
import Derived.OpenShut
import Derived.SizedLaws
import Derived.Test.YtecoaapkcnhlhaaDoorRows
import Derived.Test.YtecoaapkcnhlhaaDoorCards
import Derived.Test.YtecoaapkcnhlhaaDoorTie
import Derived.ProofKit
import Derived.LaidMore
import Derived.SevenTiedAt
set_option linter.unusedSimpArgs false
set_option linter.unusedVariables false
open Nat (reduceEqDiff reduceAdd reduceSub reduceMul reduceLT reduceLeDiff)
open Int (reduceToNat reduceNeg)
namespace Go.Proofs.YtecoaapkcnhlhaaDoor
open Go Go.Vc Go.Ham Txt
def qID(g:Grid)(l:List (List Nat)):PV:= .tup [.agg (cfgC true (decC g fun x=>unW (datF l x))),.int (cntF l:Nat),.int 0]
theorem qIE(g:Grid)(l:List (List Nat)):qGH l=(qDk g).map Int.ofNat ↔ l.map List.length=qDk g:=by
 have e:qGH l=(l.map List.length).map Int.ofNat:=by unfold qGH;rw[List.map_map];rfl
 rw[e]
 constructor
 ·intro h
  have hi:Function.Injective Int.ofNat:=fun a b h=>Int.ofNat.inj h
  exact(List.map_inj_right fun a b h=>hi h).1 h
 ·intro h;rw[h]
theorem qIF(g:Grid):(qDk g).length=wN g+1:=by simp[qDk]
theorem qIG{g:Grid}{l:List (List Nat)}(h:l.map List.length=qDk g){x:Nat}(hx:x<=wN g):(datD l x).length=nW (qDj g x):=by
 have hl:l.length=wN g+1:=by have:=congrArg List.length h;simpa[qDk]using this
 have:=congrArg (fun l=>l[x]?) h
 simp only[qDk,List.getElem?_map,List.getElem?_range (show x<wN g+1 by omega),Option.map_some]at this
 rw[List.getElem?_eq_getElem (by omega)]at this
 unfold datD
 rw[List.getD_eq_getElem?_getD,List.getElem?_eq_getElem (by omega)]
 simpa using this
theorem qIH{g:Grid}(hg:GOk g)(l:List (List Nat)):CfgLn g (cfP g l (qCe g)):=(qDf hg (strB l)).1
set_option maxHeartbeats 1000000 in
theorem qII(g:Grid)(hg:GOk g)(l:List (List Nat))(hl:FrmSm l)(r:PV)(hp:r=qID g l\/r=qIw)(h1:Dec38 g l->r=qID g l)(h2: ¬Dec38 g l->r=qIw):FnEq Tryd.prog 34 [.agg (quQ false g),.sl false 1 (rows (frmC false) l)] r:=by
 have hsz:=qE1 g hg
 have hw2:=hg.n.w2
 have heq:=qGK l hl ((qDk g).map Int.ofNat) (by rw[List.length_map,qIF];omega)
 have hP:Perm r:=by
  rcases hp with rfl|rfl
  ·unfold qID;simp only[push_cast,reduceIte,reduceEqDiff,reduceAdd,reduceSub,reduceMul,Nat.reduceBEq,reduceLT,reduceLeDiff,reduceCtorEq,reduceToNat,reduceNeg,cNI];exact⟨fun _ _=>trivial,fun _ _=>trivial,fun _ _=>trivial,fun _ _=>trivial⟩
  ·unfold qIw;simp only[cfg0,push_cast,reduceIte,reduceEqDiff,reduceAdd,reduceSub,reduceMul,Nat.reduceBEq,reduceLT,reduceLeDiff,reduceCtorEq,reduceToNat,reduceNeg,cNI];simp
 refine FnEq.of_awp Tryd.func34 ok34 (by show 2<=_;decide) hP ?_
 have hE: ¬Dec38 g l-> ∀T B A,lk B 4=some [.nil,.nil,.nil,.nil]->retK [RV.cell 4 true 4,RV.tmp 5,RV.tmp 6] (fun x=>Sub x r) .ret ⟨(4,.ptr 4 0)::(5,.int 0)::(6,.int 380)::T,B,A,[]⟩:=by
  intro hn T B A hB
  rw[h2 hn]
  unfold qIw
  simp only[cfg0,hB,push_cast,reduceIte,reduceEqDiff,reduceAdd,reduceSub,reduceMul,Nat.reduceBEq,reduceLT,reduceLeDiff,reduceCtorEq,reduceToNat,reduceNeg,cNI]
  done
 simp only[ac34,rv34,push_cast,reduceIte,reduceEqDiff,reduceAdd,reduceSub,reduceMul,Nat.reduceBEq,reduceLT,reduceLeDiff,reduceCtorEq,reduceToNat,reduceNeg,cNI]
 refine qrr hsz sC ?_
 refine sB ?_
 refine qrr heq sC ?_
 refine sB ?_
 refine qnT (fun h=> ?_) fun h=> ?_
 ·have hne: ¬qGH l=(qDk g).map Int.ofNat:=by simpa using h
  rw[h2 fun h=>hne ((qIE g l).2 h.size)]
  unfold qIw
  simp only[cfg0,push_cast,reduceIte,reduceEqDiff,reduceAdd,reduceSub,reduceMul,Nat.reduceBEq,reduceLT,reduceLeDiff,reduceCtorEq,reduceToNat,reduceNeg,cNI]
 ·have hss:l.map List.length=qDk g:=(qIE g l).1 (by simpa using h)
  have hlen:l.length=wN g+1:=by have:=congrArg List.length hss;simpa[qDk]using this
  have hat:=fun x hx=>qIG (g:=g) hss (x:=x) hx
  have hdn:=hlen
  refine qHH g l hl _ (fun hb C' A=> ?_) ?_ [(23,.sl false 1 (rows (frmC false) l)),(24,.agg (quQ false g)),(25,.sl true 1 (ints ((qDk g).map Int.ofNat))),(26,.bool (decide (qGH l=(qDk g).map Int.ofNat))),(27,.bool (!decide (qGH l=(qDk g).map Int.ofNat)))] rfl
  ·refine hE (fun hd=> ?_) [(54,.agg [.nil,.nil,.nil,.nil])] _ _ ?_
   ·obtain⟨ws,hw,hx⟩:=List.all_eq_false.1 hb
    exact hx (hd.ok ws hw)
   ·rfl
  ·intro hok T hT
   rw[hlen]
   refine qIv g hg l (wN g+1) rfl hlen (cntF l:Nat) T hT _ (fun x hx=>hat x hx) ?_
   refine qIC g hg l (wN g+1) rfl hlen (cntF l:Nat) (cfP g l (qCe g)) (qIH hg l) (qDH g (qCe g)) (qDP g _) (fun x hx=>qDQ (by omega) _) (fun x hx=>hat x hx) _ ?_ ?_
   ·intro hn T B A hB
    exact hE (fun hd=>hn ⟨hd.rest,hd.valid⟩) T B A hB
   ·intro hr hv L'
    have hD:Dec38 g l:=⟨hss,fun ws hw=>List.all_eq_true.1 hok ws hw,hr,hv⟩
    obtain⟨l1,l2,l3,l4⟩:=(qIH hg l).lens
    rw[h1 hD]
    unfold qID
    rw[<- qIi]
    simp only[qIx,cfV,datA,qIy l1,qIy l2,qIy l3,qIy l4,qG8,push_cast,reduceIte,reduceEqDiff,reduceAdd,reduceSub,reduceMul,Nat.reduceBEq,reduceLT,reduceLeDiff,reduceCtorEq,reduceToNat,reduceNeg,cNI]
    exact⟨fun _ _=>trivial,fun _ _=>trivial,fun _ _=>trivial,fun _ _=>trivial⟩
end Go.Proofs.YtecoaapkcnhlhaaDoor
namespace Go.Proofs.YtecoaapkcnhlhaaDoor.Txt
open Go Go.Vc
set_option maxRecDepth 100000
def ac13:AC:=
 (.seq (.reg [0,16,0,1] [
 (aO 2 (.box (.t 0))),(aO 3 (.box (.t 1))),(aO 4 (.alc [.nil,zI]))])
 (.seq (.reg [0,16,2,3,4] [
 (aO 8 (.ld true 5 (.t 2))),(aO 9 (.ld true 4 (.t 3))),(aO 10 (.cal 33 [(.t 8),(.t 9)])),(aO 7 (.mv (.t 10))),(aO 11 (.ext (.t 7) 0)),(aO 12 (.ext (.t 7) 1)),(aO 5 (.mv (.t 11))),(aO 6 (.mv (.t 12)))])
 (.seq (.reg [0,16,4,5,6] [
 (aO 13 (.mv (.t 5))),(aO 14 (.mv (.t 6))),(aO 15 (.bld [.nil,zI] [(0,1,(.t 13)),(1,1,(.t 14))])),(aN (.sto 2 (.t 4) (.t 15)))])
 .ret)))
def rv13:List RV:=[.cell 4 true 2]
theorem ok13:fnOk Tryd.prog ac13 rv13 Tryd.f13=true:=by kernel_rfl

def ac14:AC:=
 (.seq (.reg [0,19,0,1] [
 (aO 2 (.box (.t 0))),(aO 4 (.alc [.nil,.nil,.nil,.nil,zI,zI]))])
 (.seq (.reg [0,19,1,2,4] [
 (aO 9 (.ld true 5 (.t 2))),(aO 10 (.mv (.t 1))),(aO 11 (.cal 34 [(.t 9),(.t 10)])),(aO 8 (.mv (.t 11))),(aO 12 (.ext (.t 8) 0)),(aO 13 (.ext (.t 8) 1)),(aO 14 (.ext (.t 8) 2)),(aO 5 (.alc [.nil,.nil,.nil,.nil])),(aN (.sto 4 (.t 5) (.t 12))),(aO 6 (.mv (.t 13))),(aO 7 (.mv (.t 14)))])
 (.seq (.reg [0,19,4,5,6,7] [
 (aO 15 (.ld true 4 (.t 5))),(aO 16 (.mv (.t 6))),(aO 17 (.mv (.t 7))),(aO 18 (.bld [.nil,.nil,.nil,.nil,zI,zI] [(0,4,(.t 15)),(4,1,(.t 16)),(5,1,(.t 17))])),(aN (.sto 6 (.t 4) (.t 18)))])
 .ret)))
def rv14:List RV:=[.cell 4 true 6]
theorem ok14:fnOk Tryd.prog ac14 rv14 Tryd.f14=true:=by kernel_rfl

def ac20:AC:=
 (.seq (.reg [0,16,0,1] [
 (aO 3 (.box (.t 1))),(aO 4 (.alc [.nil,zI]))])
 (.seq (.reg [0,16,0,3,4] [
 (aO 8 (.mv (.t 0))),(aO 9 (.ld true 3 (.t 3))),(aO 10 (.cal 43 [(.t 8),(.t 9)])),(aO 7 (.mv (.t 10))),(aO 11 (.ext (.t 7) 0)),(aO 12 (.ext (.t 7) 1)),(aO 5 (.mv (.t 11))),(aO 6 (.mv (.t 12)))])
 (.seq (.reg [0,16,4,5,6] [
 (aO 13 (.mv (.t 5))),(aO 14 (.mv (.t 6))),(aO 15 (.bld [.nil,zI] [(0,1,(.t 13)),(1,1,(.t 14))])),(aN (.sto 2 (.t 4) (.t 15)))])
 .ret)))
def rv20:List RV:=[.cell 4 true 2]
theorem ok20:fnOk Tryd.prog ac20 rv20 Tryd.f20=true:=by kernel_rfl

def ac21:AC:=
 (.seq (.reg [0,16,0] [
 (aO 2 (.alc [.nil,zI,.nil]))])
 (.seq (.reg [0,16,0,2] [
 (aO 7 (.mv (.t 0))),(aO 8 (.cal 44 [(.t 7)])),(aO 6 (.mv (.t 8))),(aO 9 (.ext (.t 6) 0)),(aO 10 (.ext (.t 6) 1)),(aO 11 (.ext (.t 6) 2)),(aO 3 (.mv (.t 9))),(aO 4 (.mv (.t 10))),(aO 5 (.mv (.t 11)))])
 (.seq (.reg [0,16,2,3,4,5] [
 (aO 12 (.mv (.t 3))),(aO 13 (.mv (.t 4))),(aO 14 (.mv (.t 5))),(aO 15 (.bld [.nil,zI,.nil] [(0,1,(.t 12)),(1,1,(.t 13)),(2,1,(.t 14))])),(aN (.sto 3 (.t 2) (.t 15)))])
 .ret)))
def rv21:List RV:=[.cell 2 true 3]
theorem ok21:fnOk Tryd.prog ac21 rv21 Tryd.f21=true:=by kernel_rfl

def ac10:AC:=
 (.seq (.reg [0,54,0] [
 (aO 1 (.box (.t 0))),(aO 2 (.mv (.c (.sc (.bool false)))))])
 (.seq (.rgs [
 ([0,54,1],[
 (aO 5 (.fa 0 (.t 1))),(aO 6 (.ld false 1 (.t 5))),(aO 7 (.len (.t 6))),(aO 8 (.fa 1 (.t 1))),(aO 9 (.fa 0 (.t 8))),(aO 10 (.ld false 1 (.t 9))),(aO 11 (.len (.t 10))),(aO 12 (.ari .add true .i64 (.t 7) (.t 11))),(aO 13 (.fa 1 (.t 1))),(aO 14 (.fa 1 (.t 13))),(aO 15 (.ld false 1 (.t 14))),(aO 16 (.len (.t 15)))]),([0,54,1,12,16],[
 (aO 17 (.ari .add true .i64 (.t 12) (.t 16))),(aO 18 (.fa 1 (.t 1))),(aO 19 (.fa 2 (.t 18))),(aO 20 (.ld false 1 (.t 19))),(aO 21 (.len (.t 20))),(aO 22 (.ari .add true .i64 (.t 17) (.t 21))),(aO 23 (.fa 1 (.t 1))),(aO 24 (.fa 3 (.t 23))),(aO 25 (.ld false 1 (.t 24))),(aO 26 (.len (.t 25))),(aO 27 (.ari .add true .i64 (.t 22) (.t 26))),(aO 28 (.fa 9 (.t 1)))]),([0,54,1,27,28],[
 (aO 29 (.ld false 1 (.t 28))),(aO 30 (.len (.t 29))),(aO 31 (.ari .add true .i64 (.t 27) (.t 30))),(aO 3 (.mv (.t 31)))])])
 (.seq (.seq (.reg [0,54,1,3] [
 (aO 4 (.mv (kI 0)))])
 (.block 0
 (.loop [0,54,1,3,4]
 (.seq (.seq (.reg [0,54,1,3,4] [
 (aO 32 (.mv (.t 4))),(aO 33 (.fa 0 (.t 1))),(aO 34 (.ld false 1 (.t 33))),(aO 35 (.len (.t 34))),(aO 36 (.cmp .lss .i64 (.t 32) (.t 35))),(aO 37 (.mv (.t 36))),⟨some 38,some (37,true),.mv (.t 3)⟩,⟨some 39,some (37,true),.cmp .leq .i64 (.t 38) (kI 600)⟩,(aO 40 (.pick (.t 37) (.t 39) (.c (.sc (.bool false)))))])
 (.cut [0,54,1,3,4,40] (.cond (.t 40)
 .skip
 (.exit 0))))
 (.seq (.block 1
 (.reg [0,54,1,3,4] [
 (aO 43 (.mv (.t 3))),(aO 44 (.fa 0 (.t 1))),(aO 45 (.ld false 1 (.t 44))),(aO 46 (.mv (.t 4))),(aO 47 (.ixs 1 (.t 45) (.t 46))),(aO 48 (.fa 0 (.t 47))),(aO 49 (.ld false 1 (.t 48))),(aO 50 (.len (.t 49))),(aO 51 (.ari .add true .i64 (.t 43) (.t 50))),(aO 3 (.mv (.t 51)))]))
 (.reg [0,54,1,3,4] [
 (aO 41 (.mv (.t 4))),(aO 42 (.ari .add true .i64 (.t 41) (kI 1))),(aO 4 (.mv (.t 42)))]))))))
 (.seq (.reg [0,54,3] [
 (aO 52 (.mv (.t 3))),(aO 53 (.cmp .leq .i64 (.t 52) (kI 600))),(aO 2 (.mv (.t 53)))])
 .ret))))
def rv10:List RV:=[.tmp 2]
theorem ok10:fnOk Tryd.prog ac10 rv10 Tryd.f10=true:=by kernel_rfl
end Go.Proofs.YtecoaapkcnhlhaaDoor.Txt
namespace Go.Proofs.YtecoaapkcnhlhaaDoor
open Go Go.Vc Go.Ham Txt
def fmdC(q:Bool)(L:List (List Nat))(e:Int):List PV:=[.sl q 1 (rows (frmC q) L),.int e]
@[push_cast] theorem qIJ(q:Bool)(L:List (List Nat))(e:Int):fmdC q L e=[.sl q 1 (rows (frmC q) L),.int e]:=rfl
noncomputable def encL (g:Grid) (c:Cfg):List (List Nat):=if validE g c=0 then qDl g c else[]
noncomputable def encE (g:Grid) (c:Cfg):Int:=if validE g c=0 then 0 else 310
theorem qIK(g:Grid)(hg:GOk g)(c:Cfg)(hs:CfgSm c):FnEq Tryd.prog 13 [.agg (quQ false g),.agg (cfgC false c)] (.agg (fmdC true (encL g c) (encE g c))):=by
 unfold encL encE
 by_cases h:validE g c=0
 ·rw[if_pos h,if_pos h]
  have he:=qGj g hg c hs h
  refine FnEq.of_awp Tryd.func13 ok13 (by show 2<=_;decide) (by simp only[push_cast,reduceIte,reduceEqDiff,reduceAdd,reduceSub,reduceMul,Nat.reduceBEq,reduceLT,reduceLeDiff,reduceCtorEq,reduceToNat,reduceNeg,cNI];simp) ?_
  simp only[ac13,rv13,push_cast,reduceIte,reduceEqDiff,reduceAdd,reduceSub,reduceMul,Nat.reduceBEq,reduceLT,reduceLeDiff,reduceCtorEq,reduceToNat,reduceNeg,cNI]
  refine qrr he sC ?_
  refine sB ?_
  exact fun _ _ _ _=>trivial
 ·rw[if_neg h,if_neg h]
  have he:=qFt g hg c hs h
  refine FnEq.of_awp Tryd.func13 ok13 (by show 2<=_;decide) (by simp only[push_cast,reduceIte,reduceEqDiff,reduceAdd,reduceSub,reduceMul,Nat.reduceBEq,reduceLT,reduceLeDiff,reduceCtorEq,reduceToNat,reduceNeg,cNI];simp) ?_
  simp only[ac13,rv13,push_cast,reduceIte,reduceEqDiff,reduceAdd,reduceSub,reduceMul,Nat.reduceBEq,reduceLT,reduceLeDiff,reduceCtorEq,reduceToNat,reduceNeg,cNI]
  refine qrr he sC ?_
  simp only[rows,List.map_nil,push_cast,reduceIte,reduceEqDiff,reduceAdd,reduceSub,reduceMul,Nat.reduceBEq,reduceLT,reduceLeDiff,reduceCtorEq,reduceToNat,reduceNeg,cNI]
def fldF(l:List (List Nat))(f:FlipA):List (List Nat):=if qHp l f then qH4 l f.x.toNat f.k.toNat f.b.toNat else[]
def fldE(l:List (List Nat))(f:FlipA):Int:=if qHp l f then 0 else 1
theorem qIL(l:List (List Nat))(hl:FrmSm l)(f:FlipA):FnEq Tryd.prog 20 [.sl false 1 (rows (frmC false) l),.agg (qHn f)] (.agg (fmdC true (fldF l f) (fldE l f))):=by
 have he:=qHr l hl f
 unfold qHq at he
 unfold fldF fldE
 refine FnEq.of_awp Tryd.func20 ok20 (by show 2<=_;decide) (by simp only[push_cast,reduceIte,reduceEqDiff,reduceAdd,reduceSub,reduceMul,Nat.reduceBEq,reduceLT,reduceLeDiff,reduceCtorEq,reduceToNat,reduceNeg,cNI];simp) ?_
 simp only[ac20,rv20,push_cast,reduceIte,reduceEqDiff,reduceAdd,reduceSub,reduceMul,Nat.reduceBEq,reduceLT,reduceLeDiff,reduceCtorEq,reduceToNat,reduceNeg,cNI]
 split at he
 ·next h=>
  simp only[if_pos h]
  refine qrr he sC ?_
  refine sB ?_
  exact fun _ _ _ _=>trivial
 ·next h=>
  simp only[if_neg h]
  refine qrr he sC ?_
  simp only[rows,List.map_nil,push_cast,reduceIte,reduceEqDiff,reduceAdd,reduceSub,reduceMul,Nat.reduceBEq,reduceLT,reduceLeDiff,reduceCtorEq,reduceToNat,reduceNeg,cNI]
def scdC(q:Bool)(L:List (List Nat))(n:Int)(bad:List Int):List PV:=[.sl q 1 (rows (frmC q) L),.int n,.sl q 1 (ints bad)]
@[push_cast] theorem qIM(q:Bool)(L:List (List Nat))(n:Int)(bad:List Int):scdC q L n bad=[.sl q 1 (rows (frmC q) L),.int n,.sl q 1 (ints bad)]:=rfl
theorem qIN(l:List (List Nat))(hl:FrmSm l):FnEq Tryd.prog 21 [.sl false 1 (rows (frmC false) l)] (.agg (scdC true (scrF l) (cntF l:Nat) (badN l l.length))):=by
 have he:=qHZ l hl
 unfold scrV at he
 refine FnEq.of_awp Tryd.func21 ok21 (by show 1<=_;decide) (by simp only[push_cast,reduceIte,reduceEqDiff,reduceAdd,reduceSub,reduceMul,Nat.reduceBEq,reduceLT,reduceLeDiff,reduceCtorEq,reduceToNat,reduceNeg,cNI];simp) ?_
 simp only[ac21,rv21,push_cast,reduceIte,reduceEqDiff,reduceAdd,reduceSub,reduceMul,Nat.reduceBEq,reduceLT,reduceLeDiff,reduceCtorEq,reduceToNat,reduceNeg,cNI]
 refine qrr he sC ?_
 refine sB ?_
 exact⟨fun _ _ _ _=>trivial,fun _ _=>trivial⟩
def dcdC(q:Bool)(c:Cfg)(n e:Int):List PV:=cfgC q c++[.int n,.int e]
@[push_cast] theorem qIO(q:Bool)(c:Cfg)(n e:Int):dcdC q c n e=[.sl q 1 (ints c.sel),.sl q 1 (ints c.mode),.sl q 1 (ints c.tab),.sl q 1 (ints c.ram),.int n,.int e]:=rfl
def decG(g:Grid)(l:List (List Nat)):Cfg:=decC g fun x=>unW (datF l x)
theorem qIP(g:Grid)(hg:GOk g)(l:List (List Nat))(hl:FrmSm l)(h:Dec38 g l):FnEq Tryd.prog 14 [.agg (quQ false g),.sl false 1 (rows (frmC false) l)] (.agg (dcdC true (decG g l) (cntF l:Nat) 0)):=by
 have he:=qII g hg l hl (qID g l) (.inl rfl) (fun _=>rfl) (fun hn=>absurd h hn)
 unfold qID at he
 refine FnEq.of_awp Tryd.func14 ok14 (by show 2<=_;decide) (by simp only[push_cast,reduceIte,reduceEqDiff,reduceAdd,reduceSub,reduceMul,Nat.reduceBEq,reduceLT,reduceLeDiff,reduceCtorEq,reduceToNat,reduceNeg,cNI];simp) ?_
 simp only[ac14,rv14,push_cast,reduceIte,reduceEqDiff,reduceAdd,reduceSub,reduceMul,Nat.reduceBEq,reduceLT,reduceLeDiff,reduceCtorEq,reduceToNat,reduceNeg,cNI]
 refine qrr he sC ?_
 refine sB ?_
 unfold decG
 exact⟨⟨fun _ _=>trivial,fun _ _=>trivial,fun _ _=>trivial,fun _ _=>trivial⟩,.refl _,.refl _,.refl _,.refl _⟩
theorem qIQ(g:Grid)(hg:GOk g)(l:List (List Nat))(hl:FrmSm l)(h: ¬Dec38 g l):FnEq Tryd.prog 14 [.agg (quQ false g),.sl false 1 (rows (frmC false) l)] (.agg (dcdC true cfg0 0 380)):=by
 have he:=qII g hg l hl qIw (.inr rfl) (fun hn=>absurd hn h) (fun _=>rfl)
 unfold qIw at he
 refine FnEq.of_awp Tryd.func14 ok14 (by show 2<=_;decide) (by simp only[cfg0,push_cast,reduceIte,reduceEqDiff,reduceAdd,reduceSub,reduceMul,Nat.reduceBEq,reduceLT,reduceLeDiff,reduceCtorEq,reduceToNat,reduceNeg,cNI];simp) ?_
 simp only[ac14,rv14,push_cast,reduceIte,reduceEqDiff,reduceAdd,reduceSub,reduceMul,Nat.reduceBEq,reduceLT,reduceLeDiff,reduceCtorEq,reduceToNat,reduceNeg,cNI]
 refine qrr he (by simp only[cfg0,push_cast,reduceIte,reduceEqDiff,reduceAdd,reduceSub,reduceMul,Nat.reduceBEq,reduceLT,reduceLeDiff,reduceCtorEq,reduceToNat,reduceNeg,cNI]) ?_
 simp only[cfg0,push_cast,reduceIte,reduceEqDiff,reduceAdd,reduceSub,reduceMul,Nat.reduceBEq,reduceLT,reduceLeDiff,reduceCtorEq,reduceToNat,reduceNeg,cNI]
 exact fun _ _=>trivial
end Go.Proofs.YtecoaapkcnhlhaaDoor
namespace Go.Proofs.YtecoaapkcnhlhaaDoor
open Go Go.Vc Go.Ham Txt
theorem qIS{g:Grid}(hg:GOk g){c:Cfg}(hc:validE g c=0):Dec38 g (qDl g c)/\decG g (qDl g c)=c:=
 qDv hg hc (qDx g c) (fun ws hws=>List.all_eq_true.2 fun w hw=>by rw[qDA hws hw];rfl) fun x hx=>qDB hx
theorem qIT{g:Grid}(hg:GOk g){c:Cfg}(hc:validE g c=0){m:List (List Nat)}(h:Near (qDl g c) m):Dec38 g m/\decG g m=c/\scrF m=qDl g c/\ ∀ws∈m,qDm ws=true:=by
 obtain⟨h1,h2,h3⟩:=qHm (qDz g c) (fun ws hws w hw=>qDA hws hw) h
 obtain⟨a,b⟩:=qDv hg hc (l:=m) (by rw[h.size];exact qDx g c) h1 fun x hx=>by rw[h2 x];exact qDB hx
 exact⟨a,b,h3,h1⟩
theorem qIU{l:List (List Nat)}(h: ∀ws∈l,qDm ws=true):badN l l.length=[]:=by
 unfold badN
 have:(List.range l.length).filter (fun x=> !qDm (l.getD x []))=[]:=by
  rw[List.filter_eq_nil_iff]
  intro x hx
  have hx:=List.mem_range.1 hx
  rw[List.getD_eq_getElem?_getD,List.getElem?_eq_getElem hx]
  simp[h _ (List.getElem_mem hx)]
 rw[this];rfl
def gE:Grid:=⟨1,1,1,0,[1]⟩
def cE0:Cfg:=⟨[0,0,0,0,0,0,0,0],[0],[0],[0]⟩
def cE1:Cfg:=⟨[0,0,1,0,0,0,0,0],[0],[0],[0]⟩
theorem qIV:GOk gE:=⟨by decide,by decide,by decide,by decide,by decide⟩
theorem rE:(List.range 8).map (fun n:Nat=>(rdrF gE (n:Int)).length)=[0,0,2,2,2,2,3,3]:=by decide+kernel
theorem nbE:(List.range 8).map (fun n:Nat=>qC7 gE n)=[0,0,2,2,2,2,2,2]:=by
 have h:(fun n:Nat=>qC7 gE n)=fun n:Nat=>Go.Lib.bitLen (rdrF gE (n:Int)).length:=by
  funext n;unfold qC7;rw[qxW qIV]
 rw[h,show(fun n:Nat=>Go.Lib.bitLen (rdrF gE (n:Int)).length)=Go.Lib.bitLen ∘ fun n:Nat=>(rdrF gE (n:Int)).length from rfl,<- List.map_map,rE]
 decide
def fE:List Fld:=[⟨0,0,0,0⟩,⟨0,0,1,0⟩,⟨0,0,2,2⟩,⟨0,0,3,2⟩,⟨0,0,4,2⟩,⟨0,0,5,2⟩,⟨0,0,6,2⟩,⟨0,0,7,2⟩,⟨0,1,0,2⟩,⟨0,2,0,16⟩,⟨0,3,0,8⟩]
theorem qIW:qC8 gE 0 0 8=[⟨0,0,0,0⟩,⟨0,0,1,0⟩,⟨0,0,2,2⟩,⟨0,0,3,2⟩,⟨0,0,4,2⟩,⟨0,0,5,2⟩,⟨0,0,6,2⟩,⟨0,0,7,2⟩]:=by
 have h:=nbE
 simp only[List.range,List.range.loop,List.map_cons,List.map_nil,List.cons.injEq]at h
 obtain⟨h0,h1,h2,h3,h4,h5,h6,h7,-⟩:=h
 simp only[qC8,List.range,List.range.loop,List.map_cons,List.map_nil,Nat.zero_add,h0,h1,h2,h3,h4,h5,h6,h7]
theorem qIX:qCe gE=fE:=by
 have h:qCe gE=qC8 gE 0 0 8++qC9 0 0:=by
  show qCc gE 1++qC8 gE 1 8 0=_
  rw[show qCc gE 1=qCb gE 0 1 from by simp[qCc,List.range_succ,show hN gE=1 from rfl],show qCb gE 0 1=qCa gE 0 0 from by simp[qCb,List.range_succ],qCa]
  rfl
 rw[h,qIW];rfl
theorem vE{c:Cfg}(h0:qyk gE c)(h1: ∀i,i<c.sel.length->c.sel.getD i 0≠0->i=2/\c.sel.getD 2 0=1)(h2: ∀t,t<gE.kind.length->qym gE c t):validE gE c=0:=
 qyn h0 (fun i hi h=>by
  obtain⟨rfl,h3⟩:=h1 i hi h
  rw[h3,qxW qIV]
  decide+kernel) h2
theorem vE0:validE gE cE0=0:=vE (by decide+kernel) (by decide) (by decide)
theorem vE1:validE gE cE1=0:=vE (by decide+kernel) (by decide) (by decide)
theorem vEn:validE gE cfg0≠0:=by rw[qyo (by decide+kernel)];decide
theorem eE0:qDl gE cE0=[[0],[]]:=by
 unfold qDl
 rw[qIX]
 decide+kernel
theorem eE1:qDl gE cE1=[[15],[]]:=by
 unfold qDl
 rw[qIX]
 decide+kernel
theorem szE:qDk gE=[1,0]:=by
 unfold qDk qDj
 rw[qIX]
 decide+kernel
theorem qIY:Near [[15],[]] [[9223372036854775823],[]]:=by
 have h:=(Near.refl [[15],[]]).flip (x:=0) (k:=0) (b:=63) ⟨by decide,by decide⟩ (by decide) rfl
 exact h
theorem dgE:digF [[0],[]]≠digF [[15],[]]:=by decide+kernel
theorem dfE:qGn [[0],[]] [[15],[]]=[0]:=by decide
end Go.Proofs.YtecoaapkcnhlhaaDoor
namespace Go.Proofs.YtecoaapkcnhlhaaDoor.Txt
open Go Go.Vc
set_option maxRecDepth 100000
def ac8:AC:=
 (.seq (.reg [0,171] [
 (aO 0 (.mv (.c (.sc (.bool false)))))])
 (.seq (.reg [0,171] [
 (aO 10 (.bsl 1 3 [zI] 1 [(0,(kI 1))])),(aO 11 (.bld [zI,zI,zI,zI,.nil] [(0,1,(kI 1)),(1,1,(kI 1)),(2,1,(kI 1)),(4,1,(.t 10))])),(aO 1 (.alc [zI,zI,zI,zI,.nil])),(aN (.sto 5 (.t 1) (.t 11)))])
 (.seq (.reg [0,171,1] [
 (aO 12 (.mks 1 3 8 [zI] (kI 8) (kI 8))),(aO 13 (.bsl 1 3 [zI] 1 [(0,(kI 0))])),(aO 14 (.bsl 1 3 [zI] 1 [(0,(kI 0))])),(aO 15 (.bsl 1 3 [zI] 1 [(0,(kI 0))])),(aO 16 (.bld [.nil,.nil,.nil,.nil] [(0,1,(.t 12)),(1,1,(.t 13)),(2,1,(.t 14)),(3,1,(.t 15))])),(aO 2 (.alc [.nil,.nil,.nil,.nil])),(aN (.sto 4 (.t 2) (.t 16)))])
 (.seq (.reg [0,171,1,2] [
 (aO 17 (.ld true 5 (.t 1))),(aO 18 (.ld true 4 (.t 2))),(aO 19 (.cal 13 [(.t 17),(.t 18)])),(aO 3 (.alc [.nil,zI])),(aN (.sto 2 (.t 3) (.t 19)))])
 (.seq (.reg [0,171,1,2,3] [
 (aO 20 (.bsl 1 3 [zI] 8 [(0,(kI 0)),(1,(kI 0)),(2,(kI 1)),(3,(kI 0)),(4,(kI 0)),(5,(kI 0)),(6,(kI 0)),(7,(kI 0))])),(aO 21 (.fa 0 (.t 2))),(aN (.sto 1 (.t 21) (.t 20)))])
 (.seq (.reg [0,171,1,2,3] [
 (aO 22 (.ld true 5 (.t 1))),(aO 23 (.ld true 4 (.t 2))),(aO 24 (.cal 13 [(.t 22),(.t 23)])),(aO 4 (.alc [.nil,zI])),(aN (.sto 2 (.t 4) (.t 24)))])
 (.seq (.reg [0,171,1,2,3,4] [
 (aO 25 (.ld true 5 (.t 1))),(aO 26 (.fa 0 (.t 4))),(aO 27 (.ld false 1 (.t 26))),(aO 28 (.cal 14 [(.t 25),(.t 27)])),(aO 5 (.alc [.nil,.nil,.nil,.nil,zI,zI])),(aN (.sto 6 (.t 5) (.t 28)))])
 (.seq (.seq (.rgs [
 ([0,171,1,2,3,4,5],[
 (aO 29 (.fa 1 (.t 3))),(aO 30 (.ld false 1 (.t 29))),(aO 31 (.cmp .neq .i64 (.t 30) (kI 0))),(aO 32 (.mv (.t 31))),⟨some 33,some (32,false),.fa 0 (.t 3)⟩,⟨some 34,some (32,false),.ld false 1 (.t 33)⟩,⟨some 35,some (32,false),.bsl 1 54 [.sc (.int .u64 0)] 1 [(0,(.c (.sc (.int .u64 0))))]⟩,⟨some 36,some (32,false),.bld [.nil] [(0,1,(.t 35))]⟩,⟨some 37,some (32,false),.bld [.nil] []⟩,⟨some 38,some (32,false),.bsl 1 52 [.nil] 2 [(0,(.t 36)),(1,(.t 37))]⟩,⟨some 39,some (32,false),.cal 22 [(.t 34),(.t 38)]⟩,⟨some 40,some (32,false),.not (.t 39)⟩]),([0,171,1,2,3,4,5,32,40],[
 (aO 41 (.pick (.t 32) (.c (.sc (.bool true))) (.t 40))),(aO 42 (.mv (.t 41))),⟨some 43,some (42,false),.fa 1 (.t 4)⟩,⟨some 44,some (42,false),.ld false 1 (.t 43)⟩,⟨some 45,some (42,false),.cmp .neq .i64 (.t 44) (kI 0)⟩,(aO 46 (.pick (.t 42) (.c (.sc (.bool true))) (.t 45))),(aO 47 (.mv (.t 46))),⟨some 48,some (47,false),.fa 0 (.t 4)⟩,⟨some 49,some (47,false),.ld false 1 (.t 48)⟩,⟨some 50,some (47,false),.bsl 1 54 [.sc (.int .u64 0)] 1 [(0,(.c (.sc (.int .u64 15))))]⟩,⟨some 51,some (47,false),.bld [.nil] [(0,1,(.t 50))]⟩,⟨some 52,some (47,false),.bld [.nil] []⟩]),([0,171,1,2,3,4,5,47,49,51,52],[
 ⟨some 53,some (47,false),.bsl 1 52 [.nil] 2 [(0,(.t 51)),(1,(.t 52))]⟩,⟨some 54,some (47,false),.cal 22 [(.t 49),(.t 53)]⟩,⟨some 55,some (47,false),.not (.t 54)⟩,(aO 56 (.pick (.t 47) (.c (.sc (.bool true))) (.t 55))),(aO 57 (.mv (.t 56))),⟨some 58,some (57,false),.fa 5 (.t 5)⟩,⟨some 59,some (57,false),.ld false 1 (.t 58)⟩,⟨some 60,some (57,false),.cmp .neq .i64 (.t 59) (kI 0)⟩,(aO 61 (.pick (.t 57) (.c (.sc (.bool true))) (.t 60))),(aO 62 (.mv (.t 61))),⟨some 63,some (62,false),.fa 4 (.t 5)⟩,⟨some 64,some (62,false),.ld false 1 (.t 63)⟩]),([0,171,1,2,3,4,5,62,64],[
 ⟨some 65,some (62,false),.cmp .neq .i64 (.t 64) (kI 0)⟩,(aO 66 (.pick (.t 62) (.c (.sc (.bool true))) (.t 65))),(aO 67 (.mv (.t 66))),⟨some 68,some (67,false),.fa 0 (.t 5)⟩,⟨some 69,some (67,false),.ld true 4 (.t 68)⟩,⟨some 70,some (67,false),.ld true 4 (.t 2)⟩,⟨some 71,some (67,false),.cal 16 [(.t 69),(.t 70)]⟩,⟨some 72,some (67,false),.not (.t 71)⟩,(aO 73 (.pick (.t 67) (.c (.sc (.bool true))) (.t 72))),(aO 74 (.mv (.t 73))),⟨some 75,some (74,false),.ld true 5 (.t 1)⟩,⟨some 76,some (74,false),.cal 15 [(.t 75)]⟩]),([0,171,1,3,4,74,76],[
 ⟨some 77,some (74,false),.bsl 1 3 [zI] 2 [(0,(kI 1)),(1,(kI 0))]⟩,⟨some 78,some (74,false),.cal 23 [(.t 76),(.t 77)]⟩,⟨some 79,some (74,false),.not (.t 78)⟩,(aO 80 (.pick (.t 74) (.c (.sc (.bool true))) (.t 79)))])])
 (.cut [0,171,1,3,4,80] (.cond (.t 80)
 (.seq (.reg [0,171] [
 (aO 0 (.mv (.c (.sc (.bool false)))))])
 .ret)
 .skip)))
 (.seq (.reg [0,171,1,3,4] [
 (aO 81 (.fa 0 (.t 4))),(aO 82 (.ld false 1 (.t 81))),(aO 83 (.bld [zI,zI,zI] [(2,1,(kI 63))])),(aO 84 (.cal 20 [(.t 82),(.t 83)])),(aO 6 (.alc [.nil,zI])),(aN (.sto 2 (.t 6) (.t 84)))])
 (.seq (.reg [0,171,1,3,4,6] [
 (aO 85 (.fa 0 (.t 6))),(aO 86 (.ld false 1 (.t 85))),(aO 87 (.cal 21 [(.t 86)])),(aO 7 (.alc [.nil,zI,.nil])),(aN (.sto 3 (.t 7) (.t 87)))])
 (.seq (.reg [0,171,1,3,4,6,7] [
 (aO 88 (.ld true 5 (.t 1))),(aO 89 (.fa 0 (.t 6))),(aO 90 (.ld false 1 (.t 89))),(aO 91 (.cal 14 [(.t 88),(.t 90)])),(aO 8 (.alc [.nil,.nil,.nil,.nil,zI,zI])),(aN (.sto 6 (.t 8) (.t 91)))])
 (.seq (.reg [0,171,1,3,4,6,7,8] [
 (aO 92 (.ld true 5 (.t 1))),(aO 93 (.bld [.nil,.nil,.nil,.nil] [])),(aO 94 (.cal 13 [(.t 92),(.t 93)])),(aO 9 (.alc [.nil,zI])),(aN (.sto 2 (.t 9) (.t 94)))])
 (.seq (.drw [0,171,1,3,4,6,7,8,9] [
 (eF 95 (.fa 1 (.t 6))),(eF 96 (.ld false 1 (.t 95))),(eF 97 (.cmp .eql .i64 (.t 96) (kI 0))),(eF 98 (.mv (.t 97))),⟨⟨some 99,some (98,true),.fa 5 (.t 8)⟩,[],[],false⟩,⟨⟨some 100,some (98,true),.ld false 1 (.t 99)⟩,[],[],false⟩,⟨⟨some 101,some (98,true),.cmp .eql .i64 (.t 100) (kI 0)⟩,[],[],false⟩,(eF 102 (.pick (.t 98) (.t 101) (.c (.sc (.bool false))))),(eF 103 (.mv (.t 102))),⟨⟨some 104,some (103,true),.fa 4 (.t 8)⟩,[],[],false⟩,⟨⟨some 105,some (103,true),.ld false 1 (.t 104)⟩,[],[],false⟩,⟨⟨some 106,some (103,true),.cmp .eql .i64 (.t 105) (kI 1)⟩,[],[],false⟩,(eF 107 (.pick (.t 103) (.t 106) (.c (.sc (.bool false))))),(eF 108 (.mv (.t 107))),⟨⟨some 109,some (108,true),.fa 1 (.t 7)⟩,[],[],false⟩,⟨⟨some 110,some (108,true),.ld false 1 (.t 109)⟩,[],[],false⟩,⟨⟨some 111,some (108,true),.cmp .eql .i64 (.t 110) (kI 1)⟩,[],[],false⟩,(eF 112 (.pick (.t 108) (.t 111) (.c (.sc (.bool false))))),(eF 113 (.mv (.t 112))),⟨⟨some 114,some (113,true),.fa 2 (.t 7)⟩,[],[],false⟩,⟨⟨some 115,some (113,true),.ld false 1 (.t 114)⟩,[],[],false⟩,⟨⟨some 116,some (113,true),.len (.t 115)⟩,[],[],false⟩,⟨⟨some 117,some (113,true),.cmp .eql .i64 (.t 116) (kI 0)⟩,[],[],false⟩,(eF 118 (.pick (.t 113) (.t 117) (.c (.sc (.bool false))))),(eF 119 (.mv (.t 118))),⟨⟨some 120,some (119,true),.fa 0 (.t 7)⟩,[],[],true⟩,⟨⟨some 121,some (119,true),.ld false 1 (.t 120)⟩,[],[],true⟩,⟨⟨some 122,some (119,true),.fa 0 (.t 4)⟩,[],[],true⟩,⟨⟨some 123,some (119,true),.ld false 1 (.t 122)⟩,[],[],true⟩,⟨⟨some 124,some (119,true),.cal 22 [(.t 121),(.t 123)]⟩,[],[],false⟩,(eF 125 (.pick (.t 119) (.t 124) (.c (.sc (.bool false))))),(eF 126 (.mv (.t 125))),⟨⟨some 127,some (126,true),.fa 1 (.t 9)⟩,[],[],false⟩,⟨⟨some 128,some (126,true),.ld false 1 (.t 127)⟩,[],[],false⟩,⟨⟨some 129,some (126,true),.cmp .eql .i64 (.t 128) (kI 310)⟩,[],[],false⟩,(eF 130 (.pick (.t 126) (.t 129) (.c (.sc (.bool false))))),(eF 131 (.mv (.t 130))),⟨⟨some 132,some (131,true),.ld true 5 (.t 1)⟩,[],[],true⟩,⟨⟨some 133,some (131,true),.fa 0 (.t 4)⟩,[],[],true⟩,⟨⟨some 134,some (131,true),.ld false 1 (.t 133)⟩,[],[],true⟩,⟨⟨some 135,some (131,true),.slc 1 (.t 134) none (some (kI 1))⟩,[],[],true⟩,⟨⟨some 136,some (131,true),.cal 14 [(.t 132),(.t 135)]⟩,[],[],false⟩,⟨⟨some 137,some (131,true),.fl false 5 1 (.t 136)⟩,[],[],false⟩,⟨⟨some 138,some (131,true),.cmp .eql .i64 (.t 137) (kI 380)⟩,[],[],false⟩,(eF 139 (.pick (.t 131) (.t 138) (.c (.sc (.bool false))))),(eF 140 (.mv (.t 139))),⟨⟨some 141,some (140,true),.fa 0 (.t 4)⟩,[],[],true⟩,⟨⟨some 142,some (140,true),.ld false 1 (.t 141)⟩,[],[],true⟩,⟨⟨some 143,some (140,true),.bld [zI,zI,zI] [(0,1,(kI 1))]⟩,[],[],true⟩,⟨⟨some 144,some (140,true),.cal 20 [(.t 142),(.t 143)]⟩,[],[],false⟩,⟨⟨some 145,some (140,true),.fl false 1 1 (.t 144)⟩,[],[],false⟩,⟨⟨some 146,some (140,true),.cmp .eql .i64 (.t 145) (kI 1)⟩,[],[],false⟩,(eF 147 (.pick (.t 140) (.t 146) (.c (.sc (.bool false))))),(eF 148 (.mv (.t 147))),⟨⟨some 149,some (148,true),.ld true 5 (.t 1)⟩,[],[],false⟩,⟨⟨some 150,some (148,true),.cal 29 [(.t 149),(kI 8)]⟩,[],[],false⟩,⟨⟨some 151,some (148,true),.cmp .eql .i64 (.t 150) (kI (-1))⟩,[],[],false⟩,(eF 152 (.pick (.t 148) (.t 151) (.c (.sc (.bool false))))),(eF 153 (.mv (.t 152))),⟨⟨some 154,some (153,true),.fa 0 (.t 3)⟩,[],[159],true⟩,⟨⟨some 155,some (153,true),.ld false 1 (.t 154)⟩,[],[159],true⟩,⟨⟨some 156,some (153,true),.fa 0 (.t 4)⟩,[],[159],true⟩,⟨⟨some 157,some (153,true),.ld false 1 (.t 156)⟩,[],[159],true⟩,⟨⟨some 158,some (153,true),.cal 27 [(.t 155),(.t 157)]⟩,[],[159],true⟩,⟨⟨some 159,some (153,true),.bsl 1 3 [zI] 1 [(0,(kI 0))]⟩,[159],[],true⟩,⟨⟨some 160,some (153,true),.cal 23 [(.t 158),(.t 159)]⟩,[],[],false⟩,(eF 161 (.pick (.t 153) (.t 160) (.c (.sc (.bool false))))),(eF 162 (.mv (.t 161))),⟨⟨some 163,some (162,true),.fa 0 (.t 3)⟩,[],[],true⟩,⟨⟨some 164,some (162,true),.ld false 1 (.t 163)⟩,[],[],true⟩,⟨⟨some 165,some (162,true),.cal 28 [(.t 164)]⟩,[],[],true⟩,⟨⟨some 166,some (162,true),.fa 0 (.t 4)⟩,[],[],true⟩,⟨⟨some 167,some (162,true),.ld false 1 (.t 166)⟩,[],[],true⟩,⟨⟨some 168,some (162,true),.cal 28 [(.t 167)]⟩,[],[],false⟩,⟨⟨some 169,some (162,true),.cmp .neq .u64 (.t 165) (.t 168)⟩,[],[],false⟩,(eF 170 (.pick (.t 162) (.t 169) (.c (.sc (.bool false))))),(eF 0 (.mv (.t 170)))])
 .ret)))))))))))))
def rv8:List RV:=[.tmp 0]
theorem ok8:fnOk Tryd.prog ac8 rv8 Tryd.f8=true:=by kernel_rfl
end Go.Proofs.YtecoaapkcnhlhaaDoor.Txt
namespace Go.Proofs.YtecoaapkcnhlhaaDoor
open Go Go.Vc Go.Ham Txt
theorem frm2(w:Nat)(h:w<2^64):FrmSm [[w],[]]:=by
 refine⟨fun ws hws v hv=> ?_,by simp,fun ws hws=> ?_⟩
 ·rcases List.mem_cons.1 hws with rfl|hws
  ·obtain rfl:v=w:=by simpa using hv
   exact h
  ·obtain rfl:ws=[]:=by simpa using hws
   cases hv
 ·rcases List.mem_cons.1 hws with rfl|hws
  ·simp
  ·obtain rfl:ws=[]:=by simpa using hws
   simp
theorem smE(c:Cfg)(h:c.sel.length<=10/\c.mode.length<=10/\c.tab.length<=10/\c.ram.length<=10):CfgSm c:=⟨by omega,by omega,by omega,by omega⟩
theorem frm1(w:Nat)(h:w<2^64):FrmSm [[w]]:=by
 refine⟨fun ws hws v hv=> ?_,by simp,fun ws hws=> ?_⟩
 ·obtain rfl:ws=[w]:=by simpa using hws
  obtain rfl:v=w:=by simpa using hv
  exact h
 ·obtain rfl:ws=[w]:=by simpa using hws
  simp
theorem qIZ(q:Bool)(l:List (List Nat)):Sub (.sl q 1 (rows (frmC q) l)) (.sl false 1 (rows (frmC false) l)):=by
 unfold rows
 exact qFU _ _ (fun h=>by cases h) (fun _ _=>rfl) fun ws _=>⟨.slp _ _ _ _ (fun h=>by cases h),trivial⟩
theorem qJ0{p:Bool}{a b c d:PV}(h1:Sub a c)(h2:Sub b d):Sub (.sl p 1 [[a],[b]]) (.sl false 1 [[c],[d]]):=by
 refine .sl _ _ _ _ _ (fun h=>by cases h) rfl (fun i x y hx hy=> ?_) fun i x y j u v hx hy hu hv=> ?_
 ·match i,hx,hy with
  |0,hx,hy=>simp at hx hy;subst hx;subst hy;rfl
  |1,hx,hy=>simp at hx hy;subst hx;subst hy;rfl
  |i+2,hx,hy=>simp at hx
 ·match i,hx,hy with
  |0,hx,hy=>
    simp at hx hy;subst hx;subst hy
    match j,hu,hv with
    |0,hu,hv=>simp at hu hv;subst hu;subst hv;exact h1
    |j+1,hu,hv=>simp at hu
  |1,hx,hy=>
    simp at hx hy;subst hx;subst hy
    match j,hu,hv with
    |0,hu,hv=>simp at hu hv;subst hu;subst hv;exact h2
    |j+1,hu,hv=>simp at hu
  |i+2,hx,hy=>simp at hx
def qJ1:List DO:=[⟨⟨some 160,some (153,true),.cal 23 [(.t 158),(.t 159)]⟩,[],[],false⟩,
 ⟨⟨some 161,none,.pick (.t 153) (.t 160) (.c (.sc (.bool false)))⟩,[],[],false⟩,
 ⟨⟨some 162,none,.mv (.t 161)⟩,[],[],false⟩,
 ⟨⟨some 163,some (162,true),.fa 0 (.t 3)⟩,[],[],true⟩,
 ⟨⟨some 164,some (162,true),.ld false 1 (.t 163)⟩,[],[],true⟩,
 ⟨⟨some 165,some (162,true),.cal 28 [(.t 164)]⟩,[],[],true⟩,
 ⟨⟨some 166,some (162,true),.fa 0 (.t 4)⟩,[],[],true⟩,
 ⟨⟨some 167,some (162,true),.ld false 1 (.t 166)⟩,[],[],true⟩,
 ⟨⟨some 168,some (162,true),.cal 28 [(.t 167)]⟩,[],[],false⟩,
 ⟨⟨some 169,some (162,true),.cmp .neq .u64 (.t 165) (.t 168)⟩,[],[],false⟩,
 ⟨⟨some 170,none,.pick (.t 162) (.t 169) (.c (.sc (.bool false)))⟩,[],[],false⟩,
 ⟨⟨some 0,none,.mv (.t 170)⟩,[],[],false⟩]
def qJ2:List DO:=⟨⟨some 159,some (153,true),.bsl 1 3 [.sc (.int .i64 0)] 1 [(0,(.c (.sc (.int .i64 0))))]⟩,[159],[],true⟩::qJ1
def qJ3:List DO:=⟨⟨some 158,some (153,true),.cal 27 [(.t 155),(.t 157)]⟩,[],[159],true⟩::qJ2
def qJ4:List DO:=⟨⟨some 157,some (153,true),.ld false 1 (.t 156)⟩,[],[159],true⟩::qJ3
def qJ5:List DO:=⟨⟨some 156,some (153,true),.fa 0 (.t 4)⟩,[],[159],true⟩::qJ4
def qJ6:List DO:=⟨⟨some 155,some (153,true),.ld false 1 (.t 154)⟩,[],[159],true⟩::qJ5
set_option maxRecDepth 8000 in
set_option maxHeartbeats 1000000 in
theorem qJ7:FnEq Tryd.prog 8 [] (.bool true):=by
 have h1:=qIK gE qIV cE0 (smE _ (by decide))
 have h2:=qIK gE qIV cE1 (smE _ (by decide))
 have h3:=qIK gE qIV cfg0 (smE _ (by decide))
 obtain⟨d1,d2⟩:=qIS qIV vE1
 obtain⟨n1,n2,n3,n4⟩:=qIT qIV vE1 (m:=[[9223372036854775823],[]]) (by rw[eE1];exact qIY)
 unfold encL encE at h1 h2 h3
 rw[if_pos vE0,if_pos vE0,eE0]at h1
 rw[if_pos vE1,if_pos vE1,eE1]at h2
 rw[if_neg vEn,if_neg vEn]at h3
 rw[eE1]at d1 d2 n3
 have f15:=frm2 15 (by decide)
 have f0:=frm2 0 (by decide)
 have fb:=frm2 9223372036854775823 (by decide)
 have h4:=qIP gE qIV [[15],[]] f15 d1
 rw[d2,show cntF [[15],[]]=0 from by decide+kernel]at h4
 have h5:=qGt [[0],[]] [[0],[]] f0 f0
 have h6:=qGt [[15],[]] [[15],[]] f15 f15
 have h7:=qyx cE1 cE1 (smE _ (by decide)) (smE _ (by decide))
 have h8:=qE1 gE qIV
 rw[szE]at h8
 have h9:=qGm [1,0] [1,0] (by decide) (by decide)
 have h10:=qIL [[15],[]] f15 ⟨0,0,63⟩
 rw[show fldF [[15],[]] ⟨0,0,63⟩=[[9223372036854775823],[]]from by decide,show fldE [[15],[]] ⟨0,0,63⟩=0 from by decide]at h10
 have h11:=qIN [[9223372036854775823],[]] fb
 rw[n3,show cntF [[9223372036854775823],[]]=1 from by decide+kernel,qIU n4]at h11
 have h12:=qIP gE qIV [[9223372036854775823],[]] fb n1
 rw[n2,show cntF [[9223372036854775823],[]]=1 from by decide+kernel]at h12
 have h13:=qIQ gE qIV [[15]] (frm1 15 (by decide)) (fun h=>by have:=h.size;rw[szE]at this;revert this;decide)
 have h14:=qIL [[15],[]] f15 ⟨1,0,0⟩
 rw[show fldF [[15],[]] ⟨1,0,0⟩=[]from by decide,show fldE [[15],[]] ⟨1,0,0⟩=1 from by decide]at h14
 have h15:=qEU gE qIV 8 (by decide)
 rw[show colF gE 8= -1 from by decide]at h15
 have h16:=qGy [[0],[]] [[15],[]] f0 f15
 rw[dfE]at h16
 have h17:=qGm [0] [0] (by decide) (by decide)
 have h18:=qET [[0],[]] f0
 have h19:=qET [[15],[]] f15
 have hdg:=dgE
 generalize digF [[0],[]]=D0 at *
 generalize digF [[15],[]]=D1 at *
 refine FnEq.of_awp Tryd.func8 ok8 (by show 0<=_;decide) sC ?_
 simp only[ac8,rv8,push_cast,reduceIte,reduceEqDiff,reduceAdd,reduceSub,reduceMul,Nat.reduceBEq,reduceLT,reduceLeDiff,reduceCtorEq,reduceToNat,reduceNeg,cNI]
 repeat (refine And.intro (by decide) ?_)
 refine qrr h1 (by exact⟨.refl _,.refl _,trivial⟩) ?_
 refine sB ?_
 repeat (refine And.intro (by decide) ?_)
 refine qrr h2 (by exact⟨.refl _,.refl _,trivial⟩) ?_
 refine sB ?_
 repeat (refine And.intro (by decide) ?_)
 refine qrr h4 (by exact⟨.refl _,qIZ true _,trivial⟩) ?_
 refine sB ?_
 repeat (refine And.intro (by decide) ?_)
 refine qrw rfl (fun e=>absurd e (by decide)) fun _=> ?_
 refine sB ?_
 repeat (refine And.intro (by decide) ?_)
 refine qrr h5 (by exact⟨qIZ true _,qJ0 (.slp _ _ _ _ (fun h=>by cases h)) (.nil _ _),trivial⟩) ?_
 refine sB ?_
 repeat (refine And.intro (by decide) ?_)
 refine qrw rfl (fun e=>absurd e (by decide)) fun _=> ?_
 refine sB ?_
 repeat (refine And.intro (by decide) ?_)
 refine qrr h6 (by exact⟨qIZ true _,qJ0 (.slp _ _ _ _ (fun h=>by cases h)) (.nil _ _),trivial⟩) ?_
 refine sB ?_
 repeat (refine And.intro (by decide) ?_)
 refine qrw rfl (fun e=>absurd e (by decide)) fun _=> ?_
 refine sB ?_
 repeat (refine And.intro (by decide) ?_)
 refine qrw rfl (fun e=>absurd e (by decide)) fun _=> ?_
 refine sB ?_
 repeat (refine And.intro (by decide) ?_)
 refine qrr h7 (by exact⟨Sub.aggL ⟨.slp _ _ _ _ (fun h=>by cases h),.slp _ _ _ _ (fun h=>by cases h),.slp _ _ _ _ (fun h=>by cases h),.slp _ _ _ _ (fun h=>by cases h),trivial⟩,.refl _,trivial⟩) ?_
 refine sB ?_
 repeat (refine And.intro (by decide) ?_)
 refine qrr h8 (by exact⟨.refl _,trivial⟩) ?_
 refine sB ?_
 repeat (refine And.intro (by decide) ?_)
 refine qrr h9 (by exact⟨.slp _ _ _ _ (fun h=>by cases h),.slp _ _ _ _ (fun h=>by cases h),trivial⟩) ?_
 refine sB ?_
 repeat (refine And.intro (by decide) ?_)
 refine qrr h10 (by exact⟨qIZ true _,.refl _,trivial⟩) ?_
 refine sB ?_
 repeat (refine And.intro (by decide) ?_)
 refine qrr h11 (by exact⟨qIZ true _,trivial⟩) ?_
 refine sB ?_
 repeat (refine And.intro (by decide) ?_)
 refine qrr h12 (by exact⟨.refl _,qIZ true _,trivial⟩) ?_
 refine sB ?_
 repeat (refine And.intro (by decide) ?_)
 refine qrr h3 (by exact⟨.refl _,Sub.aggL ⟨.nil _ _,.nil _ _,.nil _ _,.nil _ _,trivial⟩,trivial⟩) ?_
 refine sB ?_
 repeat (refine And.intro (by decide) ?_)
 refine qrr h6 (by exact⟨qIZ true _,qIZ true _,trivial⟩) ?_
 refine sB ?_
 repeat (refine And.intro (by decide) ?_)
 refine qrr h13 (by exact⟨.refl _,qIZ true [[15]],trivial⟩) ?_
 refine sB ?_
 repeat (refine And.intro (by decide) ?_)
 refine qrr h14 (by exact⟨qIZ true _,.refl _,trivial⟩) ?_
 refine sB ?_
 repeat (refine And.intro (by decide) ?_)
 refine qrr h15 (by exact⟨.refl _,.refl _,trivial⟩) ?_
 generalize hKK:(fun st' :St=>dsK _ _ (st'.put (some 153) (st'.get 152)) _)=KK
 refine sB ?_
 subst hKK
 show dsK _ (⟨⟨some 154,some (153,true),.fa 0 (.t 3)⟩,[],[159],true⟩::qJ6) _ _
 refine sB ?_
 rw[qJ6]
 refine sB ?_
 rw[qJ5]
 refine sB ?_
 rw[qJ4]
 refine sB ?_
 rw[qJ3]
 refine sB ?_
 refine qrt h16 (by exact⟨qIZ true _,qIZ true _,trivial⟩) rfl ?_
 rw[qJ2]
 refine sB ?_
 repeat (refine And.intro (by decide) ?_)
 rw[qJ1]
 refine sB ?_
 refine qrr h17 (by exact⟨.slp _ _ _ _ (fun h=>by cases h),.refl _,trivial⟩) ?_
 refine sB ?_
 refine qrt h18 (by exact⟨qIZ true _,trivial⟩) rfl ?_
 refine sB ?_
 first|refine qrt h19 (by exact⟨qIZ true _,trivial⟩) rfl ?_|refine qrr h19 (by exact⟨qIZ true _,trivial⟩) ?_
 refine sB ?_
 exact congrArg Value.bool (decide_eq_true (fun e:(D0:Int)=D1=>hdg (Int.ofNat.inj e)))
end Go.Proofs.YtecoaapkcnhlhaaDoor
namespace Go.Proofs.YtecoaapkcnhlhaaDoor
open Go Go.Vc Go.Ham Txt
def k3C(x:Int×Int×Int):List PV:=[.sc (.int .u8 x.1),.sc (.int .u8 x.2.1),.sc (.int .u8 x.2.2)]
@[push_cast] theorem qJd(x:Int×Int×Int):k3C x=[.sc (.int .u8 x.1),.sc (.int .u8 x.2.1),.sc (.int .u8 x.2.2)]:=rfl
structure Odd38 where
 L:List (List Nat)
 c:Cfg
 f:FlipA
 n:Int
 K:List (Int×Int×Int)
def qJe(q:Bool)(z:Odd38):List PV:=[.sl q 1 (rows (frmC q) z.L),.sl q 1 (ints z.c.sel),.sl q 1 (ints z.c.mode),.sl q 1 (ints z.c.tab),.sl q 1 (ints z.c.ram),.int z.f.x,.int z.f.k,.int z.f.b,.int z.n,.sl q 3 (rows k3C z.K)]
@[push_cast] theorem qJf(q:Bool)(z:Odd38):qJe q z=[.sl q 1 (rows (frmC q) z.L),.sl q 1 (ints z.c.sel),.sl q 1 (ints z.c.mode),.sl q 1 (ints z.c.tab),.sl q 1 (ints z.c.ram),.int z.f.x,.int z.f.k,.int z.f.b,.int z.n,.sl q 3 (rows k3C z.K)]:=rfl
end Go.Proofs.YtecoaapkcnhlhaaDoor
namespace Go.Proofs.YtecoaapkcnhlhaaDoor.Txt
open Go Go.Vc
set_option maxRecDepth 100000
def ac7:AC:=
 (.seq (.reg [0,142,0] [
 (aO 1 (.box (.t 0))),(aO 2 (.mv (.c (.sc (.bool false)))))])
 (.seq (.reg [0,142,1] [
 (aO 7 (.cal 8 [])),(aO 3 (.mv (.t 7)))])
 (.seq (.seq (.reg [0,142,1,3] [
 (aO 8 (.mv (.t 3))),(aO 9 (.not (.t 8))),(aO 10 (.mv (.t 9))),⟨some 11,some (10,false),.ld true 10 (.t 1)⟩,⟨some 12,some (10,false),.cal 10 [(.t 11)]⟩,⟨some 13,some (10,false),.not (.t 12)⟩,(aO 14 (.pick (.t 10) (.c (.sc (.bool true))) (.t 13)))])
 (.cut [0,142,1,3,14] (.cond (.t 14)
 (.seq (.reg [0,142,3] [
 (aO 15 (.mv (.t 3))),(aO 2 (.mv (.t 15)))])
 .ret)
 .skip)))
 (.seq (.reg [0,142,1,3] [
 (aO 16 (.fa 0 (.t 1))),(aO 17 (.ld false 1 (.t 16))),(aO 18 (.fa 5 (.t 1))),(aO 19 (.ld true 3 (.t 18))),(aO 20 (.cal 20 [(.t 17),(.t 19)])),(aO 4 (.alc [.nil,zI])),(aN (.sto 2 (.t 4) (.t 20)))])
 (.seq (.seq (.reg [0,142,1,3,4] [
 (aO 21 (.fa 1 (.t 4))),(aO 22 (.ld false 1 (.t 21))),(aO 23 (.cmp .neq .i64 (.t 22) (kI 0)))])
 (.cond (.t 23)
 (.seq (.drw [0,142,1,3,4] [
 (eF 24 (.fa 5 (.t 1))),(eF 25 (.fa 0 (.t 24))),(eF 26 (.ld false 1 (.t 25))),(eF 27 (.cmp .geq .i64 (.t 26) (kI 0))),(eF 28 (.mv (.t 27))),⟨⟨some 29,some (28,true),.fa 5 (.t 1)⟩,[],[],true⟩,⟨⟨some 30,some (28,true),.fa 0 (.t 29)⟩,[],[],true⟩,⟨⟨some 31,some (28,true),.ld false 1 (.t 30)⟩,[],[],true⟩,⟨⟨some 32,some (28,true),.fa 0 (.t 1)⟩,[],[],true⟩,⟨⟨some 33,some (28,true),.ld false 1 (.t 32)⟩,[],[],true⟩,⟨⟨some 34,some (28,true),.len (.t 33)⟩,[],[],true⟩,⟨⟨some 35,some (28,true),.cmp .lss .i64 (.t 31) (.t 34)⟩,[],[],false⟩,(eF 36 (.pick (.t 28) (.t 35) (.c (.sc (.bool false))))),(eF 37 (.mv (.t 36))),⟨⟨some 38,some (37,true),.fa 5 (.t 1)⟩,[],[],false⟩,⟨⟨some 39,some (37,true),.fa 1 (.t 38)⟩,[],[],false⟩,⟨⟨some 40,some (37,true),.ld false 1 (.t 39)⟩,[],[],false⟩,⟨⟨some 41,some (37,true),.cmp .geq .i64 (.t 40) (kI 0)⟩,[],[],false⟩,(eF 42 (.pick (.t 37) (.t 41) (.c (.sc (.bool false))))),(eF 43 (.mv (.t 42))),⟨⟨some 44,some (43,true),.fa 5 (.t 1)⟩,[],[],true⟩,⟨⟨some 45,some (43,true),.fa 1 (.t 44)⟩,[],[],true⟩,⟨⟨some 46,some (43,true),.ld false 1 (.t 45)⟩,[],[],true⟩,⟨⟨some 47,some (43,true),.fa 0 (.t 1)⟩,[],[],true⟩,⟨⟨some 48,some (43,true),.ld false 1 (.t 47)⟩,[],[],true⟩,⟨⟨some 49,some (43,true),.fa 5 (.t 1)⟩,[],[],true⟩,⟨⟨some 50,some (43,true),.fa 0 (.t 49)⟩,[],[],true⟩,⟨⟨some 51,some (43,true),.ld false 1 (.t 50)⟩,[],[],true⟩,⟨⟨some 52,some (43,true),.fa 0 (.t 1)⟩,[],[],true⟩,⟨⟨some 53,some (43,true),.ld false 1 (.t 52)⟩,[],[],true⟩,⟨⟨some 54,some (43,true),.len (.t 53)⟩,[],[],true⟩,⟨⟨some 55,some (43,true),.ari .sub true .i64 (.t 54) (kI 1)⟩,[],[],true⟩,⟨⟨some 56,some (43,true),.mn false (.t 51) (.t 55)⟩,[],[],true⟩,⟨⟨some 57,some (43,true),.mn true (kI 0) (.t 56)⟩,[],[],true⟩,⟨⟨some 58,some (43,true),.ixs 1 (.t 48) (.t 57)⟩,[],[],true⟩,⟨⟨some 59,some (43,true),.fa 0 (.t 58)⟩,[],[],true⟩,⟨⟨some 60,some (43,true),.ld false 1 (.t 59)⟩,[],[],true⟩,⟨⟨some 61,some (43,true),.len (.t 60)⟩,[],[],true⟩,⟨⟨some 62,some (43,true),.cmp .lss .i64 (.t 46) (.t 61)⟩,[],[],false⟩,(eF 63 (.pick (.t 43) (.t 62) (.c (.sc (.bool false))))),(eF 64 (.mv (.t 63))),⟨⟨some 65,some (64,true),.fa 5 (.t 1)⟩,[],[],false⟩,⟨⟨some 66,some (64,true),.fa 2 (.t 65)⟩,[],[],false⟩,⟨⟨some 67,some (64,true),.ld false 1 (.t 66)⟩,[],[],false⟩,⟨⟨some 68,some (64,true),.cmp .geq .i64 (.t 67) (kI 0)⟩,[],[],false⟩,(eF 69 (.pick (.t 64) (.t 68) (.c (.sc (.bool false))))),(eF 70 (.mv (.t 69))),⟨⟨some 71,some (70,true),.fa 5 (.t 1)⟩,[],[],false⟩,⟨⟨some 72,some (70,true),.fa 2 (.t 71)⟩,[],[],false⟩,⟨⟨some 73,some (70,true),.ld false 1 (.t 72)⟩,[],[],false⟩,⟨⟨some 74,some (70,true),.cmp .lss .i64 (.t 73) (kI 64)⟩,[],[],false⟩,(eF 75 (.pick (.t 70) (.t 74) (.c (.sc (.bool false))))),(eF 5 (.mv (.t 75)))])
 (.cut [0,142,3,4,5] (.seq (.rgs [
 ([0,142,3,4,5],[
 (aO 76 (.fa 1 (.t 4))),(aO 77 (.ld false 1 (.t 76))),(aO 78 (.cmp .eql .i64 (.t 77) (kI 1))),(aO 79 (.mv (.t 78))),⟨some 80,some (79,true),.mv (.t 5)⟩,⟨some 81,some (79,true),.not (.t 80)⟩,(aO 82 (.pick (.t 79) (.t 81) (.c (.sc (.bool false))))),(aO 83 (.mv (.t 82))),⟨some 84,some (83,true),.fa 0 (.t 4)⟩,⟨some 85,some (83,true),.ld false 1 (.t 84)⟩,⟨some 86,some (83,true),.len (.t 85)⟩,⟨some 87,some (83,true),.cmp .eql .i64 (.t 86) (kI 0)⟩]),([0,142,3,83,87],[
 (aO 88 (.pick (.t 83) (.t 87) (.c (.sc (.bool false))))),(aO 89 (.mv (.t 88))),⟨some 90,some (89,true),.mv (.t 3)⟩,(aO 91 (.pick (.t 89) (.t 90) (.c (.sc (.bool false))))),(aO 2 (.mv (.t 91)))])])
 .ret)))
 .skip))
 (.seq (.reg [0,142,1,3,4] [
 (aO 92 (.fa 0 (.t 4))),(aO 93 (.ld false 1 (.t 92))),(aO 94 (.fa 5 (.t 1))),(aO 95 (.ld true 3 (.t 94))),(aO 96 (.cal 20 [(.t 93),(.t 95)])),(aO 6 (.alc [.nil,zI])),(aN (.sto 2 (.t 6) (.t 96)))])
 (.seq (.drw [0,142,1,3,4,6] [
 (eU 97 (.fa 0 (.t 1)) [] [105]),(eU 98 (.ld false 1 (.t 97)) [] [105]),(eU 99 (.fa 0 (.t 4)) [] [105]),(eU 100 (.ld false 1 (.t 99)) [] [105]),(eU 101 (.cal 27 [(.t 98),(.t 100)]) [] [105]),(eT 102 (.fa 5 (.t 1))),(eT 103 (.fa 0 (.t 102))),(eT 104 (.ld false 1 (.t 103))),(eU 105 (.bsl 1 3 [zI] 1 [(0,(.t 104))]) [105] []),(eF 106 (.cal 23 [(.t 101),(.t 105)])),(eF 107 (.mv (.t 106))),⟨⟨some 108,some (107,true),.fa 0 (.t 1)⟩,[],[],true⟩,⟨⟨some 109,some (107,true),.ld false 1 (.t 108)⟩,[],[],true⟩,⟨⟨some 110,some (107,true),.cal 28 [(.t 109)]⟩,[],[],true⟩,⟨⟨some 111,some (107,true),.fa 0 (.t 4)⟩,[],[],true⟩,⟨⟨some 112,some (107,true),.ld false 1 (.t 111)⟩,[],[],true⟩,⟨⟨some 113,some (107,true),.cal 28 [(.t 112)]⟩,[],[],false⟩,⟨⟨some 114,some (107,true),.cmp .neq .u64 (.t 110) (.t 113)⟩,[],[],false⟩,(eF 115 (.pick (.t 107) (.t 114) (.c (.sc (.bool false))))),(eF 116 (.mv (.t 115))),⟨⟨some 117,some (116,true),.fa 1 (.t 6)⟩,[],[],false⟩,⟨⟨some 118,some (116,true),.ld false 1 (.t 117)⟩,[],[],false⟩,⟨⟨some 119,some (116,true),.cmp .eql .i64 (.t 118) (kI 0)⟩,[],[],false⟩,(eF 120 (.pick (.t 116) (.t 119) (.c (.sc (.bool false))))),(eF 121 (.mv (.t 120))),⟨⟨some 122,some (121,true),.fa 0 (.t 1)⟩,[],[],true⟩,⟨⟨some 123,some (121,true),.ld false 1 (.t 122)⟩,[],[],true⟩,⟨⟨some 124,some (121,true),.fa 0 (.t 6)⟩,[],[],true⟩,⟨⟨some 125,some (121,true),.ld false 1 (.t 124)⟩,[],[],true⟩,⟨⟨some 126,some (121,true),.cal 27 [(.t 123),(.t 125)]⟩,[],[],false⟩,⟨⟨some 127,some (121,true),.len (.t 126)⟩,[],[],false⟩,⟨⟨some 128,some (121,true),.cmp .eql .i64 (.t 127) (kI 0)⟩,[],[],false⟩,(eF 129 (.pick (.t 121) (.t 128) (.c (.sc (.bool false))))),(eF 130 (.mv (.t 129))),⟨⟨some 131,some (130,true),.fa 0 (.t 6)⟩,[],[],true⟩,⟨⟨some 132,some (130,true),.ld false 1 (.t 131)⟩,[],[],true⟩,⟨⟨some 133,some (130,true),.cal 28 [(.t 132)]⟩,[],[],true⟩,⟨⟨some 134,some (130,true),.fa 0 (.t 1)⟩,[],[],true⟩,⟨⟨some 135,some (130,true),.ld false 1 (.t 134)⟩,[],[],true⟩,⟨⟨some 136,some (130,true),.cal 28 [(.t 135)]⟩,[],[],false⟩,⟨⟨some 137,some (130,true),.cmp .eql .u64 (.t 133) (.t 136)⟩,[],[],false⟩,(eF 138 (.pick (.t 130) (.t 137) (.c (.sc (.bool false))))),(eF 139 (.mv (.t 138))),⟨⟨some 140,some (139,true),.mv (.t 3)⟩,[],[],false⟩,(eF 141 (.pick (.t 139) (.t 140) (.c (.sc (.bool false))))),(eF 2 (.mv (.t 141)))])
 .ret)))))))
def rv7:List RV:=[.tmp 2]
theorem ok7:fnOk Tryd.prog ac7 rv7 Tryd.f7=true:=by kernel_rfl
end Go.Proofs.YtecoaapkcnhlhaaDoor.Txt
namespace Go.Proofs.YtecoaapkcnhlhaaDoor
open Go Go.Vc Txt
end Go.Proofs.YtecoaapkcnhlhaaDoor
namespace Go.Proofs.YtecoaapkcnhlhaaDoor
open Go Go.Vc Go.Ham Txt
end Go.Proofs.YtecoaapkcnhlhaaDoor
namespace Go.Proofs.YtecoaapkcnhlhaaDoor
open Go Go.Vc Go.Ham Txt
theorem spot_mem{l:List (List Nat)}{p:Nat×Nat} :p∈qGC l ↔ p.1<l.length/\p.2<(l.getD p.1 []).length:=by
 unfold qGC qGB
 rw[List.mem_flatMap]
 constructor
 ·rintro⟨i,hi,hp⟩
  have hi:=List.mem_range.1 hi
  unfold qGA at hp
  obtain⟨k,hk,rfl⟩:=List.mem_map.1 hp
  exact⟨hi,List.mem_range.1 hk⟩
 ·rintro⟨h1,h2⟩
  refine⟨p.1,List.mem_range.2 h1,?_⟩
  unfold qGA
  exact List.mem_map.2 ⟨p.2,List.mem_range.2 h2,rfl⟩
theorem qJn(l:List (List Nat)):(qGC l).Nodup:=by
 unfold qGC
 have key: ∀n,(qGB l n).Nodup/\ ∀p∈qGB l n,p.1<n:=by
  intro n
  induction n with
  |zero=>exact⟨by simp[qGB],by simp[qGB]⟩
  |succ n ih=>
    rw[qGD]
    have h2: ∀p∈qGA l n,p.1=n:=by
     intro p hp
     unfold qGA at hp
     obtain⟨k,_,rfl⟩:=List.mem_map.1 hp
     rfl
    refine⟨List.nodup_append.2 ⟨ih.1,?_,fun a ha b hb e=> ?_⟩,fun p hp=> ?_⟩
    ·unfold qGA
     exact List.Pairwise.map _ (fun a b h e=>h (Prod.mk.inj e).2) List.nodup_range
    ·have h3:=ih.2 a ha
     have h4:=h2 b hb
     rw[e]at h3;omega
    ·rcases List.mem_append.1 hp with h|h
     ·have:=ih.2 p h;omega
     ·have:=h2 p h;omega
 exact(key _).1
theorem Near.sm{F m:List (List Nat)}(h:Near F m)(hF:FrmSm F):FrmSm m:=by
 have hl:m.length=F.length:=by have:=congrArg List.length h.size;simpa using this
 refine⟨fun ws hws w hw=> ?_,by have:=hF.n;omega,fun ws hws=> ?_⟩
 ·obtain⟨x,k,hi,rfl⟩:=qHe hws hw
  have hiF:inW F x k:=(qHd h.size x k).1 hi
  obtain⟨ws',hw',hm'⟩:=qHf hiF
  have hb:=hF.ok ws' hw' _ hm'
  rcases h.at' x k hiF with e|⟨b,hb2,e⟩
  ·rw[e];exact hb
  ·rw[e];exact Nat.xor_lt_two_pow hb (Nat.pow_lt_pow_right (by decide) hb2)
 ·obtain⟨x,hx,rfl⟩:=List.mem_iff_getElem.1 hws
  have e:=congrArg (fun l=>l[x]?) h.size
  simp only[List.getElem?_map,List.getElem?_eq_getElem hx,List.getElem?_eq_getElem (show x<F.length by omega),Option.map_some,Option.some.injEq]at e
  rw[e]
  exact hF.len _ (List.getElem_mem _)
structure CorSt (F m:List (List Nat)) (dn:List Bool) (n:Nat):Prop where
 near:Near F m
 cnt:cntF m=n
 len:dn.length=(qGC F).length
 no: ∀i,i<(qGC F).length->dn.getD i default=false->atW m ((qGC F).getD i default).1 ((qGC F).getD i default).2=atW F ((qGC F).getD i default).1 ((qGC F).getD i default).2
theorem qJo{F:List (List Nat)}{i:Nat}(h:i<(qGC F).length):inW F ((qGC F).getD i default).1 ((qGC F).getD i default).2:=by
 rw[List.getD_eq_getElem?_getD,List.getElem?_eq_getElem h]
 exact spot_mem.1 (List.getElem_mem h)
theorem CorSt.step {F m : List (List Nat)} {dn : List Bool} {n i b : Nat} (hc : ∀ ws ∈ F, ∀ w ∈ ws, chkW w = 0) (h : CorSt F m dn n) (hi : i < (qGC F).length) (hd : dn.getD i default = false) (hb : b < 64) :
  CorSt F (qH4 m ((qGC F).getD i default).1 ((qGC F).getD i default).2 b) (dn.set i true) (n+1):=by
 have hin:=qJo hi
 have he:=h.no i hi hd
 have him:inW m ((qGC F).getD i default).1 ((qGC F).getD i default).2:=(qHd h.near.size _ _).2 hin
 obtain⟨ws,hw1,hw2⟩:=qHf hin
 have h0:=hc ws hw1 _ hw2
 refine⟨h.near.flip hin hb he,?_,by rw[List.length_set,h.len],fun j hj hdj=> ?_⟩
 ·have hf:=qHj (b:=b) him
  rw[he,h0,(qA2 h0 hb).1]at hf
  have hcn:=h.cnt
  simp only[show ¬(0=1)from by decide,if_false,if_true]at hf
  show qHg _=_
  have:qHg m=n:=hcn
  omega
 ·have hji:j≠i:=by
   rintro rfl
   rw[List.getD_eq_getElem?_getD,List.getElem?_set_self (by rw[h.len];exact hi)]at hdj
   cases hdj
  have hdj2:dn.getD j default=false:=by
   rw[List.getD_eq_getElem?_getD,List.getElem?_set_ne (Ne.symm hji),<- List.getD_eq_getElem?_getD]at hdj
   exact hdj
  rw[qH7 him,if_neg]
  ·exact h.no j hj hdj2
  ·rintro⟨e1,e2⟩
   have e:(qGC F).getD i default=(qGC F).getD j default:=Prod.ext e1 e2
   rw[List.getD_eq_getElem?_getD,List.getD_eq_getElem?_getD,List.getElem?_eq_getElem hi,List.getElem?_eq_getElem hj]at e
   exact hji ((List.getElem_inj (qJn F)).1 e).symm
end Go.Proofs.YtecoaapkcnhlhaaDoor
namespace Go.Proofs.YtecoaapkcnhlhaaDoor
open Go Go.Vc Go.Ham Txt
end Go.Proofs.YtecoaapkcnhlhaaDoor
namespace Go.Proofs.YtecoaapkcnhlhaaDoor
open Go Go.Vc Go.Ham Txt
theorem qJr {P : Program} {w : World} {g t e : Nat} {D : DataW Unit} (hg : P.globalNamed "math/bits.deBruijn64tab" = some g) (ht : (P.globals[g]?).map (·.type) = some t) (hu : P.underlying t = some (.array 64 e)) (he : P.underlying e = some (.int .u8)) (hc : P.cellsOf e = 1)
  (hn : D.handleName?.isNone = true) (hD : D = .agg (tzTab.map fun n => .lit (.int .u8 (n : Nat)))) (h : laidMetH P [("math/bits.deBruijn64tab", D)] w) : GL P w := by
 rw[MakeChecks.laidMetH_plain _ _ _ (by simp[hn])]at h
 obtain⟨ps,⟨g0,t0,cs0,f0,p0,q0,hg0,ht0,hv0,hd0,_,_⟩,_,_⟩:=h
 obtain rfl:=Option.some.inj (hg.symm.trans hg0)
 obtain rfl:=Option.some.inj (ht.symm.trans ht0)
 obtain⟨xs,m1,rfl,hx1,hlen,hn3,hel⟩:=DataW.trod_array hu hd0
 intro g' hg' j hj
 obtain rfl:=Option.some.inj (hg.symm.trans hg')
 have h0:=hel j hj
 rw[hc]at h0
 have hjx:j<xs.length:=by omega
 rw[List.getElem?_eq_getElem hjx]at h0
 obtain⟨k,e1,e2,_⟩:=DataW.trod_int he h0
 simp only[Prod.mk.injEq]at hx1
 have hx:=hx1.1
 rw[hD]at hx
 injection hx with hx
 have h2:(xs.map (·.1))[j]? =some (.lit (.int .u8 k)):=by
  rw[List.getElem?_map,List.getElem?_eq_getElem hjx,e2];rfl
 rw[<- hx]at h2
 have hjt:j<tzTab.length:=hj
 rw[List.getElem?_map,List.getElem?_eq_getElem hjt]at h2
 have hk:k=(tzTab[j]:Nat):=by simpa using h2.symm
 rw[World.var?_cell hg hv0 j,List.getD_eq_getElem?_getD,List.getElem?_eq_getElem hjt]
 have h3:=congrArg (·[0]?) e1
 simp[List.getElem?_take,List.getElem?_drop]at h3
 rw[h3,hk]
 rfl
def qJu:List Ty:=[.sl 1 [.sl 1 [.i .u64]],.sl 1 [.i .i64],.sl 1 [.i .i64],.sl 1 [.i .i64],.sl 1 [.i .i64],.i .i64,.i .i64,.i .i64,.i .i64,.sl 3 [.i .u8,.i .u8,.i .u8]]
theorem qJx(z:Odd38):Sub (.agg (qJe true z)) (.agg (qJe false z)):=
 Sub.aggL ⟨qIZ true _,.slp _ _ _ _ (fun h=>by cases h),.slp _ _ _ _ (fun h=>by cases h),.slp _ _ _ _ (fun h=>by cases h),.slp _ _ _ _ (fun h=>by cases h),.refl _,.refl _,.refl _,.refl _,.slp _ _ _ _ (fun h=>by cases h),trivial⟩
end Go.Proofs.YtecoaapkcnhlhaaDoor
namespace Go.Proofs.YtecoaapkcnhlhaaDoor
open Go Go.Vc Go.Ham Txt
theorem qJL{α:Type}(l:List α)(k:Nat)(d:α)(h:k<l.length):l.getD k d=l[k]:=by
 rw[List.getD_eq_getElem?_getD,List.getElem?_eq_getElem h];rfl
structure Det (F T m:List (List Nat)) (x k:Nat):Prop where
 size:m.map List.length=F.map List.length
 bad:chkW (atW m x k)=2
 same:atW m x k=atW T x k
 rest: ∀x' k',inW F x' k' -> ¬(x=x' /\k=k')->atW T x' k' =atW F x' k' /\(atW m x' k' =atW F x' k' \/ ∃b,b<64/\atW m x' k' =atW F x' k' ^^^2^b)
end Go.Proofs.YtecoaapkcnhlhaaDoor
namespace Go.Proofs.YtecoaapkcnhlhaaDoor
open Go Go.Vc Go.Ham Txt
theorem FrmSm.flip{l:List (List Nat)}(h:FrmSm l){x k b:Nat}(hi:inW l x k)(hb:b<64):FrmSm (qH4 l x k b):=(Near.flip (Near.refl l) hi hb rfl).sm h
end Go.Proofs.YtecoaapkcnhlhaaDoor
namespace Go.Proofs.YtecoaapkcnhlhaaDoor
open Go Go.Vc Go.Ham Txt
theorem qJT{α:Type}(l:List α)(k:Nat)(v d:α)(h:k<l.length): ∃a b,a.length=k/\l=a++l.getD k d::b/\l.set k v=a++v::b:=by
 refine⟨l.take k,l.drop (k+1),by rw[List.length_take];omega,?_,?_⟩
 ·rw[qJL l k d h,List.getElem_cons_drop,List.take_append_drop]
 ·rw[List.set_eq_take_append_cons_drop,if_pos h]
theorem qJU(a b:List (List Nat))(ws:List Nat):qEz (a++ws::b)=(a++ws::b).length::(a.flatMap fun ws=>ws.length::ws)++ws.length::ws++b.flatMap fun ws=>ws.length::ws:=by
 simp[qEz]
theorem qJV{l:List (List Nat)}(hl:FrmSm l){x k b:Nat}(hi:inW l x k)(hb:b<64):digF l≠digF (qH4 l x k b):=by
 obtain⟨a,c,ha,e1,e2⟩:=qJT l x ((l.getD x []).set k (atW l x k^^^2^b)) [] hi.1
 obtain⟨p,q,hp,e3,e4⟩:=qJT (l.getD x []) k (atW l x k^^^2^b) 0 hi.2
 have hw:atW l x k<2^64:=by
  obtain⟨ws,h1,h2⟩:=qHf hi
  exact hl.ok ws h1 _ h2
 have hv:atW l x k^^^2^b<2^64:=Nat.xor_lt_two_pow hw (Nat.pow_lt_pow_right (by decide) hb)
 have hne:atW l x k≠atW l x k^^^2^b:=fun e=>by
  have h1:=congrArg (atW l x k^^^ ·) e
  simp only[Nat.xor_self,<- Nat.xor_assoc,Nat.zero_xor]at h1
  have:=Nat.pow_pos (n:=b) (show 0<2 by decide)
  omega
 have hmem: ∀ws∈l,ws∈l:=fun _ h=>h
 have hF:qH4 l x k b=a++(p++(atW l x k^^^2^b)::q)::c:=by
  show l.set x ((l.getD x []).set k (atW l x k^^^2^b))=_
  rw[e2,e4]
 have hL:l=a++(p++atW l x k::q)::c:=by
  rw[<- show l.getD x []=p++atW l x k::q from e3];exact e1
 have hall: ∀ws∈a++(p++atW l x k::q)::c,(∀w∈ws,w<2^64)/\ws.length<=1000:=fun ws h=>by
  rw[<- hL]at h;exact⟨hl.ok ws h,hl.len ws h⟩
 have hn:(a++(p++atW l x k::q)::c).length<=900:=by rw[<- hL];exact hl.n
 have h64:(1000:Nat)<2^64:=by decide
 have hfm: ∀z:List (List Nat),(∀ws∈z,(∀w∈ws,w<2^64)/\ws.length<=1000)-> ∀n∈z.flatMap (fun ws=>ws.length::ws),n<2^64:=fun z hz n hn=>by
  obtain⟨ws,h1,h2⟩:=List.mem_flatMap.1 hn
  rcases List.mem_cons.1 h2 with rfl|h2
  ·have:=(hz ws h1).2;omega
  ·exact(hz ws h1).1 n h2
 have hmid:=hall (p++atW l x k::q) (by simp)
 rw[hF]
 generalize hz:atW l x k^^^2^b=v at *
 rw[hL]
 generalize atW l x k=w at *
 unfold digF
 have s1: ∀u:Nat,qEz (a++(p++u::q)::c)=((a++(p++w::q)::c).length::(a.flatMap fun ws=>ws.length::ws)++(p++w::q).length::p)++u::(q++c.flatMap fun ws=>ws.length::ws):=fun u=>by
  rw[qJU];simp
 rw[s1 w,s1 v]
 refine qEy ?_ ?_ hw hv hne ?_
 ·intro n h
  simp only[List.mem_append,List.mem_cons]at h
  rcases h with(rfl|h)|rfl|h
  ·omega
  ·exact hfm a (fun ws h=>hall ws (by simp[h])) n h
  ·have:=hmid.2;omega
  ·exact hmid.1 n (by simp[h])
 ·intro n h
  rcases List.mem_append.1 h with h|h
  ·exact hmid.1 n (by simp[h])
  ·exact hfm c (fun ws h=>hall ws (by simp[h])) n h
 ·have hb2 : ∀ z : List (List Nat), (∀ ws ∈ z, ws.length <= 1000) -> (z.flatMap fun ws => ws.length :: ws).length <= 1001 * z.length := fun z => by
   induction z with
   |nil=>intro _;simp
   |cons ws z ih=>
     intro hz
     have h1:=ih fun ws h=>hz ws (by simp[h])
     have h2:=hz ws (by simp)
     simp only[List.flatMap_cons,List.length_append,List.length_cons]
     omega
  have h1:=hb2 a fun ws h=>(hall ws (by simp[h])).2
  have h2:=hb2 c fun ws h=>(hall ws (by simp[h])).2
  have h3:=hmid.2
  simp only[List.length_append,List.length_cons]at hn h3 ⊢
  have h4:(1000000:Nat)<2^64:=by decide
  omega
theorem qJW{l:List (List Nat)}{x k b:Nat}(hi:inW l x k):qH4 (qH4 l x k b) x k b=l:=by
 have hi2:inW (qH4 l x k b) x k:=flipB_in.2 hi
 refine qHc (by rw[qHb,qHb]) fun x' k' _=> ?_
 rw[qH7 hi2,qH7 hi,qH7 hi]
 by_cases h:x=x' /\k=k'
 ·obtain⟨rfl,rfl⟩:=h
  simp[qA4]
 ·simp[h]
theorem qJX{w b:Nat} :w≠w^^^2^b:=fun e=>by
 have h1:=congrArg (w^^^ ·) e
 simp only[Nat.xor_self,<- Nat.xor_assoc,Nat.zero_xor]at h1
 have:=Nat.pow_pos (n:=b) (show 0<2 by decide)
 omega
theorem qJY{a b:List (List Nat)}{x N:Nat}(h: ∀y,y<N->(difB a b y=true ↔ y=x)): ∀n,n<=N->difN a b n=if x<n then[(x:Int)]else[]
 |0,_=>by simp[difN]
 | n + 1, hn => by
   rw[qGo,qJY h n (by omega)]
   by_cases hx:n=x
   ·subst hx
    rw[if_pos ((h n (by omega)).2 rfl),if_neg (by omega),if_pos (by omega)];rfl
   ·rw[if_neg (fun e=>hx ((h n (by omega)).1 e))]
    by_cases h2:x<n
    ·rw[if_pos h2,if_pos (by omega)]
    ·rw[if_neg h2,if_neg (by omega)]
theorem qJZ{l:List (List Nat)}{x k b:Nat}(hi:inW l x k):qGn l (qH4 l x k b)=[(x:Int)]:=by
 unfold qGn
 rw[qH8,Nat.max_self,qJY (N:=l.length) (x:=x) (fun y hy=> ?_) _ (Nat.le_refl _),if_pos hi.1]
 unfold difB
 rw[qH8,decide_eq_false (by omega),show(qH4 l x k b).getD y default=(qH4 l x k b).getD y []from rfl,qH6]
 by_cases hx:x=y
 ·subst hx
  rw[if_pos ⟨rfl,hi.1⟩]
  have hn:l.getD x default≠(l.getD x []).set k (atW l x k^^^2^b):=fun e=>by
   have h1:=congrArg (fun z=>z.getD k 0) e
   have h2:k<(l.getD x []).length:=hi.2
   simp only[List.getD_eq_getElem?_getD (l:=(l.getD x []).set k (atW l x k^^^2^b)),List.getElem?_set_self h2]at h1
   exact qJX h1
  rw[decide_eq_false hn];simp
 ·rw[if_neg (fun e=>hx e.1),decide_eq_true (show l.getD y default=l.getD y []from rfl)]
  simp[Ne.symm hx]
end Go.Proofs.YtecoaapkcnhlhaaDoor
namespace Go.Proofs.YtecoaapkcnhlhaaDoor
open Go Go.Vc Go.Ham Txt
def sumK(L:List (List Nat))(k:Nat):Nat:=((L.take k).map List.length).sum
theorem qK0{L:List (List Nat)}{k:Nat}(h:k<L.length):sumK L (k+1)=sumK L k+(L.getD k []).length:=by
 unfold sumK
 rw[List.take_succ_eq_append_getElem h,List.map_append,List.sum_append,qJL L k [] h]
 simp
theorem qK1(L:List (List Nat)):sumK L L.length=(L.map List.length).sum:=by unfold sumK;rw[List.take_length]
theorem qK2(L:List (List Nat))(k:Nat):sumK L k<=(L.map List.length).sum:=by
 have h:(L.map List.length).sum=sumK L k+((L.drop k).map List.length).sum:=by
  unfold sumK;rw[<- List.sum_append,<- List.map_append,List.take_append_drop]
 omega
def qK3(z:Odd38):Nat:=z.L.length+z.c.sel.length+z.c.mode.length+z.c.tab.length+z.c.ram.length+z.K.length
def qK4(z:Odd38):Nat:=qK3 z+(z.L.map List.length).sum
structure Odd38.Sized (z:Odd38):Prop where
 l:z.L.length<=140737488355328
 sel:z.c.sel.length<=140737488355328
 mode:z.c.mode.length<=140737488355328
 tab:z.c.tab.length<=140737488355328
 ram:z.c.ram.length<=140737488355328
 k:z.K.length<=140737488355328
 row: ∀ws∈z.L,ws.length<=140737488355328
set_option maxHeartbeats 1000000 in
theorem qK5(z:Odd38)(hz:z.Sized):FnEq Tryd.prog 10 [.agg (qJe false z)] (.bool (decide (qK4 z<=600))):=by
 obtain⟨b1,b2,b3,b4,b5,b6,b7⟩:=hz
 refine FnEq.of_awp Tryd.func10 ok10 (by show 1<=_;decide) (by simp only[push_cast,reduceIte,reduceEqDiff,reduceAdd,reduceSub,reduceMul,Nat.reduceBEq,reduceLT,reduceLeDiff,reduceCtorEq,reduceToNat,reduceNeg,cNI]<;>first|exact fun _ _=>trivial|simp) ?_
 simp only[ac10,rv10,push_cast,reduceIte,reduceEqDiff,reduceAdd,reduceSub,reduceMul,Nat.reduceBEq,reduceLT,reduceLeDiff,reduceCtorEq,reduceToNat,reduceNeg,cNI]
 refine⟨by omega,by omega,by omega,by omega,by omega,?_⟩
 refine qoL (fun m st=> ∃k:Nat,k<=z.L.length/\m=z.L.length-k/\qK3 z+sumK z.L k<=1407374883553280/\st=⟨[(1,.ptr 1 0),(3,.int ((qK3 z:Int)+(sumK z.L k:Int))),(4,.int k)],[(1,qJe false z)],[],[]⟩) z.L.length ?_ ?_
 ·refine⟨0,by omega,by omega,by unfold sumK qK3;simp;omega,?_⟩
  refine sB ?_
  rw[show((qK3 z:Int)+(sumK z.L 0:Int))=(z.L.length:Int)+z.c.sel.length+z.c.mode.length+z.c.tab.length+z.c.ram.length+z.K.length from by unfold sumK qK3;simp]
 rintro m st ⟨k,hk,rfl,hn,rfl⟩
 have hle:=qK2 z.L k
 refine sB ?_
 generalize hq:((qK3 z:Int)+(sumK z.L k:Int))=q at *
 refine qrD ⟨[(1,.ptr 1 0),(3,.int q),(4,.int k),(40,.bool (decide ((k:Int)<z.L.length/\q<=600)))],[(1,qJe false z)],[],[]⟩ ?_ ?_
 ·refine qrv rfl (fun h=> ?_) fun h=> ?_<;>simp only[push_cast,reduceIte,reduceEqDiff,reduceAdd,reduceSub,reduceMul,Nat.reduceBEq,reduceLT,reduceLeDiff,reduceCtorEq,reduceToNat,reduceNeg,cNI]
  ·rw[show decide (q<=600)=decide ((k:Int)<z.L.length/\q<=600)from decide_eq_decide.2 (by omega)]
  ·rw[decide_eq_false (show ¬((k:Int)<z.L.length/\q<=600)from fun h2=>h h2.1)]
 refine sB ?_
 refine qnU (fun h=> ?_) fun h=> ?_
 ·have hkl:k<z.L.length:=by omega
  have hs:=qK0 hkl
  have hr:(z.L.getD k []).length<=140737488355328:=b7 _ (by rw[qJL z.L k [] hkl];exact List.getElem_mem _)
  have hnl:((nats (z.L.getD k default)).length:Int)=((z.L.getD k []).length:Nat):=by unfold nats;rw[List.length_map];rfl
  rw[hnl]
  refine⟨⟨by omega,by omega⟩,hkl,⟨by omega,by omega⟩,⟨by omega,by omega⟩,z.L.length-(k+1),by omega,k+1,by omega,rfl,by omega,?_⟩
  rw[show q+((z.L.getD k []).length:Int)=(qK3 z:Int)+(sumK z.L (k+1):Int)by omega]
  rfl
 ·have hd : decide (q <= 600) = decide (qK4 z <= 600) := by
   refine decide_eq_decide.2 ?_
   unfold qK4
   by_cases hkl:k<z.L.length
   ·omega
   ·have:=qK1 z.L
    rw[show k=z.L.length by omega]at hq
    omega
  rw[hd]
  done
end Go.Proofs.YtecoaapkcnhlhaaDoor
namespace Go.Proofs.YtecoaapkcnhlhaaDoor
open Go Go.Vc Go.Ham Txt
theorem qK6{L:List (List Nat)}{ws:List Nat}(h:ws∈L):ws.length<=(L.map List.length).sum:=by
 obtain⟨a,b,rfl⟩:=List.append_of_mem h
 simp
 omega
theorem qK7{z:Odd38}(hw:qDo z.L)(h:qK4 z<=600):FrmSm z.L:=by
 unfold qK4 qK3 at h
 exact⟨hw,by omega,fun ws hws=>by have:=qK6 hws;omega⟩
set_option maxRecDepth 20000 in
set_option maxHeartbeats 1000000 in
theorem qK8(z:Odd38)(hz:z.Sized)(hw:qDo z.L):FnEq Tryd.prog 7 [.agg (qJe false z)] (.bool true):=by
 have hlt:=qK5 z hz
 refine FnEq.of_awp Tryd.func7 ok7 (by show 1<=_;decide) (by simp only[push_cast,reduceIte,reduceEqDiff,reduceAdd,reduceSub,reduceMul,Nat.reduceBEq,reduceLT,reduceLeDiff,reduceCtorEq,reduceToNat,reduceNeg,cNI]<;>first|exact fun _ _=>trivial|simp) ?_
 simp only[ac7,rv7,push_cast,reduceIte,reduceEqDiff,reduceAdd,reduceSub,reduceMul,Nat.reduceBEq,reduceLT,reduceLeDiff,reduceCtorEq,reduceToNat,reduceNeg,cNI]
 refine qoI qJ7 ?_
 refine sB ?_
 refine qoI hlt ?_
 refine sB ?_
 refine qnT (fun _=>trivial) fun hn=> ?_
 have hl:qK4 z<=600:=by simpa using hn
 have hsm:=qK7 hw hl
 have hf:=qIL z.L hsm z.f
 refine qrr hf (by exact⟨.refl _,.refl _,trivial⟩) ?_
 by_cases hin:qHp z.L z.f
 ·unfold fldF fldE
  rw[if_pos hin,if_pos hin]
  refine sB ?_
  refine qnU (fun e=>absurd rfl e) fun _=> ?_
  have hin' :=hin
  obtain⟨q1,q2,q3,q4,q5,q6⟩:=hin
  have hiw:inW z.L z.f.x.toNat z.f.k.toNat:=⟨by omega,by omega⟩
  have hA:=hsm.flip hiw (b:=z.f.b.toNat) (by omega)
  have hf2:=qIL _ hA z.f
  have hin2:qHp (qH4 z.L z.f.x.toNat z.f.k.toNat z.f.b.toNat) z.f:=⟨q1,by rw[qH8];exact q2,q3,by rw[qH9];exact q4,q5,q6⟩
  unfold fldF fldE at hf2
  rw[if_pos hin2,if_pos hin2,qJW hiw]at hf2
  refine qrr hf2 (by exact⟨qIZ true _,.refl _,trivial⟩) ?_
  have hd:=qGy z.L _ hsm hA
  rw[qJZ hiw,Int.toNat_of_nonneg q1]at hd
  have hri:=qGm [z.f.x] [z.f.x] (by show(1:Int)<=_;decide) (by show(1:Int)<=_;decide)
  rw[decide_eq_true rfl]at hri
  have hd2:=qGy z.L z.L hsm hsm
  rw[(qGs z.L z.L).2 rfl]at hd2
  have hg1:=qET z.L hsm
  have hg2:=qET _ hA
  have hdn:=qJV hsm hiw (b:=z.f.b.toNat) (by omega)
  generalize qH4 z.L z.f.x.toNat z.f.k.toNat z.f.b.toNat=A at *
  refine sB ?_
  refine qrt hd (by exact⟨.refl _,qIZ true _,trivial⟩) rfl ?_
  refine sB ?_
  refine⟨by decide,?_⟩
  refine qrr hri (by exact⟨.slp _ _ _ _ (fun h=>by cases h),.refl _,trivial⟩) ?_
  refine sB ?_
  refine qqQ (FnOK.sub (show FnEq _ 28 _ _ from hg1) ⟨.refl _,trivial⟩) ?_ ?_
  ·rfl
  refine sB ?_
  refine qrr hg2 (by exact⟨qIZ true _,trivial⟩) ?_
  refine sB ?_
  refine qrv rfl (fun _=> ?_) fun e=>absurd (fun e2=>hdn (by exact_mod_cast e2)) e
  refine sB ?_
  first
   | refine qrv rfl (fun _ => ?_) fun e => absurd rfl e
     exact sC
   | refine qrz rfl (fun _ => ?_) fun e => absurd rfl e
     exact sC
   |skip
  first|refine qrr hd2 (by exact⟨.refl _,qIZ true _,trivial⟩) ?_|refine qrt hd2 (by exact⟨.refl _,qIZ true _,trivial⟩) rfl ?_
  refine sB ?_
  refine qqQ (FnOK.sub (show FnEq _ 28 _ _ from hg1) ⟨qIZ true _,trivial⟩) ?_ ?_
  ·rfl
  refine sB ?_
  refine qrr hg1 (by exact⟨.refl _,trivial⟩) ?_
  simp only[push_cast,reduceIte,reduceEqDiff,reduceAdd,reduceSub,reduceMul,Nat.reduceBEq,reduceLT,reduceLeDiff,reduceCtorEq,reduceToNat,reduceNeg,cNI]
  done
 ·unfold fldF fldE
  rw[if_neg hin,if_neg hin]
  refine sB ?_
  refine qnU (fun _=> ?_) fun e=>absurd (by decide) e
  refine qrz rfl (fun g1=> ?_) fun g1=> ?_<;>simp only[push_cast,reduceIte,reduceEqDiff,reduceAdd,reduceSub,reduceMul,Nat.reduceBEq,reduceLT,reduceLeDiff,reduceCtorEq,reduceToNat,reduceNeg,cNI]
  refine qrv rfl (fun g2=> ?_) fun g2=> ?_<;>simp only[push_cast,reduceIte,reduceEqDiff,reduceAdd,reduceSub,reduceMul,Nat.reduceBEq,reduceLT,reduceLeDiff,reduceCtorEq,reduceToNat,reduceNeg,cNI]
  refine qrz rfl (fun g3=> ?_) fun g3=> ?_<;>simp only[push_cast,reduceIte,reduceEqDiff,reduceAdd,reduceSub,reduceMul,Nat.reduceBEq,reduceLT,reduceLeDiff,reduceCtorEq,reduceToNat,reduceNeg,cNI]
  have hLn:=hsm.n
  have hmx:max 0 (min z.f.x ((z.L.length:Int)-1))=z.f.x:=by omega
  have hnl:((nats (z.L.getD z.f.x.toNat default)).length:Int)=((z.L.getD z.f.x.toNat []).length:Nat):=by unfold nats;rw[List.length_map];rfl
  rw[hmx,hnl]
  refine⟨⟨by omega,by omega⟩,⟨by omega,by omega⟩,by omega,?_⟩
  refine qrv rfl (fun g4=> ?_) fun g4=> ?_<;>simp only[push_cast,reduceIte,reduceEqDiff,reduceAdd,reduceSub,reduceMul,Nat.reduceBEq,reduceLT,reduceLeDiff,reduceCtorEq,reduceToNat,reduceNeg,cNI]
  refine qrv rfl (fun g5=> ?_) fun g5=> ?_
  ·have hb:decide (z.f.b<64)=false:=decide_eq_false fun g6=>hin ⟨g1,g2,g3,by omega,g5,by omega⟩
   simp only[hb,push_cast,reduceIte,reduceEqDiff,reduceAdd,reduceSub,reduceMul,Nat.reduceBEq,reduceLT,reduceLeDiff,reduceCtorEq,reduceToNat,reduceNeg,cNI]
  ·exact sC
end Go.Proofs.YtecoaapkcnhlhaaDoor
namespace Go.Proofs.YtecoaapkcnhlhaaDoor
open Go Go.Vc Go.Ham Txt
mutual
def mxD{H:Type} :DataW H->Nat
 | .slice l _=>max l.length (mxDs l)
 | .agg l=>mxDs l
 |_=>0
def mxDs{H:Type} :List (DataW H)->Nat
 |[]=>0
 |d::r=>max (mxD d) (mxDs r)
end
theorem qK9{H:Type}{d:DataW H} : ∀ {l:List (DataW H)},d∈l->mxD d<=mxDs l
 | x :: r, h => by
   simp only[mxDs]
   rcases List.mem_cons.1 h with rfl|h
   ·omega
   ·have:=qK9 h;omega
theorem qKa{H:Type}{R:Nat} : ∀ {l:List (DataW H)},(∀d∈l,mxD d<=R)->mxDs l<=R
 |[],_=>by simp[mxDs]
 | x :: r, h => by
   simp only[mxDs]
   have h1:=h x (by simp)
   have h2:=qKa (l:=r) fun d hd=>h d (by simp[hd])
   omega
theorem qKb{H:Type} :Meas (H:=H) mxD:=by
 refine⟨fun l r=> ?_,fun l r e he=> ?_,fun l e he=> ?_⟩
 ·simp only[mxD];omega
 ·have:=qK9 he
  simp only[mxD];omega
 ·have:=qK9 he
  simp only[mxD];omega
def szOk(P:Program):Nat->TypeId->Bool
 |0,_=>false
 | n + 1, t => match P.underlying t with
   |some .bool=>true
   |some (.int _)=>true
   |some (.slice e)=>decide (0<P.bytesOf e)&&szOk P n e
   |some (.struct fs)=>fs.toList.all fun f=>szOk P n f.type
   |some (.array _ e)=>szOk P n e
   |_=>false
theorem qKc{H:Type}{P:Program}{e:TypeId}{d:DataW H}{w:Nat}(hw:w∈d.weights P e): ∀ {l:List (DataW H)},d∈l->w∈DataW.weightsAll P e l
 | x :: r, h => by
   simp only[DataW.weightsAll]
   rcases List.mem_cons.1 h with rfl|h
   ·exact List.mem_append_left _ hw
   ·exact List.mem_append_right _ (qKc hw h)
theorem qKd{H:Type}{P:Program}{t:TypeId}{d:DataW H}{w:Nat}(hw:w∈d.weights P t): ∀ {ts:List TypeId} {l:List (DataW H)} {i:Nat},ts[i]? =some t->l[i]? =some d->w∈DataW.weightsEach P ts l
 | u :: ts, x :: r, 0, h1, h2 => by
   simp at h1 h2
   subst h1;subst h2
   simp only[DataW.weightsEach]
   exact List.mem_append_left _ hw
 | u :: ts, x :: r, i + 1, h1, h2 => by
   simp only[DataW.weightsEach]
   exact List.mem_append_right _ (qKd hw (i:=i) (by simpa using h1) (by simpa using h2))
theorem qKe {H : Type} {enc : TypeId × Value -> H} {P : Program} {W : World} {base : Nat} {sp : Nat -> Bool} {hd : Bool} {R : Nat} : ∀ (n fuel : Nat) (t : TypeId) (cs : List Value) (x : DataW H × List MemPlace), szOk P n t = true -> DataW.trod enc P W base sp hd fuel t cs = some x ->
  (∀w∈x.1.weights P t,w<=R)->mxD x.1<=R:=by
 intro n
 induction n with
 |zero=>intro fuel t cs x h;simp[szOk]at h
 |succ n ih=>
   intro fuel t cs x h hx hw
   unfold szOk at h
   split at h
   ·rename_i hu
    obtain⟨b,_,rfl⟩:=DataW.trod_bool hu hx
    simp[mxD]
   ·rename_i k hu
    obtain⟨b,_,rfl,_⟩:=DataW.trod_int hu hx
    simp[mxD]
   ·rename_i e hu
    simp only[Bool.and_eq_true,decide_eq_true_eq]at h
    rcases DataW.trod_slice hu hx with⟨_,rfl⟩|⟨a,len,cap,elems,rest,m,rfl,_,rfl,_,_,_,hlen,hel,_⟩
    ·simp[mxD]
    ·simp only[DataW.weights,hu]at hw
     have h1:=hw _ List.mem_cons_self
     have h2:(elems.map (·.1)).length<=R:=by
      refine Nat.le_trans ?_ h1
      refine Nat.le_trans (Nat.le_add_right _ _) (Nat.le_mul_of_pos_right _ h.1)
     have h3:mxDs (elems.map (·.1))<=R:=qKa fun d hd=>by
      obtain⟨y,hy,rfl⟩:=List.mem_map.1 hd
      obtain⟨i,hi,rfl⟩:=List.getElem_of_mem hy
      have h4:=hel i (by omega)
      rw[List.getElem?_eq_getElem hi]at h4
      obtain⟨cs',_,h5⟩:=Option.bind_eq_some_iff.1 h4
      exact ih m e cs' _ h.2 h5 fun w hw' =>hw w (List.mem_cons_of_mem _ (List.mem_append_left _ (qKc hw' hd)))
     simp only[mxD]
     omega
   ·rename_i fs hu
    obtain⟨xs,m,rfl,rfl,_,hn,hel⟩:=DataW.trod_struct hu hx
    simp only[DataW.weights,hu]at hw
    refine qKa fun d hd=> ?_
    obtain⟨y,hy,rfl⟩:=List.mem_map.1 hd
    obtain⟨i,hi,rfl⟩:=List.getElem_of_mem hy
    have hi2:i<fs.size:=by omega
    have h4:=hel i fs[i] (Array.getElem?_eq_getElem hi2)
    rw[List.getElem?_eq_getElem hi]at h4
    refine ih m _ _ _ (List.all_eq_true.1 h fs[i] (by simp)) h4 fun w hw' =>hw w (qKd hw' (i:=i) ?_ ?_)
    ·simp[hi2]
    ·simp[hi]
   ·rename_i k e hu
    obtain⟨xs,m,rfl,rfl,_,hn,hel⟩:=DataW.trod_array hu hx
    simp only[DataW.weights,hu]at hw
    refine qKa fun d hd=> ?_
    obtain⟨y,hy,rfl⟩:=List.mem_map.1 hd
    obtain⟨i,hi,rfl⟩:=List.getElem_of_mem hy
    have h4:=hel i (by omega)
    rw[List.getElem?_eq_getElem hi]at h4
    exact ih m _ _ _ h h4 fun w hw' =>hw w (qKc hw' hd)
   ·cases h
theorem qKf {H : Type} {enc : TypeId × Value -> H} {P : Program} {W : World} {sp : Nat -> Bool} {hd : Bool} {ts : List TypeId} {ds : List (DataW H)} (h : (DataW.weightsEach P ts ds).all (· <= reachBytes) = true) {i n : Nat} {t : TypeId} {d : DataW H} (ht : ts[i]? = some t) (hd' : ds[i]? = some d) {v : Value} {ps : List MemPlace}
  (hz:szOk P n t=true) (hr:DataW.Trod enc P W 0 sp hd t v d ps):Fits reachBytes d:=by
 obtain⟨fuel,hr⟩:=hr
 refine .inr ⟨mxD,qKb,qKe n fuel t _ _ hz hr fun w hw=> ?_⟩
 have:=List.all_eq_true.1 h w (qKd hw ht hd')
 simpa using this
theorem qKg{B:Nat}{a:List PV}(h:RowB B [] a):a=[]:=List.length_eq_zero_iff.1 h.1
theorem qKh{B:Nat}{t:Ty}{ts:List Ty}{a:List PV}(h:RowB B (t::ts) a): ∃c r,a=c::r/\CellB B t c/\RowB B ts r:=by
 obtain⟨h1,h2⟩:=h
 cases a with
 |nil=>cases h1
 |cons c r=>exact⟨c,r,rfl,h2 0 t c rfl rfl,by simpa using h1,fun j t' c' ht hc=>h2 (j+1) t' c' ht hc⟩
theorem qKi{B:Nat}{k:IntKind}{c:PV}(h:CellB B (.i k) c): ∃n:Int,c= .sc (.int k n)/\k.min<=n/\n<=k.max:=by
 cases h with|i k n h1 h2=>exact⟨n,rfl,h1,h2⟩
theorem qKj{B:Nat}{es:Nat}{ts:List Ty}{c:PV}(h:CellB B (.sl es ts) c): ∃rs:List (List PV),c= .sl true es rs/\rs.length<=B/\ ∀r∈rs,RowB B ts r:=by
 cases h with|sl es ts rs h1 h2 h3=>exact⟨rs,rfl,h1,fun r hr=>⟨h2 r hr,h3 r hr⟩⟩
theorem qKk{B:Nat}{c:PV}(h:CellB B (.sl 1 [.i .i64]) c): ∃l:List Int,c= .sl true 1 (ints l)/\l.length<=B:=by
 obtain⟨rs,rfl,h1,h2⟩:=qKj h
 obtain⟨l,rfl,_⟩:=qzk (f:=fun x:Int=>[PV.int x]) (Q:=fun _=>True) (rs:=rs) fun r hr=>by
  obtain⟨c,q,rfl,hc,h3⟩:=qKh (h2 r hr)
  obtain⟨n,rfl,hn⟩:=qKi hc
  rw[qKg h3]
  exact⟨n,rfl,trivial⟩
 simp only[rows,List.length_map]at h1
 exact⟨l,rfl,h1⟩
theorem qKl{B:Nat}{c:PV}(h:CellB B (.sl 3 [.i .u8,.i .u8,.i .u8]) c): ∃k:List (Int×Int×Int),c= .sl true 3 (rows k3C k)/\k.length<=B:=by
 obtain⟨rs,rfl,h1,h2⟩:=qKj h
 obtain⟨k,rfl,hk⟩:=qzk (f:=k3C) (Q:=fun _=>True) (rs:=rs) fun r hr=>by
  obtain⟨c,q,rfl,hc,h3⟩:=qKh (h2 r hr)
  obtain⟨n,rfl,hn⟩:=qKi hc
  obtain⟨c,q,rfl,hc,h4⟩:=qKh h3
  obtain⟨m,rfl,hm⟩:=qKi hc
  obtain⟨c,q,rfl,hc,h5⟩:=qKh h4
  obtain⟨o,rfl,ho⟩:=qKi hc
  rw[qKg h5]
  exact⟨(n,m,o),rfl,trivial⟩
 simp only[rows,List.length_map]at h1
 exact⟨k,rfl,h1⟩
theorem qKm{B:Nat}{c:PV}(h:CellB B (.sl 1 [.sl 1 [.i .u64]]) c): ∃L:List (List Nat),c= .sl true 1 (rows (frmC true) L)/\L.length<=B/\ ∀ws∈L,ws.length<=B/\ ∀w∈ws,w<2^64:=by
 obtain⟨rs,rfl,h1,h2⟩:=qKj h
 obtain⟨L,rfl,hL⟩:=qzk (f:=frmC true) (Q:=fun ws=>ws.length<=B/\ ∀w∈ws,w<2^64) (rs:=rs) fun r hr=>by
  obtain⟨c,q,rfl,hc,h3⟩:=qKh (h2 r hr)
  obtain⟨ss,rfl,h6,h4⟩:=qKj hc
  obtain⟨l,rfl,hl⟩:=qzk (f:=fun n:Nat=>[PV.sc (.int .u64 (n:Int))]) (Q:=fun n=>n<2^64) (rs:=ss) fun r hr=>by
   obtain⟨c,q,rfl,hc,h5⟩:=qKh (h4 r hr)
   obtain⟨n,rfl,hn,hm⟩:=qKi hc
   rw[qKg h5]
   have hn:(0:Int)<=n:=hn
   have hm:n<=18446744073709551615:=hm
   exact⟨n.toNat,by rw[Int.toNat_of_nonneg hn],by omega⟩
  rw[qKg h3]
  simp only[rows,List.length_map]at h6
  exact⟨l,by simp only[frmC,rows,nats,u64C,List.map_map];rfl,h6,hl⟩
 simp only[rows,List.length_map]at h1
 exact⟨L,rfl,h1,hL⟩
theorem qKn{B:Nat}(hB:B<=140737488355328){a:List PV}(h:RowB B qJu a): ∃z:Odd38,z.Sized/\qDo z.L/\a=qJe true z:=by
 obtain⟨c0,a0,rfl,h0,k0⟩:=qKh h
 obtain⟨c1,a1,rfl,h1,k1⟩:=qKh k0
 obtain⟨c2,a2,rfl,h2,k2⟩:=qKh k1
 obtain⟨c3,a3,rfl,h3,k3⟩:=qKh k2
 obtain⟨c4,a4,rfl,h4,k4⟩:=qKh k3
 obtain⟨c5,a5,rfl,h5,k5⟩:=qKh k4
 obtain⟨c6,a6,rfl,h6,k6⟩:=qKh k5
 obtain⟨c7,a7,rfl,h7,k7⟩:=qKh k6
 obtain⟨c8,a8,rfl,h8,k8⟩:=qKh k7
 obtain⟨c9,a9,rfl,h9,k9⟩:=qKh k8
 obtain⟨L,rfl,b0,b00⟩:=qKm h0
 obtain⟨l1,rfl,b1⟩:=qKk h1
 obtain⟨l2,rfl,b2⟩:=qKk h2
 obtain⟨l3,rfl,b3⟩:=qKk h3
 obtain⟨l4,rfl,b4⟩:=qKk h4
 obtain⟨n5,rfl,_⟩:=qKi h5
 obtain⟨n6,rfl,_⟩:=qKi h6
 obtain⟨n7,rfl,_⟩:=qKi h7
 obtain⟨n8,rfl,_⟩:=qKi h8
 obtain⟨k,rfl,b9⟩:=qKl h9
 rw[qKg k9]
 exact⟨⟨L,⟨l1,l2,l3,l4⟩,⟨n5,n6,n7⟩,n8,k⟩,⟨Nat.le_trans b0 hB,Nat.le_trans b1 hB,Nat.le_trans b2 hB,Nat.le_trans b3 hB,Nat.le_trans b4 hB,Nat.le_trans b9 hB,fun ws h=>Nat.le_trans (b00 ws h).1 hB⟩,fun ws h w hw=>(b00 ws h).2 w hw,rfl⟩
theorem qKo{f:Nat}(hok: ∀z:Odd38,z.Sized->qDo z.L->FnEq Tryd.prog f [.agg (qJe false z)] (.bool true)){a:List PV}(ha:RowB reachBytes qJu a):FnEq Tryd.prog f [.agg a] (.bool true):=by
 obtain⟨z,h1,h2,rfl⟩:=qKn (by decide) ha
 exact FnOK.sub (hok z h1 h2) ⟨qJx z,trivial⟩
end Go.Proofs.YtecoaapkcnhlhaaDoor
namespace Go.Proofs.YtecoaapkcnhlhaaDoor
open Go Go.ChangeShapes Go.WideShapes Go.ChangeAt Go.RowKit Go.Vc
theorem qJC:qrH Tryd.prog 9 33 qJu=true:=by kernel_rfl
theorem Tryd.own:ownKnob Tryd.prog.godebug=none:=by kernel_rfl
theorem Tryd.laidOut:laidOutB Tryd.prog=true:=by kernel_rfl
theorem qJD:Tryd.prog.underlying 4=some .bool:=by kernel_rfl
theorem qJE:Tryd.f7.params= #[33]:=by kernel_rfl
def qJF : List (String × DataW Unit) := [("math/bits.deBruijn64tab", Rows.laid_math_bits_deBruijn64tab)]
theorem qJG(os:Os)(args:Array Value):laidMetH Tryd.prog qJF ((World.doorLaid Tryd.prog 14 os).forCall (fun _ _=>0) ⟨#[],args,[]⟩).memory:=
 laidMetH_of_parts3 (fuel:=8) (laidMet_of_run' 8 (by kernel_rfl) (by kernel_rfl)) (by kernel_rfl) (by kernel_rfl)
theorem qJH{w:World}(h:laidMetH Tryd.prog qJF w):GL Tryd.prog w:=
 qJr (g:=0) (t:=135) (e:=5) (D:=Rows.laid_math_bits_deBruijn64tab) (by kernel_rfl) (by kernel_rfl) (by kernel_rfl) (by kernel_rfl) (by kernel_rfl) (by kernel_rfl) (by rfl) h
set_option maxRecDepth 100000 in
theorem digests_lifted (os : Os) (started : os.Started) (H : Type) (enc : TypeId × Value -> H) :
  ReturnsInHanded {} Tryd.checked os 7 .any (fun w args=>(Rows.framesDigestsSpec.pre enc Tryd.prog Tryd.f7 [] false w args/\laidMetH Tryd.prog qJF w)/\sizedMet enc Tryd.prog Tryd.f7 (OpenSpec.ofChange Rows.framesDigestsSpec) false w args) (Rows.framesDigestsSpec.post enc Tryd.prog Tryd.f7 false true false false):=by
 refine returnsInHanded_of_change_and (C:=Tryd.checked) (X:=fun w _=>laidMetH Tryd.prog qJF w) (fun _ _ _ hh h=>h.of_heap hh) Tryd.own started (by kernel_rfl) Tryd.func7
  (ChangeSpec.witness_shaped (enc:=enc) (C:=Tryd.checked) (os:=os) (X:=fun w _=>laidMetH Tryd.prog qJF w) false (World.doorLaid Tryd.prog 14 os) #[.agg #[.slice none 0 0,.slice none 0 0,.slice none 0 0,.slice none 0 0,.slice none 0 0,.int .i64 0,.int .i64 0,.int .i64 0,.int .i64 0,.slice none 0 0]] 8 rfl (World.shaped_of_RefB (by kernel_rfl) (by kernel_rfl)) (by kernel_rfl) (by kernel_rfl) (by kernel_rfl) (qJG os _)) ?_
 intro W base args ds gs before hval0 hW _ hsz hL _
 have hval: ∀(j:Nat) t v,Tryd.f7.params[j]? =some t->args[j]? =some v->Value.okWide Tryd.prog W .any base t v:=hval0
 have hW' :=hW
 obtain⟨p,q,hA0,hV,rfl,hfz,hnd⟩:=hW
 have hA:DataW.TrodAll enc Tryd.prog W 0 (fun _=>true) true Tryd.f7.params.toList args.toList ds p:=hA0
 rw[qJE]at hA hval
 obtain⟨v0,d0,rfl,rfl,h0⟩:=trodAll_one hA
 obtain⟨rfl,rfl⟩:=trodVars_none hV
 obtain⟨a,ra,ta⟩:=qrQ qJC (by kernel_rfl) (hval 0 _ v0 rfl rfl) (qKf hsz (i:=0) (n:=9) (by rw[qJE];rfl) rfl (by kernel_rfl) h0) h0
 have hlt: ∀x∈p,x.block<W.heap.size:=fun x hx=>hW'.lt x (by simpa using hx)
 refine(qrT (qJH hL) (qKo qK8 ra) rfl fun j cc hj=> ?_).mono fun e W' ⟨he,hb⟩=> ?_
 ·match j with
  |0=>simp at hj;subst hj;exact ta
  |j+1=>simp at hj
 ·refine⟨_,he,_,_,_,[],_,[],hW',?_,trodAll_mk1 (Below.trod Tryd.laidOut (by kernel_rfl) (of_decide_eq_true (by kernel_rfl)) h0 hb fun x hx=>hlt x (by simpa using hx)),rfl,hb.frame _,fun h=>by cases h⟩
  exact trodAll_mk1 (shut_bool qJD true)
theorem qKp:Rows.FramesDigestsSaid:=
 OpenClaim.holds_of_wide 7 Tryd.f7 rfl rfl rfl rfl rfl rfl rfl ⟨rfl,rfl,rfl,rfl,rfl⟩ rfl rfl rfl rfl rfl (by kernel_rfl) Tryd.func7 (by kernel_rfl)
  (of_decide_eq_true (by kernel_rfl)) (by unfold Func.isWrapper;first|(rw[if_pos (by decide+kernel)];kernel_rfl)|(rw[if_neg (by decide+kernel)];exact⟨rfl,rfl⟩))
  (fun os started H enc _=>digests_lifted os started H enc)
theorem digests_holds:Rows.FramesDigestsCardSaid:=
 Claim7.holds_tied_plain_at .later [] [.data] true (true, "6afa5beab4d2fefd3b52fb88c1a8a89648d53ce22376a0ca7c24627d0a83933b") false
  qKp (fun _ h=>by cases h) (by kernel_rfl) (fun _ h=>by cases h) framesDigests_row_tie rfl ⟨rfl,rfl⟩ (by kernel_rfl) rfl
  (fun f fn hf hfn=>by
   obtain rfl : f = 7 := Option.some.inj ((show Tryd.prog.funcNamed "wireloom/wireloomlaw38.FramesDigests" = some 7 by kernel_rfl).symm.trans hf) |>.symm
   obtain rfl:fn=Tryd.f7:=(Option.some.inj (Tryd.func7.symm.trans hfn)).symm
   exact⟨by kernel_rfl,fun j t ht=>by
    rw[qJE]at ht
    have hm:t∈[33]:=by simpa using Array.mem_of_getElem? ht
    have hall:([33].all fun u=> !Tryd.prog.wantsStandIn u)=true:=by kernel_rfl
    exact(show Tryd.prog.wantsStandIn t=false by simpa using List.all_eq_true.1 hall t hm)⟩)
  (by kernel_rfl)
end Go.Proofs.YtecoaapkcnhlhaaDoor
