/- X Y Z ZA ZB ZC ZD ZE TxtA HM VcZs VcZt VcZu HV HP HQ HO TxtD VcZv VcZw VcZx: lemmas -/
import Derived.Test.YtecoaapkcnhlhaaDoorPart10
import Derived.Test.YtecoaapkcnhlhaaDoorPart08
import Derived.Test.YtecoaapkcnhlhaaDoorPart06
import Derived.Test.YtecoaapkcnhlhaaDoorChecked
import Derived.Test.YtecoaapkcnhlhaaDoorPart01
import Derived.Test.YtecoaapkcnhlhaaDoorPart09
import Derived.Shelf.Spec.TrailingZeros
import Derived.Lib.ItoaNum
set_option linter.unusedSimpArgs false
set_option linter.unusedVariables false
open Nat (reduceEqDiff reduceAdd reduceSub reduceMul reduceLT reduceLeDiff)
open Int (reduceToNat reduceNeg)
namespace Go.Proofs.YtecoaapkcnhlhaaDoor
open Go Go.Vc Txt
theorem qyi{p:Prop} [Decidable p](h:(!decide p)=true): ¬p:=by simpa using h
theorem qyj{p:Prop} [Decidable p](h:(!decide p)=false):p:=by simpa using h
def qyk(g:Grid)(c:Cfg):Prop:=c.sel.length=(quV g).toNat/\c.mode.length=g.kind.length/\c.tab.length=g.kind.length/\c.ram.length=g.kind.length
instance (g:Grid) (c:Cfg):Decidable (qyk g c):=by unfold qyk;infer_instance
def qyl(g:Grid)(c:Cfg)(i:Nat):Prop:=c.sel.getD i 0≠0->1<=c.sel.getD i 0/\c.sel.getD i 0<=(qw4 g i).length
def qym(g:Grid)(c:Cfg)(t:Nat):Prop:=qyf (g.kind.getD t 0) (c.mode.getD t 0) (c.tab.getD t 0) (c.ram.getD t 0)
instance (g:Grid) (c:Cfg) (i:Nat):Decidable (qyl g c i):=by unfold qyl;infer_instance
instance (g:Grid) (c:Cfg) (t:Nat):Decidable (qym g c t):=by unfold qym;infer_instance
theorem qyn{g:Grid}{c:Cfg}(h1:qyk g c)(h2: ∀i,i<c.sel.length->qyl g c i)(h3: ∀t,t<g.kind.length->qym g c t):validE g c=0:=if_pos ⟨h1,h2,h3⟩
theorem qyo{g:Grid}{c:Cfg}(h: ¬qyk g c):validE g c=310:=if_neg fun e=>h e.1
theorem qyp{g:Grid}{c:Cfg}{i:Nat}(hi:i<c.sel.length)(h: ¬qyl g c i):validE g c=310:=if_neg fun e=>h (e.2.1 i hi)
theorem qyq{g:Grid}{c:Cfg}{t:Nat}(ht:t<g.kind.length)(h: ¬qym g c t):validE g c=310:=if_neg fun e=>h (e.2.2 t ht)
set_option maxHeartbeats 4000000 in
theorem qyr(g:Grid)(hg:GOk g)(c:Cfg)(hs:CfgSm c):FnEq Tryd.prog 18 [.agg (quQ false g),.agg (cfgC false c)] (.int (validE g c)):=by
 have hc:=hg.count
 have hk:=hg.kind
 have hw:=hg.wh
 have s1:=hs.sel
 have s2:=hs.mode
 have s3:=hs.tab
 have s4:=hs.ram
 refine FnEq.of_awp Tryd.func18 ok18 (by show 2<=_;decide) (by simp only[push_cast,reduceIte,reduceEqDiff,reduceAdd,reduceSub,reduceMul,Nat.reduceBEq,reduceLT,reduceLeDiff,reduceCtorEq,reduceToNat,reduceNeg,cNI]<;>first|exact fun _ _=>trivial|simp) ?_
 simp only[ac18,rv18,push_cast,reduceIte,reduceEqDiff,reduceAdd,reduceSub,reduceMul,Nat.reduceBEq,reduceLT,reduceLeDiff,reduceCtorEq,reduceToNat,reduceNeg,cNI]
 refine qrt (quY g hg) sC rfl ?_
 refine sB ?_
 obtain⟨B,hB⟩: ∃B,B=decide (¬qyk g c):=⟨_,rfl⟩
 refine qrE ⟨[(2,.ptr 2 0),(3,.ptr 3 0),(39,.bool B)],[(2,quQ false g),(3,cfgC false c)],[],[]⟩ ?_ ?_
 ·unfold qyk at hB
  repeat' (first
   |(refine qrA rfl (fun _=> ?_) fun _=> ?_<;>simp only[push_cast,reduceIte,reduceEqDiff,reduceAdd,reduceSub,reduceMul,Nat.reduceBEq,reduceLT,reduceLeDiff,reduceCtorEq,reduceToNat,reduceNeg,cNI])
   |(refine qrz rfl (fun _=> ?_) fun _=> ?_<;>simp only[push_cast,reduceIte,reduceEqDiff,reduceAdd,reduceSub,reduceMul,Nat.reduceBEq,reduceLT,reduceLeDiff,reduceCtorEq,reduceToNat,reduceNeg,cNI]))
  all_goals first
   |(rw[show B=true from by rw[hB];exact decide_eq_true (by omega)];done)
   |(rw[show B=decide ((c.ram.length:Int)≠g.kind.length)from by rw[hB,decide_eq_decide];omega];done)
 refine sB ?_
 refine qnT (fun e=> ?_) fun e=> ?_
 ·rw[hB,decide_eq_true_eq]at e
  rw[qyo e]
 rw[hB,decide_eq_false_iff_not,Classical.not_not]at e
 have el:=e
 obtain⟨q1,q2,q3,q4⟩:=e
 refine qoL (fun m st=> ∃k:Nat,k<=c.sel.length/\m=c.sel.length-k/\(∀i,i<k->qyl g c i)/\st=⟨[(2,.ptr 2 0),(3,.ptr 3 0),(41,.sl false 1 (ints c.sel)),(42,.int c.sel.length),(43,.int k)],[(2,quQ false g),(3,cfgC false c)],[],[]⟩) c.sel.length ?_ ?_
 ·refine⟨0,by omega,by omega,fun i hi=>by omega,?_⟩
  exact sC
 rintro m st ⟨k,hk,rfl,hP,rfl⟩
 refine sB ?_
 refine qnU (fun h=>⟨by omega,by omega,?_⟩) fun h=> ?_
 ·have next : qyl g c k -> ∀ i, i < k + 1 -> qyl g c i := fun hs i hi => by
   by_cases e:i=k
   ·rw[e];exact hs
   ·exact hP i (by omega)
  have hdl:=qxn g hg k
  refine qrv rfl (fun h2=> ?_) fun h2=> ?_<;>simp only[push_cast,reduceIte,reduceEqDiff,reduceAdd,reduceSub,reduceMul,Nat.reduceBEq,reduceLT,reduceLeDiff,reduceCtorEq,reduceToNat,reduceNeg,cNI]
  ·refine qrr (qw8 g hg k (by omega)) sC ?_
   refine sB ?_
   refine qoI (qwQ _ _ _) ?_
   refine sB ?_
   refine qnT (fun h3=> ?_) fun h3=> ?_
   ·have h3: ¬(1<=c.sel.getD k 0/\c.sel.getD k 0<=(qw4 g k).length):=qyi h3
    rw[qyp (i:=k) (by omega) (fun hs=>h3 (hs h2))]
   ·have h3:1<=c.sel.getD k 0/\c.sel.getD k 0<=(qw4 g k).length:=qyj h3
    refine⟨by omega,_,?_,k+1,by omega,rfl,next (fun _=>h3),?_⟩
    ·omega
    ·exact sC
  ·refine⟨by omega,_,?_,k+1,by omega,rfl,next (fun h3=>absurd h3 h2),?_⟩
   ·omega
   ·exact sC
 have hsel: ∀i,i<c.sel.length->qyl g c i:=fun i hi=>hP i (by omega)
 refine qoL (fun m st=> ∃k:Nat,k<=g.kind.length/\m=g.kind.length-k/\(∀i,i<k->qym g c i)/\st=⟨[(3,.ptr 3 0),(61,.sl false 1 (ints g.kind)),(62,.int g.kind.length),(63,.int k)],[(3,cfgC false c)],[],[]⟩) g.kind.length ?_ ?_
 ·refine⟨0,by omega,by omega,fun i hi=>by omega,?_⟩
  exact sC
 rintro m st ⟨k,hk,rfl,hP,rfl⟩
 refine sB ?_
 refine qnU (fun h=>⟨by omega,by omega,?_⟩) fun h=> ?_
 ·refine⟨by omega,by omega,by omega,by omega,by omega,by omega,?_⟩
  refine qoI (qyg _ _ _ _) ?_
  refine sB ?_
  refine qnT (fun h3=> ?_) fun h3=> ?_
  ·have h3: ¬qym g c k:=qyi h3
   rw[qyq (t:=k) (by omega) h3]
  ·have h3:qym g c k:=qyj h3
   refine⟨by omega,_,?_,k+1,by omega,rfl,?_,?_⟩
   ·omega
   ·intro i hi
    by_cases e:i=k
    ·rw[e];exact h3
    ·exact hP i (by omega)
   ·exact sC
 ·rw[qyn el hsel fun t ht=>hP t (by omega)]
structure SelsOk (g:Grid) (c:Cfg):Prop where
 len:c.sel.length=(quV g).toNat
 sel: ∀i,i<c.sel.length->qyl g c i
theorem qyx(c d:Cfg)(hc:CfgSm c)(hd:CfgSm d):FnEq Tryd.prog 16 [.agg (cfgC false c),.agg (cfgC false d)] (.bool (decide (c=d))):=by
 have i0:=qxZ c.sel d.sel hc.sel hd.sel
 have i1:=qxZ c.mode d.mode hc.mode hd.mode
 have i2:=qxZ c.tab d.tab hc.tab hd.tab
 have i3:=qxZ c.ram d.ram hc.ram hd.ram
 have hE:c=d ↔ c.sel=d.sel/\c.mode=d.mode/\c.tab=d.tab/\c.ram=d.ram:=by
  cases c;cases d;simp
 refine FnEq.of_awp Tryd.func16 ok16 (by show 2<=_;decide) (by simp only[push_cast,reduceIte,reduceEqDiff,reduceAdd,reduceSub,reduceMul,Nat.reduceBEq,reduceLT,reduceLeDiff,reduceCtorEq,reduceToNat,reduceNeg,cNI]<;>first|exact fun _ _=>trivial|simp) ?_
 simp only[ac16,rv16,push_cast,reduceIte,reduceEqDiff,reduceAdd,reduceSub,reduceMul,Nat.reduceBEq,reduceLT,reduceLeDiff,reduceCtorEq,reduceToNat,reduceNeg,cNI]
 refine qoI i0 ?_
 refine sB ?_
 refine qrv rfl (fun e1=> ?_) fun e1=> ?_<;>simp only[push_cast,reduceIte,reduceEqDiff,reduceAdd,reduceSub,reduceMul,Nat.reduceBEq,reduceLT,reduceLeDiff,reduceCtorEq,reduceToNat,reduceNeg,cNI]
 ·refine qoI i1 ?_
  refine sB ?_
  refine qrv rfl (fun e2=> ?_) fun e2=> ?_<;>simp only[push_cast,reduceIte,reduceEqDiff,reduceAdd,reduceSub,reduceMul,Nat.reduceBEq,reduceLT,reduceLeDiff,reduceCtorEq,reduceToNat,reduceNeg,cNI]
  ·refine qoI i2 ?_
   refine sB ?_
   refine qrv rfl (fun e3=> ?_) fun e3=> ?_<;>simp only[push_cast,reduceIte,reduceEqDiff,reduceAdd,reduceSub,reduceMul,Nat.reduceBEq,reduceLT,reduceLeDiff,reduceCtorEq,reduceToNat,reduceNeg,cNI]
   ·refine qoI i3 ?_
    refine sB ?_
    simp_all
   ·simp_all
  ·simp_all
 ·simp_all
def desC(q:Bool)(g:Grid)(p:Packed)(l:Layout):List PV:=quQ q g++qwV q p++layC q l
@[push_cast] theorem qyy(q:Bool)(g:Grid)(p:Packed)(l:Layout):desC q g p l=quQ q g++qwV q p++layC q l:=rfl
structure RawG where
 w:Int
 h:Int
 tracks:Int
 pads:Int
 kind:List Int
def qyE(q:Bool)(x:RawG):List PV:=[.sc (.int .u8 x.w),.sc (.int .u8 x.h),.sc (.int .u8 x.tracks),.sc (.int .u8 x.pads),.sl q 1 (qkb x.kind)]
@[push_cast] theorem qyF(q:Bool)(x:RawG):qyE q x=[.sc (.int .u8 x.w),.sc (.int .u8 x.h),.sc (.int .u8 x.tracks),.sc (.int .u8 x.pads),.sl q 1 (qkb x.kind)]:=rfl
structure RawG.Ok (x:RawG):Prop where
 w:0<=x.w/\x.w<=255
 h:0<=x.h/\x.h<=255
 tracks:0<=x.tracks/\x.tracks<=255
 pads:0<=x.pads/\x.pads<=255
 len:(x.kind.length:Int)<=9223372036854775807
 kind: ∀k∈x.kind,0<=k/\k<=255
def CfgLn(g:Grid)(c:Cfg):Prop:=c.sel.length=(quV g).toNat/\c.mode.length=g.kind.length/\c.tab.length=g.kind.length/\c.ram.length=g.kind.length
structure RawG.By (x:RawG):Prop where
 w:0<=x.w/\x.w<=255
 h:0<=x.h/\x.h<=255
 tracks:0<=x.tracks/\x.tracks<=255
 pads:0<=x.pads/\x.pads<=255
 len:(x.kind.length:Int)<=9223372036854775807
 kind: ∀k∈x.kind,0<=k/\k<=255
theorem RawG.By.ok{x:RawG}(h:x.By):x.Ok:=⟨h.w,h.h,h.tracks,h.pads,h.len,h.kind⟩
theorem qmq{t:Ty}{ts:List Ty}{a:List PV}(h:RowV (t::ts) a): ∃c r,a=c::r/\qrI t c/\RowV ts r:=by
 obtain⟨h1,h2⟩:=h
 cases a with
 |nil=>cases h1
 |cons c r=>exact⟨c,r,rfl,h2 0 t c rfl rfl,by simpa using h1,fun j t' c' ht hc=>h2 (j+1) t' c' ht hc⟩
theorem qzk{α:Type}{f:α->List PV}{Q:α->Prop} : ∀ {rs:List (List PV)},(∀r∈rs,∃x,r=f x/\Q x)-> ∃l:List α,rs=rows f l/\ ∀x∈l,Q x
 |[],_=>⟨[],rfl,fun x hx=>by cases hx⟩
 | r :: rs, h => by
   obtain⟨x,rfl,hx⟩:=h r (by simp)
   obtain⟨l,rfl,hl⟩:=qzk (f:=f) (Q:=Q) (rs:=rs) fun r hr=>h r (by simp[hr])
   refine⟨x::l,rfl,fun y hy=> ?_⟩
   rcases List.mem_cons.1 hy with rfl|hy
   ·exact hx
   ·exact hl y hy
end Go.Proofs.YtecoaapkcnhlhaaDoor
namespace Go.Proofs.YtecoaapkcnhlhaaDoor.Txt
open Go Go.Vc
set_option maxRecDepth 100000
def ac37:AC:=
 (.seq (.reg [0,35,0] [
 (aO 2 (.mv (kI 0)))])
 (.seq (.reg [0,35,0] [
 (aO 3 (.mv (.t 0))),(aO 4 (.shf .shr .u64 (.t 3) (.c (.sc (.int .u64 1))))),(aO 5 (.bit .and .u64 (.t 4) (.c (.sc (.int .u64 6148914691236517205))))),(aO 6 (.mv (.t 0))),(aO 7 (.bit .and .u64 (.t 6) (.c (.sc (.int .u64 6148914691236517205))))),(aO 8 (.ari .add false .u64 (.t 5) (.t 7))),(aO 0 (.mv (.t 8)))])
 (.seq (.reg [0,35,0] [
 (aO 9 (.mv (.t 0))),(aO 10 (.shf .shr .u64 (.t 9) (.c (.sc (.int .u64 2))))),(aO 11 (.bit .and .u64 (.t 10) (.c (.sc (.int .u64 3689348814741910323))))),(aO 12 (.mv (.t 0))),(aO 13 (.bit .and .u64 (.t 12) (.c (.sc (.int .u64 3689348814741910323))))),(aO 14 (.ari .add false .u64 (.t 11) (.t 13))),(aO 0 (.mv (.t 14)))])
 (.seq (.reg [0,35,0] [
 (aO 15 (.mv (.t 0))),(aO 16 (.shf .shr .u64 (.t 15) (.c (.sc (.int .u64 4))))),(aO 17 (.mv (.t 0))),(aO 18 (.ari .add false .u64 (.t 16) (.t 17))),(aO 19 (.bit .and .u64 (.t 18) (.c (.sc (.int .u64 1085102592571150095))))),(aO 0 (.mv (.t 19)))])
 (.seq (.reg [0,35,0] [
 (aO 20 (.mv (.t 0))),(aO 21 (.mv (.t 0))),(aO 22 (.shf .shr .u64 (.t 21) (.c (.sc (.int .u64 8))))),(aO 23 (.ari .add false .u64 (.t 20) (.t 22))),(aO 0 (.mv (.t 23)))])
 (.seq (.reg [0,35,0] [
 (aO 24 (.mv (.t 0))),(aO 25 (.mv (.t 0))),(aO 26 (.shf .shr .u64 (.t 25) (.c (.sc (.int .u64 16))))),(aO 27 (.ari .add false .u64 (.t 24) (.t 26))),(aO 0 (.mv (.t 27)))])
 (.seq (.reg [0,35,0] [
 (aO 28 (.mv (.t 0))),(aO 29 (.mv (.t 0))),(aO 30 (.shf .shr .u64 (.t 29) (.c (.sc (.int .u64 32))))),(aO 31 (.ari .add false .u64 (.t 28) (.t 30))),(aO 0 (.mv (.t 31)))])
 (.seq (.reg [0,35,0] [
 (aO 32 (.mv (.t 0))),(aO 33 (.cnv true .i64 (.t 32))),(aO 34 (.bit .and .i64 (.t 33) (kI 127))),(aO 2 (.mv (.t 34)))])
 .ret))))))))
def rv37:List RV:=[.tmp 2]
theorem ok37:fnOk Tryd.prog ac37 rv37 Tryd.f37=true:=by kernel_rfl

def ac38:AC:=
 (.seq (.reg [0,15,0] [
 (aO 2 (.mv (kI 0)))])
 (.seq (.reg [0,15,0] [
 (aO 3 (.mv (kI 0)))])
 (.seq (.block 0
 (.loop [0,15,0,3]
 (.seq (.seq (.reg [0,15,0,3] [
 (aO 4 (.mv (.t 0))),(aO 5 (.cmp .neq .u64 (.t 4) (.c (.sc (.int .u64 0)))))])
 (.cond (.t 5)
 .skip
 (.exit 0)))
 (.seq (.block 1
 (.reg [0,15,0,3] [
 (aO 10 (.mv (.t 3))),(aO 11 (.mv (.t 0))),(aO 12 (.cal 58 [(.t 11)])),(aO 13 (.bit .xor .i64 (.t 10) (.t 12))),(aO 3 (.mv (.t 13)))]))
 (.reg [0,15,0,3] [
 (aO 6 (.mv (.t 0))),(aO 7 (.mv (.t 0))),(aO 8 (.ari .sub false .u64 (.t 7) (.c (.sc (.int .u64 1))))),(aO 9 (.bit .and .u64 (.t 6) (.t 8))),(aO 0 (.mv (.t 9)))])))))
 (.seq (.reg [0,15,3] [
 (aO 14 (.mv (.t 3))),(aO 2 (.mv (.t 14)))])
 .ret))))
def rv38:List RV:=[.tmp 2]
theorem ok38:fnOk Tryd.prog ac38 rv38 Tryd.f38=true:=by kernel_rfl

def ac17:AC:=
 (.seq (.reg [0,12,0] [
 (aO 2 (.mv (kI 0)))])
 (.seq (.block 0
 (.seq (.reg [0,12,0] [
 (aO 4 (.mv (.t 0))),(aO 5 (.cal 37 [(.t 4)])),(aO 6 (.dvd .rem true .i64 (.t 5) (kI 2))),(aO 7 (.cmp .eql .i64 (.t 6) (kI 1))),(aO 3 (.mv (.t 7)))])
 (.cond (.t 3)
 (.seq (.reg [0,12] [
 (aO 2 (.mv (kI 1)))])
 .ret)
 (.seq (.reg [0,12,0] [
 (aO 9 (.mv (.t 0))),(aO 10 (.cal 38 [(.t 9)])),(aO 11 (.cmp .neq .i64 (.t 10) (kI 0))),(aO 8 (.mv (.t 11)))])
 (.cond (.t 8)
 (.seq (.reg [0,12] [
 (aO 2 (.mv (kI 2)))])
 .ret)
 .skip)))))
 (.seq (.reg [0,12] [
 (aO 2 (.mv (kI 0)))])
 .ret)))
def rv17:List RV:=[.tmp 2]
theorem ok17:fnOk Tryd.prog ac17 rv17 Tryd.f17=true:=by kernel_rfl

def ac46:AC:=
 (.seq (.reg [0,16,0,1] [
 (aO 4 (.mv (.c (.sc (.int .u64 0)))))])
 (.seq (.seq (.reg [0,16,0,1] [
 (aO 5 (.mv (.t 1))),(aO 6 (.cmp .lss .i64 (.t 5) (kI 0))),(aO 7 (.mv (.t 6))),⟨some 8,some (7,false),.mv (.t 1)⟩,⟨some 9,some (7,false),.cmp .gtr .i64 (.t 8) (kI 63)⟩,(aO 10 (.pick (.t 7) (.c (.sc (.bool true))) (.t 9)))])
 (.cut [0,16,0,1,10] (.cond (.t 10)
 (.seq (.reg [0,16,0] [
 (aO 11 (.mv (.t 0))),(aO 4 (.mv (.t 11)))])
 .ret)
 .skip)))
 (.seq (.reg [0,16,0,1] [
 (aO 12 (.mv (.t 0))),(aO 13 (.mv (.t 1))),(aO 14 (.shf .shl .u64 (.c (.sc (.int .u64 1))) (.t 13))),(aO 15 (.bit .xor .u64 (.t 12) (.t 14))),(aO 4 (.mv (.t 15)))])
 .ret)))
def rv46:List RV:=[.tmp 4]
theorem ok46:fnOk Tryd.prog ac46 rv46 Tryd.f46=true:=by kernel_rfl

def ac47_200:AC:=
 (.seq (.reg [200,20,200] [
 (aO 202 (.mv (kI 0)))])
 (.seq (.reg [200,20,200,202] [
 (aO 203 (.mv (kI 3)))])
 (.block 0
 (.lps [200,20,200,202,203]
 (.seq (.seq (.reg [200,20,200,202,203] [
 (aO 204 (.mv (.t 203))),(aO 205 (.cmp .lss .i64 (.t 204) (kI 64)))])
 (.cond (.t 205)
 .skip
 (.exit 0)))
 (.seq (.block 1
 (.seq (.seq (.reg [200,20,200,202,203] [
 (aO 208 (.mv (.t 203))),(aO 209 (.mv (.t 203))),(aO 210 (.ari .sub true .i64 (.t 209) (kI 1))),(aO 211 (.bit .and .i64 (.t 208) (.t 210))),(aO 212 (.cmp .eql .i64 (.t 211) (kI 0)))])
 (.cond (.t 212)
 (.exit 1)
 .skip))
 (.seq (.seq (.reg [200,20,200,202,203] [
 (aO 213 (.mv (.t 200))),(aO 214 (.mv (.t 202))),(aO 215 (.mv (.t 203))),(aO 216 (.clv (.t 213) [(.t 214),(.t 215)])),(aO 217 (.not (.t 216)))])
 (.cond (.t 217)
 .ret
 .skip))
 (.reg [200,20,200,202,203] [
 (aO 218 (.mv (.t 202))),(aO 219 (.ari .add true .i64 (.t 218) (kI 1))),(aO 202 (.mv (.t 219)))]))))
 (.reg [200,20,200,202,203] [
 (aO 206 (.mv (.t 203))),(aO 207 (.ari .add true .i64 (.t 206) (kI 1))),(aO 203 (.mv (.t 207)))])))))))
def rv47_200:List RV:=[]
theorem ok47_200:qh3 Tryd.prog 200 ac47_200 rv47_200 Tryd.f47=true:=by kernel_rfl

def ac48_2000:AC:=
 (.drw [2000,7,2000,2001] [
 (eT 2003 (.ld false 1 (.t 2001))),(eT 2004 (.mv (.t 2000))),(eT 2005 (.shf .shl .u64 (.c (.sc (.int .u64 1))) (.t 2004))),(eF 2006 (.bit .or .u64 (.t 2003) (.t 2005))),⟨(aN (.sto 1 (.t 2001) (.t 2006))),[],[],false⟩])
def rv48_2000:List RV:=[]
theorem ok48_2000:qh3 Tryd.prog 2000 ac48_2000 rv48_2000 Tryd.f48=true:=by kernel_rfl

def ac26:AC:=
 (.seq (.reg [0,43,0] [
 (aO 1 (.box (.t 0))),(aO 2 (.mv (.c (.sc (.int .u64 0))))),(aO 3 (.mv (kI 0)))])
 (.seq (.seq (.reg [0,43,1] [
 (aO 10 (.ld false 1 (.t 1))),(aO 11 (.cmp .geq .u64 (.t 10) (.c (.sc (.int .u64 144115188075855872)))))])
 (.cond (.t 11)
 (.seq (.reg [0,43] [
 (aO 2 (.mv (.c (.sc (.int .u64 0))))),(aO 3 (.mv (kI 1)))])
 .ret)
 .skip))
 (.seq (.reg [0,43,1] [
 (aO 4 (.alc [.sc (.int .u64 0)]))])
 (.seq (.reg [0,43,1,4] [
 (aO 12 (.mkf 48 [(.t 4)])),(aO 5 (.alc [.sc .nilFunc])),(aN (.sto 1 (.t 5) (.t 12)))])
 (.seq (.block 0
 (.rngf ⟨(.c (.sc (.func (.func 47) #[] #[]))),0,43,1000,[0,43,1,4,5],999⟩ [1013,1014]
 (.seq (.reg [1000,43,1001,1005,1013,1014] [
 (aO 1006 (.mv (.t 1013)))])
 (.reg [1000,43,1001,1005,1006,1014] [
 (aO 1007 (.mv (.t 1014)))]))
 (.block 1
 (.seq (.reg [1000,43,1001,1005,1006,1007] [
 (aO 1015 (.ld false 1 (.t 1001))),(aO 1016 (.mv (.t 1006))),(aO 1017 (.shf .shr .u64 (.t 1015) (.t 1016))),(aO 1018 (.bit .and .u64 (.t 1017) (.c (.sc (.int .u64 1))))),(aO 1019 (.cmp .eql .u64 (.t 1018) (.c (.sc (.int .u64 1)))))])
 (.cond (.t 1019)
 (.reg [1000,43,1005,1007] [
 (aO 1020 (.ld false 1 (.t 1005))),(aO 1021 (.mv (.t 1007))),(aO 1022 (.clv (.t 1020) [(.t 1021)]))])
 .skip)))))
 (.seq (.reg [0,43,4,5] [
 (aO 23 (.ld false 1 (.t 4))),(aO 24 (.cal 38 [(.t 23)])),(aO 8 (.mv (.t 24)))])
 (.seq (.seq (.reg [0,43,4,5,8] [
 (aO 9 (.mv (kI 1)))])
 (.block 2
 (.loop [0,43,4,5,8,9]
 (.seq (.seq (.reg [0,43,4,5,8,9] [
 (aO 25 (.mv (.t 9))),(aO 26 (.cmp .lss .i64 (.t 25) (kI 64)))])
 (.cond (.t 26)
 .skip
 (.exit 2)))
 (.seq (.block 3
 (.seq (.reg [0,43,4,5,8,9] [
 (aO 29 (.mv (.t 8))),(aO 30 (.mv (.t 9))),(aO 31 (.bit .and .i64 (.t 29) (.t 30))),(aO 32 (.cmp .neq .i64 (.t 31) (kI 0)))])
 (.cond (.t 32)
 (.reg [0,43,4,5,8,9] [
 (aO 33 (.ld false 1 (.t 5))),(aO 34 (.mv (.t 9))),(aO 35 (.clv (.t 33) [(.t 34)]))])
 .skip)))
 (.reg [0,43,4,5,8,9] [
 (aO 27 (.mv (.t 9))),(aO 28 (.ari .mul true .i64 (.t 27) (kI 2))),(aO 9 (.mv (.t 28)))]))))))
 (.seq (.seq (.reg [0,43,4,5] [
 (aO 36 (.ld false 1 (.t 4))),(aO 37 (.cal 37 [(.t 36)])),(aO 38 (.dvd .rem true .i64 (.t 37) (kI 2))),(aO 39 (.cmp .eql .i64 (.t 38) (kI 1)))])
 (.cond (.t 39)
 (.reg [0,43,4,5] [
 (aO 40 (.ld false 1 (.t 5))),(aO 41 (.clv (.t 40) [(kI 0)]))])
 .skip))
 (.seq (.reg [0,43,4] [
 (aO 42 (.ld false 1 (.t 4))),(aO 2 (.mv (.t 42))),(aO 3 (.mv (kI 0)))])
 .ret)))))))))
def rv26:List RV:=[.tmp 2,.tmp 3]
theorem ok26:fnOk Tryd.prog ac26 rv26 Tryd.f26=true:=by kernel_rfl

def ac25_r6:AC:=
 (.seq (.reg [0,31,1,5] [
 (aO 6 (.alc [.sc (.int .u64 0)]))])
 (.seq (.block 0
 (.rngf ⟨(.c (.sc (.func (.func 47) #[] #[]))),0,31,1000,[0,31,1,5,6],999⟩ [1019,1020]
 (.seq (.reg [1000,31,1001,1006,1019,1020] [
 (aO 1007 (.mv (.t 1019)))])
 (.reg [1000,31,1001,1006,1007,1020] [
 (aO 1008 (.mv (.t 1020)))]))
 (.block 1
 (.drw [1000,31,1001,1006,1007,1008] [
 (eT 1021 (.ld false 1 (.t 1006))),(eT 1022 (.ld false 1 (.t 1001))),(eT 1023 (.mv (.t 1008))),(eT 1024 (.shf .shr .u64 (.t 1022) (.t 1023))),(eT 1025 (.bit .and .u64 (.t 1024) (.c (.sc (.int .u64 1))))),(eT 1026 (.mv (.t 1007))),(eT 1027 (.shf .shl .u64 (.t 1025) (.t 1026))),(eF 1028 (.bit .or .u64 (.t 1021) (.t 1027))),⟨(aN (.sto 1 (.t 1006) (.t 1028))),[],[],false⟩]))))
 (.seq (.reg [0,31,5,6] [
 (aO 29 (.ld false 1 (.t 6))),(aO 30 (.mv (.t 5))),(aO 2 (.mv (.t 29))),(aO 3 (.mv (.t 30))),(aO 4 (.mv (kI 0)))])
 .ret)))
def ac25:AC:=
 (.seq (.reg [0,31,0] [
 (aO 1 (.box (.t 0))),(aO 2 (.mv (.c (.sc (.int .u64 0))))),(aO 3 (.mv (kI 0))),(aO 4 (.mv (kI 0)))])
 (.seq (.reg [0,31,1] [
 (aO 9 (.ld false 1 (.t 1))),(aO 10 (.cal 17 [(.t 9)])),(aO 5 (.mv (.t 10)))])
 (.seq (.seq (.reg [0,31,1,5] [
 (aO 11 (.mv (.t 5))),(aO 12 (.cmp .eql .i64 (.t 11) (kI 2)))])
 (.cond (.t 12)
 (.seq (.reg [0,31] [
 (aO 2 (.mv (.c (.sc (.int .u64 0))))),(aO 3 (.mv (kI 0))),(aO 4 (.mv (kI 6)))])
 .ret)
 .skip))
 (.seq (.seq (.reg [0,31,1,5] [
 (aO 13 (.mv (.t 5))),(aO 14 (.cmp .eql .i64 (.t 13) (kI 1)))])
 (.cond (.t 14)
 (.drw [0,31,1,5] [
 (eT 15 (.ld false 1 (.t 1))),(eT 16 (.ld false 1 (.t 1))),(eT 17 (.cal 38 [(.t 16)])),(eF 18 (.cal 46 [(.t 15),(.t 17)])),⟨(aN (.sto 1 (.t 1) (.t 18))),[],[],false⟩])
 .skip))
 ac25_r6))))
def rv25:List RV:=[.tmp 2,.tmp 3,.tmp 4]
theorem ok25:fnOk Tryd.prog ac25 rv25 Tryd.f25=true:=by kernel_rfl
end Go.Proofs.YtecoaapkcnhlhaaDoor.Txt
namespace Go.Ham
def syn(w:Nat):Nat->Nat
 |0=>0
 |n+1=>if w.testBit n then syn w n^^^n else syn w n
def ons(w:Nat):Nat->Nat
 |0=>0
 |n+1=>ons w n+(w.testBit n).toNat
theorem qzr: ∀n,syn 0 n=0
 |0=>rfl
 |n+1=>by simp[syn,qzr n]
theorem xor3(a b n:Nat):a^^^n^^^b=a^^^b^^^n:=by rw[Nat.xor_assoc,Nat.xor_comm n b,<- Nat.xor_assoc]
theorem qzs(w v:Nat): ∀n,syn (w^^^v) n=syn w n^^^syn v n
 |0=>by simp[syn]
 | n + 1 => by
   simp only[syn,Nat.testBit_xor,qzs w v n]
   cases w.testBit n<;>cases v.testBit n<;>simp
   ·rw[Nat.xor_assoc]
   ·rw[xor3]
   ·rw[<- Nat.xor_assoc,xor3 _ _ n,Nat.xor_assoc _ n n];simp
theorem qzt(w v:Nat): ∀n,ons (w^^^v) n%2=(ons w n+ons v n)%2
 |0=>rfl
 | n + 1 => by
   have:=qzt w v n
   simp only[ons,Nat.testBit_xor]
   cases w.testBit n<;>cases v.testBit n<;>simp<;>omega
theorem qzu(i:Nat): ∀n,syn (2^i) n=if i<n then i else 0
 |0=>rfl
 | n + 1 => by
   simp only[syn,Nat.testBit_two_pow,qzu i n,decide_eq_true_eq]
   by_cases h:i=n
   ·subst h;simp
   ·by_cases h2:i<n
    ·simp[h,h2,Nat.lt_succ_of_lt h2]
    ·have: ¬i<n+1:=by omega
     simp[h,h2,this]
theorem qzv(i:Nat): ∀n,ons (2^i) n=if i<n then 1 else 0
 |0=>rfl
 | n + 1 => by
   simp only[ons,Nat.testBit_two_pow,qzv i n]
   by_cases h:i=n
   ·subst h;simp
   ·by_cases h2:i<n
    ·simp[h,h2,Nat.lt_succ_of_lt h2]
    ·have: ¬i<n+1:=by omega
     simp[h,h2,this]
theorem qzw(w:Nat): ∀n,n<=64->syn w n<64
 |0,_=>by simp[syn]
 | n + 1, h => by
   have h1:syn w n<2^6:=qzw w n (by omega)
   simp only[syn]
   split
   ·exact Nat.xor_lt_two_pow h1 (show n<2^6 by omega)
   ·exact h1
def plc:List (Nat×Nat):=(List.range 57).zip [3,5,6,7,9,10,11,12,13,14,15,17,18,19,20,21,22,23,24,25,26,27,28,29,30,31,33,34,35,36,37,38,39,40,41,42,43,44,45,46,47,48,49,50,51,52,53,54,55,56,57,58,59,60,61,62,63]
def sctL(d:Nat)(l:List (Nat×Nat)):Nat:=l.foldl (fun w x=>if d.testBit x.1 then w|||2^x.2 else w) 0
def gatL(w:Nat)(l:List (Nat×Nat)):Nat:=l.foldl (fun d x=>if w.testBit x.2 then d|||2^x.1 else d) 0
def sct(d:Nat):Nat:=sctL d plc
def gat(w:Nat):Nat:=gatL w plc
def prt(w s:Nat):Nat:=(List.range 6).foldl (fun w k=>if s.testBit k then w|||2^(2^k)else w) w
def fin(w:Nat):Nat:=if ons w 64%2=1 then w|||1 else w
def encW(d:Nat):Nat:=fin (prt (sct d) (syn (sct d) 64))
def chkW(w:Nat):Nat:=if ons w 64%2=1 then 1 else if syn w 64≠0 then 2 else 0
theorem qzx{α:Type}(c:α->Bool)(e:α->Nat)(p:Nat): ∀(l:List α) (w:Nat),(l.foldl (fun w x=>if c x then w|||2^e x else w) w).testBit p=(w.testBit p||l.any fun x=>c x&&decide (e x=p))
 |[],w=>by simp
 | x :: l, w => by
   rw[List.foldl_cons,qzx c e p l,List.any_cons]
   cases h:c x<;>simp[Nat.testBit_or,Nat.testBit_two_pow,Bool.or_assoc]
theorem qzy(d p:Nat):(sct d).testBit p=plc.any fun x=>d.testBit x.1&&decide (x.2=p):=by
 unfold sct sctL;rw[qzx (fun x:Nat×Nat=>d.testBit x.1) (fun x=>x.2)];simp
theorem qzz(w p:Nat):(gat w).testBit p=plc.any fun x=>w.testBit x.2&&decide (x.1=p):=by
 unfold gat gatL;rw[qzx (fun x:Nat×Nat=>w.testBit x.2) (fun x=>x.1)];simp
theorem qzA:plc.all (fun x=>plc.all fun y=>(decide (x.1=y.1))==decide (x.2=y.2))=true:=by decide+kernel
theorem qzB:(List.range 57).all (fun i=>plc.any fun x=>decide (x.1=i))=true:=by decide+kernel
theorem qzC:plc.all (fun x=>decide (x.1<57)&&decide (x.2<64)&&decide (x.2≠0)&&(List.range 6).all fun k=>decide (x.2≠2^k))=true:=by decide+kernel
theorem qzD:(List.range 64).all (fun p=>decide (p=0)||(List.range 6).any (fun k=>decide (p=2^k))||plc.any fun x=>decide (x.2=p))=true:=by decide+kernel
theorem inj1{x y:Nat×Nat}(hx:x∈plc)(hy:y∈plc):x.1=y.1 ↔ x.2=y.2:=by
 have:=List.all_eq_true.1 (List.all_eq_true.1 qzA x hx) y hy
 simpa using this
theorem qzE{x:Nat×Nat}(hx:x∈plc):x.1<57/\x.2<64/\x.2≠0/\ ∀k,k<6->x.2≠2^k:=by
 have:=List.all_eq_true.1 qzC x hx
 simp only[Bool.and_eq_true,decide_eq_true_eq,List.all_eq_true,List.mem_range]at this
 exact⟨this.1.1.1,this.1.1.2,this.1.2,this.2⟩
theorem qzF(d:Nat){x:Nat×Nat}(hx:x∈plc):(sct d).testBit x.2=d.testBit x.1:=by
 rw[qzy]
 cases h:d.testBit x.1
 ·rw[List.any_eq_false]
  intro y hy
  by_cases e:y.2=x.2
  ·rw[(inj1 hy hx).2 e];simp[h]
  ·simp[e]
 ·rw[List.any_eq_true]
  exact⟨x,hx,by simp[h]⟩
theorem qzG(w:Nat){x:Nat×Nat}(hx:x∈plc):(gat w).testBit x.1=w.testBit x.2:=by
 rw[qzz]
 cases h:w.testBit x.2
 ·rw[List.any_eq_false]
  intro y hy
  by_cases e:y.1=x.1
  ·rw[(inj1 hy hx).1 e];simp[h]
  ·simp[e]
 ·rw[List.any_eq_true]
  exact⟨x,hx,by simp[h]⟩
theorem qzH(d p:Nat)(h: ∀x∈plc,x.2≠p):(sct d).testBit p=false:=by
 rw[qzy,List.any_eq_false]
 intro x hx
 simp[h x hx]
theorem qzI(w:Nat):gat w<2^57:=by
 apply Nat.lt_pow_two_of_testBit
 intro i hi
 rw[qzz,List.any_eq_false]
 intro x hx
 have:=(qzE hx).1
 have:x.1≠i:=by omega
 simp[this]
theorem qzJ{a b:Nat}(ha:a<2^57)(hb:b<2^57)(h: ∀x∈plc,a.testBit x.1=b.testBit x.1):a=b:=by
 apply Nat.eq_of_testBit_eq
 intro i
 by_cases hi:i<57
 ·have:=List.all_eq_true.1 qzB i (List.mem_range.2 hi)
  obtain⟨x,hx,hxi⟩:=List.any_eq_true.1 this
  have hxi:x.1=i:=by simpa using hxi
  rw[<- hxi];exact h x hx
 ·have e:2^57<=2^i:=Nat.pow_le_pow_right (by decide) (by omega)
  rw[Nat.testBit_lt_two_pow (by omega),Nat.testBit_lt_two_pow (by omega)]
theorem qzK{w d:Nat}(hd:d<2^57)(h: ∀x∈plc,w.testBit x.2=d.testBit x.1):gat w=d:=
 qzJ (qzI w) hd fun x hx=>by rw[qzG w hx,h x hx]
theorem qzL(w s p:Nat):(prt w s).testBit p=(w.testBit p||(List.range 6).any fun k=>s.testBit k&&decide (2^k=p)):=by
 unfold prt;exact qzx (fun k=>s.testBit k) (fun k=>2^k) p _ w
theorem qzM: ∀s,s<64->syn (prt 0 s) 64=s:=by
 have:(List.range 64).all (fun s=>decide (syn (prt 0 s) 64=s))=true:=by decide+kernel
 intro s hs
 simpa using List.all_eq_true.1 this s (List.mem_range.2 hs)
theorem qzN(w s:Nat)(h: ∀k,k<6->w.testBit (2^k)=false):prt w s=w^^^prt 0 s:=by
 apply Nat.eq_of_testBit_eq
 intro p
 rw[Nat.testBit_xor,qzL,qzL,Nat.zero_testBit,Bool.false_or]
 cases ha:(List.range 6).any fun k=>s.testBit k&&decide (2^k=p)
 ·simp
 ·obtain⟨k,hk,h2⟩:=List.any_eq_true.1 ha
  simp only[Bool.and_eq_true,decide_eq_true_eq]at h2
  rw[<- h2.2,h k (List.mem_range.1 hk)];rfl
theorem qzO{w:Nat}(h:w.testBit 0=false):w|||1=w^^^1:=by
 apply Nat.eq_of_testBit_eq
 intro p
 rw[Nat.testBit_or,Nat.testBit_xor,show(1:Nat)=2^0 from rfl,Nat.testBit_two_pow]
 by_cases e:0=p
 ·subst e;rw[h];rfl
 ·simp[e]
theorem qzP(d k:Nat)(hk:k<6):(sct d).testBit (2^k)=false:=qzH d _ fun _ hx=>(qzE hx).2.2.2 k hk
theorem qzQ(d:Nat):(sct d).testBit 0=false:=qzH d _ fun _ hx=>(qzE hx).2.2.1
theorem qzR(s:Nat):(prt 0 s).testBit 0=false:=by
 rw[qzL,Nat.zero_testBit,Bool.false_or,List.any_eq_false]
 intro k _
 have:2^k≠0:=by have:=Nat.two_pow_pos k;omega
 simp[this]
theorem qzS(s:Nat){x:Nat×Nat}(hx:x∈plc):(prt 0 s).testBit x.2=false:=by
 rw[qzL,Nat.zero_testBit,Bool.false_or,List.any_eq_false]
 intro k hk
 have:=(qzE hx).2.2.2 k (List.mem_range.1 hk)
 have:2^k≠x.2:=fun e=>this e.symm
 simp[this]
theorem qzU(d:Nat):(∀x∈plc,(encW d).testBit x.2=d.testBit x.1)/\syn (encW d) 64=0/\ons (encW d) 64%2=0:=by
 have hs:syn (sct d) 64<64:=qzw _ _ (Nat.le_refl _)
 have h1:prt (sct d) (syn (sct d) 64)=sct d^^^prt 0 (syn (sct d) 64):=qzN _ _ fun k hk=>qzP d k hk
 have hb: ∀x∈plc,(prt (sct d) (syn (sct d) 64)).testBit x.2=d.testBit x.1:=fun x hx=>by
  rw[h1,Nat.testBit_xor,qzF d hx,qzS _ hx];simp
 have hy:syn (prt (sct d) (syn (sct d) 64)) 64=0:=by rw[h1,qzs,qzM _ hs];simp
 have h0:(prt (sct d) (syn (sct d) 64)).testBit 0=false:=by rw[h1,Nat.testBit_xor,qzQ,qzR];rfl
 unfold encW fin
 split
 ·rename_i ho
  rw[qzO h0]
  refine⟨fun x hx=> ?_,?_,?_⟩
  ·rw[Nat.testBit_xor,hb x hx,show(1:Nat)=2^0 from rfl,Nat.testBit_two_pow]
   have:=(qzE hx).2.2.1
   have:0≠x.2:=fun e=>this e.symm
   simp[this]
  ·rw[qzs,hy,show(1:Nat)=2^0 from rfl,qzu];rfl
  ·rw[qzt,show(1:Nat)=2^0 from rfl,qzv];simp;omega
 ·rename_i ho
  exact⟨hb,hy,by omega⟩
theorem qzV{w:Nat}{n:Nat}(h: ∀p,n<=p->w.testBit p=false):w<2^n:=Nat.lt_pow_two_of_testBit w h
theorem qzW(d:Nat):sct d<2^64:=qzV fun p hp=>qzH d p fun x hx=>by have:=(qzE hx).2.1;omega
theorem qzX(d:Nat):encW d<2^64:=by
 have h1:prt (sct d) (syn (sct d) 64)<2^64:=qzV fun p hp=>by
  rw[qzL,Nat.testBit_lt_two_pow (Nat.lt_of_lt_of_le (qzW d) (Nat.pow_le_pow_right (by decide) hp)),Bool.false_or,List.any_eq_false]
  intro k hk
  have hk:k<6:=List.mem_range.1 hk
  have:2^k<=2^5:=Nat.pow_le_pow_right (by decide) (by omega)
  have:2^k≠p:=by omega
  simp[this]
 unfold encW fin
 split
 ·exact Nat.or_lt_two_pow h1 (by decide)
 ·exact h1
theorem qzY{d:Nat}(hd:d<2^57):gat (encW d)=d:=qzK hd (qzU d).1
theorem qzZ(d:Nat):chkW (encW d)=0:=by
 obtain⟨_,h2,h3⟩:=qzU d
 unfold chkW;rw[if_neg (by omega),if_neg (by omega)]
theorem qA0{x:Nat}(hx:x<2^64)(h1: ∀q∈plc,x.testBit q.2=false)(h2:syn x 64=0)(h3:ons x 64%2=0):x=0:=by
 have hx' :x=(if x.testBit 0 then 1 else 0)^^^prt 0 ((if x.testBit 1 then 1 else 0)+(if x.testBit 2 then 2 else 0)+(if x.testBit 4 then 4 else 0)+(if x.testBit 8 then 8 else 0)+(if x.testBit 16 then 16 else 0)+(if x.testBit 32 then 32 else 0)):=by
  apply Nat.eq_of_testBit_eq
  intro p
  by_cases hp:p<64
  ·have:=List.all_eq_true.1 qzD p (List.mem_range.2 hp)
   simp only[Bool.or_eq_true,decide_eq_true_eq,List.any_eq_true]at this
   rcases this with(rfl|⟨k,hk,rfl⟩)|⟨q,hq,rfl⟩
   ·rw[Nat.testBit_xor,qzR]
    cases x.testBit 0<;>rfl
   ·rw[Nat.testBit_xor]
    have e0:(if x.testBit 0 then 1 else 0:Nat).testBit (2^k)=false:=by
     have hk:k<6:=List.mem_range.1 hk
     cases x.testBit 0
     ·simp
     ·simp only[if_true];rw[show(1:Nat)=2^0 from rfl,Nat.testBit_two_pow];have:=Nat.two_pow_pos k;simp;omega
    rw[e0,Bool.false_xor]
    have hk:k<6:=List.mem_range.1 hk
    have key: ∀b1 b2 b3 b4 b5 b6:Bool,∀k,k<6->(prt 0 ((if b1 then 1 else 0)+(if b2 then 2 else 0)+(if b3 then 4 else 0)+(if b4 then 8 else 0)+(if b5 then 16 else 0)+(if b6 then 32 else 0))).testBit (2^k)=[b1,b2,b3,b4,b5,b6].getD k false:=by decide+kernel
    rw[key _ _ _ _ _ _ k hk]
    have:k=0\/k=1\/k=2\/k=3\/k=4\/k=5:=by omega
    rcases this with rfl|rfl|rfl|rfl|rfl|rfl<;>rfl
   ·rw[h1 q hq,Nat.testBit_xor,qzS _ hq]
    obtain⟨_,_,q3,_⟩:=qzE hq
    cases x.testBit 0
    ·simp
    ·simp only[if_true];rw[show(1:Nat)=2^0 from rfl,Nat.testBit_two_pow];simp;omega
  ·have e:2^64<=2^p:=Nat.pow_le_pow_right (by decide) (by omega)
   rw[Nat.testBit_lt_two_pow (by omega),Nat.testBit_xor,qzL,Nat.zero_testBit,Bool.false_or]
   have e1:(if x.testBit 0 then 1 else 0:Nat).testBit p=false:=by
    cases x.testBit 0
    ·simp
    ·simp only[if_true];rw[show(1:Nat)=2^0 from rfl,Nat.testBit_two_pow];simp;omega
   rw[e1,Bool.false_xor]
   refine(List.any_eq_false.2 fun k hk=> ?_).symm
   have hk:k<6:=List.mem_range.1 hk
   have:2^k<=2^5:=Nat.pow_le_pow_right (by decide) (by omega)
   have:2^k≠p:=by omega
   simp[this]
 revert h2 h3
 rw[hx']
 have key : ∀ b0 b1 b2 b3 b4 b5 b6 : Bool, syn ((if b0 then 1 else 0) ^^^ prt 0 ((if b1 then 1 else 0) + (if b2 then 2 else 0) + (if b3 then 4 else 0) + (if b4 then 8 else 0) + (if b5 then 16 else 0) + (if b6 then 32 else 0))) 64 = 0 -> ons ((if b0 then 1 else 0) ^^^ prt 0 ((if b1 then 1 else 0) + (if b2 then 2 else 0) + (if b3 then 4 else 0) + (if b4 then 8 else 0) + (if b5 then 16 else 0) + (if b6 then 32 else 0))) 64 % 2 = 0 ->
   (if b0 then 1 else 0)^^^prt 0 ((if b1 then 1 else 0)+(if b2 then 2 else 0)+(if b3 then 4 else 0)+(if b4 then 8 else 0)+(if b5 then 16 else 0)+(if b6 then 32 else 0))=0:=by decide+kernel
 exact key _ _ _ _ _ _ _
theorem qA1{w:Nat}(hw:w<2^64)(h:chkW w=0):encW (gat w)=w:=by
 unfold chkW at h
 have h1:ons w 64%2=0:=by
  by_cases e:ons w 64%2=1
  ·rw[if_pos e]at h;omega
  ·omega
 rw[if_neg (by omega)]at h
 have h2:syn w 64=0:=by
  by_cases e:syn w 64=0
  ·exact e
  ·rw[if_pos e]at h;omega
 obtain⟨g1,g2,g3⟩:=qzU (gat w)
 have hz:encW (gat w)^^^w=0:=by
  refine qA0 (Nat.xor_lt_two_pow (qzX _) hw) (fun q hq=> ?_) ?_ ?_
  ·rw[Nat.testBit_xor,g1 q hq,qzG w hq];simp
  ·rw[qzs,g2,h2];rfl
  ·rw[qzt];omega
 have:=congrArg (· ^^^w) hz
 simpa[Nat.xor_assoc]using this
theorem qA2{w:Nat}(h:chkW w=0){i:Nat}(hi:i<64):chkW (w^^^2^i)=1/\syn (w^^^2^i) 64=i:=by
 unfold chkW at h
 have h1:ons w 64%2=0:=by
  by_cases e:ons w 64%2=1
  ·rw[if_pos e]at h;omega
  ·omega
 rw[if_neg (by omega)]at h
 have h2:syn w 64=0:=by
  by_cases e:syn w 64=0
  ·exact e
  ·rw[if_pos e]at h;omega
 constructor
 ·unfold chkW;rw[qzt,qzv,if_pos hi,if_pos (by omega)]
 ·rw[qzs,qzu,if_pos hi,h2];simp
theorem qA4(w v:Nat):w^^^v^^^v=w:=by rw[Nat.xor_assoc];simp
theorem fix1{w:Nat}(h:chkW w=1):syn w 64<64/\chkW (w^^^2^syn w 64)=0:=by
 have hs:=qzw w 64 (Nat.le_refl _)
 refine⟨hs,?_⟩
 have h1:ons w 64%2=1:=by
  unfold chkW at h
  by_cases e:ons w 64%2=1
  ·exact e
  ·rw[if_neg e]at h;split at h<;>omega
 unfold chkW
 rw[qzt,qzv,if_pos hs,if_neg (by omega),qzs,qzu,if_pos hs]
 simp
theorem qA6(w:Nat):chkW w=0\/chkW w=1\/chkW w=2:=by
 unfold chkW
 split
 ·exact .inr (.inl rfl)
 ·split
  ·exact .inr (.inr rfl)
  ·exact .inl rfl
theorem qA7(k m:Nat):(2^k*(2*m+1))&&&(2^k*(2*m+1)-1)=2^k*(2*m+1)^^^2^k/\2^k*(2*m+1)^^^2^k<2^k*(2*m+1)/\(2^k*(2*m+1)).testBit k=true:=by
 have hp:=Nat.two_pow_pos k
 have e1:2^k*(2*m+1)=2^(k+1)*m+2^k:=by rw[Nat.pow_succ,Nat.mul_add,Nat.mul_one,Nat.mul_assoc]
 have hlt:2^k<2^(k+1):=Nat.pow_lt_pow_right (by decide) (by omega)
 have e2:2^k*(2*m+1)-1=2^(k+1)*m+(2^k-1):=by omega
 have hx:2^k*(2*m+1)^^^2^k=2^(k+1)*m:=by
  apply Nat.eq_of_testBit_eq
  intro i
  rw[e1,Nat.testBit_xor,Nat.testBit_two_pow_mul_add _ hlt,Nat.testBit_two_pow_mul,Nat.testBit_two_pow]
  split
  ·rename_i h
   have: ¬k+1<=i:=by omega
   simp[this]
  ·rename_i h
   have h1:k+1<=i:=by omega
   have h2:k≠i:=by omega
   simp[h1,h2]
 refine⟨?_,by rw[hx];omega,?_⟩
 ·rw[hx,e2]
  apply Nat.eq_of_testBit_eq
  intro i
  rw[e1,Nat.testBit_and,Nat.testBit_two_pow_mul_add _ hlt,Nat.testBit_two_pow_mul_add _ (by omega),Nat.testBit_two_pow_mul,Nat.testBit_two_pow,Nat.testBit_two_pow_sub_one]
  split
  ·rename_i h
   have: ¬k+1<=i:=by omega
   have h3:(decide (k=i)&&decide (i<k))=false:=by
    by_cases e:k=i
    ·subst e;simp
    ·simp[e]
   rw[h3]
   simp[this]
  ·rename_i h
   have h1:k+1<=i:=by omega
   simp[h1]
 ·rw[e1,Nat.testBit_two_pow_mul_add _ hlt,if_pos (by omega),Nat.testBit_two_pow_self]
theorem qA8{b c:Nat}(y z:Nat)(hb:b<256)(hc:c<256):(256*y+b)&&&(256*z+c)=256*(y&&&z)+(b&&&c):=by
 have hbc:b&&&c<2^8:=Nat.and_lt_two_pow _ hc
 apply Nat.eq_of_testBit_eq
 intro i
 rw[show(256:Nat)=2^8 from rfl,Nat.testBit_and,Nat.testBit_two_pow_mul_add _ hb,Nat.testBit_two_pow_mul_add _ hc,Nat.testBit_two_pow_mul_add _ hbc]
 split<;>rw[Nat.testBit_and]
theorem qA9{b:Nat}(y:Nat)(hb:b<256): ∀n,ons (256*y+b) (n+8)=ons y n+ons b 8
 |0=>by simp[ons,show(256:Nat)=2^8 from rfl,Nat.testBit_two_pow_mul_add y (show b<2^8 from hb)]
 | n + 1 => by
   show ons _ (n+8)+_=_
   rw[qA9 y hb n,show(256:Nat)=2^8 from rfl,Nat.testBit_two_pow_mul_add y (show b<2^8 from hb),if_neg (by omega)]
   simp only[ons,show n+8-8=n from by omega]
   omega
def sa(m x:Nat):Nat:=(x/2&&&m)+(x&&&m)
def sb(m x:Nat):Nat:=(x/4&&&m)+(x&&&m)
def sc(m x:Nat):Nat:=(x/16+x)&&&m
theorem qAa{b:Nat}(y m:Nat)(hb:b<256):sa (256*m+85) (256*y+b)=256*sa m y+sa 85 b:=by
 have key: ∀b,b<256-> ∀c,c<2->((b/2+128*c)&&&85)=(b/2&&&85):=by decide+kernel
 unfold sa
 rw[show(256*y+b)/2=256*(y/2)+(b/2+128*(y%2))from by omega,qA8 _ _ (by omega) (by omega),qA8 _ _ hb (by omega),key b hb _ (by omega)]
 omega
theorem qAb{b:Nat}(y m:Nat)(hb:b<256):sb (256*m+51) (256*y+b)=256*sb m y+sb 51 b:=by
 have key: ∀b,b<256-> ∀c,c<4->((b/4+64*c)&&&51)=(b/4&&&51):=by decide+kernel
 unfold sb
 rw[show(256*y+b)/4=256*(y/4)+(b/4+64*(y%4))from by omega,qA8 _ _ (by omega) (by omega),qA8 _ _ hb (by omega),key b hb _ (by omega)]
 omega
theorem qAc{b:Nat}(y m:Nat)(hb:b<69)(hy:y%16<5):sc (256*m+15) (256*y+b)=256*sc m y+sc 15 b:=by
 have key: ∀b,b<69-> ∀c,c<5->((b/16+16*c+b)&&&15)=(b/16+b&&&15):=by decide+kernel
 unfold sc
 rw[show(256*y+b)/16+(256*y+b)=256*(y/16+y)+(b/16+16*(y%16)+b)from by omega,qA8 _ _ (by omega) (by omega),key b hb _ hy]
theorem qAd: ∀b,b<256->sa 85 b<256/\sb 51 (sa 85 b)<69/\sb 51 (sa 85 b)%16<5/\sc 15 (sb 51 (sa 85 b))=ons b 8/\ons b 8<=8:=by decide+kernel
def m0:Nat:=6148914691236517205
def m1:Nat:=3689348814741910323
def m2:Nat:=1085102592571150095
def sum8(x:Nat):Nat:=let a:=x+x/256;let b:=a+a/65536;let c:=b+b/4294967296;c%128
theorem qkb (x : Nat) (hx : x < 2 ^ 64) : ∃ b0 b1 b2 b3 b4 b5 b6 b7 : Nat, (b0 < 256 /\ b1 < 256 /\ b2 < 256 /\ b3 < 256 /\ b4 < 256 /\ b5 < 256 /\ b6 < 256 /\ b7 < 256) /\
  x=256*(256*(256*(256*(256*(256*(256*b7+b6)+b5)+b4)+b3)+b2)+b1)+b0:=
 ⟨x%256,x/256%256,x/65536%256,x/16777216%256,x/4294967296%256,x/1099511627776%256,x/281474976710656%256,x/72057594037927936,by omega,by omega⟩
def num:List Nat->Nat
 |[]=>0
 |b::r=>256*num r+b
def zad:List Nat->List Nat->List Nat
 |[],l=>l
 |l,[]=>l
 |a::r,b::s=>(a+b)::zad r s
theorem qAe: ∀a b,num a+num b=num (zad a b)
 |[],l=>by simp[num,zad]
 |a::r,[]=>by simp[num,zad]
 |a::r,b::s=>by simp only[num,zad,<- qAe r s];omega
theorem dv(b:Nat)(r:List Nat)(h:b<256):num (b::r)/256=num r:=by simp only[num];omega
theorem qAf(b:Nat)(r:List Nat)(h:b<128):num (b::r)%128=b:=by simp only[num];omega
theorem qAg (o0 o1 o2 o3 o4 o5 o6 o7 : Nat) (h0 : o0 <= 8) (h1 : o1 <= 8) (h2 : o2 <= 8) (h3 : o3 <= 8) (h4 : o4 <= 8) (h5 : o5 <= 8) (h6 : o6 <= 8) (h7 : o7 <= 8) :
  sum8 (256*(256*(256*(256*(256*(256*(256*o7+o6)+o5)+o4)+o3)+o2)+o1)+o0)=o7+o6+o5+o4+o3+o2+o1+o0:=by
 have e2: ∀x:Nat,x/65536=x/256/256:=fun x=>by rw[Nat.div_div_eq_div_mul]
 have e4: ∀x:Nat,x/4294967296=x/256/256/256/256:=fun x=>by rw[Nat.div_div_eq_div_mul,Nat.div_div_eq_div_mul,Nat.div_div_eq_div_mul]
 have hx:256*(256*(256*(256*(256*(256*(256*o7+o6)+o5)+o4)+o3)+o2)+o1)+o0=num [o0,o1,o2,o3,o4,o5,o6,o7]:=by simp[num]
 have a1:=dv o0 [o1,o2,o3,o4,o5,o6,o7] (by omega)
 have a2:num [o0,o1,o2,o3,o4,o5,o6,o7]+num [o1,o2,o3,o4,o5,o6,o7]=num [o0+o1,o1+o2,o2+o3,o3+o4,o4+o5,o5+o6,o6+o7,o7]:=qAe _ _
 have b1:num [o0+o1,o1+o2,o2+o3,o3+o4,o4+o5,o5+o6,o6+o7,o7]/65536=num [o2+o3,o3+o4,o4+o5,o5+o6,o6+o7,o7]:=by rw[e2,dv _ _ (by omega),dv _ _ (by omega)]
 have b2 : num [o0 + o1, o1 + o2, o2 + o3, o3 + o4, o4 + o5, o5 + o6, o6 + o7, o7] + num [o2 + o3, o3 + o4, o4 + o5, o5 + o6, o6 + o7, o7] =
   num [o0+o1+(o2+o3),o1+o2+(o3+o4),o2+o3+(o4+o5),o3+o4+(o5+o6),o4+o5+(o6+o7),o5+o6+o7,o6+o7,o7]:=qAe _ _
 have c1:num [o0+o1+(o2+o3),o1+o2+(o3+o4),o2+o3+(o4+o5),o3+o4+(o5+o6),o4+o5+(o6+o7),o5+o6+o7,o6+o7,o7]/4294967296=num [o4+o5+(o6+o7),o5+o6+o7,o6+o7,o7]:=by
  rw[e4,dv _ _ (by omega),dv _ _ (by omega),dv _ _ (by omega),dv _ _ (by omega)]
 have c2:num [o0+o1+(o2+o3),o1+o2+(o3+o4),o2+o3+(o4+o5),o3+o4+(o5+o6),o4+o5+(o6+o7),o5+o6+o7,o6+o7,o7]+num [o4+o5+(o6+o7),o5+o6+o7,o6+o7,o7]=num _:=qAe _ _
 simp only[sum8]
 rw[hx,a1,a2,b1,b2,c1,c2]
 simp only[zad]
 rw[qAf _ _ (by omega)]
 omega
theorem qAh(x:Nat)(hx:x<2^64):sa m0 x<2^64/\sb m1 (sa m0 x)<2^63/\sc m2 (sb m1 (sa m0 x))<2^60/\sum8 (sc m2 (sb m1 (sa m0 x)))=ons x 64:=by
 obtain⟨b0,b1,b2,b3,b4,b5,b6,b7,⟨h0,h1,h2,h3,h4,h5,h6,h7⟩,rfl⟩:=qkb x hx
 obtain⟨p0,q0,r0,s0,t0⟩:=qAd b0 h0
 obtain⟨p1,q1,r1,s1,t1⟩:=qAd b1 h1
 obtain⟨p2,q2,r2,s2,t2⟩:=qAd b2 h2
 obtain⟨p3,q3,r3,s3,t3⟩:=qAd b3 h3
 obtain⟨p4,q4,r4,s4,t4⟩:=qAd b4 h4
 obtain⟨p5,q5,r5,s5,t5⟩:=qAd b5 h5
 obtain⟨p6,q6,r6,s6,t6⟩:=qAd b6 h6
 obtain⟨p7,q7,r7,s7,t7⟩:=qAd b7 h7
 have em0:m0=256*(256*(256*(256*(256*(256*(256*85+85)+85)+85)+85)+85)+85)+85:=rfl
 have em1:m1=256*(256*(256*(256*(256*(256*(256*51+51)+51)+51)+51)+51)+51)+51:=rfl
 have em2:m2=256*(256*(256*(256*(256*(256*(256*15+15)+15)+15)+15)+15)+15)+15:=rfl
 have ea:=qAa (256*(256*(256*(256*(256*(256*b7+b6)+b5)+b4)+b3)+b2)+b1) (256*(256*(256*(256*(256*(256*85+85)+85)+85)+85)+85)+85) h0
 rw[qAa _ _ h1,qAa _ _ h2,qAa _ _ h3,qAa _ _ h4,qAa _ _ h5,qAa _ _ h6]at ea
 rw[em0,ea]
 have eb:=qAb (256*(256*(256*(256*(256*(256*sa 85 b7+sa 85 b6)+sa 85 b5)+sa 85 b4)+sa 85 b3)+sa 85 b2)+sa 85 b1) (256*(256*(256*(256*(256*(256*51+51)+51)+51)+51)+51)+51) p0
 rw[qAb _ _ p1,qAb _ _ p2,qAb _ _ p3,qAb _ _ p4,qAb _ _ p5,qAb _ _ p6]at eb
 rw[em1,eb]
 generalize sb 51 (sa 85 b0)=c0 at *
 generalize sb 51 (sa 85 b1)=c1 at *
 generalize sb 51 (sa 85 b2)=c2 at *
 generalize sb 51 (sa 85 b3)=c3 at *
 generalize sb 51 (sa 85 b4)=c4 at *
 generalize sb 51 (sa 85 b5)=c5 at *
 generalize sb 51 (sa 85 b6)=c6 at *
 generalize sb 51 (sa 85 b7)=c7 at *
 rw[em2,qAc _ _ q0 (by omega),qAc _ _ q1 (by omega),qAc _ _ q2 (by omega),qAc _ _ q3 (by omega),qAc _ _ q4 (by omega),qAc _ _ q5 (by omega),qAc _ _ q6 (by omega),s0,s1,s2,s3,s4,s5,s6,s7]
 have eo:=qA9 (256*(256*(256*(256*(256*(256*b7+b6)+b5)+b4)+b3)+b2)+b1) h0 56
 rw[qA9 _ h1 48,qA9 _ h2 40,qA9 _ h3 32,qA9 _ h4 24,qA9 _ h5 16,qA9 _ h6 8]at eo
 rw[eo]
 clear eo ea eb em0 em1 em2
 generalize ons b0 8=o0 at *
 generalize ons b1 8=o1 at *
 generalize ons b2 8=o2 at *
 generalize ons b3 8=o3 at *
 generalize ons b4 8=o4 at *
 generalize ons b5 8=o5 at *
 generalize ons b6 8=o6 at *
 generalize ons b7 8=o7 at *
 refine⟨by omega,by omega,by omega,?_⟩
 rw[qAg _ _ _ _ _ _ _ _ t0 t1 t2 t3 t4 t5 t6 t7]
def datW(w:Nat):Nat:=gat (if chkW w=1 then w^^^2^syn w 64 else w)
def fixW(w:Nat):Nat:=if chkW w=2 then w else encW (datW w)
theorem qAi(w:Nat):datW w<2^57:=qzI _
end Go.Ham
namespace Go.Vc
open Go Go.RowKit
def stT(s ps:List (Nat×PV))(i0:Nat):List (Nat×PV)->Prop
 |[]=>True
 |(i,v)::r=>(lk s i=some v/\(i=0\/i=i0\/frV ps v))/\stT s ps i0 r
@[push_cast] theorem qAj(s ps:List (Nat×PV))(i0:Nat):stT s ps i0 []=True:=rfl
@[push_cast] theorem qAk(s ps r:List (Nat×PV))(i0 i:Nat)(v:PV):stT s ps i0 ((i,v)::r)=((lk s i=some v/\(i=0\/i=i0\/frV ps v))/\stT s ps i0 r):=rfl
end Go.Vc
namespace Go.Vc
open Go Go.RowKit
def slD(V:Nat->PV)(dn:List Nat):List XO->List (Nat×PV)->List (Nat×PV)
 |[],s=>s
 |x::r,s=>slD V dn r (if dn.contains x.i=true then(match x.o.d with|some d=>up s d (V x.i)|none=>s)else s)
def putD(V:Nat->PV)(x:XO)(s:List (Nat×PV)):List (Nat×PV):=match x.o.d with|some d=>up s d (V x.i)|none=>s
theorem qAn(V:Nat->PV)(dn:List Nat)(x:XO)(r:List XO)(s:List (Nat×PV)):slD V dn (x::r) s=slD V dn r (if dn.contains x.i=true then putD V x s else s):=rfl
def qAo:List XO->Bool
 |[]=>true
 |x::r=>r.all (fun y=>x.i !=y.i&&(match x.o.d,y.o.d with|some d,some e=>d !=e|_,_=>true))&&qAo r
theorem qAp(V:Nat->PV){x y:XO}(h: ∀d e,x.o.d=some d->y.o.d=some e->d≠e)(s:List (Nat×PV)):putD V x (putD V y s)=putD V y (putD V x s):=by
 unfold putD
 cases hx:x.o.d with
 |none=>cases y.o.d<;>rfl
 |some d=>
   cases hy:y.o.d with
   |none=>rfl
   |some e=>exact qa3 s _ _ (fun q=>h d e hx hy q.symm)
theorem qAq{V:Nat->PV}{dn:List Nat}{x:XO} : ∀ {r:List XO} (_: ∀y∈r,∀d e,x.o.d=some d->y.o.d=some e->d≠e) (s:List (Nat×PV)),slD V dn r (putD V x s)=putD V x (slD V dn r s)
 |[],_,_=>rfl
 | y :: r, h, s => by
   rw[qAn,qAn]
   split
   ·rw[<- qAp V (h y (by simp)) s]
    exact qAq (fun z hz=>h z (by simp[hz])) _
   ·exact qAq (fun z hz=>h z (by simp[hz])) _
theorem qAr{x:XO}{r:List XO}(h:qAo (x::r)=true):(∀y∈r,x.i≠y.i/\ ∀d e,x.o.d=some d->y.o.d=some e->d≠e)/\qAo r=true:=by
 simp only[qAo,Bool.and_eq_true,List.all_eq_true]at h
 refine⟨fun y hy=> ?_,h.2⟩
 obtain⟨h1,h2⟩:=h.1 y hy
 refine⟨by simpa using h1,fun d e e1 e2=> ?_⟩
 rw[e1,e2]at h2
 simpa using h2
theorem qAs{V:Nat->PV}{dn:List Nat}{i:Nat} : ∀ {r:List XO} (_: ∀y∈r,i≠y.i) (s:List (Nat×PV)),slD V (i::dn) r s=slD V dn r s
 |[],_,_=>rfl
 | y :: r, h, s => by
   have e:(i::dn).contains y.i=dn.contains y.i:=by
    have:=h y (by simp)
    simp[this.symm]
   rw[qAn,qAn,e]
   exact qAs (fun z hz=>h z (by simp[hz])) _
theorem qAt{V:Nat->PV}{dn:List Nat}{x:XO}(hnd:dn.contains x.i=false): ∀ {ops:List XO} (_:qAo ops=true) (_:x∈ops) (s:List (Nat×PV)),slD V (x.i::dn) ops s=putD V x (slD V dn ops s)
 | y :: r, h, hx, s => by
   obtain⟨h1,h2⟩:=qAr h
   rw[qAn,qAn]
   rcases List.mem_cons.1 hx with rfl|hx
   ·rw[if_pos (by simp),hnd,if_neg (by decide),qAs (fun z hz=>(h1 z hz).1),qAq fun z hz=>(h1 z hz).2]
   ·have hne:=(h1 x hx).1
    have e:(x.i::dn).contains y.i=dn.contains y.i:=by simp[hne]
    rw[e]
    exact qAt hnd h2 hx _
theorem qAu{V:Nat->PV}{dn:List Nat}{j:Nat} : ∀ {r:List XO} (_:r.all (fun y=>y.o.d !=some j)=true) (s:List (Nat×PV)),lk (slD V dn r s) j=lk s j
 |[],_,_=>rfl
 | y :: r, h, s => by
   simp only[List.all_cons,Bool.and_eq_true]at h
   rw[qAn,qAu h.2]
   split
   ·unfold putD
    split
    ·rename_i d hd
     rw[qa2,if_neg]
     intro e
     rw[hd,e]at h
     simp at h
    ·rfl
   ·rfl
theorem qAv{V:Nat->PV}{dn:List Nat}{x:XO}{d:Nat}(hd:x.o.d=some d)(hdn:dn.contains x.i=true): ∀ {ops:List XO} (_:qAo ops=true) (_:x∈ops) (s:List (Nat×PV)),lk (slD V dn ops s) d=some (V x.i)
 | y :: r, h, hx, s => by
   obtain⟨h1,h2⟩:=qAr h
   rw[qAn]
   rcases List.mem_cons.1 hx with rfl|hx
   ·rw[if_pos hdn,qAu]
    ·unfold putD
     rw[hd]
     simp only
     rw[qa2,if_pos rfl]
    ·rw[List.all_eq_true]
     intro z hz
     have:=(h1 z hz).2
     cases he:z.o.d with
     |none=>rfl
     |some e=>
       have:=this d e hd he
       simp[this.symm]
   ·exact qAv hd hdn h2 hx _
def qAw(ops:List XO)(dn:List Nat):Prop:= ∀x∈ops,dn.contains x.i=true-> ∀j∈x.deps,dn.contains j=true
theorem qAx: ∀ {l1 l2:List Nat},l1.Nodup->(∀x∈l1,x∈l2)->l1.length<=l2.length
 |[],_,_,_=>Nat.zero_le _
 | x :: l1, l2, h, hs => by
   rw[List.nodup_cons]at h
   have hx:=hs x (by simp)
   have h1:=qAx (l1:=l1) (l2:=l2.erase x) h.2 fun y hy=>(List.mem_erase_of_ne (fun e=>h.1 (by rw[<- e];exact hy))).2 (hs y (by simp[hy]))
   rw[List.length_erase_of_mem hx]at h1
   have:=List.length_pos_of_mem hx
   rw[List.length_cons]
   omega
theorem qAy{ops:List XO}(h:qAo ops=true){x y:XO}(hx:x∈ops)(hy:y∈ops)(e:x.i=y.i):x=y:=by
 induction ops with
 |nil=>cases hx
 |cons z r ih=>
   obtain⟨h1,h2⟩:=qAr h
   rcases List.mem_cons.1 hx with e1|hx2
   ·rcases List.mem_cons.1 hy with e2|hy2
    ·rw[e1,e2]
    ·exact absurd (by rw[<- e1,e]) (h1 y hy2).1
   ·rcases List.mem_cons.1 hy with e2|hy2
    ·exact absurd (by rw[<- e2,e]) (h1 x hx2).1
    ·exact ih h2 hx2 hy2
def dstB:Option Nat->Nat->Bool
 |some d,t=>d==t
 |none,_=>false
def idxW:List XO->Nat->Option Nat
 |[],_=>none
 |x::r,t=>if dstB x.o.d t=true then some x.i else idxW r t
def knW(ops:List XO)(dn:List Nat)(t:Nat):Prop:=match idxW ops t with|none=>True|some i=>dn.contains i=true
def vlW(ops:List XO)(V:Nat->PV)(s0:List (Nat×PV))(t:Nat):PV:=match idxW ops t with|none=>getL s0 t|some i=>V i
theorem dstB_iff{o:Option Nat}{t:Nat} :dstB o t=true ↔ o=some t:=by cases o<;>simp[dstB]
theorem qAA: ∀ {ops:List XO} {t:Nat},idxW ops t=none->ops.all (fun y=>y.o.d !=some t)=true
 |[],_,_=>rfl
 | x :: r, t, h => by
   unfold idxW at h
   split at h
   ·cases h
   ·rename_i hd
    rw[List.all_cons,qAA h,Bool.and_true]
    simp only[bne_iff_ne,ne_eq]
    exact fun e=>hd (dstB_iff.2 e)
theorem qAB: ∀ {ops:List XO} {t i:Nat},idxW ops t=some i-> ∃x∈ops,x.o.d=some t/\x.i=i
 |[],_,_,h=>by cases h
 | x :: r, t, i, h => by
   unfold idxW at h
   split at h
   ·rename_i hd
    injection h with h
    exact⟨x,by simp,dstB_iff.1 hd,h⟩
   ·obtain⟨y,hy,h2⟩:=qAB h
    exact⟨y,by simp[hy],h2⟩
theorem qAC{ops:List XO}{V:Nat->PV}{s0:List (Nat×PV)}{dn:List Nat}(hops:qAo ops=true){t:Nat}(h:knW ops dn t):getL (slD V dn ops s0) t=vlW ops V s0 t:=by
 unfold knW at h
 unfold vlW
 cases e:idxW ops t with
 |none=>rw[<- qh8,qAu (qAA e),qh8]
 |some i=>
   rw[e]at h
   obtain⟨x,hx,h1,rfl⟩:=qAB e
   rw[<- qh8,qAv h1 h hops hx]
   rfl
def slA(V:Nat->PV):List XO->List (Nat×PV)->List (Nat×PV)
 |[],s=>s
 |x::r,s=>slA V r (putD V x s)
theorem qAD{V:Nat->PV}{dn:List Nat} : ∀ {ops:List XO} (_: ∀x∈ops,dn.contains x.i=true) (s:List (Nat×PV)),slD V dn ops s=slA V ops s
 |[],_,_=>rfl
 | x :: r, h, s => by
   rw[qAn,if_pos (h x (by simp)),slA]
   exact qAD (fun y hy=>h y (by simp[hy])) _
theorem qAH{P:Env}{o:AO}{st:St}{K:St->Prop}(hg:o.g=none)(h:opsK P [o] st K):opK P o st K:=by
 obtain⟨d,g,op⟩:=o
 subst hg
 exact h
theorem qAI{dn:List Nat}{x:XO}(h:rdyB dn x=true){j:Nat}(hj:j∈x.deps):dn.contains j=true:=by
 simp only[rdyB,Bool.and_eq_true,List.all_eq_true]at h
 exact h.2 j hj
theorem qAJ{dn:List Nat}{x:XO}(h:rdyB dn x=true):dn.contains x.i=false:=by
 simp only[rdyB,Bool.and_eq_true,Bool.not_eq_true']at h
 exact h.1
theorem qAK{ops:List XO}{dn:List Nat}{x y:XO}(hc:qAw ops dn)(hr:rdyB dn x=true)(hy:y∈ops)(hj:x.i∈y.deps):dn.contains y.i=false:=by
 cases h:dn.contains y.i with
 |false=>rfl
 |true=>exact absurd ((qAJ hr).symm.trans (hc y hy h x.i hj)) (by decide)
end Go.Vc
namespace Go.Vc
open Go Go.RowKit
def PV.ren(i j:Nat):PV->PV
 | .view id lo n=> .view (if id=i then j else id) lo n
 | .eptr id k off=> .eptr (if id=i then j else id) k off
 |c=>c
def PV.renA(i j:Nat):PV->PV
 | .agg cs=> .agg (cs.map (PV.ren i j))
 |c=>c.ren i j
def PV.renV(i j:Nat):PV->PV
 | .tup cs=> .tup (cs.map (PV.renA i j))
 |c=>c.renA i j
def Lay.ren(L:Lay)(i j:Nat):Lay:= { L with ab:=fun k=>if k=j then L.ab i else L.ab k,ac:=fun k=>if k=j then L.ac i else L.ac k,ae:=fun k=>if k=j then L.ae i else L.ae k,al:=fun k=>if k=j then L.al i else L.al k }
def St.ren(st:St)(i j:Nat)(A:Arr):St:= { s:=st.s.map fun x=>(x.1,x.2.renV i j),b:=st.b.map fun x=>(x.1,x.2.map (PV.ren i j)),a:=up (rm st.a i) j A,m:=st.m }
section
variable {w w0:World} {Z Z0:Zone} {L:Lay} {N:Fr} {st:St} {a:Act} {i j:Nat} {c:PV} {v:Value}
theorem CR.ren(h:CR w Z L c v)(hn:c.to nul (fun k=>k==j)=false):CR w Z (L.ren i j) (c.ren i j) v:=by
 cases c<;>simp only[PV.ren]<;>first|exact h|skip
 ·rename_i id lo n
  have hn:id≠j:=by simpa[PV.to]using hn
  by_cases e:id=i
  ·subst e
   simp only[CR,Lay.ren,if_pos]at h ⊢;exact h
  ·rw[if_neg e]
   simp only[CR,Lay.ren,if_neg hn]at h ⊢;exact h
 ·rename_i id lo n
  have hn:id≠j:=by simpa[PV.to]using hn
  by_cases e:id=i
  ·subst e
   simp only[CR,Lay.ren,if_pos]at h ⊢;exact h
  ·rw[if_neg e]
   simp only[CR,Lay.ren,if_neg hn]at h ⊢;exact h
theorem AR.ren(h:AR w Z L c v)(hn:c.toA nul (fun k=>k==j)=false):AR w Z (L.ren i j) (c.renA i j) v:=by
 cases c with
 |agg cs=>
   obtain⟨vs,h1,h2,h3⟩:=h
   refine⟨vs,h1,by simpa using h2,fun k d hk=> ?_⟩
   rw[List.getElem?_map]at hk
   obtain⟨x,hx,rfl⟩:=Option.map_eq_some_iff.1 hk
   exact⟨(h3 k x hx).1.ren (qa1 hn hx),(h3 k x hx).2⟩
 |_=>exact AR.cr (CR.ren (AR.toCR (by simp) h) hn)
theorem VR.ren(h:VR w Z L c v)(hn:c.toV nul (fun k=>k==j)=false):VR w Z (L.ren i j) (c.renV i j) v:=by
 cases c with
 |tup cs=>
   obtain⟨vs,h1,h2,h3⟩:=h
   refine⟨vs,h1,by simpa using h2,fun k d hk=> ?_⟩
   rw[List.getElem?_map]at hk
   obtain⟨x,hx,rfl⟩:=Option.map_eq_some_iff.1 hk
   exact(h3 k x hx).ren (qa1 hn hx)
 |_=>exact VR.ar (AR.ren (VR.toAR (by simp) h) hn)
theorem XR.ren{A:Arr}{cur:Array Value}{k:Nat}(h:XR w Z L k A cur)(L' :Lay)(k' :Nat)(h1:L'.ab k' =L.ab k)(h2:L'.ac k' =L.ac k)(h3:L'.ae k' =L.ae k)(h4:L'.al k' =L.al k):XR w Z L' k' A cur:=
 ⟨h.pos,h3.trans h.ae,h4.trans h.al,by rw[h1];exact h.blk,by rw[h2];exact h.size,by rw[h2];exact h.fits,by rw[h2];exact h.max,h.rows,h.cell⟩
theorem Inv.ren{A:Arr}(h:Inv w0 Z0 N Z L st a w)(hA:lk st.a i=some A)(hj:lk st.a j=none)(hn:st.noTo nul (fun k=>k==j)=true):Inv w0 Z0 N Z (L.ren i j) (st.ren i j A) a w:=by
 have hij:i≠j:=fun e=>by rw[e,hj]at hA;cases hA
 have key: ∀k B,lk (up (rm st.a i) j A) k=some B-> ∃k0,lk st.a k0=some B/\(L.ren i j).ab k=L.ab k0/\(L.ren i j).ac k=L.ac k0/\(L.ren i j).ae k=L.ae k0/\(L.ren i j).al k=L.al k0/\((k=j/\k0=i)\/(k≠j/\k0=k/\k≠i)):=fun k B hB=>by
  rw[qa2]at hB
  split at hB
  ·rename_i e;subst e;cases hB
   refine⟨i,hA,?_,?_,?_,?_,.inl ⟨rfl,rfl⟩⟩<;>simp[Lay.ren]
  ·rename_i e
   rw[qa4]at hB
   split at hB
   ·cases hB
   ·rename_i e2
    have e' :k≠j:=fun h=>e h.symm
    refine⟨k,hB,?_,?_,?_,?_,.inr ⟨e',rfl,fun h=>e2 h.symm⟩⟩<;>simp[Lay.ren,e']
 have hx: ∀k cs,lk (st.b.map fun x=>(x.1,x.2.map (PV.ren i j))) k=some cs-> ∃u,lk st.b k=some u/\cs=u.map (PV.ren i j):=fun k cs hl=>qbK st.b _ k cs hl
 refine⟨h.zt,h.z0,h.zn,h.zb,h.below,fun k cs hl=> ?_,fun k B hl=> ?_,fun p q x y hp hq=> ?_,fun p q x y hp hq e=> ?_,fun p q x y hp hq=> ?_,fun k cs hl=> ?_,fun k B hl=> ?_,h.ownm,h.injm,fun k M hl=> ?_,h.oth,h.yb,h.size,h.defers,fun k x hl=> ?_⟩
 ·obtain⟨u,h1,_⟩:=hx k cs hl;exact h.ownb k u h1
 ·obtain⟨k0,h1,e1,_⟩:=key k B hl;rw[e1];exact h.owna k0 B h1
 ·obtain⟨u,h1,_⟩:=hx p x hp;obtain⟨u',h2,_⟩:=hx q y hq;exact h.injb p q u u' h1 h2
 ·obtain⟨p0,h1,e1,_,_,_,f1⟩:=key p x hp
  obtain⟨q0,h2,e2,_,_,_,f2⟩:=key q y hq
  rw[e1,e2]at e
  have:=h.inja p0 q0 x y h1 h2 e
  rcases f1 with⟨rfl,rfl⟩|⟨f1,rfl,g1⟩<;>rcases f2 with⟨rfl,rfl⟩|⟨f2,rfl,g2⟩
  ·rfl
  ·exact absurd this.symm g2
  ·exact absurd this g1
  ·exact this
 ·obtain⟨u,h1,_⟩:=hx p x hp
  obtain⟨q0,h2,e2,_⟩:=key q y hq
  rw[e2];exact h.injx p q0 u y h1 h2
 ·obtain⟨u,h1,rfl⟩:=hx k cs hl
  obtain⟨vs,T,g1,g2,g3⟩:=h.boxes k u h1
  refine⟨vs,T,g1,by simpa using g2,fun m d hd=> ?_⟩
  rw[List.getElem?_map]at hd
  obtain⟨x,hx',rfl⟩:=Option.map_eq_some_iff.1 hd
  exact⟨(g3 m x hx').1.ren (qa1 (St.noTo_box hn h1) hx'),(g3 m x hx').2⟩
 ·obtain⟨k0,h1,e1,e2,e3,e4,_⟩:=key k B hl
  obtain⟨cur,hX⟩:=h.arrs k0 B h1
  exact⟨cur,hX.ren _ _ e1 e2 e3 e4⟩
 ·obtain⟨ents,clock,hM⟩:=h.maps k M hl
  exact⟨ents,clock,⟨hM.blk,hM.size,hM.ent,hM.kind,hM.old,hM.born,hM.it⟩⟩
 ·obtain⟨u,h1,rfl⟩:=qbK st.s _ k x hl
  exact(h.slots k u h1).ren (St.noTo_slot hn h1)
end
theorem SWk.ren{st:St}{A:Arr}(i j:Nat)(hA:lk st.a i=some A)(hj:lk st.a j=none)(hn:st.noTo nul (fun k=>k==j)=true):SWk st (st.ren i j A):=fun _ _ _ _ _ ⟨Z,L,h⟩=>⟨Z,L.ren i j,h.ren hA hj hn⟩
theorem SWk.eq{st st' :St}(h:st=st'):SWk st st' :=h▸fun _ _ _ _ _ h=>h
theorem SWk.frz(st:St)(id:Nat):SWk st (st.frz id):=fun _ _ _ _ _ ⟨_,L,h⟩=>(h.frz id).imp fun _ h=>⟨L,h⟩
def rowC(k:Nat):Option (List (List PV))->PV
 |none=> .nil
 |some r=> .view k 0 r.length
def qAR:Nat->List (Option (List (List PV)))->List PV
 |_,[]=>[]
 |k,r::rs=>rowC k r::qAR (k+1) rs
def qAS(es ty:Nat):Nat->List (Option (List (List PV)))->List (Nat×Arr)
 |_,[]=>[]
 |k,none::rs=>qAS es ty (k+1) rs
 |k,some r::rs=>(k,⟨es,ty,r⟩)::qAS es ty (k+1) rs
theorem qAT: ∀(k:Nat) (rs:List (Option (List (List PV)))),(qAR k rs).length=rs.length
 |_,[]=>rfl
 |k,r::rs=>by rw[qAR,List.length_cons,List.length_cons,qAT (k+1) rs]
theorem qAU: ∀(k:Nat) (rs:List (Option (List (List PV)))) (x:Nat),(qAR k rs)[x]? =rs[x]?.map (rowC (k+x))
 |_,[],x=>by simp[qAR]
 |k,r::rs,0=>by simp[qAR]
 |k,r::rs,x+1=>by rw[qAR,List.getElem?_cons_succ,List.getElem?_cons_succ,qAU (k+1) rs x,show k+1+x=k+(x+1)from by omega]
theorem qAV: ∀(k:Nat) (rs:List (Option (List (List PV)))) (x:Nat) (r:Option (List (List PV))),(qAR k rs).set x (rowC (k+x) r)=qAR k (rs.set x r)
 |_,[],x,r=>by simp[qAR]
 |k,q::rs,0,r=>by simp[qAR]
 |k,q::rs,x+1,r=>by rw[qAR,List.set_cons_succ,List.set_cons_succ,qAR,show k+(x+1)=k+1+x from by omega,qAV (k+1) rs x r]
theorem qAW(pb pa:Nat->Bool): ∀(k:Nat) (rs:List (Option (List (List PV)))),(∀x,x<rs.length->pa (k+x)=false)->(qAR k rs).any (PV.to pb pa)=false
 |_,[],_=>rfl
 | k, r :: rs, h => by
   rw[qAR,List.any_cons,qAW pb pa (k+1) rs fun x hx=>by rw[show k+1+x=k+(x+1)from by omega];exact h (x+1) (by simpa using hx),Bool.or_false]
   cases r with
   |none=>rfl
   |some r=>exact h 0 (by simp)
theorem qAZ: ∀(i j k:Nat) (rs:List (Option (List (List PV)))),(∀x,x<rs.length->k+x≠i)->(qAR k rs).map (PV.ren i j)=qAR k rs
 |_,_,_,[],_=>rfl
 | i, j, k, r :: rs, h => by
   rw[qAR,List.map_cons,qAZ i j (k+1) rs fun x hx=>by rw[show k+1+x=k+(x+1)from by omega];exact h (x+1) (by simpa using hx)]
   congr 1
   cases r with
   |none=>rfl
   |some r=>
     have:k≠i:=h 0 (by simp)
     simp[rowC,PV.ren,this]
theorem qB0(es ty:Nat): ∀(k:Nat) (rs:List (Option (List (List PV)))) (id:Nat),id<k->lk (qAS es ty k rs) id=none
 |_,[],_,_=>rfl
 |k,none::rs,id,h=>qB0 es ty (k+1) rs id (by omega)
 |k,some r::rs,id,h=>by rw[qAS,lk,if_neg (by omega)];exact qB0 es ty (k+1) rs id (by omega)
theorem qB1(es ty:Nat): ∀(k:Nat) (rs:List (Option (List (List PV)))) (x:Nat),lk (qAS es ty k rs) (k+x)=(rs[x]?.bind id).map fun r=>⟨es,ty,r⟩
 |_,[],x=>by simp[qAS,lk]
 |k,none::rs,0=>by rw[qAS,qB0 es ty (k+1) rs _ (by omega)];simp
 |k,none::rs,x+1=>by rw[qAS,show k+(x+1)=k+1+x from by omega,qB1 es ty (k+1) rs x];simp
 |k,some r::rs,0=>by simp[qAS,lk]
 |k,some r::rs,x+1=>by rw[qAS,lk,if_neg (by omega),show k+(x+1)=k+1+x from by omega,qB1 es ty (k+1) rs x];simp
theorem qB2{α:Type}(l:List (Nat×α))(i:Nat)(v:α)(h: ∀x∈l,i<x.1):up l i v=(i,v)::l:=by
 cases l with
 |nil=>rfl
 |cons x r=>
   obtain⟨k,u⟩:=x
   have:i<k:=h (k,u) List.mem_cons_self
   rw[up,if_neg (by omega),if_pos this]
theorem qB3(es ty:Nat): ∀(k:Nat) (rs:List (Option (List (List PV)))),∀x∈qAS es ty k rs,k<=x.1
 |_,[],x,h=>by cases h
 |k,none::rs,x,h=>by have:=qB3 es ty (k+1) rs x h;omega
 | k, some r :: rs, x, h => by
   rcases List.mem_cons.1 h with rfl|h
   ·exact Nat.le_refl _
   ·have:=qB3 es ty (k+1) rs x h;omega
theorem qB4(es ty:Nat): ∀(k:Nat) (rs:List (Option (List (List PV)))) (x:Nat) (r:List (List PV)),x<rs.length->up (qAS es ty k rs) (k+x) ⟨es,ty,r⟩=qAS es ty k (rs.set x (some r))
 |_,[],x,r,h=>by simp at h
 | k, none :: rs, 0, r, h => by
   rw[qAS,List.set_cons_zero,qAS]
   exact qB2 _ _ _ fun x hx=>by have:=qB3 es ty (k+1) rs x hx;omega
 |k,some q::rs,0,r,h=>by simp[qAS,up]
 |k,none::rs,x+1,r,h=>by rw[qAS,List.set_cons_succ,qAS,show k+(x+1)=k+1+x from by omega,qB4 es ty (k+1) rs x r (by simpa using h)]
 |k,some q::rs,x+1,r,h=>by rw[qAS,List.set_cons_succ,qAS,up,if_neg (by omega),if_neg (by omega),show k+(x+1)=k+1+x from by omega,qB4 es ty (k+1) rs x r (by simpa using h)]
theorem qB5(es ty:Nat)(p:Nat×Arr->Bool): ∀(k:Nat) (rs:List (Option (List (List PV)))),(∀x r,rs[x]? =some (some r)->p (k+x,⟨es,ty,r⟩)=true)->(qAS es ty k rs).filter p=qAS es ty k rs
 |_,[],_=>rfl
 |k,none::rs,h=>by rw[qAS];exact qB5 es ty p (k+1) rs fun x r hx=>by rw[show k+1+x=k+(x+1)from by omega];exact h (x+1) r (by simpa using hx)
 | k, some q :: rs, h => by
   rw[qAS,List.filter_cons_of_pos (show p (k,⟨es,ty,q⟩)=true from h 0 q (by simp))]
   congr 1
   exact qB5 es ty p (k+1) rs fun x r hx=>by rw[show k+1+x=k+(x+1)from by omega];exact h (x+1) r (by simpa using hx)
end Go.Vc
namespace Go.Proofs
open Go.Shelf
def Tryd.lays29_ren:Go.Shelf.Ren:=⟨fun |29=>58|n=>n,fun |0=>0|3=>3|4=>4|5=>5|22=>54|25=>75|54=>135|n=>n,fun |1=>0|n=>n⟩
theorem Tryd.lays29:Go.Proofs.Lays7.n29 Tryd.prog Tryd.lays29_ren:= {
 mixed:=by kernel_rfl
 f29:=Tryd.func58.trans (congrArg some (by kernel_rfl))
 t0:=Tryd.underlying0
 a0:=Tryd.isAgg0
 z0:=Tryd.sizeOf0
 v0:=Tryd.zeroValue0
 i0:=by kernel_rfl
 t3:=Tryd.underlying3
 a3:=Tryd.isAgg3
 z3:=Tryd.sizeOf3
 v3:=Tryd.zeroValue3
 i3:=by kernel_rfl
 t4:=Tryd.underlying4
 a4:=Tryd.isAgg4
 z4:=Tryd.sizeOf4
 v4:=Tryd.zeroValue4
 i4:=by kernel_rfl
 t5:=Tryd.underlying5
 a5:=Tryd.isAgg5
 z5:=Tryd.sizeOf5
 v5:=Tryd.zeroValue5
 i5:=by kernel_rfl
 t22:=Tryd.underlying54
 a22:=Tryd.isAgg54
 z22:=Tryd.sizeOf54
 v22:=Tryd.zeroValue54
 i22:=by kernel_rfl
 t25:=Tryd.underlying75
 a25:=Tryd.isAgg75
 z25:=Tryd.sizeOf75
 v25:=Tryd.zeroValue75
 i25:=by kernel_rfl
 t54:=Tryd.underlying135
 a54:=Tryd.isAgg135
 z54:=Tryd.sizeOf135
 g1:=by kernel_rfl }
end Go.Proofs
namespace Go.Proofs.YtecoaapkcnhlhaaDoor
open Go Go.Vc Txt Go.Ham
theorem qB7{P:Program}{f:FuncId}{c r:Value}(hr:scOk r=true)(h: ∀w,GL P w->Calls P f #[c] w fun e w' =>e= .returned r/\w' =w):FnEq P f [.sc c] (.sc r):=by
 intro w Z hg zt zb vs hs hrel
 have h0:TR w Z (.sc c) (vs.getD 0 undef):=hrel 0 (.sc c) rfl
 have hv:vs.getD 0 undef=c:=by
  generalize vs.getD 0 undef=u at h0
  cases h0;rfl
 have e:vs= #[c]:=by
  have hs1:vs.size=1:=hs
  rw[<- hv]
  apply Array.ext
  ·simpa using hs1
  ·intro i h7 h8
   have:i=0:=by simp at h8;omega
   subst this
   simp[Array.getD_eq_getD_getElem?,Array.getElem?_eq_getElem h7]
 subst e
 refine(h w hg).mono ?_
 rintro e w' ⟨rfl,rfl⟩
 exact⟨r,.sc r,rfl,rfl,TR.sc r hr,Go.RowKit.Below.refl _ _⟩
theorem qB8(n:Nat)(h:n<2^64):FnEq Tryd.prog 58 [.sc (.int .u64 n)] (.int (Go.Lib.ctz 64 n:Nat)):=by
 refine qB7 rfl fun w hg=> ?_
 refine Any7.bits_TrailingZeros64 Tryd.lays29 n h w fun _ j hj=> ?_
 have h1:=hg 0 (by kernel_rfl) j hj
 exact h1
theorem qB9(n:Nat)(h:n<2^64):FnEq Tryd.prog 77 [.sc (.int .u64 n)] (.int (Go.Lib.bitLen n:Nat)):=by
 refine qB7 rfl fun w hg=> ?_
 have:=Tryd.bits_Len n w (by omega) (by omega)
 exact this
abbrev PV.w (n:Nat):PV:= .sc (.int .u64 (n:Int))
theorem qBa{n:Nat}(h:n<2^64):IntKind.u64.wrap (n:Int)=(n:Int):=qap (by simp only[ikLo];omega) (by simp only[ikHi];omega)
theorem qBb{n:Nat}(h:n<2^64):(BitVec.ofInt 64 (n:Int)).toNat=n:=by
 rw[BitVec.ofInt_natCast,BitVec.toNat_ofNat];exact Nat.mod_eq_of_lt h
theorem qBc{a b:Nat}(ha:a<2^64)(hb:b<2^64):bitF .and .u64 a b=((a&&&b:Nat):Int):=by
 show IntKind.u64.wrap ((BitVec.ofInt 64 (a:Int)&&&BitVec.ofInt 64 (b:Int)).toNat:Int)=_
 rw[BitVec.toNat_and,qBb ha,qBb hb];exact qBa (Nat.and_lt_two_pow _ hb)
theorem qBd{a b:Nat}(ha:a<2^64)(hb:b<2^64):bitF .or .u64 a b=((a|||b:Nat):Int):=by
 show IntKind.u64.wrap ((BitVec.ofInt 64 (a:Int)|||BitVec.ofInt 64 (b:Int)).toNat:Int)=_
 rw[BitVec.toNat_or,qBb ha,qBb hb];exact qBa (Nat.or_lt_two_pow ha hb)
theorem qBe{a b:Nat}(ha:a<2^64)(hb:b<2^64):bitF .xor .u64 a b=((a^^^b:Nat):Int):=by
 show IntKind.u64.wrap ((BitVec.ofInt 64 (a:Int)^^^BitVec.ofInt 64 (b:Int)).toNat:Int)=_
 rw[BitVec.toNat_xor,qBb ha,qBb hb];exact qBa (Nat.xor_lt_two_pow ha hb)
theorem qBf{a b:Nat}(ha:a<2^63)(hb:b<2^63):bitF .and .i64 a b=((a&&&b:Nat):Int):=by
 show IntKind.i64.wrap ((BitVec.ofInt 64 (a:Int)&&&BitVec.ofInt 64 (b:Int)).toNat:Int)=_
 have:=Nat.and_lt_two_pow a hb
 rw[BitVec.toNat_and,qBb (by omega),qBb (by omega)];exact qap (by simp only[ikLo];omega) (by simp only[ikHi];omega)
theorem qBg{a b:Nat}(ha:a<2^63)(hb:b<2^63):bitF .or .i64 a b=((a|||b:Nat):Int):=by
 show IntKind.i64.wrap ((BitVec.ofInt 64 (a:Int)|||BitVec.ofInt 64 (b:Int)).toNat:Int)=_
 have:=Nat.or_lt_two_pow ha hb
 rw[BitVec.toNat_or,qBb (by omega),qBb (by omega)];exact qap (by simp only[ikLo];omega) (by simp only[ikHi];omega)
theorem qBh{a b:Nat}(ha:a<2^63)(hb:b<2^63):bitF .xor .i64 a b=((a^^^b:Nat):Int):=by
 show IntKind.i64.wrap ((BitVec.ofInt 64 (a:Int)^^^BitVec.ofInt 64 (b:Int)).toNat:Int)=_
 have:=Nat.xor_lt_two_pow ha hb
 rw[BitVec.toNat_xor,qBb (by omega),qBb (by omega)];exact qap (by simp only[ikLo];omega) (by simp only[ikHi];omega)
theorem qBi(a k:Nat)(hk:k<=64):shfF .shr .u64 a k=((a/2^k:Nat):Int):=by
 show(a:Int).fdiv (2^(min (k:Int).toNat 64))=_
 rw[Int.toNat_natCast,Nat.min_eq_left hk,Int.fdiv_eq_ediv_of_nonneg _ (Int.pow_nonneg (by decide)),Int.natCast_ediv]
 norm_cast
theorem qBj{a k:Nat}(hk:k<=64)(h:a*2^k<2^64):shfF .shl .u64 a k=((a*2^k:Nat):Int):=by
 show IntKind.u64.wrap ((a:Int)*2^(min (k:Int).toNat 64))=_
 rw[Int.toNat_natCast,Nat.min_eq_left hk]
 rw[show(a:Int)*2^k=((a*2^k:Nat):Int)from by norm_cast]
 exact qBa h
theorem qBk(n:Nat)(h:n<2^64):FnEq Tryd.prog 37 [.sc (.int .u64 n)] (.int (ons n 64:Nat)):=by
 obtain⟨h1,h2,h3,h4⟩:=qAh n h
 refine FnEq.of_awp Tryd.func37 ok37 (by show 1<=_;decide) (by simp only[push_cast,reduceIte,reduceEqDiff,reduceAdd,reduceSub,reduceMul,Nat.reduceBEq,reduceLT,reduceLeDiff,reduceCtorEq,reduceToNat,reduceNeg,cNI]<;>first|exact fun _ _=>trivial|simp) ?_
 simp only[ac37,rv37,push_cast,reduceIte,reduceEqDiff,reduceAdd,reduceSub,reduceMul,Nat.reduceBEq,reduceLT,reduceLeDiff,reduceCtorEq,reduceToNat,reduceNeg,cNI]
 have s1:shfF .shr .u64 (n:Int) 1=((n/2:Nat):Int):=qBi n 1 (by decide)
 have e1:IntKind.u64.wrap (bitF .and .u64 (shfF .shr .u64 (n:Int) 1) 6148914691236517205+bitF .and .u64 (n:Int) 6148914691236517205)=((sa m0 n:Nat):Int):=by
  rw[s1]
  show IntKind.u64.wrap (bitF .and .u64 ((n/2:Nat):Int) (m0:Nat)+bitF .and .u64 (n:Int) (m0:Nat))=_
  rw[qBc (by omega) (by decide),qBc h (by decide)]
  exact qBa h1
 rw[e1]
 have s2:shfF .shr .u64 (sa m0 n:Int) 2=((sa m0 n/4:Nat):Int):=qBi _ 2 (by decide)
 have e2:IntKind.u64.wrap (bitF .and .u64 (shfF .shr .u64 (sa m0 n:Int) 2) 3689348814741910323+bitF .and .u64 (sa m0 n:Int) 3689348814741910323)=((sb m1 (sa m0 n):Nat):Int):=by
  rw[s2]
  show IntKind.u64.wrap (bitF .and .u64 ((sa m0 n/4:Nat):Int) (m1:Nat)+bitF .and .u64 (sa m0 n:Int) (m1:Nat))=_
  rw[qBc (by omega) (by decide),qBc h1 (by decide)]
  exact qBa (Nat.lt_of_lt_of_le h2 (by decide))
 rw[e2]
 generalize sb m1 (sa m0 n)=y at h2 h3 h4 ⊢
 have s3:shfF .shr .u64 (y:Int) 4=((y/16:Nat):Int):=qBi _ 4 (by decide)
 have e3:bitF .and .u64 (IntKind.u64.wrap (shfF .shr .u64 (y:Int) 4+y)) 1085102592571150095=((sc m2 y:Nat):Int):=by
  rw[s3,show((y/16:Nat):Int)+y=((y/16+y:Nat):Int)from rfl,qBa (by omega)]
  exact qBc (b:=m2) (by omega) (by decide)
 rw[e3]
 generalize sc m2 y=z at h3 h4 ⊢
 have q1:z/256<2^60:=by omega
 have s4:shfF .shr .u64 (z:Int) 8=((z/256:Nat):Int):=qBi _ 8 (by decide)
 have e4:IntKind.u64.wrap (z+shfF .shr .u64 (z:Int) 8)=((z+z/256:Nat):Int):=by rw[s4];exact qBa (n:=z+z/256) (by omega)
 rw[e4]
 have hv:z+z/256<2^61:=by omega
 have h4' :sum8 z=(((z+z/256)+(z+z/256)/65536)+((z+z/256)+(z+z/256)/65536)/4294967296)%128:=rfl
 generalize z+z/256=v at hv h4' ⊢
 have s5:shfF .shr .u64 (v:Int) 16=((v/65536:Nat):Int):=qBi _ 16 (by decide)
 have e5:IntKind.u64.wrap (v+shfF .shr .u64 (v:Int) 16)=((v+v/65536:Nat):Int):=by rw[s5];exact qBa (n:=v+v/65536) (by omega)
 rw[e5]
 have hu:v+v/65536<2^62:=by omega
 generalize v+v/65536=u at hu h4' ⊢
 have s6:shfF .shr .u64 (u:Int) 32=((u/4294967296:Nat):Int):=qBi _ 32 (by decide)
 have e6:IntKind.u64.wrap (u+shfF .shr .u64 (u:Int) 32)=((u+u/4294967296:Nat):Int):=by rw[s6];exact qBa (n:=u+u/4294967296) (by omega)
 rw[e6]
 refine⟨by omega,by omega,by omega,by omega,by omega,by omega,by omega,?_⟩
 rw[show bitF .and .i64 ((u+u/4294967296:Nat):Int) 127=((u+u/4294967296)%128:Nat)from(qBf (b:=127) (by omega) (by decide)).trans (by rw[Nat.and_two_pow_sub_one_eq_mod _ 7])]
 rw[<- h4',h4]
end Go.Proofs.YtecoaapkcnhlhaaDoor
namespace Go.Ham
def qBl(v n:Nat):List Bool:=(List.range n).map v.testBit
def valB:List Bool->Nat
 |[]=>0
 |b::r=>b.toNat+2*valB r
theorem qBm(v n:Nat):(qBl v n).length=n:=by simp[qBl]
theorem qBn(v n:Nat):qBl v (n+1)=qBl v n++[v.testBit n]:=by simp[qBl,List.range_succ]
theorem qBo(v n:Nat):qBl v (n+1)=v.testBit 0::qBl (v/2) n:=by
 simp only[qBl,List.range_succ_eq_map,List.map_cons,List.map_map]
 congr 1
 apply List.map_congr_left
 intro i _
 simp[Function.comp,Nat.testBit_succ]
theorem qBp: ∀l:List Bool,valB l<2^l.length
 |[]=>by simp[valB]
 | b :: r => by
   have:=qBp r
   simp only[valB,List.length_cons,Nat.pow_succ]
   cases b<;>simp<;>omega
theorem qBq: ∀(n v:Nat),v<2^n->valB (qBl v n)=v
 |0,v,h=>by simp at h;subst h;rfl
 | n + 1, v, h => by
   rw[qBo,valB,qBq n (v/2) (by rw[Nat.pow_succ]at h;omega),Nat.testBit_zero]
   rcases Nat.mod_two_eq_zero_or_one v with e|e<;>simp[e]<;>omega
theorem qBr: ∀(l:List Bool) (i:Nat),(valB l).testBit i=l.getD i false
 |[],i=>by simp[valB]
 |b::r,0=>by simp only[valB,Nat.testBit_zero,List.getD_cons_zero];cases b<;>simp<;>omega
 | b :: r, i + 1 => by
   rw[Nat.testBit_succ,show valB (b::r)/2=valB r from by simp only[valB];cases b<;>simp<;>omega,qBr r i,List.getD_cons_succ]
theorem qBt: ∀(l m:List Bool),valB (l++m)=valB l+2^l.length*valB m
 |[],m=>by simp[valB]
 | b :: r, m => by
   rw[List.cons_append,valB,valB,qBt r m,List.length_cons,Nat.pow_succ,Nat.mul_add,<- Nat.mul_assoc,Nat.mul_comm 2 (2^r.length)]
   omega
theorem qBu(l:List Bool)(b:Bool):valB (l++[b])=valB l+2^l.length*b.toNat:=by rw[qBt];simp[valB]
theorem qBv(l:List Bool)(b:Bool):valB (l++[b])=valB l|||(b.toNat<<<l.length):=by
 rw[qBu,Nat.shiftLeft_eq,Nat.mul_comm b.toNat]
 have:=qBp l
 rw[Nat.add_comm,Nat.two_pow_add_eq_or_of_lt this,Nat.or_comm]
def qBx(l:List Bool)(n:Nat):List Nat:=(List.range n).map fun i=>valB ((l.drop (57*i)).take 57)
def nW(n:Nat):Nat:=(n+56)/57
def qBy(l:List Bool):List Nat:=qBx l (nW l.length)
theorem qBA(l:List Bool):(qBy l).length=nW l.length:=by simp[qBy,qBx]
theorem qBB{l:List Bool}{w:Nat}(h:w∈qBy l):w<2^57:=by
 simp only[qBy,qBx,List.mem_map]at h
 obtain⟨i,_,rfl⟩:=h
 have:=qBp ((l.drop (57*i)).take 57)
 exact Nat.lt_of_lt_of_le this (Nat.pow_le_pow_right (by decide) (by simp;omega))
theorem qBD(l:List Bool)(b:Bool)(h:l.length%57=0):qBy (l++[b])=qBy l++[b.toNat]:=by
 have e:nW (l++[b]).length=nW l.length+1:=by simp only[nW,List.length_append,List.length_cons,List.length_nil];omega
 have hl:57*nW l.length=l.length:=by simp only[nW];omega
 rw[qBy,e,qBx,List.range_succ,List.map_append,qBy,qBx]
 congr 1
 ·apply List.map_congr_left
  intro i hi
  have hi:i<nW l.length:=List.mem_range.1 hi
  have h1:57*i+57<=l.length:=by omega
  rw[List.drop_append_of_le_length (by omega),List.take_append_of_le_length (by rw[List.length_drop];omega)]
 ·simp only[List.map_cons,List.map_nil,hl]
  rw[List.drop_append_of_le_length (Nat.le_refl _),List.drop_length]
  cases b<;>rfl
theorem qBE(l:List Bool)(b:Bool)(h:l.length%57≠0):qBy (l++[b])=(qBy l).set (l.length/57) ((qBy l).getD (l.length/57) 0|||(b.toNat<<<(l.length%57))):=by
 have e:nW (l++[b]).length=nW l.length:=by simp only[nW,List.length_append,List.length_cons,List.length_nil];omega
 have e2:nW l.length=l.length/57+1:=by simp only[nW];omega
 apply List.ext_getElem
 ·rw[qBA,e,List.length_set,qBA]
 ·intro i h1 h2
  have hi:i<nW l.length:=by rw[qBA,e]at h1;exact h1
  rw[List.getElem_set]
  simp only[qBy,qBx,e,List.getElem_map,List.getElem_range]
  split
  ·rename_i hs
   subst hs
   have hd:(l++[b]).drop (57*(l.length/57))=l.drop (57*(l.length/57))++[b]:=List.drop_append_of_le_length (by omega)
   have hn:(l.drop (57*(l.length/57))).length=l.length%57:=by rw[List.length_drop];omega
   rw[hd,List.take_of_length_le (by rw[List.length_append,hn];simp;omega),qBv,hn]
   rw[List.getD_eq_getElem?_getD,List.getElem?_map,List.getElem?_range (by omega)]
   simp only[Option.map_some,Option.getD_some]
   rw[List.take_of_length_le (by rw[hn];omega)]
  ·rename_i hs
   have h3:57*i+57<=l.length:=by omega
   rw[List.drop_append_of_le_length (by omega),List.take_append_of_le_length (by rw[List.length_drop];omega)]
def unW(l:List Nat):List Bool:=l.flatMap fun w=>qBl w 57
theorem qBF: ∀l:List Nat,(unW l).length=57*l.length
 |[]=>rfl
 | w :: l => by
   show(qBl w 57++unW l).length=_
   rw[List.length_append,qBm,qBF l,List.length_cons];omega
theorem qBI(l:List Nat)(j:Nat):(unW l).getD j false=(l.getD (j/57) 0).testBit (j%57):=by
 induction l generalizing j with
 |nil=>simp[unW]
 |cons w l ih=>
   show(qBl w 57++unW l).getD j false=_
   by_cases h:j<57
   ·rw[List.getD_eq_getElem?_getD,List.getElem?_append_left (by rw[qBm];exact h)]
    rw[Nat.div_eq_of_lt h,Nat.mod_eq_of_lt h]
    simp[qBl,h]
   ·rw[List.getD_eq_getElem?_getD,List.getElem?_append_right (by rw[qBm];omega),qBm,<- List.getD_eq_getElem?_getD,ih (j-57)]
    have e1:j/57=(j-57)/57+1:=by omega
    have e2:(j-57)%57=j%57:=by omega
    rw[e1,e2,List.getD_cons_succ]
theorem qBK(l:List Bool)(j:Nat):(unW (qBy l)).getD j false=l.getD j false:=by
 rw[qBI]
 by_cases h:j/57<nW l.length
 ·rw [show (qBy l).getD (j / 57) 0 = valB ((l.drop (57 * (j / 57))).take 57) from by
   simp[qBy,qBx,List.getD_eq_getElem?_getD,h]]
  rw[qBr,List.getD_eq_getElem?_getD,List.getElem?_take,if_pos (Nat.mod_lt _ (by decide)),List.getElem?_drop,List.getD_eq_getElem?_getD]
  congr 2
  omega
 ·have h1 : (qBy l).getD (j / 57) 0 = 0 := by
   rw[List.getD_eq_getElem?_getD,List.getElem?_eq_none (by rw[qBA];omega)];rfl
  have h2:l.length<=j:=by simp only[nW]at h;omega
  rw[h1,Nat.zero_testBit,List.getD_eq_getElem?_getD,List.getElem?_eq_none h2];rfl
end Go.Ham
namespace Go.Ham
structure Fld where
 x:Nat
 kind:Nat
 i:Nat
 n:Nat
 deriving DecidableEq,Inhabited
def qBL(fs:List Fld)(c:Nat->Nat->Nat)(x:Nat):List Bool:=fs.flatMap fun f=>if f.x=x then qBl (c f.kind f.i) f.n else[]
def qBM:List Fld->Nat->Nat
 |[],_=>0
 |f::r,x=>(if f.x=x then f.n else 0)+qBM r x
theorem qBN(c:Nat->Nat->Nat)(x:Nat): ∀fs,(qBL fs c x).length=qBM fs x
 |[]=>rfl
 | f :: r => by
   show((if f.x=x then qBl (c f.kind f.i) f.n else[])++qBL r c x).length=_
   rw[List.length_append,qBN c x r,qBM]
   split<;>simp[qBm]
theorem qBO(fs gs:List Fld)(c:Nat->Nat->Nat)(x:Nat):qBL (fs++gs) c x=qBL fs c x++qBL gs c x:=by simp[qBL]
theorem qBP(f:Fld)(r:List Fld)(c:Nat->Nat->Nat)(x:Nat):qBL (f::r) c x=(if f.x=x then qBl (c f.kind f.i) f.n else[])++qBL r c x:=rfl
theorem qBQ: ∀(fs gs:List Fld) (x:Nat),qBM (fs++gs) x=qBM fs x+qBM gs x
 |[],gs,x=>by simp[qBM]
 |f::r,gs,x=>by simp only[List.cons_append,qBM,qBQ r gs x];omega
def dropS(S:Nat->List Bool)(f:Fld):Nat->List Bool:=fun x=>if x=f.x then(S x).drop f.n else S x
def qBR:List Fld->(Nat->List Bool)->List (Fld×Nat)
 |[],_=>[]
 |f::r,S=>(f,valB ((S f.x).take f.n))::qBR r (dropS S f)
theorem qBS: ∀(fs:List Fld) (S:Nat->List Bool),(qBR fs S).map (·.1)=fs
 |[],_=>rfl
 |f::r,S=>by simp[qBR,qBS r]
theorem qBT: ∀(fs gs:List Fld) (S:Nat->List Bool),qBR (fs++gs) S=qBR fs S++qBR gs (fun x=>(S x).drop (qBM fs x))
 |[],gs,S=>by simp[qBR,qBM]
 | f :: r, gs, S => by
   simp only[List.cons_append,qBR,qBT r gs]
   congr 3
   funext x
   simp only[dropS,qBM]
   by_cases e:x=f.x
   ·subst e;simp[List.drop_drop]
   ·have: ¬f.x=x:=fun h=>e h.symm
    simp[e,this]
theorem qBU(c:Nat->Nat->Nat): ∀(fs:List Fld) (S:Nat->List Bool),(∀f∈fs,c f.kind f.i<2^f.n)->(∀x,(S x).take (qBM fs x)=qBL fs c x)->qBR fs S=fs.map fun f=>(f,c f.kind f.i)
 |[],_,_,_=>rfl
 | f :: r, S, hc, hS => by
   have h1:=hS f.x
   rw[qBP,if_pos rfl,qBM,if_pos rfl]at h1
   have hl:=qBm (c f.kind f.i) f.n
   have h2:(S f.x).take f.n=qBl (c f.kind f.i) f.n:=by
    have:=congrArg (List.take f.n) h1
    rw[List.take_take,Nat.min_eq_left (by omega),List.take_append_of_le_length (by omega)]at this
    rw[this,List.take_of_length_le (by omega)]
   rw[qBR,h2,qBq _ _ (hc f List.mem_cons_self),List.map_cons]
   congr 1
   refine qBU c r _ (fun g hg=>hc g (List.mem_cons_of_mem _ hg)) fun x=> ?_
   have h3:=hS x
   rw[qBP,qBM]at h3
   unfold dropS
   by_cases e:x=f.x
   ·subst e
    rw[if_pos rfl,if_pos rfl]at h3
    have:=congrArg (List.drop f.n) h3
    rw[List.drop_take,Nat.add_sub_cancel_left,List.drop_append_of_le_length (by omega),List.drop_of_length_le (l:=qBl _ _) (by omega),List.nil_append]at this
    rw[if_pos rfl];exact this
   ·have e2: ¬f.x=x:=fun h=>e h.symm
    rw[if_neg e2,if_neg e2,Nat.zero_add,List.nil_append]at h3
    rw[if_neg e];exact h3
def qBZ(fs:List Fld)(c:Nat->Nat->Nat)(x:Nat):List Nat:=qBy (qBL fs c x)
def rowB(fs:List Fld)(c:Nat->Nat->Nat)(x:Nat):List Nat:=(qBZ fs c x).map encW
theorem qC0(fs:List Fld)(c:Nat->Nat->Nat)(x:Nat):(qBZ fs c x).length=nW (qBM fs x):=by rw[qBZ,qBA,qBN]
def qC1(l:List Nat)(n:Nat):Prop:= ∀j,n<=j->(unW l).getD j false=false
theorem qC2(fs:List Fld)(c:Nat->Nat->Nat)(x:Nat):qC1 (qBZ fs c x) (qBM fs x):=fun j hj=>by
 rw[qBZ,qBK,List.getD_eq_getElem?_getD,List.getElem?_eq_none (by rw[qBN];exact hj)];rfl
theorem qC3(fs:List Fld)(c:Nat->Nat->Nat)(x:Nat):(unW (qBZ fs c x)).take (qBM fs x)=qBL fs c x:=by
 have hl:=qBN c x fs
 have h2:qBM fs x<=(unW (qBZ fs c x)).length:=by rw[qBF,qC0];simp only[nW];omega
 apply List.ext_getElem
 ·rw[List.length_take,hl];omega
 ·intro i h1 h3
  have:=qBK (qBL fs c x) i
  rw[List.getElem_take]
  rw[List.getD_eq_getElem?_getD,List.getD_eq_getElem?_getD,List.getElem?_eq_getElem h3,List.getElem?_eq_getElem (show i<(unW (qBy (qBL fs c x))).length from by rw[hl]at h3;exact Nat.lt_of_lt_of_le h3 h2)]at this
  simp only[Option.getD_some]at this
  exact this
end Go.Ham
namespace Go.Proofs.YtecoaapkcnhlhaaDoor
open Go Go.Vc Go.Ham
theorem qC6(n:Nat)(h:n<2^64):n<2^Go.Lib.bitLen n:=by
 by_cases h0:n=0
 ·subst h0;exact Nat.two_pow_pos _
 ·exact(Go.Lib.bitLenAux_bounds 64 n h h0).2.2
def wN(g:Grid):Nat:=g.w.toNat
def hN(g:Grid):Nat:=g.h.toNat
def eN(g:Grid):Nat:=(quU g).toNat
def cN(g:Grid):Nat:=(quV g).toNat
def qC7(g:Grid)(n:Nat):Nat:=Go.Lib.bitLen (qw4 g n).length
def qC8(g:Grid)(x a n:Nat):List Fld:=(List.range n).map fun j=>⟨x,0,a+j,qC7 g (a+j)⟩
def qC9(x t:Nat):List Fld:=[⟨x,1,t,2⟩,⟨x,2,t,16⟩,⟨x,3,t,8⟩]
def qCa(g:Grid)(x t:Nat):List Fld:=qC8 g x (t*eN g) (eN g)++qC9 x t
def qCb(g:Grid)(x k:Nat):List Fld:=(List.range k).flatMap fun y=>qCa g x (y*wN g+x)
def qCc(g:Grid)(k:Nat):List Fld:=(List.range k).flatMap fun x=>qCb g x (hN g)
def qCd(g:Grid):List Fld:=qC8 g (wN g) (wN g*hN g*eN g) (cN g-wN g*hN g*eN g)
def qCe(g:Grid):List Fld:=qCc g (wN g)++qCd g
structure GN (g:Grid):Prop where
 w:(wN g:Int)=g.w
 h:(hN g:Int)=g.h
 e:(eN g:Int)=quU g
 c:(cN g:Int)=quV g
 k:g.kind.length=wN g*hN g
 all:((wN g*hN g*eN g:Nat):Int)=allI g
 ce:cN g=wN g*hN g*eN g+(2*g.pads).toNat
 w1:1<=wN g
 h1:1<=hN g
 e1:8<=eN g
 w2:wN g<=64
 h2:hN g<=64
 e2:eN g<=134
theorem GOk.n{g:Grid}(hg:GOk g):GN g:=by
 have h1:=hg.w
 have h2:=hg.h
 have h3:=hg.each
 have h4:=hg.count
 have h5:=hg.pads
 have h6:=hg.kind
 have hw:(wN g:Int)=g.w:=by unfold wN;omega
 have hh:(hN g:Int)=g.h:=by unfold hN;omega
 have he:(eN g:Int)=quU g:=by unfold eN;omega
 have hall:((wN g*hN g*eN g:Nat):Int)=allI g:=by rw[Int.natCast_mul,Int.natCast_mul,hw,hh,he];rfl
 have hc:(cN g:Int)=quV g:=by unfold cN;omega
 refine⟨hw,hh,he,hc,?_,hall,?_,by omega,by omega,by omega,by omega,by omega,by omega⟩
 ·have:((wN g*hN g:Nat):Int)=g.kind.length:=by rw[Int.natCast_mul,hw,hh,h6]
  omega
 ·have:quV g=allI g+2*g.pads:=rfl
  omega
theorem qCf(g:Grid)(x:Nat):qCc g (x+1)=qCc g x++qCb g x (hN g):=by simp[qCc,List.range_succ]
theorem qCg(g:Grid)(x y:Nat):qCb g x (y+1)=qCb g x y++qCa g x (y*wN g+x):=by simp[qCb,List.range_succ]
theorem qCh(g:Grid): ∀ {x z:Nat},x<=z->qCc g x<+:qCc g z:=fun {x z} h=>by
 induction h with
 |refl=>exact List.prefix_rfl
 |step _ ih=>exact ih.trans (by rw[qCf];exact List.prefix_append _ _)
theorem qCi(g:Grid)(x:Nat): ∀ {y z:Nat},y<=z->qCb g x y<+:qCb g x z:=fun {y z} h=>by
 induction h with
 |refl=>exact List.prefix_rfl
 |step _ ih=>exact ih.trans (by rw[qCg];exact List.prefix_append _ _)
theorem qCj{g:Grid}{x y:Nat}(hx:x<wN g)(hy:y<hN g):qCc g x++qCb g x y++qCa g x (y*wN g+x)<+:qCe g:=by
 refine List.IsPrefix.trans ?_ (List.prefix_append _ _)
 refine List.IsPrefix.trans ?_ (qCh g (show x+1<=wN g from hx))
 rw[qCf,List.append_assoc,List.prefix_append_right_inj,<- qCg]
 exact qCi g x hy
theorem qCk(g:Grid)(x a n:Nat):qC8 g x a (n+1)=qC8 g x a n++[⟨x,0,a+n,qC7 g (a+n)⟩]:=by simp[qC8,List.range_succ]
theorem qCl(g:Grid)(x a:Nat): ∀ {k n:Nat},k<=n->qC8 g x a k<+:qC8 g x a n:=fun {k n} h=>by
 induction h with
 |refl=>exact List.prefix_rfl
 |step _ ih=>exact ih.trans (by rw[qCk];exact List.prefix_append _ _)
end Go.Proofs.YtecoaapkcnhlhaaDoor
namespace Go.Proofs.YtecoaapkcnhlhaaDoor.Txt
open Go Go.Vc
set_option maxRecDepth 100000
def ac53_100:AC:=
 (.seq (.reg [100,11,100,101] [
 (aO 102 (.box (.t 100))),(aO 103 (.box (.t 101))),(aO 104 (.mv (.c (.sc .nilFunc))))])
 (.seq (.reg [100,11,102,103] [
 (aO 106 (.fa 2 (.t 102))),(aO 107 (.ld false 1 (.t 106))),(aO 108 (.ari .mul true .i64 (kI 2) (.t 107))),(aO 109 (.ari .add true .i64 (kI 6) (.t 108))),(aO 105 (.alc [zI])),(aN (.sto 1 (.t 105) (.t 109)))])
 (.seq (.reg [100,11,102,103,105] [
 (aO 110 (.mkf 75 [(.t 103),(.t 102),(.t 105)])),(aO 104 (.mv (.t 110)))])
 .ret)))
def rv53_100:List RV:=[.tmp 104]
theorem ok53_100:qh3 Tryd.prog 100 ac53_100 rv53_100 Tryd.f53=true:=by kernel_rfl

def ac75_200:AC:=
 (.seq (.reg [200,91,200,201,202,203] [
 (aO 204 (.box (.t 200)))])
 (.seq (.reg [200,91,201,202,203,204] [
 (aO 209 (.mkf 76 [(.t 204),(.t 201),(.t 202)])),(aO 205 (.mv (.t 209)))])
 (.seq (.seq (.reg [200,91,201,202,203,204,205] [
 (aO 210 (.fa 0 (.t 202))),(aO 211 (.ld false 1 (.t 210))),(aO 212 (.mv (kI 0)))])
 (.block 0
 (.lps [200,91,201,202,203,204,205,211,212]
 (.seq (.reg [200,91,201,202,203,204,205,211,212] [
 (aO 213 (.cmp .lss .i64 (.t 212) (.t 211)))])
 (.seq (.cond (.t 213)
 .skip
 (.exit 0))
 (.seq (.block 1
 (.seq (.reg [200,91,201,202,203,204,205,211,212] [
 (aO 214 (.mv (.t 212))),(aO 206 (.mv (.t 214)))])
 (.seq (.reg [200,91,201,202,203,204,205,206,211,212] [
 (aO 215 (.fa 1 (.t 202))),(aO 216 (.ld false 1 (.t 215))),(aO 217 (.mv (kI 0)))])
 (.block 2
 (.lps [200,91,201,202,203,204,205,206,211,212,216,217]
 (.seq (.reg [200,91,201,202,203,204,205,206,211,212,216,217] [
 (aO 218 (.cmp .lss .i64 (.t 217) (.t 216)))])
 (.seq (.cond (.t 218)
 .skip
 (.exit 2))
 (.seq (.block 3
 (.seq (.reg [200,91,201,202,203,204,205,206,211,212,216,217] [
 (aO 219 (.mv (.t 217))),(aO 207 (.mv (.t 219)))])
 (.seq (.reg [200,91,201,202,203,204,205,206,207,211,212,216,217] [
 (aO 220 (.mv (.t 207))),(aO 221 (.fa 0 (.t 202))),(aO 222 (.ld false 1 (.t 221))),(aO 223 (.ari .mul true .i64 (.t 220) (.t 222))),(aO 224 (.mv (.t 206))),(aO 225 (.ari .add true .i64 (.t 223) (.t 224))),(aO 208 (.mv (.t 225)))])
 (.seq (.drw [200,91,201,202,203,204,205,206,208,211,212,216,217] [
 (eT 226 (.mv (.t 205))),(eT 227 (.mv (.t 206))),(eT 228 (.mv (.t 208))),(eT 229 (.ld false 1 (.t 203))),(eT 230 (.ari .mul true .i64 (.t 228) (.t 229))),(eT 231 (.mv (.t 208))),(eT 232 (.ari .add true .i64 (.t 231) (kI 1))),(eT 233 (.ld false 1 (.t 203))),(eT 234 (.ari .mul true .i64 (.t 232) (.t 233))),(eF 235 (.clv (.t 226) [(.t 227),(.t 230),(.t 234)])),(eF 236 (.not (.t 235))),(eF 237 (.mv (.t 236))),⟨⟨some 238,some (237,false),.ld false 1 (.t 204)⟩,[],[],true⟩,⟨⟨some 239,some (237,false),.mv (.t 206)⟩,[],[],true⟩,⟨⟨some 240,some (237,false),.ld false 1 (.t 201)⟩,[],[],true⟩,⟨⟨some 241,some (237,false),.nck (.t 240)⟩,[],[],true⟩,⟨⟨some 242,some (237,false),.fa 1 (.t 241)⟩,[],[],true⟩,⟨⟨some 243,some (237,false),.ld false 1 (.t 242)⟩,[],[],true⟩,⟨⟨some 244,some (237,false),.mv (.t 208)⟩,[],[],true⟩,⟨⟨some 245,some (237,false),.ixs 1 (.t 243) (.t 244)⟩,[],[],true⟩,⟨⟨some 246,some (237,false),.bld [.sc (.pointer none),zI] [(0,1,(.t 245)),(1,1,(kI 2))]⟩,[],[],true⟩,⟨⟨some 247,some (237,false),.clv (.t 238) [(.t 239),(.t 246)]⟩,[],[],false⟩,⟨⟨some 248,some (237,false),.not (.t 247)⟩,[],[],false⟩,(eF 249 (.pick (.t 237) (.c (.sc (.bool true))) (.t 248))),(eF 250 (.mv (.t 249))),⟨⟨some 251,some (250,false),.ld false 1 (.t 204)⟩,[],[],true⟩,⟨⟨some 252,some (250,false),.mv (.t 206)⟩,[],[],true⟩,⟨⟨some 253,some (250,false),.ld false 1 (.t 201)⟩,[],[],true⟩,⟨⟨some 254,some (250,false),.nck (.t 253)⟩,[],[],true⟩,⟨⟨some 255,some (250,false),.fa 2 (.t 254)⟩,[],[],true⟩,⟨⟨some 256,some (250,false),.ld false 1 (.t 255)⟩,[],[],true⟩,⟨⟨some 257,some (250,false),.mv (.t 208)⟩,[],[],true⟩,⟨⟨some 258,some (250,false),.ixs 1 (.t 256) (.t 257)⟩,[],[],true⟩,⟨⟨some 259,some (250,false),.bld [.sc (.pointer none),zI] [(0,1,(.t 258)),(1,1,(kI 16))]⟩,[],[],true⟩,⟨⟨some 260,some (250,false),.clv (.t 251) [(.t 252),(.t 259)]⟩,[],[],false⟩,⟨⟨some 261,some (250,false),.not (.t 260)⟩,[],[],false⟩,(eF 262 (.pick (.t 250) (.c (.sc (.bool true))) (.t 261))),(eF 263 (.mv (.t 262))),⟨⟨some 264,some (263,false),.ld false 1 (.t 204)⟩,[],[],true⟩,⟨⟨some 265,some (263,false),.mv (.t 206)⟩,[],[],true⟩,⟨⟨some 266,some (263,false),.ld false 1 (.t 201)⟩,[],[],true⟩,⟨⟨some 267,some (263,false),.nck (.t 266)⟩,[],[],true⟩,⟨⟨some 268,some (263,false),.fa 3 (.t 267)⟩,[],[],true⟩,⟨⟨some 269,some (263,false),.ld false 1 (.t 268)⟩,[],[],true⟩,⟨⟨some 270,some (263,false),.mv (.t 208)⟩,[],[],true⟩,⟨⟨some 271,some (263,false),.ixs 1 (.t 269) (.t 270)⟩,[],[],true⟩,⟨⟨some 272,some (263,false),.bld [.sc (.pointer none),zI] [(0,1,(.t 271)),(1,1,(kI 8))]⟩,[],[],true⟩,⟨⟨some 273,some (263,false),.clv (.t 264) [(.t 265),(.t 272)]⟩,[],[],false⟩,⟨⟨some 274,some (263,false),.not (.t 273)⟩,[],[],false⟩,(eF 275 (.pick (.t 263) (.c (.sc (.bool true))) (.t 274)))])
 (.cut [200,91,201,202,203,204,205,206,211,212,216,217,275] (.cond (.t 275)
 .ret
 .skip))))))
 (.reg [200,91,201,202,203,204,205,206,211,212,216,217] [
 (aO 276 (.ari .add true .i64 (.t 217) (kI 1))),(aO 217 (.mv (.t 276)))])))))))))
 (.reg [200,91,201,202,203,204,205,211,212] [
 (aO 277 (.ari .add true .i64 (.t 212) (kI 1))),(aO 212 (.mv (.t 277)))])))))))
 (.drw [200,91,202,203,205] [
 (eT 278 (.mv (.t 205))),(eT 279 (.fa 0 (.t 202))),(eT 280 (.ld false 1 (.t 279))),(eT 281 (.fa 0 (.t 202))),(eT 282 (.ld false 1 (.t 281))),(eT 283 (.fa 1 (.t 202))),(eT 284 (.ld false 1 (.t 283))),(eT 285 (.ari .mul true .i64 (.t 282) (.t 284))),(eT 286 (.ld false 1 (.t 203))),(eT 287 (.ari .mul true .i64 (.t 285) (.t 286))),(eT 288 (.ld true 5 (.t 202))),(eT 289 (.cal 39 [(.t 288)])),(eF 290 (.clv (.t 278) [(.t 280),(.t 287),(.t 289)]))]))))
def rv75_200:List RV:=[]
theorem ok75_200:qh3 Tryd.prog 200 ac75_200 rv75_200 Tryd.f75=true:=by kernel_rfl

def ac76_400:AC:=
 (.seq (.reg [400,34,400,401,402,403,404,405] [
 (aO 409 (.mv (.c (.sc (.bool false)))))])
 (.seq (.seq (.reg [400,34,400,401,402,403,404,405] [
 (aO 411 (.mv (.t 401))),(aO 410 (.mv (.t 411)))])
 (.block 0
 (.lps [400,34,400,402,403,404,405,410]
 (.seq (.seq (.reg [400,34,400,402,403,404,405,410] [
 (aO 412 (.mv (.t 410))),(aO 413 (.mv (.t 402))),(aO 414 (.cmp .lss .i64 (.t 412) (.t 413)))])
 (.cond (.t 414)
 .skip
 (.exit 0)))
 (.seq (.block 1
 (.seq (.drw [400,34,400,402,403,404,405,410] [
 (eT 417 (.ld false 1 (.t 403))),(eT 418 (.mv (.t 400))),(eT 419 (.ld false 1 (.t 404))),(eT 420 (.nck (.t 419))),(eT 421 (.fa 0 (.t 420))),(eT 422 (.ld false 1 (.t 421))),(eT 423 (.mv (.t 410))),(eT 424 (.ixs 1 (.t 422) (.t 423))),(eT 425 (.ld true 5 (.t 405))),(eT 426 (.mv (.t 410))),(eT 427 (.cal 41 [(.t 425),(.t 426)])),(eT 428 (.len (.t 427))),(eT 429 (.cnv true .u64 (.t 428))),(eT 430 (.cal 77 [(.t 429)])),(eT 431 (.bld [.sc (.pointer none),zI] [(0,1,(.t 424)),(1,1,(.t 430))])),(eF 432 (.clv (.t 417) [(.t 418),(.t 431)])),(eF 433 (.not (.t 432)))])
 (.cond (.t 433)
 (.seq (.reg [400,34] [
 (aO 409 (.mv (.c (.sc (.bool false)))))])
 .ret)
 .skip)))
 (.reg [400,34,400,402,403,404,405,410] [
 (aO 415 (.mv (.t 410))),(aO 416 (.ari .add true .i64 (.t 415) (kI 1))),(aO 410 (.mv (.t 416)))]))))))
 (.seq (.reg [400,34] [
 (aO 409 (.mv (.c (.sc (.bool true)))))])
 .ret)))
def rv76_400:List RV:=[.tmp 409]
theorem ok76_400:qh3 Tryd.prog 400 ac76_400 rv76_400 Tryd.f76=true:=by kernel_rfl
end Go.Proofs.YtecoaapkcnhlhaaDoor.Txt
namespace Go.Vc
open Go Go.RowKit
section
variable {K:Nat} {s:List (Nat×PV)}
theorem qCm: ∀ {s:List (Nat×PV)},qtT K s=true-> ∀x∈s,x.1<K:=by
 intro s h
 rw[<- qtU,List.all_eq_true]at h
 exact fun x hx=>by simpa using h x hx
theorem qCn(h:qtT K s=true)(t:List (Nat×PV))(i:Nat)(v:PV)(hi:K<=i):up (s++t) i v=s++up t i v:=by
 have h:=qCm h
 induction s with
 |nil=>rfl
 |cons x r ih=>
   obtain⟨k,u⟩:=x
   have hk:k<K:=h (k,u) List.mem_cons_self
   rw[List.cons_append,up,if_neg (by omega),if_neg (by omega),ih (by rw[<- qtU,List.all_eq_true];exact fun y hy=>by simpa using h y (List.mem_cons_of_mem _ hy)) fun y hy=>h y (List.mem_cons_of_mem _ hy)]
   rfl
theorem qCo(h:qtT K s=true)(i:Nat)(v:PV)(hi:K<=i):up s i v=s++[(i,v)]:=by
 have:=qCn h [] i v hi
 rw[List.append_nil]at this
 rw[this];rfl
theorem qCp(h:qtT K s=true)(t:List (Nat×PV))(i:Nat)(hi:K<=i):getL (s++t) i=getL t i:=by
 have h:=qCm h
 induction s with
 |nil=>rfl
 |cons x r ih=>
   obtain⟨k,u⟩:=x
   have hk:k<K:=h (k,u) List.mem_cons_self
   rw[List.cons_append,getL,if_neg (by omega),ih (by rw[<- qtU,List.all_eq_true];exact fun y hy=>by simpa using h y (List.mem_cons_of_mem _ hy)) fun y hy=>h y (List.mem_cons_of_mem _ hy)]
theorem qCq(h:qtT K s=true)(n:Nat)(r:List Nat)(t:List (Nat×PV)):qhk (K::n::r) (s++t)=s++qhk (K::n::r) t:=by
 have h:=qCm h
 induction s with
 |nil=>rfl
 |cons x q ih=>
   obtain⟨k,u⟩:=x
   have hk:k<K:=h (k,u) List.mem_cons_self
   rw[List.cons_append,qhk,if_pos (by simp[inK,hk]),ih (by rw[<- qtU,List.all_eq_true];exact fun y hy=>by simpa using h y (List.mem_cons_of_mem _ hy)) fun y hy=>h y (List.mem_cons_of_mem _ hy)]
   rfl
theorem qCr(h:qtT K s=true)(t:List (Nat×PV)):lowL K (s++t)=s++lowL K t:=by
 rw[<- qtF,<- qtF,List.filter_append]
 congr 1
 rw[List.filter_eq_self]
 exact fun x hx=>by simpa using qCm h x hx
theorem qCs(h:qtT K s=true)(k:Nat)(t:List (Nat×PV))(hk:K<=k):qtT k (s++t)=qtT k t:=by
 rw[<- qtU,<- qtU,List.all_append]
 have:s.all (fun x=>decide (x.1<k))=true:=List.all_eq_true.2 fun x hx=>by have:=qCm h x hx;simp;omega
 rw[this,Bool.true_and]
end
theorem SWk.gc(st:St)(ks:List Nat):SWk st (st.gc ks):=fun _ _ _ _ _ ⟨Z,L,h⟩=>
 ⟨Z,L,h.forget (fun i v hl=> .inl (qa8 _ _ (fun _ _=>rfl) i v hl)) (fun i v hl=>qa8 _ _ (fun _ _=>rfl) i v hl) (fun i v hl=>qa8 _ _ (fun _ _=>rfl) i v hl) (fun i v hl=>qa8 _ _ (fun _ _=>rfl) i v hl)⟩
theorem qCt {ρ : RF} {ps : List Nat} {B : St -> (St -> Prop) -> Prop} {id : Nat} {args : List PV} {s : List (Nat × PV)} {b : List (Nat × List PV)} {a : List (Nat × Arr)} {m : List (Nat × Mp)} {K : St -> Prop} (hid : id = ρ.id) (hl : args.length = ps.length) (ha : qtT ρ.K2 s = true)
  (hb:B ⟨qcQ ps args (qcP ρ.K ρ.K2 s (midL ρ.K ρ.n s) s),b,a,m⟩ fun st2=> ∃st3,SWk (st2.low ρ.K2) st3/\qtT ρ.K2 st3.s=true/\K st3):rngY ρ ps B id args ⟨s,b,a,m⟩ K:=by
 refine⟨hid,hl,by rw[qtU];exact ha,?_⟩
 simp only[qtO,qtU]
 exact hb
theorem qCu{P:Env}{ass body:AC}{st:St}{K K' :St->Prop}(h: ∀st,K st->K' st)(hb:qu6 P ass body st K):qu6 P ass body st K' :=by
 unfold qu6 at hb ⊢
 refine qwn ass ?_ st hb
 intro e st1 h1
 cases e<;>first|exact h1|skip
 exact qwn body (fun e st2 h2=>⟨h2.1,h _ h2.2⟩) st1 h1
theorem qCv(st:St)(k:Nat)(ks:List Nat):((st.low k).gc ks).s.all (fun x=>decide (x.1<k))=true:=by
 rw[List.all_eq_true]
 intro x hx
 have h1:=(List.mem_filter.1 hx).1
 exact(List.mem_filter.1 h1).2
theorem qCw {P : Env} {ass body : AC} {ρ : RF} {ps : List Nat} {id : Nat} {args : List PV} {s : List (Nat × PV)} {b : List (Nat × List PV)} {a : List (Nat × Arr)} {m : List (Nat × Mp)} {K : St -> Prop} (hid : id = ρ.id) (hl : args.length = ps.length) (ha : qtT ρ.K2 s = true)
  (hb:qu6 P ass body ⟨qcQ ps args (qcP ρ.K ρ.K2 s (midL ρ.K ρ.n s) s),b,a,m⟩ fun st2=>K ((st2.low ρ.K2).gc [0,0])):rngY ρ ps (qu6 P ass body) id args ⟨s,b,a,m⟩ K:=by
 refine⟨hid,hl,by rw[qtU];exact ha,?_⟩
 simp only[qtO]
 exact qCu (fun st2 h=>⟨_,SWk.gc _ _,qCv _ _ _,h⟩) hb
section
variable (pb pa:Nat->Bool)
@[push_cast] theorem qCx(f i:Nat):PV.to pb pa (.bm f i)=pb i:=rfl
@[push_cast] theorem qCy(f i:Nat):PV.toA pb pa (.bm f i)=pb i:=rfl
@[push_cast] theorem qCz(f i:Nat):PV.toV pb pa (.bm f i)=pb i:=rfl
@[push_cast] theorem qCA(f i:Nat):PV.killed pb (.bm f i)= .bot:=rfl
@[push_cast] theorem qCB(f i:Nat):PV.killV pb pa (.bm f i)=bif pb i then .bot else .bm f i:=rfl
@[push_cast] theorem qCC(f i:Nat)(r:List PV):qbL (.bm f i::r)=qbL r:=rfl
@[push_cast] theorem qCD(f i:Nat):cellsOf (.bm f i)=[.bm f i]:=rfl
@[push_cast] theorem qCE(f i:Nat):qas (.bm f i)=true:=rfl
@[push_cast] theorem qCF(f i:Nat):qgT (.bm f i)=true:=rfl
@[push_cast] theorem qCG(i:Nat):qas (.yl i)=true:=rfl
end
end Go.Vc
namespace Go.Vc
open Go Go.RowKit
theorem qCH: ∀ {t:List (Nat×PV)} {k n:Nat},(∀x∈t,k+n<=x.1)->midL k n t=[]
 |[],_,_,_=>rfl
 | (i, v) :: t, k, n, h => by
   have h1:=h (i,v) List.mem_cons_self
   rw[qtQ,if_neg (by simp only at h1;omega)]
   exact qCH fun x hx=>h x (List.mem_cons_of_mem _ hx)
def qCI:PV->Nat->PV
 | .sl p _ xs,n=> .iptr p (xs.getD n []) 0
 | .view id lo _,n=> .eptr id (lo+n) 0
 |_,_=> .bot
def qCJ:PV->Nat
 | .sl _ _ xs=>xs.length
 | .view _ _ n=>n
 |_=>0
def slOk(a:List (Nat×Arr)):PV->Prop
 | .sl _ es _=>es=1
 | .view id _ _=> ∃ty xs,lk a id=some ⟨1,ty,xs⟩
 |_=>False
theorem qCK{a:List (Nat×Arr)}{v:PV}(h:slOk a v){n:Nat}(hn:n<qCJ v): ∃C:Prop,C/\ ∀(s:List (Nat×PV)) (b:List (Nat×List PV)) (m:List (Nat×Mp)),ixsV ⟨s,b,a,m⟩ 1 v (.sc (.int .i64 n))=(C,qCI v n):=by
 cases v<;>first|exact h.elim|skip
 ·rename_i p es xs
  have h:es=1:=h
  subst h
  have hn:n<xs.length:=hn
  exact⟨1=1/\0<=(n:Int)/\(n:Int)<xs.length,⟨rfl,by omega,by omega⟩,fun _ _ _=>qm5 _ _ _ _ _ _ _⟩
 ·rename_i id lo l
  obtain⟨ty,xs,h⟩:=h
  have hn:n<l:=hn
  exact⟨1=1/\0<=(n:Int)/\(n:Int)<l,⟨rfl,by omega,by omega⟩,fun _ _ _=>by rw[qm4,h,qm3];rfl⟩
theorem qCL{a:List (Nat×Arr)}{v:PV}(h:slOk a v)(n:Nat):qas (qCI v n)=true/\cellsOf (qCI v n)=[qCI v n]:=by
 cases v<;>first|exact h.elim|exact⟨rfl,rfl⟩
end Go.Vc
namespace Go.Vc
open Go Go.RowKit
theorem SWk.drop{s:List (Nat×PV)}{b:List (Nat×List PV)}{a:List (Nat×Arr)}{m:List (Nat×Mp)}(pb pa:Nat->Bool):SWk ⟨s,b,a,m⟩ ⟨s,b.filter (fun x=>pb x.1),a.filter (fun x=>pa x.1),m⟩:=fun _ _ _ _ _ ⟨Z,L,h⟩=>
 ⟨Z,L,h.forget (fun _ _ hl=> .inl hl) (fun i v hl=>qa8 _ _ (fun _ _=>rfl) i v hl) (fun i v hl=>qa8 _ _ (fun _ _=>rfl) i v hl) (fun _ _ hl=>hl)⟩
def farL(j:Nat):List (Nat×PV)->Prop
 |[]=>True
 |(_,v)::r=>(v.toV (isId j) nul=false/\v.toV nul (isId j)=false)/\farL j r
@[push_cast] theorem qCM(j:Nat):farL j []=True:=rfl
@[push_cast] theorem qCN(j i:Nat)(v:PV)(r:List (Nat×PV)):farL j ((i,v)::r)=((v.toV (isId j) nul=false/\v.toV nul (isId j)=false)/\farL j r):=rfl
theorem qCO(j:Nat): ∀(s t:List (Nat×PV)),farL j (s++t)=(farL j s/\farL j t)
 |[],t=>by simp[farL]
 |(i,v)::r,t=>by simp only[List.cons_append,qCN,qCO j r t,and_assoc]
theorem qCP{j:Nat} : ∀ {s:List (Nat×PV)},farL j s->qiB (isId j) nul s=s
 |[],_=>rfl
 |(i,v)::r,h=>by rw[qiG,h.1.1,qCP h.2];rfl
theorem qCQ{j:Nat} : ∀ {s:List (Nat×PV)},farL j s->qiB nul (isId j) s=s
 |[],_=>rfl
 |(i,v)::r,h=>by rw[qiG,h.1.2,qCQ h.2];rfl
theorem qCR(pb pa:Nat->Bool)(v:PV)(n:Nat):(qCI v n).toV pb pa=(qCI v n).to pb pa:=by
 cases v<;>rfl
theorem qCS(pb pa:Nat->Bool)(s t:List (Nat×PV)):qiB pb pa (s++t)=qiB pb pa s++qiB pb pa t:=by
 rw[<- qja,<- qja,<- qja,List.map_append]
end Go.Vc
