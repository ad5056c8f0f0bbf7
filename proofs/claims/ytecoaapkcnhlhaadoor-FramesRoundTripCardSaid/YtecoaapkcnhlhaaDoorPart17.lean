/- JE JF JG JH PRoundTrip: FramesRoundTrip: the row and its card. -/
import Derived.Test.YtecoaapkcnhlhaaDoorPart16
import Derived.Test.YtecoaapkcnhlhaaDoorPart11
import Derived.MakeChecks
import Derived.FnData
import Derived.OpenShut
import Derived.Test.YtecoaapkcnhlhaaDoorRows
import Derived.Test.YtecoaapkcnhlhaaDoorCards
import Derived.Test.YtecoaapkcnhlhaaDoorTie
import Derived.ProofKit
import Derived.LaidMore
import Derived.SevenTiedAt
set_option linter.unusedSimpArgs false
set_option linter.unusedVariables false
open Nat (reduceEqDiff reduceAdd reduceSub reduceMul reduceLT reduceLeDiff)
open Int (reduceToNat reduceNeg)
namespace Go.Proofs.YtecoaapkcnhlhaaDoor
open Go Go.Vc Go.Ham Txt
theorem qJk(x:RawG)(c:Cfg):FrmSm (qDl (qyG x) c):=by
 have hg:=(qyI x).1
 have hn:=hg.n
 have hw:wN (qyG x)<=5:=by unfold wN qyG;simp only;omega
 have hh:hN (qyG x)<=5:=by unfold hN qyG;simp only;omega
 have he:eN (qyG x)<=14:=by unfold eN quU qyG;simp only;omega
 refine⟨qDz _ c,by rw[qDl,List.length_map,List.length_range];omega,fun ws hws=> ?_⟩
 obtain⟨y,hy,rfl⟩:=List.mem_map.1 hws
 rw[qDw]
 have h1:hN (qyG x)*(eN (qyG x)+3)<=5*17:=Nat.mul_le_mul hh (by omega)
 have h2:wN (qyG x)*(hN (qyG x)*(eN (qyG x)+3))<=5*(5*17):=Nat.mul_le_mul hw h1
 have h3:(qCe (qyG x)).length<=473:=by
  rw[qCe,List.length_append,qDL,qCd,qDJ]
  have:=hn.ce
  have hp:(2*(qyG x).pads).toNat=48:=rfl
  omega
 have h4:=qDI (m:=64) y (qCe (qyG x)) fun f hf=>qG1 (qCW hg hf)
 unfold nW
 omega
theorem qJl(g:Grid)(c:Cfg):(qDl g c).length=wN g+1:=by simp[qDl]
set_option maxHeartbeats 1000000 in
theorem qJm (x : RawG) (hx : x.By) (l : List Int) (hl : (l.length : Int) <= 9223372036854775807) (hb : ∀ b ∈ l, 0 <= b /\ b <= 255) (z : Odd38) (hz : (z.L.length : Int) <= 9223372036854775807) :
  FnEq Tryd.prog 3 [.agg (qyE false x),.sl false 1 (qkb l),.agg (qJe false z)] (.bool true):=by
 have hg:=(qyI x).1
 have hm:=qyH x hx.ok
 have hw:=qyS (qyG x) hg l hl hb
 have hv:=qJj hg hb
 have hes:=qJk x (qyN (qyG x) l)
 have hsm:=qIR x hx
 have hlt:=qJg z hz
 obtain⟨hd1,hd2⟩:=qIS hg hv
 have hen:=qJc (qyG x) hg (qyN (qyG x) l)
 have hde:=qIP (qyG x) hg _ hes hd1
 have hsz:=qE1 (qyG x) hg
 have hcz:cntF (qDl (qyG x) (qyN (qyG x) l))=0:=qHk fun ws hws w hw=>qDA hws hw
 have hsame:=qyx (qyN (qyG x) l) (qyN (qyG x) l) (qJ8 hg ((qDg _ _).1 hv).1) (qJ8 hg ((qDg _ _).1 hv).1)
 have hez:=qJc (qyG x) hg z.c
 have hvz:=qJa (qyG x) hg z.c
 have hel:=qJl (qyG x) (qyN (qyG x) l)
 have hsl:=qIF (qyG x)
 have heq:=qDx (qyG x) (qyN (qyG x) l)
 have hck: ∀ws∈qDl (qyG x) (qyN (qyG x) l),∀w∈ws,chkW w=0:=fun ws hws w hw=>qDA hws hw
 unfold encL encE at hen
 rw[if_pos hv,if_pos hv]at hen
 rw[hd2,hcz]at hde
 have hnw:=hg.n.w
 have hnw2:=hg.n.w2
 rw[decide_eq_true rfl]at hsame
 generalize qyN (qyG x) l=c at *
 generalize qyG x=g at *
 generalize qDl g c=F at *
 refine FnEq.of_awp Tryd.func3 ok3 (by show 3<=_;decide) (by simp only[push_cast,reduceIte,reduceEqDiff,reduceAdd,reduceSub,reduceMul,Nat.reduceBEq,reduceLT,reduceLeDiff,reduceCtorEq,reduceToNat,reduceNeg,cNI]<;>first|exact fun _ _=>trivial|simp) ?_
 simp only[ac3,rv3,push_cast,reduceIte,reduceEqDiff,reduceAdd,reduceSub,reduceMul,Nat.reduceBEq,reduceLT,reduceLeDiff,reduceCtorEq,reduceToNat,reduceNeg,cNI]
 refine qoI qJ7 ?_
 refine sB ?_
 refine qoI hsm ?_
 refine sB ?_
 refine qry rfl (fun e=> ?_) fun e=> ?_<;>simp only[push_cast,reduceIte,reduceEqDiff,reduceAdd,reduceSub,reduceMul,Nat.reduceBEq,reduceLT,reduceLeDiff,reduceCtorEq,reduceToNat,reduceNeg,cNI]
 refine qrs hlt sC ?_
 rintro _ ⟨b,rfl⟩
 refine sB ?_
 refine qry rfl (fun e2=> ?_) fun e2=> ?_<;>simp only[push_cast,reduceIte,reduceEqDiff,reduceAdd,reduceSub,reduceMul,Nat.reduceBEq,reduceLT,reduceLeDiff,reduceCtorEq,reduceToNat,reduceNeg,cNI]
 refine qnU (fun h=>trivial) fun h=> ?_
 refine qoI hm ?_
 refine sB ?_
 refine qrr hw sC ?_
 refine sB ?_
 refine qrr hen sC ?_
 refine sB ?_
 refine qrr hde (by exact⟨Sub.aggL ⟨.refl _,.refl _,.refl _,.refl _,.slp _ _ _ _ (fun h=>by cases h),trivial⟩,qIZ true _,trivial⟩) ?_
 refine sB ?_
 refine qrr hsz sC ?_
 refine sB ?_
 refine qrw rfl (fun e=>absurd e (by decide)) fun _=> ?_
 refine sB ?_
 refine qrw rfl (fun e=>absurd e (by decide)) fun _=> ?_
 refine sB ?_
 refine qrw rfl (fun e=>absurd e (by decide)) fun _=> ?_
 refine sB ?_
 refine qrr hsame (by exact⟨Sub.aggL ⟨.slp _ _ _ _ (fun h=>by cases h),.slp _ _ _ _ (fun h=>by cases h),.slp _ _ _ _ (fun h=>by cases h),.slp _ _ _ _ (fun h=>by cases h),trivial⟩,Sub.aggL ⟨.slp _ _ _ _ (fun h=>by cases h),.slp _ _ _ _ (fun h=>by cases h),.slp _ _ _ _ (fun h=>by cases h),.slp _ _ _ _ (fun h=>by cases h),trivial⟩,trivial⟩) ?_
 refine sB ?_
 refine⟨⟨by omega,by omega⟩,?_⟩
 refine qrw rfl (fun e=>absurd e (by omega)) fun _=> ?_
 refine sB ?_
 refine⟨⟨by omega,by omega⟩,?_⟩
 refine qnU (fun e=>absurd e (by rw[List.length_map,hsl];omega)) fun _=> ?_
 have hFn:=hes.n
 have hsat: ∀k,k<F.length->((qDk g).map Int.ofNat).getD k default=((F.getD k default).length:Int):=fun k hk=>by
  rw[<- heq,List.getD_eq_getElem?_getD,List.getElem?_map,List.getElem?_map,List.getElem?_eq_getElem hk,List.getD_eq_getElem?_getD,List.getElem?_eq_getElem hk]
  rfl
 refine qoL (fun m st=> ∃k:Nat,k<=F.length/\m=F.length-k/\st=⟨[(5,.ptr 5 0),(7,.bool true),(8,.ptr 8 0),(10,.ptr 10 0),(12,.sl true 1 (ints ((qDk g).map Int.ofNat))),(13,.int k)],[(5,qJe false z),(8,quQ true g),(10,[.sl true 1 (rows (frmC true) F),.int 0])],[],[]⟩) F.length ⟨0,by omega,by omega,by simp only[push_cast,reduceIte,reduceEqDiff,reduceAdd,reduceSub,reduceMul,Nat.reduceBEq,reduceLT,reduceLeDiff,reduceCtorEq,reduceToNat,reduceNeg,cNI]⟩ ?_
 rintro m st ⟨k,hk,rfl,rfl⟩
 refine sB ?_
 refine qnU (fun h2=> ?_) fun h2=> ?_
 ·have hk' :k<F.length:=by omega
  have hws:=qGq hes hk'
  have hm2:F.getD k default∈F:=by rw[List.getD_eq_getElem?_getD,List.getElem?_eq_getElem hk'];exact List.getElem_mem hk'
  simp only[qER,hsat k hk',push_cast,reduceIte,reduceEqDiff,reduceAdd,reduceSub,reduceMul,Nat.reduceBEq,reduceLT,reduceLeDiff,reduceCtorEq,reduceToNat,reduceNeg,cNI]
  refine⟨⟨by omega,by omega⟩,hk',⟨by omega,by rw[List.length_map,hsl];omega⟩,by rw[List.length_map,hsl];omega,?_⟩
  refine qnU (fun e=>absurd rfl e) fun _=> ?_
  generalize hW:F.getD k default=ws at *
  refine qoL (fun m st=> ∃j:Nat,j<=ws.length/\m=ws.length-j/\st=⟨[(5,.ptr 5 0),(7,.bool true),(8,.ptr 8 0),(10,.ptr 10 0),(12,.sl true 1 (ints ((qDk g).map Int.ofNat))),(13,.int k),(14,.int j)],[(5,qJe false z),(8,quQ true g),(10,[.sl true 1 (rows (frmC true) F),.int 0])],[],[]⟩) ws.length ⟨0,by omega,by omega,by simp only[push_cast,reduceIte,reduceEqDiff,reduceAdd,reduceSub,reduceMul,Nat.reduceBEq,reduceLT,reduceLeDiff,reduceCtorEq,reduceToNat,reduceNeg,cNI]⟩ ?_
  rintro m st ⟨j,hj,rfl,rfl⟩
  simp only[qER,hW,push_cast,reduceIte,reduceEqDiff,reduceAdd,reduceSub,reduceMul,Nat.reduceBEq,reduceLT,reduceLeDiff,reduceCtorEq,reduceToNat,reduceNeg,cNI]
  refine⟨⟨by omega,by omega⟩,hk',qnU (fun h3=> ?_) fun h3=> ?_⟩
  ·have hj' :j<ws.length:=by omega
   have hmw:ws.getD j 0∈ws:=by rw[List.getD_eq_getElem?_getD,List.getElem?_eq_getElem hj'];exact List.getElem_mem hj'
   have hcw:=hck ws hm2 _ hmw
   have hch:=qE5 (ws.getD j 0) (hes.ok ws hm2 _ hmw)
   rw[hcw]at hch
   simp only[qFx,push_cast,reduceIte,reduceEqDiff,reduceAdd,reduceSub,reduceMul,Nat.reduceBEq,reduceLT,reduceLeDiff,reduceCtorEq,reduceToNat,reduceNeg,cNI]
   refine⟨⟨by omega,by omega⟩,hk',⟨by omega,by omega⟩,by omega,?_⟩
   refine qrr hch sC ?_
   refine sB ?_
   refine qnU (fun e=>absurd rfl e) fun _=> ?_
   exact⟨⟨by omega,by omega⟩,ws.length-(j+1),by omega,j+1,by omega,rfl,rfl⟩
  ·exact⟨⟨by omega,by omega⟩,F.length-(k+1),by omega,k+1,by omega,rfl,rfl⟩
 ·have hE : decide (encE g z.c = 0) = decide (validE g z.c = 0) := by
   unfold encE
   by_cases h:validE g z.c=0
   ·rw[if_pos h,h]
   ·rw[if_neg h,decide_eq_false h];rfl
  refine qrt hez (by exact⟨Sub.aggL ⟨.refl _,.refl _,.refl _,.refl _,.slp _ _ _ _ (fun h=>by cases h),trivial⟩,.refl _,trivial⟩) rfl ?_
  refine sB ?_
  refine qrt hvz (by exact⟨Sub.aggL ⟨.refl _,.refl _,.refl _,.refl _,.slp _ _ _ _ (fun h=>by cases h),trivial⟩,.refl _,trivial⟩) rfl ?_
  simp only[hE,push_cast,reduceIte,reduceEqDiff,reduceAdd,reduceSub,reduceMul,Nat.reduceBEq,reduceLT,reduceLeDiff,reduceCtorEq,reduceToNat,reduceNeg,cNI]
  done
end Go.Proofs.YtecoaapkcnhlhaaDoor
namespace Go.Proofs.YtecoaapkcnhlhaaDoor
open Go Go.Vc Go.Ham Txt
theorem spot_mem{l:List (List Nat)}{p:Nat×Nat} :p∈qGC l ↔ p.1<l.length/\p.2<(l.getD p.1 []).length:=by
 unfold qGC qGB
 rw[List.mem_flatMap]
 constructor
 ·rintro⟨i,hi,hp⟩
  have hi:=List.mem_range.1 hi
  unfold qGA at hp
  obtain⟨k,hk,rfl⟩:=List.mem_map.1 hp
  exact⟨hi,List.mem_range.1 hk⟩
 ·rintro⟨h1,h2⟩
  refine⟨p.1,List.mem_range.2 h1,?_⟩
  unfold qGA
  exact List.mem_map.2 ⟨p.2,List.mem_range.2 h2,rfl⟩
theorem qJn(l:List (List Nat)):(qGC l).Nodup:=by
 unfold qGC
 have key: ∀n,(qGB l n).Nodup/\ ∀p∈qGB l n,p.1<n:=by
  intro n
  induction n with
  |zero=>exact⟨by simp[qGB],by simp[qGB]⟩
  |succ n ih=>
    rw[qGD]
    have h2: ∀p∈qGA l n,p.1=n:=by
     intro p hp
     unfold qGA at hp
     obtain⟨k,_,rfl⟩:=List.mem_map.1 hp
     rfl
    refine⟨List.nodup_append.2 ⟨ih.1,?_,fun a ha b hb e=> ?_⟩,fun p hp=> ?_⟩
    ·unfold qGA
     exact List.Pairwise.map _ (fun a b h e=>h (Prod.mk.inj e).2) List.nodup_range
    ·have h3:=ih.2 a ha
     have h4:=h2 b hb
     rw[e]at h3;omega
    ·rcases List.mem_append.1 hp with h|h
     ·have:=ih.2 p h;omega
     ·have:=h2 p h;omega
 exact(key _).1
structure CorSt (F m:List (List Nat)) (dn:List Bool) (n:Nat):Prop where
 near:Near F m
 cnt:cntF m=n
 len:dn.length=(qGC F).length
 no: ∀i,i<(qGC F).length->dn.getD i default=false->atW m ((qGC F).getD i default).1 ((qGC F).getD i default).2=atW F ((qGC F).getD i default).1 ((qGC F).getD i default).2
theorem qJo{F:List (List Nat)}{i:Nat}(h:i<(qGC F).length):inW F ((qGC F).getD i default).1 ((qGC F).getD i default).2:=by
 rw[List.getD_eq_getElem?_getD,List.getElem?_eq_getElem h]
 exact spot_mem.1 (List.getElem_mem h)
theorem CorSt.step {F m : List (List Nat)} {dn : List Bool} {n i b : Nat} (hc : ∀ ws ∈ F, ∀ w ∈ ws, chkW w = 0) (h : CorSt F m dn n) (hi : i < (qGC F).length) (hd : dn.getD i default = false) (hb : b < 64) :
  CorSt F (qH4 m ((qGC F).getD i default).1 ((qGC F).getD i default).2 b) (dn.set i true) (n+1):=by
 have hin:=qJo hi
 have he:=h.no i hi hd
 have him:inW m ((qGC F).getD i default).1 ((qGC F).getD i default).2:=(qHd h.near.size _ _).2 hin
 obtain⟨ws,hw1,hw2⟩:=qHf hin
 have h0:=hc ws hw1 _ hw2
 refine⟨h.near.flip hin hb he,?_,by rw[List.length_set,h.len],fun j hj hdj=> ?_⟩
 ·have hf:=qHj (b:=b) him
  rw[he,h0,(qA2 h0 hb).1]at hf
  have hcn:=h.cnt
  simp only[show ¬(0=1)from by decide,if_false,if_true]at hf
  show qHg _=_
  have:qHg m=n:=hcn
  omega
 ·have hji:j≠i:=by
   rintro rfl
   rw[List.getD_eq_getElem?_getD,List.getElem?_set_self (by rw[h.len];exact hi)]at hdj
   cases hdj
  have hdj2:dn.getD j default=false:=by
   rw[List.getD_eq_getElem?_getD,List.getElem?_set_ne (Ne.symm hji),<- List.getD_eq_getElem?_getD]at hdj
   exact hdj
  rw[qH7 him,if_neg]
  ·exact h.no j hj hdj2
  ·rintro⟨e1,e2⟩
   have e:(qGC F).getD i default=(qGC F).getD j default:=Prod.ext e1 e2
   rw[List.getD_eq_getElem?_getD,List.getD_eq_getElem?_getD,List.getElem?_eq_getElem hi,List.getElem?_eq_getElem hj]at e
   exact hji ((List.getElem_inj (qJn F)).1 e).symm
end Go.Proofs.YtecoaapkcnhlhaaDoor
namespace Go.Proofs.YtecoaapkcnhlhaaDoor
open Go Go.Vc Go.Ham Txt
def k3By(k:List (Int×Int×Int)):Prop:= ∀e∈k,(0<=e.1/\e.1<=255)/\(0<=e.2.1/\e.2.1<=255)/\0<=e.2.2/\e.2.2<=255
end Go.Proofs.YtecoaapkcnhlhaaDoor
namespace Go.Proofs.YtecoaapkcnhlhaaDoor
open Go Go.Vc Go.Ham Txt
theorem qJr {P : Program} {w : World} {g t e : Nat} {D : DataW Unit} (hg : P.globalNamed "math/bits.deBruijn64tab" = some g) (ht : (P.globals[g]?).map (·.type) = some t) (hu : P.underlying t = some (.array 64 e)) (he : P.underlying e = some (.int .u8)) (hc : P.cellsOf e = 1)
  (hn : D.handleName?.isNone = true) (hD : D = .agg (tzTab.map fun n => .lit (.int .u8 (n : Nat)))) (h : laidMetH P [("math/bits.deBruijn64tab", D)] w) : GL P w := by
 rw[MakeChecks.laidMetH_plain _ _ _ (by simp[hn])]at h
 obtain⟨ps,⟨g0,t0,cs0,f0,p0,q0,hg0,ht0,hv0,hd0,_,_⟩,_,_⟩:=h
 obtain rfl:=Option.some.inj (hg.symm.trans hg0)
 obtain rfl:=Option.some.inj (ht.symm.trans ht0)
 obtain⟨xs,m1,rfl,hx1,hlen,hn3,hel⟩:=DataW.trod_array hu hd0
 intro g' hg' j hj
 obtain rfl:=Option.some.inj (hg.symm.trans hg')
 have h0:=hel j hj
 rw[hc]at h0
 have hjx:j<xs.length:=by omega
 rw[List.getElem?_eq_getElem hjx]at h0
 obtain⟨k,e1,e2,_⟩:=DataW.trod_int he h0
 simp only[Prod.mk.injEq]at hx1
 have hx:=hx1.1
 rw[hD]at hx
 injection hx with hx
 have h2:(xs.map (·.1))[j]? =some (.lit (.int .u8 k)):=by
  rw[List.getElem?_map,List.getElem?_eq_getElem hjx,e2];rfl
 rw[<- hx]at h2
 have hjt:j<tzTab.length:=hj
 rw[List.getElem?_map,List.getElem?_eq_getElem hjt]at h2
 have hk:k=(tzTab[j]:Nat):=by simpa using h2.symm
 rw[World.var?_cell hg hv0 j,List.getD_eq_getElem?_getD,List.getElem?_eq_getElem hjt]
 have h3:=congrArg (·[0]?) e1
 simp[List.getElem?_take,List.getElem?_drop]at h3
 rw[h3,hk]
 rfl
theorem qJs{c:PV}(h:qrI (.sl 3 [.i .u8,.i .u8,.i .u8]) c): ∃k:List (Int×Int×Int),c= .sl true 3 (rows k3C k)/\(k.length:Int)<=9223372036854775807/\k3By k:=by
 obtain⟨rs,rfl,h1,h2⟩:=qzj h
 obtain⟨k,rfl,hk⟩:=qzk (f:=k3C) (Q:=fun e=>(0<=e.1/\e.1<=255)/\(0<=e.2.1/\e.2.1<=255)/\0<=e.2.2/\e.2.2<=255) (rs:=rs) fun r hr=>by
  obtain⟨c,q,rfl,hc,h3⟩:=qmq (h2 r hr)
  obtain⟨n,rfl,hn⟩:=qzh hc
  obtain⟨c,q,rfl,hc,h4⟩:=qmq h3
  obtain⟨m,rfl,hm⟩:=qzh hc
  obtain⟨c,q,rfl,hc,h5⟩:=qmq h4
  obtain⟨o,rfl,ho⟩:=qzh hc
  rw[qzf h5]
  exact⟨(n,m,o),rfl,hn,hm,ho⟩
 simp only[rows,List.length_map]at h1
 have:maxLen=9223372036854775807:=rfl
 exact⟨k,rfl,by omega,hk⟩
theorem qJt{c:PV}(h:qrI (.sl 1 [.sl 1 [.i .u64]]) c): ∃L:List (List Nat),c= .sl true 1 (rows (frmC true) L)/\(L.length:Int)<=9223372036854775807:=by
 obtain⟨rs,rfl,h1,h2⟩:=qzj h
 obtain⟨L,rfl,_⟩:=qzk (f:=frmC true) (Q:=fun _=>True) (rs:=rs) fun r hr=>by
  obtain⟨c,q,rfl,hc,h3⟩:=qmq (h2 r hr)
  obtain⟨ss,rfl,_,h4⟩:=qzj hc
  obtain⟨l,rfl,_⟩:=qzk (f:=fun n:Nat=>[PV.sc (.int .u64 (n:Int))]) (Q:=fun _=>True) (rs:=ss) fun r hr=>by
   obtain⟨c,q,rfl,hc,h5⟩:=qmq (h4 r hr)
   obtain⟨n,rfl,hn,_⟩:=qzg hc
   rw[qzf h5]
   have hn:(0:Int)<=n:=hn
   exact⟨n.toNat,by rw[Int.toNat_of_nonneg hn],trivial⟩
  rw[qzf h3]
  exact⟨l,by simp only[frmC,rows,nats,u64C,List.map_map];rfl,trivial⟩
 simp only[rows,List.length_map]at h1
 have:maxLen=9223372036854775807:=rfl
 exact⟨L,rfl,by omega⟩
def qJu:List Ty:=[.sl 1 [.sl 1 [.i .u64]],.sl 1 [.i .i64],.sl 1 [.i .i64],.sl 1 [.i .i64],.sl 1 [.i .i64],.i .i64,.i .i64,.i .i64,.i .i64,.sl 3 [.i .u8,.i .u8,.i .u8]]
theorem qJv{a:List PV}(h:RowV qJu a): ∃z:Odd38,(z.L.length:Int)<=9223372036854775807/\a=qJe true z:=by
 obtain⟨c0,a0,rfl,h0,k0⟩:=qmq h
 obtain⟨c1,a1,rfl,h1,k1⟩:=qmq k0
 obtain⟨c2,a2,rfl,h2,k2⟩:=qmq k1
 obtain⟨c3,a3,rfl,h3,k3⟩:=qmq k2
 obtain⟨c4,a4,rfl,h4,k4⟩:=qmq k3
 obtain⟨c5,a5,rfl,h5,k5⟩:=qmq k4
 obtain⟨c6,a6,rfl,h6,k6⟩:=qmq k5
 obtain⟨c7,a7,rfl,h7,k7⟩:=qmq k6
 obtain⟨c8,a8,rfl,h8,k8⟩:=qmq k7
 obtain⟨c9,a9,rfl,h9,k9⟩:=qmq k8
 obtain⟨L,rfl,hL⟩:=qJt h0
 obtain⟨l1,rfl,_⟩:=qzm h1
 obtain⟨l2,rfl,_⟩:=qzm h2
 obtain⟨l3,rfl,_⟩:=qzm h3
 obtain⟨l4,rfl,_⟩:=qzm h4
 obtain⟨n5,rfl,_⟩:=qzi h5
 obtain⟨n6,rfl,_⟩:=qzi h6
 obtain⟨n7,rfl,_⟩:=qzi h7
 obtain⟨n8,rfl,_⟩:=qzi h8
 obtain⟨k,rfl,_⟩:=qJs h9
 rw[qzf k9]
 exact⟨⟨L,⟨l1,l2,l3,l4⟩,⟨n5,n6,n7⟩,n8,k⟩,hL,rfl⟩
theorem qJw(x:RawG):Sub (.agg (qyE true x)) (.agg (qyE false x)):=Sub.aggL ⟨.refl _,.refl _,.refl _,.refl _,.slp _ _ _ _ (fun h=>by cases h),trivial⟩
theorem qJx(z:Odd38):Sub (.agg (qJe true z)) (.agg (qJe false z)):=
 Sub.aggL ⟨qIZ true _,.slp _ _ _ _ (fun h=>by cases h),.slp _ _ _ _ (fun h=>by cases h),.slp _ _ _ _ (fun h=>by cases h),.slp _ _ _ _ (fun h=>by cases h),.refl _,.refl _,.refl _,.refl _,.slp _ _ _ _ (fun h=>by cases h),trivial⟩
theorem qJz {f : Nat} (hok : ∀ (x : RawG), x.By -> ∀ (l : List Int), (l.length : Int) <= 9223372036854775807 -> (∀ b ∈ l, 0 <= b /\ b <= 255) -> ∀ z : Odd38, (z.L.length : Int) <= 9223372036854775807 ->
   FnEq Tryd.prog f [.agg (qyE false x),.sl false 1 (qkb l),.agg (qJe false z)] (.bool true))
  {a c:List PV} {b:PV} (ha:RowV qze a) (hb:qrI (.sl 1 [.i .u8]) b) (hc:RowV qJu c):FnEq Tryd.prog f [.agg a,b,.agg c] (.bool true):=by
 obtain⟨x,hx,rfl⟩:=qzo ha
 obtain⟨l,rfl,h1,h2⟩:=qzl hb
 obtain⟨z,hz,rfl⟩:=qJv hc
 exact FnOK.sub (hok x hx l h1 h2 z hz) ⟨qJw x,.slp _ _ _ _ (fun h=>by cases h),qJx z,trivial⟩
end Go.Proofs.YtecoaapkcnhlhaaDoor
namespace Go.Proofs.YtecoaapkcnhlhaaDoor
open Go Go.ChangeShapes Go.WideShapes Go.ChangeAt Go.RowKit Go.Vc
theorem qJA:qrH Tryd.prog 9 24 qze=true:=by kernel_rfl
theorem slU:Tryd.prog.underlying 22=some (.slice 5):=by kernel_rfl
theorem qJB:qrH Tryd.prog 9 22 [.sl 1 [.i .u8]]=true:=by kernel_rfl
theorem qJC:qrH Tryd.prog 9 33 qJu=true:=by kernel_rfl
theorem Tryd.own:ownKnob Tryd.prog.godebug=none:=by kernel_rfl
theorem Tryd.laidOut:laidOutB Tryd.prog=true:=by kernel_rfl
theorem qJD:Tryd.prog.underlying 4=some .bool:=by kernel_rfl
theorem qJE:Tryd.f3.params= #[24,22,33]:=by kernel_rfl
def qJF : List (String × DataW Unit) := [("math/bits.deBruijn64tab", Rows.laid_math_bits_deBruijn64tab)]
theorem qJG(os:Os)(args:Array Value):laidMetH Tryd.prog qJF ((World.doorLaid Tryd.prog 14 os).forCall (fun _ _=>0) ⟨#[],args,[]⟩).memory:=
 laidMetH_of_parts3 (fuel:=8) (laidMet_of_run' 8 (by kernel_rfl) (by kernel_rfl)) (by kernel_rfl) (by kernel_rfl)
theorem qJH{w:World}(h:laidMetH Tryd.prog qJF w):GL Tryd.prog w:=
 qJr (g:=0) (t:=135) (e:=5) (D:=Rows.laid_math_bits_deBruijn64tab) (by kernel_rfl) (by kernel_rfl) (by kernel_rfl) (by kernel_rfl) (by kernel_rfl) (by kernel_rfl) (by rfl) h
set_option maxRecDepth 100000 in
theorem roundtrip_lifted (os : Os) (started : os.Started) (H : Type) (enc : TypeId × Value -> H) :
  ReturnsInHanded {} Tryd.checked os 3 .any (fun w args=>(Rows.framesRoundTripSpec.pre enc Tryd.prog Tryd.f3 [] false w args/\laidMetH Tryd.prog qJF w)/\sizedMet enc Tryd.prog Tryd.f3 (OpenSpec.ofChange Rows.framesRoundTripSpec) false w args) (Rows.framesRoundTripSpec.post enc Tryd.prog Tryd.f3 false true false false):=by
 refine returnsInHanded_of_change_and (C:=Tryd.checked) (X:=fun w _=>laidMetH Tryd.prog qJF w) (fun _ _ _ hh h=>h.of_heap hh) Tryd.own started (by kernel_rfl) Tryd.func3
  (ChangeSpec.witness_shaped (enc:=enc) (C:=Tryd.checked) (os:=os) (X:=fun w _=>laidMetH Tryd.prog qJF w) false (World.doorLaid Tryd.prog 14 os) #[.agg #[.int .u8 0,.int .u8 0,.int .u8 0,.int .u8 0,.slice none 0 0],.slice none 0 0,.agg #[.slice none 0 0,.slice none 0 0,.slice none 0 0,.slice none 0 0,.slice none 0 0,.int .i64 0,.int .i64 0,.int .i64 0,.int .i64 0,.slice none 0 0]] 8 rfl (World.shaped_of_RefB (by kernel_rfl) (by kernel_rfl)) (by kernel_rfl) (by kernel_rfl) (by kernel_rfl) (qJG os _)) ?_
 intro W base args ds gs before hval0 hW _ _ hL _
 have hval: ∀(j:Nat) t v,Tryd.f3.params[j]? =some t->args[j]? =some v->Value.okWide Tryd.prog W .any base t v:=hval0
 have hW' :=hW
 obtain⟨p,q,hA0,hV,rfl,hfz,hnd⟩:=hW
 have hA:DataW.TrodAll enc Tryd.prog W 0 (fun _=>true) true Tryd.f3.params.toList args.toList ds p:=hA0
 rw[qJE]at hA hval
 obtain⟨v0,v1,v2,d0,d1,d2,p0,p1,p2,rfl,rfl,rfl,h0,h1,h2⟩:=trodAll_three hA
 obtain⟨rfl,rfl⟩:=trodVars_none hV
 obtain⟨a,ra,ta⟩:=qrR qJA (by kernel_rfl) (hval 0 _ v0 rfl rfl) h0
 obtain⟨b,rb,tb⟩:=argC qJB (okSl slU (hval 1 _ v1 rfl rfl)) h1
 obtain⟨c,rc,tc⟩:=qrR qJC (by kernel_rfl) (hval 2 _ v2 rfl rfl) h2
 have hlt: ∀x∈p0++p1++p2,x.block<W.heap.size:=fun x hx=>hW'.lt x (by simpa using hx)
 refine(qrT (qJH hL) (qJz qJm ra rb rc) rfl fun j cc hj=> ?_).mono fun e W' ⟨he,hb⟩=> ?_
 ·match j with
  |0=>simp at hj;subst hj;exact ta
  |1=>simp at hj;subst hj;exact tb
  |2=>simp at hj;subst hj;exact tc
  |j+3=>simp at hj
 ·refine⟨_,he,_,_,_,[],_,[],hW',?_,trodAll_mk3 (Below.trod Tryd.laidOut (by kernel_rfl) (of_decide_eq_true (by kernel_rfl)) h0 hb fun x hx=>hlt x (by simp[hx])) (Below.trod Tryd.laidOut (by kernel_rfl) (of_decide_eq_true (by kernel_rfl)) h1 hb fun x hx=>hlt x (by simp[hx])) (Below.trod Tryd.laidOut (by kernel_rfl) (of_decide_eq_true (by kernel_rfl)) h2 hb fun x hx=>hlt x (by simp[hx])),rfl,hb.frame _,fun h=>by cases h⟩
  exact trodAll_mk1 (shut_bool qJD true)
theorem qJI:Rows.FramesRoundTripSaid:=
 OpenClaim.holds_of_wide 3 Tryd.f3 rfl rfl rfl rfl rfl rfl rfl ⟨rfl,rfl,rfl,rfl,rfl⟩ rfl rfl rfl rfl rfl (by kernel_rfl) Tryd.func3 (by kernel_rfl)
  (of_decide_eq_true (by kernel_rfl)) (by unfold Func.isWrapper;first|(rw[if_pos (by decide+kernel)];kernel_rfl)|(rw[if_neg (by decide+kernel)];exact⟨rfl,rfl⟩))
  (fun os started H enc _=>roundtrip_lifted os started H enc)
theorem roundtrip_holds:Rows.FramesRoundTripCardSaid:=
 Claim7.holds_tied_plain_at .later [] [.data] true (true, "6afa5beab4d2fefd3b52fb88c1a8a89648d53ce22376a0ca7c24627d0a83933b") false
  qJI (fun _ h=>by cases h) (by kernel_rfl) (fun _ h=>by cases h) framesRoundTrip_row_tie rfl ⟨rfl,rfl⟩ (by kernel_rfl) rfl
  (fun f fn hf hfn=>by
   obtain rfl : f = 3 := Option.some.inj ((show Tryd.prog.funcNamed "wireloom/wireloomlaw38.FramesRoundTrip" = some 3 by kernel_rfl).symm.trans hf) |>.symm
   obtain rfl:fn=Tryd.f3:=(Option.some.inj (Tryd.func3.symm.trans hfn)).symm
   exact⟨by kernel_rfl,fun j t ht=>by
    rw[qJE]at ht
    have hm:t∈[24,22,33]:=by simpa using Array.mem_of_getElem? ht
    have hall:([24,22,33].all fun u=> !Tryd.prog.wantsStandIn u)=true:=by kernel_rfl
    exact(show Tryd.prog.wantsStandIn t=false by simpa using List.all_eq_true.1 hall t hm)⟩)
  (by kernel_rfl)
end Go.Proofs.YtecoaapkcnhlhaaDoor
