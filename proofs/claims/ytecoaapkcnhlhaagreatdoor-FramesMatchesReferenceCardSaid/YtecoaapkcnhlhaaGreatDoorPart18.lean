/- KS KT PMatches38: FramesMatchesReference: the row and its card. -/
import Derived.Test.YtecoaapkcnhlhaaGreatDoorPart16
import Derived.Test.YtecoaapkcnhlhaaGreatDoorPart17
import Derived.Test.YtecoaapkcnhlhaaGreatDoorPart15
import Derived.Test.YtecoaapkcnhlhaaGreatDoorRows
import Derived.Test.YtecoaapkcnhlhaaGreatDoorCards
import Derived.Test.YtecoaapkcnhlhaaGreatDoorTie
import Derived.ProofKit
import Derived.LaidMore
import Derived.SevenTiedAt
set_option linter.unusedSimpArgs false
set_option linter.unusedVariables false
open List renaming length_append->zU,take_of_length_le->zY,mem_append->yC,all_eq_true->yE,length_map->yG,map_append->yH
open Int renaming reduceToNat->zH,reduceNeg->zJ
open Nat renaming reduceEqDiff->zA,reduceAdd->zB,reduceSub->zC,reduceMul->zD,reduceBEq->zE,reduceLT->zF,reduceLeDiff->zG
namespace Go.Proofs.YtecoaapkcnhlhaaGreatDoor
open Go Go.Vc Go.Ham Txt
def slC(q:Bool×List (List PV)):List PV:=[.sl q.1 1 q.2]
@[push_cast] theorem qLF(q:Bool×List (List PV)):slC q=[.sl q.1 1 q.2]:=rfl
theorem qLG(F L:List (List Nat)):Sub (.sl true 1 ((rows (frmC true) F++rows (frmC false) L).take (F.length+L.length))) (.sl false 1 (rows (frmC false) (F++L))):=by
 rw[zY (by rw[zU,qkk,qkk];exact Nat.le_refl _)]
 have h:=qG3 (p:=true) (q:=false) (es:=1) (l:=F.map (fun w=>(true,w))++L.map (fun w=>(false,w))) (fun q:Bool×List Nat=>frmC q.1 q.2) (fun q=>frmC false q.2) (fun h=>by cases h) (fun _ _=>rfl) fun q _=>⟨.slp _ _ _ _ (fun h=>by cases h),trivial⟩
 simp only[yH,List.map_map]at h
 unfold rows
 rw[yH]
 exact h
theorem qLH{w:Nat}(h:w<2^64):fixW w<2^64:=by
 by_cases hc:chkW w=2
 ·rw[qHY hc];exact h
 ·rw[qHZ hc];exact qA6 _
theorem qLI{l:List (List Nat)}(h:FrmSm l):FrmSm (scrF l):=by
 refine⟨fun ws hw=> ?_,by unfold scrF;rw[yG];exact h.n,fun ws hw=> ?_⟩
 ·obtain⟨ws',h1,rfl⟩:=List.mem_map.1 hw
  intro w hw
  obtain⟨w',h2,rfl⟩:=List.mem_map.1 hw
  exact qLH (h.ok ws' h1 w' h2)
 ·obtain⟨ws',h1,rfl⟩:=List.mem_map.1 hw
  rw[yG]
  exact h.len ws' h1
set_option maxHeartbeats 4000000 in
set_option maxRecDepth 4000 in
theorem qLJ (x : RawG) (hx : x.By) (l : List Int) (hl : (l.length : Int) <= 9223372036854775807) (hb : ∀ b ∈ l, 0 <= b /\ b <= 255) (z : Odd38) (hz : z.Sized) (hw : qDx z.L) (hKb : ∀ k ∈ z.K, (0 <= k.1 /\ k.1 <= 255) /\ 0 <= k.2.1 /\ k.2.1 <= 255) :
  FnEq Tryz.prog 3 [.agg (qyN false x),.sl false 1 (qkf l),.agg (qJn false z)] (.bool true):=by
 have hg:=(qyR x).1
 have hm:=qyQ x hx.ok
 have hwl:=qz1 (qyP x) hg l hl hb
 have hv:=qJs hg hb
 have hes:=qJt x (qyW (qyP x) l)
 have hes2:=qJt x z.c
 have hsm:=qJ0 x hx
 have hlt:=qK3 z hz
 have hen:=qJl (qyP x) hg (qyW (qyP x) l)
 have hel:=qJu (qyP x) (qyW (qyP x) l)
 have hcl:=((qDp _ _).1 hv).1
 have hren:=qL9 (qyP x) hg (qyW (qyP x) l) (qJh hg hcl)
 unfold encL encE at hen hren
 rw[if_pos hv,if_pos hv]at hen hren
 have hnw2:=hg.n.w2
 generalize qyW (qyP x) l=c at *
 generalize qyP x=g at *
 generalize hFe:qDu g c=F at *
 refine FnEq.of_awp Tryz.func3 ok3 (by show 3<=_;decide) (by simp only[push_cast,reduceIte,zA,zB,zC,zD,zE,zF,zG,reduceCtorEq,zH,zJ,cNI]<;>first|exact fun _ _=>trivial|simp) ?_
 simp only[ac3,rv3,push_cast,reduceIte,zA,zB,zC,zD,zE,zF,zG,reduceCtorEq,zH,zJ,cNI]
 refine qoM qJg ?_
 refine sB ?_
 refine qoM hsm ?_
 refine sB ?_
 refine qrC rfl (fun e=> ?_) fun e=> ?_<;>simp only[push_cast,reduceIte,zA,zB,zC,zD,zE,zF,zG,reduceCtorEq,zH,zJ,cNI]
 refine qoM hlt ?_
 refine sB ?_
 refine qrC rfl (fun e2=> ?_) fun e2=> ?_<;>simp only[push_cast,reduceIte,zA,zB,zC,zD,zE,zF,zG,reduceCtorEq,zH,zJ,cNI]
 refine qnY (fun h=>trivial) fun h=> ?_
 have hLi:qK2 z<=600:=by simpa using e2
 have hLs:=qK5 hw hLi
 refine qoM hm ?_
 refine sB ?_
 refine qrv hwl sC ?_
 refine sB ?_
 refine qrv hen sC ?_
 refine sB ?_
 have gS:Sub (.agg (quX true g)) (.agg (quX false g)):=Sub.aggL ⟨.refl _,.refl _,.refl _,.refl _,.slp _ _ _ _ (fun h=>by cases h),trivial⟩
 have cS: ∀c:Cfg,Sub (.agg (cfgC true c)) (.agg (cfgC false c)):=fun c=>Sub.aggL ⟨.slp _ _ _ _ (fun h=>by cases h),.slp _ _ _ _ (fun h=>by cases h),.slp _ _ _ _ (fun h=>by cases h),.slp _ _ _ _ (fun h=>by cases h),trivial⟩
 have hzc:CfgSm z.c:=by unfold qK2 qK1 at hLi;exact⟨oM,oM,oM,oM⟩
 have hezr:=qL9 g hg z.c hzc
 have hez:=qJl g hg z.c
 have hZs:FrmSm (encL g z.c):=by
  unfold encL
  split
  ·exact hes2
  ·exact⟨fun _ h=>absurd h (by simp),by simp,fun _ h=>absurd h (by simp)⟩
 generalize encL g z.c=Z at *
 generalize encE g z.c=eZ at *
 refine qrv hez (by exact⟨gS,.refl _,trivial⟩) ?_
 refine sB ?_
 refine qrv hezr (by exact⟨gS,.refl _,trivial⟩) ?_
 refine sB ?_
 have sF:=qGC F F hes hes
 have sZ:=qGC Z Z hZs hZs
 rw[decide_eq_true rfl]at sF sZ
 have hsz:=qEa g hg
 have hrsz:=qKV g hg
 have hsl:=qIO g
 have hii:=qGv ((qDt g).map Int.ofNat) ((qDt g).map Int.ofNat) (by rw[yG,hsl];omega) (by rw[yG,hsl];omega)
 rw[decide_eq_true rfl]at hii
 have hc1:=qLD g hg z.n
 have hc2:=qLE g hg z.n
 have iS: ∀l:List Int,Sub (.sl true 1 (ints l)) (.sl false 1 (ints l)):=fun l=> .slp _ _ _ _ (fun h=>by cases h)
 have nS: ∀p q:Prop,True:=fun _ _=>trivial
 refine qrE rfl (fun e=>absurd rfl e) fun _=> ?_
 refine sB ?_
 refine qrx hren (by exact⟨gS,cS c,trivial⟩) rfl ?_
 refine sB ?_
 refine qrv sF (by exact⟨qJ8 true F,qJ8 true F,trivial⟩) ?_
 refine sB ?_
 refine qrE rfl (fun e=>absurd rfl e) fun _=> ?_
 refine sB ?_
 refine qrv sZ (by exact⟨qJ8 true Z,qJ8 true Z,trivial⟩) ?_
 refine sB ?_
 refine qrx hsz (by exact⟨gS,trivial⟩) rfl ?_
 refine sB ?_
 refine qrv hrsz (by exact⟨gS,trivial⟩) ?_
 refine sB ?_
 refine qrv hii (by exact⟨iS _,iS _,trivial⟩) ?_
 refine sB ?_
 refine qrx hc1 (by exact⟨gS,.refl _,trivial⟩) rfl ?_
 refine sB ?_
 refine qrv hc2 (by exact⟨gS,.refl _,trivial⟩) ?_
 refine sB ?_
 refine qnY (fun e=>absurd rfl e) fun _=> ?_
 have hKl:z.K.length<=1000:=by unfold qK2 qK1 at hLi;omega
 have hspo:=qKJ F hes z.K hKl hKb
 refine qrx hspo (by exact⟨.refl _,.refl _,trivial⟩) rfl ?_
 have hLn:z.L.length<=900:=hLs.n
 have hFn:=hes.n
 simp only[List.length_replicate,List.replicate_zero,List.nil_append,List.length_nil,zU,rep1,push_cast,reduceIte,zA,zB,zC,zD,zE,zF,zG,reduceCtorEq,zH,zJ,cNI]
 have hspm:FrmSm (spoF F z.K):=qKH hes _ _ _
 obtain⟨cs,hcs⟩: ∃cs:List (Bool×List (List PV)),cs=[(true,rows (frmC true) (spoF F z.K)),(false,rows (frmC false) z.L),(true,(rows (frmC true) F++rows (frmC false) z.L).take (F.length+z.L.length))]:=⟨_,rfl⟩
 have hxs:([[.sl true 1 (rows (frmC true) (spoF F z.K))],[.sl false 1 (rows (frmC false) z.L)],[.sl true 1 ((rows (frmC true) F++rows (frmC false) z.L).take (F.length+z.L.length))]]:List (List PV))=rows slC cs:=by rw[hcs];rfl
 have hcl3:cs.length=3:=by rw[hcs];rfl
 have hcell: ∀i,i<3-> ∃M:List (List Nat),FrmSm M/\Sub (.sl (cs.getD i default).1 1 (cs.getD i default).2) (.sl false 1 (rows (frmC false) M)):=by
  intro i hi
  rw[hcs]
  match i,hi with
  |0,_=>exact⟨_,hspm,qJ8 true _⟩
  |1,_=>exact⟨_,hLs,.refl _⟩
  |2,_=>
    refine⟨F++z.L,⟨fun ws h=> ?_,by rw[zU];unfold qK2 qK1 at hLi;omega,fun ws h=> ?_⟩,?_⟩
    ·rcases yC.1 h with h|h
     ·exact hes.ok ws h
     ·exact hLs.ok ws h
    ·rcases yC.1 h with h|h
     ·exact hes.len ws h
     ·exact hLs.len ws h
    ·exact qLG F z.L
 rw[hxs]
 clear hcs hxs
 refine⟨oM,oM,?_⟩
 refine qoP (fun m st=> ∃k:Nat,k<=3/\m=3-k/\st=⟨[(5,.ptr 5 0),(7,.bool true),(8,.ptr 8 0),(10,.ptr 10 0),(13,.view 117 0 3),(14,.int k)],[(5,qJn false z),(8,quX true g),(10,[.sl true 1 (rows (frmC true) F),.int 0])],[(117,⟨1,25,rows slC cs⟩)],[]⟩) 3 ⟨0,oM,oM,?_⟩ ?_
 ·exact sC
 rintro m st ⟨k,hk,rfl,rfl⟩
 refine sB ?_
 refine qnY (fun h2=> ?_) fun h2=> ?_
 ·have hk3:k<3:=by omega
  obtain⟨M,hM,hS⟩:=hcell k hk3
  have hDc: ∃(D:Cfg) (N E:Int),CfgSm D/\FnEq Tryz.prog 18 [.agg (quX false g),.sl false 1 (rows (frmC false) M)] (.agg (dcdC true D N E))/\FnEq Tryz.prog 19 [.agg (quX false g),.sl false 1 (rows (frmC false) M)] (.agg (dcdC true D N E)):=by
   by_cases hd:Dec38 g M
   ·exact⟨decG g M,_,0,qJh hg (qDo hg _).1,qIY g hg M hM hd,qLw g hg M hM (qLu g M) (.inl rfl) (fun _=>rfl) fun h=>absurd hd h⟩
   ·exact⟨cfg0,0,380,⟨by decide,by decide,by decide,by decide⟩,qIZ g hg M hM hd,qLw g hg M hM qLv (.inr rfl) (fun h=>absurd h hd) fun _=>rfl⟩
  obtain⟨D,N,E,hDs,hd1,hd2⟩:=hDc
  have hs1:=qIW M hM
  have hs2:=qLz M hM
  have hf1:=qIU M hM z.f
  have hf2:=qKF M hM z.f
  have hg1:=qF2 M hM
  have hg2:=qLC M hM
  have he1:=qGH M F hM hes
  have he2:=qGA M F hM hes
  have hFF:FrmSm (fldF M z.f):=qKG hM z.f
  have hSS:FrmSm (scrF M):=qLI hM
  have hMn:=hM.n
  have bl:=qI4 M M.length
  have dl:(qGw M F).length<=max M.length F.length:=qGy M F (max M.length F.length)
  generalize fldF M z.f=fF at *
  generalize fldE M z.f=fE at *
  generalize scrF M=sM at *
  generalize badN M M.length=bM at *
  generalize cntF M=nM at *
  generalize digF M=gM at *
  generalize qGw M F=dM at *
  refine⟨oM,oM,?_⟩
  refine qrx hd1 (by exact⟨gS,hS,trivial⟩) rfl ?_
  refine sB ?_
  refine⟨oM,oM,?_⟩
  refine qrx hd2 (by exact⟨gS,hS,trivial⟩) rfl ?_
  refine sB ?_
  refine⟨oM,oM,?_⟩
  refine qrv hs1 (by exact⟨hS,trivial⟩) ?_
  refine sB ?_
  refine⟨oM,oM,?_⟩
  refine qrv hs2 (by exact⟨hS,trivial⟩) ?_
  refine sB ?_
  refine⟨oM,oM,?_⟩
  refine qrx hf1 (by exact⟨hS,.refl _,trivial⟩) rfl ?_
  simp -implicitDefEqProofs only[push_cast,reduceIte,zA,zB,zC,zD,zE,zF,zG,reduceCtorEq,zH,zJ,cNI]
  refine⟨oM,oM,?_⟩
  refine qrx hf2 (by exact⟨hS,.refl _,trivial⟩) rfl ?_
  simp -implicitDefEqProofs only[push_cast,reduceIte,zA,zB,zC,zD,zE,zF,zG,reduceCtorEq,zH,zJ,cNI]
  refine qrE rfl (fun e=>absurd rfl e) fun _=> ?_
  simp -implicitDefEqProofs only[push_cast,reduceIte,zA,zB,zC,zD,zE,zF,zG,reduceCtorEq,zH,zJ,cNI]
  refine qrE rfl (fun e=>absurd rfl e) fun _=> ?_
  simp -implicitDefEqProofs only[push_cast,reduceIte,zA,zB,zC,zD,zE,zF,zG,reduceCtorEq,zH,zJ,cNI]
  have k1:=qyG D D hDs hDs
  have k2:=qGC (sM) (sM) hSS hSS
  have k3:=qGv (bM) (bM) oM oM
  have k4:=qGC (fF) (fF) hFF hFF
  have k5:=qGv (dM) (dM) oM oM
  rw[decide_eq_true rfl]at k1 k2 k3 k4 k5
  refine qrv k1 (by exact⟨cS D,cS D,trivial⟩) ?_
  simp -implicitDefEqProofs only[push_cast,reduceIte,zA,zB,zC,zD,zE,zF,zG,reduceCtorEq,zH,zJ,cNI]
  refine qrE rfl (fun e=>absurd rfl e) fun _=> ?_
  simp -implicitDefEqProofs only[push_cast,reduceIte,zA,zB,zC,zD,zE,zF,zG,reduceCtorEq,zH,zJ,cNI]
  refine qrv k2 (by exact⟨qJ8 true _,qJ8 true _,trivial⟩) ?_
  simp -implicitDefEqProofs only[push_cast,reduceIte,zA,zB,zC,zD,zE,zF,zG,reduceCtorEq,zH,zJ,cNI]
  refine qrv k3 (by exact⟨iS _,iS _,trivial⟩) ?_
  simp -implicitDefEqProofs only[push_cast,reduceIte,zA,zB,zC,zD,zE,zF,zG,reduceCtorEq,zH,zJ,cNI]
  refine qrE rfl (fun e=>absurd rfl e) fun _=> ?_
  simp -implicitDefEqProofs only[push_cast,reduceIte,zA,zB,zC,zD,zE,zF,zG,reduceCtorEq,zH,zJ,cNI]
  refine qrv k4 (by exact⟨qJ8 true _,qJ8 true _,trivial⟩) ?_
  simp -implicitDefEqProofs only[push_cast,reduceIte,zA,zB,zC,zD,zE,zF,zG,reduceCtorEq,zH,zJ,cNI]
  have nE: ∀n:Nat,(Value.int IntKind.u64 (n:Int)≠Value.int IntKind.u64 (n:Int))->False:=fun _ h=>h rfl
  refine⟨oM,oM,?_⟩
  refine qrx hg1 (by exact⟨hS,trivial⟩) rfl ?_
  simp -implicitDefEqProofs only[push_cast,reduceIte,zA,zB,zC,zD,zE,zF,zG,reduceCtorEq,zH,zJ,cNI]
  refine⟨oM,oM,?_⟩
  refine qrv hg2 (by exact⟨hS,trivial⟩) ?_
  simp -implicitDefEqProofs only[push_cast,reduceIte,zA,zB,zC,zD,zE,zF,zG,reduceCtorEq,zH,zJ,cNI]
  refine qrE rfl (fun e=>absurd rfl e) fun _=> ?_
  simp -implicitDefEqProofs only[push_cast,reduceIte,zA,zB,zC,zD,zE,zF,zG,reduceCtorEq,zH,zJ,cNI]
  refine⟨oM,oM,?_⟩
  refine qrx he1 (by exact⟨hS,qJ8 true _,trivial⟩) rfl ?_
  simp -implicitDefEqProofs only[push_cast,reduceIte,zA,zB,zC,zD,zE,zF,zG,reduceCtorEq,zH,zJ,cNI]
  refine⟨oM,oM,?_⟩
  refine qrv he2 (by exact⟨hS,qJ8 true _,trivial⟩) ?_
  simp -implicitDefEqProofs only[push_cast,reduceIte,zA,zB,zC,zD,zE,zF,zG,reduceCtorEq,zH,zJ,cNI]
  refine qrv k5 (by exact⟨iS _,iS _,trivial⟩) ?_
  simp -implicitDefEqProofs only[push_cast,reduceIte,zA,zB,zC,zD,zE,zF,zG,reduceCtorEq,zH,zJ,cNI]
  exact⟨⟨oM,oM⟩,3-(k+1),oM,k+1,oM,rfl,rfl⟩
 ·trivial
end Go.Proofs.YtecoaapkcnhlhaaGreatDoor
namespace Go.Proofs.YtecoaapkcnhlhaaGreatDoor
open Go Go.Vc Go.Ham Txt
theorem qLK{B:Nat}{c:PV}(h:CellB B (.sl 3 [.i .u8,.i .u8,.i .u8]) c): ∃k:List (Int×Int×Int),c= .sl true 3 (rows k3C k)/\k.length<=B/\ ∀x∈k,(0<=x.1/\x.1<=255)/\0<=x.2.1/\x.2.1<=255:=by
 obtain⟨rs,rfl,h1,h2⟩:=qKg h
 obtain⟨k,rfl,hk⟩:=qzt (f:=k3C) (Q:=fun x:Int×Int×Int=>(0<=x.1/\x.1<=255)/\0<=x.2.1/\x.2.1<=255) (rs:=rs) fun r hr=>by
  obtain⟨c,q,rfl,hc,h3⟩:=qKe (h2 r hr)
  obtain⟨n,rfl,hn⟩:=qKf hc
  obtain⟨c,q,rfl,hc,h4⟩:=qKe h3
  obtain⟨m,rfl,hm⟩:=qKf hc
  obtain⟨c,q,rfl,hc,h5⟩:=qKe h4
  obtain⟨o,rfl,ho⟩:=qKf hc
  rw[qKd h5]
  exact⟨(n,m,o),rfl,hn,hm⟩
 simp only[rows,yG]at h1
 exact⟨k,rfl,h1,hk⟩
theorem qLL{B:Nat}(hB:B<=140737488355328){a:List PV}(h:RowB B qJB a): ∃z:Odd38,z.Sized/\qDx z.L/\(∀k∈z.K,(0<=k.1/\k.1<=255)/\0<=k.2.1/\k.2.1<=255)/\a=qJn true z:=by
 obtain⟨c0,a0,rfl,h0,k0⟩:=qKe h
 obtain⟨c1,a1,rfl,h1,k1⟩:=qKe k0
 obtain⟨c2,a2,rfl,h2,k2⟩:=qKe k1
 obtain⟨c3,a3,rfl,h3,k3⟩:=qKe k2
 obtain⟨c4,a4,rfl,h4,k4⟩:=qKe k3
 obtain⟨c5,a5,rfl,h5,k5⟩:=qKe k4
 obtain⟨c6,a6,rfl,h6,k6⟩:=qKe k5
 obtain⟨c7,a7,rfl,h7,k7⟩:=qKe k6
 obtain⟨c8,a8,rfl,h8,k8⟩:=qKe k7
 obtain⟨c9,a9,rfl,h9,k9⟩:=qKe k8
 obtain⟨L,rfl,b0,b00⟩:=qKj h0
 obtain⟨l1,rfl,b1⟩:=qKh h1
 obtain⟨l2,rfl,b2⟩:=qKh h2
 obtain⟨l3,rfl,b3⟩:=qKh h3
 obtain⟨l4,rfl,b4⟩:=qKh h4
 obtain⟨n5,rfl,_⟩:=qKf h5
 obtain⟨n6,rfl,_⟩:=qKf h6
 obtain⟨n7,rfl,_⟩:=qKf h7
 obtain⟨n8,rfl,_⟩:=qKf h8
 obtain⟨k,rfl,b9,hk⟩:=qLK h9
 rw[qKd k9]
 exact⟨⟨L,⟨l1,l2,l3,l4⟩,⟨n5,n6,n7⟩,n8,k⟩,⟨Nat.le_trans b0 hB,Nat.le_trans b1 hB,Nat.le_trans b2 hB,Nat.le_trans b3 hB,Nat.le_trans b4 hB,Nat.le_trans b9 hB,fun ws h=>Nat.le_trans (b00 ws h).1 hB⟩,fun ws h w hw=>(b00 ws h).2 w hw,hk,rfl⟩
theorem qLM {f : Nat} (hok : ∀ (x : RawG), x.By -> ∀ (l : List Int), (l.length : Int) <= 9223372036854775807 -> (∀ b ∈ l, 0 <= b /\ b <= 255) -> ∀ z : Odd38, z.Sized -> qDx z.L -> (∀ k ∈ z.K, (0 <= k.1 /\ k.1 <= 255) /\ 0 <= k.2.1 /\ k.2.1 <= 255) ->
   FnEq Tryz.prog f [.agg (qyN false x),.sl false 1 (qkf l),.agg (qJn false z)] (.bool true))
  {a c:List PV} {b:PV} (ha:RowV qzn a) (hb:qrM (.sl 1 [.i .u8]) b) (hc:RowB reachBytes qJB c):FnEq Tryz.prog f [.agg a,b,.agg c] (.bool true):=by
 obtain⟨x,hx,rfl⟩:=qzx ha
 obtain⟨l,rfl,h1,h2⟩:=qzu hb
 obtain⟨z,q1,q2,q3,rfl⟩:=qLL (by decide) hc
 exact FnOK.sub (hok x hx l h1 h2 z q1 q2 q3) ⟨qJD x,.slp _ _ _ _ (fun h=>by cases h),qJE z,trivial⟩
end Go.Proofs.YtecoaapkcnhlhaaGreatDoor
namespace Go.Proofs.YtecoaapkcnhlhaaGreatDoor
open Go Go.ChangeShapes Go.WideShapes Go.ChangeAt Go.RowKit Go.Vc
theorem qLN:qrL Tryz.prog 9 24 qzn=true:=by kernel_rfl
theorem slU:Tryz.prog.underlying 22=some (.slice 5):=by kernel_rfl
theorem qLO:qrL Tryz.prog 9 22 [.sl 1 [.i .u8]]=true:=by kernel_rfl
theorem qLP:qrL Tryz.prog 9 33 qJB=true:=by kernel_rfl
theorem Tryz.own:ownKnob Tryz.prog.godebug=none:=by kernel_rfl
theorem Tryz.laidOut:laidOutB Tryz.prog=true:=by kernel_rfl
theorem qLQ:Tryz.prog.underlying 4=some .bool:=by kernel_rfl
theorem qLR:Tryz.f3.params= #[24,22,33]:=by kernel_rfl
def qLS : List (String × DataW Unit) := [("math/bits.deBruijn64tab", Rows.laid_math_bits_deBruijn64tab)]
theorem qLT(os:Os)(args:Array Value):laidMetH Tryz.prog qLS ((World.doorLaid Tryz.prog 14 os).forCall (fun _ _=>0) ⟨#[],args,[]⟩).memory:=
 laidMetH_of_parts3 (fuel:=8) (laidMet_of_run' 8 (by kernel_rfl) (by kernel_rfl)) (by kernel_rfl) (by kernel_rfl)
theorem qLU{w:World}(h:laidMetH Tryz.prog qLS w):GL Tryz.prog w:=
 qJy (g:=0) (t:=159) (e:=5) (D:=Rows.laid_math_bits_deBruijn64tab) (by kernel_rfl) (by kernel_rfl) (by kernel_rfl) (by kernel_rfl) (by kernel_rfl) (by kernel_rfl) (by rfl) h
set_option maxRecDepth 100000 in
theorem matches38_lifted (os : Os) (started : os.Started) (H : Type) (enc : TypeId × Value -> H) :
  ReturnsInHanded {} Tryz.checked os 3 .any (fun w args=>(Rows.framesMatchesReferenceSpec.pre enc Tryz.prog Tryz.f3 [] false w args/\laidMetH Tryz.prog qLS w)/\sizedMet enc Tryz.prog Tryz.f3 (OpenSpec.ofChange Rows.framesMatchesReferenceSpec) false w args) (Rows.framesMatchesReferenceSpec.post enc Tryz.prog Tryz.f3 false true false false):=by
 refine returnsInHanded_of_change_and (C:=Tryz.checked) (X:=fun w _=>laidMetH Tryz.prog qLS w) (fun _ _ _ hh h=>h.of_heap hh) Tryz.own started (by kernel_rfl) Tryz.func3
  (ChangeSpec.witness_shaped (enc:=enc) (C:=Tryz.checked) (os:=os) (X:=fun w _=>laidMetH Tryz.prog qLS w) false (World.doorLaid Tryz.prog 14 os) #[.agg #[.int .u8 0,.int .u8 0,.int .u8 0,.int .u8 0,.slice none 0 0],.slice none 0 0,.agg #[.slice none 0 0,.slice none 0 0,.slice none 0 0,.slice none 0 0,.slice none 0 0,.int .i64 0,.int .i64 0,.int .i64 0,.int .i64 0,.slice none 0 0]] 8 rfl (World.shaped_of_RefB (by kernel_rfl) (by kernel_rfl)) (by kernel_rfl) (by kernel_rfl) (by kernel_rfl) (qLT os _)) ?_
 intro W base args ds gs before hval0 hW _ hsz hL _
 have hval: ∀(j:Nat) t v,Tryz.f3.params[j]? =some t->args[j]? =some v->Value.okWide Tryz.prog W .any base t v:=hval0
 have hW' :=hW
 obtain⟨p,q,hA0,hV,rfl,hfz,hnd⟩:=hW
 have hA:DataW.TrodAll enc Tryz.prog W 0 (fun _=>true) true Tryz.f3.params.toList args.toList ds p:=hA0
 rw[qLR]at hA hval
 obtain⟨v0,v1,v2,d0,d1,d2,p0,p1,p2,rfl,rfl,rfl,h0,h1,h2⟩:=trodAll_three hA
 obtain⟨rfl,rfl⟩:=trodVars_none hV
 obtain⟨a,ra,ta⟩:=qrV qLN (by kernel_rfl) (hval 0 _ v0 rfl rfl) h0
 obtain⟨b,rb,tb⟩:=argC qLO (okSl slU (hval 1 _ v1 rfl rfl)) h1
 obtain⟨c,rc,tc⟩:=qrU qLP (by kernel_rfl) (hval 2 _ v2 rfl rfl) (qKc hsz (i:=2) (n:=9) (by rw[qLR];rfl) rfl (by kernel_rfl) h2) h2
 have hlt: ∀x∈p0++p1++p2,x.block<W.heap.size:=fun x hx=>hW'.lt x (by simpa using hx)
 refine(qrX (qLU hL) (qLM qLJ ra rb rc) rfl fun j cc hj=> ?_).mono fun e W' ⟨he,hb⟩=> ?_
 ·match j with
  |0=>simp at hj;subst hj;exact ta
  |1=>simp at hj;subst hj;exact tb
  |2=>simp at hj;subst hj;exact tc
  |j+3=>simp at hj
 ·refine⟨_,he,_,_,_,[],_,[],hW',?_,trodAll_mk3 (Below.trod Tryz.laidOut (by kernel_rfl) (of_decide_eq_true (by kernel_rfl)) h0 hb fun x hx=>hlt x (by simp[hx])) (Below.trod Tryz.laidOut (by kernel_rfl) (of_decide_eq_true (by kernel_rfl)) h1 hb fun x hx=>hlt x (by simp[hx])) (Below.trod Tryz.laidOut (by kernel_rfl) (of_decide_eq_true (by kernel_rfl)) h2 hb fun x hx=>hlt x (by simp[hx])),rfl,hb.frame _,fun h=>by cases h⟩
  exact trodAll_mk1 (shut_bool qLQ true)
theorem qLV:Rows.FramesMatchesReferenceSaid:=
 OpenClaim.holds_of_wide 3 Tryz.f3 rfl rfl rfl rfl rfl rfl rfl ⟨rfl,rfl,rfl,rfl,rfl⟩ rfl rfl rfl rfl rfl (by kernel_rfl) Tryz.func3 (by kernel_rfl)
  (of_decide_eq_true (by kernel_rfl)) (by unfold Func.isWrapper;first|(rw[if_pos (by decide+kernel)];kernel_rfl)|(rw[if_neg (by decide+kernel)];exact⟨rfl,rfl⟩))
  (fun os started H enc _=>matches38_lifted os started H enc)
theorem matches38_holds:Rows.FramesMatchesReferenceCardSaid:=
 Claim7.holds_tied_plain_at .later [] [.data] true (true, "3e6e4e0498a1691dfc73d4483210ba3e504cd7eb3055b041ea959862ef2c3095") false
  qLV (fun _ h=>by cases h) (by kernel_rfl) (fun _ h=>by cases h) framesMatchesReference_row_tie rfl ⟨rfl,rfl⟩ (by kernel_rfl) rfl
  (fun f fn hf hfn=>by
   obtain rfl : f = 3 := Option.some.inj ((show Tryz.prog.funcNamed "wireloom/wireloomlaw38.FramesMatchesReference" = some 3 by kernel_rfl).symm.trans hf) |>.symm
   obtain rfl:fn=Tryz.f3:=(Option.some.inj (Tryz.func3.symm.trans hfn)).symm
   exact⟨by kernel_rfl,fun j t ht=>by
    rw[qLR]at ht
    have hm:t∈[24,22,33]:=by simpa using Array.mem_of_getElem? ht
    have hall:([24,22,33].all fun u=> !Tryz.prog.wantsStandIn u)=true:=by kernel_rfl
    exact(show Tryz.prog.wantsStandIn t=false by simpa using yE.1 hall t hm)⟩)
  (by kernel_rfl)
end Go.Proofs.YtecoaapkcnhlhaaGreatDoor
