/- JF JG JH JK JL JQ TxtZ JR TxtY JT TxtX VcZzb JSa JS PCanonical: FramesCanonical: the row and its card. -/
import Derived.Test.YtecoaapkcnhlhaaDoorPart16
import Derived.Test.YtecoaapkcnhlhaaDoorPart11
import Derived.MakeChecks
import Derived.FnData
import Derived.OpenShut
import Derived.Test.YtecoaapkcnhlhaaDoorPart06
import Derived.Test.YtecoaapkcnhlhaaDoorChecked
import Derived.Test.YtecoaapkcnhlhaaDoorPart15
import Derived.Test.YtecoaapkcnhlhaaDoorPart12
import Derived.Test.YtecoaapkcnhlhaaDoorPart13
import Derived.Test.YtecoaapkcnhlhaaDoorRows
import Derived.Test.YtecoaapkcnhlhaaDoorCards
import Derived.Test.YtecoaapkcnhlhaaDoorTie
import Derived.ProofKit
import Derived.LaidMore
import Derived.SevenTiedAt
set_option linter.unusedSimpArgs false
set_option linter.unusedVariables false
open Bool renaming and_eq_true->zN,false_ne_true->zQ
open List renaming getD_eq_getElem?_getD->zK,getElem?_eq_getElem->zL,mem_of_getElem? ->zP,getElem?_map->zS,length_append->zU,length_cons->zV,map_cons->zW,take_of_length_le->zY,mem_append->yC,all_eq_true->yE,length_set->yF,length_map->yG,map_append->yH
open Int renaming reduceToNat->zH,reduceNeg->zJ
open Nat renaming reduceEqDiff->zA,reduceAdd->zB,reduceSub->zC,reduceMul->zD,reduceBEq->zE,reduceLT->zF,reduceLeDiff->zG
namespace Go.Proofs.YtecoaapkcnhlhaaDoor
open Go Go.Vc Go.Ham Txt
theorem spot_mem{l:List (List Nat)}{p:Nat×Nat} :p∈qGJ l ↔ p.1<l.length/\p.2<(l.getD p.1 []).length:=by
 unfold qGJ qGI
 rw[List.mem_flatMap]
 constructor
 ·rintro⟨i,hi,hp⟩
  have hi:=List.mem_range.1 hi
  unfold qGH at hp
  obtain⟨k,hk,rfl⟩:=List.mem_map.1 hp
  exact⟨hi,List.mem_range.1 hk⟩
 ·rintro⟨h1,h2⟩
  refine⟨p.1,List.mem_range.2 h1,?_⟩
  unfold qGH
  exact List.mem_map.2 ⟨p.2,List.mem_range.2 h2,rfl⟩
theorem qJu(l:List (List Nat)):(qGJ l).Nodup:=by
 unfold qGJ
 have key: ∀n,(qGI l n).Nodup/\ ∀p∈qGI l n,p.1<n:=by
  intro n
  induction n with
  |zero=>exact⟨by simp[qGI],by simp[qGI]⟩
  |succ n ih=>
    rw[qGK]
    have h2: ∀p∈qGH l n,p.1=n:=by
     intro p hp
     unfold qGH at hp
     obtain⟨k,_,rfl⟩:=List.mem_map.1 hp
     rfl
    refine⟨List.nodup_append.2 ⟨ih.1,?_,fun a ha b hb e=> ?_⟩,fun p hp=> ?_⟩
    ·unfold qGH
     exact List.Pairwise.map _ (fun a b h e=>h (Prod.mk.inj e).2) List.nodup_range
    ·have h3:=ih.2 a ha
     have h4:=h2 b hb
     rw[e]at h3;omega
    ·rcases yC.1 hp with h|h
     ·have:=ih.2 p h;omega
     ·have:=h2 p h;omega
 exact(key _).1
theorem Near.sm{F m:List (List Nat)}(h:Near F m)(hF:FrmSm F):FrmSm m:=by
 have hl:m.length=F.length:=by have:=congrArg List.length h.size;simpa using this
 refine⟨fun ws hws w hw=> ?_,by have:=hF.n;omega,fun ws hws=> ?_⟩
 ·obtain⟨x,k,hi,rfl⟩:=qHl hws hw
  have hiF:inW F x k:=(qHk h.size x k).1 hi
  obtain⟨ws',hw',hm'⟩:=qHm hiF
  have hb:=hF.ok ws' hw' _ hm'
  rcases h.at' x k hiF with e|⟨b,hb2,e⟩
  ·rw[e];exact hb
  ·rw[e];exact Nat.xor_lt_two_pow hb (Nat.pow_lt_pow_right (by decide) hb2)
 ·obtain⟨x,hx,rfl⟩:=List.mem_iff_getElem.1 hws
  have e:=congrArg (fun l=>l[x]?) h.size
  simp only[zS,zL hx,zL (show x<F.length by omega),Option.map_some,Option.some.injEq]at e
  rw[e]
  exact hF.len _ (List.getElem_mem _)
structure CorSt (F m:List (List Nat)) (dn:List Bool) (n:Nat):Prop where
 near:Near F m
 cnt:cntF m=n
 len:dn.length=(qGJ F).length
 no: ∀i,i<(qGJ F).length->dn.getD i default=false->atW m ((qGJ F).getD i default).1 ((qGJ F).getD i default).2=atW F ((qGJ F).getD i default).1 ((qGJ F).getD i default).2
theorem qJv{F:List (List Nat)}{i:Nat}(h:i<(qGJ F).length):inW F ((qGJ F).getD i default).1 ((qGJ F).getD i default).2:=by
 rw[zK,zL h]
 exact spot_mem.1 (List.getElem_mem h)
theorem CorSt.step {F m : List (List Nat)} {dn : List Bool} {n i b : Nat} (hc : ∀ ws ∈ F, ∀ w ∈ ws, chkW w = 0) (h : CorSt F m dn n) (hi : i < (qGJ F).length) (hd : dn.getD i default = false) (hb : b < 64) :
  CorSt F (qHb m ((qGJ F).getD i default).1 ((qGJ F).getD i default).2 b) (dn.set i true) (n+1):=by
 have hin:=qJv hi
 have he:=h.no i hi hd
 have him:inW m ((qGJ F).getD i default).1 ((qGJ F).getD i default).2:=(qHk h.near.size _ _).2 hin
 obtain⟨ws,hw1,hw2⟩:=qHm hin
 have h0:=hc ws hw1 _ hw2
 refine⟨h.near.flip hin hb he,?_,by rw[yF,h.len],fun j hj hdj=> ?_⟩
 ·have hf:=qHq (b:=b) him
  rw[he,h0,(qA9 h0 hb).1]at hf
  have hcn:=h.cnt
  simp only[show ¬(0=1)from by decide,if_false,if_true]at hf
  show qHn _=_
  have:qHn m=n:=hcn
  omega
 ·have hji:j≠i:=by
   rintro rfl
   rw[zK,List.getElem?_set_self (by rw[h.len];exact hi)]at hdj
   cases hdj
  have hdj2:dn.getD j default=false:=by
   rw[zK,List.getElem?_set_ne (Ne.symm hji),<- zK]at hdj
   exact hdj
  rw[qHe him,if_neg]
  ·exact h.no j hj hdj2
  ·rintro⟨e1,e2⟩
   have e:(qGJ F).getD i default=(qGJ F).getD j default:=Prod.ext e1 e2
   rw[zK,zK,zL hi,zL hj]at e
   exact hji ((List.getElem_inj (qJu F)).1 e).symm
theorem qJw(x:RawG)(c:Cfg):(qGJ (qDs (qyN x) c)).length≠0:=by
 have hg:=(qyP x).1
 have hn:=hg.n
 have h1:=hn.h1
 have h2:=hn.w1
 have hp:qCh (qyN x) 0 0<+:qCl (qyN x):=by
  have:=qCq (g:=qyN x) (x:=0) (y:=0) h2 h1
  simpa[qCj,qCi]using this
 have hne:qDq (qyN x) 0>=2:=by
  obtain⟨r,hr⟩:=hp
  unfold qDq
  rw[<- hr,qBX,qCh,qBX]
  simp only[qCg,qBT,if_true]
  omega
 intro h
 have hm:((0,0):Nat×Nat)∈qGJ (qDs (qyN x) c):=spot_mem.2 ⟨by rw[qJs];omega,by
  rw[qDB oM,qDD]
  show 0<nW (qDq (qyN x) 0)
  unfold nW;omega⟩
 rw[List.length_eq_zero_iff.1 h]at hm
 cases hm
end Go.Proofs.YtecoaapkcnhlhaaDoor
namespace Go.Proofs.YtecoaapkcnhlhaaDoor
open Go Go.Vc Go.Ham Txt
end Go.Proofs.YtecoaapkcnhlhaaDoor
namespace Go.Proofs.YtecoaapkcnhlhaaDoor
open Go Go.Vc Go.Ham Txt
theorem qJy {P : Program} {w : World} {g t e : Nat} {D : DataW Unit} (hg : P.globalNamed "math/bits.deBruijn64tab" = some g) (ht : (P.globals[g]?).map (·.type) = some t) (hu : P.underlying t = some (.array 64 e)) (he : P.underlying e = some (.int .u8)) (hc : P.cellsOf e = 1)
  (hn : D.handleName?.isNone = true) (hD : D = .agg (tzTab.map fun n => .lit (.int .u8 (n : Nat)))) (h : laidMetH P [("math/bits.deBruijn64tab", D)] w) : GL P w := by
 rw[MakeChecks.laidMetH_plain _ _ _ (by simp[hn])]at h
 obtain⟨ps,⟨g0,t0,cs0,f0,p0,q0,hg0,ht0,hv0,hd0,_,_⟩,_,_⟩:=h
 obtain rfl:=Option.some.inj (hg.symm.trans hg0)
 obtain rfl:=Option.some.inj (ht.symm.trans ht0)
 obtain⟨xs,m1,rfl,hx1,hlen,hn3,hel⟩:=DataW.trod_array hu hd0
 intro g' hg' j hj
 obtain rfl:=Option.some.inj (hg.symm.trans hg')
 have h0:=hel j hj
 rw[hc]at h0
 have hjx:j<xs.length:=by omega
 rw[zL hjx]at h0
 obtain⟨k,e1,e2,_⟩:=DataW.trod_int he h0
 simp only[Prod.mk.injEq]at hx1
 have hx:=hx1.1
 rw[hD]at hx
 injection hx with hx
 have h2:(xs.map (·.1))[j]? =some (.lit (.int .u8 k)):=by
  rw[zS,zL hjx,e2];rfl
 rw[<- hx]at h2
 have hjt:j<tzTab.length:=hj
 rw[zS,zL hjt]at h2
 have hk:k=(tzTab[j]:Nat):=by simpa using h2.symm
 rw[World.var?_cell hg hv0 j,zK,zL hjt]
 have h3:=congrArg (·[0]?) e1
 simp[List.getElem?_take,List.getElem?_drop]at h3
 rw[h3,hk]
 rfl
theorem qJD(x:RawG):Sub (.agg (qyL true x)) (.agg (qyL false x)):=Sub.aggL ⟨.refl _,.refl _,.refl _,.refl _,.slp _ _ _ _ (fun h=>by cases h),trivial⟩
end Go.Proofs.YtecoaapkcnhlhaaDoor
namespace Go.Proofs.YtecoaapkcnhlhaaDoor
open Go Go.Vc Go.Ham Txt
structure Det (F T m:List (List Nat)) (x k:Nat):Prop where
 size:m.map List.length=F.map List.length
 bad:chkW (atW m x k)=2
 same:atW m x k=atW T x k
 rest: ∀x' k',inW F x' k' -> ¬(x=x' /\k=k')->atW T x' k' =atW F x' k' /\(atW m x' k' =atW F x' k' \/ ∃b,b<64/\atW m x' k' =atW F x' k' ^^^2^b)
end Go.Proofs.YtecoaapkcnhlhaaDoor
namespace Go.Proofs.YtecoaapkcnhlhaaDoor
open Go Go.Vc Go.Ham Txt
theorem FrmSm.flip{l:List (List Nat)}(h:FrmSm l){x k b:Nat}(hi:inW l x k)(hb:b<64):FrmSm (qHb l x k b):=(Near.flip (Near.refl l) hi hb rfl).sm h
theorem qJM{l:List (List Nat)}{x k:Nat}{b:Int}(hi:inW l x k)(hb:0<=b/\b<=63):fldF l ⟨(x:Nat),(k:Nat),b⟩=qHb l x k b.toNat/\fldE l ⟨(x:Nat),(k:Nat),b⟩=0:=by
 have h:qHw l ⟨(x:Nat),(k:Nat),b⟩:=⟨by show(0:Int)<=(x:Nat);omega,by have:=hi.1;show((x:Nat):Int)<_;omega,by show(0:Int)<=(k:Nat);omega,by have:=hi.2;show((k:Nat):Int)<((l.getD ((x:Nat):Int).toNat []).length:Int);rw[Int.toNat_natCast];omega,hb.1,hb.2⟩
 unfold fldF fldE
 rw[if_pos h,if_pos h]
 exact⟨rfl,rfl⟩
end Go.Proofs.YtecoaapkcnhlhaaDoor
namespace Go.Proofs.YtecoaapkcnhlhaaDoor
open Go Go.Vc Go.Ham Txt
def setW(l:List (List Nat))(x k v:Nat):List (List Nat):=l.set x ((l.getD x []).set k v)
theorem qJV(l:List (List Nat))(x k v x' :Nat):(setW l x k v).getD x' []=if x=x' /\x<l.length then(l.getD x []).set k v else l.getD x' []:=by
 rw[setW,qHc]
theorem qJW{l:List (List Nat)}{x k:Nat}(h:inW l x k)(v x' k' :Nat):atW (setW l x k v) x' k' =if x=x' /\k=k' then v else atW l x' k' :=by
 unfold atW
 rw[qJV]
 by_cases e:x=x'
 ·subst e
  rw[if_pos ⟨rfl,h.1⟩,qHc]
  by_cases e2:k=k'
  ·subst e2;rw[if_pos ⟨rfl,h.2⟩,if_pos ⟨rfl,rfl⟩]
  ·rw[if_neg (fun z=>e2 z.1),if_neg (fun z=>e2 z.2)]
 ·rw[if_neg (fun z=>e z.1),if_neg (fun z=>e z.1)]
theorem qJX(l:List (List Nat))(x k v:Nat):(setW l x k v).map List.length=l.map List.length:=by
 refine qHh (by simp[setW]) fun x' => ?_
 rw[qJV];split
 ·rename_i h;rw[yF,h.1]
 ·rfl
theorem qJY {F : List (List Nat)} (hw : qDv F) (hc : ∀ ws ∈ F, ∀ w ∈ ws, chkW w = 0) {x k : Nat} (hi : inW F x k) (d : Nat) :
  qDv (setW F x k (encW d))/\ ∀ws∈setW F x k (encW d),∀w∈ws,chkW w=0:=by
 have key: ∀ws∈setW F x k (encW d),∀w∈ws,w<2^64/\chkW w=0:=fun ws hws w hww=>by
  obtain⟨x',k',h1,rfl⟩:=qHl hws hww
  rw[qJW hi]
  split
  ·exact⟨qA4 d,qA6 d⟩
  ·obtain⟨us,h2,h3⟩:=qHm ((qHk (qJX F x k (encW d)) x' k').1 h1)
   exact⟨hw us h2 _ h3,hc us h2 _ h3⟩
 exact⟨fun ws h w hw=>(key ws h w hw).1,fun ws h w hw=>(key ws h w hw).2⟩
theorem qJZ {g : Grid} {O m : List (List Nat)} (hw : qDv O) (hc : ∀ ws ∈ O, ∀ w ∈ ws, chkW w = 0) (h : Near O m) :
  (Dec38 g m ↔ Dec38 g O)/\decG g m=decG g O/\scrF m=O/\ ∀ws∈m,qDt ws=true:=by
 obtain⟨h1,h2,h3⟩:=qHt hw hc h
 obtain⟨h4,_,_⟩:=qHt hw hc (Near.refl O)
 have hd:(fun x=>unW (datF m x))=fun x=>unW (datF O x):=funext fun x=>by rw[h2 x]
 refine⟨⟨fun e=>⟨by rw[<- h.size];exact e.size,h4,fun x hx=>by rw[<- h2 x];exact e.rest x hx,by rw[<- hd];exact e.valid⟩,fun e=>⟨by rw[h.size];exact e.size,h1,fun x hx=>by rw[h2 x];exact e.rest x hx,by rw[hd];exact e.valid⟩⟩,?_,h3,h1⟩
 unfold decG
 rw[hd]
theorem qK0{F:List (List Nat)}{x k:Nat}(hi:inW F x k):setW F x k (atW F x k)=F:=by
 refine qHj (qJX _ _ _ _) fun x' k' _=> ?_
 rw[qJW hi]
 split
 ·rename_i e;rw[e.1,e.2]
 ·rfl
theorem qK1 {g : Grid} (hg : GOk g) {c : Cfg} (hv : validE g c = 0) {x k d : Nat} (hi : inW (qDs g c) x k) (hd : d < 2 ^ 57) (h : Dec38 g (setW (qDs g c) x k (encW d))) :
  decG g (setW (qDs g c) x k (encW d))=c ↔ d=gat (atW (qDs g c) x k):=by
 have hw:=qDG g c
 have hc: ∀ws∈qDs g c,∀w∈ws,chkW w=0:=fun ws h w hw=>qDH h hw
 obtain⟨ws,h1,h2⟩:=qHm hi
 obtain⟨w1,w2⟩:=qJY hw hc hi d
 constructor
 ·intro e
  have h3:=qDA hg h
  have h4:qDs g c=setW (qDs g c) x k (encW d):=by
   have h5:scrF (setW (qDs g c) x k (encW d))=setW (qDs g c) x k (encW d):=(qJZ (g:=g) w1 w2 (Near.refl _)).2.2.1
   have h6:qDs g (decG g (setW (qDs g c) x k (encW d)))=scrF (setW (qDs g c) x k (encW d)):=h3
   rw[e,h5]at h6
   exact h6
  have h7:atW (qDs g c) x k=encW d:=by
   have h8:atW (qDs g c) x k=atW (setW (qDs g c) x k (encW d)) x k:=congrArg (fun z=>atW z x k) h4
   rw[qJW hi,if_pos ⟨rfl,rfl⟩]at h8
   exact h8
  rw[h7,qA5 hd]
 ·intro e
  rw[e,qA8 (hw ws h1 _ h2) (hc ws h1 _ h2),qK0 hi]
  exact(qIZ hg hv).2
theorem qK2{g:Grid}(hg:GOk g){c:Cfg}(hv:validE g c=0){x k:Nat}(hi:inW (qDs g c) x k):Dec38 g (setW (qDs g c) x k (encW (gat (atW (qDs g c) x k)))):=by
 obtain⟨ws,h1,h2⟩:=qHm hi
 rw[qA8 (qDG g c ws h1 _ h2) (qDH h1 h2),qK0 hi]
 exact(qIZ hg hv).1
theorem qK3{g:Grid}(hg:GOk g){O:List (List Nat)}(hw:qDv O)(hc: ∀ws∈O,∀w∈ws,chkW w=0)(h:Dec38 g O):qDs g (decG g O)=O:=by
 have h3:qDs g (decG g O)=scrF O:=qDA hg h
 rw[h3]
 exact(qJZ (g:=g) hw hc (Near.refl _)).2.2.1
theorem qK4 {w i j : Nat} {odd : Prop} [Decidable odd] (hi : i < 57) (hj : j < 57) :
  (if odd then gat w^^^2^i^^^2^j else gat w^^^2^i)<2^57/\((if odd then gat w^^^2^i^^^2^j else gat w^^^2^i)=gat w ↔ odd/\j=i):=by
 have hg:=qzP w
 have p1:2^i<2^57:=Nat.pow_lt_pow_right (by decide) hi
 have p2:2^j<2^57:=Nat.pow_lt_pow_right (by decide) hj
 have h1:=Nat.xor_lt_two_pow hg p1
 have q1:=Nat.pow_pos (n:=i) (show 0<2 by decide)
 have x1: ∀a b:Nat,a^^^b=a->b=0:=fun a b e=>by
  have h:=congrArg (a^^^ ·) e
  simp only[Nat.xor_self,<- Nat.xor_assoc,Nat.zero_xor]at h
  exact h
 by_cases ho:odd
 ·rw[if_pos ho]
  refine⟨Nat.xor_lt_two_pow h1 p2,fun e=>⟨ho,?_⟩,fun e=>by rw[e.2,qAb]⟩
  rw[Nat.xor_assoc]at e
  have h:=x1 _ _ e
  have h2:2^i=2^j:=by
   have h3:=congrArg (· ^^^2^j) h
   simp only[qAb,Nat.zero_xor]at h3
   exact h3
  exact((Nat.pow_right_inj (show 1<2 by decide)).1 h2).symm
 ·rw[if_neg ho]
  exact⟨h1,fun e=>by have:=x1 _ _ e;omega,fun e=>absurd e.1 ho⟩
theorem qK5{g:Grid}{c:Cfg}{x k:Nat}(hi:inW (qDs g c) x k): ¬Dec38 g ((qDs g c).set x (((qDs g c).getD x []).drop 1)):=fun h=>by
 have e:=h.size
 rw[<- qDE g c]at e
 have e2:=congrArg (fun z=>z.getD x 0) e
 have h1:=hi.1
 have h2:=hi.2
 simp only[zK,zS,List.getElem?_set_self h1,zL h1,Option.map_some,Option.getD_some,List.length_drop]at e2 h2
 omega
theorem qK6{g:Grid}{c:Cfg}{l:List (List Nat)}(h:l.length≠(qDs g c).length): ¬Dec38 g l:=fun e=>by
 have e1:=e.size
 rw[<- qDE g c]at e1
 have e2:=congrArg List.length e1
 simp only[yG]at e2
 exact h e2
end Go.Proofs.YtecoaapkcnhlhaaDoor
namespace Go.Proofs.YtecoaapkcnhlhaaDoor.Txt
open Go Go.Vc
set_option maxRecDepth 100000
def ac24_1000:AC:=
 (.seq (.reg [1000,24,1000] [
 (aO 1002 (.mv (.c (.nil))))])
 (.seq (.reg [1000,24,1000] [
 (aO 1005 (.xo (.bsx 1 [.nil]) [])),(aO 1003 (.mv (.t 1005)))])
 (.seq (.seq (.reg [1000,24,1000,1003] [
 (aO 1004 (.mv (kI 0)))])
 (.block 0
 (.lps [1000,24,1000,1003,1004]
 (.seq (.seq (.reg [1000,24,1000,1003,1004] [
 (aO 1006 (.mv (.t 1004))),(aO 1007 (.mv (.t 1000))),(aO 1008 (.len (.t 1007))),(aO 1009 (.cmp .lss .i64 (.t 1006) (.t 1008)))])
 (.cond (.t 1009)
 .skip
 (.exit 0)))
 (.seq (.block 1
 (.reg [1000,24,1000,1003,1004] [
 (aO 1012 (.mv (.t 1003))),(aO 1013 (.bsl 1 54 [.sc (.int .u64 0)] 0 [])),(aO 1014 (.mv (.t 1000))),(aO 1015 (.mv (.t 1004))),(aO 1016 (.ixs 1 (.t 1014) (.t 1015))),(aO 1017 (.fa 0 (.t 1016))),(aO 1018 (.ld false 1 (.t 1017))),(aO 1019 (.app 1 54 8 (.t 1013) (.t 1018))),(aO 1020 (.bld [.nil] [(0,1,(.t 1019))])),(aO 1021 (.xo (.bsx 1 [.nil]) [(.t 1020)])),(aO 1022 (.xo (.apx 1 24) [(.t 1012),(.t 1021)])),(aO 1003 (.mv (.t 1022)))]))
 (.reg [1000,24,1000,1003,1004] [
 (aO 1010 (.mv (.t 1004))),(aO 1011 (.ari .add true .i64 (.t 1010) (kI 1))),(aO 1004 (.mv (.t 1011)))]))))))
 (.seq (.reg [1000,24,1003] [
 (aO 1023 (.mv (.t 1003))),(aO 1002 (.mv (.t 1023)))])
 .ret))))
def rv24_1000:List RV:=[.tmp 1002]
theorem ok24_1000:qh6 Tryd.prog 1000 ac24_1000 rv24_1000 Tryd.f24=true:=by kernel_rfl
end Go.Proofs.YtecoaapkcnhlhaaDoor.Txt
namespace Go.Proofs.YtecoaapkcnhlhaaDoor
open Go Go.Vc Go.Ham Txt
theorem qK7: ∀(k:Nat) (rs qs:List (Option (List (List PV)))),qAY k (rs++qs)=qAY k rs++qAY (k+rs.length) qs
 |_,[],_=>rfl
 |k,r::rs,qs=>by rw[List.cons_append,qAY,qK7 (k+1) rs qs,qAY,List.cons_append,zV,show k+1+rs.length=k+(rs.length+1)from by omega]
theorem qK8(es ty:Nat)(r:List (List PV)): ∀(k:Nat) (rs:List (Option (List (List PV)))),up (qAZ es ty k rs) (k+rs.length) ⟨es,ty,r⟩=qAZ es ty k (rs++[some r])
 |_,[]=>rfl
 | k, none :: rs => by
   rw[List.cons_append,qAZ,qAZ,zV,show k+(rs.length+1)=k+1+rs.length from by omega,qK8 es ty r (k+1) rs]
 | k, some q :: rs => by
   rw[List.cons_append,qAZ,qAZ,zV,up,if_neg oM,if_neg oM,show k+(rs.length+1)=k+1+rs.length from by omega,qK8 es ty r (k+1) rs]
theorem qK9(l:List (List Nat))(k:Nat)(h:k<l.length):rsW (l.take (k+1))=rsW (l.take k)++[some (rows u64C (nats (l.getD k default)))]:=by
 rw[qEW l k h]
 simp[rsW]
set_option maxHeartbeats 400000 in
theorem qKa(q:Bool)(l:List (List Nat))(hl:FrmSm l):FnM (Env.of Tryd.prog) 24 [.sl q 1 (rows (frmC q) l)] ⟨[],[],[],[]⟩ (fun v st' =>v= .bv 1005 1 l.length/\st' =⟨[],[(1005,qAY 3000 (rsW l))],qAZ 1 54 3000 (rsW l),[]⟩):=by
 have h1:=hl.n
 refine quf 1000 Tryd.func24 ok24_1000 (by show 1<=_;decide) rfl (by decide) ?_
 simp only[ac24_1000,rv24_1000,push_cast,reduceIte,zA,zB,zC,zD,zE,zF,zG,reduceCtorEq,zH,zJ,cNI]
 refine qoO (fun j st=> ∃k:Nat,k<=l.length/\j=l.length-k/\st=⟨[(1000,.sl q 1 (rows (frmC q) l)),(1003,.bv 1005 1 k),(1004,.int k)],[(1005,qAY 3000 (rsW (l.take k)))],qAZ 1 54 3000 (rsW (l.take k)),[]⟩) l.length ⟨_,SWk.refl _,0,oM,oM,?_⟩ ?_
 ·simp only[push_cast,reduceIte,zA,zB,zC,zD,zE,zF,zG,reduceCtorEq,zH,zJ,cNI]
  try rfl
 rintro j st ⟨k,hk,rfl,rfl⟩
 have htk:(rsW (l.take k)).length=k:=by rw[qH0,List.length_take];omega
 have hcl:(qAY 3000 (rsW (l.take k))).length=k:=by rw[qB0,htk]
 refine sB ?_
 refine qnY (fun h=> ?_) fun h=> ?_
 ·have hw:=qGx hl (show k<l.length by omega)
  have hup: ∀A,up (qAZ 1 54 3000 (rsW (l.take k))) 1013 A=(1013,A)::qAZ 1 54 3000 (rsW (l.take k)):=fun A=>qB9 _ _ _ fun y hy=>by have:=qBa 1 54 3000 _ y hy;omega
  have f1:anyT (isId 1005) nul (qAY 3000 (rsW (l.take k)))=false:=by
   rw[<- qhK];exact qB3 _ _ _ _ fun _ _=>rfl
  have f2:anyT (isId 1021) nul (qAY 3000 (rsW (l.take k)))=false:=by
   rw[<- qhK];exact qB3 _ _ _ _ fun _ _=>rfl
  have f3:anyT nul (isId 1013) (qAY 3000 (rsW (l.take k)))=false:=qFd _ _ _ fun y r _=>beq_false_of_ne oM
  have hnew:=qK9 l k oM
  generalize l.getD k default=ws at *
  generalize hR:rsW (l.take k)=R at *
  simp only[List.length_replicate,List.replicate_zero,List.nil_append,List.length_nil,Nat.zero_add,qEY,hup,hcl,f1,f2,f3,push_cast,reduceIte,zA,zB,zC,zD,zE,zF,zG,reduceCtorEq,zH,zJ,cNI]
  refine⟨⟨oM,oM⟩,oM,⟨oM,oM⟩,⟨oM,oM,oM⟩,⟨oM,oM⟩,?_⟩
  have hRl:R.length=k:=htk
  have hfa: ∀A:Arr,((1013,A)::qAZ 1 54 3000 R).filter (fun _=>true)=(1013,A)::qAZ 1 54 3000 R:=fun A=>List.filter_eq_self.2 fun _ _=>rfl
  have h1:=SWk.drop (s:=[(1000,.sl q 1 (rows (frmC q) l)),(1003,.bv 1005 1 (k+1)),(1004,.int (k+1))]) (b:=[(1005,qAY 3000 R++[.view 1013 0 ws.length]),(1021,[.view 1013 0 ws.length])]) (a:=(1013,⟨1,54,rows u64C (nats ws)⟩)::qAZ 1 54 3000 R) (m:=[]) (fun i=>i !=1021) (fun _=>true)
  rw[hfa]at h1
  have h03:PV.toV (isId (3000+k)) nul (.bv 1005 1 (k+1))=false:=beq_false_of_ne (show 1005≠3000+k by omega)
  refine⟨_,SWk.trans h1 (SWk.renEq (A:=⟨1,54,rows u64C (nats ws)⟩) (b' :=[(1005,qAY 3000 (rsW (l.take (k+1))))]) (a' :=qAZ 1 54 3000 (rsW (l.take (k+1)))) 1013 (3000+k) rfl ?_ ⟨⟨rfl,rfl⟩,⟨rfl,rfl⟩,⟨rfl,rfl⟩,trivial⟩ ⟨⟨rfl,rfl⟩,⟨h03,rfl⟩,⟨rfl,rfl⟩,trivial⟩ ?_ ?_ ?_),l.length-(k+1),oM,k+1,oM,rfl,rfl⟩
  ·rw[lk,if_neg oM,qB8,List.getElem?_eq_none oM];rfl
  ·show refB nul (isId (3000+k)) [(1005,qAY 3000 R++[.view 1013 0 ws.length])]=false
   have h13:PV.to nul (isId (3000+k)) (.view 1013 0 ws.length)=false:=beq_false_of_ne (show 1013≠3000+k by omega)
   rw[qiq,<- qhK,List.any_append,qB3 nul (isId (3000+k)) 3000 R fun x hx=>beq_false_of_ne oM]
   simp only[List.any_cons,List.any_nil,h13];rfl
  ·show[(1005,(qAY 3000 R++[PV.view 1013 0 ws.length]).map (PV.ren 1013 (3000+k)))]=_
   rw[hnew,qK7,hRl,yH,qB6 1013 (3000+k) 3000 R fun x _=>by omega]
   simp[PV.ren,qAY,rowC,qkk,qEY]
  ·rw[qF9,qFa _ _ _ _ _ (by decide),hnew,<- hRl,qK8]
 ·obtain rfl:k=l.length:=by omega
  rw[List.take_length]
  simp only[push_cast,reduceIte,zA,zB,zC,zD,zE,zF,zG,reduceCtorEq,zH,zJ,cNI]
  done
end Go.Proofs.YtecoaapkcnhlhaaDoor
namespace Go.Proofs.YtecoaapkcnhlhaaDoor.Txt
open Go Go.Vc
set_option maxRecDepth 100000
def ac24_1000y:AC:=
 (.seq (.reg [1000,24,1000] [
 (aO 1002 (.mv (.c (.nil))))])
 (.seq (.reg [1000,24,1000] [
 (aO 1005 (.bsl 1 52 [.nil] 0 [])),(aO 1003 (.mv (.t 1005)))])
 (.seq (.seq (.reg [1000,24,1000,1003] [
 (aO 1004 (.mv (kI 0)))])
 (.block 0
 (.lps [1000,24,1000,1003,1004]
 (.seq (.seq (.reg [1000,24,1000,1003,1004] [
 (aO 1006 (.mv (.t 1004))),(aO 1007 (.mv (.t 1000))),(aO 1008 (.len (.t 1007))),(aO 1009 (.cmp .lss .i64 (.t 1006) (.t 1008)))])
 (.cond (.t 1009)
 .skip
 (.exit 0)))
 (.seq (.block 1
 (.reg [1000,24,1000,1003,1004] [
 (aO 1012 (.mv (.t 1003))),(aO 1013 (.bsl 1 54 [.sc (.int .u64 0)] 0 [])),(aO 1014 (.mv (.t 1000))),(aO 1015 (.mv (.t 1004))),(aO 1016 (.ixs 1 (.t 1014) (.t 1015))),(aO 1017 (.fa 0 (.t 1016))),(aO 1018 (.ld false 1 (.t 1017))),(aO 1019 (.app 1 54 8 (.t 1013) (.t 1018))),(aO 1020 (.bld [.nil] [(0,1,(.t 1019))])),(aO 1021 (.bsl 1 52 [.nil] 1 [(0,(.t 1020))])),(aO 1022 (.app 1 52 24 (.t 1012) (.t 1021))),(aO 1003 (.mv (.t 1022)))]))
 (.reg [1000,24,1000,1003,1004] [
 (aO 1010 (.mv (.t 1004))),(aO 1011 (.ari .add true .i64 (.t 1010) (kI 1))),(aO 1004 (.mv (.t 1011)))]))))))
 (.seq (.reg [1000,24,1003] [
 (aO 1023 (.mv (.t 1003))),(aO 1002 (.mv (.t 1023)))])
 .ret))))
def rv24_1000y:List RV:=[.tmp 1002]
theorem ok24_1000y:qh6 Tryd.prog 1000 ac24_1000y rv24_1000y Tryd.f24=true:=by kernel_rfl
end Go.Proofs.YtecoaapkcnhlhaaDoor.Txt
namespace Go.Proofs.YtecoaapkcnhlhaaDoor
open Go Go.Vc Go.Ham Txt
set_option maxHeartbeats 400000 in
theorem qKb(q:Bool)(l:List (List Nat))(hl:FrmSm l):FnM (Env.of Tryd.prog) 24 [.sl q 1 (rows (frmC q) l)] ⟨[],[],[],[]⟩ (fun v st' =>v= .view 1005 0 l.length/\st' =⟨[],[],[(1005,⟨1,52,rows (frmC true) l⟩)],[]⟩):=by
 have h1:=hl.n
 refine quf 1000 Tryd.func24 ok24_1000y (by show 1<=_;decide) rfl (by decide) ?_
 simp only[ac24_1000y,rv24_1000y,push_cast,reduceIte,zA,zB,zC,zD,zE,zF,zG,reduceCtorEq,zH,zJ,cNI]
 refine qoO (fun j st=> ∃k:Nat,k<=l.length/\j=l.length-k/\st=⟨[(1000,.sl q 1 (rows (frmC q) l)),(1003,.view 1005 0 (l.take k).length),(1004,.int k)],[],[(1005,⟨1,52,rows (frmC true) (l.take k)⟩)],[]⟩) l.length ⟨_,SWk.refl _,0,oM,oM,?_⟩ ?_
 ·refine sB ?_
  rfl
 rintro j st ⟨k,hk,rfl,rfl⟩
 have htk:(l.take k).length=k:=by rw[List.length_take];omega
 simp only[rep1,List.set_cons_zero,zV,List.length_nil,List.length_replicate,List.replicate_zero,List.nil_append,Nat.zero_add,qEY,htk,push_cast,reduceIte,zA,zB,zC,zD,zE,zF,zG,reduceCtorEq,zH,zJ,cNI]
 refine qnY (fun h=> ?_) fun h=> ?_
 ·have hw:=qGx hl (show k<l.length by omega)
  refine⟨⟨oM,oM⟩,oM,⟨oM,oM⟩,⟨oM,oM⟩,⟨oM,oM⟩,?_⟩
  refine⟨_,SWk.drop (fun _=>true) (fun i=>i !=1021),l.length-(k+1),oM,k+1,oM,rfl,?_⟩
  have ht: ∀x:List Nat,List.take x.length (nats x)=nats x:=fun x=>zY (by rw[qEY];exact Nat.le_refl _)
  show(⟨[(1000,.sl q 1 (rows (frmC q) l)),(1003,.view 1005 0 (k+1)),(1004,.int (k+1))],[],[(1005,⟨1,52,rows (frmC true) (l.take k)++[[.sl true 1 (rows u64C (List.take (l.getD k default).length (nats (l.getD k default))))]]⟩)],[]⟩:St)=_
  rw[qEW l k oM,zU,htk,ht]
  simp[rows,frmC]
 ·obtain rfl:k=l.length:=by omega
  simp only[List.take_length]
  exact⟨rfl,trivial,trivial⟩
end Go.Proofs.YtecoaapkcnhlhaaDoor
namespace Go.Proofs.YtecoaapkcnhlhaaDoor.Txt
open Go Go.Vc
set_option maxRecDepth 100000
def xs6x_37:List XO:=[⟨0,[],(aO 239 (.ld true 5 (.t 8)))⟩,⟨1,[],(aO 240 (.mv (.t 25)))⟩,⟨2,[0,1],(aO 241 (.cal 14 [(.t 239),(.t 240)]))⟩,⟨3,[2],(aO 242 (.fl false 5 1 (.t 241)))⟩,⟨4,[3],(aO 243 (.cmp .eql .i64 (.t 242) (kI 380)))⟩,⟨5,[2,4],(aO 244 (.mv (.t 243)))⟩,⟨6,[5],⟨some 245,some (244,true),.ld true 5 (.t 8)⟩⟩,⟨7,[5],⟨some 246,some (244,true),.fa 0 (.t 10)⟩⟩,⟨8,[5,7],⟨some 247,some (244,true),.ld false 1 (.t 246)⟩⟩,⟨9,[5,8],⟨some 248,some (244,true),.slc 1 (.t 247) (some (kI 1)) none⟩⟩,⟨10,[5,6,9],⟨some 249,some (244,true),.cal 14 [(.t 245),(.t 248)]⟩⟩,⟨11,[5,10],⟨some 250,some (244,true),.fl false 5 1 (.t 249)⟩⟩,⟨12,[5,11],⟨some 251,some (244,true),.cmp .eql .i64 (.t 250) (kI 380)⟩⟩,⟨13,[5,12],(aO 252 (.pick (.t 244) (.t 251) (.c (.sc (.bool false)))))⟩,⟨14,[10,13],(aO 253 (.mv (.t 252)))⟩,⟨15,[14],⟨some 254,some (253,true),.ld true 5 (.t 8)⟩⟩,⟨16,[14],⟨some 255,some (253,true),.fa 0 (.t 10)⟩⟩,⟨17,[14,16],⟨some 256,some (253,true),.ld false 1 (.t 255)⟩⟩,⟨18,[14,17],⟨some 257,some (253,true),.clm 24 [(.t 256)]⟩⟩,⟨19,[14],⟨some 258,some (253,true),.bld [.nil] []⟩⟩,⟨20,[14,19],⟨some 259,some (253,true),.bsl 1 52 [.nil] 1 [(0,(.t 258))]⟩⟩,⟨21,[14,18,20],⟨some 260,some (253,true),.app 1 52 24 (.t 257) (.t 259)⟩⟩,⟨22,[14,15,21],⟨some 261,some (253,true),.cal 14 [(.t 254),(.t 260)]⟩⟩,⟨23,[14,22],⟨some 262,some (253,true),.fl false 5 1 (.t 261)⟩⟩,⟨24,[14,23],⟨some 263,some (253,true),.cmp .eql .i64 (.t 262) (kI 380)⟩⟩,⟨25,[14,24],(aO 264 (.pick (.t 253) (.t 263) (.c (.sc (.bool false)))))⟩,⟨26,[22,25],(aO 265 (.mv (.t 264)))⟩,⟨27,[26],⟨some 266,some (265,true),.mv (.t 7)⟩⟩,⟨28,[26,27],(aO 267 (.pick (.t 265) (.t 266) (.c (.sc (.bool false)))))⟩,⟨29,[0,1,2,3,4,5,6,7,8,9,10,11,12,13,14,15,16,17,18,19,20,21,22,23,24,25,26,27,28],(aO 6 (.mv (.t 267)))⟩]
theorem xs6x_37_all{p:XO->Prop} :(∀x∈xs6x_37,p x) ↔ p ⟨0,[],(aO 239 (.ld true 5 (.t 8)))⟩/\p ⟨1,[],(aO 240 (.mv (.t 25)))⟩/\p ⟨2,[0,1],(aO 241 (.cal 14 [(.t 239),(.t 240)]))⟩/\p ⟨3,[2],(aO 242 (.fl false 5 1 (.t 241)))⟩/\p ⟨4,[3],(aO 243 (.cmp .eql .i64 (.t 242) (kI 380)))⟩/\p ⟨5,[2,4],(aO 244 (.mv (.t 243)))⟩/\p ⟨6,[5],⟨some 245,some (244,true),.ld true 5 (.t 8)⟩⟩/\p ⟨7,[5],⟨some 246,some (244,true),.fa 0 (.t 10)⟩⟩/\p ⟨8,[5,7],⟨some 247,some (244,true),.ld false 1 (.t 246)⟩⟩/\p ⟨9,[5,8],⟨some 248,some (244,true),.slc 1 (.t 247) (some (kI 1)) none⟩⟩/\p ⟨10,[5,6,9],⟨some 249,some (244,true),.cal 14 [(.t 245),(.t 248)]⟩⟩/\p ⟨11,[5,10],⟨some 250,some (244,true),.fl false 5 1 (.t 249)⟩⟩/\p ⟨12,[5,11],⟨some 251,some (244,true),.cmp .eql .i64 (.t 250) (kI 380)⟩⟩/\p ⟨13,[5,12],(aO 252 (.pick (.t 244) (.t 251) (.c (.sc (.bool false)))))⟩/\p ⟨14,[10,13],(aO 253 (.mv (.t 252)))⟩/\p ⟨15,[14],⟨some 254,some (253,true),.ld true 5 (.t 8)⟩⟩/\p ⟨16,[14],⟨some 255,some (253,true),.fa 0 (.t 10)⟩⟩/\p ⟨17,[14,16],⟨some 256,some (253,true),.ld false 1 (.t 255)⟩⟩/\p ⟨18,[14,17],⟨some 257,some (253,true),.clm 24 [(.t 256)]⟩⟩/\p ⟨19,[14],⟨some 258,some (253,true),.bld [.nil] []⟩⟩/\p ⟨20,[14,19],⟨some 259,some (253,true),.bsl 1 52 [.nil] 1 [(0,(.t 258))]⟩⟩/\p ⟨21,[14,18,20],⟨some 260,some (253,true),.app 1 52 24 (.t 257) (.t 259)⟩⟩/\p ⟨22,[14,15,21],⟨some 261,some (253,true),.cal 14 [(.t 254),(.t 260)]⟩⟩/\p ⟨23,[14,22],⟨some 262,some (253,true),.fl false 5 1 (.t 261)⟩⟩/\p ⟨24,[14,23],⟨some 263,some (253,true),.cmp .eql .i64 (.t 262) (kI 380)⟩⟩/\p ⟨25,[14,24],(aO 264 (.pick (.t 253) (.t 263) (.c (.sc (.bool false)))))⟩/\p ⟨26,[22,25],(aO 265 (.mv (.t 264)))⟩/\p ⟨27,[26],⟨some 266,some (265,true),.mv (.t 7)⟩⟩/\p ⟨28,[26,27],(aO 267 (.pick (.t 265) (.t 266) (.c (.sc (.bool false)))))⟩/\p ⟨29,[0,1,2,3,4,5,6,7,8,9,10,11,12,13,14,15,16,17,18,19,20,21,22,23,24,25,26,27,28],(aO 6 (.mv (.t 267)))⟩:=by simp only[xs6x_37,List.forall_mem_cons,List.not_mem_nil,false_implies,implies_true,and_true]
def ac6x_r35:AC:=
 (.seq (.reg [0,268,7,8,10,12] [
 (aO 224 (.fa 0 (.t 10))),(aO 225 (.ld false 1 (.t 224))),(aO 226 (.clm 24 [(.t 225)])),(aO 25 (.mv (.t 226)))])
 (.seq (.drw [0,268,7,8,10,12,25] [
 (eT 227 (.mv (.t 25))),(eT 228 (.ixa 2 1 (.t 12) (kI 0))),(eT 229 (.ld false 1 (.t 228))),(eT 230 (.mv (.t 25))),(eT 231 (.ixa 2 1 (.t 12) (kI 0))),(eT 232 (.ld false 1 (.t 231))),(eT 233 (.ixs 1 (.t 230) (.t 232))),(eT 234 (.fa 0 (.t 233))),(eT 235 (.ld false 1 (.t 234))),(eT 236 (.slc 1 (.t 235) (some (kI 1)) none)),(eF 237 (.ixs 1 (.t 227) (.t 229))),(eF 238 (.fa 0 (.t 237))),⟨(aN (.sto 1 (.t 238) (.t 236))),[],[],false⟩])
 (.seq (.wk (.dra [0,268,7,8,10,25] xs6x_37))
 .ret)))
def ac6x_r24:AC:=
 (.seq (.reg [0,268,7,8,9,10,12,13,17,20] [
 (aO 159 (.mv (.t 13))),(aO 160 (.fa 0 (.t 20))),(aO 161 (.ld false 1 (.t 160))),(aO 162 (.bsl 1 25 [.nil] 2 [(0,(.t 159)),(1,(.t 161))])),(aO 21 (.mv (.t 162)))])
 (.seq (.seq (.reg [0,268,7,8,9,10,12,13,17,21] [
 (aO 22 (.mv (kI 0)))])
 (.block 0
 (.loop [0,268,7,8,9,10,12,13,17,21,22]
 (.seq (.seq (.reg [0,268,7,8,9,10,12,13,17,21,22] [
 (aO 163 (.mv (.t 22))),(aO 164 (.cmp .lss .i64 (.t 163) (kI 2)))])
 (.cond (.t 164)
 .skip
 (.exit 0)))
 (.seq (.block 1
 (.seq (.drw [0,268,7,8,9,10,12,13,17,21,22] [
 (eU 167 (.ld true 5 (.t 8)) [] [23]),(eU 168 (.mv (.t 21)) [] [23]),(eU 169 (.mv (.t 22)) [] [23]),(eU 170 (.ixs 1 (.t 168) (.t 169)) [] [23]),(eU 171 (.ld false 1 (.t 170)) [] [23]),(eU 172 (.cal 14 [(.t 167),(.t 171)]) [] [23]),(eU 23 (.alc [.nil,.nil,.nil,.nil,zI,zI]) [23] []),⟨(aN (.sto 6 (.t 23) (.t 172))),[],[],false⟩])
 (.seq (.seq (.reg [0,268,7,8,9,10,12,13,17,21,22,23] [
 (aO 173 (.fa 5 (.t 23))),(aO 174 (.ld false 1 (.t 173))),(aO 175 (.cmp .neq .i64 (.t 174) (kI 0)))])
 (.cond (.t 175)
 (.seq (.seq (.reg [0,268,7,8,9,10,12,13,17,21,22,23] [
 (aO 176 (.fa 5 (.t 23))),(aO 177 (.ld false 1 (.t 176))),(aO 178 (.cmp .neq .i64 (.t 177) (kI 380))),(aO 179 (.mv (.t 178))),⟨some 180,some (179,false),.mv (.t 17)⟩,(aO 181 (.pick (.t 179) (.c (.sc (.bool true))) (.t 180)))])
 (.cut [0,268,7,8,9,10,12,13,17,21,22,181] (.cond (.t 181)
 (.seq (.reg [0,268] [
 (aO 6 (.mv (.c (.sc (.bool false)))))])
 .ret)
 .skip)))
 (.exit 1))
 .skip))
 (.seq (.reg [0,268,7,8,9,10,12,13,17,21,22,23] [
 (aO 182 (.mv (.t 21))),(aO 183 (.mv (.t 22))),(aO 184 (.ixs 1 (.t 182) (.t 183))),(aO 185 (.ld false 1 (.t 184))),(aO 186 (.cal 21 [(.t 185)])),(aO 24 (.alc [.nil,zI,.nil])),(aN (.sto 3 (.t 24) (.t 186)))])
 (.seq (.drw [0,268,7,8,9,10,12,13,17,21,22,23,24] [
 (eT 187 (.fa 4 (.t 23))),(eT 188 (.ld false 1 (.t 187))),(eT 189 (.mv (.t 22))),(eF 190 (.cmp .neq .i64 (.t 188) (.t 189))),(eF 191 (.mv (.t 190))),⟨⟨some 192,some (191,false),.ld true 5 (.t 8)⟩,[],[],true⟩,⟨⟨some 193,some (191,false),.fa 0 (.t 23)⟩,[],[],true⟩,⟨⟨some 194,some (191,false),.ld true 4 (.t 193)⟩,[],[],true⟩,⟨⟨some 195,some (191,false),.cal 18 [(.t 192),(.t 194)]⟩,[],[],false⟩,⟨⟨some 196,some (191,false),.cmp .neq .i64 (.t 195) (kI 0)⟩,[],[],false⟩,(eF 197 (.pick (.t 191) (.c (.sc (.bool true))) (.t 196))),(eF 198 (.mv (.t 197))),⟨⟨some 199,some (198,false),.fa 0 (.t 23)⟩,[],[],true⟩,⟨⟨some 200,some (198,false),.ld true 4 (.t 199)⟩,[],[],true⟩,⟨⟨some 201,some (198,false),.ld true 4 (.t 9)⟩,[],[],true⟩,⟨⟨some 202,some (198,false),.cal 16 [(.t 200),(.t 201)]⟩,[],[],true⟩,⟨⟨some 203,some (198,false),.mv (.t 17)⟩,[],[],true⟩,⟨⟨some 204,some (198,false),.eqb true (.t 202) (.t 203)⟩,[],[],false⟩,(eF 205 (.pick (.t 198) (.c (.sc (.bool true))) (.t 204))),(eF 206 (.mv (.t 205))),⟨⟨some 207,some (206,false),.ld true 5 (.t 8)⟩,[],[],true⟩,⟨⟨some 208,some (206,false),.fa 0 (.t 23)⟩,[],[],true⟩,⟨⟨some 209,some (206,false),.ld true 4 (.t 208)⟩,[],[],true⟩,⟨⟨some 210,some (206,false),.cal 13 [(.t 207),(.t 209)]⟩,[],[],true⟩,⟨⟨some 211,some (206,false),.fl false 0 1 (.t 210)⟩,[],[],true⟩,⟨⟨some 212,some (206,false),.fa 0 (.t 24)⟩,[],[],true⟩,⟨⟨some 213,some (206,false),.ld false 1 (.t 212)⟩,[],[],true⟩,⟨⟨some 214,some (206,false),.cal 22 [(.t 211),(.t 213)]⟩,[],[],false⟩,⟨⟨some 215,some (206,false),.not (.t 214)⟩,[],[],false⟩,(eF 216 (.pick (.t 206) (.c (.sc (.bool true))) (.t 215))),(eF 217 (.mv (.t 216))),⟨⟨some 218,some (217,false),.fa 0 (.t 24)⟩,[],[],true⟩,⟨⟨some 219,some (217,false),.ld false 1 (.t 218)⟩,[],[],true⟩,⟨⟨some 220,some (217,false),.mv (.t 13)⟩,[],[],true⟩,⟨⟨some 221,some (217,false),.cal 22 [(.t 219),(.t 220)]⟩,[],[],false⟩,⟨⟨some 222,some (217,false),.not (.t 221)⟩,[],[],false⟩,(eF 223 (.pick (.t 217) (.c (.sc (.bool true))) (.t 222)))])
 (.cut [0,268,7,8,9,10,12,13,17,21,22,223] (.cond (.t 223)
 (.seq (.reg [0,268] [
 (aO 6 (.mv (.c (.sc (.bool false)))))])
 .ret)
 .skip)))))))
 (.reg [0,268,7,8,9,10,12,13,17,21,22] [
 (aO 165 (.mv (.t 22))),(aO 166 (.ari .add true .i64 (.t 165) (kI 1))),(aO 22 (.mv (.t 166)))]))))))
 ac6x_r35))
def ac6x_r19:AC:=
 (.seq (.reg [0,268,5,7,8,9,10,12,13,14,17] [
 (aO 131 (.mv (.t 14))),(aO 132 (.cal 26 [(.t 131)])),(aO 130 (.mv (.t 132))),(aO 133 (.ext (.t 130) 0)),(aO 134 (.ext (.t 130) 1)),(aO 18 (.mv (.t 133))),(aO 19 (.mv (.t 134)))])
 (.seq (.seq (.reg [0,268,5,7,8,9,10,12,13,17,18,19] [
 (aO 135 (.mv (.t 19))),(aO 136 (.cmp .neq .i64 (.t 135) (kI 0)))])
 (.cond (.t 136)
 (.seq (.reg [0,268] [
 (aO 6 (.mv (.c (.sc (.bool false)))))])
 .ret)
 .skip))
 (.seq (.drw [0,268,5,7,8,9,10,12,13,17,18] [
 (eT 137 (.mv (.t 13))),(eT 138 (.ixa 2 1 (.t 12) (kI 0))),(eT 139 (.ld false 1 (.t 138))),(eT 140 (.ixs 1 (.t 137) (.t 139))),(eT 141 (.fa 0 (.t 140))),(eT 142 (.ld false 1 (.t 141))),(eT 143 (.ixa 2 1 (.t 12) (kI 1))),(eT 144 (.ld false 1 (.t 143))),(eT 145 (.mv (.t 18))),(eF 146 (.ixs 1 (.t 142) (.t 144))),⟨(aN (.sto 1 (.t 146) (.t 145))),[],[],false⟩])
 (.seq (.wk (.reg [0,268,5,7,8,9,10,12,13,17] [
 (aO 147 (.mv (.t 13))),(aO 148 (.ixa 2 1 (.t 12) (kI 0))),(aO 149 (.ld false 1 (.t 148))),(aO 150 (.ixa 2 1 (.t 12) (kI 1))),(aO 151 (.ld false 1 (.t 150))),(aO 152 (.ixa 2 3 (.t 5) (kI 1))),(aO 153 (.ixa 3 1 (.t 152) (kI 0))),(aO 154 (.ld false 1 (.t 153))),(aO 155 (.dvd .rem true .u8 (.t 154) (.c (.sc (.int .u8 64))))),(aO 156 (.cnv true .i64 (.t 155))),(aO 157 (.bld [zI,zI,zI] [(0,1,(.t 149)),(1,1,(.t 151)),(2,1,(.t 156))])),(aO 158 (.cal 20 [(.t 147),(.t 157)])),(aO 20 (.alc [.nil,zI])),(aN (.sto 2 (.t 20) (.t 158)))]))
 ac6x_r24))))
def ac6x_r18:AC:=
 (.seq (.rgs [
 ([0,268,5,7,8,9,10,12,13,14],[
 (aO 114 (.ixa 2 3 (.t 5) (kI 0))),(aO 115 (.ixa 3 1 (.t 114) (kI 2))),(aO 116 (.ld false 1 (.t 115))),(aO 117 (.dvd .rem true .u8 (.t 116) (.c (.sc (.int .u8 2))))),(aO 118 (.cmp .eql .u8 (.t 117) (.c (.sc (.int .u8 1))))),(aO 119 (.mv (.t 118))),⟨some 120,some (119,true),.ixa 2 3 (.t 5) (kI 0)⟩,⟨some 121,some (119,true),.ixa 3 1 (.t 120) (kI 2)⟩,⟨some 122,some (119,true),.ld false 1 (.t 121)⟩,⟨some 123,some (119,true),.dvd .rem true .u8 (.t 122) (.c (.sc (.int .u8 57)))⟩,⟨some 124,some (119,true),.ixa 2 3 (.t 5) (kI 0)⟩,⟨some 125,some (119,true),.ixa 3 1 (.t 124) (kI 1)⟩]),([0,268,5,7,8,9,10,12,13,14,119,123,125],[
 ⟨some 126,some (119,true),.ld false 1 (.t 125)⟩,⟨some 127,some (119,true),.dvd .rem true .u8 (.t 126) (.c (.sc (.int .u8 57)))⟩,⟨some 128,some (119,true),.cmp .eql .u8 (.t 123) (.t 127)⟩,(aO 129 (.pick (.t 119) (.t 128) (.c (.sc (.bool false))))),(aO 17 (.mv (.t 129)))])])
 (.cut [0,268,5,7,8,9,10,12,13,14,17] ac6x_r19))
def ac6x:AC:=
 (.seq (.reg [0,268,0,1,2] [
 (aO 3 (.box (.t 0))),(aO 5 (.box (.t 2))),(aO 6 (.mv (.c (.sc (.bool false)))))])
 (.seq (.reg [0,268,1,3,5] [
 (aO 26 (.cal 8 [])),(aO 7 (.mv (.t 26)))])
 (.seq (.seq (.reg [0,268,1,3,5,7] [
 (aO 27 (.mv (.t 7))),(aO 28 (.not (.t 27))),(aO 29 (.mv (.t 28))),⟨some 30,some (29,false),.ld true 5 (.t 3)⟩,⟨some 31,some (29,false),.cal 9 [(.t 30)]⟩,⟨some 32,some (29,false),.not (.t 31)⟩,(aO 33 (.pick (.t 29) (.c (.sc (.bool true))) (.t 32))),(aO 34 (.mv (.t 33))),⟨some 35,some (34,false),.mv (.t 1)⟩,⟨some 36,some (34,false),.len (.t 35)⟩,⟨some 37,some (34,false),.cmp .gtr .i64 (.t 36) (kI 100)⟩,(aO 38 (.pick (.t 34) (.c (.sc (.bool true))) (.t 37)))])
 (.cut [0,268,1,3,5,7,38] (.cond (.t 38)
 (.seq (.reg [0,268,7] [
 (aO 39 (.mv (.t 7))),(aO 6 (.mv (.t 39)))])
 .ret)
 .skip)))
 (.seq (.reg [0,268,1,3,5,7] [
 (aO 40 (.ld true 5 (.t 3))),(aO 41 (.cal 11 [(.t 40)])),(aO 8 (.alc [zI,zI,zI,zI,.nil])),(aN (.sto 5 (.t 8) (.t 41)))])
 (.seq (.reg [0,268,1,5,7,8] [
 (aO 42 (.ld true 5 (.t 8))),(aO 43 (.mv (.t 1))),(aO 44 (.cal 12 [(.t 42),(.t 43)])),(aO 9 (.alc [.nil,.nil,.nil,.nil])),(aN (.sto 4 (.t 9) (.t 44)))])
 (.seq (.reg [0,268,5,7,8,9] [
 (aO 45 (.ld true 5 (.t 8))),(aO 46 (.ld true 4 (.t 9))),(aO 47 (.cal 13 [(.t 45),(.t 46)])),(aO 10 (.alc [.nil,zI])),(aN (.sto 2 (.t 10) (.t 47)))])
 (.seq (.reg [0,268,5,7,8,9,10] [
 (aO 48 (.fa 0 (.t 10))),(aO 49 (.ld false 1 (.t 48))),(aO 50 (.cal 19 [(.t 49)])),(aO 11 (.mv (.t 50)))])
 (.seq (.seq (.reg [0,268,5,7,8,9,10,11] [
 (aO 51 (.fa 1 (.t 10))),(aO 52 (.ld false 1 (.t 51))),(aO 53 (.cmp .neq .i64 (.t 52) (kI 0))),(aO 54 (.mv (.t 53))),⟨some 55,some (54,false),.mv (.t 11)⟩,⟨some 56,some (54,false),.len (.t 55)⟩,⟨some 57,some (54,false),.cmp .eql .i64 (.t 56) (kI 0)⟩,(aO 58 (.pick (.t 54) (.c (.sc (.bool true))) (.t 57)))])
 (.cut [0,268,5,7,8,9,10,11,58] (.cond (.t 58)
 (.seq (.reg [0,268] [
 (aO 6 (.mv (.c (.sc (.bool false)))))])
 .ret)
 .skip)))
 (.seq (.reg [0,268,5,7,8,9,10,11] [
 (aO 59 (.mv (.t 11))),(aO 60 (.ixa 2 3 (.t 5) (kI 0))),(aO 61 (.ixa 3 1 (.t 60) (kI 0))),(aO 62 (.ld false 1 (.t 61))),(aO 63 (.cnv true .i64 (.t 62))),(aO 64 (.mv (.t 11))),(aO 65 (.len (.t 64))),(aO 66 (.dvd .rem true .i64 (.t 63) (.t 65))),(aO 67 (.ixs 2 (.t 59) (.t 66))),(aO 68 (.ld true 2 (.t 67))),(aO 12 (.alc [zI,zI])),(aN (.sto 2 (.t 12) (.t 68)))])
 (.seq (.reg [0,268,5,7,8,9,10,12] [
 (aO 69 (.fa 0 (.t 10))),(aO 70 (.ld false 1 (.t 69))),(aO 71 (.clm 24 [(.t 70)])),(aO 13 (.mv (.t 71)))])
 (.seq (.drw [0,268,5,7,8,9,10,12,13] [
 (eT 73 (.mv (.t 13))),(eT 74 (.ixa 2 1 (.t 12) (kI 0))),(eT 75 (.ld false 1 (.t 74))),(eT 76 (.ixs 1 (.t 73) (.t 75))),(eT 77 (.fa 0 (.t 76))),(eT 78 (.ld false 1 (.t 77))),(eT 79 (.ixa 2 1 (.t 12) (kI 1))),(eT 80 (.ld false 1 (.t 79))),(eF 81 (.ixs 1 (.t 78) (.t 80))),(eF 82 (.ld false 1 (.t 81))),(eF 83 (.cal 25 [(.t 82)])),(eF 72 (.mv (.t 83))),(eT 84 (.ext (.t 72) 0)),(eT 85 (.ext (.t 72) 1)),(eT 86 (.ext (.t 72) 2)),(eT 14 (.mv (.t 84))),(eT 15 (.mv (.t 85))),(eF 16 (.mv (.t 86)))])
 (.seq (.seq (.reg [0,268,5,7,8,9,10,12,13,14,15,16] [
 (aO 87 (.mv (.t 16))),(aO 88 (.cmp .neq .i64 (.t 87) (kI 0))),(aO 89 (.mv (.t 88))),⟨some 90,some (89,false),.mv (.t 15)⟩,⟨some 91,some (89,false),.cmp .neq .i64 (.t 90) (kI 0)⟩,(aO 92 (.pick (.t 89) (.c (.sc (.bool true))) (.t 91)))])
 (.cut [0,268,5,7,8,9,10,12,13,14,92] (.cond (.t 92)
 (.seq (.reg [0,268] [
 (aO 6 (.mv (.c (.sc (.bool false)))))])
 .ret)
 .skip)))
 (.seq (.reg [0,268,5,7,8,9,10,12,13,14] [
 (aO 93 (.mv (.t 14))),(aO 94 (.ixa 2 3 (.t 5) (kI 0))),(aO 95 (.ixa 3 1 (.t 94) (kI 1))),(aO 96 (.ld false 1 (.t 95))),(aO 97 (.dvd .rem true .u8 (.t 96) (.c (.sc (.int .u8 57))))),(aO 98 (.cnv true .u64 (.t 97))),(aO 99 (.shf .shl .u64 (.c (.sc (.int .u64 1))) (.t 98))),(aO 100 (.bit .xor .u64 (.t 93) (.t 99))),(aO 14 (.mv (.t 100)))])
 (.seq (.seq (.reg [0,268,5,7,8,9,10,12,13,14] [
 (aO 101 (.ixa 2 3 (.t 5) (kI 0))),(aO 102 (.ixa 3 1 (.t 101) (kI 2))),(aO 103 (.ld false 1 (.t 102))),(aO 104 (.dvd .rem true .u8 (.t 103) (.c (.sc (.int .u8 2))))),(aO 105 (.cmp .eql .u8 (.t 104) (.c (.sc (.int .u8 1)))))])
 (.cond (.t 105)
 (.reg [0,268,5,7,8,9,10,12,13,14] [
 (aO 106 (.mv (.t 14))),(aO 107 (.ixa 2 3 (.t 5) (kI 0))),(aO 108 (.ixa 3 1 (.t 107) (kI 2))),(aO 109 (.ld false 1 (.t 108))),(aO 110 (.dvd .rem true .u8 (.t 109) (.c (.sc (.int .u8 57))))),(aO 111 (.cnv true .u64 (.t 110))),(aO 112 (.shf .shl .u64 (.c (.sc (.int .u64 1))) (.t 111))),(aO 113 (.bit .xor .u64 (.t 106) (.t 112))),(aO 14 (.mv (.t 113)))])
 .skip))
 ac6x_r18))))))))))))))
def rv6x:List RV:=[.tmp 6]
theorem ok6x:fnOk Tryd.prog ac6x rv6x Tryd.f6=true:=by kernel_rfl
end Go.Proofs.YtecoaapkcnhlhaaDoor.Txt
namespace Go.Vc
open Go Go.RowKit
theorem qKc {P : Env} {ops : List XO} {V : List Nat -> Nat -> PV} {s0 : List (Nat × PV)} (mem : List Nat -> List (Nat × List PV) × List (Nat × Arr) × List (Nat × Mp)) (hops : qAv ops = true)
  (step: ∀x∈ops,∀dn,rdyB dn x=true->qAD ops dn-> ∀K:St->Prop,K ⟨putD (V (x.i::dn)) x (slD (V (x.i::dn)) dn ops s0),(mem (x.i::dn)).1,(mem (x.i::dn)).2.1,(mem (x.i::dn)).2.2⟩->
   opsK P [x.o] ⟨slD (V dn) dn ops s0,(mem dn).1,(mem dn).2.1,(mem dn).2.2⟩ K) {K:St->Prop}
  (hK: ∀dn,(∀x∈ops,dn.contains x.i=true)->K ⟨slD (V dn) dn ops s0,(mem dn).1,(mem dn).2.1,(mem dn).2.2⟩):
  ∀(n:Nat) (dn:List Nat),dn.length+n=ops.length->dn.Nodup->(∀j∈dn,j∈ops.map (·.i))->qAD ops dn->allK P ops n dn ⟨slD (V dn) dn ops s0,(mem dn).1,(mem dn).2.1,(mem dn).2.2⟩ K
 | 0, dn, hl, hn, hs, _ => by
   have hall: ∀x∈ops,dn.contains x.i=true:=fun x hx=>by
    refine Classical.byContradiction fun hc=> ?_
    have hm:x.i∉dn:=by simpa using hc
    have:=qAE (l1:=x.i::dn) (l2:=ops.map (·.i)) (List.nodup_cons.2 ⟨hm,hn⟩) fun j hj=>(List.mem_cons.1 hj).elim (fun e=>by rw[e];exact List.mem_map_of_mem hx) (hs j)
    simp at this
    omega
   exact⟨yE.2 hall,hK dn hall⟩
 | n + 1, dn, hl, hn, hs, hc => by
   refine⟨fun e=>hK dn (yE.1 e),fun x hx hr=> ?_⟩
   have hr2:=hr
   simp only[rdyB,zN,Bool.not_eq_true',yE]at hr2
   have hm:x.i∉dn:=by simpa using hr2.1
   refine step x hx dn hr hc (fun st' =>allK P ops n (x.i::dn) st' K) ?_
   rw[<- qAA hr2.1 hops hx]
   refine qKc mem hops step hK n (x.i::dn) (by simp;omega) (List.nodup_cons.2 ⟨hm,hn⟩) (fun j hj=>(List.mem_cons.1 hj).elim (fun e=>by rw[e];exact List.mem_map_of_mem hx) (hs j)) ?_
   intro y hy hyd j hj
   rw[List.contains_cons,Bool.or_eq_true]at hyd ⊢
   rcases hyd with e|hyd
   ·have e:y.i=x.i:=by simpa using e
    have:y=x:=qAF hops hy hx e
    subst this
    exact .inr (hr2.2 j hj)
   ·exact .inr (hc y hy hyd j hj)
theorem qKd {P : Env} {ops : List XO} (V : List Nat -> Nat -> PV) {s0 : List (Nat × PV)} (mem : List Nat -> List (Nat × List PV) × List (Nat × Arr) × List (Nat × Mp)) (hops : qAv ops = true)
  (step: ∀x∈ops,∀(dn:List Nat) (S:List (Nat×PV)),rdyB dn x=true->qAD ops dn->S=slD (V dn) dn ops s0->(∀t,knW ops dn t->getL S t=vlW ops (V dn) s0 t)->
   ∀K:St->Prop,K ⟨putD (V (x.i::dn)) x (slD (V (x.i::dn)) dn ops s0),(mem (x.i::dn)).1,(mem (x.i::dn)).2.1,(mem (x.i::dn)).2.2⟩->opsK P [x.o] ⟨S,(mem dn).1,(mem dn).2.1,(mem dn).2.2⟩ K) {K:St->Prop}
  (hK: ∀dn,(∀x∈ops,dn.contains x.i=true)->K ⟨slA (V dn) ops s0,(mem dn).1,(mem dn).2.1,(mem dn).2.2⟩) {st:St} (hst:st=⟨s0,(mem []).1,(mem []).2.1,(mem []).2.2⟩):allK P ops ops.length [] st K:=by
 have h0:slD (V []) [] ops s0=s0:=by
  have: ∀(l:List XO) (s:List (Nat×PV)),slD (V []) [] l s=s:=by
   intro l
   induction l with
   |nil=>exact fun _=>rfl
   |cons x r ih=>exact fun s=>by rw[qAu,if_neg (by simp)];exact ih s
  exact this ops s0
 subst hst
 have key:=qKc (P:=P) (ops:=ops) (V:=V) (s0:=s0) mem hops (fun x hx dn hr hc K hk=>step x hx dn _ hr hc rfl (fun t ht=>qAJ hops ht) K hk) (K:=K) (fun dn h=>by rw[qAK h];exact hK dn h) ops.length [] (by simp) .nil (fun j hj=>by cases hj) (fun x _ h=>by simp at h)
 rw[h0]at key
 exact key
end Go.Vc
namespace Go.Proofs.YtecoaapkcnhlhaaDoor
open Go Go.Vc Go.Ham Txt
theorem FrmSm.drop{F:List (List Nat)}(h:FrmSm F)(k:Nat):FrmSm (F.drop k):=⟨fun ws hw=>h.ok ws (List.mem_of_mem_drop hw),by have:=h.n;rw[List.length_drop];omega,fun ws hw=>h.len ws (List.mem_of_mem_drop hw)⟩
theorem FrmSm.one{F:List (List Nat)}(h:FrmSm F)(hn:F.length<=800):FrmSm (F++[[]]):=by
 have key: ∀ws∈F++[[]],ws∈F\/ws=[]:=fun ws hw=>(yC.1 hw).imp id fun h=>by simpa using h
 refine⟨fun ws hw w hww=> ?_,by rw[zU];show F.length+1<=900;omega,fun ws hw=> ?_⟩
 ·rcases key ws hw with h1|rfl
  ·exact h.ok ws h1 w hww
  ·cases hww
 ·rcases key ws hw with h1|rfl
  ·exact h.len ws h1
  ·exact Nat.zero_le _
theorem qKe(F:List (List Nat)):Sub (.sl false 1 (rows (frmC true) F++[[.nil]])) (.sl false 1 (rows (frmC false) (F++[[]]))):=by
 have e1:rows (frmC true) F++[[PV.nil]]=(F.map some++[none]).map fun x:Option (List Nat)=>match x with|some ws=>frmC true ws|none=>[.nil]:=by
  rw[yH,List.map_map];rfl
 have e2:rows (frmC false) (F++[[]])=(F.map some++[none]).map fun x:Option (List Nat)=>match x with|some ws=>frmC false ws|none=>frmC false []:=by
  rw[yH,List.map_map];simp[rows,Function.comp_def]
 rw[e1,e2]
 refine qG1 _ _ (fun h=>h) (fun x _=>by cases x<;>rfl) fun x _=> ?_
 cases x with
 |none=>exact⟨.nil _ _,trivial⟩
 |some ws=>exact⟨.slp _ _ _ _ (fun h=>by cases h),trivial⟩
def vLst(g:Grid)(F S0:List (List Nat))(dn:List Nat):Nat->PV
 |0=> .agg (quX true g)
 |1=> .sl true 1 (rows (frmC true) S0)
 |2=> .agg (dcdC true cfg0 0 380)
 |3=> .int 380
 |4=> .bool true
 |5=> .bool true
 |6=> .agg (quX true g)
 |7=> .ptr 10 0
 |8=> .sl true 1 (rows (frmC true) F)
 |9=> .sl true 1 (rows (frmC true) (F.drop 1))
 |10=> .agg (dcdC true cfg0 0 380)
 |11=> .int 380
 |12=> .bool true
 |13=> .bool true
 |14=> .bool true
 |15=> .agg (quX true g)
 |16=> .ptr 10 0
 |17=> .sl true 1 (rows (frmC true) F)
 |18=>if dn.contains 21=true then .bot else .view 1005 0 F.length
 |19=> .agg [.nil]
 |20=> .view 259 0 1
 |21=> .view 1005 0 (F.length+1)
 |22=> .agg (dcdC true cfg0 0 380)
 |23=> .int 380
 |24=> .bool true
 |25=> .bool true
 |26=> .bool true
 |27=> .bool true
 |28=> .bool true
 |29=> .bool true
 |_=> .bot
def aLst(F:List (List Nat))(dn:List Nat):List (Nat×Arr):=
 if dn.contains 21=true then[(259,⟨1,52,[[.nil]]⟩),(1005,⟨1,52,rows (frmC true) F++[[.nil]]⟩)]else(if dn.contains 20=true then[(259,⟨1,52,[[.nil]]⟩)]else[])++(if dn.contains 18=true then[(1005,⟨1,52,rows (frmC true) F⟩)]else[])
def bLst(g:Grid)(c:Cfg)(F:List (List Nat))(p1 p2:Nat):List (Nat×List PV):=[(8,quX true g),(9,cfgC true c),(10,[.sl true 1 (rows (frmC true) F),.int 0]),(12,[.int (p1:Nat),.int (p2:Nat)])]
@[push_cast] theorem qKf(g:Grid)(c:Cfg)(F:List (List Nat))(p1 p2:Nat):bLst g c F p1 p2=[(8,quX true g),(9,cfgC true c),(10,[.sl true 1 (rows (frmC true) F),.int 0]),(12,[.int (p1:Nat),.int (p2:Nat)])]:=rfl
def sLst(S0:List (List Nat)):List (Nat×PV):=[(7,.bool true),(8,.ptr 8 0),(10,.ptr 10 0),(25,.sl true 1 (rows (frmC true) S0))]
set_option maxHeartbeats 4000000 in
theorem qKg (g : Grid) (hg : GOk g) (c : Cfg) (F S0 : List (List Nat)) (p1 p2 : Nat) (hF : FrmSm F) (hS0 : FrmSm S0) (hl : F.length <= 800) (hl1 : 1 <= F.length) (n1 : ¬ Dec38 g S0) (n2 : ¬ Dec38 g (F.drop 1)) (n3 : ¬ Dec38 g (F ++ [[]])) (K : St -> Prop)
  (hK: ∀dn,K ⟨slA (vLst g F S0 dn) xs6x_37 (sLst S0),bLst g c F p1 p2,aLst F dn,[]⟩):
  allK (Env.of Tryd.prog) xs6x_37 xs6x_37.length [] ⟨sLst S0,bLst g c F p1 p2,[],[]⟩ K:=by
 have hd1:=qIX g hg S0 hS0 n1
 have hd2:=qIX g hg _ (hF.drop 1) n2
 have hd3:=qIX g hg _ (hF.one hl) n3
 have hgs:Sub (.agg (quX true g)) (.agg (quX false g)):=Sub.aggL ⟨.refl _,.refl _,.refl _,.refl _,.slp _ _ _ _ (fun h=>by cases h),trivial⟩
 refine qKd (ops:=xs6x_37) (vLst g F S0) (fun dn=>(bLst g c F p1 p2,aLst F dn,[])) rfl ?_ ?_ rfl
 ·rw[xs6x_37_all]
  refine⟨?_,?_,?_,?_,?_,?_,?_,?_,?_,?_,?_,?_,?_,?_,?_,?_,?_,?_,?_,?_,?_,?_,?_,?_,?_,?_,?_,?_,?_,?_⟩
  ·intro dn S hr hc hS L K hK
   have g8:getL S 8= .ptr 8 0:=L 8 trivial
   have e:vLst g F S0 (0::dn)=vLst g F S0 dn:=rfl
   have em:aLst F (0::dn)=aLst F dn:=rfl
   show opsK _ _ ⟨S,bLst g c F p1 p2,aLst F dn,[]⟩ K
   rw[e,<- hS]at hK
   have hK:K ⟨up S 239 (.agg (quX true g)),bLst g c F p1 p2,aLst F dn,[]⟩:=hK
   simp only[g8,push_cast,reduceIte,zA,zB,zC,zD,zE,zF,zG,reduceCtorEq,zH,zJ,cNI]at hK ⊢
   first|exact hK|exact⟨oM,hK⟩|exact⟨by decide,hK⟩
  ·intro dn S hr hc hS L K hK
   have g25:getL S 25= .sl true 1 (rows (frmC true) S0):=L 25 trivial
   have e:vLst g F S0 (1::dn)=vLst g F S0 dn:=rfl
   have em:aLst F (1::dn)=aLst F dn:=rfl
   show opsK _ _ ⟨S,bLst g c F p1 p2,aLst F dn,[]⟩ K
   rw[e,<- hS]at hK
   have hK:K ⟨up S 240 (.sl true 1 (rows (frmC true) S0)),bLst g c F p1 p2,aLst F dn,[]⟩:=hK
   simp only[g25,push_cast,reduceIte,zA,zB,zC,zD,zE,zF,zG,reduceCtorEq,zH,zJ,cNI]at hK ⊢
   first|exact hK|exact⟨oM,hK⟩|exact⟨by decide,hK⟩
  ·intro dn S hr hc hS L K hK
   have g239:getL S 239= .agg (quX true g):=L 239 (qAP hr (j:=0) (by decide))
   have g240:getL S 240= .sl true 1 (rows (frmC true) S0):=L 240 (qAP hr (j:=1) (by decide))
   have e:vLst g F S0 (2::dn)=vLst g F S0 dn:=rfl
   have em:aLst F (2::dn)=aLst F dn:=rfl
   show opsK _ _ ⟨S,bLst g c F p1 p2,aLst F dn,[]⟩ K
   rw[e,<- hS]at hK
   have hK:K ⟨up S 241 (.agg (dcdC true cfg0 0 380)),bLst g c F p1 p2,aLst F dn,[]⟩:=hK
   simp only[g239,g240,push_cast,reduceIte,zA,zB,zC,zD,zE,zF,zG,reduceCtorEq,zH,zJ,cNI]at hK ⊢
   refine qrv hd1 (by exact⟨hgs,qJ6 true _,trivial⟩) ?_
   first|exact hK|(simp only[push_cast,reduceIte,zA,zB,zC,zD,zE,zF,zG,reduceCtorEq,zH,zJ,cNI];exact hK)
  ·intro dn S hr hc hS L K hK
   have g241:getL S 241= .agg (dcdC true cfg0 0 380):=L 241 (qAP hr (j:=2) (by decide))
   have e:vLst g F S0 (3::dn)=vLst g F S0 dn:=rfl
   have em:aLst F (3::dn)=aLst F dn:=rfl
   show opsK _ _ ⟨S,bLst g c F p1 p2,aLst F dn,[]⟩ K
   rw[e,<- hS]at hK
   have hK:K ⟨up S 242 (.int 380),bLst g c F p1 p2,aLst F dn,[]⟩:=hK
   simp only[g241,push_cast,reduceIte,zA,zB,zC,zD,zE,zF,zG,reduceCtorEq,zH,zJ,cNI]at hK ⊢
   first|exact hK|exact⟨oM,hK⟩|exact⟨by decide,hK⟩
  ·intro dn S hr hc hS L K hK
   have g242:getL S 242= .int 380:=L 242 (qAP hr (j:=3) (by decide))
   have e:vLst g F S0 (4::dn)=vLst g F S0 dn:=rfl
   have em:aLst F (4::dn)=aLst F dn:=rfl
   show opsK _ _ ⟨S,bLst g c F p1 p2,aLst F dn,[]⟩ K
   rw[e,<- hS]at hK
   have hK:K ⟨up S 243 (.bool true),bLst g c F p1 p2,aLst F dn,[]⟩:=hK
   simp only[g242,push_cast,reduceIte,zA,zB,zC,zD,zE,zF,zG,reduceCtorEq,zH,zJ,cNI]at hK ⊢
   first|exact hK|exact⟨oM,hK⟩|exact⟨by decide,hK⟩
  ·intro dn S hr hc hS L K hK
   have g243:getL S 243= .bool true:=L 243 (qAP hr (j:=4) (by decide))
   have e:vLst g F S0 (5::dn)=vLst g F S0 dn:=rfl
   have em:aLst F (5::dn)=aLst F dn:=rfl
   show opsK _ _ ⟨S,bLst g c F p1 p2,aLst F dn,[]⟩ K
   rw[e,<- hS]at hK
   have hK:K ⟨up S 244 (.bool true),bLst g c F p1 p2,aLst F dn,[]⟩:=hK
   simp only[g243,push_cast,reduceIte,zA,zB,zC,zD,zE,zF,zG,reduceCtorEq,zH,zJ,cNI]at hK ⊢
   first|exact hK|exact⟨oM,hK⟩|exact⟨by decide,hK⟩
  ·intro dn S hr hc hS L K hK
   have g8:getL S 8= .ptr 8 0:=L 8 trivial
   have g244:getL S 244= .bool true:=L 244 (qAP hr (j:=5) (by decide))
   have e:vLst g F S0 (6::dn)=vLst g F S0 dn:=rfl
   have em:aLst F (6::dn)=aLst F dn:=rfl
   show opsK _ _ ⟨S,bLst g c F p1 p2,aLst F dn,[]⟩ K
   rw[e,<- hS]at hK
   have hK:K ⟨up S 245 (.agg (quX true g)),bLst g c F p1 p2,aLst F dn,[]⟩:=hK
   simp only[g8,g244,push_cast,reduceIte,zA,zB,zC,zD,zE,zF,zG,reduceCtorEq,zH,zJ,cNI]at hK ⊢
   first|exact hK|exact⟨oM,hK⟩|exact⟨by decide,hK⟩
  ·intro dn S hr hc hS L K hK
   have g10:getL S 10= .ptr 10 0:=L 10 trivial
   have g244:getL S 244= .bool true:=L 244 (qAP hr (j:=5) (by decide))
   have e:vLst g F S0 (7::dn)=vLst g F S0 dn:=rfl
   have em:aLst F (7::dn)=aLst F dn:=rfl
   show opsK _ _ ⟨S,bLst g c F p1 p2,aLst F dn,[]⟩ K
   rw[e,<- hS]at hK
   have hK:K ⟨up S 246 (.ptr 10 0),bLst g c F p1 p2,aLst F dn,[]⟩:=hK
   simp only[g10,g244,push_cast,reduceIte,zA,zB,zC,zD,zE,zF,zG,reduceCtorEq,zH,zJ,cNI]at hK ⊢
   first|exact hK|exact⟨oM,hK⟩|exact⟨by decide,hK⟩
  ·intro dn S hr hc hS L K hK
   have g244:getL S 244= .bool true:=L 244 (qAP hr (j:=5) (by decide))
   have g246:getL S 246= .ptr 10 0:=L 246 (qAP hr (j:=7) (by decide))
   have e:vLst g F S0 (8::dn)=vLst g F S0 dn:=rfl
   have em:aLst F (8::dn)=aLst F dn:=rfl
   show opsK _ _ ⟨S,bLst g c F p1 p2,aLst F dn,[]⟩ K
   rw[e,<- hS]at hK
   have hK:K ⟨up S 247 (.sl true 1 (rows (frmC true) F)),bLst g c F p1 p2,aLst F dn,[]⟩:=hK
   simp only[g244,g246,push_cast,reduceIte,zA,zB,zC,zD,zE,zF,zG,reduceCtorEq,zH,zJ,cNI]at hK ⊢
   first|exact hK|exact⟨oM,hK⟩|exact⟨by decide,hK⟩
  ·intro dn S hr hc hS L K hK
   have g244:getL S 244= .bool true:=L 244 (qAP hr (j:=5) (by decide))
   have g247:getL S 247= .sl true 1 (rows (frmC true) F):=L 247 (qAP hr (j:=8) (by decide))
   have e:vLst g F S0 (9::dn)=vLst g F S0 dn:=rfl
   have em:aLst F (9::dn)=aLst F dn:=rfl
   show opsK _ _ ⟨S,bLst g c F p1 p2,aLst F dn,[]⟩ K
   rw[e,<- hS]at hK
   have hK:K ⟨up S 248 (.sl true 1 (rows (frmC true) (F.drop 1))),bLst g c F p1 p2,aLst F dn,[]⟩:=hK
   simp only[g244,g247,push_cast,reduceIte,zA,zB,zC,zD,zE,zF,zG,reduceCtorEq,zH,zJ,cNI]at hK ⊢
   first|exact hK|exact⟨⟨oM,oM,oM⟩,hK⟩
  ·intro dn S hr hc hS L K hK
   have g244:getL S 244= .bool true:=L 244 (qAP hr (j:=5) (by decide))
   have g245:getL S 245= .agg (quX true g):=L 245 (qAP hr (j:=6) (by decide))
   have g248:getL S 248= .sl true 1 (rows (frmC true) (F.drop 1)):=L 248 (qAP hr (j:=9) (by decide))
   have e:vLst g F S0 (10::dn)=vLst g F S0 dn:=rfl
   have em:aLst F (10::dn)=aLst F dn:=rfl
   show opsK _ _ ⟨S,bLst g c F p1 p2,aLst F dn,[]⟩ K
   rw[e,<- hS]at hK
   have hK:K ⟨up S 249 (.agg (dcdC true cfg0 0 380)),bLst g c F p1 p2,aLst F dn,[]⟩:=hK
   simp only[g244,g245,g248,push_cast,reduceIte,zA,zB,zC,zD,zE,zF,zG,reduceCtorEq,zH,zJ,cNI]at hK ⊢
   refine qrv hd2 (by exact⟨hgs,qJ6 true _,trivial⟩) ?_
   first|exact hK|(simp only[push_cast,reduceIte,zA,zB,zC,zD,zE,zF,zG,reduceCtorEq,zH,zJ,cNI];exact hK)
  ·intro dn S hr hc hS L K hK
   have g244:getL S 244= .bool true:=L 244 (qAP hr (j:=5) (by decide))
   have g249:getL S 249= .agg (dcdC true cfg0 0 380):=L 249 (qAP hr (j:=10) (by decide))
   have e:vLst g F S0 (11::dn)=vLst g F S0 dn:=rfl
   have em:aLst F (11::dn)=aLst F dn:=rfl
   show opsK _ _ ⟨S,bLst g c F p1 p2,aLst F dn,[]⟩ K
   rw[e,<- hS]at hK
   have hK:K ⟨up S 250 (.int 380),bLst g c F p1 p2,aLst F dn,[]⟩:=hK
   simp only[g244,g249,push_cast,reduceIte,zA,zB,zC,zD,zE,zF,zG,reduceCtorEq,zH,zJ,cNI]at hK ⊢
   first|exact hK|exact⟨oM,hK⟩|exact⟨by decide,hK⟩
  ·intro dn S hr hc hS L K hK
   have g244:getL S 244= .bool true:=L 244 (qAP hr (j:=5) (by decide))
   have g250:getL S 250= .int 380:=L 250 (qAP hr (j:=11) (by decide))
   have e:vLst g F S0 (12::dn)=vLst g F S0 dn:=rfl
   have em:aLst F (12::dn)=aLst F dn:=rfl
   show opsK _ _ ⟨S,bLst g c F p1 p2,aLst F dn,[]⟩ K
   rw[e,<- hS]at hK
   have hK:K ⟨up S 251 (.bool true),bLst g c F p1 p2,aLst F dn,[]⟩:=hK
   simp only[g244,g250,push_cast,reduceIte,zA,zB,zC,zD,zE,zF,zG,reduceCtorEq,zH,zJ,cNI]at hK ⊢
   first|exact hK|exact⟨oM,hK⟩|exact⟨by decide,hK⟩
  ·intro dn S hr hc hS L K hK
   have g244:getL S 244= .bool true:=L 244 (qAP hr (j:=5) (by decide))
   have g251:getL S 251= .bool true:=L 251 (qAP hr (j:=12) (by decide))
   have e:vLst g F S0 (13::dn)=vLst g F S0 dn:=rfl
   have em:aLst F (13::dn)=aLst F dn:=rfl
   show opsK _ _ ⟨S,bLst g c F p1 p2,aLst F dn,[]⟩ K
   rw[e,<- hS]at hK
   have hK:K ⟨up S 252 (.bool true),bLst g c F p1 p2,aLst F dn,[]⟩:=hK
   simp only[g244,g251,push_cast,reduceIte,zA,zB,zC,zD,zE,zF,zG,reduceCtorEq,zH,zJ,cNI]at hK ⊢
   first|exact hK|exact⟨oM,hK⟩|exact⟨by decide,hK⟩
  ·intro dn S hr hc hS L K hK
   have g252:getL S 252= .bool true:=L 252 (qAP hr (j:=13) (by decide))
   have e:vLst g F S0 (14::dn)=vLst g F S0 dn:=rfl
   have em:aLst F (14::dn)=aLst F dn:=rfl
   show opsK _ _ ⟨S,bLst g c F p1 p2,aLst F dn,[]⟩ K
   rw[e,<- hS]at hK
   have hK:K ⟨up S 253 (.bool true),bLst g c F p1 p2,aLst F dn,[]⟩:=hK
   simp only[g252,push_cast,reduceIte,zA,zB,zC,zD,zE,zF,zG,reduceCtorEq,zH,zJ,cNI]at hK ⊢
   first|exact hK|exact⟨oM,hK⟩|exact⟨by decide,hK⟩
  ·intro dn S hr hc hS L K hK
   have g8:getL S 8= .ptr 8 0:=L 8 trivial
   have g253:getL S 253= .bool true:=L 253 (qAP hr (j:=14) (by decide))
   have e:vLst g F S0 (15::dn)=vLst g F S0 dn:=rfl
   have em:aLst F (15::dn)=aLst F dn:=rfl
   show opsK _ _ ⟨S,bLst g c F p1 p2,aLst F dn,[]⟩ K
   rw[e,<- hS]at hK
   have hK:K ⟨up S 254 (.agg (quX true g)),bLst g c F p1 p2,aLst F dn,[]⟩:=hK
   simp only[g8,g253,push_cast,reduceIte,zA,zB,zC,zD,zE,zF,zG,reduceCtorEq,zH,zJ,cNI]at hK ⊢
   first|exact hK|exact⟨oM,hK⟩|exact⟨by decide,hK⟩
  ·intro dn S hr hc hS L K hK
   have g10:getL S 10= .ptr 10 0:=L 10 trivial
   have g253:getL S 253= .bool true:=L 253 (qAP hr (j:=14) (by decide))
   have e:vLst g F S0 (16::dn)=vLst g F S0 dn:=rfl
   have em:aLst F (16::dn)=aLst F dn:=rfl
   show opsK _ _ ⟨S,bLst g c F p1 p2,aLst F dn,[]⟩ K
   rw[e,<- hS]at hK
   have hK:K ⟨up S 255 (.ptr 10 0),bLst g c F p1 p2,aLst F dn,[]⟩:=hK
   simp only[g10,g253,push_cast,reduceIte,zA,zB,zC,zD,zE,zF,zG,reduceCtorEq,zH,zJ,cNI]at hK ⊢
   first|exact hK|exact⟨oM,hK⟩|exact⟨by decide,hK⟩
  ·intro dn S hr hc hS L K hK
   have g253:getL S 253= .bool true:=L 253 (qAP hr (j:=14) (by decide))
   have g255:getL S 255= .ptr 10 0:=L 255 (qAP hr (j:=16) (by decide))
   have e:vLst g F S0 (17::dn)=vLst g F S0 dn:=rfl
   have em:aLst F (17::dn)=aLst F dn:=rfl
   show opsK _ _ ⟨S,bLst g c F p1 p2,aLst F dn,[]⟩ K
   rw[e,<- hS]at hK
   have hK:K ⟨up S 256 (.sl true 1 (rows (frmC true) F)),bLst g c F p1 p2,aLst F dn,[]⟩:=hK
   simp only[g253,g255,push_cast,reduceIte,zA,zB,zC,zD,zE,zF,zG,reduceCtorEq,zH,zJ,cNI]at hK ⊢
   first|exact hK|exact⟨oM,hK⟩|exact⟨by decide,hK⟩
  ·intro dn S hr hc hS L K hK
   have h21:dn.contains 21=false:=qAR hc hr (zP (i:=21) rfl) (by decide)
   have g253:getL S 253= .bool true:=L 253 (qAP hr (j:=14) (by decide))
   have g256:getL S 256= .sl true 1 (rows (frmC true) F):=L 256 (qAP hr (j:=17) (by decide))
   have h18:dn.contains 18=false:=qAQ hr
   have hap:qDK [] [1005] ⟨S,bLst g c F p1 p2,aLst F dn,[]⟩=true:=by
    unfold qDK
    simp only[zN]
    refine⟨?_,rfl,?_⟩
    ·unfold St.noTo
     simp only[zN]
     refine⟨⟨?_,rfl⟩,rfl⟩
     rw[hS]
     exact qAM (q:=fun v=> !v.toV (inL []) (inL [1005])) rfl (by
    rw[xs6x_37_all]
    exact⟨fun _=>rfl,fun _=>rfl,fun _=>rfl,fun _=>rfl,fun _=>rfl,fun _=>rfl,fun _=>rfl,fun _=>rfl,fun _=>rfl,fun _=>rfl,fun _=>rfl,fun _=>rfl,fun _=>rfl,fun _=>rfl,fun _=>rfl,fun _=>rfl,fun _=>rfl,fun _=>rfl,fun h=>absurd h (by rw[h18];decide),fun _=>rfl,fun _=>rfl,fun h=>absurd h (by rw[h21];decide),fun _=>rfl,fun _=>rfl,fun _=>rfl,fun _=>rfl,fun _=>rfl,fun _=>rfl,fun _=>rfl,fun _=>rfl⟩)
    ·show(aLst F dn).all _=true
     unfold aLst
     rw[h21,h18]
     cases dn.contains 20<;>rfl
   have em:aLst F (18::dn)=aLst F dn++[(1005,⟨1,52,rows (frmC true) F⟩)]:=by
    show(if dn.contains 21=true then _ else(if dn.contains 20=true then _ else[])++(if true=true then _ else[]))=_
    unfold aLst
    rw[h21,h18]
    cases dn.contains 20<;>rfl
   have e:vLst g F S0 (18::dn)=vLst g F S0 dn:=rfl
   have e5:vLst g F S0 dn 18= .view 1005 0 F.length:=by
    show(if dn.contains 21=true then PV.bot else .view 1005 0 F.length)=_
    rw[h21];rfl
   show opsK _ _ ⟨S,bLst g c F p1 p2,aLst F dn,[]⟩ K
   have hK:K ⟨up (slD (vLst g F S0 (18::dn)) dn xs6x_37 (sLst S0)) 257 (vLst g F S0 (18::dn) 18),bLst g c F p1 p2,aLst F (18::dn),[]⟩:=hK
   rw[em,e,e5,<- hS]at hK
   simp only[g253,g256,push_cast,reduceIte,zA,zB,zC,zD,zE,zF,zG,reduceCtorEq,zH,zJ,cNI]
   refine qDN [] [1005] (qKb true F hF) rfl hap rfl ?_
   simp only[List.append_nil,push_cast,reduceIte,zA,zB,zC,zD,zE,zF,zG,reduceCtorEq,zH,zJ,cNI]at hK ⊢
   exact hK
  ·intro dn S hr hc hS L K hK
   have g253:getL S 253= .bool true:=L 253 (qAP hr (j:=14) (by decide))
   have e:vLst g F S0 (19::dn)=vLst g F S0 dn:=rfl
   have em:aLst F (19::dn)=aLst F dn:=rfl
   show opsK _ _ ⟨S,bLst g c F p1 p2,aLst F dn,[]⟩ K
   rw[e,<- hS]at hK
   have hK:K ⟨up S 258 (.agg [.nil]),bLst g c F p1 p2,aLst F dn,[]⟩:=hK
   simp only[g253,push_cast,reduceIte,zA,zB,zC,zD,zE,zF,zG,reduceCtorEq,zH,zJ,cNI]at hK ⊢
   first|exact hK|exact⟨oM,hK⟩|exact⟨by decide,hK⟩
  ·intro dn S hr hc hS L K hK
   have h21:dn.contains 21=false:=qAR hc hr (zP (i:=21) rfl) (by decide)
   have g253:getL S 253= .bool true:=L 253 (qAP hr (j:=14) (by decide))
   have g258:getL S 258= .agg [.nil]:=L 258 (qAP hr (j:=19) (by decide))
   have h20:dn.contains 20=false:=qAQ hr
   have hkS:qiE nul (isId 259) S=S:=by
    refine qAN ?_
    rw[hS]
    exact qAM (q:=fun v=> !v.toV nul (isId 259)) rfl (by
    rw[xs6x_37_all]
    exact⟨fun _=>rfl,fun _=>rfl,fun _=>rfl,fun _=>rfl,fun _=>rfl,fun _=>rfl,fun _=>rfl,fun _=>rfl,fun _=>rfl,fun _=>rfl,fun _=>rfl,fun _=>rfl,fun _=>rfl,fun _=>rfl,fun _=>rfl,fun _=>rfl,fun _=>rfl,fun _=>rfl,fun _=>by
     show(!PV.toV nul (isId 259) (if dn.contains 21=true then PV.bot else .view 1005 0 F.length))=true
     rw[h21];rfl,fun _=>rfl,fun h=>absurd h (by rw[h20];decide),fun h=>absurd h (by rw[h21];decide),fun _=>rfl,fun _=>rfl,fun _=>rfl,fun _=>rfl,fun _=>rfl,fun _=>rfl,fun _=>rfl,fun _=>rfl⟩)
   have em:aLst F (20::dn)=up (aLst F dn) 259 ⟨1,52,[[.nil]]⟩:=by
    show(if dn.contains 21=true then _ else(if true=true then _ else[])++(if dn.contains 18=true then _ else[]))=_
    unfold aLst
    rw[h21,h20]
    cases dn.contains 18<;>rfl
   have e:vLst g F S0 (20::dn)=vLst g F S0 dn:=rfl
   show opsK _ _ ⟨S,bLst g c F p1 p2,aLst F dn,[]⟩ K
   have hK:K ⟨up (slD (vLst g F S0 (20::dn)) dn xs6x_37 (sLst S0)) 259 (.view 259 0 1),bLst g c F p1 p2,aLst F (20::dn),[]⟩:=hK
   rw[em,e,<- hS]at hK
   simp only[g253,g258,hkS,rep1,List.set_cons_zero,zV,List.length_nil,push_cast,reduceIte,zA,zB,zC,zD,zE,zF,zG,reduceCtorEq,zH,zJ,cNI]at hK ⊢
   first|exact hK|exact⟨by decide,hK⟩
  ·intro dn S hr hc hS L K hK
   have h21:dn.contains 21=false:=qAQ hr
   have g253:getL S 253= .bool true:=L 253 (qAP hr (j:=14) (by decide))
   have g257:getL S 257= .view 1005 0 F.length:=by
    rw[L 257 (qAP hr (j:=18) (by decide))]
    show(if dn.contains 21=true then PV.bot else .view 1005 0 F.length)=_
    rw[h21];rfl
   have g259:getL S 259= .view 259 0 1:=L 259 (qAP hr (j:=20) (by decide))
   have h18:dn.contains 18=true:=qAP hr (j:=18) (by decide)
   have h20:dn.contains 20=true:=qAP hr (j:=20) (by decide)
   have ha:aLst F dn=[(259,⟨1,52,[[.nil]]⟩),(1005,⟨1,52,rows (frmC true) F⟩)]:=by
    unfold aLst
    rw[h21,h18,h20];rfl
   have em:aLst F (21::dn)=[(259,⟨1,52,[[.nil]]⟩),(1005,⟨1,52,rows (frmC true) F++[[.nil]]⟩)]:=rfl
   have hkS:qiE nul (isId 1005) S=slD (vLst g F S0 (21::dn)) dn xs6x_37 (sLst S0):=by
    rw[hS,qFi]
    refine(qFj (fun i hi=> ?_) _ _).trans rfl
    rcases i with _|_|_|_|_|_|_|_|_|_|_|_|_|_|_|_|_|_|_|_|_|_|_|_|_|_|_|_|_|_|i<;>try rfl
    ·show PV.killV nul (isId 1005) (if dn.contains 21=true then PV.bot else .view 1005 0 F.length)=PV.bot
     rw[h21];rfl
    ·rw[h21]at hi;cases hi
   show opsK _ _ ⟨S,bLst g c F p1 p2,aLst F dn,[]⟩ K
   have hK:K ⟨up (slD (vLst g F S0 (21::dn)) dn xs6x_37 (sLst S0)) 260 (.view 1005 0 (F.length+1)),bLst g c F p1 p2,aLst F (21::dn),[]⟩:=hK
   rw[em,<- hkS]at hK
   rw[ha]
   have hFn:=hF.n
   simp only[g253,g257,g259,List.take_succ_cons,List.take_zero,zV,List.length_nil,push_cast,reduceIte,zA,zB,zC,zD,zE,zF,zG,reduceCtorEq,zH,zJ,cNI]at hK ⊢
   first|exact hK|exact⟨⟨oM,oM⟩,hK⟩
  ·intro dn S hr hc hS L K hK
   have g253:getL S 253= .bool true:=L 253 (qAP hr (j:=14) (by decide))
   have g254:getL S 254= .agg (quX true g):=L 254 (qAP hr (j:=15) (by decide))
   have g260:getL S 260= .view 1005 0 (F.length+1):=L 260 (qAP hr (j:=21) (by decide))
   have e:vLst g F S0 (22::dn)=vLst g F S0 dn:=rfl
   have em:aLst F (22::dn)=aLst F dn:=rfl
   show opsK _ _ ⟨S,bLst g c F p1 p2,aLst F dn,[]⟩ K
   rw[e,<- hS]at hK
   have hK:K ⟨up S 261 (.agg (dcdC true cfg0 0 380)),bLst g c F p1 p2,aLst F dn,[]⟩:=hK
   have ha:aLst F dn=[(259,⟨1,52,[[.nil]]⟩),(1005,⟨1,52,rows (frmC true) F++[[.nil]]⟩)]:=by
    unfold aLst
    rw[if_pos (qAP hr (j:=21) (by decide))]
   rw[ha]at hK ⊢
   simp only[g253,g254,g260,push_cast,reduceIte,zA,zB,zC,zD,zE,zF,zG,reduceCtorEq,zH,zJ,cNI]at hK ⊢
   have htk:List.take (F.length+1) (rows (frmC true) F++[[PV.nil]])=rows (frmC true) F++[[.nil]]:=zY (by simp[rows])
   rw[htk]
   refine qrv hd3 (by exact⟨hgs,qKe F,trivial⟩) ?_
   first|exact hK|(simp only[push_cast,reduceIte,zA,zB,zC,zD,zE,zF,zG,reduceCtorEq,zH,zJ,cNI];exact hK)
  ·intro dn S hr hc hS L K hK
   have g253:getL S 253= .bool true:=L 253 (qAP hr (j:=14) (by decide))
   have g261:getL S 261= .agg (dcdC true cfg0 0 380):=L 261 (qAP hr (j:=22) (by decide))
   have e:vLst g F S0 (23::dn)=vLst g F S0 dn:=rfl
   have em:aLst F (23::dn)=aLst F dn:=rfl
   show opsK _ _ ⟨S,bLst g c F p1 p2,aLst F dn,[]⟩ K
   rw[e,<- hS]at hK
   have hK:K ⟨up S 262 (.int 380),bLst g c F p1 p2,aLst F dn,[]⟩:=hK
   simp only[g253,g261,push_cast,reduceIte,zA,zB,zC,zD,zE,zF,zG,reduceCtorEq,zH,zJ,cNI]at hK ⊢
   first|exact hK|exact⟨oM,hK⟩|exact⟨by decide,hK⟩
  ·intro dn S hr hc hS L K hK
   have g253:getL S 253= .bool true:=L 253 (qAP hr (j:=14) (by decide))
   have g262:getL S 262= .int 380:=L 262 (qAP hr (j:=23) (by decide))
   have e:vLst g F S0 (24::dn)=vLst g F S0 dn:=rfl
   have em:aLst F (24::dn)=aLst F dn:=rfl
   show opsK _ _ ⟨S,bLst g c F p1 p2,aLst F dn,[]⟩ K
   rw[e,<- hS]at hK
   have hK:K ⟨up S 263 (.bool true),bLst g c F p1 p2,aLst F dn,[]⟩:=hK
   simp only[g253,g262,push_cast,reduceIte,zA,zB,zC,zD,zE,zF,zG,reduceCtorEq,zH,zJ,cNI]at hK ⊢
   first|exact hK|exact⟨oM,hK⟩|exact⟨by decide,hK⟩
  ·intro dn S hr hc hS L K hK
   have g253:getL S 253= .bool true:=L 253 (qAP hr (j:=14) (by decide))
   have g263:getL S 263= .bool true:=L 263 (qAP hr (j:=24) (by decide))
   have e:vLst g F S0 (25::dn)=vLst g F S0 dn:=rfl
   have em:aLst F (25::dn)=aLst F dn:=rfl
   show opsK _ _ ⟨S,bLst g c F p1 p2,aLst F dn,[]⟩ K
   rw[e,<- hS]at hK
   have hK:K ⟨up S 264 (.bool true),bLst g c F p1 p2,aLst F dn,[]⟩:=hK
   simp only[g253,g263,push_cast,reduceIte,zA,zB,zC,zD,zE,zF,zG,reduceCtorEq,zH,zJ,cNI]at hK ⊢
   first|exact hK|exact⟨oM,hK⟩|exact⟨by decide,hK⟩
  ·intro dn S hr hc hS L K hK
   have g264:getL S 264= .bool true:=L 264 (qAP hr (j:=25) (by decide))
   have e:vLst g F S0 (26::dn)=vLst g F S0 dn:=rfl
   have em:aLst F (26::dn)=aLst F dn:=rfl
   show opsK _ _ ⟨S,bLst g c F p1 p2,aLst F dn,[]⟩ K
   rw[e,<- hS]at hK
   have hK:K ⟨up S 265 (.bool true),bLst g c F p1 p2,aLst F dn,[]⟩:=hK
   simp only[g264,push_cast,reduceIte,zA,zB,zC,zD,zE,zF,zG,reduceCtorEq,zH,zJ,cNI]at hK ⊢
   first|exact hK|exact⟨oM,hK⟩|exact⟨by decide,hK⟩
  ·intro dn S hr hc hS L K hK
   have g7:getL S 7= .bool true:=L 7 trivial
   have g265:getL S 265= .bool true:=L 265 (qAP hr (j:=26) (by decide))
   have e:vLst g F S0 (27::dn)=vLst g F S0 dn:=rfl
   have em:aLst F (27::dn)=aLst F dn:=rfl
   show opsK _ _ ⟨S,bLst g c F p1 p2,aLst F dn,[]⟩ K
   rw[e,<- hS]at hK
   have hK:K ⟨up S 266 (.bool true),bLst g c F p1 p2,aLst F dn,[]⟩:=hK
   simp only[g7,g265,push_cast,reduceIte,zA,zB,zC,zD,zE,zF,zG,reduceCtorEq,zH,zJ,cNI]at hK ⊢
   first|exact hK|exact⟨oM,hK⟩|exact⟨by decide,hK⟩
  ·intro dn S hr hc hS L K hK
   have g265:getL S 265= .bool true:=L 265 (qAP hr (j:=26) (by decide))
   have g266:getL S 266= .bool true:=L 266 (qAP hr (j:=27) (by decide))
   have e:vLst g F S0 (28::dn)=vLst g F S0 dn:=rfl
   have em:aLst F (28::dn)=aLst F dn:=rfl
   show opsK _ _ ⟨S,bLst g c F p1 p2,aLst F dn,[]⟩ K
   rw[e,<- hS]at hK
   have hK:K ⟨up S 267 (.bool true),bLst g c F p1 p2,aLst F dn,[]⟩:=hK
   simp only[g265,g266,push_cast,reduceIte,zA,zB,zC,zD,zE,zF,zG,reduceCtorEq,zH,zJ,cNI]at hK ⊢
   first|exact hK|exact⟨oM,hK⟩|exact⟨by decide,hK⟩
  ·intro dn S hr hc hS L K hK
   have g267:getL S 267= .bool true:=L 267 (qAP hr (j:=28) (by decide))
   have e:vLst g F S0 (29::dn)=vLst g F S0 dn:=rfl
   have em:aLst F (29::dn)=aLst F dn:=rfl
   show opsK _ _ ⟨S,bLst g c F p1 p2,aLst F dn,[]⟩ K
   rw[e,<- hS]at hK
   have hK:K ⟨up S 6 (.bool true),bLst g c F p1 p2,aLst F dn,[]⟩:=hK
   simp only[g267,push_cast,reduceIte,zA,zB,zC,zD,zE,zF,zG,reduceCtorEq,zH,zJ,cNI]at hK ⊢
   first|exact hK|exact⟨oM,hK⟩|exact⟨by decide,hK⟩
 ·intro dn h
  exact hK dn
theorem qKh(g:Grid)(F S0:List (List Nat))(dn:List Nat):getL (slA (vLst g F S0 dn) xs6x_37 (sLst S0)) 6= .bool true:=by
 rw[<- qhb]
 show(lk (up _ 6 (PV.bool true)) 6).getD .bot=_
 rw[qa2,if_pos rfl];rfl
end Go.Proofs.YtecoaapkcnhlhaaDoor
namespace Go.Proofs.YtecoaapkcnhlhaaDoor
open Go Go.Vc Go.Ham Txt
def qKi(m:List (List Nat)):List PV:=[.sl true 1 (rows (frmC true) m)]
@[push_cast] theorem qKj(m:List (List Nat)):qKi m=[.sl true 1 (rows (frmC true) m)]:=rfl
theorem qKk (B : Nat) (s s' : List (Nat × PV)) (b1 : List (Nat × List PV)) (l : List (List Nat)) (hB : lk b1 B = none) (hs : ∀ j, 3000 <= j -> farL j s) (hb : ∀ j, 3000 <= j -> refB nul (isId j) b1 = false)
  (h:(s.map fun x=>(x.1,x.2.fbV B ((rsW l).map rowP)))=s') (h2:(b1.map fun x=>(x.1,x.2.map (PV.fb B ((rsW l).map rowP))))=b1):SWk ⟨s,b1++[(B,qAY 3000 (rsW l))],qAZ 1 54 3000 (rsW l),[]⟩ ⟨s',b1,[],[]⟩:=by
 refine SWk.trans (SWk.frzRows (b1:=b1) (b2:=[]) (id:=B) (k:=3000) [] (rsW l) hs hb (fun _ _=>rfl)) ?_
 have e1: ∀(b:List (Nat×List PV)) (c:List PV),lk b B=none->lk (b++[(B,c)]) B=some c:=fun b c=>by
  induction b with
  |nil=>intro _;simp[lk]
  |cons x r ih=>
    obtain⟨k,u⟩:=x
    intro hn
    rw[lk]at hn
    split at hn
    ·cases hn
    ·rename_i hk;rw[List.cons_append,lk,if_neg hk];exact ih hn
 have e2: ∀(b:List (Nat×List PV)) (c:List PV),lk b B=none->rm (b++[(B,c)]) B=b:=fun b c=>by
  induction b with
  |nil=>intro _;simp[rm]
  |cons x r ih=>
    obtain⟨k,u⟩:=x
    intro hn
    rw[lk]at hn
    split at hn
    ·cases hn
    ·rename_i hk;rw[List.cons_append,rm,if_neg hk,ih hn]
 refine SWk.frzB B (e1 _ _ hB) (qH8 l) h ?_
 rw[List.nil_append,yH,h2]
 exact e2 _ _ hB
theorem qKl(l:List (List Nat)):qDJ [1005] (naK l.length) (.bv 1005 1 l.length) ⟨[],[(1005,qAY 3000 (rsW l))],qAZ 1 54 3000 (rsW l),[]⟩=true:=by
 simp only[qDJ,zN,List.all_cons,List.all_nil,yE]
 refine⟨⟨⟨rfl,rfl⟩,⟨⟨rfl,?_⟩,trivial⟩,fun y hy=> ?_⟩,rfl⟩
 ·rw [qB3 (outL [1005]) (outL (naK l.length)) 3000 _ fun x hx => by
   rw[qH0]at hx
   unfold outL
   rw[qGY hx];rfl]
  rfl
 ·obtain⟨x,h1,h2⟩:=qGX _ _ _ _ y hy
  rw[qH0]at h1
  rw[h2]
  exact qGY h1
theorem qKn{F:List (List Nat)}(hF:FrmSm F)(hc: ∀ws∈F,∀w∈ws,chkW w=0){x k:Nat}(hi:inW F x k)(d:Nat):FrmSm (setW F x k (encW d)):=by
 refine⟨(qJY hF.ok hc hi d).1,by have:=hF.n;rw[setW,yF];exact this,fun ws hws=> ?_⟩
 have h:=List.mem_map_of_mem (f:=List.length) hws
 rw[qJX]at h
 obtain⟨vs,h1,h2⟩:=List.mem_map.1 h
 rw[<- h2]
 exact hF.len vs h1
set_option maxHeartbeats 4000000 in
theorem qKo (x : RawG) (hx : x.By) (l : List Int) (hl : (l.length : Int) <= 9223372036854775807) (hb : ∀ b ∈ l, 0 <= b /\ b <= 255) (k0 k1 k2 k3 k4 k5 : Int) (h0 : 0 <= k0 /\ k0 <= 255) (h1 : 0 <= k1 /\ k1 <= 255) (h2 : 0 <= k2 /\ k2 <= 255) (h3 : 0 <= k3 /\ k3 <= 255) (h4 : 0 <= k4 /\ k4 <= 255) (h5 : 0 <= k5 /\ k5 <= 255) :
  FnEq Tryd.prog 6 [.agg (qyL false x),.sl false 1 (qkf l),.agg [.sc (.int .u8 k0),.sc (.int .u8 k1),.sc (.int .u8 k2),.sc (.int .u8 k3),.sc (.int .u8 k4),.sc (.int .u8 k5)]] (.bool true):=by
 have hg:=(qyP x).1
 have hm:=qyO x hx.ok
 have hw:=qyZ (qyN x) hg l hl hb
 have hv:=qJq hg hb
 have hes:=qJr x (qyU (qyN x) l)
 have hsm:=qIY x hx
 have hen:=qJj (qyN x) hg (qyU (qyN x) l)
 have hsp:=qGM _ hes
 have hsp0:=qJw x (qyU (qyN x) l)
 have hck: ∀ws∈qDs (qyN x) (qyU (qyN x) l),∀w∈ws,chkW w=0:=fun ws hws w hw=>qDH hws hw
 have hwo:=qDG (qyN x) (qyU (qyN x) l)
 have hspl:=qGL hes _ (Nat.le_refl _)
 have hcl:=((qDn _ _).1 hv).1
 have hFl:=qJs (qyN x) (qyU (qyN x) l)
 have hw2:=hg.n.w2
 have hcm:CfgSm (qyU (qyN x) l):=qJf hg hcl
 have hcs:=fun {x k d} =>qK1 hg hv (x:=x) (k:=k) (d:=d)
 have hcb:=fun {x k} =>qK2 hg hv (x:=x) (k:=k)
 have hsn:=fun {y k} =>qK5 (g:=qyN x) (c:=qyU (qyN x) l) (x:=y) (k:=k)
 unfold encL encE at hen
 rw[if_pos hv,if_pos hv]at hen
 generalize qyU (qyN x) l=c at *
 generalize qyN x=g at *
 generalize hFe:qDs g c=F at *
 have hspl:(qGJ F).length<=1000*F.length:=hspl
 have hFn:=hes.n
 refine FnOK.of_awp Tryd.func6 ok6x (by show 3<=_;decide) ?_
 simp only[ac6x,rv6x,push_cast,reduceIte,zA,zB,zC,zD,zE,zF,zG,reduceCtorEq,zH,zJ,cNI]
 refine qoM qJe ?_
 refine sB ?_
 refine qoM hsm ?_
 refine sB ?_
 refine qrC rfl (fun e=> ?_) fun e=> ?_<;>simp only[push_cast,reduceIte,zA,zB,zC,zD,zE,zF,zG,reduceCtorEq,zH,zJ,cNI]
 refine qnY (fun _=>trivial) fun e3=> ?_
 refine qoM hm ?_
 refine sB ?_
 refine qrv hw sC ?_
 refine sB ?_
 refine qrv hen sC ?_
 refine sB ?_
 refine qrv hsp (by exact⟨qJ6 true _,trivial⟩) ?_
 refine sB ?_
 refine qrA rfl (fun e4=>absurd e4 (by decide)) fun _=> ?_
 refine sB ?_
 refine qnY (fun e5=>absurd e5 oM) fun _=> ?_
 have hn0:(0:Int)<(qGJ F).length:=by omega
 have a1:=Int.emod_nonneg k0 (show((qGJ F).length:Int)≠0 by omega)
 have a2:=Int.emod_lt_of_pos k0 hn0
 have hpi:=qJv (F:=F) (i:=(k0%((qGJ F).length:Int)).toNat) oM
 iterate 6 refine And.intro oM ?_
 generalize (qGJ F).getD (k0%((qGJ F).length:Int)).toNat default=p at *
 obtain⟨p1,p2⟩:=p
 refine qDN [1005] (naK F.length) (qKa true F hes) rfl rfl (qKl F) ?_
 obtain⟨hp1,hp2⟩:=hpi
 have hp1:p1<F.length:=hp1
 have hp2:p2<(F.getD p1 []).length:=hp2
 have hcl3:(qAY 3000 (rsW F)).length=F.length:=by rw[qB0,qH0]
 simp only[Nat.mul_one,qFf (qAY 3000 (rsW F)),hcl3,qH4 hp1,qH5 hp1,qEY,qFE,push_cast,reduceIte,zA,zB,zC,zD,zE,zF,zG,reduceCtorEq,zH,zJ,cNI]
 have hwl:=hes.len _ (show F.getD p1 []∈F from by rw[zK,zL hp1];exact List.getElem_mem hp1)
 have hw64:atW F p1 p2<2^64:=by obtain⟨ws,q1,q2⟩:=qHm ⟨hp1,hp2⟩;exact hwo ws q1 _ q2
 have hw0:chkW (atW F p1 p2)=0:=by obtain⟨ws,q1,q2⟩:=qHm ⟨hp1,hp2⟩;exact hck ws q1 _ q2
 iterate 9 (try refine And.intro oM ?_)
 have hde:=qEt (atW F p1 p2) hw64
 unfold decV at hde
 rw[if_neg (by rw[hw0];decide),hw0]at hde
 have hdw:datW (atW F p1 p2)=gat (atW F p1 p2):=by unfold datW;rw[hw0];rfl
 rw[hdw]at hde
 refine qoM hde ?_
 refine sB ?_
 refine qrA rfl (fun e4=>absurd rfl e4) fun _=> ?_
 refine sB ?_
 refine qnY (fun e4=>absurd rfl e4) fun _=> ?_
 obtain⟨i,hi⟩: ∃i:Nat,k1%57=(i:Int):=⟨(k1%57).toNat,oM⟩
 obtain⟨j,hj⟩: ∃j:Nat,k2%57=(j:Int):=⟨(k2%57).toNat,oM⟩
 have hi57:i<57:=by omega
 have hj57:j<57:=by omega
 have hgl:=qzP (atW F p1 p2)
 have hx1:bitF .xor .u64 ((gat (atW F p1 p2):Nat):Int) (shfF .shl .u64 1 (i:Int))=((gat (atW F p1 p2)^^^2^i:Nat):Int):=by
  rw[shl1 oM,qBl (Nat.lt_trans hgl (by decide)) (Nat.pow_lt_pow_right (by decide) oM)]
 have hl1:gat (atW F p1 p2)^^^2^i<2^57:=Nat.xor_lt_two_pow hgl (Nat.pow_lt_pow_right (by decide) hi57)
 have hx2:bitF .xor .u64 ((gat (atW F p1 p2)^^^2^i:Nat):Int) (shfF .shl .u64 1 (j:Int))=((gat (atW F p1 p2)^^^2^i^^^2^j:Nat):Int):=by
  rw[shl1 oM,qBl (Nat.lt_trans hl1 (by decide)) (Nat.pow_lt_pow_right (by decide) oM)]
 have key2 : ∀ (d : Nat) (sm : Bool), d < 2 ^ 57 -> (d = gat (atW F p1 p2) ↔ sm = true) -> awp (Env.of Tryd.prog) ac6x_r19 (retK rv6x fun x => x = .bool true) ⟨[(5, .ptr 5 0), (7, .bool true), (8, .ptr 8 0), (9, .ptr 9 0), (10, .ptr 10 0), (12, .ptr 12 0), (13, .bv 1005 1 F.length), (14, .sc (.int .u64 (d : Nat))), (17, .bool sm)],
   [(3,qyL false x),(5,[.sc (.int .u8 k0),.sc (.int .u8 k1),.sc (.int .u8 k2),.sc (.int .u8 k3),.sc (.int .u8 k4),.sc (.int .u8 k5)]),(8,quX true g),(9,cfgC true c),(10,[.sl true 1 (rows (frmC true) F),.int 0]),(12,[.int (p1:Nat),.int (p2:Nat)]),(1005,qAY 3000 (rsW F))],qAZ 1 54 3000 (rsW F),[]⟩:=by
  intro d sm hd hsame
  simp only[ac6x_r19,rv6x,push_cast,reduceIte,zA,zB,zC,zD,zE,zF,zG,reduceCtorEq,zH,zJ,cNI]
  refine qoM (qEn d hd) ?_
  refine sB ?_
  refine qnY (fun e4=>absurd rfl e4) fun _=> ?_
  simp only[Nat.mul_one,qFf (qAY 3000 (rsW F)),hcl3,qH4 hp1,qH5 hp1,qEY,qFE,qFF,qH6 hp1,push_cast,reduceIte,zA,zB,zC,zD,zE,zF,zG,reduceCtorEq,zH,zJ,cNI]
  iterate 6 (try refine And.intro oM ?_)
  have hdef:setW F p1 p2 (encW d)=F.set p1 ((F.getD p1 []).set p2 (encW d)):=rfl
  rw[qH9 hp1 (ws:=(F.getD p1 []).set p2 (encW d)) (by rw[yF]),<- hdef]
  have hOs:FrmSm (setW F p1 p2 (encW d)):=qKn hes hck ⟨hp1,hp2⟩ d
  have hOl:(setW F p1 p2 (encW d)).length=F.length:=by rw[hdef,yF]
  have hOw:=qJY hwo hck ⟨hp1,hp2⟩ d
  have hOi:inW (setW F p1 p2 (encW d)) p1 p2:=(qHk (qJX F p1 p2 (encW d)) p1 p2).2 ⟨hp1,hp2⟩
  have hcs:=hcs (x:=p1) (k:=p2) (d:=d) ⟨hp1,hp2⟩ hd
  have hcb' :d=gat (atW F p1 p2)->Dec38 g (setW F p1 p2 (encW d)):=fun e=>by rw[e];exact hcb ⟨hp1,hp2⟩
  generalize setW F p1 p2 (encW d)=O at *
  have fp: ∀n,n<3000-> ∀j,3000<=j->isId j n=false:=fun n hn j hj=>beq_false_of_ne oM
  refine qr9 ⟨[(5,.ptr 5 0),(7,.bool true),(8,.ptr 8 0),(9,.ptr 9 0),(10,.ptr 10 0),(12,.ptr 12 0),(13,.sl true 1 (rows (frmC true) O)),(17,.bool sm)],
   [(5,[.sc (.int .u8 k0),.sc (.int .u8 k1),.sc (.int .u8 k2),.sc (.int .u8 k3),.sc (.int .u8 k4),.sc (.int .u8 k5)]),(8,quX true g),(9,cfgC true c),(10,[.sl true 1 (rows (frmC true) F),.int 0]),(12,[.int (p1:Nat),.int (p2:Nat)])],[],[]⟩ (SWk.trans (SWk.dropS (fun i=>inL [5,7,8,9,10,12,13,17] i) (fun i=>i !=3) (fun _=>true)) ?_) ?_
  ·have hfa:(qAZ 1 54 3000 (rsW O)).filter (fun _=>true)=qAZ 1 54 3000 (rsW O):=List.filter_eq_self.2 fun _ _=>rfl
   rw[hfa]
   refine qKk 1005 [(5,.ptr 5 0),(7,.bool true),(8,.ptr 8 0),(9,.ptr 9 0),(10,.ptr 10 0),(12,.ptr 12 0),(13,.bv 1005 1 F.length),(17,.bool sm)] _ [(5,[.sc (.int .u8 k0),.sc (.int .u8 k1),.sc (.int .u8 k2),.sc (.int .u8 k3),.sc (.int .u8 k4),.sc (.int .u8 k5)]),(8,quX true g),(9,cfgC true c),(10,[.sl true 1 (rows (frmC true) F),.int 0]),(12,[.int (p1:Nat),.int (p2:Nat)])] O rfl (fun j hj=>⟨⟨fp 5 (by decide) j hj,rfl⟩,⟨rfl,rfl⟩,⟨fp 8 (by decide) j hj,rfl⟩,⟨fp 9 (by decide) j hj,rfl⟩,⟨fp 10 (by decide) j hj,rfl⟩,⟨fp 12 (by decide) j hj,rfl⟩,⟨fp 1005 (by decide) j hj,rfl⟩,⟨rfl,rfl⟩,trivial⟩) (fun j hj=>rfl) ?_ rfl
   rw[<- qH7]
   simp only[zW,List.map_nil,PV.fbV,PV.fbA,PV.fb,if_true,yG,qH0,hOl,and_self,push_cast,reduceIte,zA,zB,zC,zD,zE,zF,zG,reduceCtorEq,zH,zJ,cNI]
   rfl
  ·refine sB ?_
   iterate 6 (try refine And.intro oM ?_)
   have hNs:=hOs.flip hOi (b:=(k3%64).toNat) oM
   have hf1:=qIS O hOs ⟨(p1:Nat),(p2:Nat),k3%64⟩
   rw[(qJM hOi oM).1,(qJM hOi oM).2]at hf1
   refine qrv hf1 (by exact⟨qJ6 true _,.refl _,trivial⟩) ?_
   obtain⟨ws0,q1,q2⟩:=qHm hOi
   have hO0:=hOw.2 ws0 q1 _ q2
   have hcO:cntF O=0:=qHr hOw.2
   have hcN:cntF (qHb O p1 p2 (k3%64).toNat)=1:=by
    have e:=qHq (b:=(k3%64).toNat) hOi
    rw[hO0,(qA9 hO0 oM).1,qHr hOw.2]at e
    show qHn _=1
    simpa using e
   have hnN:Near O (qHb O p1 p2 (k3%64).toNat):=Near.flip (Near.refl O) hOi oM rfl
   have hnO:=Near.refl O
   generalize qHb O p1 p2 (k3%64).toNat=M at *
   simp only[ac6x_r24,push_cast,reduceIte,zA,zB,zC,zD,zE,zF,zG,reduceCtorEq,zH,zJ,cNI]
   obtain⟨XS,hXS⟩: ∃XS:List (List (List Nat)),XS=[O,M]:=⟨_,rfl⟩
   have hXl:XS.length=2:=by rw[hXS];rfl
   have hX: ∀i:Nat,i<2-> ∃m,XS.getD i default=m/\Near O m/\FrmSm m/\cntF m=i:=fun i hi=>by
    rw[hXS]
    match i,hi with
    |0,_=>exact⟨O,rfl,hnO,hOs,hcO⟩
    |1,_=>exact⟨M,rfl,hnN,hNs,hcN⟩
   have hXr:[[PV.sl true 1 (rows (frmC true) O)],[.sl true 1 (rows (frmC true) M)]]=rows qKi XS:=by rw[hXS];rfl
   rw[hXr]
   clear hXS hXr
   refine qoP (fun n st=> ∃i:Nat,i<=2/\n=2-i/\st=⟨[(7,.bool true),(8,.ptr 8 0),(9,.ptr 9 0),(10,.ptr 10 0),(12,.ptr 12 0),(13,.sl true 1 (rows (frmC true) O)),(17,.bool sm),(21,.view 162 0 2),(22,.int i)],
    [(8,quX true g),(9,cfgC true c),(10,[.sl true 1 (rows (frmC true) F),.int 0]),(12,[.int (p1:Nat),.int (p2:Nat)])],[(162,⟨1,25,rows qKi XS⟩)],[]⟩) 2 ⟨0,oM,oM,?_⟩ ?_
   ·simp only[push_cast,reduceIte,zA,zB,zC,zD,zE,zF,zG,reduceCtorEq,zH,zJ,cNI]
    try rfl
   rintro n st ⟨i,hi2,rfl,rfl⟩
   refine sB ?_
   refine qnY (fun h2=> ?_) fun h2=> ?_
   ·obtain⟨m,hm1,hm2,hm3,hm4⟩:=hX i oM
    obtain⟨nd1,nd2,nd3,nd4⟩:=qJZ (g:=g) hOw.1 hOw.2 hm2
    rw[hm1]
    refine⟨oM,oM,?_⟩
    by_cases hD:Dec38 g O
    ·have hde:=qIW g hg m hm3 (nd1.2 hD)
     rw[nd2,hm4]at hde
     have hdv:validE g (decG g O)=0:=hD.valid
     have hdc:CfgSm (decG g O):=qJf hg ((qDn _ _).1 hdv).1
     have hsc:=qIU m hm3
     rw[nd3,hm4]at hsc
     have hva:=qJh g hg (decG g O)
     rw[hdv]at hva
     have hsa:=qyE (decG g O) c hdc hcm
     have hsm:decide (decG g O=c)=sm:=by
      have e:=(hcs hD).trans hsame
      cases sm with
      |true=>exact decide_eq_true (e.2 rfl)
      |false=>exact decide_eq_false fun q=>zQ (e.1 q)
     rw[hsm]at hsa
     have hea:=qJj g hg (decG g O)
     unfold encL encE at hea
     rw[if_pos hdv,if_pos hdv,qK3 hg hOw.1 hOw.2 hD]at hea
     have hrs:=qGA O O hOs hOs
     rw[decide_eq_true rfl]at hrs
     have hgs:Sub (.agg (quX true g)) (.agg (quX false g)):=Sub.aggL ⟨.refl _,.refl _,.refl _,.refl _,.slp _ _ _ _ (fun h=>by cases h),trivial⟩
     have hcs2: ∀c:Cfg,Sub (.agg (cfgC true c)) (.agg (cfgC false c)):=fun c=>Sub.aggL ⟨.slp _ _ _ _ (fun h=>by cases h),.slp _ _ _ _ (fun h=>by cases h),.slp _ _ _ _ (fun h=>by cases h),.slp _ _ _ _ (fun h=>by cases h),trivial⟩
     generalize decG g O=dc at *
     refine qrx hde (by exact⟨hgs,qJ6 true _,trivial⟩) rfl ?_
     refine sB ?_
     refine qnY (fun e=>absurd rfl e) fun _=> ?_
     simp only[hm1,push_cast,reduceIte,zA,zB,zC,zD,zE,zF,zG,reduceCtorEq,zH,zJ,cNI]
     refine⟨oM,oM,?_⟩
     refine qrv hsc (by exact⟨qJ6 true _,trivial⟩) ?_
     refine sB ?_
     refine qrE rfl (fun h=>absurd rfl h) fun _=> ?_
     refine sB ?_
     refine qrv hva (by exact⟨hgs,hcs2 dc,trivial⟩) ?_
     refine sB ?_
     refine qrE rfl (fun h=>absurd rfl h) fun _=> ?_
     refine sB ?_
     refine qrx hsa (by exact⟨hcs2 dc,hcs2 c,trivial⟩) rfl ?_
     refine sB ?_
     refine qrG rfl (fun h=>absurd h (by cases sm<;>decide)) fun _=> ?_
     refine sB ?_
     refine qrx (args' :=[.agg (quX false g),.agg (cfgC false dc)]) hea (by exact⟨hgs,hcs2 dc,trivial⟩) rfl ?_
     refine sB ?_
     refine qrv hrs (by exact⟨qJ6 true _,qJ6 true _,trivial⟩) ?_
     refine sB ?_
     refine qrv hrs (by exact⟨qJ6 true _,qJ6 true _,trivial⟩) ?_
     refine sB ?_
     refine⟨⟨oM,oM⟩,2-(i+1),oM,i+1,oM,rfl,rfl⟩
    ·have hde:=qIX g hg m hm3 (fun e=>hD (nd1.1 e))
     refine qrx hde (by exact⟨Sub.aggL ⟨.refl _,.refl _,.refl _,.refl _,.slp _ _ _ _ (fun h=>by cases h),trivial⟩,qJ6 true _,trivial⟩) rfl ?_
     refine sB ?_
     refine qnY (fun _=> ?_) fun e=>absurd (by decide) e
     refine qrA rfl (fun h=>absurd rfl h) fun _=> ?_
     refine sB ?_
     exact⟨fun e=>absurd (hcb' (hsame.2 e)) hD,fun _=>⟨⟨oM,oM⟩,2-(i+1),oM,i+1,oM,rfl,rfl⟩⟩
   ·simp only[ac6x_r35,push_cast,reduceIte,zA,zB,zC,zD,zE,zF,zG,reduceCtorEq,zH,zJ,cNI]
    refine qDN [] [1005] (qKb true F hes) rfl rfl rfl ?_
    simp only[Nat.mul_one,qEY,push_cast,reduceIte,zA,zB,zC,zD,zE,zF,zG,reduceCtorEq,zH,zJ,cNI]
    have hp2' :p2<(F.getD p1 default).length:=hp2
    have hF1:1<=(F.getD p1 default).length:=by omega
    iterate 7 (try refine And.intro oM ?_)
    have hxs:(rows (frmC true) F).set p1 [.sl true 1 (rows u64C (List.drop 1 (List.take (F.getD p1 default).length (nats (F.getD p1 default)))))]=rows (frmC true) (F.set p1 ((F.getD p1 []).drop 1)):=by
     have h0:F.getD p1 default=F.getD p1 []:=rfl
     rw[h0,zY (by rw[qEY];exact Nat.le_refl _)]
     simp[rows,frmC,nats,List.map_set]
    rw[hxs]
    have hSl:(F.set p1 ((F.getD p1 []).drop 1)).length=F.length:=yF
    have hSs:FrmSm (F.set p1 ((F.getD p1 []).drop 1)):=by
     have key: ∀ws∈F.set p1 ((F.getD p1 []).drop 1),ws∈F\/ws=(F.getD p1 []).drop 1:=fun ws hw=>List.mem_or_eq_of_mem_set hw
     have hm1:F.getD p1 []∈F:=by rw[zK,zL hp1];exact List.getElem_mem hp1
     refine⟨fun ws hw w hww=> ?_,by rw[hSl];exact hFn,fun ws hw=> ?_⟩
     ·rcases key ws hw with h|rfl
      ·exact hes.ok ws h w hww
      ·exact hes.ok _ hm1 w (List.mem_of_mem_drop hww)
     ·rcases key ws hw with h|rfl
      ·exact hes.len ws h
      ·have:=hes.len _ hm1;rw[List.length_drop];omega
    have hsn:=hsn (y:=p1) (k:=p2)
    have hsn:=hsn ⟨hp1,hp2⟩
    have hno:=fun l=>qK6 (g:=g) (c:=c) (l:=l)
    rw[hFe]at hno
    generalize F.set p1 ((F.getD p1 []).drop 1)=S0 at *
    refine qr9 ⟨sLst S0,bLst g c F p1 p2,[],[]⟩ (SWk.trans (SWk.dropS (fun i=>inL [7,8,10,25] i) (fun _=>true) (fun i=>i==1005)) (SWk.trans (SWk.frz _ 1005) (SWk.eq ?_))) ?_
    ·show(⟨[(7,.bool true),(8,.ptr 8 0),(10,.ptr 10 0),(25,.sl true 1 (((rows (frmC true) S0).drop 0).take F.length))],bLst g c F p1 p2,[],[]⟩:St)=_
     rw[List.drop_zero,zY (by rw[qkk,hSl];exact Nat.le_refl _)]
     rfl
    ·refine qKg g hg c F S0 p1 p2 hes hSs oM oM hsn (hno _ (by rw[List.length_drop];omega)) (hno _ (by rw[zU];show F.length+1≠F.length;omega)) _ fun dn=> ?_
     have h6:=qKh g F S0 dn
     simp only[h6,push_cast,reduceIte,zA,zB,zC,zD,zE,zF,zG,reduceCtorEq,zH,zJ,cNI]
 have key : ∀ d : Nat, d < 2 ^ 57 -> (d = gat (atW F p1 p2) ↔ (k2 % 2 = 1 /\ (j : Int) = i)) -> awp (Env.of Tryd.prog) ac6x_r18 (retK rv6x fun x => x = .bool true) ⟨[(5, .ptr 5 0), (7, .bool true), (8, .ptr 8 0), (9, .ptr 9 0), (10, .ptr 10 0), (12, .ptr 12 0), (13, .bv 1005 1 F.length), (14, .sc (.int .u64 (d : Nat)))],
   [(3,qyL false x),(5,[.sc (.int .u8 k0),.sc (.int .u8 k1),.sc (.int .u8 k2),.sc (.int .u8 k3),.sc (.int .u8 k4),.sc (.int .u8 k5)]),(8,quX true g),(9,cfgC true c),(10,[.sl true 1 (rows (frmC true) F),.int 0]),(12,[.int (p1:Nat),.int (p2:Nat)]),(1005,qAY 3000 (rsW F))],qAZ 1 54 3000 (rsW F),[]⟩:=by
  intro d hd hsame
  simp only[ac6x_r18,rv6x,hi,hj,push_cast,reduceIte,zA,zB,zC,zD,zE,zF,zG,reduceCtorEq,zH,zJ,cNI]
  iterate 3 (try refine And.intro oM ?_)
  refine qrz rfl (fun ho=> ?_) fun ho=> ?_<;>simp only[hi,hj,push_cast,reduceIte,zA,zB,zC,zD,zE,zF,zG,reduceCtorEq,zH,zJ,cNI]
  ·iterate 6 (try refine And.intro oM ?_)
   exact key2 d _ hd ⟨fun e=>decide_eq_true (hsame.1 e).2,fun e=>hsame.2 ⟨ho,of_decide_eq_true e⟩⟩
  ·exact key2 d false hd ⟨fun e=>absurd (hsame.1 e).1 ho,fun e=>by cases e⟩
 simp only[hi,hj,hx1,hx2,push_cast,reduceIte,zA,zB,zC,zD,zE,zF,zG,reduceCtorEq,zH,zJ,cNI]
 have hds:=fun(odd:Prop) [Decidable odd]=>qK4 (w:=atW F p1 p2) (odd:=odd) hi57 hj57
 iterate 8 (try refine And.intro oM ?_)
 refine qnY (fun ho=> ?_) fun ho=> ?_
 ·have hd:=hds True
  iterate 6 (try refine And.intro oM ?_)
  exact key _ hd.1 ⟨fun e=>⟨ho,by have:=(hd.2.1 e).2;omega⟩,fun e=>hd.2.2 ⟨trivial,oM⟩⟩
 ·have hd:=hds False
  exact key _ hd.1 ⟨fun e=>(hd.2.1 e).1.elim,fun e=>absurd e.1 ho⟩
end Go.Proofs.YtecoaapkcnhlhaaDoor
namespace Go.Proofs.YtecoaapkcnhlhaaDoor
open Go Go.ChangeShapes Go.WideShapes Go.ChangeAt Go.RowKit Go.Vc
theorem qKp:qrL Tryd.prog 9 24 qzl=true:=by kernel_rfl
theorem slU:Tryd.prog.underlying 22=some (.slice 5):=by kernel_rfl
theorem qKq:qrL Tryd.prog 9 22 [.sl 1 [.i .u8]]=true:=by kernel_rfl
theorem qKr:qrL Tryd.prog 9 71 (List.replicate 6 (.i .u8))=true:=by kernel_rfl
theorem qKs {f : Nat} (hok : ∀ (x : RawG), x.By -> ∀ (l : List Int), (l.length : Int) <= 9223372036854775807 -> (∀ b ∈ l, 0 <= b /\ b <= 255) -> ∀ k0 k1 k2 k3 k4 k5 : Int, 0 <= k0 /\ k0 <= 255 -> 0 <= k1 /\ k1 <= 255 -> 0 <= k2 /\ k2 <= 255 -> 0 <= k3 /\ k3 <= 255 -> 0 <= k4 /\ k4 <= 255 -> 0 <= k5 /\ k5 <= 255 ->
   FnEq Tryd.prog f [.agg (qyL false x),.sl false 1 (qkf l),.agg [.sc (.int .u8 k0),.sc (.int .u8 k1),.sc (.int .u8 k2),.sc (.int .u8 k3),.sc (.int .u8 k4),.sc (.int .u8 k5)]] (.bool true))
  {a c:List PV} {b:PV} (ha:RowV qzl a) (hb:qrM (.sl 1 [.i .u8]) b) (hc:RowV (List.replicate 6 (.i .u8)) c):FnEq Tryd.prog f [.agg a,b,.agg c] (.bool true):=by
 obtain⟨x,hx,rfl⟩:=qzv ha
 obtain⟨l,rfl,h1,h2⟩:=qzs hb
 obtain⟨k,rfl,hk,hv⟩:=qzu hc
 match k,hk,hv with
 |[k0,k1,k2,k3,k4,k5],_,hv=>exact FnOK.sub (hok x hx l h1 h2 k0 k1 k2 k3 k4 k5 (hv _ (by simp)) (hv _ (by simp)) (hv _ (by simp)) (hv _ (by simp)) (hv _ (by simp)) (hv _ (by simp))) ⟨qJD x,.slp _ _ _ _ (fun h=>by cases h),.refl _,trivial⟩
theorem Tryd.own:ownKnob Tryd.prog.godebug=none:=by kernel_rfl
theorem Tryd.laidOut:laidOutB Tryd.prog=true:=by kernel_rfl
theorem qKt:Tryd.prog.underlying 4=some .bool:=by kernel_rfl
theorem qKu:Tryd.f6.params= #[24,22,71]:=by kernel_rfl
def qKv : List (String × DataW Unit) := [("math/bits.deBruijn64tab", Rows.laid_math_bits_deBruijn64tab)]
theorem qKw(os:Os)(args:Array Value):laidMetH Tryd.prog qKv ((World.doorLaid Tryd.prog 14 os).forCall (fun _ _=>0) ⟨#[],args,[]⟩).memory:=
 laidMetH_of_parts3 (fuel:=8) (laidMet_of_run' 8 (by kernel_rfl) (by kernel_rfl)) (by kernel_rfl) (by kernel_rfl)
theorem qKx{w:World}(h:laidMetH Tryd.prog qKv w):GL Tryd.prog w:=
 qJy (g:=0) (t:=135) (e:=5) (D:=Rows.laid_math_bits_deBruijn64tab) (by kernel_rfl) (by kernel_rfl) (by kernel_rfl) (by kernel_rfl) (by kernel_rfl) (by kernel_rfl) (by rfl) h
set_option maxRecDepth 100000 in
theorem canonical_lifted (os : Os) (started : os.Started) (H : Type) (enc : TypeId × Value -> H) :
  ReturnsInHanded {} Tryd.checked os 6 .any (fun w args=>(Rows.framesCanonicalSpec.pre enc Tryd.prog Tryd.f6 [] false w args/\laidMetH Tryd.prog qKv w)/\sizedMet enc Tryd.prog Tryd.f6 (OpenSpec.ofChange Rows.framesCanonicalSpec) false w args) (Rows.framesCanonicalSpec.post enc Tryd.prog Tryd.f6 false true false false):=by
 refine returnsInHanded_of_change_and (C:=Tryd.checked) (X:=fun w _=>laidMetH Tryd.prog qKv w) (fun _ _ _ hh h=>h.of_heap hh) Tryd.own started (by kernel_rfl) Tryd.func6
  (ChangeSpec.witness_shaped (enc:=enc) (C:=Tryd.checked) (os:=os) (X:=fun w _=>laidMetH Tryd.prog qKv w) false (World.doorLaid Tryd.prog 14 os) #[.agg #[.int .u8 0,.int .u8 0,.int .u8 0,.int .u8 0,.slice none 0 0],.slice none 0 0,.agg #[.int .u8 0,.int .u8 0,.int .u8 0,.int .u8 0,.int .u8 0,.int .u8 0]] 8 rfl (World.shaped_of_RefB (by kernel_rfl) (by kernel_rfl)) (by kernel_rfl) (by kernel_rfl) (by kernel_rfl) (qKw os _)) ?_
 intro W base args ds gs before hval0 hW _ _ hL _
 have hval: ∀(j:Nat) t v,Tryd.f6.params[j]? =some t->args[j]? =some v->Value.okWide Tryd.prog W .any base t v:=hval0
 have hW' :=hW
 obtain⟨p,q,hA0,hV,rfl,hfz,hnd⟩:=hW
 have hA:DataW.TrodAll enc Tryd.prog W 0 (fun _=>true) true Tryd.f6.params.toList args.toList ds p:=hA0
 rw[qKu]at hA hval
 obtain⟨v0,v1,v2,d0,d1,d2,p0,p1,p2,rfl,rfl,rfl,h0,h1,h2⟩:=trodAll_three hA
 obtain⟨rfl,rfl⟩:=trodVars_none hV
 obtain⟨a,ra,ta⟩:=qrV qKp (by kernel_rfl) (hval 0 _ v0 rfl rfl) h0
 obtain⟨b,rb,tb⟩:=argC qKq (okSl slU (hval 1 _ v1 rfl rfl)) h1
 obtain⟨c,rc,tc⟩:=qrV qKr (by kernel_rfl) (hval 2 _ v2 rfl rfl) h2
 have hlt: ∀x∈p0++p1++p2,x.block<W.heap.size:=fun x hx=>hW'.lt x (by simpa using hx)
 refine(qrX (qKx hL) (qKs qKo ra rb rc) rfl fun j cc hj=> ?_).mono fun e W' ⟨he,hb⟩=> ?_
 ·match j with
  |0=>simp at hj;subst hj;exact ta
  |1=>simp at hj;subst hj;exact tb
  |2=>simp at hj;subst hj;exact tc
  |j+3=>simp at hj
 ·refine⟨_,he,_,_,_,[],_,[],hW',?_,trodAll_mk3 (Below.trod Tryd.laidOut (by kernel_rfl) (of_decide_eq_true (by kernel_rfl)) h0 hb fun x hx=>hlt x (by simp[hx])) (Below.trod Tryd.laidOut (by kernel_rfl) (of_decide_eq_true (by kernel_rfl)) h1 hb fun x hx=>hlt x (by simp[hx])) (Below.trod Tryd.laidOut (by kernel_rfl) (of_decide_eq_true (by kernel_rfl)) h2 hb fun x hx=>hlt x (by simp[hx])),rfl,hb.frame _,fun h=>by cases h⟩
  exact trodAll_mk1 (shut_bool qKt true)
theorem qKy:Rows.FramesCanonicalSaid:=
 OpenClaim.holds_of_wide 6 Tryd.f6 rfl rfl rfl rfl rfl rfl rfl ⟨rfl,rfl,rfl,rfl,rfl⟩ rfl rfl rfl rfl rfl (by kernel_rfl) Tryd.func6 (by kernel_rfl)
  (of_decide_eq_true (by kernel_rfl)) (by unfold Func.isWrapper;first|(rw[if_pos (by decide+kernel)];kernel_rfl)|(rw[if_neg (by decide+kernel)];exact⟨rfl,rfl⟩))
  (fun os started H enc _=>canonical_lifted os started H enc)
theorem canonical_holds:Rows.FramesCanonicalCardSaid:=
 Claim7.holds_tied_plain_at .later [] [.data] true (true, "6afa5beab4d2fefd3b52fb88c1a8a89648d53ce22376a0ca7c24627d0a83933b") false
  qKy (fun _ h=>by cases h) (by kernel_rfl) (fun _ h=>by cases h) framesCanonical_row_tie rfl ⟨rfl,rfl⟩ (by kernel_rfl) rfl
  (fun f fn hf hfn=>by
   obtain rfl : f = 6 := Option.some.inj ((show Tryd.prog.funcNamed "wireloom/wireloomlaw38.FramesCanonical" = some 6 by kernel_rfl).symm.trans hf) |>.symm
   obtain rfl:fn=Tryd.f6:=(Option.some.inj (Tryd.func6.symm.trans hfn)).symm
   exact⟨by kernel_rfl,fun j t ht=>by
    rw[qKu]at ht
    have hm:t∈[24,22,71]:=by simpa using Array.mem_of_getElem? ht
    have hall:([24,22,71].all fun u=> !Tryd.prog.wantsStandIn u)=true:=by kernel_rfl
    exact(show Tryd.prog.wantsStandIn t=false by simpa using yE.1 hall t hm)⟩)
  (by kernel_rfl)
end Go.Proofs.YtecoaapkcnhlhaaDoor
