/- JF JG JH JK TxtW JL PDetect: FramesDetect: the row and its card. -/
import Derived.Test.YtecoaapkcnhlhaaDoorPart16
import Derived.Test.YtecoaapkcnhlhaaDoorPart11
import Derived.MakeChecks
import Derived.FnData
import Derived.OpenShut
import Derived.Test.YtecoaapkcnhlhaaDoorPart06
import Derived.Test.YtecoaapkcnhlhaaDoorChecked
import Derived.Test.YtecoaapkcnhlhaaDoorRows
import Derived.Test.YtecoaapkcnhlhaaDoorCards
import Derived.Test.YtecoaapkcnhlhaaDoorTie
import Derived.ProofKit
import Derived.LaidMore
import Derived.SevenTiedAt
set_option linter.unusedSimpArgs false
set_option linter.unusedVariables false
open Nat (reduceEqDiff reduceAdd reduceSub reduceMul reduceLT reduceLeDiff)
open Int (reduceToNat reduceNeg)
namespace Go.Proofs.YtecoaapkcnhlhaaDoor
open Go Go.Vc Go.Ham Txt
theorem spot_mem{l:List (List Nat)}{p:Nat×Nat} :p∈qGC l ↔ p.1<l.length/\p.2<(l.getD p.1 []).length:=by
 unfold qGC qGB
 rw[List.mem_flatMap]
 constructor
 ·rintro⟨i,hi,hp⟩
  have hi:=List.mem_range.1 hi
  unfold qGA at hp
  obtain⟨k,hk,rfl⟩:=List.mem_map.1 hp
  exact⟨hi,List.mem_range.1 hk⟩
 ·rintro⟨h1,h2⟩
  refine⟨p.1,List.mem_range.2 h1,?_⟩
  unfold qGA
  exact List.mem_map.2 ⟨p.2,List.mem_range.2 h2,rfl⟩
theorem qJn(l:List (List Nat)):(qGC l).Nodup:=by
 unfold qGC
 have key: ∀n,(qGB l n).Nodup/\ ∀p∈qGB l n,p.1<n:=by
  intro n
  induction n with
  |zero=>exact⟨by simp[qGB],by simp[qGB]⟩
  |succ n ih=>
    rw[qGD]
    have h2: ∀p∈qGA l n,p.1=n:=by
     intro p hp
     unfold qGA at hp
     obtain⟨k,_,rfl⟩:=List.mem_map.1 hp
     rfl
    refine⟨List.nodup_append.2 ⟨ih.1,?_,fun a ha b hb e=> ?_⟩,fun p hp=> ?_⟩
    ·unfold qGA
     exact List.Pairwise.map _ (fun a b h e=>h (Prod.mk.inj e).2) List.nodup_range
    ·have h3:=ih.2 a ha
     have h4:=h2 b hb
     rw[e]at h3;omega
    ·rcases List.mem_append.1 hp with h|h
     ·have:=ih.2 p h;omega
     ·have:=h2 p h;omega
 exact(key _).1
theorem Near.sm{F m:List (List Nat)}(h:Near F m)(hF:FrmSm F):FrmSm m:=by
 have hl:m.length=F.length:=by have:=congrArg List.length h.size;simpa using this
 refine⟨fun ws hws w hw=> ?_,by have:=hF.n;omega,fun ws hws=> ?_⟩
 ·obtain⟨x,k,hi,rfl⟩:=qHe hws hw
  have hiF:inW F x k:=(qHd h.size x k).1 hi
  obtain⟨ws',hw',hm'⟩:=qHf hiF
  have hb:=hF.ok ws' hw' _ hm'
  rcases h.at' x k hiF with e|⟨b,hb2,e⟩
  ·rw[e];exact hb
  ·rw[e];exact Nat.xor_lt_two_pow hb (Nat.pow_lt_pow_right (by decide) hb2)
 ·obtain⟨x,hx,rfl⟩:=List.mem_iff_getElem.1 hws
  have e:=congrArg (fun l=>l[x]?) h.size
  simp only[List.getElem?_map,List.getElem?_eq_getElem hx,List.getElem?_eq_getElem (show x<F.length by omega),Option.map_some,Option.some.injEq]at e
  rw[e]
  exact hF.len _ (List.getElem_mem _)
structure CorSt (F m:List (List Nat)) (dn:List Bool) (n:Nat):Prop where
 near:Near F m
 cnt:cntF m=n
 len:dn.length=(qGC F).length
 no: ∀i,i<(qGC F).length->dn.getD i default=false->atW m ((qGC F).getD i default).1 ((qGC F).getD i default).2=atW F ((qGC F).getD i default).1 ((qGC F).getD i default).2
theorem CorSt.start{F:List (List Nat)}(hc: ∀ws∈F,∀w∈ws,chkW w=0):CorSt F F (List.replicate (qGC F).length false) 0:=
 ⟨Near.refl F,qHk hc,by simp,fun _ _ _=>rfl⟩
theorem qJo{F:List (List Nat)}{i:Nat}(h:i<(qGC F).length):inW F ((qGC F).getD i default).1 ((qGC F).getD i default).2:=by
 rw[List.getD_eq_getElem?_getD,List.getElem?_eq_getElem h]
 exact spot_mem.1 (List.getElem_mem h)
theorem CorSt.step {F m : List (List Nat)} {dn : List Bool} {n i b : Nat} (hc : ∀ ws ∈ F, ∀ w ∈ ws, chkW w = 0) (h : CorSt F m dn n) (hi : i < (qGC F).length) (hd : dn.getD i default = false) (hb : b < 64) :
  CorSt F (qH4 m ((qGC F).getD i default).1 ((qGC F).getD i default).2 b) (dn.set i true) (n+1):=by
 have hin:=qJo hi
 have he:=h.no i hi hd
 have him:inW m ((qGC F).getD i default).1 ((qGC F).getD i default).2:=(qHd h.near.size _ _).2 hin
 obtain⟨ws,hw1,hw2⟩:=qHf hin
 have h0:=hc ws hw1 _ hw2
 refine⟨h.near.flip hin hb he,?_,by rw[List.length_set,h.len],fun j hj hdj=> ?_⟩
 ·have hf:=qHj (b:=b) him
  rw[he,h0,(qA2 h0 hb).1]at hf
  have hcn:=h.cnt
  simp only[show ¬(0=1)from by decide,if_false,if_true]at hf
  show qHg _=_
  have:qHg m=n:=hcn
  omega
 ·have hji:j≠i:=by
   rintro rfl
   rw[List.getD_eq_getElem?_getD,List.getElem?_set_self (by rw[h.len];exact hi)]at hdj
   cases hdj
  have hdj2:dn.getD j default=false:=by
   rw[List.getD_eq_getElem?_getD,List.getElem?_set_ne (Ne.symm hji),<- List.getD_eq_getElem?_getD]at hdj
   exact hdj
  rw[qH7 him,if_neg]
  ·exact h.no j hj hdj2
  ·rintro⟨e1,e2⟩
   have e:(qGC F).getD i default=(qGC F).getD j default:=Prod.ext e1 e2
   rw[List.getD_eq_getElem?_getD,List.getD_eq_getElem?_getD,List.getElem?_eq_getElem hi,List.getElem?_eq_getElem hj]at e
   exact hji ((List.getElem_inj (qJn F)).1 e).symm
theorem qJp(x:RawG)(c:Cfg):(qGC (qDl (qyG x) c)).length≠0:=by
 have hg:=(qyI x).1
 have hn:=hg.n
 have h1:=hn.h1
 have h2:=hn.w1
 have hp:qCa (qyG x) 0 0<+:qCe (qyG x):=by
  have:=qCj (g:=qyG x) (x:=0) (y:=0) h2 h1
  simpa[qCc,qCb]using this
 have hne:qDj (qyG x) 0>=2:=by
  obtain⟨r,hr⟩:=hp
  unfold qDj
  rw[<- hr,qBQ,qCa,qBQ]
  simp only[qC9,qBM,if_true]
  omega
 intro h
 have hm:((0,0):Nat×Nat)∈qGC (qDl (qyG x) c):=spot_mem.2 ⟨by rw[qJl];omega,by
  rw[qDu (by omega),qDw]
  show 0<nW (qDj (qyG x) 0)
  unfold nW;omega⟩
 rw[List.length_eq_zero_iff.1 h]at hm
 cases hm
end Go.Proofs.YtecoaapkcnhlhaaDoor
namespace Go.Proofs.YtecoaapkcnhlhaaDoor
open Go Go.Vc Go.Ham Txt
end Go.Proofs.YtecoaapkcnhlhaaDoor
namespace Go.Proofs.YtecoaapkcnhlhaaDoor
open Go Go.Vc Go.Ham Txt
theorem qJr {P : Program} {w : World} {g t e : Nat} {D : DataW Unit} (hg : P.globalNamed "math/bits.deBruijn64tab" = some g) (ht : (P.globals[g]?).map (·.type) = some t) (hu : P.underlying t = some (.array 64 e)) (he : P.underlying e = some (.int .u8)) (hc : P.cellsOf e = 1)
  (hn : D.handleName?.isNone = true) (hD : D = .agg (tzTab.map fun n => .lit (.int .u8 (n : Nat)))) (h : laidMetH P [("math/bits.deBruijn64tab", D)] w) : GL P w := by
 rw[MakeChecks.laidMetH_plain _ _ _ (by simp[hn])]at h
 obtain⟨ps,⟨g0,t0,cs0,f0,p0,q0,hg0,ht0,hv0,hd0,_,_⟩,_,_⟩:=h
 obtain rfl:=Option.some.inj (hg.symm.trans hg0)
 obtain rfl:=Option.some.inj (ht.symm.trans ht0)
 obtain⟨xs,m1,rfl,hx1,hlen,hn3,hel⟩:=DataW.trod_array hu hd0
 intro g' hg' j hj
 obtain rfl:=Option.some.inj (hg.symm.trans hg')
 have h0:=hel j hj
 rw[hc]at h0
 have hjx:j<xs.length:=by omega
 rw[List.getElem?_eq_getElem hjx]at h0
 obtain⟨k,e1,e2,_⟩:=DataW.trod_int he h0
 simp only[Prod.mk.injEq]at hx1
 have hx:=hx1.1
 rw[hD]at hx
 injection hx with hx
 have h2:(xs.map (·.1))[j]? =some (.lit (.int .u8 k)):=by
  rw[List.getElem?_map,List.getElem?_eq_getElem hjx,e2];rfl
 rw[<- hx]at h2
 have hjt:j<tzTab.length:=hj
 rw[List.getElem?_map,List.getElem?_eq_getElem hjt]at h2
 have hk:k=(tzTab[j]:Nat):=by simpa using h2.symm
 rw[World.var?_cell hg hv0 j,List.getD_eq_getElem?_getD,List.getElem?_eq_getElem hjt]
 have h3:=congrArg (·[0]?) e1
 simp[List.getElem?_take,List.getElem?_drop]at h3
 rw[h3,hk]
 rfl
theorem qJw(x:RawG):Sub (.agg (qyE true x)) (.agg (qyE false x)):=Sub.aggL ⟨.refl _,.refl _,.refl _,.refl _,.slp _ _ _ _ (fun h=>by cases h),trivial⟩
end Go.Proofs.YtecoaapkcnhlhaaDoor
namespace Go.Proofs.YtecoaapkcnhlhaaDoor
open Go Go.Vc Go.Ham Txt
theorem qJL{α:Type}(l:List α)(k:Nat)(d:α)(h:k<l.length):l.getD k d=l[k]:=by
 rw[List.getD_eq_getElem?_getD,List.getElem?_eq_getElem h];rfl
theorem qJM{m:List (List Nat)}{x k:Nat}(h:inW m x k)(f:Nat->Nat):atW (m.map fun ws=>ws.map f) x k=f (atW m x k):=by
 obtain⟨hx,hk⟩:=h
 unfold atW
 have e:(m.map fun ws=>ws.map f).getD x []=(m.getD x []).map f:=by
  simp[List.getD_eq_getElem?_getD,hx]
 rw[e,qJL _ k 0 hk,qJL _ k 0 (by rw[List.length_map];exact hk),List.getElem_map]
structure Det (F T m:List (List Nat)) (x k:Nat):Prop where
 size:m.map List.length=F.map List.length
 bad:chkW (atW m x k)=2
 same:atW m x k=atW T x k
 rest: ∀x' k',inW F x' k' -> ¬(x=x' /\k=k')->atW T x' k' =atW F x' k' /\(atW m x' k' =atW F x' k' \/ ∃b,b<64/\atW m x' k' =atW F x' k' ^^^2^b)
theorem Det.start {F : List (List Nat)} (hc : ∀ ws ∈ F, ∀ w ∈ ws, chkW w = 0) {x k b c : Nat} (hi : inW F x k) (hb : b < 64) (hd : c < 64) (hn : b ≠ c) :
  Det F (qH4 (qH4 F x k b) x k c) (qH4 (qH4 F x k b) x k c) x k/\qHg (qH4 (qH4 F x k b) x k c)=0:=by
 obtain⟨ws,h1,h2⟩:=qHf hi
 have h0:=hc ws h1 _ h2
 have hi2:inW (qH4 F x k b) x k:=flipB_in.2 hi
 have ht: ∀x' k',atW (qH4 (qH4 F x k b) x k c) x' k' =if x=x' /\k=k' then atW F x k^^^2^b^^^2^c else atW F x' k' :=fun x' k' =>by
  rw[qH7 hi2,qH7 hi,qH7 hi]
  by_cases h:x=x' /\k=k' <;>simp[h]
 have h3:atW (qH4 (qH4 F x k b) x k c) x k=atW F x k^^^2^b^^^2^c:=by rw[ht,if_pos ⟨rfl,rfl⟩]
 refine⟨⟨by rw[qHb,qHb],by rw[h3];exact qA3 h0 hb hd hn,rfl,fun x' k' _ hne=> ?_⟩,?_⟩
 ·rw[ht,if_neg hne];exact⟨rfl,.inl rfl⟩
 ·have e1:=qHj (b:=b) hi
  have e2:=qHj (b:=c) hi2
  have h4:atW (qH4 F x k b) x k=atW F x k^^^2^b:=by rw[qH7 hi,if_pos ⟨rfl,rfl⟩]
  rw[h4,qA3 h0 hb hd hn,(qA2 h0 hb).1]at e2
  rw[h0,(qA2 h0 hb).1,qHk hc]at e1
  simp only[show ¬(0=1)from by decide,show ¬(2=1)from by decide,if_false,if_true]at e1 e2
  omega
theorem Det.more{F T:List (List Nat)}(hc: ∀ws∈F,∀w∈ws,chkW w=0){x k y j b:Nat}(h:Det F T T x k)(hi:inW F y j)(hne: ¬(x=y/\k=j))(hb:b<64):Det F T (qH4 T y j b) x k/\qHg (qH4 T y j b)=qHg T+1:=by
 have hiT:inW T y j:=(qHd h.size y j).2 hi
 obtain⟨ws,h1,h2⟩:=qHf hi
 have h0:=hc ws h1 _ h2
 have hy:atW T y j=atW F y j:=(h.rest y j hi hne).1
 have hx:atW (qH4 T y j b) x k=atW T x k:=by rw[qH7 hiT,if_neg (fun e=>hne ⟨e.1.symm,e.2.symm⟩)]
 refine⟨⟨by rw[qHb];exact h.size,by rw[hx];exact h.bad,hx,fun x' k' hi' hn' =>⟨(h.rest x' k' hi' hn').1,?_⟩⟩,?_⟩
 ·rw[qH7 hiT]
  split
  ·rename_i e
   obtain⟨rfl,rfl⟩:=e
   exact .inr ⟨b,hb,by rw[hy]⟩
  ·exact .inl (h.rest x' k' hi' hn').1
 ·have e:=qHj (b:=b) hiT
  rw[hy,h0,(qA2 h0 hb).1]at e
  simp only[show ¬(0=1)from by decide,if_false,if_true]at e
  omega
theorem qJO{m:List (List Nat)}{x:Nat}(h: ∀y,qDm (m.getD y [])=true ↔ y≠x): ∀n,badN m n=if x<n then[(x:Int)]else[]
 |0=>by simp[badN]
 | n + 1 => by
   rw[qHU,qJO h n]
   by_cases hx:n=x
   ·subst hx
    rw[if_neg (by have:=h n;simp at this;simp[this]),if_neg (by omega),if_pos (by omega)];rfl
   ·rw[if_pos ((h n).2 hx)]
    by_cases h2:x<n
    ·rw[if_pos h2,if_pos (by omega)]
    ·rw[if_neg h2,if_neg (by omega)]
theorem Det.law {F T m : List (List Nat)} (hl : qDo F) (hc : ∀ ws ∈ F, ∀ w ∈ ws, chkW w = 0) {x k : Nat} (hi : inW F x k) (hT : T.map List.length = F.map List.length) (h : Det F T m x k) :
  scrF m=T/\badN m m.length=[(x:Int)]/\ ∃ws∈m,qDm ws=false:=by
 have key: ∀x' k',inW F x' k' -> ¬(x=x' /\k=k')->chkW (atW m x' k')≠2/\fixW (atW m x' k')=atW T x' k' :=fun x' k' hi' hn=>by
  obtain⟨ws,h1,h2⟩:=qHf hi'
  have hw:=qHl (hl ws h1 _ h2) (hc ws h1 _ h2) (h.rest x' k' hi' hn).2
  rw[(h.rest x' k' hi' hn).1]
  exact⟨hw.1,hw.2.2⟩
 have hxm:inW m x k:=(qHd h.size x k).2 hi
 have hrow: ∀y,qDm (m.getD y [])=true ↔ y≠x:=fun y=>by
  constructor
  ·rintro hr rfl
   have:=List.all_eq_true.1 hr (atW m y k) (by
    rw[show atW m y k=(m.getD y [])[k]'hxm.2 from qJL _ k 0 hxm.2];exact List.getElem_mem _)
   rw[h.bad]at this
   simp at this
  ·intro hy
   refine List.all_eq_true.2 fun w hw=> ?_
   obtain⟨j,hj,rfl⟩:=List.getElem_of_mem hw
   have hy2:y<m.length:=by
    apply Classical.byContradiction
    intro hn
    rw[List.getD_eq_getElem?_getD,List.getElem?_eq_none (by omega)]at hj
    simp at hj
   have:=(key y j ((qHd h.size y j).1 ⟨hy2,hj⟩) (fun e=>hy e.1.symm)).1
   have e1:atW m y j=(m.getD y [])[j]:=by unfold atW;rw[List.getD_eq_getElem?_getD,List.getElem?_eq_getElem hj];rfl
   rw[e1]at this
   simpa using this
 refine⟨qHc ?_ fun x' k' hi' => ?_,by rw[qJO hrow,if_pos hxm.1],m.getD x [],?_,?_⟩
 ·unfold scrF
  rw[List.map_map,hT,<- h.size]
  exact List.map_congr_left fun ws _=>by simp
 ·have hs : (scrF m).map List.length = m.map List.length := by
   unfold scrF
   rw[List.map_map]
   exact List.map_congr_left fun ws _=>by simp
  have hm:inW m x' k' :=(qHd hs x' k').1 hi'
  unfold scrF
  rw[qJM hm]
  by_cases hx:x=x' /\k=k'
  ·obtain⟨rfl,rfl⟩:=hx
   rw[qHP h.bad,h.same]
  ·exact(key x' k' ((qHd h.size x' k').1 hm) hx).2
 ·rw[List.getD_eq_getElem?_getD,List.getElem?_eq_getElem hxm.1];exact List.getElem_mem _
 ·have:=hrow x
  simpa using this
end Go.Proofs.YtecoaapkcnhlhaaDoor
namespace Go.Proofs.YtecoaapkcnhlhaaDoor.Txt
open Go Go.Vc
set_option maxRecDepth 100000
def ac5w:AC:=
 (.seq (.reg [0,158,0,1,2] [
 (aO 3 (.box (.t 0))),(aO 5 (.box (.t 2))),(aO 6 (.mv (.c (.sc (.bool false)))))])
 (.seq (.reg [0,158,1,3,5] [
 (aO 19 (.cal 8 [])),(aO 7 (.mv (.t 19)))])
 (.seq (.seq (.reg [0,158,1,3,5,7] [
 (aO 20 (.mv (.t 7))),(aO 21 (.not (.t 20))),(aO 22 (.mv (.t 21))),⟨some 23,some (22,false),.ld true 5 (.t 3)⟩,⟨some 24,some (22,false),.cal 9 [(.t 23)]⟩,⟨some 25,some (22,false),.not (.t 24)⟩,(aO 26 (.pick (.t 22) (.c (.sc (.bool true))) (.t 25))),(aO 27 (.mv (.t 26))),⟨some 28,some (27,false),.mv (.t 1)⟩,⟨some 29,some (27,false),.len (.t 28)⟩,⟨some 30,some (27,false),.cmp .gtr .i64 (.t 29) (kI 100)⟩,(aO 31 (.pick (.t 27) (.c (.sc (.bool true))) (.t 30)))])
 (.cut [0,158,1,3,5,7,31] (.cond (.t 31)
 (.seq (.reg [0,158,7] [
 (aO 32 (.mv (.t 7))),(aO 6 (.mv (.t 32)))])
 .ret)
 .skip)))
 (.seq (.reg [0,158,1,3,5,7] [
 (aO 33 (.ld true 5 (.t 3))),(aO 34 (.cal 11 [(.t 33)])),(aO 8 (.alc [zI,zI,zI,zI,.nil])),(aN (.sto 5 (.t 8) (.t 34)))])
 (.seq (.drw [0,158,1,5,7,8] [
 (eU 35 (.ld true 5 (.t 8)) [] [9]),(eU 36 (.ld true 5 (.t 8)) [] [9]),(eU 37 (.mv (.t 1)) [] [9]),(eU 38 (.cal 12 [(.t 36),(.t 37)]) [] [9]),(eU 39 (.cal 13 [(.t 35),(.t 38)]) [] [9]),(eU 9 (.alc [.nil,zI]) [9] []),⟨(aN (.sto 2 (.t 9) (.t 39))),[],[],false⟩])
 (.seq (.reg [0,158,5,7,8,9] [
 (aO 40 (.fa 0 (.t 9))),(aO 41 (.ld false 1 (.t 40))),(aO 42 (.cal 19 [(.t 41)])),(aO 10 (.mv (.t 42)))])
 (.seq (.seq (.reg [0,158,5,7,8,9,10] [
 (aO 43 (.fa 1 (.t 9))),(aO 44 (.ld false 1 (.t 43))),(aO 45 (.cmp .neq .i64 (.t 44) (kI 0))),(aO 46 (.mv (.t 45))),⟨some 47,some (46,false),.mv (.t 10)⟩,⟨some 48,some (46,false),.len (.t 47)⟩,⟨some 49,some (46,false),.cmp .eql .i64 (.t 48) (kI 0)⟩,(aO 50 (.pick (.t 46) (.c (.sc (.bool true))) (.t 49)))])
 (.cut [0,158,5,7,8,9,10,50] (.cond (.t 50)
 (.seq (.reg [0,158] [
 (aO 6 (.mv (.c (.sc (.bool false)))))])
 .ret)
 .skip)))
 (.seq (.reg [0,158,5,7,8,9,10] [
 (aO 51 (.mv (.t 10))),(aO 52 (.ixa 6 1 (.t 5) (kI 0))),(aO 53 (.ld false 1 (.t 52))),(aO 54 (.cnv true .i64 (.t 53))),(aO 55 (.mv (.t 10))),(aO 56 (.len (.t 55))),(aO 57 (.dvd .rem true .i64 (.t 54) (.t 56))),(aO 58 (.ixs 2 (.t 51) (.t 57))),(aO 59 (.ld true 2 (.t 58))),(aO 11 (.alc [zI,zI])),(aN (.sto 2 (.t 11) (.t 59)))])
 (.seq (.reg [0,158,5,7,8,9,10,11] [
 (aO 60 (.mv (.t 10))),(aO 61 (.ixa 6 1 (.t 5) (kI 1))),(aO 62 (.ld false 1 (.t 61))),(aO 63 (.cnv true .i64 (.t 62))),(aO 64 (.mv (.t 10))),(aO 65 (.len (.t 64))),(aO 66 (.dvd .rem true .i64 (.t 63) (.t 65))),(aO 67 (.ixs 2 (.t 60) (.t 66))),(aO 68 (.ld true 2 (.t 67))),(aO 12 (.alc [zI,zI])),(aN (.sto 2 (.t 12) (.t 68)))])
 (.seq (.reg [0,158,5,7,8,9,11,12] [
 (aO 69 (.fa 0 (.t 9))),(aO 70 (.ld false 1 (.t 69))),(aO 71 (.ixa 2 1 (.t 11) (kI 0))),(aO 72 (.ld false 1 (.t 71))),(aO 73 (.ixa 2 1 (.t 11) (kI 1))),(aO 74 (.ld false 1 (.t 73))),(aO 75 (.ixa 6 1 (.t 5) (kI 2))),(aO 76 (.ld false 1 (.t 75))),(aO 77 (.dvd .rem true .u8 (.t 76) (.c (.sc (.int .u8 64))))),(aO 78 (.cnv true .i64 (.t 77))),(aO 79 (.bld [zI,zI,zI] [(0,1,(.t 72)),(1,1,(.t 74)),(2,1,(.t 78))])),(aO 80 (.cal 20 [(.t 70),(.t 79)])),(aO 13 (.alc [.nil,zI])),(aN (.sto 2 (.t 13) (.t 80)))])
 (.seq (.rgs [
 ([0,158,5,7,8,11,12,13],[
 (aO 81 (.fa 0 (.t 13))),(aO 82 (.ld false 1 (.t 81))),(aO 83 (.ixa 2 1 (.t 11) (kI 0))),(aO 84 (.ld false 1 (.t 83))),(aO 85 (.ixa 2 1 (.t 11) (kI 1))),(aO 86 (.ld false 1 (.t 85))),(aO 87 (.ixa 6 1 (.t 5) (kI 2))),(aO 88 (.ld false 1 (.t 87))),(aO 89 (.ari .add false .u8 (.t 88) (.c (.sc (.int .u8 1))))),(aO 90 (.ixa 6 1 (.t 5) (kI 3))),(aO 91 (.ld false 1 (.t 90))),(aO 92 (.dvd .rem true .u8 (.t 91) (.c (.sc (.int .u8 63)))))]),([0,158,5,7,8,11,12,13,82,84,86,89,92],[
 (aO 93 (.ari .add false .u8 (.t 89) (.t 92))),(aO 94 (.cnv true .i64 (.t 93))),(aO 95 (.dvd .rem true .i64 (.t 94) (kI 64))),(aO 96 (.bld [zI,zI,zI] [(0,1,(.t 84)),(1,1,(.t 86)),(2,1,(.t 95))])),(aO 97 (.cal 20 [(.t 82),(.t 96)])),(aO 14 (.alc [.nil,zI])),(aN (.sto 2 (.t 14) (.t 97)))])])
 (.seq (.seq (.reg [0,158,5,7,8,11,12,13,14] [
 (aO 98 (.fa 1 (.t 13))),(aO 99 (.ld false 1 (.t 98))),(aO 100 (.cmp .neq .i64 (.t 99) (kI 0))),(aO 101 (.mv (.t 100))),⟨some 102,some (101,false),.fa 1 (.t 14)⟩,⟨some 103,some (101,false),.ld false 1 (.t 102)⟩,⟨some 104,some (101,false),.cmp .neq .i64 (.t 103) (kI 0)⟩,(aO 105 (.pick (.t 101) (.c (.sc (.bool true))) (.t 104)))])
 (.cut [0,158,5,7,8,11,12,14,105] (.cond (.t 105)
 (.seq (.reg [0,158] [
 (aO 6 (.mv (.c (.sc (.bool false)))))])
 .ret)
 .skip)))
 (.seq (.reg [0,158,5,7,8,11,12,14] [
 (aO 106 (.fa 0 (.t 14))),(aO 107 (.ld false 1 (.t 106))),(aO 15 (.mv (.t 107)))])
 (.seq (.reg [0,158,5,7,8,11,12,14,15] [
 (aO 16 (.mv (kI 0)))])
 (.seq (.seq (.reg [0,158,5,7,8,11,12,14,15,16] [
 (aO 108 (.ld true 2 (.t 12))),(aO 109 (.ld true 2 (.t 11))),(aO 110 (.eqa true 2 (.t 108) (.t 109)))])
 (.cond (.t 110)
 (.seq (.reg [0,158,5,7,8,11,12,14,15] [
 (aO 111 (.mv (.t 15))),(aO 112 (.ixa 2 1 (.t 12) (kI 0))),(aO 113 (.ld false 1 (.t 112))),(aO 114 (.ixa 2 1 (.t 12) (kI 1))),(aO 115 (.ld false 1 (.t 114))),(aO 116 (.ixa 6 1 (.t 5) (kI 4))),(aO 117 (.ld false 1 (.t 116))),(aO 118 (.dvd .rem true .u8 (.t 117) (.c (.sc (.int .u8 64))))),(aO 119 (.cnv true .i64 (.t 118))),(aO 120 (.bld [zI,zI,zI] [(0,1,(.t 113)),(1,1,(.t 115)),(2,1,(.t 119))])),(aO 121 (.cal 20 [(.t 111),(.t 120)])),(aO 17 (.alc [.nil,zI])),(aN (.sto 2 (.t 17) (.t 121)))])
 (.seq (.seq (.reg [0,158,7,8,11,14,17] [
 (aO 122 (.fa 1 (.t 17))),(aO 123 (.ld false 1 (.t 122))),(aO 124 (.cmp .neq .i64 (.t 123) (kI 0)))])
 (.cond (.t 124)
 (.seq (.reg [0,158] [
 (aO 6 (.mv (.c (.sc (.bool false)))))])
 .ret)
 .skip))
 (.seq (.reg [0,158,7,8,11,14,17] [
 (aO 125 (.fa 0 (.t 17))),(aO 126 (.ld false 1 (.t 125))),(aO 15 (.mv (.t 126)))])
 (.reg [0,158,7,8,11,14,15] [
 (aO 16 (.mv (kI 1)))]))))
 .skip))
 (.seq (.reg [0,158,7,8,11,14,15,16] [
 (aO 127 (.mv (.t 15))),(aO 128 (.cal 21 [(.t 127)])),(aO 18 (.alc [.nil,zI,.nil])),(aN (.sto 3 (.t 18) (.t 128)))])
 (.seq (.rgs [
 ([0,158,7,8,11,14,15,16,18],[
 (aO 129 (.ld true 5 (.t 8))),(aO 130 (.mv (.t 15))),(aO 131 (.cal 14 [(.t 129),(.t 130)])),(aO 132 (.fl false 5 1 (.t 131))),(aO 133 (.cmp .eql .i64 (.t 132) (kI 380))),(aO 134 (.mv (.t 133))),⟨some 135,some (134,true),.fa 1 (.t 18)⟩,⟨some 136,some (134,true),.ld false 1 (.t 135)⟩,⟨some 137,some (134,true),.mv (.t 16)⟩,⟨some 138,some (134,true),.cmp .eql .i64 (.t 136) (.t 137)⟩,(aO 139 (.pick (.t 134) (.t 138) (.c (.sc (.bool false))))),(aO 140 (.mv (.t 139)))]),([0,158,7,11,14,18,140],[
 ⟨some 141,some (140,true),.fa 2 (.t 18)⟩,⟨some 142,some (140,true),.ld false 1 (.t 141)⟩,⟨some 143,some (140,true),.ixa 2 1 (.t 11) (kI 0)⟩,⟨some 144,some (140,true),.ld false 1 (.t 143)⟩,⟨some 145,some (140,true),.bsl 1 3 [zI] 1 [(0,(.t 144))]⟩,⟨some 146,some (140,true),.cal 23 [(.t 142),(.t 145)]⟩,(aO 147 (.pick (.t 140) (.t 146) (.c (.sc (.bool false))))),(aO 148 (.mv (.t 147))),⟨some 149,some (148,true),.fa 0 (.t 18)⟩,⟨some 150,some (148,true),.ld false 1 (.t 149)⟩,⟨some 151,some (148,true),.fa 0 (.t 14)⟩,⟨some 152,some (148,true),.ld false 1 (.t 151)⟩]),([0,158,7,148,150,152],[
 ⟨some 153,some (148,true),.cal 22 [(.t 150),(.t 152)]⟩,(aO 154 (.pick (.t 148) (.t 153) (.c (.sc (.bool false))))),(aO 155 (.mv (.t 154))),⟨some 156,some (155,true),.mv (.t 7)⟩,(aO 157 (.pick (.t 155) (.t 156) (.c (.sc (.bool false))))),(aO 6 (.mv (.t 157)))])])
 .ret)))))))))))))))))
def rv5w:List RV:=[.tmp 6]
theorem ok5w:fnOk Tryd.prog ac5w rv5w Tryd.f5=true:=by kernel_rfl
end Go.Proofs.YtecoaapkcnhlhaaDoor.Txt
namespace Go.Proofs.YtecoaapkcnhlhaaDoor
open Go Go.Vc Go.Ham Txt
theorem FrmSm.flip{l:List (List Nat)}(h:FrmSm l){x k b:Nat}(hi:inW l x k)(hb:b<64):FrmSm (qH4 l x k b):=(Near.flip (Near.refl l) hi hb rfl).sm h
theorem qJP{l:List (List Nat)}{x k:Nat}{b:Int}(hi:inW l x k)(hb:0<=b/\b<=63):fldF l ⟨(x:Nat),(k:Nat),b⟩=qH4 l x k b.toNat/\fldE l ⟨(x:Nat),(k:Nat),b⟩=0:=by
 have h:qHp l ⟨(x:Nat),(k:Nat),b⟩:=⟨by show(0:Int)<=(x:Nat);omega,by have:=hi.1;show((x:Nat):Int)<_;omega,by show(0:Int)<=(k:Nat);omega,by have:=hi.2;show((k:Nat):Int)<((l.getD ((x:Nat):Int).toNat []).length:Int);rw[Int.toNat_natCast];omega,hb.1,hb.2⟩
 unfold fldF fldE
 rw[if_pos h,if_pos h]
 exact⟨rfl,rfl⟩
set_option maxHeartbeats 1000000 in
theorem qJQ (x : RawG) (hx : x.By) (l : List Int) (hl : (l.length : Int) <= 9223372036854775807) (hb : ∀ b ∈ l, 0 <= b /\ b <= 255) (k0 k1 k2 k3 k4 k5 : Int) (h0 : 0 <= k0 /\ k0 <= 255) (h1 : 0 <= k1 /\ k1 <= 255) (h2 : 0 <= k2 /\ k2 <= 255) (h3 : 0 <= k3 /\ k3 <= 255) (h4 : 0 <= k4 /\ k4 <= 255) (h5 : 0 <= k5 /\ k5 <= 255) :
  FnEq Tryd.prog 5 [.agg (qyE false x),.sl false 1 (qkb l),.agg [.sc (.int .u8 k0),.sc (.int .u8 k1),.sc (.int .u8 k2),.sc (.int .u8 k3),.sc (.int .u8 k4),.sc (.int .u8 k5)]] (.bool true):=by
 have hg:=(qyI x).1
 have hm:=qyH x hx.ok
 have hw:=qyS (qyG x) hg l hl hb
 have hv:=qJj hg hb
 have hes:=qJk x (qyN (qyG x) l)
 have hsm:=qIR x hx
 have hen:=qJc (qyG x) hg (qyN (qyG x) l)
 have hsp:=qGF _ hes
 have hsp0:=qJp x (qyN (qyG x) l)
 have hck: ∀ws∈qDl (qyG x) (qyN (qyG x) l),∀w∈ws,chkW w=0:=fun ws hws w hw=>qDA hws hw
 have hwo:=qDz (qyG x) (qyN (qyG x) l)
 have hspl:=qGE hes _ (Nat.le_refl _)
 unfold encL encE at hen
 rw[if_pos hv,if_pos hv]at hen
 generalize qyN (qyG x) l=c at *
 generalize qyG x=g at *
 generalize qDl g c=F at *
 have hspl:(qGC F).length<=1000*F.length:=hspl
 have hFn:=hes.n
 refine FnOK.of_awp Tryd.func5 ok5w (by show 3<=_;decide) ?_
 simp only[ac5w,rv5w,push_cast,reduceIte,reduceEqDiff,reduceAdd,reduceSub,reduceMul,Nat.reduceBEq,reduceLT,reduceLeDiff,reduceCtorEq,reduceToNat,reduceNeg,cNI]
 refine qoI qJ7 ?_
 refine sB ?_
 refine qoI hsm ?_
 refine sB ?_
 refine qry rfl (fun e=> ?_) fun e=> ?_<;>simp only[push_cast,reduceIte,reduceEqDiff,reduceAdd,reduceSub,reduceMul,Nat.reduceBEq,reduceLT,reduceLeDiff,reduceCtorEq,reduceToNat,reduceNeg,cNI]
 refine qnU (fun _=>trivial) fun e3=> ?_
 refine qoI hm ?_
 refine sB ?_
 refine qrt hw sC rfl ?_
 refine sB ?_
 refine qrt hen sC rfl ?_
 refine sB ?_
 refine qrr hsp (by exact⟨qIZ true _,trivial⟩) ?_
 refine sB ?_
 refine qrw rfl (fun e4=>absurd e4 (by decide)) fun _=> ?_
 refine sB ?_
 refine qnU (fun e5=>absurd e5 (by omega)) fun _=> ?_
 have hn0:(0:Int)<(qGC F).length:=by omega
 have a1:=Int.emod_nonneg k0 (show((qGC F).length:Int)≠0 by omega)
 have a2:=Int.emod_lt_of_pos k0 hn0
 have a3:=Int.emod_nonneg k1 (show((qGC F).length:Int)≠0 by omega)
 have a4:=Int.emod_lt_of_pos k1 hn0
 have hpi:=qJo (F:=F) (i:=(k0%((qGC F).length:Int)).toNat) (by omega)
 have hqi:=qJo (F:=F) (i:=(k1%((qGC F).length:Int)).toNat) (by omega)
 iterate 15 refine And.intro (by omega) ?_
 generalize (qGC F).getD (k0%((qGC F).length:Int)).toNat default=p at *
 generalize (qGC F).getD (k1%((qGC F).length:Int)).toNat default=q at *
 have hO:=hes.flip hpi (b:=(k2%64).toNat) (by omega)
 have hf1:=qIL F hes ⟨(p.1:Nat),(p.2:Nat),k2%64⟩
 rw[(qJP hpi (by omega)).1,(qJP hpi (by omega)).2]at hf1
 refine qrr hf1 (by exact⟨qIZ true _,.refl _,trivial⟩) ?_
 refine sB ?_
 have hwr: ∀n:Int,IntKind.u8.wrap n=n%256:=fun n=>by simp[IntKind.wrap,IntKind.bits,IntKind.signed]
 rw[hwr,hwr]
 have hcb:(k2%64).toNat≠((((k2+1)%256+k3%63)%256)%64).toNat:=by omega
 have hcl:0<=(((k2+1)%256+k3%63)%256)%64/\(((k2+1)%256+k3%63)%256)%64<=63:=by omega
 iterate 7 refine And.intro (by omega) ?_
 obtain⟨hD,hN⟩:=Det.start hck hpi (b:=(k2%64).toNat) (c:=((((k2+1)%256+k3%63)%256)%64).toNat) (by omega) (by omega) hcb
 have hT:=hO.flip (flipB_in.2 hpi) (b:=((((k2+1)%256+k3%63)%256)%64).toNat) (by omega)
 have hf2:=qIL _ hO ⟨(p.1:Nat),(p.2:Nat),(((k2+1)%256+k3%63)%256)%64⟩
 rw[(qJP (flipB_in.2 hpi) hcl).1,(qJP (flipB_in.2 hpi) hcl).2]at hf2
 refine qrr hf2 (by exact⟨qIZ true _,.refl _,trivial⟩) ?_
 have hTs:(qH4 (qH4 F p.1 p.2 (k2%64).toNat) p.1 p.2 ((((k2+1)%256+k3%63)%256)%64).toNat).map List.length=F.map List.length:=by rw[qHb,qHb]
 generalize qH4 (qH4 F p.1 p.2 (k2%64).toNat) p.1 p.2 ((((k2+1)%256+k3%63)%256)%64).toNat=T at *
 refine sB ?_
 refine qrw rfl (fun e4=>absurd rfl e4) fun _=> ?_
 refine sB ?_
 refine qnU (fun e4=>absurd rfl e4) fun _=> ?_
 refine qnT (fun hq=> ?_) fun hq=> ?_
 ·iterate 5 refine And.intro (by omega) ?_
  have hne: ¬(p.1=q.1/\p.2=q.2):=fun e=>by simp[e.1,e.2]at hq
  have hf3:=qIL T hT ⟨(q.1:Nat),(q.2:Nat),k4%64⟩
  have hqT:inW T q.1 q.2:=(qHd hTs _ _).2 hqi
  rw[(qJP hqT (by omega)).1,(qJP hqT (by omega)).2]at hf3
  refine qrr hf3 (by exact⟨qIZ true _,.refl _,trivial⟩) ?_
  refine sB ?_
  refine qnU (fun e4=>absurd rfl e4) fun _=> ?_
  obtain⟨hM,hMn⟩:=hD.more hck hqi hne (b:=(k4%64).toNat) (by omega)
  have hMs:=hT.flip hqT (b:=(k4%64).toNat) (by omega)
  generalize qH4 T q.1 q.2 (k4%64).toNat=M at *
  rw[hN]at hMn
  obtain⟨t1,t2,t3⟩:=Det.law hwo hck hpi hTs hM
  have hsc:=qIN M hMs
  rw[t1,t2,show cntF M=0+1 from hMn]at hsc
  have hde:=qIQ g hg M hMs (fun h=>by obtain⟨ws,h1,h2⟩:=t3;rw[h.ok ws h1]at h2;cases h2)
  have hri:=qGm [(p.1:Int)] [(p.1:Int)] (by show(1:Int)<=_;decide) (by show(1:Int)<=_;decide)
  rw[decide_eq_true rfl]at hri
  have hrs:=qGt T T hT hT
  rw[decide_eq_true rfl]at hrs
  refine qrr hsc (by exact⟨qIZ true _,trivial⟩) ?_
  refine sB ?_
  refine qrr hde (by exact⟨Sub.aggL ⟨.refl _,.refl _,.refl _,.refl _,.slp _ _ _ _ (fun h=>by cases h),trivial⟩,qIZ true _,trivial⟩) ?_
  refine sB ?_
  refine⟨⟨by decide,by decide⟩,by decide,?_⟩
  refine qrr hri (by exact⟨.slp _ _ _ _ (fun h=>by cases h),.refl _,trivial⟩) ?_
  refine sB ?_
  refine qrr hrs (by exact⟨qIZ true _,qIZ true _,trivial⟩) ?_
  simp only[push_cast,reduceIte,reduceEqDiff,reduceAdd,reduceSub,reduceMul,Nat.reduceBEq,reduceLT,reduceLeDiff,reduceCtorEq,reduceToNat,reduceNeg,cNI]
  done
 ·obtain⟨M,hM0⟩: ∃M,M=T:=⟨_,rfl⟩
  have hM:=hD
  have hMs:=hT
  have hMn:=hN
  rw[<- hM0]
  rw[<- hM0]at hMs hMn
  replace hM:Det F T M p.1 p.2:=by rw[hM0];exact hM
  obtain⟨t1,t2,t3⟩:=Det.law hwo hck hpi hTs hM
  have hsc:=qIN M hMs
  rw[t1,t2,show cntF M=0 from hMn]at hsc
  have hde:=qIQ g hg M hMs (fun h=>by obtain⟨ws,h1,h2⟩:=t3;rw[h.ok ws h1]at h2;cases h2)
  have hri:=qGm [(p.1:Int)] [(p.1:Int)] (by show(1:Int)<=_;decide) (by show(1:Int)<=_;decide)
  rw[decide_eq_true rfl]at hri
  have hrs:=qGt T T hT hT
  rw[decide_eq_true rfl]at hrs
  refine qrr hsc (by exact⟨qIZ true _,trivial⟩) ?_
  refine sB ?_
  refine qrr hde (by exact⟨Sub.aggL ⟨.refl _,.refl _,.refl _,.refl _,.slp _ _ _ _ (fun h=>by cases h),trivial⟩,qIZ true _,trivial⟩) ?_
  refine sB ?_
  refine⟨⟨by decide,by decide⟩,by decide,?_⟩
  refine qrr hri (by exact⟨.slp _ _ _ _ (fun h=>by cases h),.refl _,trivial⟩) ?_
  refine sB ?_
  rw[hM0]
  refine qrr hrs (by exact⟨qIZ true _,qIZ true _,trivial⟩) ?_
  simp only[push_cast,reduceIte,reduceEqDiff,reduceAdd,reduceSub,reduceMul,Nat.reduceBEq,reduceLT,reduceLeDiff,reduceCtorEq,reduceToNat,reduceNeg,cNI]
  done
end Go.Proofs.YtecoaapkcnhlhaaDoor
namespace Go.Proofs.YtecoaapkcnhlhaaDoor
open Go Go.ChangeShapes Go.WideShapes Go.ChangeAt Go.RowKit Go.Vc
theorem qJA:qrH Tryd.prog 9 24 qze=true:=by kernel_rfl
theorem slU:Tryd.prog.underlying 22=some (.slice 5):=by kernel_rfl
theorem qJB:qrH Tryd.prog 9 22 [.sl 1 [.i .u8]]=true:=by kernel_rfl
theorem qJC:qrH Tryd.prog 9 68 (List.replicate 6 (.i .u8))=true:=by kernel_rfl
theorem qJR {f : Nat} (hok : ∀ (x : RawG), x.By -> ∀ (l : List Int), (l.length : Int) <= 9223372036854775807 -> (∀ b ∈ l, 0 <= b /\ b <= 255) -> ∀ k0 k1 k2 k3 k4 k5 : Int, 0 <= k0 /\ k0 <= 255 -> 0 <= k1 /\ k1 <= 255 -> 0 <= k2 /\ k2 <= 255 -> 0 <= k3 /\ k3 <= 255 -> 0 <= k4 /\ k4 <= 255 -> 0 <= k5 /\ k5 <= 255 ->
   FnEq Tryd.prog f [.agg (qyE false x),.sl false 1 (qkb l),.agg [.sc (.int .u8 k0),.sc (.int .u8 k1),.sc (.int .u8 k2),.sc (.int .u8 k3),.sc (.int .u8 k4),.sc (.int .u8 k5)]] (.bool true))
  {a c:List PV} {b:PV} (ha:RowV qze a) (hb:qrI (.sl 1 [.i .u8]) b) (hc:RowV (List.replicate 6 (.i .u8)) c):FnEq Tryd.prog f [.agg a,b,.agg c] (.bool true):=by
 obtain⟨x,hx,rfl⟩:=qzo ha
 obtain⟨l,rfl,h1,h2⟩:=qzl hb
 obtain⟨k,rfl,hk,hv⟩:=qzn hc
 match k,hk,hv with
 |[k0,k1,k2,k3,k4,k5],_,hv=>exact FnOK.sub (hok x hx l h1 h2 k0 k1 k2 k3 k4 k5 (hv _ (by simp)) (hv _ (by simp)) (hv _ (by simp)) (hv _ (by simp)) (hv _ (by simp)) (hv _ (by simp))) ⟨qJw x,.slp _ _ _ _ (fun h=>by cases h),.refl _,trivial⟩
theorem Tryd.own:ownKnob Tryd.prog.godebug=none:=by kernel_rfl
theorem Tryd.laidOut:laidOutB Tryd.prog=true:=by kernel_rfl
theorem qJD:Tryd.prog.underlying 4=some .bool:=by kernel_rfl
theorem qJE:Tryd.f5.params= #[24,22,68]:=by kernel_rfl
def qJF : List (String × DataW Unit) := [("math/bits.deBruijn64tab", Rows.laid_math_bits_deBruijn64tab)]
theorem qJG(os:Os)(args:Array Value):laidMetH Tryd.prog qJF ((World.doorLaid Tryd.prog 14 os).forCall (fun _ _=>0) ⟨#[],args,[]⟩).memory:=
 laidMetH_of_parts3 (fuel:=8) (laidMet_of_run' 8 (by kernel_rfl) (by kernel_rfl)) (by kernel_rfl) (by kernel_rfl)
theorem qJH{w:World}(h:laidMetH Tryd.prog qJF w):GL Tryd.prog w:=
 qJr (g:=0) (t:=135) (e:=5) (D:=Rows.laid_math_bits_deBruijn64tab) (by kernel_rfl) (by kernel_rfl) (by kernel_rfl) (by kernel_rfl) (by kernel_rfl) (by kernel_rfl) (by rfl) h
set_option maxRecDepth 100000 in
theorem detect_lifted (os : Os) (started : os.Started) (H : Type) (enc : TypeId × Value -> H) :
  ReturnsInHanded {} Tryd.checked os 5 .any (fun w args=>(Rows.framesDetectSpec.pre enc Tryd.prog Tryd.f5 [] false w args/\laidMetH Tryd.prog qJF w)/\sizedMet enc Tryd.prog Tryd.f5 (OpenSpec.ofChange Rows.framesDetectSpec) false w args) (Rows.framesDetectSpec.post enc Tryd.prog Tryd.f5 false true false false):=by
 refine returnsInHanded_of_change_and (C:=Tryd.checked) (X:=fun w _=>laidMetH Tryd.prog qJF w) (fun _ _ _ hh h=>h.of_heap hh) Tryd.own started (by kernel_rfl) Tryd.func5
  (ChangeSpec.witness_shaped (enc:=enc) (C:=Tryd.checked) (os:=os) (X:=fun w _=>laidMetH Tryd.prog qJF w) false (World.doorLaid Tryd.prog 14 os) #[.agg #[.int .u8 0,.int .u8 0,.int .u8 0,.int .u8 0,.slice none 0 0],.slice none 0 0,.agg #[.int .u8 0,.int .u8 0,.int .u8 0,.int .u8 0,.int .u8 0,.int .u8 0]] 8 rfl (World.shaped_of_RefB (by kernel_rfl) (by kernel_rfl)) (by kernel_rfl) (by kernel_rfl) (by kernel_rfl) (qJG os _)) ?_
 intro W base args ds gs before hval0 hW _ _ hL _
 have hval: ∀(j:Nat) t v,Tryd.f5.params[j]? =some t->args[j]? =some v->Value.okWide Tryd.prog W .any base t v:=hval0
 have hW' :=hW
 obtain⟨p,q,hA0,hV,rfl,hfz,hnd⟩:=hW
 have hA:DataW.TrodAll enc Tryd.prog W 0 (fun _=>true) true Tryd.f5.params.toList args.toList ds p:=hA0
 rw[qJE]at hA hval
 obtain⟨v0,v1,v2,d0,d1,d2,p0,p1,p2,rfl,rfl,rfl,h0,h1,h2⟩:=trodAll_three hA
 obtain⟨rfl,rfl⟩:=trodVars_none hV
 obtain⟨a,ra,ta⟩:=qrR qJA (by kernel_rfl) (hval 0 _ v0 rfl rfl) h0
 obtain⟨b,rb,tb⟩:=argC qJB (okSl slU (hval 1 _ v1 rfl rfl)) h1
 obtain⟨c,rc,tc⟩:=qrR qJC (by kernel_rfl) (hval 2 _ v2 rfl rfl) h2
 have hlt: ∀x∈p0++p1++p2,x.block<W.heap.size:=fun x hx=>hW'.lt x (by simpa using hx)
 refine(qrT (qJH hL) (qJR qJQ ra rb rc) rfl fun j cc hj=> ?_).mono fun e W' ⟨he,hb⟩=> ?_
 ·match j with
  |0=>simp at hj;subst hj;exact ta
  |1=>simp at hj;subst hj;exact tb
  |2=>simp at hj;subst hj;exact tc
  |j+3=>simp at hj
 ·refine⟨_,he,_,_,_,[],_,[],hW',?_,trodAll_mk3 (Below.trod Tryd.laidOut (by kernel_rfl) (of_decide_eq_true (by kernel_rfl)) h0 hb fun x hx=>hlt x (by simp[hx])) (Below.trod Tryd.laidOut (by kernel_rfl) (of_decide_eq_true (by kernel_rfl)) h1 hb fun x hx=>hlt x (by simp[hx])) (Below.trod Tryd.laidOut (by kernel_rfl) (of_decide_eq_true (by kernel_rfl)) h2 hb fun x hx=>hlt x (by simp[hx])),rfl,hb.frame _,fun h=>by cases h⟩
  exact trodAll_mk1 (shut_bool qJD true)
theorem qJS:Rows.FramesDetectSaid:=
 OpenClaim.holds_of_wide 5 Tryd.f5 rfl rfl rfl rfl rfl rfl rfl ⟨rfl,rfl,rfl,rfl,rfl⟩ rfl rfl rfl rfl rfl (by kernel_rfl) Tryd.func5 (by kernel_rfl)
  (of_decide_eq_true (by kernel_rfl)) (by unfold Func.isWrapper;first|(rw[if_pos (by decide+kernel)];kernel_rfl)|(rw[if_neg (by decide+kernel)];exact⟨rfl,rfl⟩))
  (fun os started H enc _=>detect_lifted os started H enc)
theorem detect_holds:Rows.FramesDetectCardSaid:=
 Claim7.holds_tied_plain_at .later [] [.data] true (true, "6afa5beab4d2fefd3b52fb88c1a8a89648d53ce22376a0ca7c24627d0a83933b") false
  qJS (fun _ h=>by cases h) (by kernel_rfl) (fun _ h=>by cases h) framesDetect_row_tie rfl ⟨rfl,rfl⟩ (by kernel_rfl) rfl
  (fun f fn hf hfn=>by
   obtain rfl : f = 5 := Option.some.inj ((show Tryd.prog.funcNamed "wireloom/wireloomlaw38.FramesDetect" = some 5 by kernel_rfl).symm.trans hf) |>.symm
   obtain rfl:fn=Tryd.f5:=(Option.some.inj (Tryd.func5.symm.trans hfn)).symm
   exact⟨by kernel_rfl,fun j t ht=>by
    rw[qJE]at ht
    have hm:t∈[24,22,68]:=by simpa using Array.mem_of_getElem? ht
    have hall:([24,22,68].all fun u=> !Tryd.prog.wantsStandIn u)=true:=by kernel_rfl
    exact(show Tryd.prog.wantsStandIn t=false by simpa using List.all_eq_true.1 hall t hm)⟩)
  (by kernel_rfl)
end Go.Proofs.YtecoaapkcnhlhaaDoor
