/- TxtV JEa JE JF JG JH PCorrect: FramesCorrect: the row and its card. -/
import Derived.Test.YtecoaapkcnhlhaaDoorPart06
import Derived.Test.YtecoaapkcnhlhaaDoorChecked
import Derived.Test.YtecoaapkcnhlhaaDoorPart16
import Derived.Test.YtecoaapkcnhlhaaDoorPart11
import Derived.MakeChecks
import Derived.FnData
import Derived.OpenShut
import Derived.Test.YtecoaapkcnhlhaaDoorRows
import Derived.Test.YtecoaapkcnhlhaaDoorCards
import Derived.Test.YtecoaapkcnhlhaaDoorTie
import Derived.ProofKit
import Derived.LaidMore
import Derived.SevenTiedAt
set_option linter.unusedSimpArgs false
set_option linter.unusedVariables false
open Nat (reduceEqDiff reduceAdd reduceSub reduceMul reduceLT reduceLeDiff)
open Int (reduceToNat reduceNeg)
namespace Go.Proofs.YtecoaapkcnhlhaaDoor.Txt
open Go Go.Vc
set_option maxRecDepth 100000
def ac4:AC:=
 (.seq (.reg [0,154,0,1,2] [
 (aO 3 (.box (.t 0))),(aO 6 (.mv (.c (.sc (.bool false)))))])
 (.seq (.reg [0,154,1,2,3] [
 (aO 20 (.cal 8 [])),(aO 7 (.mv (.t 20)))])
 (.seq (.seq (.rgs [
 ([0,154,1,2,3,7],[
 (aO 21 (.mv (.t 7))),(aO 22 (.not (.t 21))),(aO 23 (.mv (.t 22))),⟨some 24,some (23,false),.ld true 5 (.t 3)⟩,⟨some 25,some (23,false),.cal 9 [(.t 24)]⟩,⟨some 26,some (23,false),.not (.t 25)⟩,(aO 27 (.pick (.t 23) (.c (.sc (.bool true))) (.t 26))),(aO 28 (.mv (.t 27))),⟨some 29,some (28,false),.mv (.t 1)⟩,⟨some 30,some (28,false),.len (.t 29)⟩,⟨some 31,some (28,false),.cmp .gtr .i64 (.t 30) (kI 100)⟩,(aO 32 (.pick (.t 28) (.c (.sc (.bool true))) (.t 31)))]),([0,154,1,2,3,7,32],[
 (aO 33 (.mv (.t 32))),⟨some 34,some (33,false),.mv (.t 2)⟩,⟨some 35,some (33,false),.len (.t 34)⟩,⟨some 36,some (33,false),.cmp .gtr .i64 (.t 35) (kI 100)⟩,(aO 37 (.pick (.t 33) (.c (.sc (.bool true))) (.t 36)))])])
 (.cut [0,154,1,2,3,7,37] (.cond (.t 37)
 (.seq (.reg [0,154,7] [
 (aO 38 (.mv (.t 7))),(aO 6 (.mv (.t 38)))])
 .ret)
 .skip)))
 (.seq (.reg [0,154,1,2,3,7] [
 (aO 39 (.ld true 5 (.t 3))),(aO 40 (.cal 11 [(.t 39)])),(aO 8 (.alc [zI,zI,zI,zI,.nil])),(aN (.sto 5 (.t 8) (.t 40)))])
 (.seq (.reg [0,154,1,2,7,8] [
 (aO 41 (.ld true 5 (.t 8))),(aO 42 (.mv (.t 1))),(aO 43 (.cal 12 [(.t 41),(.t 42)])),(aO 9 (.alc [.nil,.nil,.nil,.nil])),(aN (.sto 4 (.t 9) (.t 43)))])
 (.seq (.reg [0,154,2,7,8,9] [
 (aO 44 (.ld true 5 (.t 8))),(aO 45 (.ld true 4 (.t 9))),(aO 46 (.cal 13 [(.t 44),(.t 45)])),(aO 10 (.alc [.nil,zI])),(aN (.sto 2 (.t 10) (.t 46)))])
 (.seq (.reg [0,154,2,7,8,9,10] [
 (aO 47 (.fa 0 (.t 10))),(aO 48 (.ld false 1 (.t 47))),(aO 49 (.cal 19 [(.t 48)])),(aO 11 (.mv (.t 49)))])
 (.seq (.seq (.reg [0,154,2,7,8,9,10,11] [
 (aO 50 (.fa 1 (.t 10))),(aO 51 (.ld false 1 (.t 50))),(aO 52 (.cmp .neq .i64 (.t 51) (kI 0))),(aO 53 (.mv (.t 52))),⟨some 54,some (53,false),.mv (.t 11)⟩,⟨some 55,some (53,false),.len (.t 54)⟩,⟨some 56,some (53,false),.cmp .eql .i64 (.t 55) (kI 0)⟩,(aO 57 (.pick (.t 53) (.c (.sc (.bool true))) (.t 56)))])
 (.cut [0,154,2,7,8,9,10,11,57] (.cond (.t 57)
 (.seq (.reg [0,154] [
 (aO 6 (.mv (.c (.sc (.bool false)))))])
 .ret)
 .skip)))
 (.seq (.reg [0,154,2,7,8,9,10,11] [
 (aO 58 (.mv (.t 11))),(aO 59 (.len (.t 58))),(aO 60 (.mks 1 4 1 [.sc (.bool false)] (.t 59) (.t 59))),(aO 12 (.mv (.t 60)))])
 (.seq (.reg [0,154,2,7,8,9,10,11,12] [
 (aO 61 (.fa 0 (.t 10))),(aO 62 (.ld false 1 (.t 61))),(aO 13 (.mv (.t 62)))])
 (.seq (.reg [0,154,2,7,8,9,10,11,12,13] [
 (aO 14 (.mv (kI 0)))])
 (.seq (.seq (.reg [0,154,2,7,8,9,10,11,12,13,14] [
 (aO 15 (.mv (kI 0)))])
 (.block 0
 (.loop [0,154,2,7,8,9,10,11,12,13,14,15]
 (.seq (.seq (.reg [0,154,2,7,8,9,10,11,12,13,14,15] [
 (aO 63 (.mv (.t 15))),(aO 64 (.mv (.t 2))),(aO 65 (.len (.t 64))),(aO 66 (.cmp .lss .i64 (.t 63) (.t 65)))])
 (.cond (.t 66)
 .skip
 (.exit 0)))
 (.seq (.block 1
 (.seq (.reg [0,154,2,7,8,9,10,11,12,13,14,15] [
 (aO 69 (.mv (.t 2))),(aO 70 (.mv (.t 15))),(aO 71 (.ixs 3 (.t 69) (.t 70))),(aO 72 (.ixa 3 1 (.t 71) (kI 0))),(aO 73 (.ld false 1 (.t 72))),(aO 74 (.cnv true .i64 (.t 73))),(aO 75 (.mv (.t 11))),(aO 76 (.len (.t 75))),(aO 77 (.dvd .rem true .i64 (.t 74) (.t 76))),(aO 16 (.mv (.t 77)))])
 (.seq (.seq (.reg [0,154,2,7,8,9,10,11,12,13,14,15,16] [
 (aO 78 (.mv (.t 12))),(aO 79 (.mv (.t 16))),(aO 80 (.ixs 1 (.t 78) (.t 79))),(aO 81 (.ld false 1 (.t 80)))])
 (.cond (.t 81)
 (.exit 1)
 .skip))
 (.seq (.reg [0,154,2,7,8,9,10,11,12,13,14,15,16] [
 (aO 82 (.mv (.t 12))),(aO 83 (.mv (.t 16))),(aO 84 (.ixs 1 (.t 82) (.t 83))),(aN (.sto 1 (.t 84) (.c (.sc (.bool true)))))])
 (.seq (.reg [0,154,2,7,8,9,10,11,12,13,14,15,16] [
 (aO 85 (.mv (.t 14))),(aO 86 (.ari .add true .i64 (.t 85) (kI 1))),(aO 14 (.mv (.t 86)))])
 (.seq (.drw [0,154,2,7,8,9,10,11,12,13,14,15,16] [
 (eU 87 (.mv (.t 13)) [] [17]),(eU 88 (.mv (.t 11)) [] [17]),(eU 89 (.mv (.t 16)) [] [17]),(eU 90 (.ixs 2 (.t 88) (.t 89)) [] [17]),(eU 91 (.ixa 2 1 (.t 90) (kI 0)) [] [17]),(eU 92 (.ld false 1 (.t 91)) [] [17]),(eU 93 (.mv (.t 11)) [] [17]),(eU 94 (.mv (.t 16)) [] [17]),(eU 95 (.ixs 2 (.t 93) (.t 94)) [] [17]),(eU 96 (.ixa 2 1 (.t 95) (kI 1)) [] [17]),(eU 97 (.ld false 1 (.t 96)) [] [17]),(eU 98 (.mv (.t 2)) [] [17]),(eU 99 (.mv (.t 15)) [] [17]),(eU 100 (.ixs 3 (.t 98) (.t 99)) [] [17]),(eU 101 (.ixa 3 1 (.t 100) (kI 1)) [] [17]),(eU 102 (.ld false 1 (.t 101)) [] [17]),(eU 103 (.dvd .rem true .u8 (.t 102) (.c (.sc (.int .u8 64)))) [] [17]),(eU 104 (.cnv true .i64 (.t 103)) [] [17]),(eU 105 (.bld [zI,zI,zI] [(0,1,(.t 92)),(1,1,(.t 97)),(2,1,(.t 104))]) [] [17]),(eU 106 (.cal 20 [(.t 87),(.t 105)]) [] [17]),(eU 17 (.alc [.nil,zI]) [17] []),⟨(aN (.sto 2 (.t 17) (.t 106))),[],[],false⟩])
 (.seq (.seq (.reg [0,154,2,7,8,9,10,11,12,14,15,17] [
 (aO 107 (.fa 1 (.t 17))),(aO 108 (.ld false 1 (.t 107))),(aO 109 (.cmp .neq .i64 (.t 108) (kI 0)))])
 (.cond (.t 109)
 (.seq (.reg [0,154] [
 (aO 6 (.mv (.c (.sc (.bool false)))))])
 .ret)
 .skip))
 (.reg [0,154,2,7,8,9,10,11,12,14,15,17] [
 (aO 110 (.fa 0 (.t 17))),(aO 111 (.ld false 1 (.t 110))),(aO 13 (.mv (.t 111)))]))))))))
 (.reg [0,154,2,7,8,9,10,11,12,13,14,15] [
 (aO 67 (.mv (.t 15))),(aO 68 (.ari .add true .i64 (.t 67) (kI 1))),(aO 15 (.mv (.t 68)))]))))))
 (.seq (.reg [0,154,7,8,9,10,13,14] [
 (aO 112 (.ld true 5 (.t 8))),(aO 113 (.mv (.t 13))),(aO 114 (.cal 14 [(.t 112),(.t 113)])),(aO 18 (.alc [.nil,.nil,.nil,.nil,zI,zI])),(aN (.sto 6 (.t 18) (.t 114)))])
 (.seq (.reg [0,154,7,9,10,13,14,18] [
 (aO 115 (.mv (.t 13))),(aO 116 (.cal 21 [(.t 115)])),(aO 19 (.alc [.nil,zI,.nil])),(aN (.sto 3 (.t 19) (.t 116)))])
 (.seq (.rgs [
 ([0,154,7,9,10,14,18,19],[
 (aO 117 (.fa 5 (.t 18))),(aO 118 (.ld false 1 (.t 117))),(aO 119 (.cmp .eql .i64 (.t 118) (kI 0))),(aO 120 (.mv (.t 119))),⟨some 121,some (120,true),.fa 4 (.t 18)⟩,⟨some 122,some (120,true),.ld false 1 (.t 121)⟩,⟨some 123,some (120,true),.mv (.t 14)⟩,⟨some 124,some (120,true),.cmp .eql .i64 (.t 122) (.t 123)⟩,(aO 125 (.pick (.t 120) (.t 124) (.c (.sc (.bool false))))),(aO 126 (.mv (.t 125))),⟨some 127,some (126,true),.fa 0 (.t 18)⟩,⟨some 128,some (126,true),.ld true 4 (.t 127)⟩]),([0,154,7,9,10,14,19,126,128],[
 ⟨some 129,some (126,true),.ld true 4 (.t 9)⟩,⟨some 130,some (126,true),.cal 16 [(.t 128),(.t 129)]⟩,(aO 131 (.pick (.t 126) (.t 130) (.c (.sc (.bool false))))),(aO 132 (.mv (.t 131))),⟨some 133,some (132,true),.fa 1 (.t 19)⟩,⟨some 134,some (132,true),.ld false 1 (.t 133)⟩,⟨some 135,some (132,true),.mv (.t 14)⟩,⟨some 136,some (132,true),.cmp .eql .i64 (.t 134) (.t 135)⟩,(aO 137 (.pick (.t 132) (.t 136) (.c (.sc (.bool false))))),(aO 138 (.mv (.t 137))),⟨some 139,some (138,true),.fa 2 (.t 19)⟩,⟨some 140,some (138,true),.ld false 1 (.t 139)⟩]),([0,154,7,10,19,138,140],[
 ⟨some 141,some (138,true),.len (.t 140)⟩,⟨some 142,some (138,true),.cmp .eql .i64 (.t 141) (kI 0)⟩,(aO 143 (.pick (.t 138) (.t 142) (.c (.sc (.bool false))))),(aO 144 (.mv (.t 143))),⟨some 145,some (144,true),.fa 0 (.t 19)⟩,⟨some 146,some (144,true),.ld false 1 (.t 145)⟩,⟨some 147,some (144,true),.fa 0 (.t 10)⟩,⟨some 148,some (144,true),.ld false 1 (.t 147)⟩,⟨some 149,some (144,true),.cal 22 [(.t 146),(.t 148)]⟩,(aO 150 (.pick (.t 144) (.t 149) (.c (.sc (.bool false))))),(aO 151 (.mv (.t 150))),⟨some 152,some (151,true),.mv (.t 7)⟩]),([0,154,151,152],[
 (aO 153 (.pick (.t 151) (.t 152) (.c (.sc (.bool false))))),(aO 6 (.mv (.t 153)))])])
 .ret)))))))))))))))
def rv4:List RV:=[.tmp 6]
theorem ok4:fnOk Tryd.prog ac4 rv4 Tryd.f4=true:=by kernel_rfl
end Go.Proofs.YtecoaapkcnhlhaaDoor.Txt
namespace Go.Proofs.YtecoaapkcnhlhaaDoor
open Go Go.Vc Txt
theorem qJh{g:Grid}{c:Cfg}(hl:CfgLn g c){t0:Nat}{b:Int}(hb:0<=b/\b<=255)(h: ∀t,t<g.kind.length->qym g c t): ∀t,t<g.kind.length->qym g (qyK g c t0 b) t:=by
 obtain⟨l1,l2,l3,l4⟩:=hl
 intro t ht
 have h0:=h t ht
 unfold qyK
 split
 ·exact h0
 ·rename_i hk
  split
  ·unfold qym
   simp only[qyT]
   by_cases e:t0=t
   ·subst e
    rw[if_pos ⟨rfl,by omega⟩,if_pos ⟨rfl,by omega⟩,if_pos ⟨rfl,by omega⟩]
    refine⟨by omega,?_,by simp;omega,by simp⟩
    unfold qwR
    rw[if_neg hk]
    split<;>simp
   ·rw[if_neg (fun q=>e q.1),if_neg (fun q=>e q.1),if_neg (fun q=>e q.1)]
    exact h0
  ·split
   ·unfold qym
    simp only[qyT]
    by_cases e:t0=t
    ·subst e
     rw[if_pos ⟨rfl,by omega⟩,if_pos ⟨rfl,by omega⟩,if_pos ⟨rfl,by omega⟩]
     refine⟨by omega,?_,by simp;omega,by simp;omega⟩
     unfold qwR
     rw[if_neg hk]
     split<;>simp
    ·rw[if_neg (fun q=>e q.1),if_neg (fun q=>e q.1),if_neg (fun q=>e q.1)]
     exact h0
   ·exact h0
theorem qJi{g:Grid}{l:List Int}(hb: ∀x∈l,0<=x/\x<=255): ∀j t,t<g.kind.length->qym g (qyM g l j) t
 | 0, t, ht => by
   have e: ∀n i,(List.replicate n (0:Int)).getD i 0=0:=fun n i=>by
    rw[List.getD_eq_getElem?_getD,List.getElem?_replicate]
    split<;>rfl
   unfold qym
   simp only[qyM,qx5,e]
   refine⟨by omega,?_,by simp,by simp⟩
   unfold qwR
   split
   ·simp
   ·split<;>simp
 | j + 1, t, ht => by
   have hx: ∀i,0<=l.getD i 0/\l.getD i 0<=255:=fun i=>by
    by_cases h:i<l.length
    ·exact hb _ (qyw h)
    ·rw[List.getD_eq_getElem?_getD,List.getElem?_eq_none (by omega)];decide
   have hs: ∀t,t<g.kind.length->qym g (selW g (qyM g l j) ((7*((2*j:Nat):Int)+l.getD (2*j) 0)%((qyM g l j).sel.length:Int)) (l.getD (2*j+1) 0)) t:=fun t ht=>by
    have:=qJi hb j t ht
    unfold selW
    split
    ·exact this
    ·exact this
   exact qJh (qyO (qyR g l j)) (hx _) hs t ht
theorem qJj{g:Grid}(hg:GOk g){l:List Int}(hb: ∀x∈l,0<=x/\x<=255):validE g (qyN g l)=0:=
 qyn (qyR g l _) (qyX hg l).sel (qJi hb _)
end Go.Proofs.YtecoaapkcnhlhaaDoor
namespace Go.Proofs.YtecoaapkcnhlhaaDoor
open Go Go.Vc Go.Ham Txt
theorem qJk(x:RawG)(c:Cfg):FrmSm (qDl (qyG x) c):=by
 have hg:=(qyI x).1
 have hn:=hg.n
 have hw:wN (qyG x)<=5:=by unfold wN qyG;simp only;omega
 have hh:hN (qyG x)<=5:=by unfold hN qyG;simp only;omega
 have he:eN (qyG x)<=14:=by unfold eN quU qyG;simp only;omega
 refine⟨qDz _ c,by rw[qDl,List.length_map,List.length_range];omega,fun ws hws=> ?_⟩
 obtain⟨y,hy,rfl⟩:=List.mem_map.1 hws
 rw[qDw]
 have h1:hN (qyG x)*(eN (qyG x)+3)<=5*17:=Nat.mul_le_mul hh (by omega)
 have h2:wN (qyG x)*(hN (qyG x)*(eN (qyG x)+3))<=5*(5*17):=Nat.mul_le_mul hw h1
 have h3:(qCe (qyG x)).length<=473:=by
  rw[qCe,List.length_append,qDL,qCd,qDJ]
  have:=hn.ce
  have hp:(2*(qyG x).pads).toNat=48:=rfl
  omega
 have h4:=qDI (m:=64) y (qCe (qyG x)) fun f hf=>qG1 (qCW hg hf)
 unfold nW
 omega
theorem qJl(g:Grid)(c:Cfg):(qDl g c).length=wN g+1:=by simp[qDl]
end Go.Proofs.YtecoaapkcnhlhaaDoor
namespace Go.Proofs.YtecoaapkcnhlhaaDoor
open Go Go.Vc Go.Ham Txt
theorem spot_mem{l:List (List Nat)}{p:Nat×Nat} :p∈qGC l ↔ p.1<l.length/\p.2<(l.getD p.1 []).length:=by
 unfold qGC qGB
 rw[List.mem_flatMap]
 constructor
 ·rintro⟨i,hi,hp⟩
  have hi:=List.mem_range.1 hi
  unfold qGA at hp
  obtain⟨k,hk,rfl⟩:=List.mem_map.1 hp
  exact⟨hi,List.mem_range.1 hk⟩
 ·rintro⟨h1,h2⟩
  refine⟨p.1,List.mem_range.2 h1,?_⟩
  unfold qGA
  exact List.mem_map.2 ⟨p.2,List.mem_range.2 h2,rfl⟩
theorem qJn(l:List (List Nat)):(qGC l).Nodup:=by
 unfold qGC
 have key: ∀n,(qGB l n).Nodup/\ ∀p∈qGB l n,p.1<n:=by
  intro n
  induction n with
  |zero=>exact⟨by simp[qGB],by simp[qGB]⟩
  |succ n ih=>
    rw[qGD]
    have h2: ∀p∈qGA l n,p.1=n:=by
     intro p hp
     unfold qGA at hp
     obtain⟨k,_,rfl⟩:=List.mem_map.1 hp
     rfl
    refine⟨List.nodup_append.2 ⟨ih.1,?_,fun a ha b hb e=> ?_⟩,fun p hp=> ?_⟩
    ·unfold qGA
     exact List.Pairwise.map _ (fun a b h e=>h (Prod.mk.inj e).2) List.nodup_range
    ·have h3:=ih.2 a ha
     have h4:=h2 b hb
     rw[e]at h3;omega
    ·rcases List.mem_append.1 hp with h|h
     ·have:=ih.2 p h;omega
     ·have:=h2 p h;omega
 exact(key _).1
theorem Near.sm{F m:List (List Nat)}(h:Near F m)(hF:FrmSm F):FrmSm m:=by
 have hl:m.length=F.length:=by have:=congrArg List.length h.size;simpa using this
 refine⟨fun ws hws w hw=> ?_,by have:=hF.n;omega,fun ws hws=> ?_⟩
 ·obtain⟨x,k,hi,rfl⟩:=qHe hws hw
  have hiF:inW F x k:=(qHd h.size x k).1 hi
  obtain⟨ws',hw',hm'⟩:=qHf hiF
  have hb:=hF.ok ws' hw' _ hm'
  rcases h.at' x k hiF with e|⟨b,hb2,e⟩
  ·rw[e];exact hb
  ·rw[e];exact Nat.xor_lt_two_pow hb (Nat.pow_lt_pow_right (by decide) hb2)
 ·obtain⟨x,hx,rfl⟩:=List.mem_iff_getElem.1 hws
  have e:=congrArg (fun l=>l[x]?) h.size
  simp only[List.getElem?_map,List.getElem?_eq_getElem hx,List.getElem?_eq_getElem (show x<F.length by omega),Option.map_some,Option.some.injEq]at e
  rw[e]
  exact hF.len _ (List.getElem_mem _)
structure CorSt (F m:List (List Nat)) (dn:List Bool) (n:Nat):Prop where
 near:Near F m
 cnt:cntF m=n
 len:dn.length=(qGC F).length
 no: ∀i,i<(qGC F).length->dn.getD i default=false->atW m ((qGC F).getD i default).1 ((qGC F).getD i default).2=atW F ((qGC F).getD i default).1 ((qGC F).getD i default).2
theorem CorSt.start{F:List (List Nat)}(hc: ∀ws∈F,∀w∈ws,chkW w=0):CorSt F F (List.replicate (qGC F).length false) 0:=
 ⟨Near.refl F,qHk hc,by simp,fun _ _ _=>rfl⟩
theorem qJo{F:List (List Nat)}{i:Nat}(h:i<(qGC F).length):inW F ((qGC F).getD i default).1 ((qGC F).getD i default).2:=by
 rw[List.getD_eq_getElem?_getD,List.getElem?_eq_getElem h]
 exact spot_mem.1 (List.getElem_mem h)
theorem CorSt.step {F m : List (List Nat)} {dn : List Bool} {n i b : Nat} (hc : ∀ ws ∈ F, ∀ w ∈ ws, chkW w = 0) (h : CorSt F m dn n) (hi : i < (qGC F).length) (hd : dn.getD i default = false) (hb : b < 64) :
  CorSt F (qH4 m ((qGC F).getD i default).1 ((qGC F).getD i default).2 b) (dn.set i true) (n+1):=by
 have hin:=qJo hi
 have he:=h.no i hi hd
 have him:inW m ((qGC F).getD i default).1 ((qGC F).getD i default).2:=(qHd h.near.size _ _).2 hin
 obtain⟨ws,hw1,hw2⟩:=qHf hin
 have h0:=hc ws hw1 _ hw2
 refine⟨h.near.flip hin hb he,?_,by rw[List.length_set,h.len],fun j hj hdj=> ?_⟩
 ·have hf:=qHj (b:=b) him
  rw[he,h0,(qA2 h0 hb).1]at hf
  have hcn:=h.cnt
  simp only[show ¬(0=1)from by decide,if_false,if_true]at hf
  show qHg _=_
  have:qHg m=n:=hcn
  omega
 ·have hji:j≠i:=by
   rintro rfl
   rw[List.getD_eq_getElem?_getD,List.getElem?_set_self (by rw[h.len];exact hi)]at hdj
   cases hdj
  have hdj2:dn.getD j default=false:=by
   rw[List.getD_eq_getElem?_getD,List.getElem?_set_ne (Ne.symm hji),<- List.getD_eq_getElem?_getD]at hdj
   exact hdj
  rw[qH7 him,if_neg]
  ·exact h.no j hj hdj2
  ·rintro⟨e1,e2⟩
   have e:(qGC F).getD i default=(qGC F).getD j default:=Prod.ext e1 e2
   rw[List.getD_eq_getElem?_getD,List.getD_eq_getElem?_getD,List.getElem?_eq_getElem hi,List.getElem?_eq_getElem hj]at e
   exact hji ((List.getElem_inj (qJn F)).1 e).symm
theorem qJp(x:RawG)(c:Cfg):(qGC (qDl (qyG x) c)).length≠0:=by
 have hg:=(qyI x).1
 have hn:=hg.n
 have h1:=hn.h1
 have h2:=hn.w1
 have hp:qCa (qyG x) 0 0<+:qCe (qyG x):=by
  have:=qCj (g:=qyG x) (x:=0) (y:=0) h2 h1
  simpa[qCc,qCb]using this
 have hne:qDj (qyG x) 0>=2:=by
  obtain⟨r,hr⟩:=hp
  unfold qDj
  rw[<- hr,qBQ,qCa,qBQ]
  simp only[qC9,qBM,if_true]
  omega
 intro h
 have hm:((0,0):Nat×Nat)∈qGC (qDl (qyG x) c):=spot_mem.2 ⟨by rw[qJl];omega,by
  rw[qDu (by omega),qDw]
  show 0<nW (qDj (qyG x) 0)
  unfold nW;omega⟩
 rw[List.length_eq_zero_iff.1 h]at hm
 cases hm
end Go.Proofs.YtecoaapkcnhlhaaDoor
namespace Go.Proofs.YtecoaapkcnhlhaaDoor
open Go Go.Vc Go.Ham Txt
def k3By(k:List (Int×Int×Int)):Prop:= ∀e∈k,(0<=e.1/\e.1<=255)/\(0<=e.2.1/\e.2.1<=255)/\0<=e.2.2/\e.2.2<=255
set_option maxHeartbeats 1000000 in
theorem qJq (x : RawG) (hx : x.By) (l : List Int) (hl : (l.length : Int) <= 9223372036854775807) (hb : ∀ b ∈ l, 0 <= b /\ b <= 255) (k : List (Int × Int × Int)) (hkl : (k.length : Int) <= 9223372036854775807) (hk : k3By k) :
  FnEq Tryd.prog 4 [.agg (qyE false x),.sl false 1 (qkb l),.sl false 3 (rows k3C k)] (.bool true):=by
 have hg:=(qyI x).1
 have hm:=qyH x hx.ok
 have hw:=qyS (qyG x) hg l hl hb
 have hv:=qJj hg hb
 have hes:=qJk x (qyN (qyG x) l)
 have hsm:=qIR x hx
 have hen:=qJc (qyG x) hg (qyN (qyG x) l)
 have hsp:=qGF _ hes
 have hsp0:=qJp x (qyN (qyG x) l)
 have hsame:=qyx (qyN (qyG x) l) (qyN (qyG x) l) (qJ8 hg ((qDg _ _).1 hv).1) (qJ8 hg ((qDg _ _).1 hv).1)
 have hck: ∀ws∈qDl (qyG x) (qyN (qyG x) l),∀w∈ws,chkW w=0:=fun ws hws w hw=>qDA hws hw
 have hnear:=fun m (h:Near (qDl (qyG x) (qyN (qyG x) l)) m)=>qIT hg hv h
 have hspl:=qGE hes _ (Nat.le_refl _)
 unfold encL encE at hen
 rw[if_pos hv,if_pos hv]at hen
 rw[decide_eq_true rfl]at hsame
 generalize qyN (qyG x) l=c at *
 generalize qyG x=g at *
 generalize qDl g c=F at *
 have hspl:(qGC F).length<=1000*F.length:=hspl
 have hFn:=hes.n
 refine FnEq.of_awp Tryd.func4 ok4 (by show 3<=_;decide) (by simp only[push_cast,reduceIte,reduceEqDiff,reduceAdd,reduceSub,reduceMul,Nat.reduceBEq,reduceLT,reduceLeDiff,reduceCtorEq,reduceToNat,reduceNeg,cNI]<;>first|exact fun _ _=>trivial|simp) ?_
 simp only[ac4,rv4,push_cast,reduceIte,reduceEqDiff,reduceAdd,reduceSub,reduceMul,Nat.reduceBEq,reduceLT,reduceLeDiff,reduceCtorEq,reduceToNat,reduceNeg,cNI]
 refine qoI qJ7 ?_
 refine sB ?_
 refine qoI hsm ?_
 refine sB ?_
 refine qry rfl (fun e=> ?_) fun e=> ?_<;>simp only[push_cast,reduceIte,reduceEqDiff,reduceAdd,reduceSub,reduceMul,Nat.reduceBEq,reduceLT,reduceLeDiff,reduceCtorEq,reduceToNat,reduceNeg,cNI]
 refine qrw rfl (fun e2=> ?_) fun e2=> ?_<;>simp only[push_cast,reduceIte,reduceEqDiff,reduceAdd,reduceSub,reduceMul,Nat.reduceBEq,reduceLT,reduceLeDiff,reduceCtorEq,reduceToNat,reduceNeg,cNI]
 refine qnU (fun _=>trivial) fun e3=> ?_
 refine qoI hm ?_
 refine sB ?_
 refine qrr hw sC ?_
 refine sB ?_
 refine qrr hen sC ?_
 refine sB ?_
 refine qrr hsp (by exact⟨qIZ true _,trivial⟩) ?_
 refine sB ?_
 refine qrw rfl (fun e4=>absurd e4 (by decide)) fun _=> ?_
 refine sB ?_
 refine qnU (fun e5=>absurd e5 (by omega)) fun _=> ?_
 refine⟨⟨by omega,by omega,by omega,by omega⟩,?_⟩
 generalize hS:qGC F=S at *
 refine qoL (fun m st=> ∃(i n:Nat) (M:List (List Nat)) (dn:List Bool),i<=k.length/\n<=i/\m=k.length-i/\CorSt F M dn n/\st=⟨[(2,.sl false 3 (rows k3C k)),(7,.bool true),(8,.ptr 8 0),(9,.ptr 9 0),(10,.ptr 10 0),(11,.sl true 2 (rows spC S)),(12,.view 60 0 S.length),(13,.sl true 1 (rows (frmC true) M)),(14,.int n),(15,.int i)],
  [(8,quQ true g),(9,cfgC true c),(10,[.sl true 1 (rows (frmC true) F),.int 0])],[(60,⟨1,4,rows qka dn⟩)],[]⟩) k.length ⟨0,0,F,List.replicate S.length false,by omega,by omega,by omega,by rw[<- hS];exact CorSt.start hck,by simp only[List.length_replicate,push_cast,reduceIte,reduceEqDiff,reduceAdd,reduceSub,reduceMul,Nat.reduceBEq,reduceLT,reduceLeDiff,reduceCtorEq,reduceToNat,reduceNeg,cNI]⟩ ?_
 rintro m st ⟨i,n,M,dn,hi,hni,rfl,hC,rfl⟩
 have hMs:=hC.near.sm hes
 have hdl:=hC.len
 rw[hS]at hdl
 refine sB ?_
 refine qnU (fun h2=> ?_) fun h2=> ?_
 ·have hi' :i<k.length:=by omega
  have hke:=hk (k.getD i default) (by rw[List.getD_eq_getElem?_getD,List.getElem?_eq_getElem hi'];exact List.getElem_mem hi')
  generalize k.getD i default=e at *
  obtain⟨⟨e1,e2⟩,⟨e3,e4⟩,e5,e6⟩:=hke
  have hmd:0<=e.1%(S.length:Int)/\e.1%(S.length:Int)<S.length:=⟨Int.emod_nonneg _ (by omega),Int.emod_lt_of_pos _ (by omega)⟩
  obtain⟨j,hj⟩: ∃j:Nat,e.1%(S.length:Int)=j:=⟨(e.1%(S.length:Int)).toNat,by omega⟩
  have hjl:j<S.length:=by omega
  simp only[hj,hdl,push_cast,reduceIte,reduceEqDiff,reduceAdd,reduceSub,reduceMul,Nat.reduceBEq,reduceLT,reduceLeDiff,reduceCtorEq,reduceToNat,reduceNeg,cNI]
  refine⟨⟨by omega,by omega⟩,⟨by decide,by decide⟩,hi',⟨by omega,by omega⟩,⟨by omega,by omega,by omega⟩,⟨by omega,by omega⟩,hjl,?_⟩
  refine qnT (fun hd=> ?_) fun hd=> ?_
  ·exact⟨⟨by omega,by omega⟩,k.length-(i+1),by omega,i+1,n,M,dn,by omega,by omega,rfl,hC,rfl⟩
  ·have hstep:=hC.step (i:=j) (b:=(e.2.1%64).toNat) hck (by rw[hS];exact hjl) hd (by omega)
   have hin:=qJo (F:=F) (i:=j) (by rw[hS];exact hjl)
   rw[<- qHd hC.near.size]at hin
   rw[hS]at hstep hin
   obtain⟨p,hp⟩: ∃p,p=S.getD j default:=⟨_,rfl⟩
   rw[<- hp]at hstep hin
   have hfi:qHp M ⟨p.1,p.2,e.2.1%64⟩:=⟨by show(0:Int)<=(p.1:Nat);omega,by have:=hin.1;show((p.1:Nat):Int)<_;omega,by show(0:Int)<=(p.2:Nat);omega,by have:=hin.2;show((p.2:Nat):Int)<((M.getD ((p.1:Nat):Int).toNat []).length:Int);rw[Int.toNat_natCast];omega,by show 0<=e.2.1%64;omega,by show e.2.1%64<=63;omega⟩
   have hfl:=qIL M hMs ⟨p.1,p.2,e.2.1%64⟩
   unfold fldF fldE at hfl
   rw[if_pos hfi,if_pos hfi]at hfl
   simp only[Int.toNat_natCast]at hfl
   simp only[<- hp,push_cast,reduceIte,reduceEqDiff,reduceAdd,reduceSub,reduceMul,Nat.reduceBEq,reduceLT,reduceLeDiff,reduceCtorEq,reduceToNat,reduceNeg,cNI]
   refine⟨⟨by omega,by omega⟩,hjl,⟨by omega,by omega⟩,⟨by omega,by omega⟩,⟨by decide,by decide⟩,hjl,⟨by omega,by omega⟩,⟨by decide,by decide⟩,hjl,⟨by omega,by omega⟩,⟨by decide,by decide⟩,hi',⟨by omega,by omega,by decide⟩,⟨by omega,by omega⟩,?_⟩
   refine qrt hfl (by exact⟨qIZ true _,.refl _,trivial⟩) rfl ?_
   refine sB ?_
   refine qnU (fun e=>absurd rfl e) fun _=> ?_
   exact⟨⟨by omega,by omega⟩,k.length-(i+1),by omega,i+1,n+1,_,_,by omega,by omega,rfl,hstep,rfl⟩
 ·obtain⟨n1,n2,n3,n4⟩:=hnear M hC.near
  have hde:=qIP g hg M hMs n1
  rw[n2,hC.cnt]at hde
  have hsc:=qIN M hMs
  rw[n3,hC.cnt,qIU n4]at hsc
  have hrs:=qGt F F hes hes
  rw[decide_eq_true rfl]at hrs
  refine qrr hde (by exact⟨Sub.aggL ⟨.refl _,.refl _,.refl _,.refl _,.slp _ _ _ _ (fun h=>by cases h),trivial⟩,qIZ true _,trivial⟩) ?_
  refine sB ?_
  refine qrr hsc (by exact⟨qIZ true _,trivial⟩) ?_
  refine sB ?_
  refine qrr hsame (by exact⟨Sub.aggL ⟨.slp _ _ _ _ (fun h=>by cases h),.slp _ _ _ _ (fun h=>by cases h),.slp _ _ _ _ (fun h=>by cases h),.slp _ _ _ _ (fun h=>by cases h),trivial⟩,Sub.aggL ⟨.slp _ _ _ _ (fun h=>by cases h),.slp _ _ _ _ (fun h=>by cases h),.slp _ _ _ _ (fun h=>by cases h),.slp _ _ _ _ (fun h=>by cases h),trivial⟩,trivial⟩) ?_
  refine sB ?_
  refine qrr hrs (by exact⟨qIZ true _,qIZ true _,trivial⟩) ?_
  simp only[push_cast,reduceIte,reduceEqDiff,reduceAdd,reduceSub,reduceMul,Nat.reduceBEq,reduceLT,reduceLeDiff,reduceCtorEq,reduceToNat,reduceNeg,cNI]
  done
end Go.Proofs.YtecoaapkcnhlhaaDoor
namespace Go.Proofs.YtecoaapkcnhlhaaDoor
open Go Go.Vc Go.Ham Txt
theorem qJr {P : Program} {w : World} {g t e : Nat} {D : DataW Unit} (hg : P.globalNamed "math/bits.deBruijn64tab" = some g) (ht : (P.globals[g]?).map (·.type) = some t) (hu : P.underlying t = some (.array 64 e)) (he : P.underlying e = some (.int .u8)) (hc : P.cellsOf e = 1)
  (hn : D.handleName?.isNone = true) (hD : D = .agg (tzTab.map fun n => .lit (.int .u8 (n : Nat)))) (h : laidMetH P [("math/bits.deBruijn64tab", D)] w) : GL P w := by
 rw[MakeChecks.laidMetH_plain _ _ _ (by simp[hn])]at h
 obtain⟨ps,⟨g0,t0,cs0,f0,p0,q0,hg0,ht0,hv0,hd0,_,_⟩,_,_⟩:=h
 obtain rfl:=Option.some.inj (hg.symm.trans hg0)
 obtain rfl:=Option.some.inj (ht.symm.trans ht0)
 obtain⟨xs,m1,rfl,hx1,hlen,hn3,hel⟩:=DataW.trod_array hu hd0
 intro g' hg' j hj
 obtain rfl:=Option.some.inj (hg.symm.trans hg')
 have h0:=hel j hj
 rw[hc]at h0
 have hjx:j<xs.length:=by omega
 rw[List.getElem?_eq_getElem hjx]at h0
 obtain⟨k,e1,e2,_⟩:=DataW.trod_int he h0
 simp only[Prod.mk.injEq]at hx1
 have hx:=hx1.1
 rw[hD]at hx
 injection hx with hx
 have h2:(xs.map (·.1))[j]? =some (.lit (.int .u8 k)):=by
  rw[List.getElem?_map,List.getElem?_eq_getElem hjx,e2];rfl
 rw[<- hx]at h2
 have hjt:j<tzTab.length:=hj
 rw[List.getElem?_map,List.getElem?_eq_getElem hjt]at h2
 have hk:k=(tzTab[j]:Nat):=by simpa using h2.symm
 rw[World.var?_cell hg hv0 j,List.getD_eq_getElem?_getD,List.getElem?_eq_getElem hjt]
 have h3:=congrArg (·[0]?) e1
 simp[List.getElem?_take,List.getElem?_drop]at h3
 rw[h3,hk]
 rfl
theorem qJs{c:PV}(h:qrI (.sl 3 [.i .u8,.i .u8,.i .u8]) c): ∃k:List (Int×Int×Int),c= .sl true 3 (rows k3C k)/\(k.length:Int)<=9223372036854775807/\k3By k:=by
 obtain⟨rs,rfl,h1,h2⟩:=qzj h
 obtain⟨k,rfl,hk⟩:=qzk (f:=k3C) (Q:=fun e=>(0<=e.1/\e.1<=255)/\(0<=e.2.1/\e.2.1<=255)/\0<=e.2.2/\e.2.2<=255) (rs:=rs) fun r hr=>by
  obtain⟨c,q,rfl,hc,h3⟩:=qmq (h2 r hr)
  obtain⟨n,rfl,hn⟩:=qzh hc
  obtain⟨c,q,rfl,hc,h4⟩:=qmq h3
  obtain⟨m,rfl,hm⟩:=qzh hc
  obtain⟨c,q,rfl,hc,h5⟩:=qmq h4
  obtain⟨o,rfl,ho⟩:=qzh hc
  rw[qzf h5]
  exact⟨(n,m,o),rfl,hn,hm,ho⟩
 simp only[rows,List.length_map]at h1
 have:maxLen=9223372036854775807:=rfl
 exact⟨k,rfl,by omega,hk⟩
theorem qJw(x:RawG):Sub (.agg (qyE true x)) (.agg (qyE false x)):=Sub.aggL ⟨.refl _,.refl _,.refl _,.refl _,.slp _ _ _ _ (fun h=>by cases h),trivial⟩
theorem qJy {f : Nat} (hok : ∀ (x : RawG), x.By -> ∀ (l : List Int), (l.length : Int) <= 9223372036854775807 -> (∀ b ∈ l, 0 <= b /\ b <= 255) -> ∀ k : List (Int × Int × Int), (k.length : Int) <= 9223372036854775807 -> k3By k ->
   FnEq Tryd.prog f [.agg (qyE false x),.sl false 1 (qkb l),.sl false 3 (rows k3C k)] (.bool true))
  {a:List PV} {b c:PV} (ha:RowV qze a) (hb:qrI (.sl 1 [.i .u8]) b) (hc:qrI (.sl 3 [.i .u8,.i .u8,.i .u8]) c):FnEq Tryd.prog f [.agg a,b,c] (.bool true):=by
 obtain⟨x,hx,rfl⟩:=qzo ha
 obtain⟨l,rfl,h1,h2⟩:=qzl hb
 obtain⟨k,rfl,h3,h4⟩:=qJs hc
 exact FnOK.sub (hok x hx l h1 h2 k h3 h4) ⟨qJw x,.slp _ _ _ _ (fun h=>by cases h),.slp _ _ _ _ (fun h=>by cases h),trivial⟩
end Go.Proofs.YtecoaapkcnhlhaaDoor
namespace Go.Proofs.YtecoaapkcnhlhaaDoor
open Go Go.ChangeShapes Go.WideShapes Go.ChangeAt Go.RowKit Go.Vc
theorem qJA:qrH Tryd.prog 9 24 qze=true:=by kernel_rfl
theorem slU:Tryd.prog.underlying 22=some (.slice 5):=by kernel_rfl
theorem qJB:qrH Tryd.prog 9 22 [.sl 1 [.i .u8]]=true:=by kernel_rfl
theorem k3U:Tryd.prog.underlying 31=some (.slice 60):=by kernel_rfl
theorem qJC:qrH Tryd.prog 9 31 [.sl 3 [.i .u8,.i .u8,.i .u8]]=true:=by kernel_rfl
theorem Tryd.own:ownKnob Tryd.prog.godebug=none:=by kernel_rfl
theorem Tryd.laidOut:laidOutB Tryd.prog=true:=by kernel_rfl
theorem qJD:Tryd.prog.underlying 4=some .bool:=by kernel_rfl
theorem qJE:Tryd.f4.params= #[24,22,31]:=by kernel_rfl
def qJF : List (String × DataW Unit) := [("math/bits.deBruijn64tab", Rows.laid_math_bits_deBruijn64tab)]
theorem qJG(os:Os)(args:Array Value):laidMetH Tryd.prog qJF ((World.doorLaid Tryd.prog 14 os).forCall (fun _ _=>0) ⟨#[],args,[]⟩).memory:=
 laidMetH_of_parts3 (fuel:=8) (laidMet_of_run' 8 (by kernel_rfl) (by kernel_rfl)) (by kernel_rfl) (by kernel_rfl)
theorem qJH{w:World}(h:laidMetH Tryd.prog qJF w):GL Tryd.prog w:=
 qJr (g:=0) (t:=135) (e:=5) (D:=Rows.laid_math_bits_deBruijn64tab) (by kernel_rfl) (by kernel_rfl) (by kernel_rfl) (by kernel_rfl) (by kernel_rfl) (by kernel_rfl) (by rfl) h
set_option maxRecDepth 100000 in
theorem correct_lifted (os : Os) (started : os.Started) (H : Type) (enc : TypeId × Value -> H) :
  ReturnsInHanded {} Tryd.checked os 4 .any (fun w args=>(Rows.framesCorrectSpec.pre enc Tryd.prog Tryd.f4 [] false w args/\laidMetH Tryd.prog qJF w)/\sizedMet enc Tryd.prog Tryd.f4 (OpenSpec.ofChange Rows.framesCorrectSpec) false w args) (Rows.framesCorrectSpec.post enc Tryd.prog Tryd.f4 false true false false):=by
 refine returnsInHanded_of_change_and (C:=Tryd.checked) (X:=fun w _=>laidMetH Tryd.prog qJF w) (fun _ _ _ hh h=>h.of_heap hh) Tryd.own started (by kernel_rfl) Tryd.func4
  (ChangeSpec.witness_shaped (enc:=enc) (C:=Tryd.checked) (os:=os) (X:=fun w _=>laidMetH Tryd.prog qJF w) false (World.doorLaid Tryd.prog 14 os) #[.agg #[.int .u8 0,.int .u8 0,.int .u8 0,.int .u8 0,.slice none 0 0],.slice none 0 0,.slice none 0 0] 8 rfl (World.shaped_of_RefB (by kernel_rfl) (by kernel_rfl)) (by kernel_rfl) (by kernel_rfl) (by kernel_rfl) (qJG os _)) ?_
 intro W base args ds gs before hval0 hW _ _ hL _
 have hval: ∀(j:Nat) t v,Tryd.f4.params[j]? =some t->args[j]? =some v->Value.okWide Tryd.prog W .any base t v:=hval0
 have hW' :=hW
 obtain⟨p,q,hA0,hV,rfl,hfz,hnd⟩:=hW
 have hA:DataW.TrodAll enc Tryd.prog W 0 (fun _=>true) true Tryd.f4.params.toList args.toList ds p:=hA0
 rw[qJE]at hA hval
 obtain⟨v0,v1,v2,d0,d1,d2,p0,p1,p2,rfl,rfl,rfl,h0,h1,h2⟩:=trodAll_three hA
 obtain⟨rfl,rfl⟩:=trodVars_none hV
 obtain⟨a,ra,ta⟩:=qrR qJA (by kernel_rfl) (hval 0 _ v0 rfl rfl) h0
 obtain⟨b,rb,tb⟩:=argC qJB (okSl slU (hval 1 _ v1 rfl rfl)) h1
 obtain⟨c,rc,tc⟩:=argC qJC (okSl k3U (hval 2 _ v2 rfl rfl)) h2
 have hlt: ∀x∈p0++p1++p2,x.block<W.heap.size:=fun x hx=>hW'.lt x (by simpa using hx)
 refine(qrT (qJH hL) (qJy qJq ra rb rc) rfl fun j cc hj=> ?_).mono fun e W' ⟨he,hb⟩=> ?_
 ·match j with
  |0=>simp at hj;subst hj;exact ta
  |1=>simp at hj;subst hj;exact tb
  |2=>simp at hj;subst hj;exact tc
  |j+3=>simp at hj
 ·refine⟨_,he,_,_,_,[],_,[],hW',?_,trodAll_mk3 (Below.trod Tryd.laidOut (by kernel_rfl) (of_decide_eq_true (by kernel_rfl)) h0 hb fun x hx=>hlt x (by simp[hx])) (Below.trod Tryd.laidOut (by kernel_rfl) (of_decide_eq_true (by kernel_rfl)) h1 hb fun x hx=>hlt x (by simp[hx])) (Below.trod Tryd.laidOut (by kernel_rfl) (of_decide_eq_true (by kernel_rfl)) h2 hb fun x hx=>hlt x (by simp[hx])),rfl,hb.frame _,fun h=>by cases h⟩
  exact trodAll_mk1 (shut_bool qJD true)
theorem qJJ:Rows.FramesCorrectSaid:=
 OpenClaim.holds_of_wide 4 Tryd.f4 rfl rfl rfl rfl rfl rfl rfl ⟨rfl,rfl,rfl,rfl,rfl⟩ rfl rfl rfl rfl rfl (by kernel_rfl) Tryd.func4 (by kernel_rfl)
  (of_decide_eq_true (by kernel_rfl)) (by unfold Func.isWrapper;first|(rw[if_pos (by decide+kernel)];kernel_rfl)|(rw[if_neg (by decide+kernel)];exact⟨rfl,rfl⟩))
  (fun os started H enc _=>correct_lifted os started H enc)
theorem correct_holds:Rows.FramesCorrectCardSaid:=
 Claim7.holds_tied_plain_at .later [] [.data] true (true, "6afa5beab4d2fefd3b52fb88c1a8a89648d53ce22376a0ca7c24627d0a83933b") false
  qJJ (fun _ h=>by cases h) (by kernel_rfl) (fun _ h=>by cases h) framesCorrect_row_tie rfl ⟨rfl,rfl⟩ (by kernel_rfl) rfl
  (fun f fn hf hfn=>by
   obtain rfl : f = 4 := Option.some.inj ((show Tryd.prog.funcNamed "wireloom/wireloomlaw38.FramesCorrect" = some 4 by kernel_rfl).symm.trans hf) |>.symm
   obtain rfl:fn=Tryd.f4:=(Option.some.inj (Tryd.func4.symm.trans hfn)).symm
   exact⟨by kernel_rfl,fun j t ht=>by
    rw[qJE]at ht
    have hm:t∈[24,22,31]:=by simpa using Array.mem_of_getElem? ht
    have hall:([24,22,31].all fun u=> !Tryd.prog.wantsStandIn u)=true:=by kernel_rfl
    exact(show Tryd.prog.wantsStandIn t=false by simpa using List.all_eq_true.1 hall t hm)⟩)
  (by kernel_rfl)
end Go.Proofs.YtecoaapkcnhlhaaDoor
