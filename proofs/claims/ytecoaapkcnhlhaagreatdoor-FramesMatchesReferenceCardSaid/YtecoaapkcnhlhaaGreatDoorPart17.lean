/- TxtKJ KJa KJ KL KN KH TxtKR KR TxtKQ: lemmas -/
import Derived.Test.YtecoaapkcnhlhaaGreatDoorPart05
import Derived.Test.YtecoaapkcnhlhaaGreatDoorChecked
import Derived.Test.YtecoaapkcnhlhaaGreatDoorPart16
import Derived.Test.YtecoaapkcnhlhaaGreatDoorPart12
import Derived.Test.YtecoaapkcnhlhaaGreatDoorPart15
import Derived.Test.YtecoaapkcnhlhaaGreatDoorPart09
set_option linter.unusedSimpArgs false
set_option linter.unusedVariables false
open List renaming getD_eq_getElem?_getD->zK,getElem?_eq_getElem->zL,mem_of_getElem? ->zP,length_append->zU,length_cons->zV,map_cons->zW,mem_cons_self->zX,take_of_length_le->zY,any_eq_false->yD,all_eq_true->yE,length_set->yF,length_map->yG,map_append->yH
open Int renaming reduceToNat->zH,reduceNeg->zJ
open Nat renaming reduceEqDiff->zA,reduceAdd->zB,reduceSub->zC,reduceMul->zD,reduceBEq->zE,reduceLT->zF,reduceLeDiff->zG
namespace Go.Proofs.YtecoaapkcnhlhaaGreatDoor.Txt
open Go Go.Vc
set_option maxRecDepth 100000
def ac30_300:AC:=
 (.seq (.reg [300,19,300] [
 xT 301 300,aO 302 (.alc [.nil,.nil,.nil,.nil])])
 (.seq (.reg [300,19,301,302] [
 fA 304 0 301,lF 305 1 304,fA 306 1 301,lF 307 1 306,aO 308 (.ari .mul true .i64 (.t 305) (.t 307)),mT 303 308])
 (.seq (.drw [300,19,301,302,303] [
 eU 309 (.ld true 5 (.t 301)) [] [313,315,317],eU 310 (.cal 41 [(.t 309)]) [] [313,315,317],eU 311 (.mks 1 3 8 [zI] (.t 310) (.t 310)) [311] [313,315,317],eU 312 (.mv (.t 303)) [] [311,315,317],eU 313 (.mks 1 3 8 [zI] (.t 312) (.t 312)) [313] [311,315,317],eU 314 (.mv (.t 303)) [] [311,313,317],eU 315 (.mks 1 3 8 [zI] (.t 314) (.t 314)) [315] [311,313,317],eU 316 (.mv (.t 303)) [] [311,313,315],eU 317 (.mks 1 3 8 [zI] (.t 316) (.t 316)) [317] [311,313,315],eF 318 (.bld [.nil,.nil,.nil,.nil] [(0,1,(.t 311)),(1,1,(.t 313)),(2,1,(.t 315)),(3,1,(.t 317))]),⟨sT 4 302 318,[],[],false⟩])
 .ret)))
def rv30_300:List RV:=[.cell 302 true 4]
theorem ok30_300:qh6 Tryz.prog 300 ac30_300 rv30_300 Tryz.f30=true:=by kernel_rfl

def xs19_22:List XO:=[⟨0,[],mT 88 8⟩,⟨1,[],mT 89 9⟩,⟨2,[],mT 90 8⟩,⟨3,[],mT 91 9⟩,⟨4,[2,3],iX 92 1 90 91⟩,⟨5,[4],lF 93 1 92⟩,⟨6,[],fA 94 0 11⟩,⟨7,[6],lF 95 1 94⟩,⟨8,[],mT 96 12⟩,⟨9,[7,8],aO 97 (.cal 46 [(.t 95),(.t 96)])⟩,⟨10,[9],aO 98 (.bsl 1 4 [.sc (.bool false)] 1 [(0,(.t 97))])⟩,⟨11,[5,9,10],aO 99 (.app 1 4 1 (.t 93) (.t 98))⟩,⟨12,[0,1,2,3,4,5,6,7,8,9,10,11],iX 100 1 88 89⟩,⟨13,[0,1,2,3,4,5,6,7,8,9,10,11,12],sT 1 100 99⟩]
theorem xs19_22_all{p:XO->Prop} :(∀x∈xs19_22,p x) ↔ p ⟨0,[],mT 88 8⟩/\p ⟨1,[],mT 89 9⟩/\p ⟨2,[],mT 90 8⟩/\p ⟨3,[],mT 91 9⟩/\p ⟨4,[2,3],iX 92 1 90 91⟩/\p ⟨5,[4],lF 93 1 92⟩/\p ⟨6,[],fA 94 0 11⟩/\p ⟨7,[6],lF 95 1 94⟩/\p ⟨8,[],mT 96 12⟩/\p ⟨9,[7,8],aO 97 (.cal 46 [(.t 95),(.t 96)])⟩/\p ⟨10,[9],aO 98 (.bsl 1 4 [.sc (.bool false)] 1 [(0,(.t 97))])⟩/\p ⟨11,[5,9,10],aO 99 (.app 1 4 1 (.t 93) (.t 98))⟩/\p ⟨12,[0,1,2,3,4,5,6,7,8,9,10,11],iX 100 1 88 89⟩/\p ⟨13,[0,1,2,3,4,5,6,7,8,9,10,11,12],sT 1 100 99⟩:=by simp only[xs19_22,List.forall_mem_cons,List.not_mem_nil,false_implies,implies_true,and_true]
def ac19_r19:AC:=
 (.seq (.reg [0,212,1,2,4,5,6,7,8,9,10,11] [
 mK 12 0])
 (.block 4
 (.lps [0,212,1,2,4,5,6,7,8,9,10,11,12]
 (.seq (.seq (.reg [0,212,1,2,4,5,6,7,8,9,10,11,12] [
 mT 84 12,aO 85 (.cmp .lss .i64 (.t 84) (kI 57))])
 (.cond (.t 85)
 .skip
 (.exit 4)))
 (.seq (.block 5
 (.dra [0,212,1,2,4,5,6,7,8,9,10,11,12] xs19_22))
 (.reg [0,212,1,2,4,5,6,7,8,9,10,11,12] [
 mT 86 12,uF 87 86 1,mT 12 87]))))))
def ac19_r23:AC:=
 (.seq (.reg [0,212,1,2,4,5,6,7,8,9] [
 mT 101 6,mT 102 9,iX 103 1 101 102,lF 104 1 103,mT 13 104])
 (.block 6
 (.lps [0,212,1,2,4,5,6,7,8,9,13]
 (.seq (.seq (.reg [0,212,1,2,4,5,6,7,8,9,13] [
 mT 105 13,mT 106 8,mT 107 9,iX 108 1 106 107,lF 109 1 108,nT 110 109,lS 111 105 110])
 (.cond (.t 111)
 .skip
 (.exit 6)))
 (.seq (.block 7
 (.seq (.reg [0,212,1,2,4,5,6,7,8,9,13] [
 mT 114 8,mT 115 9,iX 116 1 114 115,lF 117 1 116,mT 118 13,iX 119 1 117 118,lF 120 1 119])
 (.cond (.t 120)
 (.seq (.reg [0,212,4] [
 aO 121 (.bld [.nil,.nil,.nil,.nil,zI,zI] [(5,1,(kI 380))]),sT 6 4 121])
 .ret)
 .skip)))
 (.reg [0,212,1,2,4,5,6,7,8,9,13] [
 mT 112 13,uF 113 112 1,mT 13 113]))))))
def ac19_r12:AC:=
 (.seq (.seq (.reg [0,212,1,2,4,5,6,7,8,9] [
 mK 10 0])
 (.block 2
 (.lps [0,212,1,2,4,5,6,7,8,9,10]
 (.seq (.seq (.reg [0,212,1,2,4,5,6,7,8,9,10] [
 mT 55 10,mT 56 1,mT 57 9,iX 58 1 56 57,fA 59 0 58,lF 60 1 59,nT 61 60,lS 62 55 61])
 (.cond (.t 62)
 .skip
 (.exit 2)))
 (.seq (.block 3
 (.seq (.reg [0,212,1,2,4,5,6,7,8,9,10] [
 mT 65 1,mT 66 9,iX 67 1 65 66,fA 68 0 67,lF 69 1 68,mT 70 10,iX 71 1 69 70,lF 72 1 71,aO 73 (.cal 45 [(.t 72)]),aO 11 (.alc [.sc (.int .u64 0),zI,zI]),sT 3 11 73])
 (.seq (.seq (.reg [0,212,1,2,4,5,6,7,8,9,10,11] [
 fA 74 2 11,lF 75 1 74,aO 76 (.cmp .neq .i64 (.t 75) (kI 0))])
 (.cond (.t 76)
 (.seq (.reg [0,212,4] [
 aO 77 (.bld [.nil,.nil,.nil,.nil,zI,zI] [(5,1,(kI 380))]),sT 6 4 77])
 .ret)
 .skip))
 (.seq (.reg [0,212,1,2,4,5,6,7,8,9,10,11] [
 fA 78 4 7,lF 79 1 78,fA 80 1 11,lF 81 1 80,aO 82 (.ari .add true .i64 (.t 79) (.t 81)),fA 83 4 7,sT 1 83 82])
 ac19_r19))))
 (.reg [0,212,1,2,4,5,6,7,8,9,10] [
 mT 63 10,uF 64 63 1,mT 10 64]))))))
 ac19_r23)
def ac19_r33:AC:=
 (.seq (.reg [0,212,2,4,5,7,8,14,15,16] [
 mK 17 0])
 (.seq (.seq (.reg [0,212,2,4,5,7,8,14,15,16,17] [
 mK 18 0])
 (.block 10
 (.lps [0,212,2,4,5,7,8,14,15,16,17,18]
 (.seq (.seq (.reg [0,212,2,4,5,7,8,14,15,16,17,18] [
 mT 135 18,fA 136 3 16,lF 137 1 136,lS 138 135 137])
 (.cond (.t 138)
 .skip
 (.exit 10)))
 (.seq (.block 11
 (.seq (.drw [0,212,2,4,5,7,8,14,15,16,17,18] [
 eM 141 8,eA 142 0 16,eL 143 1 142,eI 144 1 141 143,eL 145 1 144,eM 146 14,eA 147 0 16,eL 148 1 147,eI 149 1 146 148,eL 150 1 149,eM 151 18,eT 152 (.ari .add true .i64 (.t 150) (.t 151)),eF 153 (.ixs 1 (.t 145) (.t 152)),eF 154 (.ld false 1 (.t 153))])
 (.cond (.t 154)
 (.reg [0,212,2,4,5,7,8,14,15,16,17,18] [
 mT 155 17,mT 156 18,aO 157 (.cnv true .u64 (.t 156)),aO 158 (.shf .shl .i64 (kI 1) (.t 157)),aO 159 (.ari .add true .i64 (.t 155) (.t 158)),mT 17 159])
 .skip)))
 (.reg [0,212,2,4,5,7,8,14,15,16,17,18] [
 mT 139 18,uF 140 139 1,mT 18 140]))))))
 (.seq (.drw [0,212,2,4,5,7,8,14,15,16,17] [
 eM 160 14,eA 161 0 16,eL 162 1 161,eI 163 1 160 162,eL 164 1 163,eA 165 3 16,eL 166 1 165,eF 167 (.ari .add true .i64 (.t 164) (.t 166)),eF 168 (.ixs 1 (.t 160) (.t 162)),⟨sT 1 168 167,[],[],false⟩])
 (.seq (.reg [0,212,2,4,5,7,8,14,15,16,17] [
 fA 169 1 16,lF 170 1 169])
 (.block 12
 (.seq (.reg [0,212,2,4,5,7,8,14,15,16,17,170] [
 eK 179 170 0,mT 178 179])
 (.cond (.t 178)
 (.reg [0,212,2,4,5,7,8,14,15,16,17] [
 fA 180 0 7,fA 181 0 180,lF 182 1 181,fA 183 2 16,lF 184 1 183,mT 185 17,iX 186 1 182 184,sT 1 186 185])
 (.seq (.reg [0,212,2,4,5,7,8,14,15,16,17,170] [
 eK 188 170 1,mT 187 188])
 (.cond (.t 187)
 (.reg [0,212,2,4,5,7,8,14,15,16,17] [
 fA 189 0 7,fA 190 1 189,lF 191 1 190,fA 192 2 16,lF 193 1 192,mT 194 17,iX 195 1 191 193,sT 1 195 194])
 (.seq (.reg [0,212,2,4,5,7,8,14,15,16,17,170] [
 eK 197 170 2,mT 196 197])
 (.cond (.t 196)
 (.reg [0,212,2,4,5,7,8,14,15,16,17] [
 fA 198 0 7,fA 199 2 198,lF 200 1 199,fA 201 2 16,lF 202 1 201,mT 203 17,iX 204 1 200 202,sT 1 204 203])
 (.reg [0,212,2,4,5,7,8,14,15,16,17] [
 fA 171 0 7,fA 172 3 171,lF 173 1 172,fA 174 2 16,lF 175 1 174,mT 176 17,iX 177 1 173 175,sT 1 177 176]))))))))))))
def ac19_r28:AC:=
 (.seq (.reg [0,212,1,2,4,5,7,8] [
 mT 122 1,nT 123 122,aO 124 (.mks 1 3 8 [zI] (.t 123) (.t 123)),mT 14 124])
 (.seq (.seq (.reg [0,212,2,4,5,7,8,14] [
 mK 15 0])
 (.block 8
 (.lps [0,212,2,4,5,7,8,14,15]
 (.seq (.seq (.reg [0,212,2,4,5,7,8,14,15] [
 mT 125 15,mT 126 5,nT 127 126,lS 128 125 127])
 (.cond (.t 128)
 .skip
 (.exit 8)))
 (.seq (.block 9
 (.seq (.reg [0,212,2,4,5,7,8,14,15] [
 mT 131 5,mT 132 15,iX 133 4 131 132,uE 134 4 133,aO 16 (.alc [zI,zI,zI,zI]),sT 4 16 134])
 ac19_r33))
 (.reg [0,212,2,4,5,7,8,14,15] [
 mT 129 15,uF 130 129 1,mT 15 130]))))))
 (.seq (.seq (.reg [0,212,2,4,7] [
 uE 205 5 2,fA 206 0 7,uE 207 4 206,aO 208 (.cal 33 [(.t 205),(.t 207)]),aO 209 (.cmp .neq .i64 (.t 208) (kI 0))])
 (.cond (.t 209)
 (.seq (.reg [0,212,4] [
 aO 210 (.bld [.nil,.nil,.nil,.nil,zI,zI] [(5,1,(kI 380))]),sT 6 4 210])
 .ret)
 .skip))
 (.seq (.reg [0,212,4,7] [
 uE 211 6 7,sT 6 4 211])
 .ret))))
def ac19:AC:=
 (.seq (.reg [0,212,0,1] [
 xT 2 0,aO 4 (.alc [.nil,.nil,.nil,.nil,zI,zI])])
 (.seq (.reg [0,212,1,2,4] [
 uE 19 5 2,aO 20 (.cal 34 [(.t 19)]),mT 5 20])
 (.seq (.reg [0,212,1,2,4,5] [
 uE 21 5 2,mT 22 5,aO 23 (.clm 38 [(.t 21),(.t 22)]),mT 6 23])
 (.seq (.seq (.reg [0,212,1,2,4,5,6] [
 mT 24 1,nT 25 24,mT 26 6,nT 27 26,aO 28 (.cmp .neq .i64 (.t 25) (.t 27))])
 (.cond (.t 28)
 (.seq (.reg [0,212,4] [
 aO 29 (.bld [.nil,.nil,.nil,.nil,zI,zI] [(5,1,(kI 380))]),sT 6 4 29])
 .ret)
 .skip))
 (.seq (.reg [0,212,1,2,4,5,6] [
 uE 30 5 2,aO 31 (.clm 30 [(.t 30)]),aO 32 (.bld [.nil,.nil,.nil,.nil,zI,zI] [(0,4,(.t 31))]),aO 7 (.alc [.nil,.nil,.nil,.nil,zI,zI]),sT 6 7 32])
 (.seq (.reg [0,212,1,2,4,5,6,7] [
 mT 33 1,nT 34 33,aO 35 (.xo (.mkx 24 (.nil)) [(.t 34)]),mT 8 35])
 (.seq (.seq (.reg [0,212,1,2,4,5,6,7,8] [
 mK 9 0])
 (.block 0
 (.lps [0,212,1,2,4,5,6,7,8,9]
 (.seq (.seq (.reg [0,212,1,2,4,5,6,7,8,9] [
 mT 36 9,mT 37 1,nT 38 37,lS 39 36 38])
 (.cond (.t 39)
 .skip
 (.exit 0)))
 (.seq (.block 1
 (.seq (.seq (.drw [0,212,1,2,4,5,6,7,8,9] [
 eM 42 1,eM 43 9,eI 44 1 42 43,eA 45 0 44,eL 46 1 45,eT 47 (.len (.t 46)),eM 48 6,eM 49 9,eI 50 1 48 49,eL 51 1 50,eT 52 (.cal 39 [(.t 51)]),eF 53 (.cmp .neq .i64 (.t 47) (.t 52))])
 (.cond (.t 53)
 (.seq (.reg [0,212,4] [
 aO 54 (.bld [.nil,.nil,.nil,.nil,zI,zI] [(5,1,(kI 380))]),sT 6 4 54])
 .ret)
 .skip))
 ac19_r12))
 (.reg [0,212,1,2,4,5,6,7,8,9] [
 mT 40 9,uF 41 40 1,mT 9 41]))))))
 ac19_r28)))))))
def rv19:List RV:=[.cell 4 true 6]
theorem ok19:fnOk Tryz.prog ac19 rv19 Tryz.f19=true:=by kernel_rfl
end Go.Proofs.YtecoaapkcnhlhaaGreatDoor.Txt
namespace Go.Proofs.YtecoaapkcnhlhaaGreatDoor
open Go Go.Vc Txt
def qLa(d k:Nat)(n xi len:Nat)(cell cell' :PV)(dn:List Nat):Nat->PV
 |0=> .bv 35 1 n
 |1=> .int xi
 |2=> .bv 35 1 n
 |3=> .int xi
 |4=> .ptr 35 xi
 |5=>if dn.contains 11=true then cell' else cell
 |6=> .ptr 11 0
 |7=> .sc (.int .u64 d)
 |8=> .int k
 |9=> .bool (d.testBit k)
 |10=> .view 98 0 1
 |11=> .view 99 0 (len+1)
 |12=> .ptr 35 xi
 |_=> .bot
def qLb(b b7 b9:List (Nat×List PV))(a a6 a7:List (Nat×Arr))(dn:List Nat):List (Nat×List PV)×List (Nat×Arr)×List (Nat×Mp):=
 (if dn.contains 13=true then b9 else if dn.contains 11=true then b7 else b,if dn.contains 11=true then a7 else if dn.contains 10=true then a6 else a,[])
def qLc(a:List (Nat×Arr))(W:List (List PV))(cell cell' :PV):Prop:=(cell= .nil/\W=[]/\cell' = .nil)\/(cell= .view 99 0 W.length/\lk a 99=some ⟨1,4,W⟩/\cell' = .bot)
set_option maxHeartbeats 4000000 in
theorem qLd {s0 : List (Nat × PV)} {b b7 : List (Nat × List PV)} {a : List (Nat × Arr)} (n xi : Nat) (W : List (List PV)) (cell cell' : PV) (C C7 : List PV) (d k : Nat) (hd : d < 2 ^ 64) (hkk : k < 64) (z1 z2 : PV) (K : St -> Prop)
  (hP:getL s0 8= .bv 35 1 n) (hX:getL s0 9= .int xi) (hx:xi<n) (hW:W.length<100000000) (hD:getL s0 11= .ptr 11 0) (hV:getL s0 12= .int k) (hd1:lk b 11=some [.sc (.int .u64 d),z1,z2]) (hd2:lk b7 11=some [.sc (.int .u64 d),z1,z2])
  (hc:lk b 35=some C) (hc7:lk b7 35=some C7) (hC:C.length=n) (hC7:C7.length=n) (hcell:C.getD xi .bot=cell)
  (k6:qiF nul (isId 98) b=b) (k7:qiF nul (isId 99) b=b7) (f6:qiE nul (isId 98) s0=s0) (f7:qiE nul (isId 99) s0=s0)
  (h:qLc a W cell cell')
  (hK:K ⟨slA (qLa d k n xi W.length cell cell' [11]) xs19_22 s0,up b7 35 (C7.set xi (.view 99 0 (W.length+1))),up (up a 98 ⟨1,4,[[.sc (.bool (d.testBit k))]]⟩) 99 ⟨1,4,W++[[.sc (.bool (d.testBit k))]]⟩,[]⟩):
  allK (Env.of Tryz.prog) xs19_22 xs19_22.length [] ⟨s0,b,a,[]⟩ K:=by
 have hlk: ∀(l:List (Nat×Arr)) (A:Arr),lk (up l 98 A) 99=lk l 99:=fun l A=>by rw[qa2,if_neg (by decide)]
 have hlk6: ∀(l:List (Nat×Arr)) (A:Arr),lk (up l 98 A) 98=some A:=fun l A=>by rw[qa2,if_pos rfl]
 refine qFn (ops:=xs19_22) (qLa d k n xi W.length cell cell') (qLb b b7 (up b7 35 (C7.set xi (.view 99 0 (W.length+1)))) a (up a 98 ⟨1,4,[[.sc (.bool (d.testBit k))]]⟩) (up (up a 98 ⟨1,4,[[.sc (.bool (d.testBit k))]]⟩) 99 ⟨1,4,W++[[.sc (.bool (d.testBit k))]]⟩)) rfl rfl ?_ ?_ rfl
 ·rw[xs19_22_all]
  refine⟨?_,?_,?_,?_,?_,?_,?_,?_,?_,?_,?_,?_,?_,?_⟩
  ·intro dn S hr hc' hS L K hK
   have g0:getL S 8= .bv 35 1 n:=(L 8 trivial).trans hP
   have e:qLa d k n xi W.length cell cell' (0::dn)=qLa d k n xi W.length cell cell' dn:=rfl
   rw[e,<- hS]at hK
   simp only[g0,push_cast,reduceIte,zA,zB,zC,zD,zE,zF,zG,reduceCtorEq,zH,zJ,cNI]
   exact hK
  ·intro dn S hr hc' hS L K hK
   have g0:getL S 9= .int xi:=(L 9 trivial).trans hX
   have e:qLa d k n xi W.length cell cell' (1::dn)=qLa d k n xi W.length cell cell' dn:=rfl
   rw[e,<- hS]at hK
   simp only[g0,push_cast,reduceIte,zA,zB,zC,zD,zE,zF,zG,reduceCtorEq,zH,zJ,cNI]
   exact hK
  ·intro dn S hr hc' hS L K hK
   have g0:getL S 8= .bv 35 1 n:=(L 8 trivial).trans hP
   have e:qLa d k n xi W.length cell cell' (2::dn)=qLa d k n xi W.length cell cell' dn:=rfl
   rw[e,<- hS]at hK
   simp only[g0,push_cast,reduceIte,zA,zB,zC,zD,zE,zF,zG,reduceCtorEq,zH,zJ,cNI]
   exact hK
  ·intro dn S hr hc' hS L K hK
   have g0:getL S 9= .int xi:=(L 9 trivial).trans hX
   have e:qLa d k n xi W.length cell cell' (3::dn)=qLa d k n xi W.length cell cell' dn:=rfl
   rw[e,<- hS]at hK
   simp only[g0,push_cast,reduceIte,zA,zB,zC,zD,zE,zF,zG,reduceCtorEq,zH,zJ,cNI]
   exact hK
  ·intro dn S hr hc' hS L K hK
   have g1:getL S 90= .bv 35 1 n:=L 90 (qAR hr (j:=2) (by decide))
   have g2:getL S 91= .int xi:=L 91 (qAR hr (j:=3) (by decide))
   have e:qLa d k n xi W.length cell cell' (4::dn)=qLa d k n xi W.length cell cell' dn:=rfl
   rw[e,<- hS]at hK
   simp only[g1,g2,Nat.mul_one,push_cast,reduceIte,zA,zB,zC,zD,zE,zF,zG,reduceCtorEq,zH,zJ,cNI]
   exact⟨⟨oM,oM⟩,hK⟩
  ·intro dn S hr hc' hS L K hK
   have g1:getL S 92= .ptr 35 xi:=L 92 (qAR hr (j:=4) (by decide))
   have h7:dn.contains 11=false:=qAT hc' hr (zP (i:=11) rfl) (by decide)
   have h9:dn.contains 13=false:=qAT hc' hr (zP (i:=13) rfl) (by decide)
   have e:qLa d k n xi W.length cell cell' (5::dn)=qLa d k n xi W.length cell cell' dn:=rfl
   have em: ∀q1 q2 q3 q4 q5 q6,qLb q1 q2 q3 q4 q5 q6 (5::dn)=qLb q1 q2 q3 q4 q5 q6 dn:=fun _ _ _ _ _ _=>rfl
   rw[em,e,<- hS]at hK
   have e5:qLa d k n xi W.length cell cell' dn 5=cell:=by
    show(if dn.contains 11=true then cell' else cell)=cell
    rw[h7];rfl
   have hK:K ⟨up S 93 (qLa d k n xi W.length cell cell' dn 5),_,_,_⟩:=hK
   rw[e5]at hK
   revert hK
   unfold qLb
   rw[h9,h7]
   intro hK
   simp only[g1,hc,qFh C,hcell,hC,push_cast,reduceIte,zA,zB,zC,zD,zE,zF,zG,reduceCtorEq,zH,zJ,cNI]at hK ⊢
   exact⟨oM,hK⟩
  ·intro dn S hr hc' hS L K hK
   have g0:getL S 11= .ptr 11 0:=(L 11 trivial).trans hD
   have e:qLa d k n xi W.length cell cell' (6::dn)=qLa d k n xi W.length cell cell' dn:=rfl
   rw[e,<- hS]at hK
   simp only[g0,push_cast,reduceIte,zA,zB,zC,zD,zE,zF,zG,reduceCtorEq,zH,zJ,cNI]
   exact hK
  ·intro dn S hr hc' hS L K hK
   have h9:dn.contains 13=false:=qAT hc' hr (zP (i:=13) rfl) (by decide)
   have g0:getL S 94= .ptr 11 0:=L 94 (qAR hr (j:=6) (by decide))
   have e:qLa d k n xi W.length cell cell' (7::dn)=qLa d k n xi W.length cell cell' dn:=rfl
   have em: ∀q1 q2 q3 q4 q5 q6,qLb q1 q2 q3 q4 q5 q6 (7::dn)=qLb q1 q2 q3 q4 q5 q6 dn:=fun _ _ _ _ _ _=>rfl
   rw[em,e,<- hS]at hK
   revert hK
   unfold qLb
   rw[h9]
   intro hK
   cases h7:dn.contains 11<;>rw[h7]at hK<;>simp only[g0,hd1,hd2,push_cast,reduceIte,zA,zB,zC,zD,zE,zF,zG,reduceCtorEq,zH,zJ,cNI]at hK ⊢ <;>exact hK
  ·intro dn S hr hc' hS L K hK
   have g0:getL S 12= .int k:=(L 12 trivial).trans hV
   have e:qLa d k n xi W.length cell cell' (8::dn)=qLa d k n xi W.length cell cell' dn:=rfl
   rw[e,<- hS]at hK
   simp only[g0,push_cast,reduceIte,zA,zB,zC,zD,zE,zF,zG,reduceCtorEq,zH,zJ,cNI]
   exact hK
  ·intro dn S hr hc' hS L K hK
   have g0:getL S 95= .sc (.int .u64 d):=L 95 (qAR hr (j:=7) (by decide))
   have g1:getL S 96= .int k:=L 96 (qAR hr (j:=8) (by decide))
   have e:qLa d k n xi W.length cell cell' (9::dn)=qLa d k n xi W.length cell cell' dn:=rfl
   have em: ∀q1 q2 q3 q4 q5 q6,qLb q1 q2 q3 q4 q5 q6 (9::dn)=qLb q1 q2 q3 q4 q5 q6 dn:=fun _ _ _ _ _ _=>rfl
   rw[em,e,<- hS]at hK
   simp only[g0,g1,push_cast,reduceIte,zA,zB,zC,zD,zE,zF,zG,reduceCtorEq,zH,zJ,cNI]
   refine qoM (qKn d k hd hkk) ?_
   refine sB ?_
   exact hK
  ·intro dn S hr hc' hS L K hK
   have h7:dn.contains 11=false:=qAT hc' hr (zP (i:=11) rfl) (by decide)
   have h9:dn.contains 13=false:=qAT hc' hr (zP (i:=13) rfl) (by decide)
   have h6:dn.contains 10=false:=qAS hr
   have e:qLa d k n xi W.length cell cell' (10::dn)=qLa d k n xi W.length cell cell' dn:=rfl
   have em: ∀q1 q2 q3 q4 q5 q6,qLb q1 q2 q3 q4 q5 q6 (10::dn)=(q1,q5,[]):=fun q1 q2 q3 q4 q5 q6=>by
    show(if dn.contains 13=true then _ else if dn.contains 11=true then _ else _,if dn.contains 11=true then _ else if true=true then _ else _,_)=_
    rw[h9,h7];rfl
   have em0: ∀q1 q2 q3 q4 q5 q6,qLb q1 q2 q3 q4 q5 q6 dn=(q1,q4,[]):=fun q1 q2 q3 q4 q5 q6=>by
    unfold qLb
    rw[h9,h7,h6];rfl
   rw[em,e,<- hS]at hK
   rw[em0]
   have hkS:qiE nul (isId 98) S=S:=by
    rw[hS,qFk,f6]
    apply qFl
    intro i hi
    rcases i with _|_|_|_|_|_|_|_|_|_|_|_|_|_|i<;>try rfl
    ·show PV.killV nul (isId 98) (if dn.contains 11=true then cell' else cell)=(if dn.contains 11=true then cell' else cell)
     rw[h7]
     rcases h with⟨h1,-,-⟩|⟨h1,-,-⟩<;>rw[h1]<;>rfl
    ·rw[h6]at hi;cases hi
   have g1:getL S 97= .bool (d.testBit k):=L 97 (qAR hr (j:=9) (by decide))
   simp only[g1,hkS,k6,rep1,List.set_cons_zero,zV,List.length_nil,push_cast,reduceIte,zA,zB,zC,zD,zE,zF,zG,reduceCtorEq,zH,zJ,cNI]at hK ⊢
   first|exact hK|exact⟨by decide,hK⟩
  ·intro dn S hr hc' hS L K hK
   have h9:dn.contains 13=false:=qAT hc' hr (zP (i:=13) rfl) (by decide)
   have h7:dn.contains 11=false:=qAS hr
   have h6:dn.contains 10=true:=qAR hr (j:=10) (by decide)
   have g5:getL S 93=cell:=by
    rw[L 93 (qAR hr (j:=5) (by decide))]
    show(if dn.contains 11=true then cell' else cell)=cell
    rw[h7];rfl
   have g6:getL S 98= .view 98 0 1:=L 98 (qAR hr (j:=10) (by decide))
   have em: ∀q1 q2 q3 q4 q5 q6,qLb q1 q2 q3 q4 q5 q6 (11::dn)=(q2,q6,[]):=fun q1 q2 q3 q4 q5 q6=>by
    show(if dn.contains 13=true then _ else if true=true then _ else _,if true=true then _ else if dn.contains 10=true then _ else _,_)=_
    rw[h9];rfl
   have em0: ∀q1 q2 q3 q4 q5 q6,qLb q1 q2 q3 q4 q5 q6 dn=(q1,q5,[]):=fun q1 q2 q3 q4 q5 q6=>by
    unfold qLb
    rw[h9,h7,h6];rfl
   rw[em]at hK
   rw[em0]
   have hkS:qiE nul (isId 99) S=slD (qLa d k n xi W.length cell cell' (11::dn)) dn xs19_22 s0:=by
    rw[hS,qFk,f7]
    apply qFl
    intro i hi
    rcases i with _|_|_|_|_|_|_|_|_|_|_|_|_|_|i<;>try rfl
    ·show PV.killV nul (isId 99) (if dn.contains 11=true then cell' else cell)=cell'
     rw[h7]
     rcases h with⟨h1,-,h3⟩|⟨h1,-,h3⟩<;>rw[h1,h3]<;>rfl
    ·rw[h7]at hi;cases hi
   have hK:K ⟨up (slD (qLa d k n xi W.length cell cell' (11::dn)) dn xs19_22 s0) 99 (.view 99 0 (W.length+1)),_,_,_⟩:=hK
   rw[<- hkS]at hK
   rcases h with⟨h1,h2,h3⟩|⟨h1,h2,h3⟩
   ·subst h2
    rw[h1]at g5
    simp only[g5,g6,hlk6,k7,List.take_succ_cons,List.take_zero,zV,List.length_nil,List.nil_append,push_cast,reduceIte,zA,zB,zC,zD,zE,zF,zG,reduceCtorEq,zH,zJ,cNI]at hK ⊢
    first|exact hK|exact⟨by decide,hK⟩
   ·rw[h1]at g5
    simp only[g5,g6,hlk,hlk6,h2,k7,List.take_succ_cons,List.take_zero,zV,List.length_nil,push_cast,reduceIte,zA,zB,zC,zD,zE,zF,zG,reduceCtorEq,zH,zJ,cNI]at hK ⊢
    exact⟨⟨oM,oM⟩,hK⟩
  ·intro dn S hr hc' hS L K hK
   have h9:dn.contains 13=false:=qAT hc' hr (zP (i:=13) rfl) (by decide)
   have g1:getL S 88= .bv 35 1 n:=L 88 (qAR hr (j:=0) (by decide))
   have g2:getL S 89= .int xi:=L 89 (qAR hr (j:=1) (by decide))
   have e:qLa d k n xi W.length cell cell' (12::dn)=qLa d k n xi W.length cell cell' dn:=rfl
   rw[e,<- hS]at hK
   simp only[g1,g2,Nat.mul_one,push_cast,reduceIte,zA,zB,zC,zD,zE,zF,zG,reduceCtorEq,zH,zJ,cNI]
   exact⟨⟨oM,oM⟩,hK⟩
  ·intro dn S hr hc' hS L K hK
   have h9:dn.contains 13=false:=qAS hr
   have h7:dn.contains 11=true:=qAR hr (j:=11) (by decide)
   have g1:getL S 100= .ptr 35 xi:=L 100 (qAR hr (j:=12) (by decide))
   have g2:getL S 99= .view 99 0 (W.length+1):=L 99 (qAR hr (j:=11) (by decide))
   have e:qLa d k n xi W.length cell cell' (13::dn)=qLa d k n xi W.length cell cell' dn:=rfl
   have em: ∀q1 q2 q3 q4 q5 q6,qLb q1 q2 q3 q4 q5 q6 (13::dn)=(q3,q6,[]):=fun q1 q2 q3 q4 q5 q6=>by
    show(if true=true then _ else if dn.contains 11=true then _ else _,if dn.contains 11=true then _ else if dn.contains 10=true then _ else _,_)=_
    rw[h7];rfl
   have em0: ∀q1 q2 q3 q4 q5 q6,qLb q1 q2 q3 q4 q5 q6 dn=(q2,q6,[]):=fun q1 q2 q3 q4 q5 q6=>by
    unfold qLb
    rw[h9,h7];rfl
   rw[em,e,<- hS]at hK
   rw[em0]
   have hK:K ⟨S,_,_,_⟩:=hK
   simp only[g1,g2,hc7,hC7,qFi C7 xi _ oM,push_cast,reduceIte,zA,zB,zC,zD,zE,zF,zG,reduceCtorEq,zH,zJ,cNI]at hK ⊢
   exact⟨oM,hK⟩
 ·intro dn h
  rw[xs19_22_all]at h
  obtain⟨h0,h1,h2,h3,h4,h5,h6,h7,h8,h9,h10,h11,h12,h13⟩:=h
  have em: ∀q1 q2 q3 q4 q5 q6,qLb q1 q2 q3 q4 q5 q6 dn=(q3,q6,[]):=fun q1 q2 q3 q4 q5 q6=>by
   unfold qLb
   rw[if_pos h13,if_pos h11]
  have ev:qLa d k n xi W.length cell cell' dn=qLa d k n xi W.length cell cell' [11]:=by
   funext i
   rcases i with _|_|_|_|_|_|_|_|_|_|_|_|_|_|i<;>try rfl
   show(if dn.contains 11=true then cell' else cell)=cell'
   rw[if_pos h11]
  rw[em,ev]
  exact hK
end Go.Proofs.YtecoaapkcnhlhaaGreatDoor
namespace Go.Proofs.YtecoaapkcnhlhaaGreatDoor
open Go Go.Vc Go.Ham Txt
def qLe(R:List Bool):PV:=if R=[]then .nil else .sl true 1 (rows qke R)
def outB(n:Nat)(S:Nat->List Bool)(k:Nat):List PV:=(List.range n).map fun x=>if x<k then qLe (S x)else .nil
theorem qLf(n:Nat)(S:Nat->List Bool)(k:Nat):(outB n S k).length=n:=by simp[outB]
theorem qLg{n k:Nat}(hk:k<n)(S:Nat->List Bool):(outB n S k).getD k .bot= .nil:=by simp[outB,zK,hk]
theorem qLh{n k x:Nat}(hx:x<k)(hk:k<=n)(S:Nat->List Bool):(outB n S k).getD x .bot=qLe (S x):=by simp[outB,zK,hx,show x<n by omega]
theorem qLi{n k:Nat}(S:Nat->List Bool):(outB n S k).set k (qLe (S k))=outB n S (k+1):=by
 apply List.ext_getElem (by simp[outB])
 intro i h1 h2
 rw[List.getElem_set]
 simp only[outB,List.getElem_map,List.getElem_range]
 split
 ·next e=>subst e;rw[if_pos oM]
 ·next e=>
  by_cases h3:i<k
  ·rw[if_pos h3,if_pos oM]
  ·rw[if_neg h3,if_neg oM]
theorem qLj{n:Nat}(S:Nat->List Bool)(k:Nat)(pb pa:Nat->Bool):anyT pb pa (outB n S k)=false:=by
 rw[<- qhK,yD]
 intro c hc
 obtain⟨x,_,rfl⟩:=List.mem_map.1 hc
 unfold qLe
 split
 ·split<;>simp[PV.to]
 ·simp[PV.to]
def bc(W:List Bool):PV:=match W with|[]=> .nil|_::_=> .view 99 0 W.length
def ba(W:List Bool):List (Nat×Arr):=match W with|[]=>[]|_::_=>[(99,⟨1,4,rows qke W⟩)]
theorem qLk(W:List Bool)(d:Bool):bc (W++[d])= .view 99 0 (W.length+1):=by cases W<;>simp[bc]
theorem qLl(W:List Bool)(d:Bool):ba (W++[d])=[(99,⟨1,4,rows qke (W++[d])⟩)]:=by cases W<;>rfl
def deS(g:Grid)(l:List (List Nat))(n x:Nat):List (Nat×PV):=[(1,frV l),(2,.ptr 2 0),(4,.ptr 4 0),(5,.sl true 4 (rows fldR (qCn g))),(6,.view 110 0 n),(7,.ptr 7 0),(8,.bv 35 1 n),(9,.int x)]
def deB(g:Grid)(N:Int)(C:List PV):List (Nat×List PV):=[(2,quX false g),(4,[.nil,.nil,.nil,.nil,.int 0,.int 0]),(7,[.view 311 0 (cN g),.view 313 0 g.kind.length,.view 315 0 g.kind.length,.view 317 0 g.kind.length,.int N,.int 0]),(35,C)]
def deC(g:Grid)(N:Int)(d:Nat)(f:Int)(C:List PV):List (Nat×List PV):=[(2,quX false g),(4,[.nil,.nil,.nil,.nil,.int 0,.int 0]),(7,[.view 311 0 (cN g),.view 313 0 g.kind.length,.view 315 0 g.kind.length,.view 317 0 g.kind.length,.int N,.int 0]),(11,[.sc (.int .u64 d),.int f,.int 0]),(35,C)]
def cfR(c:Cfg):List (Nat×Arr):=[(311,⟨1,3,ints c.sel⟩),(313,⟨1,3,ints c.mode⟩),(315,⟨1,3,ints c.tab⟩),(317,⟨1,3,ints c.ram⟩)]
def deR(L:List Int)(c:Cfg):List (Nat×Arr):=(110,⟨1,3,ints L⟩)::cfR c
set_option maxHeartbeats 2000000 in
theorem qLm (g : Grid) (l : List (List Nat)) (n x : Nat) (hx : x < n) (C : List PV) (hC : C.length = n) (hCf : ∀ pb pa, anyT pb pa C = false) (hC0 : C.set x .nil = C) (N f : Int) (i d : Nat) (hd : d < 2 ^ 64) (W : List Bool) (hW : W.length < 10000000) (L : List Int) (c : Cfg) (Q : Exit -> St -> Prop)
  (hQ: ∀T,qhn [0,212,1,2,4,5,6,7,8,9,10] T=[]->Q .normal ⟨deS g l n x++[(10,.int i)]++T,deC g N d f (C.set x (bc (W++qBu d 57))),ba (W++qBu d 57)++deR L c,[]⟩) (T:List (Nat×PV)) (hT:qhn [0,212,1,2,4,5,6,7,8,9,10,11] T=[]):
  awp (Env.of Tryz.prog) ac19_r19 Q ⟨deS g l n x++[(10,.int i),(11,.ptr 11 0)]++T,deC g N d f (C.set x (bc W)),ba W++deR L c,[]⟩:=by
 have hcx: ∀v,(C.set x v).getD x .bot=v:=fun v=>by rw[zK,List.getElem?_set_self oM];rfl
 have hcl: ∀v,(C.set x v).length=n:=fun v=>by rw[yF,hC]
 have hset2: ∀v w,(C.set x v).set x w=C.set x w:=fun v w=>List.set_set ..
 have e5: ∀j,anyT nul (isId j) (C.set x .nil)=false:=fun j=>qFg _ _ _ _ _ (hCf _ _) rfl
 have b65: ∀m,anyT nul (isId 98) (C.set x (.view 99 0 m))=false:=fun m=>qFg _ _ _ _ _ (hCf _ _) rfl
 have b5:=fun m=>qFP (j:=99) C x m oM
 have b6:=fun m=>qFO (j:=99) C x m oM (e5 99)
 simp only[ac19_r19,deS,hT,List.cons_append,List.nil_append,push_cast,reduceIte,zA,zB,zC,zD,zE,zF,zG,reduceCtorEq,zH,zJ,cNI]
 refine qoO (fun m st=> ∃k:Nat,k<=57/\m=57-k/\st=⟨deS g l n x++[(10,.int i),(11,.ptr 11 0),(12,.int k)],deC g N d f (C.set x (bc (W++qBu d k))),ba (W++qBu d k)++deR L c,[]⟩) 57 ⟨_,SWk.refl _,0,oM,oM,?_⟩ ?_
 ·simp only[qBu,List.range_zero,List.map_nil,List.append_nil,deS,List.cons_append,List.nil_append,push_cast,reduceIte,zA,zB,zC,zD,zE,zF,zG,reduceCtorEq,zH,zJ,cNI]
 rintro m st ⟨k,hk,rfl,rfl⟩
 simp only[deS,List.cons_append,List.nil_append,push_cast,reduceIte,zA,zB,zC,zD,zE,zF,zG,reduceCtorEq,zH,zJ,cNI]
 have hWk:(W++qBu d k).length=W.length+k:=by rw[zU,qBv]
 refine qnY (fun h=> ?_) fun h=> ?_
 ·have hbs:W++qBu d (k+1)=W++qBu d k++[d.testBit k]:=by rw[qBw,List.append_assoc]
  generalize W++qBu d k=V at *
  cases V with
  |nil=>
    rw[show bc []= .nil from rfl,show ba []=[]from rfl,hC0]
    refine qLd (b:=deC g N d f C) (b7:=deC g N d f C) (n:=n) (xi:=x) (W:=[]) (cell:= .nil) (cell' := .nil) (C:=C) (C7:=C) (d:=d) (k:=k) hd oM (.int f) (.int 0) _ rfl rfl hx (by decide) rfl rfl rfl rfl rfl rfl hC hC ?_ ?_ ?_ rfl rfl (.inl ⟨rfl,rfl,rfl⟩) ?_
    ·rw[<- hC0];exact hcx _
    ·simp only[deC,hCf,push_cast,reduceIte,zA,zB,zC,zD,zE,zF,zG,reduceCtorEq,zH,zJ,cNI]
    ·simp only[deC,hCf,push_cast,reduceIte,zA,zB,zC,zD,zE,zF,zG,reduceCtorEq,zH,zJ,cNI]
    ·simp only[slA,xs19_22,putD,qLa,deC,deR,cfR,List.nil_append,push_cast,reduceIte,zA,zB,zC,zD,zE,zF,zG,reduceCtorEq,zH,zJ,cNI]
     refine⟨oM,_,SWk.drop (fun _=>true) (fun i=>i !=98),57-(k+1),oM,k+1,oM,rfl,?_⟩
     rw[hbs,qLk,qLl]
     rfl
  |cons y r=>
    rw[show bc (y::r)= .view 99 0 (y::r).length from rfl,show ba (y::r)=[(99,⟨1,4,rows qke (y::r)⟩)]from rfl]
    refine qLd (b:=deC g N d f (C.set x (.view 99 0 (y::r).length))) (b7:=deC g N d f (C.set x .bot)) (n:=n) (xi:=x) (W:=rows qke (y::r)) (cell:= .view 99 0 (y::r).length) (cell' := .bot) (C:=C.set x (.view 99 0 (y::r).length)) (C7:=C.set x .bot) (d:=d) (k:=k) hd oM (.int f) (.int 0) _ rfl rfl hx ?_ rfl rfl rfl rfl rfl rfl (hcl _) (hcl _) (hcx _) ?_ ?_ rfl rfl (.inr ⟨?_,rfl,rfl⟩) ?_
    ·rw[qkk,hWk];omega
    ·simp only[deC,b65,hCf,push_cast,reduceIte,zA,zB,zC,zD,zE,zF,zG,reduceCtorEq,zH,zJ,cNI]
    ·simp only[deC,b5,b6,hCf,push_cast,reduceIte,zA,zB,zC,zD,zE,zF,zG,reduceCtorEq,zH,zJ,cNI]
    ·rw[qkk]
    ·simp only[slA,xs19_22,putD,qLa,deC,deR,cfR,hset2,qkk,List.cons_append,List.nil_append,push_cast,reduceIte,zA,zB,zC,zD,zE,zF,zG,reduceCtorEq,zH,zJ,cNI]
     refine⟨oM,_,SWk.drop (fun _=>true) (fun i=>i !=98),57-(k+1),oM,k+1,oM,rfl,?_⟩
     rw[hbs,qLk,qLl]
     rfl
 ·obtain rfl:k=57:=by omega
  exact hQ [(11,.ptr 11 0),(12,.int 57),(84,.int 57),(85,.bool (decide ((57:Int)<57)))] rfl
set_option maxHeartbeats 2000000 in
theorem qLn (g : Grid) (l : List (List Nat)) (n x : Nat) (hx : x < n) (C : List PV) (hC : C.length = n) (N : Int) (W : List Bool) (hW : W.length < 10000000) (L : List Int) (hL : L.length = n) (nx : Nat) (hLx : L.getD x default = nx) (hnx : nx <= 1000000000) (c : Cfg) (Q : Exit -> St -> Prop)
  (hE: ¬(∀j,nx<=j->W.getD j false=false)-> ∀T B A,lk B 4=some [.nil,.nil,.nil,.nil,.int 0,.int 380]->Q .ret ⟨(4,.ptr 4 0)::T,B,A,[]⟩)
  (hQ:(∀j,nx<=j->W.getD j false=false)-> ∀T,qhn [0,212,1,2,4,5,6,7,8,9] T=[]->Q .normal ⟨deS g l n x++T,deB g N (C.set x (bc W)),ba W++deR L c,[]⟩)
  (T:List (Nat×PV)) (hT:qhn [0,212,1,2,4,5,6,7,8,9] T=[]):
  awp (Env.of Tryz.prog) ac19_r23 Q ⟨deS g l n x++T,deB g N (C.set x (bc W)),ba W++deR L c,[]⟩:=by
 have hcx: ∀v,(C.set x v).getD x .bot=v:=fun v=>by rw[zK,List.getElem?_set_self oM];rfl
 have hcl: ∀v,(C.set x v).length=n:=fun v=>by rw[yF,hC]
 cases W with
 |nil=>
   simp only[ac19_r23,deS,deB,deR,cfR,ba,bc,List.cons_append,List.nil_append,hT,hL,hLx,push_cast,reduceIte,zA,zB,zC,zD,zE,zF,zG,reduceCtorEq,zH,zJ,cNI]
   refine⟨oM,hx,?_⟩
   refine qoO (fun m st=>m=0/\st=⟨deS g l n x++[(13,.int nx)],deB g N (C.set x .nil),deR L c,[]⟩) 0 ⟨_,SWk.refl _,rfl,?_⟩ ?_
   ·simp only[deS,deB,deR,cfR,List.cons_append,List.nil_append,push_cast,reduceIte,zA,zB,zC,zD,zE,zF,zG,reduceCtorEq,zH,zJ,cNI]
   rintro m st ⟨rfl,rfl⟩
   simp only[deS,deB,deR,cfR,List.cons_append,List.nil_append,hcx,hcl,Nat.mul_one,qFh (C.set x .nil),push_cast,reduceIte,zA,zB,zC,zD,zE,zF,zG,reduceCtorEq,zH,zJ,cNI]
   refine⟨oM,oM,?_⟩
   refine qnY (fun h=>by omega) fun h=> ?_
   exact hQ (fun _ _=>rfl) [(13,.int nx),(105,.int nx),(106,.bv 35 1 n),(107,.int x),(108,.ptr 35 x),(109,.nil),(110,.int 0),(111,.bool (decide ((nx:Int)<0)))] rfl
 |cons y r=>
   have e1:bc (y::r)= .view 99 0 (y::r).length:=rfl
   have e2:ba (y::r)=[(99,⟨1,4,rows qke (y::r)⟩)]:=rfl
   generalize y::r=W at *
   rw[e1,e2]at hQ
   simp only[ac19_r23,deS,deB,deR,cfR,e1,e2,List.cons_append,List.nil_append,hT,hL,hLx,push_cast,reduceIte,zA,zB,zC,zD,zE,zF,zG,reduceCtorEq,zH,zJ,cNI]
   refine⟨oM,hx,?_⟩
   refine qoO (fun m st=> ∃p:Nat,nx<=p/\p<=max nx W.length/\m=max nx W.length-p/\(∀q,nx<=q->q<p->W.getD q false=false)/\st=⟨deS g l n x++[(13,.int p)],deB g N (C.set x (.view 99 0 W.length)),(99,⟨1,4,rows qke W⟩)::deR L c,[]⟩) (max nx W.length-nx) ⟨_,SWk.refl _,nx,oM,oM,rfl,fun q h1 h2=>by omega,?_⟩ ?_
   ·simp only[deS,deB,deR,cfR,List.cons_append,List.nil_append,push_cast,reduceIte,zA,zB,zC,zD,zE,zF,zG,reduceCtorEq,zH,zJ,cNI]
   rintro m st ⟨p,hp1,hp2,rfl,hz,rfl⟩
   simp only[deS,deB,deR,cfR,List.cons_append,List.nil_append,hcx,hcl,Nat.mul_one,qFh (C.set x (.view 99 0 W.length)),push_cast,reduceIte,zA,zB,zC,zD,zE,zF,zG,reduceCtorEq,zH,zJ,cNI]
   refine⟨oM,oM,?_⟩
   refine qnY (fun h=> ?_) fun h=> ?_
   ·refine⟨oM,oM,⟨oM,oM⟩,oM,?_⟩
    refine qnX (fun h6=> ?_) fun h6=> ?_
    ·refine hE (fun hh=> ?_) _ _ _ rfl
     have:=hh p hp1
     rw[show W.getD p false=true from h6]at this
     cases this
    ·refine⟨oM,_,SWk.refl _,max nx W.length-(p+1),oM,p+1,oM,oM,rfl,fun q h1 h2=> ?_,rfl⟩
     by_cases e:q=p
     ·rw[e];exact h6
     ·exact hz q h1 oM
   ·refine hQ (fun q hq=> ?_) [(13,.int p),(105,.int p),(106,.bv 35 1 n),(107,.int x),(108,.ptr 35 x),(109,.view 99 0 W.length),(110,.int W.length),(111,.bool (decide ((p:Int)<W.length)))] rfl
    by_cases h2:q<p
    ·exact hz q hq h2
    ·rw[zK,List.getElem?_eq_none oM];rfl
theorem qLo(l:List Nat)(w:Nat):unW (l++[w])=unW l++qBu w 57:=by simp[unW]
set_option maxHeartbeats 2000000 in
theorem qLp (g : Grid) (l : List (List Nat)) (hl : FrmSm l) (n x : Nat) (hx : x < n) (hxl : x < l.length) (C : List PV) (hC : C.length = n) (hCf : ∀ pb pa, anyT pb pa C = false) (hC0 : C.set x .nil = C) (N : Nat) (hN : N <= 100000000) (L : List Int) (hL : L.length = n) (nx : Nat) (hLx : L.getD x default = nx) (hnx : nx <= 1000000000) (c : Cfg) (Q : Exit -> St -> Prop)
  (hE: ¬(qDv (l.getD x default)=true/\ ∀j,nx<=j->(unW ((l.getD x default).map datW)).getD j false=false)-> ∀T B A,lk B 4=some [.nil,.nil,.nil,.nil,.int 0,.int 380]->Q .ret ⟨(4,.ptr 4 0)::T,B,A,[]⟩)
  (hQ:qDv (l.getD x default)=true->(∀j,nx<=j->(unW ((l.getD x default).map datW)).getD j false=false)-> ∀T,qhn [0,212,1,2,4,5,6,7,8,9] T=[]->Q .normal ⟨deS g l n x++T,deB g ((N:Int)+(qDw (l.getD x default):Nat)) (C.set x (bc (unW ((l.getD x default).map datW)))),ba (unW ((l.getD x default).map datW))++deR L c,[]⟩)
  (T:List (Nat×PV)) (hT:qhn [0,212,1,2,4,5,6,7,8,9] T=[]):
  awp (Env.of Tryz.prog) ac19_r12 Q ⟨deS g l n x++T,deB g N C,deR L c,[]⟩:=by
 have hmem:l.getD x default∈l:=by rw[zK,zL hxl];exact List.getElem_mem _
 have hwl:=hl.len _ hmem
 have hwo:=hl.ok _ hmem
 have hcr:=qHI (l.getD x default)
 generalize hws:l.getD x default=ws at *
 have hul:=qBO (ws.map datW)
 rw[yG]at hul
 simp only[ac19_r12,deS,deB,deR,cfR,List.cons_append,List.nil_append,hT,push_cast,reduceIte,zA,zB,zC,zD,zE,zF,zG,reduceCtorEq,zH,zJ,cNI]
 refine qoO (fun m st=> ∃j:Nat,j<=ws.length/\m=ws.length-j/\qDv (ws.take j)=true/\st=⟨deS g l n x++[(10,.int j)],deB g ((N:Int)+(qDw (ws.take j):Nat)) (C.set x (bc (unW ((ws.take j).map datW)))),ba (unW ((ws.take j).map datW))++deR L c,[]⟩) ws.length ⟨_,SWk.refl _,0,oM,oM,rfl,?_⟩ ?_
 ·rw[List.take_zero,List.map_nil,show bc (unW [])= .nil from rfl,hC0]
  simp only[deS,deB,deR,cfR,List.cons_append,List.nil_append,push_cast,reduceIte,zA,zB,zC,zD,zE,zF,zG,reduceCtorEq,zH,zJ,cNI]
  rfl
 rintro m st ⟨j,hj,rfl,hok,rfl⟩
 have hc:=qHI (ws.take j)
 rw[List.length_take]at hc
 simp only[deS,deB,frV,hws,qF0,List.cons_append,List.nil_append,push_cast,reduceIte,zA,zB,zC,zD,zE,zF,zG,reduceCtorEq,zH,zJ,cNI]
 refine⟨oM,oM,?_⟩
 refine qnY (fun h=> ?_) fun h=> ?_
 ·have hj' :j<ws.length:=by omega
  have hmw:ws.getD j default∈ws:=by rw[zK,zL hj'];exact List.getElem_mem _
  have hwb:=hwo _ hmw
  have htk:=qEY ws j hj'
  have hde:=qL0 (ws.getD j default) hwb
  have hul2:=qBO ((ws.take j).map datW)
  rw[yG,List.length_take]at hul2
  rw[qEZ]
  generalize ws.getD j default=w at *
  refine⟨oM,hxl,oM,hj',?_⟩
  by_cases h2:chkW w=2
  ·rw[if_pos h2]at hde
   refine qoM hde ?_
   refine sB ?_
   refine qnY (fun _=> ?_) fun h=>absurd (by decide) h
   refine hE (fun hh=> ?_) [(77,.agg [.nil,.nil,.nil,.nil,.int 0,.int 380])] _ _ rfl
   have:=yE.1 hh.1 w hmw
   simp[h2]at this
  ·rw[if_neg h2]at hde
   refine qoM hde ?_
   have hk11:anyT (isId 11) nul (C.set x (bc (unW ((ws.take j).map datW))))=false:=qFg _ _ _ _ _ (hCf _ _) (by cases unW ((ws.take j).map datW)<;>rfl)
   simp only[hk11,push_cast,reduceIte,zA,zB,zC,zD,zE,zF,zG,reduceCtorEq,zH,zJ,cNI]
   refine qnY (fun h=>absurd rfl h) fun _=> ?_
   have hcs:=qHH (ws.take j) w h2
   have hck:=qAf w
   have hok2:qDv (ws.take (j+1))=true:=by rw[htk,qHG,hok];simp[h2]
   refine⟨oM,?_⟩
   refine qLm g l n x hx C hC hCf hC0 ((N:Int)+(qDw (ws.take j):Nat)+(chkW w:Nat)) (chkW w:Nat) j (datW w) (Nat.lt_trans (qAr w) (by decide)) (unW ((ws.take j).map datW)) oM L c _ (fun T hT=> ?_) [(78,.ptr 7 4),(79,.int ((N:Int)+(qDw (ws.take j):Nat))),(80,.ptr 11 1),(81,.int (chkW w:Nat)),(82,.int ((N:Int)+(qDw (ws.take j):Nat)+(chkW w:Nat))),(83,.ptr 7 4)] rfl
   simp only[deS,deC,hT,List.cons_append,List.nil_append,push_cast,reduceIte,zA,zB,zC,zD,zE,zF,zG,reduceCtorEq,zH,zJ,cNI]
   refine⟨oM,_,SWk.drop (fun i=>i !=11) (fun _=>true),ws.length-(j+1),oM,j+1,oM,rfl,hok2,?_⟩
   have hfa: ∀A:List (Nat×Arr),A.filter (fun _=>true)=A:=fun A=>List.filter_eq_self.2 fun _ _=>rfl
   rw[hfa,htk,hcs,yH,show[w].map datW=[datW w]from rfl,qLo,show(N:Int)+(qDw (ws.take j):Nat)+(chkW w:Nat)=(N:Int)+(qDw (ws.take j)+chkW w:Nat)from by omega]
   rfl
 ·obtain rfl:j=ws.length:=by omega
  rw[List.take_length]at hok ⊢
  exact qLn g l n x hx C hC _ (unW (ws.map datW)) oM L hL nx hLx hnx c Q (fun h=>hE (fun hh=>h hh.2)) (fun h T hT=>hQ hok h T hT) [(10,.int ws.length),(55,.int ws.length),(56,frV l),(57,.int x),(58,.iptr false ((rows (frmC false) l).getD x []) 0),(59,.iptr false ((rows (frmC false) l).getD x []) 0),(60,.sl false 1 (rows u64C (nats ws))),(61,.int ws.length),(62,.bool (decide ((ws.length:Int)<ws.length)))] rfl
end Go.Proofs.YtecoaapkcnhlhaaGreatDoor
namespace Go.Proofs.YtecoaapkcnhlhaaGreatDoor
open Go Go.Vc Go.Ham Txt
def feS(g:Grid)(n i:Nat):List (Nat×PV):=[(2,.ptr 2 0),(4,.ptr 4 0),(5,.sl true 4 (rows fldR (qCn g))),(7,.ptr 7 0),(8,.bv 35 1 n),(14,.view 124 0 n),(15,.int i)]
def feB(g:Grid)(N:Int)(C:List PV)(r:List (Nat×List PV)):List (Nat×List PV):=(2,quX false g)::(4,[.nil,.nil,.nil,.nil,.int 0,.int 0])::(7,[.view 311 0 (cN g),.view 313 0 g.kind.length,.view 315 0 g.kind.length,.view 317 0 g.kind.length,.int N,.int 0])::(r++[(35,C)])
def feA(L:List Int)(c:Cfg):List (Nat×Arr):=(124,⟨1,3,ints L⟩)::cfR c
theorem qLq{k:Nat}(h:k<62):shfF .shl .i64 1 (k:Int)=((2^k:Nat):Int):=by
 show IntKind.i64.wrap ((1:Int)*2^(min (k:Int).toNat 64))=_
 rw[Int.toNat_natCast,Nat.min_eq_left oM,Int.one_mul,show(2:Int)^k=((2^k:Nat):Int)from by norm_cast]
 have hz:2^k<2^62:=Nat.pow_lt_pow_right (by decide) h
 generalize 2^k=z at *
 exact qap (by simp only[ikLo];omega) (by simp only[ikHi];omega)
set_option maxHeartbeats 2000000 in
theorem qLr (g : Grid) (hg : GOk g) (l : List (List Nat)) (n : Nat) (hn : n = wN g + 1) (N : Int) (i : Nat) (f : Fld) (pre : List Fld) (hpf : pre ++ [f] <+: qCn g) (hs : ∀ x, x <= wN g -> (datD l x).length = nW (qDs g x)) (Q : Exit -> St -> Prop)
  (hQ: ∀T,qhn [0,212,2,4,5,7,8,14,15] T=[]->Q .normal ⟨feS g n i++T,feB g N (outB n (strB l) n) [(16,fldR f)],feA (qDQ g (pre++[f])) (cfP g l (pre++[f])),[]⟩)
  (T:List (Nat×PV)) (hT:qhn [0,212,2,4,5,7,8,14,15,16] T=[]):
  awp (Env.of Tryz.prog) ac19_r33 Q ⟨feS g n i++[(16,.ptr 16 0)]++T,feB g N (outB n (strB l) n) [(16,fldR f)],feA (qDQ g pre) (cfP g l pre),[]⟩:=by
 have hfm:f∈qCn g:=hpf.subset (List.mem_append_right _ zX)
 have hfi:=qD5 hg hfm
 have hfx:=hfi.x
 have hfn:=qIf hg hfi
 have hbd:=qDX hg hpf f.x
 have hnf:=qIw hpf f.x
 rw[qBZ]at hbd hnf
 simp only[qBV,if_true]at hbd hnf
 have hSl:(strB l f.x).length=57*nW (qDs g f.x):=by
  rw[<- hs f.x hfx]
  unfold strB datF datD
  rw[qBO,yG]
 have hnw:=qIx (qDs g f.x)
 have hLl:=qDY g pre
 have hLx:=qDZ hfx pre
 have hLs:=qE0 (g:=g) (f:=f) pre
 have hcp:=qIs g l pre f
 obtain⟨hln,-⟩:=qIv hg l hpf
 have hCl:=qLf n (strB l) n
 have hCx:=qLh (show f.x<n by omega) (Nat.le_refl n) (strB l)
 have hCf: ∀pb pa,anyT pb pa (outB n (strB l) n)=false:=fun pb pa=>qLj _ _ pb pa
 have hvl: ∀k,valB (((strB l f.x).drop (qBV pre f.x)).take k)<2^k:=fun k=>Nat.lt_of_lt_of_le (qBy _) (Nat.pow_le_pow_right (by decide) (by simp;omega))
 have htb:=qIo (strB l f.x) (qBV pre f.x)
 rw[<- hLs,hcp]at hQ
 generalize outB n (strB l) n=C at *
 generalize strB l f.x=S at *
 generalize qBV pre f.x=c at *
 generalize qDQ g pre=L at *
 generalize cfP g l pre=cf at *
 simp only[ac19_r33,feS,feB,feA,cfR,List.cons_append,List.nil_append,hT,push_cast,reduceIte,zA,zB,zC,zD,zE,zF,zG,reduceCtorEq,zH,zJ,cNI]
 refine qoO (fun m st=> ∃k:Nat,k<=f.n/\m=f.n-k/\st=⟨feS g n i++[(16,.ptr 16 0),(17,.int (valB ((S.drop c).take k):Nat)),(18,.int k)],feB g N C [(16,fldR f)],feA L cf,[]⟩) f.n ⟨_,SWk.refl _,0,oM,oM,?_⟩ ?_
 ·simp only[feS,feB,feA,cfR,List.cons_append,List.nil_append,List.take_zero,push_cast,reduceIte,zA,zB,zC,zD,zE,zF,zG,reduceCtorEq,zH,zJ,cNI]
  rfl
 rintro m st ⟨k,hk,rfl,rfl⟩
 simp only[feS,feB,feA,cfR,List.cons_append,List.nil_append,push_cast,reduceIte,zA,zB,zC,zD,zE,zF,zG,reduceCtorEq,zH,zJ,cNI]
 refine qnY (fun h=> ?_) fun h=> ?_
 ·have hk' :k<f.n:=by omega
  have hcell:C.getD f.x .bot= .sl true 1 (rows qke S):=by
   rw[hCx];unfold qLe
   rw[if_neg]
   intro e
   rw[e]at hSl
   simp only[List.length_nil]at hSl
   omega
  have hdl:((S.drop c).take k).length=k:=by rw[List.length_take,List.length_drop];omega
  have hvs:=qBD ((S.drop c).take k) (S.getD (c+k) false)
  rw[<- htb k oM,hdl]at hvs
  have hv0:=hvl k
  have hp2:2^k<=2^60:=Nat.pow_le_pow_right (by decide) oM
  obtain⟨z,hz⟩: ∃z,z=2^k:=⟨_,rfl⟩
  have esh:shfF .shl .i64 1 (k:Int)=(z:Int):=by rw[hz];exact qLq oM
  rw[<- hz]at hvs hv0 hp2
  simp only[hCl,hcell,hLx,hLl,esh,Nat.mul_one,qFh C,push_cast,reduceIte,zA,zB,zC,zD,zE,zF,zG,reduceCtorEq,zH,zJ,cNI]
  have ejk:((c:Int)+k).toNat=c+k:=by omega
  refine⟨oM,oM,oM,oM,oM,oM,oM,?_⟩
  rw[ejk]
  refine qnX (fun h6=> ?_) fun h6=> ?_
  ·have h6:S.getD (c+k) false=true:=h6
   rw[h6,Bool.toNat_true,Nat.mul_one]at hvs
   refine⟨oM,oM,oM,oM,_,SWk.refl _,f.n-(k+1),oM,k+1,oM,rfl,?_⟩
   rw[hvs]
   rfl
  ·have h6:S.getD (c+k) false=false:=h6
   rw[h6,Bool.toNat_false,Nat.mul_zero,Nat.add_zero]at hvs
   refine⟨oM,_,SWk.refl _,f.n-(k+1),oM,k+1,oM,rfl,?_⟩
   rw[hvs]
   rfl
 ·obtain rfl:k=f.n:=by omega
  obtain⟨l0,l1,l2,l3⟩:=hln.lens
  have hcc:=hg.n.c
  have hFs: ∀(k:Nat) (v:Int),qDe cf k f.i v=qDe cf k f.i v:=fun _ _=>rfl
  simp only[hLx,hLl,push_cast,reduceIte,zA,zB,zC,zD,zE,zF,zG,reduceCtorEq,zH,zJ,cNI]
  refine⟨oM,oM,oM,oM,oM,?_⟩
  rcases hfi.key with⟨a,b,_⟩|⟨a,b,_⟩|⟨a,b,_⟩|⟨a,b,_⟩
  ·refine qnY (fun h=> ?_) fun h=>by omega
   refine⟨oM,oM,?_⟩
   rw[a]at hQ
   exact hQ [(16,.ptr 16 0),(17,.int (valB ((S.drop c).take f.n):Nat)),(180,.ptr 7 0),(181,.ptr 7 0),(182,.view 311 0 (cN g)),(183,.ptr 16 2),(184,.int f.i),(185,.int (valB ((S.drop c).take f.n):Nat)),(186,.eptr 311 f.i 0)] rfl
  ·refine qnY (fun h=>by omega) fun _=> ?_
   refine qnY (fun h=> ?_) fun h=>by omega
   refine⟨oM,oM,?_⟩
   rw[a]at hQ
   exact hQ [(16,.ptr 16 0),(17,.int (valB ((S.drop c).take f.n):Nat)),(189,.ptr 7 0),(190,.ptr 7 1),(191,.view 313 0 (g.kind.length)),(192,.ptr 16 2),(193,.int f.i),(194,.int (valB ((S.drop c).take f.n):Nat)),(195,.eptr 313 f.i 0)] rfl
  ·refine qnY (fun h=>by omega) fun _=> ?_
   refine qnY (fun h=>by omega) fun _=> ?_
   refine qnY (fun h=> ?_) fun h=>by omega
   refine⟨oM,oM,?_⟩
   rw[a]at hQ
   exact hQ [(16,.ptr 16 0),(17,.int (valB ((S.drop c).take f.n):Nat)),(198,.ptr 7 0),(199,.ptr 7 2),(200,.view 315 0 (g.kind.length)),(201,.ptr 16 2),(202,.int f.i),(203,.int (valB ((S.drop c).take f.n):Nat)),(204,.eptr 315 f.i 0)] rfl
  ·refine qnY (fun h=>by omega) fun _=> ?_
   refine qnY (fun h=>by omega) fun _=> ?_
   refine qnY (fun h=>by omega) fun _=> ?_
   refine⟨oM,oM,?_⟩
   rw[a]at hQ
   exact hQ [(16,.ptr 16 0),(17,.int (valB ((S.drop c).take f.n):Nat)),(171,.ptr 7 0),(172,.ptr 7 3),(173,.view 317 0 (g.kind.length)),(174,.ptr 16 2),(175,.int f.i),(176,.int (valB ((S.drop c).take f.n):Nat)),(177,.eptr 317 f.i 0)] rfl
set_option maxHeartbeats 4000000 in
theorem qLs (g : Grid) (hg : GOk g) (l : List (List Nat)) (n : Nat) (hn : n = wN g + 1) (hln : l.length = n) (N : Int) (L : List Int) (hs : ∀ x, x <= wN g -> (datD l x).length = nW (qDs g x)) (Q : Exit -> St -> Prop)
  (hE:validE g (cfP g l (qCn g))≠0-> ∀T B A,lk B 4=some [.nil,.nil,.nil,.nil,.int 0,.int 380]->Q .ret ⟨(4,.ptr 4 0)::T,B,A,[]⟩)
  (hQ:validE g (cfP g l (qCn g))=0-> ∀T L',Q .ret ⟨(4,.ptr 4 0)::T,[(2,quX false g),(4,[.view 311 0 (cN g),.view 313 0 g.kind.length,.view 315 0 g.kind.length,.view 317 0 g.kind.length,.int N,.int 0]),(7,[.view 311 0 (cN g),.view 313 0 g.kind.length,.view 315 0 g.kind.length,.view 317 0 g.kind.length,.int N,.int 0]),(35,outB n (strB l) n)],feA L' (cfP g l (qCn g)),[]⟩)
  (T:List (Nat×PV)) (hT:qhn [0,212,1,2,4,5,7,8] T=[]) (x:Nat):
  awp (Env.of Tryz.prog) ac19_r28 Q ⟨deS g l n x++T,deB g N (outB n (strB l) n),deR L (qxc g),[]⟩:=by
 have hw2:=hg.n.w2
 have hFl:=qKQ hg List.prefix_rfl
 have hCl:=qLf n (strB l) n
 have hCf: ∀pb pa,anyT pb pa (outB n (strB l) n)=false:=fun pb pa=>qLj _ _ pb pa
 simp only[ac19_r28,deS,frV,deB,deR,cfR,hT,hln,hCf,List.cons_append,List.nil_append,push_cast,reduceIte,zA,zB,zC,zD,zE,zF,zG,reduceCtorEq,zH,zJ,cNI]
 refine⟨⟨oM,oM,oM,oM⟩,?_⟩
 refine qoO (fun m st=> ∃i:Nat,i<=(qCn g).length/\m=(qCn g).length-i/\st=⟨feS g n i,feB g N (outB n (strB l) n) [],feA (qDQ g ((qCn g).take i)) (cfP g l ((qCn g).take i)),[]⟩) (qCn g).length ⟨_,SWk.drop (fun _=>true) (fun i=>i !=110),0,oM,oM,?_⟩ ?_
 ·rw[List.take_zero,qE2,<- hn]
  simp only[feS,feB,feA,cfR,List.cons_append,List.nil_append,List.length_replicate,push_cast,reduceIte,zA,zB,zC,zD,zE,zF,zG,reduceCtorEq,zH,zJ,cNI]
  rfl
 rintro m st ⟨i,hi,rfl,rfl⟩
 simp only[feS,feB,feA,cfR,hCf,List.cons_append,List.nil_append,push_cast,reduceIte,zA,zB,zC,zD,zE,zF,zG,reduceCtorEq,zH,zJ,cNI]
 refine qnY (fun h=> ?_) fun h=> ?_
 ·have hil:i<(qCn g).length:=by omega
  have htk:=qKT hil
  have hpf:(qCn g).take i++[(qCn g).getD i default]<+:qCn g:=by rw[<- htk];exact List.take_prefix _ _
  generalize hfd:(qCn g).getD i default=f at *
  refine⟨oM,hil,?_⟩
  refine qLr g hg l n hn N i f ((qCn g).take i) hpf hs _ (fun T hT=> ?_) [(131,.sl true 4 (rows fldR (qCn g))),(132,.int i),(133,.iptr true ((rows fldR (qCn g)).getD i []) 0),(134,.agg (fldR f))] rfl
  simp only[feS,feB,feA,cfR,hT,List.cons_append,List.nil_append,push_cast,reduceIte,zA,zB,zC,zD,zE,zF,zG,reduceCtorEq,zH,zJ,cNI]
  refine⟨oM,_,SWk.drop (fun i=>i !=16) (fun _=>true),(qCn g).length-(i+1),oM,i+1,oM,rfl,?_⟩
  rw[htk]
  rfl
 ·obtain rfl:i=(qCn g).length:=by omega
  rw[List.take_length]
  have hcl:=qIQ hg l
  have hv:=qyA g hg (cfP g l (qCn g)) (qJh hg hcl)
  generalize cfP g l (qCn g)=cf at *
  obtain⟨l1,l2,l3,l4⟩:=hcl.lens
  simp only[qIH l1,qIH l2,qIH l3,qIH l4]
  refine qrv hv (by exact⟨.refl _,.refl _,trivial⟩) ?_
  refine sB ?_
  refine qnY (fun h=> ?_) fun h=> ?_
  ·exact hE h _ _ _ rfl
  ·exact hQ oM _ _
theorem qLt(g:Grid)(hg:GOk g):FnM (Env.of Tryz.prog) 30 [.agg (quX false g)] ⟨[],[],[],[]⟩ (fun v st' =>
  v= .agg [.view 311 0 (qv2 g).toNat,.view 313 0 g.kind.length,.view 315 0 g.kind.length,.view 317 0 g.kind.length]/\st' =⟨[],[],cfR (qxc g),[]⟩):=by
 have h1:=hg.count
 have h2:=hg.wh
 have h3:=hg.kind
 refine FnM.dropB 301 (FnM.dropB 302 ?_)
 refine quf 300 Tryz.func30 ok30_300 (by show 1<=_;decide) rfl (by decide) ?_
 simp only[ac30_300,rv30_300,push_cast,reduceIte,zA,zB,zC,zD,zE,zF,zG,reduceCtorEq,zH,zJ,cNI]
 refine⟨oM,?_⟩
 refine qrx (qv7 g hg) sC rfl ?_
 refine sB ?_
 refine⟨oM,oM,oM,oM,?_,?_⟩
 ·simp
  omega
 ·rw[show(g.w*g.h).toNat=g.kind.length by omega]
  simp only[cfR,qxc,List.length_replicate,push_cast,reduceIte,zA,zB,zC,zD,zE,zF,zG,reduceCtorEq,zH,zJ,cNI]
theorem fz99 {g : Grid} {n k : Nat} (hk : k < n) (S : Nat -> List Bool) (N : Int) (L : List Int) (c : Cfg) (s : List (Nat × PV)) (hs : farL 99 s) :
  SWk ⟨s,deB g N ((outB n S k).set k (bc (S k))),ba (S k)++deR L c,[]⟩ ⟨s,deB g N (outB n S (k+1)),deR L c,[]⟩:=by
 have hset:=qLi (n:=n) (k:=k) S
 have hlen:=qLf n S k
 have hfar:=qLj (n:=n) S k nul (isId 99)
 generalize S k=W at *
 generalize outB n S (k+1)=C1 at *
 generalize outB n S k=C at *
 cases W with
 |nil=>
   rw[show bc []=qLe []from rfl,hset]
   exact SWk.refl _
 |cons y r=>
   have e1:bc (y::r)= .view 99 0 (y::r).length:=rfl
   have e2:ba (y::r)=[(99,⟨1,4,rows qke (y::r)⟩)]:=rfl
   have e3:qLe (y::r)= .sl true 1 (rows qke (y::r)):=rfl
   rw[e1,e2]
   rw[e3]at hset
   generalize y::r=W at *
   have hf:=SWk.frz ⟨s,deB g N (C.set k (.view 99 0 W.length)),[(99,⟨1,4,rows qke W⟩)]++deR L c,[]⟩ 99
   have e4:fzS 99 ⟨1,4,rows qke W⟩ s=s:=by
    clear hf
    induction s with
    |nil=>rfl
    |cons x s ih=>
      obtain⟨i,v⟩:=x
      rw[qCW]at hs
      rw[qjP,hs.1.2,ih hs.2];rfl
   have b5:=qFP (j:=99) C k W.length oM
   have hfz:C.map (PV.fz 99 ⟨1,4,rows qke W⟩)=C:=by rw[qk2,qk5 _ _ hfar]
   have e:PV.fz 99 ⟨1,4,rows qke W⟩ (.view 99 0 W.length)= .sl true 1 (rows qke W):=by
    rw[qjS,if_pos rfl]
    simp only[List.drop_zero]
    rw[zY (by simp[rows])]
   simp only[deB,deR,cfR,List.cons_append,List.nil_append,e4,b5,<- qk2,List.map_set,hfz,e,hset,push_cast,reduceIte,zA,zB,zC,zD,zE,zF,zG,reduceCtorEq,zH,zJ,cNI]at hf
   exact hf
def qLu(g:Grid)(l:List (List Nat)):PV:= .agg (dcdC true (decG g l) (cntF l:Nat) 0)
def qLv:PV:= .agg (dcdC true cfg0 0 380)
set_option maxHeartbeats 4000000 in
theorem qLw(g:Grid)(hg:GOk g)(l:List (List Nat))(hl:FrmSm l)(r:PV)(hp:r=qLu g l\/r=qLv)(h1:Dec38 g l->r=qLu g l)(h2: ¬Dec38 g l->r=qLv):FnEq Tryz.prog 19 [.agg (quX false g),.sl false 1 (rows (frmC false) l)] r:=by
 have hn:=hg.n
 have hw2:=hn.w2
 have hln:=hl.n
 have hP:Perm r:=by
  rcases hp with rfl|rfl
  ·unfold qLu;simp only[push_cast,reduceIte,zA,zB,zC,zD,zE,zF,zG,reduceCtorEq,zH,zJ,cNI];exact⟨fun _ _=>trivial,fun _ _=>trivial,fun _ _=>trivial,fun _ _=>trivial⟩
  ·unfold qLv;simp only[cfg0,push_cast,reduceIte,zA,zB,zC,zD,zE,zF,zG,reduceCtorEq,zH,zJ,cNI];simp
 refine FnEq.of_awp Tryz.func19 ok19 (by show 2<=_;decide) hP ?_
 have hE: ¬Dec38 g l-> ∀T B A,lk B 4=some [.nil,.nil,.nil,.nil,.int 0,.int 380]->retK [RV.cell 4 true 6] (fun x=>Sub x r) .ret ⟨(4,.ptr 4 0)::T,B,A,[]⟩:=by
  intro hn T B A hB
  rw[h2 hn]
  unfold qLv
  simp only[cfg0,hB,push_cast,reduceIte,zA,zB,zC,zD,zE,zF,zG,reduceCtorEq,zH,zJ,cNI]
  done
 simp only[ac19,rv19,push_cast,reduceIte,zA,zB,zC,zD,zE,zF,zG,reduceCtorEq,zH,zJ,cNI]
 refine qrv (qKR g hg) sC ?_
 refine sB ?_
 refine qDP [] [110] (qKU true g hg) rfl rfl rfl ?_
 refine sB ?_
 refine qnY (fun h=> ?_) fun h=> ?_
 ·have hne : ¬ Dec38 g l := fun hd => by
   have:=congrArg List.length hd.size
   rw[yG,qIO]at this
   omega
  rw[h2 hne]
  unfold qLv
  simp only[cfg0,push_cast,reduceIte,zA,zB,zC,zD,zE,zF,zG,reduceCtorEq,zH,zJ,cNI]
 have hlen:l.length=wN g+1:=by omega
 refine qDP [] [311,313,315,317] (qLt g hg) rfl rfl rfl ?_
 simp only[cfR,push_cast,reduceIte,zA,zB,zC,zD,zE,zF,zG,reduceCtorEq,zH,zJ,cNI]
 refine⟨oM,?_⟩
 have hrep:List.replicate l.length PV.nil=outB l.length (strB l) 0:=by
  symm
  rw[List.eq_replicate_iff]
  refine⟨qLf _ _ _,fun b hb=> ?_⟩
  obtain⟨x,_,rfl⟩:=List.mem_map.1 hb
  rfl
 have hcs:=qHO (l:=l) hl.len
 refine qoO (fun m st=> ∃x:Nat,x<=l.length/\m=l.length-x/\(∀y,y<x->(l.getD y default).length=nW (qDs g y)/\qDv (l.getD y default)=true/\qCa (datF l y) (qDs g y))/\st=⟨deS g l l.length x,deB g (cntF (l.take x):Nat) (outB l.length (strB l) x),deR (qDQ g (qCn g)) (qxc g),[]⟩) l.length ⟨_,SWk.refl _,0,oM,oM,fun y hy=>absurd hy (Nat.not_lt_zero y),?_⟩ ?_
 ·rw[hrep]
  simp only[deS,deB,deR,cfR,frV,List.take_zero,push_cast,reduceIte,zA,zB,zC,zD,zE,zF,zG,reduceCtorEq,zH,zJ,cNI]
  rw[hlen]
  rfl
 have hsz:(∀y,y<l.length->(l.getD y default).length=nW (qDs g y)/\qDv (l.getD y default)=true/\qCa (datF l y) (qDs g y))->validE g (cfP g l (qCn g))=0->Dec38 g l:=by
  intro hg2 hv
  refine⟨?_,fun ws hws=> ?_,fun x hx=>(hg2 x oM).2.2,hv⟩
  ·refine List.ext_getElem (by simp[qDt,hlen]) fun i q1 q2=> ?_
   have q3:i<l.length:=by simpa using q1
   have:=(hg2 i q3).1
   rw[zK,zL q3]at this
   simp only[qDt,List.getElem_map,List.getElem_range]
   exact this
  ·obtain⟨i,q3,rfl⟩:=List.getElem_of_mem hws
   have:=(hg2 i q3).2.1
   rw[zK,zL q3]at this
   exact this
 rintro m st ⟨x,hx,rfl,hgood,rfl⟩
 simp only[deS,deB,deR,cfR,frV,push_cast,reduceIte,zA,zB,zC,zD,zE,zF,zG,reduceCtorEq,zH,zJ,cNI]
 refine qnY (fun h3=> ?_) fun h3=> ?_
 ·have hxl:x<l.length:=by omega
  have hxw:x<=wN g:=by omega
  have hlx:=qDZ hxw (qCn g)
  have hll:=qDY g (qCn g)
  have hb:qDs g x<=1000000000:=qDX hg List.prefix_rfl x
  have hmem:l.getD x default∈l:=by rw[zK,zL hxl];exact List.getElem_mem _
  refine⟨oM,hxl,oM,oM,?_⟩
  rw[hlx]
  refine qqU (qKO (qDs g x) hb) rfl ?_
  simp only[qF0,push_cast,reduceIte,zA,zB,zC,zD,zE,zF,zG,reduceCtorEq,zH,zJ,cNI]
  refine qnY (fun h4=> ?_) fun h4=> ?_
  ·have hne : ¬ Dec38 g l := fun hd => by
    have:=qIP hd.size hxw
    have:(l.getD x default).length=nW (qDs g x):=this
    omega
   rw[h2 hne]
   unfold qLv
   simp only[cfg0,push_cast,reduceIte,zA,zB,zC,zD,zE,zF,zG,reduceCtorEq,zH,zJ,cNI]
  ·have hle:(l.getD x default).length=nW (qDs g x):=by omega
   have hct:cntF (l.take (x+1))=cntF (l.take x)+qDw (l.getD x default):=by rw[qEY l x hxl,qHN]
   have hcx:cntF (l.take x)<=100000000:=by
    have:=qHO (l:=l.take x) fun ws hws=>hl.len ws (List.mem_of_mem_take hws)
    rw[List.length_take]at this
    omega
   refine qLp g l hl l.length x hxl hxl (outB l.length (strB l) x) (qLf _ _ _) (fun pb pa=>qLj _ _ pb pa) (qHP _ (qLg hxl _) (by rw[qLf];exact hxl)) (cntF (l.take x)) hcx (qDQ g (qCn g)) oM (qDs g x) hlx hb (qxc g) _ (fun hb T B A hB=> ?_) (fun hok hr T hT=> ?_) [(42,frV l),(43,.int x),(44,.iptr false ((rows (frmC false) l).getD x []) 0),(45,.iptr false ((rows (frmC false) l).getD x []) 0),(46,.sl false 1 (rows u64C (nats (l.getD x default)))),(47,.int (l.getD x default).length),(48,.view 110 0 l.length),(49,.int x),(50,.eptr 110 x 0),(51,.int (qDs g x:Nat)),(52,.int (nW (qDs g x):Nat)),(53,.bool (decide (((l.getD x default).length:Int)≠(nW (qDs g x):Nat))))] rfl
   ·refine hE (fun hd=>hb ⟨hd.ok _ hmem,hd.rest x oM⟩) T B A hB
   ·have hW:unW ((l.getD x default).map datW)=strB l x:=rfl
    rw[hW]
    simp only[deS,hT,List.cons_append,List.nil_append,push_cast,reduceIte,zA,zB,zC,zD,zE,zF,zG,reduceCtorEq,zH,zJ,cNI]
    refine⟨oM,_,fz99 hxl (strB l) _ _ _ _ ?_,l.length-(x+1),oM,x+1,oM,rfl,fun y hy=> ?_,?_⟩
    ·simp only[frV,push_cast,reduceIte,zA,zB,zC,zD,zE,zF,zG,reduceCtorEq,zH,zJ,cNI]
     done
    ·by_cases e:y=x
     ·rw[e];exact⟨hle,hok,hr⟩
     ·exact hgood y oM
    ·rw[hct]
     rfl
 ·obtain rfl:x=l.length:=by omega
  rw[List.take_length]
  refine qLs g hg l l.length hlen rfl (cntF l:Nat) (qDQ g (qCn g)) (fun x hx=>(hgood x oM).1) _ (fun hv T B A hB=> ?_) (fun hv T L' => ?_) [(36,.int l.length),(37,frV l),(38,.int l.length),(39,.bool (decide ((l.length:Int)<l.length)))] rfl l.length
  ·exact hE (fun hd=>hv hd.valid) T B A hB
  ·obtain⟨l1,l2,l3,l4⟩:=(qIQ hg l).lens
   rw[h1 (hsz hgood hv)]
   unfold qLu decG
   rw[<- qIr]
   simp only[feA,cfR,qIH l1,qIH l2,qIH l3,qIH l4,qLj,push_cast,reduceIte,zA,zB,zC,zD,zE,zF,zG,reduceCtorEq,zH,zJ,cNI]
   exact⟨fun _ _=>trivial,fun _ _=>trivial,fun _ _=>trivial,fun _ _=>trivial⟩
end Go.Proofs.YtecoaapkcnhlhaaGreatDoor
namespace Go.Proofs.YtecoaapkcnhlhaaGreatDoor
open Go Go.Vc Go.Ham Txt
theorem qLx(id es ty n:Nat)(xs:List (List PV)):(n=0/\nlV id n= .nil/\nlR id es ty n xs=[])\/(n≠0/\nlV id n= .view id 0 n/\nlR id es ty n xs=[(id,⟨es,ty,xs⟩)]):=by
 unfold nlV nlR
 by_cases h0:n=0
 ·exact .inl ⟨h0,if_pos h0,if_pos h0⟩
 ·exact .inr ⟨h0,if_neg h0,if_neg h0⟩
theorem qLy(l:List Nat)(w:Nat)(h:chkW w=2):qDw (l++[w])=qDw l:=by
 unfold qDw
 rw[List.countP_append]
 simp[h]
set_option maxHeartbeats 4000000 in
theorem qLz(l:List (List Nat))(hl:FrmSm l):FnEq Tryz.prog 21 [.sl false 1 (rows (frmC false) l)] (.agg (scdC true (scrF l) (cntF l:Nat) (badN l l.length))):=by
 have hn:=hl.n
 have hcs:=qHO (l:=l) hl.len
 have hP:Perm (.agg (scdC true (scrF l) (cntF l:Nat) (badN l l.length))):=by simp only[push_cast,reduceIte,zA,zB,zC,zD,zE,zF,zG,reduceCtorEq,zH,zJ,cNI];simp
 have hSl:(scrF l).length=l.length:=by simp[scrF]
 refine FnEq.of_awp Tryz.func21 ok21 (by show 1<=_;decide) hP ?_
 simp only[ac21,rv21,push_cast,reduceIte,zA,zB,zC,zD,zE,zF,zG,reduceCtorEq,zH,zJ,cNI]
 refine qoP (fun m st=> ∃x:Nat,x<=l.length/\m=l.length-x/\st=⟨[(0,.sl false 1 (rows (frmC false) l)),(2,.ptr 2 0),(3,.ptr 3 0),(4,.int x)],[(2,[.nil,.int 0,.nil]),(3,[nlV 74 x,.int (cntF (l.take x):Nat),nlV 68 (badN l x).length])],
  nlR 68 1 3 (badN l x).length (ints (badN l x))++nlR 74 1 65 x (rows frmN ((scrF l).take x)),[]⟩) l.length ⟨0,oM,oM,by simp only[push_cast,reduceIte,zA,zB,zC,zD,zE,zF,zG,reduceCtorEq,zH,zJ,cNI];rfl⟩ ?_
 rintro m st ⟨x,hx,rfl,rfl⟩
 have hbl:=qI4 l x
 have hbs:=qI3 l x
 rcases qLx 74 1 65 x (rows frmN ((scrF l).take x))with⟨hx0,e1,e2⟩|⟨hx0,e1,e2⟩<;>
 rcases qLx 68 1 3 (badN l x).length (ints (badN l x))with⟨hb0,e3,e4⟩|⟨hb0,e3,e4⟩
 all_goals
  simp only[e1,e2,e3,e4,List.nil_append,List.cons_append,push_cast,reduceIte,zA,zB,zC,zD,zE,zF,zG,reduceCtorEq,zH,zJ,cNI]
  refine qnY (fun h1=> ?_) fun h1=> ?_
  ·have hxl:x<l.length:=by omega
   have hmem:l.getD x default∈l:=by rw[zK,zL hxl];exact List.getElem_mem _
   have hwl:=hl.len _ hmem
   have hwo:=hl.ok _ hmem
   have hT:(scrF l).take (x+1)=(scrF l).take x++[(l.getD x default).map fixW]:=by
    rw[qEY _ x oM];simp[scrF,zK,hxl]
   have hct:cntF (l.take (x+1))=cntF (l.take x)+qDw (l.getD x default):=by rw[qEY l x hxl,qHN]
   have hcx:cntF (l.take x)<=100000000:=by
    have:=qHO (l:=l.take x) fun ws hws=>hl.len ws (List.mem_of_mem_take hws)
    rw[List.length_take]at this
    omega
   have hbs:badN l (x+1)=if qDv (l.getD x default)then badN l x else badN l x++[(x:Int)]:=hbs
   generalize hws:l.getD x default=ws at *
   refine qoP (fun m st=> ∃j:Nat,j<=ws.length/\m=ws.length-j/\st=⟨[(0,.sl false 1 (rows (frmC false) l)),(2,.ptr 2 0),(3,.ptr 3 0),(4,.int x),(5,.ptr 5 0),(6,.bool (decide (qDv (ws.take j)=false))),(7,.int j)],
    [(2,[.nil,.int 0,.nil]),(3,[nlV 74 x,.int (cntF (l.take x)+qDw (ws.take j):Nat),nlV 68 (badN l x).length]),(5,[nlV 61 j])],
    nlR 61 1 59 j (rows u64C (nats ((ws.take j).map fixW)))++(nlR 68 1 3 (badN l x).length (ints (badN l x))++nlR 74 1 65 x (rows frmN ((scrF l).take x))),[]⟩) ws.length ⟨0,oM,oM,?_⟩ ?_
   ·simp only[e1,e2,e3,e4,List.nil_append,List.cons_append,push_cast,reduceIte,zA,zB,zC,zD,zE,zF,zG,reduceCtorEq,zH,zJ,cNI]
    rfl
   rintro m st ⟨j,hj,rfl,rfl⟩
   rcases qLx 61 1 59 j (rows u64C (nats ((ws.take j).map fixW)))with⟨hj0,e5,e6⟩|⟨hj0,e5,e6⟩
   all_goals
    simp only[e1,e2,e3,e4,e5,e6,hws,qF0,List.nil_append,List.cons_append,rep1,List.set_cons_zero,zV,List.length_nil,push_cast,reduceIte,zA,zB,zC,zD,zE,zF,zG,reduceCtorEq,zH,zJ,cNI]
    refine⟨oM,hxl,?_⟩
    refine qnY (fun h2=> ?_) fun h2=> ?_
    ·have hj' :j<ws.length:=by omega
     have hmw:ws.getD j default∈ws:=by rw[zK,zL hj'];exact List.getElem_mem _
     have hwb:=hwo _ hmw
     have htk:=qEY ws j hj'
     have hde:=qL0 (ws.getD j default) hwb
     rw[qEZ]
     generalize ws.getD j default=w at *
     refine⟨oM,hxl,oM,hj',?_⟩
     by_cases h3:chkW w=2
     ·rw[if_pos h3]at hde
      have hok2:qDv (ws.take (j+1))=false:=by rw[htk,qHG,h3];simp
      have hcr:qDw (ws.take (j+1))=qDw (ws.take j):=by rw[htk,qLy _ _ h3]
      have hfx:fixW w=w:=qHY h3
      refine qoM hde ?_
      refine sB ?_
      refine qnY (fun h=>absurd h (by decide)) fun _=> ?_
      refine qrH ⟨[(0,.sl false 1 (rows (frmC false) l)),(2,.ptr 2 0),(3,.ptr 3 0),(4,.int x),(5,.ptr 5 0),(6,.bool (decide (qDv (ws.take (j+1))=false))),(7,.int j),(8,.sc (.int .u64 (fixW w:Nat)))],
       [(2,[.nil,.int 0,.nil]),(3,[nlV 74 x,.int (cntF (l.take x)+qDw (ws.take (j+1)):Nat),nlV 68 (badN l x).length]),(5,[nlV 61 j]),(9,[.sc (.int .u64 (0:Nat)),.int (0:Nat),.int 6])],
       nlR 61 1 59 j (rows u64C (nats ((ws.take j).map fixW)))++(nlR 68 1 3 (badN l x).length (ints (badN l x))++nlR 74 1 65 x (rows frmN ((scrF l).take x))),[]⟩ ?_ ?_
      ·rw[hok2,hcr,hfx]
       refine qrA rfl (fun h5=> ?_) fun h5=> ?_<;>simp only[e1,e2,e3,e4,e5,e6,List.nil_append,List.cons_append,push_cast,reduceIte,zA,zB,zC,zD,zE,zF,zG,reduceCtorEq,zH,zJ,cNI]
       all_goals try rfl
       done
      ·simp only[e1,e2,e3,e4,e5,e6,List.nil_append,List.cons_append,rep1,List.set_cons_zero,zV,List.length_nil,push_cast,reduceIte,zA,zB,zC,zD,zE,zF,zG,reduceCtorEq,zH,zJ,cNI]
       have hNl:(nats ((ws.take j).map fixW)).length=j:=by rw[qF0,yG,List.length_take];omega
       first
        |refine⟨oM,ws.length-(j+1),oM,j+1,oM,rfl,?_⟩
        |refine⟨oM,oM,ws.length-(j+1),oM,j+1,oM,rfl,?_⟩
       rw[qL3,qL4,htk,yH,show[w].map fixW=[fixW w]from rfl]
       first
        |(subst hj0;rfl)
        |(rw[qL5]<;>rfl)
     ·rw[if_neg h3]at hde
      have hok2:qDv (ws.take (j+1))=qDv (ws.take j):=by rw[htk,qHG];simp[h3]
      have hcr:qDw (ws.take (j+1))=qDw (ws.take j)+chkW w:=by rw[htk,qHH _ _ h3]
      have hfx:fixW w=encW (datW w):=qHZ h3
      have hcj:=qHI (ws.take j)
      rw[List.length_take]at hcj
      have hck:=qAf w
      refine qoM hde ?_
      refine sB ?_
      refine qoM (qKZ _ (qAr w)) ?_
      refine sB ?_
      refine⟨oM,?_⟩
      refine qrH ⟨[(0,.sl false 1 (rows (frmC false) l)),(2,.ptr 2 0),(3,.ptr 3 0),(4,.int x),(5,.ptr 5 0),(6,.bool (decide (qDv (ws.take (j+1))=false))),(7,.int j),(8,.sc (.int .u64 (fixW w:Nat)))],
       [(2,[.nil,.int 0,.nil]),(3,[nlV 74 x,.int (cntF (l.take x)+qDw (ws.take (j+1)):Nat),nlV 68 (badN l x).length]),(5,[nlV 61 j]),(9,[.sc (.int .u64 (datW w:Nat)),.int (chkW w:Nat),.int 0])],
       nlR 61 1 59 j (rows u64C (nats ((ws.take j).map fixW)))++(nlR 68 1 3 (badN l x).length (ints (badN l x))++nlR 74 1 65 x (rows frmN ((scrF l).take x))),[]⟩ ?_ ?_
      ·rw[hok2,hcr,hfx]
       have e7:((cntF (l.take x):Nat):Int)+(((qDw (ws.take j):Nat):Int)+((chkW w:Nat):Int))=((cntF (l.take x):Nat):Int)+((qDw (ws.take j):Nat):Int)+((chkW w:Nat):Int):=by omega
       refine qrA rfl (fun h5=> ?_) fun h5=> ?_<;>simp only[e1,e2,e3,e4,e5,e6,e7,List.nil_append,List.cons_append,push_cast,reduceIte,zA,zB,zC,zD,zE,zF,zG,reduceCtorEq,zH,zJ,cNI]
       ·rw[decide_eq_true h5]
       ·rw[decide_eq_false h5];rfl
      ·simp only[e1,e2,e3,e4,e5,e6,List.nil_append,List.cons_append,rep1,List.set_cons_zero,zV,List.length_nil,push_cast,reduceIte,zA,zB,zC,zD,zE,zF,zG,reduceCtorEq,zH,zJ,cNI]
       have hNl:(nats ((ws.take j).map fixW)).length=j:=by rw[qF0,yG,List.length_take];omega
       first
        |refine⟨oM,ws.length-(j+1),oM,j+1,oM,rfl,?_⟩
        |refine⟨oM,oM,ws.length-(j+1),oM,j+1,oM,rfl,?_⟩
       rw[qL3,qL4,htk,yH,show[w].map fixW=[fixW w]from rfl]
       first
        |(subst hj0;rfl)
        |(rw[qL5]<;>rfl)
    ·obtain rfl:j=ws.length:=by omega
     have hWF:(nats ((ws.take ws.length).map fixW)).take ws.length=nats (ws.map fixW):=by rw[List.take_length,zY (by rw[qF0,yG];exact Nat.le_refl _)]
     have hfN:frmN (ws.map fixW)=if ws.length=0 then[.nil]else[.sl true 1 (rows u64C (nats (ws.map fixW)))]:=by
      unfold frmN
      by_cases h0:ws.length=0
      ·rw[if_pos h0,if_pos (List.length_eq_zero_iff.1 (by rw[yG];exact h0))]
      ·rw[if_neg h0,if_neg (fun e=>by have:=congrArg List.length e;rw[yG]at this;exact h0 this)]
     have hFl:((scrF l).take x).length=x:=by rw[List.length_take];omega
     first|rw[if_pos hj0]at hfN|rw[if_neg hj0]at hfN
     rw[List.take_length]at hWF
     simp only[hWF,List.take_length,push_cast,reduceIte,zA,zB,zC,zD,zE,zF,zG,reduceCtorEq,zH,zJ,cNI]
     refine qnY (fun h3=> ?_) fun h3=> ?_
     ·rw[h3]at hbs
      have hbs:badN l (x+1)=badN l x++[(x:Int)]:=hbs
      have hbl1:(badN l x++[(x:Int)]).length=(badN l x).length+1:=by rw[zU];rfl
      first
       |refine⟨oM,l.length-(x+1),oM,x+1,oM,rfl,?_⟩
       |refine⟨oM,oM,l.length-(x+1),oM,x+1,oM,rfl,?_⟩
       |refine⟨oM,oM,oM,l.length-(x+1),oM,x+1,oM,rfl,?_⟩
      rw[hbs,hbl1,qL3,qL4,qL3,qL4,hT,qL6 frmN,hfN,hct]
      have hb00:(badN l x).length=0->badN l x=[]:=List.length_eq_zero_iff.1
      first
       |(subst hx0;rw[hb00 hb0];rfl)
       |(subst hx0;rfl)
       |(rw[hb00 hb0];rfl)
       |rfl
     ·rw[if_pos (by simpa using h3)]at hbs
      first
       |refine⟨oM,l.length-(x+1),oM,x+1,oM,rfl,?_⟩
       |refine⟨oM,oM,l.length-(x+1),oM,x+1,oM,rfl,?_⟩
      rw[hbs,e3,e4,qL3,qL4,hT,qL6,hfN,hct]
      first
       |(subst hx0;rfl)
       |rfl
  ·obtain rfl:x=l.length:=by omega
   have q0:l.length=0->scrF l=[]:=fun h=>by rw[List.length_eq_zero_iff.1 h];rfl
   have q1:(badN l l.length).length=0->badN l l.length=[]:=List.length_eq_zero_iff.1
   have q2:(scrF l).take l.length=scrF l:=zY oM
   have q3: ∀ws,ws∈scrF l-> ∀c,c∈frmN ws->Perm c:=fun ws _ y hy=>by
    obtain rfl:=List.mem_singleton.1 hy
    split<;>simp only[push_cast,reduceIte,zA,zB,zC,zD,zE,zF,zG,reduceCtorEq,zH,zJ,cNI]
    try simp
   have q4:Sub (.sl true 1 (rows frmN (scrF l))) (.sl true 1 (rows (frmC true) (scrF l))):=qG3 _ _ (fun h=>h) (fun _ _=>rfl) fun ws _=>qL2 ws
   simp only[q2,List.take_length]
   first
    |exact⟨q0 hx0,trivial,q1 hb0⟩
    |exact⟨fun _ _=>trivial,q0 hx0,trivial,.refl _⟩
    |exact⟨q3,q4,trivial,q1 hb0⟩
    |exact⟨⟨q3,fun _ _=>trivial⟩,q4,trivial,.refl _⟩
end Go.Proofs.YtecoaapkcnhlhaaGreatDoor
namespace Go.Proofs.YtecoaapkcnhlhaaGreatDoor
open Go Go.Vc Go.Ham Txt
theorem qLA(h w:Nat)(hh:h<2^64)(hw:w<2^64):FnEq Tryz.prog 76 [.sc (.int .u64 h),.sc (.int .u64 w)] (.sc (.int .u64 (dgS h w:Nat))):=by
 have hx:h^^^w<2^64:=Nat.xor_lt_two_pow hh hw
 have hA:dgA h w<2^64:=Nat.mod_lt _ (by decide)
 have e1:IntKind.u64.wrap (bitF .xor .u64 (h:Int) (w:Int)*15485907386658061715)=((dgA h w:Nat):Int):=by
  rw[qBn hh hw];exact qEK (h^^^w) 15485907386658061715
 have e2:IntKind.u64.wrap (bitF .xor .u64 (dgA h w:Int) (shfF .shr .u64 (dgA h w:Int) 32)*11562461410679940143)=((dgS h w:Nat):Int):=by
  rw[show shfF .shr .u64 (dgA h w:Int) 32=((dgA h w>>>32:Nat):Int)from(qBr _ 32 (by decide)).trans (by rw[Nat.shiftRight_eq_div_pow]),qBn hA (by rw[Nat.shiftRight_eq_div_pow];exact Nat.lt_of_le_of_lt (Nat.div_le_self _ _) hA)]
  exact qEK (dgA h w^^^dgA h w>>>32) 11562461410679940143
 refine FnEq.of_awp Tryz.func76 ok76 (by show 2<=_;decide) sC ?_
 simp only[ac76,rv76,e1,e2,push_cast,reduceIte,zA,zB,zC,zD,zE,zF,zG,reduceCtorEq,zH,zJ,cNI]
 try omega
theorem qLB(l:List Int)(hl:(l.length:Int)<=10000000):FnEq Tryz.prog 53 [.sl false 1 (ints l)] (.sc (.int .u64 (digW (l.map toW):Nat))):=by
 refine FnEq.of_awp Tryz.func53 ok53 (by show 1<=_;decide) (by simp only[push_cast,reduceIte,zA,zB,zC,zD,zE,zF,zG,reduceCtorEq,zH,zJ,cNI]<;>first|exact fun _ _=>trivial|simp) ?_
 simp only[ac53,rv53,push_cast,reduceIte,zA,zB,zC,zD,zE,zF,zG,reduceCtorEq,zH,zJ,cNI]
 refine qoP (fun n st=> ∃k:Nat,k<=l.length/\n=l.length-k/\st=⟨[(0,.sl false 1 (ints l)),(3,.sc (.int .u64 (qEw dig0 ((l.take k).map toW):Nat))),(4,.int k)],[],[],[]⟩) l.length ⟨0,oM,oM,?_⟩ ?_
 ·refine sB ?_
  rfl
 rintro n st ⟨k,hk,rfl,rfl⟩
 have hF:qEw dig0 ((l.take k).map toW)<2^64:=qEy _ _ (by decide)
 simp only[qEN,push_cast,reduceIte,zA,zB,zC,zD,zE,zF,zG,reduceCtorEq,zH,zJ,cNI]
 refine qnY (fun h=> ?_) fun h=> ?_
 ·refine⟨oM,oM,?_⟩
  refine qoM (qLA _ _ hF (qEM _)) ?_
  refine sB ?_
  refine⟨oM,l.length-(k+1),oM,k+1,oM,rfl,?_⟩
  rw[qEQ l k oM,yH,zW,List.map_nil,qEP]
  rfl
 ·obtain rfl:k=l.length:=by omega
  rw[List.take_length]at hF ⊢
  refine qoM (qLA _ _ hF (qEM _)) ?_
  refine sB ?_
  have:digW (l.map toW)=dgS (qEw dig0 (l.map toW)) (toW l.length):=by
   unfold digW
   rw[yG]
   congr 1
   unfold toW;omega
  rw[this]
theorem qLC(l:List (List Nat))(hl:FrmSm l):FnEq Tryz.prog 26 [.sl false 1 (rows (frmC false) l)] (.sc (.int .u64 (digF l:Nat))):=by
 have hn:=hl.n
 have e1: ∀x:Int,(List.replicate 1 (0:Int)).set 0 x=[x]:=fun _=>rfl
 refine FnEq.of_awp Tryz.func26 ok26 (by show 1<=_;decide) (by simp only[push_cast,reduceIte,zA,zB,zC,zD,zE,zF,zG,reduceCtorEq,zH,zJ,cNI]<;>first|exact fun _ _=>trivial|simp) ?_
 simp only[ac26,rv26,push_cast,reduceIte,zA,zB,zC,zD,zE,zF,zG,reduceCtorEq,zH,zJ,cNI]
 refine⟨by decide,?_⟩
 refine qoP (fun n st=> ∃k:Nat,k<=l.length/\n=l.length-k/\st=⟨[(0,.sl false 1 (rows (frmC false) l)),(3,.view 8 0 (qET l.length (l.take k)).length),(4,.int k)],[],[(8,⟨1,3,ints (qET l.length (l.take k))⟩)],[]⟩) l.length ⟨0,oM,oM,?_⟩ ?_
 ·simp only[e1,push_cast,reduceIte,zA,zB,zC,zD,zE,zF,zG,reduceCtorEq,zH,zJ,cNI]
  try rfl
 rintro n st ⟨k,hk,rfl,rfl⟩
 simp only[e1,push_cast,reduceIte,zA,zB,zC,zD,zE,zF,zG,reduceCtorEq,zH,zJ,cNI]
 refine qnY (fun h=> ?_) fun h=> ?_
 ·have hk' :k<l.length:=by omega
  have hmem:l.getD k default∈l:=by rw[zK,zL hk'];exact List.getElem_mem hk'
  have hw:=hl.len _ hmem
  have hnl:=qEX (l:=l.take k) (fun ws hws=>hl.len ws (List.mem_of_mem_take hws)) l.length
  have hnl2:(l.take k).length<=l.length:=by rw[List.length_take];omega
  have htk:=qEY l k hk'
  generalize hws:l.getD k default=ws at *
  refine⟨oM,hk',by decide,⟨oM,oM⟩,?_⟩
  refine qoP (fun m st=> ∃j:Nat,j<=ws.length/\m=ws.length-j/\st=⟨[(0,.sl false 1 (rows (frmC false) l)),(3,.view 8 0 (qET l.length (l.take k)++((ws.length:Int)::(ws.take j).map wI)).length),(4,.int k),(5,.int j)],[],[(8,⟨1,3,ints (qET l.length (l.take k)++((ws.length:Int)::(ws.take j).map wI))⟩)],[]⟩) ws.length ⟨0,oM,oM,?_⟩ ?_
  ·rw[zU,qF0];rfl
  rintro m st ⟨j,hj,rfl,rfl⟩
  have hll:(qET l.length (l.take k)++((ws.length:Int)::(ws.take j).map wI)).length=(qET l.length (l.take k)).length+1+j:=by
   rw[zU,zV,yG,List.length_take];omega
  simp only[hws,qF0,e1,push_cast,reduceIte,zA,zB,zC,zD,zE,zF,zG,reduceCtorEq,zH,zJ,cNI]
  refine⟨oM,oM,?_⟩
  refine qnY (fun h2=> ?_) fun h2=> ?_
  ·have hTj:=qEY ws j oM
   have e: ∀(A X:List Int) (n y:Int),A++n::(X++[y])=A++n::X++[y]:=fun A X n y=>by simp
   refine⟨oM,hk',oM,oM,by decide,⟨oM,oM⟩,oM,ws.length-(j+1),oM,j+1,oM,rfl,?_⟩
   rw[qEZ,hTj,yH,zW,List.map_nil,e]
   simp only[zU,zV,List.length_nil,yG]
   rfl
  ·obtain rfl:j=ws.length:=by omega
   rw[List.take_length]
   refine⟨oM,l.length-(k+1),oM,k+1,oM,rfl,?_⟩
   rw[htk,qF1]
   rfl
 ·obtain rfl:k=l.length:=by omega
  rw[List.take_length]
  have hnl:=qEX hl.len l.length
  refine qrv (qLB (qET l.length l) oM) (by exact⟨.refl _,trivial⟩) ?_
  refine sB ?_
  rw[qEW hl.ok (fun ws hws=>by have:=hl.len ws hws;omega) oM]
  rfl
end Go.Proofs.YtecoaapkcnhlhaaGreatDoor
namespace Go.Proofs.YtecoaapkcnhlhaaGreatDoor.Txt
open Go Go.Vc
set_option maxRecDepth 100000
def ac15n:AC:=
 (.seq (.reg [0,35,0,1] [
 xT 2 0,mK 4 0])
 (.seq (.reg [0,35,1,2] [
 mT 6 1,fA 7 2 2,lF 8 1 7,aO 9 (.ari .mul true .i64 (kI 2) (.t 8)),aO 10 (.ari .add true .i64 (kI 6) (.t 9)),aO 11 (.dvd .quo false .i64 (.t 6) (.t 10)),mT 5 11])
 (.seq (.block 0
 (.seq (.reg [0,35,1,2,5] [
 mT 13 1,aO 14 (.cmp .lss .i64 (.t 13) (kI 0)),mT 15 14,uA 16 15 (.mv (.t 1)),uA 17 15 (.ld true 5 (.t 2)),uA 18 15 (.cal 40 [(.t 17)]),uA 19 15 (.cmp .geq .i64 (.t 16) (.t 18)),aO 20 (uG 15 19),mT 12 20])
 (.cut [0,35,2,5,12] (.cond (.t 12)
 (.seq (.reg [0,35] [
 mK 4 (-1)])
 .ret)
 (.seq (.reg [0,35,2,5] [
 mT 22 5,fA 23 0 2,lF 24 1 23,fA 25 1 2,lF 26 1 25,aO 27 (.ari .mul true .i64 (.t 24) (.t 26)),aO 28 (.cmp .geq .i64 (.t 22) (.t 27)),mT 21 28])
 (.cond (.t 21)
 (.seq (.reg [0,35,2] [
 fA 29 0 2,lF 30 1 29,mT 4 30])
 .ret)
 .skip))))))
 (.seq (.reg [0,35,2,5] [
 mT 31 5,fA 32 0 2,lF 33 1 32,aO 34 (.dvd .rem false .i64 (.t 31) (.t 33)),mT 4 34])
 .ret))))
def rv15n:List RV:=[.tmp 4]
theorem ok15n:fnOk Tryz.prog ac15n rv15n Tryz.f15=true:=by kernel_rfl
end Go.Proofs.YtecoaapkcnhlhaaGreatDoor.Txt
namespace Go.Proofs.YtecoaapkcnhlhaaGreatDoor
open Go Go.Vc Go.Ham Txt
def colA(g:Grid)(n:Int):Int:=if n<0 then -1 else colF g n
theorem qLD(g:Grid)(hg:GOk g)(n:Int):FnEq Tryz.prog 15 [.agg (quX false g),.int n] (.int (colA g n)):=by
 have h1:=hg.count
 have h2:=hg.each
 have h3:=hg.tracks
 have h4:=hg.w
 have h5:=hg.wh
 have he:6+2*g.tracks=qv1 g:=rfl
 unfold colA
 refine FnEq.of_awp Tryz.func15 ok15n (by show 2<=_;decide) sC ?_
 simp only[ac15n,rv15n,push_cast,reduceIte,zA,zB,zC,zD,zE,zF,zG,reduceCtorEq,zH,zJ,cNI]
 refine⟨⟨oM,oM⟩,⟨oM,oM⟩,oM,?_⟩
 rw[he]
 refine qrH ⟨[(2,.ptr 2 0),(5,.int (IntKind.i64.wrap (n.tdiv (qv1 g)))),(12,.bool (decide (n<0\/qv2 g<=n)))],[(2,quX false g)],[],[]⟩ ?_ ?_
 ·refine qrA rfl (fun h=> ?_) fun h=> ?_<;>simp only[push_cast,reduceIte,zA,zB,zC,zD,zE,zF,zG,reduceCtorEq,zH,zJ,cNI]
  ·rw[decide_eq_true (.inl h)]
  ·refine qrv (qv5 g hg) sC ?_
   refine sB ?_
   rw[show decide (n<0\/qv2 g<=n)=decide (qv2 g<=n)from decide_eq_decide.2 oM]
 ·refine sB ?_
  refine qnY (fun h=> ?_) fun h=> ?_
  ·by_cases h0:n<0
   ·rw[if_pos h0]
   ·rw[if_neg h0];unfold colF;rw[if_pos oM]
  ·have ht : IntKind.i64.wrap (n.tdiv (qv1 g)) = n / qv1 g := by
    rw[Int.tdiv_eq_ediv_of_nonneg oM]
    have:=Int.ediv_nonneg (show 0<=n by omega) (show 0<=qv1 g by omega)
    have:=Int.ediv_le_self (qv1 g) (show 0<=n by omega)
    exact qap (by simp only[ikLo];omega) (by simp only[ikHi];omega)
   have hq:0<=n/qv1 g:=Int.ediv_nonneg oM oM
   rw[ht,if_neg oM]
   unfold colF
   rw[if_neg oM]
   refine⟨⟨oM,oM⟩,?_⟩
   refine qnY (fun h=> ?_) fun h=> ?_
   ·rw[if_pos h]
   ·rw[if_neg h]
    refine⟨oM,?_⟩
    rw[Int.tmod_eq_emod_of_nonneg hq]
theorem qLE(g:Grid)(hg:GOk g)(n:Int):FnEq Tryz.prog 16 [.agg (quX false g),.int n] (.int (colA g n)):=by
 have h1:=hg.count
 have h2:=hg.each
 have h3:=hg.tracks
 have h4:=hg.w
 have h5:=hg.wh
 unfold colA
 refine FnEq.of_awp Tryz.func16 ok16 (by show 2<=_;decide) (by simp only[push_cast,reduceIte,zA,zB,zC,zD,zE,zF,zG,reduceCtorEq,zH,zJ,cNI]<;>first|exact fun _ _=>trivial|simp) ?_
 simp only[ac16,rv16,push_cast,reduceIte,zA,zB,zC,zD,zE,zF,zG,reduceCtorEq,zH,zJ,cNI]
 refine qrH ⟨[(1,.int n),(2,.ptr 2 0),(13,.bool (decide (n<0\/qv2 g<=n)))],[(2,quX false g)],[],[]⟩ ?_ ?_
 ·refine qrA rfl (fun h=> ?_) fun h=> ?_<;>simp only[push_cast,reduceIte,zA,zB,zC,zD,zE,zF,zG,reduceCtorEq,zH,zJ,cNI]
  ·rw[decide_eq_true (.inl h)]
  ·refine qrv (qv7 g hg) sC ?_
   refine sB ?_
   rw[show decide (n<0\/qv2 g<=n)=decide (qv2 g<=n)from decide_eq_decide.2 oM]
 ·refine sB ?_
  refine qnY (fun h=> ?_) fun h=> ?_
  ·by_cases h0:n<0
   ·rw[if_pos h0]
   ·rw[if_neg h0];unfold colF;rw[if_pos oM]
  ·have hq:0<=n/qv1 g:=Int.ediv_nonneg oM oM
   have hq2:=Int.ediv_le_self (qv1 g) (show 0<=n by omega)
   refine qrv (qv6 g hg) sC ?_
   refine sB ?_
   rw[if_neg oM]
   unfold colF
   rw[if_neg oM]
   refine⟨oM,oM,?_⟩
   refine qnY (fun h=> ?_) fun h=> ?_
   ·rw[if_pos h]
   ·rw[if_neg h]
    exact⟨oM,rfl⟩
end Go.Proofs.YtecoaapkcnhlhaaGreatDoor
namespace Go.Proofs.YtecoaapkcnhlhaaGreatDoor.Txt
open Go Go.Vc
set_option maxRecDepth 100000
def ac3:AC:=
 (.seq (.reg [0,250,0,1,2] [
 xT 3 0,xT 5 2,aO 6 (.mv bF)])
 (.seq (.reg [0,250,1,3,5] [
 aO 21 (.cal 4 []),mT 7 21])
 (.seq (.seq (.rgs [
 ([0,250,1,3,5,7],[
 mT 22 7,aO 23 (.not (.t 22)),mT 24 23,uA 25 24 (.ld true 5 (.t 3)),uA 26 24 (.cal 5 [(.t 25)]),uA 27 24 (.not (.t 26)),aO 28 (uG 24 27),mT 29 28,uA 30 29 (.ld true 10 (.t 5)),uA 31 29 (.cal 6 [(.t 30)]),uA 32 29 (.not (.t 31)),aO 33 (uG 29 32)]),([0,250,1,3,5,7,33],[
 mT 34 33,uA 35 34 (.mv (.t 1)),uA 36 34 (.len (.t 35)),uA 37 34 (.cmp .gtr .i64 (.t 36) (kI 100)),aO 38 (uG 34 37)])])
 (.cut [0,250,1,3,5,7,38] (.cond (.t 38)
 (.seq (.reg [0,250,7] [
 mT 39 7,mT 6 39])
 .ret)
 .skip)))
 (.seq (.reg [0,250,1,3,5,7] [
 uE 40 5 3,aO 41 (.cal 7 [(.t 40)]),aO 8 (.alc [zI,zI,zI,zI,.nil]),sT 5 8 41])
 (.seq (.reg [0,250,1,5,7,8] [
 uE 42 5 8,mT 43 1,aO 44 (.cal 8 [(.t 42),(.t 43)]),aO 9 (.alc [.nil,.nil,.nil,.nil]),sT 4 9 44])
 (.seq (.reg [0,250,5,7,8,9] [
 uE 45 5 8,uE 46 4 9,aO 47 (.cal 9 [(.t 45),(.t 46)]),aO 10 (.alc [.nil,zI]),sT 2 10 47])
 (.seq (.reg [0,250,5,7,8,9,10] [
 uE 48 5 8,fA 49 1 5,uE 50 4 49,aO 51 (.cal 9 [(.t 48),(.t 50)]),aO 11 (.alc [.nil,zI]),sT 2 11 51])
 (.seq (.reg [0,250,5,7,8,9,10,11] [
 uE 52 5 8,fA 53 1 5,uE 54 4 53,aO 55 (.cal 10 [(.t 52),(.t 54)]),aO 12 (.alc [.nil,zI]),sT 2 12 55])
 (.seq (.seq (.drw [0,250,5,7,8,9,10,11,12] [
 eF 56 (.fa 1 (.t 10)),eF 57 (.ld false 1 (.t 56)),eF 58 (.cmp .neq .i64 (.t 57) (kI 0)),eF 59 (.mv (.t 58)),uC 60 59 (.fa 0 (.t 10)),uC 61 59 (.ld false 1 (.t 60)),uC 62 59 (.ld true 5 (.t 8)),uC 63 59 (.ld true 4 (.t 9)),uC 64 59 (.cal 10 [(.t 62),(.t 63)]),uC 65 59 (.fl false 0 1 (.t 64)),⟨uA 66 59 (.cal 11 [(.t 61),(.t 65)]),[],[],false⟩,⟨uA 67 59 (.not (.t 66)),[],[],false⟩,eF 68 (uG 59 67),eF 69 (.mv (.t 68)),uC 70 69 (.fa 1 (.t 11)),uC 71 69 (.ld false 1 (.t 70)),uC 72 69 (.fa 1 (.t 12)),uC 73 69 (.ld false 1 (.t 72)),⟨uA 74 69 (.cmp .neq .i64 (.t 71) (.t 73)),[],[],false⟩,eF 75 (uG 69 74),eF 76 (.mv (.t 75)),uC 77 76 (.fa 0 (.t 11)),uC 78 76 (.ld false 1 (.t 77)),uC 79 76 (.fa 0 (.t 12)),uC 80 76 (.ld false 1 (.t 79)),⟨uA 81 76 (.cal 11 [(.t 78),(.t 80)]),[],[],false⟩,⟨uA 82 76 (.not (.t 81)),[],[],false⟩,eF 83 (uG 76 82),eF 84 (.mv (.t 83)),uC 85 84 (.ld true 5 (.t 8)),uC 86 84 (.cal 13 [(.t 85)]),uC 87 84 (.ld true 5 (.t 8)),⟨uA 88 84 (.cal 14 [(.t 87)]),[],[],false⟩,⟨uA 89 84 (.cal 12 [(.t 86),(.t 88)]),[],[],false⟩,⟨uA 90 84 (.not (.t 89)),[],[],false⟩,eF 91 (uG 84 90),eF 92 (.mv (.t 91)),uC 93 92 (.ld true 5 (.t 8)),uC 94 92 (.fa 8 (.t 5)),uC 95 92 (.ld false 1 (.t 94)),uC 96 92 (.cal 15 [(.t 93),(.t 95)]),uC 97 92 (.ld true 5 (.t 8)),uC 98 92 (.fa 8 (.t 5)),uC 99 92 (.ld false 1 (.t 98)),⟨uA 100 92 (.cal 16 [(.t 97),(.t 99)]),[],[],false⟩,⟨uA 101 92 (.cmp .neq .i64 (.t 96) (.t 100)),[],[],false⟩,eF 102 (uG 92 101)])
 (.cut [0,250,5,7,8,10,102] (.cond (.t 102)
 (.seq (.reg [0,250] [
 aO 6 (.mv bF)])
 .ret)
 .skip)))
 (.seq (.drw [0,250,5,7,8,10] [
 eU 103 (.fa 0 (.t 10)) [] [110],eU 104 (.ld false 1 (.t 103)) [] [110],eU 105 (.fa 9 (.t 5)) [] [110],eU 106 (.ld false 1 (.t 105)) [] [110],eU 107 (.cal 17 [(.t 104),(.t 106)]) [] [110],eU 108 (.fa 0 (.t 5)) [] [110,113,116],eU 109 (.ld false 1 (.t 108)) [] [110,113,116],eU 110 (.bsl 1 65 [.nil] 0 []) [110] [],eU 111 (.fa 0 (.t 10)) [] [110],eU 112 (.ld false 1 (.t 111)) [] [110],eU 113 (.app 1 65 24 (.t 110) (.t 112)) [113,110] [],eU 114 (.fa 0 (.t 5)) [] [110,113],eU 115 (.ld false 1 (.t 114)) [] [110,113],eU 116 (.app 1 65 24 (.t 113) (.t 115)) [116,113,110] [],eF 117 (.bsl 1 25 [.nil] 3 [(0,(.t 107)),(1,(.t 109)),(2,(.t 116))]),eF 13 (.mv (.t 117))])
 (.seq (.seq (.reg [0,250,5,7,8,10,13] [
 mK 14 0])
 (.block 0
 (.loop [0,250,5,7,8,10,13,14]
 (.seq (.seq (.reg [0,250,5,7,8,10,13,14] [
 mT 118 14,mT 119 13,nT 120 119,lS 121 118 120])
 (.cond (.t 121)
 .skip
 (.exit 0)))
 (.seq (.block 1
 (.seq (.drw [0,250,5,7,8,10,13,14] [
 eU 124 (.ld true 5 (.t 8)) [] [15],eU 125 (.mv (.t 13)) [] [15],eU 126 (.mv (.t 14)) [] [15],eU 127 (.ixs 1 (.t 125) (.t 126)) [] [15],eU 128 (.ld false 1 (.t 127)) [] [15],eU 129 (.cal 18 [(.t 124),(.t 128)]) [] [15],eU 15 (.alc [.nil,.nil,.nil,.nil,zI,zI]) [15] [],⟨sT 6 15 129,[],[],false⟩])
 (.seq (.drw [0,250,5,7,8,10,13,14,15] [
 eU 130 (.ld true 5 (.t 8)) [] [16],eU 131 (.mv (.t 13)) [] [16],eU 132 (.mv (.t 14)) [] [16],eU 133 (.ixs 1 (.t 131) (.t 132)) [] [16],eU 134 (.ld false 1 (.t 133)) [] [16],eU 135 (.cal 19 [(.t 130),(.t 134)]) [] [16],eU 16 (.alc [.nil,.nil,.nil,.nil,zI,zI]) [16] [],⟨sT 6 16 135,[],[],false⟩])
 (.seq (.reg [0,250,5,7,8,10,13,14,15,16] [
 mT 136 13,mT 137 14,iX 138 1 136 137,lF 139 1 138,aO 140 (.cal 20 [(.t 139)]),aO 17 (.alc [.nil,zI,.nil]),sT 3 17 140])
 (.seq (.reg [0,250,5,7,8,10,13,14,15,16,17] [
 mT 141 13,mT 142 14,iX 143 1 141 142,lF 144 1 143,aO 145 (.cal 21 [(.t 144)]),aO 18 (.alc [.nil,zI,.nil]),sT 3 18 145])
 (.seq (.drw [0,250,5,7,8,10,13,14,15,16,17,18] [
 eU 146 (.mv (.t 13)) [] [19],eU 147 (.mv (.t 14)) [] [19],eU 148 (.ixs 1 (.t 146) (.t 147)) [] [19],eU 149 (.ld false 1 (.t 148)) [] [19],eU 150 (.fa 5 (.t 5)) [] [19],eU 151 (.ld true 3 (.t 150)) [] [19],eU 152 (.cal 22 [(.t 149),(.t 151)]) [] [19],eU 19 (.alc [.nil,zI]) [19] [],⟨sT 2 19 152,[],[],false⟩])
 (.seq (.drw [0,250,5,7,8,10,13,14,15,16,17,18,19] [
 eU 153 (.mv (.t 13)) [] [20],eU 154 (.mv (.t 14)) [] [20],eU 155 (.ixs 1 (.t 153) (.t 154)) [] [20],eU 156 (.ld false 1 (.t 155)) [] [20],eU 157 (.fa 5 (.t 5)) [] [20],eU 158 (.ld true 3 (.t 157)) [] [20],eU 159 (.cal 23 [(.t 156),(.t 158)]) [] [20],eU 20 (.alc [.nil,zI]) [20] [],⟨sT 2 20 159,[],[],false⟩])
 (.seq (.drw [0,250,5,7,8,10,13,14,15,16,17,18,19,20] [
 eA 160 5 15,eL 161 1 160,eA 162 5 16,eL 163 1 162,eF 164 (.cmp .neq .i64 (.t 161) (.t 163)),eF 165 (.mv (.t 164)),uC 166 165 (.fa 4 (.t 15)),uC 167 165 (.ld false 1 (.t 166)),uC 168 165 (.fa 4 (.t 16)),uC 169 165 (.ld false 1 (.t 168)),⟨uA 170 165 (.cmp .neq .i64 (.t 167) (.t 169)),[],[],false⟩,eF 171 (uG 165 170),eF 172 (.mv (.t 171)),uC 173 172 (.fa 0 (.t 15)),uC 174 172 (.ld true 4 (.t 173)),uC 175 172 (.fa 0 (.t 16)),uC 176 172 (.ld true 4 (.t 175)),⟨uA 177 172 (.cal 24 [(.t 174),(.t 176)]),[],[],false⟩,⟨uA 178 172 (.not (.t 177)),[],[],false⟩,eF 179 (uG 172 178),eF 180 (.mv (.t 179)),uC 181 180 (.fa 1 (.t 17)),uC 182 180 (.ld false 1 (.t 181)),uC 183 180 (.fa 1 (.t 18)),uC 184 180 (.ld false 1 (.t 183)),⟨uA 185 180 (.cmp .neq .i64 (.t 182) (.t 184)),[],[],false⟩,eF 186 (uG 180 185),eF 187 (.mv (.t 186)),uC 188 187 (.fa 0 (.t 17)),uC 189 187 (.ld false 1 (.t 188)),uC 190 187 (.fa 0 (.t 18)),uC 191 187 (.ld false 1 (.t 190)),⟨uA 192 187 (.cal 11 [(.t 189),(.t 191)]),[],[],false⟩,⟨uA 193 187 (.not (.t 192)),[],[],false⟩,eF 194 (uG 187 193),eF 195 (.mv (.t 194)),uC 196 195 (.fa 2 (.t 17)),uC 197 195 (.ld false 1 (.t 196)),uC 198 195 (.fa 2 (.t 18)),uC 199 195 (.ld false 1 (.t 198)),⟨uA 200 195 (.cal 12 [(.t 197),(.t 199)]),[],[],false⟩,⟨uA 201 195 (.not (.t 200)),[],[],false⟩,eF 202 (uG 195 201),eF 203 (.mv (.t 202)),uC 204 203 (.fa 1 (.t 19)),uC 205 203 (.ld false 1 (.t 204)),uC 206 203 (.fa 1 (.t 20)),uC 207 203 (.ld false 1 (.t 206)),⟨uA 208 203 (.cmp .neq .i64 (.t 205) (.t 207)),[],[],false⟩,eF 209 (uG 203 208),eF 210 (.mv (.t 209)),uC 211 210 (.fa 0 (.t 19)),uC 212 210 (.ld false 1 (.t 211)),uC 213 210 (.fa 0 (.t 20)),uC 214 210 (.ld false 1 (.t 213)),⟨uA 215 210 (.cal 11 [(.t 212),(.t 214)]),[],[],false⟩,⟨uA 216 210 (.not (.t 215)),[],[],false⟩,eF 217 (uG 210 216),eF 218 (.mv (.t 217)),uC 219 218 (.mv (.t 13)),uC 220 218 (.mv (.t 14)),uC 221 218 (.ixs 1 (.t 219) (.t 220)),uC 222 218 (.ld false 1 (.t 221)),uC 223 218 (.cal 25 [(.t 222)]),uC 224 218 (.mv (.t 13)),uC 225 218 (.mv (.t 14)),uC 226 218 (.ixs 1 (.t 224) (.t 225)),uC 227 218 (.ld false 1 (.t 226)),⟨uA 228 218 (.cal 26 [(.t 227)]),[],[],false⟩,⟨uA 229 218 (.cmp .neq .u64 (.t 223) (.t 228)),[],[],false⟩,eF 230 (uG 218 229),eF 231 (.mv (.t 230)),uC 232 231 (.mv (.t 13)),uC 233 231 (.mv (.t 14)),uC 234 231 (.ixs 1 (.t 232) (.t 233)),uC 235 231 (.ld false 1 (.t 234)),uC 236 231 (.fa 0 (.t 10)),uC 237 231 (.ld false 1 (.t 236)),uC 238 231 (.cal 27 [(.t 235),(.t 237)]),uC 239 231 (.mv (.t 13)),uC 240 231 (.mv (.t 14)),uC 241 231 (.ixs 1 (.t 239) (.t 240)),uC 242 231 (.ld false 1 (.t 241)),uC 243 231 (.fa 0 (.t 10)),uC 244 231 (.ld false 1 (.t 243)),⟨uA 245 231 (.cal 28 [(.t 242),(.t 244)]),[],[],false⟩,⟨uA 246 231 (.cal 12 [(.t 238),(.t 245)]),[],[],false⟩,⟨uA 247 231 (.not (.t 246)),[],[],false⟩,eF 248 (uG 231 247)])
 (.cut [0,250,5,7,8,10,13,14,248] (.cond (.t 248)
 (.seq (.reg [0,250] [
 aO 6 (.mv bF)])
 .ret)
 .skip))))))))))
 (.reg [0,250,5,7,8,10,13,14] [
 mT 122 14,uF 123 122 1,mT 14 123]))))))
 (.seq (.reg [0,250,7] [
 mT 249 7,mT 6 249])
 .ret))))))))))))
def rv3:List RV:=[.tmp 6]
theorem ok3:fnOk Tryz.prog ac3 rv3 Tryz.f3=true:=by kernel_rfl
end Go.Proofs.YtecoaapkcnhlhaaGreatDoor.Txt
