/- IF TxtF HW HX TxtC HU HY HZ VcZy VcZz IGa: lemmas -/
import Derived.Test.YtecoaapkcnhlhaaGreatDoorPart11
import Derived.Test.YtecoaapkcnhlhaaGreatDoorPart09
import Derived.Test.YtecoaapkcnhlhaaGreatDoorPart10
import Derived.Test.YtecoaapkcnhlhaaGreatDoorPart05
import Derived.Test.YtecoaapkcnhlhaaGreatDoorChecked
set_option linter.unusedSimpArgs false
set_option linter.unusedVariables false
open Bool renaming and_eq_true->zN
open List renaming getD_eq_getElem?_getD->zK,getElem?_eq_getElem->zL,getElem?_eq_some_iff->zM,mem_of_getElem? ->zP,getElem?_map->zS,mem_cons_of_mem->zT,length_append->zU,length_cons->zV,map_cons->zW,mem_cons_self->zX,take_of_length_le->zY,take_succ_eq_append_getElem->zZ,any_eq_false->yD,all_eq_true->yE,length_map->yG,map_append->yH
open Int renaming reduceToNat->zH,reduceNeg->zJ
open Nat renaming reduceEqDiff->zA,reduceAdd->zB,reduceSub->zC,reduceMul->zD,reduceBEq->zE,reduceLT->zF,reduceLeDiff->zG
namespace Go.Proofs.YtecoaapkcnhlhaaGreatDoor
open Go Go.Vc Go.Ham Txt
def qDQ(g:Grid)(fs:List Fld):List Int:=(List.range (wN g+1)).map fun x=>(qBV fs x:Int)
theorem qDR{m:Nat}(x:Nat): ∀(fs:List Fld),(∀f∈fs,f.n<=m)->qBV fs x<=m*fs.length
 |[],_=>Nat.zero_le _
 | f :: r, h => by
   have h1:=qDR x r fun f hf=>h f (zT _ hf)
   have h2:=h f zX
   rw[qBV,zV,Nat.mul_add,Nat.mul_one]
   split<;>omega
theorem qDS(g:Grid)(x a n:Nat):(qCh g x a n).length=n:=by simp[qCh]
theorem qDT(g:Grid)(x:Nat): ∀k,(qCk g x k).length=k*(eN g+3)
 |0=>by simp[qCk]
 |k+1=>by rw[qCp,zU,qDT g x k,qCj,zU,qDS,Nat.add_mul,Nat.one_mul];rfl
theorem qDU(g:Grid): ∀k,(qCl g k).length=k*(hN g*(eN g+3))
 |0=>by simp[qCl]
 |k+1=>by rw[qCo,zU,qDU g k,qDT,Nat.add_mul,Nat.one_mul]
theorem qDV{g:Grid}(hg:GOk g):(qCn g).length<=10000000:=by
 have hn:=hg.n
 have hc:=hg.count
 have hcc:=hn.c
 have h1:hN g*(eN g+3)<=64*137:=Nat.mul_le_mul hn.h2 (by have:=hn.e2;omega)
 have h2:wN g*(hN g*(eN g+3))<=64*(64*137):=Nat.mul_le_mul hn.w2 h1
 rw[qCn,zU,qDU,qCm,qDS]
 omega
theorem qDW: ∀(k n:Nat),Go.Lib.bitLenAux k n<=k
 |0,_=>Nat.le_refl _
 | k + 1, n => by
   have h:=qDW k
   unfold Go.Lib.bitLenAux
   split<;>first|omega|(have:=h (n/2);omega)
theorem qDX{g:Grid}(hg:GOk g){fs:List Fld}(h:fs<+:qCn g)(x:Nat):qBV fs x<=1000000000:=by
 obtain⟨r,hr⟩:=h
 have h1:=qDR (m:=64) x (qCn g) fun f hf=>by
  rcases(qD5 hg hf).key with h|h|h|h<;>rw[h.2.2]<;>first|exact qDW 64 _|decide
 rw[<- hr,qBZ]at h1
 have:=qDV hg
 rw[hr]at h1
 omega
theorem qDY(g:Grid)(fs:List Fld):(qDQ g fs).length=wN g+1:=by simp[qDQ]
theorem qDZ{g:Grid}{x:Nat}(h:x<=wN g)(fs:List Fld):(qDQ g fs).getD x default=(qBV fs x:Int):=by
 rw[zK,qDQ,zS,List.getElem?_range oM];rfl
theorem qE0{g:Grid}{f:Fld}(fs:List Fld):(qDQ g fs).set f.x ((qBV fs f.x:Int)+f.n)=qDQ g (fs++[f]):=by
 refine List.ext_getElem (by simp[qDQ]) fun i h1 h2=> ?_
 rw[List.getElem_set]
 simp only[qDQ,List.getElem_map,List.getElem_range,qBZ,qBV]
 split
 all_goals first|omega|simp_all
theorem qE1(l:List Int):farV (.sl true 1 (ints l)):=⟨fun _ _=>⟨rfl,rfl⟩,fun _ _ _=>⟨rfl,rfl⟩⟩
theorem qE2(g:Grid):qDQ g []=List.replicate (wN g+1) 0:=by
 rw[List.eq_replicate_iff]
 refine⟨by simp[qDQ],fun b hb=> ?_⟩
 obtain⟨x,_,rfl⟩:=List.mem_map.1 hb
 rfl
set_option maxHeartbeats 4000000 in
theorem qE3(g:Grid)(hg:GOk g):FnM (Env.of Tryz.prog) 37 [.agg (quX false g)] ⟨[],[],[],[]⟩ (fun v st' =>v= .view 62 0 (wN g+1)/\ ∃b,st' =⟨[],b,[(62,⟨1,3,ints (qDQ g (qCn g))⟩)],[]⟩):=by
 have hn:=hg.n
 have hb:=qy7 g hg
 refine quf 50 Tryz.func37 ok37_50 (by show 1<=_;decide) rfl (by decide) ?_
 simp only[ac37_50,rv37_50,push_cast,reduceIte,zA,zB,zC,zD,zE,zF,zG,reduceCtorEq,zH,zJ,cNI]
 refine qrv hb sC ?_
 refine sB ?_
 have hw:=hg.w
 have hw2:=hn.w
 refine⟨⟨oM,oM⟩,⟨oM,oM,oM,oM⟩,?_⟩
 rw[show(g.w+1).toNat=wN g+1 by omega,List.length_replicate,<- qE2 g]
 have hF : FnM (Env.of Tryz.prog) 58 [.agg (quX false g), .ptr 53 0] ⟨[(51, .ptr 51 0), (53, .ptr 53 0), (54, .ptr 54 0), (63, .agg (quX false g))], [(51, quX false g), (53, cfgC true (qxc g)), (54, [.view 62 0 (wN g + 1 : Nat)])], [(62, ⟨1, 3, ints (qDQ g [])⟩)], []⟩
   (fun v st' =>v= .clo 82 [103,102,105]/\st' =⟨[(51,.ptr 51 0),(53,.ptr 53 0),(54,.ptr 54 0),(63,.agg (quX false g))],[(51,quX false g),(53,cfgC true (qxc g)),(54,[.view 62 0 (wN g+1:Nat)]),(102,quX false g),(103,[.ptr 53 0]),(105,[.int (qv1 g)])],[(62,⟨1,3,ints (qDQ g [])⟩)],[]⟩):=by
  refine quf 100 Tryz.func58 ok58_100 (by show 2<=_;decide) rfl (by decide) ?_
  have ht:=hg.tracks
  simp only[ac58_100,rv58_100,push_cast,reduceIte,zA,zB,zC,zD,zE,zF,zG,reduceCtorEq,zH,zJ,cNI]
  exact⟨⟨oM,oM⟩,⟨oM,oM⟩,rfl⟩
 refine qsP hF ?_
 refine sB ?_
 refine qud (st1:=⟨[(54,.ptr 54 0),(64,.clo 82 [103,102,105])],[(51,quX false g),(53,cfgC true (qxc g)),(54,[.view 62 0 (wN g+1)]),(102,quX false g),(103,[.ptr 53 0]),(105,[.int (qv1 g)])],[(62,⟨1,3,ints (qDQ g [])⟩)],[]⟩) (Env.of_noY _) rfl sC
  (qDd (s:=[(54,.ptr 54 0),(64,.clo 82 [103,102,105])]) rfl (by show 76<=200;decide) (fun _ _ h=>h) rfl g hg 103 102 105 53 _ _ _ _ _ (fun _=>[(51,quX false g),(53,cfgC true (qxc g)),(54,[.view 62 0 (wN g+1)]),(102,quX false g),(103,[.ptr 53 0]),(105,[.int (qv1 g)]),(204,[.yl 999])]) (fun pre=>[(62,⟨1,3,ints (qDQ g pre)⟩)]) rfl rfl rfl sC sC (fun pre hp=>⟨rfl,rfl,rfl,rfl,rfl⟩) (fun pre hp=>⟨rfl,rfl,rfl,rfl⟩) ?_ ⟨by decide,by decide,by decide,by decide⟩ ⟨qE1 _,qE1 _,qE1 _,qE1 _⟩ ?_) ?_
 ·have hc:=hn.c
  have hk:=hn.k
  refine⟨?_,?_,?_,?_⟩<;>simp[qCS,qxc,cN,hk,rows]
 ·intro pre f hpf t ht h4 hft
  have hm:midL 50 26 ([(54,.ptr 54 0),(64,.clo 82 [103,102,105])]++t)=[(54,.ptr 54 0),(64,.clo 82 [103,102,105])]:=by
   rw[List.cons_append,List.cons_append,List.nil_append,qtU,qtU,qCQ fun x hx=>by have:=h4 x hx;omega]
   rfl
  have hs:qtX 1000 ([(54,.ptr 54 0),(64,.clo 82 [103,102,105])]++t)=true:=by simpa[qtX]using ht
  refine qCC rfl rfl hs ?_
  rw[hm]
  have hS: ∀j,1000<=j->farL j ([(54,.ptr 54 0),(64,.clo 82 [103,102,105])]++t):=by
   intro j hj
   have n1: ∀i,i<1000->(i==j)=false:=fun i hi=>beq_false_of_ne oM
   simp only[qCX,n1 54 (by decide),n1 103 (by decide),n1 102 (by decide),n1 105 (by decide),hft j hj,push_cast,reduceIte,zA,zB,zC,zD,zE,zF,zG,reduceCtorEq,zH,zJ,cNI]
  have hg4:getL ([(54,.ptr 54 0),(64,.clo 82 [103,102,105])]++t) 54= .ptr 54 0:=rfl
  clear hm ht h4
  generalize [(54,PV.ptr 54 0),(64,.clo 82 [103,102,105])]++t=S at hs hS hg4 ⊢
  unfold qua
  have hfi:=qD5 hg (hpf.subset (List.mem_append_right _ zX))
  have hfx:=hfi.x
  have hbd:=qDX hg hpf f.x
  rw[qBZ]at hbd
  simp only[qBV,if_true]at hbd
  obtain⟨l,hl⟩: ∃l,cfK (.sl true 1 (ints (qxc g).sel)) (.sl true 1 (ints (qxc g).mode)) (.sl true 1 (ints (qxc g).tab)) (.sl true 1 (ints (qxc g).ram)) f.kind= .sl true 1 (ints l):=by
   rcases hfi.key with h|h|h|h<;>rw[h.1]<;>exact⟨_,rfl⟩
  obtain⟨p1,p2⟩:=qCU (a:=[]) (v:= .sl true 1 (ints l)) rfl f.i
  obtain⟨p3,-⟩:=(qE1 l).2 f.i 1006 (by decide)
  simp only[qCx hs,qCw hs,hg4,qCy hs,qCz hs,qCA hs,qD1,qCY (hS 1006 (by decide)),hl,p1,p2,p3,push_cast,reduceIte,zA,zB,zC,zD,zE,zF,zG,reduceCtorEq,zH,zJ,cNI]
  rw[qDZ hfx,qE0,qDY]
  exact⟨⟨oM,oM⟩,oM,⟨oM,oM⟩,⟨oM,oM⟩,oM,_,SWk.drop (fun i=>Nat.blt i 1000) (fun _=>true),hs,rfl⟩
 ·rintro _ _ rfl
  refine sB ?_
  exact⟨rfl,_,rfl⟩
theorem qE4(g:Grid)(hg:GOk g):FnM (Env.of Tryz.prog) 37 [.agg (quX false g)] ⟨[],[],[],[]⟩ (fun v st' =>v= .view 62 0 (wN g+1)/\st' =⟨[],[],[(62,⟨1,3,ints (qDQ g (qCn g))⟩)],[]⟩):=by
 refine FnM.mono (FnM.postB (fun _=>[]) (qE3 g hg)) ?_
 rintro v _ ⟨_,⟨rfl,b,rfl⟩,rfl⟩
 exact⟨rfl,by rw[qum];congr 1;induction b with
  |nil=>rfl
  |cons x r ih=>exact ih⟩
def midV(g:Grid)(k:Nat):List Int:=(List.range (wN g+1)).map fun x=>if x<k then(nW (qDs g x):Int)else(qDs g x:Int)
theorem qE5(g:Grid)(k:Nat):(midV g k).length=wN g+1:=by simp[midV]
theorem qE6{g:Grid}{k:Nat}(h:k<=wN g):(midV g k).getD k default=(qDs g k:Int):=by
 rw[zK,midV,zS,List.getElem?_range oM,Option.map_some,if_neg oM];rfl
theorem qE7(g:Grid)(k:Nat):(midV g k).set k (nW (qDs g k):Int)=midV g (k+1):=by
 refine List.ext_getElem (by simp[midV]) fun i h1 h2=> ?_
 rw[List.getElem_set]
 simp only[midV,List.getElem_map,List.getElem_range]
 split
 ·next h=>subst h;rw[if_pos oM]
 ·next h => by_cases h3 : i < k
            ·rw[if_pos h3,if_pos oM]
            ·rw[if_neg h3,if_neg oM]
theorem qE8(g:Grid):midV g 0=qDQ g (qCn g):=rfl
theorem qE9(g:Grid):midV g (wN g+1)=(qDt g).map Int.ofNat:=by
 rw[midV,qDt,List.map_map]
 exact List.map_congr_left fun x hx=>by rw[if_pos (List.mem_range.1 hx)];rfl
theorem qEa(g:Grid)(hg:GOk g):FnEq Tryz.prog 13 [.agg (quX false g)] (.sl true 1 (ints ((qDt g).map Int.ofNat))):=by
 have hn:=hg.n
 refine FnEq.of_awp Tryz.func13 ok13 (by show 1<=_;decide) (by simp only[push_cast,reduceIte,zA,zB,zC,zD,zE,zF,zG,reduceCtorEq,zH,zJ,cNI]<;>first|exact fun _ _=>trivial|simp) ?_
 simp only[ac13,rv13,push_cast,reduceIte,zA,zB,zC,zD,zE,zF,zG,reduceCtorEq,zH,zJ,cNI]
 refine qDP [] [62] (qE4 g hg) rfl rfl rfl ?_
 refine sB ?_
 rw[<- qE8]
 refine qoP (fun j st=> ∃k:Nat,k<=wN g+1/\j=wN g+1-k/\st=⟨[(3,.view 62 0 (wN g+1)),(8,.int ((wN g:Int)+1)),(9,.int k)],[],[(62,⟨1,3,ints (midV g k)⟩)],[]⟩) (wN g+1) ⟨0,oM,oM,by simp only[push_cast,reduceIte,zA,zB,zC,zD,zE,zF,zG,reduceCtorEq,zH,zJ,cNI]⟩ ?_
 rintro j st ⟨k,hk,rfl,rfl⟩
 refine sB ?_
 have hw2:=hn.w2
 refine qnY (fun h=> ?_) fun h=> ?_
 ·have hb:=qDX hg List.prefix_rfl k
  have hb2:qDs g k<=1000000000:=hb
  rw[qE6 oM,qE5,show((qDs g k:Int)+57-1)/57=(nW (qDs g k):Int)from by unfold nW;omega,qE7]
  exact⟨⟨oM,oM⟩,oM,⟨oM,oM⟩,⟨oM,oM⟩,⟨oM,oM,by decide⟩,⟨oM,oM⟩,oM,⟨oM,oM⟩,wN g+1-(k+1),oM,k+1,oM,rfl,rfl⟩
 ·obtain rfl:k=wN g+1:=by omega
  rw[zY (by rw[qE5];exact Nat.le_refl _),qE9]
  exact⟨fun _ _=>trivial,.refl _⟩
end Go.Proofs.YtecoaapkcnhlhaaGreatDoor
namespace Go.Proofs.YtecoaapkcnhlhaaGreatDoor.Txt
open Go Go.Vc
set_option maxRecDepth 100000
def xs32_13:List XO:=[⟨0,[],lF 1048 1 1008⟩,⟨1,[],mT 1049 1009⟩,⟨2,[],lF 1050 1 1008⟩,⟨3,[],mT 1051 1009⟩,⟨4,[2,3],iX 1052 1 1050 1051⟩,⟨5,[4],lF 1053 1 1052⟩,⟨6,[],aO 1054 (.bsl 1 59 [.sc (.int .u64 0)] 1 [(0,(.c (.sc (.int .u64 0))))])⟩,⟨7,[5,6],aO 1055 (.app 1 59 8 (.t 1053) (.t 1054))⟩,⟨8,[0,1,2,3,4,5,6,7],iX 1056 1 1048 1049⟩,⟨9,[0,1,2,3,4,5,6,7,8],sT 1 1056 1055⟩]
theorem xs32_13_all{p:XO->Prop} :(∀x∈xs32_13,p x) ↔ p ⟨0,[],lF 1048 1 1008⟩/\p ⟨1,[],mT 1049 1009⟩/\p ⟨2,[],lF 1050 1 1008⟩/\p ⟨3,[],mT 1051 1009⟩/\p ⟨4,[2,3],iX 1052 1 1050 1051⟩/\p ⟨5,[4],lF 1053 1 1052⟩/\p ⟨6,[],aO 1054 (.bsl 1 59 [.sc (.int .u64 0)] 1 [(0,(.c (.sc (.int .u64 0))))])⟩/\p ⟨7,[5,6],aO 1055 (.app 1 59 8 (.t 1053) (.t 1054))⟩/\p ⟨8,[0,1,2,3,4,5,6,7],iX 1056 1 1048 1049⟩/\p ⟨9,[0,1,2,3,4,5,6,7,8],sT 1 1056 1055⟩:=by simp only[xs32_13,List.forall_mem_cons,List.not_mem_nil,false_implies,implies_true,and_true]
def ac32_r14:AC:=
 (.seq (.drw [1000,125,1007,1008,1009,1010,1011,1038,1039] [
 eL 1057 1 1008,eM 1058 1009,eI 1059 1 1057 1058,eL 1060 1 1059,eL 1061 1 1007,eM 1062 1009,eI 1063 1 1061 1062,eL 1064 1 1063,eT 1065 (.dvd .quo true .i64 (.t 1064) (kI 57)),eI 1066 1 1060 1065,eL 1067 1 1066,eA 1068 0 1010,eL 1069 1 1068,eT 1070 (.nck (.t 1069)),eL 1071 1 1070,eM 1072 1011,eT 1073 (.shf .shr .i64 (.t 1071) (.t 1072)),eT 1074 (.bit .and .i64 (.t 1073) (kI 1)),eT 1075 (.cnv true .u64 (.t 1074)),eL 1076 1 1007,eM 1077 1009,eI 1078 1 1076 1077,eL 1079 1 1078,eT 1080 (.dvd .rem true .i64 (.t 1079) (kI 57)),eT 1081 (.shf .shl .u64 (.t 1075) (.t 1080)),eF 1082 (.bit .or .u64 (.t 1067) (.t 1081)),eF 1083 (.ixs 1 (.t 1060) (.t 1065)),⟨sT 1 1083 1082,[],[],false⟩])
 (.reg [1000,125,1007,1008,1009,1010,1038,1039] [
 lF 1084 1 1007,mT 1085 1009,iX 1086 1 1084 1085,lF 1087 1 1086,uF 1088 1087 1,iX 1089 1 1084 1085,sT 1 1089 1088]))
def ac32_r11:AC:=
 (.seq (.reg [1000,125,1007,1008,1009,1010,1038,1039] [
 mT 1041 1039,mT 1011 1041])
 (.seq (.seq (.reg [1000,125,1007,1008,1009,1010,1011,1038,1039] [
 lF 1042 1 1007,mT 1043 1009,iX 1044 1 1042 1043,lF 1045 1 1044,aO 1046 (.dvd .rem true .i64 (.t 1045) (kI 57)),eK 1047 1046 0])
 (.cond (.t 1047)
 (.dra [1000,125,1007,1008,1009,1010,1011,1038,1039] xs32_13)
 .skip))
 ac32_r14))
def ac32_r9:AC:=
 (.seq (.reg [1000,125,1007,1008,1009,1010] [
 fA 1037 1 1010,lF 1038 1 1037,mK 1039 0])
 (.block 2
 (.lps [1000,125,1007,1008,1009,1010,1038,1039]
 (.seq (.reg [1000,125,1007,1008,1009,1010,1038,1039] [
 lS 1040 1039 1038])
 (.seq (.cond (.t 1040)
 .skip
 (.exit 2))
 (.seq (.block 3
 ac32_r11)
 (.reg [1000,125,1007,1008,1009,1010,1038,1039] [
 uF 1090 1039 1,mT 1039 1090])))))))
def ac32_r17:AC:=
 (.seq (.seq (.wk (.reg [0,125,6,8] [
 mT 91 6,nT 92 91,mK 93 0]))
 (.block 4
 (.lps [0,125,6,8,92,93]
 (.seq (.reg [0,125,6,8,92,93] [
 lS 94 93 92])
 (.seq (.cond (.t 94)
 .skip
 (.exit 4))
 (.seq (.block 5
 (.seq (.reg [0,125,6,8,92,93] [
 mT 95 93,mT 12 95])
 (.seq (.reg [0,125,6,8,12,92,93] [
 lF 96 1 8,mT 97 12,iX 98 1 96 97,lF 99 1 98,nT 100 99,mK 101 0])
 (.block 6
 (.lps [0,125,6,8,12,92,93,99,100,101]
 (.seq (.reg [0,125,6,8,12,92,93,99,100,101] [
 lS 102 101 100])
 (.seq (.cond (.t 102)
 .skip
 (.exit 6))
 (.seq (.block 7
 (.seq (.reg [0,125,6,8,12,92,93,99,100,101] [
 iX 103 1 99 101,lF 104 1 103,mT 14 104])
 (.seq (.reg [0,125,6,8,12,14,92,93,99,100,101] [
 mT 106 14,aO 107 (.cal 59 [(.t 106)]),mT 105 107,aO 108 (.ext (.t 105) 0),aO 109 (.ext (.t 105) 1),mT 15 108,mT 16 109])
 (.reg [0,125,6,8,12,15,92,93,99,100,101] [
 mT 110 6,mT 111 12,mT 112 6,mT 113 12,iX 114 1 112 113,fA 115 0 114,lF 116 1 115,mT 117 15,aO 118 (.bsl 1 59 [.sc (.int .u64 0)] 1 [(0,(.t 117))]),aO 119 (.app 1 59 8 (.t 116) (.t 118)),iX 120 1 110 111,fA 121 0 120,sT 1 121 119]))))
 (.reg [0,125,6,8,12,92,93,99,100,101] [
 uF 122 101 1,mT 101 122])))))))))
 (.reg [0,125,6,8,92,93] [
 uF 123 93 1,mT 93 123])))))))
 (.seq (.wk (.reg [0,125,6] [
 mT 124 6,mT 4 124,mK 5 0]))
 .ret))
def ac32:AC:=
 (.seq (.reg [0,125,0,1] [
 xT 2 0,xT 3 1,aO 4 (.mv (.c (.nil))),mK 5 0])
 (.seq (.seq (.reg [0,125,2,3] [
 uE 17 5 2,uE 18 4 3,aO 19 (.cal 57 [(.t 17),(.t 18)]),aO 20 (.cmp .neq .i64 (.t 19) (kI 0))])
 (.cond (.t 20)
 (.seq (.reg [0,125] [
 aO 4 (.mv (.c (.nil))),mK 5 310])
 .ret)
 .skip))
 (.seq (.reg [0,125,2,3] [
 fA 21 0 2,lF 22 1 21,uF 23 22 1,aO 24 (.xo (.mkx 24 (.nil)) [(.t 23)]),mT 6 24])
 (.seq (.reg [0,125,2,3,6] [
 fA 25 0 2,lF 26 1 25,uF 27 26 1,aO 28 (.mks 1 3 8 [zI] (.t 27) (.t 27)),aO 7 (.alc [.nil]),sT 1 7 28])
 (.seq (.reg [0,125,2,3,6,7] [
 fA 29 0 2,lF 30 1 29,uF 31 30 1,aO 32 (.xo (.mkx 24 (.nil)) [(.t 31)]),aO 8 (.alc [.nil]),sT 1 8 32])
 (.seq (.seq (.reg [0,125,2,3,6,7,8] [
 uE 33 5 2,aO 34 (.clm 58 [(.t 33),(.t 3)])])
 (.block 0
 (.rngf ⟨(.t 34),0,125,1000,[0,125,6,7,8,34],999⟩ [1035,1036]
 (.seq (.reg [1000,125,1007,1008,1035,1036] [
 mT 1009 1035])
 (.reg [1000,125,1007,1008,1009,1036] [
 aO 1010 (.alc [.sc (.pointer none),zI]),sT 2 1010 1036]))
 (.block 1
 ac32_r9))))
 ac32_r17))))))
def rv32:List RV:=[.tmp 4,.tmp 5]
theorem ok32:fnOk Tryz.prog ac32 rv32 Tryz.f32=true:=by kernel_rfl
end Go.Proofs.YtecoaapkcnhlhaaGreatDoor.Txt
namespace Go.Proofs.YtecoaapkcnhlhaaGreatDoor
open Go Go.Vc Txt Go.Ham
theorem qEb{w:Nat}(h0:w≠0)(h:w<2^64):Go.Lib.ctz 64 w<64/\w&&&(w-1)=w^^^2^Go.Lib.ctz 64 w/\w&&&(w-1)<w:=by
 obtain⟨m,h1,h2⟩:=Go.Lib.ctzFrom_spec 64 w oM h
 have e:Go.Lib.ctz 64 w=Go.Lib.ctzFrom 64 w:=by unfold Go.Lib.ctz;rw[if_neg h0]
 rw[e]
 obtain⟨a1,a2,_⟩:=qAg (Go.Lib.ctzFrom 64 w) m
 rw[<- h1]at a1 a2
 exact⟨h2,a1,by rw[a1];exact a2⟩
theorem qEc(n:Nat)(h:n<2^64):FnEq Tryz.prog 87 [.sc (.int .u64 n)] (.int (syn n 64:Nat)):=by
 refine FnEq.of_awp Tryz.func87 ok87 (by show 1<=_;decide) (by simp only[push_cast,reduceIte,zA,zB,zC,zD,zE,zF,zG,reduceCtorEq,zH,zJ,cNI]<;>first|exact fun _ _=>trivial|simp) ?_
 simp only[ac87,rv87,push_cast,reduceIte,zA,zB,zC,zD,zE,zF,zG,reduceCtorEq,zH,zJ,cNI]
 refine qoP (fun m st=> ∃w s:Nat,m=w/\w<2^64/\s<64/\s^^^syn w 64=syn n 64/\st=⟨[(0,.sc (.int .u64 w)),(3,.int s)],[],[],[]⟩) n ?_ ?_
 ·refine⟨n,0,rfl,h,by decide,by simp,?_⟩
  simp only[push_cast,reduceIte,zA,zB,zC,zD,zE,zF,zG,reduceCtorEq,zH,zJ,cNI]
  try rfl
 rintro w st ⟨_,s,rfl,hw,hs,he,rfl⟩
 refine sB ?_
 refine qnY (fun h1=> ?_) fun h1=> ?_
 ·have hw0:w≠0:=by omega
  obtain⟨c1,c2,c3⟩:=qEb hw0 hw
  refine qrv (qBh w hw) sC ?_
  refine sB ?_
  have e1:bitF .xor .i64 (s:Int) (Go.Lib.ctz 64 w:Nat)=((s^^^Go.Lib.ctz 64 w:Nat):Int):=qBq oM oM
  have e2:IntKind.u64.wrap ((w:Int)-1)=((w-1:Nat):Int):=by rw[show(w:Int)-1=((w-1:Nat):Int)from by omega];exact qBj oM
  rw[e1,e2,qBl hw oM]
  refine⟨_,?_,_,_,rfl,?_,?_,?_,rfl⟩
  ·exact c3
  ·omega
  ·exact Nat.xor_lt_two_pow (n:=6) hs c1
  ·rw[<- he,c2,qzB,qzD,if_pos c1,Nat.xor_assoc,Nat.xor_comm (syn w 64),<- Nat.xor_assoc (Go.Lib.ctz 64 w),Nat.xor_self,Nat.zero_xor]
 ·have hw0:w=0:=by omega
  subst hw0
  rw[qzA,Nat.xor_zero]at he
  rw[he]
theorem qEd(w:Nat): ∀n,ons w n<=n
 |0=>Nat.le_refl _
 |n+1=>by have:=qEd w n;rw[ons];cases w.testBit n<;>simp<;>omega
theorem qEe(n:Nat)(h:n<2^64):FnEq Tryz.prog 91 [.sc (.int .u64 n)] (.int (chkW n:Nat)):=by
 refine FnEq.of_awp Tryz.func91 ok91 (by show 1<=_;decide) (by simp only[push_cast,reduceIte,zA,zB,zC,zD,zE,zF,zG,reduceCtorEq,zH,zJ,cNI]<;>first|exact fun _ _=>trivial|simp) ?_
 simp only[ac91,rv91,push_cast,reduceIte,zA,zB,zC,zD,zE,zF,zG,reduceCtorEq,zH,zJ,cNI]
 have hol:=qEd n 64
 refine qrv (qBt n h) sC ?_
 refine sB ?_
 refine⟨oM,?_⟩
 refine qnY (fun h1=> ?_) fun h1=> ?_
 ·unfold chkW
  rw[if_pos oM]
  rfl
 ·refine qrv (qEc n h) sC ?_
  refine sB ?_
  refine qnY (fun h2=> ?_) fun h2=> ?_
  ·unfold chkW
   rw[if_neg oM,if_pos oM]
   rfl
  ·unfold chkW
   rw[if_neg oM,if_neg oM]
   rfl
theorem shl1{i:Nat}(hi:i<64):shfF .shl .u64 1 (i:Int)=((2^i:Nat):Int):=by
 have:=qBs (a:=1) (k:=i) oM (by rw[Nat.one_mul];exact Nat.pow_lt_pow_right (by decide) hi)
 rw[Nat.one_mul]at this
 exact this
theorem qEf(n i:Nat)(h:n<2^64)(hi:i<64):FnEq Tryz.prog 92 [.sc (.int .u64 n),.int i] (.sc (.int .u64 (n^^^2^i:Nat))):=by
 refine FnEq.of_awp Tryz.func92 ok92 (by show 2<=_;decide) (by simp only[push_cast,reduceIte,zA,zB,zC,zD,zE,zF,zG,reduceCtorEq,zH,zJ,cNI]<;>first|exact fun _ _=>trivial|simp) ?_
 simp only[ac92,rv92,push_cast,reduceIte,zA,zB,zC,zD,zE,zF,zG,reduceCtorEq,zH,zJ,cNI]
 rw[decide_eq_false (show ¬(i:Int)<0 by omega)]
 refine sB ?_
 rw[decide_eq_false (show ¬(63:Int)<i by omega)]
 refine sB ?_
 rw[shl1 hi,qBn h (Nat.pow_lt_pow_right (by decide) hi)]
 exact⟨oM,rfl⟩
theorem qEg {E : Env} (hE : E.p = Tryz.prog) (hkk : E.kk <= 2000) {s : List (Nat × PV)} {b : List (Nat × List PV)} {a : List (Nat × Arr)} {m : List (Nat × Mp)} (hpn : ∀ ch st, ¬ E.pan ch st) (hs : qtX 2000 s = true) (id w p : Nat) (hb : lk b id = some [.sc (.int .u64 w)]) (hw : w < 2 ^ 64) (hp : p < 64) :
  FnM E 85 [.int p,.ptr id 0] ⟨s,b,a,m⟩ (fun r st' =>r= .tup []/\st' =⟨s,up b id [.sc (.int .u64 (w|||2^p:Nat))],a,m⟩):=by
 refine quf 2000 (by rw[hE];exact Tryz.func85) (by rw[hE];exact ok85_2000) (by show 2<=_;decide) hs hkk ?_ hpn
 simp only[ac85_2000,rv85_2000,qCx hs,qCw hs,qCy hs,qCz hs,qCA hs,hb,push_cast,reduceIte,zA,zB,zC,zD,zE,zF,zG,reduceCtorEq,zH,zJ,cNI]
 rw[shl1 hp,qBm hw (Nat.pow_lt_pow_right (by decide) hp)]
 exact⟨oM,rfl⟩
def npl(p:Nat):Nat:=plc.countP fun x=>decide (x.2<p)
theorem qEh{p:Nat}(h1:3<=p)(h2:p<64):(p&&&(p-1)=0->npl (p+1)=npl p)/\(p&&&(p-1)≠0->plc[npl p]? =some (npl p,p)/\npl (p+1)=npl p+1)/\npl p<=57:=by
 have key:(List.range 64).all (fun p=>decide (p<3)||(if p&&&(p-1)=0 then decide (npl (p+1)=npl p)else decide (plc[npl p]? =some (npl p,p))&&decide (npl (p+1)=npl p+1))&&decide (npl p<=57))=true:=by decide+kernel
 have:=yE.1 key p (List.mem_range.2 h2)
 rw[decide_eq_false (show ¬p<3 by omega),Bool.false_or,zN,decide_eq_true_eq]at this
 obtain⟨h3,h4⟩:=this
 refine⟨fun e=> ?_,fun e=> ?_,h4⟩
 ·rw[if_pos e]at h3;simpa using h3
 ·rw[if_neg e,zN,decide_eq_true_eq,decide_eq_true_eq]at h3;exact h3
def plT(k p:Nat):List (Nat×PV):=[(200,.yl 999),(202,.int k),(203,.int p),(213,.yl 999),(214,.int k),(215,.int p)]
theorem qEi {E : Env} (hE : E.p = Tryz.prog) (hkk : E.kk <= 200) (hpn : ∀ ch st, ¬ E.pan ch st) {s : List (Nat × PV)} (hs : qtX 200 s = true) (B : Nat -> List (Nat × List PV)) (a : List (Nat × Arr)) (m : List (Nat × Mp))
  (hY: ∀k p:Nat,plc[k]? =some (k,p)->p<64->E.Y 999 [.int k,.int p] ⟨s++plT k p,B k,a,m⟩ (fun st' =>st' =⟨s++plT k p,B (k+1),a,m⟩)):
  FnM E 86 [.yl 999] ⟨s,B 0,a,m⟩ (fun _ st' =>st' =⟨s,B 57,a,m⟩):=by
 refine quf 200 (by rw[hE];exact Tryz.func86) (by rw[hE];exact ok86_200) (by show 1<=_;decide) hs hkk ?_ hpn
 simp only[ac86_200,rv86_200,qCx hs,qCw hs,qCy hs,qCz hs,qCA hs,push_cast,reduceIte,zA,zB,zC,zD,zE,zF,zG,reduceCtorEq,zH,zJ,cNI]
 refine qoO (fun n st=> ∃p:Nat,3<=p/\p<=64/\n=64-p/\st=⟨s++[(200,.yl 999),(202,.int (npl p:Nat)),(203,.int p)],B (npl p),a,m⟩) 61 ⟨_,SWk.refl _,3,oM,oM,rfl,?_⟩ ?_
 ·simp only[qCw hs,qCy hs,qCz hs,push_cast,reduceIte,zA,zB,zC,zD,zE,zF,zG,reduceCtorEq,zH,zJ,cNI]
  rfl
 rintro n st ⟨p,h3,h64,rfl,rfl⟩
 simp only[qCx hs,qCw hs,qCy hs,qCz hs,qCA hs,push_cast,reduceIte,zA,zB,zC,zD,zE,zF,zG,reduceCtorEq,zH,zJ,cNI]
 refine qnY (fun h=> ?_) fun h=> ?_
 ·have hp2:p<64:=by omega
  obtain⟨n1,n2,n3⟩:=qEh h3 hp2
  have e1:bitF .and .i64 (p:Int) ((p:Int)-1)=((p&&&(p-1):Nat):Int):=by
   rw[show(p:Int)-1=((p-1:Nat):Int)by omega];exact qBo oM oM
  rw[e1]
  refine⟨oM,?_⟩
  refine qnY (fun h2=> ?_) fun h2=> ?_
  ·refine⟨oM,_,SWk.refl _,64-(p+1),oM,p+1,oM,oM,rfl,?_⟩
   rw[n1 oM]
   rfl
  ·obtain⟨g1,g2⟩:=n2 oM
   refine⟨_,hY (npl p) p g1 hp2,?_⟩
   rintro _ rfl
   simp only[plT,qCx hs,qCw hs,qCy hs,qCz hs,qCA hs,push_cast,reduceIte,zA,zB,zC,zD,zE,zF,zG,reduceCtorEq,zH,zJ,cNI]
   refine⟨oM,oM,_,SWk.refl _,64-(p+1),oM,p+1,oM,oM,rfl,?_⟩
   rw[g2]
   rfl
 ·have hp2:p=64:=by omega
  subst hp2
  rw[show npl 64=57 from by decide+kernel]
def sctN(d k:Nat):Nat:=sctL d (plc.take k)
theorem qEj{d k p:Nat}(h:plc[k]? =some (k,p)):sctN d (k+1)=if d.testBit k then sctN d k|||2^p else sctN d k:=by
 obtain⟨h1,h2⟩:=zM.1 h
 unfold sctN sctL
 rw[zZ h1,List.foldl_append,h2]
 rfl
theorem qEk(d:Nat):sctN d 57=sct d:=by unfold sctN sct;rw[zY (by decide)]
theorem qEl(d:Nat): ∀k,k<=57->sctN d k<2^64
 |0,_=>by simp[sctN,sctL]
 | k + 1, h => by
   have hl : k < plc.length := by have : plc.length = 57 := by decide
                                  omega
   have h1:plc[k]? =some (k,plc[k].2):=by
    rw[zL hl]
    have:plc[k].1=k:=by simp[plc]
    exact congrArg some (Prod.ext this rfl)
   have:=qEl d k oM
   have h2:=(qzN (List.getElem_mem hl)).2.1
   rw[qEj h1]
   split
   ·exact Nat.or_lt_two_pow this (Nat.pow_lt_pow_right (by decide) h2)
   ·exact this
def pw(k:Nat):Nat:=2^k
theorem qEm(s k:Nat):s&&&pw k≠0 ↔ s.testBit k=true:=by
 unfold pw
 constructor
 ·intro h
  cases hb:s.testBit k
  ·exfalso
   apply h
   apply Nat.eq_of_testBit_eq
   intro i
   rw[Nat.testBit_and,Nat.testBit_two_pow,Nat.zero_testBit]
   by_cases e:k=i
   ·subst e;rw[hb];rfl
   ·simp[e]
  ·rfl
 ·intro h e
  have:=congrArg (fun x=>x.testBit k) e
  simp[Nat.testBit_and,Nat.testBit_two_pow,h]at this
def prtN(w s k:Nat):Nat:=(List.range k).foldl (fun w k=>if s.testBit k then w|||2^(2^k)else w) w
theorem qEn(w s k:Nat):prtN w s (k+1)=if s.testBit k then prtN w s k|||2^pw k else prtN w s k:=by
 unfold prtN;rw[List.range_succ,List.foldl_append];rfl
theorem qEo{w:Nat}(h:w<2^64)(s:Nat): ∀k,k<=6->prtN w s k<2^64
 |0,_=>h
 | k + 1, hk => by
   have:=qEo h s k oM
   rw[qEn]
   split
   ·refine Nat.or_lt_two_pow this (Nat.pow_lt_pow_right (by decide) ?_)
    exact Nat.lt_of_le_of_lt (Nat.pow_le_pow_right (by decide) (show k<=5 by omega)) (by decide)
   ·exact this
set_option maxHeartbeats 1000000 in
theorem qEp(n:Nat)(h:n<2^57):FnEq Tryz.prog 59 [.sc (.int .u64 n)] (.tup [.sc (.int .u64 (encW n:Nat)),.int 0]):=by
 refine FnEq.of_awp Tryz.func59 ok59 (by show 1<=_;decide) (by simp only[push_cast,reduceIte,zA,zB,zC,zD,zE,zF,zG,reduceCtorEq,zH,zJ,cNI]<;>first|exact fun _ _=>trivial|simp) ?_
 simp only[ac59,rv59,push_cast,reduceIte,zA,zB,zC,zD,zE,zF,zG,reduceCtorEq,zH,zJ,cNI]
 refine qnY (fun h1=>by omega) fun _=> ?_
 refine que (st1:=⟨[(1,.ptr 1 0),(4,.ptr 4 0),(5,.ptr 5 0)],[(1,[.sc (.int .u64 n)]),(4,[.sc (.int .u64 (sctN n 0:Nat))]),(5,[.clo 85 [4]])],[],[]⟩) (Env.of_noY _) rfl
  (qEi (s:=[(1,.ptr 1 0),(4,.ptr 4 0),(5,.ptr 5 0)]) rfl (by show 0+43<=200;decide) (fun _ _ h=>h) rfl (fun k=>[(1,[.sc (.int .u64 n)]),(4,[.sc (.int .u64 (sctN n k:Nat))]),(5,[.clo 85 [4]])]) [] [] fun k p hk hp=> ?_) ?_
 ·simp only[plT,List.cons_append,List.nil_append]
  refine qCF rfl rfl sC ?_
  unfold qua
  refine sB ?_
  have hk57:k<57:=(zM.1 hk).1
  have hW:=qEl n k oM
  have e1:bitF .and .u64 (shfF .shr .u64 (n:Int) (k:Int)) 1=((n/2^k&&&1:Nat):Int):=by
   rw[qBr n k oM]
   exact qBl (b:=1) (Nat.lt_of_le_of_lt (Nat.div_le_self _ _) oM) (by decide)
  have e2:(n/2^k&&&1=1) ↔ n.testBit k=true:=by rw[Nat.testBit_eq_decide_div_mod_eq,decide_eq_true_eq,Nat.and_one_is_mod]
  rw[e1]
  refine⟨oM,?_⟩
  refine qnY (fun h2=> ?_) fun h2=> ?_
  ·have hb:n.testBit k=true:=e2.1 oM
   refine qsP (qEg rfl (by decide) (fun _ _ h=>h) rfl 4 (sctN n k) p rfl hW hp) ?_
   refine sB ?_
   rw[qEj hk,if_pos hb]
  ·have hb:n.testBit k=false:=by
    cases hb:n.testBit k
    ·rfl
    ·have:=e2.2 hb;omega
   rw[qEj hk,if_neg (by rw[hb];decide)]
 ·rintro rv _ rfl
  rw[qEk]
  refine sB ?_
  have hs:sct n<2^64:=qA5 n
  have hS:=qzF (sct n) 64 (Nat.le_refl _)
  refine qrv (qEc _ hs) sC ?_
  refine sB ?_
  refine qoP (fun j st=> ∃k:Nat,k<=6/\j=6-k/\st=⟨[(4,.ptr 4 0),(5,.ptr 5 0),(8,.int (syn (sct n) 64:Nat)),(9,.int (pw k:Nat))],[(4,[.sc (.int .u64 (prtN (sct n) (syn (sct n) 64) k:Nat))]),(5,[.clo 85 [4]])],[],[]⟩) 6 ⟨0,oM,rfl,?_⟩ ?_
  ·refine sB ?_
   rfl
  rintro j st ⟨k,hk,rfl,rfl⟩
  have hP:=qEo hs (syn (sct n) 64) k hk
  refine sB ?_
  have hpk:pw k<=64/\(pw k<64 ↔ k<6):=by
   have:k=0\/k=1\/k=2\/k=3\/k=4\/k=5\/k=6:=by omega
   rcases this with rfl|rfl|rfl|rfl|rfl|rfl|rfl<;>decide
  refine qnY (fun h1=> ?_) fun h1=> ?_
  ·have hk6:k<6:=hpk.2.1 oM
   have e1:bitF .and .i64 (syn (sct n) 64:Nat) (pw k:Nat)=((syn (sct n) 64&&&pw k:Nat):Int):=qBo oM oM
   have e2:syn (sct n) 64&&&pw k≠0 ↔ (syn (sct n) 64).testBit k=true:=by
    exact qEm _ k
   have e3:pw (k+1)=pw k*2:=Nat.pow_succ ..
   rw[e1]
   refine qnY (fun h2=> ?_) fun h2=> ?_
   ·have hb:=e2.1 oM
    refine qsP (qEg rfl (by decide) (fun _ _ h=>h) rfl 4 _ (pw k) rfl hP oM) ?_
    refine sB ?_
    refine⟨oM,6-(k+1),oM,k+1,oM,rfl,?_⟩
    rw[qEn,if_pos hb,e3]
    rfl
   ·have hb : (syn (sct n) 64).testBit k = false := by
     cases hb:(syn (sct n) 64).testBit k
     ·rfl
     ·have:=e2.2 hb;omega
    refine⟨oM,6-(k+1),oM,k+1,oM,rfl,?_⟩
    rw[qEn,if_neg (by rw[hb];decide),e3]
    rfl
  ·have hk6:k=6:=by omega
   subst hk6
   have hl:=qEd (prtN (sct n) (syn (sct n) 64) 6) 64
   refine qrv (qBt _ hP) sC ?_
   refine sB ?_
   refine⟨oM,?_⟩
   refine qnY (fun h2=> ?_) fun h2=> ?_
   ·refine qsP (qEg rfl (by decide) (fun _ _ h=>h) rfl 4 _ 0 rfl hP (by decide)) ?_
    refine sB ?_
    have:encW n=prtN (sct n) (syn (sct n) 64) 6|||2^0:=by
     show fin (prtN (sct n) (syn (sct n) 64) 6)=_
     unfold fin
     rw[if_pos oM]
    rw[this]
    done
   ·have : encW n = prtN (sct n) (syn (sct n) 64) 6 := by
     show fin (prtN (sct n) (syn (sct n) 64) 6)=_
     unfold fin
     rw[if_neg oM]
    rw[this]
    done
end Go.Proofs.YtecoaapkcnhlhaaGreatDoor
namespace Go.Proofs.YtecoaapkcnhlhaaGreatDoor
open Go Go.Vc Txt Go.Ham
def gatN(w k:Nat):Nat:=gatL w (plc.take k)
theorem qEq{w k p:Nat}(h:plc[k]? =some (k,p)):gatN w (k+1)=if w.testBit p then gatN w k|||2^k else gatN w k:=by
 obtain⟨h1,h2⟩:=zM.1 h
 unfold gatN gatL
 rw[zZ h1,List.foldl_append,h2]
 rfl
theorem qEr(w:Nat):gatN w 57=gat w:=by unfold gatN gat;rw[zY (by decide)]
theorem qEs{k:Nat}(h:k<57): ∃p,plc[k]? =some (k,p)/\p<64:=by
 have hl : k < plc.length := by have : plc.length = 57 := by decide
                                omega
 refine⟨plc[k].2,?_,(qzN (List.getElem_mem hl)).2.1⟩
 rw[zL hl]
 have:plc[k].1=k:=by simp[plc]
 exact congrArg some (Prod.ext this rfl)
theorem qEt(w:Nat): ∀k,k<=57->gatN w k<2^57
 |0,_=>by simp[gatN,gatL]
 | k + 1, h => by
   obtain⟨p,hp,_⟩:=qEs (show k<57 by omega)
   have:=qEt w k oM
   rw[qEq hp]
   split
   ·exact Nat.or_lt_two_pow this (Nat.pow_lt_pow_right (by decide) oM)
   ·exact this
def decV(w:Nat):PV:=if chkW w=2 then .tup [.sc (.int .u64 0),.int 0,.int 6]else .tup [.sc (.int .u64 (datW w:Nat)),.int (chkW w:Nat),.int 0]
theorem qEu(n v:Nat)(hv:v<2^64)(hc:chkW n≠2)(hd:datW n=gat v):awp (Env.of Tryz.prog) ac69_r6 (retK rv69 fun x=>Sub x (decV n)) ⟨[(1,.ptr 1 0),(5,.int (chkW n:Nat))],[(1,[.sc (.int .u64 v)])],[],[]⟩:=by
 simp only[ac69_r6,rv69,push_cast,reduceIte,zA,zB,zC,zD,zE,zF,zG,reduceCtorEq,zH,zJ,cNI]
 refine que (st1:=⟨[(1,.ptr 1 0),(5,.int (chkW n:Nat)),(6,.ptr 6 0)],[(1,[.sc (.int .u64 v)]),(6,[.sc (.int .u64 (gatN v 0:Nat))])],[],[]⟩) (Env.of_noY _) rfl
  (qEi (s:=[(1,.ptr 1 0),(5,.int (chkW n:Nat)),(6,.ptr 6 0)]) rfl (by show 0+31<=200;decide) (fun _ _ h=>h) rfl (fun k=>[(1,[.sc (.int .u64 v)]),(6,[.sc (.int .u64 (gatN v k:Nat))])]) [] [] fun k p hk hp=> ?_) ?_
 ·simp only[plT,List.cons_append,List.nil_append]
  refine qCF rfl rfl sC ?_
  unfold qua
  refine sB ?_
  have hk57:k<57:=(zM.1 hk).1
  have hW:=qEt v k oM
  have e1:bitF .and .u64 (shfF .shr .u64 (v:Int) (p:Int)) 1=((v/2^p&&&1:Nat):Int):=by
   rw[qBr v p oM]
   exact qBl (b:=1) (Nat.lt_of_le_of_lt (Nat.div_le_self _ _) oM) (by decide)
  have e3:v/2^p&&&1=(v.testBit p).toNat:=by
   rw[Nat.testBit_eq_decide_div_mod_eq,Nat.and_one_is_mod]
   rcases Nat.mod_two_eq_zero_or_one (v/2^p)with e|e<;>rw[e]<;>rfl
  have e4:(v.testBit p).toNat*2^k<2^57:=by
   have:2^k<2^57:=Nat.pow_lt_pow_right (by decide) hk57
   cases v.testBit p<;>simp<;>omega
  rw[e1,e3,qBs oM oM,qBm oM oM]
  refine⟨oM,oM,?_⟩
  rw[show gatN v k|||(v.testBit p).toNat*2^k=gatN v (k+1)from by rw[qEq hk];cases v.testBit p<;>simp]
 ·rintro rv _ rfl
  rw[qEr]
  refine sB ?_
  unfold decV
  rw[if_neg hc,hd]
  simp only[push_cast,reduceIte,zA,zB,zC,zD,zE,zF,zG,reduceCtorEq,zH,zJ,cNI]
  done
set_option maxHeartbeats 1000000 in
theorem qEv(n:Nat)(h:n<2^64):FnEq Tryz.prog 69 [.sc (.int .u64 n)] (decV n):=by
 have hp:Perm (decV n):=by unfold decV;split<;>(simp only[push_cast,reduceIte,zA,zB,zC,zD,zE,zF,zG,reduceCtorEq,zH,zJ,cNI]<;>exact fun _ _=>trivial)
 refine FnEq.of_awp Tryz.func69 ok69 (by show 1<=_;decide) hp ?_
 simp only[ac69,push_cast,reduceIte,zA,zB,zC,zD,zE,zF,zG,reduceCtorEq,zH,zJ,cNI]
 refine qrv (qEe n h) sC ?_
 refine sB ?_
 refine qnY (fun h1=> ?_) fun h1=> ?_
 ·unfold decV
  rw[if_pos oM]
  simp only[rv69,push_cast,reduceIte,zA,zB,zC,zD,zE,zF,zG,reduceCtorEq,zH,zJ,cNI]
  done
 refine qnY (fun h2=> ?_) fun h2=> ?_
 ·have hc:chkW n=1:=by omega
  obtain⟨hs,_⟩:=fix1 hc
  refine qrx (qEc n h) sC rfl ?_
  refine sB ?_
  refine qrv (qEf n (syn n 64) h hs) sC ?_
  refine sB ?_
  exact qEu n _ (Nat.xor_lt_two_pow h (Nat.pow_lt_pow_right (by decide) hs)) oM (by unfold datW;rw[if_pos hc])
 ·exact qEu n n h oM (by unfold datW;rw[if_neg oM])
end Go.Proofs.YtecoaapkcnhlhaaGreatDoor
namespace Go.Proofs.YtecoaapkcnhlhaaGreatDoor.Txt
open Go Go.Vc
set_option maxRecDepth 100000
def ac75_200:AC:=
 (.seq (.reg [200,27,200,201] [
 mT 207 201,nT 208 207,mK 209 0])
 (.block 0
 (.lps [200,27,200,207,208,209]
 (.seq (.reg [200,27,200,207,208,209] [
 lS 210 209 208])
 (.seq (.cond (.t 210)
 .skip
 (.exit 0))
 (.seq (.block 1
 (.seq (.reg [200,27,200,207,208,209] [
 iX 211 1 207 209,lF 212 1 211,mT 205 212])
 (.seq (.reg [200,27,200,205,207,208,209] [
 mT 213 200,aO 214 (.nck (.t 213)),lF 215 1 214,mT 216 205,aO 217 (.bit .xor .u64 (.t 215) (.t 216)),aO 218 (.ari .mul false .u64 (.t 217) (.c (.sc (.int .u64 15485907386658061715)))),mT 206 218])
 (.reg [200,27,200,206,207,208,209] [
 mT 219 200,mT 220 206,mT 221 206,aO 222 (.shf .shr .u64 (.t 221) (.c (.sc (.int .u64 32)))),aO 223 (.bit .xor .u64 (.t 220) (.t 222)),aO 224 (.ari .mul false .u64 (.t 223) (.c (.sc (.int .u64 11562461410679940143)))),aO 225 (.nck (.t 219)),sT 1 225 224]))))
 (.reg [200,27,200,207,208,209] [
 uF 226 209 1,mT 209 226])))))))
def rv75_200:List RV:=[]
theorem ok75_200:qh6 Tryz.prog 200 ac75_200 rv75_200 Tryz.f75=true:=by kernel_rfl

def ac52:AC:=
 (.seq (.reg [0,27,0] [
 aO 2 (.mv (.c (.sc (.int .u64 0))))])
 (.seq (.reg [0,27,0] [
 aO 3 (.alc [.sc (.int .u64 0)]),aN (.sto 1 (.t 3) (.c (.sc (.int .u64 512970876019))))])
 (.seq (.reg [0,27,0,3] [
 aO 7 (.xo (.pf (.bm 75)) [(.t 3)]),mT 4 7])
 (.seq (.seq (.reg [0,27,0,3,4] [
 mT 8 0,nT 9 8,mK 10 0])
 (.block 0
 (.loop [0,27,0,3,4,8,9,10]
 (.seq (.reg [0,27,0,3,4,8,9,10] [
 lS 11 10 9])
 (.seq (.cond (.t 11)
 .skip
 (.exit 0))
 (.seq (.block 1
 (.seq (.reg [0,27,0,3,4,8,9,10] [
 iX 12 1 8 10,lF 13 1 12,mT 6 13])
 (.reg [0,27,0,3,4,6,8,9,10] [
 mT 14 4,mT 15 6,aO 16 (.cnv false .u64 (.t 15)),aO 17 (.bsl 1 59 [.sc (.int .u64 0)] 1 [(0,(.t 16))]),aO 18 (.clv (.t 14) [(.t 17)])])))
 (.reg [0,27,0,3,4,8,9,10] [
 uF 19 10 1,mT 10 19])))))))
 (.seq (.reg [0,27,0,3,4] [
 mT 20 4,mT 21 0,nT 22 21,aO 23 (.cnv false .u64 (.t 22)),aO 24 (.bsl 1 59 [.sc (.int .u64 0)] 1 [(0,(.t 23))]),aO 25 (.clv (.t 20) [(.t 24)])])
 (.seq (.reg [0,27,3] [
 lF 26 1 3,mT 2 26])
 .ret))))))
def rv52:List RV:=[.tmp 2]
theorem ok52:fnOk Tryz.prog ac52 rv52 Tryz.f52=true:=by kernel_rfl

def ac25:AC:=
 (.seq (.reg [0,39,0] [
 aO 2 (.mv (.c (.sc (.int .u64 0))))])
 (.seq (.reg [0,39,0] [
 mT 8 0,nT 9 8,aO 10 (.bsl 1 3 [zI] 1 [(0,(.t 9))]),mT 3 10])
 (.seq (.seq (.reg [0,39,0,3] [
 mT 11 0,nT 12 11,mK 13 0])
 (.block 0
 (.loop [0,39,3,11,12,13]
 (.seq (.reg [0,39,3,11,12,13] [
 lS 14 13 12])
 (.seq (.cond (.t 14)
 .skip
 (.exit 0))
 (.seq (.block 1
 (.seq (.reg [0,39,3,11,12,13] [
 iX 15 1 11 13,uE 16 1 15,aO 5 (.alc [.nil]),sT 1 5 16])
 (.seq (.reg [0,39,3,5,11,12,13] [
 mT 17 3,fA 18 0 5,lF 19 1 18,nT 20 19,aO 21 (.bsl 1 3 [zI] 1 [(0,(.t 20))]),aO 22 (.app 1 3 8 (.t 17) (.t 21)),mT 3 22])
 (.seq (.reg [0,39,3,5,11,12,13] [
 fA 23 0 5,lF 24 1 23,nT 25 24,mK 26 0])
 (.block 2
 (.loop [0,39,3,11,12,13,24,25,26]
 (.seq (.reg [0,39,3,11,12,13,24,25,26] [
 lS 27 26 25])
 (.seq (.cond (.t 27)
 .skip
 (.exit 2))
 (.seq (.block 3
 (.seq (.reg [0,39,3,11,12,13,24,25,26] [
 iX 28 1 24 26,lF 29 1 28,mT 7 29])
 (.reg [0,39,3,7,11,12,13,24,25,26] [
 mT 30 3,mT 31 7,aO 32 (.cnv false .i64 (.t 31)),aO 33 (.bsl 1 3 [zI] 1 [(0,(.t 32))]),aO 34 (.app 1 3 8 (.t 30) (.t 33)),mT 3 34])))
 (.reg [0,39,3,11,12,13,24,25,26] [
 uF 35 26 1,mT 26 35]))))))))))
 (.reg [0,39,3,11,12,13] [
 uF 36 13 1,mT 13 36])))))))
 (.seq (.reg [0,39,3] [
 mT 37 3,aO 38 (.cal 52 [(.t 37)]),mT 2 38])
 .ret))))
def rv25:List RV:=[.tmp 2]
theorem ok25:fnOk Tryz.prog ac25 rv25 Tryz.f25=true:=by kernel_rfl

def ac15:AC:=
 (.seq (.reg [0,35,0,1] [
 xT 2 0,mK 4 0])
 (.seq (.reg [0,35,1,2] [
 mT 6 1,fA 7 2 2,lF 8 1 7,aO 9 (.ari .mul true .i64 (kI 2) (.t 8)),aO 10 (.ari .add true .i64 (kI 6) (.t 9)),aO 11 (.dvd .quo true .i64 (.t 6) (.t 10)),mT 5 11])
 (.seq (.block 0
 (.seq (.reg [0,35,1,2,5] [
 mT 13 1,aO 14 (.cmp .lss .i64 (.t 13) (kI 0)),mT 15 14,uA 16 15 (.mv (.t 1)),uA 17 15 (.ld true 5 (.t 2)),uA 18 15 (.cal 40 [(.t 17)]),uA 19 15 (.cmp .geq .i64 (.t 16) (.t 18)),aO 20 (uG 15 19),mT 12 20])
 (.cut [0,35,2,5,12] (.cond (.t 12)
 (.seq (.reg [0,35] [
 mK 4 (-1)])
 .ret)
 (.seq (.reg [0,35,2,5] [
 mT 22 5,fA 23 0 2,lF 24 1 23,fA 25 1 2,lF 26 1 25,aO 27 (.ari .mul true .i64 (.t 24) (.t 26)),aO 28 (.cmp .geq .i64 (.t 22) (.t 27)),mT 21 28])
 (.cond (.t 21)
 (.seq (.reg [0,35,2] [
 fA 29 0 2,lF 30 1 29,mT 4 30])
 .ret)
 .skip))))))
 (.seq (.reg [0,35,2,5] [
 mT 31 5,fA 32 0 2,lF 33 1 32,aO 34 (.dvd .rem true .i64 (.t 31) (.t 33)),mT 4 34])
 .ret))))
def rv15:List RV:=[.tmp 4]
theorem ok15:fnOk Tryz.prog ac15 rv15 Tryz.f15=true:=by kernel_rfl

def ac43:AC:=
 (.seq (.reg [0,30,0] [
 aO 2 (.mv (.c (.nil)))])
 (.seq (.reg [0,30,0] [
 aO 6 (.bsl 2 86 [zI,zI] 0 []),mT 3 6])
 (.seq (.seq (.reg [0,30,0,3] [
 mK 4 0])
 (.block 0
 (.loop [0,30,0,3,4]
 (.seq (.seq (.reg [0,30,0,3,4] [
 mT 7 4,mT 8 0,nT 9 8,lS 10 7 9])
 (.cond (.t 10)
 .skip
 (.exit 0)))
 (.seq (.block 1
 (.seq (.reg [0,30,0,3,4] [
 mK 5 0])
 (.block 2
 (.loop [0,30,0,3,4,5]
 (.seq (.seq (.reg [0,30,0,3,4,5] [
 mT 13 5,mT 14 0,mT 15 4,iX 16 1 14 15,fA 17 0 16,lF 18 1 17,nT 19 18,lS 20 13 19])
 (.cond (.t 20)
 .skip
 (.exit 2)))
 (.seq (.block 3
 (.reg [0,30,0,3,4,5] [
 mT 23 3,mT 24 4,mT 25 5,aO 26 (.bld [zI,zI] [(0,1,(.t 24)),(1,1,(.t 25))]),aO 27 (.bsl 2 86 [zI,zI] 1 [(0,(.t 26))]),aO 28 (.app 2 86 16 (.t 23) (.t 27)),mT 3 28]))
 (.reg [0,30,0,3,4,5] [
 mT 21 5,uF 22 21 1,mT 5 22])))))))
 (.reg [0,30,0,3,4] [
 mT 11 4,uF 12 11 1,mT 4 12]))))))
 (.seq (.reg [0,30,3] [
 mT 29 3,mT 2 29])
 .ret))))
def rv43:List RV:=[.tmp 2]
theorem ok43:fnOk Tryz.prog ac43 rv43 Tryz.f43=true:=by kernel_rfl

def ac55:AC:=
 (.seq (.reg [0,26,0,1] [
 aO 4 (.mv bF)])
 (.seq (.seq (.reg [0,26,0,1] [
 mT 6 0,nT 7 6,mT 8 1,nT 9 8,aO 10 (.cmp .neq .i64 (.t 7) (.t 9))])
 (.cond (.t 10)
 (.seq (.reg [0,26] [
 aO 4 (.mv bF)])
 .ret)
 .skip))
 (.seq (.seq (.reg [0,26,0,1] [
 mK 5 0])
 (.block 0
 (.loop [0,26,0,1,5]
 (.seq (.seq (.reg [0,26,0,1,5] [
 mT 11 5,mT 12 0,nT 13 12,lS 14 11 13])
 (.cond (.t 14)
 .skip
 (.exit 0)))
 (.seq (.block 1
 (.seq (.drw [0,26,0,1,5] [
 eM 17 0,eM 18 5,eI 19 1 17 18,eL 20 1 19,eM 21 1,eM 22 5,eI 23 1 21 22,eL 24 1 23,eF 25 (.cmp .neq .u64 (.t 20) (.t 24))])
 (.cond (.t 25)
 (.seq (.reg [0,26] [
 aO 4 (.mv bF)])
 .ret)
 .skip)))
 (.reg [0,26,0,1,5] [
 mT 15 5,uF 16 15 1,mT 5 16]))))))
 (.seq (.reg [0,26] [
 aO 4 (.mv bT)])
 .ret))))
def rv55:List RV:=[.tmp 4]
theorem ok55:fnOk Tryz.prog ac55 rv55 Tryz.f55=true:=by kernel_rfl

def ac28:AC:=
 (.seq (.reg [0,49,0,1] [
 aO 4 (.mv (.c (.nil)))])
 (.seq (.reg [0,49,0,1] [
 aO 7 (.bsl 1 3 [zI] 0 []),mT 5 7])
 (.seq (.seq (.reg [0,49,0,1,5] [
 mK 6 0])
 (.block 0
 (.loop [0,49,0,1,5,6]
 (.seq (.seq (.reg [0,49,0,1,5,6] [
 mT 8 6,mT 9 0,nT 10 9,lS 11 8 10,mT 12 11,uA 13 12 (.mv (.t 6)),uA 14 12 (.mv (.t 1)),uA 15 12 (.len (.t 14)),uA 16 12 (.cmp .lss .i64 (.t 13) (.t 15)),aO 17 (uG 12 16)])
 (.cut [0,49,0,1,5,6,17] (.cond (.t 17)
 .skip
 (.exit 0))))
 (.seq (.block 1
 (.seq (.drw [0,49,0,1,5,6] [
 eM 20 6,eM 21 0,eT 22 (.len (.t 21)),eF 23 (.cmp .geq .i64 (.t 20) (.t 22)),eF 24 (.mv (.t 23)),uC 25 24 (.mv (.t 6)),uC 26 24 (.mv (.t 1)),uC 27 24 (.len (.t 26)),⟨uA 28 24 (.cmp .geq .i64 (.t 25) (.t 27)),[],[],false⟩,eF 29 (uG 24 28),eF 30 (.mv (.t 29)),uC 31 30 (.mv (.t 0)),uC 32 30 (.mv (.t 6)),uC 33 30 (.ixs 1 (.t 31) (.t 32)),uC 34 30 (.fa 0 (.t 33)),uC 35 30 (.ld false 1 (.t 34)),uC 36 30 (.mv (.t 1)),uC 37 30 (.mv (.t 6)),uC 38 30 (.ixs 1 (.t 36) (.t 37)),uC 39 30 (.fa 0 (.t 38)),uC 40 30 (.ld false 1 (.t 39)),⟨uA 41 30 (.cal 55 [(.t 35),(.t 40)]),[],[],false⟩,⟨uA 42 30 (.not (.t 41)),[],[],false⟩,eF 43 (uG 30 42)])
 (.cut [0,49,0,1,5,6,43] (.cond (.t 43)
 (.reg [0,49,0,1,5,6] [
 mT 44 5,mT 45 6,aO 46 (.bsl 1 3 [zI] 1 [(0,(.t 45))]),aO 47 (.app 1 3 8 (.t 44) (.t 46)),mT 5 47])
 .skip))))
 (.reg [0,49,0,1,5,6] [
 mT 18 6,uF 19 18 1,mT 6 19]))))))
 (.seq (.reg [0,49,5] [
 mT 48 5,mT 4 48])
 .ret))))
def rv28:List RV:=[.tmp 4]
theorem ok28:fnOk Tryz.prog ac28 rv28 Tryz.f28=true:=by kernel_rfl

def ac11:AC:=
 (.seq (.reg [0,10,0,1] [
 aO 4 (.mv bF)])
 (.seq (.reg [0,10,0,1] [
 mT 5 0,mT 6 1,aO 7 (.cal 28 [(.t 5),(.t 6)]),nT 8 7,eK 9 8 0,mT 4 9])
 .ret))
def rv11:List RV:=[.tmp 4]
theorem ok11:fnOk Tryz.prog ac11 rv11 Tryz.f11=true:=by kernel_rfl

def ac54:AC:=
 (.seq (.reg [0,26,0,1] [
 aO 4 (.mv bF)])
 (.seq (.seq (.reg [0,26,0,1] [
 mT 6 0,nT 7 6,mT 8 1,nT 9 8,aO 10 (.cmp .neq .i64 (.t 7) (.t 9))])
 (.cond (.t 10)
 (.seq (.reg [0,26] [
 aO 4 (.mv bF)])
 .ret)
 .skip))
 (.seq (.seq (.reg [0,26,0,1] [
 mT 11 0,nT 12 11,mK 13 0])
 (.block 0
 (.loop [0,26,0,1,12,13]
 (.seq (.reg [0,26,0,1,12,13] [
 lS 14 13 12])
 (.seq (.cond (.t 14)
 .skip
 (.exit 0))
 (.seq (.block 1
 (.seq (.reg [0,26,0,1,12,13] [
 mT 15 13,mT 5 15])
 (.seq (.drw [0,26,0,1,5,12,13] [
 eM 16 0,eM 17 5,eI 18 1 16 17,eL 19 1 18,eM 20 1,eM 21 5,eI 22 1 20 21,eL 23 1 22,eF 24 (.cmp .neq .u64 (.t 19) (.t 23))])
 (.cond (.t 24)
 (.seq (.reg [0,26] [
 aO 4 (.mv bF)])
 .ret)
 .skip))))
 (.reg [0,26,0,1,12,13] [
 uF 25 13 1,mT 13 25])))))))
 (.seq (.reg [0,26] [
 aO 4 (.mv bT)])
 .ret))))
def rv54:List RV:=[.tmp 4]
theorem ok54:fnOk Tryz.prog ac54 rv54 Tryz.f54=true:=by kernel_rfl

def ac27:AC:=
 (.seq (.reg [0,45,0,1] [
 aO 4 (.mv (.c (.nil)))])
 (.seq (.reg [0,45,0,1] [
 aO 5 (.mv (.c (.nil)))])
 (.seq (.seq (.reg [0,45,0,1,5] [
 mT 7 0,nT 8 7,mT 9 1,nT 10 9,aO 11 (.mn true (.t 8) (.t 10)),mK 12 0])
 (.block 0
 (.loop [0,45,0,1,5,11,12]
 (.seq (.reg [0,45,0,1,5,11,12] [
 lS 13 12 11])
 (.seq (.cond (.t 13)
 .skip
 (.exit 0))
 (.seq (.block 1
 (.seq (.reg [0,45,0,1,5,11,12] [
 mT 14 12,mT 6 14])
 (.seq (.drw [0,45,0,1,5,6,11,12] [
 eM 15 6,eM 16 0,eT 17 (.len (.t 16)),eF 18 (.cmp .geq .i64 (.t 15) (.t 17)),eF 19 (.mv (.t 18)),uC 20 19 (.mv (.t 6)),uC 21 19 (.mv (.t 1)),uC 22 19 (.len (.t 21)),⟨uA 23 19 (.cmp .geq .i64 (.t 20) (.t 22)),[],[],false⟩,eF 24 (uG 19 23),eF 25 (.mv (.t 24)),uC 26 25 (.mv (.t 0)),uC 27 25 (.mv (.t 6)),uC 28 25 (.ixs 1 (.t 26) (.t 27)),uC 29 25 (.fa 0 (.t 28)),uC 30 25 (.ld false 1 (.t 29)),uC 31 25 (.mv (.t 1)),uC 32 25 (.mv (.t 6)),uC 33 25 (.ixs 1 (.t 31) (.t 32)),uC 34 25 (.fa 0 (.t 33)),uC 35 25 (.ld false 1 (.t 34)),⟨uA 36 25 (.cal 54 [(.t 30),(.t 35)]),[],[],false⟩,⟨uA 37 25 (.not (.t 36)),[],[],false⟩,eF 38 (uG 25 37)])
 (.cut [0,45,0,1,5,6,11,12,38] (.cond (.t 38)
 (.reg [0,45,0,1,5,6,11,12] [
 mT 39 5,mT 40 6,aO 41 (.bsl 1 3 [zI] 1 [(0,(.t 40))]),aO 42 (.app 1 3 8 (.t 39) (.t 41)),mT 5 42])
 .skip)))))
 (.reg [0,45,0,1,5,11,12] [
 uF 43 12 1,mT 12 43])))))))
 (.seq (.reg [0,45,5] [
 mT 44 5,mT 4 44])
 .ret))))
def rv27:List RV:=[.tmp 4]
theorem ok27:fnOk Tryz.prog ac27 rv27 Tryz.f27=true:=by kernel_rfl

def ac67:AC:=
 (.seq (.reg [0,32,0,1,2] [
 aO 6 (.mv bF)])
 (.seq (.seq (.reg [0,32,0,1,2] [
 mT 10 0,nT 11 10,mT 12 1,nT 13 12,aO 14 (.cmp .neq .i64 (.t 11) (.t 13))])
 (.cond (.t 14)
 (.seq (.reg [0,32] [
 aO 6 (.mv bF)])
 .ret)
 .skip))
 (.seq (.seq (.reg [0,32,0,1,2] [
 mT 15 0,nT 16 15,mK 17 0])
 (.block 0
 (.loop [0,32,1,2,15,16,17]
 (.seq (.reg [0,32,1,2,15,16,17] [
 lS 18 17 16])
 (.seq (.cond (.t 18)
 .skip
 (.exit 0))
 (.seq (.block 1
 (.seq (.reg [0,32,1,2,15,16,17] [
 mT 19 17,iX 20 1 15 17,uE 21 1 20,aO 8 (.alc [.nil]),mT 7 19,sT 1 8 21])
 (.seq (.reg [0,32,1,2,7,8,15,16,17] [
 mT 22 1,mT 23 7,iX 24 1 22 23,lF 25 1 24,mT 9 25])
 (.seq (.reg [0,32,1,2,8,9,15,16,17] [
 mT 26 2,uE 27 1 8,mT 28 9,aO 29 (.clv (.t 26) [(.t 27),(.t 28)]),aO 30 (.not (.t 29))])
 (.cond (.t 30)
 (.seq (.reg [0,32] [
 aO 6 (.mv bF)])
 .ret)
 .skip)))))
 (.reg [0,32,1,2,15,16,17] [
 uF 31 17 1,mT 17 31])))))))
 (.seq (.reg [0,32] [
 aO 6 (.mv bT)])
 .ret))))
def rv67:List RV:=[.tmp 6]
theorem ok67:fnOk Tryz.prog ac67 rv67 Tryz.f67=true:=by kernel_rfl

def ac68:AC:=
 (.seq (.reg [0,10,0,1] [
 xT 2 0,aO 4 (.mv bF)])
 (.seq (.reg [0,10,1,2] [
 fA 5 0 2,lF 6 1 5,nT 7 6,mT 8 1,aO 9 (.cmp .eql .i64 (.t 7) (.t 8)),mT 4 9])
 .ret))
def rv68:List RV:=[.tmp 4]
theorem ok68:fnOk Tryz.prog ac68 rv68 Tryz.f68=true:=by kernel_rfl

def ac12:AC:=
 (.seq (.reg [0,26,0,1] [
 aO 4 (.mv bF)])
 (.seq (.seq (.reg [0,26,0,1] [
 mT 6 0,nT 7 6,mT 8 1,nT 9 8,aO 10 (.cmp .neq .i64 (.t 7) (.t 9))])
 (.cond (.t 10)
 (.seq (.reg [0,26] [
 aO 4 (.mv bF)])
 .ret)
 .skip))
 (.seq (.seq (.reg [0,26,0,1] [
 mK 5 0])
 (.block 0
 (.loop [0,26,0,1,5]
 (.seq (.seq (.reg [0,26,0,1,5] [
 mT 11 5,mT 12 0,nT 13 12,lS 14 11 13])
 (.cond (.t 14)
 .skip
 (.exit 0)))
 (.seq (.block 1
 (.seq (.drw [0,26,0,1,5] [
 eM 17 0,eM 18 5,eI 19 1 17 18,eL 20 1 19,eM 21 1,eM 22 5,eI 23 1 21 22,eL 24 1 23,eF 25 (.cmp .neq .i64 (.t 20) (.t 24))])
 (.cond (.t 25)
 (.seq (.reg [0,26] [
 aO 4 (.mv bF)])
 .ret)
 .skip)))
 (.reg [0,26,0,1,5] [
 mT 15 5,uF 16 15 1,mT 5 16]))))))
 (.seq (.reg [0,26] [
 aO 4 (.mv bT)])
 .ret))))
def rv12:List RV:=[.tmp 4]
theorem ok12:fnOk Tryz.prog ac12 rv12 Tryz.f12=true:=by kernel_rfl
end Go.Proofs.YtecoaapkcnhlhaaGreatDoor.Txt
namespace Go.Ham
def dgA(h w:Nat):Nat:=((h^^^w)*15485907386658061715)%2^64
def dgS(h w:Nat):Nat:=((dgA h w^^^(dgA h w>>>32))*11562461410679940143)%2^64
def dig0:Nat:=512970876019
def qEw(h:Nat)(l:List Nat):Nat:=l.foldl dgS h
def digW(l:List Nat):Nat:=dgS (qEw dig0 l) l.length
theorem qEx(h w:Nat):dgS h w<2^64:=Nat.mod_lt _ (by decide)
theorem qEy: ∀(l:List Nat) (h:Nat),h<2^64->qEw h l<2^64
 |[],_,h=>h
 |w::l,h,_=>qEy l _ (qEx _ _)
def qEI(l:List (List Nat)):List Nat:=l.length::l.flatMap fun ws=>ws.length::ws
def digF(l:List (List Nat)):Nat:=digW (qEI l)
end Go.Ham
namespace Go.Proofs.YtecoaapkcnhlhaaGreatDoor
open Go Go.Vc Txt Go.Ham
def nats(l:List Nat):List Int:=l.map fun n:Nat=>(n:Int)
def frmC(q:Bool)(ws:List Nat):List PV:=[.sl q 1 (rows u64C (nats ws))]
@[push_cast] theorem qEJ(q:Bool)(ws:List Nat):frmC q ws=[.sl q 1 (rows u64C (nats ws))]:=rfl
theorem qEK(a b:Nat):IntKind.u64.wrap ((a:Int)*b)=((a*b%2^64:Nat):Int):=by
 rw[IntKind.wrap_u64,<- Int.natCast_mul];rfl
theorem qEL {E : Env} (hE : E.p = Tryz.prog) (hkk : E.kk <= 200) (hpn : ∀ ch st, ¬ E.pan ch st) {s : List (Nat × PV)} {b : List (Nat × List PV)} {a : List (Nat × Arr)} {m : List (Nat × Mp)} (hs : qtX 200 s = true)
  (id v ty h w:Nat) (hb:lk b id=some [.sc (.int .u64 h)]) (ha:lk a v=some ⟨1,ty,rows u64C [(w:Int)]⟩) (hh:h<2^64) (hw:w<2^64):
  FnM E 75 [.ptr id 0,.view v 0 1] ⟨s,b,a,m⟩ (fun r st' =>r= .tup []/\st' =⟨s,up b id [.sc (.int .u64 (dgS h w:Nat))],a,m⟩):=by
 refine quf 200 (by rw[hE];exact Tryz.func75) (by rw[hE];exact ok75_200) (by show 2<=_;decide) hs hkk ?_ hpn
 simp only[ac75_200,rv75_200,qCx hs,qCw hs,qCy hs,qCz hs,qCA hs,hb,ha,push_cast,reduceIte,zA,zB,zC,zD,zE,zF,zG,reduceCtorEq,zH,zJ,cNI]
 refine qoO (fun n st=>(n=1/\st=⟨s++[(200,.ptr id 0),(207,.view v 0 1),(208,.int 1),(209,.int 0)],b,a,m⟩)\/(n=0/\st=⟨s++[(200,.ptr id 0),(207,.view v 0 1),(208,.int 1),(209,.int 1)],up b id [.sc (.int .u64 (dgS h w:Nat))],a,m⟩)) 1 ⟨_,SWk.refl _,.inl ⟨rfl,?_⟩⟩ ?_
 ·simp only[qCw hs,qCy hs,qCz hs,Int.zero_add,push_cast,reduceIte,zA,zB,zC,zD,zE,zF,zG,reduceCtorEq,zH,zJ,cNI]
 rintro n st (⟨rfl,rfl⟩|⟨rfl,rfl⟩)
 ·simp only[qCx hs,qCw hs,qCy hs,qCz hs,qCA hs,hb,ha,List.getD_cons_zero,zV,List.length_nil,push_cast,reduceIte,zA,zB,zC,zD,zE,zF,zG,reduceCtorEq,zH,zJ,cNI]
  refine qnY (fun _=> ?_) fun h=>absurd (by decide) h
  have hx:h^^^w<2^64:=Nat.xor_lt_two_pow hh hw
  have hA:dgA h w<2^64:=Nat.mod_lt _ (by decide)
  have e1:IntKind.u64.wrap (bitF .xor .u64 (h:Int) (w:Int)*15485907386658061715)=((dgA h w:Nat):Int):=by
   rw[qBn hh hw];exact qEK (h^^^w) 15485907386658061715
  have e2:IntKind.u64.wrap (bitF .xor .u64 (dgA h w:Int) (shfF .shr .u64 (dgA h w:Int) 32)*11562461410679940143)=((dgS h w:Nat):Int):=by
   rw[show shfF .shr .u64 (dgA h w:Int) 32=((dgA h w>>>32:Nat):Int)from(qBr _ 32 (by decide)).trans (by rw[Nat.shiftRight_eq_div_pow]),qBn hA (by rw[Nat.shiftRight_eq_div_pow];exact Nat.lt_of_le_of_lt (Nat.div_le_self _ _) hA)]
   exact qEK (dgA h w^^^dgA h w>>>32) 11562461410679940143
  simp only[e1,e2,push_cast,reduceIte,zA,zB,zC,zD,zE,zF,zG,reduceCtorEq,zH,zJ,cNI]
  exact⟨⟨by decide,by decide⟩,by decide,⟨by decide,by decide⟩,_,SWk.refl _,0,by decide,.inr ⟨rfl,rfl⟩⟩
 ·simp only[qCx hs,qCw hs,qCy hs,qCz hs,qCA hs,hb,ha,push_cast,reduceIte,zA,zB,zC,zD,zE,zF,zG,reduceCtorEq,zH,zJ,cNI]
  exact qnY (fun h=>absurd h (by decide)) fun _=>trivial
def toW(n:Int):Nat:=(n%18446744073709551616).toNat
theorem qEM(n:Int):toW n<2^64:=by unfold toW;omega
theorem qEN(n:Int):IntKind.u64.wrap n=((toW n:Nat):Int):=by rw[IntKind.wrap_u64];unfold toW;omega
theorem qEO{α β:Type}(f:β->α->β)(h:β)(l:List α)(w:α):(l++[w]).foldl f h=f (l.foldl f h) w:=by simp
theorem qEP(h:Nat)(l:List Nat)(w:Nat):qEw h (l++[w])=dgS (qEw h l) w:=qEO dgS h l w
theorem qEQ(l:List Int)(k:Nat)(h:k<l.length):l.take (k+1)=l.take k++[l.getD k default]:=by
 rw[zZ h];simp[zK,h]
theorem qER(l:List Int)(hl:(l.length:Int)<=1000000):FnEq Tryz.prog 52 [.sl false 1 (ints l)] (.sc (.int .u64 (digW (l.map toW):Nat))):=by
 refine FnEq.of_awp Tryz.func52 ok52 (by show 1<=_;decide) (by simp only[push_cast,reduceIte,zA,zB,zC,zD,zE,zF,zG,reduceCtorEq,zH,zJ,cNI]<;>first|exact fun _ _=>trivial|simp) ?_
 simp only[ac52,rv52,push_cast,reduceIte,zA,zB,zC,zD,zE,zF,zG,reduceCtorEq,zH,zJ,cNI]
 refine qoP (fun n st=> ∃k:Nat,k<=l.length/\n=l.length-k/\st=⟨[(0,.sl false 1 (ints l)),(3,.ptr 3 0),(4,.bm 75 3),(8,.sl false 1 (ints l)),(9,.int l.length),(10,.int k)],[(3,[.sc (.int .u64 (qEw dig0 ((l.take k).map toW):Nat))])],[],[]⟩) l.length ⟨0,oM,oM,?_⟩ ?_
 ·refine sB ?_
  rfl
 rintro n st ⟨k,hk,rfl,rfl⟩
 have hF:qEw dig0 ((l.take k).map toW)<2^64:=qEy _ _ (by decide)
 refine sB ?_
 have e1: ∀x:Int,(List.replicate 1 (0:Int)).set 0 x=[x]:=fun _=>rfl
 refine qnY (fun h=> ?_) fun h=> ?_
 ·simp only[e1,qEN,zV,List.length_nil,List.length_replicate,push_cast,reduceIte,zA,zB,zC,zD,zE,zF,zG,reduceCtorEq,zH,zJ,cNI]
  refine⟨⟨oM,oM⟩,oM,?_⟩
  refine qsP (qEL rfl (by decide) (fun _ _ h=>h) rfl 3 17 59 _ _ rfl rfl hF (qEM _)) ?_
  refine sB ?_
  refine⟨oM,l.length-(k+1),oM,k+1,oM,rfl,?_⟩
  rw[qEQ l k oM,yH,zW,List.map_nil,qEP]
  rfl
 ·have:k=l.length:=by omega
  subst this
  rw[List.take_length]at hF ⊢
  simp only[e1,qEN,zV,List.length_nil,List.length_replicate,push_cast,reduceIte,zA,zB,zC,zD,zE,zF,zG,reduceCtorEq,zH,zJ,cNI]
  refine qsP (qEL rfl (by decide) (fun _ _ h=>h) rfl 3 24 59 _ _ rfl rfl hF (qEM _)) ?_
  refine sB ?_
  have:digW (l.map toW)=dgS (qEw dig0 (l.map toW)) (toW l.length):=by
   unfold digW
   rw[yG]
   congr 1
   unfold toW;omega
  rw[this]
end Go.Proofs.YtecoaapkcnhlhaaGreatDoor
namespace Go.Proofs.YtecoaapkcnhlhaaGreatDoor
open Go Go.Vc Txt Go.Ham
theorem qES{w:Nat}(h:w<2^64):toW (IntKind.i64.wrap (w:Int))=w:=by
 unfold toW
 rw[IntKind.wrap_i64]
 omega
def wI(w:Nat):Int:=IntKind.i64.wrap (w:Int)
def numR(ws:List Nat):List Int:=(ws.length:Int)::ws.map wI
def qET(n:Nat)(l:List (List Nat)):List Int:=(n:Int)::l.flatMap numR
theorem qEU{n:Nat}(h:n<2^64):toW (n:Int)=n:=by unfold toW;omega
theorem qEV{ws:List Nat}(h: ∀w∈ws,w<2^64)(hl:ws.length<2^64):(numR ws).map toW=ws.length::ws:=by
 unfold numR
 rw[zW,qEU hl,List.map_map]
 congr 1
 conv=>rhs;rw[<- List.map_id ws]
 exact List.map_congr_left fun w hw=>qES (h w hw)
theorem qEW{l:List (List Nat)}(h:qDx l)(hl: ∀ws∈l,ws.length<2^64)(hn:l.length<2^64):(qET l.length l).map toW=qEI l:=by
 unfold qET qEI
 rw[zW,qEU hn,List.map_flatMap]
 congr 1
 unfold qDx at h
 clear hn
 induction l with
 |nil=>rfl
 |cons ws l ih=>
   rw[List.flatMap_cons,List.flatMap_cons,qEV (h ws zX) (hl ws zX),ih (fun v hv=>h v (zT _ hv)) fun v hv=>hl v (zT _ hv)]
structure FrmSm (l:List (List Nat)):Prop where
 ok:qDx l
 n:l.length<=900
 len: ∀ws∈l,ws.length<=1000
theorem qEX{l:List (List Nat)}(h: ∀ws∈l,ws.length<=1000)(n:Nat):(qET n l).length<=1+1001*l.length:=by
 unfold qET
 rw[zV]
 induction l with
 |nil=>simp
 |cons ws l ih=>
   have h1:=h ws zX
   have h2:=ih fun v hv=>h v (zT _ hv)
   have h3:(numR ws).length=ws.length+1:=by simp[numR]
   rw[List.flatMap_cons,zU,h3,zV]
   omega
theorem qEY{α:Type} [Inhabited α](l:List α)(k:Nat)(h:k<l.length):l.take (k+1)=l.take k++[l.getD k default]:=by
 rw[zZ h];simp[zK,h]
theorem qEZ(l:List Nat)(k:Nat):(nats l).getD k default=((l.getD k default:Nat):Int):=by
 simp only[nats,zK,zS]
 cases l[k]? <;>rfl
theorem qF0(l:List Nat):(nats l).length=l.length:=by simp[nats]
theorem rep1{α:Type}(a:α):List.replicate 1 a=[a]:=rfl
theorem qF1(n:Nat)(l:List (List Nat))(ws:List Nat):qET n (l++[ws])=qET n l++numR ws:=by simp[qET]
theorem qF2(l:List (List Nat))(hl:FrmSm l):FnEq Tryz.prog 25 [.sl false 1 (rows (frmC false) l)] (.sc (.int .u64 (digF l:Nat))):=by
 have h1:=hl.n
 refine FnEq.of_awp Tryz.func25 ok25 (by show 1<=_;decide) (by simp only[push_cast,reduceIte,zA,zB,zC,zD,zE,zF,zG,reduceCtorEq,zH,zJ,cNI]<;>first|exact fun _ _=>trivial|simp) ?_
 simp only[ac25,rv25,push_cast,reduceIte,zA,zB,zC,zD,zE,zF,zG,reduceCtorEq,zH,zJ,cNI]
 simp only[rep1,List.set_cons_zero,zV,List.length_nil,push_cast,reduceIte,zA,zB,zC,zD,zE,zF,zG,reduceCtorEq,zH,zJ,cNI]
 refine qoP (fun n st=> ∃k:Nat,k<=l.length/\n=l.length-k/\st=⟨[(3,.view 10 0 (qET l.length (l.take k)).length),(11,.sl false 1 (rows (frmC false) l)),(12,.int l.length),(13,.int k)],[],[(10,⟨1,3,ints (qET l.length (l.take k))⟩)],[]⟩) l.length ⟨0,oM,oM,?_⟩ ?_
 ·refine sB ?_
  rfl
 rintro n st ⟨k,hk,rfl,rfl⟩
 have hn:=qEX (l:=l.take k) (fun ws hws=>hl.len ws (List.mem_of_mem_take hws)) l.length
 have htk:(l.take k).length=k:=by rw[List.length_take];omega
 simp only[rep1,List.set_cons_zero,zV,List.length_nil,push_cast,reduceIte,zA,zB,zC,zD,zE,zF,zG,reduceCtorEq,zH,zJ,cNI]
 refine qnY (fun h=> ?_) fun h=> ?_
 ·have hws:=hl.len _ (show l.getD k default∈l by simp[zK,show k<l.length by omega])
  have hT:=qEY l k oM
  generalize l.getD k default=ws at hws hT ⊢
  simp only[qF0]
  refine⟨⟨oM,oM⟩,oM,⟨oM,oM⟩,?_⟩
  refine qoP (fun n st=> ∃j:Nat,j<=ws.length/\n=ws.length-j/\st=⟨[(3,.view 10 0 (qET l.length (l.take k)++((ws.length:Int)::(ws.take j).map wI)).length),(11,.sl false 1 (rows (frmC false) l)),(12,.int l.length),(13,.int k),(24,.sl false 1 (rows u64C (nats ws))),(25,.int ws.length),(26,.int j)],[],[(10,⟨1,3,ints (qET l.length (l.take k)++((ws.length:Int)::(ws.take j).map wI))⟩)],[]⟩) ws.length ⟨0,oM,oM,?_⟩ ?_
  ·simp only[List.take_zero,List.map_nil,zU,zV,List.length_nil,push_cast,reduceIte,zA,zB,zC,zD,zE,zF,zG,reduceCtorEq,zH,zJ,cNI]
   try rfl
  rintro n st ⟨j,hj,rfl,rfl⟩
  have htj:(ws.take j).length=j:=by rw[List.length_take];omega
  simp only[rep1,List.set_cons_zero,zV,List.length_nil,zU,yG,htj,push_cast,reduceIte,zA,zB,zC,zD,zE,zF,zG,reduceCtorEq,zH,zJ,cNI]
  refine qnY (fun h2=> ?_) fun h2=> ?_
  ·have hTj:=qEY ws j oM
   simp only[qEZ,qF0]
   refine⟨⟨oM,oM⟩,oM,⟨oM,oM⟩,⟨oM,oM⟩,ws.length-(j+1),oM,j+1,oM,rfl,?_⟩
   rw[hTj,yH,zW,List.map_nil,List.append_assoc,List.cons_append,zU,htj]
   rfl
  ·have:j=ws.length:=by omega
   subst this
   rw[List.take_length]
   refine⟨⟨oM,oM⟩,l.length-(k+1),oM,k+1,oM,rfl,?_⟩
   rw[hT,qF1,zU,show(numR ws).length=ws.length+1 from by simp[numR]]
   rfl
 ·have:k=l.length:=by omega
  subst this
  rw[List.take_length]
  rw[List.take_length]at hn
  refine qrv (qER (qET l.length l) oM) sC ?_
  refine sB ?_
  rw[qEW hl.ok (fun ws hws=>by have:=hl.len ws hws;omega) oM]
  rfl
def colF(g:Grid)(n:Int):Int:=if qv2 g<=n then -1 else if g.w*g.h<=n/qv1 g then g.w else n/qv1 g%g.w
theorem qF3(g:Grid)(hg:GOk g)(n:Int)(hn:0<=n/\n<=1000000000):FnEq Tryz.prog 15 [.agg (quX false g),.int n] (.int (colF g n)):=by
 have h1:=hg.count
 have h2:=hg.each
 have h3:=hg.tracks
 have h4:=hg.w
 have h5:=hg.wh
 have he:6+2*g.tracks=qv1 g:=rfl
 refine FnEq.of_awp Tryz.func15 ok15 (by show 2<=_;decide) (by simp only[push_cast,reduceIte,zA,zB,zC,zD,zE,zF,zG,reduceCtorEq,zH,zJ,cNI]<;>first|exact fun _ _=>trivial|simp) ?_
 simp only[ac15,rv15,push_cast,reduceIte,zA,zB,zC,zD,zE,zF,zG,reduceCtorEq,zH,zJ,cNI]
 rw[decide_eq_false (show ¬n<0 by omega)]
 refine⟨⟨oM,oM⟩,⟨oM,oM⟩,⟨oM,oM,oM⟩,?_⟩
 refine sB ?_
 refine qrv (qv5 g hg) sC ?_
 refine sB ?_
 have hq:0<=n/qv1 g:=Int.ediv_nonneg hn.1 oM
 have hq2:n/qv1 g<=n:=Int.ediv_le_self _ hn.1
 unfold colF
 rw[he]
 refine qnY (fun h=> ?_) fun h=> ?_
 ·rw[if_pos h]
  done
 rw[if_neg h]
 refine⟨⟨oM,oM⟩,?_⟩
 refine qnY (fun h=> ?_) fun h=> ?_
 ·rw[if_pos h]
 ·rw[if_neg h]
  exact⟨⟨hq,oM,oM⟩,rfl⟩
end Go.Proofs.YtecoaapkcnhlhaaGreatDoor
namespace Go.Vc
open Go Go.RowKit
theorem qF4{i j:Nat}{c:PV}(h:c.to nul (isId i)=false):c.ren i j=c:=by
 cases c<;>first|rfl|skip
 ·rename_i id lo n
  have h:(id==i)=false:=h
  have h:id≠i:=by simpa using h
  simp only[PV.ren,if_neg h]
 ·rename_i id lo n
  have h:(id==i)=false:=h
  have h:id≠i:=by simpa using h
  simp only[PV.ren,if_neg h]
theorem qF5{i j:Nat} : ∀ {l:List PV},anyT nul (isId i) l=false->l.map (PV.ren i j)=l
 |[],_=>rfl
 | c :: r, h => by
   rw[qhN,Bool.or_eq_false_iff]at h
   rw[zW,qF4 h.1,qF5 h.2]
theorem qF6{i j:Nat}{c:PV}(h:c.toA nul (isId i)=false):c.renA i j=c:=by
 by_cases hc: ∃cs,c= .agg cs
 ·obtain⟨cs,rfl⟩:=hc
  rw[qhQ]at h;simp only[PV.renA,qF5 h]
 ·have e:c.renA i j=c.ren i j:=by cases c<;>first|rfl|exact absurd ⟨_,rfl⟩ hc
  have e2:c.toA nul (isId i)=c.to nul (isId i):=by cases c<;>first|rfl|exact absurd ⟨_,rfl⟩ hc
  rw[e,qF4 (by rw[<- e2];exact h)]
theorem qF7{i j:Nat}{c:PV}(h:c.toV nul (isId i)=false):c.renV i j=c:=by
 by_cases hc: ∃cs,c= .tup cs
 ·obtain⟨cs,rfl⟩:=hc
  simp only[PV.renV]
  congr 1
  have h:cs.any (PV.toA nul (isId i))=false:=h
  conv=>rhs;rw[<- List.map_id cs]
  apply List.map_congr_left
  intro c hc
  exact qF6 (by simpa using yD.1 h c hc)
 ·have e:c.renV i j=c.renA i j:=by cases c<;>first|rfl|exact absurd ⟨_,rfl⟩ hc
  have e2:c.toV nul (isId i)=c.toA nul (isId i):=by cases c<;>first|rfl|exact absurd ⟨_,rfl⟩ hc
  rw[e,qF6 (by rw[<- e2];exact h)]
theorem qF8{i j:Nat} : ∀ {s:List (Nat×PV)},farL i s->(s.map fun x=>(x.1,x.2.renV i j))=s
 |[],_=>rfl
 |(k,v)::r,h=>by rw[zW,qF8 h.2,qF7 h.1.2]
theorem qF9{i:Nat} : ∀ {s:List (Nat×PV)},farL i s->s.all (fun x=> !x.2.toV nul (isId i))=true
 |[],_=>rfl
 |(k,v)::r,h=>by rw[List.all_cons,qF9 h.2,h.1.2];rfl
theorem SWk.renEq {s : List (Nat × PV)} {b b' : List (Nat × List PV)} {a a' : List (Nat × Arr)} {A : Arr} (i j : Nat) (hA : lk a i = some A) (hj : lk a j = none) (hfi : farL i s) (hfj : farL j s)
  (hbj:refB nul (isId j) b=false) (hb:(b.map fun x=>(x.1,x.2.map (PV.ren i j)))=b') (ha:up (rm a i) j A=a'):SWk ⟨s,b,a,[]⟩ ⟨s,b',a',[]⟩:=by
 have h:=SWk.ren (st:=⟨s,b,a,[]⟩) i j hA hj (by
  simp only[St.noTo,zN]
  refine⟨⟨qF9 hfj,?_⟩,rfl⟩
  rw[<- qim]at hbj
  rw[yE]
  intro x hx
  have:=yD.1 hbj x hx
  rw[Bool.not_eq_true]at this
  rw[Bool.not_eq_true']
  exact this)
 simp only[St.ren]at h
 rw[qF8 hfi,hb,ha]at h
 exact h
theorem qFa{α:Type}(l:List (Nat×α)){k i:Nat}(v:α)(h:k≠i):rm ((k,v)::l) i=(k,v)::rm l i:=by
 show(if k=i then rm l i else(k,v)::rm l i)=_
 rw[if_neg h]
theorem qFb{α:Type}(l:List (Nat×α))(k:Nat)(v:α):rm ((k,v)::l) k=rm l k:=by
 show(if k=k then rm l k else(k,v)::rm l k)=_
 rw[if_pos rfl]
theorem rowsA_rm(es ty:Nat): ∀(k:Nat) (rs:List (Option (List (List PV)))) (x:Nat),rm (qB1 es ty k rs) (k+x)=qB1 es ty k (rs.set x none)
 |_,[],x=>by simp[qB1,Go.Vc.rm]
 | k, none :: rs, 0 => by
   rw[List.set_cons_zero]
   exact rm_ge es ty (k+1) rs k (by omega)
 | k, some r :: rs, 0 => by
   rw[List.set_cons_zero];show rm ((k,_)::qB1 es ty (k+1) rs) k=_;rw[qFb]
   exact rm_ge es ty (k+1) rs k (by omega)
 |k,none::rs,x+1=>by rw[qB1,List.set_cons_succ,qB1,show k+(x+1)=k+1+x from by omega,rowsA_rm es ty (k+1) rs x]
 |k,some r::rs,x+1=>by rw[qB1,List.set_cons_succ,qB1,qFa _ _ (show k≠k+(x+1)by omega),show k+(x+1)=k+1+x from by omega,rowsA_rm es ty (k+1) rs x]
where
 rm_ge (es ty:Nat): ∀(k:Nat) (rs:List (Option (List (List PV)))) (i:Nat),i<k->rm (qB1 es ty k rs) i=qB1 es ty k rs
  |_,[],_,_=>rfl
  |k,none::rs,i,h=>rm_ge es ty (k+1) rs i (by omega)
  |k,some r::rs,i,h=>by rw[qB1,qFa _ _ (show k≠i by omega),rm_ge es ty (k+1) rs i (by omega)]
theorem qFc(es ty:Nat)(k:Nat)(rs:List (Option (List (List PV))))(i:Nat)(h:i<k):rm (qB1 es ty k rs) i=qB1 es ty k rs:=rowsA_rm.rm_ge es ty k rs i h
theorem qFd: ∀(j k:Nat) (rs:List (Option (List (List PV)))) (x:Nat) (r:List (List PV)),rs[x]? =some (some r)->(qB0 k rs).map (PV.ren (k+x) j)=(qB0 k (rs.set x none)).set x (.view j 0 r.length)
 |_,_,[],x,r,h=>by simp at h
 | j, k, q :: rs, 0, r, h => by
   simp at h;subst h
   rw[qB0,zW,List.set_cons_zero,qB0,List.set_cons_zero,qB8 (k+0) j (k+1) rs fun x _=>by omega]
   simp[rowC,PV.ren]
 | j, k, q :: rs, x + 1, r, h => by
   rw[qB0,zW,List.set_cons_succ,qB0,List.set_cons_succ,show k+(x+1)=k+1+x from by omega,qFd j (k+1) rs x r (by simpa using h)]
   congr 1
   cases q with
   |none=>rfl
   |some q=>simp only[rowC,PV.ren,if_neg (show k≠k+1+x by omega)]
theorem qFe: ∀(j k:Nat) (rs:List (Option (List (List PV)))) (x:Nat) (r:List (List PV)),x<rs.length->j<k->((qB0 k rs).set x (.view j 0 r.length)).map (PV.ren j (k+x))=qB0 k (rs.set x (some r))
 |_,_,[],x,r,h,_=>by simp at h
 | j, k, q :: rs, 0, r, h, hj => by
   rw[qB0,List.set_cons_zero,zW,List.set_cons_zero,qB0,qB8 j (k+0) (k+1) rs fun x _=>by omega]
   simp[rowC,PV.ren]
 | j, k, q :: rs, x + 1, r, h, hj => by
   rw[qB0,List.set_cons_succ,zW,List.set_cons_succ,qB0,show k+(x+1)=k+1+x from by omega,qFe j (k+1) rs x r (by simpa using h) (by omega)]
   congr 1
   cases q with
   |none=>rfl
   |some q=>simp only[rowC,PV.ren,if_neg (show k≠j by omega)]
theorem qFf(pa:Nat->Bool): ∀(k:Nat) (rs:List (Option (List (List PV)))),(∀x r,rs[x]? =some (some r)->pa (k+x)=false)->anyT nul pa (qB0 k rs)=false
 |_,[],_=>rfl
 | k, r :: rs, h => by
   rw[qB0,qhN,qFf pa (k+1) rs fun x r hx=>by rw[show k+1+x=k+(x+1)from by omega];exact h (x+1) r (by simpa using hx),Bool.or_false]
   cases r with
   |none=>rfl
   |some r=>exact h 0 r (by simp)
theorem qFg(pb pa:Nat->Bool)(c:PV): ∀(l:List PV) (x:Nat),anyT pb pa l=false->c.to pb pa=false->anyT pb pa (l.set x c)=false
 |[],_,_,_=>rfl
 | d :: l, 0, h, hc => by
   rw[qhN,Bool.or_eq_false_iff]at h
   rw[List.set_cons_zero,qhN,hc,h.2];rfl
 | d :: l, x + 1, h, hc => by
   rw[qhN,Bool.or_eq_false_iff]at h
   rw[List.set_cons_succ,qhN,h.1,qFg pb pa c l x h.2 hc];rfl
theorem qFh{P:Env}(cs:List PV)(off:Nat)(d:Option Nat)(r:List AO)(st:St)(K:St->Prop):qS P d (rowV false 1 off cs) r st K=(off+1<=cs.length/\opsK P r (st.put d (cs.getD off .bot)) K):=rfl
theorem qFi(cs:List PV)(i:Nat)(v:PV)(h:i<cs.length):spl cs i [v]=cs.set i v:=by
 unfold spl
 rw[List.set_eq_take_append_cons_drop,if_pos h]
 simp
end Go.Vc
namespace Go.Vc
open Go Go.RowKit
theorem qFj(pb pa:Nat->Bool): ∀(s:List (Nat×PV)) (i:Nat) (v:PV),qiE pb pa (up s i v)=up (qiE pb pa s) i (v.killV pb pa)
 | [], i, v => by
   simp only[up,qiI,qiJ]
   cases h:v.toV pb pa
   ·rw[qiQ pb pa h];rfl
   ·rfl
 | (k, u) :: r, i, v => by
   have e: ∀k:Nat,(k,bif v.toV pb pa then v.killV pb pa else v)=(k,v.killV pb pa):=fun k=>by
    cases h:v.toV pb pa
    ·rw[qiQ pb pa h];rfl
    ·rfl
   simp only[up,qiJ]
   split
   ·simp only[qiJ,e]
   ·split
    ·simp only[qiJ,e]
    ·rw[qiJ,qFj pb pa r i v]
theorem qFk(pb pa:Nat->Bool)(V:Nat->PV)(dn:List Nat): ∀(ops:List XO) (s:List (Nat×PV)),qiE pb pa (slD V dn ops s)=slD (fun i=>(V i).killV pb pa) dn ops (qiE pb pa s)
 |[],_=>rfl
 | x :: r, s => by
   rw[qAw,qAw,qFk pb pa V dn r]
   congr 1
   split
   ·unfold putD
    split
    ·exact qFj pb pa s _ _
    ·rfl
   ·rfl
theorem qFl{V V' :Nat->PV}{dn:List Nat}(h: ∀i,dn.contains i=true->V i=V' i): ∀(ops:List XO) (s:List (Nat×PV)),slD V dn ops s=slD V' dn ops s
 |[],_=>rfl
 | x :: r, s => by
   rw[qAw,qAw,qFl h r]
   split
   ·next hx=>
    unfold putD
    rw[h x.i hx]
   ·rfl
theorem qFm {P : Env} {ops : List XO} {V : List Nat -> Nat -> PV} {s0 : List (Nat × PV)} (mem : List Nat -> List (Nat × List PV) × List (Nat × Arr) × List (Nat × Mp)) (hops : qAx ops = true) (hg : ops.all (fun x => x.o.g.isNone) = true)
  (step: ∀x∈ops,∀dn,rdyB dn x=true->qAF ops dn-> ∀K:St->Prop,K ⟨putD (V (x.i::dn)) x (slD (V (x.i::dn)) dn ops s0),(mem (x.i::dn)).1,(mem (x.i::dn)).2.1,(mem (x.i::dn)).2.2⟩->
   opK P x.o ⟨slD (V dn) dn ops s0,(mem dn).1,(mem dn).2.1,(mem dn).2.2⟩ K) {K:St->Prop}
  (hK: ∀dn,(∀x∈ops,dn.contains x.i=true)->K ⟨slD (V dn) dn ops s0,(mem dn).1,(mem dn).2.1,(mem dn).2.2⟩):
  ∀(n:Nat) (dn:List Nat),dn.length+n=ops.length->dn.Nodup->(∀j∈dn,j∈ops.map (·.i))->qAF ops dn->allK P ops n dn ⟨slD (V dn) dn ops s0,(mem dn).1,(mem dn).2.1,(mem dn).2.2⟩ K
 | 0, dn, hl, hn, hs, _ => by
   have hall: ∀x∈ops,dn.contains x.i=true:=fun x hx=>by
    refine Classical.byContradiction fun hc=> ?_
    have hm:x.i∉dn:=by simpa using hc
    have:=qAG (l1:=x.i::dn) (l2:=ops.map (·.i)) (List.nodup_cons.2 ⟨hm,hn⟩) fun j hj=>(List.mem_cons.1 hj).elim (fun e=>by rw[e];exact List.mem_map_of_mem hx) (hs j)
    simp at this
    omega
   exact⟨yE.2 hall,hK dn hall⟩
 | n + 1, dn, hl, hn, hs, hc => by
   refine⟨fun e=>hK dn (yE.1 e),fun x hx hr=> ?_⟩
   have h2:x.o.g=none:=by simpa using yE.1 hg x hx
   have hr2:=hr
   simp only[rdyB,zN,Bool.not_eq_true',yE]at hr2
   have hm:x.i∉dn:=by simpa using hr2.1
   simp only[h2,grdK]
   refine step x hx dn hr hc _ ?_
   rw[<- qAC hr2.1 hops hx]
   refine qFm mem hops hg step hK n (x.i::dn) (by simp;omega) (List.nodup_cons.2 ⟨hm,hn⟩) (fun j hj=>(List.mem_cons.1 hj).elim (fun e=>by rw[e];exact List.mem_map_of_mem hx) (hs j)) ?_
   intro y hy hyd j hj
   rw[List.contains_cons,Bool.or_eq_true]at hyd ⊢
   rcases hyd with e|hyd
   ·have e:y.i=x.i:=by simpa using e
    have:y=x:=qAH hops hy hx e
    subst this
    exact .inr (hr2.2 j hj)
   ·exact .inr (hc y hy hyd j hj)
theorem qFn {P : Env} {ops : List XO} (V : List Nat -> Nat -> PV) {s0 : List (Nat × PV)} (mem : List Nat -> List (Nat × List PV) × List (Nat × Arr) × List (Nat × Mp)) (hops : qAx ops = true) (hg : ops.all (fun x => x.o.g.isNone) = true)
  (step: ∀x∈ops,∀(dn:List Nat) (S:List (Nat×PV)),rdyB dn x=true->qAF ops dn->S=slD (V dn) dn ops s0->(∀t,knW ops dn t->getL S t=vlW ops (V dn) s0 t)->
   ∀K:St->Prop,K ⟨putD (V (x.i::dn)) x (slD (V (x.i::dn)) dn ops s0),(mem (x.i::dn)).1,(mem (x.i::dn)).2.1,(mem (x.i::dn)).2.2⟩->opsK P [x.o] ⟨S,(mem dn).1,(mem dn).2.1,(mem dn).2.2⟩ K) {K:St->Prop}
  (hK: ∀dn,(∀x∈ops,dn.contains x.i=true)->K ⟨slA (V dn) ops s0,(mem dn).1,(mem dn).2.1,(mem dn).2.2⟩) {st:St} (hst:st=⟨s0,(mem []).1,(mem []).2.1,(mem []).2.2⟩):allK P ops ops.length [] st K:=by
 have h0:slD (V []) [] ops s0=s0:=by
  have: ∀(l:List XO) (s:List (Nat×PV)),slD (V []) [] l s=s:=by
   intro l
   induction l with
   |nil=>exact fun _=>rfl
   |cons x r ih=>exact fun s=>by rw[qAw,if_neg (by simp)];exact ih s
  exact this ops s0
 subst hst
 have key:=qFm (P:=P) (ops:=ops) (V:=V) (s0:=s0) mem hops hg (fun x hx dn hr hc K hk=>qAQ (by simpa using yE.1 hg x hx) (step x hx dn _ hr hc rfl (fun t ht=>qAL hops ht) K hk)) (K:=K) (fun dn h=>by rw[qAM h];exact hK dn h) ops.length [] (by simp) .nil (fun j hj=>by cases hj) (fun x _ h=>by simp at h)
 rw[h0]at key
 exact key
theorem qFo{K:Nat} : ∀ {s:List (Nat×PV)} {i:Nat} {v:PV},qtX K s=true->i<K->qtX K (up s i v)=true
 |[],i,v,_,hi=>by simp[up,qtX,hi]
 | (k, u) :: r, i, v, h, hi => by
   have h' :decide (k<K)=true/\qtX K r=true:=by simpa[qtX]using h
   simp only[up]
   split
   ·simpa[qtX]using h'
   ·split
    ·simp[qtX,hi,h'.2];simpa using h'.1
    ·have:=qFo (v:=v) h'.2 hi
     simp[qtX,this];simpa using h'.1
theorem qFp{K:Nat}{V:Nat->PV}{dn:List Nat} : ∀ {ops:List XO} {s:List (Nat×PV)},qtX K s=true->(ops.all fun x=>match x.o.d with|some d=>decide (d<K)|none=>true)=true->qtX K (slD V dn ops s)=true
 |[],_,h,_=>h
 | x :: r, s, h, ho => by
   rw[List.all_cons,zN]at ho
   rw[qAw]
   refine qFp ?_ ho.2
   split
   ·unfold putD
    split
    ·next d hd=>
     rw[hd]at ho
     exact qFo h (by simpa using ho.1)
    ·exact h
   ·exact h
end Go.Vc
namespace Go.Proofs.YtecoaapkcnhlhaaGreatDoor
open Go Go.Vc Txt
def qFq(n xi len:Nat)(cell cell' :PV)(dn:List Nat):Nat->PV
 |0=> .bv 32 1 n
 |1=> .int xi
 |2=> .bv 32 1 n
 |3=> .int xi
 |4=> .ptr 32 xi
 |5=>if dn.contains 7=true then cell' else cell
 |6=> .view 1054 0 1
 |7=> .view 1055 0 (len+1)
 |8=> .ptr 32 xi
 |_=> .bot
def qFr(b b7 b9:List (Nat×List PV))(a a6 a7:List (Nat×Arr))(dn:List Nat):List (Nat×List PV)×List (Nat×Arr)×List (Nat×Mp):=
 (if dn.contains 9=true then b9 else if dn.contains 7=true then b7 else b,if dn.contains 7=true then a7 else if dn.contains 6=true then a6 else a,[])
def qFs(a:List (Nat×Arr))(W:List (List PV))(cell cell' :PV):Prop:=(cell= .nil/\W=[]/\cell' = .nil)\/(cell= .view 1055 0 W.length/\lk a 1055=some ⟨1,59,W⟩/\cell' = .bot)
set_option maxHeartbeats 4000000 in
theorem qFt {P : Env} {s0 : List (Nat × PV)} {b b7 : List (Nat × List PV)} {a : List (Nat × Arr)} (n xi : Nat) (W : List (List PV)) (cell cell' : PV) (C C7 : List PV) (K : St -> Prop)
  (hP:getL s0 1008= .ptr 8 0) (hX:getL s0 1009= .int xi) (hx:xi<n) (hW:W.length<100000000)
  (hb1:lk b 8=some [.bv 32 1 n]) (hb2:lk b7 8=some [.bv 32 1 n]) (hc:lk b 32=some C) (hc7:lk b7 32=some C7) (hC:C.length=n) (hC7:C7.length=n) (hcell:C.getD xi .bot=cell)
  (k6:qiF nul (isId 1054) b=b) (k7:qiF nul (isId 1055) b=b7) (f6:qiE nul (isId 1054) s0=s0) (f7:qiE nul (isId 1055) s0=s0)
  (h:qFs a W cell cell')
  (hK:K ⟨slA (qFq n xi W.length cell cell' [7]) xs32_13 s0,up b7 32 (C7.set xi (.view 1055 0 (W.length+1))),up (up a 1054 ⟨1,59,[[.sc (.int .u64 0)]]⟩) 1055 ⟨1,59,W++[[.sc (.int .u64 0)]]⟩,[]⟩):
  allK P xs32_13 xs32_13.length [] ⟨s0,b,a,[]⟩ K:=by
 have hlk: ∀(l:List (Nat×Arr)) (A:Arr),lk (up l 1054 A) 1055=lk l 1055:=fun l A=>by rw[qa2,if_neg (by decide)]
 have hlk6: ∀(l:List (Nat×Arr)) (A:Arr),lk (up l 1054 A) 1054=some A:=fun l A=>by rw[qa2,if_pos rfl]
 have hub: ∀(c:List PV),lk (up b7 32 c) 8=some [.bv 32 1 n]:=fun c=>by rw[qa2,if_neg (by decide)];exact hb2
 refine qFn (ops:=xs32_13) (qFq n xi W.length cell cell') (qFr b b7 (up b7 32 (C7.set xi (.view 1055 0 (W.length+1)))) a (up a 1054 ⟨1,59,[[.sc (.int .u64 0)]]⟩) (up (up a 1054 ⟨1,59,[[.sc (.int .u64 0)]]⟩) 1055 ⟨1,59,W++[[.sc (.int .u64 0)]]⟩)) rfl rfl ?_ ?_ rfl
 ·rw[xs32_13_all]
  refine⟨?_,?_,?_,?_,?_,?_,?_,?_,?_,?_⟩
  ·intro dn S hr hc' hS L K hK
   have h9:dn.contains 9=false:=qAT hc' hr (zP (i:=9) rfl) (by decide)
   have g0:getL S 1008= .ptr 8 0:=(L 1008 trivial).trans hP
   have e:qFq n xi W.length cell cell' (0::dn)=qFq n xi W.length cell cell' dn:=rfl
   have em:qFr b b7 (up b7 32 (C7.set xi (.view 1055 0 (W.length+1)))) a (up a 1054 ⟨1,59,[[.sc (.int .u64 0)]]⟩) (up (up a 1054 ⟨1,59,[[.sc (.int .u64 0)]]⟩) 1055 ⟨1,59,W++[[.sc (.int .u64 0)]]⟩) (0::dn)=qFr b b7 (up b7 32 (C7.set xi (.view 1055 0 (W.length+1)))) a (up a 1054 ⟨1,59,[[.sc (.int .u64 0)]]⟩) (up (up a 1054 ⟨1,59,[[.sc (.int .u64 0)]]⟩) 1055 ⟨1,59,W++[[.sc (.int .u64 0)]]⟩) dn:=rfl
   rw[em,e,<- hS]at hK
   revert hK
   unfold qFr
   rw[h9]
   intro hK
   cases h7:dn.contains 7<;>rw[h7]at hK<;>simp only[g0,hb1,hb2,push_cast,reduceIte,zA,zB,zC,zD,zE,zF,zG,reduceCtorEq,zH,zJ,cNI]at hK ⊢ <;>exact hK
  ·intro dn S hr hc' hS L K hK
   have g0:getL S 1009= .int xi:=(L 1009 trivial).trans hX
   have e:qFq n xi W.length cell cell' (1::dn)=qFq n xi W.length cell cell' dn:=rfl
   rw[e,<- hS]at hK
   simp only[g0,push_cast,reduceIte,zA,zB,zC,zD,zE,zF,zG,reduceCtorEq,zH,zJ,cNI]
   exact hK
  ·intro dn S hr hc' hS L K hK
   have h9:dn.contains 9=false:=qAT hc' hr (zP (i:=9) rfl) (by decide)
   have g0:getL S 1008= .ptr 8 0:=(L 1008 trivial).trans hP
   have e:qFq n xi W.length cell cell' (2::dn)=qFq n xi W.length cell cell' dn:=rfl
   have em:qFr b b7 (up b7 32 (C7.set xi (.view 1055 0 (W.length+1)))) a (up a 1054 ⟨1,59,[[.sc (.int .u64 0)]]⟩) (up (up a 1054 ⟨1,59,[[.sc (.int .u64 0)]]⟩) 1055 ⟨1,59,W++[[.sc (.int .u64 0)]]⟩) (2::dn)=qFr b b7 (up b7 32 (C7.set xi (.view 1055 0 (W.length+1)))) a (up a 1054 ⟨1,59,[[.sc (.int .u64 0)]]⟩) (up (up a 1054 ⟨1,59,[[.sc (.int .u64 0)]]⟩) 1055 ⟨1,59,W++[[.sc (.int .u64 0)]]⟩) dn:=rfl
   rw[em,e,<- hS]at hK
   revert hK
   unfold qFr
   rw[h9]
   intro hK
   cases h7:dn.contains 7<;>rw[h7]at hK<;>simp only[g0,hb1,hb2,push_cast,reduceIte,zA,zB,zC,zD,zE,zF,zG,reduceCtorEq,zH,zJ,cNI]at hK ⊢ <;>exact hK
  ·intro dn S hr hc' hS L K hK
   have g0:getL S 1009= .int xi:=(L 1009 trivial).trans hX
   have e:qFq n xi W.length cell cell' (3::dn)=qFq n xi W.length cell cell' dn:=rfl
   rw[e,<- hS]at hK
   simp only[g0,push_cast,reduceIte,zA,zB,zC,zD,zE,zF,zG,reduceCtorEq,zH,zJ,cNI]
   exact hK
  ·intro dn S hr hc' hS L K hK
   have g1:getL S 1050= .bv 32 1 n:=L 1050 (qAR hr (j:=2) (by decide))
   have g2:getL S 1051= .int xi:=L 1051 (qAR hr (j:=3) (by decide))
   have e:qFq n xi W.length cell cell' (4::dn)=qFq n xi W.length cell cell' dn:=rfl
   rw[e,<- hS]at hK
   simp only[g1,g2,Nat.mul_one,push_cast,reduceIte,zA,zB,zC,zD,zE,zF,zG,reduceCtorEq,zH,zJ,cNI]
   exact⟨⟨oM,oM⟩,hK⟩
  ·intro dn S hr hc' hS L K hK
   have g1:getL S 1052= .ptr 32 xi:=L 1052 (qAR hr (j:=4) (by decide))
   have h7:dn.contains 7=false:=qAT hc' hr (zP (i:=7) rfl) (by decide)
   have h9:dn.contains 9=false:=qAT hc' hr (zP (i:=9) rfl) (by decide)
   have e:qFq n xi W.length cell cell' (5::dn)=qFq n xi W.length cell cell' dn:=rfl
   have em: ∀q1 q2 q3 q4 q5 q6,qFr q1 q2 q3 q4 q5 q6 (5::dn)=qFr q1 q2 q3 q4 q5 q6 dn:=fun _ _ _ _ _ _=>rfl
   rw[em,e,<- hS]at hK
   have e5:qFq n xi W.length cell cell' dn 5=cell:=by
    show(if dn.contains 7=true then cell' else cell)=cell
    rw[h7];rfl
   have hK:K ⟨up S 1053 (qFq n xi W.length cell cell' dn 5),_,_,_⟩:=hK
   rw[e5]at hK
   revert hK
   unfold qFr
   rw[h9,h7]
   intro hK
   simp only[g1,hc,qFh C,hcell,hC,push_cast,reduceIte,zA,zB,zC,zD,zE,zF,zG,reduceCtorEq,zH,zJ,cNI]at hK ⊢
   exact⟨oM,hK⟩
  ·intro dn S hr hc' hS L K hK
   have h7:dn.contains 7=false:=qAT hc' hr (zP (i:=7) rfl) (by decide)
   have h9:dn.contains 9=false:=qAT hc' hr (zP (i:=9) rfl) (by decide)
   have h6:dn.contains 6=false:=qAS hr
   have e:qFq n xi W.length cell cell' (6::dn)=qFq n xi W.length cell cell' dn:=rfl
   have em: ∀q1 q2 q3 q4 q5 q6,qFr q1 q2 q3 q4 q5 q6 (6::dn)=(q1,q5,[]):=fun q1 q2 q3 q4 q5 q6=>by
    show(if dn.contains 9=true then _ else if dn.contains 7=true then _ else _,if dn.contains 7=true then _ else if true=true then _ else _,_)=_
    rw[h9,h7];rfl
   have em0: ∀q1 q2 q3 q4 q5 q6,qFr q1 q2 q3 q4 q5 q6 dn=(q1,q4,[]):=fun q1 q2 q3 q4 q5 q6=>by
    unfold qFr
    rw[h9,h7,h6];rfl
   rw[em,e,<- hS]at hK
   rw[em0]
   have hkS:qiE nul (isId 1054) S=S:=by
    rw[hS,qFk,f6]
    apply qFl
    intro i hi
    rcases i with _|_|_|_|_|_|_|_|_|_|i<;>try rfl
    ·show PV.killV nul (isId 1054) (if dn.contains 7=true then cell' else cell)=(if dn.contains 7=true then cell' else cell)
     rw[h7]
     rcases h with⟨h1,-,-⟩|⟨h1,-,-⟩<;>rw[h1]<;>rfl
    ·rw[h6]at hi;cases hi
   simp only[hkS,k6,rep1,List.set_cons_zero,zV,List.length_nil,push_cast,reduceIte,zA,zB,zC,zD,zE,zF,zG,reduceCtorEq,zH,zJ,cNI]at hK ⊢
   first|exact hK|exact⟨by decide,hK⟩
  ·intro dn S hr hc' hS L K hK
   have h9:dn.contains 9=false:=qAT hc' hr (zP (i:=9) rfl) (by decide)
   have h7:dn.contains 7=false:=qAS hr
   have h6:dn.contains 6=true:=qAR hr (j:=6) (by decide)
   have g5:getL S 1053=cell:=by
    rw[L 1053 (qAR hr (j:=5) (by decide))]
    show(if dn.contains 7=true then cell' else cell)=cell
    rw[h7];rfl
   have g6:getL S 1054= .view 1054 0 1:=L 1054 (qAR hr (j:=6) (by decide))
   have em: ∀q1 q2 q3 q4 q5 q6,qFr q1 q2 q3 q4 q5 q6 (7::dn)=(q2,q6,[]):=fun q1 q2 q3 q4 q5 q6=>by
    show(if dn.contains 9=true then _ else if true=true then _ else _,if true=true then _ else if dn.contains 6=true then _ else _,_)=_
    rw[h9];rfl
   have em0: ∀q1 q2 q3 q4 q5 q6,qFr q1 q2 q3 q4 q5 q6 dn=(q1,q5,[]):=fun q1 q2 q3 q4 q5 q6=>by
    unfold qFr
    rw[h9,h7,h6];rfl
   rw[em]at hK
   rw[em0]
   have hkS:qiE nul (isId 1055) S=slD (qFq n xi W.length cell cell' (7::dn)) dn xs32_13 s0:=by
    rw[hS,qFk,f7]
    apply qFl
    intro i hi
    rcases i with _|_|_|_|_|_|_|_|_|_|i<;>try rfl
    ·show PV.killV nul (isId 1055) (if dn.contains 7=true then cell' else cell)=cell'
     rw[h7]
     rcases h with⟨h1,-,h3⟩|⟨h1,-,h3⟩<;>rw[h1,h3]<;>rfl
    ·rw[h7]at hi;cases hi
   have hK:K ⟨up (slD (qFq n xi W.length cell cell' (7::dn)) dn xs32_13 s0) 1055 (.view 1055 0 (W.length+1)),_,_,_⟩:=hK
   rw[<- hkS]at hK
   rcases h with⟨h1,h2,h3⟩|⟨h1,h2,h3⟩
   ·subst h2
    rw[h1]at g5
    simp only[g5,g6,hlk6,k7,List.take_succ_cons,List.take_zero,zV,List.length_nil,List.nil_append,push_cast,reduceIte,zA,zB,zC,zD,zE,zF,zG,reduceCtorEq,zH,zJ,cNI]at hK ⊢
    first|exact hK|exact⟨by decide,hK⟩
   ·rw[h1]at g5
    simp only[g5,g6,hlk,hlk6,h2,k7,List.take_succ_cons,List.take_zero,zV,List.length_nil,push_cast,reduceIte,zA,zB,zC,zD,zE,zF,zG,reduceCtorEq,zH,zJ,cNI]at hK ⊢
    exact⟨⟨oM,oM⟩,hK⟩
  ·intro dn S hr hc' hS L K hK
   have h9:dn.contains 9=false:=qAT hc' hr (zP (i:=9) rfl) (by decide)
   have g1:getL S 1048= .bv 32 1 n:=L 1048 (qAR hr (j:=0) (by decide))
   have g2:getL S 1049= .int xi:=L 1049 (qAR hr (j:=1) (by decide))
   have e:qFq n xi W.length cell cell' (8::dn)=qFq n xi W.length cell cell' dn:=rfl
   rw[e,<- hS]at hK
   simp only[g1,g2,Nat.mul_one,push_cast,reduceIte,zA,zB,zC,zD,zE,zF,zG,reduceCtorEq,zH,zJ,cNI]
   exact⟨⟨oM,oM⟩,hK⟩
  ·intro dn S hr hc' hS L K hK
   have h9:dn.contains 9=false:=qAS hr
   have h7:dn.contains 7=true:=qAR hr (j:=7) (by decide)
   have g1:getL S 1056= .ptr 32 xi:=L 1056 (qAR hr (j:=8) (by decide))
   have g2:getL S 1055= .view 1055 0 (W.length+1):=L 1055 (qAR hr (j:=7) (by decide))
   have e:qFq n xi W.length cell cell' (9::dn)=qFq n xi W.length cell cell' dn:=rfl
   have em: ∀q1 q2 q3 q4 q5 q6,qFr q1 q2 q3 q4 q5 q6 (9::dn)=(q3,q6,[]):=fun q1 q2 q3 q4 q5 q6=>by
    show(if true=true then _ else if dn.contains 7=true then _ else _,if dn.contains 7=true then _ else if dn.contains 6=true then _ else _,_)=_
    rw[h7];rfl
   have em0: ∀q1 q2 q3 q4 q5 q6,qFr q1 q2 q3 q4 q5 q6 dn=(q2,q6,[]):=fun q1 q2 q3 q4 q5 q6=>by
    unfold qFr
    rw[h9,h7];rfl
   rw[em,e,<- hS]at hK
   rw[em0]
   have hK:K ⟨S,_,_,_⟩:=hK
   simp only[g1,g2,hc7,hC7,qFi C7 xi _ oM,push_cast,reduceIte,zA,zB,zC,zD,zE,zF,zG,reduceCtorEq,zH,zJ,cNI]at hK ⊢
   exact⟨oM,hK⟩
 ·intro dn h
  rw[xs32_13_all]at h
  obtain⟨h0,h1,h2,h3,h4,h5,h6,h7,h8,h9⟩:=h
  have em: ∀q1 q2 q3 q4 q5 q6,qFr q1 q2 q3 q4 q5 q6 dn=(q3,q6,[]):=fun q1 q2 q3 q4 q5 q6=>by
   unfold qFr
   rw[if_pos h9,if_pos h7]
  have ev:qFq n xi W.length cell cell' dn=qFq n xi W.length cell cell' [7]:=by
   funext i
   rcases i with _|_|_|_|_|_|_|_|_|_|i<;>try rfl
   show(if dn.contains 7=true then cell' else cell)=cell'
   rw[if_pos h7]
  rw[em,ev]
  exact hK
end Go.Proofs.YtecoaapkcnhlhaaGreatDoor
